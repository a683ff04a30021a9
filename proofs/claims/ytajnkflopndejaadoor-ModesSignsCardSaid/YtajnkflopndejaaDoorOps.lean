/- Maps from bytes; modes.ops, thrice. -/
import Derived.Maps.OwnSet
import Derived.Laws.Bits128
import Derived.Lib.Hide
import Derived.Test.YtajnkflopndejaaDoorLx0
namespace Go.Proofs.YtajnkflopndejaaDoor.L
open Go.RowKit Go.Maps Go.Proofs.YtajnkflopndejaaDoorW.PrintWords

/-- How values of a kind lie in a map. -/
structure Vk (α : Type) where
  enc : α → Value
  dat : α → DataW Unit
  R : Value → Option (DataW Unit × List MemPlace)
  d : α
  hR : ∀ x, ∃ ps, R (enc x) = some (dat x, ps)
  inv : ∀ v x ps, R v = some (dat x, ps) → v = enc x

def updA {α : Type} (f : Int → Option α) (c : Int) (b : α) : Int → Option α := fun x => if x = c then some b else f x
/-- Block B is a map from bytes, of at most n entries, that reads as f. -/
def KMap {α : Type} (V : Vk α) (W : World) (B n : Nat) (f : Int → Option α) : Prop :=
  ∃ D : DataW Unit, W.ownsMap Tryd.prog 5 V.R B n D ∧ ∀ c : Int, Maps.has D (.int .u8 c) = (f c).isSome ∧ D.atKey (.int .u8 c) (V.dat V.d) = V.dat ((f c).getD V.d)
section
variable {α : Type} {V : Vk α} {W : World} {B n : Nat} {f : Int → Option α}
theorem KMap.made (w : World) : KMap V (w.alloc (.map #[] 0)) w.heap.size 0 (fun _ => none) :=
  ⟨.map [], World.ownsMap_made _ _ _ _, fun _ => ⟨rfl, rfl⟩⟩
theorem KMap.kept {W' : World} {row : Option Nat} (h : KMap V W B n f) (hg : W.grownBy W' row) (hne : some B ≠ row) : KMap V W' B n f := by
  obtain ⟨D, hD, hf⟩ := h
  exact ⟨D, hD.kept hg hne, hf⟩
theorem KMap.below {W' : World} (h : KMap V W B n f) (hb : Below W.heap.size W W') : KMap V W' B n f :=
  h.kept (row := none) ⟨hb.os, hb.tape, hb.output, hb.size, fun i hi _ => hb.block i hi⟩ (by simp)
theorem KMap.look {t e : TypeId} (ht : Tryd.prog.underlying t = some (.map 5 e)) (h : KMap V W B n f) (hz : (zeroValue e).run Tryd.prog W = .ok (V.enc V.d) W) (c : Int) (h0 : 0 ≤ c) (h1 : c ≤ 255) :
    (Instr.lookup t (.map (some B)) (.int .u8 c) true).run Tryd.prog W = .ok (.tuple #[V.enc ((f c).getD V.d), .bool (f c).isSome]) W := by
  obtain ⟨D, hD, hf⟩ := h
  have hkey : keyOf Tryd.prog 5 (.int .u8 c) = some (.int .u8 c) := keyOf_int_mk Tryd.underlying5 (WalkArith.wf_u8 ⟨h0, h1⟩)
  obtain ⟨ps0, hd⟩ := V.hR V.d
  obtain ⟨v, ps, hrun, hv⟩ := hD.look_ok (Maps.int_keyed Tryd.underlying5) ht hz hd hkey
  obtain ⟨h2, h3⟩ := hf c
  rw [h3] at hv
  rw [hrun, V.inv _ _ _ hv, h2]
theorem KMap.put {t e : TypeId} (ht : Tryd.prog.underlying t = some (.map 5 e)) (h : KMap V W B n f) (hn : n < maxLen) (c : Int) (h0 : 0 ≤ c) (h1 : c ≤ 255) (x : α) :
    ∃ W', (Instr.mapUpdate t (.map (some B)) (.int .u8 c) (V.enc x)).run Tryd.prog W = .ok () W' ∧ KMap V W' B (n + 1) (updA f c x) ∧ W.mapTurned W' B := by
  obtain ⟨D, hD, hf⟩ := h
  have hkey : keyOf Tryd.prog 5 (.int .u8 c) = some (.int .u8 c) := keyOf_int_mk Tryd.underlying5 (WalkArith.wf_u8 ⟨h0, h1⟩)
  obtain ⟨ps0, hd⟩ := V.hR x
  obtain ⟨W', hrun, hD', ht'⟩ := hD.store (Maps.int_keyed Tryd.underlying5) ht hn hkey hd
  refine ⟨W', hrun, ⟨_, hD', fun y => ?_⟩, ht'⟩
  by_cases h : y = c
  · subst h
    have e : updA f y x y = some x := by simp [updA]
    rw [e]
    exact ⟨Maps.has_put_same hD.isMap (by simp [WideAt.IsKeyLit]) _, Maps.atKey_put_same hD.isMap (by simp [WideAt.IsKeyLit]) _ _⟩
  · have e : updA f c x y = f y := by simp [updA, h]
    rw [e]
    have hne : (Lit.int .u8 y) ≠ .int .u8 c := fun e => h (by injection e)
    rw [Maps.has_put_other hne, Maps.atKey_put_other hne]
    exact hf y
end

/-- Functions: 0 is nil. -/
def fnOf : Nat → Value
  | 0 => Value.nilFunc
  | n + 1 => .func (.func (n + 1)) #[] #[]
def readFn : Value → Option (DataW Unit × List MemPlace)
  | .func (.func (n + 1)) ⟨[]⟩ ⟨[]⟩ => some (.lit (.int .i64 ((n + 1 : Nat) : Int)), [])
  | .nilFunc => some (.lit (.int .i64 0), [])
  | _ => none
noncomputable def vFn : Vk Nat where
  enc := fnOf
  dat n := .lit (.int .i64 n)
  R := readFn
  d := 0
  hR x := ⟨[], by cases x <;> rfl⟩
  inv v x ps h := by
    unfold readFn at h
    split at h
    · simp only [Option.some.injEq, Prod.mk.injEq, DataW.lit.injEq, Lit.int.injEq, true_and, Int.natCast_inj] at h
      rename_i n
      obtain rfl : x = n + 1 := by omega
      rfl
    · simp only [Option.some.injEq, Prod.mk.injEq, DataW.lit.injEq, Lit.int.injEq, true_and] at h
      have : x = 0 := by omega
      subst this
      rfl
    · cases h
noncomputable def vInt : Vk Int where
  enc x := .int .i64 (wrap64 x)
  dat x := .lit (.int .i64 (wrap64 x))
  R := plainElem Tryd.prog 3
  d := 0
  hR x := ⟨[], plainElem_int Tryd.underlying3 (wrap64_wf x)⟩
  inv v x ps h := by
    obtain ⟨a, rfl, h2, _⟩ := plainElem_int_inv Tryd.underlying3 h
    simp only [Prod.mk.injEq, DataW.lit.injEq, Lit.int.injEq, true_and] at h2
    rw [h2.1]

/-- '+', '-', '='. -/
def opTab : Int → Option Nat := updA (updA (updA (fun _ => none) 43 37) 45 38) 61 39
theorem below_map {w W W' : World} {B : Nat} (h : Below w.heap.size w W) (ht : W.mapTurned W' B) (hB : w.heap.size ≤ B) : Below w.heap.size w W' :=
  Below.grown h ht.grown h.size (fun j hj => by cases hj; exact hB)
set_option maxHeartbeats 4000000 in
set_option maxRecDepth 100000 in
theorem ops_calls (w : World) : Calls Tryd.prog 23 #[] w fun e w' => e = .returned (.map (some w.heap.size)) ∧ KMap vFn w' w.heap.size 3 opTab ∧ Below w.heap.size w w' := by
  have hmm := @run_makeMap Tryd.prog
  obtain ⟨w1, r1, o1, t1⟩ := KMap.put Tryd.underlying56 (KMap.made (V := vFn) w) (by decide) 43 (by omega) (by omega) 37
  obtain ⟨w2, r2, o2, t2⟩ := KMap.put Tryd.underlying56 o1 (by decide) 45 (by omega) (by omega) 38
  obtain ⟨w3, r3, o3, t3⟩ := KMap.put Tryd.underlying56 o2 (by decide) 61 (by omega) (by omega) 39
  have hb := below_map (below_map (below_map ((Below.refl _ w).alloc (Nat.le_refl _) _) t1 (Nat.le_refl _)) t2 (Nat.le_refl _)) t3 (Nat.le_refl _)
  have O3 := Lib.hid o3
  have HB := Lib.hid hb
  simp only [vFn, fnOf] at r1 r2 r3
  clear o1 o2 o3 t1 t2 t3 hb
  go_enter Tryd.func23, Tryd.ntmps23
  go_wp2
  go_ret
  exact ⟨rfl, O3.out, HB.out⟩

set_option maxHeartbeats 4000000 in
theorem fn37 (a b : Int) (w : World) : Calls Tryd.prog 37 #[.int .i64 a, .int .i64 b] w fun e w' => e = .returned (.int .i64 (Go.bits .or .i64 a b)) ∧ w' = w := by
  go_enter Tryd.func37, Tryd.ntmps37
  go_wp2
  go_ret
  exact ⟨rfl, rfl⟩
set_option maxHeartbeats 4000000 in
theorem fn38 (a b : Int) (w : World) : Calls Tryd.prog 38 #[.int .i64 a, .int .i64 b] w fun e w' => e = .returned (.int .i64 (Go.bits .andNot .i64 a b)) ∧ w' = w := by
  go_enter Tryd.func38, Tryd.ntmps38
  go_wp2
  go_ret
  exact ⟨rfl, rfl⟩
set_option maxHeartbeats 4000000 in
theorem fn39 (a b : Int) (w : World) : Calls Tryd.prog 39 #[.int .i64 a, .int .i64 b] w fun e w' => e = .returned (.int .i64 b) ∧ w' = w := by
  go_enter Tryd.func39, Tryd.ntmps39
  go_wp2
  go_ret
  exact ⟨rfl, rfl⟩

def thr1 (who b : Int) : Int := if Go.bits .and .i64 who 1 = 1 then Go.bits .or .i64 0 b else 0
def thr2 (who b : Int) : Int := if Go.bits .and .i64 (who / 2) 1 = 1 then Go.bits .or .i64 (thr1 who b) (b * 8) else thr1 who b
def thr3 (who b : Int) : Int := if Go.bits .and .i64 (who / 4) 1 = 1 then Go.bits .or .i64 (thr2 who b) (b * 64) else thr2 who b
set_option maxHeartbeats 4000000 in
set_option maxRecDepth 100000 in
theorem thrice_calls (who b : Int) (_hw0 : 0 ≤ who) (_hw1 : who ≤ 7) (hb0 : 0 ≤ b) (hb1 : b ≤ 7) (w : World) :
    Calls Tryd.prog 22 #[.int .i64 who, .int .i64 b] w fun e w' => e = .returned (.int .i64 (thr3 who b)) ∧ w' = w := by
  go_enter Tryd.func22, Tryd.ntmps22
  go_wp2
  go_loop [4, 6] (fun v4 v6 => ∃ (i : Nat) (m : Int), v4 = .int .i64 m ∧ v6 = .int .i64 i ∧ i ≤ 3 ∧ (i = 0 → m = 0) ∧ (i = 1 → m = thr1 who b) ∧ (i = 2 → m = thr2 who b) ∧ (i = 3 → m = thr3 who b))
    (fun _ v6 => 3 - (intOf v6).toNat)
  case atStart => exact ⟨0, 0, rfl, rfl, by omega, fun _ => rfl, fun h => by omega, fun h => by omega, fun h => by omega⟩
  case round =>
    obtain ⟨i, m, rfl, rfl, hi, h0, h1, h2, h3⟩ := hrel
    have : i = 0 ∨ i = 1 ∨ i = 2 ∨ i = 3 := by omega
    rcases this with rfl | rfl | rfl | rfl
    · have hm := h0 rfl
      clear h0 h1 h2 h3
      subst hm
      cases hbit : Go.bits .and .i64 (who) 1 == 1
      · go_wp2
        exact ⟨⟨1, 0, rfl, rfl, by omega, fun h => by omega, fun _ => by rw [thr1, if_neg (by simpa using hbit)]; try (first | exact hm | rfl | rw [← hm]), fun h => by omega, fun h => by omega⟩, by simp [intOf]⟩
      · go_wp2
        exact ⟨⟨1, _, rfl, rfl, by omega, fun h => by omega, fun _ => by rw [thr1, if_pos (by simpa using hbit)]; try (first | exact hm | rfl | rw [← hm]), fun h => by omega, fun h => by omega⟩, by simp [intOf]⟩
    · have hm := h1 rfl
      clear h0 h1 h2 h3
      skip
      cases hbit : Go.bits .and .i64 (who / 2) 1 == 1
      · go_wp2
        exact ⟨⟨2, m, rfl, rfl, by omega, fun h => by omega, fun h => by omega, fun _ => by rw [thr2, if_neg (by simpa using hbit)]; try (first | exact hm | rfl | rw [← hm]), fun h => by omega⟩, by simp [intOf]⟩
      · go_wp2
        exact ⟨⟨2, _, rfl, rfl, by omega, fun h => by omega, fun h => by omega, fun _ => by rw [thr2, if_pos (by simpa using hbit)]; try (first | exact hm | rfl | rw [← hm]), fun h => by omega⟩, by simp [intOf]⟩
    · have hm := h2 rfl
      clear h0 h1 h2 h3
      skip
      cases hbit : Go.bits .and .i64 (who / 4) 1 == 1
      · go_wp2
        exact ⟨⟨3, m, rfl, rfl, by omega, fun h => by omega, fun h => by omega, fun h => by omega, fun _ => by rw [thr3, if_neg (by simpa using hbit)]; try (first | exact hm | rfl | rw [← hm])⟩, by simp [intOf]⟩
      · go_wp2
        exact ⟨⟨3, _, rfl, rfl, by omega, fun h => by omega, fun h => by omega, fun h => by omega, fun _ => by rw [thr3, if_pos (by simpa using hbit)]; try (first | exact hm | rfl | rw [← hm])⟩, by simp [intOf]⟩
    · have hm := h3 rfl
      clear h0 h1 h2 h3
      subst hm
      go_wp2
      go_ret
      exact ⟨rfl, rfl⟩
end Go.Proofs.YtajnkflopndejaaDoor.L
