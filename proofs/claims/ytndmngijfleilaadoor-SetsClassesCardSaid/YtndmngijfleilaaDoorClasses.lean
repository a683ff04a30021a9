/- sets.classes: the walk. -/
import Derived.StringKeys
import Derived.Test.YtndmngijfleilaaDoorAmong
namespace Go.Proofs.YtndmngijfleilaaDoor.L
open Go.RowKit Go.Maps Go.Proofs.YtndmngijfleilaaDoorW.PrintWords

/-- A closure of among: 0 is nil, n + 1 captures block n. -/
def clOf : Nat → Value
  | 0 => Value.nilFunc
  | n + 1 => .func (.func 46) #[] #[.pointer (some ⟨n, 0, none⟩)]
def readCl : Value → Option (DataW Unit × List MemPlace)
  | .func (.func 46) ⟨[]⟩ ⟨[.pointer (some ⟨n, 0, none⟩)]⟩ => some (.lit (.int .i64 ((n + 1 : Nat) : Int)), [])
  | .nilFunc => some (.lit (.int .i64 0), [])
  | _ => none
def datCl (n : Nat) : DataW Unit := .lit (.int .i64 n)
theorem readCl_of (x : Nat) : readCl (clOf x) = some (datCl x, []) := by cases x <;> rfl
theorem readCl_inv (v : Value) (x : Nat) (ps : List MemPlace) (h : readCl v = some (datCl x, ps)) : v = clOf x := by
  unfold readCl datCl at h
  split at h
  · simp only [Option.some.injEq, Prod.mk.injEq, DataW.lit.injEq, Lit.int.injEq, true_and, Int.natCast_inj] at h
    rename_i n
    obtain rfl : x = n + 1 := by omega
    rfl
  · simp only [Option.some.injEq, Prod.mk.injEq, DataW.lit.injEq, Lit.int.injEq, true_and] at h
    have : x = 0 := by omega
    subst this
    rfl
  · cases h
abbrev Key := List UInt8
def updS {α : Type} (f : Key → Option α) (c : Key) (b : α) : Key → Option α := fun x => if x = c then some b else f x
/-- Block B is a map from strings, of at most n entries, that reads as f. -/
def SMap (W : World) (B n : Nat) (f : Key → Option Nat) : Prop :=
  ∃ D : DataW Unit, W.ownsMap Tryd.prog 9 readCl B n D ∧ ∀ c : Key, Maps.has D (.string c) = (f c).isSome ∧ D.atKey (.string c) (datCl 0) = datCl ((f c).getD 0)
section
variable {W : World} {B n : Nat} {f : Key → Option Nat}
theorem SMap.made (w : World) : SMap (w.alloc (.map #[] 0)) w.heap.size 0 (fun _ => none) :=
  ⟨.map [], World.ownsMap_made _ _ _ _, fun _ => ⟨rfl, rfl⟩⟩
theorem SMap.kept {W' : World} {row : Option Nat} (h : SMap W B n f) (hg : W.grownBy W' row) (hne : some B ≠ row) : SMap W' B n f := by
  obtain ⟨D, hD, hf⟩ := h
  exact ⟨D, hD.kept hg hne, hf⟩
theorem SMap.below {W' : World} (h : SMap W B n f) (hb : Below W.heap.size W W') : SMap W' B n f :=
  h.kept (row := none) ⟨hb.os, hb.tape, hb.output, hb.size, fun i hi _ => hb.block i hi⟩ (by simp)
theorem SMap.look (h : SMap W B n f) (hz : (zeroValue 38).run Tryd.prog W = .ok (clOf 0) W) (s : ByteArray) (hs : s.size ≤ maxLen) :
    (Instr.lookup 62 (.map (some B)) (.string s) true).run Tryd.prog W = .ok (.tuple #[clOf ((f s.data.toList).getD 0), .bool (f s.data.toList).isSome]) W := by
  obtain ⟨D, hD, hf⟩ := h
  have hkey : keyOf Tryd.prog 9 (.string s) = some (.string s.data.toList) := Go.WideMaps.keyOf_string_mk Tryd.underlying9 hs
  obtain ⟨v, ps, hrun, hv⟩ := hD.look_ok (Maps.string_keyed Tryd.underlying9) Tryd.underlying62 hz (readCl_of 0) hkey
  obtain ⟨h2, h3⟩ := hf s.data.toList
  rw [h3] at hv
  rw [hrun, readCl_inv _ _ _ hv, h2]
theorem SMap.put (h : SMap W B n f) (hn : n < maxLen) (s : ByteArray) (hs : s.size ≤ maxLen) (x : Nat) :
    ∃ W', (Instr.mapUpdate 62 (.map (some B)) (.string s) (clOf x)).run Tryd.prog W = .ok () W' ∧ SMap W' B (n + 1) (updS f s.data.toList x) ∧ W.mapTurned W' B := by
  obtain ⟨D, hD, hf⟩ := h
  have hkey : keyOf Tryd.prog 9 (.string s) = some (.string s.data.toList) := Go.WideMaps.keyOf_string_mk Tryd.underlying9 hs
  obtain ⟨W', hrun, hD', ht'⟩ := hD.store (Maps.string_keyed Tryd.underlying9) Tryd.underlying62 hn hkey (readCl_of x)
  refine ⟨W', hrun, ⟨_, hD', fun y => ?_⟩, ht'⟩
  by_cases h : y = s.data.toList
  · subst h
    have e : updS f s.data.toList x s.data.toList = some x := by simp [updS]
    rw [e]
    exact ⟨Maps.has_put_same hD.isMap (by simp [WideAt.IsKeyLit]) _, Maps.atKey_put_same hD.isMap (by simp [WideAt.IsKeyLit]) _ _⟩
  · have e : updS f s.data.toList x y = f y := by simp [updS, h]
    rw [e]
    have hne : (Lit.string y) ≠ .string s.data.toList := fun e => h (by injection e)
    rw [Maps.has_put_other hne, Maps.atKey_put_other hne]
    exact hf y
end

/-- A map of classes: each name's closure captures the text of its ranges. -/
def ClSt (w : World) (B : Nat) (X : World) (n : Nat) (tab : Key → Option Key) : Prop :=
  ∃ f, SMap X B n f ∧ (∀ c, (f c).isSome = (tab c).isSome) ∧ (∀ c k r, f c = some k → tab c = some r → ∃ b, k = b + 1 ∧ X.heap[b]? = some (.cells #[.string ⟨r.toArray⟩] 9 (0, 0)) ∧ b ≠ B) ∧ Below w.heap.size w X ∧ w.heap.size ≤ B ∧ B < X.heap.size
theorem ClSt.start (w : World) : ClSt w w.heap.size (w.alloc (.map #[] 0)) 0 (fun _ => none) :=
  ⟨fun _ => none, SMap.made w, fun _ => rfl, fun _ _ _ h _ => absurd h (by simp), (Below.refl _ w).alloc (Nat.le_refl _) _, Nat.le_refl _, by rw [World.size_alloc]; omega⟩
theorem ClSt.step {w X : World} {B n : Nat} {tab : Key → Option Key} (h : ClSt w B X n tab) (hn : n < maxLen) (s r : ByteArray) (hs : s.size ≤ maxLen) :
    ∃ X', (Instr.mapUpdate 62 (.map (some B)) (.string s) (.func (.func 46) #[] #[.pointer (some ⟨X.heap.size, 0, none⟩)])).run Tryd.prog (X.alloc (.cells #[.string r] 9)) = .ok () X' ∧ ClSt w B X' (n + 1) (updS tab s.data.toList r.data.toList) := by
  obtain ⟨f, hm, hi, hk, hb, hB, hlt⟩ := h
  have hm2 := hm.below (below_alloc (Below.refl _ X) (.cells #[.string r] 9))
  obtain ⟨X', hrun, hm', ht⟩ := hm2.put hn s hs (X.heap.size + 1)
  have hg := ht.grown
  refine ⟨X', hrun, updS f s.data.toList (X.heap.size + 1), hm', fun c => ?_, fun c k q h1 h2 => ?_, Below.grown (below_alloc hb _) hg (below_alloc hb _).size (fun j hj => by cases hj; exact hB), hB, ?_⟩
  · unfold updS
    split
    · rfl
    · exact hi c
  · unfold updS at h1 h2
    by_cases e : c = s.data.toList
    · rw [if_pos e] at h1 h2
      cases h1
      cases h2
      refine ⟨X.heap.size, rfl, ?_, by omega⟩
      exact blk_grown (heap_alloc_new X _) hg (fun e => by have := Option.some.inj e; omega)
    · rw [if_neg e] at h1 h2
      obtain ⟨b, rfl, hx, hne⟩ := hk c k q h1 h2
      exact ⟨b, rfl, blk_grown (blk_alloc hx _) hg (fun e => hne (Option.some.inj e)), hne⟩
  · have := hg.size
    simp only [World.size_alloc] at this
    omega

theorem among_walk (s : ByteArray) (w : World) : Calls Tryd.prog 34 #[.string s] w fun e w' => e = .returned (.func (.func 46) #[] #[.pointer (some ⟨w.heap.size, 0, none⟩)]) ∧ w' = w.alloc (.cells #[.string s] 9) := by
  go_enter Tryd.func34, Tryd.ntmps34
  go_wp2
  go_ret
  exact ⟨rfl, rfl⟩

/-- The classes' ranges. -/
def classTab : Key → Option Key := (updS (updS (updS (updS (updS (updS (updS (updS (updS (updS (updS (updS (fun _ => none) [97, 108, 112, 104, 97] [65, 90, 97, 122]) [97, 108, 110, 117, 109] [65, 90, 97, 122, 48, 57]) [98, 108, 97, 110, 107] [9, 9, 32, 32]) [99, 110, 116, 114, 108] [0, 31, 127, 127]) [100, 105, 103, 105, 116] [48, 57]) [103, 114, 97, 112, 104] [33, 126]) [108, 111, 119, 101, 114] [97, 122]) [112, 114, 105, 110, 116] [32, 126]) [112, 117, 110, 99, 116] [33, 47, 58, 64, 91, 96, 123, 126]) [115, 112, 97, 99, 101] [9, 13, 32, 32]) [117, 112, 112, 101, 114] [65, 90]) [120, 100, 105, 103, 105, 116] [48, 57, 65, 70, 97, 102])

set_option maxHeartbeats 8000000 in
set_option maxRecDepth 100000 in
theorem classes_walk (w : World) : Calls Tryd.prog 27 #[] w fun e w' => e = .returned (.map (some w.heap.size)) ∧ ClSt w w.heap.size w' 12 classTab := by
  have hmm := @run_makeMap Tryd.prog
  obtain ⟨w1, r1, o1⟩ := ClSt.step (ClSt.start w) (by decide) ⟨#[97, 108, 112, 104, 97]⟩ ⟨#[65, 90, 97, 122]⟩ (by decide)
  obtain ⟨w2, r2, o2⟩ := ClSt.step o1 (by decide) ⟨#[97, 108, 110, 117, 109]⟩ ⟨#[65, 90, 97, 122, 48, 57]⟩ (by decide)
  obtain ⟨w3, r3, o3⟩ := ClSt.step o2 (by decide) ⟨#[98, 108, 97, 110, 107]⟩ ⟨#[9, 9, 32, 32]⟩ (by decide)
  obtain ⟨w4, r4, o4⟩ := ClSt.step o3 (by decide) ⟨#[99, 110, 116, 114, 108]⟩ ⟨#[0, 31, 127, 127]⟩ (by decide)
  obtain ⟨w5, r5, o5⟩ := ClSt.step o4 (by decide) ⟨#[100, 105, 103, 105, 116]⟩ ⟨#[48, 57]⟩ (by decide)
  obtain ⟨w6, r6, o6⟩ := ClSt.step o5 (by decide) ⟨#[103, 114, 97, 112, 104]⟩ ⟨#[33, 126]⟩ (by decide)
  obtain ⟨w7, r7, o7⟩ := ClSt.step o6 (by decide) ⟨#[108, 111, 119, 101, 114]⟩ ⟨#[97, 122]⟩ (by decide)
  obtain ⟨w8, r8, o8⟩ := ClSt.step o7 (by decide) ⟨#[112, 114, 105, 110, 116]⟩ ⟨#[32, 126]⟩ (by decide)
  obtain ⟨w9, r9, o9⟩ := ClSt.step o8 (by decide) ⟨#[112, 117, 110, 99, 116]⟩ ⟨#[33, 47, 58, 64, 91, 96, 123, 126]⟩ (by decide)
  obtain ⟨w10, r10, o10⟩ := ClSt.step o9 (by decide) ⟨#[115, 112, 97, 99, 101]⟩ ⟨#[9, 13, 32, 32]⟩ (by decide)
  obtain ⟨w11, r11, o11⟩ := ClSt.step o10 (by decide) ⟨#[117, 112, 112, 101, 114]⟩ ⟨#[65, 90]⟩ (by decide)
  obtain ⟨w12, r12, o12⟩ := ClSt.step o11 (by decide) ⟨#[120, 100, 105, 103, 105, 116]⟩ ⟨#[48, 57, 65, 70, 97, 102]⟩ (by decide)
  rw [World.size_alloc] at r1
  have O := Lib.hid (show ClSt w w.heap.size w12 12 classTab from o12)
  clear o1 o2 o3 o4 o5 o6 o7 o8 o9 o10 o11 o12
  go_enter Tryd.func27, Tryd.ntmps27
  go_wp2_with (go_at_call 34; refine (among_walk _ _).mono ?_; rintro e w' ⟨rfl, rfl⟩)
  go_ret
  exact ⟨rfl, O.out⟩
end Go.Proofs.YtndmngijfleilaaDoor.L
