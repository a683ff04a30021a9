/- opts.Last: a range over slices.Backward. -/
import Derived.RangeFuncNested
import Derived.RangeFuncBound
import Derived.RangeFuncCalls
import Derived.RangeFuncLeaves
import Derived.Shelf.Abstract
import Derived.Shelf.RegionOpen
import Derived.WalkKit
import Derived.OwnWalkIn
import Derived.TacticsInMore
import Derived.LoopNIn
import Derived.LoopIn
import Derived.Test.YtemimbjnfadklaaDoorExt
namespace Go.Proofs.YtemimbjnfadklaaDoor.L
open Go.RowKit Go.Shelf Go.Proofs.YtemimbjnfadklaaDoorW.PrintWords

attribute [local go_sem] Oper.semAt_some

/-- What has come when k rounds are over. -/
def upto {α : Type} (f : Nat → α) (k : Nat) : List α := (List.range k).map f
theorem upto_succ {α : Type} (f : Nat → α) (k : Nat) : upto f (k + 1) = upto f k ++ [f k] := by simp [upto, List.range_succ]
theorem upto_length {α : Type} (f : Nat → α) (k : Nat) : (upto f k).length = k := by simp [upto]
/-- Round k's pair: from behind. -/
def bk (l0 : List S45) (k : Nat) : Int × S45 := ((l0.length : Int) - 1 - k, rd_T45 l0 ((l0.length : Int) - 1 - k))

theorem add_block (ad : Addr) (k : Nat) : (ad.add k).block = ad.block := by unfold Addr.add; split <;> rfl

set_option maxRecDepth 100000 in
set_option maxHeartbeats 2000000 in
theorem back1_in (F : Fence) (n : Nat) (h7 : F.fn 35) (hro : F.round = none) (hn : 1 ≤ n) (l Bs n₀ cap : Nat) (ad : Addr) (l0 : List S45) (hreach : l0.length < 5864062014805) (hb : ad.block < n₀) (hBn : Bs < n₀) (J Jx : List (Int × S45) → World → Prop)
    (hY : ∀ pre x W, J pre W → pre.length < l0.length → YieldAt F (n - 1) Tryd.prog l #[.int .i64 x.1, .agg #[.int .u8 x.2.f0, .string x.2.f1]] W fun e W' =>
      (e = .returned (.bool true) ∧ J (pre ++ [x]) W' ∧ Below n₀ W W') ∨ (e = .returned (.bool false) ∧ Jx (pre ++ [x]) W'))
    (W : World) (hBs : W.cell? ⟨Bs, 0, none⟩ = some (.slice (some ad) l0.length cap))
    (hc : ∀ i : Int, 0 ≤ i → i < l0.length → W.cell? (ad.add (i.toNat * 2)) = some (.int .u8 (rd_T45 l0 i).f0) ∧ W.cell? ⟨(ad.add (i.toNat * 2)).block, (ad.add (i.toNat * 2)).off + 1, none⟩ = some (.string (rd_T45 l0 i).f1)) (h0 : J [] W) :
    CallsIn F n Tryd.prog 35 #[.func (.yield l) #[] #[], .pointer (some ⟨Bs, 0, none⟩)] W fun e W' => (∃ v, e = .returned v) ∧
      ((∃ ys, ys = upto (bk l0) l0.length ∧ J ys W') ∨ (∃ pre, (∃ k, k ≤ l0.length ∧ pre = upto (bk l0) k) ∧ Jx pre W')) := by
  have hu45 := Tryd.underlying45
  refine callsIn_of_wp Tryd.func35 rfl h7 ?_ hro
  simp only [Tryd.ntmps35, List.size_toArray, List.length_cons, List.length_nil, Nat.reduceAdd, Nat.reduceSub, Array.replicate_succ, Array.replicate_zero, List.push_toArray, List.append_toArray, List.nil_append, List.cons_append]
  have e0 : upto (bk l0) ((l0.length : Int) - 1 - ((l0.length : Int) - 1)).toNat = [] := by
    have e : ((l0.length : Int) - 1 - ((l0.length : Int) - 1)).toNat = 0 := by omega
    rw [e]; rfl
  gi_wp2
  gi_loopw [3] (fun v wr => ∃ i : Int, -1 ≤ i ∧ i < l0.length ∧ v = .int .i64 i ∧ J (upto (bk l0) ((l0.length : Int) - 1 - i).toNat) wr ∧ Below n₀ W wr)
    (fun v _ => (intOf v + 1).toNat)
  case atStart => exact ⟨(l0.length : Int) - 1, by omega, by omega, (by first | rfl | simp), (e0.symm ▸ h0), Below.refl _ _⟩
  case round =>
    obtain ⟨i, hi0, hi1, rfl, hJs, hnx⟩ := hrel
    by_cases hlt : 0 ≤ i
    · obtain ⟨hx0, hx1⟩ := hc i hlt hi1
      replace hx0 := (hnx.cell (p := ad.add (i.toNat * 2)) (by first | exact (add_block ad _).symm ▸ hb | (show (ad.add (i.toNat * 2)).block < n₀; rw [add_block]; exact hb))).trans hx0
      replace hx1 := (hnx.cell (p := ⟨(ad.add (i.toNat * 2)).block, (ad.add (i.toNat * 2)).off + 1, none⟩) (by first | exact (add_block ad _).symm ▸ hb | (show (ad.add (i.toNat * 2)).block < n₀; rw [add_block]; exact hb))).trans hx1
      have hBs' := (hnx.cell (p := ⟨Bs, 0, none⟩) hBn).trans hBs
      obtain ⟨fn, tmps, assign, body, hy, hR⟩ := hY _ (i, rd_T45 l0 i) wr hJs (by rw [upto_length]; omega)
      dsimp only at hy
      have hdec : decide (0 ≤ i) = true := decide_eq_true hlt
      gi_wp2
      refine hR.mono ?_
      rintro e W3 (⟨rfl, hJ3, hk3⟩ | ⟨rfl, hJx3⟩)
      · gi_wp2
        go_roundw
        case rel => 
          refine ⟨i - 1, by omega, by omega, ?_, ?_, hnx.trans hk3⟩
          · first | done | (have e1 : wrap64 (i - 1) = i - 1 := by unfold wrap64; omega); (first | rw [e1] | simp [e1])
          · have : ((l0.length : Int) - 1 - (i - 1)).toNat = ((l0.length : Int) - 1 - i).toNat + 1 := by omega
            rw [this, upto_succ]
            have h2 : bk l0 ((l0.length : Int) - 1 - i).toNat = (i, rd_T45 l0 i) := by
              have h3 : (l0.length : Int) - 1 - (((l0.length : Int) - 1 - i).toNat : Int) = i := by omega
              simp only [bk, h3]
            rw [h2]
            exact hJ3
        case measure => simp [intOf]; omega
      · gi_wp2
        refine bodyPost_ret (results_none rfl _ _ _) rfl ?_
        refine ⟨⟨_, rfl⟩, .inr ⟨_, ⟨((l0.length : Int) - 1 - i).toNat + 1, by omega, ?_⟩, hJx3⟩⟩
        rw [upto_succ]
        have h2 : bk l0 ((l0.length : Int) - 1 - i).toNat = (i, rd_T45 l0 i) := by
          have h3 : (l0.length : Int) - 1 - (((l0.length : Int) - 1 - i).toNat : Int) = i := by omega
          simp only [bk, h3]
        rw [h2]
    · obtain rfl : i = -1 := by omega
      gi_wp2
      go_end0
      refine ⟨⟨_, rfl⟩, .inl ?_⟩
      have : ((l0.length : Int) - 1 - (-1)).toNat = l0.length := by omega
      rw [this] at hJs
      exact hJs

set_option maxRecDepth 100000 in
set_option maxHeartbeats 1000000 in
/-- .. at a slice of length 0: no round. -/
theorem back0_in (F : Fence) (n : Nat) (h7 : F.fn 35) (hro : F.round = none) (l Bs cap : Nat) (A : Option Addr) (J : List (Int × S45) → World → Prop) (W : World) (hBs : W.cell? ⟨Bs, 0, none⟩ = some (.slice A 0 cap)) (h0 : J [] W) :
    CallsIn F n Tryd.prog 35 #[.func (.yield l) #[] #[], .pointer (some ⟨Bs, 0, none⟩)] W fun e W' => (∃ v, e = .returned v) ∧ J [] W' := by
  refine callsIn_of_wp Tryd.func35 rfl h7 ?_ hro
  simp only [Tryd.ntmps35, List.size_toArray, List.length_cons, List.length_nil, Nat.reduceAdd, Nat.reduceSub, Array.replicate_succ, Array.replicate_zero, List.push_toArray, List.append_toArray, List.nil_append, List.cons_append]
  gi_wp2
  gi_loopw [3] (fun i wr => i = .int .i64 (-1) ∧ J [] wr) (fun _ _ => 0)
  case atStart => exact ⟨rfl, h0⟩
  case round =>
    obtain ⟨rfl, hJs⟩ := hrel
    gi_wp2
    go_end0
    exact ⟨⟨_, rfl⟩, hJs⟩

set_option maxHeartbeats 1000000 in
/-- slices.Backward(s): the slice value is boxed; the function value captures the box. -/
theorem backward_in (F : Fence) (n : Nat) (h5 : F.fn 24) (hro : F.round = none) (a : Option Addr) (len cap : Nat) (w : World) :
    CallsIn F n Tryd.prog 24 #[.slice a len cap] w fun e w' => e = .returned (.func (.func 35) #[] #[.pointer (some ⟨w.heap.size, 0, none⟩)]) ∧ w' = w.alloc (.cells #[.slice a len cap] 26) := by
  refine callsIn_of_wp Tryd.func24 rfl h5 ?_ hro
  simp only [Tryd.ntmps24, List.size_toArray, List.length_cons, List.length_nil, Nat.reduceAdd, Nat.reduceSub, Array.replicate_succ, Array.replicate_zero, List.push_toArray, List.append_toArray, List.nil_append, List.cons_append]
  gi_wp2
  go_ret
  exact ⟨rfl, rfl⟩


theorem back_stops (F : Fence) (n : Nat) (h7 : F.fn 35) (hro : F.round = none) (hn : 1 ≤ n) (Bs n₀ cap : Nat) (A : Option Addr) (l0 : List S45) (hreach : l0.length < 5864062014805) (w : World) (hBs : Bs < n₀) (hn₀ : n₀ ≤ w.heap.size)
    (hc : w.cell? ⟨Bs, 0, none⟩ = some (.slice A l0.length cap)) (hI : Kd.C k45 w A l0.length l0) (hA : ∀ ad, A = some ad → l0 ≠ [] → ad.block < n₀) :
    SeqStopsK F n Tryd.prog 35 #[.pointer (some ⟨Bs, 0, none⟩)] (fun x : Int × S45 => #[Value.int .i64 x.1, .agg #[.int .u8 x.2.f0, .string x.2.f1]]) (Below n₀) (fun ys => ys = upto (bk l0) l0.length) (fun pre => ∃ k, k ≤ l0.length ∧ pre = upto (bk l0) k) l0.length w := fun l J Jx W hW _ _ hY h0 => by
  have hc' := (hW.cell (p := ⟨Bs, 0, none⟩) (by show Bs < w.heap.size; omega)).trans hc
  have hI' := Kd.C_below hI hW
  by_cases hl : l0 = []
  · subst hl
    exact (back0_in F n h7 hro l Bs cap A J W hc' h0).mono fun e W' ⟨he, hj⟩ => ⟨he, .inl ⟨_, rfl, hj⟩⟩
  · have hpos : (0 : Int) < l0.length := by have := List.length_pos_iff.2 hl; omega
    obtain ⟨ad, rfl, _⟩ := at_T45 hI' 0 (by omega) hpos
    refine back1_in F n h7 hro hn l Bs n₀ cap ad l0 hreach (hA ad rfl hl) hBs J Jx hY W hc' (fun i h0' h1' => ?_) h0
    obtain ⟨ad2, e2, h3, h4⟩ := at_T45 hI' i h0' h1'
    cases e2
    exact ⟨h3, h4⟩

theorem struct_own {β : Type} (B : Nat) (t : TypeId) (f : β → Array Value) : Own (fun s W => W.heap[B]? = some (.cells (f s) t (0, 0))) := fun s X Y row hs hg hrow =>
  (hg.block B (Array.getElem?_eq_some_iff.1 hs).1 (fun e' => by obtain ⟨o, ho, hc⟩ := hrow B e'.symm; rw [hs] at ho; cases ho; cases hc)).trans hs

/-- What Last says. -/
def lastOf : List (Int × S45) → Int → ByteArray × Bool
  | [], _ => (⟨#[]⟩, false)
  | x :: xs, a => if x.2.f0 = a then (x.2.f1, true) else lastOf xs a
theorem lastOf_none (a : Int) : ∀ xs : List (Int × S45), (∀ p ∈ xs, p.2.f0 ≠ a) → lastOf xs a = (⟨#[]⟩, false)
  | [], _ => rfl
  | x :: xs, h => by
    simp only [lastOf, if_neg (h x (by simp))]
    exact lastOf_none a xs (fun p hp => h p (by simp [hp]))
theorem lastOf_hit (a : Int) (y : Int × S45) (hy : y.2.f0 = a) (zs : List (Int × S45)) : ∀ xs : List (Int × S45), (∀ p ∈ xs, p.2.f0 ≠ a) → lastOf (xs ++ y :: zs) a = (y.2.f1, true)
  | [], _ => by simp [lastOf, hy]
  | x :: xs, h => by
    simp only [List.cons_append, lastOf, if_neg (h x (by simp))]
    exact lastOf_hit a y hy zs xs (fun p hp => h p (by simp [hp]))
def opts_Last.f (l0 : List S45) (a1 : Int) : Option (ByteArray × Bool) := if l0.length < 5864062014805 then some (lastOf (upto (bk l0) l0.length) a1) else none

set_option maxRecDepth 100000 in
set_option maxHeartbeats 4000000 in
theorem Last_in (F : Fence) (n : Nat) (h16 : F.fn 16) (h24 : F.fn 24) (h35 : F.fn 35) (hro : F.round = none) (hn : 3 ≤ n) (A : Option Addr) (c : Nat) (l0 : List S45) (a1 : Int) (hreach : l0.length < 5864062014805) (w : World) (hI : Kd.C k45 w A l0.length l0) :
    CallsIn F n Tryd.prog 16 #[.slice A l0.length c, .int .u8 a1] w fun e W' => e = .returned (.tuple #[.string (lastOf (upto (bk l0) l0.length) a1).1, .bool (lastOf (upto (bk l0) l0.length) a1).2]) ∧ Below w.heap.size w W' := by
  have h1 : 1 ≤ n := by omega
  have hu45 := Tryd.underlying45
  refine callsIn_of_wp_marks Tryd.func16 rfl h16 ?_ hro
  simp only [Tryd.ntmps16, List.size_toArray, List.length_cons, List.length_nil, Nat.reduceAdd, Nat.reduceSub, Array.replicate_succ, Array.replicate_zero, List.push_toArray, List.append_toArray, List.nil_append, List.cons_append]
  gi_wp2_with (gi_at_call 24; refine (backward_in F (n - 1) h24 hro _ _ _ _).mono ?_; rintro e w' ⟨rfl, rfl⟩)
  have bA := (((Boxed.new w 5 (.int .u8 a1)).alloc (.cells #[.string ⟨#[]⟩] 9)).alloc (.cells #[.bool false] 4)).alloc (.cells #[.slice A l0.length c] 26)
  have bS := ((Boxed.new (w.alloc (.cells #[.int .u8 a1] 5)) 9 (.string ⟨#[]⟩)).alloc (.cells #[.bool false] 4)).alloc (.cells #[.slice A l0.length c] 26)
  have bT := (Boxed.new ((w.alloc (.cells #[.int .u8 a1] 5)).alloc (.cells #[.string ⟨#[]⟩] 9)) 4 (.bool false)).alloc (.cells #[.slice A l0.length c] 26)
  have bN := Boxed.new (((w.alloc (.cells #[.int .u8 a1] 5)).alloc (.cells #[.string ⟨#[]⟩] 9)).alloc (.cells #[.bool false] 4)) 26 (.slice A l0.length c)
  simp only [World.size_alloc] at bS bT bN
  have hB0 : Below w.heap.size w ((((w.alloc (.cells #[.int .u8 a1] 5)).alloc (.cells #[.string ⟨#[]⟩] 9)).alloc (.cells #[.bool false] 4)).alloc (.cells #[.slice A l0.length c] 26)) := ((((Below.refl _ w).alloc (Nat.le_refl _) _).alloc (by simp) _).alloc (by simp; omega) _).alloc (by simp; omega) _
  have hsz : ((((w.alloc (.cells #[.int .u8 a1] 5)).alloc (.cells #[.string ⟨#[]⟩] 9)).alloc (.cells #[.bool false] 4)).alloc (.cells #[.slice A l0.length c] 26)).heap.size = w.heap.size + 4 := by simp
  obtain ⟨W0, hW0⟩ : ∃ W0, (((w.alloc (.cells #[.int .u8 a1] 5)).alloc (.cells #[.string ⟨#[]⟩] 9)).alloc (.cells #[.bool false] 4)).alloc (.cells #[.slice A l0.length c] 26) = W0 := ⟨_, rfl⟩
  rw [hW0] at bA bS bT bN hB0 hsz ⊢
  clear hW0
  have hAd : ∀ ad, A = some ad → l0 ≠ [] → ad.block < w.heap.size + 4 := fun ad e hl => by
    have hpos : (0 : Int) < l0.length := by have := List.length_pos_iff.2 hl; omega
    obtain ⟨ad2, e2, h3, _⟩ := at_T45 hI 0 (by omega) hpos
    rw [e] at e2
    cases e2
    have := World.block_lt_of_cell? w _ h3
    rw [add_block] at this
    omega
  refine wpIn_rangeFunc_ownH hro h1 (gf := 35) (lb := #[.pointer (some ⟨w.heap.size + 1 + 1 + 1, 0, none⟩)]) rfl h35 (enters_of Tryd.func35 (by kernel_rfl) rfl)
    (back_stops F (n - 1) h35 hro (by omega) (w.heap.size + 1 + 1 + 1) (w.heap.size + 4) c A l0 hreach W0 (by omega) (by omega) bN.cell (Kd.C_below hI hB0) hAd) belowK_t (belowK_b (by omega)) (Below.refl _ _) (fun _ => rfl)
    (fun pre W => (((∀ p ∈ pre, p.2.f0 ≠ a1) ∧ Boxed W w.heap.size 5 (.int .u8 a1)) ∧ (Boxed W (w.heap.size + 1) 9 (.string ⟨#[]⟩) ∧ (Boxed W (w.heap.size + 1 + 1) 4 (.bool false) ∧ Boxed W (w.heap.size + 1 + 1 + 1) 26 (.slice A l0.length c)))) ∧ Below w.heap.size w W)
    (fun cd pre W => (cd = .ret ∧ ∃ ini last, pre = ini ++ [last] ∧ (∀ p ∈ ini, p.2.f0 ≠ a1) ∧ last.2.f0 = a1 ∧ Boxed W (w.heap.size + 1) 9 (.string last.2.f1) ∧ Boxed W (w.heap.size + 1 + 1) 4 (.bool true)) ∧ Below w.heap.size w W)
    (OwnFrom.and (OwnFrom.and (OwnFrom.and (ownFrom_pure _ _) (Own.from (boxed_own _ _ _) _)) (OwnFrom.and (Own.from (boxed_own _ _ _) _) (OwnFrom.and (Own.from (boxed_own _ _ _) _) (Own.from (boxed_own _ _ _) _)))) (ownFrom_below (Nat.le_refl _) (by omega)))
    (fun cd => OwnFrom.and (Own.from (fun s A B row hs hg hr => by
      obtain ⟨hc, ini, last, e1, e2, e3, e4, e5⟩ := hs
      exact ⟨hc, ini, last, e1, e2, e3, boxed_own _ 9 (fun (_ : Unit) => Value.string last.2.f1) () A B row e4 hg hr, boxed_own _ 4 (fun (_ : Unit) => Value.bool true) () A B row e5 hg hr⟩) _) (ownFrom_below (Nat.le_refl _) (by omega)))
    ⟨⟨⟨by simp, bA⟩, bS, bT, bN⟩, hB0⟩
    (fun x a' W => ∃ Bx, w.heap.size + 1 + 1 + 1 < Bx ∧ W.heap[Bx]? = some (.cells #[.int .u8 x.2.f0, .string x.2.f1] 45 (0, 0)) ∧ a' = { tmps := #[.slice A l0.length c, .int .u8 a1, undef, .pointer (some ⟨w.heap.size, 0, none⟩), .pointer (some ⟨w.heap.size + 1, 0, none⟩), .pointer (some ⟨w.heap.size + 1 + 1, 0, none⟩), undef, .pointer (some ⟨Bx, 0, none⟩), .slice A l0.length c, .func (.func 35) #[] #[.pointer (some ⟨w.heap.size + 1 + 1 + 1, 0, none⟩)], .int .i64 x.1, .agg #[.int .u8 x.2.f0, .string x.2.f1], undef, undef, undef, undef, undef, undef], defers := [] })
    (fun x a' _ X Y row hs hg hr => by obtain ⟨Bx, h1, h2, h3⟩ := hs; exact ⟨Bx, h1, struct_own Bx 45 (fun (_ : Unit) => #[.int .u8 x.2.f0, .string x.2.f1]) () X Y row h2 hg (fun r e => (hr r e).2), h3⟩)
    ?assign ?body ?done ?stop
  case assign =>
    rintro l pre x W K ⟨⟨⟨hp, bA1⟩, bS1, bT1, bN1⟩, hB1⟩ hK
    gi_wp2
    exact hK _ _ ((KeepsOthers.alloc _ _).from _) ((Below.refl _ W).alloc (by have := bN1.lt; omega) _) ⟨⟨⟨hp, bA1.alloc _⟩, bS1.alloc _, bT1.alloc _, bN1.alloc _⟩, hB1.alloc hB1.size _⟩ ⟨W.heap.size, bN1.lt, World.alloc_heap_new W _, rfl⟩
  case body =>
    rintro l pre x a' W hl ⟨r, hr⟩ ⟨⟨⟨hp, bA1⟩, bS1, bT1, bN1⟩, hB1⟩ ⟨Bx, hBx, bX, rfl⟩ hlt
    have cA := bA1.cell
    have cS := bS1.cell
    have fS := bS1.frozen
    have cT := bT1.cell
    have fT := bT1.frozen
    have cX0 : W.cell? ⟨Bx, 0, none⟩ = some (.int .u8 x.2.f0) := by simp [World.cell?, bX]
    have cX1 : W.cell? ⟨Bx, 1, none⟩ = some (.string x.2.f1) := by simp [World.cell?, bX]
    by_cases hx : x.2.f0 = a1
    · have hxb : (x.2.f0 == a1) = true := beq_iff_eq.2 hx
      gi_wp2
      exact ⟨((KeepsOthers.setCell _ _ _).trans (KeepsOthers.setCell _ _ _)).from _, ⟨rfl, pre, x, rfl, hp, hx, (bS1.set _).other (by omega) _, (bT1.other (by omega) _).set _⟩, (hB1.setCell (p := ⟨w.heap.size + 1, 0, none⟩) (by simp) _).setCell (p := ⟨w.heap.size + 1 + 1, 0, none⟩) (by simp; omega) _⟩
    · have hxb : (x.2.f0 == a1) = false := beq_eq_false_iff_ne.2 hx
      gi_wp2
      exact ⟨KeepsFrom.refl _ _, Below.refl _ _, ⟨⟨⟨fun p hp' => (List.mem_append.1 hp').elim (hp p) (fun e => by simp at e; subst e; exact hx), bA1⟩, bS1, bT1, bN1⟩, hB1⟩⟩
  case done =>
    rintro D zs W hD rfl ⟨⟨⟨hp, bA1⟩, bS1, bT1, bN1⟩, hB1⟩ hK
    have cS := bS1.cell
    have cT := bT1.cell
    have fS := bS1.frozen
    have fT := bT1.frozen
    gi_wp2
    have bS2 := (bS1.set (.string ⟨#[]⟩)).other (B' := w.heap.size + 1 + 1) (by omega) (.bool false)
    have bT2 := (bT1.other (B' := w.heap.size + 1) (by omega) (.string ⟨#[]⟩)).set (.bool false)
    have hB2 := (hB1.setCell (p := ⟨w.heap.size + 1, 0, none⟩) (by simp) (.string ⟨#[]⟩)).setCell (p := ⟨w.heap.size + 1 + 1, 0, none⟩) (by simp; omega) (.bool false)
    have hK' := (KeepsOthers.setCell (W.setCell ⟨w.heap.size + 1, 0, none⟩ (.string ⟨#[]⟩)) ⟨w.heap.size + 1 + 1, 0, none⟩ (.bool false)).same D _ ((KeepsOthers.setCell W ⟨w.heap.size + 1, 0, none⟩ (.string ⟨#[]⟩)).same D _ hK rfl) rfl
    refine ⟨by simp, .inl ⟨_, _, rfl, run_takeDeferred hK', ?_⟩⟩
    have c4 := cell_kept bS2.cell (grownBy_putObj' _ D (.deferred none)) (fun r e => by cases e; exact ⟨_, hK', rfl⟩)
    have c5 := cell_kept bT2.cell (grownBy_putObj' _ D (.deferred none)) (fun r e => by cases e; exact ⟨_, hK', rfl⟩)
    refine ⟨.tuple #[.string ⟨#[]⟩, .bool false], ?_, by rw [lastOf_none a1 _ hp], hB2.trans (belowK_b (w := w) (Nat.le_refl _) _ D _ _ (by omega) hK' rfl rfl)⟩
    simp [results, Tryd.f16, go_sem, c4, c5]
  case stop =>
    rintro D cd pre W hD ⟨k, hk, rfl⟩ ⟨⟨rfl, ini, last, e1, e2, e3, bS1, bT1⟩, hB1⟩ hK
    gi_wp2
    refine ⟨by simp, .inl ⟨_, _, rfl, run_takeDeferred hK, ?_⟩⟩
    have c4 := cell_kept bS1.cell (grownBy_putObj' _ D (.deferred none)) (fun r e => by cases e; exact ⟨_, hK, rfl⟩)
    have c5 := cell_kept bT1.cell (grownBy_putObj' _ D (.deferred none)) (fun r e => by cases e; exact ⟨_, hK, rfl⟩)
    have hl : lastOf (upto (bk l0) l0.length) a1 = (last.2.f1, true) := by
      obtain ⟨m, hm⟩ : ∃ m, l0.length = k + m := ⟨l0.length - k, by omega⟩
      rw [show upto (bk l0) l0.length = upto (bk l0) k ++ (List.range m).map (fun i => bk l0 (k + i)) by
        rw [upto, upto, hm, List.range_add, List.map_append, List.map_map]; rfl, e1, List.append_assoc]
      exact lastOf_hit a1 last e3 _ ini e2
    refine ⟨.tuple #[.string last.2.f1, .bool true], ?_, by rw [hl], hB1.trans (belowK_b (w := w) (Nat.le_refl _) W D _ _ (by omega) hK rfl rfl)⟩
    simp [results, Tryd.f16, go_sem, c4, c5]

theorem opts_Last.calls (A0 : Option Addr) (c0 : Nat) (l0 : List S45) (a1 : Int) (r1 : ByteArray) (r2 : Bool) (w : World) (hr0 : Kd.C k45 w A0 l0.length l0) (hc0 : l0.length ≤ c0) (h : opts_Last.f l0 a1 = some (r1, r2)) :
    Calls Tryd.prog 16 #[.slice A0 l0.length c0, .int .u8 a1] w fun e w' => e = .returned (.tuple #[.string r1, .bool r2]) ∧ Below w.heap.size w w' := by
  unfold opts_Last.f at h
  by_cases hl : l0.length < 5864062014805
  · rw [if_pos hl] at h
    obtain ⟨rfl, rfl⟩ : (lastOf (upto (bk l0) l0.length) a1).1 = r1 ∧ (lastOf (upto (bk l0) l0.length) a1).2 = r2 := by have := Option.some.inj h; exact ⟨congrArg Prod.fst this, congrArg Prod.snd this⟩
    exact callsIn_wide.1 (Last_in _ 3 trivial trivial trivial rfl (by omega) A0 c0 l0 a1 hl w hr0)
  · rw [if_neg hl] at h
    cases h

end Go.Proofs.YtemimbjnfadklaaDoor.L
