/- strconv.ParseUint at base 8, 8 bits, at words of octal digits. -/
import Derived.Shelf.LaysM
import Derived.Lib.Strings
import Derived.Lib.Walk
import Derived.Lib.ConvBytes
import Derived.Lib.AtoiAllMem
import Derived.Lib.Hide
import Derived.Laws.Strings3
import Derived.Laws.Closers25
import Derived.Laws.Closers25b
import Derived.WalkKit
import Derived.BigCall
import Derived.BigGuard
import Derived.Test.YtndmngijfleilaaDoorShelf
import Derived.Lib.AtoiErrMem
import Derived.Test.YtndmngijfleilaaDoorLx0
namespace Go.Proofs.YtndmngijfleilaaDoor.L
open Go.RowKit Go.Shelf Go.Proofs.YtndmngijfleilaaDoorW.PrintWords

/-- The number of octal digits; none: past 8 bits. -/
def octGo : List UInt8 → Nat → Option Nat
  | [], n => some n
  | c :: cs, n => if n * 8 + (c.toNat - 48) > 255 then none else octGo cs (n * 8 + (c.toNat - 48))
def octTuple : Option Nat → Value
  | some n => .tuple #[.int .u64 (n : Int), .nilIface]
  | none => .tuple #[.int .u64 255, .iface 89 (.int .i64 1)]

set_option maxHeartbeats 32000000 in
set_option maxRecDepth 100000 in
theorem parse8 (t : ByteArray) (hne : t.size ≠ 0) (hmax : t.size ≤ 3) (hoct : ∀ c ∈ t.data.toList, 48 ≤ c.toNat ∧ c.toNat ≤ 55) (w : World) :
    Calls Tryd.prog 47 #[.string t, .int .i64 8, .int .i64 8] w fun e w' => e = .returned (octTuple (octGo t.data.toList 0)) ∧ w' = Lib.bytesWorld w 5 t := by
  have hemp : t.toList.isEmpty = false := by
    rw [← decide_eq_emptyBytes]
    exact decide_eq_false (fun h => hne (by rw [h]; rfl))
  have hcv := Lib.run_convert_string_bytes (P := Tryd.prog) w 9 22 5 t (u := .string) Tryd.underlying9 Tryd.underlying22 Tryd.underlying5
  have hB : ∀ j, j < t.size → (Lib.bytesWorld w 5 t).cell? ⟨w.heap.size, j, none⟩ = some (.int .u8 (t.data.toList.getD j 0).toNat) := fun j hj => Lib.bytesWorld_cell w 5 t j hj
  obtain ⟨W1, hW1⟩ : ∃ W1, W1 = Lib.bytesWorld w 5 t := ⟨_, rfl⟩
  rw [← hW1] at hcv hB ⊢
  clear hW1
  obtain ⟨bs, hL⟩ : ∃ bs, bs = t.data.toList := ⟨_, rfl⟩
  have hLn : bs.length = t.size := by rw [hL, Lib.size_eq]
  rw [← hL] at hB hoct ⊢
  clear hL
  have hmv : IntKind.u64.wrap (IntKind.u64.wrap 256 - 1) = 255 := by
    rw [IntKind.wrap_u64, IntKind.wrap_u64]
    decide
  go_enter Tryd.func47, Tryd.ntmps47
  go_wp2
  go_loop [12, 13, 101] (fun vu vn vi => ∃ (k acc : Nat) (a : Int), vu = .bool false ∧ vn = .int .u64 a ∧ vi = .int .i64 k ∧ k ≤ t.size ∧ Hid (a = (acc : Int) ∧ acc ≤ 255 ∧ octGo bs 0 = octGo (bs.drop k) acc))
    (fun _ _ vi => t.size - (intOf vi).toNat)
  case atStart => exact ⟨0, 0, 0, rfl, rfl, rfl, by omega, rfl, by omega, rfl⟩
  case round =>
    obtain ⟨k, acc, a, rfl, rfl, rfl, hk, hh⟩ := hrel
    obtain ⟨ha, hacc, hdec⟩ := hh.out
    clear hh
    have a0 : 0 ≤ a := by omega
    have a1 : a ≤ 255 := by omega
    by_cases hkn : k < t.size
    · have hc := hB k hkn
      have hdrop : bs.drop k = bs[k]'(by omega) :: bs.drop (k + 1) := List.drop_eq_getElem_cons (by omega)
      have hget : bs.getD k 0 = bs[k]'(by omega) := by simp [List.getD, List.getElem?_eq_getElem (show k < bs.length by omega)]
      have ho := hoct (bs[k]'(by omega)) (List.getElem_mem _)
      rw [hdrop] at hdec
      rw [hget] at hc
      generalize bs[k]'(by omega) = c at hc hdec ho
      obtain ⟨hd0, hd1⟩ := ho
      clear hB hdrop hget hoct
      by_cases hov : acc * 8 + (c.toNat - 48) > 255
      · have hF : octGo (c :: bs.drop (k + 1)) acc = none := by simp only [octGo, if_pos hov]
        rw [hF] at hdec
        have iov : 255 < a * 8 + ((c.toNat : Int) - 48) := by omega
        clear hacc hF hov ha
        go_wp2
        go_ret2
        exact ⟨rfl, rfl⟩
      · have hF : octGo (c :: bs.drop (k + 1)) acc = octGo (bs.drop (k + 1)) (acc * 8 + (c.toNat - 48)) := by simp only [octGo, if_neg hov]
        have HN : Hid (a * 8 + ((c.toNat : Int) - 48) = ((acc * 8 + (c.toNat - 48) : Nat) : Int) ∧ acc * 8 + (c.toNat - 48) ≤ 255 ∧ octGo bs 0 = octGo (bs.drop (k + 1)) (acc * 8 + (c.toNat - 48))) := Lib.hid ⟨by omega, by omega, hdec.trans hF⟩
        have iov : a * 8 + ((c.toNat : Int) - 48) ≤ 255 := by omega
        clear hacc hF hov hdec ha
        go_wp2
        refine ⟨⟨k + 1, acc * 8 + (c.toNat - 48), a * 8 + ((c.toNat : Int) - 48), rfl, (by first | rfl | (congr 1; omega)), (by first | rfl | (congr 1; omega)), by omega, HN⟩, by simp [intOf]; omega⟩
    · have hkk : k = t.size := by omega
      subst hkk
      have hF : octGo (bs.drop t.size) acc = some acc := by rw [List.drop_eq_nil_of_le (by omega)]; rfl
      rw [hF] at hdec
      subst ha
      clear hacc hF a0 a1
      go_wp2
      go_ret2
      exact ⟨rfl, rfl⟩

/-- What the walks ask of the library's variables. -/
structure Glob (w : World) : Prop where
  len : ∃ m, w.cell? ⟨0, 0, none⟩ = some (.int .i64 m)
  syn : ∃ ev, w.cell? ⟨1, 0, none⟩ = some ev ∧ (ev = .nilIface ∨ ∃ te pe, ev = .iface te pe)
  rng : ∃ ev, w.cell? ⟨2, 0, none⟩ = some ev ∧ (ev = .nilIface ∨ ∃ te pe, ev = .iface te pe)
theorem Glob.of_cells {w w' : World} (h : Glob w) (hb : ∀ i, i ≤ 2 → w'.heap[i]? = w.heap[i]?) : Glob w' := by
  have e : ∀ i, i ≤ 2 → w'.cell? ⟨i, 0, none⟩ = w.cell? ⟨i, 0, none⟩ := fun i hi => by simp only [World.cell?, hb i hi]
  obtain ⟨⟨m, h0⟩, ⟨e1, h1, h1'⟩, ⟨e2, h2, h2'⟩⟩ := h
  exact ⟨⟨m, (e 0 (by omega)).trans h0⟩, ⟨e1, (e 1 (by omega)).trans h1, h1'⟩, ⟨e2, (e 2 (by omega)).trans h2, h2'⟩⟩
theorem Glob.lt {w : World} (h : Glob w) : 2 < w.heap.size := by
  obtain ⟨_, _, ⟨e2, h2, _⟩⟩ := h
  exact World.block_lt_of_cell? w _ h2
theorem Glob.below {w w' : World} (h : Glob w) (hb : Below w.heap.size w w') : Glob w' := h.of_cells fun i hi => hb.block i (by have := h.lt; omega)
def uintPost (o : Option Nat) (e : Ending) : Prop := match o with
  | some n => e = .returned (.tuple #[.int .u64 (n : Int), .nilIface])
  | none => ∃ v, e = .returned (.tuple #[.int .u64 255, .iface 93 v])
set_option maxHeartbeats 8000000 in
set_option maxRecDepth 100000 in
theorem parseUint8 (t : ByteArray) (hne : t.size ≠ 0) (hmax : t.size ≤ 3) (hoct : ∀ c ∈ t.data.toList, 48 ≤ c.toNat ∧ c.toNat ≤ 55) (w : World) (G : Glob w) :
    Calls Tryd.prog 35 #[.string t, .int .i64 8, .int .i64 8] w fun e w' => uintPost (octGo t.data.toList 0) e ∧ Below w.heap.size w w' := by
  have hb := Lib.bytesWorld_below w 5 t
  have G1 := G.below hb
  obtain ⟨_, _, ⟨ev, h1, h2⟩⟩ := G1
  cases ho : octGo t.data.toList 0 with
  | some n =>
    go_enter Tryd.func35, Tryd.ntmps35
    go_wp2_with (go_at_call 47; refine (parse8 t hne hmax hoct w).mono ?_; rw [ho]; rintro e w' ⟨rfl, rfl⟩; dsimp only [octTuple])
    go_ret2
    exact ⟨rfl, hb⟩
  | none =>
    go_enter Tryd.func35, Tryd.ntmps35
    go_wp2_with (first
      | (go_at_call 47; refine (parse8 t hne hmax hoct w).mono ?_; rw [ho]; rintro e w' ⟨rfl, rfl⟩; dsimp only [octTuple])
      | (go_at_call 48; refine (Tryd.strconv_toError_range _ t 8 8 ev _ (by omega) h1 h2).mono ?_; rintro e w' ⟨N, rfl, _, _, hb2⟩))
    go_ret2
    exact ⟨⟨_, rfl⟩, hb.trans (hb2.mono hb.size)⟩
set_option maxHeartbeats 8000000 in
set_option maxRecDepth 100000 in
theorem parse8_empty (w : World) : Calls Tryd.prog 47 #[.string ⟨#[]⟩, .int .i64 8, .int .i64 8] w fun e w' => e = .returned (.tuple #[.int .u64 0, .iface 89 (.int .i64 2)]) ∧ w = w' := by
  go_enter Tryd.func47, Tryd.ntmps47
  go_wp2
  go_ret2
  exact ⟨rfl, rfl⟩
set_option maxHeartbeats 8000000 in
set_option maxRecDepth 100000 in
theorem parseUint8_empty (w : World) (G : Glob w) : Calls Tryd.prog 35 #[.string ⟨#[]⟩, .int .i64 8, .int .i64 8] w fun e w' => (∃ v, e = .returned (.tuple #[.int .u64 0, .iface 93 v])) ∧ Below w.heap.size w w' := by
  obtain ⟨_, ⟨ev, h1, h2⟩, _⟩ := G
  go_enter Tryd.func35, Tryd.ntmps35
  go_wp2_with (first
    | (go_at_call 47; refine (parse8_empty w).mono ?_; rintro e w' ⟨rfl, rfl⟩)
    | (go_at_call 48; refine (Tryd.strconv_toError_syntax _ ⟨#[]⟩ 8 8 ev _ (by decide) h1 h2).mono ?_; rintro e w' ⟨N, rfl, _, _, hb2⟩))
  go_ret2
  exact ⟨⟨_, rfl⟩, hb2⟩
end Go.Proofs.YtndmngijfleilaaDoor.L
