/- strconv.ParseUint at base 8, 9 bits, at words of octal digits; modes.Read. -/
import Derived.Shelf.LaysM
import Derived.Lib.Strings
import Derived.Lib.Walk
import Derived.Lib.ConvBytes
import Derived.Lib.AtoiAllMem
import Derived.Lib.Hide
import Derived.Laws.Strings3
import Derived.Laws.Closers25
import Derived.Laws.Closers25b
import Derived.WalkKit
import Derived.BigCall
import Derived.BigGuard
import Derived.Shelf.Strings.SlTrimAscii
import Derived.Lib.SlTrimSet
import Derived.Test.YtajnkflopndejaaDoorShelf
import Derived.Test.YtajnkflopndejaaDoorLx0
namespace Go.Proofs.YtajnkflopndejaaDoor.L
open Go.RowKit Go.Shelf Go.Proofs.YtajnkflopndejaaDoorW.PrintWords

/-- The number of octal digits; none: past 9 bits. -/
def octGo : List UInt8 → Nat → Option Nat
  | [], n => some n
  | c :: cs, n => if n * 8 + (c.toNat - 48) > 511 then none else octGo cs (n * 8 + (c.toNat - 48))
def octTuple : Option Nat → Value
  | some n => .tuple #[.int .u64 (n : Int), .nilIface]
  | none => .tuple #[.int .u64 511, .iface 84 (.int .i64 1)]

set_option maxHeartbeats 32000000 in
set_option maxRecDepth 100000 in
theorem parse8 (t : ByteArray) (hne : t.size ≠ 0) (hmax : t.size ≤ 4) (hoct : ∀ c ∈ t.data.toList, 48 ≤ c.toNat ∧ c.toNat ≤ 55) (w : World) :
    Calls Tryd.prog 34 #[.string t, .int .i64 8, .int .i64 9] w fun e w' => e = .returned (octTuple (octGo t.data.toList 0)) ∧ w' = Lib.bytesWorld w 5 t := by
  have hemp : t.toList.isEmpty = false := by
    rw [← decide_eq_emptyBytes]
    exact decide_eq_false (fun h => hne (by rw [h]; rfl))
  have hcv := Lib.run_convert_string_bytes (P := Tryd.prog) w 9 32 5 t (u := .string) Tryd.underlying9 Tryd.underlying32 Tryd.underlying5
  have hB : ∀ j, j < t.size → (Lib.bytesWorld w 5 t).cell? ⟨w.heap.size, j, none⟩ = some (.int .u8 (t.data.toList.getD j 0).toNat) := fun j hj => Lib.bytesWorld_cell w 5 t j hj
  obtain ⟨W1, hW1⟩ : ∃ W1, W1 = Lib.bytesWorld w 5 t := ⟨_, rfl⟩
  rw [← hW1] at hcv hB ⊢
  clear hW1
  obtain ⟨bs, hL⟩ : ∃ bs, bs = t.data.toList := ⟨_, rfl⟩
  have hLn : bs.length = t.size := by rw [hL, Lib.size_eq]
  rw [← hL] at hB hoct ⊢
  clear hL
  have hmv : IntKind.u64.wrap (IntKind.u64.wrap 512 - 1) = 511 := by
    rw [IntKind.wrap_u64, IntKind.wrap_u64]
    decide
  go_enter Tryd.func34, Tryd.ntmps34
  go_wp2
  go_loop [12, 13, 101] (fun vu vn vi => ∃ (k acc : Nat) (a : Int), vu = .bool false ∧ vn = .int .u64 a ∧ vi = .int .i64 k ∧ k ≤ t.size ∧ Hid (a = (acc : Int) ∧ acc ≤ 511 ∧ octGo bs 0 = octGo (bs.drop k) acc))
    (fun _ _ vi => t.size - (intOf vi).toNat)
  case atStart => exact ⟨0, 0, 0, rfl, rfl, rfl, by omega, rfl, by omega, rfl⟩
  case round =>
    obtain ⟨k, acc, a, rfl, rfl, rfl, hk, hh⟩ := hrel
    obtain ⟨ha, hacc, hdec⟩ := hh.out
    clear hh
    have a0 : 0 ≤ a := by omega
    have a1 : a ≤ 511 := by omega
    by_cases hkn : k < t.size
    · have hc := hB k hkn
      have hdrop : bs.drop k = bs[k]'(by omega) :: bs.drop (k + 1) := List.drop_eq_getElem_cons (by omega)
      have hget : bs.getD k 0 = bs[k]'(by omega) := by simp [List.getD, List.getElem?_eq_getElem (show k < bs.length by omega)]
      have ho := hoct (bs[k]'(by omega)) (List.getElem_mem _)
      rw [hdrop] at hdec
      rw [hget] at hc
      generalize bs[k]'(by omega) = c at hc hdec ho
      obtain ⟨hd0, hd1⟩ := ho
      clear hB hdrop hget hoct
      by_cases hov : acc * 8 + (c.toNat - 48) > 511
      · have hF : octGo (c :: bs.drop (k + 1)) acc = none := by simp only [octGo, if_pos hov]
        rw [hF] at hdec
        have iov : 511 < a * 8 + ((c.toNat : Int) - 48) := by omega
        clear hacc hF hov ha
        go_wp2
        go_ret2
        exact ⟨rfl, rfl⟩
      · have hF : octGo (c :: bs.drop (k + 1)) acc = octGo (bs.drop (k + 1)) (acc * 8 + (c.toNat - 48)) := by simp only [octGo, if_neg hov]
        have HN : Hid (a * 8 + ((c.toNat : Int) - 48) = ((acc * 8 + (c.toNat - 48) : Nat) : Int) ∧ acc * 8 + (c.toNat - 48) ≤ 511 ∧ octGo bs 0 = octGo (bs.drop (k + 1)) (acc * 8 + (c.toNat - 48))) := Lib.hid ⟨by omega, by omega, hdec.trans hF⟩
        have iov : a * 8 + ((c.toNat : Int) - 48) ≤ 511 := by omega
        clear hacc hF hov hdec ha
        go_wp2
        refine ⟨⟨k + 1, acc * 8 + (c.toNat - 48), a * 8 + ((c.toNat : Int) - 48), rfl, (by first | rfl | (congr 1; omega)), (by first | rfl | (congr 1; omega)), by omega, HN⟩, by simp [intOf]; omega⟩
    · have hkk : k = t.size := by omega
      subst hkk
      have hF : octGo (bs.drop t.size) acc = some acc := by rw [List.drop_eq_nil_of_le (by omega)]; rfl
      rw [hF] at hdec
      subst ha
      clear hacc hF a0 a1
      go_wp2
      go_ret2
      exact ⟨rfl, rfl⟩
end Go.Proofs.YtajnkflopndejaaDoor.L
