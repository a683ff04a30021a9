/- sets.among and its closure; sets.classes. -/
import Derived.Maps.OwnSet
import Derived.Lib.Walk
import Derived.Lib.Strings
import Derived.Test.YtndmngijfleilaaDoorRest
namespace Go.Proofs.YtndmngijfleilaaDoor.L
open Go.RowKit Go.Maps Go.Proofs.YtndmngijfleilaaDoorW.PrintWords

/-- Does a byte stand in ranges of two bytes each? -/
def amongGo : List UInt8 → Int → Bool
  | a :: b :: l, c => if (a.toNat : Int) ≤ c ∧ c ≤ (b.toNat : Int) then true else amongGo l c
  | _, _ => false
theorem get_drop (s : ByteArray) (k : Nat) (h : k < s.size) : s.data.toList.drop k = s[k] :: s.data.toList.drop (k + 1) := by
  have hl : k < s.data.toList.length := by simpa using h
  rw [List.drop_eq_getElem_cons hl]
  rfl
theorem amongGo_short (l : List UInt8) (c : Int) (h : l.length ≤ 1) : amongGo l c = false := by
  match l, h with
  | [], _ => rfl
  | [_], _ => rfl

set_option maxHeartbeats 4000000 in
set_option maxRecDepth 100000 in
theorem among_closure (s : ByteArray) (c : Int) (b : Nat) (w : World) (hb : w.heap[b]? = some (.cells #[.string s] 9 (0, 0))) (_h0 : 0 ≤ c) (_h1 : c ≤ 255) (hs : s.size ≤ 1000) :
    Calls Tryd.prog 46 #[.int .u8 c, .pointer (some ⟨b, 0, none⟩)] w fun e w' => e = .returned (.bool (amongGo s.data.toList c)) ∧ w = w' := by
  have hcell : w.cell? ⟨b, 0, none⟩ = some (.string s) := by rw [blk_cell hb]; rfl
  clear hb
  go_enter Tryd.func46, Tryd.ntmps46
  go_wp2
  go_loop [4] (fun v4 => ∃ k : Nat, k ≤ s.size + 1 ∧ v4 = .int .i64 k ∧ Hid (amongGo s.data.toList c = amongGo (s.data.toList.drop k) c)) (fun v4 => s.size + 1 - (intOf v4).toNat)
  case atStart => exact ⟨0, by omega, rfl, Lib.hid rfl⟩
  case round =>
    obtain ⟨k, hk, rfl, HE⟩ := hrel
    by_cases hlt : k + 1 < s.size
    · have hltI : (k : Int) + 1 < (s.size : Int) := by omega
      have hk1 : (k : Int) < (s.size : Int) := by omega
      have hk0 : (0 : Int) ≤ (k : Int) := by omega
      have hk00 : (0 : Int) ≤ (k : Int) + 1 := by omega
      have hd := get_drop s k (by omega)
      have hd2 := get_drop s (k + 1) hlt
      rw [hd2] at hd
      obtain ⟨x, hx⟩ : ∃ x : Int, ((s[k]'(by omega)).toNat : Int) = x := ⟨_, rfl⟩
      obtain ⟨y, hy⟩ : ∃ y : Int, ((s[k + 1]'hlt).toNat : Int) = y := ⟨_, rfl⟩
      have ht1 : ((k : Int) + 1).toNat = k + 1 := by omega
      have HD : Hid (amongGo (s.data.toList.drop k) c = if x ≤ c ∧ c ≤ y then true else amongGo (s.data.toList.drop (k + 2)) c) := Lib.hid (by
        rw [hd, ← hx, ← hy]
        rfl)
      clear hd hd2 hk
      by_cases ha : x ≤ c
      · by_cases hb : c ≤ y
        · have HT : Hid (amongGo s.data.toList c = true) := Lib.hid (by rw [HE.out, HD.out, if_pos ⟨ha, hb⟩])
          go_wp2
          go_ret
          exact ⟨by rw [HT.out]; rfl, rfl⟩
        · have HT : Hid (amongGo s.data.toList c = amongGo (s.data.toList.drop (k + 2)) c) := Lib.hid (by rw [HE.out, HD.out, if_neg (fun h => hb h.2)])
          go_wp2
          go_round
          case rel => exact ⟨k + 2, by omega, by go_num, HT⟩
          case measure => simp [intOf]; omega
      · have HT : Hid (amongGo s.data.toList c = amongGo (s.data.toList.drop (k + 2)) c) := Lib.hid (by rw [HE.out, HD.out, if_neg (fun h => ha h.1)])
        go_wp2
        go_round
        case rel => exact ⟨k + 2, by omega, by go_num, HT⟩
        case measure => simp [intOf]; omega
    · have hltI : ¬ (k : Int) + 1 < (s.size : Int) := by omega
      have HT : Hid (amongGo s.data.toList c = false) := Lib.hid (by
        rw [HE.out]
        apply amongGo_short
        rw [List.length_drop, data_length]
        omega)
      go_wp2
      go_ret
      exact ⟨by rw [HT.out]; rfl, rfl⟩
end Go.Proofs.YtndmngijfleilaaDoor.L
