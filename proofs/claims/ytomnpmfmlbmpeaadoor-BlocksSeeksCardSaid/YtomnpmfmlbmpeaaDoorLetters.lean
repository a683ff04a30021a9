/- blocks.letters: the walk: a row of bytes of one's own is turned where it lies. -/
import Derived.Test.YtomnpmfmlbmpeaaDoorRowZ
namespace Go.Proofs.YtomnpmfmlbmpeaaDoor.L
open Go.RowKit Go.Proofs.YtomnpmfmlbmpeaaDoorW.PrintWords

/-- One byte, its letter moved. -/
def lett (first : Int) (so : Bool) (c : Int) : Int := if so = true ∧ first ≤ c ∧ c < first + 26 then Go.bits .xor .u8 c 32 else c
def lettTo (first : Int) (so : Bool) (k : Nat) (xs : List Int) : List Int := (xs.take k).map (lett first so) ++ xs.drop k
theorem lettTo_len (first : Int) (so : Bool) (k : Nat) (xs : List Int) : (lettTo first so k xs).length = xs.length := by
  unfold lettTo
  rw [List.length_append, List.length_map, ← List.length_append, List.take_append_drop]
theorem lettTo_succ (first : Int) (so : Bool) (k : Nat) (xs : List Int) (h : k < xs.length) : (lettTo first so k xs).set k (lett first so (rd xs (k : Int))) = lettTo first so (k + 1) xs := by
  have hg : rd xs (k : Int) = xs[k] := by
    unfold rd
    rw [Int.toNat_natCast, List.getD_eq_getElem?_getD, List.getElem?_eq_getElem h]
    rfl
  unfold lettTo
  rw [List.take_succ_eq_append_getElem h, List.map_append, List.drop_eq_getElem_cons h, ← hg]
  rw [List.set_append_right _ _ (by rw [List.length_map, List.length_take]; omega)]
  rw [List.length_map, List.length_take, Nat.min_eq_left (by omega), Nat.sub_self]
  simp
theorem lettTo_rd (first : Int) (so : Bool) (k : Nat) (xs : List Int) (h : k < xs.length) : rd (lettTo first so k xs) (k : Int) = rd xs (k : Int) := by
  unfold rd lettTo
  rw [Int.toNat_natCast, List.getD_eq_getElem?_getD, List.getD_eq_getElem?_getD, List.getElem?_append_right (by rw [List.length_map, List.length_take]; omega)]
  rw [List.length_map, List.length_take, Nat.min_eq_left (by omega), Nat.sub_self, List.getElem?_drop]
  rfl
theorem lettTo_stay (first : Int) (so : Bool) (k : Nat) (xs : List Int) (h : k < xs.length) (he : lett first so (rd xs (k : Int)) = rd xs (k : Int)) : lettTo first so k xs = lettTo first so (k + 1) xs := by
  rw [← lettTo_succ first so k xs h, he, ← lettTo_rd first so k xs h]
  have : k < (lettTo first so k xs).length := by rw [lettTo_len]; exact h
  unfold rd
  rw [Int.toNat_natCast, List.getD_eq_getElem?_getD, List.getElem?_eq_getElem this]
  simp

set_option maxHeartbeats 4000000 in
set_option maxRecDepth 100000 in
theorem letters_walk (base g n c : Nat) (xs : List Int) (first : Int) (so : Bool) (w : World) (hf : first = 97 ∨ first = 65) (hown : OwnZ w base (.slice (some ⟨g, 0, none⟩) n c) n xs) (hn : n ≤ 1099511627776) :
    Calls Tryd.prog 43 #[.slice (some ⟨g, 0, none⟩) n c, .int .u8 first, .bool so] w fun e w' => e = .returned (.slice (some ⟨g, 0, none⟩) n c) ∧ OwnZ w' base (.slice (some ⟨g, 0, none⟩) n c) n (xs.map (lett first so)) ∧ w.grownBy w' (some g) := by
  have hlen : xs.length = n := by exact hown.1
  have HN := Lib.hid hn
  have HL := Lib.hid hlen
  have HO := Lib.hid hown
  clear hn hlen hown
  go_enter Tryd.func43, Tryd.ntmps43
  go_wp2
  go_loopw [11] (fun v11 wr => ∃ k : Nat, k ≤ n ∧ v11 = .int .i64 k ∧ Hid (OwnZ wr base (.slice (some ⟨g, 0, none⟩) n c) n (lettTo first so k xs)) ∧ Hid (w.grownBy wr (some g))) (fun v11 _ => n - (intOf v11).toNat)
  case atStart => exact ⟨0, Nat.zero_le _, rfl, Lib.hid (by have := HO.out; simpa [lettTo] using this), Lib.hid (grown_of_below (Below.refl _ _) _)⟩
  case round =>
    obtain ⟨k, hk, rfl, HK, HG⟩ := hrel
    by_cases hlt : k < n
    · have hI : (k : Int) < (n : Int) := by omega
      have h0 : (0 : Int) ≤ (k : Int) := by omega
      have hkl : k < xs.length := by have := HL.out; omega
      obtain ⟨hcell, hfz⟩ := ownz_at HK.out (k : Int) h0 hI
      rw [Int.toNat_natCast] at hcell hfz
      rw [lettTo_rd first so k xs hkl] at hcell
      have hS := ownz_store HK.out (k : Int) (lett first so (rd xs (k : Int)))
      rw [Int.toNat_natCast, lettTo_succ first so k xs hkl] at hS
      have hE := fun he => lettTo_stay first so k xs hkl he
      obtain ⟨x, hx⟩ : ∃ x, rd xs (k : Int) = x := ⟨_, rfl⟩
      rw [hx] at hcell hS hE
      have HS := Lib.hid hS
      have HE := Lib.hid hE
      have HNN := HN.out
      clear hx hk hS hE hkl
      rcases hf with rfl | rfl
      · cases so with
        | false =>
          clear HS
          go_wp2
          go_roundw
          case rel => exact ⟨k + 1, by omega, by go_num, Lib.hid (by rw [← HE.out (by unfold lett; rw [if_neg (by simp; try omega)])]; exact HK.out), HG⟩
          case measure => simp [intOf]; omega
        | true =>
          by_cases g1 : x ≥ 97
          · by_cases g2 : x < 123
            · have HS2 := Lib.hid (show lett 97 true x = Go.bits .xor .u8 x 32 by unfold lett; rw [if_pos ⟨rfl, by omega, by omega⟩])
              rw [HS2.out] at HS
              go_wp2
              go_roundw
              case rel => exact ⟨k + 1, by omega, by go_num, Lib.hid HS.out.1, Lib.hid (HG.out.trans HS.out.2)⟩
              case measure => simp [intOf]; omega
            · clear HS
              go_wp2
              go_roundw
              case rel => exact ⟨k + 1, by omega, by go_num, Lib.hid (by rw [← HE.out (by unfold lett; rw [if_neg (by simp; try omega)])]; exact HK.out), HG⟩
              case measure => simp [intOf]; omega
          · clear HS
            go_wp2
            go_roundw
            case rel => exact ⟨k + 1, by omega, by go_num, Lib.hid (by rw [← HE.out (by unfold lett; rw [if_neg (by simp; try omega)])]; exact HK.out), HG⟩
            case measure => simp [intOf]; omega
      · cases so with
        | false =>
          clear HS
          go_wp2
          go_roundw
          case rel => exact ⟨k + 1, by omega, by go_num, Lib.hid (by rw [← HE.out (by unfold lett; rw [if_neg (by simp; try omega)])]; exact HK.out), HG⟩
          case measure => simp [intOf]; omega
        | true =>
          by_cases g1 : x ≥ 65
          · by_cases g2 : x < 91
            · have HS2 := Lib.hid (show lett 65 true x = Go.bits .xor .u8 x 32 by unfold lett; rw [if_pos ⟨rfl, by omega, by omega⟩])
              rw [HS2.out] at HS
              go_wp2
              go_roundw
              case rel => exact ⟨k + 1, by omega, by go_num, Lib.hid HS.out.1, Lib.hid (HG.out.trans HS.out.2)⟩
              case measure => simp [intOf]; omega
            · clear HS
              go_wp2
              go_roundw
              case rel => exact ⟨k + 1, by omega, by go_num, Lib.hid (by rw [← HE.out (by unfold lett; rw [if_neg (by simp; try omega)])]; exact HK.out), HG⟩
              case measure => simp [intOf]; omega
          · clear HS
            go_wp2
            go_roundw
            case rel => exact ⟨k + 1, by omega, by go_num, Lib.hid (by rw [← HE.out (by unfold lett; rw [if_neg (by simp; try omega)])]; exact HK.out), HG⟩
            case measure => simp [intOf]; omega
    · have hk2 : k = n := by omega
      have hI : ¬ (k : Int) < (n : Int) := by omega
      have HF := Lib.hid (show lettTo first so k xs = xs.map (lett first so) by unfold lettTo; rw [hk2, ← HL.out, List.take_length, List.drop_length, List.append_nil])
      clear hk hk2
      go_wp2
      go_ret
      exact ⟨rfl, HF.out ▸ HK.out, HG.out⟩
end Go.Proofs.YtomnpmfmlbmpeaaDoor.L
