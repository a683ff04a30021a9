/- blocks.Size at digits, with a k, a b or nothing behind them: the walk. -/
import Derived.Test.YtomnpmfmlbmpeaaDoorDig
namespace Go.Proofs.YtomnpmfmlbmpeaaDoor.L
open Go.RowKit Go.Proofs.YtomnpmfmlbmpeaaDoorW.PrintWords Go.Proofs.YtomnpmfmlbmpeaaDoorW.PrintLast Go.Proofs.YtomnpmfmlbmpeaaDoorW.PrintMore

theorem suf_same (z : List UInt8) (c : UInt8) : Lib.hasSuffix (z ++ [c]) [c] = true ∧ Lib.trimSuffix (z ++ [c]) [c] = z := by
  have h : Lib.hasSuffix (z ++ [c]) [c] = true := by
    unfold Lib.hasSuffix
    rw [List.isSuffixOf_iff_suffix]
    exact ⟨z, rfl⟩
  refine ⟨h, ?_⟩
  unfold Lib.trimSuffix
  rw [if_pos h]
  simp
theorem suf_other (z : List UInt8) (c d : UInt8) (hz : ∃ y, z = y ++ [d]) (h : c ≠ d) : Lib.hasSuffix z [c] = false ∧ Lib.trimSuffix z [c] = z := by
  have h : Lib.hasSuffix z [c] = false := by
    cases hh : Lib.hasSuffix z [c] with
    | false => rfl
    | true =>
      unfold Lib.hasSuffix at hh
      rw [List.isSuffixOf_iff_suffix] at hh
      obtain ⟨x, hx⟩ := hh
      obtain ⟨y, hy⟩ := hz
      rw [hy] at hx
      have := List.append_inj_right' hx rfl
      simp at this
      exact absurd this h
  refine ⟨h, ?_⟩
  unfold Lib.trimSuffix
  rw [if_neg (by rw [h]; simp)]
theorem last_of (z : List UInt8) (hz : z ≠ []) (hd : ∀ c ∈ z, isDig c) : ∃ d, isDig d ∧ ∃ y, z = y ++ [d] :=
  ⟨z.getLast hz, hd _ (List.getLast_mem hz), z.dropLast, (List.dropLast_concat_getLast hz).symm⟩

/-- What Size answers: digits z, so many times. -/
def sizeN (z : List UInt8) (t : Nat) : Int × Bool := if z.length ≤ 10 ∧ dval z ≤ 2147483647 / t then ((dval z * t : Nat), true) else (0, false)

set_option maxHeartbeats 4000000 in
set_option maxRecDepth 100000 in
theorem size_calls (z sf : List UInt8) (t : Nat) (hz : z ≠ []) (hd : ∀ c ∈ z, isDig c) (hl : z.length ≤ 1000) (hs : (sf = [107] ∧ t = 1024) ∨ (sf = [98] ∧ t = 512) ∨ (sf = [] ∧ t = 1)) (w : World) :
    Calls Tryd.prog 13 #[.string (B (z ++ sf))] w fun e w' => e = .returned (.tuple #[.int .i64 (sizeN z t).1, .bool (sizeN z t).2]) ∧ Below w.heap.size w w' := by
  obtain ⟨d, hdd, hdy⟩ := last_of z hz hd
  have hd107 : (107 : UInt8) ≠ d := by rintro rfl; unfold isDig at hdd; revert hdd; decide
  have hd98 : (98 : UInt8) ≠ d := by rintro rfl; unfold isDig at hdd; revert hdd; decide
  have hsl : sf.length ≤ 1 := by rcases hs with ⟨rfl, _⟩ | ⟨rfl, _⟩ | ⟨rfl, _⟩ <;> simp
  have cut := fun (c : UInt8) (W : World) => Tryd.strings_CutSuffix (B (z ++ sf)) ⟨#[c]⟩ W (by rw [B_size, List.length_append]; omega)
  simp only [B_toList] at cut
  have HTR := Lib.hid (fun W => strings_Trim.calls (B z) ⟨#[48, 49, 50, 51, 52, 53, 54, 55, 56, 57]⟩ (B []) W (trim_ev z hd hl))
  have HAT := Lib.hid (fun W (h : z.length ≤ 18) => show Calls Tryd.prog 23 #[.string (B z)] W (fun e w' => e = .returned (.tuple #[.int .i64 (dval z : Int), .nilIface]) ∧ Below W.heap.size W w') from strconv_Atoi.calls (B z) (dval z) none W (atoi_digits z hz hd h))
  have HLT := Lib.hid (fun (h : z.length ≤ 10) => show dval z < 10000000000 from Nat.lt_of_lt_of_le (dval_lt z hd) (Nat.le_trans (Nat.pow_le_pow_right (by omega) h) (by decide)))
  have hem : (B z).toList.isEmpty = false := by
    rw [B_tl]
    cases z with
    | nil => exact absurd rfl hz
    | cons => rfl
  have hne0 : ¬ (B z).toList = [] := fun h => by rw [h] at hem; cases hem
  have HZS := Lib.hid (show (B z).size = z.length from B_size z)
  have hu52 := Tryd.underlying52
  have c1 : sf = [107] → ∀ W, Calls Tryd.prog 21 #[.string (B (z ++ sf)), .string ⟨#[107]⟩] W fun e w' => e = .returned (.tuple #[.string (B z), .bool true]) ∧ w' = W := fun h W => by
    have := cut 107 W
    subst h
    rw [(suf_same z 107).1, (suf_same z 107).2] at this
    exact this
  have c2 : sf = [98] → ∀ W, Calls Tryd.prog 21 #[.string (B (z ++ sf)), .string ⟨#[107]⟩] W fun e w' => e = .returned (.tuple #[.string (B (z ++ sf)), .bool false]) ∧ w' = W := fun h W => by
    have := cut 107 W
    subst h
    rw [(suf_other (z ++ [98]) 107 98 ⟨z, rfl⟩ (by decide)).1, (suf_other (z ++ [98]) 107 98 ⟨z, rfl⟩ (by decide)).2] at this
    exact this
  have c3 : sf = [98] → ∀ W, Calls Tryd.prog 21 #[.string (B (z ++ sf)), .string ⟨#[98]⟩] W fun e w' => e = .returned (.tuple #[.string (B z), .bool true]) ∧ w' = W := fun h W => by
    have := cut 98 W
    subst h
    rw [(suf_same z 98).1, (suf_same z 98).2] at this
    exact this
  have c4 : sf = [] → ∀ W, Calls Tryd.prog 21 #[.string (B (z ++ sf)), .string ⟨#[107]⟩] W fun e w' => e = .returned (.tuple #[.string (B (z ++ sf)), .bool false]) ∧ w' = W := fun h W => by
    have := cut 107 W
    subst h
    rw [List.append_nil] at this ⊢
    rw [(suf_other z 107 d hdy hd107).1, (suf_other z 107 d hdy hd107).2] at this
    exact this
  have c5 : sf = [] → ∀ W, Calls Tryd.prog 21 #[.string (B (z ++ sf)), .string ⟨#[98]⟩] W fun e w' => e = .returned (.tuple #[.string (B (z ++ sf)), .bool false]) ∧ w' = W := fun h W => by
    have := cut 98 W
    subst h
    rw [List.append_nil] at this ⊢
    rw [(suf_other z 98 d hdy hd98).1, (suf_other z 98 d hdy hd98).2] at this
    exact this
  have c6 : sf = [] → B (z ++ sf) = B z := fun h => by rw [h, List.append_nil]
  obtain ⟨bz, hbz⟩ : ∃ bz, B z = bz := ⟨_, rfl⟩
  obtain ⟨ba, hba⟩ : ∃ ba, B (z ++ sf) = ba := ⟨_, rfl⟩
  have hbe : B [] = ⟨#[]⟩ := rfl
  rw [hbz] at HTR HAT HZS hem hne0 c1 c3 c6
  rw [hba] at c1 c2 c3 c4 c5 c6 ⊢
  rw [hbe] at HTR
  have C1 := Lib.hid c1
  have C2 := Lib.hid c2
  have C3 := Lib.hid c3
  have C4 := Lib.hid c4
  have C5 := Lib.hid c5
  have C6 := Lib.hid c6
  obtain ⟨v, hv⟩ : ∃ v, dval z = v := ⟨_, rfl⟩
  rw [hv] at HAT HLT
  have HR := Lib.hid (show (z.length ≤ 10 → v ≤ 2147483647 / t → sizeN z t = (((v * t : Nat) : Int), true)) ∧ ((10 < z.length ∨ 2147483647 / t < v) → sizeN z t = (0, false)) from
    ⟨fun h1 h2 => by unfold sizeN; rw [hv, if_pos ⟨h1, h2⟩], fun h => by unfold sizeN; rw [hv, if_neg (by omega)]⟩)
  obtain ⟨R, hRR⟩ : ∃ R, sizeN z t = R := ⟨_, rfl⟩
  rw [hRR] at HR ⊢
  have hne1 : (!bz.toList.isEmpty) = true := by rw [hem]; rfl
  clear cut c1 c2 c3 c4 c5 c6 hRR hz hd hdd hdy hd107 hd98 hsl hbz hba hbe hv hl
  by_cases h10 : (bz.size : Int) > 10
  · have HRV := Lib.hid (HR.out.2 (.inl (by have := HZS.out; omega)))
    rcases hs with ⟨hsf, rfl⟩ | ⟨hsf, rfl⟩ | ⟨hsf, rfl⟩
    · have HC1 := Lib.hid (C1.out hsf)
      clear hsf
      go_enter Tryd.func13, Tryd.ntmps13
      go_wp2_with (first | (go_at_call 21; (with_reducible refine (HC1.out _).mono ?_); rintro e w1 ⟨rfl, hw⟩; rw [hw]; clear hw w1))
      go_ret2
      rw [HRV.out]; exact ⟨rfl, Below.refl _ _⟩
    · have HC1 := Lib.hid (C2.out hsf)
      have HC2 := Lib.hid (C3.out hsf)
      clear hsf
      go_enter Tryd.func13, Tryd.ntmps13
      go_wp2_with (first | (go_at_call 21; first | ((with_reducible refine (HC1.out _).mono ?_); rintro e w1 ⟨rfl, hw⟩; rw [hw]; clear hw w1) | ((with_reducible refine (HC2.out _).mono ?_); rintro e w1 ⟨rfl, hw⟩; rw [hw]; clear hw w1)))
      go_ret2
      rw [HRV.out]; exact ⟨rfl, Below.refl _ _⟩
    · have HC1 := Lib.hid (C4.out hsf)
      have HC2 := Lib.hid (C5.out hsf)
      rw [C6.out hsf] at HC1 HC2 ⊢
      clear hsf
      go_enter Tryd.func13, Tryd.ntmps13
      go_wp2_with (first | (go_at_call 21; first | ((with_reducible refine (HC1.out _).mono ?_); rintro e w1 ⟨rfl, hw⟩; rw [hw]; clear hw w1) | ((with_reducible refine (HC2.out _).mono ?_); rintro e w1 ⟨rfl, hw⟩; rw [hw]; clear hw w1)))
      go_ret2
      rw [HRV.out]; exact ⟨rfl, Below.refl _ _⟩
  · have HAT2 := Lib.hid (fun W => HAT.out W (by have := HZS.out; omega))
    have hv10 := HLT.out (by have := HZS.out; omega)
    have hv0 : (0 : Int) ≤ (v : Int) := by omega
    have hv1 : (v : Int) ≤ 10000000000 := by omega
    clear hv10
    rcases hs with ⟨hsf, rfl⟩ | ⟨hsf, rfl⟩ | ⟨hsf, rfl⟩
    · have HC1 := Lib.hid (C1.out hsf)
      clear hsf
      by_cases hq : (v : Int) > 2097151
      · have HRV := Lib.hid (HR.out.2 (.inr (by omega)))
        go_enter Tryd.func13, Tryd.ntmps13
        go_wp2_with (first | (go_at_call 21; ((with_reducible refine (HC1.out _).mono ?_); rintro e w1 ⟨rfl, hw⟩; rw [hw]; clear hw w1)) | (go_at_call 22; (with_reducible refine (HTR.out _).mono ?_); rintro e w2 ⟨rfl, hb2⟩; have HB2 := Lib.hid hb2; clear hb2) | (go_at_call 23; (with_reducible refine (HAT2.out _).mono ?_); rintro e w3 ⟨rfl, hb3⟩; have HB3 := Lib.hid (HB2.out.trans (hb3.mono HB2.out.size)); clear hb3))
        go_ret2
        rw [HRV.out]; exact ⟨rfl, HB3.out⟩
      · have HRV := Lib.hid (HR.out.1 (by have := HZS.out; omega) (by omega))
        go_enter Tryd.func13, Tryd.ntmps13
        go_wp2_with (first | (go_at_call 21; ((with_reducible refine (HC1.out _).mono ?_); rintro e w1 ⟨rfl, hw⟩; rw [hw]; clear hw w1)) | (go_at_call 22; (with_reducible refine (HTR.out _).mono ?_); rintro e w2 ⟨rfl, hb2⟩; have HB2 := Lib.hid hb2; clear hb2) | (go_at_call 23; (with_reducible refine (HAT2.out _).mono ?_); rintro e w3 ⟨rfl, hb3⟩; have HB3 := Lib.hid (HB2.out.trans (hb3.mono HB2.out.size)); clear hb3))
        go_ret2
        rw [HRV.out]; exact ⟨by simp, HB3.out⟩
    · have HC1 := Lib.hid (C2.out hsf)
      have HC2 := Lib.hid (C3.out hsf)
      clear hsf
      by_cases hq : (v : Int) > 4194303
      · have HRV := Lib.hid (HR.out.2 (.inr (by omega)))
        go_enter Tryd.func13, Tryd.ntmps13
        go_wp2_with (first | (go_at_call 21; first | ((with_reducible refine (HC1.out _).mono ?_); rintro e w1 ⟨rfl, hw⟩; rw [hw]; clear hw w1) | ((with_reducible refine (HC2.out _).mono ?_); rintro e w1 ⟨rfl, hw⟩; rw [hw]; clear hw w1)) | (go_at_call 22; (with_reducible refine (HTR.out _).mono ?_); rintro e w2 ⟨rfl, hb2⟩; have HB2 := Lib.hid hb2; clear hb2) | (go_at_call 23; (with_reducible refine (HAT2.out _).mono ?_); rintro e w3 ⟨rfl, hb3⟩; have HB3 := Lib.hid (HB2.out.trans (hb3.mono HB2.out.size)); clear hb3))
        go_ret2
        rw [HRV.out]; exact ⟨rfl, HB3.out⟩
      · have HRV := Lib.hid (HR.out.1 (by have := HZS.out; omega) (by omega))
        go_enter Tryd.func13, Tryd.ntmps13
        go_wp2_with (first | (go_at_call 21; first | ((with_reducible refine (HC1.out _).mono ?_); rintro e w1 ⟨rfl, hw⟩; rw [hw]; clear hw w1) | ((with_reducible refine (HC2.out _).mono ?_); rintro e w1 ⟨rfl, hw⟩; rw [hw]; clear hw w1)) | (go_at_call 22; (with_reducible refine (HTR.out _).mono ?_); rintro e w2 ⟨rfl, hb2⟩; have HB2 := Lib.hid hb2; clear hb2) | (go_at_call 23; (with_reducible refine (HAT2.out _).mono ?_); rintro e w3 ⟨rfl, hb3⟩; have HB3 := Lib.hid (HB2.out.trans (hb3.mono HB2.out.size)); clear hb3))
        go_ret2
        rw [HRV.out]; exact ⟨by simp, HB3.out⟩
    · have HC1 := Lib.hid (C4.out hsf)
      have HC2 := Lib.hid (C5.out hsf)
      rw [C6.out hsf] at HC1 HC2 ⊢
      clear hsf
      by_cases hq : (v : Int) > 2147483647
      · have HRV := Lib.hid (HR.out.2 (.inr (by omega)))
        go_enter Tryd.func13, Tryd.ntmps13
        go_wp2_with (first | (go_at_call 21; first | ((with_reducible refine (HC1.out _).mono ?_); rintro e w1 ⟨rfl, hw⟩; rw [hw]; clear hw w1) | ((with_reducible refine (HC2.out _).mono ?_); rintro e w1 ⟨rfl, hw⟩; rw [hw]; clear hw w1)) | (go_at_call 22; (with_reducible refine (HTR.out _).mono ?_); rintro e w2 ⟨rfl, hb2⟩; have HB2 := Lib.hid hb2; clear hb2) | (go_at_call 23; (with_reducible refine (HAT2.out _).mono ?_); rintro e w3 ⟨rfl, hb3⟩; have HB3 := Lib.hid (HB2.out.trans (hb3.mono HB2.out.size)); clear hb3))
        go_ret2
        rw [HRV.out]; exact ⟨rfl, HB3.out⟩
      · have HRV := Lib.hid (HR.out.1 (by have := HZS.out; omega) (by omega))
        go_enter Tryd.func13, Tryd.ntmps13
        go_wp2_with (first | (go_at_call 21; first | ((with_reducible refine (HC1.out _).mono ?_); rintro e w1 ⟨rfl, hw⟩; rw [hw]; clear hw w1) | ((with_reducible refine (HC2.out _).mono ?_); rintro e w1 ⟨rfl, hw⟩; rw [hw]; clear hw w1)) | (go_at_call 22; (with_reducible refine (HTR.out _).mono ?_); rintro e w2 ⟨rfl, hb2⟩; have HB2 := Lib.hid hb2; clear hb2) | (go_at_call 23; (with_reducible refine (HAT2.out _).mono ?_); rintro e w3 ⟨rfl, hb3⟩; have HB3 := Lib.hid (HB2.out.trans (hb3.mono HB2.out.size)); clear hb3))
        go_ret2
        rw [HRV.out]; exact ⟨by simp, HB3.out⟩
end Go.Proofs.YtomnpmfmlbmpeaaDoor.L
