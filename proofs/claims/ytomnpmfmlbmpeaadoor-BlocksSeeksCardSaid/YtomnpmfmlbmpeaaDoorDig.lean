/- Digits, Atoi of them. -/
import Derived.Test.YtomnpmfmlbmpeaaDoorNum
import Derived.Test.YtomnpmfmlbmpeaaDoorLib
import Derived.Test.YtomnpmfmlbmpeaaDoorLx1
namespace Go.Proofs.YtomnpmfmlbmpeaaDoor.L
open Go.RowKit Go.Proofs.YtomnpmfmlbmpeaaDoorW.PrintWords Go.Proofs.YtomnpmfmlbmpeaaDoorW.PrintLast Go.Proofs.YtomnpmfmlbmpeaaDoorW.PrintMore

theorem u64w (x : Int) (h0 : 0 ≤ x) (h1 : x ≤ 18446744073709551615) : IntKind.u64.wrap x = x := IntWalk.u64_in x ⟨h0, h1⟩
theorem dec_at (x : Nat) (hx : x < 18446744073709551616) :
    0 ≤ Int.tmod (x : Int) 10 ∧ Int.tmod (x : Int) 10 ≤ IntKind.u64.wrap (Int.tmod (x : Int) 10 + 1) ∧ IntKind.u64.wrap (Int.tmod (x : Int) 10 + 1) ≤ 10 ∧
      (⟨#[48, 49, 50, 51, 52, 53, 54, 55, 56, 57]⟩ : ByteArray).extract (Int.tmod (x : Int) 10).toNat (IntKind.u64.wrap (Int.tmod (x : Int) 10 + 1)).toNat = B [UInt8.ofNat (48 + x % 10)] := by
  have e1 : Int.tmod (x : Int) 10 = ((x % 10 : Nat) : Int) := by rw [Int.tmod_eq_emod_of_nonneg (by omega)]; omega
  have e2 : IntKind.u64.wrap (((x % 10 : Nat) : Int) + 1) = ((x % 10 + 1 : Nat) : Int) := by rw [u64w _ (by omega) (by omega)]; omega
  rw [e1, e2, Int.toNat_natCast, Int.toNat_natCast]
  exact ⟨by omega, by omega, by omega, dec_str _ (by omega)⟩
theorem digits_loop : ∀ (m x : Nat) (s : List UInt8), x < 10 ^ (m + 1) → x < 18446744073709551616 → s.length + m ≤ 1000 → Ev (fun k => toolchestlaw11_digits.l0 k (x : Int) (B s)) (B (dg m (x / 10) ++ s)) := by
  intro m
  induction m with
  | zero =>
    intro x s hx hx2 hs
    refine Ev.step (f := fun _ => some (B s)) (fun k => ?_) (Ev.now _)
    simp only [toolchestlaw11_digits.l0]
    rw [if_neg (by simp at hx; omega)]
  | succ m ih =>
    intro x s hx hx2 hs
    by_cases h10 : x < 10
    · have e0 : x / 10 = 0 := by omega
      rw [e0, dg_zero, List.nil_append]
      refine Ev.step (f := fun _ => some (B s)) (fun k => ?_) (Ev.now _)
      simp only [toolchestlaw11_digits.l0]
      rw [if_neg (by omega)]
    · have hd : IntKind.u64.wrap (Int.tdiv (x : Int) 10) = ((x / 10 : Nat) : Int) := by
        rw [Int.tdiv_eq_ediv_of_nonneg (by omega), u64w _ (by omega) (by omega)]
        omega
      obtain ⟨q1, q2, q3, q4⟩ := dec_at (x / 10) (by omega)
      have hlt : x / 10 < 10 ^ (m + 1) := by rw [Nat.pow_succ] at hx; exact Nat.div_lt_of_lt_mul (by rw [Nat.mul_comm]; exact hx)
      have e1 : dg (m + 1) (x / 10) ++ s = dg m (x / 10 / 10) ++ (UInt8.ofNat (48 + x / 10 % 10) :: s) := by
        conv => lhs; unfold dg
        rw [if_neg (by omega), List.append_assoc]
        rfl
      rw [e1]
      refine Ev.step (f := fun k => toolchestlaw11_digits.l0 k ((x / 10 : Nat) : Int) (B (UInt8.ofNat (48 + x / 10 % 10) :: s))) (fun k => ?_) (ih (x / 10) (UInt8.ofNat (48 + x / 10 % 10) :: s) hlt (by omega) (by simp only [List.length_cons]; omega))
      simp only [toolchestlaw11_digits.l0]
      rw [if_pos (by omega), hd, if_pos q1, if_pos q2, if_pos q3, q4, if_pos (by rw [B_size, B_size]; simp; omega), B_append]
      rfl
theorem digits_ev (n : Nat) (h : n < 18446744073709551616) : Ev (fun k => toolchestlaw11_digits.f k (n : Int)) (B (digs n)) := by
  obtain ⟨q1, q2, q3, q4⟩ := dec_at n h
  unfold toolchestlaw11_digits.f
  simp only [if_pos q1, if_pos q2, if_pos q3, q4]
  exact digits_loop 20 n [UInt8.ofNat (48 + n % 10)] (by have : (10 : Nat) ^ (20 + 1) = 1000000000000000000000 := by decide
                                                         omega) h (by simp)

theorem B_tl (l : List UInt8) : (B l).toList = l := by rw [Lib.toList_data, B_toList]
theorem atoi_digits (z : List UInt8) (hz : z ≠ []) (hd : ∀ c ∈ z, isDig c) (hl : z.length ≤ 18) : strconv_Atoi.f (B z) = some ((dval z : Int), none) := by
  have hp : Lib.parseMag z = .ok (dval z) := by
    unfold Lib.parseMag
    rw [if_neg hz]
    exact parse_dig z 0 0 (by simp) (by omega) hd
  have hlt : dval z < 1000000000000000000 := by
    have h1 := dval_lt z hd
    have h2 : (10 : Nat) ^ z.length ≤ 10 ^ 18 := Nat.pow_le_pow_right (by omega) hl
    have h3 : (10 : Nat) ^ 18 = 1000000000000000000 := by decide
    omega
  unfold strconv_Atoi.f
  have hsz : (B z).size ≤ 9223372036854775806 := by
    rw [B_size]
    omega
  rw [if_pos hsz, B_toList]
  cases z with
  | nil => exact absurd rfl hz
  | cons c r =>
    have hc := hd c (by simp)
    unfold isDig at hc
    unfold Lib.atoiAll
    simp only
    rw [if_neg (by omega), hp]
    simp only
    rw [if_neg (by omega), if_neg (by omega), if_neg (by omega)]
theorem trim_ev (z : List UInt8) (hd : ∀ c ∈ z, isDig c) (hl : z.length ≤ 1000) : strings_Trim.f (B z) ⟨#[48, 49, 50, 51, 52, 53, 54, 55, 56, 57]⟩ = some (B []) := by
  unfold strings_Trim.f
  rw [if_pos ⟨by rw [B_size]; omega, by decide, by decide⟩, B_toList]
  rw [show (⟨#[48, 49, 50, 51, 52, 53, 54, 55, 56, 57]⟩ : ByteArray).data.toList = [48, 49, 50, 51, 52, 53, 54, 55, 56, 57] from rfl, trim_digits z hd]
  rfl
end Go.Proofs.YtomnpmfmlbmpeaaDoor.L
