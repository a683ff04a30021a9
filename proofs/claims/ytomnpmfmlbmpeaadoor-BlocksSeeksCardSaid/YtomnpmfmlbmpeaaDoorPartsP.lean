/- BlocksParts', BlocksCounts', BlocksSeeks' plain laws. -/
import Derived.Test.YtomnpmfmlbmpeaaDoorPlainP
namespace Go.Proofs.YtomnpmfmlbmpeaaDoor.L
open Go.RowKit Go.Proofs.YtomnpmfmlbmpeaaDoorW.PrintWords

theorem goesL_len_le (f : List Int → List Int) (i : Nat) (hf : ∀ xs : List Int, xs.length ≤ i → (f xs).length ≤ i) (S : List Int) (s0 : Nat) : ∀ k, (goesL f i S s0 k).length ≤ k * i
  | 0 => by simp [goesL]
  | k + 1 => by
    simp only [goesL]
    have h1 := goesL_len_le f i hf S s0 k
    have h2 := hf ((S.drop (s0 + k * i)).take i) (by rw [List.length_take]; omega)
    rw [List.length_append, Nat.succ_mul]
    omega
theorem work_le (p : Pl) (hi : 1 ≤ p.i) (xs : List Int) (h : xs.length ≤ p.i.toNat) : (workB p xs).length ≤ p.i.toNat := by
  have := workB_len p xs (by omega)
  omega
theorem partK_eq (p : Pl) (s : ByteArray) (k : Nat) : partK p s k = k - wholeK p s k := by have := whole_part p s k; omega
theorem goesK_le (p : Pl) (hi : 1 ≤ p.i) (s : ByteArray) (k : Nat) : (goesK p s k).length ≤ k * p.i.toNat := by
  rw [goesK_L]
  exact goesL_len_le _ _ (fun xs h => work_le p hi xs h) _ _ k
theorem nB_mul (p : Pl) (hi : 1 ≤ p.i) (len : Nat) : nB p len * p.i.toNat ≤ len - st p len + p.i.toNat - 1 := by
  have h := ceil_le (len - st p len) p.i.toNat (by omega)
  unfold nB
  split
  · exact h
  · exact Nat.le_trans (Nat.mul_le_mul_right _ (Nat.min_le_left _ _)) h

/-- The counts beside the text. -/
theorem runOut_with (p : Pl) (s o r : ByteArray) (h : ¬ p.se * p.o + (goesK p s (nB p s.size)).length > 1048576) (hr : (⟨(out8 p s o).toArray⟩ : ByteArray) = r) :
    runOut p s o = (r, (wholeK p s (nB p s.size) : Int), (partK p s (nB p s.size) : Int), (goesK p s (nB p s.size)).length / p.o, min ((goesK p s (nB p s.size)).length % p.o) 1, 0) := by
  rw [runOut_room p s o h, hr]

/-- A plan with other skips, counts, seeks. -/
def Pl.with (p : Pl) (sk ct se : Int) : Pl := ⟨p.i, p.o, sk, ct, se, p.kp, p.sw, p.up, p.lo, p.sy⟩
theorem with_ok {p : Pl} (h : p.ok = true) (sk ct se : Int) (h1 : 0 ≤ sk ∧ sk ≤ 2147483647) (h2 : 0 ≤ se ∧ se ≤ 2147483647) : (p.with sk ct se).ok = true := by
  obtain ⟨a, b, _, _, e⟩ := ok_facts h
  unfold Pl.ok Pl.with
  simp only
  rw [decide_eq_true a, decide_eq_true b, decide_eq_true h1, decide_eq_true h2, e]
  rfl
theorem with_work (p : Pl) (sk ct se : Int) : workB (p.with sk ct se) = workB p := rfl

theorem parts_out (p : Pl) (hok : p.ok = true) (at_ : Nat) (hat : at_ ≤ 65535) (s : ByteArray) (hs : s.size ≤ 50000) :
    ∃ (a b : ByteArray) (w1 w2 q1 q2 : Nat) (z u z1 u1 z2 u2 : Int), runOut (p.with 0 (-1) 0) s ⟨#[]⟩ = (a ++ b, (w1 : Int) + w2, (q1 : Int) + q2, z, u, 0) ∧
      runOut (p.with 0 at_ 0) s ⟨#[]⟩ = (a, (w1 : Int), (q1 : Int), z1, u1, 0) ∧ runOut (p.with at_ (-1) 0) s ⟨#[]⟩ = (b, (w2 : Int), (q2 : Int), z2, u2, 0) ∧ w1 + w2 ≤ 50000 ∧ q1 + q2 ≤ 50000 ∧ a.size ≤ 200000 ∧ b.size ≤ 200000 := by
  obtain ⟨⟨hi1, hi2⟩, _⟩ := ok_facts hok
  obtain ⟨i, hi⟩ : ∃ i, p.i.toNat = i := ⟨_, rfl⟩
  have hi3 : 1 ≤ i ∧ i ≤ 65536 := by omega
  obtain ⟨n, hn⟩ : ∃ n, s.size = n := ⟨_, rfl⟩
  obtain ⟨N, hN⟩ : ∃ N, (n + i - 1) / i = N := ⟨_, rfl⟩
  have hN1 : N * i ≤ n + i - 1 := by rw [← hN]; exact ceil_le _ _ hi3.1
  have hN2 : n ≤ N * i := by rw [← hN]; exact ceil_ge _ _ hi3.1
  have hN3 : N ≤ n := by
    have := nB_le (p.with 0 (-1) 0) n hi1
    rw [nB_neg _ _ (by decide : (-1 : Int) < 0), st_zero _ _ rfl] at this
    rw [show (p.with 0 (-1) 0).i.toNat = i from hi, Nat.sub_zero, hN] at this
    exact this
  have n0 : nB (p.with 0 (-1) 0) n = N := by
    rw [nB_neg _ _ (by decide : (-1 : Int) < 0), st_zero _ _ rfl, show (p.with 0 (-1) 0).i.toNat = i from hi, Nat.sub_zero, hN]
  have n1 : nB (p.with 0 at_ 0) n = min N at_ := by
    unfold nB
    rw [if_neg (show ¬ ((p.with 0 at_ 0).ct < 0) from (show ¬ ((at_ : Int) < 0) by omega)), st_zero _ _ rfl, show (p.with 0 at_ 0).i.toNat = i from hi, Nat.sub_zero, hN]
    rfl
  have s2 : st (p.with at_ (-1) 0) n = min (at_ * i) n := by
    unfold st
    have : ((p.with at_ (-1) 0).sk * (p.with at_ (-1) 0).i).toNat = at_ * i := by
      show ((at_ : Int) * p.i).toNat = at_ * i
      have : p.i = (i : Int) := by omega
      rw [this, ← Int.natCast_mul, Int.toNat_natCast]
    rw [this]
  have n2 : nB (p.with at_ (-1) 0) n = (n - min (at_ * i) n + i - 1) / i := by
    rw [nB_neg _ _ (by decide : (-1 : Int) < 0), s2, show (p.with at_ (-1) 0).i.toNat = i from hi]
  have i0 : ∀ a b c, (p.with a b c).i.toNat = i := fun _ _ _ => hi
  have g : ∀ a b c k, goesK (p.with a b c) s k = goesL (workB p) i (ints s) (st (p.with a b c) n) k := fun a b c k => by
    rw [goesK_L, with_work, i0, hn]
  have wh : ∀ a b c k, wholeK (p.with a b c) s k = wholeL i (ints s) (st (p.with a b c) n) k := fun a b c k => by
    rw [wholeK_L (p.with a b c) hi1, i0, hn]
  have key : goesK (p.with 0 (-1) 0) s N = goesK (p.with 0 at_ 0) s (min N at_) ++ goesK (p.with at_ (-1) 0) s ((n - min (at_ * i) n + i - 1) / i) ∧
      wholeK (p.with 0 (-1) 0) s N = wholeK (p.with 0 at_ 0) s (min N at_) + wholeK (p.with at_ (-1) 0) s ((n - min (at_ * i) n + i - 1) / i) ∧ N = min N at_ + (n - min (at_ * i) n + i - 1) / i := by
    rw [g, g, g, wh, wh, wh, st_zero _ _ rfl, st_zero _ _ rfl, s2]
    by_cases h : at_ * i ≤ n
    · have e1 : at_ ≤ N := by
        rcases Nat.lt_or_ge N at_ with h2 | h2
        · have h3 : (N + 1) * i ≤ at_ * i := Nat.mul_le_mul_right _ h2
          rw [Nat.succ_mul] at h3
          omega
        · exact h2
      have e2 : (n - at_ * i + i - 1) / i = N - at_ := by
        rw [← hN, show n - at_ * i + i - 1 = n + i - 1 - i * at_ by rw [Nat.mul_comm i at_]; omega, Nat.sub_mul_div]
      rw [Nat.min_eq_left h, Nat.min_eq_right e1, e2]
      have a1 := goesL_add (workB p) i (ints s) 0 at_ (N - at_)
      have a2 := wholeL_add i (ints s) 0 at_ (N - at_)
      rw [show at_ + (N - at_) = N by omega, Nat.zero_add] at a1 a2
      exact ⟨a1, a2, by omega⟩
    · have e1 : N ≤ at_ := by
        rcases Nat.lt_or_ge at_ N with h2 | h2
        · have h3 : (at_ + 1) * i ≤ N * i := Nat.mul_le_mul_right _ h2
          rw [Nat.succ_mul] at h3
          omega
        · exact h2
      have e2 : (n - n + i - 1) / i = 0 := Nat.div_eq_of_lt (by omega)
      rw [Nat.min_eq_right (show n ≤ at_ * i by omega), Nat.min_eq_left e1, e2]
      exact ⟨by simp [goesL], by simp [wholeL], by omega⟩
  obtain ⟨k1, k2, k3⟩ := key
  have z0 : ∀ a b, (p.with a b 0).se * (p.with a b 0).o = 0 := fun a b => by show (0 : Int) * p.o = 0; omega
  have l0 := goesK_le (p.with 0 (-1) 0) hi1 s N
  rw [i0] at l0
  have l1 := congrArg List.length k1
  rw [List.length_append] at l1
  have r0 := runOut_with (p.with 0 (-1) 0) s ⟨#[]⟩ _ (by rw [hn, n0, z0]; omega) (out8_zero _ s _ (z0 _ _) (.inr rfl))
  have r1 := runOut_with (p.with 0 at_ 0) s ⟨#[]⟩ _ (by rw [hn, n1, z0]; omega) (out8_zero _ s _ (z0 _ _) (.inr rfl))
  have r2 := runOut_with (p.with at_ (-1) 0) s ⟨#[]⟩ _ (by rw [hn, n2, z0]; omega) (out8_zero _ s _ (z0 _ _) (.inr rfl))
  rw [hn, n0, k1, ← ofInts_append, partK_eq, k2] at r0
  rw [hn, n1] at r1
  rw [hn, n2] at r2
  have w1 := whole_part (p.with 0 at_ 0) s (min N at_)
  have w2 := whole_part (p.with at_ (-1) 0) s ((n - min (at_ * i) n + i - 1) / i)
  have w0 := whole_part (p.with 0 (-1) 0) s N
  rw [show N - (wholeK (p.with 0 at_ 0) s (min N at_) + wholeK (p.with at_ (-1) 0) s ((n - min (at_ * i) n + i - 1) / i)) = partK (p.with 0 at_ 0) s (min N at_) + partK (p.with at_ (-1) 0) s ((n - min (at_ * i) n + i - 1) / i) by omega, Int.natCast_add, Int.natCast_add] at r0
  exact ⟨_, _, _, _, _, _, _, _, _, _, _, _, r0, r1, r2, by omega, by omega, by rw [ofInts_size]; omega, by rw [ofInts_size]; omega⟩
end Go.Proofs.YtomnpmfmlbmpeaaDoor.L
