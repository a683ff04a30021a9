/- BlocksCounts' plain law. -/
import Derived.Test.YtomnpmfmlbmpeaaDoorPartsP
namespace Go.Proofs.YtomnpmfmlbmpeaaDoor.L
open Go.RowKit Go.Proofs.YtomnpmfmlbmpeaaDoorW.PrintWords

theorem work_len (p : Pl) (xs : List Int) : (workB p xs).length = (filled p.sy p.i xs).length := by
  unfold workB
  rw [List.length_map, List.length_map, turned_len]
theorem goesL_len_full (f : List Int → List Int) (i : Nat) (hf : ∀ xs : List Int, xs.length ≤ i → (f xs).length = i) (S : List Int) (s0 : Nat) : ∀ k, (goesL f i S s0 k).length = k * i
  | 0 => by simp [goesL]
  | k + 1 => by
    simp only [goesL]
    rw [List.length_append, goesL_len_full f i hf S s0 k, hf _ (by rw [List.length_take]; omega), Nat.succ_mul]

theorem counts_nat (i L N : Nat) (hi : 1 ≤ i) (hN : N ≤ (L + i - 1) / i) : N - min N (L / i) ≤ 1 ∧ min N (L / i) ≤ N ∧
    (N - min N (L / i) = 0 → min (N * i) L = min N (L / i) * i) ∧ (N - min N (L / i) = 1 → min (N * i) L = min N (L / i) * i + L % i ∧ 0 < L) := by
  have h1 : L / i * i ≤ L := Nat.div_mul_le_self _ _
  have h2 : i * (L / i) + L % i = L := Nat.div_add_mod L i
  have h3 := Nat.mod_lt L (show i > 0 by omega)
  have h4 : N * i ≤ L + i - 1 := Nat.le_trans (Nat.mul_le_mul_right _ hN) (Nat.div_mul_le_self _ _)
  rw [Nat.mul_comm] at h2
  have h5 : N ≤ L / i + 1 := by
    rcases Nat.lt_or_ge (L / i + 1) N with h | h
    · have h6 : (L / i + 2) * i ≤ N * i := Nat.mul_le_mul_right _ h
      rw [Nat.add_mul] at h6
      omega
    · exact h
  refine ⟨by omega, Nat.min_le_left _ _, fun h => ?_, fun h => ?_⟩
  · have h6 : N ≤ L / i := by omega
    have h7 : N * i ≤ L / i * i := Nat.mul_le_mul_right _ h6
    rw [Nat.min_eq_left h6, Nat.min_eq_left (by omega)]
  · have h6 : N = L / i + 1 := by omega
    have h7 : N * i = L / i * i + i := by rw [h6, Nat.succ_mul]
    rw [Nat.min_eq_right (show L / i ≤ N by omega), Nat.min_eq_right (show L ≤ N * i by omega)]
    refine ⟨by omega, ?_⟩
    rcases Nat.eq_zero_or_pos L with h8 | h8
    · subst h8
      rw [Nat.zero_div] at h6
      omega
    · exact h8

theorem counts_out (p : Pl) (hok : p.ok = true) (h100 : p.i ≤ 100) (hse : p.se = 0) (s : ByteArray) (hs : s.size ≤ 5000) :
    ∃ (r : ByteArray) (n0 n1 : Nat) (n2 n3 : Int), runOut p s ⟨#[]⟩ = (r, (n0 : Int), (n1 : Int), n2, n3, 0) ∧ n1 ≤ 1 ∧ n0 ≤ 5000 ∧ r.size ≤ 6000 ∧ n2 = (r.size : Int) / p.o ∧ n3 = min ((r.size : Int) % p.o) 1 ∧
      (p.sy = true → (r.size : Int) = ((n0 : Int) + n1) * p.i) ∧ (p.sy = false → (r.size : Int) = (n0 : Int) * p.i + (if n1 = 1 then (s.size : Int) % p.i else 0)) ∧ (p.ct < 0 ∨ (n0 : Int) + n1 ≤ p.ct) := by
  obtain ⟨⟨hi1, hi2⟩, ⟨ho1, ho2⟩, ⟨hk1, hk2⟩, _⟩ := ok_facts hok
  obtain ⟨i, hi⟩ : ∃ i : Nat, p.i = (i : Int) := ⟨p.i.toNat, by omega⟩
  have hit : p.i.toNat = i := by rw [hi]; rfl
  have h0 : p.se * p.o = 0 := by rw [hse]; omega
  obtain ⟨N, hN⟩ : ∃ N, nB p s.size = N := ⟨_, rfl⟩
  obtain ⟨L, hL⟩ : ∃ L, s.size - st p s.size = L := ⟨_, rfl⟩
  have hNm := nB_mul p hi1 s.size
  have hNc : N ≤ (L + i - 1) / i := by
    rw [← hN]
    unfold nB
    rw [hL, hit]
    split
    · exact Nat.le_refl _
    · exact Nat.min_le_left _ _
  have hNle := nB_le p s.size hi1
  rw [hN, hit, hL] at hNm
  rw [hN] at hNle
  have hg := goesK_le p hi1 s N
  rw [hit] at hg
  have hr := runOut_with p s ⟨#[]⟩ _ (by rw [hN, h0]; omega) (out8_zero p s _ h0 (.inr rfl))
  rw [hN] at hr
  have hw : wholeK p s N = min N (L / i) := by
    rw [wholeK_L p hi1 s N, hit, wholeL_min i (by omega), ints_len, hL]
  have hwp := whole_part p s N
  obtain ⟨c1, c2, c3, c4⟩ := counts_nat i L N (by omega) hNc
  rw [← hw] at c1 c2 c3 c4
  have hpe : partK p s N = N - wholeK p s N := by omega
  rw [← hpe] at c1 c3 c4
  have hsz : (ofInts (goesK p s N)).size = (goesK p s N).length := ofInts_size _
  refine ⟨_, wholeK p s N, partK p s N, _, _, hr, c1, by omega, by rw [hsz]; omega, by rw [hsz], by rw [hsz], fun hy => ?_, fun hy => ?_, ?_⟩
  · rw [hsz, goesK_L, hit, goesL_len_full _ i (fun xs hx => by
      rw [work_len]
      unfold filled
      rw [if_pos hy, List.length_append, List.length_replicate, hit]
      omega), hi, ← Int.natCast_add, hwp, Int.natCast_mul]
  · have hlen : (goesK p s N).length = min (N * i) L := by
      rw [goesK_L, hit, goesL_len _ (fun xs => by rw [work_len]; unfold filled; rw [if_neg (by rw [hy]; simp)]), ints_len, hL]
    rw [hsz, hlen, hi]
    by_cases h1 : partK p s N = 1
    · obtain ⟨e1, e2⟩ := c4 h1
      have hmod : L % i = s.size % i := by
        have hst : st p s.size = p.sk.toNat * i := by
          have e3 : (p.sk * p.i).toNat = p.sk.toNat * i := by
            rw [hi]
            obtain ⟨k, hk⟩ : ∃ k : Nat, p.sk = (k : Int) := ⟨p.sk.toNat, by omega⟩
            rw [hk, ← Int.natCast_mul, Int.toNat_natCast, Int.toNat_natCast]
          unfold st at hL ⊢
          rw [e3] at hL ⊢
          omega
        have hle : p.sk.toNat * i ≤ s.size := by omega
        rw [← hL, hst, Nat.mul_comm, Nat.sub_mul_mod (by rw [Nat.mul_comm]; exact hle)]
      rw [if_pos h1, e1, hmod]
      simp
    · have h2 : partK p s N = 0 := by omega
      rw [if_neg h1, c3 h2]
      simp
  · by_cases hc : p.ct < 0
    · exact .inl hc
    · right
      have : N ≤ p.ct.toNat := by
        rw [← hN]
        unfold nB
        rw [if_neg hc]
        exact Nat.min_le_right _ _
      omega
/-- The fourth number told otherwise. -/
theorem fourth (l o : Int) (_hl : 0 ≤ l) (ho : 1 ≤ o) : min (l % o) 1 = (l % o + o - 1) / o := by
  have h1 := Int.emod_nonneg l (show o ≠ 0 by omega)
  have h2 := Int.emod_lt_of_pos l (show 0 < o by omega)
  by_cases h : l % o = 0
  · rw [h]
    have : (0 + o - 1) / o = 0 := Int.ediv_eq_zero_of_lt (by omega) (by omega)
    rw [this]
    rfl
  · have : (l % o + o - 1) / o = 1 := by
      have e : l % o + o - 1 = (l % o - 1) + o := by omega
      rw [e, Int.add_ediv_of_dvd_right (Int.dvd_refl o), Int.ediv_self (by omega), Int.ediv_eq_zero_of_lt (by omega) (by omega)]
      rfl
    rw [this]
    omega
end Go.Proofs.YtomnpmfmlbmpeaaDoor.L
