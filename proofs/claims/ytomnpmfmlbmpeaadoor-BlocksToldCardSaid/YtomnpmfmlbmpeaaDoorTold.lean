/- BlocksTold: the walk. -/
import Derived.Test.YtomnpmfmlbmpeaaDoorAlive
namespace Go.Proofs.YtomnpmfmlbmpeaaDoor.L
open Go.RowKit Go.Proofs.YtomnpmfmlbmpeaaDoorW.PrintWords Go.Proofs.YtomnpmfmlbmpeaaDoorW.PrintLast Go.Proofs.YtomnpmfmlbmpeaaDoorW.PrintMore

theorem dg_len2 : ∀ (m x k : Nat), x < 10 ^ k → (dg m x).length ≤ k := by
  intro m
  induction m with
  | zero => intro x k _; simp [dg]
  | succ m ih =>
    intro x k h
    unfold dg
    split
    · simp
    · rename_i h0
      cases k with
      | zero => simp at h; omega
      | succ k =>
        rw [List.length_append]
        have := ih (x / 10) k (by rw [Nat.pow_succ] at h; exact Nat.div_lt_of_lt_mul (by rw [Nat.mul_comm]; exact h))
        simp
        omega
theorem digs_len10 (n : Nat) (h : n ≤ 2147483647) : (digs n).length ≤ 10 := by
  unfold digs
  rw [List.length_append]
  have := dg_len2 20 (n / 10) 9 (by have : (10 : Nat) ^ 9 = 1000000000 := by decide
                                    omega)
  simp
  omega
theorem sizeN_digs (n t : Nat) (h : n < 18446744073709551616) (_ht : 1 ≤ t) : sizeN (digs n) t = if n ≤ 2147483647 / t then (((n * t : Nat) : Int), true) else (0, false) := by
  unfold sizeN
  rw [digs_val n h]
  by_cases h1 : n ≤ 2147483647 / t
  · have : 2147483647 / t ≤ 2147483647 := Nat.div_le_self _ _
    rw [if_pos ⟨digs_len10 n (by omega), h1⟩, if_pos h1]
  · rw [if_neg (fun h => h1 h.2), if_neg h1]
theorem digs_ne (n : Nat) : digs n ≠ [] := by unfold digs; simp

set_option maxHeartbeats 4000000 in
set_option maxRecDepth 100000 in
theorem told_walk (n : Nat) (h : n < 18446744073709551616) (w : World) : Calls Tryd.prog 8 #[.int .u64 n] w fun e w' => e = .returned (.bool true) ∧ Below w.heap.size w w' := by
  obtain ⟨k, hk⟩ := digits_ev n h
  have hdg := fun W => toolchestlaw11_digits.calls k (n : Int) (B (digs n)) W (hk k (Nat.le_refl _))
  have hln := Nat.le_trans (digs_len n) (show 21 ≤ 1000 by omega)
  have hs1 := fun W => size_calls (digs n) [] 1 (digs_ne n) (digs_dig n) hln (.inr (.inr ⟨rfl, rfl⟩)) W
  have hs2 := fun W => size_calls (digs n) [107] 1024 (digs_ne n) (digs_dig n) hln (.inl ⟨rfl, rfl⟩) W
  have hs3 := fun W => size_calls (digs n) [98] 512 (digs_ne n) (digs_dig n) hln (.inr (.inl ⟨rfl, rfl⟩)) W
  rw [List.append_nil, sizeN_digs n 1 h (by omega)] at hs1
  rw [← B_append, sizeN_digs n 1024 h (by omega)] at hs2
  rw [← B_append, sizeN_digs n 512 h (by omega)] at hs3
  have hsz : (B (digs n)).size ≤ 1000 := by rw [B_size]; exact hln
  obtain ⟨z, hz⟩ : ∃ z, B (digs n) = z := ⟨_, rfl⟩
  rw [hz] at hdg hs1 hs2 hs3 hsz
  have e1 : B [107] = ⟨#[107]⟩ := rfl
  have e2 : B [98] = ⟨#[98]⟩ := rfl
  rw [e1] at hs2
  rw [e2] at hs3
  have HD := Lib.hid hdg
  clear hdg hz e1 e2 hk hln
  by_cases c1 : n ≤ 2097151
  · rw [if_pos (by omega)] at hs1
    rw [if_pos (by omega)] at hs2
    rw [if_pos (by omega)] at hs3
    have S1 := Lib.hid hs1
    have S2 := Lib.hid hs2
    have S3 := Lib.hid hs3
    clear hs1 hs2 hs3
    dsimp only at S1 S2 S3
    have hw : IntKind.i64.wrap (n : Int) = n := by rw [IntKind.wrap_i64]; omega
    have hm5 : ((n : Int) * 512 == 512 * (n : Int)) = true := beq_iff_eq.2 (by omega)
    have hm10 : ((n : Int) * 1024 == 1024 * (n : Int)) = true := beq_iff_eq.2 (by omega)
    have g0 : decide ((n : Int) ≤ 2147483647) = true := decide_eq_true (by omega)
    have i0 : ((n : Int) ≤ 2147483647) := by omega
    have g1 : decide ((n : Int) ≤ 2097151) = true := decide_eq_true (by omega)
    have i1 : ((n : Int) ≤ 2097151) := by omega
    have g2 : decide ((n : Int) ≤ 4194303) = true := decide_eq_true (by omega)
    have i2 : ((n : Int) ≤ 4194303) := by omega
    go_enter Tryd.func8, Tryd.ntmps8
    go_wp2_with fail
    refine (HD.out _).mono ?_
    rintro e w1 ⟨rfl, hb⟩
    have HB1 := Lib.hid hb.below
    clear hb
    go_wp2_with fail
    refine (S1.out _).mono ?_
    rintro e w2 ⟨rfl, hb⟩
    have HB2 := Lib.hid (HB1.out.trans (hb.mono HB1.out.size))
    clear hb
    go_wp2_with fail
    refine (S2.out _).mono ?_
    rintro e w3 ⟨rfl, hb⟩
    have HB3 := Lib.hid (HB2.out.trans (hb.mono HB2.out.size))
    clear hb
    go_wp2_with fail
    refine (S3.out _).mono ?_
    rintro e w4 ⟨rfl, hb⟩
    have HB4 := Lib.hid (HB3.out.trans (hb.mono HB3.out.size))
    clear hb
    go_wp2_with fail
    refine (alive_walk _).mono ?_
    rintro e w5 ⟨rfl, hb⟩
    have HB5 := Lib.hid (HB4.out.trans (hb.mono HB4.out.size))
    clear hb
    go_wp2_with fail
    go_ret
    exact ⟨rfl, HB5.out⟩
  · by_cases c2 : n ≤ 4194303
    · rw [if_pos (by omega)] at hs1
      rw [if_neg (by omega)] at hs2
      rw [if_pos (by omega)] at hs3
      have S1 := Lib.hid hs1
      have S2 := Lib.hid hs2
      have S3 := Lib.hid hs3
      clear hs1 hs2 hs3
      dsimp only at S1 S2 S3
      have hw : IntKind.i64.wrap (n : Int) = n := by rw [IntKind.wrap_i64]; omega
      have hm5 : ((n : Int) * 512 == 512 * (n : Int)) = true := beq_iff_eq.2 (by omega)
      have hm10 : ((n : Int) * 1024 == 1024 * (n : Int)) = true := beq_iff_eq.2 (by omega)
      have g0 : decide ((n : Int) ≤ 2147483647) = true := decide_eq_true (by omega)
      have i0 : ((n : Int) ≤ 2147483647) := by omega
      have g1 : decide ((n : Int) ≤ 2097151) = false := decide_eq_false (by omega)
      have i1 : ¬ ((n : Int) ≤ 2097151) := by omega
      have g2 : decide ((n : Int) ≤ 4194303) = true := decide_eq_true (by omega)
      have i2 : ((n : Int) ≤ 4194303) := by omega
      go_enter Tryd.func8, Tryd.ntmps8
      go_wp2_with fail
      refine (HD.out _).mono ?_
      rintro e w1 ⟨rfl, hb⟩
      have HB1 := Lib.hid hb.below
      clear hb
      go_wp2_with fail
      refine (S1.out _).mono ?_
      rintro e w2 ⟨rfl, hb⟩
      have HB2 := Lib.hid (HB1.out.trans (hb.mono HB1.out.size))
      clear hb
      go_wp2_with fail
      refine (S2.out _).mono ?_
      rintro e w3 ⟨rfl, hb⟩
      have HB3 := Lib.hid (HB2.out.trans (hb.mono HB2.out.size))
      clear hb
      go_wp2_with fail
      refine (S3.out _).mono ?_
      rintro e w4 ⟨rfl, hb⟩
      have HB4 := Lib.hid (HB3.out.trans (hb.mono HB3.out.size))
      clear hb
      go_wp2_with fail
      refine (alive_walk _).mono ?_
      rintro e w5 ⟨rfl, hb⟩
      have HB5 := Lib.hid (HB4.out.trans (hb.mono HB4.out.size))
      clear hb
      go_wp2_with fail
      go_ret
      exact ⟨rfl, HB5.out⟩
    · by_cases c3 : n ≤ 2147483647
      · rw [if_pos (by omega)] at hs1
        rw [if_neg (by omega)] at hs2
        rw [if_neg (by omega)] at hs3
        have S1 := Lib.hid hs1
        have S2 := Lib.hid hs2
        have S3 := Lib.hid hs3
        clear hs1 hs2 hs3
        dsimp only at S1 S2 S3
        have hw : IntKind.i64.wrap (n : Int) = n := by rw [IntKind.wrap_i64]; omega
        have hm5 : ((n : Int) * 512 == 512 * (n : Int)) = true := beq_iff_eq.2 (by omega)
        have hm10 : ((n : Int) * 1024 == 1024 * (n : Int)) = true := beq_iff_eq.2 (by omega)
        have g0 : decide ((n : Int) ≤ 2147483647) = true := decide_eq_true (by omega)
        have i0 : ((n : Int) ≤ 2147483647) := by omega
        have g1 : decide ((n : Int) ≤ 2097151) = false := decide_eq_false (by omega)
        have i1 : ¬ ((n : Int) ≤ 2097151) := by omega
        have g2 : decide ((n : Int) ≤ 4194303) = false := decide_eq_false (by omega)
        have i2 : ¬ ((n : Int) ≤ 4194303) := by omega
        go_enter Tryd.func8, Tryd.ntmps8
        go_wp2_with fail
        refine (HD.out _).mono ?_
        rintro e w1 ⟨rfl, hb⟩
        have HB1 := Lib.hid hb.below
        clear hb
        go_wp2_with fail
        refine (S1.out _).mono ?_
        rintro e w2 ⟨rfl, hb⟩
        have HB2 := Lib.hid (HB1.out.trans (hb.mono HB1.out.size))
        clear hb
        go_wp2_with fail
        refine (S2.out _).mono ?_
        rintro e w3 ⟨rfl, hb⟩
        have HB3 := Lib.hid (HB2.out.trans (hb.mono HB2.out.size))
        clear hb
        go_wp2_with fail
        refine (S3.out _).mono ?_
        rintro e w4 ⟨rfl, hb⟩
        have HB4 := Lib.hid (HB3.out.trans (hb.mono HB3.out.size))
        clear hb
        go_wp2_with fail
        refine (alive_walk _).mono ?_
        rintro e w5 ⟨rfl, hb⟩
        have HB5 := Lib.hid (HB4.out.trans (hb.mono HB4.out.size))
        clear hb
        go_wp2_with fail
        go_ret
        exact ⟨rfl, HB5.out⟩
      · rw [if_neg (by omega)] at hs1
        rw [if_neg (by omega)] at hs2
        rw [if_neg (by omega)] at hs3
        have S1 := Lib.hid hs1
        have S2 := Lib.hid hs2
        have S3 := Lib.hid hs3
        clear hs1 hs2 hs3
        dsimp only at S1 S2 S3
        have hm5 : ((n : Int) * 512 == 512 * (n : Int)) = true := beq_iff_eq.2 (by omega)
        have hm10 : ((n : Int) * 1024 == 1024 * (n : Int)) = true := beq_iff_eq.2 (by omega)
        have g0 : decide ((n : Int) ≤ 2147483647) = false := decide_eq_false (by omega)
        have i0 : ¬ ((n : Int) ≤ 2147483647) := by omega
        have g1 : decide ((n : Int) ≤ 2097151) = false := decide_eq_false (by omega)
        have i1 : ¬ ((n : Int) ≤ 2097151) := by omega
        have g2 : decide ((n : Int) ≤ 4194303) = false := decide_eq_false (by omega)
        have i2 : ¬ ((n : Int) ≤ 4194303) := by omega
        go_enter Tryd.func8, Tryd.ntmps8
        go_wp2_with fail
        refine (HD.out _).mono ?_
        rintro e w1 ⟨rfl, hb⟩
        have HB1 := Lib.hid hb.below
        clear hb
        go_wp2_with fail
        refine (S1.out _).mono ?_
        rintro e w2 ⟨rfl, hb⟩
        have HB2 := Lib.hid (HB1.out.trans (hb.mono HB1.out.size))
        clear hb
        go_wp2_with fail
        refine (S2.out _).mono ?_
        rintro e w3 ⟨rfl, hb⟩
        have HB3 := Lib.hid (HB2.out.trans (hb.mono HB2.out.size))
        clear hb
        go_wp2_with fail
        refine (S3.out _).mono ?_
        rintro e w4 ⟨rfl, hb⟩
        have HB4 := Lib.hid (HB3.out.trans (hb.mono HB3.out.size))
        clear hb
        go_wp2_with fail
        refine (alive_walk _).mono ?_
        rintro e w5 ⟨rfl, hb⟩
        have HB5 := Lib.hid (HB4.out.trans (hb.mono HB4.out.size))
        clear hb
        go_wp2_with fail
        go_ret
        exact ⟨rfl, HB5.out⟩
def toolchestlaw11_BlocksTold.f (a0 : Int) : Option Bool := if 0 ≤ a0 ∧ a0 ≤ 18446744073709551615 then some true else none
theorem toolchestlaw11_BlocksTold.calls (a0 : Int) (r : Bool) (w : World) (h : toolchestlaw11_BlocksTold.f a0 = some r) :
    Calls Tryd.prog 8 #[.int .u64 a0] w fun e w' => e = .returned (.bool r) ∧ Below w.heap.size w w' := by
  unfold toolchestlaw11_BlocksTold.f at h
  by_cases hc : 0 ≤ a0 ∧ a0 ≤ 18446744073709551615
  · rw [if_pos hc] at h
    obtain rfl : true = r := Option.some.inj h
    have e : ((a0.toNat : Nat) : Int) = a0 := by omega
    have := told_walk a0.toNat (by omega) w
    rw [e] at this
    exact this
  · rw [if_neg hc] at h; cases h
theorem blocksTold_pure (a0 : Int) (h : 0 ≤ a0 ∧ a0 ≤ 18446744073709551615) : toolchestlaw11_BlocksTold.f a0 = some true := if_pos h
end Go.Proofs.YtomnpmfmlbmpeaaDoor.L
