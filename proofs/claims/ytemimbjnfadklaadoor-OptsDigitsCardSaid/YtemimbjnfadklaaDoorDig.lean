/- The plain law of OptsDigits. -/
import Derived.Test.YtemimbjnfadklaaDoorPlain
import Derived.Test.YtemimbjnfadklaaDoorNum
import Derived.Test.YtemimbjnfadklaaDoorLx9
namespace Go.Proofs.YtemimbjnfadklaaDoor.L
open Go.RowKit Go.Proofs.YtemimbjnfadklaaDoorW.PrintWords Go.Proofs.YtemimbjnfadklaaDoorW.PrintLast Go.Proofs.YtemimbjnfadklaaDoorW.PrintMore

theorem u64w (x : Int) (h0 : 0 ≤ x) (h1 : x ≤ 18446744073709551615) : IntKind.u64.wrap x = x := IntWalk.u64_in x ⟨h0, h1⟩
theorem dec_at (x : Nat) (hx : x < 18446744073709551616) :
    0 ≤ Int.tmod (x : Int) 10 ∧ Int.tmod (x : Int) 10 ≤ IntKind.u64.wrap (Int.tmod (x : Int) 10 + 1) ∧ IntKind.u64.wrap (Int.tmod (x : Int) 10 + 1) ≤ 10 ∧
      (⟨#[48, 49, 50, 51, 52, 53, 54, 55, 56, 57]⟩ : ByteArray).extract (Int.tmod (x : Int) 10).toNat (IntKind.u64.wrap (Int.tmod (x : Int) 10 + 1)).toNat = B [UInt8.ofNat (48 + x % 10)] := by
  have e1 : Int.tmod (x : Int) 10 = ((x % 10 : Nat) : Int) := by rw [Int.tmod_eq_emod_of_nonneg (by omega)]; omega
  have e2 : IntKind.u64.wrap (((x % 10 : Nat) : Int) + 1) = ((x % 10 + 1 : Nat) : Int) := by rw [u64w _ (by omega) (by omega)]; omega
  rw [e1, e2, Int.toNat_natCast, Int.toNat_natCast]
  exact ⟨by omega, by omega, by omega, dec_str _ (by omega)⟩
theorem digits_loop : ∀ (m x : Nat) (s : List UInt8), x < 10 ^ (m + 1) → x < 18446744073709551616 → s.length + m ≤ 1000 → Ev (fun k => toolchestlaw01_digits.l0 k (x : Int) (B s)) (B (dg m (x / 10) ++ s)) := by
  intro m
  induction m with
  | zero =>
    intro x s hx hx2 hs
    refine Ev.step (f := fun _ => some (B s)) (fun k => ?_) (Ev.now _)
    simp only [toolchestlaw01_digits.l0]
    rw [if_neg (by simp at hx; omega)]
  | succ m ih =>
    intro x s hx hx2 hs
    by_cases h10 : x < 10
    · have e0 : x / 10 = 0 := by omega
      rw [e0, dg_zero, List.nil_append]
      refine Ev.step (f := fun _ => some (B s)) (fun k => ?_) (Ev.now _)
      simp only [toolchestlaw01_digits.l0]
      rw [if_neg (by omega)]
    · have hd : IntKind.u64.wrap (Int.tdiv (x : Int) 10) = ((x / 10 : Nat) : Int) := by
        rw [Int.tdiv_eq_ediv_of_nonneg (by omega), u64w _ (by omega) (by omega)]
        omega
      obtain ⟨q1, q2, q3, q4⟩ := dec_at (x / 10) (by omega)
      have hlt : x / 10 < 10 ^ (m + 1) := by rw [Nat.pow_succ] at hx; exact Nat.div_lt_of_lt_mul (by rw [Nat.mul_comm]; exact hx)
      have e1 : dg (m + 1) (x / 10) ++ s = dg m (x / 10 / 10) ++ (UInt8.ofNat (48 + x / 10 % 10) :: s) := by
        conv => lhs; unfold dg
        rw [if_neg (by omega), List.append_assoc]
        rfl
      rw [e1]
      refine Ev.step (f := fun k => toolchestlaw01_digits.l0 k ((x / 10 : Nat) : Int) (B (UInt8.ofNat (48 + x / 10 % 10) :: s))) (fun k => ?_) (ih (x / 10) (UInt8.ofNat (48 + x / 10 % 10) :: s) hlt (by omega) (by simp only [List.length_cons]; omega))
      simp only [toolchestlaw01_digits.l0]
      rw [if_pos (by omega), hd, if_pos q1, if_pos q2, if_pos q3, q4, if_pos (by rw [B_size, B_size]; simp; omega), B_append]
      rfl
theorem digits_ev (n : Nat) (h : n < 18446744073709551616) : Ev (fun k => toolchestlaw01_digits.f k (n : Int)) (B (digs n)) := by
  obtain ⟨q1, q2, q3, q4⟩ := dec_at n h
  unfold toolchestlaw01_digits.f
  simp only [if_pos q1, if_pos q2, if_pos q3, q4]
  exact digits_loop 20 n [UInt8.ofNat (48 + n % 10)] (by have : (10 : Nat) ^ (20 + 1) = 1000000000000000000000 := by decide
                                                         omega) h (by simp)

theorem B_tl (l : List UInt8) : (B l).toList = l := by rw [Lib.toList_data, B_toList]
theorem B_drop (c : UInt8) (l : List UInt8) : (B (c :: l)).extract 1 (B (c :: l)).size = B l := by
  rw [extract_drop, B_toList]
  rfl
theorem B_first (c : UInt8) (l : List UInt8) : ((B (c :: l)).extract 0 1).data.toList = [c] := by
  rw [Lib.extract_data, B_toList]
  rfl
theorem one_byte (c : UInt8) (h : c = 43 ∨ c = 45 ∨ isDig c) : strings_Contains.f ⟨#[43, 45]⟩ ((B (c :: [])).extract 0 1) = some (decide (c = 43 ∨ c = 45)) := by
  unfold strings_Contains.f
  rw [B_first]
  simp only [Option.some.injEq]
  rcases h with rfl | rfl | h
  · rfl
  · rfl
  · unfold isDig at h
    have : c.toNat = 48 ∨ c.toNat = 49 ∨ c.toNat = 50 ∨ c.toNat = 51 ∨ c.toNat = 52 ∨ c.toNat = 53 ∨ c.toNat = 54 ∨ c.toNat = 55 ∨ c.toNat = 56 ∨ c.toNat = 57 := by omega
    have e : c = UInt8.ofNat c.toNat := by simp
    rcases this with h | h | h | h | h | h | h | h | h | h <;> (rw [e, h]; rfl)
theorem contains_first (c : UInt8) (l : List UInt8) (h : c = 43 ∨ c = 45 ∨ isDig c) : strings_Contains.f ⟨#[43, 45]⟩ ((B (c :: l)).extract 0 1) = some (decide (c = 43 ∨ c = 45)) := by
  rw [← one_byte c h]
  unfold strings_Contains.f
  rw [B_first, B_first]

/-- What Number answers for a sign (or none) and digits. -/
def numAns (sg z : List UInt8) : Int × Bool := if z.length ≤ 18 then (if sg = [45] then -(dval z : Int) else (dval z : Int), true) else (0, false)
theorem atoi_digits (sg z : List UInt8) (hsg : sg = [] ∨ sg = [43] ∨ sg = [45]) (hz : z ≠ []) (hd : ∀ c ∈ z, isDig c) (hl : z.length ≤ 18) : strconv_Atoi.f (B (sg ++ z)) = some (if sg = [45] then -(dval z : Int) else (dval z : Int), none) := by
  have hp : Lib.parseMag z = .ok (dval z) := by
    unfold Lib.parseMag
    rw [if_neg hz]
    exact parse_dig z 0 0 (by simp) (by omega) hd
  have hlt : dval z < 1000000000000000000 := by
    have h1 := dval_lt z hd
    have h2 : (10 : Nat) ^ z.length ≤ 10 ^ 18 := Nat.pow_le_pow_right (by omega) hl
    have h3 : (10 : Nat) ^ 18 = 1000000000000000000 := by decide
    omega
  unfold strconv_Atoi.f
  have hsz : (B (sg ++ z)).size ≤ 9223372036854775806 := by
    rw [B_size]
    rcases hsg with rfl | rfl | rfl <;> simp <;> omega
  rw [if_pos hsz, B_toList]
  rcases hsg with rfl | rfl | rfl
  · cases z with
    | nil => exact absurd rfl hz
    | cons c r =>
      have hc := hd c (by simp)
      unfold isDig at hc
      rw [List.nil_append]
      unfold Lib.atoiAll
      simp only
      rw [if_neg (by omega), hp]
      simp only
      rw [if_neg (by omega), if_neg (by omega), if_neg (by omega), if_neg (by simp)]
  · show (match Lib.atoiAll (43 :: z) with | .ok v => some (v, none) | _ => none) = _
    unfold Lib.atoiAll
    simp only
    rw [if_pos (by decide), hp]
    simp only
    rw [if_neg (by have : (43 : UInt8).toNat = 43 := rfl
                   omega), if_neg (by have : (43 : UInt8).toNat = 43 := rfl
                                      omega), if_neg (by decide), if_neg (by simp)]
  · show (match Lib.atoiAll (45 :: z) with | .ok v => some (v, none) | _ => none) = _
    unfold Lib.atoiAll
    simp only
    rw [if_pos (by decide), hp]
    simp only
    rw [if_neg (by have : (45 : UInt8).toNat = 45 := rfl
                   omega), if_neg (by have : (45 : UInt8).toNat = 45 := rfl
                                      omega), if_pos (by decide), if_pos trivial]

theorem number_bare (sg z : List UInt8) (hsg : sg = [] ∨ sg = [43] ∨ sg = [45]) (hz : z ≠ []) (hd : ∀ c ∈ z, isDig c) (hl : z.length ≤ 1000) : Ev (fun k => opts_Number.j1 k (B (sg ++ z)) (B z)) (numAns sg z) := by
  refine Ev.step (f := fun _ => some (numAns sg z)) (fun k => ?_) (Ev.now _)
  simp only [opts_Number.j1]
  rw [if_neg (by rw [B_tl]; exact hz)]
  unfold numAns
  by_cases h18 : z.length ≤ 18
  · have ht : strings_Trim.f (B z) ⟨#[48, 49, 50, 51, 52, 53, 54, 55, 56, 57]⟩ = some (B []) := by
      unfold strings_Trim.f
      rw [if_pos ⟨by rw [B_size]; omega, by decide, by decide⟩, B_toList]
      rw [show (⟨#[48, 49, 50, 51, 52, 53, 54, 55, 56, 57]⟩ : ByteArray).data.toList = [48, 49, 50, 51, 52, 53, 54, 55, 56, 57] from rfl, trim_digits z hd]
      rfl
    rw [if_neg (by rw [B_size]; omega), ht, if_pos h18]
    simp only [Option.bind_some]
    rw [if_pos (by rw [B_tl]), atoi_digits sg z hsg hz hd h18]
    simp
  · rw [if_pos (by rw [B_size]; omega), if_neg h18]
theorem number_ev (sg z : List UInt8) (hsg : sg = [] ∨ sg = [43] ∨ sg = [45]) (hz : z ≠ []) (hd : ∀ c ∈ z, isDig c) (hl : z.length ≤ 1000) : Ev (fun k => opts_Number.f k (B (sg ++ z))) (numAns sg z) := by
  have hne : sg ++ z ≠ [] := by simp [hz]
  unfold opts_Number.f
  rw [B_tl]
  simp only [if_neg hne]
  have hsz : (1 : Int) ≤ ((B (sg ++ z)).size : Int) := by
    rw [B_size]
    have : 0 < (sg ++ z).length := List.length_pos_iff.2 hne
    omega
  simp only [if_pos (show (0 : Int) ≤ 1 by omega), if_pos hsz]
  have hj := number_bare sg z hsg hz hd hl
  rcases hsg with rfl | rfl | rfl
  · cases z with
    | nil => exact absurd rfl hz
    | cons c r =>
      have hc := hd c (by simp)
      have hc' := hc
      unfold isDig at hc'
      rw [List.nil_append] at hj ⊢
      have h43 : ¬ (c = 43 ∨ c = 45) := by
        rintro (rfl | rfl)
        · exact absurd hc'.1 (by decide)
        · exact absurd hc'.1 (by decide)
      rw [contains_first c r (.inr (.inr hc)), decide_eq_false h43]
      simp only [Option.bind_some]
      refine Ev.step (f := fun k => opts_Number.j1 k (B (c :: r)) (B (c :: r))) (fun k => ?_) hj
      simp only [opts_Number.j0]
      rw [if_neg Bool.false_ne_true]
      first | rfl | exact if_pos (by decide)
  · show Ev (fun k => (strings_Contains.f ⟨#[43, 45]⟩ ((B (43 :: z)).extract 0 1)).bind fun t => opts_Number.j0 k (B (43 :: z)) (B (43 :: z)) t) _
    rw [contains_first 43 z (.inl rfl)]
    simp only [Option.bind_some]
    refine Ev.step (f := fun k => opts_Number.j1 k (B (43 :: z)) (B z)) (fun k => ?_) hj
    simp only [opts_Number.j0]
    rw [if_pos (by decide), if_pos (show (1 : Int) ≤ ((B (43 :: z)).size : Int) from hsz), B_drop]
  · show Ev (fun k => (strings_Contains.f ⟨#[43, 45]⟩ ((B (45 :: z)).extract 0 1)).bind fun t => opts_Number.j0 k (B (45 :: z)) (B (45 :: z)) t) _
    rw [contains_first 45 z (.inr (.inl rfl))]
    simp only [Option.bind_some]
    refine Ev.step (f := fun k => opts_Number.j1 k (B (45 :: z)) (B z)) (fun k => ?_) hj
    simp only [opts_Number.j0]
    rw [if_pos (by decide), if_pos (show (1 : Int) ≤ ((B (45 :: z)).size : Int) from hsz), B_drop]

theorem zeros_dval : ∀ (j : Nat) (l : List UInt8), dval (List.replicate j 48 ++ l) = dval l := by
  intro j
  induction j with
  | zero => intro l; rfl
  | succ j ih =>
    intro l
    rw [List.replicate_succ, List.cons_append]
    have := ih l
    unfold dval at this ⊢
    rw [dvalFrom_cons]
    exact this
theorem zeros_dig (j : Nat) (l : List UInt8) (h : ∀ c ∈ l, isDig c) : ∀ c ∈ List.replicate j 48 ++ l, isDig c := by
  intro c hc
  rcases List.mem_append.1 hc with hc | hc
  · rw [(List.mem_replicate.1 hc).2]
    unfold isDig
    decide
  · exact h c hc
def signOf (x : Int) : List UInt8 := if x = 1 then [43] else if x = 2 then [45] else []
theorem dig_end (n : Nat) (hn : n < 18446744073709551616) (x1 x2 : Int) (h2 : 0 ≤ x2) (h2' : x2 ≤ 255) (z : List UInt8) (hz : z ≠ []) (hd : ∀ c ∈ z, isDig c) (hl : z.length ≤ 1000) (hv : dval z = n) (x8 : Int) (h8 : ¬ x8 < wrap64 (Int.tmod x1 20)) :
    Ev (fun k => toolchestlaw01_OptsDigits.l0 k (n : Int) x1 x2 (B z) x8) true := by
  have hm : Int.tmod x2 3 = 0 ∨ Int.tmod x2 3 = 1 ∨ Int.tmod x2 3 = 2 := by
    rw [Int.tmod_eq_emod_of_nonneg h2]
    omega
  have hsg : signOf (Int.tmod x2 3) = [] ∨ signOf (Int.tmod x2 3) = [43] ∨ signOf (Int.tmod x2 3) = [45] := by
    rcases hm with e | e | e <;> rw [e] <;> decide
  have hrd : rdOf ByteArray.empty ([(⟨#[]⟩ : ByteArray), (⟨#[43]⟩ : ByteArray), (⟨#[45]⟩ : ByteArray)] : List ByteArray) (Int.tmod x2 3) = B (signOf (Int.tmod x2 3)) := by
    rcases hm with e | e | e <;> rw [e] <;> rfl
  have h0 : 0 ≤ Int.tmod x2 3 := by omega
  have h3 : Int.tmod x2 3 < 3 := by omega
  have hnum := number_ev (signOf (Int.tmod x2 3)) z hsg hz hd hl
  have hlen : (signOf (Int.tmod x2 3)).length ≤ 1 := by rcases hsg with e | e | e <;> rw [e] <;> decide
  refine Ev.step (f := fun k => (opts_Number.f k (B (signOf (Int.tmod x2 3) ++ z))).bind fun bt167 => (if (((B z).size : Int) ≤ 18) then (if (Int.tmod x2 3) = 2 then ((toolchestlaw01_alive.f k).bind fun t169 => (if t169 = true then (if bt167.2 = true then (some (bt167.1 == (wrap64 (-(wrap64 (n : Int)))))) else (some false)) else (some false))) else ((toolchestlaw01_alive.f k).bind fun t170 => (if t170 = true then (if bt167.2 = true then (some (bt167.1 == (wrap64 (n : Int)))) else (some false)) else (some false)))) else ((toolchestlaw01_alive.f k).bind fun t171 => (if t171 = true then (if bt167.2 = true then (some false) else (some (bt167.1 == 0))) else (some false))))) (fun k => ?_) ?_
  · simp only [toolchestlaw01_OptsDigits.l0]
    rw [if_neg h8]
    simp only [Option.bind_some]
    rw [if_pos h0, if_pos (by simpa using h3), hrd, if_pos (by rw [B_size, B_size]; omega), B_append]
  · refine Ev.bind hnum ?_
    unfold numAns
    by_cases h18 : z.length ≤ 18
    · have hlt : dval z < 1000000000000000000 := by
        have h1 := dval_lt z hd
        have h2 : (10 : Nat) ^ z.length ≤ 10 ^ 18 := Nat.pow_le_pow_right (by omega) h18
        have h3 : (10 : Nat) ^ 18 = 1000000000000000000 := by decide
        omega
      have hw : wrap64 (n : Int) = (n : Int) := by unfold wrap64; omega
      have hw2 : wrap64 (-(n : Int)) = -(n : Int) := by unfold wrap64; omega
      rw [B_size]
      simp only [if_pos h18, if_pos (show (z.length : Int) ≤ 18 by omega), hw, hw2, hv, if_true]
      by_cases h22 : Int.tmod x2 3 = 2
      · simp only [if_pos h22]
        have e : signOf (Int.tmod x2 3) = [45] := by rw [h22]; decide
        rw [e]
        simp only [if_true]
        refine (Ev.bind alive_ev ?_)
        simp only [if_true, beq_self_eq_true]
        exact Ev.now true
      · simp only [if_neg h22]
        have e : signOf (Int.tmod x2 3) ≠ [45] := by rcases hm with e | e | e <;> rw [e] <;> first | decide | exact absurd e h22
        simp only [if_neg e]
        refine (Ev.bind alive_ev ?_)
        simp only [if_true, beq_self_eq_true]
        exact Ev.now true
    · rw [B_size]
      simp only [if_neg h18, if_neg (show ¬ (z.length : Int) ≤ 18 by omega)]
      refine (Ev.bind alive_ev ?_)
      simp
      exact Ev.now true
theorem dig_loop (n : Nat) (hn : n < 18446744073709551616) (x1 x2 : Int) (h1 : 0 ≤ x1) (h1' : x1 ≤ 255) (h2 : 0 ≤ x2) (h2' : x2 ≤ 255) (d : Nat) : ∀ (j : Nat), (j : Int) + d = wrap64 (Int.tmod x1 20) → Ev (fun k => toolchestlaw01_OptsDigits.l0 k (n : Int) x1 x2 (B (List.replicate j 48 ++ digs n)) (j : Int)) true := by
  have hwr : wrap64 (Int.tmod x1 20) = x1 % 20 := by rw [Int.tmod_eq_emod_of_nonneg h1]; unfold wrap64; omega
  have hdl := digs_len n
  induction d with
  | zero =>
    intro j hj
    refine dig_end n hn x1 x2 h2 h2' _ ?_ (zeros_dig j _ (digs_dig n)) ?_ ?_ _ (by omega)
    · simp [digs]
    · simp; omega
    · rw [zeros_dval, digs_val n hn]
  | succ d ih =>
    intro j hj
    have hw : wrap64 ((j : Int) + 1) = ((j + 1 : Nat) : Int) := by unfold wrap64; omega
    refine Ev.step (f := fun k => toolchestlaw01_OptsDigits.l0 k (n : Int) x1 x2 (B (List.replicate (j + 1) 48 ++ digs n)) ((j + 1 : Nat) : Int)) (fun k => ?_) (ih (j + 1) (by omega))
    simp only [toolchestlaw01_OptsDigits.l0]
    rw [if_pos (by omega), if_pos (by rw [B_size]; simp; omega), hw]
    have e : (⟨#[48]⟩ : ByteArray) ++ B (List.replicate j 48 ++ digs n) = B (List.replicate (j + 1) 48 ++ digs n) := by
      show B [48] ++ B _ = _
      rw [B_append, List.replicate_succ]
      rfl
    rw [e]
theorem optsDigits_pure (a0 a1 a2 : Int) (w0 : (Lit.int .u64 a0).wf = true) (w1 : (Lit.int .u8 a1).wf = true) (w2 : (Lit.int .u8 a2).wf = true) : ∃ k, toolchestlaw01_OptsDigits.f k a0 a1 a2 = some true := by
  have b0 : 0 ≤ a0 ∧ a0 ≤ 18446744073709551615 := by simpa [Lit.wf, IntKind.min, IntKind.max, IntKind.signed, IntKind.bits] using w0
  have b1 : 0 ≤ a1 ∧ a1 ≤ 255 := by simpa [Lit.wf, IntKind.min, IntKind.max, IntKind.signed, IntKind.bits] using w1
  have b2 : 0 ≤ a2 ∧ a2 ≤ 255 := by simpa [Lit.wf, IntKind.min, IntKind.max, IntKind.signed, IntKind.bits] using w2
  obtain ⟨n, rfl⟩ := Int.eq_ofNat_of_zero_le b0.1
  have hn : n < 18446744073709551616 := by omega
  have hwr : wrap64 (Int.tmod a1 20) = a1 % 20 := by rw [Int.tmod_eq_emod_of_nonneg b1.1]; unfold wrap64; omega
  refine Ev.rounds (g := fun k => toolchestlaw01_OptsDigits.f k (n : Int) a1 a2) ?_
  unfold toolchestlaw01_OptsDigits.f
  refine Ev.bind (digits_ev n hn) ?_
  exact dig_loop n hn a1 a2 b1.1 b1.2 b2.1 b2.2 (a1 % 20).toNat 0 (by rw [hwr]; omega)
end Go.Proofs.YtemimbjnfadklaaDoor.L
