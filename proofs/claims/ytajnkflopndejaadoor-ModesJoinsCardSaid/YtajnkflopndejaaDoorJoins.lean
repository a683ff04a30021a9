/- The plain law of ModesJoins. -/
import Derived.Test.YtajnkflopndejaaDoorTold
import Derived.Test.YtajnkflopndejaaDoorLx13
namespace Go.Proofs.YtajnkflopndejaaDoor.L
open Go.RowKit Go.Proofs.YtajnkflopndejaaDoorW.PrintWords Go.Proofs.YtajnkflopndejaaDoorW.PrintLast Go.Proofs.YtajnkflopndejaaDoorW.PrintMore

theorem joinAll_len : ∀ (L : List (List UInt8)) (r : List S35), joinAll L = some r → r.length ≤ L.flatten.length
  | [], r, h => by cases h; exact Nat.le_refl _
  | p :: L, r, h => by
    simp only [joinAll] at h
    split at h
    · obtain ⟨l, hl, rfl⟩ := Option.map_eq_some_iff.1 h
      have h1 := joinAll_len L l hl
      have h2 := clauseOf_len p
      simp only [List.flatten_cons, List.length_append]
      omega
    · cases h
theorem splitC_one (c : UInt8) : ∀ l : List UInt8, (∀ b ∈ l, b ≠ c) → splitC c l = [l]
  | [], _ => rfl
  | a :: l, h => by
    simp only [splitC]
    rw [if_neg (h a (by simp)), splitC_one c l fun b hb => h b (by simp [hb])]
theorem digit_none (c : UInt8) (cs : List UInt8) (h0 : 48 ≤ c.toNat) (h1 : c.toNat ≤ 55) : clauseOf (c :: cs) = ([], false) := by
  have hw : whoTab (c.toNat : Int) = none := by
    have : ∀ x : Fin 256, 48 ≤ x.1 → x.1 ≤ 55 → whoTab (x.1 : Int) = none := by decide +kernel
    exact this ⟨c.toNat, c.toNat_lt⟩ h0 h1
  have hs : isSign c = false := by
    have : ∀ x : Fin 256, 48 ≤ x.1 → x.1 ≤ 55 → isSign (UInt8.ofNat x.1) = false := by decide +kernel
    have h := this ⟨c.toNat, c.toNat_lt⟩ h0 h1
    simpa using h
  have hl : letGo whoTab (c :: cs) 0 = (0, 0) := by simp only [letGo, hw]
  unfold clauseOf
  rw [hl]
  simp only [List.drop_zero, clauseGo]
  rw [if_pos hs]
theorem read_ok {s : ByteArray} (h : (readOf s).2 = true) : s.size ≠ 0 ∧ isOct s = true := by
  unfold readOf at h
  split at h
  · cases h
  · rename_i hn
    refine ⟨fun e => hn (.inl e), ?_⟩
    cases hi : isOct s with
    | true => rfl
    | false => exact absurd (.inr (.inr hi)) hn
theorem oct_joinAll {s : ByteArray} (h : (readOf s).2 = true) : joinAll (splitC 44 s.data.toList) = none := by
  obtain ⟨h1, h2⟩ := read_ok h
  have h3 : ∀ c ∈ s.data.toList, 48 ≤ c.toNat ∧ c.toNat ≤ 55 := fun c hc => of_decide_eq_true (List.all_eq_true.1 h2 c hc)
  rw [splitC_one 44 _ fun b hb e => by
    have := h3 b hb
    rw [e] at this
    revert this
    decide]
  cases hl : s.data.toList with
  | nil => exact absurd (by rw [show s.size = s.data.toList.length by simp, hl]; rfl) h1
  | cons c cs =>
    have := h3 c (by rw [hl]; simp)
    simp only [joinAll, digit_none c cs this.1 this.2]
    rfl

theorem comma_list (s t : ByteArray) : ((s ++ (⟨#[44]⟩ : ByteArray)) ++ t).data.toList = s.data.toList ++ 44 :: t.data.toList := by simp
theorem comma_read (s t : ByteArray) : readOf ((s ++ (⟨#[44]⟩ : ByteArray)) ++ t) = (0, false) := by
  have h : isOct ((s ++ (⟨#[44]⟩ : ByteArray)) ++ t) = false := by
    unfold isOct
    rw [comma_list, List.all_append]
    simp
  unfold readOf
  rw [if_pos (.inr (.inr h))]
theorem comma_parse (s t : ByteArray) : parseOf ((s ++ (⟨#[44]⟩ : ByteArray)) ++ t) = parseAns [] ((joinAll (splitC 44 s.data.toList)).bind fun a => (joinAll (splitC 44 t.data.toList)).map fun b => a ++ b) := by
  unfold parseOf
  rw [comma_read, if_neg (by simp), comma_list, splitC_append, joinAll_append]

theorem same_loop (l : List S35) (hl : l.length ≤ 1099511627776) (d : Nat) : ∀ i : Nat, l.length - i = d → i ≤ l.length → Ev (fun k => toolchestlaw01_SameChanges.l0 k l l (i : Int)) true := by
  induction d with
  | zero =>
    intro i hd hi
    refine Ev.step (f := fun _ => some true) (fun k => ?_) (Ev.now true)
    simp only [toolchestlaw01_SameChanges.l0]
    rw [if_neg (by omega)]
  | succ d ih =>
    intro i hd hi
    refine Ev.step (f := fun k => toolchestlaw01_SameChanges.l0 k l l ((i + 1 : Nat) : Int)) (fun k => ?_) (ih (i + 1) (by omega) (by omega))
    simp only [toolchestlaw01_SameChanges.l0]
    rw [if_pos (by omega), if_pos (by omega), if_pos (by omega), if_neg (by simp), show wrap64 ((i : Int) + 1) = ((i + 1 : Nat) : Int) by unfold wrap64; omega]
theorem same_ev (l : List S35) (hl : l.length ≤ 1099511627776) : Ev (fun k => toolchestlaw01_SameChanges.f k l l) true := by
  unfold toolchestlaw01_SameChanges.f
  simp only [if_true]
  exact same_loop l hl _ 0 rfl (Nat.zero_le _)

theorem parse_none {s : ByteArray} (h : (readOf s).2 = false) (hj : joinAll (splitC 44 s.data.toList) = none) : parseOf s = ([], 5) := by
  unfold parseOf
  rw [if_neg (by rw [h]; simp), hj]
  rfl
theorem parse_some {s : ByteArray} {r : List S35} (h : (readOf s).2 = false) (hj : joinAll (splitC 44 s.data.toList) = some r) : parseOf s = (r, 0) := by
  unfold parseOf
  rw [if_neg (by rw [h]; simp), hj]
  simp [parseAns]

/-- The law's last part. -/
def tailOf (k : Nat) (o1 o2 : Bool) (a b c : List S35 × Int) : Option Bool :=
  if a.2 = 0 then (if b.2 = 0 then (if o1 = true then (if c.2 = 5 then (some ((c.1.length : Int) == 0)) else (some false)) else (if o2 = true then (if c.2 = 5 then (some ((c.1.length : Int) == 0)) else (some false)) else (if c.2 = 0 then (if a.1.length + b.1.length < 4398046511104 then ((toolchestlaw01_SameChanges.f k c.1 (a.1 ++ b.1)).bind fun t216 => (some t216)) else (none)) else (some false)))) else (if c.2 = 5 then (some ((c.1.length : Int) == 0)) else (some false))) else (if c.2 = 5 then (some ((c.1.length : Int) == 0)) else (some false))
theorem tail_five (k : Nat) (o1 o2 : Bool) (a b : List S35 × Int) (h : a.2 = 0 → b.2 = 0 → (o1 = true ∨ o2 = true)) : tailOf k o1 o2 a b ([], 5) = some true := by
  unfold tailOf
  by_cases ha : a.2 = 0
  · by_cases hb : b.2 = 0
    · rw [if_pos ha, if_pos hb]
      by_cases h1 : o1 = true
      · rw [if_pos h1]; rfl
      · rw [if_neg h1]
        by_cases h2 : o2 = true
        · rw [if_pos h2]; rfl
        · exact absurd (h ha hb) (by simp [h1, h2])
    · rw [if_pos ha, if_neg hb]; rfl
  · rw [if_neg ha]; rfl

theorem joins_tail (s t : ByteArray) (hs : s.size ≤ 2000) (ht : t.size ≤ 2000) : Ev (fun k => tailOf k (readOf s).2 (readOf t).2 (parseOf s) (parseOf t) (parseOf ((s ++ (⟨#[44]⟩ : ByteArray)) ++ t))) true := by
  rw [comma_parse]
  cases hj1 : joinAll (splitC 44 s.data.toList) with
  | none =>
    refine Ev.congr (f := fun _ => some true) (fun k => ?_) (Ev.now true)
    refine tail_five k _ _ _ _ fun ha _ => ?_
    cases ho : (readOf s).2 with
    | true => exact .inl rfl
    | false =>
      rw [parse_none ho hj1] at ha
      cases ha
  | some a =>
    cases hj2 : joinAll (splitC 44 t.data.toList) with
    | none =>
      refine Ev.congr (f := fun _ => some true) (fun k => ?_) (Ev.now true)
      refine tail_five k _ _ _ _ fun _ hb => ?_
      cases ho : (readOf t).2 with
      | true => exact .inr rfl
      | false =>
        rw [parse_none ho hj2] at hb
        cases hb
    | some b =>
      have o1 : (readOf s).2 = false := by
        cases ho : (readOf s).2 with
        | false => rfl
        | true => rw [oct_joinAll ho] at hj1; cases hj1
      have o2 : (readOf t).2 = false := by
        cases ho : (readOf t).2 with
        | false => rfl
        | true => rw [oct_joinAll ho] at hj2; cases hj2
      have la := joinAll_len _ _ hj1
      have lb := joinAll_len _ _ hj2
      have fa := splitC_flat 44 s.data.toList
      have fb := splitC_flat 44 t.data.toList
      have es : s.data.toList.length = s.size := by simp
      have et : t.data.toList.length = t.size := by simp
      rw [o1, o2, parse_some o1 hj1, parse_some o2 hj2]
      refine Ev.congr (f := fun k => (toolchestlaw01_SameChanges.f k (a ++ b) (a ++ b)).bind fun t => some t) (fun k => ?_) (Ev.bind (same_ev (a ++ b) (by rw [List.length_append]; omega)) (Ev.now true))
      unfold tailOf
      rw [if_pos rfl, if_pos rfl, if_neg (by simp), if_neg (by simp)]
      have hv : parseAns [] ((some a).bind fun a => (some b).map fun b => a ++ b) = (a ++ b, 0) := by simp [parseAns]
      rw [hv]
      show (if (0 : Int) = 0 then (if a.length + b.length < 4398046511104 then _ else _) else _) = _
      rw [if_pos rfl, if_pos (by omega)]

theorem modesJoins_pure (s t : ByteArray) : ∃ k, toolchestlaw10_ModesJoins.f k s t = some true := by
  refine Ev.rounds (g := fun k => toolchestlaw10_ModesJoins.f k s t) ?_
  unfold toolchestlaw10_ModesJoins.f
  refine Ev.bind alive_ev ?_
  simp only [if_true]
  have hyes : Ev (fun k => toolchestlaw10_ModesJoins.j0 k s t true) true := by
    refine Ev.step (f := fun k => (toolchestlaw10_alive.f k).bind fun t => some t) (fun k => by simp only [toolchestlaw10_ModesJoins.j0]; rw [if_pos trivial]) ?_
    exact Ev.bind alive_ev (Ev.now true)
  by_cases h1 : (s.size : Int) > 2000
  · simp only [if_pos h1]
    exact hyes
  · simp only [if_neg h1]
    by_cases h2 : (t.size : Int) > 2000
    · rw [decide_eq_true h2]
      exact hyes
    · rw [decide_eq_false h2]
      have z1 : (s ++ (⟨#[44]⟩ : ByteArray)).size = s.size + 1 := by simp [ByteArray.size_append]; rfl
      have z2 : ((s ++ (⟨#[44]⟩ : ByteArray)) ++ t).size = s.size + 1 + t.size := by rw [ByteArray.size_append, z1]
      refine Ev.step (f := fun k => (modes_Parse.f k s).bind fun a => (modes_Parse.f k t).bind fun b => (modes_Parse.f k ((s ++ (⟨#[44]⟩ : ByteArray)) ++ t)).bind fun c => tailOf k (readOf s).2 (readOf t).2 a b c) (fun k => ?_) ?_
      · simp only [toolchestlaw10_ModesJoins.j0]
        rw [if_neg (by simp), read_val s (by omega)]
        simp only [Option.bind_some]
        rw [read_val t (by omega)]
        simp only [Option.bind_some]
        have g1 : s.size + 1 ≤ 9223372036854775807 := by omega
        have g2 : (s ++ (⟨#[44]⟩ : ByteArray)).size + t.size ≤ 9223372036854775807 := by rw [z1]; omega
        simp only [if_pos g1, if_pos g2]
        rfl
      · refine Ev.bind (parse_ev s (by omega)) ?_
        refine Ev.bind (parse_ev t (by omega)) ?_
        refine Ev.bind (parse_ev _ (by rw [z2]; omega)) ?_
        exact joins_tail s t (by omega) (by omega)
end Go.Proofs.YtajnkflopndejaaDoor.L
