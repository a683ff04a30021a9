/- The plain law of OptsEnd. -/
import Derived.Test.YtemimbjnfadklaaDoorPlain
import Derived.Test.YtemimbjnfadklaaDoorLx13
namespace Go.Proofs.YtemimbjnfadklaaDoor.L
open Go.RowKit Go.Proofs.YtemimbjnfadklaaDoorW.PrintWords Go.Proofs.YtemimbjnfadklaaDoorW.PrintLast Go.Proofs.YtemimbjnfadklaaDoorW.PrintMore

theorem word_app (f : Int → Option Bool) (x : List ByteArray) : ∀ (cs : List UInt8) (ws : List ByteArray) (fl : List S45) (r : List ByteArray), wordGo f cs ws = some (fl, r) →
    wordGo f cs (ws ++ x) = some (fl, r ++ x) ∧ (∀ a ∈ r, a ∈ ws) ∧ r.length ≤ ws.length ∧ fl.length ≤ cs.length := by
  intro cs
  induction cs with
  | nil =>
    intro ws fl r h
    simp only [wordGo, Option.some.injEq, Prod.mk.injEq] at h
    obtain ⟨rfl, rfl⟩ := h
    exact ⟨rfl, fun _ h => h, Nat.le_refl _, Nat.le_refl _⟩
  | cons c cs ih =>
    intro ws fl r h
    simp only [wordGo] at h ⊢
    cases hf : f c.toNat with
    | none => rw [hf] at h; cases h
    | some b =>
      rw [hf] at h
      cases b with
      | false =>
        simp only at h ⊢
        cases hg : wordGo f cs ws with
        | none => rw [hg] at h; cases h
        | some p =>
          obtain ⟨fl1, r1⟩ := p
          rw [hg] at h
          simp only [Option.map_some, Option.some.injEq, Prod.mk.injEq] at h
          obtain ⟨rfl, rfl⟩ := h
          obtain ⟨h1, h2, h3, h4⟩ := ih ws fl1 r1 hg
          rw [h1]
          exact ⟨rfl, h2, h3, by simp only [List.length_cons]; omega⟩
      | true =>
        cases cs with
        | cons d ds =>
          simp only [Option.some.injEq, Prod.mk.injEq] at h ⊢
          obtain ⟨rfl, rfl⟩ := h
          exact ⟨⟨rfl, rfl⟩, fun _ h => h, Nat.le_refl _, by simp⟩
        | nil =>
          cases ws with
          | nil => simp at h
          | cons b r0 =>
            simp only [Option.some.injEq, Prod.mk.injEq] at h
            obtain ⟨rfl, rfl⟩ := h
            exact ⟨rfl, fun _ h => List.mem_cons_of_mem _ h, by simp, by simp⟩

theorem parse_app (f : Int → Option Bool) (x : List ByteArray) (dd : ByteArray) (hdd : dd.data.toList = [45, 45]) (hdo : isOpt dd = true) : ∀ (N : Nat) (ws : List ByteArray) (fl : List S45), parseGo f N ws = some (fl, []) →
    (∀ a ∈ ws, a.data.toList ≠ [45, 45]) → ∀ M, ws.length < M → parseGo f M (ws ++ dd :: x) = some (fl, x) := by
  intro N
  induction N with
  | zero => intro ws fl h; simp [parseGo] at h
  | succ N ih =>
    intro ws fl h hne M hM
    obtain ⟨M, rfl⟩ : ∃ m, M = m + 1 := ⟨M - 1, by omega⟩
    cases ws with
    | nil =>
      simp only [parseGo, Option.some.injEq, Prod.mk.injEq] at h
      obtain ⟨rfl, _⟩ := h
      simp [parseGo, hdo, hdd]
    | cons a ws =>
      simp only [parseGo, List.cons_append] at h ⊢
      by_cases ho : isOpt a = false
      · rw [if_pos ho] at h
        simp at h
      · rw [if_neg ho, if_neg (hne a (by simp))] at h ⊢
        cases hw : wordGo f (a.data.toList.drop 1) ws with
        | none => rw [hw] at h; cases h
        | some p =>
          obtain ⟨fl1, r⟩ := p
          obtain ⟨h1, h2, h3, _⟩ := word_app f (dd :: x) _ _ _ _ hw
          rw [hw] at h
          rw [h1]
          simp only [Option.bind_some] at h ⊢
          cases hp : parseGo f N r with
          | none => rw [hp] at h; cases h
          | some q =>
            obtain ⟨fl2, r2⟩ := q
            rw [hp] at h
            simp only [Option.map_some, Option.some.injEq, Prod.mk.injEq] at h
            obtain ⟨rfl, rfl⟩ := h
            rw [ih r fl2 hp (fun b hb => hne b (List.mem_cons_of_mem _ (h2 b hb))) M (by simp only [List.length_cons] at hM; omega)]
            rfl
theorem word_bulk (f : Int → Option Bool) : ∀ (cs : List UInt8) (ws : List ByteArray) (fl : List S45) (r : List ByteArray), wordGo f cs ws = some (fl, r) → bulk r ≤ bulk ws := by
  intro cs
  induction cs with
  | nil =>
    intro ws fl r h
    simp only [wordGo, Option.some.injEq, Prod.mk.injEq] at h
    rw [h.2]
    exact Nat.le_refl _
  | cons c cs ih =>
    intro ws fl r h
    simp only [wordGo] at h
    cases hf : f c.toNat with
    | none => rw [hf] at h; cases h
    | some b =>
      rw [hf] at h
      cases b with
      | false =>
        simp only at h
        cases hg : wordGo f cs ws with
        | none => rw [hg] at h; cases h
        | some p =>
          obtain ⟨fl1, r1⟩ := p
          rw [hg] at h
          simp only [Option.map_some, Option.some.injEq, Prod.mk.injEq] at h
          obtain ⟨_, rfl⟩ := h
          exact ih ws fl1 r1 hg
      | true =>
        cases cs with
        | cons d ds =>
          simp only [Option.some.injEq, Prod.mk.injEq] at h
          rw [h.2]
          exact Nat.le_refl _
        | nil =>
          cases ws with
          | nil => simp at h
          | cons b r0 =>
            simp only [Option.some.injEq, Prod.mk.injEq] at h
            obtain ⟨_, rfl⟩ := h
            simp [bulk]
theorem parse_flags (f : Int → Option Bool) : ∀ (N : Nat) (ws : List ByteArray) (fl : List S45) (r : List ByteArray), parseGo f N ws = some (fl, r) → fl.length ≤ bulk ws := by
  intro N
  induction N with
  | zero => intro ws fl r h; simp [parseGo] at h
  | succ N ih =>
    intro ws fl r h
    cases ws with
    | nil =>
      simp only [parseGo, Option.some.injEq, Prod.mk.injEq] at h
      rw [← h.1]
      simp
    | cons a ws =>
      simp only [parseGo] at h
      have hbk : bulk (a :: ws) = a.size + bulk ws := by simp [bulk]
      by_cases ho : isOpt a = false
      · rw [if_pos ho] at h
        simp only [Option.some.injEq, Prod.mk.injEq] at h
        rw [← h.1]
        simp
      · rw [if_neg ho] at h
        by_cases hd : a.data.toList = [45, 45]
        · rw [if_pos hd] at h
          simp only [Option.some.injEq, Prod.mk.injEq] at h
          rw [← h.1]
          simp
        · rw [if_neg hd] at h
          cases hw : wordGo f (a.data.toList.drop 1) ws with
          | none => rw [hw] at h; cases h
          | some p =>
            obtain ⟨fl1, r1⟩ := p
            have h4 := (word_app f [] _ _ _ _ hw).2.2.2
            have h5 := word_bulk f _ _ _ _ hw
            rw [hw] at h
            simp only [Option.bind_some] at h
            cases hp : parseGo f N r1 with
            | none => rw [hp] at h; cases h
            | some q =>
              obtain ⟨fl2, r2⟩ := q
              rw [hp] at h
              simp only [Option.map_some, Option.some.injEq, Prod.mk.injEq] at h
              have h6 := ih _ _ _ hp
              have hsz : a.size = a.data.toList.length := by simp
              rw [← h.1, List.length_append, hbk, hsz]
              simp only [List.length_drop] at h4
              omega

theorem bulk_append (a b : List ByteArray) : bulk (a ++ b) = bulk a + bulk b := by simp [bulk, List.sum_append]
/-- TextsSize: at least as much as what lies in the words, as long as it is no more than the bound. -/
theorem sizes_loop (l : List ByteArray) (hl : l.length ≤ 8796093022208) (hs : ∀ s ∈ l, s.size ≤ 140737488351232) (d : Nat) : ∀ (k i : Nat) (n : Int), l.length - i = d → i ≤ l.length → d < k → 0 ≤ n → n ≤ 281474976710656 →
    (n ≤ 1048576 → n = ((l.length + bulk (l.take i) : Nat) : Int)) → ∃ t, toolchestlaw01_TextsSize.l0 k l n i = some t ∧ 0 ≤ t ∧ t ≤ 281474976710656 ∧ (t ≤ 1048576 → t = ((l.length + bulk l : Nat) : Int)) := by
  induction d with
  | zero =>
    intro k i n hd hi hk h0 h1 h2
    obtain ⟨k, rfl⟩ : ∃ m, k = m + 1 := ⟨k - 1, by omega⟩
    obtain rfl : i = l.length := by omega
    refine ⟨n, ?_, h0, h1, fun h => ?_⟩
    · simp only [toolchestlaw01_TextsSize.l0]
      rw [if_neg (by omega)]
    · rw [h2 h, List.take_length]
  | succ d ih =>
    intro k i n hd hi hk h0 h1 h2
    obtain ⟨k, rfl⟩ : ∃ m, k = m + 1 := ⟨k - 1, by omega⟩
    have hlt : i < l.length := by omega
    simp only [toolchestlaw01_TextsSize.l0]
    rw [if_pos (by omega)]
    by_cases hn : n ≤ 1048576
    · have hsi := hs l[i] (List.getElem_mem hlt)
      have hrd : rdOf ByteArray.empty l (i : Int) = l[i] := by
        show l.getD ((i : Int)).toNat ByteArray.empty = l[i]
        rw [Int.toNat_natCast, List.getD_eq_getElem?_getD, List.getElem?_eq_getElem hlt]
        rfl
      rw [if_pos hn, if_pos (by omega), hrd]
      have hw1 : wrap64 (n + (l[i].size : Int)) = n + (l[i].size : Int) := by unfold wrap64; omega
      have hw2 : wrap64 ((i : Int) + 1) = ((i + 1 : Nat) : Int) := by unfold wrap64; omega
      rw [hw1, hw2]
      refine ih k (i + 1) _ (by omega) (by omega) (by omega) (by omega) (by omega) (fun _ => ?_)
      have hb : bulk (l.take (i + 1)) = bulk (l.take i) + l[i].size := by
        rw [List.take_succ_eq_append_getElem hlt]
        rw [bulk_append]
        simp [bulk]
      rw [hb, h2 hn]
      omega
    · rw [if_neg hn]
      exact ⟨n, rfl, h0, h1, fun h => absurd h hn⟩
theorem sizes_ev (l : List ByteArray) (hl : l.length ≤ 8796093022208) (hs : ∀ s ∈ l, s.size ≤ 140737488351232) : ∃ t, Ev (fun k => toolchestlaw01_TextsSize.f k l) t ∧ 0 ≤ t ∧ t ≤ 281474976710656 ∧ (t ≤ 1048576 → t = ((l.length + bulk l : Nat) : Int)) := by
  obtain ⟨t, h1, h2⟩ := sizes_loop l hl hs l.length (l.length + 1) 0 (l.length : Int) (by omega) (by omega) (by omega) (by omega) (by omega) (fun _ => by simp [bulk])
  exact ⟨t, Ev.of (fun k => toolchestlaw01_TextsSize.mono l k) (k := l.length + 1) h1, h2⟩
theorem beyond_ev (t1 t2 : Int) (h1 : 0 ≤ t1) (h1' : t1 ≤ 281474976710656) (h2 : 0 ≤ t2) (h2' : t2 ≤ 281474976710656) : ∃ b, Ev (fun k => toolchestlaw01_Beyond.f k [t1, t2]) b ∧ (b = false → t1 + t2 ≤ 1048576) := by
  have e1 : rd [t1, t2] 0 = t1 := rfl
  have e2 : rd [t1, t2] 1 = t2 := rfl
  have hw0 : wrap64 (0 + t1) = t1 := by unfold wrap64; omega
  have hw1 : wrap64 (t1 + t2) = t1 + t2 := by unfold wrap64; omega
  have hw2 : wrap64 (0 + 1) = 1 := by unfold wrap64; omega
  have hw3 : wrap64 (1 + 1) = 2 := by unfold wrap64; omega
  by_cases ha : t1 > 1048576
  · refine ⟨true, Ev.of (fun k => toolchestlaw01_Beyond.mono [t1, t2] k) (k := 3) ?_, by simp⟩
    show toolchestlaw01_Beyond.f 3 [t1, t2] = some true
    simp only [toolchestlaw01_Beyond.f, toolchestlaw01_Beyond.l0, List.length_cons, List.length_nil]
    rw [if_pos (by omega), if_pos (by omega), e1, hw0, if_pos ha]
  · by_cases hb : t1 + t2 > 1048576
    · refine ⟨true, Ev.of (fun k => toolchestlaw01_Beyond.mono [t1, t2] k) (k := 3) ?_, by simp⟩
      show toolchestlaw01_Beyond.f 3 [t1, t2] = some true
      simp only [toolchestlaw01_Beyond.f, toolchestlaw01_Beyond.l0, List.length_cons, List.length_nil]
      rw [if_pos (by omega), if_pos (by omega), e1, hw0, if_neg ha, hw2, if_pos (by omega), if_pos (by omega), e2, hw1, if_pos hb]
    · refine ⟨false, Ev.of (fun k => toolchestlaw01_Beyond.mono [t1, t2] k) (k := 3) ?_, fun _ => by omega⟩
      show toolchestlaw01_Beyond.f 3 [t1, t2] = some false
      simp only [toolchestlaw01_Beyond.f, toolchestlaw01_Beyond.l0, List.length_cons, List.length_nil]
      rw [if_pos (by omega), if_pos (by omega), e1, hw0, if_neg ha, hw2, if_pos (by omega), if_pos (by omega), e2, hw1, if_neg hb, hw3, if_neg (by omega)]

theorem end_true (a0 : ByteArray) (l1 l2 : List ByteArray) : Ev (fun k => toolchestlaw01_OptsEnd.j0 k a0 l1 l2 true) true := by
  refine Ev.step (f := fun k => (toolchestlaw01_alive.f k).bind fun t => some t) (fun k => by simp only [toolchestlaw01_OptsEnd.j0]; rw [if_pos trivial]) ?_
  exact Ev.bind alive_ev (Ev.now true)
theorem end_skip (a0 : ByteArray) (l1 l2 : List ByteArray) (fl : List S45) : Ev (fun k => toolchestlaw01_OptsEnd.j1 k a0 l1 l2 fl true) true :=
  Ev.step (f := fun _ => some true) (fun k => by simp only [toolchestlaw01_OptsEnd.j1]; rw [if_pos trivial]) (Ev.now true)

/-- The word '--'. -/
def ddw : ByteArray := ⟨#[45, 45]⟩

/-- Behind the search for '--' among the words: all words with '--' and the rest behind. -/
theorem end_last (a0 : ByteArray) (l1 l2 : List ByteArray) (fl : List S45) (f : Int → Option Bool) (hs : a0.size ≤ 4000) (hlo : lettersOf a0 = some f) (hp : parseGo f (l1.length + 1) l1 = some (fl, []))
    (hne : ∀ a ∈ l1, a.data.toList ≠ [45, 45]) (hl : l1.length + l2.length ≤ 200) (hb : bulk l1 + bulk l2 ≤ 1048576) :
    Ev (fun k => toolchestlaw01_OptsEnd.l0 k a0 l1 l2 fl (l1.length : Int)) true := by
  have hbk : bulkO (l1 ++ ddw :: l2) ≤ 1099511627776 := by
    have h1 := bulkO_le (l1 ++ ddw :: l2)
    have h2 : bulk (l1 ++ ddw :: l2) = bulk l1 + (2 + bulk l2) := by
      rw [bulk_append]
      rfl
    omega
  have hpar : opts_Parse.f a0 (l1 ++ ddw :: l2) = some (fl, l2, 0) := by
    unfold opts_Parse.f
    rw [if_pos ⟨hs, hbk, by simp; omega⟩, hlo]
    simp only
    rw [if_neg (by simp; omega), parse_app f l2 ddw rfl rfl _ _ _ hp hne _ (by simp; omega)]
    rfl
  have hfl : fl.length ≤ 1048576 := by have := parse_flags f _ _ _ _ hp; omega
  refine Ev.step (f := fun k => (toolchestlaw01_SameFlags.f k fl fl).bind fun t => if t = true then (toolchestlaw01_SameTexts.f k l2 l2).bind fun t => some t else some false) (fun k => ?_) ?_
  · simp only [toolchestlaw01_OptsEnd.l0]
    rw [if_neg (by omega), if_pos (by simp; omega)]
    simp only [Option.bind_some, List.nil_append]
    rw [if_pos (by omega)]
    rw [if_pos (by simp; omega)]
    have e : l1 ++ [(⟨#[45, 45]⟩ : ByteArray)] ++ l2 = l1 ++ ddw :: l2 := by simp [ddw]
    rw [e, hpar]
    simp
  · refine Ev.bind (sameFlags_ev fl (by omega)) ?_
    simp only [if_true]
    exact Ev.bind (sameTexts_ev l2 (by omega)) (Ev.now true)

theorem end_search (a0 : ByteArray) (l1 l2 : List ByteArray) (fl : List S45) (f : Int → Option Bool) (hs : a0.size ≤ 4000) (hlo : lettersOf a0 = some f) (hp : parseGo f (l1.length + 1) l1 = some (fl, []))
    (hl : l1.length + l2.length ≤ 200) (hb : bulk l1 + bulk l2 ≤ 1048576) (d : Nat) : ∀ i : Nat, l1.length - i = d → i ≤ l1.length → (∀ a ∈ l1.take i, a.data.toList ≠ [45, 45]) →
    Ev (fun k => toolchestlaw01_OptsEnd.l0 k a0 l1 l2 fl (i : Int)) true := by
  induction d with
  | zero =>
    intro i hd hi hne
    obtain rfl : i = l1.length := by omega
    rw [List.take_length] at hne
    exact end_last a0 l1 l2 fl f hs hlo hp hne hl hb
  | succ d ih =>
    intro i hd hi hne
    have hlt : i < l1.length := by omega
    have hrd : rdOf ByteArray.empty l1 (i : Int) = l1[i] := by
      show l1.getD ((i : Int)).toNat ByteArray.empty = l1[i]
      rw [Int.toNat_natCast, List.getD_eq_getElem?_getD, List.getElem?_eq_getElem hlt]
      rfl
    by_cases h : (l1[i]).toList = ([45, 45] : List UInt8)
    · refine Ev.step (f := fun _ => some true) (fun k => ?_) (Ev.now true)
      simp only [toolchestlaw01_OptsEnd.l0]
      rw [if_pos (by omega), if_pos (by omega), hrd, if_pos h]
    · refine Ev.step (f := fun k => toolchestlaw01_OptsEnd.l0 k a0 l1 l2 fl ((i + 1 : Nat) : Int)) (fun k => ?_) (ih (i + 1) (by omega) (by omega) (fun a ha => ?_))
      · simp only [toolchestlaw01_OptsEnd.l0]
        have hw : wrap64 ((i : Int) + 1) = ((i + 1 : Nat) : Int) := by unfold wrap64; omega
        rw [if_pos (by omega), if_pos (by omega), hrd, if_neg h, hw]
      · rw [List.take_succ_eq_append_getElem hlt] at ha
        rcases List.mem_append.1 ha with ha | ha
        · exact hne a ha
        · rw [List.mem_singleton.1 ha]
          rw [Lib.toList_data] at h
          exact h

theorem end_false (a0 : ByteArray) (l1 l2 : List ByteArray) (hs : a0.size ≤ 4000) (hl : l1.length + l2.length ≤ 200) (hb : bulk l1 + bulk l2 ≤ 1048576) : Ev (fun k => toolchestlaw01_OptsEnd.j0 k a0 l1 l2 false) true := by
  have hcond : a0.size ≤ 4000 ∧ bulkO l1 ≤ 1099511627776 ∧ l1.length ≤ 1099511627776 := ⟨hs, by have := bulkO_le l1; omega, by omega⟩
  have step : ∀ (fl : List S45) (r : List ByteArray) (n : Int), opts_Parse.f a0 l1 = some (fl, r, n) → Ev (fun k => toolchestlaw01_OptsEnd.j1 k a0 l1 l2 fl (if n = 0 then decide ((r.length : Int) > 0) else true)) true → Ev (fun k => toolchestlaw01_OptsEnd.j0 k a0 l1 l2 false) true := by
    intro fl r n h h2
    refine Ev.step (f := fun k => toolchestlaw01_OptsEnd.j1 k a0 l1 l2 fl (if n = 0 then decide ((r.length : Int) > 0) else true)) (fun k => ?_) h2
    simp only [toolchestlaw01_OptsEnd.j0]
    rw [if_neg (by simp), h]
    simp only [Option.bind_some]
    split <;> rfl
  cases hlo : lettersOf a0 with
  | none =>
    refine step [] [] 1 (by unfold opts_Parse.f; rw [if_pos hcond, hlo]) ?_
    exact end_skip a0 l1 l2 []
  | some f =>
    have hval : opts_Parse.f a0 l1 = some (parseAns (parseGo f (l1.length + 1) l1)) := by
      unfold opts_Parse.f
      rw [if_pos hcond, hlo]
      simp only
      rw [if_neg (by omega)]
    cases hp : parseGo f (l1.length + 1) l1 with
    | none =>
      rw [hp] at hval
      exact step [] [] 4 hval (end_skip a0 l1 l2 [])
    | some q =>
      obtain ⟨fl, r⟩ := q
      rw [hp] at hval
      refine step fl r 0 hval ?_
      cases r with
      | cons b r =>
        have e : decide (((b :: r).length : Int) > 0) = true := by simp
        simp only [if_true, e]
        exact end_skip a0 l1 l2 fl
      | nil =>
        have e : decide ((([] : List ByteArray).length : Int) > 0) = false := by simp
        simp only [if_true, e]
        refine Ev.step (f := fun k => toolchestlaw01_OptsEnd.l0 k a0 l1 l2 fl 0) (fun k => by simp only [toolchestlaw01_OptsEnd.j1]; rw [if_neg (by simp)]) ?_
        exact end_search a0 l1 l2 fl f hs hlo hp hl hb l1.length 0 (by omega) (by omega) (fun a h => by simp at h)

theorem optsEnd_pure (a0 : ByteArray) (l1 l2 : List ByteArray) (h1 : l1.length ≤ 8796093022208) (h2 : l2.length ≤ 8796093022208) (s1 : ∀ s ∈ l1, s.size ≤ 140737488351232) (s2 : ∀ s ∈ l2, s.size ≤ 140737488351232) :
    ∃ k, toolchestlaw01_OptsEnd.f k a0 l1 l2 = some true := by
  refine Ev.rounds (g := fun k => toolchestlaw01_OptsEnd.f k a0 l1 l2) ?_
  unfold toolchestlaw01_OptsEnd.f
  refine Ev.bind alive_ev ?_
  simp only [if_true]
  have hw : wrap64 ((l1.length : Int) + (l2.length : Int)) = (l1.length : Int) + (l2.length : Int) := by unfold wrap64; omega
  rw [hw]
  by_cases hl : (l1.length : Int) + (l2.length : Int) > 200
  · simp only [if_pos hl]
    exact end_true a0 l1 l2
  · simp only [if_neg hl]
    by_cases hs : (a0.size : Int) > 2000
    · simp only [if_pos hs]
      exact end_true a0 l1 l2
    · simp only [if_neg hs]
      obtain ⟨t1, e1, p1, q1, r1⟩ := sizes_ev l1 h1 s1
      obtain ⟨t2, e2, p2, q2, r2⟩ := sizes_ev l2 h2 s2
      obtain ⟨b, e3, r3⟩ := beyond_ev t1 t2 p1 q1 p2 q2
      refine Ev.bind e1 (Ev.bind e2 (Ev.bind e3 ?_))
      cases b with
      | true => exact end_true a0 l1 l2
      | false =>
        have h3 := r3 rfl
        have h4 := r1 (by omega)
        have h5 := r2 (by omega)
        exact end_false a0 l1 l2 (by omega) (by omega) (by omega)
end Go.Proofs.YtemimbjnfadklaaDoor.L
