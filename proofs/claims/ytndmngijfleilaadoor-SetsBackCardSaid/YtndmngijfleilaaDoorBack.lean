/- The plain law of SetsBack. -/
import Derived.Test.YtndmngijfleilaaDoorSwapped
import Derived.Test.YtndmngijfleilaaDoorLx4m
namespace Go.Proofs.YtndmngijfleilaaDoor.L
open Go.RowKit Go.Proofs.YtndmngijfleilaaDoorW.PrintWords Go.Proofs.YtndmngijfleilaaDoorW.PrintLast Go.Proofs.YtndmngijfleilaaDoorW.PrintMore

def apart (l : List Int) (n : Nat) : Prop := ∀ q, q < n → (l.take q).contains (rd l (q : Int)) = false
theorem apart_ne {l : List Int} {n : Nat} (h : apart l n) (hn : n ≤ l.length) (p q : Nat) (hp : p < q) (hq : q < n) : rd l (p : Int) ≠ rd l (q : Int) := by
  intro e
  have h1 := h q hq
  have h2 : (l.take q).contains (rd l (q : Int)) = true := by
    rw [List.contains_iff_mem, ← e, rd_get l p (by omega)]
    rw [List.mem_take_iff_getElem]
    exact ⟨p, by omega, rfl⟩
  rw [h1] at h2
  cases h2
theorem tab_out (tt : List Int) (j : Nat) : ∀ (l : List Int) (p : Nat), (∀ x ∈ l, x ≠ (j : Int)) → tabGo tt l p j = (j : Int)
  | [], _, _ => rfl
  | c :: l, p, h => by
    simp only [tabGo]
    rw [if_neg (fun e => h c (by simp) e.symm)]
    exact tab_out tt j l (p + 1) fun x hx => h x (by simp [hx])
theorem rd_succ (b : Int) (l : List Int) (j : Nat) : rd (b :: l) ((j + 1 : Nat) : Int) = rd l (j : Int) := by
  unfold rd
  rw [Int.toNat_natCast, Int.toNat_natCast]
  rfl
theorem tab_in (tt : List Int) (j : Nat) : ∀ (l : List Int) (p q : Nat), q < l.length → rd l (q : Int) = (j : Int) → (∀ x : Nat, x < q → rd l (x : Int) ≠ (j : Int)) → tabGo tt l p j = rd tt (min ((p + q : Nat) : Int) ((tt.length : Int) - 1))
  | [], _, q, hq, _, _ => by simp at hq
  | c :: l, p, 0, _, he, _ => by
    have : c = (j : Int) := he
    simp only [tabGo]
    rw [if_pos this.symm]
    rfl
  | c :: l, p, q + 1, hq, he, hn => by
    have h0 : c ≠ (j : Int) := hn 0 (by omega)
    simp only [tabGo]
    rw [if_neg fun e => h0 e.symm]
    rw [rd_succ] at he
    have := tab_in tt j l (p + 1) q (by simpa using hq) he fun x hx => by
      have := hn (x + 1) (by omega)
      rw [rd_succ] at this
      exact this
    rw [this, show p + 1 + q = p + (q + 1) by omega]
theorem there_back (l1 l2 : List Int) (hlen : l1.length = l2.length) (a1 : apart l1 l1.length) (a2 : apart l2 l2.length) (hb2 : ∀ x ∈ l2, 0 ≤ x ∧ x ≤ 255) (c : Int) (hc : 0 ≤ c) (hin : l2.contains c = true → l1.contains c = true) :
    tabAt l2 l1 0 (tabAt l1 l2 0 c.toNat).toNat = c := by
  unfold tabAt
  rw [List.drop_zero, List.drop_zero]
  have ec : ((c.toNat : Nat) : Int) = c := by omega
  cases h : l1.contains c with
  | true =>
    rw [List.contains_iff_mem, List.mem_iff_getElem] at h
    obtain ⟨q, hq, he⟩ := h
    rw [← rd_get l1 q hq] at he
    rw [tab_in l2 c.toNat l1 0 q hq (by rw [he, ec]) fun x hx => by rw [ec, ← he]; exact apart_ne a1 (Nat.le_refl _) x q hx hq]
    rw [show min ((0 + q : Nat) : Int) ((l2.length : Int) - 1) = (q : Int) by omega]
    have hv := hb2 (rd l2 (q : Int)) (by rw [rd_get l2 q (by omega)]; exact List.getElem_mem _)
    have ev : (((rd l2 (q : Int)).toNat : Nat) : Int) = rd l2 (q : Int) := by omega
    rw [tab_in l1 (rd l2 (q : Int)).toNat l2 0 q (by omega) ev.symm fun x hx => by rw [ev]; exact apart_ne a2 (Nat.le_refl _) x q hx (by omega)]
    rw [show min ((0 + q : Nat) : Int) ((l1.length : Int) - 1) = (q : Int) by omega]
    exact he
  | false =>
    have h2 : ¬ c ∈ l2 := fun hm => by
      have := hin (by rw [List.contains_iff_mem]; exact hm)
      rw [h] at this
      cases this
    have h1 : ¬ c ∈ l1 := fun hm => by
      rw [← List.contains_iff_mem, h] at hm
      cases hm
    rw [tab_out l2 c.toNat l1 0 fun x hx e => h1 (by rw [ec] at e; exact e ▸ hx)]
    rw [show (((c.toNat : Nat) : Int)).toNat = c.toNat by omega]
    rw [tab_out l1 c.toNat l2 0 fun x hx e => h2 (by rw [ec] at e; exact e ▸ hx)]
    exact ec

section
variable {s : ByteArray} {l1 l2 : List Int}
theorem backLoop1 (hs : s.size ≤ 20000) (hl1 : l1.length ≤ 256) (hl2 : l2.length ≤ 256)
    (end_ : (∀ j : Nat, j < s.size → l2.contains (bt s (j : Int)) = true → l1.contains (bt s (j : Int)) = true) → Ev (fun k => toolchestlaw04_SetsBack.l1 k s l1 l2 (s.size : Int)) true) (d : Nat) :
    ∀ i : Nat, s.size - i = d → i ≤ s.size → (∀ j : Nat, j < i → l2.contains (bt s (j : Int)) = true → l1.contains (bt s (j : Int)) = true) → Ev (fun k => toolchestlaw04_SetsBack.l1 k s l1 l2 (i : Int)) true := by
  induction d with
  | zero =>
    intro i hd hi hj
    obtain rfl : i = s.size := by omega
    exact end_ hj
  | succ d ih =>
    intro i hd hi hj
    refine Ev.step (f := fun k => (toolchestlaw04_has.f k l2 (bt s (i : Int))).bind fun a => if a = true then (toolchestlaw04_has.f k l1 (bt s (i : Int))).bind fun b => (if b = true then toolchestlaw04_SetsBack.l1 k s l1 l2 ((i + 1 : Nat) : Int) else some true) else toolchestlaw04_SetsBack.l1 k s l1 l2 ((i + 1 : Nat) : Int)) (fun k => ?_) ?_
    · simp only [toolchestlaw04_SetsBack.l1]
      rw [if_pos (by omega), if_pos (by omega), wrap_nat i (by omega)]
    · refine Ev.bind (has_ev l2 _ (by omega)) ?_
      have next : (l2.contains (bt s (i : Int)) = true → l1.contains (bt s (i : Int)) = true) → Ev (fun k => toolchestlaw04_SetsBack.l1 k s l1 l2 ((i + 1 : Nat) : Int)) true := fun h => ih (i + 1) (by omega) (by omega) fun j hji => by
        by_cases e : j = i
        · subst e; exact h
        · exact hj j (by omega)
      cases h2 : l2.contains (bt s (i : Int)) with
      | false =>
        simp only [Bool.false_eq_true, if_false]
        exact next fun h => by rw [h2] at h; cases h
      | true =>
        simp only [if_true]
        refine Ev.bind (has_ev l1 _ (by omega)) ?_
        cases h1 : l1.contains (bt s (i : Int)) with
        | false =>
          simp only [Bool.false_eq_true, if_false]
          exact Ev.now true
        | true =>
          simp only [if_true]
          exact next fun _ => h1
theorem backLoop0 (hlen : l1.length = l2.length) (hl1 : l1.length ≤ 256)
    (end_ : apart l1 l1.length → apart l2 l1.length → Ev (fun k => toolchestlaw04_SetsBack.l1 k s l1 l2 ((0 : Nat) : Int)) true) (d : Nat) :
    ∀ i : Nat, l1.length - i = d → i ≤ l1.length → apart l1 i → apart l2 i → Ev (fun k => toolchestlaw04_SetsBack.l0 k s l1 l2 (i : Int)) true := by
  induction d with
  | zero =>
    intro i hd hi a1 a2
    obtain rfl : i = l1.length := by omega
    refine Ev.step (f := fun k => toolchestlaw04_SetsBack.l1 k s l1 l2 ((0 : Nat) : Int)) (fun k => ?_) (end_ a1 a2)
    simp only [toolchestlaw04_SetsBack.l0]
    rw [if_neg (by omega)]
    rfl
  | succ d ih =>
    intro i hd hi a1 a2
    have grow : ∀ {l : List Int}, apart l i → (l.take i).contains (rd l (i : Int)) = false → apart l (i + 1) := fun a h q hq => by
      by_cases e : q = i
      · subst e; exact h
      · exact a q (by omega)
    refine Ev.step (f := fun k => (toolchestlaw04_has.f k (l1.take i) (rd l1 (i : Int))).bind fun a => if a = true then some true else (toolchestlaw04_has.f k (l2.take i) (rd l2 (i : Int))).bind fun b => if b = true then some true else toolchestlaw04_SetsBack.l0 k s l1 l2 ((i + 1 : Nat) : Int)) (fun k => ?_) ?_
    · have g1 : (i : Int) ≤ (l2.length : Int) := by omega
      have g2 : (i : Int) < (l2.length : Int) := by omega
      simp only [toolchestlaw04_SetsBack.l0, if_pos g1, if_pos g2]
      rw [if_pos (by omega), if_pos (by omega), if_pos (by omega), wrap_nat i (by omega), Int.toNat_natCast]
    · refine Ev.bind (has_ev _ _ (by rw [List.length_take]; omega)) ?_
      cases h1 : (l1.take i).contains (rd l1 (i : Int)) with
      | true =>
        simp only [if_true]
        exact Ev.now true
      | false =>
        simp only [Bool.false_eq_true, if_false]
        refine Ev.bind (has_ev _ _ (by rw [List.length_take]; omega)) ?_
        cases h2 : (l2.take i).contains (rd l2 (i : Int)) with
        | true =>
          simp only [if_true]
          exact Ev.now true
        | false =>
          simp only [Bool.false_eq_true, if_false]
          exact ih (i + 1) (by omega) (by omega) (grow a1 h1) (grow a2 h2)
end

theorem setsBack_pure (s : ByteArray) (l1 l2 : List Int) (hl1 : l1.length ≤ 140737488351232) (hl2 : l2.length ≤ 140737488351232) (hb1 : ∀ x ∈ l1, 0 ≤ x ∧ x ≤ 255) (hb2 : ∀ x ∈ l2, 0 ≤ x ∧ x ≤ 255) : ∃ k, toolchestlaw04_SetsBack.f k s l1 l2 = some true := by
  refine Ev.rounds (g := fun k => toolchestlaw04_SetsBack.f k s l1 l2) ?_
  have hyes : Ev (fun k => toolchestlaw04_SetsBack.j0 k s l1 l2 true) true :=
    Ev.step (f := fun k => some true) (fun k => by simp only [toolchestlaw04_SetsBack.j0]; rw [if_pos trivial]; rfl) (Ev.now true)
  refine Ev.congr (f := fun k => if (s.size : Int) > 20000 then (toolchestlaw04_SetsBack.j0 k s l1 l2 true) else (if (l1.length : Int) > 256 then (toolchestlaw04_SetsBack.j0 k s l1 l2 true) else (toolchestlaw04_SetsBack.j0 k s l1 l2 ((l1.length : Int) != (l2.length : Int))))) (fun k => by unfold toolchestlaw04_SetsBack.f toolchestlaw04_alive.f; rfl) ?_
  by_cases h1 : (s.size : Int) > 20000
  · simp only [if_pos h1]
    exact hyes
  simp only [if_neg h1]
  by_cases h2 : (l1.length : Int) > 256
  · simp only [if_pos h2]
    exact hyes
  simp only [if_neg h2]
  by_cases h3 : (l1.length : Int) = (l2.length : Int)
  · rw [show ((l1.length : Int) != (l2.length : Int)) = false by rw [h3]; exact bne_self_eq_false _]
    have hlen : l1.length = l2.length := by omega
    refine Ev.step (f := fun k => toolchestlaw04_SetsBack.l0 k s l1 l2 ((0 : Nat) : Int)) (fun k => ?_) ?_
    · simp only [toolchestlaw04_SetsBack.j0]
      rw [if_neg (by simp)]
      rfl
    refine backLoop0 hlen (by omega) (fun a1 a2 => ?_) _ 0 rfl (by omega) (fun q hq => by omega) (fun q hq => by omega)
    refine backLoop1 (by omega) (by omega) (by omega) (fun hj => ?_) _ 0 rfl (by omega) (fun j h => by omega)
    have bM : bytesOf (strOfNums (mapped l1 l2 (bytesOf s))) = mapped l1 l2 (bytesOf s) := mapped_bytes s l1 l2 hb2
    have zM : (strOfNums (mapped l1 l2 (bytesOf s))).size = s.size := by rw [str_size, mapped_len, bytesOf_length]
    have hfin : strOfNums (mapped l2 l1 (mapped l1 l2 (bytesOf s))) = s := by
      refine Eq.trans (congrArg strOfNums ?_) (str_bytesOf s)
      unfold mapped
      rw [List.map_map]
      refine Eq.trans (List.map_congr_left (g := id) fun c hc => ?_) (List.map_id _)
      refine there_back l1 l2 hlen a1 (hlen ▸ a2) hb2 c (bytesOf_ok s c hc).1 fun hin => ?_
      obtain ⟨j, hjl, he⟩ := List.mem_iff_getElem.1 hc
      rw [← rd_get _ j hjl, rd_bytesOf] at he
      rw [bytesOf_length] at hjl
      rw [← he] at hin ⊢
      exact hj j hjl hin
    refine Ev.step (f := fun k => some true) (fun k => ?_) (Ev.now true)
    simp only [toolchestlaw04_SetsBack.l1]
    rw [if_neg (by omega), swap_val s l1 l2 (by omega) hl1 hl2 hb1, post_map s l1 l2 (by omega)]
    simp only [Option.bind_some]
    rw [swap_val _ l2 l1 (by rw [zM]; omega) hl2 hl1 hb2, post_map _ l2 l1 (by omega), bM, hfin]
    simp
  · rw [show ((l1.length : Int) != (l2.length : Int)) = true by simpa using h3]
    exact hyes
end Go.Proofs.YtndmngijfleilaaDoor.L
