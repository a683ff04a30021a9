/- Plain laws: has; Beyond of one length; strings of numbers; the plain law of SetsRest. -/
import Derived.Test.YtndmngijfleilaaDoorLx3
import Derived.Test.YtndmngijfleilaaDoorLx10
import Derived.Test.YtndmngijfleilaaDoorLx11m
namespace Go.Proofs.YtndmngijfleilaaDoor.L
open Go.RowKit Go.Proofs.YtndmngijfleilaaDoorW.PrintWords Go.Proofs.YtndmngijfleilaaDoorW.PrintLast Go.Proofs.YtndmngijfleilaaDoorW.PrintMore

theorem drop_rd (l : List Int) (i : Nat) (h : i < l.length) : l.drop i = rd l (i : Int) :: l.drop (i + 1) := by
  rw [rd_get l i h]
  exact List.drop_eq_getElem_cons h
theorem wrap_nat (i : Nat) (h : i < 281474976710656) : wrap64 ((i : Int) + 1) = ((i + 1 : Nat) : Int) := by
  unfold wrap64
  omega
theorem has_loop (l : List Int) (c : Int) (hl : l.length ≤ 140737488351232) (d : Nat) : ∀ i : Nat, l.length - i = d → i ≤ l.length → Ev (fun k => toolchestlaw04_has.l0 k l c (i : Int)) ((l.drop i).contains c) := by
  induction d with
  | zero =>
    intro i hd hi
    rw [List.drop_eq_nil_of_le (by omega)]
    refine Ev.step (f := fun _ => some false) (fun k => ?_) (Ev.now false)
    simp only [toolchestlaw04_has.l0]
    rw [if_neg (by omega)]
  | succ d ih =>
    intro i hd hi
    rw [drop_rd l i (by omega)]
    by_cases h : rd l (i : Int) = c
    · refine Ev.step (f := fun _ => some true) (fun k => ?_) ?_
      · simp only [toolchestlaw04_has.l0]
        rw [if_pos (by omega), if_pos (by omega), if_pos h]
      · rw [show (rd l (i : Int) :: l.drop (i + 1)).contains c = true by simp [h]]
        exact Ev.now true
    · refine Ev.step (f := fun k => toolchestlaw04_has.l0 k l c ((i + 1 : Nat) : Int)) (fun k => ?_) ?_
      · simp only [toolchestlaw04_has.l0]
        rw [if_pos (by omega), if_pos (by omega), if_neg h, wrap_nat i (by omega)]
      · rw [show (rd l (i : Int) :: l.drop (i + 1)).contains c = (l.drop (i + 1)).contains c by
          rw [List.contains_cons]
          have : (c == rd l (i : Int)) = false := by simpa using fun e => h e.symm
          rw [this, Bool.false_or]]
        exact ih (i + 1) (by omega) (by omega)
theorem has_ev (l : List Int) (c : Int) (hl : l.length ≤ 140737488351232) : Ev (fun k => toolchestlaw04_has.f k l c) (l.contains c) := by
  have h := has_loop l c hl _ 0 rfl (by omega)
  exact h
theorem beyond1_ev (n : Nat) (h : n ≤ 140737488351232) : Ev (fun k => toolchestlaw01_Beyond.f k [(n : Int)]) (decide (n > 1048576)) := by
  refine Ev.of (fun k => toolchestlaw01_Beyond.mono [(n : Int)] k) (k := 3) ?_
  have e1 : rd [(n : Int)] 0 = n := rfl
  have hw0 : wrap64 (0 + (n : Int)) = n := by unfold wrap64; omega
  have hw2 : wrap64 (0 + 1) = 1 := by unfold wrap64; omega
  simp only [toolchestlaw01_Beyond.f, toolchestlaw01_Beyond.l0, List.length_cons, List.length_nil]
  rw [if_pos (by omega), if_pos (by omega), e1, hw0]
  by_cases hn : n > 1048576
  · rw [if_pos (by omega), decide_eq_true hn]
  · rw [if_neg (by omega), hw2, if_neg (by omega), decide_eq_false hn]

theorem mem_rest (f : Nat → Bool) (k : Nat) (c : Int) : c ∈ restTo f k ↔ 0 ≤ c ∧ c < k ∧ f c.toNat = false := by
  unfold restTo
  simp only [List.mem_map, List.mem_filter, List.mem_range]
  constructor
  · rintro ⟨j, ⟨h1, h2⟩, rfl⟩
    refine ⟨by omega, by omega, ?_⟩
    simpa using h2
  · rintro ⟨h0, h1, h2⟩
    exact ⟨c.toNat, ⟨by omega, by simp [h2]⟩, by omega⟩
theorem rest_has (f : Nat → Bool) (c : Int) (h0 : 0 ≤ c) (h1 : c ≤ 255) : (restTo f 256).contains c = !f c.toNat := by
  cases hf : f c.toNat with
  | false =>
    rw [show (restTo f 256).contains c = true by
      rw [List.contains_iff_mem]
      exact (mem_rest f 256 c).2 ⟨h0, by omega, hf⟩]
    rfl
  | true =>
    have : ¬ (restTo f 256).contains c = true := fun h => by
      rw [List.contains_iff_mem] at h
      have := ((mem_rest f 256 c).1 h).2.2
      rw [hf] at this
      cases this
    simpa using this
theorem inB_rest (f : Nat → Bool) (j : Nat) (hj : j < 256) : inB (restTo f 256) j = !f j := by
  have h := rest_has f (j : Int) (by omega) (by omega)
  exact h
theorem rest_both (f g : Nat → Bool) (k : Nat) (h : ∀ j, j < k → g j = !f j) : (restTo f k).length + (restTo g k).length = k := by
  induction k with
  | zero => rfl
  | succ k ih =>
    have h1 := ih fun j hj => h j (by omega)
    rw [restTo_succ, restTo_succ, h k (by omega)]
    cases f k <;> simp <;> omega
theorem rest_up (f : Nat → Bool) (k : Nat) : (restTo f k).Pairwise (· < ·) := by
  unfold restTo
  rw [List.pairwise_map]
  refine List.Pairwise.imp (R := fun a b : Nat => a < b) (fun h => by omega) ?_
  exact List.Pairwise.filter _ List.pairwise_lt_range
theorem rest_val (l : List Int) (hl : l.length ≤ 140737488351232) (hb : ∀ x ∈ l, 0 ≤ x ∧ x ≤ 255) : sets_Rest.f l = some (restTo (inB l) 256) := by
  unfold sets_Rest.f
  rw [if_pos ⟨hl, by unfold okB; rw [List.all_eq_true]; exact fun x hx => decide_eq_true (hb x hx)⟩]

theorem restLoop (l : List Int) (c : Int) (R : List Int) (hR : R.length ≤ 256) (up : R.Pairwise (· < ·)) (end_ : ∀ i : Nat, R.length ≤ i → Ev (fun k => toolchestlaw04_SetsRest.l0 k l c R (i : Int)) true) (d : Nat) :
    ∀ i : Nat, R.length - i = d → 1 ≤ i → Ev (fun k => toolchestlaw04_SetsRest.l0 k l c R (i : Int)) true := by
  induction d with
  | zero => exact fun i hd hi => end_ i (by omega)
  | succ d ih =>
    intro i hd hi
    have w1 : wrap64 ((i : Int) - 1) = ((i - 1 : Nat) : Int) := by unfold wrap64; omega
    refine Ev.step (f := fun k => toolchestlaw04_SetsRest.l0 k l c R ((i + 1 : Nat) : Int)) (fun k => ?_) (ih (i + 1) (by omega) (by omega))
    have lt : rd R ((i - 1 : Nat) : Int) < rd R (i : Int) := by
      rw [rd_get R (i - 1) (by omega), rd_get R i (by omega)]
      exact List.pairwise_iff_getElem.1 up (i - 1) i (by omega) (by omega) (by omega)
    simp only [toolchestlaw04_SetsRest.l0]
    rw [if_pos (by omega), if_pos (by omega), w1, if_pos (by omega), if_pos (by omega), if_neg (by omega), wrap_nat i (by omega)]

theorem setsRest_pure (l : List Int) (c : Int) (hl : l.length ≤ 140737488351232) (hb : ∀ x ∈ l, 0 ≤ x ∧ x ≤ 255) (hc : 0 ≤ c ∧ c ≤ 255) : ∃ k, toolchestlaw04_SetsRest.f k l c = some true := by
  refine Ev.rounds (g := fun k => toolchestlaw04_SetsRest.f k l c) ?_
  have hyes : Ev (fun k => toolchestlaw04_SetsRest.j0 k l c true) true := by
    refine Ev.step (f := fun k => some true) (fun k => by simp only [toolchestlaw04_SetsRest.j0]; rw [if_pos trivial]; rfl) (Ev.now true)
  refine Ev.congr (f := fun k => (toolchestlaw01_Beyond.f k [(l.length : Int)]).bind fun t => toolchestlaw04_SetsRest.j0 k l c t) (fun k => by unfold toolchestlaw04_SetsRest.f toolchestlaw04_alive.f; rfl) ?_
  refine Ev.bind (beyond1_ev l.length hl) ?_
  by_cases hn : l.length > 1048576
  · rw [decide_eq_true hn]
    exact hyes
  · rw [decide_eq_false hn]
    obtain ⟨R, hR⟩ : ∃ R, restTo (inB l) 256 = R := ⟨_, rfl⟩
    have hRl : R.length ≤ 256 := hR ▸ restTo_len _ _
    have hRb : ∀ x ∈ R, 0 ≤ x ∧ x ≤ 255 := fun x hx => by
      rw [← hR] at hx
      have := (mem_rest _ _ _).1 hx
      omega
    have hup : R.Pairwise (· < ·) := hR ▸ rest_up _ _
    have hRc : R.contains c = !(l.contains c) := by
      rw [← hR, rest_has _ c hc.1 hc.2]
      show (!(l.contains ((c.toNat : Nat) : Int))) = _
      rw [show ((c.toNat : Nat) : Int) = c by omega]
    have hboth : R.length + (restTo (inB R) 256).length = 256 := by
      rw [← hR]
      exact rest_both _ _ 256 fun j hj => inB_rest _ j hj
    have hQc : (restTo (inB R) 256).contains c = l.contains c := by
      rw [rest_has _ c hc.1 hc.2]
      have : inB R c.toNat = R.contains c := by
        show R.contains ((c.toNat : Nat) : Int) = _
        rw [show ((c.toNat : Nat) : Int) = c by omega]
      rw [this, hRc, Bool.not_not]
    obtain ⟨Q, hQ⟩ : ∃ Q, restTo (inB R) 256 = Q := ⟨_, rfl⟩
    rw [hQ] at hboth hQc
    have hend : ∀ i : Nat, R.length ≤ i → Ev (fun k => toolchestlaw04_SetsRest.l0 k l c R (i : Int)) true := by
      intro i hi
      refine Ev.step (f := fun k => (toolchestlaw04_has.f k l c).bind fun a => (toolchestlaw04_has.f k R c).bind fun b => if (a != b) = true then ((toolchestlaw04_has.f k Q c).bind fun p => (toolchestlaw04_has.f k l c).bind fun q => if (p == q) = true then some (wrap64 ((R.length : Int) + (Q.length : Int)) == 256) else some false) else some false) (fun k => ?_) ?_
      · simp only [toolchestlaw04_SetsRest.l0]
        rw [if_neg (by omega), rest_val R (by omega) hRb, hQ]
        rfl
      · refine Ev.bind (has_ev l c hl) ?_
        refine Ev.bind (has_ev R c (by omega)) ?_
        have hx : (l.contains c != !l.contains c) = true := by cases l.contains c <;> rfl
        rw [hRc]
        simp only [if_pos hx]
        refine Ev.bind (has_ev Q c (by omega)) ?_
        refine Ev.bind (has_ev l c hl) ?_
        have hy : (l.contains c == l.contains c) = true := by simp
        rw [hQc]
        simp only [if_pos hy]
        rw [show wrap64 ((R.length : Int) + (Q.length : Int)) = 256 by unfold wrap64; omega]
        exact Ev.now true
    refine Ev.step (f := fun k => toolchestlaw04_SetsRest.l0 k l c R 1) (fun k => ?_) ?_
    · simp only [toolchestlaw04_SetsRest.j0]
      rw [if_neg (by simp), rest_val l hl hb, hR]
      rfl
    · exact restLoop l c R hRl hup hend _ 1 rfl (by omega)
end Go.Proofs.YtndmngijfleilaaDoor.L
