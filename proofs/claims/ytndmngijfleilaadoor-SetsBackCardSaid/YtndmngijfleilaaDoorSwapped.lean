/- The plain law of SetsSwapped. -/
import Derived.Test.YtndmngijfleilaaDoorDropped
import Derived.Test.YtndmngijfleilaaDoorLx2
namespace Go.Proofs.YtndmngijfleilaaDoor.L
open Go.RowKit Go.Proofs.YtndmngijfleilaaDoorW.PrintWords Go.Proofs.YtndmngijfleilaaDoorW.PrintLast Go.Proofs.YtndmngijfleilaaDoorW.PrintMore

theorem tabGo_ok (tt : List Int) (ht : ∀ x ∈ tt, 0 ≤ x ∧ x ≤ 255) : ∀ (l : List Int) (p j : Nat), j ≤ 255 → 0 ≤ tabGo tt l p j ∧ tabGo tt l p j ≤ 255
  | [], p, j, hj => by
    simp only [tabGo]
    omega
  | c :: l, p, j, hj => by
    simp only [tabGo]
    split
    · unfold rd
      rw [List.getD_eq_getElem?_getD]
      cases h : tt[(min (p : Int) ((tt.length : Int) - 1)).toNat]? with
      | none => simp
      | some v =>
        have := ht v (List.mem_of_getElem? h)
        simpa using this
    · exact tabGo_ok tt ht l (p + 1) j hj
/-- What Swap makes of a text, where it makes one. -/
def mapped (l1 l2 B : List Int) : List Int := B.map fun c => tabAt l1 l2 0 c.toNat
theorem tab_nil (tt : List Int) (B : List Int) (hB : ∀ x ∈ B, 0 ≤ x ∧ x ≤ 255) : mapped [] tt B = B := by
  unfold mapped
  refine Eq.trans (List.map_congr_left (g := id) fun x hx => ?_) (List.map_id _)
  have := hB x hx
  simp only [tabAt, tabGo, List.drop_zero, id]
  omega
theorem swap_val (s : ByteArray) (l1 l2 : List Int) (hs : s.size ≤ 70368744177664) (h1 : l1.length ≤ 140737488351232) (h2 : l2.length ≤ 140737488351232) (hb : ∀ x ∈ l1, 0 ≤ x ∧ x ≤ 255) : sets_Swap.f s l1 l2 = some (swapPost s l1 l2) := by
  unfold sets_Swap.f
  rw [if_pos ⟨hs, h1, h2, okB_of hb⟩]
theorem post_map (s : ByteArray) (l1 l2 : List Int) (h : l1.length = 0 ∨ l2.length ≠ 0) : swapPost s l1 l2 = (strOfNums (mapped l1 l2 (bytesOf s)), 0) := by
  unfold swapPost
  by_cases h1 : l1.length = 0
  · rw [if_pos h1]
    obtain rfl := List.eq_nil_of_length_eq_zero h1
    rw [tab_nil l2 (bytesOf s) (bytesOf_ok s), str_bytesOf]
  · rw [if_neg h1, if_neg (h.resolve_left h1)]
    rfl
theorem mapped_ok (l1 l2 B : List Int) (ht : ∀ x ∈ l2, 0 ≤ x ∧ x ≤ 255) (hB : ∀ x ∈ B, 0 ≤ x ∧ x ≤ 255) : ∀ x ∈ mapped l1 l2 B, 0 ≤ x ∧ x ≤ 255 := by
  intro x hx
  obtain ⟨c, hc, rfl⟩ := List.mem_map.1 hx
  have := hB c hc
  exact tabGo_ok l2 ht _ _ _ (by omega)
theorem mapped_bytes (s : ByteArray) (l1 l2 : List Int) (ht : ∀ x ∈ l2, 0 ≤ x ∧ x ≤ 255) : bytesOf (strOfNums (mapped l1 l2 (bytesOf s))) = mapped l1 l2 (bytesOf s) := bytesOf_str _ (mapped_ok l1 l2 _ ht (bytesOf_ok s))
theorem mapped_len (l1 l2 B : List Int) : (mapped l1 l2 B).length = B.length := by unfold mapped; rw [List.length_map]
theorem mapped_rd (l1 l2 B : List Int) (i : Nat) (hi : i < B.length) : rd (mapped l1 l2 B) (i : Int) = tabAt l1 l2 0 (rd B (i : Int)).toNat := by
  rw [rd_get _ i (by rw [mapped_len]; exact hi), rd_get _ i hi]
  unfold mapped
  rw [List.getElem_map]

section
variable {s o : ByteArray} {l1 l2 : List Int}
theorem swapTail (c : Int) (_hc : 0 ≤ c) (i p : Nat) (hi : i < s.size) (hos : o.size = s.size) (hl1 : l1.length ≤ 300) (hl2 : l2.length ≤ 300) (h2 : l1.length = 0 ∨ l2.length ≠ 0) (hcs : bt s (i : Int) = c)
    (hp : p ≤ l1.length) (hw : (if p < l1.length then rd l2 (min (p : Int) ((l2.length : Int) - 1)) else c) = bt o (i : Int)) (hlt : i < 281474976710655)
    (next : Ev (fun k => toolchestlaw04_SetsSwapped.l0 k s l1 l2 o ((i + 1 : Nat) : Int)) true) : Ev (fun k => toolchestlaw04_SetsSwapped.j3 k s l1 l2 o (i : Int) (p : Int)) true := by
  refine Ev.step (f := fun k => toolchestlaw04_SetsSwapped.l0 k s l1 l2 o ((i + 1 : Nat) : Int)) (fun k => ?_) next
  simp only [toolchestlaw04_SetsSwapped.j3]
  rw [if_pos (by omega), if_pos (by omega), wrap_nat i (by omega)]
  by_cases hpl : p < l1.length
  · have w1 : wrap64 ((l2.length : Int) - 1) = (l2.length : Int) - 1 := by unfold wrap64; omega
    have hmn : mn (p : Int) ((l2.length : Int) - 1) = min (p : Int) ((l2.length : Int) - 1) := by unfold mn; split <;> omega
    rw [if_pos hpl] at hw
    rw [if_pos (by omega), w1, hmn, if_pos (by omega), if_pos (by omega), if_pos (by omega), if_pos hw.symm]
  · rw [if_neg hpl] at hw
    rw [if_neg (by omega), if_pos (by omega), if_pos (by rw [← hw, hcs])]
theorem swapLoop1 (c : Int) (hc : 0 ≤ c ∧ c ≤ 255) (i : Nat) (hi : i < s.size) (hos : o.size = s.size) (hl1 : l1.length ≤ 300) (hl2 : l2.length ≤ 300) (h2 : l1.length = 0 ∨ l2.length ≠ 0) (hcs : bt s (i : Int) = c) (hlt : i < 281474976710655)
    (next : Ev (fun k => toolchestlaw04_SetsSwapped.l0 k s l1 l2 o ((i + 1 : Nat) : Int)) true) (d : Nat) :
    ∀ p : Nat, l1.length - p = d → p ≤ l1.length → tabGo l2 (l1.drop p) p c.toNat = bt o (i : Int) → Ev (fun k => toolchestlaw04_SetsSwapped.l1 k s l1 l2 o (i : Int) (p : Int)) true := by
  induction d with
  | zero =>
    intro p hd hp hw
    rw [show l1.drop p = [] from List.drop_eq_nil_of_le (by omega)] at hw
    refine Ev.step (f := fun k => toolchestlaw04_SetsSwapped.j3 k s l1 l2 o (i : Int) (p : Int)) (fun k => ?_) (swapTail c hc.1 i p hi hos hl1 hl2 h2 hcs hp ?_ hlt next)
    · simp only [toolchestlaw04_SetsSwapped.l1]
      rw [if_neg (by omega)]
    · rw [if_neg (by omega), ← hw]
      simp only [tabGo]
      omega
  | succ d ih =>
    intro p hd hp hw
    rw [drop_rd l1 p (by omega)] at hw
    simp only [tabGo] at hw
    by_cases h : rd l1 (p : Int) = c
    · refine Ev.step (f := fun k => toolchestlaw04_SetsSwapped.j3 k s l1 l2 o (i : Int) (p : Int)) (fun k => ?_) (swapTail c hc.1 i p hi hos hl1 hl2 h2 hcs hp ?_ hlt next)
      · simp only [toolchestlaw04_SetsSwapped.l1]
        rw [if_pos (by omega), if_pos (by omega), if_pos (by omega), if_pos (by omega), if_pos (by rw [hcs, h])]
      · rw [if_pos (by omega), ← hw, if_pos (by omega)]
    · refine Ev.step (f := fun k => toolchestlaw04_SetsSwapped.l1 k s l1 l2 o (i : Int) ((p + 1 : Nat) : Int)) (fun k => ?_) (ih (p + 1) (by omega) (by omega) ?_)
      · simp only [toolchestlaw04_SetsSwapped.l1]
        rw [if_pos (by omega), if_pos (by omega), if_pos (by omega), if_pos (by omega), if_neg (by rw [hcs]; exact h), wrap_nat p (by omega)]
      · rw [if_neg (by omega)] at hw
        exact hw
theorem swapLoop0 (hs : s.size ≤ 20000) (hos : bytesOf o = mapped l1 l2 (bytesOf s)) (hl1 : l1.length ≤ 300) (hl2 : l2.length ≤ 300) (h2 : l1.length = 0 ∨ l2.length ≠ 0) (d : Nat) :
    ∀ i : Nat, s.size - i = d → i ≤ s.size → Ev (fun k => toolchestlaw04_SetsSwapped.l0 k s l1 l2 o (i : Int)) true := by
  have ho : o.size = s.size := by rw [← bytesOf_length o, hos, mapped_len, bytesOf_length]
  induction d with
  | zero =>
    intro i hd hi
    refine Ev.step (f := fun k => some true) (fun k => ?_) (Ev.now true)
    simp only [toolchestlaw04_SetsSwapped.l0]
    rw [if_neg (by omega)]
  | succ d ih =>
    intro i hd hi
    have hc := bytesOf_ok s (rd (bytesOf s) (i : Int)) (by rw [rd_get _ i (by rw [bytesOf_length]; omega)]; exact List.getElem_mem _)
    refine Ev.step (f := fun k => toolchestlaw04_SetsSwapped.l1 k s l1 l2 o (i : Int) ((0 : Nat) : Int)) (fun k => ?_) ?_
    · simp only [toolchestlaw04_SetsSwapped.l0]
      rw [if_pos (by omega)]
      rfl
    · refine swapLoop1 (rd (bytesOf s) (i : Int)) hc i (by omega) ho hl1 hl2 h2 (by rw [← rd_bytesOf]) (by omega) (ih (i + 1) (by omega) (by omega)) _ 0 rfl (by omega) ?_
      rw [← rd_bytesOf, hos, mapped_rd _ _ _ i (by rw [bytesOf_length]; omega)]
      rfl
end

theorem setsSwapped_pure (s : ByteArray) (l1 l2 : List Int) (hl1 : l1.length ≤ 140737488351232) (hl2 : l2.length ≤ 140737488351232) (hb1 : ∀ x ∈ l1, 0 ≤ x ∧ x ≤ 255) (hb2 : ∀ x ∈ l2, 0 ≤ x ∧ x ≤ 255) : ∃ k, toolchestlaw04_SetsSwapped.f k s l1 l2 = some true := by
  refine Ev.rounds (g := fun k => toolchestlaw04_SetsSwapped.f k s l1 l2) ?_
  have hyes : Ev (fun k => toolchestlaw04_SetsSwapped.j0 k s l1 l2 true) true :=
    Ev.step (f := fun k => some true) (fun k => by simp only [toolchestlaw04_SetsSwapped.j0]; rw [if_pos trivial]; rfl) (Ev.now true)
  refine Ev.congr (f := fun k => if (s.size : Int) > 20000 then (toolchestlaw04_SetsSwapped.j0 k s l1 l2 true) else (if (l1.length : Int) > 300 then (toolchestlaw04_SetsSwapped.j0 k s l1 l2 true) else (toolchestlaw04_SetsSwapped.j0 k s l1 l2 (decide ((l2.length : Int) > 300))))) (fun k => by unfold toolchestlaw04_SetsSwapped.f toolchestlaw04_alive.f; rfl) ?_
  by_cases h1 : (s.size : Int) > 20000
  · simp only [if_pos h1]
    exact hyes
  simp only [if_neg h1]
  by_cases h2 : (l1.length : Int) > 300
  · simp only [if_pos h2]
    exact hyes
  simp only [if_neg h2]
  by_cases h3 : (l2.length : Int) > 300
  · rw [decide_eq_true h3]
    exact hyes
  rw [decide_eq_false h3]
  by_cases h : l1.length = 0 ∨ l2.length ≠ 0
  · obtain ⟨o, ho⟩ : ∃ o, strOfNums (mapped l1 l2 (bytesOf s)) = o := ⟨_, rfl⟩
    have hob : bytesOf o = mapped l1 l2 (bytesOf s) := by rw [← ho]; exact mapped_bytes s l1 l2 hb2
    have hos : o.size = s.size := by rw [← bytesOf_length o, hob, mapped_len, bytesOf_length]
    refine Ev.step (f := fun k => toolchestlaw04_SetsSwapped.l0 k s l1 l2 o ((0 : Nat) : Int)) (fun k => ?_) (swapLoop0 (by omega) hob (by omega) (by omega) h _ 0 rfl (by omega))
    simp only [toolchestlaw04_SetsSwapped.j0]
    rw [if_neg (by simp), swap_val s l1 l2 (by omega) hl1 hl2 hb1, post_map s l1 l2 h, ho]
    simp only [Option.bind_some]
    rw [if_pos trivial, if_pos (by omega)]
    rfl
  · have g1 : ¬ l1.length = 0 := fun e => h (.inl e)
    have g2 : l2.length = 0 := by
      by_cases e : l2.length = 0
      · exact e
      · exact absurd (.inr e) h
    refine Ev.step (f := fun k => some true) (fun k => ?_) (Ev.now true)
    simp only [toolchestlaw04_SetsSwapped.j0]
    rw [if_neg (by simp), swap_val s l1 l2 (by omega) hl1 hl2 hb1]
    simp only [Option.bind_some]
    unfold swapPost
    rw [if_neg g1, if_pos g2]
    rw [if_neg (by decide), if_pos (by unfold ByteArray.toList ByteArray.toList.loop; rfl), if_pos (by omega), decide_eq_true (by omega)]
end Go.Proofs.YtndmngijfleilaaDoor.L
