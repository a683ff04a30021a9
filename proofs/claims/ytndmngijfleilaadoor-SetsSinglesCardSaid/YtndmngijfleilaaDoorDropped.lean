/- The plain law of SetsDropped. -/
import Derived.Test.YtndmngijfleilaaDoorPlain
import Derived.Test.YtndmngijfleilaaDoorLx6
namespace Go.Proofs.YtndmngijfleilaaDoor.L
open Go.RowKit Go.Proofs.YtndmngijfleilaaDoorW.PrintWords Go.Proofs.YtndmngijfleilaaDoorW.PrintLast Go.Proofs.YtndmngijfleilaaDoorW.PrintMore

theorem bytesOf_ok (s : ByteArray) : ∀ x ∈ bytesOf s, 0 ≤ x ∧ x ≤ 255 := by
  intro x hx
  unfold bytesOf at hx
  obtain ⟨b, _, rfl⟩ := List.mem_map.1 hx
  have := b.toNat_lt
  omega
theorem bytesOf_str (l : List Int) (h : ∀ x ∈ l, 0 ≤ x ∧ x ≤ 255) : bytesOf (strOfNums l) = l := by
  unfold bytesOf strOfNums
  simp only [List.map_map]
  refine Eq.trans (List.map_congr_left (g := id) fun x hx => ?_) (List.map_id _)
  have := h x hx
  simp only [Function.comp, id]
  rw [show (x.toNat.toUInt8).toNat = x.toNat by rw [Nat.toUInt8]; exact Nat.mod_eq_of_lt (by omega)]
  omega
theorem str_bytesOf (s : ByteArray) : strOfNums (bytesOf s) = s := by
  unfold bytesOf strOfNums
  rw [List.map_map]
  rw [show ((fun x : Int => x.toNat.toUInt8) ∘ fun b : UInt8 => (b.toNat : Int)) = id by funext b; simp]
  rw [List.map_id]
theorem str_size (l : List Int) : (strOfNums l).size = l.length := by
  unfold strOfNums
  show (List.toArray _).size = _
  simp
theorem keep_filter (F : Nat → Bool) : ∀ (l : List Int) (last : Int), keepGo (soDrop F) last l = l.filter fun c => !F c.toNat
  | [], _ => rfl
  | c :: l, last => by
    simp only [keepGo, soDrop]
    rw [List.filter_cons]
    have h1 := keep_filter F l c
    have h2 := keep_filter F l last
    split <;> simp_all
def okRow (F : Nat → Bool) : Int → List Int → Prop
  | _, [] => True
  | a, b :: l => (F b.toNat = true → a ≠ b) ∧ okRow F b l
theorem sq_row (F : Nat → Bool) : ∀ (l : List Int) (last : Int), okRow F last (keepGo (soSq F) last l)
  | [], _ => trivial
  | c :: l, last => by
    simp only [keepGo]
    split
    · rename_i h
      refine ⟨fun hF e => ?_, sq_row F l c⟩
      simp [soSq, hF, e] at h
    · rename_i h
      have e : last = c := by
        simp [soSq] at h
        exact h.2
      subst e
      exact sq_row F l _
theorem sq_same (F : Nat → Bool) : ∀ (l : List Int) (last : Int), okRow F last l → keepGo (soSq F) last l = l
  | [], _, _ => rfl
  | c :: l, last, h => by
    simp only [keepGo]
    rw [if_pos (by
      unfold soSq
      cases hF : F c.toNat with
      | false => rfl
      | true => simpa using h.1 hF), sq_same F l c h.2]
theorem sq_filter (F : Nat → Bool) : ∀ (l : List Int) (last : Int), (keepGo (soSq F) last l).filter (fun c => !F c.toNat) = l.filter fun c => !F c.toNat
  | [], _ => rfl
  | c :: l, last => by
    simp only [keepGo]
    split
    · rw [List.filter_cons, List.filter_cons, sq_filter F l c]
    · rename_i h
      have hF : F c.toNat = true := by
        simp [soSq] at h
        exact h.1
      rw [List.filter_cons, hF, sq_filter F l c]
      rfl
theorem row_at (F : Nat → Bool) : ∀ (l : List Int) (a : Int), okRow F a l → ∀ i : Nat, i + 1 < l.length → F (rd l ((i + 1 : Nat) : Int)).toNat = true → rd l (i : Int) ≠ rd l ((i + 1 : Nat) : Int)
  | [], _, _, i, hi, _ => by simp at hi
  | b :: l, a, h, 0, hi, hF => by
    cases l with
    | nil => simp at hi
    | cons c l => exact h.2.1 hF
  | b :: l, a, h, i + 1, hi, hF => by
    have e : ∀ j : Nat, rd (b :: l) ((j + 1 : Nat) : Int) = rd l (j : Int) := fun j => by
      unfold rd
      rw [Int.toNat_natCast, Int.toNat_natCast]
      rfl
    rw [e, e]
    rw [e] at hF
    exact row_at F l b h.2 i (by simpa using hi) hF

section
variable {s : ByteArray} {l : List Int} {D S : ByteArray}
theorem dropLoop0 (hl : l.length ≤ 140737488351232) (hs : s.size ≤ 20000) (hD : bytesOf D = (bytesOf s).filter fun c => !inB l c.toNat)
    (end_ : Ev (fun k => toolchestlaw04_SetsDropped.l1 k s l D S (D.size : Int) 1) true) (d : Nat) :
    ∀ i j : Nat, s.size - i = d → i ≤ s.size → j ≤ D.size → (bytesOf D).drop j = ((bytesOf s).drop i).filter (fun c => !inB l c.toNat) → Ev (fun k => toolchestlaw04_SetsDropped.l0 k s l D S (j : Int) (i : Int)) true := by
  have hDs : D.size ≤ 20000 := by
    rw [← bytesOf_length D, hD]
    refine Nat.le_trans (List.length_filter_le _ _) ?_
    rw [bytesOf_length]
    exact hs
  induction d with
  | zero =>
    intro i j hd hi hj hdr
    rw [show (bytesOf s).drop i = [] from List.drop_eq_nil_of_le (by rw [bytesOf_length]; omega)] at hdr
    have h2 := List.drop_eq_nil_iff.1 hdr
    rw [bytesOf_length] at h2
    obtain rfl : j = D.size := by omega
    refine Ev.step (f := fun k => toolchestlaw04_SetsDropped.l1 k s l D S (D.size : Int) 1) (fun k => ?_) end_
    simp only [toolchestlaw04_SetsDropped.l0]
    rw [if_neg (by omega)]
  | succ d ih =>
    intro i j hd hi hj hdr
    rw [drop_rd (bytesOf s) i (by rw [bytesOf_length]; omega)] at hdr
    have hc := bytesOf_ok s (rd (bytesOf s) (i : Int)) (by rw [rd_get _ i (by rw [bytesOf_length]; omega)]; exact List.getElem_mem _)
    obtain ⟨c, hcd⟩ : ∃ c, rd (bytesOf s) (i : Int) = c := ⟨_, rfl⟩
    have hbt : bt s (i : Int) = c := by rw [← rd_bytesOf, hcd]
    rw [hcd] at hdr hc
    have hin : inB l c.toNat = l.contains c := by
      show l.contains ((c.toNat : Nat) : Int) = _
      rw [show ((c.toNat : Nat) : Int) = c by omega]
    refine Ev.step (f := fun k => (toolchestlaw04_has.f k l c).bind fun t126 => if t126 = true then toolchestlaw04_SetsDropped.l0 k s l D S (j : Int) ((i + 1 : Nat) : Int) else (if (j : Int) = (D.size : Int) then (some false) else (if 0 ≤ (j : Int) then (if (j : Int) < (D.size : Int) then (if (bt D (j : Int)) = c then (toolchestlaw04_SetsDropped.l0 k s l D S (wrap64 ((j : Int) + 1)) ((i + 1 : Nat) : Int)) else (some false)) else (none)) else (none)))) (fun k => ?_) ?_
    · simp only [toolchestlaw04_SetsDropped.l0]
      rw [if_pos (by omega), if_pos (by omega), hbt, wrap_nat i (by omega)]
    · refine Ev.bind (has_ev l c hl) ?_
      rw [List.filter_cons, hin] at hdr
      cases h : l.contains c with
      | true =>
        rw [h] at hdr
        simp only [if_true]
        exact ih (i + 1) j (by omega) (by omega) hj (by simpa using hdr)
      | false =>
        rw [h] at hdr
        have hdr' : (bytesOf D).drop j = c :: ((bytesOf s).drop (i + 1)).filter (fun c => !inB l c.toNat) := by simpa using hdr
        have hjl : j < D.size := by
          rw [← bytesOf_length D]
          have : ((bytesOf D).drop j).length ≠ 0 := by rw [hdr']; simp
          rw [List.length_drop] at this
          omega
        rw [drop_rd (bytesOf D) j (by rw [bytesOf_length]; omega)] at hdr'
        obtain ⟨e1, e2⟩ := List.cons.inj hdr'
        have g1 : ¬ (j : Int) = (D.size : Int) := by omega
        have g2 : (0 : Int) ≤ (j : Int) := by omega
        have g3 : (j : Int) < (D.size : Int) := by omega
        have g4 : bt D (j : Int) = c := by rw [← rd_bytesOf, e1]
        simp only [Bool.false_eq_true, if_false, if_neg g1, if_pos g2, if_pos g3, if_pos g4]
        rw [wrap_nat j (by omega)]
        exact ih (i + 1) (j + 1) (by omega) (by omega) (by omega) e2
theorem dropLoop1 (hl : l.length ≤ 140737488351232) (hS : S.size ≤ 20000) (a : Int) (row : okRow (inB l) a (bytesOf S))
    (end_ : ∀ i : Nat, S.size ≤ i → Ev (fun k => toolchestlaw04_SetsDropped.l1 k s l D S (D.size : Int) (i : Int)) true) (d : Nat) :
    ∀ i : Nat, S.size - i = d → 1 ≤ i → Ev (fun k => toolchestlaw04_SetsDropped.l1 k s l D S (D.size : Int) (i : Int)) true := by
  induction d with
  | zero => exact fun i hd hi => end_ i (by omega)
  | succ d ih =>
    intro i hd hi
    have w1 : wrap64 ((i : Int) - 1) = ((i - 1 : Nat) : Int) := by unfold wrap64; omega
    have hc := bytesOf_ok S (rd (bytesOf S) (i : Int)) (by rw [rd_get _ i (by rw [bytesOf_length]; omega)]; exact List.getElem_mem _)
    have hr := row_at (inB l) (bytesOf S) a row (i - 1) (by rw [bytesOf_length]; omega)
    rw [show i - 1 + 1 = i by omega] at hr
    have hin : inB l (rd (bytesOf S) (i : Int)).toNat = l.contains (rd (bytesOf S) (i : Int)) := by
      show l.contains (((rd (bytesOf S) (i : Int)).toNat : Nat) : Int) = _
      rw [show (((rd (bytesOf S) (i : Int)).toNat : Nat) : Int) = rd (bytesOf S) (i : Int) by omega]
    rw [hin] at hr
    by_cases h : bt S (i : Int) = bt S ((i - 1 : Nat) : Int)
    · refine Ev.step (f := fun k => (toolchestlaw04_has.f k l (bt S (i : Int))).bind fun t127 => if t127 = true then some false else toolchestlaw04_SetsDropped.l1 k s l D S (D.size : Int) ((i + 1 : Nat) : Int)) (fun k => ?_) ?_
      · simp only [toolchestlaw04_SetsDropped.l1]
        rw [if_pos (by omega), if_pos (by omega), w1, if_pos (by omega), if_pos (by omega), if_pos h, wrap_nat i (by omega)]
      · refine Ev.bind (has_ev l _ hl) ?_
        rw [← rd_bytesOf, ← rd_bytesOf] at h
        have hf : l.contains (bt S (i : Int)) = false := by
          rw [← rd_bytesOf]
          cases hx : l.contains (rd (bytesOf S) (i : Int)) with
          | false => rfl
          | true => exact absurd h.symm (hr hx)
        rw [hf]
        simp only [Bool.false_eq_true, if_false]
        exact ih (i + 1) (by omega) (by omega)
    · refine Ev.step (f := fun k => toolchestlaw04_SetsDropped.l1 k s l D S (D.size : Int) ((i + 1 : Nat) : Int)) (fun k => ?_) (ih (i + 1) (by omega) (by omega))
      simp only [toolchestlaw04_SetsDropped.l1]
      rw [if_pos (by omega), if_pos (by omega), w1, if_pos (by omega), if_pos (by omega), if_neg h, wrap_nat i (by omega)]
end
theorem okB_of {l : List Int} (h : ∀ x ∈ l, 0 ≤ x ∧ x ≤ 255) : okB l = true := by
  unfold okB
  rw [List.all_eq_true]
  exact fun x hx => decide_eq_true (h x hx)

theorem setsDropped_pure (s : ByteArray) (l : List Int) (hl : l.length ≤ 140737488351232) (hb : ∀ x ∈ l, 0 ≤ x ∧ x ≤ 255) : ∃ k, toolchestlaw04_SetsDropped.f k s l = some true := by
  refine Ev.rounds (g := fun k => toolchestlaw04_SetsDropped.f k s l) ?_
  have hyes : Ev (fun k => toolchestlaw04_SetsDropped.j0 k s l true) true :=
    Ev.step (f := fun k => some true) (fun k => by simp only [toolchestlaw04_SetsDropped.j0]; rw [if_pos trivial]; rfl) (Ev.now true)
  refine Ev.congr (f := fun k => if (s.size : Int) > 20000 then (toolchestlaw04_SetsDropped.j0 k s l true) else (toolchestlaw04_SetsDropped.j0 k s l (decide ((l.length : Int) > 300)))) (fun k => by unfold toolchestlaw04_SetsDropped.f toolchestlaw04_alive.f; rfl) ?_
  by_cases h1 : (s.size : Int) > 20000
  · simp only [if_pos h1]
    exact hyes
  · simp only [if_neg h1]
    by_cases h2 : (l.length : Int) > 300
    · rw [decide_eq_true h2]
      exact hyes
    · rw [decide_eq_false h2]
      have hs : s.size ≤ 20000 := by omega
      obtain ⟨D, hD⟩ : ∃ D, strOfNums (keepGo (soDrop (inB l)) (-1) (bytesOf s)) = D := ⟨_, rfl⟩
      obtain ⟨S, hS⟩ : ∃ S, strOfNums (keepGo (soSq (inB l)) (-1) (bytesOf s)) = S := ⟨_, rfl⟩
      have bD : bytesOf D = (bytesOf s).filter fun c => !inB l c.toNat := by
        rw [← hD, bytesOf_str _ fun x hx => bytesOf_ok s x (keepGo_mem _ _ _ x hx), keep_filter]
      have bS : bytesOf S = keepGo (soSq (inB l)) (-1) (bytesOf s) := by
        rw [← hS, bytesOf_str _ fun x hx => bytesOf_ok s x (keepGo_mem _ _ _ x hx)]
      have sS : S.size ≤ s.size := by
        rw [← bytesOf_length S, bS, ← bytesOf_length s]
        exact keepGo_len _ _ _
      have sD : D.size ≤ s.size := by
        rw [← bytesOf_length D, bD, ← bytesOf_length s]
        exact List.length_filter_le _ _
      have hval : ∀ t : ByteArray, t.size ≤ 20000 → sets_Drop.f t l = some (strOfNums (keepGo (soDrop (inB l)) (-1) (bytesOf t))) := fun t ht => by
        unfold sets_Drop.f
        rw [if_pos ⟨by omega, hl, okB_of hb⟩]
      have hvas : ∀ t : ByteArray, t.size ≤ 20000 → sets_Squeeze.f t l = some (strOfNums (keepGo (soSq (inB l)) (-1) (bytesOf t))) := fun t ht => by
        unfold sets_Squeeze.f
        rw [if_pos ⟨by omega, hl, okB_of hb⟩]
      have dD : sets_Drop.f D l = some D := by
        rw [hval D (by omega), keep_filter, bD, List.filter_filter]
        rw [show ((bytesOf s).filter fun a => (!inB l a.toNat) && !inB l a.toNat) = bytesOf D by rw [bD]; congr 1; funext a; cases inB l a.toNat <;> rfl, str_bytesOf]
      have sqS : sets_Squeeze.f S l = some S := by
        rw [hvas S (by omega), bS, sq_same _ _ _ (sq_row _ _ _), ← bS, str_bytesOf]
      have dS : sets_Drop.f S l = some D := by
        rw [hval S (by omega), keep_filter, bS, sq_filter, ← bD, str_bytesOf]
      have hend : ∀ i : Nat, S.size ≤ i → Ev (fun k => toolchestlaw04_SetsDropped.l1 k s l D S (D.size : Int) (i : Int)) true := by
        intro i hi
        refine Ev.step (f := fun k => some true) (fun k => ?_) (Ev.now true)
        simp only [toolchestlaw04_SetsDropped.l1]
        rw [if_neg (by omega), if_pos trivial, dD, sqS, dS]
        simp only [Option.bind_some]
        rw [if_pos trivial, if_pos trivial, if_pos (by omega)]
        simp
      refine Ev.step (f := fun k => toolchestlaw04_SetsDropped.l0 k s l D S ((0 : Nat) : Int) ((0 : Nat) : Int)) (fun k => ?_) ?_
      · simp only [toolchestlaw04_SetsDropped.j0]
        rw [if_neg (by simp), hval s hs, hvas s hs, hD, hS]
        rfl
      · refine dropLoop0 hl hs bD ?_ _ 0 0 rfl (by omega) (by omega) (by simpa using bD)
        exact dropLoop1 hl (by omega) (-1) (by rw [bS]; exact sq_row _ _ _) hend _ 1 rfl (by omega)
end Go.Proofs.YtndmngijfleilaaDoor.L
