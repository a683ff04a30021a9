/- The plain law of OptsCounts. -/
import Derived.Test.YtemimbjnfadklaaDoorEnd
import Derived.Test.YtemimbjnfadklaaDoorLx16
namespace Go.Proofs.YtemimbjnfadklaaDoor.L
open Go.RowKit Go.Proofs.YtemimbjnfadklaaDoorW.PrintWords Go.Proofs.YtemimbjnfadklaaDoorW.PrintLast Go.Proofs.YtemimbjnfadklaaDoorW.PrintMore

def fbulk (l : List S45) : Nat := (l.map fun x => x.f1.size).sum
theorem fbulk_append (a b : List S45) : fbulk (a ++ b) = fbulk a + fbulk b := by simp [fbulk, List.sum_append]
theorem rd_at (l : List S45) (i : Nat) (h : i < l.length) : rd_T45 l (i : Int) = l[i] := by
  show l.getD ((i : Int)).toNat z45 = l[i]
  rw [Int.toNat_natCast, List.getD_eq_getElem?_getD, List.getElem?_eq_getElem h]
  rfl
theorem fsize_loop (l : List S45) (hl : l.length ≤ 8796093022208) (hs : ∀ s ∈ l, s.f1.size ≤ 140737488351232) (d : Nat) : ∀ (k i : Nat) (n : Int), l.length - i = d → i ≤ l.length → d < k → 0 ≤ n → n ≤ 281474976710656 →
    (n ≤ 1048576 → n = ((l.length + fbulk (l.take i) : Nat) : Int)) → ∃ t, toolchestlaw01_FlagsSize.l0 k l n i = some t ∧ 0 ≤ t ∧ t ≤ 281474976710656 ∧ (t ≤ 1048576 → t = ((l.length + fbulk l : Nat) : Int)) := by
  induction d with
  | zero =>
    intro k i n hd hi hk h0 h1 h2
    obtain ⟨k, rfl⟩ : ∃ m, k = m + 1 := ⟨k - 1, by omega⟩
    obtain rfl : i = l.length := by omega
    refine ⟨n, ?_, h0, h1, fun h => ?_⟩
    · simp only [toolchestlaw01_FlagsSize.l0]
      rw [if_neg (by omega)]
    · rw [h2 h, List.take_length]
  | succ d ih =>
    intro k i n hd hi hk h0 h1 h2
    obtain ⟨k, rfl⟩ : ∃ m, k = m + 1 := ⟨k - 1, by omega⟩
    have hlt : i < l.length := by omega
    simp only [toolchestlaw01_FlagsSize.l0]
    rw [if_pos (by omega)]
    by_cases hn : n ≤ 1048576
    · have hsi := hs l[i] (List.getElem_mem hlt)
      rw [if_pos hn, if_pos (by omega), rd_at l i hlt]
      have hw1 : wrap64 (n + (l[i].f1.size : Int)) = n + (l[i].f1.size : Int) := by unfold wrap64; omega
      have hw2 : wrap64 ((i : Int) + 1) = ((i + 1 : Nat) : Int) := by unfold wrap64; omega
      rw [hw1, hw2]
      refine ih k (i + 1) _ (by omega) (by omega) (by omega) (by omega) (by omega) (fun _ => ?_)
      have hb : fbulk (l.take (i + 1)) = fbulk (l.take i) + l[i].f1.size := by
        rw [List.take_succ_eq_append_getElem hlt]
        rw [fbulk_append]
        simp [fbulk]
      rw [hb, h2 hn]
      omega
    · rw [if_neg hn]
      exact ⟨n, rfl, h0, h1, fun h => absurd h hn⟩
theorem fsize_ev (l : List S45) (hl : l.length ≤ 8796093022208) (hs : ∀ s ∈ l, s.f1.size ≤ 140737488351232) : ∃ t, Ev (fun k => toolchestlaw01_FlagsSize.f k l) t ∧ 0 ≤ t ∧ t ≤ 281474976710656 ∧ (t ≤ 1048576 → t = ((l.length + fbulk l : Nat) : Int)) := by
  obtain ⟨t, h1, h2⟩ := fsize_loop l hl hs l.length (l.length + 1) 0 (l.length : Int) (by omega) (by omega) (by omega) (by omega) (by omega) (fun _ => by simp [fbulk])
  exact ⟨t, Ev.of (fun k => toolchestlaw01_FlagsSize.mono l k) h1, h2⟩

/-- How often. -/
def cnt (l : List S45) (a : Int) : Nat := l.countP (fun x => decide (x.f0 = a))
theorem has_loop (l : List S45) (a : Int) (hl : l.length ≤ 4611686018427387904) (d : Nat) : ∀ (k i : Nat), l.length - i = d → i ≤ l.length → d < k → opts_Has.l0 k a (cnt (l.take i) a : Int) l (l.length : Int) (i : Int) = some (cnt l a : Int) := by
  induction d with
  | zero =>
    intro k i hd hi hk
    obtain ⟨k, rfl⟩ : ∃ m, k = m + 1 := ⟨k - 1, by omega⟩
    obtain rfl : i = l.length := by omega
    simp only [opts_Has.l0]
    rw [if_neg (by omega), List.take_length]
  | succ d ih =>
    intro k i hd hi hk
    obtain ⟨k, rfl⟩ : ∃ m, k = m + 1 := ⟨k - 1, by omega⟩
    have hlt : i < l.length := by omega
    simp only [opts_Has.l0]
    rw [if_pos (by omega), if_pos (by omega), if_pos (by omega), rd_at l i hlt]
    have hc : cnt (l.take i) a ≤ i := by have := List.countP_le_length (p := fun x : S45 => decide (x.f0 = a)) (l := l.take i); simp only [List.length_take] at this; unfold cnt; omega
    have hw1 : wrap64 ((cnt (l.take i) a : Int) + 1) = ((cnt (l.take i) a + 1 : Nat) : Int) := by unfold wrap64; omega
    have hw2 : wrap64 ((i : Int) + 1) = ((i + 1 : Nat) : Int) := by unfold wrap64; omega
    have h3 := ih k (i + 1) (by omega) (by omega) (by omega)
    have h4 : cnt (l.take (i + 1)) a = cnt (l.take i) a + (if l[i].f0 = a then 1 else 0) := by
      rw [List.take_succ_eq_append_getElem hlt]
      rw [cnt, List.countP_append]
      simp [cnt, List.countP_cons]
    by_cases h : l[i].f0 = a
    · rw [if_pos h, hw1, hw2]
      rw [h4, if_pos h] at h3
      exact h3
    · rw [if_neg h, hw2]
      rw [h4, if_neg h] at h3
      exact h3
theorem has_ev (l : List S45) (a : Int) (hl : l.length ≤ 4611686018427387904) : Ev (fun k => opts_Has.f k l a) (cnt l a : Int) :=
  ⟨l.length + 1, fun k hk => has_loop l a hl l.length k 0 (by omega) (by omega) (by omega)⟩

/-- lastOf over the flags alone. -/
def lastL : List S45 → Int → ByteArray × Bool
  | [], _ => (⟨#[]⟩, false)
  | x :: xs, a => if x.f0 = a then (x.f1, true) else lastL xs a
theorem lastOf_map (a : Int) : ∀ xs : List (Int × S45), lastOf xs a = lastL (xs.map (·.2)) a
  | [] => rfl
  | x :: xs => by simp only [lastOf, List.map_cons, lastL, lastOf_map a xs]
theorem upto_rev (l : List S45) : (upto (bk l) l.length).map (·.2) = l.reverse := by
  apply List.ext_getElem
  · simp [upto]
  · intro i h1 h2
    have hi : i < l.length := by simpa using h2
    have e : (l.length : Int) - 1 - (i : Int) = ((l.length - 1 - i : Nat) : Int) := by omega
    simp only [upto, List.map_map, List.getElem_map, List.getElem_range, Function.comp, bk, List.getElem_reverse]
    rw [e, rd_at l _ (by omega)]
theorem last_val (l : List S45) (a : Int) (h : l.length < 5864062014805) : opts_Last.f l a = some (lastL l.reverse a) := by
  unfold opts_Last.f
  rw [if_pos h, lastOf_map, upto_rev]
theorem lastL_append (a : Int) (ys : List S45) : ∀ xs : List S45, lastL (xs ++ ys) a = if (lastL xs a).2 = true then lastL xs a else lastL ys a
  | [] => by simp [lastL]
  | x :: xs => by
    simp only [List.cons_append, lastL]
    by_cases h : x.f0 = a
    · simp only [if_pos h, if_true]
    · simp only [if_neg h]
      exact lastL_append a ys xs
theorem lastL_any (a : Int) : ∀ xs : List S45, (lastL xs a).2 = decide (0 < cnt xs a)
  | [] => by simp [lastL, cnt]
  | x :: xs => by
    simp only [lastL, cnt, List.countP_cons]
    by_cases h : x.f0 = a
    · simp [h]
    · have := lastL_any a xs
      simp only [if_neg h, this, cnt]
      simp [h]
theorem cnt_rev (l : List S45) (a : Int) : cnt l.reverse a = cnt l a := by simp [cnt]
theorem cnt_app (l m : List S45) (a : Int) : cnt (l ++ m) a = cnt l a + cnt m a := by simp [cnt, List.countP_append]
theorem cnt_le (l : List S45) (a : Int) : cnt l a ≤ l.length := List.countP_le_length

theorem counts_true (l0 l1 : List S45) (a : Int) : Ev (fun k => toolchestlaw01_OptsCounts.j0 k l0 l1 a true) true := by
  refine Ev.step (f := fun k => (toolchestlaw01_alive.f k).bind fun t => some t) (fun k => by simp only [toolchestlaw01_OptsCounts.j0]; rw [if_pos trivial]) ?_
  exact Ev.bind alive_ev (Ev.now true)

theorem counts_j1 (l0 l1 : List S45) (a : Int) (h : l0.length + l1.length ≤ 1048576) (u : ByteArray) (hu : u = (lastL (l0 ++ l1).reverse a).1) (v : Bool) (hv : v = (lastL (l0 ++ l1).reverse a).2) :
    Ev (fun k => toolchestlaw01_OptsCounts.j1 k l0 l1 a (l0 ++ l1) (lastL (l0 ++ l1).reverse a).1 (lastL (l0 ++ l1).reverse a).2 u v) true := by
  subst hu
  subst hv
  refine Ev.step (f := fun k => (opts_Has.f k (l0 ++ l1) a).bind fun t244 => ((opts_Has.f k l0 a).bind fun t245 => ((opts_Has.f k l1 a).bind fun t246 => (if t244 = (wrap64 (t245 + t246)) then ((opts_Has.f k (l0 ++ l1) a).bind fun t247 => (some ((lastL (l0 ++ l1).reverse a).2 == (decide (t247 > 0))))) else (some false))))) (fun k => ?_) ?_
  · simp only [toolchestlaw01_OptsCounts.j1]
    simp
  · have hl : (l0 ++ l1).length ≤ 4611686018427387904 := by simp; omega
    refine Ev.bind (has_ev _ a hl) (Ev.bind (has_ev l0 a (by omega)) (Ev.bind (has_ev l1 a (by omega)) ?_))
    have hw : wrap64 ((cnt l0 a : Int) + (cnt l1 a : Int)) = (cnt (l0 ++ l1) a : Int) := by
      rw [cnt_app]
      have := cnt_le l0 a
      have := cnt_le l1 a
      unfold wrap64
      omega
    rw [hw]
    simp only [if_true]
    refine Ev.bind (has_ev _ a hl) ?_
    rw [lastL_any, cnt_rev]
    have : (decide (0 < cnt (l0 ++ l1) a) == decide ((cnt (l0 ++ l1) a : Int) > 0)) = true := by
      by_cases h : 0 < cnt (l0 ++ l1) a
      · have h2 : (cnt (l0 ++ l1) a : Int) > 0 := by omega
        simp [h, h2]
      · have h2 : ¬ (cnt (l0 ++ l1) a : Int) > 0 := by omega
        simp [h, h2]
    rw [this]
    exact Ev.now true

theorem counts_false (l0 l1 : List S45) (a : Int) (h : l0.length + l1.length ≤ 1048576) : Ev (fun k => toolchestlaw01_OptsCounts.j0 k l0 l1 a false) true := by
  have e : lastL (l0 ++ l1).reverse a = if (lastL l1.reverse a).2 = true then lastL l1.reverse a else lastL l0.reverse a := by
    rw [List.reverse_append, lastL_append]
  refine Ev.step (f := fun k => if (lastL l1.reverse a).2 = true then toolchestlaw01_OptsCounts.j1 k l0 l1 a (l0 ++ l1) (lastL (l0 ++ l1).reverse a).1 (lastL (l0 ++ l1).reverse a).2 (lastL l1.reverse a).1 (lastL l1.reverse a).2
    else toolchestlaw01_OptsCounts.j1 k l0 l1 a (l0 ++ l1) (lastL (l0 ++ l1).reverse a).1 (lastL (l0 ++ l1).reverse a).2 (lastL l0.reverse a).1 (lastL l0.reverse a).2) (fun k => ?_) ?_
  · simp only [toolchestlaw01_OptsCounts.j0]
    rw [if_neg (by simp), if_pos (by simp; omega)]
    simp only [Option.bind_some, List.nil_append]
    rw [if_pos (by omega)]
    rw [last_val _ a (by simp; omega), last_val l1 a (by omega), last_val l0 a (by omega)]
    rfl
  · by_cases hb : (lastL l1.reverse a).2 = true
    · simp only [if_pos hb]
      exact counts_j1 l0 l1 a h _ (by rw [e, if_pos hb]) _ (by rw [e, if_pos hb])
    · simp only [if_neg hb]
      exact counts_j1 l0 l1 a h _ (by rw [e, if_neg hb]) _ (by rw [e, if_neg hb])

theorem optsCounts_pure (l0 l1 : List S45) (a : Int) (h1 : l0.length ≤ 8796093022208) (h2 : l1.length ≤ 8796093022208) (s1 : ∀ s ∈ l0, s.f1.size ≤ 140737488351232) (s2 : ∀ s ∈ l1, s.f1.size ≤ 140737488351232) :
    ∃ k, toolchestlaw01_OptsCounts.f k l0 l1 a = some true := by
  refine Ev.rounds (g := fun k => toolchestlaw01_OptsCounts.f k l0 l1 a) ?_
  unfold toolchestlaw01_OptsCounts.f
  refine Ev.bind alive_ev ?_
  simp only [if_true]
  obtain ⟨t1, e1, p1, q1, r1⟩ := fsize_ev l0 h1 s1
  obtain ⟨t2, e2, p2, q2, r2⟩ := fsize_ev l1 h2 s2
  obtain ⟨b, e3, r3⟩ := beyond_ev t1 t2 p1 q1 p2 q2
  refine Ev.bind e1 (Ev.bind e2 (Ev.bind e3 ?_))
  cases b with
  | true => exact counts_true l0 l1 a
  | false =>
    have h3 := r3 rfl
    have h4 := r1 (by omega)
    have h5 := r2 (by omega)
    exact counts_false l0 l1 a (by omega)
end Go.Proofs.YtemimbjnfadklaaDoor.L
