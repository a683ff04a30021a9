/- BlocksPlain's and BlocksTwice's plain laws. -/
import Derived.Test.YtomnpmfmlbmpeaaDoorPure
namespace Go.Proofs.YtomnpmfmlbmpeaaDoor.L
open Go.RowKit Go.Proofs.YtomnpmfmlbmpeaaDoorW.PrintWords

theorem runOut_is (p : Pl) (s o r : ByteArray) (h : ¬ p.se * p.o + (goesK p s (nB p s.size)).length > 1048576) (hr : (⟨(out8 p s o).toArray⟩ : ByteArray) = r) : ∃ x y z u : Int, runOut p s o = (r, x, y, z, u, 0) :=
  ⟨wholeK p s (nB p s.size), partK p s (nB p s.size), (goesK p s (nB p s.size)).length / p.o, min ((goesK p s (nB p s.size)).length % p.o) 1, by rw [runOut_room p s o h, hr]⟩
theorem ceil_ge (m j : Nat) (hj : 1 ≤ j) : m ≤ (m + j - 1) / j * j := by
  have := Nat.div_add_mod (m + j - 1) j
  have h4 := Nat.mod_lt (m + j - 1) (show j > 0 by omega)
  rw [Nat.mul_comm] at this
  omega
theorem ceil_le (m j : Nat) (_hj : 1 ≤ j) : (m + j - 1) / j * j ≤ m + j - 1 := Nat.div_mul_le_self _ _
theorem nB_neg (p : Pl) (len : Nat) (h : p.ct < 0) : nB p len = (len - st p len + p.i.toNat - 1) / p.i.toNat := by unfold nB; rw [if_pos h]
theorem st_zero (p : Pl) (len : Nat) (h : p.sk = 0) : st p len = 0 := by unfold st; rw [h]; simp
/-- What goes, from the text's beginning on, all of it, f keeping lengths. -/
theorem goes_all (_f : List Int → List Int) (i : Nat) (_hi : 1 ≤ i) (S : List Int) (N : Nat) (hN : S.length ≤ N * i) : goesL (fun x => x) i S 0 N = S := by
  rw [goesL_id, List.drop_zero, List.take_of_length_le hN]

def plP (a b : Int) (kp sw up lo : Bool) : Pl := ⟨a, b, 0, -1, 0, kp, sw, up, lo, false⟩
theorem work_plP (a b : Int) (kp sw up lo : Bool) (xs : List Int) : workB (plP a b kp sw up lo) xs = ((turned sw xs).map (lett 97 up)).map (lett 65 lo) := rfl
theorem goes_plP (a b : Int) (kp sw up lo : Bool) (_ha : 1 ≤ a) (s : ByteArray) :
    goesK (plP a b kp sw up lo) s (nB (plP a b kp sw up lo) s.size) = goesL (workB (plP a b kp sw up lo)) a.toNat (ints s) 0 ((s.size + a.toNat - 1) / a.toNat) := by
  rw [goesK_L, st_zero _ _ rfl, nB_neg _ _ (by decide : (-1 : Int) < 0), st_zero _ _ rfl]
  rfl
theorem turned_false (xs : List Int) : turned false xs = xs := rfl
theorem goes_plain (a b : Int) (kp : Bool) (ha : 1 ≤ a) (s : ByteArray) : goesK (plP a b kp false false false) s (nB (plP a b kp false false false) s.size) = ints s := by
  rw [goes_plP a b kp false false false ha s, goesL_congr (f' := fun x => x) _ _ _ _ (fun j _ => by rw [work_plP, turned_false, map_lett_false, map_lett_false])]
  exact goes_all (fun x => x) _ (by omega) _ _ (by rw [ints_len]; exact ceil_ge _ _ (by omega))

/-- Without changes. -/
theorem plain_out (a b : Int) (ha : 1 ≤ a) (s o : ByteArray) (hs : s.size ≤ 1048576) :
    ∃ x y z u : Int, runOut (plP a b false false false false) s o = (s, x, y, z, u, 0) := by
  have hg := goes_plain a b false ha s
  have h0 : (plP a b false false false false).se * (plP a b false false false false).o = 0 := by show (0 : Int) * b = 0; omega
  refine runOut_is _ s o _ ?_ ?_
  · rw [hg, h0, ints_len]; omega
  · rw [out8_zero _ s o h0 (.inl rfl), hg, ofInts_ints]
theorem plain_keep (a b : Int) (ha : 1 ≤ a) (s o : ByteArray) (hs : s.size ≤ 1048576) :
    ∃ x y z u : Int, runOut (plP a b true false false false) s o = (s ++ o.extract s.size o.size, x, y, z, u, 0) := by
  have hg := goes_plain a b true ha s
  have h0 : (plP a b true false false false).se * (plP a b true false false false).o = 0 := by show (0 : Int) * b = 0; omega
  refine runOut_is _ s o _ ?_ ?_
  · rw [hg, h0, ints_len]; omega
  · have e : (⟨(out8 (plP a b true false false false) s o).toArray⟩ : ByteArray) = s ++ o.extract s.size o.size := by
      have h1 : out8 (plP a b true false false false) s o = s.data.toList ++ (o.extract s.size o.size).data.toList := by
        unfold out8
        rw [h0, hg, if_pos (show (plP a b true false false false).kp = true from rfl), ints_len, extract_list, List.take_of_length_le (l := o.data.toList) (i := o.size) (by simp), Int.toNat_zero, List.take_zero, Nat.zero_add, Nat.zero_sub]
        have h2 : (ints s).map (fun x => UInt8.ofNat x.toNat) = s.data.toList := by
          have := congrArg (fun b : ByteArray => b.data.toList) (ofInts_ints s)
          simpa [ofInts] using this
        rw [h2]
        simp
      rw [h1]
      have h3 := B_append s.data.toList (o.extract s.size o.size).data.toList
      rw [← B_of, ← B_of] at h3
      exact h3.symm
    exact e

/-- Swabbed. -/
theorem swab_out (a b : Int) (ha : 1 ≤ a) (s : ByteArray) (hs : s.size ≤ 1048576) :
    ∃ (r : ByteArray) (x y z u x' y' z' u' : Int), runOut (plP a b false true false false) s ⟨#[]⟩ = (r, x, y, z, u, 0) ∧ r.size = s.size ∧ runOut (plP a b false true false false) r ⟨#[]⟩ = (s, x', y', z', u', 0) := by
  have hw : ∀ xs, workB (plP a b false true false false) xs = turned true xs := fun xs => by rw [work_plP, map_lett_false, map_lett_false]
  have hf : ∀ xs : List Int, (turned true xs).length = xs.length := fun xs => turned_len true xs
  have h0 : (plP a b false true false false).se * (plP a b false true false false).o = 0 := by show (0 : Int) * b = 0; omega
  have hgo : ∀ t : ByteArray, goesK (plP a b false true false false) t (nB (plP a b false true false false) t.size) = goesL (turned true) a.toNat (ints t) 0 ((t.size + a.toNat - 1) / a.toNat) := fun t => by
    rw [goes_plP a b false true false false ha t]
    exact goesL_congr _ _ _ _ (fun j _ => hw _)
  have hN := ceil_ge s.size a.toNat (by omega)
  obtain ⟨N, hNe⟩ : ∃ N, (s.size + a.toNat - 1) / a.toNat = N := ⟨_, rfl⟩
  rw [hNe] at hN
  have hlen : (goesL (turned true) a.toNat (ints s) 0 N).length = s.size := by rw [goesL_len _ hf, ints_len]; omega
  have hin : inB (goesL (turned true) a.toNat (ints s) 0 N) := by
    have := inB_goes (plP a b false true false false) s (nB (plP a b false true false false) s.size)
    rwa [hgo, hNe] at this
  have h1 : goesL (turned true) a.toNat (goesL (turned true) a.toNat (ints s) 0 N) 0 N = ints s := by
    have key : ∀ k, k ≤ N → goesL (turned true) a.toNat (goesL (turned true) a.toNat (ints s) 0 N) 0 k = goesL (fun x => x) a.toNat (ints s) 0 k := by
      intro k
      induction k with
      | zero => intro _; rfl
      | succ k ih =>
        intro hk
        have e := goesL_blk (turned true) hf a.toNat (ints s) N k (by omega)
        show goesL (turned true) a.toNat (goesL (turned true) a.toNat (ints s) 0 N) 0 k ++ turned true (((goesL (turned true) a.toNat (ints s) 0 N).drop (0 + k * a.toNat)).take a.toNat) = goesL (fun x => x) a.toNat (ints s) 0 k ++ ((ints s).drop (0 + k * a.toNat)).take a.toNat
        rw [ih (by omega), Nat.zero_add, e, turned_turned]
    rw [key N (Nat.le_refl _)]
    exact goes_all (fun x => x) _ (by omega) _ _ (by rw [ints_len]; exact hN)
  obtain ⟨x, y, z, u, r1⟩ := runOut_is (plP a b false true false false) s ⟨#[]⟩ (ofInts (goesL (turned true) a.toNat (ints s) 0 N)) (by rw [hgo, hNe, h0, hlen]; omega) (by rw [out8_zero _ s _ h0 (.inl rfl), hgo, hNe])
  obtain ⟨x', y', z', u', r2⟩ := runOut_is (plP a b false true false false) (ofInts (goesL (turned true) a.toNat (ints s) 0 N)) ⟨#[]⟩ s (by rw [hgo, ofInts_size, hlen, hNe, h0, ints_ofInts hin, goesL_len _ hf, hlen]; omega)
    (by rw [out8_zero _ _ _ h0 (.inl rfl), hgo, ofInts_size, hlen, hNe, ints_ofInts hin, h1, ofInts_ints])
  exact ⟨_, x, y, z, u, x', y', z', u', r1, by rw [ofInts_size, hlen], r2⟩
/-- Letters. -/
theorem letters_out (a b : Int) (up lo : Bool) (ha : 1 ≤ a) (s : ByteArray) (hs : s.size ≤ 1048576) :
    ∃ x y z u : Int, runOut (plP a b false false up lo) s ⟨#[]⟩ = (ofInts (((ints s).map (lett 97 up)).map (lett 65 lo)), x, y, z, u, 0) := by
  have h0 : (plP a b false false up lo).se * (plP a b false false up lo).o = 0 := by show (0 : Int) * b = 0; omega
  have hg : goesK (plP a b false false up lo) s (nB (plP a b false false up lo) s.size) = ((ints s).map (lett 97 up)).map (lett 65 lo) := by
    rw [goes_plP a b false false up lo ha s, goesL_congr (f' := List.map (lett 65 lo ∘ lett 97 up)) _ _ _ _ (fun j _ => by rw [work_plP, turned_false, List.map_map]), goesL_map, goes_all (fun x => x) _ (by omega) _ _ (by rw [ints_len]; exact ceil_ge _ _ (by omega)), List.map_map]
  refine runOut_is _ s _ _ ?_ ?_
  · rw [hg, h0, List.length_map, List.length_map, ints_len]; omega
  · rw [out8_zero _ s _ h0 (.inl rfl), hg]
theorem map_lett_true_false (xs : List Int) : (xs.map (lett 97 false)).map (lett 65 true) = xs.map (lett 65 true) := by rw [map_lett_false]
/-- BlocksTwice's other half. -/
theorem low_out (a b : Int) (ha : 1 ≤ a) (s : ByteArray) (hs : s.size ≤ 1048576) :
    ∃ (c d : ByteArray) (x y z u x' y' z' u' x2 y2 z2 u2 : Int), runOut (plP a b false false true false) s ⟨#[]⟩ = (c, x, y, z, u, 0) ∧ runOut (plP a b false false false true) c ⟨#[]⟩ = (d, x', y', z', u', 0) ∧ runOut (plP a b false false false true) s ⟨#[]⟩ = (d, x2, y2, z2, u2, 0) ∧ c.size = s.size ∧ d.size = s.size := by
  obtain ⟨x, y, z, u, h1⟩ := letters_out a b true false ha s hs
  have hc : inB (((ints s).map (lett 97 true)).map (lett 65 false)) := inB_lett (inB_lett (inB_ints s) _ _) _ _
  have hcs : (ofInts (((ints s).map (lett 97 true)).map (lett 65 false))).size = s.size := by rw [ofInts_size, List.length_map, List.length_map, ints_len]
  obtain ⟨x', y', z', u', h2⟩ := letters_out a b false true ha (ofInts (((ints s).map (lett 97 true)).map (lett 65 false))) (by rw [hcs]; exact hs)
  obtain ⟨x2, y2, z2, u2, h3⟩ := letters_out a b false true ha s hs
  refine ⟨_, ofInts ((ints s).map (lett 65 true)), x, y, z, u, x', y', z', u', x2, y2, z2, u2, h1, h2.trans ?_, h3.trans ?_, hcs, by rw [ofInts_size, List.length_map, ints_len]⟩
  · rw [ints_ofInts hc, map_lett_true_false, map_lett_false, map_lett_lett (inB_ints s)]
  · rw [map_lett_true_false]
end Go.Proofs.YtomnpmfmlbmpeaaDoor.L
