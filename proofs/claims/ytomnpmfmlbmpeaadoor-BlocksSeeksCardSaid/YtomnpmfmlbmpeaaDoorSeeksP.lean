/- BlocksSeeks' plain law. -/
import Derived.Test.YtomnpmfmlbmpeaaDoorPartsP
namespace Go.Proofs.YtomnpmfmlbmpeaaDoor.L
open Go.RowKit Go.Proofs.YtomnpmfmlbmpeaaDoorW.PrintWords

/-- The plan with another Out, Seek, Keep. -/
def Pl.sought (p : Pl) (o se : Int) (kp : Bool) : Pl := ⟨p.i, o, p.sk, p.ct, se, kp, p.sw, p.up, p.lo, p.sy⟩
theorem sought_ok {p : Pl} (h : p.ok = true) (o se : Int) (kp : Bool) (h1 : 1 ≤ o ∧ o ≤ 65536) (h2 : 0 ≤ se ∧ se ≤ 2147483647) : (p.sought o se kp).ok = true := by
  obtain ⟨a, _, b, _, e⟩ := ok_facts h
  unfold Pl.ok Pl.sought
  simp only
  rw [decide_eq_true a, decide_eq_true b, decide_eq_true h1, decide_eq_true h2, e]
  rfl
theorem sought_goes (p : Pl) (o se o' se' : Int) (kp kp' : Bool) (s : ByteArray) : ∀ k, goesK (p.sought o se kp) s k = goesK (p.sought o' se' kp') s k
  | 0 => rfl
  | k + 1 => by
    simp only [goesK]
    rw [sought_goes p o se o' se' kp kp' s k]
    rfl

def B8 (l : List UInt8) : ByteArray := ⟨l.toArray⟩
theorem B8_list (l : List UInt8) : (B8 l).data.toList = l := by simp [B8]
theorem B8_size (l : List UInt8) : (B8 l).size = l.length := by simp [B8, ByteArray.size]
theorem B8_ext {a b : ByteArray} (h : a.data.toList = b.data.toList) : a = b := by
  cases a; cases b
  simp at h
  rw [h]
theorem B8_get (b : ByteArray) (k : Nat) (h : k < b.size) : b[k] = b.data.toList[k]'(by simpa using h) := rfl

theorem seeks_out (p : Pl) (hok : p.ok = true) (h100 : p.i ≤ 100) (s o : ByteArray) (hs : s.size ≤ 5000) (ho : o.size ≤ 5000) (se ou : Int) (AT : Nat) (hse : 0 ≤ se ∧ se ≤ 49) (hou : 1 ≤ ou ∧ ou ≤ 50) (hAT : se * ou = (AT : Int)) :
    ∃ (g S T : ByteArray) (x1 y1 z1 u1 x2 y2 z2 u2 x3 y3 z3 u3 : Int), runOut (p.sought ou 0 false) s ⟨#[]⟩ = (g, x1, y1, z1, u1, 0) ∧ runOut (p.sought ou se true) s o = (S, x2, y2, z2, u2, 0) ∧ runOut (p.sought ou se false) s o = (T, x3, y3, z3, u3, 0) ∧
      T.size = AT + g.size ∧ S.size = max o.size (AT + g.size) ∧ S.extract 0 T.size = T ∧ T.extract AT T.size = g ∧ (∀ k (h : k < T.size), k < AT → ∀ h2 : k < o.size, T[k] = o[k]) ∧ (∀ k (h : k < T.size), k < AT → o.size ≤ k → T[k] = 0) ∧ (S.size = T.size ∨ S.extract T.size S.size = o.extract T.size o.size) ∧ g.size ≤ 6000 ∧ AT ≤ 2450 := by
  obtain ⟨⟨hi1, hi2⟩, _⟩ := ok_facts hok
  have hATle : AT ≤ 2450 := by
    have : se * ou ≤ 49 * 50 := Int.mul_le_mul hse.2 hou.2 (by omega) (by omega)
    omega
  obtain ⟨N, hN⟩ : ∃ N, nB (p.sought ou 0 false) s.size = N := ⟨_, rfl⟩
  have hN1 : nB (p.sought ou se true) s.size = N := hN
  have hN2 : nB (p.sought ou se false) s.size = N := hN
  have hg := goesK_le (p.sought ou 0 false) hi1 s N
  have hNm := nB_mul (p.sought ou 0 false) hi1 s.size
  rw [hN] at hNm
  have hit : (p.sought ou 0 false).i.toNat = p.i.toNat := rfl
  rw [hit] at hg hNm
  obtain ⟨G, hG⟩ : ∃ G, goesK (p.sought ou 0 false) s N = G := ⟨_, rfl⟩
  have hG1 : goesK (p.sought ou se true) s N = G := (sought_goes p _ _ _ _ _ _ s N).trans hG
  have hG2 : goesK (p.sought ou se false) s N = G := (sought_goes p _ _ _ _ _ _ s N).trans hG
  rw [hG] at hg
  have hGl : G.length ≤ 6000 := by omega
  have z0 : (p.sought ou 0 false).se * (p.sought ou 0 false).o = 0 := by show (0 : Int) * ou = 0; omega
  have z1 : (p.sought ou se true).se * (p.sought ou se true).o = (AT : Int) := hAT
  have z2 : (p.sought ou se false).se * (p.sought ou se false).o = (AT : Int) := hAT
  have r0 := runOut_is (p.sought ou 0 false) s ⟨#[]⟩ _ (by rw [hN, hG, z0]; omega) (out8_zero _ s _ z0 (.inr rfl))
  rw [hN, hG] at r0
  have r1 := runOut_is (p.sought ou se true) s o _ (by rw [hN1, hG1, z1]; omega) rfl
  have r2 := runOut_is (p.sought ou se false) s o _ (by rw [hN2, hG2, z2]; omega) rfl
  obtain ⟨G8, hG8⟩ : ∃ G8, G.map (fun x => UInt8.ofNat x.toNat) = G8 := ⟨_, rfl⟩
  have hG8l : G8.length = G.length := by rw [← hG8, List.length_map]
  obtain ⟨O, hO⟩ : ∃ O, o.data.toList = O := ⟨_, rfl⟩
  have hOl : O.length = o.size := by rw [← hO]; simp
  have o1 : out8 (p.sought ou se true) s o = (O.take AT ++ List.replicate (AT - o.size) 0 ++ G8) ++ O.drop (AT + G.length) := by
    unfold out8
    rw [z1, Int.toNat_natCast, hN1, hG1, hG8, hO, if_pos (show (p.sought ou se true).kp = true from rfl)]
  have o2 : out8 (p.sought ou se false) s o = O.take AT ++ List.replicate (AT - o.size) 0 ++ G8 := by
    unfold out8
    rw [z2, Int.toNat_natCast, hN2, hG2, hG8, hO, if_neg (show ¬ ((p.sought ou se false).kp = true) from by simp [Pl.sought]), List.append_nil]
  rw [o1] at r1
  rw [o2] at r2
  obtain ⟨T8, hT8⟩ : ∃ T8, O.take AT ++ List.replicate (AT - o.size) 0 ++ G8 = T8 := ⟨_, rfl⟩
  rw [hT8] at r1 r2
  have hTl : T8.length = AT + G.length := by
    rw [← hT8, List.length_append, List.length_append, List.length_take, List.length_replicate, hG8l, hOl]
    omega
  obtain ⟨a1, b1, c1, d1, r0⟩ := r0
  obtain ⟨a2, b2, c2, d2, r1⟩ := r1
  obtain ⟨a3, b3, c3, d3, r2⟩ := r2
  have hTs : (B8 T8).size = AT + G.length := by rw [B8_size, hTl]
  have hSs : (B8 (T8 ++ O.drop (AT + G.length))).size = max o.size (AT + G.length) := by
    rw [B8_size, List.length_append, hTl, List.length_drop, hOl]
    omega
  have hgs : (ofInts G).size = G.length := ofInts_size G
  have hpre : (O.take AT ++ List.replicate (AT - o.size) 0).length = AT := by
    rw [List.length_append, List.length_take, List.length_replicate, hOl]; omega
  refine ⟨ofInts G, B8 (T8 ++ O.drop (AT + G.length)), B8 T8, a1, b1, c1, d1, a2, b2, c2, d2, a3, b3, c3, d3, r0, r1, r2, by rw [hTs, hgs], by rw [hSs, hgs], ?_, ?_, ?_, ?_, ?_, by rw [hgs]; exact hGl, hATle⟩
  · apply B8_ext
    rw [extract_list, B8_list, B8_list, hTs, ← hTl, List.drop_zero, List.take_left]
  · apply B8_ext
    rw [extract_list, B8_list, hTs, ← hTl, List.take_length, ← hT8, List.drop_append_of_le_length (by rw [hpre]; exact Nat.le_refl _), List.drop_of_length_le (by rw [hpre]; exact Nat.le_refl _), List.nil_append]
    rw [← hG8]
    rfl
  · intro k h hk h2
    rw [B8_get, B8_get]
    simp only [B8_list, hO]
    have e : T8[k]'(by rw [hTl]; omega) = O[k]'(by omega) := by
      simp only [← hT8]
      rw [List.getElem_append_left (by rw [hpre]; exact hk), List.getElem_append_left (by rw [List.length_take]; omega), List.getElem_take]
    exact e
  · intro k h hk h2
    rw [B8_get]
    simp only [B8_list]
    have e : T8[k]'(by rw [hTl]; omega) = 0 := by
      simp only [← hT8]
      rw [List.getElem_append_left (by rw [hpre]; exact hk), List.getElem_append_right (by rw [List.length_take]; omega), List.getElem_replicate]
    exact e
  · right
    apply B8_ext
    rw [extract_list, extract_list, B8_list, hSs, hTs, hO, List.take_of_length_le (by rw [List.length_append, hTl, List.length_drop, hOl]; omega), List.take_of_length_le (by omega), ← hTl, List.drop_left]
end Go.Proofs.YtomnpmfmlbmpeaaDoor.L
