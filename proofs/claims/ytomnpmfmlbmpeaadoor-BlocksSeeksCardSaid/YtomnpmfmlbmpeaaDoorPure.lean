/- What Run makes of a text: plain laws over lists. -/
import Derived.Test.YtomnpmfmlbmpeaaDoorRun
import Derived.Test.YtomnpmfmlbmpeaaDoorNum
namespace Go.Proofs.YtomnpmfmlbmpeaaDoor.L
open Go.RowKit Go.Proofs.YtomnpmfmlbmpeaaDoorW.PrintWords

/-- The blocks of a list from st on, f done to each. -/
def goesL (f : List Int → List Int) (i : Nat) (S : List Int) (st : Nat) : Nat → List Int
  | 0 => []
  | k + 1 => goesL f i S st k ++ f ((S.drop (st + k * i)).take i)
def wholeL (i : Nat) (S : List Int) (st : Nat) : Nat → Nat
  | 0 => 0
  | k + 1 => wholeL i S st k + if ((S.drop (st + k * i)).take i).length = i then 1 else 0

theorem ints_extract (s : ByteArray) (a b : Nat) : ints (s.extract a b) = ((ints s).take b).drop a := by
  unfold ints
  rw [extract_list, List.map_drop, List.map_take]
theorem ints_blk (p : Pl) (s : ByteArray) (k : Nat) : ints (blkB p s k) = ((ints s).drop (st p s.size + k * p.i.toNat)).take p.i.toNat := by
  unfold blkB
  rw [ints_extract, List.drop_take]
  have e : offB p s.size k = st p s.size + k * p.i.toNat := rfl
  have e2 : offB p s.size (k + 1) = st p s.size + k * p.i.toNat + p.i.toNat := by unfold offB; rw [Nat.succ_mul]; omega
  rw [e, e2]
  by_cases h : st p s.size + k * p.i.toNat + p.i.toNat ≤ s.size
  · rw [Nat.min_eq_left h]
    congr 1
    omega
  · rw [Nat.min_eq_right (by omega)]
    have hl : ((ints s).drop (st p s.size + k * p.i.toNat)).length = s.size - (st p s.size + k * p.i.toNat) := by rw [List.length_drop, ints_len]
    rw [List.take_of_length_le (by omega), List.take_of_length_le (by omega)]
theorem goesK_L (p : Pl) (s : ByteArray) : ∀ k, goesK p s k = goesL (workB p) p.i.toNat (ints s) (st p s.size) k
  | 0 => rfl
  | k + 1 => by simp only [goesK, goesL]; rw [goesK_L p s k, ints_blk]
theorem wholeK_L (p : Pl) (hi : 1 ≤ p.i) (s : ByteArray) : ∀ k, wholeK p s k = wholeL p.i.toNat (ints s) (st p s.size) k
  | 0 => rfl
  | k + 1 => by
    simp only [wholeK, wholeL]
    rw [wholeK_L p hi s k, ← ints_blk, ints_len]
    congr 1
    by_cases h : ((blkB p s k).size : Int) = p.i
    · rw [if_pos h, if_pos (by omega)]
    · rw [if_neg h, if_neg (by omega)]

theorem goesL_id (i : Nat) (S : List Int) (s0 : Nat) : ∀ k, goesL (fun x => x) i S s0 k = (S.drop s0).take (k * i)
  | 0 => by simp [goesL]
  | k + 1 => by
    simp only [goesL]
    rw [goesL_id i S s0 k, Nat.succ_mul, List.take_add, List.drop_drop]
theorem goesL_map (g : Int → Int) (i : Nat) (S : List Int) (s0 : Nat) : ∀ k, goesL (List.map g) i S s0 k = (goesL (fun x => x) i S s0 k).map g
  | 0 => rfl
  | k + 1 => by simp only [goesL]; rw [goesL_map g i S s0 k, List.map_append]
theorem goesL_congr {f f' : List Int → List Int} (i : Nat) (S : List Int) (s0 : Nat) (k : Nat) (h : ∀ j, j < k → f ((S.drop (s0 + j * i)).take i) = f' ((S.drop (s0 + j * i)).take i)) : goesL f i S s0 k = goesL f' i S s0 k := by
  induction k with
  | zero => rfl
  | succ k ih =>
    simp only [goesL]
    rw [ih (fun j hj => h j (by omega)), h k (by omega)]
theorem goesL_add (f : List Int → List Int) (i : Nat) (S : List Int) (s0 a : Nat) : ∀ b, goesL f i S s0 (a + b) = goesL f i S s0 a ++ goesL f i S (s0 + a * i) b
  | 0 => by simp [goesL]
  | b + 1 => by
    rw [← Nat.add_assoc]
    simp only [goesL]
    rw [goesL_add f i S s0 a b, List.append_assoc, Nat.add_mul, Nat.add_assoc]
theorem wholeL_add (i : Nat) (S : List Int) (s0 a : Nat) : ∀ b, wholeL i S s0 (a + b) = wholeL i S s0 a + wholeL i S (s0 + a * i) b
  | 0 => by simp [wholeL]
  | b + 1 => by
    rw [← Nat.add_assoc]
    simp only [wholeL]
    rw [wholeL_add i S s0 a b, Nat.add_mul, ← Nat.add_assoc, Nat.add_assoc]
theorem wholeL_min (i : Nat) (hi : 1 ≤ i) (S : List Int) (s0 : Nat) : ∀ k, wholeL i S s0 k = min k ((S.length - s0) / i)
  | 0 => by simp [wholeL]
  | k + 1 => by
    simp only [wholeL]
    rw [wholeL_min i hi S s0 k, List.length_take, List.length_drop]
    have key : (k + 1 ≤ (S.length - s0) / i) ↔ (k + 1) * i ≤ S.length - s0 := Nat.le_div_iff_mul_le (by omega)
    rw [Nat.succ_mul] at key
    by_cases h : k + 1 ≤ (S.length - s0) / i
    · have := key.1 h
      rw [if_pos (by omega)]
      omega
    · have h2 : ¬ (k * i + i ≤ S.length - s0) := fun h3 => h (key.2 h3)
      rw [if_neg (by omega)]
      omega
/-- Where f keeps lengths, block j of what comes out is f of block j. -/
theorem goesL_len (f : List Int → List Int) (hf : ∀ xs, (f xs).length = xs.length) (i : Nat) (S : List Int) (s0 : Nat) (k : Nat) : (goesL f i S s0 k).length = min (k * i) (S.length - s0) := by
  induction k with
  | zero => simp [goesL]
  | succ k ih =>
    simp only [goesL]
    rw [List.length_append, hf, ih, List.length_take, List.length_drop, Nat.succ_mul]
    omega
theorem goesL_blk (f : List Int → List Int) (hf : ∀ xs, (f xs).length = xs.length) (i : Nat) (S : List Int) : ∀ (N j : Nat), j < N → ((goesL f i S 0 N).drop (j * i)).take i = f ((S.drop (j * i)).take i)
  | 0, j, h => by omega
  | N + 1, j, h => by
    simp only [goesL]
    have hl := goesL_len f hf i S 0 N
    rw [Nat.zero_add]
    by_cases hj : j < N
    · rw [List.drop_append, List.take_append]
      have h1 : (j + 1) * i ≤ N * i := Nat.mul_le_mul_right _ hj
      rw [Nat.succ_mul] at h1
      rw [goesL_blk f hf i S N j hj]
      have h2 : ((goesL f i S 0 N).drop (j * i)).length = min (N * i) (S.length - 0) - j * i := by rw [List.length_drop, hl]
      by_cases hs : N * i ≤ S.length
      · rw [show i - ((goesL f i S 0 N).drop (j * i)).length = 0 by rw [h2]; omega, List.take_zero, List.append_nil]
      · rw [show (S.drop (N * i)).take i = [] by rw [List.drop_of_length_le (by omega), List.take_nil]]
        have h3 : f [] = [] := List.eq_nil_of_length_eq_zero (by rw [hf]; rfl)
        rw [h3, List.drop_nil, List.take_nil, List.append_nil]
    · obtain rfl : j = N := by omega
      by_cases hs : j * i ≤ S.length
      · rw [List.drop_append_of_le_length (by rw [hl]; omega), List.drop_of_length_le (by rw [hl]; omega), List.nil_append]
        refine List.take_of_length_le ?_
        rw [hf, List.length_take]
        omega
      · rw [show (S.drop (j * i)).take i = [] by rw [List.drop_of_length_le (by omega), List.take_nil]]
        have h3 : f [] = [] := List.eq_nil_of_length_eq_zero (by rw [hf]; rfl)
        rw [h3, List.append_nil, List.drop_of_length_le (by rw [hl]; omega), List.take_nil]

theorem lett_false (f c : Int) : lett f false c = c := by unfold lett; rw [if_neg (by simp)]
theorem map_lett_false (f : Int) (xs : List Int) : xs.map (lett f false) = xs := by
  conv => rhs; rw [← List.map_id xs]
  exact List.map_congr_left fun x _ => lett_false f x
theorem swF_swF (m j : Nat) : swF m (swF m j) = j := by
  unfold swF
  by_cases h : j < 2 * m
  · rw [if_pos h]
    by_cases h2 : j % 2 = 0
    · rw [if_pos h2, if_pos (by omega), if_neg (by omega)]
      omega
    · rw [if_neg h2, if_pos (by omega), if_pos (by omega)]
      omega
  · rw [if_neg h, if_neg h]
theorem turned_turned (xs : List Int) : turned true (turned true xs) = xs := by
  have hl : (turned true xs).length = xs.length := turned_len true xs
  have e : ∀ ys, turned true ys = swTo (ys.length / 2) ys := fun ys => if_pos rfl
  rw [e (turned true xs), hl, e xs]
  apply List.ext_getElem
  · rw [swTo_len, swTo_len]
  · intro j h1 h2
    have hb : swF (xs.length / 2) j < xs.length := by
      unfold swF
      split
      · split <;> omega
      · exact h2
    rw [swTo_get, rd_getE _ _ (by rw [swTo_len]; exact hb), swTo_get, swF_swF, rd_getE xs j h2]
theorem lett_lett : ∀ c : Fin 256, lett 65 true (lett 97 true (c.val : Int)) = lett 65 true (c.val : Int) := by decide +kernel
theorem map_lett_lett {xs : List Int} (h : inB xs) : (xs.map (lett 97 true)).map (lett 65 true) = xs.map (lett 65 true) := by
  rw [List.map_map]
  refine List.map_congr_left fun x hx => ?_
  have := h x hx
  have h2 := lett_lett ⟨x.toNat, by omega⟩
  have e : ((x.toNat : Nat) : Int) = x := by omega
  simp only [e] at h2
  exact h2

/-- A byte array of bytes told as numbers. -/
def ofInts (xs : List Int) : ByteArray := ⟨(xs.map fun x => UInt8.ofNat x.toNat).toArray⟩
theorem ints_ofInts {xs : List Int} (h : inB xs) : ints (ofInts xs) = xs := by
  show ((xs.map fun x => UInt8.ofNat x.toNat).toArray.toList).map (fun b => (b.toNat : Int)) = xs
  rw [List.toList_toArray]
  exact back8 h
theorem ofInts_ints (s : ByteArray) : ofInts (ints s) = s := by
  unfold ofInts ints
  rw [List.map_map]
  have : s.data.toList.map ((fun x : Int => UInt8.ofNat x.toNat) ∘ fun b : UInt8 => (b.toNat : Int)) = s.data.toList := by
    conv => rhs; rw [← List.map_id s.data.toList]
    refine List.map_congr_left fun b _ => ?_
    simp
  rw [this]
theorem ofInts_append (xs ys : List Int) : ofInts xs ++ ofInts ys = ofInts (xs ++ ys) := by
  unfold ofInts
  rw [List.map_append]
  exact B_append _ _
theorem ofInts_size (xs : List Int) : (ofInts xs).size = xs.length := by
  show (xs.map fun x => UInt8.ofNat x.toNat).toArray.size = _
  simp
/-- What Run answers, where there is room. -/
theorem runOut_room (p : Pl) (s o : ByteArray) (h : ¬ p.se * p.o + (goesK p s (nB p s.size)).length > 1048576) :
    runOut p s o = (⟨(out8 p s o).toArray⟩, (wholeK p s (nB p s.size) : Int), (partK p s (nB p s.size) : Int), (goesK p s (nB p s.size)).length / p.o, min ((goesK p s (nB p s.size)).length % p.o) 1, 0) := by
  unfold runOut
  rw [if_neg h]
/-- .. with nothing sought, and nothing to be kept. -/
theorem out8_zero (p : Pl) (s o : ByteArray) (h : p.se * p.o = 0) (hk : p.kp = false ∨ o.size = 0) : (⟨(out8 p s o).toArray⟩ : ByteArray) = ofInts (goesK p s (nB p s.size)) := by
  unfold out8 ofInts
  rw [h]
  have : (if p.kp = true then o.data.toList.drop ((0 : Int).toNat + (goesK p s (nB p s.size)).length) else []) = [] := by
    rcases hk with hk | hk
    · rw [hk]; rfl
    · split
      · refine List.drop_of_length_le ?_
        have : o.data.toList.length = o.size := by simp
        omega
      · rfl
  rw [this]
  simp
end Go.Proofs.YtomnpmfmlbmpeaaDoor.L
