/- Numbers and their digits: plain lists. -/
import Derived.Test.YtomnpmfmlbmpeaaDoorLx0
import Derived.Lib.AtoiAll
import Derived.Lib.AtoiAllCases
import Derived.Lib.SlTrimSet
namespace Go.Proofs.YtomnpmfmlbmpeaaDoor.L
open Go.RowKit Go.Proofs.YtomnpmfmlbmpeaaDoorW.PrintWords

def B (l : List UInt8) : ByteArray := ⟨l.toArray⟩
theorem B_toList (l : List UInt8) : (B l).data.toList = l := by simp [B]
theorem B_size (l : List UInt8) : (B l).size = l.length := by simp [B, ByteArray.size]
theorem B_append (a b : List UInt8) : B a ++ B b = B (a ++ b) := by
  have h : (B a ++ B b).data = (B (a ++ b)).data := by
    rw [ByteArray.data_append]
    simp [B]
  cases hx : B a ++ B b
  cases hy : B (a ++ b)
  rw [hx, hy] at h
  simp only at h
  rw [h]
theorem B_of (s : ByteArray) : s = B s.data.toList := by cases s; simp [B]

def isDig (c : UInt8) : Prop := 48 ≤ c.toNat ∧ c.toNat ≤ 57
def dvalFrom (acc : Nat) (l : List UInt8) : Nat := l.foldl (fun a c => a * 10 + (c.toNat - 48)) acc
def dval (l : List UInt8) : Nat := dvalFrom 0 l
theorem dvalFrom_cons (acc : Nat) (c : UInt8) (l : List UInt8) : dvalFrom acc (c :: l) = dvalFrom (acc * 10 + (c.toNat - 48)) l := by unfold dvalFrom; rw [List.foldl_cons]
theorem dvalFrom_append (acc : Nat) (a b : List UInt8) : dvalFrom acc (a ++ b) = dvalFrom (dvalFrom acc a) b := by simp [dvalFrom, List.foldl_append]
theorem pow_step' (p q acc c : Nat) (e : q = p * 10) (h : acc < p) (h1 : 48 ≤ c) (h2 : c ≤ 57) : acc * 10 + (c - 48) < q := by
  subst e
  omega
theorem pow_step {acc k c : Nat} (h : acc < 10 ^ k) (hc : 48 ≤ c ∧ c ≤ 57) : acc * 10 + (c - 48) < 10 ^ (k + 1) :=
  pow_step' (10 ^ k) _ acc c (Nat.pow_succ ..) h hc.1 hc.2
theorem dvalFrom_lt : ∀ (l : List UInt8) (acc k : Nat), acc < 10 ^ k → (∀ c ∈ l, isDig c) → dvalFrom acc l < 10 ^ (l.length + k) := by
  intro l
  induction l with
  | nil =>
    intro acc k h _
    exact Nat.lt_of_lt_of_eq h (congrArg (fun z => 10 ^ z) (Nat.zero_add k).symm)
  | cons c l ih =>
    intro acc k h hd
    rw [dvalFrom_cons]
    have hc := hd c (by simp)
    unfold isDig at hc
    have := ih (acc * 10 + (c.toNat - 48)) (k + 1) (pow_step h hc) (fun x hx => hd x (by simp [hx]))
    have e : l.length + (k + 1) = (c :: l).length + k := by simp only [List.length_cons]; omega
    exact Nat.lt_of_lt_of_eq this (congrArg (fun z => 10 ^ z) e)
theorem dval_lt (l : List UInt8) (hd : ∀ c ∈ l, isDig c) : dval l < 10 ^ l.length := by simpa [dval] using dvalFrom_lt l 0 0 (by simp) hd
theorem parse_dig : ∀ (l : List UInt8) (acc k : Nat), acc < 10 ^ k → l.length + k ≤ 18 → (∀ c ∈ l, isDig c) → Lib.parseUint10 acc l = .ok (dvalFrom acc l) := by
  intro l
  induction l with
  | nil => intro acc k _ _ _; rfl
  | cons c l ih =>
    intro acc k ha hk hd
    have hc := hd c (by simp)
    have hc' := hc
    unfold isDig at hc
    simp only [List.length_cons] at hk
    have hp : 10 ^ k ≤ 10 ^ 17 := Nat.pow_le_pow_right (by omega) (by omega)
    have h17 : (10 : Nat) ^ 17 = 100000000000000000 := by decide
    rw [h17] at hp
    unfold Lib.parseUint10
    rw [if_pos hc, if_neg (by omega), if_neg (by omega), dvalFrom_cons]
    exact ih _ (k + 1) (by rw [Nat.pow_succ]; omega) (by omega) (fun x hx => hd x (by simp [hx]))

/-- The digits of x behind the last one. -/
def dg : Nat → Nat → List UInt8
  | 0, _ => []
  | m + 1, x => if x = 0 then [] else dg m (x / 10) ++ [UInt8.ofNat (48 + x % 10)]
theorem dg_zero (m : Nat) : dg m 0 = [] := by cases m <;> simp [dg]
theorem digit_nat (d : Nat) (h : d < 10) : (UInt8.ofNat (48 + d)).toNat = 48 + d := by
  rw [UInt8.toNat_ofNat']
  omega
theorem dg_dig : ∀ (m x : Nat), ∀ c ∈ dg m x, isDig c := by
  intro m
  induction m with
  | zero => intro x c h; cases h
  | succ m ih =>
    intro x c h
    unfold dg at h
    split at h
    · cases h
    · rcases List.mem_append.1 h with h | h
      · exact ih _ c h
      · rw [List.mem_singleton.1 h]
        unfold isDig
        rw [digit_nat _ (by omega)]
        omega
theorem dg_val : ∀ (m x : Nat), x < 10 ^ m → dval (dg m x) = x := by
  intro m
  induction m with
  | zero => intro x h; simp at h; subst h; rfl
  | succ m ih =>
    intro x h
    unfold dg
    split
    · rename_i h0; rw [h0]; rfl
    · have h1 := ih (x / 10) (by rw [Nat.pow_succ] at h; omega)
      unfold dval at h1 ⊢
      rw [dvalFrom_append, h1]
      simp only [dvalFrom, List.foldl_cons, List.foldl_nil]
      rw [digit_nat _ (by omega)]
      omega
theorem dg_len : ∀ (m x : Nat), (dg m x).length ≤ m := by
  intro m
  induction m with
  | zero => intro x; exact Nat.le_refl _
  | succ m ih =>
    intro x
    unfold dg
    split
    · simp
    · have := ih (x / 10)
      simp; omega
/-- A number's digits. -/
def digs (n : Nat) : List UInt8 := dg 20 (n / 10) ++ [UInt8.ofNat (48 + n % 10)]
theorem digs_dig (n : Nat) : ∀ c ∈ digs n, isDig c := by
  intro c h
  rcases List.mem_append.1 h with h | h
  · exact dg_dig _ _ c h
  · rw [List.mem_singleton.1 h]
    unfold isDig
    rw [digit_nat _ (by omega)]
    omega
theorem digs_val (n : Nat) (h : n < 18446744073709551616) : dval (digs n) = n := by
  have h1 := dg_val 20 (n / 10) (by have : (10 : Nat) ^ 20 = 100000000000000000000 := by decide
                                    omega)
  unfold digs dval at *
  rw [dvalFrom_append, h1]
  simp only [dvalFrom, List.foldl_cons, List.foldl_nil]
  rw [digit_nat _ (by omega)]
  omega
theorem digs_len (n : Nat) : (digs n).length ≤ 21 := by
  have := dg_len 20 (n / 10)
  simp only [digs, List.length_append, List.length_singleton]
  omega
theorem dec_str (d : Nat) (h : d < 10) : (⟨#[48, 49, 50, 51, 52, 53, 54, 55, 56, 57]⟩ : ByteArray).extract d (d + 1) = B [UInt8.ofNat (48 + d)] := by
  have : d = 0 ∨ d = 1 ∨ d = 2 ∨ d = 3 ∨ d = 4 ∨ d = 5 ∨ d = 6 ∨ d = 7 ∨ d = 8 ∨ d = 9 := by omega
  rcases this with rfl | rfl | rfl | rfl | rfl | rfl | rfl | rfl | rfl | rfl <;> rfl
theorem dropWhile_all {p : UInt8 → Bool} : ∀ (l : List UInt8), (∀ x ∈ l, p x = true) → l.dropWhile p = [] := by
  intro l
  induction l with
  | nil => intro _; rfl
  | cons c l ih =>
    intro h
    rw [List.dropWhile_cons, if_pos (h c (by simp))]
    exact ih (fun x hx => h x (by simp [hx]))
theorem trim_digits (l : List UInt8) (hd : ∀ c ∈ l, isDig c) : Lib.trimS l [48, 49, 50, 51, 52, 53, 54, 55, 56, 57] = [] := by
  have hc : ∀ c ∈ l, ([48, 49, 50, 51, 52, 53, 54, 55, 56, 57] : List UInt8).contains c = true := by
    intro c h
    have h1 := hd c h
    unfold isDig at h1
    have : c.toNat = 48 ∨ c.toNat = 49 ∨ c.toNat = 50 ∨ c.toNat = 51 ∨ c.toNat = 52 ∨ c.toNat = 53 ∨ c.toNat = 54 ∨ c.toNat = 55 ∨ c.toNat = 56 ∨ c.toNat = 57 := by omega
    have e : c = UInt8.ofNat c.toNat := by simp
    rcases this with h | h | h | h | h | h | h | h | h | h <;> (rw [e, h]; rfl)
  unfold Lib.trimS Lib.trimLeftS Lib.trimRightS
  have h1 : (l.reverse.dropWhile (([48, 49, 50, 51, 52, 53, 54, 55, 56, 57] : List UInt8).contains ·)) = [] := by
    exact dropWhile_all _ (fun x hx => hc x (List.mem_reverse.1 hx))
  rw [h1]
  rfl
end Go.Proofs.YtomnpmfmlbmpeaaDoor.L
