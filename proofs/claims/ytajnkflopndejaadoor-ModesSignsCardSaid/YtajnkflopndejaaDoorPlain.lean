/- Plain laws: alive; Beyond; ranges of bits. -/
import Derived.Test.YtajnkflopndejaaDoorLx5
import Derived.Test.YtajnkflopndejaaDoorLx9
namespace Go.Proofs.YtajnkflopndejaaDoor.L
open Go.RowKit Go.Proofs.YtajnkflopndejaaDoorW.PrintWords Go.Proofs.YtajnkflopndejaaDoorW.PrintLast Go.Proofs.YtajnkflopndejaaDoorW.PrintMore

theorem alive_pure : toolchestlaw10_alive.f 12 = some true := by decide +kernel
theorem alive_ev : Ev (fun k => toolchestlaw10_alive.f k) true := Ev.of (fun k => toolchestlaw10_alive.mono k) alive_pure

theorem beyond_ev (t1 t2 : Int) (h1 : 0 ≤ t1) (h1' : t1 ≤ 281474976710656) (h2 : 0 ≤ t2) (h2' : t2 ≤ 281474976710656) : ∃ b, Ev (fun k => toolchestlaw01_Beyond.f k [t1, t2]) b ∧ (b = false → t1 + t2 ≤ 1048576) := by
  have e1 : rd [t1, t2] 0 = t1 := rfl
  have e2 : rd [t1, t2] 1 = t2 := rfl
  have hw0 : wrap64 (0 + t1) = t1 := by unfold wrap64; omega
  have hw1 : wrap64 (t1 + t2) = t1 + t2 := by unfold wrap64; omega
  have hw2 : wrap64 (0 + 1) = 1 := by unfold wrap64; omega
  have hw3 : wrap64 (1 + 1) = 2 := by unfold wrap64; omega
  by_cases ha : t1 > 1048576
  · refine ⟨true, Ev.of (fun k => toolchestlaw01_Beyond.mono [t1, t2] k) (k := 3) ?_, by simp⟩
    show toolchestlaw01_Beyond.f 3 [t1, t2] = some true
    simp only [toolchestlaw01_Beyond.f, toolchestlaw01_Beyond.l0, List.length_cons, List.length_nil]
    rw [if_pos (by omega), if_pos (by omega), e1, hw0, if_pos ha]
  · by_cases hb : t1 + t2 > 1048576
    · refine ⟨true, Ev.of (fun k => toolchestlaw01_Beyond.mono [t1, t2] k) (k := 3) ?_, by simp⟩
      show toolchestlaw01_Beyond.f 3 [t1, t2] = some true
      simp only [toolchestlaw01_Beyond.f, toolchestlaw01_Beyond.l0, List.length_cons, List.length_nil]
      rw [if_pos (by omega), if_pos (by omega), e1, hw0, if_neg ha, hw2, if_pos (by omega), if_pos (by omega), e2, hw1, if_pos hb]
    · refine ⟨false, Ev.of (fun k => toolchestlaw01_Beyond.mono [t1, t2] k) (k := 3) ?_, fun _ => by omega⟩
      show toolchestlaw01_Beyond.f 3 [t1, t2] = some false
      simp only [toolchestlaw01_Beyond.f, toolchestlaw01_Beyond.l0, List.length_cons, List.length_nil]
      rw [if_pos (by omega), if_pos (by omega), e1, hw0, if_neg ha, hw2, if_pos (by omega), if_pos (by omega), e2, hw1, if_neg hb, hw3, if_neg (by omega)]


theorem wrap_small (n : Nat) (h : n < 512) : IntKind.i64.wrap (n : Int) = (n : Int) := by rw [IntKind.wrap_i64]; omega
theorem toNat_small (b : Int) (h0 : 0 ≤ b) (h1 : b ≤ 511) : (BitVec.ofInt 64 b).toNat = b.toNat := by
  rw [BitVec.toNat_ofInt]
  omega
theorem and_range (a b : Int) (h0 : 0 ≤ b) (h1 : b ≤ 511) : 0 ≤ Go.bits .and .i64 a b ∧ Go.bits .and .i64 a b ≤ 511 := by
  show 0 ≤ IntKind.i64.wrap ((BitVec.ofInt 64 a &&& BitVec.ofInt 64 b).toNat : Nat) ∧ IntKind.i64.wrap ((BitVec.ofInt 64 a &&& BitVec.ofInt 64 b).toNat : Nat) ≤ 511
  have h : (BitVec.ofInt 64 a &&& BitVec.ofInt 64 b).toNat ≤ b.toNat := by
    rw [BitVec.toNat_and, toNat_small b h0 h1]
    exact Nat.and_le_right
  rw [wrap_small _ (by omega)]
  omega
theorem andNot_range (a b : Int) (h0 : 0 ≤ a) (h1 : a ≤ 511) : 0 ≤ Go.bits .andNot .i64 a b ∧ Go.bits .andNot .i64 a b ≤ 511 := by
  show 0 ≤ IntKind.i64.wrap ((BitVec.ofInt 64 a &&& ~~~ BitVec.ofInt 64 b).toNat : Nat) ∧ IntKind.i64.wrap ((BitVec.ofInt 64 a &&& ~~~ BitVec.ofInt 64 b).toNat : Nat) ≤ 511
  have h : (BitVec.ofInt 64 a &&& ~~~ BitVec.ofInt 64 b).toNat ≤ a.toNat := by
    rw [BitVec.toNat_and, toNat_small a h0 h1]
    exact Nat.and_le_left
  rw [wrap_small _ (by omega)]
  omega
theorem or_range (a b : Int) (h0 : 0 ≤ a) (h1 : a ≤ 511) (h2 : 0 ≤ b) (h3 : b ≤ 511) : 0 ≤ Go.bits .or .i64 a b ∧ Go.bits .or .i64 a b ≤ 511 := by
  show 0 ≤ IntKind.i64.wrap ((BitVec.ofInt 64 a ||| BitVec.ofInt 64 b).toNat : Nat) ∧ IntKind.i64.wrap ((BitVec.ofInt 64 a ||| BitVec.ofInt 64 b).toNat : Nat) ≤ 511
  have h : (BitVec.ofInt 64 a ||| BitVec.ofInt 64 b).toNat < 2 ^ 9 := by
    rw [BitVec.toNat_or, toNat_small a h0 h1, toNat_small b h2 h3]
    exact Nat.or_lt_two_pow (by omega) (by omega)
  rw [wrap_small _ (by omega)]
  omega
theorem thr7_range (who : Int) (h0 : 0 ≤ who) (h1 : who ≤ 7) : 0 ≤ thr3 who 7 ∧ thr3 who 7 ≤ 511 := by
  have : ∀ x : Fin 8, 0 ≤ thr3 (x.1 : Int) 7 ∧ thr3 (x.1 : Int) 7 ≤ 511 := by decide +kernel
  have h := this ⟨who.toNat, by omega⟩
  rwa [show ((who.toNat : Nat) : Int) = who by omega] at h
theorem may2_range (mask : Int) (c : S35) : 0 ≤ may2 mask c ∧ may2 mask c ≤ 511 := by
  have h := thr7_range (whoOf c) (whoOf_range c).1 (whoOf_range c).2
  exact and_range _ _ h.1 h.2
theorem step_range (mask : Int) (dir : Bool) (m : Int) (c : S35) (h0 : 0 ≤ m) (h1 : m ≤ 511) : 0 ≤ stepCh mask dir m c ∧ stepCh mask dir m c ≤ 511 := by
  unfold stepCh
  cases opTab c.f1 with
  | none => exact ⟨h0, h1⟩
  | some op =>
    have a := andNot_range m (may2 mask c) h0 h1
    have b := and_range (opf op m (thr3 7 (bits2 dir m c))) (may2 mask c) (may2_range mask c).1 (may2_range mask c).2
    exact or_range _ _ a.1 a.2 b.1 b.2
theorem fold_range (mask : Int) (dir : Bool) : ∀ (l : List S35) (m : Int), 0 ≤ m → m ≤ 511 → 0 ≤ l.foldl (stepCh mask dir) m ∧ l.foldl (stepCh mask dir) m ≤ 511
  | [], m, h0, h1 => ⟨h0, h1⟩
  | c :: l, m, h0, h1 => by
    have h := step_range mask dir m c h0 h1
    exact fold_range mask dir l _ h.1 h.2
theorem and511_id (m : Int) (h0 : 0 ≤ m) (h1 : m ≤ 511) : Go.bits .and .i64 m 511 = m := by rw [i64_and511]; omega
theorem apply_val (l : List S35) (a1 a2 : Int) (a3 : Bool) (hl : l.length ≤ 1099511627776) (hok : ∀ c ∈ l, okCh c = true) : modes_Apply.f l a1 a2 a3 = some (l.foldl (stepCh a2 a3) (Go.bits .and .i64 a1 511)) := by
  unfold modes_Apply.f
  rw [if_pos ⟨hl, List.all_eq_true.2 hok⟩]
end Go.Proofs.YtajnkflopndejaaDoor.L
