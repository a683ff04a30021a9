/- The plain law of ModesMask. -/
import Derived.Test.YtajnkflopndejaaDoorPlain
import Derived.Test.YtajnkflopndejaaDoorLx11
namespace Go.Proofs.YtajnkflopndejaaDoor.L
open Go.RowKit Go.Proofs.YtajnkflopndejaaDoorW.PrintWords Go.Proofs.YtajnkflopndejaaDoorW.PrintLast Go.Proofs.YtajnkflopndejaaDoorW.PrintMore

/-- An integer's 64 bits. -/
def Bv (x : Int) : BitVec 64 := BitVec.ofInt 64 x
theorem Bv_wrap (x : BitVec 64) : Bv (IntKind.i64.wrap (x.toNat : Nat)) = x := by
  apply BitVec.eq_of_toNat_eq
  unfold Bv
  rw [BitVec.toNat_ofInt, IntKind.wrap_i64]
  have := x.isLt
  omega
theorem Bv_and (a b : Int) : Bv (Go.bits .and .i64 a b) = Bv a &&& Bv b := Bv_wrap (BitVec.ofInt 64 a &&& BitVec.ofInt 64 b)
theorem Bv_or (a b : Int) : Bv (Go.bits .or .i64 a b) = Bv a ||| Bv b := Bv_wrap (BitVec.ofInt 64 a ||| BitVec.ofInt 64 b)
theorem Bv_andNot (a b : Int) : Bv (Go.bits .andNot .i64 a b) = Bv a &&& ~~~ Bv b := Bv_wrap (BitVec.ofInt 64 a &&& ~~~ BitVec.ofInt 64 b)
/-- Two words are the same if their bits are. -/
theorem and_eq (a b c d : Int) (h : Bv a &&& Bv b = Bv c &&& Bv d) : Go.bits .and .i64 a b = Go.bits .and .i64 c d := by
  show IntKind.i64.wrap ((BitVec.ofInt 64 a &&& BitVec.ofInt 64 b).toNat : Nat) = IntKind.i64.wrap ((BitVec.ofInt 64 c &&& BitVec.ofInt 64 d).toNat : Nat)
  exact congrArg (fun x : BitVec 64 => IntKind.i64.wrap (x.toNat : Nat)) h
theorem thr77 : thr3 7 7 = 511 := by decide +kernel

theorem mask_1 (A K X Y : BitVec 64) (_h : Y = Bv 511) : ((((A &&& Y) &&& ~~~ ((Y &&& ~~~ K) &&& Y)) ||| (X &&& ((Y &&& ~~~ K) &&& Y))) &&& (K &&& Y)) = A &&& (K &&& Y) := by
  clear _h
  apply BitVec.eq_of_getLsbD_eq
  intro i hi
  simp only [BitVec.getLsbD_and, BitVec.getLsbD_or, BitVec.getLsbD_not, hi, decide_true, Bool.true_and]
  cases A.getLsbD i <;> cases K.getLsbD i <;> cases X.getLsbD i <;> cases Y.getLsbD i <;> rfl
theorem mask_2 (A K X Y : BitVec 64) : (((((A &&& Y) &&& ~~~ ((Y &&& ~~~ K) &&& Y)) ||| (X &&& ((Y &&& ~~~ K) &&& Y))) &&& ~~~ K) &&& Y) = (((((A &&& Y) &&& ~~~ (Y &&& Y)) ||| (X &&& (Y &&& Y))) &&& ~~~ K) &&& Y) := by
  apply BitVec.eq_of_getLsbD_eq
  intro i hi
  simp only [BitVec.getLsbD_and, BitVec.getLsbD_or, BitVec.getLsbD_not, hi, decide_true, Bool.true_and]
  cases A.getLsbD i <;> cases K.getLsbD i <;> cases X.getLsbD i <;> cases Y.getLsbD i <;> rfl
theorem may2_0 (mask a b c : Int) (d : Bool) : may2 mask ⟨0, a, b, c, d⟩ = Go.bits .and .i64 (Go.bits .andNot .i64 511 mask) 511 := by
  have h0 : Go.bits .and .i64 0 7 = 0 := by decide
  simp only [may2, mayOf, whoOf, h0, if_true, thr77]
theorem may2_7 (mask a b c : Int) (d : Bool) : may2 mask ⟨7, a, b, c, d⟩ = Go.bits .and .i64 511 511 := by
  have h0 : Go.bits .and .i64 7 7 = 7 := by decide
  have h1 : ¬ (7 : Int) = 0 := by decide
  simp only [may2, mayOf, whoOf, h0, if_neg h1, thr77]

theorem modesMask_pure (a1 a2 a3 : Int) (a4 : Bool) (m k : Int) (dir : Bool) (h0 : 0 ≤ a1) (h1 : a1 ≤ 255) : ∃ n, toolchestlaw10_ModesMask.f n 0 a1 a2 a3 a4 m k dir = some true := by
  refine Ev.rounds (g := fun n => toolchestlaw10_ModesMask.f n 0 a1 a2 a3 a4 m k dir) ?_
  unfold toolchestlaw10_ModesMask.f
  have hok : ∀ (w : Int) (x : S35), x ∈ [(⟨w, a1, a2, a3, a4⟩ : S35)] → okCh x = true := fun w x hx => by
    rw [List.mem_singleton.1 hx]
    exact decide_eq_true ⟨h0, h1⟩
  rw [apply_val _ m k dir (by simp) (hok 0)]
  simp only [Option.bind_some]
  rw [apply_val _ m k dir (by simp) (hok 7)]
  simp only [Option.bind_some]
  refine Ev.bind alive_ev ?_
  have e1 : Go.bits .and .i64 (stepCh k dir (Go.bits .and .i64 m 511) ⟨0, a1, a2, a3, a4⟩) (Go.bits .and .i64 k 511) = Go.bits .and .i64 m (Go.bits .and .i64 k 511) := by
    apply and_eq
    unfold stepCh
    cases opTab a1 with
    | none =>
      simp only [Bv_and]
      apply BitVec.eq_of_getLsbD_eq
      intro i hi
      simp only [BitVec.getLsbD_and]
      cases (Bv m).getLsbD i <;> cases (Bv k).getLsbD i <;> cases (Bv 511).getLsbD i <;> rfl
    | some op =>
      simp only [may2_0, Bv_and, Bv_or, Bv_andNot]
      exact mask_1 _ _ _ _ rfl
  have e2 : Go.bits .and .i64 (Go.bits .andNot .i64 (stepCh k dir (Go.bits .and .i64 m 511) ⟨0, a1, a2, a3, a4⟩) k) 511 = Go.bits .and .i64 (Go.bits .andNot .i64 (stepCh k dir (Go.bits .and .i64 m 511) ⟨7, a1, a2, a3, a4⟩) k) 511 := by
    apply and_eq
    rw [Bv_andNot, Bv_andNot]
    unfold stepCh
    cases opTab a1 with
    | none => rfl
    | some op =>
      simp only [may2_0, may2_7, Bv_and, Bv_or, Bv_andNot]
      exact mask_2 _ _ _ _
  refine Ev.step (f := fun _ => some true) (fun n => ?_) (Ev.now true)
  refine (if_pos rfl).trans ?_
  refine (if_pos e1).trans ?_
  exact congrArg some (beq_iff_eq.2 e2)
theorem modesMask_any (a0 a1 a2 a3 : Int) (a4 : Bool) (m k : Int) (dir : Bool) (h0 : 0 ≤ a1) (h1 : a1 ≤ 255) : ∃ n, toolchestlaw10_ModesMask.f n a0 a1 a2 a3 a4 m k dir = some true := modesMask_pure a1 a2 a3 a4 m k dir h0 h1
end Go.Proofs.YtajnkflopndejaaDoor.L
