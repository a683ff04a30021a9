/- Three changes that tell a mode: plain. -/
import Derived.Test.YtajnkflopndejaaDoorTold
import Derived.Test.YtajnkflopndejaaDoorBits
namespace Go.Proofs.YtajnkflopndejaaDoor.L
open Go.RowKit Go.Proofs.YtajnkflopndejaaDoorW.PrintWords Go.Proofs.YtajnkflopndejaaDoorW.PrintLast Go.Proofs.YtajnkflopndejaaDoorW.PrintMore

theorem eq_step (mask : Int) (dir : Bool) (who W : Int) (m b : Int) (hw : ¬ Go.bits .and .i64 who 7 = 0) (hW : Go.bits .and .i64 511 (thr3 (Go.bits .and .i64 who 7) 7) = W) :
    stepCh mask dir m ⟨who, 61, b, 0, false⟩ = Go.bits .or .i64 (Go.bits .andNot .i64 m W) (Go.bits .and .i64 (thr3 7 (Go.bits .and .i64 b 7)) W) := by
  have hM : may2 mask ⟨who, 61, b, 0, false⟩ = W := by
    unfold may2 mayOf whoOf
    simp only [if_neg hw]
    exact hW
  have hB : bits2 dir m ⟨who, 61, b, 0, false⟩ = Go.bits .and .i64 b 7 := by
    unfold bits2
    rw [if_neg (by simp)]
    unfold bits1
    rw [if_neg (by
      have : ¬ (0 : Int) ≤ copyIx ⟨who, 61, b, 0, false⟩ := by
        show ¬ (0 : Int) ≤ Lib.indexByte (⟨#[111, 103, 117]⟩ : ByteArray).data.toList (0 : Int).toNat.toUInt8
        decide +kernel
      exact this)]
  have hO : opTab 61 = some 39 := by simp [opTab, updA]
  have hF : ∀ x y : Int, opf 39 x y = y := fun x y => by unfold opf; rw [if_neg (by omega), if_neg (by omega)]
  show (match opTab 61 with | none => m | some op => Go.bits .or .i64 (Go.bits .andNot .i64 m (may2 mask ⟨who, 61, b, 0, false⟩)) (Go.bits .and .i64 (opf op m (thr3 7 (bits2 dir m ⟨who, 61, b, 0, false⟩))) (may2 mask ⟨who, 61, b, 0, false⟩))) = _
  rw [hO]
  simp only [hM, hB, hF]
theorem three_bits (A X Y Z P Q R : BitVec 64) (h1 : P &&& Q = 0#64) (h2 : P &&& R = 0#64) (h3 : Q &&& R = 0#64) (h4 : A &&& ~~~ (P ||| Q ||| R) = 0#64) :
    ((((A &&& ~~~ P) ||| (X &&& P)) &&& ~~~ Q ||| (Y &&& Q)) &&& ~~~ R) ||| (Z &&& R) = (X &&& P) ||| (Y &&& Q) ||| (Z &&& R) := by
  apply BitVec.eq_of_getLsbD_eq
  intro i hi
  have g1 := congrArg (fun x : BitVec 64 => x.getLsbD i) h1
  have g2 := congrArg (fun x : BitVec 64 => x.getLsbD i) h2
  have g3 := congrArg (fun x : BitVec 64 => x.getLsbD i) h3
  have g4 := congrArg (fun x : BitVec 64 => x.getLsbD i) h4
  simp only [BitVec.getLsbD_and, BitVec.getLsbD_or, BitVec.getLsbD_not, hi, decide_true, Bool.true_and, BitVec.getLsbD_zero] at g1 g2 g3 g4 ⊢
  revert g1 g2 g3 g4
  cases A.getLsbD i <;> cases X.getLsbD i <;> cases Y.getLsbD i <;> cases Z.getLsbD i <;> cases P.getLsbD i <;> cases Q.getLsbD i <;> cases R.getLsbD i <;> decide
theorem small_and (m : Int) (h0 : 0 ≤ m) (h1 : m ≤ 511) : Bv m &&& ~~~ (Bv 448 ||| Bv 56 ||| Bv 7) = 0#64 := by
  have : ∀ x : Fin 512, Bv (x.1 : Int) &&& ~~~ (Bv 448 ||| Bv 56 ||| Bv 7) = 0#64 := by decide +kernel
  have h := this ⟨m.toNat, by omega⟩
  rwa [show ((m.toNat : Nat) : Int) = m by omega] at h
theorem oct_apply (n : Nat) (hn : n < 512) (mask : Int) (dir : Bool) (m : Int) (h0 : 0 ≤ m) (h1 : m ≤ 511) : (octAns (n : Int)).foldl (stepCh mask dir) m = (n : Int) := by
  have hr := fold_range mask dir (octAns (n : Int)) m h0 h1
  refine Bv_inj hr.1 hr.2 (by omega) (by omega) ?_
  unfold octAns
  simp only [List.foldl_cons, List.foldl_nil]
  rw [eq_step mask dir 1 7 _ _ (by decide +kernel) (by decide +kernel), eq_step mask dir 2 56 _ _ (by decide +kernel) (by decide +kernel), eq_step mask dir 4 448 _ _ (by decide +kernel) (by decide +kernel)]
  simp only [Bv_or, Bv_and, Bv_andNot]
  rw [three_bits _ _ _ _ _ _ _ (by decide +kernel) (by decide +kernel) (by decide +kernel) (small_and m h0 h1)]
  have : ∀ x : Fin 512, (Bv (thr3 7 (Go.bits .and .i64 (Go.bits .and .i64 (shr .i64 (x.1 : Int) 6) 7) 7)) &&& Bv 448 ||| Bv (thr3 7 (Go.bits .and .i64 (Go.bits .and .i64 (shr .i64 (x.1 : Int) 3) 7) 7)) &&& Bv 56 ||| Bv (thr3 7 (Go.bits .and .i64 (Go.bits .and .i64 (shr .i64 (x.1 : Int) 0) 7) 7)) &&& Bv 7) = Bv (x.1 : Int) := by decide +kernel
  exact this ⟨n, hn⟩
theorem oct_apply_val (n : Nat) (hn : n < 512) (a mask : Int) (dir : Bool) : modes_Apply.f (octAns (n : Int)) a mask dir = some (n : Int) := by
  rw [apply_val _ _ _ _ (by simp [octAns]) (by intro c hc; simp only [octAns, List.mem_cons, List.not_mem_nil, or_false] at hc; rcases hc with rfl | rfl | rfl <;> rfl)]
  have h := i64_and511 a
  rw [oct_apply n hn mask dir _ (by omega) (by omega)]
end Go.Proofs.YtajnkflopndejaaDoor.L
