/- Words as rows of bits. -/
import Derived.Test.YtajnkflopndejaaDoorPlain
namespace Go.Proofs.YtajnkflopndejaaDoor.L
open Go.RowKit Go.Proofs.YtajnkflopndejaaDoorW.PrintWords Go.Proofs.YtajnkflopndejaaDoorW.PrintLast Go.Proofs.YtajnkflopndejaaDoorW.PrintMore

/-- An integer's 64 bits. -/
def Bv (x : Int) : BitVec 64 := BitVec.ofInt 64 x
theorem Bv_wrap (x : BitVec 64) : Bv (IntKind.i64.wrap (x.toNat : Nat)) = x := by
  apply BitVec.eq_of_toNat_eq
  unfold Bv
  rw [BitVec.toNat_ofInt, IntKind.wrap_i64]
  have := x.isLt
  omega
theorem Bv_and (a b : Int) : Bv (Go.bits .and .i64 a b) = Bv a &&& Bv b := Bv_wrap (BitVec.ofInt 64 a &&& BitVec.ofInt 64 b)
theorem Bv_or (a b : Int) : Bv (Go.bits .or .i64 a b) = Bv a ||| Bv b := Bv_wrap (BitVec.ofInt 64 a ||| BitVec.ofInt 64 b)
theorem Bv_andNot (a b : Int) : Bv (Go.bits .andNot .i64 a b) = Bv a &&& ~~~ Bv b := Bv_wrap (BitVec.ofInt 64 a &&& ~~~ BitVec.ofInt 64 b)
/-- Two words are the same if their bits are. -/
theorem and_eq (a b c d : Int) (h : Bv a &&& Bv b = Bv c &&& Bv d) : Go.bits .and .i64 a b = Go.bits .and .i64 c d := by
  show IntKind.i64.wrap ((BitVec.ofInt 64 a &&& BitVec.ofInt 64 b).toNat : Nat) = IntKind.i64.wrap ((BitVec.ofInt 64 c &&& BitVec.ofInt 64 d).toNat : Nat)
  exact congrArg (fun x : BitVec 64 => IntKind.i64.wrap (x.toNat : Nat)) h
theorem or_eq (a b c d : Int) (h : Bv a ||| Bv b = Bv c ||| Bv d) : Go.bits .or .i64 a b = Go.bits .or .i64 c d := by
  show IntKind.i64.wrap ((BitVec.ofInt 64 a ||| BitVec.ofInt 64 b).toNat : Nat) = IntKind.i64.wrap ((BitVec.ofInt 64 c ||| BitVec.ofInt 64 d).toNat : Nat)
  exact congrArg (fun x : BitVec 64 => IntKind.i64.wrap (x.toNat : Nat)) h
theorem thr77 : thr3 7 7 = 511 := by decide +kernel
theorem Bv_inj {a b : Int} (h0 : 0 ≤ a) (h1 : a ≤ 511) (h2 : 0 ≤ b) (h3 : b ≤ 511) (h : Bv a = Bv b) : a = b := by
  have e : (BitVec.ofInt 64 a).toNat = (BitVec.ofInt 64 b).toNat := congrArg BitVec.toNat h
  rw [toNat_small a h0 h1, toNat_small b h2 h3] at e
  omega
end Go.Proofs.YtajnkflopndejaaDoor.L
