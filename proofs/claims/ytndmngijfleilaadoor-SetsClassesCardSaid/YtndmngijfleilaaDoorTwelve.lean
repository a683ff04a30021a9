/- The twelve classes: what Parse makes of their names, which bytes they have. -/
import Derived.Test.YtndmngijfleilaaDoorPlain
namespace Go.Proofs.YtndmngijfleilaaDoor.L
open Go.RowKit Go.Proofs.YtndmngijfleilaaDoorW.PrintWords Go.Proofs.YtndmngijfleilaaDoorW.PrintLast Go.Proofs.YtndmngijfleilaaDoorW.PrintMore

def nmL : List (List UInt8) := [[97, 108, 112, 104, 97], [97, 108, 110, 117, 109], [98, 108, 97, 110, 107], [99, 110, 116, 114, 108], [100, 105, 103, 105, 116], [103, 114, 97, 112, 104], [108, 111, 119, 101, 114], [112, 114, 105, 110, 116], [112, 117, 110, 99, 116], [115, 112, 97, 99, 101], [117, 112, 112, 101, 114], [120, 100, 105, 103, 105, 116]]
def nm (k : Nat) : ByteArray := ⟨(nmL.getD k []).toArray⟩
def clsL (k : Nat) : List Int := toldN (classTab (nmL.getD k [])) 256 0
def clsM (k : Nat) : List Int := clsL k ++ 45 :: [48, 49, 50, 51, 52, 53, 54, 55, 56, 57]
theorem cls_facts (k : Nat) (hk : k < 12) : sets_Parse.f (((⟨#[91, 58]⟩ : ByteArray) ++ nm k) ++ (⟨#[58, 93]⟩ : ByteArray)) = some (clsL k, 0) ∧ sets_Parse.f (((⟨#[91, 58]⟩ : ByteArray) ++ nm k) ++ (⟨#[58, 93, 45, 91, 58, 100, 105, 103, 105, 116, 58, 93]⟩ : ByteArray)) = some (clsM k, 0) ∧
    (clsM k).length = (clsL k).length + 11 ∧ rd (clsM k) ((clsL k).length : Int) = 45 ∧ (clsL k).length ≤ 256 ∧ (nm k).size ≤ 10 := by
  have key : ∀ x : Fin 12, sets_Parse.f (((⟨#[91, 58]⟩ : ByteArray) ++ nm x.1) ++ (⟨#[58, 93]⟩ : ByteArray)) = some (clsL x.1, 0) ∧ sets_Parse.f (((⟨#[91, 58]⟩ : ByteArray) ++ nm x.1) ++ (⟨#[58, 93, 45, 91, 58, 100, 105, 103, 105, 116, 58, 93]⟩ : ByteArray)) = some (clsM x.1, 0) ∧
      (clsM x.1).length = (clsL x.1).length + 11 ∧ rd (clsM x.1) ((clsL x.1).length : Int) = 45 ∧ (clsL x.1).length ≤ 256 ∧ (nm x.1).size ≤ 10 := by decide +kernel
  exact key ⟨k, hk⟩
/-- Twelve cells that hold bools. -/
def bc12 (f : Nat → Bool) : Array Value := ((List.range 12).map fun j => Value.bool (f j)).toArray
theorem bc12_size (f : Nat → Bool) : (bc12 f).size = 12 := by simp [bc12]
theorem bc12_get (f : Nat → Bool) (j : Nat) (h : j < 12) : (bc12 f)[j]? = some (.bool (f j)) := by simp [bc12, h]
theorem bc12_set (f : Nat → Bool) (i : Nat) (b : Bool) : (bc12 f).setIfInBounds i (.bool b) = bc12 fun j => if j = i then b else f j := by
  apply Array.ext
  · simp [bc12]
  · intro j h1 h2
    simp only [bc12, List.setIfInBounds_toArray, List.getElem_toArray, List.getElem_set, List.getElem_map, List.getElem_range]
    by_cases h : i = j
    · subst h; simp
    · rw [if_neg h, if_neg (fun e => h e.symm)]
def inTo (c : Int) (k j : Nat) : Bool := decide (j < k) && (clsL j).contains c
theorem inTo_zero (c : Int) : inTo c 0 = fun _ => false := by
  funext j
  simp [inTo]
theorem inTo_succ (c : Int) (k : Nat) : (fun j => if j = k then (clsL k).contains c else inTo c k j) = inTo c (k + 1) := by
  funext j
  unfold inTo
  by_cases h : j = k
  · subst h
    rw [if_pos rfl, decide_eq_true (by omega), Bool.true_and]
  · rw [if_neg h]
    by_cases h2 : j < k
    · rw [decide_eq_true h2, decide_eq_true (by omega)]
    · rw [decide_eq_false h2, decide_eq_false (by omega)]
theorem info36 : (Tryd.prog.info? 36).map (fun i => (i.zero, i.size)) = some (some (.agg (bc12 fun _ => false)), 12) := by kernel_rfl
theorem size36 : (Tryd.prog.info? 36).map (·.size) = some 12 := (zero_of_info info36).2
def pats : List (List Bool × Bool × Bool × Bool × Bool) := [
  ([false, false, false, true, false, false, false, false, false, false, false, false], false, true, false, true),
  ([false, false, true, true, false, false, false, false, false, true, false, false], false, true, false, true),
  ([false, false, false, true, false, false, false, false, false, true, false, false], false, true, false, true),
  ([false, false, true, false, false, false, false, true, false, true, false, false], false, true, true, true),
  ([false, false, false, false, false, true, false, true, true, false, false, false], true, true, false, true),
  ([false, true, false, false, true, true, false, true, false, false, false, true], true, true, false, true),
  ([true, true, false, false, false, true, false, true, false, false, true, true], true, true, false, true),
  ([true, true, false, false, false, true, false, true, false, false, true, false], true, true, false, true),
  ([true, true, false, false, false, true, true, true, false, false, false, true], true, true, false, true),
  ([true, true, false, false, false, true, true, true, false, false, false, false], true, true, false, true),
  ([false, false, false, true, false, false, false, false, false, false, false, false], true, false, false, true),
  ([false, false, false, false, false, false, false, false, false, false, false, false], true, false, false, false)]
theorem pat_of (c : Int) (h0 : 0 ≤ c) (h1 : c ≤ 255) : ∃ p ∈ pats, bc12 (inTo c 12) = (p.1.map Value.bool).toArray ∧ decide (32 < c) = p.2.1 ∧ decide (c < 127) = p.2.2.1 ∧ decide (c = 32) = p.2.2.2.1 ∧ decide (c < 128) = p.2.2.2.2 := by
  have key : ∀ x : Fin 256, ((List.range 12).map (inTo (x.1 : Int) 12), decide (32 < (x.1 : Int)), decide ((x.1 : Int) < 127), decide ((x.1 : Int) = 32), decide ((x.1 : Int) < 128)) ∈ pats := by decide +kernel
  have k := key ⟨c.toNat, by omega⟩
  simp only [show ((c.toNat : Nat) : Int) = c by omega] at k
  refine ⟨_, k, ?_, rfl, rfl, rfl, rfl⟩
  unfold bc12
  rw [List.map_map]
  rfl
end Go.Proofs.YtndmngijfleilaaDoor.L
