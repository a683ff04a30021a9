/- SetsClasses: the walk. -/
import Derived.Test.YtndmngijfleilaaDoorTwelve
import Derived.Test.YtndmngijfleilaaDoorSwap
namespace Go.Proofs.YtndmngijfleilaaDoor.L
open Go.RowKit Go.Proofs.YtndmngijfleilaaDoorW.PrintWords Go.Proofs.YtndmngijfleilaaDoorW.PrintLast Go.Proofs.YtndmngijfleilaaDoorW.PrintMore

def nmRow : Array Value := #[.string ⟨#[97, 108, 112, 104, 97]⟩, .string ⟨#[97, 108, 110, 117, 109]⟩, .string ⟨#[98, 108, 97, 110, 107]⟩, .string ⟨#[99, 110, 116, 114, 108]⟩, .string ⟨#[100, 105, 103, 105, 116]⟩, .string ⟨#[103, 114, 97, 112, 104]⟩, .string ⟨#[108, 111, 119, 101, 114]⟩, .string ⟨#[112, 114, 105, 110, 116]⟩, .string ⟨#[112, 117, 110, 99, 116]⟩, .string ⟨#[115, 112, 97, 99, 101]⟩, .string ⟨#[117, 112, 112, 101, 114]⟩, .string ⟨#[120, 100, 105, 103, 105, 116]⟩]
theorem nmRow_get (k : Nat) (hk : k < 12) : nmRow[k]? = some (.string (nm k)) := by
  match k, hk with
  | 0, _ => rfl
  | 1, _ => rfl
  | 2, _ => rfl
  | 3, _ => rfl
  | 4, _ => rfl
  | 5, _ => rfl
  | 6, _ => rfl
  | 7, _ => rfl
  | 8, _ => rfl
  | 9, _ => rfl
  | 10, _ => rfl
  | 11, _ => rfl

theorem cells12 {W : World} {g : Nat} {b0 b1 b2 b3 b4 b5 b6 b7 b8 b9 b10 b11 : Bool} (h : W.heap[g]? = some (.cells #[.bool b0, .bool b1, .bool b2, .bool b3, .bool b4, .bool b5, .bool b6, .bool b7, .bool b8, .bool b9, .bool b10, .bool b11] 36 (0, 0))) :
    W.cell? ⟨g, 0, none⟩ = some (.bool b0) ∧ W.cell? ⟨g, 1, none⟩ = some (.bool b1) ∧ W.cell? ⟨g, 2, none⟩ = some (.bool b2) ∧ W.cell? ⟨g, 3, none⟩ = some (.bool b3) ∧ W.cell? ⟨g, 4, none⟩ = some (.bool b4) ∧ W.cell? ⟨g, 5, none⟩ = some (.bool b5) ∧ W.cell? ⟨g, 6, none⟩ = some (.bool b6) ∧ W.cell? ⟨g, 7, none⟩ = some (.bool b7) ∧ W.cell? ⟨g, 8, none⟩ = some (.bool b8) ∧ W.cell? ⟨g, 9, none⟩ = some (.bool b9) ∧ W.cell? ⟨g, 10, none⟩ = some (.bool b10) ∧ W.cell? ⟨g, 11, none⟩ = some (.bool b11) :=
  ⟨blk_cell h 0, blk_cell h 1, blk_cell h 2, blk_cell h 3, blk_cell h 4, blk_cell h 5, blk_cell h 6, blk_cell h 7, blk_cell h 8, blk_cell h 9, blk_cell h 10, blk_cell h 11⟩

end Go.Proofs.YtndmngijfleilaaDoor.L
