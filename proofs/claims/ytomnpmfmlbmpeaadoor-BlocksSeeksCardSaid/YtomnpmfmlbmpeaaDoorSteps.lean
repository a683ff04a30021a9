/- blocks.steps: the walk. -/
import Derived.Test.YtomnpmfmlbmpeaaDoorFill
namespace Go.Proofs.YtomnpmfmlbmpeaaDoor.L
open Go.RowKit Go.Proofs.YtomnpmfmlbmpeaaDoorW.PrintWords

def stepRow : Array Value := #[.func (.func 25) #[] #[], .func (.func 26) #[] #[], .func (.func 27) #[] #[], .func (.func 28) #[] #[]]
theorem info46 : (Tryd.prog.info? 46).map (fun i => (i.zero, i.size)) = some (some (.agg #[.nilFunc, .nilFunc, .nilFunc, .nilFunc]), 4) := by kernel_rfl
theorem size46 : (Tryd.prog.info? 46).map (·.size) = some 4 := (zero_of_info info46).2

set_option maxHeartbeats 4000000 in
set_option maxRecDepth 100000 in
theorem steps_walk (w : World) : Calls Tryd.prog 15 #[] w fun e w' => e = .returned (.agg stepRow) ∧ Below w.heap.size w w' := by
  have hz := (zero_of_info info46).1
  have h1 : stepRow.all (·.oneCell') = true := by first | kernel_rfl | (simp [stepRow, Value.oneCell']; done) | (unfold stepRow; decide)
  have h2 : (Tryd.prog.info? 46).map (·.size) = some stepRow.size := size46
  have H1 := Lib.hid h1
  have H2 := Lib.hid h2
  clear h1 h2
  go_enter Tryd.func15, Tryd.ntmps15
  go_upto_region 1 with (fail)
  go_wp2_with (first
    | (refine wpList_store_row rfl 46 _ _ rfl _ stepRow rfl rfl 46 _ (heap_alloc_new _ _) H2.out rfl H1.out ?_; rw [World.setRow_alloc_new]))
  exact bodyPost_ret (v := .agg stepRow) (results_cell_row Tryd.results15 _ _ w.heap.size 46 _ (0, 0) _ rfl (heap_alloc_new _ _) Tryd.underlying46 rfl H2.out) rfl ⟨rfl, below_alloc (Below.refl _ w) _⟩
end Go.Proofs.YtomnpmfmlbmpeaaDoor.L
