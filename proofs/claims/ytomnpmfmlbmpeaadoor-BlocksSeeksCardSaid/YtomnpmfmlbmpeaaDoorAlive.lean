/- alive: the walk. -/
import Derived.Test.YtomnpmfmlbmpeaaDoorRunB
import Derived.Test.YtomnpmfmlbmpeaaDoorSize
namespace Go.Proofs.YtomnpmfmlbmpeaaDoor.L
open Go.RowKit Go.Proofs.YtomnpmfmlbmpeaaDoorW.PrintWords

theorem al1 : runOut ⟨2, 2, 0, 1, 1, true, false, false, false, false⟩ ⟨#[97, 98, 99, 100]⟩ ⟨#[49, 50, 51, 52, 53]⟩ = (⟨#[49, 50, 97, 98, 53]⟩, 1, 0, 1, 0, 0) := by decide +kernel
theorem al2 : runOut ⟨4, 4, 0, -1, 0, false, false, true, false, true⟩ ⟨#[97, 98, 99, 100, 101]⟩ ⟨#[]⟩ = (⟨#[65, 66, 67, 68, 69, 0, 0, 0]⟩, 1, 1, 2, 0, 0) := by decide +kernel
theorem al3 : runOut ⟨4, 4, 0, -1, 0, false, true, false, false, false⟩ ⟨#[97, 98, 99, 100, 101]⟩ ⟨#[120]⟩ = (⟨#[98, 97, 100, 99, 101]⟩, 1, 1, 1, 1, 0) := by decide +kernel

theorem al1_calls (w : World) : Calls Tryd.prog 10 #[.agg #[.int .i64 2, .int .i64 2, .int .i64 0, .int .i64 1, .int .i64 1, .bool true, .bool false, .bool false, .bool false, .bool false], .string ⟨#[97, 98, 99, 100]⟩, .string ⟨#[49, 50, 51, 52, 53]⟩] w fun e w' => e = .returned (.tuple #[.string ⟨#[49, 50, 97, 98, 53]⟩, .agg #[.int .i64 1, .int .i64 0, .int .i64 1, .int .i64 0], .int .i64 0]) ∧ Below w.heap.size w w' :=
  (run_calls ⟨2, 2, 0, 1, 1, true, false, false, false, false⟩ _ _ w (by decide) (by decide) (by decide)).mono fun e w' h => by rw [al1] at h; exact h
theorem al2_calls (w : World) : Calls Tryd.prog 10 #[.agg #[.int .i64 4, .int .i64 4, .int .i64 0, .int .i64 (-1), .int .i64 0, .bool false, .bool false, .bool true, .bool false, .bool true], .string ⟨#[97, 98, 99, 100, 101]⟩, .string ⟨#[]⟩] w fun e w' => e = .returned (.tuple #[.string ⟨#[65, 66, 67, 68, 69, 0, 0, 0]⟩, .agg #[.int .i64 1, .int .i64 1, .int .i64 2, .int .i64 0], .int .i64 0]) ∧ Below w.heap.size w w' :=
  (run_calls ⟨4, 4, 0, -1, 0, false, false, true, false, true⟩ _ _ w (by decide) (by decide) (by decide)).mono fun e w' h => by rw [al2] at h; exact h
theorem al3_calls (w : World) : Calls Tryd.prog 10 #[.agg #[.int .i64 4, .int .i64 4, .int .i64 0, .int .i64 (-1), .int .i64 0, .bool false, .bool true, .bool false, .bool false, .bool false], .string ⟨#[97, 98, 99, 100, 101]⟩, .string ⟨#[120]⟩] w fun e w' => e = .returned (.tuple #[.string ⟨#[98, 97, 100, 99, 101]⟩, .agg #[.int .i64 1, .int .i64 1, .int .i64 1, .int .i64 1], .int .i64 0]) ∧ Below w.heap.size w w' :=
  (run_calls ⟨4, 4, 0, -1, 0, false, true, false, false, false⟩ _ _ w (by decide) (by decide) (by decide)).mono fun e w' h => by rw [al3] at h; exact h
theorem al4_calls (w : World) : Calls Tryd.prog 10 #[.agg #[.int .i64 0, .int .i64 1, .int .i64 0, .int .i64 0, .int .i64 0, .bool false, .bool false, .bool false, .bool false, .bool false], .string ⟨#[]⟩, .string ⟨#[]⟩] w fun e w' => e = .returned (.tuple #[.string ⟨#[]⟩, .agg #[.int .i64 0, .int .i64 0, .int .i64 0, .int .i64 0], .int .i64 1]) ∧ Below w.heap.size w w' :=
  run_bad ⟨0, 1, 0, 0, 0, false, false, false, false, false⟩ _ _ w (by decide)
theorem al5_calls (w : World) : Calls Tryd.prog 13 #[.string ⟨#[50, 107]⟩] w fun e w' => e = .returned (.tuple #[.int .i64 2048, .bool true]) ∧ Below w.heap.size w w' :=
  size_calls [50] [107] 1024 (by simp) (by intro c hc; simp at hc; subst hc; unfold isDig; decide) (by simp) (.inl ⟨rfl, rfl⟩) w

set_option maxHeartbeats 4000000 in
set_option maxRecDepth 100000 in
theorem alive_walk (w : World) : Calls Tryd.prog 9 #[] w fun e w' => e = .returned (.bool true) ∧ Below w.heap.size w w' := by
  go_enter Tryd.func9, Tryd.ntmps9
  go_wp2_with (go_at_call 10; (with_reducible refine (al1_calls _).mono ?_); rintro e w1 ⟨rfl, hb1⟩; have HB1 := Lib.hid hb1; clear hb1)
  refine (al2_calls _).mono ?_
  rintro e w2 ⟨rfl, hb2⟩
  have HA2 := Lib.hid ((hb2.block w1.heap.size (by simp)).trans (heap_alloc_new w1 _))
  have HL2 : Hid (w1.heap.size < w2.heap.size) := Lib.hid (by have := hb2.size; simp at this; omega)
  have HB2 := Lib.hid ((below_alloc HB1.out _).trans (hb2.mono (by have := HB1.out.size; first | omega | (simp; omega))))
  clear hb2
  go_wp2_with fail
  refine (al3_calls _).mono ?_
  rintro e w3 ⟨rfl, hb3⟩
  have HA3 := Lib.hid ((hb3.block w1.heap.size (by have := HL2.out; first | omega | (simp; omega))).trans ((heap_alloc_old w2 _ _ HL2.out).trans HA2.out))
  have HC3 := Lib.hid ((hb3.block w2.heap.size (by simp)).trans (heap_alloc_new w2 _))
  have HL3 : Hid (w1.heap.size < w3.heap.size ∧ w2.heap.size < w3.heap.size) := Lib.hid (by have q := HL2.out; have := hb3.size; simp at this; omega)
  have HB3 := Lib.hid ((below_alloc HB2.out _).trans (hb3.mono (by have := HB2.out.size; first | omega | (simp; omega))))
  clear hb3 HA2 HB2 HB1
  go_wp2_with fail
  refine (al4_calls _).mono ?_
  rintro e w4 ⟨rfl, hb4⟩
  have HA4 := Lib.hid ((hb4.block w1.heap.size (by have := HL3.out; first | omega | (simp; omega))).trans ((heap_alloc_old w3 _ _ HL3.out.1).trans HA3.out))
  have HC4 := Lib.hid ((hb4.block w2.heap.size (by have := HL3.out; first | omega | (simp; omega))).trans ((heap_alloc_old w3 _ _ HL3.out.2).trans HC3.out))
  have HL4 : Hid (w1.heap.size < w4.heap.size ∧ w2.heap.size < w4.heap.size) := Lib.hid (by have q := HL3.out; have := hb4.size; simp at this; omega)
  have HB4 := Lib.hid ((below_alloc HB3.out _).trans (hb4.mono (by have := HB3.out.size; first | omega | (simp; omega))))
  clear hb4 HA3 HB3 HC3
  go_wp2_with fail
  refine (al5_calls _).mono ?_
  rintro e w5 ⟨rfl, hb5⟩
  have hA5 := (hb5.block w1.heap.size (by have := HL4.out; first | omega | (simp; omega))).trans ((heap_alloc_old w4 _ _ HL4.out.1).trans HA4.out)
  have hC5 := (hb5.block w2.heap.size (by have := HL4.out; first | omega | (simp; omega))).trans ((heap_alloc_old w4 _ _ HL4.out.2).trans HC4.out)
  have HB5 := Lib.hid ((below_alloc HB4.out _).trans (hb5.mono (by have := HB4.out.size; first | omega | (simp; omega))))
  have a0 : w5.cell? ⟨w1.heap.size, 0, none⟩ = some (.int .i64 1) := blk_cell hA5 0
  have a1 : w5.cell? ⟨w1.heap.size, 1, none⟩ = some (.int .i64 0) := blk_cell hA5 1
  have a2 : w5.cell? ⟨w1.heap.size, 2, none⟩ = some (.int .i64 1) := blk_cell hA5 2
  have a3 : w5.cell? ⟨w1.heap.size, 3, none⟩ = some (.int .i64 0) := blk_cell hA5 3
  have b0 : w5.cell? ⟨w2.heap.size, 0, none⟩ = some (.int .i64 1) := blk_cell hC5 0
  have b1 : w5.cell? ⟨w2.heap.size, 1, none⟩ = some (.int .i64 1) := blk_cell hC5 1
  have b2 : w5.cell? ⟨w2.heap.size, 2, none⟩ = some (.int .i64 2) := blk_cell hC5 2
  have b3 : w5.cell? ⟨w2.heap.size, 3, none⟩ = some (.int .i64 0) := blk_cell hC5 3
  clear hb5 hA5 hC5 HA4 HC4 HB4
  have he1 : ∀ W, (binOp .eql 27 (.agg #[.int .i64 1, .int .i64 0, .int .i64 1, .int .i64 0]) (.agg #[.int .i64 1, .int .i64 0, .int .i64 1, .int .i64 0])).run Tryd.prog W = .ok (.bool true) W := fun W => by kernel_rfl
  have he2 : ∀ W, (binOp .eql 27 (.agg #[.int .i64 1, .int .i64 1, .int .i64 2, .int .i64 0]) (.agg #[.int .i64 1, .int .i64 1, .int .i64 2, .int .i64 0])).run Tryd.prog W = .ok (.bool true) W := fun W => by kernel_rfl
  go_wp2_with fail
  go_ret
  exact ⟨rfl, HB5.out⟩

def toolchestlaw11_alive.f : Option Bool := some true
theorem toolchestlaw11_alive.calls (r : Bool) (w : World) (h : toolchestlaw11_alive.f = some r) : Calls Tryd.prog 9 #[] w fun e w' => e = .returned (.bool r) ∧ Below w.heap.size w w' := by
  obtain rfl : true = r := Option.some.inj h
  exact alive_walk w
end Go.Proofs.YtomnpmfmlbmpeaaDoor.L
