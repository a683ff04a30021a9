/- BlocksTwice: the walk. -/
import Derived.Test.YtomnpmfmlbmpeaaDoorPlainW
namespace Go.Proofs.YtomnpmfmlbmpeaaDoor.L
open Go.RowKit Go.Proofs.YtomnpmfmlbmpeaaDoorW.PrintWords

set_option maxHeartbeats 8000000 in
set_option maxRecDepth 100000 in
theorem twice_walk (s : ByteArray) (a : Int) (ha : 0 ≤ a ∧ a ≤ 65535) (hs : s.size ≤ 140737488351232) (w : World) :
    Calls Tryd.prog 5 #[.string s, .int .u16 a] w fun e w' => e = .returned (.bool true) ∧ Below w.heap.size w w' := by
  have HAL := Lib.hid (fun W => alive_walk W)
  by_cases c1 : (s.size : Int) > 50000
  · go_enter Tryd.func5, Tryd.ntmps5
    go_wp2_with fail
    refine (HAL.out _).mono ?_
    rintro e w1 ⟨rfl, hb1⟩
    have HB1 := Lib.hid hb1
    clear hb1
    go_wp2_with fail
    refine (HAL.out _).mono ?_
    rintro e w2 ⟨rfl, hb2⟩
    have HB2 := Lib.hid (HB1.out.trans (hb2.mono HB1.out.size))
    clear hb2
    go_wp2_with fail
    go_ret
    exact ⟨rfl, HB2.out⟩
  · obtain ⟨r, x1, y1, z1, u1, x2, y2, z2, u2, h1, hr, h2⟩ := swab_out (a + 1) 7 (by omega) s (by omega)
    obtain ⟨c, d, x3, y3, z3, u3, x4, y4, z4, u4, x5, y5, z5, u5, h3, h4, h5, hc, hd⟩ := low_out (a + 1) 7 (by omega) s (by omega)
    have hz : (⟨#[]⟩ : ByteArray).size ≤ 1048576 := by decide
    have R1 := Lib.hid (run_known (plP (a + 1) 7 false true false false) s ⟨#[]⟩ r x1 y1 z1 u1 (plP_ok _ _ _ _ _ _ (by omega) (by omega) rfl) (by omega) hz h1)
    have R2 := Lib.hid (run_known (plP (a + 1) 7 false true false false) r ⟨#[]⟩ s x2 y2 z2 u2 (plP_ok _ _ _ _ _ _ (by omega) (by omega) rfl) (by omega) hz h2)
    have R3 := Lib.hid (run_known (plP (a + 1) 7 false false true false) s ⟨#[]⟩ c x3 y3 z3 u3 (plP_ok _ _ _ _ _ _ (by omega) (by omega) rfl) (by omega) hz h3)
    have R4 := Lib.hid (run_known (plP (a + 1) 7 false false false true) c ⟨#[]⟩ d x4 y4 z4 u4 (plP_ok _ _ _ _ _ _ (by omega) (by omega) rfl) (by omega) hz h4)
    have R5 := Lib.hid (run_known (plP (a + 1) 7 false false false true) s ⟨#[]⟩ d x5 y5 z5 u5 (plP_ok _ _ _ _ _ _ (by omega) (by omega) rfl) (by omega) hz h5)
    have hre : ((r.size : Int) == (s.size : Int)) = true := beq_iff_eq.2 (by omega)
    have hde : ((d.size : Int) == (s.size : Int)) = true := beq_iff_eq.2 (by omega)
    have HRE := Lib.hid hr
    have HDE := Lib.hid hd
    obtain ⟨ha1, ha2⟩ := ha
    clear h1 h2 h3 h4 h5 hz hr hc hd
    go_enter Tryd.func5, Tryd.ntmps5
    go_wp2_with fail
    refine (HAL.out _).mono ?_
    rintro e w1 ⟨rfl, hb1⟩
    have HB1 := Lib.hid hb1
    have HB := Lib.hid hb1.size
    clear hb1
    go_wp2_with fail
    refine (R1.out _).mono ?_
    rintro e w2 ⟨rfl, hb⟩
    have hp := (hb.block w1.heap.size (by simp)).trans (heap_alloc_new w1 _)
    have d0 : w2.cell? ⟨w1.heap.size, 0, none⟩ = some (.int .i64 (a + 1)) := blk_cell hp 0
    have d1 : w2.cell? ⟨w1.heap.size, 1, none⟩ = some (.int .i64 7) := blk_cell hp 1
    have d2 : w2.cell? ⟨w1.heap.size, 2, none⟩ = some (.int .i64 0) := blk_cell hp 2
    have d3 : w2.cell? ⟨w1.heap.size, 3, none⟩ = some (.int .i64 (-1)) := blk_cell hp 3
    have d4 : w2.cell? ⟨w1.heap.size, 4, none⟩ = some (.int .i64 0) := blk_cell hp 4
    have d5 : w2.cell? ⟨w1.heap.size, 5, none⟩ = some (.bool false) := blk_cell hp 5
    have d6 : w2.cell? ⟨w1.heap.size, 6, none⟩ = some (.bool true) := blk_cell hp 6
    have d7 : w2.cell? ⟨w1.heap.size, 7, none⟩ = some (.bool false) := blk_cell hp 7
    have d8 : w2.cell? ⟨w1.heap.size, 8, none⟩ = some (.bool false) := blk_cell hp 8
    have d9 : w2.cell? ⟨w1.heap.size, 9, none⟩ = some (.bool false) := blk_cell hp 9
    have f6 : w2.frozen? ⟨w1.heap.size, 6, none⟩ = false := blk_frozen hp 6
    have f7 : w2.frozen? ⟨w1.heap.size, 7, none⟩ = false := blk_frozen hp 7
    have f8 : w2.frozen? ⟨w1.heap.size, 8, none⟩ = false := blk_frozen hp 8
    have hl2 : w1.heap.size < w2.heap.size := blk_lt hp
    have HP2 := Lib.hid hp
    have HB2 := Lib.hid ((below_alloc HB1.out _).trans (hb.mono (below_alloc HB1.out _).size))
    clear hb hp
    go_wp2_with fail
    refine (R2.out _).mono ?_
    rintro e w3 ⟨rfl, hb⟩
    clear d0 d1 d2 d3 d4 d5 d6 d7 d8 d9 f6 f7 f8
    have hp := (hb.block w1.heap.size (by simp; omega)).trans ((heap_alloc_old w2 _ _ hl2).trans HP2.out)
    have d0 : w3.cell? ⟨w1.heap.size, 0, none⟩ = some (.int .i64 (a + 1)) := blk_cell hp 0
    have d1 : w3.cell? ⟨w1.heap.size, 1, none⟩ = some (.int .i64 7) := blk_cell hp 1
    have d2 : w3.cell? ⟨w1.heap.size, 2, none⟩ = some (.int .i64 0) := blk_cell hp 2
    have d3 : w3.cell? ⟨w1.heap.size, 3, none⟩ = some (.int .i64 (-1)) := blk_cell hp 3
    have d4 : w3.cell? ⟨w1.heap.size, 4, none⟩ = some (.int .i64 0) := blk_cell hp 4
    have d5 : w3.cell? ⟨w1.heap.size, 5, none⟩ = some (.bool false) := blk_cell hp 5
    have d6 : w3.cell? ⟨w1.heap.size, 6, none⟩ = some (.bool true) := blk_cell hp 6
    have d7 : w3.cell? ⟨w1.heap.size, 7, none⟩ = some (.bool false) := blk_cell hp 7
    have d8 : w3.cell? ⟨w1.heap.size, 8, none⟩ = some (.bool false) := blk_cell hp 8
    have d9 : w3.cell? ⟨w1.heap.size, 9, none⟩ = some (.bool false) := blk_cell hp 9
    have f6 : w3.frozen? ⟨w1.heap.size, 6, none⟩ = false := blk_frozen hp 6
    have f7 : w3.frozen? ⟨w1.heap.size, 7, none⟩ = false := blk_frozen hp 7
    have f8 : w3.frozen? ⟨w1.heap.size, 8, none⟩ = false := blk_frozen hp 8
    have hl3 : w1.heap.size < w3.heap.size := blk_lt hp
    have HP3 := Lib.hid (blk_set (blk_set hp 6 (.bool false)) 7 (.bool true))
    have HB3 := Lib.hid (((below_alloc HB2.out _).trans (hb.mono (below_alloc HB2.out _).size)).setCell (p := ⟨w1.heap.size, 6, none⟩) HB.out (.bool false) |>.setCell (p := ⟨w1.heap.size, 7, none⟩) HB.out (.bool true))
    clear hb hp
    go_wp2_with fail
    refine (R3.out _).mono ?_
    rintro e w4 ⟨rfl, hb⟩
    clear d0 d1 d2 d3 d4 d5 d6 d7 d8 d9 f6 f7 f8
    have hp := (hb.block w1.heap.size (by simp [World.setCell]; omega)).trans ((heap_alloc_old _ _ _ (by simp [World.setCell]; omega)).trans HP3.out)
    have d0 : w4.cell? ⟨w1.heap.size, 0, none⟩ = some (.int .i64 (a + 1)) := blk_cell hp 0
    have d1 : w4.cell? ⟨w1.heap.size, 1, none⟩ = some (.int .i64 7) := blk_cell hp 1
    have d2 : w4.cell? ⟨w1.heap.size, 2, none⟩ = some (.int .i64 0) := blk_cell hp 2
    have d3 : w4.cell? ⟨w1.heap.size, 3, none⟩ = some (.int .i64 (-1)) := blk_cell hp 3
    have d4 : w4.cell? ⟨w1.heap.size, 4, none⟩ = some (.int .i64 0) := blk_cell hp 4
    have d5 : w4.cell? ⟨w1.heap.size, 5, none⟩ = some (.bool false) := blk_cell hp 5
    have d6 : w4.cell? ⟨w1.heap.size, 6, none⟩ = some (.bool false) := blk_cell hp 6
    have d7 : w4.cell? ⟨w1.heap.size, 7, none⟩ = some (.bool true) := blk_cell hp 7
    have d8 : w4.cell? ⟨w1.heap.size, 8, none⟩ = some (.bool false) := blk_cell hp 8
    have d9 : w4.cell? ⟨w1.heap.size, 9, none⟩ = some (.bool false) := blk_cell hp 9
    have f6 : w4.frozen? ⟨w1.heap.size, 6, none⟩ = false := blk_frozen hp 6
    have f7 : w4.frozen? ⟨w1.heap.size, 7, none⟩ = false := blk_frozen hp 7
    have f8 : w4.frozen? ⟨w1.heap.size, 8, none⟩ = false := blk_frozen hp 8
    have hl4 : w1.heap.size < w4.heap.size := blk_lt hp
    have HP4 := Lib.hid (blk_set (blk_set hp 7 (.bool false)) 8 (.bool true))
    have HB4 := Lib.hid (((below_alloc HB3.out _).trans (hb.mono (below_alloc HB3.out _).size)).setCell (p := ⟨w1.heap.size, 7, none⟩) HB.out (.bool false) |>.setCell (p := ⟨w1.heap.size, 8, none⟩) HB.out (.bool true))
    clear hb hp
    go_wp2_with fail
    refine (R4.out _).mono ?_
    rintro e w5 ⟨rfl, hb⟩
    clear d0 d1 d2 d3 d4 d5 d6 d7 d8 d9 f6 f7 f8
    have hp := (hb.block w1.heap.size (by simp [World.setCell]; omega)).trans ((heap_alloc_old _ _ _ (by simp [World.setCell]; omega)).trans HP4.out)
    have d0 : w5.cell? ⟨w1.heap.size, 0, none⟩ = some (.int .i64 (a + 1)) := blk_cell hp 0
    have d1 : w5.cell? ⟨w1.heap.size, 1, none⟩ = some (.int .i64 7) := blk_cell hp 1
    have d2 : w5.cell? ⟨w1.heap.size, 2, none⟩ = some (.int .i64 0) := blk_cell hp 2
    have d3 : w5.cell? ⟨w1.heap.size, 3, none⟩ = some (.int .i64 (-1)) := blk_cell hp 3
    have d4 : w5.cell? ⟨w1.heap.size, 4, none⟩ = some (.int .i64 0) := blk_cell hp 4
    have d5 : w5.cell? ⟨w1.heap.size, 5, none⟩ = some (.bool false) := blk_cell hp 5
    have d6 : w5.cell? ⟨w1.heap.size, 6, none⟩ = some (.bool false) := blk_cell hp 6
    have d7 : w5.cell? ⟨w1.heap.size, 7, none⟩ = some (.bool false) := blk_cell hp 7
    have d8 : w5.cell? ⟨w1.heap.size, 8, none⟩ = some (.bool true) := blk_cell hp 8
    have d9 : w5.cell? ⟨w1.heap.size, 9, none⟩ = some (.bool false) := blk_cell hp 9
    have f6 : w5.frozen? ⟨w1.heap.size, 6, none⟩ = false := blk_frozen hp 6
    have f7 : w5.frozen? ⟨w1.heap.size, 7, none⟩ = false := blk_frozen hp 7
    have f8 : w5.frozen? ⟨w1.heap.size, 8, none⟩ = false := blk_frozen hp 8
    have hl5 : w1.heap.size < w5.heap.size := blk_lt hp
    have HB5 := Lib.hid ((below_alloc HB4.out _).trans (hb.mono (below_alloc HB4.out _).size))
    clear hb hp
    go_wp2_with fail
    refine (R5.out _).mono ?_
    rintro e w6 ⟨rfl, hb⟩
    clear d0 d1 d2 d3 d4 d5 d6 d7 d8 d9 f6 f7 f8
    have HB6 := Lib.hid ((below_alloc HB5.out _).trans (hb.mono (below_alloc HB5.out _).size))
    clear hb
    have hr := HRE.out
    have hd := HDE.out
    go_wp2_with fail
    go_ret
    exact ⟨rfl, below_alloc HB6.out _⟩

def toolchestlaw11_BlocksTwice.f (s : ByteArray) (a : Int) : Option Bool := if (0 ≤ a ∧ a ≤ 65535) ∧ s.size ≤ 140737488351232 then some true else none
theorem toolchestlaw11_BlocksTwice.calls (s : ByteArray) (a : Int) (r : Bool) (w : World) (h : toolchestlaw11_BlocksTwice.f s a = some r) :
    Calls Tryd.prog 5 #[.string s, .int .u16 a] w fun e w' => e = .returned (.bool r) ∧ Below w.heap.size w w' := by
  unfold toolchestlaw11_BlocksTwice.f at h
  by_cases hc : (0 ≤ a ∧ a ≤ 65535) ∧ s.size ≤ 140737488351232
  · rw [if_pos hc] at h
    obtain rfl : true = r := Option.some.inj h
    exact twice_walk s a hc.1 hc.2 w
  · rw [if_neg hc] at h; cases h
theorem blocksTwice_pure (s : ByteArray) (a : Int) (h1 : s.size ≤ 140737488351232) (h2 : 0 ≤ a ∧ a ≤ 65535) : toolchestlaw11_BlocksTwice.f s a = some true := if_pos ⟨h2, h1⟩
end Go.Proofs.YtomnpmfmlbmpeaaDoor.L
