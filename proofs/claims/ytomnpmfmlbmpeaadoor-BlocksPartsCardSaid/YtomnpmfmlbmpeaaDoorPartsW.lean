/- BlocksParts: the walk. -/
import Derived.Test.YtomnpmfmlbmpeaaDoorPlainW
import Derived.Test.YtomnpmfmlbmpeaaDoorPartsP
namespace Go.Proofs.YtomnpmfmlbmpeaaDoor.L
open Go.RowKit Go.Proofs.YtomnpmfmlbmpeaaDoorW.PrintWords

set_option maxHeartbeats 8000000 in
set_option maxRecDepth 100000 in
theorem parts_walk (p : Pl) (s : ByteArray) (a : Int) (ha : 0 ≤ a ∧ a ≤ 65535) (hs : s.size ≤ 140737488351232) (w : World) :
    Calls Tryd.prog 4 #[.agg p.cells, .string s, .int .u16 a] w fun e w' => e = .returned (.bool true) ∧ Below w.heap.size w w' := by
  have HAL := Lib.hid (fun W => alive_walk W)
  have hchk := fun W => check_walk p W
  obtain ⟨PL, hPL⟩ : ∃ PL, PL = p := ⟨_, rfl⟩
  obtain ⟨i, ou, sk, ct, se, kp, sw, up, lo, sy⟩ := p
  simp only [Pl.cells] at hchk ⊢
  rw [← hPL] at hchk
  obtain ⟨K, hK⟩ : ∃ K, PL.ok = K := ⟨_, rfl⟩
  rw [hK] at hchk
  have HCK := Lib.hid hchk
  have HOK := Lib.hid hK
  clear hchk hK
  cases K with
  | false =>
    go_enter Tryd.func4, Tryd.ntmps4
    go_wp2_with fail
    refine (HAL.out _).mono ?_
    rintro e w1 ⟨rfl, hb⟩
    have hp := (hb.block w.heap.size (by simp)).trans (heap_alloc_new w _)
    have d0 : w1.cell? ⟨w.heap.size, 0, none⟩ = some (.int .i64 i) := blk_cell hp 0
    have d1 : w1.cell? ⟨w.heap.size, 1, none⟩ = some (.int .i64 ou) := blk_cell hp 1
    have d2 : w1.cell? ⟨w.heap.size, 2, none⟩ = some (.int .i64 sk) := blk_cell hp 2
    have d3 : w1.cell? ⟨w.heap.size, 3, none⟩ = some (.int .i64 ct) := blk_cell hp 3
    have d4 : w1.cell? ⟨w.heap.size, 4, none⟩ = some (.int .i64 se) := blk_cell hp 4
    have d5 : w1.cell? ⟨w.heap.size, 5, none⟩ = some (.bool kp) := blk_cell hp 5
    have d6 : w1.cell? ⟨w.heap.size, 6, none⟩ = some (.bool sw) := blk_cell hp 6
    have d7 : w1.cell? ⟨w.heap.size, 7, none⟩ = some (.bool up) := blk_cell hp 7
    have d8 : w1.cell? ⟨w.heap.size, 8, none⟩ = some (.bool lo) := blk_cell hp 8
    have d9 : w1.cell? ⟨w.heap.size, 9, none⟩ = some (.bool sy) := blk_cell hp 9
    have HP1 := Lib.hid hp
    have HB1 := Lib.hid ((below_alloc (Below.refl _ w) _).trans (hb.mono (by simp)))
    clear hb hp
    go_wp2_with fail
    refine (HCK.out _).mono ?_
    rintro e w2 ⟨rfl, hb⟩
    have HB2 := Lib.hid (HB1.out.trans (hb.mono HB1.out.size))
    clear hb d0 d1 d2 d3 d4 d5 d6 d7 d8 d9
    go_wp2_with fail
    refine (HAL.out _).mono ?_
    rintro e w3 ⟨rfl, hb⟩
    have HB3 := Lib.hid (HB2.out.trans (hb.mono HB2.out.size))
    clear hb
    go_wp2_with fail
    go_ret
    exact ⟨rfl, HB3.out⟩
  | true =>
    by_cases c1 : (s.size : Int) > 50000
    · go_enter Tryd.func4, Tryd.ntmps4
      go_wp2_with fail
      refine (HAL.out _).mono ?_
      rintro e w1 ⟨rfl, hb⟩
      have hp := (hb.block w.heap.size (by simp)).trans (heap_alloc_new w _)
      have d0 : w1.cell? ⟨w.heap.size, 0, none⟩ = some (.int .i64 i) := blk_cell hp 0
      have d1 : w1.cell? ⟨w.heap.size, 1, none⟩ = some (.int .i64 ou) := blk_cell hp 1
      have d2 : w1.cell? ⟨w.heap.size, 2, none⟩ = some (.int .i64 sk) := blk_cell hp 2
      have d3 : w1.cell? ⟨w.heap.size, 3, none⟩ = some (.int .i64 ct) := blk_cell hp 3
      have d4 : w1.cell? ⟨w.heap.size, 4, none⟩ = some (.int .i64 se) := blk_cell hp 4
      have d5 : w1.cell? ⟨w.heap.size, 5, none⟩ = some (.bool kp) := blk_cell hp 5
      have d6 : w1.cell? ⟨w.heap.size, 6, none⟩ = some (.bool sw) := blk_cell hp 6
      have d7 : w1.cell? ⟨w.heap.size, 7, none⟩ = some (.bool up) := blk_cell hp 7
      have d8 : w1.cell? ⟨w.heap.size, 8, none⟩ = some (.bool lo) := blk_cell hp 8
      have d9 : w1.cell? ⟨w.heap.size, 9, none⟩ = some (.bool sy) := blk_cell hp 9
      have HP1 := Lib.hid hp
      have HB1 := Lib.hid ((below_alloc (Below.refl _ w) _).trans (hb.mono (by simp)))
      clear hb hp
      go_wp2_with fail
      refine (HCK.out _).mono ?_
      rintro e w2 ⟨rfl, hb⟩
      have HB2 := Lib.hid (HB1.out.trans (hb.mono HB1.out.size))
      clear hb d0 d1 d2 d3 d4 d5 d6 d7 d8 d9
      go_wp2_with fail
      refine (HAL.out _).mono ?_
      rintro e w3 ⟨rfl, hb⟩
      have HB3 := Lib.hid (HB2.out.trans (hb.mono HB2.out.size))
      clear hb
      go_wp2_with fail
      go_ret
      exact ⟨rfl, HB3.out⟩
    · obtain ⟨ta, tb, k1, k2, q1, q2, z, u, z1, u1, z2, u2, h1, h2, h3, hk, hq, hta, htb⟩ := parts_out PL HOK.out a.toNat (by omega) s (by omega)
      have e : ((a.toNat : Nat) : Int) = a := by omega
      rw [e] at h2 h3
      have hz : (⟨#[]⟩ : ByteArray).size ≤ 1048576 := by decide
      have R1 := run_known (PL.with 0 (-1) 0) s ⟨#[]⟩ _ _ _ _ _ (with_ok HOK.out _ _ _ (by omega) (by omega)) (by omega) hz h1
      have R2 := run_known (PL.with 0 a 0) s ⟨#[]⟩ _ _ _ _ _ (with_ok HOK.out _ _ _ (by omega) (by omega)) (by omega) hz h2
      have R3 := run_known (PL.with a (-1) 0) s ⟨#[]⟩ _ _ _ _ _ (with_ok HOK.out _ _ _ (by omega) (by omega)) (by omega) hz h3
      rw [hPL] at R1 R2 R3
      simp only [Pl.with, Pl.cells] at R1 R2 R3
      replace R1 := Lib.hid R1
      replace R2 := Lib.hid R2
      replace R3 := Lib.hid R3
      obtain ⟨ha1, ha2⟩ := ha
      have hk1 : (k1 : Int) ≤ 50000 := by omega
      have hk2 : (k2 : Int) ≤ 50000 := by omega
      have hq1 : (q1 : Int) ≤ 50000 := by omega
      have hq2 : (q2 : Int) ≤ 50000 := by omega
      clear h1 h2 h3 hz e hk hq
      go_enter Tryd.func4, Tryd.ntmps4
      go_wp2_with fail
      refine (HAL.out _).mono ?_
      rintro e w1 ⟨rfl, hb⟩
      have hp := (hb.block w.heap.size (by simp)).trans (heap_alloc_new w _)
      have d0 : w1.cell? ⟨w.heap.size, 0, none⟩ = some (.int .i64 i) := blk_cell hp 0
      have d1 : w1.cell? ⟨w.heap.size, 1, none⟩ = some (.int .i64 ou) := blk_cell hp 1
      have d2 : w1.cell? ⟨w.heap.size, 2, none⟩ = some (.int .i64 sk) := blk_cell hp 2
      have d3 : w1.cell? ⟨w.heap.size, 3, none⟩ = some (.int .i64 ct) := blk_cell hp 3
      have d4 : w1.cell? ⟨w.heap.size, 4, none⟩ = some (.int .i64 se) := blk_cell hp 4
      have d5 : w1.cell? ⟨w.heap.size, 5, none⟩ = some (.bool kp) := blk_cell hp 5
      have d6 : w1.cell? ⟨w.heap.size, 6, none⟩ = some (.bool sw) := blk_cell hp 6
      have d7 : w1.cell? ⟨w.heap.size, 7, none⟩ = some (.bool up) := blk_cell hp 7
      have d8 : w1.cell? ⟨w.heap.size, 8, none⟩ = some (.bool lo) := blk_cell hp 8
      have d9 : w1.cell? ⟨w.heap.size, 9, none⟩ = some (.bool sy) := blk_cell hp 9
      have HP1 := Lib.hid hp
      have HB1 := Lib.hid ((below_alloc (Below.refl _ w) _).trans (hb.mono (by simp)))
      clear hb hp
      go_wp2_with fail
      refine (HCK.out _).mono ?_
      rintro e w2 ⟨rfl, hb⟩
      clear d0 d1 d2 d3 d4 d5 d6 d7 d8 d9
      have hp := blk_below HP1.out hb
      have d0 : w2.cell? ⟨w.heap.size, 0, none⟩ = some (.int .i64 i) := blk_cell hp 0
      have d1 : w2.cell? ⟨w.heap.size, 1, none⟩ = some (.int .i64 ou) := blk_cell hp 1
      have d2 : w2.cell? ⟨w.heap.size, 2, none⟩ = some (.int .i64 sk) := blk_cell hp 2
      have d3 : w2.cell? ⟨w.heap.size, 3, none⟩ = some (.int .i64 ct) := blk_cell hp 3
      have d4 : w2.cell? ⟨w.heap.size, 4, none⟩ = some (.int .i64 se) := blk_cell hp 4
      have d5 : w2.cell? ⟨w.heap.size, 5, none⟩ = some (.bool kp) := blk_cell hp 5
      have d6 : w2.cell? ⟨w.heap.size, 6, none⟩ = some (.bool sw) := blk_cell hp 6
      have d7 : w2.cell? ⟨w.heap.size, 7, none⟩ = some (.bool up) := blk_cell hp 7
      have d8 : w2.cell? ⟨w.heap.size, 8, none⟩ = some (.bool lo) := blk_cell hp 8
      have d9 : w2.cell? ⟨w.heap.size, 9, none⟩ = some (.bool sy) := blk_cell hp 9
      have f2 : w2.frozen? ⟨w.heap.size, 2, none⟩ = false := blk_frozen hp 2
      have f3 : w2.frozen? ⟨w.heap.size, 3, none⟩ = false := blk_frozen hp 3
      have f4 : w2.frozen? ⟨w.heap.size, 4, none⟩ = false := blk_frozen hp 4
      have HP2 := Lib.hid (blk_set (blk_set (blk_set hp 2 (.int .i64 0)) 4 (.int .i64 0)) 3 (.int .i64 (-1)))
      have HB2 := Lib.hid ((((HB1.out.trans (hb.mono HB1.out.size)).setCell (p := ⟨w.heap.size, 2, none⟩) (by simp) (.int .i64 0)).setCell (p := ⟨w.heap.size, 4, none⟩) (by simp) (.int .i64 0)).setCell (p := ⟨w.heap.size, 3, none⟩) (by simp) (.int .i64 (-1)))
      clear hb hp
      go_wp2_with fail
      refine (R1.out _).mono ?_
      rintro e w3 ⟨rfl, hb⟩
      clear d0 d1 d2 d3 d4 d5 d6 d7 d8 d9 f2 f3 f4
      have hp := blk_below HP2.out hb
      have d0 : w3.cell? ⟨w.heap.size, 0, none⟩ = some (.int .i64 i) := blk_cell hp 0
      have d1 : w3.cell? ⟨w.heap.size, 1, none⟩ = some (.int .i64 ou) := blk_cell hp 1
      have d2 : w3.cell? ⟨w.heap.size, 2, none⟩ = some (.int .i64 0) := blk_cell hp 2
      have d3 : w3.cell? ⟨w.heap.size, 3, none⟩ = some (.int .i64 (-1)) := blk_cell hp 3
      have d4 : w3.cell? ⟨w.heap.size, 4, none⟩ = some (.int .i64 0) := blk_cell hp 4
      have d5 : w3.cell? ⟨w.heap.size, 5, none⟩ = some (.bool kp) := blk_cell hp 5
      have d6 : w3.cell? ⟨w.heap.size, 6, none⟩ = some (.bool sw) := blk_cell hp 6
      have d7 : w3.cell? ⟨w.heap.size, 7, none⟩ = some (.bool up) := blk_cell hp 7
      have d8 : w3.cell? ⟨w.heap.size, 8, none⟩ = some (.bool lo) := blk_cell hp 8
      have d9 : w3.cell? ⟨w.heap.size, 9, none⟩ = some (.bool sy) := blk_cell hp 9
      have f3 : w3.frozen? ⟨w.heap.size, 3, none⟩ = false := blk_frozen hp 3
      have hl3 : w.heap.size < w3.heap.size := blk_lt hp
      have HP3 := Lib.hid (blk_set hp 3 (.int .i64 a))
      have HB3 := Lib.hid ((HB2.out.trans (hb.mono HB2.out.size)).setCell (p := ⟨w.heap.size, 3, none⟩) (by simp) (.int .i64 a))
      have HS3 : Hid ((w3.setCell ⟨w.heap.size, 3, none⟩ (.int .i64 a)).heap.size = w3.heap.size) := Lib.hid (by simp [World.setCell])
      clear hb hp
      go_wp2_with fail
      refine (R2.out _).mono ?_
      rintro e w4 ⟨rfl, hb⟩
      clear d0 d1 d2 d3 d4 d5 d6 d7 d8 d9 f3
      have hp := (hb.block w.heap.size (by rw [World.size_alloc, HS3.out]; omega)).trans ((heap_alloc_old _ _ _ (by rw [HS3.out]; omega)).trans HP3.out)
      have hn1 := (hb.block w3.heap.size (by rw [World.size_alloc, HS3.out]; omega)).trans (HS3.out ▸ heap_alloc_new (w3.setCell ⟨w.heap.size, 3, none⟩ (.int .i64 a)) _)
      have d0 : w4.cell? ⟨w.heap.size, 0, none⟩ = some (.int .i64 i) := blk_cell hp 0
      have d1 : w4.cell? ⟨w.heap.size, 1, none⟩ = some (.int .i64 ou) := blk_cell hp 1
      have d2 : w4.cell? ⟨w.heap.size, 2, none⟩ = some (.int .i64 0) := blk_cell hp 2
      have d3 : w4.cell? ⟨w.heap.size, 3, none⟩ = some (.int .i64 a) := blk_cell hp 3
      have d4 : w4.cell? ⟨w.heap.size, 4, none⟩ = some (.int .i64 0) := blk_cell hp 4
      have d5 : w4.cell? ⟨w.heap.size, 5, none⟩ = some (.bool kp) := blk_cell hp 5
      have d6 : w4.cell? ⟨w.heap.size, 6, none⟩ = some (.bool sw) := blk_cell hp 6
      have d7 : w4.cell? ⟨w.heap.size, 7, none⟩ = some (.bool up) := blk_cell hp 7
      have d8 : w4.cell? ⟨w.heap.size, 8, none⟩ = some (.bool lo) := blk_cell hp 8
      have d9 : w4.cell? ⟨w.heap.size, 9, none⟩ = some (.bool sy) := blk_cell hp 9
      have f2 : w4.frozen? ⟨w.heap.size, 2, none⟩ = false := blk_frozen hp 2
      have f3 : w4.frozen? ⟨w.heap.size, 3, none⟩ = false := blk_frozen hp 3
      have hl4 : w3.heap.size < w4.heap.size := blk_lt hn1
      have hl40 : w.heap.size < w4.heap.size := by omega
      have HP4 := Lib.hid (blk_set (blk_set hp 3 (.int .i64 (-1))) 2 (.int .i64 a))
      have HN4 := Lib.hid hn1
      have HB4 := Lib.hid ((((below_alloc HB3.out _).trans (hb.mono (below_alloc HB3.out _).size)).setCell (p := ⟨w.heap.size, 3, none⟩) (by simp) (.int .i64 (-1))).setCell (p := ⟨w.heap.size, 2, none⟩) (by simp) (.int .i64 a))
      have HS4 : Hid (((w4.setCell ⟨w.heap.size, 3, none⟩ (.int .i64 (-1))).setCell ⟨w.heap.size, 2, none⟩ (.int .i64 a)).heap.size = w4.heap.size) := Lib.hid (by simp [World.setCell])
      clear hb hp hn1
      go_wp2_with fail
      refine (R3.out _).mono ?_
      rintro e w5 ⟨rfl, hb⟩
      clear d0 d1 d2 d3 d4 d5 d6 d7 d8 d9 f2 f3
      have hn1 := (hb.block w3.heap.size (by rw [World.size_alloc, HS4.out]; omega)).trans ((heap_alloc_old _ _ _ (by rw [HS4.out]; omega)).trans ((Below.heap_setCell _ _ _ _ (show w3.heap.size ≠ w.heap.size by omega)).trans ((Below.heap_setCell _ _ _ _ (show w3.heap.size ≠ w.heap.size by omega)).trans HN4.out)))
      have hn2 := (hb.block w4.heap.size (by rw [World.size_alloc, HS4.out]; omega)).trans (HS4.out ▸ heap_alloc_new ((w4.setCell ⟨w.heap.size, 3, none⟩ (.int .i64 (-1))).setCell ⟨w.heap.size, 2, none⟩ (.int .i64 a)) _)
      have a0 : w5.cell? ⟨w3.heap.size, 0, none⟩ = some (.int .i64 ((k1 : Int) + k2)) := blk_cell hn1 0
      have a1 : w5.cell? ⟨w3.heap.size, 1, none⟩ = some (.int .i64 ((q1 : Int) + q2)) := blk_cell hn1 1
      have b0 : w5.cell? ⟨w4.heap.size, 0, none⟩ = some (.int .i64 k1) := blk_cell hn2 0
      have b1 : w5.cell? ⟨w4.heap.size, 1, none⟩ = some (.int .i64 q1) := blk_cell hn2 1
      have hl5 : w3.heap.size < w5.heap.size := blk_lt hn1
      have hl6 : w4.heap.size < w5.heap.size := blk_lt hn2
      have HB5 := Lib.hid ((below_alloc HB4.out _).trans (hb.mono (below_alloc HB4.out _).size))
      clear hb hn1 hn2
      go_wp2_with fail
      go_ret
      exact ⟨rfl, below_alloc HB5.out _⟩

def toolchestlaw11_BlocksParts.f (s : ByteArray) (a : Int) : Option Bool := if (0 ≤ a ∧ a ≤ 65535) ∧ s.size ≤ 140737488351232 then some true else none
theorem toolchestlaw11_BlocksParts.calls (p : Pl) (s : ByteArray) (a : Int) (r : Bool) (w : World) (h : toolchestlaw11_BlocksParts.f s a = some r) :
    Calls Tryd.prog 4 #[.agg p.cells, .string s, .int .u16 a] w fun e w' => e = .returned (.bool r) ∧ Below w.heap.size w w' := by
  unfold toolchestlaw11_BlocksParts.f at h
  by_cases hc : (0 ≤ a ∧ a ≤ 65535) ∧ s.size ≤ 140737488351232
  · rw [if_pos hc] at h
    obtain rfl : true = r := Option.some.inj h
    exact parts_walk p s a hc.1 hc.2 w
  · rw [if_neg hc] at h; cases h
theorem blocksParts_pure (s : ByteArray) (a : Int) (h1 : s.size ≤ 140737488351232) (h2 : 0 ≤ a ∧ a ≤ 65535) : toolchestlaw11_BlocksParts.f s a = some true := if_pos ⟨h2, h1⟩
end Go.Proofs.YtomnpmfmlbmpeaaDoor.L
