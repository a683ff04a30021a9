/- BlocksSeeks: the walk. -/
import Derived.Deep.QuietTactic
import Derived.BigQuiet
import Derived.Test.YtomnpmfmlbmpeaaDoorPlainW
import Derived.Test.YtomnpmfmlbmpeaaDoorSeeksP
namespace Go.Proofs.YtomnpmfmlbmpeaaDoor.L
open Go.RowKit Go.Proofs.YtomnpmfmlbmpeaaDoorW.PrintWords

set_option maxHeartbeats 8000000 in
set_option maxRecDepth 100000 in
theorem seeks_walk (p : Pl) (s o : ByteArray) (hpo : -9223372036854775808 ≤ p.i ∧ p.i ≤ 9223372036854775807) (hs : s.size ≤ 140737488351232) (ho : o.size ≤ 140737488351232) (w : World) :
    Calls Tryd.prog 7 #[.agg p.cells, .string s, .string o] w fun e w' => e = .returned (.bool true) ∧ Below w.heap.size w w' := by
  have HAL := Lib.hid (fun W => alive_walk W)
  have hchk := fun W => check_walk p W
  obtain ⟨PL, hPL⟩ : ∃ PL, PL = p := ⟨_, rfl⟩
  obtain ⟨i, ou, sk, ct, se, kp, sw, up, lo, sy⟩ := p
  simp only [Pl.cells] at hchk ⊢
  rw [← hPL] at hchk
  replace hpo : -9223372036854775808 ≤ i ∧ i ≤ 9223372036854775807 := hpo
  obtain ⟨hp1, hp2⟩ := hpo
  obtain ⟨K, hK⟩ : ∃ K, PL.ok = K := ⟨_, rfl⟩
  rw [hK] at hchk
  have HCK := Lib.hid hchk
  have HOK := Lib.hid hK
  clear hchk hK
  cases K with
  | false =>
    go_enter Tryd.func7, Tryd.ntmps7
    go_wp2_with fail
    refine (HAL.out _).mono ?_
    rintro e w1 ⟨rfl, hb⟩
    have hp := (hb.block w.heap.size (by simp)).trans (heap_alloc_new w _)
    have d0 : w1.cell? ⟨w.heap.size, 0, none⟩ = some (.int .i64 i) := blk_cell hp 0
    have d1 : w1.cell? ⟨w.heap.size, 1, none⟩ = some (.int .i64 ou) := blk_cell hp 1
    have d2 : w1.cell? ⟨w.heap.size, 2, none⟩ = some (.int .i64 sk) := blk_cell hp 2
    have d3 : w1.cell? ⟨w.heap.size, 3, none⟩ = some (.int .i64 ct) := blk_cell hp 3
    have d4 : w1.cell? ⟨w.heap.size, 4, none⟩ = some (.int .i64 se) := blk_cell hp 4
    have d5 : w1.cell? ⟨w.heap.size, 5, none⟩ = some (.bool kp) := blk_cell hp 5
    have d6 : w1.cell? ⟨w.heap.size, 6, none⟩ = some (.bool sw) := blk_cell hp 6
    have d7 : w1.cell? ⟨w.heap.size, 7, none⟩ = some (.bool up) := blk_cell hp 7
    have d8 : w1.cell? ⟨w.heap.size, 8, none⟩ = some (.bool lo) := blk_cell hp 8
    have d9 : w1.cell? ⟨w.heap.size, 9, none⟩ = some (.bool sy) := blk_cell hp 9
    have HP1 := Lib.hid hp
    have HB1 := Lib.hid ((below_alloc (Below.refl _ w) _).trans (hb.mono (by simp)))
    clear hb hp
    go_wp2_with fail
    refine (HCK.out _).mono ?_
    rintro e w2 ⟨rfl, hb⟩
    have HB2 := Lib.hid (HB1.out.trans (hb.mono HB1.out.size))
    have hp := blk_below HP1.out hb
    clear hb d0 d1 d2 d3 d4 d5 d6 d7 d8 d9
    have d0 : w2.cell? ⟨w.heap.size, 0, none⟩ = some (.int .i64 i) := blk_cell hp 0
    clear hp
    go_wp2_with fail
    refine (HAL.out _).mono ?_
    rintro e w3 ⟨rfl, hb⟩
    have HB3 := Lib.hid (HB2.out.trans (hb.mono HB2.out.size))
    clear hb
    go_wp2_with fail
    go_ret
    exact ⟨rfl, HB3.out⟩
  | true =>
    by_cases c1 : (s.size : Int) > 5000
    · go_enter Tryd.func7, Tryd.ntmps7
      go_wp2_with fail
      refine (HAL.out _).mono ?_
      rintro e w1 ⟨rfl, hb⟩
      have hp := (hb.block w.heap.size (by simp)).trans (heap_alloc_new w _)
      have d0 : w1.cell? ⟨w.heap.size, 0, none⟩ = some (.int .i64 i) := blk_cell hp 0
      have d1 : w1.cell? ⟨w.heap.size, 1, none⟩ = some (.int .i64 ou) := blk_cell hp 1
      have d2 : w1.cell? ⟨w.heap.size, 2, none⟩ = some (.int .i64 sk) := blk_cell hp 2
      have d3 : w1.cell? ⟨w.heap.size, 3, none⟩ = some (.int .i64 ct) := blk_cell hp 3
      have d4 : w1.cell? ⟨w.heap.size, 4, none⟩ = some (.int .i64 se) := blk_cell hp 4
      have d5 : w1.cell? ⟨w.heap.size, 5, none⟩ = some (.bool kp) := blk_cell hp 5
      have d6 : w1.cell? ⟨w.heap.size, 6, none⟩ = some (.bool sw) := blk_cell hp 6
      have d7 : w1.cell? ⟨w.heap.size, 7, none⟩ = some (.bool up) := blk_cell hp 7
      have d8 : w1.cell? ⟨w.heap.size, 8, none⟩ = some (.bool lo) := blk_cell hp 8
      have d9 : w1.cell? ⟨w.heap.size, 9, none⟩ = some (.bool sy) := blk_cell hp 9
      have HP1 := Lib.hid hp
      have HB1 := Lib.hid ((below_alloc (Below.refl _ w) _).trans (hb.mono (by simp)))
      clear hb hp
      go_wp2_with fail
      refine (HCK.out _).mono ?_
      rintro e w2 ⟨rfl, hb⟩
      have HB2 := Lib.hid (HB1.out.trans (hb.mono HB1.out.size))
      have hp := blk_below HP1.out hb
      clear hb d0 d1 d2 d3 d4 d5 d6 d7 d8 d9
      have d0 : w2.cell? ⟨w.heap.size, 0, none⟩ = some (.int .i64 i) := blk_cell hp 0
      clear hp
      go_wp2_with fail
      refine (HAL.out _).mono ?_
      rintro e w3 ⟨rfl, hb⟩
      have HB3 := Lib.hid (HB2.out.trans (hb.mono HB2.out.size))
      clear hb
      go_wp2_with fail
      go_ret
      exact ⟨rfl, HB3.out⟩
    · by_cases c2 : (o.size : Int) > 5000
      · go_enter Tryd.func7, Tryd.ntmps7
        go_wp2_with fail
        refine (HAL.out _).mono ?_
        rintro e w1 ⟨rfl, hb⟩
        have hp := (hb.block w.heap.size (by simp)).trans (heap_alloc_new w _)
        have d0 : w1.cell? ⟨w.heap.size, 0, none⟩ = some (.int .i64 i) := blk_cell hp 0
        have d1 : w1.cell? ⟨w.heap.size, 1, none⟩ = some (.int .i64 ou) := blk_cell hp 1
        have d2 : w1.cell? ⟨w.heap.size, 2, none⟩ = some (.int .i64 sk) := blk_cell hp 2
        have d3 : w1.cell? ⟨w.heap.size, 3, none⟩ = some (.int .i64 ct) := blk_cell hp 3
        have d4 : w1.cell? ⟨w.heap.size, 4, none⟩ = some (.int .i64 se) := blk_cell hp 4
        have d5 : w1.cell? ⟨w.heap.size, 5, none⟩ = some (.bool kp) := blk_cell hp 5
        have d6 : w1.cell? ⟨w.heap.size, 6, none⟩ = some (.bool sw) := blk_cell hp 6
        have d7 : w1.cell? ⟨w.heap.size, 7, none⟩ = some (.bool up) := blk_cell hp 7
        have d8 : w1.cell? ⟨w.heap.size, 8, none⟩ = some (.bool lo) := blk_cell hp 8
        have d9 : w1.cell? ⟨w.heap.size, 9, none⟩ = some (.bool sy) := blk_cell hp 9
        have HP1 := Lib.hid hp
        have HB1 := Lib.hid ((below_alloc (Below.refl _ w) _).trans (hb.mono (by simp)))
        clear hb hp
        go_wp2_with fail
        refine (HCK.out _).mono ?_
        rintro e w2 ⟨rfl, hb⟩
        have HB2 := Lib.hid (HB1.out.trans (hb.mono HB1.out.size))
        have hp := blk_below HP1.out hb
        clear hb d0 d1 d2 d3 d4 d5 d6 d7 d8 d9
        have d0 : w2.cell? ⟨w.heap.size, 0, none⟩ = some (.int .i64 i) := blk_cell hp 0
        clear hp
        go_wp2_with fail
        refine (HAL.out _).mono ?_
        rintro e w3 ⟨rfl, hb⟩
        have HB3 := Lib.hid (HB2.out.trans (hb.mono HB2.out.size))
        clear hb
        go_wp2_with fail
        go_ret
        exact ⟨rfl, HB3.out⟩
      · by_cases c3 : i > 100
        · go_enter Tryd.func7, Tryd.ntmps7
          go_wp2_with fail
          refine (HAL.out _).mono ?_
          rintro e w1 ⟨rfl, hb⟩
          have hp := (hb.block w.heap.size (by simp)).trans (heap_alloc_new w _)
          have d0 : w1.cell? ⟨w.heap.size, 0, none⟩ = some (.int .i64 i) := blk_cell hp 0
          have d1 : w1.cell? ⟨w.heap.size, 1, none⟩ = some (.int .i64 ou) := blk_cell hp 1
          have d2 : w1.cell? ⟨w.heap.size, 2, none⟩ = some (.int .i64 sk) := blk_cell hp 2
          have d3 : w1.cell? ⟨w.heap.size, 3, none⟩ = some (.int .i64 ct) := blk_cell hp 3
          have d4 : w1.cell? ⟨w.heap.size, 4, none⟩ = some (.int .i64 se) := blk_cell hp 4
          have d5 : w1.cell? ⟨w.heap.size, 5, none⟩ = some (.bool kp) := blk_cell hp 5
          have d6 : w1.cell? ⟨w.heap.size, 6, none⟩ = some (.bool sw) := blk_cell hp 6
          have d7 : w1.cell? ⟨w.heap.size, 7, none⟩ = some (.bool up) := blk_cell hp 7
          have d8 : w1.cell? ⟨w.heap.size, 8, none⟩ = some (.bool lo) := blk_cell hp 8
          have d9 : w1.cell? ⟨w.heap.size, 9, none⟩ = some (.bool sy) := blk_cell hp 9
          have HP1 := Lib.hid hp
          have HB1 := Lib.hid ((below_alloc (Below.refl _ w) _).trans (hb.mono (by simp)))
          clear hb hp
          go_wp2_with fail
          refine (HCK.out _).mono ?_
          rintro e w2 ⟨rfl, hb⟩
          have HB2 := Lib.hid (HB1.out.trans (hb.mono HB1.out.size))
          have hp := blk_below HP1.out hb
          clear hb d0 d1 d2 d3 d4 d5 d6 d7 d8 d9
          have d0 : w2.cell? ⟨w.heap.size, 0, none⟩ = some (.int .i64 i) := blk_cell hp 0
          clear hp
          go_wp2_with fail
          refine (HAL.out _).mono ?_
          rintro e w3 ⟨rfl, hb⟩
          have HB3 := Lib.hid (HB2.out.trans (hb.mono HB2.out.size))
          clear hb
          go_wp2_with fail
          go_ret
          exact ⟨rfl, HB3.out⟩
        · have hfa := ok_facts HOK.out
          rw [hPL] at hfa
          replace hfa : (1 ≤ i ∧ i ≤ 65536) ∧ (1 ≤ ou ∧ ou ≤ 65536) ∧ (0 ≤ sk ∧ sk ≤ 2147483647) ∧ (0 ≤ se ∧ se ≤ 2147483647) ∧ _ := hfa
          obtain ⟨hi1, ho1, _, hse1, _⟩ := hfa
          obtain ⟨Se, hSe⟩ : ∃ Se, se.tmod 50 = Se := ⟨_, rfl⟩
          obtain ⟨Ou, hOu⟩ : ∃ Ou, ou.tmod 50 + 1 = Ou := ⟨_, rfl⟩
          have hSe1 : 0 ≤ Se ∧ Se ≤ 49 := by rw [← hSe, Int.tmod_eq_emod_of_nonneg hse1.1]; omega
          have hOu1 : 1 ≤ Ou ∧ Ou ≤ 50 := by rw [← hOu, Int.tmod_eq_emod_of_nonneg (by omega)]; omega
          obtain ⟨AT, hAT⟩ : ∃ AT : Nat, Se * Ou = (AT : Int) := ⟨(Se * Ou).toNat, (Int.toNat_of_nonneg (Int.mul_nonneg hSe1.1 (by omega))).symm⟩
          obtain ⟨g, S, T, x1, y1, z1, u1, x2, y2, z2, u2, x3, y3, z3, u3, k1, k2, k3, hTs, hSs, hST, hTg, hTo, hT0, htail, hgs, hAT'⟩ := seeks_out PL HOK.out (by rw [hPL]; show i ≤ 100; omega) s o (by omega) (by omega) Se Ou AT hSe1 hOu1 hAT
          have hz : (⟨#[]⟩ : ByteArray).size ≤ 1048576 := by decide
          have R1 := run_known _ s ⟨#[]⟩ _ _ _ _ _ (sought_ok HOK.out Ou 0 false (by omega) (by omega)) (by omega) hz k1
          have R2 := run_known _ s o _ _ _ _ _ (sought_ok HOK.out Ou Se true (by omega) (by omega)) (by omega) (by omega) k2
          have R3 := run_known _ s o _ _ _ _ _ (sought_ok HOK.out Ou Se false (by omega) (by omega)) (by omega) (by omega) k3
          rw [hPL] at R1 R2 R3
          simp only [Pl.sought, Pl.cells] at R1 R2 R3
          replace R1 := Lib.hid R1
          replace R2 := Lib.hid R2
          replace R3 := Lib.hid R3
          have HTO := Lib.hid hTo
          have HT0 := Lib.hid hT0
          have HTL := Lib.hid htail
          have HST := Lib.hid hST
          have HTG := Lib.hid hTg
          have hm1 : 0 ≤ Se * Ou := by omega
          have hm2 : Se * Ou ≤ 2450 := by omega
          have q1 : IntKind.i64.wrap Se = Se := by rw [IntKind.wrap_i64]; omega
          have q2 : ou.tmod 50 = Ou - 1 := by omega
          have q3 : se % 50 = Se := by rw [← hSe, Int.tmod_eq_emod_of_nonneg hse1.1]
          have q4 : ou % 50 = Ou - 1 := by rw [← q2, Int.tmod_eq_emod_of_nonneg (by omega)]
          obtain ⟨hSe2, hSe3⟩ := hSe1
          obtain ⟨hOu2, hOu3⟩ := hOu1
          obtain ⟨hse2, hse3⟩ := hse1
          obtain ⟨ho2, ho3⟩ := ho1
          obtain ⟨hi2, hi3⟩ := hi1
          clear k1 k2 k3 hz hTo hT0 htail hST hTg
          go_enter Tryd.func7, Tryd.ntmps7
          go_wp2_with fail
          refine (HAL.out _).mono ?_
          rintro e w1 ⟨rfl, hb⟩
          have hp := (hb.block w.heap.size (by simp)).trans (heap_alloc_new w _)
          have d0 : w1.cell? ⟨w.heap.size, 0, none⟩ = some (.int .i64 i) := blk_cell hp 0
          have d1 : w1.cell? ⟨w.heap.size, 1, none⟩ = some (.int .i64 ou) := blk_cell hp 1
          have d2 : w1.cell? ⟨w.heap.size, 2, none⟩ = some (.int .i64 sk) := blk_cell hp 2
          have d3 : w1.cell? ⟨w.heap.size, 3, none⟩ = some (.int .i64 ct) := blk_cell hp 3
          have d4 : w1.cell? ⟨w.heap.size, 4, none⟩ = some (.int .i64 se) := blk_cell hp 4
          have d5 : w1.cell? ⟨w.heap.size, 5, none⟩ = some (.bool kp) := blk_cell hp 5
          have d6 : w1.cell? ⟨w.heap.size, 6, none⟩ = some (.bool sw) := blk_cell hp 6
          have d7 : w1.cell? ⟨w.heap.size, 7, none⟩ = some (.bool up) := blk_cell hp 7
          have d8 : w1.cell? ⟨w.heap.size, 8, none⟩ = some (.bool lo) := blk_cell hp 8
          have d9 : w1.cell? ⟨w.heap.size, 9, none⟩ = some (.bool sy) := blk_cell hp 9
          have HP1 := Lib.hid hp
          have HB1 := Lib.hid ((below_alloc (Below.refl _ w) _).trans (hb.mono (by simp)))
          clear hb hp
          go_wp2_with fail
          refine (HCK.out _).mono ?_
          rintro e w2 ⟨rfl, hb⟩
          clear d0 d1 d2 d3 d4 d5 d6 d7 d8 d9
          have hp := blk_below HP1.out hb
          have d0 : w2.cell? ⟨w.heap.size, 0, none⟩ = some (.int .i64 i) := blk_cell hp 0
          have d1 : w2.cell? ⟨w.heap.size, 1, none⟩ = some (.int .i64 ou) := blk_cell hp 1
          have d2 : w2.cell? ⟨w.heap.size, 2, none⟩ = some (.int .i64 sk) := blk_cell hp 2
          have d3 : w2.cell? ⟨w.heap.size, 3, none⟩ = some (.int .i64 ct) := blk_cell hp 3
          have d4 : w2.cell? ⟨w.heap.size, 4, none⟩ = some (.int .i64 se) := blk_cell hp 4
          have d5 : w2.cell? ⟨w.heap.size, 5, none⟩ = some (.bool kp) := blk_cell hp 5
          have d6 : w2.cell? ⟨w.heap.size, 6, none⟩ = some (.bool sw) := blk_cell hp 6
          have d7 : w2.cell? ⟨w.heap.size, 7, none⟩ = some (.bool up) := blk_cell hp 7
          have d8 : w2.cell? ⟨w.heap.size, 8, none⟩ = some (.bool lo) := blk_cell hp 8
          have d9 : w2.cell? ⟨w.heap.size, 9, none⟩ = some (.bool sy) := blk_cell hp 9
          have f1 : w2.frozen? ⟨w.heap.size, 1, none⟩ = false := blk_frozen hp 1
          have f4 : w2.frozen? ⟨w.heap.size, 4, none⟩ = false := blk_frozen hp 4
          have f5 : w2.frozen? ⟨w.heap.size, 5, none⟩ = false := blk_frozen hp 5
          have HP2 := Lib.hid (blk_set (blk_set (blk_set hp 4 (.int .i64 Se)) 1 (.int .i64 Ou)) 5 (.bool true))
          have HB2 := Lib.hid ((((HB1.out.trans (hb.mono HB1.out.size)).setCell (p := ⟨w.heap.size, 4, none⟩) (by simp) (.int .i64 Se)).setCell (p := ⟨w.heap.size, 1, none⟩) (by simp) (.int .i64 Ou)).setCell (p := ⟨w.heap.size, 5, none⟩) (by simp) (.bool true))
          clear hb hp
          go_wp2_with fail
          refine (R1.out _).mono ?_
          rintro e w3 ⟨rfl, hb⟩
          clear d0 d1 d2 d3 d4 d5 d6 d7 d8 d9 f1 f4 f5
          have hp := blk_below HP2.out hb
          have d0 : w3.cell? ⟨w.heap.size, 0, none⟩ = some (.int .i64 i) := blk_cell hp 0
          have d1 : w3.cell? ⟨w.heap.size, 1, none⟩ = some (.int .i64 Ou) := blk_cell hp 1
          have d2 : w3.cell? ⟨w.heap.size, 2, none⟩ = some (.int .i64 sk) := blk_cell hp 2
          have d3 : w3.cell? ⟨w.heap.size, 3, none⟩ = some (.int .i64 ct) := blk_cell hp 3
          have d4 : w3.cell? ⟨w.heap.size, 4, none⟩ = some (.int .i64 Se) := blk_cell hp 4
          have d5 : w3.cell? ⟨w.heap.size, 5, none⟩ = some (.bool true) := blk_cell hp 5
          have d6 : w3.cell? ⟨w.heap.size, 6, none⟩ = some (.bool sw) := blk_cell hp 6
          have d7 : w3.cell? ⟨w.heap.size, 7, none⟩ = some (.bool up) := blk_cell hp 7
          have d8 : w3.cell? ⟨w.heap.size, 8, none⟩ = some (.bool lo) := blk_cell hp 8
          have d9 : w3.cell? ⟨w.heap.size, 9, none⟩ = some (.bool sy) := blk_cell hp 9
          have hl3 : w.heap.size < w3.heap.size := blk_lt hp
          have HP3 := Lib.hid hp
          have HB3 := Lib.hid (HB2.out.trans (hb.mono HB2.out.size))
          clear hb hp
          go_wp2_with fail
          refine (R2.out _).mono ?_
          rintro e w4 ⟨rfl, hb⟩
          clear d0 d1 d2 d3 d4 d5 d6 d7 d8 d9
          have hp := (hb.block w.heap.size (by rw [World.size_alloc]; omega)).trans ((heap_alloc_old _ _ _ (by omega)).trans HP3.out)
          have d0 : w4.cell? ⟨w.heap.size, 0, none⟩ = some (.int .i64 i) := blk_cell hp 0
          have d1 : w4.cell? ⟨w.heap.size, 1, none⟩ = some (.int .i64 Ou) := blk_cell hp 1
          have d2 : w4.cell? ⟨w.heap.size, 2, none⟩ = some (.int .i64 sk) := blk_cell hp 2
          have d3 : w4.cell? ⟨w.heap.size, 3, none⟩ = some (.int .i64 ct) := blk_cell hp 3
          have d4 : w4.cell? ⟨w.heap.size, 4, none⟩ = some (.int .i64 Se) := blk_cell hp 4
          have d5 : w4.cell? ⟨w.heap.size, 5, none⟩ = some (.bool true) := blk_cell hp 5
          have d6 : w4.cell? ⟨w.heap.size, 6, none⟩ = some (.bool sw) := blk_cell hp 6
          have d7 : w4.cell? ⟨w.heap.size, 7, none⟩ = some (.bool up) := blk_cell hp 7
          have d8 : w4.cell? ⟨w.heap.size, 8, none⟩ = some (.bool lo) := blk_cell hp 8
          have d9 : w4.cell? ⟨w.heap.size, 9, none⟩ = some (.bool sy) := blk_cell hp 9
          have f5 : w4.frozen? ⟨w.heap.size, 5, none⟩ = false := blk_frozen hp 5
          have hl4 : w.heap.size < w4.heap.size := blk_lt hp
          have HB4 := Lib.hid (((below_alloc HB3.out _).trans (hb.mono (below_alloc HB3.out _).size)))
          clear hb hp
          go_wp2_with fail
          refine (R3.out _).mono ?_
          rintro e w5 ⟨rfl, hb⟩
          clear d0 d1 d2 d3 d4 d5 d6 d7 d8 d9 f5
          have HB5 := Lib.hid ((below_alloc (HB4.out.setCell (p := ⟨w.heap.size, 5, none⟩) (by simp) (.bool false)) _).trans (hb.mono (below_alloc (HB4.out.setCell (p := ⟨w.heap.size, 5, none⟩) (by simp) (.bool false)) _).size))
          have HBF : Hid (Below w.heap.size w (w5.alloc (.cells #[.int .i64 x3, .int .i64 y3, .int .i64 z3, .int .i64 u3] 27))) := Lib.hid (below_alloc HB5.out _)
          clear hb
          have t1 : (S.extract 0 (AT + g.size)).toList = T.toList := by have h := HST.out; rw [hTs] at h; rw [h]
          have t2 : ((S.extract 0 (AT + g.size)).toList == T.toList) = true := beq_iff_eq.2 t1
          have t3 : ((T.extract AT (AT + g.size)).toList == g.toList) = true := by have h := HTG.out; rw [hTs] at h; rw [h]; exact beq_self_eq_true _
          go_wp2_with fail
          clear t1 t2 t3
          have HTs := Lib.hid hTs
          have HSs := Lib.hid hSs
          have hTs' : (T.size : Int) ≤ 8450 := by omega
          have hSs' : (S.size : Int) ≤ 8450 := by omega
          have hTA : AT ≤ T.size := by omega
          clear hTs hSs
          go_loopw [17] (fun v17 wr => ∃ k : Nat, k ≤ AT ∧ v17 = .int .i64 k ∧ Hid (Below w.heap.size w wr)) (fun v17 _ => AT - (intOf v17).toNat)
          case atStart => exact ⟨0, by omega, rfl, HBF⟩
          case round =>
            obtain ⟨k, hk, rfl, HK⟩ := hrel
            by_cases hlt : k < AT
            · have hI : (k : Int) < (AT : Int) := by omega
              have hkT : k < T.size := by omega
              by_cases hko : k < o.size
              · obtain ⟨x, e1⟩ : ∃ x, o[k] = x := ⟨_, rfl⟩
                have e2 : T[k] = x := (HTO.out k hkT hlt hko).trans e1
                have hko1 : (k : Int) < (o.size : Int) := by omega
                have b1 : decide ((k : Int) < (o.size : Int)) = true := decide_eq_true hko1
                have b2 : decide ((k : Int) ≥ (o.size : Int)) = false := decide_eq_false (by omega)
                have b3 : ¬ (o.size ≤ k) := by omega
                go_wp2_with fail
                go_big_quiet (fail)
                go_wp2_with fail
                exact ⟨⟨k + 1, by omega, by go_num, Lib.hid (pw_below_drewN HK.out _)⟩, by simp [intOf]; omega⟩
              · have e2 : T[k] = 0 := HT0.out k hkT hlt (by omega)
                have b1 : decide ((k : Int) < (o.size : Int)) = false := decide_eq_false (by omega)
                have b2 : decide ((k : Int) ≥ (o.size : Int)) = true := decide_eq_true (by omega)
                have b3 : o.size ≤ k := by omega
                go_wp2_with fail
                go_big_quiet (fail)
                go_wp2_with fail
                exact ⟨⟨k + 1, by omega, by go_num, Lib.hid (pw_below_drewN HK.out _)⟩, by simp [intOf]; omega⟩
            · have hI : ¬ (k : Int) < (AT : Int) := by omega
              by_cases c : S.size = T.size
              · have b1 : ((S.size : Int) == (T.size : Int)) = true := beq_iff_eq.2 (by omega)
                go_wp2_with fail
                go_big_quiet (fail)
                go_wp2_with fail
                go_ret
                exact ⟨rfl, pw_below_drewN HK.out _⟩
              · have h1 := HSs.out
                rw [← HTs.out] at h1
                have b1 : ((S.size : Int) == (T.size : Int)) = false := beq_eq_false_iff_ne.2 (by omega)
                have b2 : T.size ≤ S.size := by omega
                have b3 : T.size ≤ o.size := by omega
                have e1 : (S.extract T.size S.size).toList = (o.extract T.size o.size).toList := by rw [HTL.out.resolve_left c]
                have e2 : ((S.extract T.size S.size).toList == (o.extract T.size o.size).toList) = true := beq_iff_eq.2 e1
                clear h1
                go_wp2_with fail
                go_big_quiet (fail)
                go_wp2_with fail
                go_ret
                exact ⟨rfl, pw_below_drewN HK.out _⟩

def toolchestlaw11_BlocksSeeks.f (p : Pl) (s o : ByteArray) : Option Bool := if (-9223372036854775808 ≤ p.i ∧ p.i ≤ 9223372036854775807) ∧ s.size ≤ 140737488351232 ∧ o.size ≤ 140737488351232 then some true else none
theorem toolchestlaw11_BlocksSeeks.calls (p : Pl) (s o : ByteArray) (r : Bool) (w : World) (h : toolchestlaw11_BlocksSeeks.f p s o = some r) :
    Calls Tryd.prog 7 #[.agg p.cells, .string s, .string o] w fun e w' => e = .returned (.bool r) ∧ Below w.heap.size w w' := by
  unfold toolchestlaw11_BlocksSeeks.f at h
  by_cases hc : (-9223372036854775808 ≤ p.i ∧ p.i ≤ 9223372036854775807) ∧ s.size ≤ 140737488351232 ∧ o.size ≤ 140737488351232
  · rw [if_pos hc] at h
    obtain rfl : true = r := Option.some.inj h
    exact seeks_walk p s o hc.1 hc.2.1 hc.2.2 w
  · rw [if_neg hc] at h; cases h
theorem blocksSeeks_pure (p : Pl) (s o : ByteArray) (h1 : s.size ≤ 140737488351232) (h2 : o.size ≤ 140737488351232) (h3 : -9223372036854775808 ≤ p.i ∧ p.i ≤ 9223372036854775807) : toolchestlaw11_BlocksSeeks.f p s o = some true := if_pos ⟨h3, h1, h2⟩
end Go.Proofs.YtomnpmfmlbmpeaaDoor.L
