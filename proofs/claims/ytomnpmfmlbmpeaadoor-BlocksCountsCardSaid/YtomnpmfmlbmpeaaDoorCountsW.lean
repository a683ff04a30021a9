/- BlocksCounts: the walk. -/
import Derived.Deep.QuietTactic
import Derived.BigQuiet
import Derived.Test.YtomnpmfmlbmpeaaDoorPlainW
import Derived.Test.YtomnpmfmlbmpeaaDoorCountsP
namespace Go.Proofs.YtomnpmfmlbmpeaaDoor.L
open Go.RowKit Go.Proofs.YtomnpmfmlbmpeaaDoorW.PrintWords

set_option maxHeartbeats 8000000 in
set_option maxRecDepth 100000 in
theorem counts_walk (p : Pl) (s : ByteArray) (hpo : -9223372036854775808 ≤ p.i ∧ p.i ≤ 9223372036854775807) (hs : s.size ≤ 140737488351232) (w : World) :
    Calls Tryd.prog 6 #[.agg p.cells, .string s] w fun e w' => e = .returned (.bool true) ∧ Below w.heap.size w w' := by
  have HAL := Lib.hid (fun W => alive_walk W)
  have hchk := fun W => check_walk p W
  obtain ⟨PL, hPL⟩ : ∃ PL, PL = p := ⟨_, rfl⟩
  obtain ⟨i, ou, sk, ct, se, kp, sw, up, lo, sy⟩ := p
  simp only [Pl.cells] at hchk ⊢
  rw [← hPL] at hchk
  replace hpo : -9223372036854775808 ≤ i ∧ i ≤ 9223372036854775807 := hpo
  obtain ⟨hp1, hp2⟩ := hpo
  obtain ⟨K, hK⟩ : ∃ K, PL.ok = K := ⟨_, rfl⟩
  rw [hK] at hchk
  have HCK := Lib.hid hchk
  have HOK := Lib.hid hK
  clear hchk hK
  cases K with
  | false =>
    go_enter Tryd.func6, Tryd.ntmps6
    go_wp2_with fail
    refine (HAL.out _).mono ?_
    rintro e w1 ⟨rfl, hb⟩
    have hp := (hb.block w.heap.size (by simp)).trans (heap_alloc_new w _)
    have d0 : w1.cell? ⟨w.heap.size, 0, none⟩ = some (.int .i64 i) := blk_cell hp 0
    have d1 : w1.cell? ⟨w.heap.size, 1, none⟩ = some (.int .i64 ou) := blk_cell hp 1
    have d2 : w1.cell? ⟨w.heap.size, 2, none⟩ = some (.int .i64 sk) := blk_cell hp 2
    have d3 : w1.cell? ⟨w.heap.size, 3, none⟩ = some (.int .i64 ct) := blk_cell hp 3
    have d4 : w1.cell? ⟨w.heap.size, 4, none⟩ = some (.int .i64 se) := blk_cell hp 4
    have d5 : w1.cell? ⟨w.heap.size, 5, none⟩ = some (.bool kp) := blk_cell hp 5
    have d6 : w1.cell? ⟨w.heap.size, 6, none⟩ = some (.bool sw) := blk_cell hp 6
    have d7 : w1.cell? ⟨w.heap.size, 7, none⟩ = some (.bool up) := blk_cell hp 7
    have d8 : w1.cell? ⟨w.heap.size, 8, none⟩ = some (.bool lo) := blk_cell hp 8
    have d9 : w1.cell? ⟨w.heap.size, 9, none⟩ = some (.bool sy) := blk_cell hp 9
    have HP1 := Lib.hid hp
    have HB1 := Lib.hid ((below_alloc (Below.refl _ w) _).trans (hb.mono (by simp)))
    clear hb hp
    go_wp2_with fail
    refine (HCK.out _).mono ?_
    rintro e w2 ⟨rfl, hb⟩
    have HB2 := Lib.hid (HB1.out.trans (hb.mono HB1.out.size))
    have hp := blk_below HP1.out hb
    clear hb d0 d1 d2 d3 d4 d5 d6 d7 d8 d9
    have d0 : w2.cell? ⟨w.heap.size, 0, none⟩ = some (.int .i64 i) := blk_cell hp 0
    clear hp
    go_wp2_with fail
    refine (HAL.out _).mono ?_
    rintro e w3 ⟨rfl, hb⟩
    have HB3 := Lib.hid (HB2.out.trans (hb.mono HB2.out.size))
    clear hb
    go_wp2_with fail
    go_ret
    exact ⟨rfl, HB3.out⟩
  | true =>
    by_cases c1 : (s.size : Int) > 5000
    · go_enter Tryd.func6, Tryd.ntmps6
      go_wp2_with fail
      refine (HAL.out _).mono ?_
      rintro e w1 ⟨rfl, hb⟩
      have hp := (hb.block w.heap.size (by simp)).trans (heap_alloc_new w _)
      have d0 : w1.cell? ⟨w.heap.size, 0, none⟩ = some (.int .i64 i) := blk_cell hp 0
      have d1 : w1.cell? ⟨w.heap.size, 1, none⟩ = some (.int .i64 ou) := blk_cell hp 1
      have d2 : w1.cell? ⟨w.heap.size, 2, none⟩ = some (.int .i64 sk) := blk_cell hp 2
      have d3 : w1.cell? ⟨w.heap.size, 3, none⟩ = some (.int .i64 ct) := blk_cell hp 3
      have d4 : w1.cell? ⟨w.heap.size, 4, none⟩ = some (.int .i64 se) := blk_cell hp 4
      have d5 : w1.cell? ⟨w.heap.size, 5, none⟩ = some (.bool kp) := blk_cell hp 5
      have d6 : w1.cell? ⟨w.heap.size, 6, none⟩ = some (.bool sw) := blk_cell hp 6
      have d7 : w1.cell? ⟨w.heap.size, 7, none⟩ = some (.bool up) := blk_cell hp 7
      have d8 : w1.cell? ⟨w.heap.size, 8, none⟩ = some (.bool lo) := blk_cell hp 8
      have d9 : w1.cell? ⟨w.heap.size, 9, none⟩ = some (.bool sy) := blk_cell hp 9
      have HP1 := Lib.hid hp
      have HB1 := Lib.hid ((below_alloc (Below.refl _ w) _).trans (hb.mono (by simp)))
      clear hb hp
      go_wp2_with fail
      refine (HCK.out _).mono ?_
      rintro e w2 ⟨rfl, hb⟩
      have HB2 := Lib.hid (HB1.out.trans (hb.mono HB1.out.size))
      have hp := blk_below HP1.out hb
      clear hb d0 d1 d2 d3 d4 d5 d6 d7 d8 d9
      have d0 : w2.cell? ⟨w.heap.size, 0, none⟩ = some (.int .i64 i) := blk_cell hp 0
      clear hp
      go_wp2_with fail
      refine (HAL.out _).mono ?_
      rintro e w3 ⟨rfl, hb⟩
      have HB3 := Lib.hid (HB2.out.trans (hb.mono HB2.out.size))
      clear hb
      go_wp2_with fail
      go_ret
      exact ⟨rfl, HB3.out⟩
    · by_cases c2 : i > 100
      · go_enter Tryd.func6, Tryd.ntmps6
        go_wp2_with fail
        refine (HAL.out _).mono ?_
        rintro e w1 ⟨rfl, hb⟩
        have hp := (hb.block w.heap.size (by simp)).trans (heap_alloc_new w _)
        have d0 : w1.cell? ⟨w.heap.size, 0, none⟩ = some (.int .i64 i) := blk_cell hp 0
        have d1 : w1.cell? ⟨w.heap.size, 1, none⟩ = some (.int .i64 ou) := blk_cell hp 1
        have d2 : w1.cell? ⟨w.heap.size, 2, none⟩ = some (.int .i64 sk) := blk_cell hp 2
        have d3 : w1.cell? ⟨w.heap.size, 3, none⟩ = some (.int .i64 ct) := blk_cell hp 3
        have d4 : w1.cell? ⟨w.heap.size, 4, none⟩ = some (.int .i64 se) := blk_cell hp 4
        have d5 : w1.cell? ⟨w.heap.size, 5, none⟩ = some (.bool kp) := blk_cell hp 5
        have d6 : w1.cell? ⟨w.heap.size, 6, none⟩ = some (.bool sw) := blk_cell hp 6
        have d7 : w1.cell? ⟨w.heap.size, 7, none⟩ = some (.bool up) := blk_cell hp 7
        have d8 : w1.cell? ⟨w.heap.size, 8, none⟩ = some (.bool lo) := blk_cell hp 8
        have d9 : w1.cell? ⟨w.heap.size, 9, none⟩ = some (.bool sy) := blk_cell hp 9
        have HP1 := Lib.hid hp
        have HB1 := Lib.hid ((below_alloc (Below.refl _ w) _).trans (hb.mono (by simp)))
        clear hb hp
        go_wp2_with fail
        refine (HCK.out _).mono ?_
        rintro e w2 ⟨rfl, hb⟩
        have HB2 := Lib.hid (HB1.out.trans (hb.mono HB1.out.size))
        have hp := blk_below HP1.out hb
        clear hb d0 d1 d2 d3 d4 d5 d6 d7 d8 d9
        have d0 : w2.cell? ⟨w.heap.size, 0, none⟩ = some (.int .i64 i) := blk_cell hp 0
        clear hp
        go_wp2_with fail
        refine (HAL.out _).mono ?_
        rintro e w3 ⟨rfl, hb⟩
        have HB3 := Lib.hid (HB2.out.trans (hb.mono HB2.out.size))
        clear hb
        go_wp2_with fail
        go_ret
        exact ⟨rfl, HB3.out⟩
      · have hfa := ok_facts HOK.out
        obtain ⟨r, n0, n1, n2, n3, h1, hn1, hn0, hrs, hn2, hn3, hsy, hns, hct⟩ := counts_out (PL.with PL.sk PL.ct 0) (with_ok HOK.out _ _ _ hfa.2.2.1 (by omega)) (by rw [hPL]; show i ≤ 100; omega) rfl s (by omega)
        have hz : (⟨#[]⟩ : ByteArray).size ≤ 1048576 := by decide
        have R1 := run_known _ s ⟨#[]⟩ _ _ _ _ _ (with_ok HOK.out _ _ _ hfa.2.2.1 (by omega)) (by omega) hz h1
        rw [hPL] at R1 hn2 hn3 hsy hns hct hfa
        simp only [Pl.with, Pl.cells] at R1 hn2 hn3 hsy hns hct hfa
        replace R1 := Lib.hid R1
        have HSY := Lib.hid hsy
        have HNS := Lib.hid hns
        have HCT := Lib.hid hct
        have HN2 := Lib.hid hn2
        have HN3 := Lib.hid hn3
        have HFA := Lib.hid hfa
        have hi1 : 1 ≤ i := hfa.1.1
        have ho1 : 1 ≤ ou := hfa.2.1.1
        have ho2 : ou ≤ 65536 := hfa.2.1.2
        have hn0' : (n0 : Int) ≤ 5000 := by omega
        have hn1' : (n1 : Int) ≤ 1 := by omega
        have hrs' : (r.size : Int) ≤ 6000 := by omega
        clear h1 hz hsy hns hct hn2 hn3 hfa hn0 hn1 hrs
        go_enter Tryd.func6, Tryd.ntmps6
        go_wp2_with fail
        refine (HAL.out _).mono ?_
        rintro e w1 ⟨rfl, hb⟩
        have hp := (hb.block w.heap.size (by simp)).trans (heap_alloc_new w _)
        have d0 : w1.cell? ⟨w.heap.size, 0, none⟩ = some (.int .i64 i) := blk_cell hp 0
        have d1 : w1.cell? ⟨w.heap.size, 1, none⟩ = some (.int .i64 ou) := blk_cell hp 1
        have d2 : w1.cell? ⟨w.heap.size, 2, none⟩ = some (.int .i64 sk) := blk_cell hp 2
        have d3 : w1.cell? ⟨w.heap.size, 3, none⟩ = some (.int .i64 ct) := blk_cell hp 3
        have d4 : w1.cell? ⟨w.heap.size, 4, none⟩ = some (.int .i64 se) := blk_cell hp 4
        have d5 : w1.cell? ⟨w.heap.size, 5, none⟩ = some (.bool kp) := blk_cell hp 5
        have d6 : w1.cell? ⟨w.heap.size, 6, none⟩ = some (.bool sw) := blk_cell hp 6
        have d7 : w1.cell? ⟨w.heap.size, 7, none⟩ = some (.bool up) := blk_cell hp 7
        have d8 : w1.cell? ⟨w.heap.size, 8, none⟩ = some (.bool lo) := blk_cell hp 8
        have d9 : w1.cell? ⟨w.heap.size, 9, none⟩ = some (.bool sy) := blk_cell hp 9
        have HP1 := Lib.hid hp
        have HB1 := Lib.hid ((below_alloc (Below.refl _ w) _).trans (hb.mono (by simp)))
        clear hb hp
        go_wp2_with fail
        refine (HCK.out _).mono ?_
        rintro e w2 ⟨rfl, hb⟩
        clear d0 d1 d2 d3 d4 d5 d6 d7 d8 d9
        have hp := blk_below HP1.out hb
        have d0 : w2.cell? ⟨w.heap.size, 0, none⟩ = some (.int .i64 i) := blk_cell hp 0
        have d1 : w2.cell? ⟨w.heap.size, 1, none⟩ = some (.int .i64 ou) := blk_cell hp 1
        have d2 : w2.cell? ⟨w.heap.size, 2, none⟩ = some (.int .i64 sk) := blk_cell hp 2
        have d3 : w2.cell? ⟨w.heap.size, 3, none⟩ = some (.int .i64 ct) := blk_cell hp 3
        have d4 : w2.cell? ⟨w.heap.size, 4, none⟩ = some (.int .i64 se) := blk_cell hp 4
        have d5 : w2.cell? ⟨w.heap.size, 5, none⟩ = some (.bool kp) := blk_cell hp 5
        have d6 : w2.cell? ⟨w.heap.size, 6, none⟩ = some (.bool sw) := blk_cell hp 6
        have d7 : w2.cell? ⟨w.heap.size, 7, none⟩ = some (.bool up) := blk_cell hp 7
        have d8 : w2.cell? ⟨w.heap.size, 8, none⟩ = some (.bool lo) := blk_cell hp 8
        have d9 : w2.cell? ⟨w.heap.size, 9, none⟩ = some (.bool sy) := blk_cell hp 9
        have f4 : w2.frozen? ⟨w.heap.size, 4, none⟩ = false := blk_frozen hp 4
        have HP2 := Lib.hid (blk_set hp 4 (.int .i64 0))
        have HB2 := Lib.hid ((HB1.out.trans (hb.mono HB1.out.size)).setCell (p := ⟨w.heap.size, 4, none⟩) (by simp) (.int .i64 0))
        clear hb hp
        go_wp2_with fail
        refine (R1.out _).mono ?_
        rintro e w3 ⟨rfl, hb⟩
        clear d0 d1 d2 d3 d4 d5 d6 d7 d8 d9 f4
        have hp := blk_below HP2.out hb
        have d0 : w3.cell? ⟨w.heap.size, 0, none⟩ = some (.int .i64 i) := blk_cell hp 0
        have d1 : w3.cell? ⟨w.heap.size, 1, none⟩ = some (.int .i64 ou) := blk_cell hp 1
        have d2 : w3.cell? ⟨w.heap.size, 2, none⟩ = some (.int .i64 sk) := blk_cell hp 2
        have d3 : w3.cell? ⟨w.heap.size, 3, none⟩ = some (.int .i64 ct) := blk_cell hp 3
        have d4 : w3.cell? ⟨w.heap.size, 4, none⟩ = some (.int .i64 0) := blk_cell hp 4
        have d5 : w3.cell? ⟨w.heap.size, 5, none⟩ = some (.bool kp) := blk_cell hp 5
        have d6 : w3.cell? ⟨w.heap.size, 6, none⟩ = some (.bool sw) := blk_cell hp 6
        have d7 : w3.cell? ⟨w.heap.size, 7, none⟩ = some (.bool up) := blk_cell hp 7
        have d8 : w3.cell? ⟨w.heap.size, 8, none⟩ = some (.bool lo) := blk_cell hp 8
        have d9 : w3.cell? ⟨w.heap.size, 9, none⟩ = some (.bool sy) := blk_cell hp 9
        have hl3 : w.heap.size < w3.heap.size := blk_lt hp
        have HB3 := Lib.hid (HB2.out.trans (hb.mono HB2.out.size))
        clear hb hp
        go_wp2_with fail
        have hn3r : 0 ≤ n3 ∧ n3 ≤ 1 := by
          have h1 := Int.emod_nonneg (r.size : Int) (show ou ≠ 0 by omega)
          rw [HN3.out]; omega
        obtain ⟨hn3a, hn3b⟩ := hn3r
        have e1 : decide ((n0 : Int) < 0) = false := decide_eq_false (by omega)
        have e2 : decide ((n1 : Int) < 0) = false := decide_eq_false (by omega)
        have e3 : decide ((n1 : Int) > 1) = false := decide_eq_false (by omega)
        have e4 : decide (n3 < 0) = false := decide_eq_false (by omega)
        have e5 : decide (n3 > 1) = false := decide_eq_false (by omega)
        have hou0 : ou ≠ 0 := by omega
        have hrn : 0 ≤ (r.size : Int) := by omega
        have hn2r : 0 ≤ n2 ∧ n2 ≤ 6000 := by
          have h1 : 0 ≤ (r.size : Int) / ou := Int.ediv_nonneg hrn (by omega)
          have h2 : (r.size : Int) / ou ≤ r.size := Int.ediv_le_self _ hrn
          rw [HN2.out]; omega
        obtain ⟨m, hm⟩ : ∃ m, (r.size : Int) % ou = m := ⟨_, rfl⟩
        have hm1 : 0 ≤ m ∧ m < ou := by rw [← hm]; exact ⟨Int.emod_nonneg _ hou0, Int.emod_lt_of_pos _ (by omega)⟩
        have h4 : (m + ou - 1) / ou = n3 := by
          have := fourth (r.size : Int) ou hrn ho1
          rw [hm, ← hm, ← HN3.out, hm] at this
          exact this.symm
        have g1 : (r.size : Int).tdiv ou = n2 := by rw [Int.tdiv_eq_ediv_of_nonneg hrn]; exact HN2.out.symm
        have g2 : (r.size : Int) / ou = n2 := HN2.out.symm
        have g3 : IntKind.i64.wrap n2 = n2 := by rw [IntKind.wrap_i64]; omega
        have g4 : (r.size : Int).tmod ou = m := by rw [Int.tmod_eq_emod_of_nonneg hrn]; exact hm
        have g5 : IntKind.i64.wrap (m + ou) = m + ou := by rw [IntKind.wrap_i64]; omega
        have g6 : IntKind.i64.wrap (m + ou - 1) = m + ou - 1 := by rw [IntKind.wrap_i64]; omega
        have g7 : (m + ou - 1).tdiv ou = n3 := by rw [Int.tdiv_eq_ediv_of_nonneg (by omega)]; exact h4
        have g8 : IntKind.i64.wrap n3 = n3 := by rw [IntKind.wrap_i64]; omega
        clear hm1 hn2r
        go_quiet (fail)
        clear g1 g2 g3 g4 g5 g6 g7 g8 e1 e2 e3 e4 e5 h4 hm
        have HBF : Hid (∀ k, Below w.heap.size w ((w3.alloc (.cells #[.int .i64 n0, .int .i64 n1, .int .i64 n2, .int .i64 n3] 27)).drewN k)) := Lib.hid fun k => pw_below_drewN (below_alloc HB3.out _) k
        cases sy with
        | true =>
          have hsy := HSY.out rfl
          have m1 : 0 ≤ ((n0 : Int) + n1) * i := by omega
          have m2 : ((n0 : Int) + n1) * i ≤ 6000 := by omega
          have m3 : ((r.size : Int) == ((n0 : Int) + n1) * i) = true := beq_iff_eq.2 hsy
          clear hsy
          go_wp2_with fail
          go_ret
          exact ⟨rfl, HBF.out _⟩
        | false =>
          have hns := HNS.out rfl
          have hn0n : 0 ≤ (n0 : Int) * i := Int.mul_nonneg (by omega) (by omega)
          by_cases c3 : n1 = 1
          · rw [if_pos c3] at hns
            obtain ⟨l, hl⟩ : ∃ l, (s.size : Int) % i = l := ⟨_, rfl⟩
            have hl1 : 0 ≤ l := by rw [← hl]; exact Int.emod_nonneg _ (by omega)
            have hl2 : l < i := by rw [← hl]; exact Int.emod_lt_of_pos _ (by omega)
            rw [hl] at hns
            have m2 : (n0 : Int) * i ≤ 6000 := by omega
            have m3 : ((r.size : Int) == (n0 : Int) * i + l) = true := beq_iff_eq.2 hns
            have b1 : ((n1 : Int) == 1) = true := beq_iff_eq.2 (by omega)
            have hi0 : i ≠ 0 := by omega
            clear hns c3
            by_cases c4 : ct < 0
            · have b2 : decide (ct < 0) = true := decide_eq_true c4
              go_wp2_with fail
              go_ret
              exact ⟨rfl, HBF.out _⟩
            · have b2 : decide (ct < 0) = false := decide_eq_false c4
              have b3 : (n0 : Int) + n1 ≤ ct := HCT.out.resolve_left c4
              have b4 : decide ((n0 : Int) + n1 ≤ ct) = true := decide_eq_true b3
              go_wp2_with fail
              go_ret
              exact ⟨rfl, HBF.out _⟩
          · rw [if_neg c3, Int.add_zero] at hns
            have m2 : (n0 : Int) * i ≤ 6000 := by omega
            have m3 : ((r.size : Int) == (n0 : Int) * i) = true := beq_iff_eq.2 hns
            have b1 : ((n1 : Int) == 1) = false := beq_eq_false_iff_ne.2 (by omega)
            clear hns
            by_cases c4 : ct < 0
            · have b2 : decide (ct < 0) = true := decide_eq_true c4
              go_wp2_with fail
              go_ret
              exact ⟨rfl, HBF.out _⟩
            · have b2 : decide (ct < 0) = false := decide_eq_false c4
              have b3 : (n0 : Int) + n1 ≤ ct := HCT.out.resolve_left c4
              have b4 : decide ((n0 : Int) + n1 ≤ ct) = true := decide_eq_true b3
              go_wp2_with fail
              go_ret
              exact ⟨rfl, HBF.out _⟩

def toolchestlaw11_BlocksCounts.f (p : Pl) (s : ByteArray) : Option Bool := if (-9223372036854775808 ≤ p.i ∧ p.i ≤ 9223372036854775807) ∧ s.size ≤ 140737488351232 then some true else none
theorem toolchestlaw11_BlocksCounts.calls (p : Pl) (s : ByteArray) (r : Bool) (w : World) (h : toolchestlaw11_BlocksCounts.f p s = some r) :
    Calls Tryd.prog 6 #[.agg p.cells, .string s] w fun e w' => e = .returned (.bool r) ∧ Below w.heap.size w w' := by
  unfold toolchestlaw11_BlocksCounts.f at h
  by_cases hc : (-9223372036854775808 ≤ p.i ∧ p.i ≤ 9223372036854775807) ∧ s.size ≤ 140737488351232
  · rw [if_pos hc] at h
    obtain rfl : true = r := Option.some.inj h
    exact counts_walk p s hc.1 hc.2 w
  · rw [if_neg hc] at h; cases h
theorem blocksCounts_pure (p : Pl) (s : ByteArray) (h1 : s.size ≤ 140737488351232) (h2 : -9223372036854775808 ≤ p.i ∧ p.i ≤ 9223372036854775807) : toolchestlaw11_BlocksCounts.f p s = some true := if_pos ⟨h2, h1⟩
end Go.Proofs.YtomnpmfmlbmpeaaDoor.L
