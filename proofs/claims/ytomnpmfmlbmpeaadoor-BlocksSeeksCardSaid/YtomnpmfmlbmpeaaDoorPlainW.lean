/- BlocksPlain: the walk. -/
import Derived.Test.YtomnpmfmlbmpeaaDoorAlive
import Derived.Test.YtomnpmfmlbmpeaaDoorPlainP
namespace Go.Proofs.YtomnpmfmlbmpeaaDoor.L
open Go.RowKit Go.Proofs.YtomnpmfmlbmpeaaDoorW.PrintWords

/-- A call of Run whose answer is known. -/
theorem run_known (p : Pl) (s o r : ByteArray) (x y z u : Int) (hok : p.ok = true) (hs : s.size ≤ 1048576) (ho : o.size ≤ 1048576) (h : runOut p s o = (r, x, y, z, u, 0)) (W : World) :
    Calls Tryd.prog 10 #[.agg p.cells, .string s, .string o] W fun e w' => e = .returned (.tuple #[.string r, .agg #[.int .i64 x, .int .i64 y, .int .i64 z, .int .i64 u], .int .i64 0]) ∧ Below W.heap.size W w' :=
  (run_calls p s o W hok hs ho).mono fun e w' hh => by rw [h] at hh; exact hh
theorem plP_ok (a b : Int) (kp sw up lo : Bool) (ha : 1 ≤ a ∧ a ≤ 65536) (hb : 1 ≤ b ∧ b ≤ 65536) (h : (!up || !lo) = true) : (plP a b kp sw up lo).ok = true := by
  unfold Pl.ok plP
  simp only
  rw [decide_eq_true ha, decide_eq_true hb, h]
  rfl

set_option maxHeartbeats 4000000 in
set_option maxRecDepth 100000 in
theorem plain_walk (s o : ByteArray) (a b : Int) (ha : 0 ≤ a ∧ a ≤ 65535) (hb : 0 ≤ b ∧ b ≤ 65535) (hs : s.size ≤ 140737488351232) (ho : o.size ≤ 140737488351232) (w : World) :
    Calls Tryd.prog 3 #[.string s, .string o, .agg #[.int .u16 a, .int .u16 b]] w fun e w' => e = .returned (.bool true) ∧ Below w.heap.size w w' := by
  have HAL := Lib.hid (fun W => alive_walk W)
  by_cases c1 : (s.size : Int) > 100000
  · go_enter Tryd.func3, Tryd.ntmps3
    go_wp2_with fail
    refine (HAL.out _).mono ?_
    rintro e w1 ⟨rfl, hb1⟩
    have HB1 := Lib.hid ((below_alloc (Below.refl _ w) _).trans (hb1.mono (by simp)))
    clear hb1
    go_wp2_with fail
    refine (HAL.out _).mono ?_
    rintro e w2 ⟨rfl, hb2⟩
    have HB2 := Lib.hid (HB1.out.trans (hb2.mono HB1.out.size))
    clear hb2
    go_wp2_with fail
    go_ret
    exact ⟨rfl, HB2.out⟩
  · by_cases c2 : (o.size : Int) > 100000
    · go_enter Tryd.func3, Tryd.ntmps3
      go_wp2_with fail
      refine (HAL.out _).mono ?_
      rintro e w1 ⟨rfl, hb1⟩
      have HB1 := Lib.hid ((below_alloc (Below.refl _ w) _).trans (hb1.mono (by simp)))
      clear hb1
      go_wp2_with fail
      refine (HAL.out _).mono ?_
      rintro e w2 ⟨rfl, hb2⟩
      have HB2 := Lib.hid (HB1.out.trans (hb2.mono HB1.out.size))
      clear hb2
      go_wp2_with fail
      go_ret
      exact ⟨rfl, HB2.out⟩
    · obtain ⟨x, y, z, u, h1⟩ := plain_out (a + 1) (b + 1) (by omega) s o (by omega)
      obtain ⟨x', y', z', u', h2⟩ := plain_keep (a + 1) (b + 1) (by omega) s o (by omega)
      have R1 := Lib.hid (run_known (plP (a + 1) (b + 1) false false false false) s o s x y z u (plP_ok _ _ _ _ _ _ (by omega) (by omega) rfl) (by omega) (by omega) h1)
      have R2 := run_known (plP (a + 1) (b + 1) true false false false) s o _ x' y' z' u' (plP_ok _ _ _ _ _ _ (by omega) (by omega) rfl) (by omega) (by omega) h2
      have hwant : (o.size : Int) > s.size ∨ s ++ o.extract s.size o.size = s := by
        by_cases h : (o.size : Int) > s.size
        · exact .inl h
        · refine .inr ?_
          have e : o.extract s.size o.size = ByteArray.empty := by
            apply ByteArray.ext
            simp [ByteArray.data_extract]
            show o.size ≤ s.size
            omega
          rw [e]; simp
      have HW := Lib.hid hwant
      obtain ⟨ta, hta⟩ : ∃ ta, s ++ o.extract s.size o.size = ta := ⟨_, rfl⟩
      rw [hta] at R2 HW
      have HR2 := Lib.hid R2
      have HTA := Lib.hid hta
      clear h1 h2 R2 hta hwant
      obtain ⟨ha1, ha2⟩ := ha
      obtain ⟨hb1, hb2⟩ := hb
      by_cases c3 : (o.size : Int) > s.size
      · go_enter Tryd.func3, Tryd.ntmps3
        go_wp2_with fail
        refine (HAL.out _).mono ?_
        rintro e w1 ⟨rfl, hb1⟩
        have ha0 := (hb1.block w.heap.size (by simp)).trans (heap_alloc_new w _)
        have q0 : w1.cell? ⟨w.heap.size, 0, none⟩ = some (.int .u16 a) := blk_cell ha0 0
        have q1 : w1.cell? ⟨w.heap.size, 1, none⟩ = some (.int .u16 b) := blk_cell ha0 1
        have HB1 := Lib.hid ((below_alloc (Below.refl _ w) _).trans (hb1.mono (by simp)))
        have hl : w.heap.size < w1.heap.size := by have := hb1.size; simp at this; omega
        clear hb1 ha0
        go_wp2_with fail
        refine (R1.out _).mono ?_
        rintro e w2 ⟨rfl, hb2⟩
        have hp2 := (hb2.block w1.heap.size (by simp)).trans (heap_alloc_new w1 _)
        have d0 : w2.cell? ⟨w1.heap.size, 0, none⟩ = some (.int .i64 (a + 1)) := blk_cell hp2 0
        have d1 : w2.cell? ⟨w1.heap.size, 1, none⟩ = some (.int .i64 (b + 1)) := blk_cell hp2 1
        have d2 : w2.cell? ⟨w1.heap.size, 2, none⟩ = some (.int .i64 0) := blk_cell hp2 2
        have d3 : w2.cell? ⟨w1.heap.size, 3, none⟩ = some (.int .i64 (-1)) := blk_cell hp2 3
        have d4 : w2.cell? ⟨w1.heap.size, 4, none⟩ = some (.int .i64 0) := blk_cell hp2 4
        have d5 : w2.cell? ⟨w1.heap.size, 5, none⟩ = some (.bool false) := blk_cell hp2 5
        have d6 : w2.cell? ⟨w1.heap.size, 6, none⟩ = some (.bool false) := blk_cell hp2 6
        have d7 : w2.cell? ⟨w1.heap.size, 7, none⟩ = some (.bool false) := blk_cell hp2 7
        have d8 : w2.cell? ⟨w1.heap.size, 8, none⟩ = some (.bool false) := blk_cell hp2 8
        have d9 : w2.cell? ⟨w1.heap.size, 9, none⟩ = some (.bool false) := blk_cell hp2 9
        have f5 : w2.frozen? ⟨w1.heap.size, 5, none⟩ = false := blk_frozen hp2 5
        have hl2 : w1.heap.size < w2.heap.size := blk_lt hp2
        have HB2 := Lib.hid ((below_alloc HB1.out _).trans (hb2.mono (below_alloc HB1.out _).size))
        have HBa := Lib.hid HB1.out.size
        clear hb2 hp2 q0 q1 hl
        go_wp2_with fail
        refine (HR2.out _).mono ?_
        rintro e w3 ⟨rfl, hb3⟩
        have HB3 := Lib.hid ((below_alloc (HB2.out.setCell (p := ⟨w1.heap.size, 5, none⟩) HBa.out (.bool true)) _).trans (hb3.mono (below_alloc (HB2.out.setCell (p := ⟨w1.heap.size, 5, none⟩) HBa.out (.bool true)) _).size))
        clear hb3 d0 d1 d2 d3 d4 d5 d6 d7 d8 d9 f5
        have hta := HTA.out
        go_wp2_with fail
        go_ret
        exact ⟨rfl, below_alloc HB3.out _⟩
      · go_enter Tryd.func3, Tryd.ntmps3
        go_wp2_with fail
        refine (HAL.out _).mono ?_
        rintro e w1 ⟨rfl, hb1⟩
        have ha0 := (hb1.block w.heap.size (by simp)).trans (heap_alloc_new w _)
        have q0 : w1.cell? ⟨w.heap.size, 0, none⟩ = some (.int .u16 a) := blk_cell ha0 0
        have q1 : w1.cell? ⟨w.heap.size, 1, none⟩ = some (.int .u16 b) := blk_cell ha0 1
        have HB1 := Lib.hid ((below_alloc (Below.refl _ w) _).trans (hb1.mono (by simp)))
        have hl : w.heap.size < w1.heap.size := by have := hb1.size; simp at this; omega
        clear hb1 ha0
        go_wp2_with fail
        refine (R1.out _).mono ?_
        rintro e w2 ⟨rfl, hb2⟩
        have hp2 := (hb2.block w1.heap.size (by simp)).trans (heap_alloc_new w1 _)
        have d0 : w2.cell? ⟨w1.heap.size, 0, none⟩ = some (.int .i64 (a + 1)) := blk_cell hp2 0
        have d1 : w2.cell? ⟨w1.heap.size, 1, none⟩ = some (.int .i64 (b + 1)) := blk_cell hp2 1
        have d2 : w2.cell? ⟨w1.heap.size, 2, none⟩ = some (.int .i64 0) := blk_cell hp2 2
        have d3 : w2.cell? ⟨w1.heap.size, 3, none⟩ = some (.int .i64 (-1)) := blk_cell hp2 3
        have d4 : w2.cell? ⟨w1.heap.size, 4, none⟩ = some (.int .i64 0) := blk_cell hp2 4
        have d5 : w2.cell? ⟨w1.heap.size, 5, none⟩ = some (.bool false) := blk_cell hp2 5
        have d6 : w2.cell? ⟨w1.heap.size, 6, none⟩ = some (.bool false) := blk_cell hp2 6
        have d7 : w2.cell? ⟨w1.heap.size, 7, none⟩ = some (.bool false) := blk_cell hp2 7
        have d8 : w2.cell? ⟨w1.heap.size, 8, none⟩ = some (.bool false) := blk_cell hp2 8
        have d9 : w2.cell? ⟨w1.heap.size, 9, none⟩ = some (.bool false) := blk_cell hp2 9
        have f5 : w2.frozen? ⟨w1.heap.size, 5, none⟩ = false := blk_frozen hp2 5
        have hl2 : w1.heap.size < w2.heap.size := blk_lt hp2
        have HB2 := Lib.hid ((below_alloc HB1.out _).trans (hb2.mono (below_alloc HB1.out _).size))
        have HBa := Lib.hid HB1.out.size
        clear hb2 hp2 q0 q1 hl
        go_wp2_with fail
        refine (HR2.out _).mono ?_
        rintro e w3 ⟨rfl, hb3⟩
        have HB3 := Lib.hid ((below_alloc (HB2.out.setCell (p := ⟨w1.heap.size, 5, none⟩) HBa.out (.bool true)) _).trans (hb3.mono (below_alloc (HB2.out.setCell (p := ⟨w1.heap.size, 5, none⟩) HBa.out (.bool true)) _).size))
        clear hb3 d0 d1 d2 d3 d4 d5 d6 d7 d8 d9 f5
        have hta := HW.out.resolve_left (by omega)
        rw [hta]
        clear HTA
        go_wp2_with fail
        go_ret
        exact ⟨rfl, below_alloc HB3.out _⟩
def toolchestlaw11_BlocksPlain.f (s o : ByteArray) (a b : Int) : Option Bool := if (0 ≤ a ∧ a ≤ 65535) ∧ (0 ≤ b ∧ b ≤ 65535) ∧ s.size ≤ 140737488351232 ∧ o.size ≤ 140737488351232 then some true else none
theorem toolchestlaw11_BlocksPlain.calls (s o : ByteArray) (a b : Int) (r : Bool) (w : World) (h : toolchestlaw11_BlocksPlain.f s o a b = some r) :
    Calls Tryd.prog 3 #[.string s, .string o, .agg #[.int .u16 a, .int .u16 b]] w fun e w' => e = .returned (.bool r) ∧ Below w.heap.size w w' := by
  unfold toolchestlaw11_BlocksPlain.f at h
  by_cases hc : (0 ≤ a ∧ a ≤ 65535) ∧ (0 ≤ b ∧ b ≤ 65535) ∧ s.size ≤ 140737488351232 ∧ o.size ≤ 140737488351232
  · rw [if_pos hc] at h
    obtain rfl : true = r := Option.some.inj h
    exact plain_walk s o a b hc.1 hc.2.1 hc.2.2.1 hc.2.2.2 w
  · rw [if_neg hc] at h; cases h
theorem blocksPlain_pure (s o : ByteArray) (a b : Int) (h1 : s.size ≤ 140737488351232) (h2 : o.size ≤ 140737488351232) (h3 : 0 ≤ a ∧ a ≤ 65535) (h4 : 0 ≤ b ∧ b ≤ 65535) : toolchestlaw11_BlocksPlain.f s o a b = some true := if_pos ⟨h3, h4, h1, h2⟩
end Go.Proofs.YtomnpmfmlbmpeaaDoor.L
