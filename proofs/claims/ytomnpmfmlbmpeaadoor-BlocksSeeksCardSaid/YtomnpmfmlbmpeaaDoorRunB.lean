/- blocks.Run: a plan that may not be; the contract as a plain call. -/
import Derived.Test.YtomnpmfmlbmpeaaDoorRun
namespace Go.Proofs.YtomnpmfmlbmpeaaDoor.L
open Go.RowKit Go.Shelf Go.Proofs.YtomnpmfmlbmpeaaDoorW.PrintWords

attribute [local go_sem] Oper.semAt_some

theorem run_calls (p : Pl) (s o : ByteArray) (w : World) (hok : p.ok = true) (hs : s.size ≤ 1048576) (ho : o.size ≤ 1048576) :
    Calls Tryd.prog 10 #[.agg p.cells, .string s, .string o] w fun e w' => e = .returned (runV (runOut p s o)) ∧ Below w.heap.size w w' :=
  callsIn_wide.1 (run_in p s o w hok hs ho)

set_option maxRecDepth 100000 in
set_option maxHeartbeats 4000000 in
theorem run_bad (p : Pl) (s o : ByteArray) (w : World) (hok : p.ok = false) :
    Calls Tryd.prog 10 #[.agg p.cells, .string s, .string o] w fun e w' => e = .returned (runV (⟨#[]⟩, 0, 0, 0, 0, 1)) ∧ Below w.heap.size w w' := by
  refine (callsIn_wide (n := 3)).1 ?_
  have hcheck := fun W => callsIn_wide (n := 2).2 (check_walk p W)
  rw [hok] at hcheck
  obtain ⟨i, ou, sk, ct, se, kp, sw, up, lo, sy⟩ := p
  simp only [Pl.cells] at hcheck ⊢
  have HC := Lib.hid hcheck
  clear hcheck hok
  refine callsIn_of_wp_marks Tryd.func10 rfl trivial ?_ rfl
  simp only [Tryd.ntmps10, List.size_toArray, List.length_cons, List.length_nil, Nat.reduceAdd, Nat.reduceSub, Array.replicate_succ, Array.replicate_zero, List.push_toArray, List.append_toArray, List.nil_append, List.cons_append]
  gi_wp2
  refine ⟨trivial, (HC.out _).mono ?_⟩
  rintro e W1 ⟨rfl, hb1⟩
  have hsz0 : ((w.alloc (.cells #[.int .i64 i, .int .i64 ou, .int .i64 sk, .int .i64 ct, .int .i64 se, .bool kp, .bool sw, .bool up, .bool lo, .bool sy] 26)).alloc (.cells #[.int .i64 0, .int .i64 0, .int .i64 0, .int .i64 0] 27)).heap.size = w.heap.size + 2 := by simp
  have hl1 : w.heap.size + 2 ≤ W1.heap.size := by have := hb1.size; rw [hsz0] at this; exact this
  have hn1 : W1.heap[w.heap.size + 1]? = some (.cells #[.int .i64 0, .int .i64 0, .int .i64 0, .int .i64 0] 27 (0, 0)) := by
    rw [hb1.block _ (by rw [hsz0]; omega)]
    have := heap_alloc_new (w.alloc (.cells #[.int .i64 i, .int .i64 ou, .int .i64 sk, .int .i64 ct, .int .i64 se, .bool kp, .bool sw, .bool up, .bool lo, .bool sy] 26)) (.cells #[.int .i64 0, .int .i64 0, .int .i64 0, .int .i64 0] 27)
    rwa [World.size_alloc] at this
  have hB1 : Below w.heap.size w W1 := ((((Below.refl _ w).alloc (Nat.le_refl _) _).alloc (by simp) _).trans (hb1.mono (by simp; omega)))
  have d0 : W1.cell? ⟨w.heap.size + 1, 0, none⟩ = some (.int .i64 0) := blk_cell hn1 0
  have d1 : W1.cell? ⟨w.heap.size + 1, 1, none⟩ = some (.int .i64 0) := blk_cell hn1 1
  have d2 : W1.cell? ⟨w.heap.size + 1, 2, none⟩ = some (.int .i64 0) := blk_cell hn1 2
  have d3 : W1.cell? ⟨w.heap.size + 1, 3, none⟩ = some (.int .i64 0) := blk_cell hn1 3
  have f0 : W1.frozen? ⟨w.heap.size + 1, 0, none⟩ = false := blk_frozen hn1 0
  have f1 : W1.frozen? ⟨w.heap.size + 1, 1, none⟩ = false := blk_frozen hn1 1
  have f2 : W1.frozen? ⟨w.heap.size + 1, 2, none⟩ = false := blk_frozen hn1 2
  have f3 : W1.frozen? ⟨w.heap.size + 1, 3, none⟩ = false := blk_frozen hn1 3
  have HN1 := Lib.hid hn1
  have HB1 := Lib.hid hB1
  clear hn1 hB1 hb1 hsz0
  gi_wp2
  gi_region
  gi_wp2
  exact ⟨_, results_tct Tryd.results10 _ _ (w.heap.size + 1) 27 _ (0, 0) _ rfl (blk_drew (blk_set (blk_set (blk_set (blk_set HN1.out 0 _) 1 _) 2 _) 3 _)) Tryd.underlying27 rfl info27, rfl,
    ((((HB1.out.setCell (p := ⟨w.heap.size + 1, 0, none⟩) (by simp) _).setCell (p := ⟨w.heap.size + 1, 1, none⟩) (by simp) _).setCell (p := ⟨w.heap.size + 1, 2, none⟩) (by simp) _).setCell (p := ⟨w.heap.size + 1, 3, none⟩) (by simp) _).drew⟩
end Go.Proofs.YtomnpmfmlbmpeaaDoor.L
