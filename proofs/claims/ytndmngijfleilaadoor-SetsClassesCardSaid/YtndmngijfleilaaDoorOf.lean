/- sets.of: the walk. -/
import Derived.WalkSmall
import Derived.Lib.Hide
import Derived.Laws.Rows
import Derived.Laws.Tables
import Derived.Laws.CopyRow
import Derived.Deep.WholeRow
import Derived.LoopTactic
import Derived.Test.YtndmngijfleilaaDoorLx0
namespace Go.Proofs.YtndmngijfleilaaDoor.L
open Go.RowKit Go.Proofs.YtndmngijfleilaaDoorW.PrintWords

/-- 256 cells that hold bools. -/
def bvals (f : Nat → Bool) : Array Value := ((List.range 256).map fun j => Value.bool (f j)).toArray
theorem bvals_size (f : Nat → Bool) : (bvals f).size = 256 := by simp [bvals]
theorem bvals_get (f : Nat → Bool) (j : Nat) (h : j < 256) : (bvals f)[j]? = some (.bool (f j)) := by simp [bvals, h]
theorem bvals_set (f : Nat → Bool) (i : Nat) (b : Bool) : (bvals f).setIfInBounds i (.bool b) = bvals fun j => if j = i then b else f j := by
  apply Array.ext
  · simp [bvals]
  · intro j h1 h2
    simp only [bvals, List.setIfInBounds_toArray, List.getElem_toArray, List.getElem_set, List.getElem_map, List.getElem_range]
    by_cases h : i = j
    · subst h; simp
    · rw [if_neg h, if_neg (fun e => h e.symm)]
theorem bvals_one (f : Nat → Bool) : (bvals f).all (·.oneCell') = true := by
  rw [Array.all_eq_true_iff_forall_mem]
  intro x hx
  simp only [bvals, List.mem_toArray, List.mem_map] at hx
  obtain ⟨j, _, rfl⟩ := hx
  rfl
/-- Which bytes stand in a list. -/
def inB (l : List Int) (j : Nat) : Bool := l.contains (j : Int)
theorem info42 : (Tryd.prog.info? 42).map (fun i => (i.zero, i.size)) = some (some (.agg (bvals (inB []))), 256) := by kernel_rfl
theorem size42 : (Tryd.prog.info? 42).map (·.size) = some 256 := (zero_of_info info42).2

theorem inB_snoc (l : List Int) (c : Int) (h0 : 0 ≤ c) : (fun j => if j = c.toNat then true else inB l j) = inB (l ++ [c]) := by
  funext j
  unfold inB
  by_cases h : j = c.toNat
  · rw [if_pos h]
    have : (j : Int) = c := by omega
    rw [this]
    simp
  · rw [if_neg h]
    have : ¬ (j : Int) = c := by omega
    simp [this]
theorem rd_get (l : List Int) (k : Nat) (h : k < l.length) : rd l (k : Int) = l[k] := by
  unfold rd
  rw [Int.toNat_natCast, List.getD_eq_getElem?_getD, List.getElem?_eq_getElem h]
  rfl
theorem rd_take (l : List Int) (k : Nat) (h : k < l.length) : l.take (k + 1) = l.take k ++ [rd l (k : Int)] := by
  rw [rd_get l k h]
  exact List.take_succ_eq_append_getElem h

set_option maxHeartbeats 4000000 in
set_option maxRecDepth 100000 in
theorem of_walk (A0 : Option Addr) (c0 : Nat) (l0 : List Int) (w : World) (hr0 : Kd.C (Kd.int .u8) w A0 l0.length l0) (hlen : l0.length ≤ 140737488351232) (hb0 : ∀ x ∈ l0, 0 ≤ x ∧ x ≤ 255) :
    Calls Tryd.prog 19 #[.slice A0 l0.length c0] w fun e w' => e = .returned (.agg (bvals (inB l0))) ∧ Below w.heap.size w w' := by
  have HR0 := Lib.hid hr0
  have HL := Lib.hid hlen
  have hz := (zero_of_info info42).1
  clear hr0 hlen
  go_enter Tryd.func19, Tryd.ntmps19
  go_wp2
  go_loopw [7] (fun v7 wr => ∃ k : Nat, k ≤ l0.length ∧ v7 = .int .i64 k ∧ Hid (wr.heap[w.heap.size]? = some (.cells (bvals (inB (l0.take k))) 42 (0, 0))) ∧ Hid (Below w.heap.size w wr)) (fun v7 _ => l0.length - (intOf v7).toNat)
  case atStart => exact ⟨0, Nat.zero_le _, rfl, Lib.hid (heap_alloc_new w _), Lib.hid ((Below.refl _ w).alloc (Nat.le_refl _) _)⟩
  case round =>
    obtain ⟨k, hk, rfl, HK, HB⟩ := hrel
    by_cases hlt : k < l0.length
    · have hltI : (k : Int) < (l0.length : Int) := by omega
      have hk0 : (0 : Int) ≤ (k : Int) := by omega
      obtain ⟨ad, hA, hcell⟩ := Kd.at_int (Kd.C_below HR0.out HB.out) (k : Int) hk0 hltI
      subst hA
      rw [Int.toNat_natCast] at hcell
      have hmem : rd l0 (k : Int) ∈ l0 := by rw [rd_get l0 k hlt]; exact List.getElem_mem hlt
      have hrng := hb0 _ hmem
      have hts := rd_take l0 k hlt
      obtain ⟨c, hc⟩ : ∃ c, rd l0 (k : Int) = c := ⟨_, rfl⟩
      rw [hc] at hcell hrng hts
      have h0 : 0 ≤ c := hrng.1
      have h1 : c < 256 := by omega
      have h2 : c.toNat < 256 := by omega
      have hblk := HK.out
      have hcl : wr.cell? ⟨w.heap.size, c.toNat, none⟩ = some (.bool (inB (l0.take k) c.toNat)) := (blk_cell hblk _).trans (bvals_get _ _ h2)
      have hfz := blk_frozen hblk c.toNat
      have HT := Lib.hid hts
      have HS := Lib.hid (inB_snoc (l0.take k) c h0)
      have hlm : l0.length ≤ 140737488351232 := HL.out
      clear hts hmem hrng hc hblk hk
      go_wp2
      go_roundw
      case rel =>
        refine ⟨k + 1, by omega, by go_num, Lib.hid ?_, Lib.hid (HB.out.setCell (p := ⟨w.heap.size, c.toNat, none⟩) (Nat.le_refl _) _)⟩
        rw [HT.out, ← HS.out, ← bvals_set]
        exact blk_set HK.out _ _
      case measure => simp [intOf]; omega
    · obtain rfl : k = l0.length := by omega
      have hblk := HK.out
      rw [List.take_length] at hblk
      have HK2 := Lib.hid hblk
      go_wp2_with (first
        | (refine wpList_load_row rfl 42 _ rfl w.heap.size rfl 42 _ (0, 0) _ hblk Tryd.underlying42 rfl (by rw [bvals_size]; exact size42) ?_)
        | (refine wpList_store_row rfl 42 _ _ rfl w.heap.size (bvals (inB l0)) rfl rfl 42 _ hblk (by rw [bvals_size]; exact size42) rfl (bvals_one _) ?_))
      rw [setRow_self _ _ _ _ _ HK2.out]
      exact bodyPost_ret (v := .agg (bvals (inB l0))) (results_cell_row Tryd.results19 _ _ w.heap.size 42 _ (0, 0) _ rfl HK2.out Tryd.underlying42 rfl (by rw [bvals_size]; exact size42)) rfl ⟨rfl, HB.out⟩
end Go.Proofs.YtndmngijfleilaaDoor.L
