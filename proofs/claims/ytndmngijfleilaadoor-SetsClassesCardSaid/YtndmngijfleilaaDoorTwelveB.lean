/- SetsClasses: the walk, where the twelve bools are those of three kinds of byte. -/
import Derived.Test.YtndmngijfleilaaDoorTwelveWalk
set_option linter.unusedVariables false
set_option linter.unusedSimpArgs false
namespace Go.Proofs.YtndmngijfleilaaDoor.L
open Go.RowKit Go.Proofs.YtndmngijfleilaaDoorW.PrintWords Go.Proofs.YtndmngijfleilaaDoorW.PrintLast Go.Proofs.YtndmngijfleilaaDoorW.PrintMore

set_option maxHeartbeats 16000000 in
set_option maxRecDepth 100000 in
theorem twelve_walk3 (c : Int) (w : World) (h0 : 0 ≤ c) (h1 : c ≤ 255) (G : Glob w) (hbc : bc12 (inTo c 12) = #[.bool false, .bool false, .bool true, .bool false, .bool false, .bool false, .bool false, .bool true, .bool false, .bool true, .bool false, .bool false]) (e1 : ¬ 32 < c) (e2 : c < 127) (e3 : c = 32) (e4 : c < 128) : Calls Tryd.prog 7 #[.int .u8 c] w fun e w' => e = .returned (.bool true) ∧ Below w.heap.size w w' := by
  have HG := Lib.hid G
  have _HE3 := Lib.hid e3
  clear e3
  have hz := (zero_of_info info36).1
  have h36 := size36
  clear G
  go_enter Tryd.func7, Tryd.ntmps7
  go_wp2
  go_loopw [5] (fun v5 wr => ∃ k : Nat, k ≤ 12 ∧ v5 = .int .i64 k ∧ Hid (wr.heap[w.heap.size]? = some (.cells (bc12 (inTo c k)) 36 (0, 0))) ∧ Hid (wr.heap[w.heap.size + 1]? = some (.cells nmRow 9 (0, 0))) ∧ Hid (Below w.heap.size w wr)) (fun v5 _ => 12 - (intOf v5).toNat)
  case atStart =>
    refine ⟨0, by omega, rfl, Lib.hid ?_, Lib.hid ?_, Lib.hid (below_alloc (below_alloc (Below.refl _ w) _) _)⟩
    · rw [inTo_zero]
      exact blk_alloc (heap_alloc_new w _) _
    · have h := heap_alloc_new (w.alloc (.cells (bc12 fun _ => false) 36)) (.cells nmRow 9)
      rw [World.size_alloc] at h
      exact h
  case round =>
    obtain ⟨k, hk, rfl, HK, HN, HB⟩ := hrel
    by_cases hlt : k < 12
    · have hI : (k : Int) < 12 := by omega
      have hk0 : (0 : Int) ≤ (k : Int) := by omega
      obtain ⟨hp1, hp2, hlen, hr45, hl256, hnm⟩ := cls_facts k hlt
      obtain ⟨n, hn⟩ : ∃ n, nm k = n := ⟨_, rfl⟩
      obtain ⟨L, hL⟩ : ∃ L, clsL k = L := ⟨_, rfl⟩
      obtain ⟨M, hM⟩ : ∃ M, clsM k = M := ⟨_, rfl⟩
      rw [hn] at hp1 hp2 hnm
      rw [hL] at hp1 hlen hr45 hl256
      rw [hM] at hp2 hlen hr45
      have hcellN : wr.cell? ⟨w.heap.size + 1, k, none⟩ = some (.string n) := by
        rw [cell_of_row wr _ k nmRow 9 (0, 0) HN.out, nmRow_get k hlt, hn]
      obtain ⟨Kh, hKh⟩ := Ev.rounds (has_ev L c (by omega))
      have HH := Lib.hid hKh
      have HP1 := Lib.hid hp1
      have HP2 := Lib.hid hp2
      have hz1 : ((⟨#[91, 58]⟩ : ByteArray) ++ n).size ≤ 12 := by
        rw [ByteArray.size_append]
        have : (⟨#[91, 58]⟩ : ByteArray).size = 2 := rfl
        omega
      have hd1 : (⟨#[58, 93]⟩ : ByteArray).size = 2 := rfl
      have hd2 : (⟨#[58, 93, 45, 91, 58, 100, 105, 103, 105, 116, 58, 93]⟩ : ByteArray).size = 12 := rfl
      have cx1 : ∀ W, (Op.stringOp .add ((⟨#[91, 58]⟩ : ByteArray) ++ n) (⟨#[58, 93]⟩ : ByteArray)).run Tryd.prog W = .ok (.string (((⟨#[91, 58]⟩ : ByteArray) ++ n) ++ (⟨#[58, 93]⟩ : ByteArray))) W := fun W => run_string_add_sum W _ _ (by omega)
      have cx2 : ∀ W, (Op.stringOp .add ((⟨#[91, 58]⟩ : ByteArray) ++ n) (⟨#[58, 93, 45, 91, 58, 100, 105, 103, 105, 116, 58, 93]⟩ : ByteArray)).run Tryd.prog W = .ok (.string (((⟨#[91, 58]⟩ : ByteArray) ++ n) ++ (⟨#[58, 93, 45, 91, 58, 100, 105, 103, 105, 116, 58, 93]⟩ : ByteArray))) W := fun W => run_string_add_sum W _ _ (by omega)
      have cx0 : ∀ W, (Op.stringOp .add (⟨#[91, 58]⟩ : ByteArray) n).run Tryd.prog W = .ok (.string ((⟨#[91, 58]⟩ : ByteArray) ++ n)) W := fun W => run_string_add_sum W _ _ (by have : (⟨#[91, 58]⟩ : ByteArray).size = 2 := rfl; omega)
      clear hp1 hp2 hKh
      go_upto_region 7 with (go_at_call 15; refine (sets_Parse.calls _ _ _ _ HP1.out (HG.out.below HB.out)).mono ?_; rintro e w1 ⟨v1, rfl, ho, hb⟩; have HO1 := Lib.hid ho; have HB1 := Lib.hid (HB.out.trans (hb.mono HB.out.size)); have HS1 := Lib.hid hb; clear ho hb)
      have hcellN1 : w1.cell? ⟨w.heap.size + 1, k, none⟩ = some (.string n) := pw_cell_below HS1.out hcellN
      go_upto_region 8 with (go_at_call 15; refine (sets_Parse.calls _ _ _ _ HP2.out (HG.out.below HB1.out)).mono ?_; rintro e w2 ⟨v2, rfl, ho, hb⟩; have HO2 := Lib.hid ho; have HB2 := Lib.hid (HB1.out.trans (hb.mono HB1.out.size)); have HS2 := Lib.hid hb; clear ho hb)
      have HC1 := Lib.hid (Kd.R_below HO1.out HS2.out)
      obtain ⟨A1, q1, rfl, hq1, hC1⟩ := Kd.R_reads HC1.out
      obtain ⟨A2, q2, rfl, hq2, hC2⟩ := Kd.R_reads HO2.out
      have hl0 : (0 : Int) ≤ (L.length : Int) := by omega
      have hlM : (L.length : Int) < (M.length : Int) := by omega
      have hML : (M.length : Int) = (L.length : Int) + 11 := by omega
      obtain ⟨ad, hA, hat⟩ := Kd.at_int hC2 (L.length : Int) hl0 hlM
      subst hA
      rw [hr45, Int.toNat_natCast] at hat
      have HC1b := Lib.hid hC1
      clear hC1 hC2
      have hS12 := HS1.out.trans (HS2.out.mono HS1.out.size)
      have hlt1 : w.heap.size < wr.heap.size := (Array.getElem?_eq_some_iff.1 HK.out).1
      have hlt2 : w.heap.size + 1 < wr.heap.size := (Array.getElem?_eq_some_iff.1 HN.out).1
      have HBl := Lib.hid fun (W : World) (h : Below wr.heap.size wr W) => (h.block _ hlt1).trans HK.out
      have HNl := Lib.hid fun (W : World) (h : Below wr.heap.size wr W) => (h.block _ hlt2).trans HN.out
      have HS12 := Lib.hid hS12
      have HT := Lib.hid (inTo_succ c k)
      rw [hL] at HT
      clear hS12 hlt1 hlt2 hcellN hcellN1 cx0 cx1 cx2
      go_wp2_with (first
        | (go_at_call 11; refine (toolchestlaw04_has.calls Kh _ _ L c _ w2 HC1b.out hq1 HH.out).mono ?_; rintro e w3 ⟨rfl, hd⟩
           have hS3 := HS12.out.trans (hd.below.mono HS12.out.size)
           have HK3 := Lib.hid (HBl.out w3 hS3)
           have HN3 := Lib.hid (HNl.out w3 hS3)
           have HB3 := Lib.hid (HB2.out.trans (hd.below.mono HB2.out.size))
           have hcl : w3.cell? ⟨w.heap.size, k, none⟩ = some (.bool (inTo c k k)) := (blk_cell HK3.out _).trans (bc12_get _ _ hlt)
           have hfz := blk_frozen HK3.out k
           clear hS3 hd))
      go_roundw
      case rel =>
        refine ⟨k + 1, by omega, by go_num, Lib.hid ?_, Lib.hid ?_, Lib.hid (HB3.out.setCell (p := ⟨w.heap.size, k, none⟩) (Nat.le_refl _) _)⟩
        · rw [← HT.out, show L.contains c = decide (c ∈ L) by simp, ← bc12_set]
          exact blk_set HK3.out _ _
        · exact (Below.heap_setCell w3 _ _ _ (show w.heap.size + 1 ≠ w.heap.size by omega)).trans HN3.out
      case measure => simp [intOf]; omega
    · have hI : ¬ (k : Int) < 12 := by omega
      have hk12 : k = 12 := by omega
      have HK12 := HK.out
      rw [hk12, hbc] at HK12
      have HAL := Lib.hid (toolchestlaw04_alive.calls true wr rfl (HG.out.below HB.out))
      have hlt1 : w.heap.size < wr.heap.size := (Array.getElem?_eq_some_iff.1 HK.out).1
      have HLT := Lib.hid hlt1
      have HK13 := Lib.hid HK12
      clear HK12 HK HN hk hlt hlt1 hk12
      go_wp2_with (first
          | (go_at_call 9; refine HAL.out.mono ?_; rintro e w3 ⟨rfl, hb⟩
             obtain ⟨q0, q1, q2, q3, q4, q5, q6, q7, q8, q9, q10, q11⟩ := cells12 ((hb.block _ HLT.out).trans HK13.out)
             have HB3 := Lib.hid (HB.out.trans (hb.mono HB.out.size))
             clear hb))
      go_ret
      exact ⟨rfl, HB3.out⟩

set_option maxHeartbeats 16000000 in
set_option maxRecDepth 100000 in
theorem twelve_walk4 (c : Int) (w : World) (h0 : 0 ≤ c) (h1 : c ≤ 255) (G : Glob w) (hbc : bc12 (inTo c 12) = #[.bool false, .bool false, .bool false, .bool false, .bool false, .bool true, .bool false, .bool true, .bool true, .bool false, .bool false, .bool false]) (e1 : 32 < c) (e2 : c < 127) (e3 : ¬ c = 32) (e4 : c < 128) : Calls Tryd.prog 7 #[.int .u8 c] w fun e w' => e = .returned (.bool true) ∧ Below w.heap.size w w' := by
  have HG := Lib.hid G
  have hz := (zero_of_info info36).1
  have h36 := size36
  clear G
  go_enter Tryd.func7, Tryd.ntmps7
  go_wp2
  go_loopw [5] (fun v5 wr => ∃ k : Nat, k ≤ 12 ∧ v5 = .int .i64 k ∧ Hid (wr.heap[w.heap.size]? = some (.cells (bc12 (inTo c k)) 36 (0, 0))) ∧ Hid (wr.heap[w.heap.size + 1]? = some (.cells nmRow 9 (0, 0))) ∧ Hid (Below w.heap.size w wr)) (fun v5 _ => 12 - (intOf v5).toNat)
  case atStart =>
    refine ⟨0, by omega, rfl, Lib.hid ?_, Lib.hid ?_, Lib.hid (below_alloc (below_alloc (Below.refl _ w) _) _)⟩
    · rw [inTo_zero]
      exact blk_alloc (heap_alloc_new w _) _
    · have h := heap_alloc_new (w.alloc (.cells (bc12 fun _ => false) 36)) (.cells nmRow 9)
      rw [World.size_alloc] at h
      exact h
  case round =>
    obtain ⟨k, hk, rfl, HK, HN, HB⟩ := hrel
    by_cases hlt : k < 12
    · have hI : (k : Int) < 12 := by omega
      have hk0 : (0 : Int) ≤ (k : Int) := by omega
      obtain ⟨hp1, hp2, hlen, hr45, hl256, hnm⟩ := cls_facts k hlt
      obtain ⟨n, hn⟩ : ∃ n, nm k = n := ⟨_, rfl⟩
      obtain ⟨L, hL⟩ : ∃ L, clsL k = L := ⟨_, rfl⟩
      obtain ⟨M, hM⟩ : ∃ M, clsM k = M := ⟨_, rfl⟩
      rw [hn] at hp1 hp2 hnm
      rw [hL] at hp1 hlen hr45 hl256
      rw [hM] at hp2 hlen hr45
      have hcellN : wr.cell? ⟨w.heap.size + 1, k, none⟩ = some (.string n) := by
        rw [cell_of_row wr _ k nmRow 9 (0, 0) HN.out, nmRow_get k hlt, hn]
      obtain ⟨Kh, hKh⟩ := Ev.rounds (has_ev L c (by omega))
      have HH := Lib.hid hKh
      have HP1 := Lib.hid hp1
      have HP2 := Lib.hid hp2
      have hz1 : ((⟨#[91, 58]⟩ : ByteArray) ++ n).size ≤ 12 := by
        rw [ByteArray.size_append]
        have : (⟨#[91, 58]⟩ : ByteArray).size = 2 := rfl
        omega
      have hd1 : (⟨#[58, 93]⟩ : ByteArray).size = 2 := rfl
      have hd2 : (⟨#[58, 93, 45, 91, 58, 100, 105, 103, 105, 116, 58, 93]⟩ : ByteArray).size = 12 := rfl
      have cx1 : ∀ W, (Op.stringOp .add ((⟨#[91, 58]⟩ : ByteArray) ++ n) (⟨#[58, 93]⟩ : ByteArray)).run Tryd.prog W = .ok (.string (((⟨#[91, 58]⟩ : ByteArray) ++ n) ++ (⟨#[58, 93]⟩ : ByteArray))) W := fun W => run_string_add_sum W _ _ (by omega)
      have cx2 : ∀ W, (Op.stringOp .add ((⟨#[91, 58]⟩ : ByteArray) ++ n) (⟨#[58, 93, 45, 91, 58, 100, 105, 103, 105, 116, 58, 93]⟩ : ByteArray)).run Tryd.prog W = .ok (.string (((⟨#[91, 58]⟩ : ByteArray) ++ n) ++ (⟨#[58, 93, 45, 91, 58, 100, 105, 103, 105, 116, 58, 93]⟩ : ByteArray))) W := fun W => run_string_add_sum W _ _ (by omega)
      have cx0 : ∀ W, (Op.stringOp .add (⟨#[91, 58]⟩ : ByteArray) n).run Tryd.prog W = .ok (.string ((⟨#[91, 58]⟩ : ByteArray) ++ n)) W := fun W => run_string_add_sum W _ _ (by have : (⟨#[91, 58]⟩ : ByteArray).size = 2 := rfl; omega)
      clear hp1 hp2 hKh
      go_upto_region 7 with (go_at_call 15; refine (sets_Parse.calls _ _ _ _ HP1.out (HG.out.below HB.out)).mono ?_; rintro e w1 ⟨v1, rfl, ho, hb⟩; have HO1 := Lib.hid ho; have HB1 := Lib.hid (HB.out.trans (hb.mono HB.out.size)); have HS1 := Lib.hid hb; clear ho hb)
      have hcellN1 : w1.cell? ⟨w.heap.size + 1, k, none⟩ = some (.string n) := pw_cell_below HS1.out hcellN
      go_upto_region 8 with (go_at_call 15; refine (sets_Parse.calls _ _ _ _ HP2.out (HG.out.below HB1.out)).mono ?_; rintro e w2 ⟨v2, rfl, ho, hb⟩; have HO2 := Lib.hid ho; have HB2 := Lib.hid (HB1.out.trans (hb.mono HB1.out.size)); have HS2 := Lib.hid hb; clear ho hb)
      have HC1 := Lib.hid (Kd.R_below HO1.out HS2.out)
      obtain ⟨A1, q1, rfl, hq1, hC1⟩ := Kd.R_reads HC1.out
      obtain ⟨A2, q2, rfl, hq2, hC2⟩ := Kd.R_reads HO2.out
      have hl0 : (0 : Int) ≤ (L.length : Int) := by omega
      have hlM : (L.length : Int) < (M.length : Int) := by omega
      have hML : (M.length : Int) = (L.length : Int) + 11 := by omega
      obtain ⟨ad, hA, hat⟩ := Kd.at_int hC2 (L.length : Int) hl0 hlM
      subst hA
      rw [hr45, Int.toNat_natCast] at hat
      have HC1b := Lib.hid hC1
      clear hC1 hC2
      have hS12 := HS1.out.trans (HS2.out.mono HS1.out.size)
      have hlt1 : w.heap.size < wr.heap.size := (Array.getElem?_eq_some_iff.1 HK.out).1
      have hlt2 : w.heap.size + 1 < wr.heap.size := (Array.getElem?_eq_some_iff.1 HN.out).1
      have HBl := Lib.hid fun (W : World) (h : Below wr.heap.size wr W) => (h.block _ hlt1).trans HK.out
      have HNl := Lib.hid fun (W : World) (h : Below wr.heap.size wr W) => (h.block _ hlt2).trans HN.out
      have HS12 := Lib.hid hS12
      have HT := Lib.hid (inTo_succ c k)
      rw [hL] at HT
      clear hS12 hlt1 hlt2 hcellN hcellN1 cx0 cx1 cx2
      go_wp2_with (first
        | (go_at_call 11; refine (toolchestlaw04_has.calls Kh _ _ L c _ w2 HC1b.out hq1 HH.out).mono ?_; rintro e w3 ⟨rfl, hd⟩
           have hS3 := HS12.out.trans (hd.below.mono HS12.out.size)
           have HK3 := Lib.hid (HBl.out w3 hS3)
           have HN3 := Lib.hid (HNl.out w3 hS3)
           have HB3 := Lib.hid (HB2.out.trans (hd.below.mono HB2.out.size))
           have hcl : w3.cell? ⟨w.heap.size, k, none⟩ = some (.bool (inTo c k k)) := (blk_cell HK3.out _).trans (bc12_get _ _ hlt)
           have hfz := blk_frozen HK3.out k
           clear hS3 hd))
      go_roundw
      case rel =>
        refine ⟨k + 1, by omega, by go_num, Lib.hid ?_, Lib.hid ?_, Lib.hid (HB3.out.setCell (p := ⟨w.heap.size, k, none⟩) (Nat.le_refl _) _)⟩
        · rw [← HT.out, show L.contains c = decide (c ∈ L) by simp, ← bc12_set]
          exact blk_set HK3.out _ _
        · exact (Below.heap_setCell w3 _ _ _ (show w.heap.size + 1 ≠ w.heap.size by omega)).trans HN3.out
      case measure => simp [intOf]; omega
    · have hI : ¬ (k : Int) < 12 := by omega
      have hk12 : k = 12 := by omega
      have HK12 := HK.out
      rw [hk12, hbc] at HK12
      have HAL := Lib.hid (toolchestlaw04_alive.calls true wr rfl (HG.out.below HB.out))
      have hlt1 : w.heap.size < wr.heap.size := (Array.getElem?_eq_some_iff.1 HK.out).1
      have HLT := Lib.hid hlt1
      have HK13 := Lib.hid HK12
      clear HK12 HK HN hk hlt hlt1 hk12
      go_wp2_with (first
          | (go_at_call 9; refine HAL.out.mono ?_; rintro e w3 ⟨rfl, hb⟩
             obtain ⟨q0, q1, q2, q3, q4, q5, q6, q7, q8, q9, q10, q11⟩ := cells12 ((hb.block _ HLT.out).trans HK13.out)
             have HB3 := Lib.hid (HB.out.trans (hb.mono HB.out.size))
             clear hb))
      go_ret
      exact ⟨rfl, HB3.out⟩

set_option maxHeartbeats 16000000 in
set_option maxRecDepth 100000 in
theorem twelve_walk5 (c : Int) (w : World) (h0 : 0 ≤ c) (h1 : c ≤ 255) (G : Glob w) (hbc : bc12 (inTo c 12) = #[.bool false, .bool true, .bool false, .bool false, .bool true, .bool true, .bool false, .bool true, .bool false, .bool false, .bool false, .bool true]) (e1 : 32 < c) (e2 : c < 127) (e3 : ¬ c = 32) (e4 : c < 128) : Calls Tryd.prog 7 #[.int .u8 c] w fun e w' => e = .returned (.bool true) ∧ Below w.heap.size w w' := by
  have HG := Lib.hid G
  have hz := (zero_of_info info36).1
  have h36 := size36
  clear G
  go_enter Tryd.func7, Tryd.ntmps7
  go_wp2
  go_loopw [5] (fun v5 wr => ∃ k : Nat, k ≤ 12 ∧ v5 = .int .i64 k ∧ Hid (wr.heap[w.heap.size]? = some (.cells (bc12 (inTo c k)) 36 (0, 0))) ∧ Hid (wr.heap[w.heap.size + 1]? = some (.cells nmRow 9 (0, 0))) ∧ Hid (Below w.heap.size w wr)) (fun v5 _ => 12 - (intOf v5).toNat)
  case atStart =>
    refine ⟨0, by omega, rfl, Lib.hid ?_, Lib.hid ?_, Lib.hid (below_alloc (below_alloc (Below.refl _ w) _) _)⟩
    · rw [inTo_zero]
      exact blk_alloc (heap_alloc_new w _) _
    · have h := heap_alloc_new (w.alloc (.cells (bc12 fun _ => false) 36)) (.cells nmRow 9)
      rw [World.size_alloc] at h
      exact h
  case round =>
    obtain ⟨k, hk, rfl, HK, HN, HB⟩ := hrel
    by_cases hlt : k < 12
    · have hI : (k : Int) < 12 := by omega
      have hk0 : (0 : Int) ≤ (k : Int) := by omega
      obtain ⟨hp1, hp2, hlen, hr45, hl256, hnm⟩ := cls_facts k hlt
      obtain ⟨n, hn⟩ : ∃ n, nm k = n := ⟨_, rfl⟩
      obtain ⟨L, hL⟩ : ∃ L, clsL k = L := ⟨_, rfl⟩
      obtain ⟨M, hM⟩ : ∃ M, clsM k = M := ⟨_, rfl⟩
      rw [hn] at hp1 hp2 hnm
      rw [hL] at hp1 hlen hr45 hl256
      rw [hM] at hp2 hlen hr45
      have hcellN : wr.cell? ⟨w.heap.size + 1, k, none⟩ = some (.string n) := by
        rw [cell_of_row wr _ k nmRow 9 (0, 0) HN.out, nmRow_get k hlt, hn]
      obtain ⟨Kh, hKh⟩ := Ev.rounds (has_ev L c (by omega))
      have HH := Lib.hid hKh
      have HP1 := Lib.hid hp1
      have HP2 := Lib.hid hp2
      have hz1 : ((⟨#[91, 58]⟩ : ByteArray) ++ n).size ≤ 12 := by
        rw [ByteArray.size_append]
        have : (⟨#[91, 58]⟩ : ByteArray).size = 2 := rfl
        omega
      have hd1 : (⟨#[58, 93]⟩ : ByteArray).size = 2 := rfl
      have hd2 : (⟨#[58, 93, 45, 91, 58, 100, 105, 103, 105, 116, 58, 93]⟩ : ByteArray).size = 12 := rfl
      have cx1 : ∀ W, (Op.stringOp .add ((⟨#[91, 58]⟩ : ByteArray) ++ n) (⟨#[58, 93]⟩ : ByteArray)).run Tryd.prog W = .ok (.string (((⟨#[91, 58]⟩ : ByteArray) ++ n) ++ (⟨#[58, 93]⟩ : ByteArray))) W := fun W => run_string_add_sum W _ _ (by omega)
      have cx2 : ∀ W, (Op.stringOp .add ((⟨#[91, 58]⟩ : ByteArray) ++ n) (⟨#[58, 93, 45, 91, 58, 100, 105, 103, 105, 116, 58, 93]⟩ : ByteArray)).run Tryd.prog W = .ok (.string (((⟨#[91, 58]⟩ : ByteArray) ++ n) ++ (⟨#[58, 93, 45, 91, 58, 100, 105, 103, 105, 116, 58, 93]⟩ : ByteArray))) W := fun W => run_string_add_sum W _ _ (by omega)
      have cx0 : ∀ W, (Op.stringOp .add (⟨#[91, 58]⟩ : ByteArray) n).run Tryd.prog W = .ok (.string ((⟨#[91, 58]⟩ : ByteArray) ++ n)) W := fun W => run_string_add_sum W _ _ (by have : (⟨#[91, 58]⟩ : ByteArray).size = 2 := rfl; omega)
      clear hp1 hp2 hKh
      go_upto_region 7 with (go_at_call 15; refine (sets_Parse.calls _ _ _ _ HP1.out (HG.out.below HB.out)).mono ?_; rintro e w1 ⟨v1, rfl, ho, hb⟩; have HO1 := Lib.hid ho; have HB1 := Lib.hid (HB.out.trans (hb.mono HB.out.size)); have HS1 := Lib.hid hb; clear ho hb)
      have hcellN1 : w1.cell? ⟨w.heap.size + 1, k, none⟩ = some (.string n) := pw_cell_below HS1.out hcellN
      go_upto_region 8 with (go_at_call 15; refine (sets_Parse.calls _ _ _ _ HP2.out (HG.out.below HB1.out)).mono ?_; rintro e w2 ⟨v2, rfl, ho, hb⟩; have HO2 := Lib.hid ho; have HB2 := Lib.hid (HB1.out.trans (hb.mono HB1.out.size)); have HS2 := Lib.hid hb; clear ho hb)
      have HC1 := Lib.hid (Kd.R_below HO1.out HS2.out)
      obtain ⟨A1, q1, rfl, hq1, hC1⟩ := Kd.R_reads HC1.out
      obtain ⟨A2, q2, rfl, hq2, hC2⟩ := Kd.R_reads HO2.out
      have hl0 : (0 : Int) ≤ (L.length : Int) := by omega
      have hlM : (L.length : Int) < (M.length : Int) := by omega
      have hML : (M.length : Int) = (L.length : Int) + 11 := by omega
      obtain ⟨ad, hA, hat⟩ := Kd.at_int hC2 (L.length : Int) hl0 hlM
      subst hA
      rw [hr45, Int.toNat_natCast] at hat
      have HC1b := Lib.hid hC1
      clear hC1 hC2
      have hS12 := HS1.out.trans (HS2.out.mono HS1.out.size)
      have hlt1 : w.heap.size < wr.heap.size := (Array.getElem?_eq_some_iff.1 HK.out).1
      have hlt2 : w.heap.size + 1 < wr.heap.size := (Array.getElem?_eq_some_iff.1 HN.out).1
      have HBl := Lib.hid fun (W : World) (h : Below wr.heap.size wr W) => (h.block _ hlt1).trans HK.out
      have HNl := Lib.hid fun (W : World) (h : Below wr.heap.size wr W) => (h.block _ hlt2).trans HN.out
      have HS12 := Lib.hid hS12
      have HT := Lib.hid (inTo_succ c k)
      rw [hL] at HT
      clear hS12 hlt1 hlt2 hcellN hcellN1 cx0 cx1 cx2
      go_wp2_with (first
        | (go_at_call 11; refine (toolchestlaw04_has.calls Kh _ _ L c _ w2 HC1b.out hq1 HH.out).mono ?_; rintro e w3 ⟨rfl, hd⟩
           have hS3 := HS12.out.trans (hd.below.mono HS12.out.size)
           have HK3 := Lib.hid (HBl.out w3 hS3)
           have HN3 := Lib.hid (HNl.out w3 hS3)
           have HB3 := Lib.hid (HB2.out.trans (hd.below.mono HB2.out.size))
           have hcl : w3.cell? ⟨w.heap.size, k, none⟩ = some (.bool (inTo c k k)) := (blk_cell HK3.out _).trans (bc12_get _ _ hlt)
           have hfz := blk_frozen HK3.out k
           clear hS3 hd))
      go_roundw
      case rel =>
        refine ⟨k + 1, by omega, by go_num, Lib.hid ?_, Lib.hid ?_, Lib.hid (HB3.out.setCell (p := ⟨w.heap.size, k, none⟩) (Nat.le_refl _) _)⟩
        · rw [← HT.out, show L.contains c = decide (c ∈ L) by simp, ← bc12_set]
          exact blk_set HK3.out _ _
        · exact (Below.heap_setCell w3 _ _ _ (show w.heap.size + 1 ≠ w.heap.size by omega)).trans HN3.out
      case measure => simp [intOf]; omega
    · have hI : ¬ (k : Int) < 12 := by omega
      have hk12 : k = 12 := by omega
      have HK12 := HK.out
      rw [hk12, hbc] at HK12
      have HAL := Lib.hid (toolchestlaw04_alive.calls true wr rfl (HG.out.below HB.out))
      have hlt1 : w.heap.size < wr.heap.size := (Array.getElem?_eq_some_iff.1 HK.out).1
      have HLT := Lib.hid hlt1
      have HK13 := Lib.hid HK12
      clear HK12 HK HN hk hlt hlt1 hk12
      go_wp2_with (first
          | (go_at_call 9; refine HAL.out.mono ?_; rintro e w3 ⟨rfl, hb⟩
             obtain ⟨q0, q1, q2, q3, q4, q5, q6, q7, q8, q9, q10, q11⟩ := cells12 ((hb.block _ HLT.out).trans HK13.out)
             have HB3 := Lib.hid (HB.out.trans (hb.mono HB.out.size))
             clear hb))
      go_ret
      exact ⟨rfl, HB3.out⟩

end Go.Proofs.YtndmngijfleilaaDoor.L
