/- (Plan).blocks$1: the walk of the iterator. -/
import Derived.RangeFuncNested
import Derived.RangeFuncBound
import Derived.RangeFuncCalls
import Derived.RangeFuncLeaves
import Derived.Shelf.Abstract
import Derived.Shelf.RegionOpen
import Derived.WalkKit
import Derived.OwnWalkIn
import Derived.TacticsInMore
import Derived.LoopNIn
import Derived.LoopIn
import Derived.Test.YtomnpmfmlbmpeaaDoorBlocks
namespace Go.Proofs.YtomnpmfmlbmpeaaDoor.L
open Go.RowKit Go.Shelf Go.Proofs.YtomnpmfmlbmpeaaDoorW.PrintWords

attribute [local go_sem] Oper.semAt_some

/-- Where the first block begins; where block k does; how many there are. -/
def st (p : Pl) (len : Nat) : Nat := min (p.sk * p.i).toNat len
def offB (p : Pl) (len k : Nat) : Nat := st p len + k * p.i.toNat
def nB (p : Pl) (len : Nat) : Nat := if p.ct < 0 then (len - st p len + p.i.toNat - 1) / p.i.toNat else min ((len - st p len + p.i.toNat - 1) / p.i.toNat) p.ct.toNat
def blkB (p : Pl) (s : ByteArray) (k : Nat) : ByteArray := s.extract (offB p s.size k) (min (offB p s.size (k + 1)) s.size)

theorem nB_lt {p : Pl} {len k : Nat} (hi : 1 ≤ p.i) (h : k < nB p len) : offB p len k < len ∧ ((k : Int) ≠ p.ct) := by
  obtain ⟨j, hj⟩ : ∃ j, p.i.toNat = j := ⟨_, rfl⟩
  have hj1 : 1 ≤ j := by omega
  unfold nB at h
  unfold offB
  rw [hj] at h ⊢
  have key : ∀ m, k < (m + j - 1) / j → k * j < m := fun m hm => by
    have h1 : k * j + j ≤ m + j - 1 := by
      have : (k + 1) * j ≤ m + j - 1 := (Nat.le_div_iff_mul_le (by omega)).1 hm
      rwa [Nat.succ_mul] at this
    omega
  split at h
  · have := key _ h
    have h2 : st p len ≤ len := Nat.min_le_right _ _
    omega
  · have := key _ (Nat.lt_of_lt_of_le h (Nat.min_le_left _ _))
    have h3 := Nat.lt_of_lt_of_le h (Nat.min_le_right _ _)
    have h2 : st p len ≤ len := Nat.min_le_right _ _
    omega
theorem nB_end {p : Pl} {len : Nat} (hi : 1 ≤ p.i) (h : offB p len (nB p len) < len) : ((nB p len : Nat) : Int) = p.ct := by
  obtain ⟨j, hj⟩ : ∃ j, p.i.toNat = j := ⟨_, rfl⟩
  have hj1 : 1 ≤ j := by omega
  unfold offB at h
  have h2 : st p len ≤ len := Nat.min_le_right _ _
  have key : ∀ m, m ≤ (m + j - 1) / j * j := fun m => by
    have := Nat.div_add_mod (m + j - 1) j
    have h4 := Nat.mod_lt (m + j - 1) (show j > 0 by omega)
    rw [Nat.mul_comm] at this
    omega
  unfold nB at h ⊢
  rw [hj] at h ⊢
  split at h
  · have := key (len - st p len)
    omega
  · rename_i hc
    have h5 := key (len - st p len)
    by_cases h6 : (len - st p len + j - 1) / j ≤ p.ct.toNat
    · rw [Nat.min_eq_left h6] at h
      omega
    · rw [if_neg hc, Nat.min_eq_right (by omega)]
      omega
theorem nB_le (p : Pl) (len : Nat) (hi : 1 ≤ p.i) : nB p len ≤ len := by
  obtain ⟨j, hj⟩ : ∃ j, p.i.toNat = j := ⟨_, rfl⟩
  have hj1 : 1 ≤ j := by omega
  have key : ∀ m, m ≤ len → (m + j - 1) / j ≤ len := fun m hm => by
    have h1 : (m + j - 1) / j * j ≤ m + j - 1 := Nat.div_mul_le_self _ _
    rcases Nat.eq_zero_or_pos ((m + j - 1) / j) with h0 | h0
    · omega
    · have h2 : (m + j - 1) / j ≤ m := by
        rcases Nat.eq_zero_or_pos m with hm0 | hm0
        · subst hm0
          have : (0 + j - 1) / j = 0 := Nat.div_eq_of_lt (by omega)
          omega
        · refine Nat.le_of_lt_succ ((Nat.div_lt_iff_lt_mul (by omega)).2 ?_)
          show m + j - 1 < (m + 1) * j
          rw [Nat.succ_mul]
          have h8 : m ≤ m * j := Nat.le_mul_of_pos_right _ hj1
          omega
      omega
  have h2 : st p len ≤ len := Nat.min_le_right _ _
  unfold nB
  rw [hj]
  split
  · exact key _ (by omega)
  · exact Nat.le_trans (Nat.min_le_left _ _) (key _ (by omega))

theorem str_full (r : ByteArray) (h : 0 < r.size) : r.toList.isEmpty = false := by
  rw [← decide_eq_emptyBytes]
  refine decide_eq_false fun e => ?_
  rw [e] at h
  exact absurd h (by decide)

theorem str_none' (s : ByteArray) (a : Nat) (h : s.size ≤ a) : s.extract a s.size = ByteArray.empty := by
  apply ByteArray.ext
  simp [ByteArray.data_extract]
  show s.size ≤ a
  exact h
theorem str_none (s : ByteArray) : s.extract s.size s.size = ByteArray.empty := str_none' s _ (Nat.le_refl _)

set_option maxRecDepth 100000 in
set_option maxHeartbeats 4000000 in
theorem closure_in (F : Fence) (n : Nat) (h24 : F.fn 24) (hro : F.round = none) (hn : 1 ≤ n) (l Bs Bp : Nat) (p : Pl) (s : ByteArray) (hi1 : 1 ≤ p.i) (hi2 : p.i ≤ 65536) (hk1 : 0 ≤ p.sk) (hk2 : p.sk ≤ 2147483647) (hs : s.size ≤ 1099511627776) (J : Nat → World → Prop)
    (hbox : ∀ k W, J k W → W.heap[Bs]? = some (.cells #[.string s] 9 (0, 0)) ∧ W.heap[Bp]? = some (.cells p.cells 26 (0, 0)))
    (hY : ∀ k W, J k W → k < nB p s.size → YieldAt F (n - 1) Tryd.prog l #[.slice (some ⟨W.heap.size, 0, none⟩) (blkB p s k).size (grownCap W (blkB p s k).size 0 5)] (Lib.bytesWorld W 5 (blkB p s k)) fun e W' => e = .returned (.bool true) ∧ J (k + 1) W')
    (W : World) (h0 : J 0 W) :
    CallsIn F n Tryd.prog 24 #[.func (.yield l) #[] #[], .pointer (some ⟨Bs, 0, none⟩), .pointer (some ⟨Bp, 0, none⟩)] W fun e W' => (∃ v, e = .returned v) ∧ J (nB p s.size) W' := by
  obtain ⟨i1, o, sk, ct, se, kp, sw, up, lo, sy⟩ := p
  simp only [Pl.cells] at hbox
  replace hi1 : 1 ≤ i1 := hi1
  replace hi2 : i1 ≤ 65536 := hi2
  replace hk1 : 0 ≤ sk := hk1
  replace hk2 : sk ≤ 2147483647 := hk2
  obtain ⟨i, rfl⟩ : ∃ i : Nat, i1 = (i : Int) := ⟨i1.toNat, by omega⟩
  obtain ⟨b1, b2⟩ := hbox 0 W h0
  have cS : W.cell? ⟨Bs, 0, none⟩ = some (.string s) := blk_cell b1 0
  have c0 : W.cell? ⟨Bp, 0, none⟩ = some (.int .i64 i) := blk_cell b2 0
  have c2 : W.cell? ⟨Bp, 2, none⟩ = some (.int .i64 sk) := blk_cell b2 2
  have m1 : 0 ≤ sk * i := Int.mul_nonneg hk1 (by omega)
  have m2 : sk * i ≤ 140737488289792 := by
    have : sk * i ≤ 2147483647 * 65536 := Int.mul_le_mul hk2 hi2 (by omega) (by omega)
    omega
  obtain ⟨PL, hPL⟩ : ∃ PL : Pl, PL = ⟨(i : Int), o, sk, ct, se, kp, sw, up, lo, sy⟩ := ⟨_, rfl⟩
  have hPi : PL.i.toNat = i := by rw [hPL]; rfl
  have hPi1 : 1 ≤ PL.i := by rw [hPL]; exact hi1
  have hPc : PL.ct = ct := by rw [hPL]
  have hst2 : st PL s.size = min (sk * i).toNat s.size := by rw [hPL]; rfl
  rw [← hPL] at hY ⊢
  obtain ⟨N, hN⟩ : ∃ N, nB PL s.size = N := ⟨_, rfl⟩
  have HN := Lib.hid (show (∀ k, k < N → offB PL s.size k < s.size ∧ (k : Int) ≠ PL.ct) ∧ (offB PL s.size N < s.size → (N : Int) = PL.ct) ∧ N ≤ s.size by rw [← hN]; exact ⟨fun k hk => nB_lt hPi1 hk, nB_end hPi1, nB_le _ _ hPi1⟩)
  rw [hN] at hY ⊢
  have HBOX := Lib.hid hbox
  have HP := Lib.hid (show PL.i.toNat = i ∧ PL.ct = ct ∧ st PL s.size = min (sk * i).toNat s.size from ⟨hPi, hPc, hst2⟩)
  have HPL := Lib.hid hPL
  clear hst2 hbox b1 b2 hN hPi hPi1 hPc hPL
  refine callsIn_of_wp Tryd.func24 rfl h24 ?_ hro
  simp only [Tryd.ntmps24, List.size_toArray, List.length_cons, List.length_nil, Nat.reduceAdd, Nat.reduceSub, Array.replicate_succ, Array.replicate_zero, List.push_toArray, List.append_toArray, List.nil_append, List.cons_append]
  have HS := Lib.hid (show (sk * i ≤ s.size → s.extract (sk * i).toNat s.size = s.extract (offB PL s.size 0) s.size) ∧ (¬ sk * i ≤ s.size → ByteArray.empty = s.extract (offB PL s.size 0) s.size) by
    unfold offB
    rw [HP.out.2.2, Nat.zero_mul, Nat.add_zero]
    refine ⟨fun h => by rw [Nat.min_eq_left (by omega)], fun h => ?_⟩
    rw [Nat.min_eq_right (by omega)]
    exact (str_none s).symm)
  by_cases hc : sk * i ≤ s.size
  all_goals
    gi_wp2
    gi_loopw [4, 5] (fun v4 v5 wr => ∃ k : Nat, k ≤ N ∧ v5 = .int .i64 (k : Int) ∧ v4 = .string (s.extract (offB PL s.size k) s.size) ∧ J k wr) (fun _ v5 _ => N - (intOf v5).toNat)
    case atStart => exact ⟨0, Nat.zero_le _, rfl, by first | rw [HS.out.1 hc] | rw [HS.out.2 hc], h0⟩
    case round =>
      obtain ⟨k, hk, rfl, rfl, hJ⟩ := hrel
      obtain ⟨b1, b2⟩ := HBOX.out k wr hJ
      have c0 : wr.cell? ⟨Bp, 0, none⟩ = some (.int .i64 i) := blk_cell b2 0
      have c3 : wr.cell? ⟨Bp, 3, none⟩ = some (.int .i64 ct) := blk_cell b2 3
      clear b1 b2
      by_cases hlt : k < N
      · obtain ⟨hoff, hct⟩ := HN.out.1 k hlt
        rw [HP.out.2.1] at hct
        have hNs := HN.out.2.2
        have hrs : (s.extract (offB PL s.size k) s.size).size = s.size - offB PL s.size k := by simp [ByteArray.size_extract]
        have hYk := hY k wr hJ hlt
        have hof : offB PL s.size (k + 1) = offB PL s.size k + i := by unfold offB; rw [HP.out.1, Nat.succ_mul]; omega
        have hbk : blkB PL s k = (s.extract (offB PL s.size k) s.size).extract 0 (min i (s.extract (offB PL s.size k) s.size).size) := by
          unfold blkB
          rw [hrs, ByteArray.extract_extract, hof]
          congr 1
          omega
        have hnx : s.extract (offB PL s.size (k + 1)) s.size = (s.extract (offB PL s.size k) s.size).extract (min i (s.extract (offB PL s.size k) s.size).size) (s.extract (offB PL s.size k) s.size).size := by
          rw [hrs, ByteArray.extract_extract, hof]
          by_cases h : i ≤ s.size - offB PL s.size k
          · rw [Nat.min_eq_left h]
            congr 1
            omega
          · rw [Nat.min_eq_right (by omega), show min (offB PL s.size k + (s.size - offB PL s.size k)) s.size = s.size by omega, show offB PL s.size k + (s.size - offB PL s.size k) = s.size by omega, str_none]
            exact str_none' s _ (by omega)
        rw [hbk] at hYk
        obtain ⟨r, hr⟩ : ∃ r, s.extract (offB PL s.size k) s.size = r := ⟨_, rfl⟩
        rw [hr] at hYk hnx hrs ⊢
        have hr0 : 0 < r.size := by omega
        have hrb : r.size ≤ 1099511627776 := by omega
        have HNX := Lib.hid hnx
        clear hbk hnx hr hrs hoff hof
        have hem := str_full r hr0
        have hne0 : ¬ r.toList = [] := fun h => by rw [h] at hem; cases hem
        have hne1 : (!r.toList.isEmpty) = true := by rw [hem]; rfl
        have hcb : ((k : Int) != ct) = true := by simpa using hct
        by_cases hir : (i : Int) ≤ r.size
        · rw [Nat.min_eq_left (by omega)] at hYk HNX
          have hcv : ∀ W, (convert 9 42 (.string (r.extract 0 i))).run Tryd.prog W = .ok (.slice (some ⟨W.heap.size, 0, none⟩) (r.extract 0 i).size (grownCap W (r.extract 0 i).size 0 5)) (Lib.bytesWorld W 5 (r.extract 0 i)) := fun W => Lib.run_convert_string_bytes W 9 42 5 _ Tryd.underlying9 Tryd.underlying42 Tryd.underlying5
          have hri : (r.extract 0 i).size = i := by simp [ByteArray.size_extract]; omega
          obtain ⟨fn, tmps, assign, body, hy, hR⟩ := hYk
          rw [hri] at hy hcv
          clear hY hem
          gi_wp2
          refine hR.mono ?_
          rintro e W3 ⟨rfl, hJ3⟩
          gi_wp2
          go_roundw
          case rel => exact ⟨k + 1, by omega, by go_num, by rw [HNX.out], hJ3⟩
          case measure => simp [intOf]; omega
        · rw [Nat.min_eq_right (by omega)] at hYk HNX
          have hall : r.extract 0 r.size = r := ByteArray.extract_zero_size
          rw [hall] at hYk
          have hcv : ∀ W, (convert 9 42 (.string r)).run Tryd.prog W = .ok (.slice (some ⟨W.heap.size, 0, none⟩) r.size (grownCap W r.size 0 5)) (Lib.bytesWorld W 5 r) := fun W => Lib.run_convert_string_bytes W 9 42 5 _ Tryd.underlying9 Tryd.underlying42 Tryd.underlying5
          obtain ⟨fn, tmps, assign, body, hy, hR⟩ := hYk
          clear hY hem
          gi_wp2
          refine hR.mono ?_
          rintro e W3 ⟨rfl, hJ3⟩
          gi_wp2
          go_roundw
          case rel => exact ⟨k + 1, by omega, by go_num, by rw [HNX.out]; first | done | rw [str_none], hJ3⟩
          case measure => simp [intOf]; omega
      · have hkN : k = N := by omega
        have hend := HN.out.2.1
        rw [← hkN, HP.out.2.1] at hend
        have HJ := Lib.hid (show J N wr from hkN ▸ hJ)
        have HK := Lib.hid hkN
        by_cases hoff : offB PL s.size k < s.size
        · have hce := hend hoff
          have hcb : ((k : Int) != ct) = false := by rw [hce]; simp
          have hr0 : 0 < (s.extract (offB PL s.size k) s.size).size := by simp [ByteArray.size_extract]; omega
          obtain ⟨r, hr⟩ : ∃ r, s.extract (offB PL s.size k) s.size = r := ⟨_, rfl⟩
          rw [hr] at hr0 ⊢
          have hem := str_full r hr0
          have hne0 : ¬ r.toList = [] := fun h => by rw [h] at hem; cases hem
          have hne1 : (!r.toList.isEmpty) = true := by rw [hem]; rfl
          clear hY hem hr hce hend hkN hlt hoff
          gi_wp2
          go_end0
          exact ⟨⟨_, rfl⟩, HJ.out⟩
        · rw [str_none' s (offB PL s.size k) (by omega)]
          clear hY hend hkN hlt hoff
          gi_wp2
          go_end0
          exact ⟨⟨_, rfl⟩, HJ.out⟩
end Go.Proofs.YtomnpmfmlbmpeaaDoor.L
