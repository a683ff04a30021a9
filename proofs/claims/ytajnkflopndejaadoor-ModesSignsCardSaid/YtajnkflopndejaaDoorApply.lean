/- modes.Apply: what it does to a mode, and the walk. -/
import Derived.Deep.DeepCutAuto
import Derived.Test.YtajnkflopndejaaDoorShelf
import Derived.Test.YtajnkflopndejaaDoorOps
namespace Go.Proofs.YtajnkflopndejaaDoor.L
open Go.RowKit Go.Maps Go.Proofs.YtajnkflopndejaaDoorW.PrintWords

theorem i64_and7 (n : Int) : Go.bits .and .i64 n 7 = n % 8 := by
  have h127 : (BitVec.ofInt 64 7).toNat = 2 ^ 3 - 1 := by decide
  have key : (BitVec.ofInt 64 n &&& BitVec.ofInt 64 7).toNat = (n % ((2 ^ 64 : Nat) : Int)).toNat % 2 ^ 3 := by
    rw [BitVec.toNat_and, BitVec.toNat_ofInt, h127, Nat.and_two_pow_sub_one_eq_mod]
  show IntKind.i64.wrap ((BitVec.ofInt 64 n &&& BitVec.ofInt 64 7).toNat : Nat) = n % 8
  rw [key, IntKind.wrap_i64]
  omega
theorem or7 (a b : Int) (h0 : 0 ≤ a) (h1 : a ≤ 7) (h2 : 0 ≤ b) (h3 : b ≤ 7) : 0 ≤ Go.bits .or .i64 a b ∧ Go.bits .or .i64 a b ≤ 7 := by
  have : ∀ x y : Fin 8, 0 ≤ Go.bits .or .i64 (x.1 : Int) (y.1 : Int) ∧ Go.bits .or .i64 (x.1 : Int) (y.1 : Int) ≤ 7 := by decide +kernel
  have h := this ⟨a.toNat, by omega⟩ ⟨b.toNat, by omega⟩
  rwa [show ((a.toNat : Nat) : Int) = a by omega, show ((b.toNat : Nat) : Int) = b by omega] at h

/-- The one that is copied: of ogu; below 0: none. -/
def copyIx (c : S35) : Int := Lib.indexByte (⟨#[111, 103, 117]⟩ : ByteArray).data.toList c.f3.toNat.toUInt8
theorem copyIx_range (c : S35) : -1 ≤ copyIx c ∧ copyIx c ≤ 2 := by
  unfold copyIx
  generalize c.f3.toNat.toUInt8 = x
  have e : (⟨#[111, 103, 117]⟩ : ByteArray).data.toList = [111, 103, 117] := rfl
  rw [e]
  unfold Lib.indexByte Lib.indexByte Lib.indexByte Lib.indexByte
  by_cases h1 : (111 == x) = true <;> by_cases h2 : (103 == x) = true <;> by_cases h3 : (117 == x) = true <;> simp [h1, h2, h3]
def bits1 (mode : Int) (c : S35) : Int := if 0 ≤ copyIx c then Go.bits .or .i64 (Go.bits .and .i64 c.f2 7) (Go.bits .and .i64 (mode / 2 ^ (3 * copyIx c).toNat) 7) else Go.bits .and .i64 c.f2 7
def bits2 (dir : Bool) (mode : Int) (c : S35) : Int := if c.f4 = true ∧ (dir = true ∨ 0 < Go.bits .and .i64 mode 73) then Go.bits .or .i64 (bits1 mode c) 1 else bits1 mode c
def whoOf (c : S35) : Int := if Go.bits .and .i64 c.f0 7 = 0 then 7 else Go.bits .and .i64 c.f0 7
def mayOf (mask : Int) (c : S35) : Int := if Go.bits .and .i64 c.f0 7 = 0 then Go.bits .andNot .i64 511 mask else 511
def may2 (mask : Int) (c : S35) : Int := Go.bits .and .i64 (mayOf mask c) (thr3 (whoOf c) 7)
def opf (op : Nat) (a b : Int) : Int := if op = 37 then Go.bits .or .i64 a b else if op = 38 then Go.bits .andNot .i64 a b else b
def stepCh (mask : Int) (dir : Bool) (mode : Int) (c : S35) : Int :=
  match opTab c.f1 with
  | none => mode
  | some op => Go.bits .or .i64 (Go.bits .andNot .i64 mode (may2 mask c)) (Go.bits .and .i64 (opf op mode (thr3 7 (bits2 dir mode c))) (may2 mask c))
theorem bits1_range (mode : Int) (c : S35) : 0 ≤ bits1 mode c ∧ bits1 mode c ≤ 7 := by
  unfold bits1
  have h1 := i64_and7 c.f2
  have h2 := i64_and7 (mode / 2 ^ (3 * copyIx c).toNat)
  split
  · exact or7 _ _ (by omega) (by omega) (by omega) (by omega)
  · omega
theorem bits2_range (dir : Bool) (mode : Int) (c : S35) : 0 ≤ bits2 dir mode c ∧ bits2 dir mode c ≤ 7 := by
  unfold bits2
  have h := bits1_range mode c
  split
  · exact or7 _ _ (by omega) (by omega) (by omega) (by omega)
  · exact h
theorem whoOf_range (c : S35) : 0 ≤ whoOf c ∧ whoOf c ≤ 7 := by
  unfold whoOf
  have h1 := i64_and7 c.f0
  split <;> omega
theorem thr71 : thr3 7 1 = 73 := by decide +kernel

def okCh (c : S35) : Bool := decide (0 ≤ c.f1 ∧ c.f1 ≤ 255)
def modes_Apply.f (l0 : List S35) (a1 a2 : Int) (a3 : Bool) : Option Int :=
  if l0.length ≤ 1099511627776 ∧ l0.all okCh = true then some (l0.foldl (stepCh a2 a3) (Go.bits .and .i64 a1 511)) else none

theorem opTab_cases (x : Int) : opTab x = none ∨ opTab x = some 37 ∨ opTab x = some 38 ∨ opTab x = some 39 := by
  unfold opTab updA
  by_cases h1 : x = 61
  · simp [h1]
  · by_cases h2 : x = 45
    · simp [h2]
    · by_cases h3 : x = 43
      · simp [h3]
      · simp [h1, h2, h3]
theorem rd_mem (l : List S35) (i : Nat) (h : i < l.length) : rd_T35 l (i : Int) ∈ l := by
  unfold rd_T35
  rw [Int.toNat_natCast, List.getD_eq_getElem?_getD, List.getElem?_eq_getElem h]
  exact List.getElem_mem _
theorem zero54 (w : World) : (zeroValue 54).run Tryd.prog w = .ok .nilFunc w := by kernel_rfl

set_option maxHeartbeats 16000000 in
set_option maxRecDepth 100000 in
theorem apply_walk (A0 : Option Addr) (c0 : Nat) (l0 : List S35) (a1 a2 : Int) (a3 : Bool) (w : World) (hr0 : Kd.C k35 w A0 l0.length l0) (hlen : l0.length ≤ 1099511627776) (hok : ∀ c ∈ l0, 0 ≤ c.f1 ∧ c.f1 ≤ 255) :
    Calls Tryd.prog 14 #[.slice A0 l0.length c0, .int .i64 a1, .int .i64 a2, .bool a3] w fun e w' => e = .returned (.int .i64 (l0.foldl (stepCh a2 a3) (Go.bits .and .i64 a1 511))) ∧ Below w.heap.size w w' := by
  have hu35 := Tryd.underlying35
  have HR := Lib.hid hr0
  have HOK := Lib.hid hok
  clear hr0 hok
  go_enter Tryd.func14, Tryd.ntmps14
  go_wp2
  go_loopw [1, 21] (fun v1 v21 wr => ∃ (i : Nat) (m : Int), v1 = .int .i64 m ∧ v21 = .int .i64 i ∧ i ≤ l0.length ∧ Hid (m = (l0.take i).foldl (stepCh a2 a3) (Go.bits .and .i64 a1 511)) ∧ Hid (Below w.heap.size w wr))
    (fun _ v21 _ => l0.length - (intOf v21).toNat)
  case atStart => exact ⟨0, _, rfl, rfl, by omega, Lib.hid rfl, Lib.hid (Below.refl _ _)⟩
  case round =>
    obtain ⟨i, m, rfl, rfl, hi, HM, HB⟩ := hrel
    by_cases hlt : i < l0.length
    · have hlt' : (i : Int) < (l0.length : Int) := by omega
      obtain ⟨c, hc⟩ : ∃ c, rd_T35 l0 (i : Int) = c := ⟨_, rfl⟩
      have hat := at_T35 HR.out (i : Int) (by omega) hlt'
      rw [hc] at hat
      simp only [Int.toNat_natCast] at hat
      obtain ⟨ad, rfl, x0, x1, x2, x3, x4⟩ := hat
      replace x0 := (HB.out.cell (World.block_lt_of_cell? w _ x0)).trans x0
      replace x1 := (HB.out.cell (World.block_lt_of_cell? w _ x1)).trans x1
      replace x2 := (HB.out.cell (World.block_lt_of_cell? w _ x2)).trans x2
      replace x3 := (HB.out.cell (World.block_lt_of_cell? w _ x3)).trans x3
      replace x4 := (HB.out.cell (World.block_lt_of_cell? w _ x4)).trans x4
      have hir := copyIx_range c
      have hic := fun W => Tryd.strings_IndexByte ⟨#[111, 103, 117]⟩ c.f3 W
      rw [show Lib.indexByte (⟨#[111, 103, 117]⟩ : ByteArray).data.toList c.f3.toNat.toUInt8 = copyIx c from rfl] at hic
      obtain ⟨I, hI⟩ : ∃ I, copyIx c = I := ⟨_, rfl⟩
      rw [hI] at hir hic
      obtain ⟨hi0, hi1⟩ := hir
      go_upto_if 32 with (go_at_call 21; refine (hic _).mono ?_; rintro e w' ⟨rfl, rfl⟩)
      obtain ⟨W1, hW1⟩ : ∃ W1, wr.alloc (.cells #[.int .i64 c.f0, .int .u8 c.f1, .int .i64 c.f2, .int .u8 c.f3, .bool c.f4] 35) = W1 := ⟨_, rfl⟩
      have HB1 : Hid (Below w.heap.size w W1) := Lib.hid (by rw [← hW1]; exact HB.out.alloc HB.out.size _)
      have hbk : W1.heap[wr.heap.size]? = some (.cells #[.int .i64 c.f0, .int .u8 c.f1, .int .i64 c.f2, .int .u8 c.f3, .bool c.f4] 35) := by rw [← hW1]; exact heap_alloc_new wr _
      have y0 : W1.cell? ⟨wr.heap.size, 0, none⟩ = some (.int .i64 c.f0) := by simp [World.cell?, hbk]
      have y1 : W1.cell? ⟨wr.heap.size, 1, none⟩ = some (.int .u8 c.f1) := by simp [World.cell?, hbk]
      have y4 : W1.cell? ⟨wr.heap.size, 4, none⟩ = some (.bool c.f4) := by simp [World.cell?, hbk]
      rw [hW1]
      clear hW1 x0 x1 x2 x3 x4 hic
      have HI := Lib.hid hI
      clear hI
      go_cut [11] (fun v11 wc => v11 = .int .i64 (bits1 m c) ∧ W1 = wc)
      case first =>
        have hI := HI.out
        by_cases hI0 : 0 ≤ I
        · have E := Lib.hid (show bits1 m c = Go.bits .or .i64 (Go.bits .and .i64 c.f2 7) (Go.bits .and .i64 (m / 2 ^ (3 * I).toNat) 7) by unfold bits1; rw [hI, if_pos hI0])
          go_wp2
          go_meet
          case rel => exact ⟨by rw [E.out], rfl⟩
        · have E := Lib.hid (show bits1 m c = Go.bits .and .i64 c.f2 7 by unfold bits1; rw [hI, if_neg hI0])
          go_wp2
          go_meet
          case rel => exact ⟨by rw [E.out], rfl⟩
      case rest =>
        obtain ⟨rfl, rfl⟩ := hcut
        obtain ⟨b1, hb1⟩ : ∃ b1, bits1 m c = b1 := ⟨_, rfl⟩
        have hr1 := bits1_range m c
        rw [hb1] at hr1
        obtain ⟨hr10, hr11⟩ := hr1
        have HB1' := Lib.hid hb1
        rw [hb1]
        clear hb1
        obtain ⟨d1, hd1⟩ : ∃ d1, c.f4 = d1 := ⟨_, rfl⟩
        have HD1 := Lib.hid hd1
        rw [hd1] at y4
        clear hd1
        go_upto_region 9 with (fail)
        go_cut [50] (fun v50 wc => v50 = .bool (d1 && (a3 || decide (0 < Go.bits .and .i64 m 73))) ∧ W1 = wc)
        case first =>
          have hth := fun W => thrice_calls 7 1 (by omega) (by omega) (by omega) (by omega) W
          rw [thr71] at hth
          cases d1 <;> cases a3
          all_goals
            go_wp2_with (go_at_call 22; refine (hth _).mono ?_; rintro e w' ⟨rfl, rfl⟩)
            go_meet
          all_goals exact ⟨by simp, rfl⟩
        case rest =>
          obtain ⟨rfl, rfl⟩ := hcut
          obtain ⟨D, hD⟩ : ∃ D, (d1 && (a3 || decide (0 < Go.bits .and .i64 m 73))) = D := ⟨_, rfl⟩
          have HD := Lib.hid hD
          rw [hD]
          clear hD
          have HE : Hid (bits2 a3 m c = if D = true then Go.bits .or .i64 b1 1 else b1) := Lib.hid (by
            have h1 := HD.out
            have h2 := HD1.out
            have h3 := HB1'.out
            unfold bits2
            rw [h3, h2, ← h1]
            simp)
          go_upto_if 50 with (fail)
          go_cut [11] (fun v11 wc => v11 = .int .i64 (bits2 a3 m c) ∧ W1 = wc)
          case first =>
            cases D
            · go_wp2
              go_meet
              case rel => exact ⟨by rw [HE.out]; rfl, rfl⟩
            · go_wp2
              go_meet
              case rel => exact ⟨by rw [HE.out]; rfl, rfl⟩
          case rest =>
            obtain ⟨rfl, rfl⟩ := hcut
            clear HE HD HB1' HD1 HI hi0 hi1 hr10 hr11
            obtain ⟨b2, hb2⟩ : ∃ b2, bits2 a3 m c = b2 := ⟨_, rfl⟩
            have hr2 := bits2_range a3 m c
            rw [hb2] at hr2
            obtain ⟨hr20, hr21⟩ := hr2
            have HB2 := Lib.hid hb2
            rw [hb2]
            clear hb2
            obtain ⟨q, hq⟩ : ∃ q, Go.bits .and .i64 c.f0 7 = q := ⟨_, rfl⟩
            have HQ := Lib.hid hq
            go_upto_if 57 with (fail)
            go_cut [13, 14] (fun v13 v14 wc => v13 = .int .i64 (whoOf c) ∧ v14 = .int .i64 (mayOf a2 c) ∧ W1 = wc)
            case first =>
              by_cases h0 : q = 0
              · have E1 := Lib.hid (show whoOf c = 7 by unfold whoOf; rw [hq, if_pos h0])
                have E2 := Lib.hid (show mayOf a2 c = Go.bits .andNot .i64 511 a2 by unfold mayOf; rw [hq, if_pos h0])
                subst h0
                go_wp2
                go_meet
                case rel => exact ⟨by rw [E1.out], by rw [E2.out], rfl⟩
              · have E1 := Lib.hid (show whoOf c = q by unfold whoOf; rw [hq, if_neg h0])
                have E2 := Lib.hid (show mayOf a2 c = 511 by unfold mayOf; rw [hq, if_neg h0])
                have h0' : (q == 0) = false := by simpa using h0
                go_wp2
                go_meet
                case rel => exact ⟨by rw [E1.out], by rw [E2.out], rfl⟩
            case rest =>
              obtain ⟨rfl, rfl, rfl⟩ := hcut
              clear HQ hq
              have hth := fun W => thrice_calls (whoOf c) 7 (whoOf_range c).1 (whoOf_range c).2 (by omega) (by omega) W
              have hm2 : Go.bits .and .i64 (mayOf a2 c) (thr3 (whoOf c) 7) = may2 a2 c := rfl
              obtain ⟨q1, hq1⟩ : ∃ q, whoOf c = q := ⟨_, rfl⟩
              obtain ⟨q2, hq2⟩ : ∃ q, mayOf a2 c = q := ⟨_, rfl⟩
              obtain ⟨q3, hq3⟩ : ∃ q, thr3 q1 7 = q := ⟨_, rfl⟩
              obtain ⟨q4, hq4⟩ : ∃ q, may2 a2 c = q := ⟨_, rfl⟩
              rw [hq1, hq3] at hth
              rw [hq1, hq2, hq3, hq4] at hm2
              have HQ4 := Lib.hid hq4
              rw [hq1, hq2]
              clear hq1 hq2 hq3 hq4
              go_upto_region 15 with (go_at_call 22; refine (hth _).mono ?_; rintro e W2 ⟨rfl, rfl⟩)
              have hcok := HOK.out c (by rw [← hc]; exact rd_mem l0 i hlt)
              obtain ⟨hc0, hc1⟩ := hcok
              go_cut [15, 16] (fun v15 v16 wc => v15 = fnOf ((opTab c.f1).getD 0) ∧ v16 = .bool (opTab c.f1).isSome ∧ Hid (Below w.heap.size w wc))
              case first =>
                go_region_with (go_at_call 23; refine (ops_calls _).mono ?_; rintro e w2 ⟨rfl, hm, hb⟩; have y1' := (hb.cell (p := ⟨wr.heap.size, 1, none⟩) (World.block_lt_of_cell? _ _ y1)).trans y1; have hlk : (Instr.lookup 56 (.map (some W2.heap.size)) (.int .u8 c.f1) true).run Tryd.prog w2 = .ok (.tuple #[fnOf ((opTab c.f1).getD 0), .bool (opTab c.f1).isSome]) w2 := KMap.look Tryd.underlying56 hm (zero54 _) c.f1 hc0 hc1)
                all_goals
                  go_wp2
                  go_meet
                  case rel =>
                    exact ⟨rfl, rfl, Lib.hid (by repeat (first | exact HB1.out | apply pw_below_drewN | apply below_drew1 | exact below_step (by repeat (first | exact HB1.out | apply pw_below_drewN | apply below_drew1)) hb))⟩
              case rest =>
                obtain ⟨rfl, rfl, HBw⟩ := hcut
                have hstep : stepCh a2 a3 m c = match opTab c.f1 with
                    | none => m
                    | some op => Go.bits .or .i64 (Go.bits .andNot .i64 m q4) (Go.bits .and .i64 (opf op m (thr3 7 b2)) q4) := by
                  unfold stepCh
                  rw [HQ4.out, HB2.out]
                have hfold : (l0.take (i + 1)).foldl (stepCh a2 a3) (Go.bits .and .i64 a1 511) = stepCh a2 a3 m c := by
                  rw [List.take_succ_eq_append_getElem hlt, List.foldl_append, ← HM.out, ← hc]
                  have e : rd_T35 l0 (i : Int) = l0[i] := by
                    unfold rd_T35
                    rw [Int.toNat_natCast, List.getD_eq_getElem?_getD, List.getElem?_eq_getElem hlt]
                    rfl
                  rw [e]
                  rfl
                rw [hstep] at hfold
                have HF := Lib.hid hfold
                clear hfold hstep
                have hth2 := fun W => thrice_calls 7 b2 (by omega) (by omega) hr20 hr21 W
                obtain ⟨q5, hq5⟩ : ∃ q, thr3 7 b2 = q := ⟨_, rfl⟩
                rw [hq5] at hth2
                have HQ5 := Lib.hid hq5
                clear hq5 hth hm2
                rcases opTab_cases c.f1 with ho | ho | ho | ho
                · have HF2 := HF.out
                  rw [ho] at HF2 ⊢
                  simp only [Option.getD_none, Option.isSome_none, fnOf]
                  have HF3 := Lib.hid HF2
                  clear HF2
                  go_wp2
                  exact ⟨⟨i + 1, m, rfl, by simp, by omega, Lib.hid HF3.out.symm, HBw⟩, by simp [intOf]; omega⟩
                · have HF2 := HF.out
                  rw [ho] at HF2 ⊢
                  simp only [HQ5.out] at HF2
                  simp only [Option.getD_some, Option.isSome_some, fnOf]
                  have HF3 := Lib.hid HF2
                  clear HF2
                  go_wp2_with (first
                    | (go_at_call 22; refine (hth2 _).mono ?_; rintro e W3 ⟨rfl, rfl⟩)
                    | (go_at_call 37; refine (fn37 _ _ _).mono ?_; rintro e W3 ⟨rfl, rfl⟩))
                  exact ⟨⟨i + 1, _, rfl, by simp, by omega, Lib.hid HF3.out.symm, HBw⟩, by simp [intOf]; omega⟩
                · have HF2 := HF.out
                  rw [ho] at HF2 ⊢
                  simp only [HQ5.out] at HF2
                  simp only [Option.getD_some, Option.isSome_some, fnOf]
                  have HF3 := Lib.hid HF2
                  clear HF2
                  go_wp2_with (first
                    | (go_at_call 22; refine (hth2 _).mono ?_; rintro e W3 ⟨rfl, rfl⟩)
                    | (go_at_call 38; refine (fn38 _ _ _).mono ?_; rintro e W3 ⟨rfl, rfl⟩))
                  exact ⟨⟨i + 1, _, rfl, by simp, by omega, Lib.hid HF3.out.symm, HBw⟩, by simp [intOf]; omega⟩
                · have HF2 := HF.out
                  rw [ho] at HF2 ⊢
                  simp only [HQ5.out] at HF2
                  simp only [Option.getD_some, Option.isSome_some, fnOf]
                  have HF3 := Lib.hid HF2
                  clear HF2
                  go_wp2_with (first
                    | (go_at_call 22; refine (hth2 _).mono ?_; rintro e W3 ⟨rfl, rfl⟩)
                    | (go_at_call 39; refine (fn39 _ _ _).mono ?_; rintro e W3 ⟨rfl, rfl⟩))
                  exact ⟨⟨i + 1, _, rfl, by simp, by omega, Lib.hid HF3.out.symm, HBw⟩, by simp [intOf]; omega⟩
    · obtain rfl : i = l0.length := by omega
      have hM := HM.out
      rw [List.take_length] at hM
      have HM2 := Lib.hid hM
      clear hM HM
      go_wp2
      go_ret
      exact ⟨by rw [← HM2.out]; rfl, HB.out⟩

theorem modes_Apply.calls (A0 : Option Addr) (c0 : Nat) (l0 : List S35) (a1 a2 : Int) (a3 : Bool) (r : Int) (w : World) (hr0 : Kd.C k35 w A0 l0.length l0) (_hc0 : l0.length ≤ c0) (h : modes_Apply.f l0 a1 a2 a3 = some r) :
    Calls Tryd.prog 14 #[.slice A0 l0.length c0, .int .i64 a1, .int .i64 a2, .bool a3] w fun e w' => e = .returned (.int .i64 r) ∧ Below w.heap.size w w' := by
  unfold modes_Apply.f at h
  by_cases hg : l0.length ≤ 1099511627776 ∧ l0.all okCh = true
  · rw [if_pos hg] at h
    have h := Option.some.inj h
    subst h
    exact apply_walk A0 c0 l0 a1 a2 a3 w hr0 hg.1 (fun c hc => of_decide_eq_true (List.all_eq_true.1 hg.2 c hc))
  · rw [if_neg hg] at h
    cases h
end Go.Proofs.YtajnkflopndejaaDoor.L
