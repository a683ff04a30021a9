/- alive: some answers that the document fixes: the walk. -/
import Derived.Lib.SlBytesConst
import Derived.BigGuard
import Derived.Test.YtndmngijfleilaaDoorExtB
namespace Go.Proofs.YtndmngijfleilaaDoor.L
open Go.RowKit Go.Proofs.YtndmngijfleilaaDoorW.PrintWords

set_option maxHeartbeats 4000000 in
set_option maxRecDepth 100000 in
theorem same_walk (A : Option Addr) (c : Nat) (A' : Option Addr) (c' : Nat) (xs : List Int) (w : World) (h1 : Kd.C (Kd.int .u8) w A xs.length xs) (h2 : Kd.C (Kd.int .u8) w A' xs.length xs) (hl : xs.length ≤ 1000000) :
    Calls Tryd.prog 16 #[.slice A xs.length c, .slice A' xs.length c'] w fun e w' => e = .returned (.bool true) ∧ Below w.heap.size w w' := by
  have H1 := Lib.hid h1
  have H2 := Lib.hid h2
  clear h1 h2
  go_enter Tryd.func16, Tryd.ntmps16
  go_wp2
  go_loopw [5] (fun v5 wr => ∃ k : Nat, k ≤ xs.length ∧ v5 = .int .i64 k ∧ Hid (Below w.heap.size w wr)) (fun v5 _ => xs.length - (intOf v5).toNat)
  case atStart => exact ⟨0, Nat.zero_le _, rfl, Lib.hid (Below.refl _ _)⟩
  case round =>
    obtain ⟨k, hk, rfl, HB⟩ := hrel
    by_cases hlt : k < xs.length
    · have hI : (k : Int) < (xs.length : Int) := by omega
      have h0 : (0 : Int) ≤ (k : Int) := by omega
      obtain ⟨ad, hA, hc1⟩ := Kd.at_int (Kd.C_below H1.out HB.out) (k : Int) h0 hI
      obtain ⟨ad', hA', hc2⟩ := Kd.at_int (Kd.C_below H2.out HB.out) (k : Int) h0 hI
      subst hA
      subst hA'
      rw [Int.toNat_natCast] at hc1 hc2
      obtain ⟨x, hx⟩ : ∃ x, rd xs (k : Int) = x := ⟨_, rfl⟩
      rw [hx] at hc1 hc2
      clear hx hk
      go_wp2
      go_region
      go_wp2
      go_roundw
      case rel => exact ⟨k + 1, by omega, by go_num, Lib.hid (by repeat (first | exact HB.out | apply below_drew | apply pw_below_drewN))⟩
      case measure => simp [intOf]; omega
    · have hI : ¬ (k : Int) < (xs.length : Int) := by omega
      go_wp2
      go_ret
      exact ⟨rfl, HB.out⟩

theorem p1 : sets_Parse.f ⟨#[97, 45, 99, 45, 101]⟩ = some ([97, 98, 99, 45, 101], 0) := by decide +kernel
theorem p2 : sets_Parse.f ⟨#[92, 49, 48, 49, 56, 92, 110]⟩ = some ([65, 56, 10], 0) := by decide +kernel
theorem p3 : sets_Parse.f ⟨#[101, 45, 97]⟩ = some ([], 5) := by decide +kernel
theorem p4 : sets_Swap.f ⟨#[104, 101, 108, 108, 111]⟩ [101, 108] [105, 112] = some (⟨#[104, 105, 112, 112, 111]⟩, 0) := by decide +kernel
theorem p5 : sets_Swap.f ⟨#[97]⟩ [97] [] = some (⟨#[]⟩, 1) := by decide +kernel
theorem p6 : sets_Drop.f ⟨#[104, 101, 108, 108, 111]⟩ [108] = some ⟨#[104, 101, 111]⟩ := by decide +kernel
theorem p7 : sets_Squeeze.f ⟨#[97, 97, 98, 98, 99, 99, 97]⟩ [97, 99] = some ⟨#[97, 98, 98, 99, 97]⟩ := by decide +kernel
/-- A row of bytes in a block, marked or not. -/
theorem lit_C {W : World} {g : Nat} {cs : Array Value} {fr : Nat × Nat} (xs : List Int) (h : W.heap[g]? = some (.cells cs 5 fr)) (hc : cs = (nums .u8 xs).toArray) (hl : xs.length ≤ 1000000) : Kd.C (Kd.int .u8) W (some ⟨g, 0, none⟩) xs.length xs := by
  refine Kd.C_of_reads (enc := Value.int .u8) (d := (0 : Int)) (h1 := fun _ => rfl) ?_
  refine ⟨rfl, by omega, fun _ => ⟨_, rfl, fun j hj => ?_⟩⟩
  rw [add_plain, cell_of_row W g j cs 5 fr h, hc]
  simp [nums, List.getD_eq_getElem?_getD, hj]

set_option maxHeartbeats 16000000 in
set_option maxRecDepth 100000 in
theorem alive_walk (w : World) (G : Glob w) : Calls Tryd.prog 9 #[] w fun e w' => e = .returned (.bool true) ∧ Below w.heap.size w w' := by
  have hcv := fun (W : World) (C : Array Value) (n c : Nat) => Lib.run_convert_bytes_const (P := Tryd.prog) W 22 5 C n c Tryd.underlying22 Tryd.underlying5
  have HG := Lib.hid G
  have HCV := Lib.hid hcv
  clear G hcv
  go_enter Tryd.func9, Tryd.ntmps9
  go_upto_region 2 with (go_at_call 15; refine (sets_Parse.calls _ _ _ _ p1 HG.out).mono ?_; rintro e w1 ⟨v1, rfl, ho, hb⟩; have HO1 := Lib.hid ho; have HB1 := Lib.hid hb; clear ho hb)
  go_upto_region 3 with (go_at_call 15; refine (sets_Parse.calls _ _ _ _ p2 (HG.out.below HB1.out)).mono ?_; rintro e w2 ⟨v2, rfl, ho, hb⟩; have HO2 := Lib.hid ho; have HB2 := Lib.hid (HB1.out.trans (hb.mono HB1.out.size)); have HO1b := Lib.hid (Kd.R_below HO1.out hb); clear ho hb HO1 HB1)
  go_upto_region 4 with (go_at_call 15; refine (sets_Parse.calls _ _ _ _ p3 (HG.out.below HB2.out)).mono ?_; rintro e w3 ⟨v3, rfl, ho, hb⟩; have HB3 := Lib.hid (HB2.out.trans (hb.mono HB2.out.size)); have HO1c := Lib.hid (Kd.R_below HO1b.out hb); have HO2c := Lib.hid (Kd.R_below HO2.out hb); clear ho hb HO1b HO2 HB2)
  have c1 := HCV.out w3 #[.int .u8 101, .int .u8 108] 2 2
  have c2 := HCV.out (w3.alloc (.cells #[.int .u8 101, .int .u8 108] 5 (2, 3))) #[.int .u8 105, .int .u8 112] 2 2
  rw [World.size_alloc] at c2
  obtain ⟨W4, hW4⟩ : ∃ W4, (w3.alloc (.cells #[.int .u8 101, .int .u8 108] 5 (2, 3))).alloc (.cells #[.int .u8 105, .int .u8 112] 5 (2, 3)) = W4 := ⟨_, rfl⟩
  have k1 : Kd.C (Kd.int .u8) W4 (some ⟨w3.heap.size, 0, none⟩) ([101, 108] : List Int).length [101, 108] := by
    rw [← hW4]
    exact lit_C [101, 108] (blk_alloc (heap_alloc_new w3 _) _) rfl (by decide)
  have k2 : Kd.C (Kd.int .u8) W4 (some ⟨w3.heap.size + 1, 0, none⟩) ([105, 112] : List Int).length [105, 112] := by
    have h := heap_alloc_new (w3.alloc (.cells #[.int .u8 101, .int .u8 108] 5 (2, 3))) (.cells #[.int .u8 105, .int .u8 112] 5 (2, 3))
    rw [World.size_alloc, hW4] at h
    exact lit_C [105, 112] h rfl (by decide)
  have hb4 : Below w3.heap.size w3 W4 := by rw [← hW4]; exact below_alloc (below_alloc (Below.refl _ w3) _) _
  have HSW := Lib.hid (sets_Swap.calls ⟨#[104, 101, 108, 108, 111]⟩ _ 2 [101, 108] _ 2 [105, 112] _ _ W4 k1 (by decide) k2 (by decide) p4)
  have HB4 := Lib.hid (HB3.out.trans (hb4.mono HB3.out.size))
  have HO1d := Lib.hid (Kd.R_below HO1c.out hb4)
  have HO2d := Lib.hid (Kd.R_below HO2c.out hb4)
  have HW4 := Lib.hid hW4
  clear k1 k2 hb4 hW4 HO1c HO2c HB3
  go_upto_region 5 with (go_at_call 10; rw [HW4.out]; refine HSW.out.mono ?_; rintro e w5 ⟨rfl, hb⟩; have HB5 := Lib.hid (HB4.out.trans (hb.mono HB4.out.size)); have HO1e := Lib.hid (Kd.R_below HO1d.out hb); have HO2e := Lib.hid (Kd.R_below HO2d.out hb); clear hb HSW HO1d HO2d)
  have c3 := HCV.out w5 #[.int .u8 97] 1 1
  obtain ⟨W6, hW6⟩ : ∃ W6, w5.alloc (.cells #[.int .u8 97] 5 (1, 2)) = W6 := ⟨_, rfl⟩
  have k3 : Kd.C (Kd.int .u8) W6 (some ⟨w5.heap.size, 0, none⟩) ([97] : List Int).length [97] := by
    rw [← hW6]
    exact lit_C [97] (heap_alloc_new w5 _) rfl (by decide)
  have hb6 : Below w5.heap.size w5 W6 := by rw [← hW6]; exact below_alloc (Below.refl _ w5) _
  have HSW := Lib.hid (sets_Swap.calls ⟨#[97]⟩ _ 1 [97] none 0 [] _ _ W6 k3 (by decide) (Kd.C_nil _ _) (by decide) p5)
  have HB6 := Lib.hid (HB5.out.trans (hb6.mono HB5.out.size))
  have HO1f := Lib.hid (Kd.R_below HO1e.out hb6)
  have HO2f := Lib.hid (Kd.R_below HO2e.out hb6)
  have HW6 := Lib.hid hW6
  clear k3 hb6 hW6 HO1e HO2e HB5 c1 c2
  go_upto_region 6 with (go_at_call 10; rw [HW6.out]; refine HSW.out.mono ?_; rintro e w7 ⟨rfl, hb⟩; have HB7 := Lib.hid (HB6.out.trans (hb.mono HB6.out.size)); have HO1g := Lib.hid (Kd.R_below HO1f.out hb); have HO2g := Lib.hid (Kd.R_below HO2f.out hb); clear hb HSW HO1f HO2f)
  obtain ⟨A1, q1, rfl, hq1, hC1⟩ := Kd.R_reads HO1g.out
  obtain ⟨A2, q2, rfl, hq2, hC2⟩ := Kd.R_reads HO2g.out
  have hs1 := string_of_reads (c := q1) Tryd.underlying22 Tryd.underlying5 Tryd.underlying9 (Kd.reads_of_C (enc := Value.int .u8) (d := (0 : Int)) (h1 := fun _ => rfl) hC1)
  have e1 : strOfNums [97, 98, 99, 45, 101] = ⟨#[97, 98, 99, 45, 101]⟩ := rfl
  rw [e1] at hs1
  have HC2 := Lib.hid hC2
  clear hC1 hC2 c3 hq1 hq2 e1
  have hs2 : (convert 22 9 (.slice A1 5 q1)).run Tryd.prog w7 = .ok (.string ⟨#[97, 98, 99, 45, 101]⟩) w7 := hs1
  clear hs1
  have ks1 : Kd.C (Kd.int .u8) (w7.alloc (.cells #[.int .u8 65, .int .u8 56, .int .u8 10] 5)) A2 ([65, 56, 10] : List Int).length [65, 56, 10] := Kd.C_alloc HC2.out _
  have ks2 : Kd.C (Kd.int .u8) (w7.alloc (.cells #[.int .u8 65, .int .u8 56, .int .u8 10] 5)) (some ⟨w7.heap.size, 0, none⟩) ([65, 56, 10] : List Int).length [65, 56, 10] := lit_C (fr := (0, 0)) [65, 56, 10] (heap_alloc_new w7 _) rfl (by decide)
  have HSM := Lib.hid (same_walk A2 q2 _ 3 [65, 56, 10] _ ks1 ks2 (by decide))
  have HB8 := Lib.hid (below_alloc HB7.out (.cells #[.int .u8 65, .int .u8 56, .int .u8 10] 5))
  clear ks1 ks2 HO1g HO2g HC2
  have hdr := fun (W : World) => sets_Drop.calls ⟨#[104, 101, 108, 108, 111]⟩ _ 1 [108] _ (W.alloc (.cells #[.int .u8 108] 5 (1, 2))) (lit_C [108] (heap_alloc_new W _) rfl (by decide)) (by decide) p6
  have hsq := fun (W : World) => sets_Squeeze.calls ⟨#[97, 97, 98, 98, 99, 99, 97]⟩ _ 2 [97, 99] _ (W.alloc (.cells #[.int .u8 97, .int .u8 99] 5 (2, 3))) (lit_C [97, 99] (heap_alloc_new W _) rfl (by decide)) (by decide) p7
  have HDR := Lib.hid hdr
  have HSQ := Lib.hid hsq
  clear hdr hsq
  go_wp2_with (first
    | (go_at_call 16; refine HSM.out.mono ?_; rintro e w9 ⟨rfl, hb⟩; have HB9 := Lib.hid (HB8.out.trans (hb.mono HB8.out.size)); have c5 := HCV.out w9 #[.int .u8 108] 1 1; clear hb)
    | (go_at_call 12; refine (HDR.out _).mono ?_; rintro e w10 ⟨rfl, hb⟩; have HB10 := Lib.hid ((below_alloc HB9.out _).trans (hb.mono (below_alloc HB9.out _).size)); have c6 := HCV.out w10 #[.int .u8 97, .int .u8 99] 2 2; clear hb)
    | (go_at_call 13; refine (HSQ.out _).mono ?_; rintro e w11 ⟨rfl, hb⟩; have HB11 := Lib.hid ((below_alloc HB10.out _).trans (hb.mono (below_alloc HB10.out _).size)); clear hb))
  go_ret
  exact ⟨rfl, HB11.out⟩
def toolchestlaw04_alive.f : Option Bool := some true
theorem toolchestlaw04_alive.calls (r : Bool) (w : World) (h : toolchestlaw04_alive.f = some r) (G : Glob w) :
    Calls Tryd.prog 9 #[] w fun e w' => e = .returned (.bool r) ∧ Below w.heap.size w w' := by
  cases h
  exact alive_walk w G
end Go.Proofs.YtndmngijfleilaaDoor.L
