-- Printed by the kit's printer, run by wip/tools/xprint.py with some functions given; not trusted: Lean checks it.
import Derived.Test.YtajnkflopndejaaDoorLx0
import Derived.Test.YtajnkflopndejaaDoorLx4
import Derived.Test.YtajnkflopndejaaDoorLx5
import Derived.Test.YtajnkflopndejaaDoorExt
namespace Go.Proofs.YtajnkflopndejaaDoor.L
open Go.RowKit Go.Proofs.YtajnkflopndejaaDoorW.PrintWords Go.Proofs.YtajnkflopndejaaDoorW.PrintLast Go.Proofs.YtajnkflopndejaaDoorW.PrintMore
attribute [local go_sem] max2_int min2_int max_two min_two max_three min_three max_four min_four   -- for this text's walks alone
set_option linter.unusedVariables false
set_option linter.unusedSimpArgs false

/-! ### toolchestlaw10_ModesSigns: function 4 -/
mutual
def toolchestlaw10_ModesSigns.j0 : Nat → Int → ByteArray → Bool → Int → Int → Bool → Option (Bool)
  | 0, _, _, _, _, _, _ => none
  | k + 1, x0, x5, x24, x143000, x143001, x143002 => if x24 = true then (some false) else (toolchestlaw10_ModesSigns.l0 k x0 x5 (⟨#[]⟩ : ByteArray) 0 x143000 x143001 x143002)
def toolchestlaw10_ModesSigns.l0 : Nat → Int → ByteArray → ByteArray → Int → Int → Int → Bool → Option (Bool)
  | 0, _, _, _, _, _, _, _ => none
  | k + 1, x0, x5, x6, x7, x143000, x143001, x143002 => if x7 < 3 then (if x7 > 0 then (if x6.size + 1 ≤ 9223372036854775807 then (toolchestlaw10_ModesSigns.j2 k x0 x5 (x6 ++ (⟨#[44]⟩ : ByteArray)) x7 x143000 x143001 x143002) else (none)) else (toolchestlaw10_ModesSigns.j2 k x0 x5 x6 x7 x143000 x143001 x143002)) else ((toolchestlaw10_by.f k x6 x143000 x143001 x143002).bind fun t145 => (some (t145 == (Go.bits .and .i64 x0 511))))
def toolchestlaw10_ModesSigns.j2 : Nat → Int → ByteArray → ByteArray → Int → Int → Int → Bool → Option (Bool)
  | 0, _, _, _, _, _, _, _ => none
  | k + 1, x0, x5, x6, x7, x143000, x143001, x143002 => if 0 ≤ x7 then (if x7 ≤ (wrap64 (x7 + 1)) then (if (wrap64 (x7 + 1)) ≤ 3 then (if x6.size + ((⟨#[117, 103, 111]⟩ : ByteArray).extract (x7 : Int).toNat ((wrap64 (x7 + 1)) : Int).toNat).size ≤ 9223372036854775807 then (if (x6 ++ ((⟨#[117, 103, 111]⟩ : ByteArray).extract (x7 : Int).toNat ((wrap64 (x7 + 1)) : Int).toNat)).size + 1 ≤ 9223372036854775807 then (toolchestlaw10_ModesSigns.l1 k x0 x5 ((x6 ++ ((⟨#[117, 103, 111]⟩ : ByteArray).extract (x7 : Int).toNat ((wrap64 (x7 + 1)) : Int).toNat)) ++ (⟨#[61]⟩ : ByteArray)) x7 0 x143000 x143001 x143002) else (none)) else (none)) else (none)) else (none)) else (none)
def toolchestlaw10_ModesSigns.l1 : Nat → Int → ByteArray → ByteArray → Int → Int → Int → Int → Bool → Option (Bool)
  | 0, _, _, _, _, _, _, _, _ => none
  | k + 1, x0, x5, x6, x7, x8, x143000, x143001, x143002 => if x8 < 3 then (if 0 ≤ (wrap64 ((wrap64 (1 + (wrap64 (3 * x7)))) + x8)) then (if (wrap64 ((wrap64 (1 + (wrap64 (3 * x7)))) + x8)) < (x5.size : Int) then (if 0 ≤ (wrap64 ((wrap64 (8 - (wrap64 (3 * x7)))) - x8)) then (if 0 ≤ x8 then (if (((Go.bits .and .i64 (shr .i64 x0 (wrap64 ((wrap64 (8 - (wrap64 (3 * x7)))) - x8))) 1) == 1) != ((bt x5 (wrap64 ((wrap64 (1 + (wrap64 (3 * x7)))) + x8))) == (bt (⟨#[114, 119, 120]⟩ : ByteArray) x8))) = true then (toolchestlaw10_ModesSigns.j4 k x0 x5 x6 x7 x8 (bt x5 (wrap64 ((wrap64 (1 + (wrap64 (3 * x7)))) + x8))) ((Go.bits .and .i64 (shr .i64 x0 (wrap64 ((wrap64 (8 - (wrap64 (3 * x7)))) - x8))) 1) == 1) true x143000 x143001 x143002) else (if ((Go.bits .and .i64 (shr .i64 x0 (wrap64 ((wrap64 (8 - (wrap64 (3 * x7)))) - x8))) 1) = 1) then (toolchestlaw10_ModesSigns.j4 k x0 x5 x6 x7 x8 (bt x5 (wrap64 ((wrap64 (1 + (wrap64 (3 * x7)))) + x8))) ((Go.bits .and .i64 (shr .i64 x0 (wrap64 ((wrap64 (8 - (wrap64 (3 * x7)))) - x8))) 1) == 1) false x143000 x143001 x143002) else (toolchestlaw10_ModesSigns.j4 k x0 x5 x6 x7 x8 (bt x5 (wrap64 ((wrap64 (1 + (wrap64 (3 * x7)))) + x8))) ((Go.bits .and .i64 (shr .i64 x0 (wrap64 ((wrap64 (8 - (wrap64 (3 * x7)))) - x8))) 1) == 1) ((bt x5 (wrap64 ((wrap64 (1 + (wrap64 (3 * x7)))) + x8))) != 45) x143000 x143001 x143002))) else (none)) else (none)) else (none)) else (none)) else (toolchestlaw10_ModesSigns.l0 k x0 x5 x6 (wrap64 (x7 + 1)) x143000 x143001 x143002)
def toolchestlaw10_ModesSigns.j4 : Nat → Int → ByteArray → ByteArray → Int → Int → Int → Bool → Bool → Int → Int → Bool → Option (Bool)
  | 0, _, _, _, _, _, _, _, _, _, _, _ => none
  | k + 1, x0, x5, x6, x7, x8, x9, x10, x73, x143000, x143001, x143002 => if x73 = true then (some false) else (if x10 = true then ((some (([x9] : List Int) : List Int)).bind fun y146 => (if x6.size + (strOfNums y146).size ≤ 9223372036854775807 then (toolchestlaw10_ModesSigns.l1 k x0 x5 (x6 ++ (strOfNums y146)) x7 (wrap64 (x8 + 1)) x143000 x143001 x143002) else (none))) else (toolchestlaw10_ModesSigns.l1 k x0 x5 x6 x7 (wrap64 (x8 + 1)) x143000 x143001 x143002))
end
def toolchestlaw10_ModesSigns.f (k : Nat) (a0 : Int) (a1_0 : Int) (a1_1 : Int) (a1_2 : Bool) : Option (Bool) := (modes_Text.f 2 a0).bind fun t143 => ((toolchestlaw10_alive.f k).bind fun t144 => (if t144 = true then (if (t143.size : Int) = 10 then (if 0 < (t143.size : Int) then (toolchestlaw10_ModesSigns.j0 k a0 t143 ((bt t143 0) != 100) a1_0 a1_1 a1_2) else (none)) else (toolchestlaw10_ModesSigns.j0 k a0 t143 true a1_0 a1_1 a1_2)) else (toolchestlaw10_ModesSigns.j0 k a0 t143 true a1_0 a1_1 a1_2)))
theorem toolchestlaw10_ModesSigns.mono_l : ∀ k, (∀ y0 y1 y2 y3 y4 y5, LeO (toolchestlaw10_ModesSigns.j0 k y0 y1 y2 y3 y4 y5) (toolchestlaw10_ModesSigns.j0 (k + 1) y0 y1 y2 y3 y4 y5)) ∧ (∀ y0 y1 y2 y3 y4 y5 y6, LeO (toolchestlaw10_ModesSigns.l0 k y0 y1 y2 y3 y4 y5 y6) (toolchestlaw10_ModesSigns.l0 (k + 1) y0 y1 y2 y3 y4 y5 y6)) ∧ (∀ y0 y1 y2 y3 y4 y5 y6, LeO (toolchestlaw10_ModesSigns.j2 k y0 y1 y2 y3 y4 y5 y6) (toolchestlaw10_ModesSigns.j2 (k + 1) y0 y1 y2 y3 y4 y5 y6)) ∧ (∀ y0 y1 y2 y3 y4 y5 y6 y7, LeO (toolchestlaw10_ModesSigns.l1 k y0 y1 y2 y3 y4 y5 y6 y7) (toolchestlaw10_ModesSigns.l1 (k + 1) y0 y1 y2 y3 y4 y5 y6 y7)) ∧ (∀ y0 y1 y2 y3 y4 y5 y6 y7 y8 y9 y10, LeO (toolchestlaw10_ModesSigns.j4 k y0 y1 y2 y3 y4 y5 y6 y7 y8 y9 y10) (toolchestlaw10_ModesSigns.j4 (k + 1) y0 y1 y2 y3 y4 y5 y6 y7 y8 y9 y10))
  | 0 => ⟨fun _ _ _ _ _ _ r h => by simp [toolchestlaw10_ModesSigns.j0] at h, fun _ _ _ _ _ _ _ r h => by simp [toolchestlaw10_ModesSigns.l0] at h, fun _ _ _ _ _ _ _ r h => by simp [toolchestlaw10_ModesSigns.j2] at h, fun _ _ _ _ _ _ _ _ r h => by simp [toolchestlaw10_ModesSigns.l1] at h, fun _ _ _ _ _ _ _ _ _ _ _ r h => by simp [toolchestlaw10_ModesSigns.j4] at h⟩
  | k + 1 => by
    obtain ⟨ih0, ih1, ih2, ih3, ih4⟩ := toolchestlaw10_ModesSigns.mono_l k
    refine ⟨?_, ?_, ?_, ?_, ?_⟩
    · intro y0 y1 y2 y3 y4 y5
      unfold toolchestlaw10_ModesSigns.j0
      repeat' first
      | (with_reducible exact ih0 _ _ _ _ _ _)
      | (with_reducible exact ih1 _ _ _ _ _ _ _)
      | (with_reducible exact ih2 _ _ _ _ _ _ _)
      | (with_reducible exact ih3 _ _ _ _ _ _ _ _)
      | (with_reducible exact ih4 _ _ _ _ _ _ _ _ _ _ _)
      | (with_reducible exact toolchestlaw10_alive.mono _)
      | (with_reducible exact toolchestlaw10_by.mono _ _ _ _ _)
      | (with_reducible exact LeO.refl _)
      | (with_reducible exact LeO.none _)
      | (with_reducible refine LeO.ite ?_ ?_)
      | (with_reducible refine LeO.bind ?_ (fun _ => ?_))
      | exact ih0 _ _ _ _ _ _
      | exact ih1 _ _ _ _ _ _ _
      | exact ih2 _ _ _ _ _ _ _
      | exact ih3 _ _ _ _ _ _ _ _
      | exact ih4 _ _ _ _ _ _ _ _ _ _ _
      | exact toolchestlaw10_alive.mono _
      | exact toolchestlaw10_by.mono _ _ _ _ _
      | exact LeO.none _
      | refine LeO.ite ?_ ?_
      | refine LeO.bind ?_ (fun _ => ?_)
    · intro y0 y1 y2 y3 y4 y5 y6
      unfold toolchestlaw10_ModesSigns.l0
      repeat' first
      | (with_reducible exact ih0 _ _ _ _ _ _)
      | (with_reducible exact ih1 _ _ _ _ _ _ _)
      | (with_reducible exact ih2 _ _ _ _ _ _ _)
      | (with_reducible exact ih3 _ _ _ _ _ _ _ _)
      | (with_reducible exact ih4 _ _ _ _ _ _ _ _ _ _ _)
      | (with_reducible exact toolchestlaw10_alive.mono _)
      | (with_reducible exact toolchestlaw10_by.mono _ _ _ _ _)
      | (with_reducible exact LeO.refl _)
      | (with_reducible exact LeO.none _)
      | (with_reducible refine LeO.ite ?_ ?_)
      | (with_reducible refine LeO.bind ?_ (fun _ => ?_))
      | exact ih0 _ _ _ _ _ _
      | exact ih1 _ _ _ _ _ _ _
      | exact ih2 _ _ _ _ _ _ _
      | exact ih3 _ _ _ _ _ _ _ _
      | exact ih4 _ _ _ _ _ _ _ _ _ _ _
      | exact toolchestlaw10_alive.mono _
      | exact toolchestlaw10_by.mono _ _ _ _ _
      | exact LeO.none _
      | refine LeO.ite ?_ ?_
      | refine LeO.bind ?_ (fun _ => ?_)
    · intro y0 y1 y2 y3 y4 y5 y6
      unfold toolchestlaw10_ModesSigns.j2
      repeat' first
      | (with_reducible exact ih0 _ _ _ _ _ _)
      | (with_reducible exact ih1 _ _ _ _ _ _ _)
      | (with_reducible exact ih2 _ _ _ _ _ _ _)
      | (with_reducible exact ih3 _ _ _ _ _ _ _ _)
      | (with_reducible exact ih4 _ _ _ _ _ _ _ _ _ _ _)
      | (with_reducible exact toolchestlaw10_alive.mono _)
      | (with_reducible exact toolchestlaw10_by.mono _ _ _ _ _)
      | (with_reducible exact LeO.refl _)
      | (with_reducible exact LeO.none _)
      | (with_reducible refine LeO.ite ?_ ?_)
      | (with_reducible refine LeO.bind ?_ (fun _ => ?_))
      | exact ih0 _ _ _ _ _ _
      | exact ih1 _ _ _ _ _ _ _
      | exact ih2 _ _ _ _ _ _ _
      | exact ih3 _ _ _ _ _ _ _ _
      | exact ih4 _ _ _ _ _ _ _ _ _ _ _
      | exact toolchestlaw10_alive.mono _
      | exact toolchestlaw10_by.mono _ _ _ _ _
      | exact LeO.none _
      | refine LeO.ite ?_ ?_
      | refine LeO.bind ?_ (fun _ => ?_)
    · intro y0 y1 y2 y3 y4 y5 y6 y7
      unfold toolchestlaw10_ModesSigns.l1
      repeat' first
      | (with_reducible exact ih0 _ _ _ _ _ _)
      | (with_reducible exact ih1 _ _ _ _ _ _ _)
      | (with_reducible exact ih2 _ _ _ _ _ _ _)
      | (with_reducible exact ih3 _ _ _ _ _ _ _ _)
      | (with_reducible exact ih4 _ _ _ _ _ _ _ _ _ _ _)
      | (with_reducible exact toolchestlaw10_alive.mono _)
      | (with_reducible exact toolchestlaw10_by.mono _ _ _ _ _)
      | (with_reducible exact LeO.refl _)
      | (with_reducible exact LeO.none _)
      | (with_reducible refine LeO.ite ?_ ?_)
      | (with_reducible refine LeO.bind ?_ (fun _ => ?_))
      | exact ih0 _ _ _ _ _ _
      | exact ih1 _ _ _ _ _ _ _
      | exact ih2 _ _ _ _ _ _ _
      | exact ih3 _ _ _ _ _ _ _ _
      | exact ih4 _ _ _ _ _ _ _ _ _ _ _
      | exact toolchestlaw10_alive.mono _
      | exact toolchestlaw10_by.mono _ _ _ _ _
      | exact LeO.none _
      | refine LeO.ite ?_ ?_
      | refine LeO.bind ?_ (fun _ => ?_)
    · intro y0 y1 y2 y3 y4 y5 y6 y7 y8 y9 y10
      unfold toolchestlaw10_ModesSigns.j4
      repeat' first
      | (with_reducible exact ih0 _ _ _ _ _ _)
      | (with_reducible exact ih1 _ _ _ _ _ _ _)
      | (with_reducible exact ih2 _ _ _ _ _ _ _)
      | (with_reducible exact ih3 _ _ _ _ _ _ _ _)
      | (with_reducible exact ih4 _ _ _ _ _ _ _ _ _ _ _)
      | (with_reducible exact toolchestlaw10_alive.mono _)
      | (with_reducible exact toolchestlaw10_by.mono _ _ _ _ _)
      | (with_reducible exact LeO.refl _)
      | (with_reducible exact LeO.none _)
      | (with_reducible refine LeO.ite ?_ ?_)
      | (with_reducible refine LeO.bind ?_ (fun _ => ?_))
      | exact ih0 _ _ _ _ _ _
      | exact ih1 _ _ _ _ _ _ _
      | exact ih2 _ _ _ _ _ _ _
      | exact ih3 _ _ _ _ _ _ _ _
      | exact ih4 _ _ _ _ _ _ _ _ _ _ _
      | exact toolchestlaw10_alive.mono _
      | exact toolchestlaw10_by.mono _ _ _ _ _
      | exact LeO.none _
      | refine LeO.ite ?_ ?_
      | refine LeO.bind ?_ (fun _ => ?_)
theorem toolchestlaw10_ModesSigns.mono : ∀ a0 a1 a2 a3 k, LeO (toolchestlaw10_ModesSigns.f k a0 a1 a2 a3) (toolchestlaw10_ModesSigns.f (k + 1) a0 a1 a2 a3) := by
  intro a0 a1 a2 a3 k
  obtain ⟨ih0, ih1, ih2, ih3, ih4⟩ := toolchestlaw10_ModesSigns.mono_l k
  unfold toolchestlaw10_ModesSigns.f
  repeat' first
      | (with_reducible exact ih0 _ _ _ _ _ _)
      | (with_reducible exact ih1 _ _ _ _ _ _ _)
      | (with_reducible exact ih2 _ _ _ _ _ _ _)
      | (with_reducible exact ih3 _ _ _ _ _ _ _ _)
      | (with_reducible exact ih4 _ _ _ _ _ _ _ _ _ _ _)
      | (with_reducible exact toolchestlaw10_alive.mono _)
      | (with_reducible exact toolchestlaw10_by.mono _ _ _ _ _)
      | (with_reducible exact LeO.refl _)
      | (with_reducible exact LeO.none _)
      | (with_reducible refine LeO.ite ?_ ?_)
      | (with_reducible refine LeO.bind ?_ (fun _ => ?_))
      | exact ih0 _ _ _ _ _ _
      | exact ih1 _ _ _ _ _ _ _
      | exact ih2 _ _ _ _ _ _ _
      | exact ih3 _ _ _ _ _ _ _ _
      | exact ih4 _ _ _ _ _ _ _ _ _ _ _
      | exact toolchestlaw10_alive.mono _
      | exact toolchestlaw10_by.mono _ _ _ _ _
      | exact LeO.none _
      | refine LeO.ite ?_ ?_
      | refine LeO.bind ?_ (fun _ => ?_)
set_option maxHeartbeats 8000000 in
set_option maxRecDepth 100000 in
theorem toolchestlaw10_ModesSigns.calls (k : Nat) (a0 : Int) (a1_0 : Int) (a1_1 : Int) (a1_2 : Bool) (r : Bool) (w : World) (h : toolchestlaw10_ModesSigns.f k a0 a1_0 a1_1 a1_2 = some r) (GL : Glob w) :
    Calls Tryd.prog 4 #[.int .i64 a0, .agg #[.int .i64 a1_0, .int .i64 a1_1, .bool a1_2]] w fun e w' => e = .returned (.bool r) ∧ Below w.heap.size w w' := by
  have hu23 := Tryd.underlying23
  have HB := Aside0.mk (Below.refl w.heap.size w)
  have H : ((modes_Text.f 2 a0).bind fun t143 => ((toolchestlaw10_alive.f k).bind fun t144 => (if t144 = true then (if (t143.size : Int) = 10 then (if 0 < (t143.size : Int) then (toolchestlaw10_ModesSigns.j0 k a0 t143 ((bt t143 0) != 100) a1_0 a1_1 a1_2) else (none)) else (toolchestlaw10_ModesSigns.j0 k a0 t143 true a1_0 a1_1 a1_2)) else (toolchestlaw10_ModesSigns.j0 k a0 t143 true a1_0 a1_1 a1_2)))) = some r := h
  clear h
  replace H := Option.bind_eq_some_iff.mp H
  obtain ⟨t143, A30, H⟩ := H
  replace H : ((toolchestlaw10_alive.f k).bind fun t144 => (if t144 = true then (if (t143.size : Int) = 10 then (if 0 < (t143.size : Int) then (toolchestlaw10_ModesSigns.j0 k a0 t143 ((bt t143 0) != 100) a1_0 a1_1 a1_2) else (none)) else (toolchestlaw10_ModesSigns.j0 k a0 t143 true a1_0 a1_1 a1_2)) else (toolchestlaw10_ModesSigns.j0 k a0 t143 true a1_0 a1_1 a1_2))) = some r := H
  have A3 := Aside0.mk A30
  clear A30
  have HC4 := Aside0.mk H
  clear H
  go_enter Tryd.func4, Tryd.ntmps4
  go_upto_region 2 with (first | ((with_reducible refine gate_dst (N := 3) rfl ?_); (try (refine gate_guard (by rfl) ?_; dsimp only)); refine box_event ?hg (N := 3) ?hd (cs := #[.int .i64 a1_0, .int .i64 a1_1, .bool a1_2]) (t := 23) ?hr ?_; (case hd => rfl); (case hg => rfl); (case hr => first | (go_simp; done) | (go_simp; rfl)); intro gb142 hg w5 hbox hb; have n0_ := Aside0.mk (below_step (by repeat (first | (with_reducible first | exact HB.out | apply below_alloc | apply pw_below_drewN | apply below_drew1) | exact HB.out)) hb); have n1_ := Aside0.mk (hbox); have n2_ := Aside0.mk ((by rw [hg]; exact (below_size (by repeat (first | (with_reducible first | exact HB.out | apply below_alloc | apply pw_below_drewN | apply below_drew1) | exact HB.out))) : w.heap.size ≤ gb142)); have n3_ := Aside0.mk ((by rw [hg]; exact (below_size (by repeat (first | (with_reducible first | exact HB.out | apply below_alloc | apply pw_below_drewN | apply below_drew1) | exact HB.out))) : w.heap.size ≤ gb142)); clear HB; have HB := n0_; have BK142 := n1_; have GW142 := n2_; have GE142 := n3_; clear n0_ n1_ n2_ n3_; clear hb hbox hg) | ((with_reducible refine gate_callee (f := 13) rfl ?_); refine goesL_ (some 12) rfl rfl Tryd.func13 (by kernel_rfl) rfl #[.int .u8 2, .int .i64 a0] rfl (by (try simp only [List.map_toArray, List.map_cons, List.map_nil]); first | done | rfl | (simp only [List.length_drop, List.length_take]; rfl)) ?_; (with_reducible refine (modes_Text.calls 2 a0 t143 _ A3.out).mono ?_); rintro e w6 ⟨rfl, hb⟩; refine ⟨_, rfl, ?_⟩; have n0_ := Aside0.mk (blk_below (g := gb142) (o := .cells #[.int .i64 a1_0, .int .i64 a1_1, .bool a1_2] 23 (0, 0)) (by (with_reducible repeat (first | refine blk_drewN ?_ _ | refine blk_drew ?_ | refine blk_alloc ?_ _)); exact BK142.out) hb); have n1_ := Aside0.mk (below_step (by repeat (first | (with_reducible first | exact HB.out | apply below_alloc | apply pw_below_drewN | apply below_drew1 | refine below_set ?_ GE142.out) | exact HB.out)) hb); clear BK142; clear HB; have BK142 := n0_; have HB := n1_; clear n0_ n1_; (try clear hb); (try clear hb2); (try clear hk); (try clear hi)))
  (try simp only [Act.put, List.setIfInBounds_toArray, List.set_cons_zero, List.set_cons_succ])
  go_cut [24] (fun v24 wc => ∃ (kq : Nat) (x24_3 : Bool), v24 = .bool x24_3 ∧ Aside0 (toolchestlaw10_ModesSigns.j0 kq a0 t143 x24_3 a1_0 a1_1 a1_2 = some r) ∧ Aside0 (kq ≤ k) ∧ Aside0 (wc.heap[gb142]? = some (.cells #[.int .i64 a1_0, .int .i64 a1_1, .bool a1_2] 23 (0, 0))) ∧ Aside0 (Below w.heap.size w wc))
  case first =>
    have H := HC4.out
    clear HC4
    replace H := Option.bind_eq_some_iff.mp H
    obtain ⟨t144, A70, H⟩ := H
    replace H : (if t144 = true then (if (t143.size : Int) = 10 then (if 0 < (t143.size : Int) then (toolchestlaw10_ModesSigns.j0 k a0 t143 ((bt t143 0) != 100) a1_0 a1_1 a1_2) else (none)) else (toolchestlaw10_ModesSigns.j0 k a0 t143 true a1_0 a1_1 a1_2)) else (toolchestlaw10_ModesSigns.j0 k a0 t143 true a1_0 a1_1 a1_2)) = some r := H
    have A7 := Aside0.mk A70
    clear A70
    by_cases c8 : t144 = true
    · subst c8
      have H1 : (if (t143.size : Int) = 10 then (if 0 < (t143.size : Int) then (toolchestlaw10_ModesSigns.j0 k a0 t143 ((bt t143 0) != 100) a1_0 a1_1 a1_2) else (none)) else (toolchestlaw10_ModesSigns.j0 k a0 t143 true a1_0 a1_1 a1_2)) = some r := by rw [if_pos rfl] at H; exact H
      clear H
      have H := H1
      clear H1
      by_cases c9 : (t143.size : Int) = 10
      · rw [if_pos c9] at H
        have c9b0 : ((t143.size : Int) == 10) = true := beq_iff_eq.mpr c9
        have c9b1 : ((t143.size : Int) != 10) = false := bne_eq_false_iff_eq.mpr c9
        clear c9
        (first | rw [c9b0] | (simp only [i64_w, i32_w]; rw [c9b0]) | skip)
        by_cases c10 : 0 < (t143.size : Int)
        · rw [if_pos c10] at H
          have c10b0 : decide (0 < (t143.size : Int)) = true := decide_eq_true c10
          have c10b1 : decide (0 < t143.size) = true := decide_eq_true (by omega)
          clear c10
          have H' := Aside0.mk H
          clear H
          go_wp2_with (first | ((with_reducible refine gate_callee (f := 11) rfl ?_); refine goesL_ (some 13) rfl rfl Tryd.func11 (by kernel_rfl) rfl #[] rfl (by (try simp only [List.map_toArray, List.map_cons, List.map_nil]); first | done | rfl | (simp only [List.length_drop, List.length_take]; rfl)) ?_; (with_reducible refine (toolchestlaw10_alive.calls k  true _ A7.out (Glob.below GL (by repeat (first | (with_reducible first | exact HB.out | apply below_alloc | apply pw_below_drewN | apply below_drew1 | refine below_set ?_ GE142.out) | exact HB.out)))).mono ?_); rintro e w12 ⟨rfl, hb⟩; refine ⟨_, rfl, ?_⟩; have n0_ := Aside0.mk (blk_below (g := gb142) (o := .cells #[.int .i64 a1_0, .int .i64 a1_1, .bool a1_2] 23 (0, 0)) (by (with_reducible repeat (first | refine blk_drewN ?_ _ | refine blk_drew ?_ | refine blk_alloc ?_ _)); exact BK142.out) hb); have n1_ := Aside0.mk (below_step (by repeat (first | (with_reducible first | exact HB.out | apply below_alloc | apply pw_below_drewN | apply below_drew1 | refine below_set ?_ GE142.out) | exact HB.out)) hb); clear BK142; clear HB; have BK142 := n0_; have HB := n1_; clear n0_ n1_; (try clear hb); (try clear hb2); (try clear hk); (try clear hi); have p11 : 0 ≤ (0 : Int) := (by omega); have q11 : 0 < t143.size := (by have : (0 : Int) < (t143.size : Int) := of_decide_eq_true (by first | (with_reducible assumption) | assumption); omega); have hx11 : ∀ h : 0 < t143.size, ((t143[0]'h).toNat : Int) = bt t143 0 := bt_at t143 0; clear p11; have qi11 : (0 < (t143.size : Int)) = True := eq_true (of_decide_eq_true (by first | (with_reducible assumption) | assumption)); replace q11 := eq_true q11))
          go_meet
          case rel => exact ⟨_, (((bt t143 0) != 100)), (by first | rfl | (simp; done) | (simp [*]; done)), H', ⟨by first | omega | exact Nat.le_refl _⟩, ⟨by (with_reducible repeat (first | refine blk_drewN ?_ _ | refine blk_drew ?_ | refine blk_alloc ?_ _)); exact BK142.out⟩, ⟨by repeat (first | (with_reducible first | exact HB.out | apply below_alloc | apply pw_below_drewN | apply below_drew1 | refine below_set ?_ GE142.out) | exact HB.out)⟩⟩
        · rw [if_neg c10] at H
          exact absurd H (by simp)
      · rw [if_neg c9] at H
        have c9b0 : ((t143.size : Int) == 10) = false := beq_eq_false_iff_ne.mpr c9
        have c9b1 : ((t143.size : Int) != 10) = true := bne_iff_ne.mpr c9
        (first | rw [c9b0] | (simp only [i64_w, i32_w]; rw [c9b0]) | skip)
        have H' := Aside0.mk H
        clear H
        go_wp2_with (first | ((with_reducible refine gate_callee (f := 11) rfl ?_); refine goesL_ (some 13) rfl rfl Tryd.func11 (by kernel_rfl) rfl #[] rfl (by (try simp only [List.map_toArray, List.map_cons, List.map_nil]); first | done | rfl | (simp only [List.length_drop, List.length_take]; rfl)) ?_; (with_reducible refine (toolchestlaw10_alive.calls k  true _ A7.out (Glob.below GL (by repeat (first | (with_reducible first | exact HB.out | apply below_alloc | apply pw_below_drewN | apply below_drew1 | refine below_set ?_ GE142.out) | exact HB.out)))).mono ?_); rintro e w13 ⟨rfl, hb⟩; refine ⟨_, rfl, ?_⟩; have n0_ := Aside0.mk (blk_below (g := gb142) (o := .cells #[.int .i64 a1_0, .int .i64 a1_1, .bool a1_2] 23 (0, 0)) (by (with_reducible repeat (first | refine blk_drewN ?_ _ | refine blk_drew ?_ | refine blk_alloc ?_ _)); exact BK142.out) hb); have n1_ := Aside0.mk (below_step (by repeat (first | (with_reducible first | exact HB.out | apply below_alloc | apply pw_below_drewN | apply below_drew1 | refine below_set ?_ GE142.out) | exact HB.out)) hb); clear BK142; clear HB; have BK142 := n0_; have HB := n1_; clear n0_ n1_; (try clear hb); (try clear hb2); (try clear hk); (try clear hi)))
        go_meet
        case rel => exact ⟨_, (true), (by first | rfl | (simp; done) | (simp [*]; done)), H', ⟨by first | omega | exact Nat.le_refl _⟩, ⟨by (with_reducible repeat (first | refine blk_drewN ?_ _ | refine blk_drew ?_ | refine blk_alloc ?_ _)); exact BK142.out⟩, ⟨by repeat (first | (with_reducible first | exact HB.out | apply below_alloc | apply pw_below_drewN | apply below_drew1 | refine below_set ?_ GE142.out) | exact HB.out)⟩⟩
    · replace c8 := Bool.eq_false_iff.mpr c8
      subst c8
      have H1 : (toolchestlaw10_ModesSigns.j0 k a0 t143 true a1_0 a1_1 a1_2) = some r := by rw [if_neg (show ¬ (false = true) by decide)] at H; exact H
      clear H
      have H := H1
      clear H1
      have H' := Aside0.mk H
      clear H
      go_wp2_with (first | ((with_reducible refine gate_callee (f := 11) rfl ?_); refine goesL_ (some 13) rfl rfl Tryd.func11 (by kernel_rfl) rfl #[] rfl (by (try simp only [List.map_toArray, List.map_cons, List.map_nil]); first | done | rfl | (simp only [List.length_drop, List.length_take]; rfl)) ?_; (with_reducible refine (toolchestlaw10_alive.calls k  false _ A7.out (Glob.below GL (by repeat (first | (with_reducible first | exact HB.out | apply below_alloc | apply pw_below_drewN | apply below_drew1 | refine below_set ?_ GE142.out) | exact HB.out)))).mono ?_); rintro e w14 ⟨rfl, hb⟩; refine ⟨_, rfl, ?_⟩; have n0_ := Aside0.mk (blk_below (g := gb142) (o := .cells #[.int .i64 a1_0, .int .i64 a1_1, .bool a1_2] 23 (0, 0)) (by (with_reducible repeat (first | refine blk_drewN ?_ _ | refine blk_drew ?_ | refine blk_alloc ?_ _)); exact BK142.out) hb); have n1_ := Aside0.mk (below_step (by repeat (first | (with_reducible first | exact HB.out | apply below_alloc | apply pw_below_drewN | apply below_drew1 | refine below_set ?_ GE142.out) | exact HB.out)) hb); clear BK142; clear HB; have BK142 := n0_; have HB := n1_; clear n0_ n1_; (try clear hb); (try clear hb2); (try clear hk); (try clear hi)))
      go_meet
      case rel => exact ⟨_, (true), (by first | rfl | (simp; done) | (simp [*]; done)), H', ⟨by first | omega | exact Nat.le_refl _⟩, ⟨by (with_reducible repeat (first | refine blk_drewN ?_ _ | refine blk_drew ?_ | refine blk_alloc ?_ _)); exact BK142.out⟩, ⟨by repeat (first | (with_reducible first | exact HB.out | apply below_alloc | apply pw_below_drewN | apply below_drew1 | refine below_set ?_ GE142.out) | exact HB.out)⟩⟩
  case rest =>
    clear HC4
    try clear c1
    try clear p1
    try clear q1
    try clear hx1
    try clear qi1
    try clear p2
    try clear c4
    try clear c8
    try clear c9
    try clear c9b0
    try clear c9b1
    try clear c10
    try clear c10b0
    try clear c10b1
    try clear c11
    try clear p11
    try clear q11
    try clear hx11
    try clear qi11
    try clear c13
    try clear p11
    try clear q11
    obtain ⟨kq, x24_3, rfl, HA, HJ3, BK142, HB⟩ := hcut
    cases kq with
    | zero => exact absurd HA.out (by simp [toolchestlaw10_ModesSigns.j0])
    | succ kj3 =>
      have H := HA.out
      clear HA
      simp only [toolchestlaw10_ModesSigns.j0] at H
      by_cases c15 : x24_3 = true
      · subst c15
        have H1 : (some false) = some r := by rw [if_pos rfl] at H; exact H
        clear H
        have H := H1
        clear H1
        obtain rfl := Option.some.inj H
        go_wp2
        go_ret
        exact ⟨by first | rfl | (simp [errW_none, errW_some] <;> rfl) | (simp [*, errW_none, errW_some] <;> rfl), by repeat (first | (with_reducible first | exact HB.out | apply below_alloc | apply pw_below_drewN | apply below_drew1 | refine below_set ?_ GE142.out) | exact HB.out)⟩
      · replace c15 := Bool.eq_false_iff.mpr c15
        subst c15
        have H1 : (toolchestlaw10_ModesSigns.l0 kj3 a0 t143 (⟨#[]⟩ : ByteArray) 0 a1_0 a1_1 a1_2) = some r := by rw [if_neg (show ¬ (false = true) by decide)] at H; exact H
        clear H
        have H := H1
        clear H1
        have H' := Aside0.mk H
        clear H
        go_wp2
        go_loopg [6, 7] kj3 (fun kq v6 v7 w' => ∃ (x6_2 : ByteArray) (x7_2 : Int), v6 = .string x6_2 ∧ v7 = .int .i64 x7_2 ∧ Aside0 (toolchestlaw10_ModesSigns.l0 kq a0 t143 x6_2 x7_2 a1_0 a1_1 a1_2 = some r) ∧ Aside0 (kq ≤ kj3) ∧ Aside0 (w'.heap[gb142]? = some (.cells #[.int .i64 a1_0, .int .i64 a1_1, .bool a1_2] 23 (0, 0))) ∧ Aside0 (Below w.heap.size w w'))
        case atStart => exact ⟨((⟨#[]⟩ : ByteArray)), (0), (by first | rfl | (simp; done) | (simp [*]; done)), (by first | rfl | (simp; done) | (simp [*]; done)), H', ⟨Nat.le_refl _⟩, ⟨by (with_reducible repeat (first | refine blk_drewN ?_ _ | refine blk_drew ?_ | refine blk_alloc ?_ _)); exact BK142.out⟩, ⟨by repeat (first | (with_reducible first | exact HB.out | apply below_alloc | apply pw_below_drewN | apply below_drew1 | refine below_set ?_ GE142.out) | exact HB.out)⟩⟩
        case round =>
          clear H'
          try clear c1
          try clear p1
          try clear q1
          try clear hx1
          try clear qi1
          try clear p2
          try clear c4
          try clear c8
          try clear c9
          try clear c9b0
          try clear c9b1
          try clear c10
          try clear c10b0
          try clear c10b1
          try clear c11
          try clear p11
          try clear q11
          try clear hx11
          try clear qi11
          try clear c13
          try clear c15
          try clear p1
          try clear p11
          try clear p2
          try clear q1
          try clear q11
          obtain ⟨x6_2, x7_2, rfl, rfl, HA, HK2, BK142, HB⟩ := hrel
          cases gk with
          | zero => exact absurd HA.out (by simp [toolchestlaw10_ModesSigns.l0])
          | succ k2 =>
            have H := HA.out
            clear HA
            simp only [toolchestlaw10_ModesSigns.l0] at H
            by_cases c16 : x7_2 < 3
            · rw [if_pos c16] at H
              have c16b0 : decide (x7_2 < 3) = true := decide_eq_true c16
              clear c16
              have HC17 := Aside0.mk H
              clear H
              go_upto_if 30 with (fail)
              go_cut [6] (fun v6 wc => ∃ (kq : Nat) (x6_16 : ByteArray), v6 = .string x6_16 ∧ Aside0 (toolchestlaw10_ModesSigns.j2 kq a0 t143 x6_16 x7_2 a1_0 a1_1 a1_2 = some r) ∧ Aside0 (kq ≤ k2) ∧ Aside0 (wc.heap[gb142]? = some (.cells #[.int .i64 a1_0, .int .i64 a1_1, .bool a1_2] 23 (0, 0))) ∧ Aside0 (Below w.heap.size w wc))
              case first =>
                have H := HC17.out
                clear HC17
                by_cases c18 : x7_2 > 0
                · rw [if_pos c18] at H
                  have c18b0 : decide (0 < x7_2) = true := decide_eq_true c18
                  clear c18
                  (first | rw [c18b0] | (simp only [i64_w, i32_w]; rw [c18b0]) | skip)
                  by_cases c19 : x6_2.size + 1 ≤ 9223372036854775807
                  · rw [if_pos c19] at H
                    have c19b0 := eq_true c19
                    have c19b1 : decide (x6_2.size + 1 ≤ 9223372036854775807) = true := decide_eq_true c19
                    try have c19b2 : (9223372036854775807 < x6_2.size + 1) = False := eq_false (Nat.not_lt.2 c19)
                    have H' := Aside0.mk H
                    clear H
                    go_wp2
                    go_meet
                    case rel => exact ⟨_, (x6_2 ++ (⟨#[44]⟩ : ByteArray)), (by first | rfl | (simp; done) | (simp [*]; done)), H', ⟨by have := HJ3.out; have := HK2.out; first | omega | exact Nat.le_refl _⟩, ⟨by (with_reducible repeat (first | refine blk_drewN ?_ _ | refine blk_drew ?_ | refine blk_alloc ?_ _)); exact BK142.out⟩, ⟨by repeat (first | (with_reducible first | exact HB.out | apply below_alloc | apply pw_below_drewN | apply below_drew1 | refine below_set ?_ GE142.out) | exact HB.out)⟩⟩
                  · rw [if_neg c19] at H
                    exact absurd H (by simp)
                · rw [if_neg c18] at H
                  have c18b0 : decide (0 < x7_2) = false := decide_eq_false c18
                  clear c18
                  (first | rw [c18b0] | (simp only [i64_w, i32_w]; rw [c18b0]) | skip)
                  have H' := Aside0.mk H
                  clear H
                  go_wp2
                  go_meet
                  case rel => exact ⟨_, (x6_2), (by first | rfl | (simp; done) | (simp [*]; done)), H', ⟨by have := HJ3.out; have := HK2.out; first | omega | exact Nat.le_refl _⟩, ⟨by (with_reducible repeat (first | refine blk_drewN ?_ _ | refine blk_drew ?_ | refine blk_alloc ?_ _)); exact BK142.out⟩, ⟨by repeat (first | (with_reducible first | exact HB.out | apply below_alloc | apply pw_below_drewN | apply below_drew1 | refine below_set ?_ GE142.out) | exact HB.out)⟩⟩
              case rest =>
                clear HC17
                try clear c1
                try clear p1
                try clear q1
                try clear hx1
                try clear qi1
                try clear p2
                try clear c4
                try clear c8
                try clear c9
                try clear c9b0
                try clear c9b1
                try clear c10
                try clear c10b0
                try clear c10b1
                try clear c11
                try clear p11
                try clear q11
                try clear hx11
                try clear qi11
                try clear c13
                try clear c15
                try clear c16
                try clear c16b0
                try clear c18
                try clear c18b0
                try clear c19
                try clear c19b0
                try clear c19b1
                try clear c19b2
                try clear p1
                try clear p11
                try clear p2
                try clear q1
                try clear q11
                obtain ⟨kq, x6_16, rfl, HA, HJ16, BK142, HB⟩ := hcut
                cases kq with
                | zero => exact absurd HA.out (by simp [toolchestlaw10_ModesSigns.j2])
                | succ kj16 =>
                  have H := HA.out
                  clear HA
                  simp only [toolchestlaw10_ModesSigns.j2] at H
                  by_cases c20 : 0 ≤ x7_2
                  · rw [if_pos c20] at H
                    have c20b0 := eq_true c20
                    have c20b1 : decide (0 ≤ x7_2) = true := decide_eq_true c20
                    clear c20
                    by_cases c21 : x7_2 ≤ (wrap64 (x7_2 + 1))
                    · rw [if_pos c21] at H
                      have c21b0 := eq_true c21
                      have c21b1 : decide (x7_2 ≤ (wrap64 (x7_2 + 1))) = true := decide_eq_true c21
                      by_cases c22 : (wrap64 (x7_2 + 1)) ≤ 3
                      · rw [if_pos c22] at H
                        have c22b0 := eq_true c22
                        have c22b1 : decide ((wrap64 (x7_2 + 1)) ≤ 3) = true := decide_eq_true c22
                        by_cases c23 : x6_16.size + ((⟨#[117, 103, 111]⟩ : ByteArray).extract (x7_2 : Int).toNat ((wrap64 (x7_2 + 1)) : Int).toNat).size ≤ 9223372036854775807
                        · rw [if_pos c23] at H
                          have c23b0 := eq_true c23
                          have c23b1 : decide (x6_16.size + ((⟨#[117, 103, 111]⟩ : ByteArray).extract (x7_2 : Int).toNat ((wrap64 (x7_2 + 1)) : Int).toNat).size ≤ 9223372036854775807) = true := decide_eq_true c23
                          try have c23b2 : (9223372036854775807 < x6_16.size + ((⟨#[117, 103, 111]⟩ : ByteArray).extract (x7_2 : Int).toNat ((wrap64 (x7_2 + 1)) : Int).toNat).size) = False := eq_false (Nat.not_lt.2 c23)
                          by_cases c24 : (x6_16 ++ ((⟨#[117, 103, 111]⟩ : ByteArray).extract (x7_2 : Int).toNat ((wrap64 (x7_2 + 1)) : Int).toNat)).size + 1 ≤ 9223372036854775807
                          · rw [if_pos c24] at H
                            have c24b0 := eq_true c24
                            have c24b1 : decide ((x6_16 ++ ((⟨#[117, 103, 111]⟩ : ByteArray).extract (x7_2 : Int).toNat ((wrap64 (x7_2 + 1)) : Int).toNat)).size + 1 ≤ 9223372036854775807) = true := decide_eq_true c24
                            try have c24b2 : (9223372036854775807 < (x6_16 ++ ((⟨#[117, 103, 111]⟩ : ByteArray).extract (x7_2 : Int).toNat ((wrap64 (x7_2 + 1)) : Int).toNat)).size + 1) = False := eq_false (Nat.not_lt.2 c24)
                            have c24x : ∀ W, (Op.stringOp .add (x6_16 ++ ((⟨#[117, 103, 111]⟩ : ByteArray).extract (x7_2 : Int).toNat ((wrap64 (x7_2 + 1)) : Int).toNat)) (⟨#[61]⟩ : ByteArray)).run Tryd.prog W = .ok (.string ((x6_16 ++ ((⟨#[117, 103, 111]⟩ : ByteArray).extract (x7_2 : Int).toNat ((wrap64 (x7_2 + 1)) : Int).toNat)) ++ (⟨#[61]⟩ : ByteArray))) W := fun W => run_string_add_sum W _ _ c24
                            have H' := Aside0.mk H
                            clear H
                            go_wp2
                            go_loopg [6, 8] kj16 (fun kq v6 v8 w' => ∃ (x6_4 : ByteArray) (x8_4 : Int), v6 = .string x6_4 ∧ v8 = .int .i64 x8_4 ∧ Aside0 (toolchestlaw10_ModesSigns.l1 kq a0 t143 x6_4 x7_2 x8_4 a1_0 a1_1 a1_2 = some r) ∧ Aside0 (kq ≤ kj16) ∧ Aside0 (w'.heap[gb142]? = some (.cells #[.int .i64 a1_0, .int .i64 a1_1, .bool a1_2] 23 (0, 0))) ∧ Aside0 (Below w.heap.size w w'))
                            case atStart => exact ⟨((x6_16 ++ ((⟨#[117, 103, 111]⟩ : ByteArray).extract (x7_2 : Int).toNat ((wrap64 (x7_2 + 1)) : Int).toNat)) ++ (⟨#[61]⟩ : ByteArray)), (0), (by first | rfl | (simp; done) | (simp [*]; done)), (by first | rfl | (simp; done) | (simp [*]; done)), H', ⟨Nat.le_refl _⟩, ⟨by (with_reducible repeat (first | refine blk_drewN ?_ _ | refine blk_drew ?_ | refine blk_alloc ?_ _)); exact BK142.out⟩, ⟨by repeat (first | (with_reducible first | exact HB.out | apply below_alloc | apply pw_below_drewN | apply below_drew1 | refine below_set ?_ GE142.out) | exact HB.out)⟩⟩
                            case round =>
                              clear H'
                              try clear c1
                              try clear p1
                              try clear q1
                              try clear hx1
                              try clear qi1
                              try clear c2
                              try clear p2
                              try clear c4
                              try clear p6
                              try clear c8
                              try clear c9
                              try clear c9b0
                              try clear c9b1
                              try clear c10
                              try clear c10b0
                              try clear c10b1
                              try clear c11
                              try clear p11
                              try clear q11
                              try clear hx11
                              try clear qi11
                              try clear c13
                              try clear c15
                              try clear c16
                              try clear c16b0
                              try clear c18
                              try clear c18b0
                              try clear c19
                              try clear c19b0
                              try clear c19b1
                              try clear c19b2
                              try clear c20
                              try clear c20b0
                              try clear c20b1
                              try clear c21
                              try clear c21b0
                              try clear c21b1
                              try clear c22
                              try clear c22b0
                              try clear c22b1
                              try clear c23
                              try clear c23b0
                              try clear c23b1
                              try clear c23b2
                              try clear c24
                              try clear c24b0
                              try clear c24b1
                              try clear c24b2
                              try clear p1
                              try clear p11
                              try clear p2
                              try clear q1
                              try clear q11
                              obtain ⟨x6_4, x8_4, rfl, rfl, HA, HK4, BK142, HB⟩ := hrel
                              cases gk with
                              | zero => exact absurd HA.out (by simp [toolchestlaw10_ModesSigns.l1])
                              | succ k4 =>
                                have H := HA.out
                                clear HA
                                simp only [toolchestlaw10_ModesSigns.l1] at H
                                by_cases c25 : x8_4 < 3
                                · rw [if_pos c25] at H
                                  have c25b0 : decide (x8_4 < 3) = true := decide_eq_true c25
                                  clear c25
                                  obtain ⟨ji26, hji26⟩ : ∃ j_ : Int, (wrap64 ((wrap64 (1 + (wrap64 (3 * x7_2)))) + x8_4)) = j_ := ⟨_, rfl⟩
                                  replace H : (if 0 ≤ (ji26) then (if (ji26) < (t143.size : Int) then (if 0 ≤ (wrap64 ((wrap64 (8 - (wrap64 (3 * x7_2)))) - x8_4)) then (if 0 ≤ x8_4 then (if (((Go.bits .and .i64 (shr .i64 a0 (wrap64 ((wrap64 (8 - (wrap64 (3 * x7_2)))) - x8_4))) 1) == 1) != ((bt t143 (ji26)) == (bt (⟨#[114, 119, 120]⟩ : ByteArray) x8_4))) = true then (toolchestlaw10_ModesSigns.j4 k4 a0 t143 x6_4 x7_2 x8_4 (bt t143 (ji26)) ((Go.bits .and .i64 (shr .i64 a0 (wrap64 ((wrap64 (8 - (wrap64 (3 * x7_2)))) - x8_4))) 1) == 1) true a1_0 a1_1 a1_2) else (if ((Go.bits .and .i64 (shr .i64 a0 (wrap64 ((wrap64 (8 - (wrap64 (3 * x7_2)))) - x8_4))) 1) = 1) then (toolchestlaw10_ModesSigns.j4 k4 a0 t143 x6_4 x7_2 x8_4 (bt t143 (ji26)) ((Go.bits .and .i64 (shr .i64 a0 (wrap64 ((wrap64 (8 - (wrap64 (3 * x7_2)))) - x8_4))) 1) == 1) false a1_0 a1_1 a1_2) else (toolchestlaw10_ModesSigns.j4 k4 a0 t143 x6_4 x7_2 x8_4 (bt t143 (ji26)) ((Go.bits .and .i64 (shr .i64 a0 (wrap64 ((wrap64 (8 - (wrap64 (3 * x7_2)))) - x8_4))) 1) == 1) ((bt t143 (ji26)) != 45) a1_0 a1_1 a1_2))) else (none)) else (none)) else (none)) else (none)) = some r := by first | (rw [hji26] at H; exact H) | (simp only [hji26] at H ⊢; exact H)
                                  have hji26w : (IntKind.i64.wrap ((wrap64 (1 + (wrap64 (3 * x7_2)))) + x8_4)) = ji26 := (i64_w _).trans hji26
                                  by_cases c27 : 0 ≤ (ji26)
                                  · rw [if_pos c27] at H
                                    have c27b0 : decide (0 ≤ (ji26)) = true := decide_eq_true c27
                                    clear c27
                                    by_cases c28 : (ji26) < (t143.size : Int)
                                    · rw [if_pos c28] at H
                                      have c28b0 : decide ((ji26) < (t143.size : Int)) = true := decide_eq_true c28
                                      clear c28
                                      obtain ⟨ji30, hji30⟩ : ∃ j_ : Int, (wrap64 ((wrap64 (8 - (wrap64 (3 * x7_2)))) - x8_4)) = j_ := ⟨_, rfl⟩
                                      replace H : (if 0 ≤ (ji30) then (if 0 ≤ x8_4 then (if (((Go.bits .and .i64 (shr .i64 a0 (ji30)) 1) == 1) != ((bt t143 (ji26)) == (bt (⟨#[114, 119, 120]⟩ : ByteArray) x8_4))) = true then (toolchestlaw10_ModesSigns.j4 k4 a0 t143 x6_4 x7_2 x8_4 (bt t143 (ji26)) ((Go.bits .and .i64 (shr .i64 a0 (ji30)) 1) == 1) true a1_0 a1_1 a1_2) else (if ((Go.bits .and .i64 (shr .i64 a0 (ji30)) 1) = 1) then (toolchestlaw10_ModesSigns.j4 k4 a0 t143 x6_4 x7_2 x8_4 (bt t143 (ji26)) ((Go.bits .and .i64 (shr .i64 a0 (ji30)) 1) == 1) false a1_0 a1_1 a1_2) else (toolchestlaw10_ModesSigns.j4 k4 a0 t143 x6_4 x7_2 x8_4 (bt t143 (ji26)) ((Go.bits .and .i64 (shr .i64 a0 (ji30)) 1) == 1) ((bt t143 (ji26)) != 45) a1_0 a1_1 a1_2))) else (none)) else (none)) = some r := by first | (rw [hji30] at H; exact H) | (simp only [hji30] at H ⊢; exact H)
                                      have hji30w : (IntKind.i64.wrap ((wrap64 (8 - (wrap64 (3 * x7_2)))) - x8_4)) = ji30 := (i64_w _).trans hji30
                                      by_cases c31 : 0 ≤ (ji30)
                                      · rw [if_pos c31] at H
                                        have c31b0 := eq_true c31
                                        have c31b1 : decide (0 ≤ (ji30)) = true := decide_eq_true c31
                                        clear c31
                                        obtain ⟨ji32, hji32⟩ : ∃ j_ : Int, (shr .i64 a0 (ji30)) = j_ := ⟨_, rfl⟩
                                        replace H : (if 0 ≤ x8_4 then (if (((Go.bits .and .i64 (ji32) 1) == 1) != ((bt t143 (ji26)) == (bt (⟨#[114, 119, 120]⟩ : ByteArray) x8_4))) = true then (toolchestlaw10_ModesSigns.j4 k4 a0 t143 x6_4 x7_2 x8_4 (bt t143 (ji26)) ((Go.bits .and .i64 (ji32) 1) == 1) true a1_0 a1_1 a1_2) else (if ((Go.bits .and .i64 (ji32) 1) = 1) then (toolchestlaw10_ModesSigns.j4 k4 a0 t143 x6_4 x7_2 x8_4 (bt t143 (ji26)) ((Go.bits .and .i64 (ji32) 1) == 1) false a1_0 a1_1 a1_2) else (toolchestlaw10_ModesSigns.j4 k4 a0 t143 x6_4 x7_2 x8_4 (bt t143 (ji26)) ((Go.bits .and .i64 (ji32) 1) == 1) ((bt t143 (ji26)) != 45) a1_0 a1_1 a1_2))) else (none)) = some r := by first | (rw [hji32] at H; exact H) | (simp only [hji32] at H ⊢; exact H)
                                        have hji32_ : (a0 / 2 ^ min (ji30).toNat 64) = ji32 := hji32
                                        have hji32z : (ji30) ≤ 64 → (a0 / 2 ^ (ji30).toNat) = ji32 := shr_small hji32
                                        have HC33 := Aside0.mk H
                                        clear H
                                        have p29 : 0 ≤ ((ji26) : Int) := of_decide_eq_true (by first | (with_reducible assumption) | assumption)
                                        have q29 : (ji26) < (t143.size : Int) := of_decide_eq_true (by first | (with_reducible assumption) | assumption)
                                        have hx29 := bt_at t143 (ji26)
                                        replace p29 := eq_true p29
                                        replace q29 := eq_true q29
                                        go_upto_region 16 with (fail)
                                        go_cut [9, 10, 73] (fun v9 v10 v73 wc => ∃ (kq : Nat) (x73_32 : Bool), v73 = .bool x73_32 ∧ Aside0 (toolchestlaw10_ModesSigns.j4 kq a0 t143 x6_4 x7_2 x8_4 (bt t143 (ji26)) ((Go.bits .and .i64 (ji32) 1) == 1) x73_32 a1_0 a1_1 a1_2 = some r) ∧ Aside0 (kq ≤ k4) ∧ Aside0 (wc.heap[gb142]? = some (.cells #[.int .i64 a1_0, .int .i64 a1_1, .bool a1_2] 23 (0, 0))) ∧ Aside0 (Below w.heap.size w wc) ∧ v9 = (.int .u8 (bt t143 (ji26))) ∧ v10 = (.bool ((Go.bits .and .i64 (ji32) 1) == 1)))
                                        case first =>
                                          have H := HC33.out
                                          clear HC33
                                          by_cases c34 : 0 ≤ x8_4
                                          · rw [if_pos c34] at H
                                            have c34b0 : decide (0 ≤ x8_4) = true := decide_eq_true c34
                                            clear c34
                                            (first | rw [c34b0] | (simp only [i64_w, i32_w]; rw [c34b0]) | skip)
                                            by_cases c36 : (((Go.bits .and .i64 (ji32) 1) == 1) != ((bt t143 (ji26)) == (bt (⟨#[114, 119, 120]⟩ : ByteArray) x8_4))) = true
                                            · rw [if_pos c36] at H
                                              have c36b0 : (((Go.bits .and .i64 (ji32) 1) == 1) != ((bt t143 (ji26)) == (bt (⟨#[114, 119, 120]⟩ : ByteArray) x8_4))) = true := c36
                                              (try (have c36b1 : decide (((Go.bits .and .i64 (ji32) 1) == 1) = ((bt t143 (ji26)) == (bt (⟨#[114, 119, 120]⟩ : ByteArray) x8_4))) = false := by simpa using c36))
                                              (try (have c36b2 : (((Go.bits .and .i64 (ji32) 1) == 1) == ((bt t143 (ji26)) == (bt (⟨#[114, 119, 120]⟩ : ByteArray) x8_4))) = false := by simpa using c36))
                                              (try (have c36b3 : ¬ (((Go.bits .and .i64 (ji32) 1) == 1) = ((bt t143 (ji26)) == (bt (⟨#[114, 119, 120]⟩ : ByteArray) x8_4))) := by simpa using c36))
                                              clear c36
                                              have H' := Aside0.mk H
                                              clear H
                                              have p35 : 0 ≤ (x8_4 : Int) := of_decide_eq_true (by first | (with_reducible assumption) | assumption)
                                              have q35 : x8_4 < (3 : Int) := of_decide_eq_true (by first | (with_reducible assumption) | assumption)
                                              have hx35 := bt_at (⟨#[114, 119, 120]⟩ : ByteArray) x8_4
                                              replace p35 := eq_true p35
                                              replace q35 := eq_true q35
                                              go_wp2
                                              go_meet
                                              case rel => exact ⟨_, (true), (by first | rfl | (simp; done) | (simp [*]; done)), H', ⟨by have := HJ3.out; have := HK2.out; have := HJ16.out; have := HK4.out; first | omega | exact Nat.le_refl _⟩, ⟨by (with_reducible repeat (first | refine blk_drewN ?_ _ | refine blk_drew ?_ | refine blk_alloc ?_ _)); exact BK142.out⟩, ⟨by repeat (first | (with_reducible first | exact HB.out | apply below_alloc | apply pw_below_drewN | apply below_drew1 | refine below_set ?_ GE142.out) | exact HB.out)⟩, (by first | rfl | (simp [*]; done)), (by first | rfl | (simp [*]; done))⟩
                                            · rw [if_neg c36] at H
                                              have c36b0 : (((Go.bits .and .i64 (ji32) 1) == 1) != ((bt t143 (ji26)) == (bt (⟨#[114, 119, 120]⟩ : ByteArray) x8_4))) = false := by simpa using c36
                                              (try (have c36b1 : decide (((Go.bits .and .i64 (ji32) 1) == 1) = ((bt t143 (ji26)) == (bt (⟨#[114, 119, 120]⟩ : ByteArray) x8_4))) = true := by simpa using c36))
                                              (try (have c36b2 : (((Go.bits .and .i64 (ji32) 1) == 1) == ((bt t143 (ji26)) == (bt (⟨#[114, 119, 120]⟩ : ByteArray) x8_4))) = true := by simpa using c36))
                                              clear c36
                                              by_cases c37 : ((Go.bits .and .i64 (ji32) 1) = 1)
                                              · rw [if_pos c37] at H
                                                have c37b0 : ((Go.bits .and .i64 (ji32) 1) == 1) = true := beq_iff_eq.mpr c37
                                                have c37b1 : ((Go.bits .and .i64 (ji32) 1) != 1) = false := bne_eq_false_iff_eq.mpr c37
                                                have hab : ((bt t143 (ji26)) == (bt (⟨#[114, 119, 120]⟩ : ByteArray) x8_4)) = true := by rw [c37b0] at c36b2; simpa using c36b2
                                                have hab2 : (true == ((bt t143 (ji26)) == (bt (⟨#[114, 119, 120]⟩ : ByteArray) x8_4))) = true := by rw [hab]; rfl
                                                have hab3 : (true != ((bt t143 (ji26)) == (bt (⟨#[114, 119, 120]⟩ : ByteArray) x8_4))) = false := by rw [hab]; rfl
                                                clear c37
                                                have H' := Aside0.mk H
                                                clear H
                                                have p35 : 0 ≤ (x8_4 : Int) := of_decide_eq_true (by first | (with_reducible assumption) | assumption)
                                                have q35 : x8_4 < (3 : Int) := of_decide_eq_true (by first | (with_reducible assumption) | assumption)
                                                have hx35 := bt_at (⟨#[114, 119, 120]⟩ : ByteArray) x8_4
                                                replace p35 := eq_true p35
                                                replace q35 := eq_true q35
                                                go_wp2
                                                go_meet
                                                case rel => exact ⟨_, (false), (by first | rfl | (simp; done) | (simp [*]; done)), H', ⟨by have := HJ3.out; have := HK2.out; have := HJ16.out; have := HK4.out; first | omega | exact Nat.le_refl _⟩, ⟨by (with_reducible repeat (first | refine blk_drewN ?_ _ | refine blk_drew ?_ | refine blk_alloc ?_ _)); exact BK142.out⟩, ⟨by repeat (first | (with_reducible first | exact HB.out | apply below_alloc | apply pw_below_drewN | apply below_drew1 | refine below_set ?_ GE142.out) | exact HB.out)⟩, (by first | rfl | (simp [*]; done)), (by first | rfl | (simp [*]; done))⟩
                                              · rw [if_neg c37] at H
                                                have c37b0 : ((Go.bits .and .i64 (ji32) 1) == 1) = false := beq_eq_false_iff_ne.mpr c37
                                                have c37b1 : ((Go.bits .and .i64 (ji32) 1) != 1) = true := bne_iff_ne.mpr c37
                                                have hab : ((bt t143 (ji26)) == (bt (⟨#[114, 119, 120]⟩ : ByteArray) x8_4)) = false := by rw [c37b0] at c36b2; simpa using c36b2
                                                have H' := Aside0.mk H
                                                clear H
                                                have p35 : 0 ≤ (x8_4 : Int) := of_decide_eq_true (by first | (with_reducible assumption) | assumption)
                                                have q35 : x8_4 < (3 : Int) := of_decide_eq_true (by first | (with_reducible assumption) | assumption)
                                                have hx35 := bt_at (⟨#[114, 119, 120]⟩ : ByteArray) x8_4
                                                replace p35 := eq_true p35
                                                replace q35 := eq_true q35
                                                go_wp2
                                                go_meet
                                                case rel => exact ⟨_, (((bt t143 (ji26)) != 45)), (by first | rfl | (simp; done) | (simp only [← hji26] <;> (first | rfl | (simp; done))) | (simp [*]; done)), H', ⟨by have := HJ3.out; have := HK2.out; have := HJ16.out; have := HK4.out; first | omega | exact Nat.le_refl _⟩, ⟨by (with_reducible repeat (first | refine blk_drewN ?_ _ | refine blk_drew ?_ | refine blk_alloc ?_ _)); exact BK142.out⟩, ⟨by repeat (first | (with_reducible first | exact HB.out | apply below_alloc | apply pw_below_drewN | apply below_drew1 | refine below_set ?_ GE142.out) | exact HB.out)⟩, (by first | rfl | (simp [*]; done)), (by first | rfl | (simp [*]; done))⟩
                                          · rw [if_neg c34] at H
                                            exact absurd H (by simp)
                                        case rest =>
                                          clear HC33
                                          try clear c1
                                          try clear p1
                                          try clear q1
                                          try clear hx1
                                          try clear qi1
                                          try clear c2
                                          try clear p2
                                          try clear q2
                                          try clear hx2
                                          try clear c3
                                          try clear p3
                                          try clear q3
                                          try clear hx3
                                          try clear c4
                                          try clear p6
                                          try clear c8
                                          try clear c9
                                          try clear c9b0
                                          try clear c9b1
                                          try clear c10
                                          try clear c10b0
                                          try clear c10b1
                                          try clear c11
                                          try clear p11
                                          try clear q11
                                          try clear hx11
                                          try clear qi11
                                          try clear c13
                                          try clear c15
                                          try clear c16
                                          try clear c16b0
                                          try clear c18
                                          try clear c18b0
                                          try clear c19
                                          try clear c19b0
                                          try clear c19b1
                                          try clear c19b2
                                          try clear c20
                                          try clear c20b0
                                          try clear c20b1
                                          try clear c21
                                          try clear c21b0
                                          try clear c21b1
                                          try clear c22
                                          try clear c22b0
                                          try clear c22b1
                                          try clear c23
                                          try clear c23b0
                                          try clear c23b1
                                          try clear c23b2
                                          try clear c24
                                          try clear c24b0
                                          try clear c24b1
                                          try clear c24b2
                                          try clear c25
                                          try clear c25b0
                                          try clear c27
                                          try clear c27b0
                                          try clear c28
                                          try clear c28b0
                                          try clear p29
                                          try clear q29
                                          try clear hx29
                                          try clear c31
                                          try clear c31b0
                                          try clear c31b1
                                          try clear c34
                                          try clear c34b0
                                          try clear p35
                                          try clear q35
                                          try clear hx35
                                          try clear c36
                                          try clear c36b0
                                          try clear c36b1
                                          try clear c36b2
                                          try clear c37
                                          try clear c37b0
                                          try clear c37b1
                                          try clear p1
                                          try clear p11
                                          try clear p2
                                          try clear p29
                                          try clear p35
                                          try clear p6
                                          try clear q1
                                          try clear q11
                                          try clear q29
                                          try clear q35
                                          obtain ⟨kq, x73_32, rfl, HA, HJ32, BK142, HB, rfl, rfl⟩ := hcut
                                          cases kq with
                                          | zero => exact absurd HA.out (by simp [toolchestlaw10_ModesSigns.j4])
                                          | succ kj32 =>
                                            have H := HA.out
                                            clear HA
                                            simp only [toolchestlaw10_ModesSigns.j4] at H
                                            by_cases c38 : x73_32 = true
                                            · subst c38
                                              have H1 : (some false) = some r := by rw [if_pos rfl] at H; exact H
                                              clear H
                                              have H := H1
                                              clear H1
                                              obtain rfl := Option.some.inj H
                                              go_wp2
                                              go_ret
                                              exact ⟨by first | rfl | (simp [errW_none, errW_some] <;> rfl) | (simp only [← hji26, ← hji30, ← hji32]; first | rfl | (simp [errW_none, errW_some] <;> rfl)) | (simp [*, errW_none, errW_some] <;> rfl), by repeat (first | (with_reducible first | exact HB.out | apply below_alloc | apply pw_below_drewN | apply below_drew1 | refine below_set ?_ GE142.out) | exact HB.out)⟩
                                            · replace c38 := Bool.eq_false_iff.mpr c38
                                              subst c38
                                              have H1 : (if ((Go.bits .and .i64 (ji32) 1) == 1) = true then ((some (([(bt t143 (ji26))] : List Int) : List Int)).bind fun y146 => (if x6_4.size + (strOfNums y146).size ≤ 9223372036854775807 then (toolchestlaw10_ModesSigns.l1 kj32 a0 t143 (x6_4 ++ (strOfNums y146)) x7_2 (wrap64 (x8_4 + 1)) a1_0 a1_1 a1_2) else (none))) else (toolchestlaw10_ModesSigns.l1 kj32 a0 t143 x6_4 x7_2 (wrap64 (x8_4 + 1)) a1_0 a1_1 a1_2)) = some r := by rw [if_neg (show ¬ (false = true) by decide)] at H; exact H
                                              clear H
                                              have H := H1
                                              clear H1
                                              by_cases c39 : ((Go.bits .and .i64 (ji32) 1) == 1) = true
                                              · rw [if_pos c39] at H
                                                have c39b0 : ((Go.bits .and .i64 (ji32) 1) == 1) = true := c39
                                                (try (have c39b1 : decide ((Go.bits .and .i64 (ji32) 1) = 1) = true := by simpa using c39))
                                                (try (have c39b2 : ((Go.bits .and .i64 (ji32) 1) == 1) = true := by simpa using c39))
                                                clear c39
                                                obtain ⟨y146, hy146⟩ : ∃ y_ : List Int, y_ = (([(bt t143 (ji26))] : List Int)) := ⟨_, rfl⟩
                                                replace H : (if x6_4.size + (strOfNums y146).size ≤ 9223372036854775807 then (toolchestlaw10_ModesSigns.l1 kj32 a0 t143 (x6_4 ++ (strOfNums y146)) x7_2 (wrap64 (x8_4 + 1)) a1_0 a1_1 a1_2) else (none)) = some r := by first | (rw [hy146]; with_reducible exact H) | (have H2_ := (Option.bind_some _ _).symm.trans H; rw [hy146]; with_reducible exact H2_) | (have H2_ := (Option.bind_some _ _).symm.trans H; with_reducible exact H2_) | with_reducible exact H | (rw [hy146]; exact H) | exact H
                                                have Ny146 := Aside0.mk hy146
                                                clear hy146
                                                by_cases c40 : x6_4.size + (strOfNums y146).size ≤ 9223372036854775807
                                                · rw [if_pos c40] at H
                                                  have c40b0 := eq_true c40
                                                  have c40b1 : decide (x6_4.size + (strOfNums y146).size ≤ 9223372036854775807) = true := decide_eq_true c40
                                                  try have c40b2 : (9223372036854775807 < x6_4.size + (strOfNums y146).size) = False := eq_false (Nat.not_lt.2 c40)
                                                  have H' := Aside0.mk H
                                                  clear H
                                                  go_wp2_with (first | ((with_reducible refine gate_dst (N := 77) rfl ?_); (try (refine gate_guard (by rfl) ?_; dsimp only)); refine Kd.R_lit (Kd.int .u8) _ 5 ?hg (N := 77) ?hd (xs := ([(bt t143 (ji26))] : List Int)) (inner := [.int .u8 (bt t143 (ji26))]) (ok := fun _ => True) (okp := fun _ => True) ?hr ?hp (fun _ hk => hk) trivial (Below.refl _ _) (Nat.le_refl _) (by simp) ?_; (case hd => rfl); (case hg => rfl); (case hr => first | (go_simp; done) | (go_simp; rfl)); (case hp => exact (Reps.one (show Kd.M (Kd.int .u8) _ _ _ (bt t143 (ji26)) [.int .u8 (bt t143 (ji26))] from rfl) (Reps.none _ _))); intro v147 w41 ho42 hb hg_ hnew_; clear hg_ hnew_; (first | rw [← Ny146.out] at ho42 | (simp only [Int.reduceToNat] at ho42; rw [← Ny146.out] at ho42)); have n0_ := Aside0.mk (Kd.R_lower ho42 (below_size (by repeat (first | (with_reducible first | exact HB.out | apply below_alloc | apply pw_below_drewN | apply below_drew1 | refine below_set ?_ GE142.out) | exact HB.out)))); have n1_ := Aside0.mk (blk_below (g := gb142) (o := .cells #[.int .i64 a1_0, .int .i64 a1_1, .bool a1_2] 23 (0, 0)) (by (with_reducible repeat (first | refine blk_drewN ?_ _ | refine blk_drew ?_ | refine blk_alloc ?_ _)); exact BK142.out) hb); have n2_ := Aside0.mk (below_step (by repeat (first | (with_reducible first | exact HB.out | apply below_alloc | apply pw_below_drewN | apply below_drew1 | refine below_set ?_ GE142.out) | exact HB.out)) hb); clear BK142; clear HB; have HO148 := n0_; have BK142 := n1_; have HB := n2_; clear n0_ n1_ n2_; clear hb ho42; have hcv43 := own_string (P := Tryd.prog) Tryd.underlying32 Tryd.underlying5 Tryd.underlying9 (Kd.own_of_R HO148.out)))
                                                  go_roundg kj32
                                                  case measure => have := HJ3.out; have := HK2.out; have := HJ16.out; have := HK4.out; have := HJ32.out; omega
                                                  case rel => exact ⟨(x6_4 ++ (strOfNums y146)), (wrap64 (x8_4 + 1)), (by first | rfl | (simp; done) | (simp [*]; done)), (by first | rfl | (simp; done) | (simp [*]; done)), H', ⟨by have := HJ3.out; have := HK2.out; have := HJ16.out; have := HK4.out; have := HJ32.out; omega⟩, ⟨by (with_reducible repeat (first | refine blk_drewN ?_ _ | refine blk_drew ?_ | refine blk_alloc ?_ _)); exact BK142.out⟩, ⟨by repeat (first | (with_reducible first | exact HB.out | apply below_alloc | apply pw_below_drewN | apply below_drew1 | refine below_set ?_ GE142.out) | exact HB.out)⟩⟩
                                                · rw [if_neg c40] at H
                                                  exact absurd H (by simp)
                                              · rw [if_neg c39] at H
                                                have c39b0 : ((Go.bits .and .i64 (ji32) 1) == 1) = false := by simpa using c39
                                                (try (have c39b1 : decide ((Go.bits .and .i64 (ji32) 1) = 1) = false := by simpa using c39))
                                                (try (have c39b2 : ((Go.bits .and .i64 (ji32) 1) == 1) = false := by simpa using c39))
                                                (try (have c39b3 : ¬ ((Go.bits .and .i64 (ji32) 1) = 1) := by simpa using c39))
                                                clear c39
                                                have H' := Aside0.mk H
                                                clear H
                                                go_wp2
                                                go_roundg kj32
                                                case measure => have := HJ3.out; have := HK2.out; have := HJ16.out; have := HK4.out; have := HJ32.out; omega
                                                case rel => exact ⟨(x6_4), (wrap64 (x8_4 + 1)), (by first | rfl | (simp; done) | (simp [*]; done)), (by first | rfl | (simp; done) | (simp [*]; done)), H', ⟨by have := HJ3.out; have := HK2.out; have := HJ16.out; have := HK4.out; have := HJ32.out; omega⟩, ⟨by (with_reducible repeat (first | refine blk_drewN ?_ _ | refine blk_drew ?_ | refine blk_alloc ?_ _)); exact BK142.out⟩, ⟨by repeat (first | (with_reducible first | exact HB.out | apply below_alloc | apply pw_below_drewN | apply below_drew1 | refine below_set ?_ GE142.out) | exact HB.out)⟩⟩
                                      · rw [if_neg c31] at H
                                        exact absurd H (by simp)
                                    · rw [if_neg c28] at H
                                      exact absurd H (by simp)
                                  · rw [if_neg c27] at H
                                    exact absurd H (by simp)
                                · rw [if_neg c25] at H
                                  have c25b0 : decide (x8_4 < 3) = false := decide_eq_false c25
                                  clear c25
                                  have H' := Aside0.mk H
                                  clear H
                                  go_wp2
                                  go_roundg k4
                                  case measure => have := HJ3.out; have := HK2.out; have := HJ16.out; have := HK4.out; omega
                                  case rel => exact ⟨(x6_4), (wrap64 (x7_2 + 1)), (by first | rfl | (simp; done) | (simp [*]; done)), (by first | rfl | (simp; done) | (simp [*]; done)), H', ⟨by have := HJ3.out; have := HK2.out; have := HJ16.out; have := HK4.out; omega⟩, ⟨by (with_reducible repeat (first | refine blk_drewN ?_ _ | refine blk_drew ?_ | refine blk_alloc ?_ _)); exact BK142.out⟩, ⟨by repeat (first | (with_reducible first | exact HB.out | apply below_alloc | apply pw_below_drewN | apply below_drew1 | refine below_set ?_ GE142.out) | exact HB.out)⟩⟩
                          · rw [if_neg c24] at H
                            exact absurd H (by simp)
                        · rw [if_neg c23] at H
                          exact absurd H (by simp)
                      · rw [if_neg c22] at H
                        exact absurd H (by simp)
                    · rw [if_neg c21] at H
                      exact absurd H (by simp)
                  · rw [if_neg c20] at H
                    exact absurd H (by simp)
            · rw [if_neg c16] at H
              have c16b0 : decide (x7_2 < 3) = false := decide_eq_false c16
              clear c16
              replace H := Option.bind_eq_some_iff.mp H
              obtain ⟨t145, A440, H⟩ := H
              replace H : (some (t145 == (Go.bits .and .i64 a0 511))) = some r := H
              have A44 := Aside0.mk A440
              clear A440
              obtain rfl := Option.some.inj H
              have hcz45_0 : wr.cell? ⟨gb142, 0, none⟩ = some (.int .i64 a1_0) := (blk_cell BK142.out 0).trans rfl
              have hcz45_1 : wr.cell? ⟨gb142, 1, none⟩ = some (.int .i64 a1_1) := (blk_cell BK142.out 1).trans rfl
              have hcz45_2 : wr.cell? ⟨gb142, 2, none⟩ = some (.bool a1_2) := (blk_cell BK142.out 2).trans rfl
              have hfz45_0 := blk_frozen BK142.out 0
              have hfz45_1 := blk_frozen BK142.out 1
              have hfz45_2 := blk_frozen BK142.out 2
              go_wp2_with (first | ((with_reducible refine gate_callee (f := 12) rfl ?_); refine goesL_ (some 82) rfl rfl Tryd.func12 (by kernel_rfl) rfl #[.string x6_2, .agg #[.int .i64 a1_0, .int .i64 a1_1, .bool a1_2]] rfl (by (try simp only [List.map_toArray, List.map_cons, List.map_nil]); first | done | rfl | (simp only [List.length_drop, List.length_take]; rfl)) ?_; (with_reducible refine (toolchestlaw10_by.calls k2 x6_2 a1_0 a1_1 a1_2 t145 _ A44.out (Glob.below GL (by repeat (first | (with_reducible first | exact HB.out | apply below_alloc | apply pw_below_drewN | apply below_drew1 | refine below_set ?_ GE142.out) | exact HB.out)))).mono ?_); rintro e w46 ⟨rfl, hb⟩; refine ⟨_, rfl, ?_⟩; have n0_ := Aside0.mk (blk_below (g := gb142) (o := .cells #[.int .i64 a1_0, .int .i64 a1_1, .bool a1_2] 23 (0, 0)) (by (with_reducible repeat (first | refine blk_drewN ?_ _ | refine blk_drew ?_ | refine blk_alloc ?_ _)); exact BK142.out) hb); have n1_ := Aside0.mk (below_step (by repeat (first | (with_reducible first | exact HB.out | apply below_alloc | apply pw_below_drewN | apply below_drew1 | refine below_set ?_ GE142.out) | exact HB.out)) hb); clear BK142; clear HB; have BK142 := n0_; have HB := n1_; clear n0_ n1_; (try clear hb); (try clear hb2); (try clear hk); (try clear hi)))
              go_ret
              exact ⟨by first | rfl | (simp [errW_none, errW_some] <;> rfl) | (simp [*, errW_none, errW_some] <;> rfl), by repeat (first | (with_reducible first | exact HB.out | apply below_alloc | apply pw_below_drewN | apply below_drew1 | refine below_set ?_ GE142.out) | exact HB.out)⟩

end Go.Proofs.YtajnkflopndejaaDoor.L
