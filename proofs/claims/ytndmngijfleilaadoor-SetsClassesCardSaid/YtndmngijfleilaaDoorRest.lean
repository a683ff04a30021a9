/- sets.Rest: the walk. -/
import Derived.Test.YtndmngijfleilaaDoorOf
namespace Go.Proofs.YtndmngijfleilaaDoor.L
open Go.RowKit Go.Proofs.YtndmngijfleilaaDoorW.PrintWords

/-- An element of an array of 256 bools. -/
theorem index256 (CS : Array Value) (k : Nat) (hk : k < 256) (b : Bool) (hc : CS[k]? = some (.bool b)) (W : World) :
    (Instr.index 42 (.agg CS) (.int .i64 (k : Int))).run Tryd.prog W = .ok (.bool b) W := by
  have h0 : (0 : Int) ≤ (k : Int) := by omega
  have hs : ∀ W, (sizeOf 4).run Tryd.prog W = .ok 1 W := fun W => by kernel_rfl
  simp [Instr.index, h0, go_sem, hc, hs]
  omega
/-- The numbers below k that are not told, rising. -/
def restTo (f : Nat → Bool) (k : Nat) : List Int := ((List.range k).filter fun j => !f j).map fun j : Nat => (j : Int)
theorem restTo_succ (f : Nat → Bool) (k : Nat) : restTo f (k + 1) = restTo f k ++ (if f k = true then [] else [(k : Int)]) := by
  unfold restTo
  rw [List.range_succ, List.filter_append, List.map_append]
  cases h : f k <;> simp [h]
theorem restTo_len (f : Nat → Bool) (k : Nat) : (restTo f k).length ≤ k := by
  unfold restTo
  rw [List.length_map]
  exact Nat.le_trans (List.length_filter_le _ _) (by simp)
def okB (l : List Int) : Bool := l.all fun x => decide (0 ≤ x ∧ x ≤ 255)
theorem okB_mem {l : List Int} (h : okB l = true) : ∀ x ∈ l, 0 ≤ x ∧ x ≤ 255 := fun x hx => of_decide_eq_true (List.all_eq_true.1 h x hx)
def sets_Rest.f (l0 : List Int) : Option (List Int) := if l0.length ≤ 140737488351232 ∧ okB l0 = true then some (restTo (inB l0) 256) else none

set_option maxHeartbeats 4000000 in
set_option maxRecDepth 100000 in
theorem rest_walk (A0 : Option Addr) (c0 : Nat) (l0 : List Int) (w : World) (hr0 : Kd.C (Kd.int .u8) w A0 l0.length l0) (hlen : l0.length ≤ 140737488351232) (hb0 : ∀ x ∈ l0, 0 ≤ x ∧ x ≤ 255) :
    Calls Tryd.prog 18 #[.slice A0 l0.length c0] w fun e w' => ∃ v, e = .returned v ∧ w'.ownsRow w.heap.size 5 1 v (restTo (inB l0) 256).length (nums .u8 (restTo (inB l0) 256)) ∧ Below w.heap.size w w' := by
  have hof := of_walk A0 c0 l0 w hr0 hlen hb0
  obtain ⟨CS, hCS⟩ : ∃ CS, bvals (inB l0) = CS := ⟨_, rfl⟩
  have HCS : Hid (∀ j, j < 256 → CS[j]? = some (.bool (inB l0 j))) := Lib.hid (by intro j hj; rw [← hCS]; exact bvals_get _ j hj)
  have hsz : CS.size = 256 := by rw [← hCS]; exact bvals_size _
  rw [hCS] at hof
  obtain ⟨F, hF⟩ : ∃ F, inB l0 = F := ⟨_, rfl⟩
  rw [hF] at HCS ⊢
  clear hCS hF hb0 hlen hr0
  go_enter Tryd.func18, Tryd.ntmps18
  go_wp2_with (go_at_call 19; refine hof.mono ?_; rintro e w' ⟨rfl, hbw⟩; have HB0 := Lib.hid hbw; clear hbw)
  go_loopw [2, 7] (fun v2 v7 wr => ∃ k : Nat, k ≤ 256 ∧ v7 = .int .i64 k ∧ Hid (wr.ownsRow w.heap.size 5 1 v2 (restTo F k).length (nums .u8 (restTo F k))) ∧ Hid (Below w.heap.size w wr)) (fun _ v7 _ => 256 - (intOf v7).toNat)
  case atStart => exact ⟨0, Nat.zero_le _, rfl, Lib.hid (show World.ownsRow _ _ _ _ _ 0 [] from own_nil _ _ _ _), HB0⟩
  case round =>
    obtain ⟨k, hk, rfl, HO, HB⟩ := hrel
    by_cases hlt : k < 256
    · have hcs := HCS.out k hlt
      have hltI : (k : Int) < 256 := by omega
      have hk0 : (0 : Int) ≤ (k : Int) := by omega
      have hix : ∀ W, (Instr.index 42 (.agg CS) (.int .i64 (k : Int))).run Tryd.prog W = .ok (.bool (F k)) W := index256 CS k hlt _ hcs
      have hst := restTo_succ F k
      have hln := restTo_len F k
      obtain ⟨b, hb⟩ : ∃ b, F k = b := ⟨_, rfl⟩
      rw [hb] at hix hst
      have HST := Lib.hid hst
      clear hst hk hb hcs
      cases b with
      | true =>
        go_wp2
        go_roundw
        case rel => exact ⟨k + 1, by omega, by go_num, Lib.hid (by rw [HST.out, if_pos rfl, List.append_nil]; exact HO.out), HB⟩
        case measure => simp [intOf]; omega
      | false =>
        have hw8 : IntKind.u8.wrap (k : Int) = (k : Int) := by rw [IntKind.wrap_u8]; omega
        go_wp2_with (at_builtin; refine print_append_num (w0 := w) w.heap.size rfl (.tmp 13) (.tmp 16) 22 5 .u8 1 rfl Tryd.underlying22 info5 (by decide) _ (restTo F k) _ rfl rfl HO.out HB.out HB.out.size (by omega) ?_; intro v1 w1 hown hbw hg hat; have HO1 := Lib.hid hown; have HB1 := Lib.hid hbw; clear hown hbw hg hat)
        go_roundw
        case rel => exact ⟨k + 1, by omega, by go_num, Lib.hid (by rw [HST.out]; exact HO1.out), HB1⟩
        case measure => simp [intOf]; omega
    · obtain rfl : k = 256 := by omega
      go_wp2
      go_ret
      exact ⟨_, rfl, HO.out, HB.out⟩

theorem sets_Rest.calls (A0 : Option Addr) (c0 : Nat) (l0 : List Int) (r : List Int) (w : World) (hr0 : Kd.C (Kd.int .u8) w A0 l0.length l0) (_hc0 : l0.length ≤ c0) (h : sets_Rest.f l0 = some r) :
    Calls Tryd.prog 18 #[.slice A0 l0.length c0] w fun e w' => ∃ v0_ : Value, e = .returned v0_ ∧ Kd.R (Kd.int .u8) 5 w' w.heap.size (fun _ => True) v0_ r ∧ Below w.heap.size w w' := by
  unfold sets_Rest.f at h
  by_cases hg : l0.length ≤ 140737488351232 ∧ okB l0 = true
  · rw [if_pos hg] at h
    cases h
    refine (rest_walk A0 c0 l0 w hr0 hg.1 (okB_mem hg.2)).mono ?_
    rintro e w' ⟨v, rfl, ho, hb⟩
    exact ⟨v, rfl, Kd.R_of_own (enc := Value.int .u8) (h1 := fun _ => rfl) ho (fun _ _ => trivial), hb⟩
  · rw [if_neg hg] at h
    cases h
end Go.Proofs.YtndmngijfleilaaDoor.L
