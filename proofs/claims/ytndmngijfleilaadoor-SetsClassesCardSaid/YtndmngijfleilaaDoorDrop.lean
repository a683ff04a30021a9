/- sets.Drop and sets.Squeeze: the walks. -/
import Derived.Test.YtndmngijfleilaaDoorKeep
namespace Go.Proofs.YtndmngijfleilaaDoor.L
open Go.RowKit Go.Shelf Go.Proofs.YtndmngijfleilaaDoorW.PrintWords

def sets_Drop.f (a0 : ByteArray) (l1 : List Int) : Option ByteArray := if a0.size ≤ 70368744177664 ∧ l1.length ≤ 140737488351232 ∧ okB l1 = true then some (strOfNums (keepGo (soDrop (inB l1)) (-1) (bytesOf a0))) else none
set_option maxHeartbeats 4000000 in
set_option maxRecDepth 100000 in
theorem drop_walk (s : ByteArray) (A0 : Option Addr) (c0 : Nat) (l0 : List Int) (w : World) (hr0 : Kd.C (Kd.int .u8) w A0 l0.length l0) (hs : s.size ≤ 70368744177664) (hlen : l0.length ≤ 140737488351232) (hb0 : ∀ x ∈ l0, 0 ≤ x ∧ x ≤ 255) :
    Calls Tryd.prog 12 #[.string s, .slice A0 l0.length c0] w fun e w' => e = .returned (.string (strOfNums (keepGo (soDrop (inB l0)) (-1) (bytesOf s)))) ∧ Below w.heap.size w w' := by
  have hof := of_walk A0 c0 l0 w hr0 hlen hb0
  have hz := (zero_of_info info42).1
  obtain ⟨F, hF⟩ : ∃ F, inB l0 = F := ⟨_, rfl⟩
  rw [hF] at hof ⊢
  obtain ⟨Z, hZ⟩ : ∃ Z, bvals (inB []) = Z := ⟨_, rfl⟩
  have hzs : Z.size = 256 := by rw [← hZ]; exact bvals_size _
  rw [hZ] at hz
  have HS := Lib.hid hs
  have HZS := Lib.hid hzs
  clear hr0 hs hlen hb0 hF hZ hzs
  go_enter Tryd.func12, Tryd.ntmps12
  go_wp2_with (first
    | (go_at_call 19; refine hof.mono ?_; rintro e w1 ⟨rfl, hb1⟩; have HB1 := Lib.hid hb1; clear hb1)
    | (refine wpList_store_row rfl 42 _ _ rfl _ (bvals F) rfl rfl 42 _ (heap_alloc_new _ _) (by rw [bvals_size]; exact size42) (by rw [bvals_size]; exact HZS.out) (bvals_one _) ?_; rw [World.setRow_alloc_new])
    | (go_at_call 20; refine (drop_keep F _ s _ (heap_alloc_new _ _) HS.out).mono ?_; rintro e w3 ⟨rfl, hb3⟩; have HB3 := Lib.hid hb3; clear hb3))
  go_ret
  exact ⟨rfl, (below_alloc HB1.out _).trans (HB3.out.mono (below_alloc HB1.out _).size)⟩
theorem sets_Drop.calls (a0 : ByteArray) (A0 : Option Addr) (c0 : Nat) (l0 : List Int) (r : ByteArray) (w : World) (hr0 : Kd.C (Kd.int .u8) w A0 l0.length l0) (_hc0 : l0.length ≤ c0) (h : sets_Drop.f a0 l0 = some r) :
    Calls Tryd.prog 12 #[.string a0, .slice A0 l0.length c0] w fun e w' => e = .returned (.string r) ∧ Below w.heap.size w w' := by
  unfold sets_Drop.f at h
  by_cases hg : a0.size ≤ 70368744177664 ∧ l0.length ≤ 140737488351232 ∧ okB l0 = true
  · rw [if_pos hg] at h
    cases h
    exact drop_walk a0 A0 c0 l0 w hr0 hg.1 hg.2.1 (okB_mem hg.2.2)
  · rw [if_neg hg] at h
    cases h

def sets_Squeeze.f (a0 : ByteArray) (l1 : List Int) : Option ByteArray := if a0.size ≤ 70368744177664 ∧ l1.length ≤ 140737488351232 ∧ okB l1 = true then some (strOfNums (keepGo (soSq (inB l1)) (-1) (bytesOf a0))) else none
set_option maxHeartbeats 4000000 in
set_option maxRecDepth 100000 in
theorem sq_walk (s : ByteArray) (A0 : Option Addr) (c0 : Nat) (l0 : List Int) (w : World) (hr0 : Kd.C (Kd.int .u8) w A0 l0.length l0) (hs : s.size ≤ 70368744177664) (hlen : l0.length ≤ 140737488351232) (hb0 : ∀ x ∈ l0, 0 ≤ x ∧ x ≤ 255) :
    Calls Tryd.prog 13 #[.string s, .slice A0 l0.length c0] w fun e w' => e = .returned (.string (strOfNums (keepGo (soSq (inB l0)) (-1) (bytesOf s)))) ∧ Below w.heap.size w w' := by
  have hof := of_walk A0 c0 l0 w hr0 hlen hb0
  have hz := (zero_of_info info42).1
  obtain ⟨F, hF⟩ : ∃ F, inB l0 = F := ⟨_, rfl⟩
  rw [hF] at hof ⊢
  obtain ⟨Z, hZ⟩ : ∃ Z, bvals (inB []) = Z := ⟨_, rfl⟩
  have hzs : Z.size = 256 := by rw [← hZ]; exact bvals_size _
  rw [hZ] at hz
  have HS := Lib.hid hs
  have HZS := Lib.hid hzs
  clear hr0 hs hlen hb0 hF hZ hzs
  go_enter Tryd.func13, Tryd.ntmps13
  go_wp2_with (first
    | (go_at_call 19; refine hof.mono ?_; rintro e w1 ⟨rfl, hb1⟩; have HB1 := Lib.hid hb1; clear hb1)
    | (refine wpList_store_row rfl 42 _ _ rfl _ (bvals F) rfl rfl 42 _ (heap_alloc_new _ _) (by rw [bvals_size]; exact size42) (by rw [bvals_size]; exact HZS.out) (bvals_one _) ?_; rw [World.setRow_alloc_new])
    | (go_at_call 20; refine (sq_keep F _ s _ (heap_alloc_new _ _) HS.out).mono ?_; rintro e w3 ⟨rfl, hb3⟩; have HB3 := Lib.hid hb3; clear hb3))
  go_ret
  exact ⟨rfl, (below_alloc HB1.out _).trans (HB3.out.mono (below_alloc HB1.out _).size)⟩
theorem sets_Squeeze.calls (a0 : ByteArray) (A0 : Option Addr) (c0 : Nat) (l0 : List Int) (r : ByteArray) (w : World) (hr0 : Kd.C (Kd.int .u8) w A0 l0.length l0) (_hc0 : l0.length ≤ c0) (h : sets_Squeeze.f a0 l0 = some r) :
    Calls Tryd.prog 13 #[.string a0, .slice A0 l0.length c0] w fun e w' => e = .returned (.string r) ∧ Below w.heap.size w w' := by
  unfold sets_Squeeze.f at h
  by_cases hg : a0.size ≤ 70368744177664 ∧ l0.length ≤ 140737488351232 ∧ okB l0 = true
  · rw [if_pos hg] at h
    cases h
    exact sq_walk a0 A0 c0 l0 w hr0 hg.1 hg.2.1 (okB_mem hg.2.2)
  · rw [if_neg hg] at h
    cases h
end Go.Proofs.YtndmngijfleilaaDoor.L
