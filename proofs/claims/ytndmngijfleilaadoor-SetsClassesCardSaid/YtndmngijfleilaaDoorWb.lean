/- The builder's WriteByte with a wider frame; the two closures of Drop and Squeeze. -/
import Derived.Shelf.Strings.Builder1
import Derived.Lib.Builder
import Derived.Test.YtndmngijfleilaaDoorShelf
import Derived.Test.YtndmngijfleilaaDoorOf
namespace Go.Proofs.YtndmngijfleilaaDoor.L
open Go.RowKit Go.Shelf Go.Proofs.YtndmngijfleilaaDoorW.PrintWords

/-- A builder in block b, that holds these bytes. -/
def Bld (W : World) (base b : Nat) (p v : Value) (xs : List Int) : Prop :=
  W.heap[b]? = some (.cells #[p, v] 54 (0, 0)) ∧ W.ownsRow base 5 1 v xs.length (nums .u8 xs) ∧ v.ownBlock ≠ some b ∧ base ≤ b
def ptrB (b : Nat) : Value := .pointer (some ⟨b, 0, none⟩)

theorem own_snoc {W : World} {base : Nat} {v : Value} {xs : List Int} {c : Int} (h : W.ownsRow base 5 1 v (xs ++ [c]).length (nums .u8 (xs ++ [c]))) : ∃ g cap, v = .slice (some ⟨g, 0, none⟩) (xs.length + 1) cap := by
  rcases h.2 with ⟨_, h0⟩ | ⟨g, cap, cur, hv, _⟩
  · simp at h0
  · exact ⟨g, cap, by simpa using hv⟩
set_option maxHeartbeats 4000000 in
set_option maxRecDepth 100000 in
theorem wb_walk (base b : Nat) (p v : Value) (xs : List Int) (c : Int) (w : World) (h : Bld w base b p v xs) (hp : p = .pointer none ∨ p = ptrB b) (hlen : xs.length + 1 ≤ 140737488355328) (hbw : base ≤ w.heap.size) :
    Calls Tryd.prog 24 #[.pointer (some ⟨b, 0, none⟩), .int .u8 c] w fun e w' => e = .returned .nilIface ∧ ∃ v', Bld w' base b (ptrB b) v' (xs ++ [c]) ∧ Below base w w' ∧ KeepBut w w' b v.ownBlock ∧ (v'.ownBlock = v.ownBlock ∨ ∃ k, v'.ownBlock = some k ∧ w.heap.size ≤ k) := by
  obtain ⟨hbk, hown, hne, hB⟩ := h
  have hlt : b < w.heap.size := (Array.getElem?_eq_some_iff.1 hbk).1
  -- copyCheck
  have hcc : Calls Tryd.prog 30 #[.pointer (some ⟨b, 0, none⟩)] w fun e w1 => e = .returned (.tuple #[]) ∧ Bld w1 base b (ptrB b) v xs ∧ Below base w w1 ∧ KeepBut w w1 b none ∧ w1.heap.size = w.heap.size := by
    rcases hp with rfl | rfl
    · have hsh : w.shape? b = some (54, 2) := by simp [World.shape?, hbk]
      refine (Any.Builder_copyCheck_fresh Tryd.lays240 { sizeBuilder := by kernel_rfl, liesBuilder := by kernel_rfl } b w (by rw [blk_cell hbk]; rfl) hsh (blk_frozen hbk 0)).mono ?_
      rintro e w1 ⟨rfl, rfl⟩
      refine ⟨rfl, ⟨?_, own_setCell hown (p := ⟨b, 0, none⟩) (fun e => hne e.symm) _, hne, hB⟩, (Below.refl base w).setCell (p := ⟨b, 0, none⟩) hB _, (KeepBut.refl w b none).set_ 0 _, by simp [World.setCell]⟩
      exact blk_set hbk 0 _
    · refine (Any.Builder_copyCheck_used Tryd.lays240 { sizeBuilder := by kernel_rfl, liesBuilder := by kernel_rfl } b w (by rw [blk_cell hbk]; rfl)).mono ?_
      rintro e w1 ⟨rfl, rfl⟩
      exact ⟨rfl, ⟨hbk, hown, hne, hB⟩, Below.refl _ _, KeepBut.refl _ _ _, rfl⟩
  have HLT := Lib.hid hlt
  have HLEN := Lib.hid hlen
  have HBW := Lib.hid hbw
  clear hbk hown hne hB hp hlt hlen hbw
  go_enter Tryd.func24, Tryd.ntmps24
  go_wp2_with (go_at_call 30; refine hcc.mono ?_)
  rintro e w1 ⟨rfl, ⟨hbk, hown, hne, hB⟩, hb1, hk1, hsz⟩
  have c0 : w1.cell? ⟨b, 0, none⟩ = some (ptrB b) := by rw [blk_cell hbk]; rfl
  have c1 : w1.cell? ⟨b, 1, none⟩ = some v := by rw [blk_cell hbk]; rfl
  have HSZ := Lib.hid hsz
  have HNE := Lib.hid hne
  have HBK := Lib.hid hbk
  clear hsz hne hbk
  go_wp2_with (at_builtin; refine print_append_num (w0 := w) base rfl (.tmp 11) (.tmp 13) 22 5 .u8 1 rfl Tryd.underlying22 info5 (by decide) _ xs _ rfl rfl hown hb1 (Nat.le_trans HBW.out hb1.size) (by have := HLEN.out; omega) ?_; intro v2 w2 hown2 hb2 hgrow hat; obtain ⟨g, cap, rfl⟩ := own_snoc hown2; have hbk2 := blk_grown HBK.out hgrow (fun e => HNE.out e.symm); have d0 : w2.cell? ⟨b, 0, none⟩ = some (ptrB b) := (blk_cell hbk2 0).trans rfl; have d1 := (blk_cell hbk2 1).trans (show _ = some v from rfl); have f1 := blk_frozen hbk2 1; have HBK2 := Lib.hid hbk2; have HOWN2 := Lib.hid hown2; have HG := Lib.hid hgrow; have HAT := Lib.hid hat; have HB2 := Lib.hid hb2; clear hbk2 hown2 hgrow hat hb2 hown c0 c1)
  go_ret
  have hgb : g ≠ b := by
    rcases HAT.out with h | ⟨k, h, hk⟩
    · intro e
      rw [e] at h
      exact HNE.out (h.symm.trans rfl)
    · have : g = k := Option.some.inj h
      have h1 : w1.heap.size = w.heap.size := HSZ.out
      have h2 : b < w.heap.size := HLT.out
      omega
  refine ⟨rfl, _, ⟨blk_set HBK2.out 1 _, own_setCell HOWN2.out (p := ⟨b, 1, none⟩) (fun e => hgb (Option.some.inj e).symm) _, fun e => hgb (Option.some.inj e), hB⟩, HB2.out.setCell (p := ⟨b, 1, none⟩) hB _, ?_, ?_⟩
  · exact ((KeepBut.trans (row := v.ownBlock) ⟨hk1.1, fun i hi hg _ => hk1.2 i hi hg (by simp)⟩ (KeepBut.of_grown HG.out b) (.inl rfl))).set_ 1 _
  · rcases HAT.out with h | ⟨k, h, hk⟩
    · exact .inl h
    · exact .inr ⟨k, h, by have h1 : w1.heap.size = w.heap.size := HSZ.out; omega⟩
end Go.Proofs.YtndmngijfleilaaDoor.L
