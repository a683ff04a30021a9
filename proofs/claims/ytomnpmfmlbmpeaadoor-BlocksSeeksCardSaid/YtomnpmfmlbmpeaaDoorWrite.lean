/- The builder's Write: the walk. -/
import Derived.Shelf.Strings.Builder1
import Derived.Lib.Builder
import Derived.Test.YtomnpmfmlbmpeaaDoorShelf
import Derived.Test.YtomnpmfmlbmpeaaDoorBlocks
namespace Go.Proofs.YtomnpmfmlbmpeaaDoor.L
open Go.RowKit Go.Shelf Go.Proofs.YtomnpmfmlbmpeaaDoorW.PrintWords

theorem info5 : (Tryd.prog.info? 5).map (fun i => (i.zero, i.size, i.bytes)) = some (some (.int .u8 0), 1, 1) := by kernel_rfl
theorem strCells_ints (s : ByteArray) : Lib.strCells s = nums .u8 (s.data.toList.map fun b => (b.toNat : Int)) := by
  simp [Lib.strCells, nums]
theorem IsBuilder.below {B b : Nat} {bs : List Value} {w w' : World} (h : Lib.IsBuilder 50 5 B b bs w) (hb : Below w.heap.size w w') : Lib.IsBuilder 50 5 B b bs w' := by
  have step : ∀ p, Lib.BuilderAt 50 5 B b p bs w → Lib.BuilderAt 50 5 B b p bs w' := fun p ⟨hB, v, hk, ho, hne⟩ => ⟨hB, v, blk_below hk hb, pw_own_below ho hb, hne⟩
  exact h.imp (step _) (step _)

theorem own_type_ne_block {W : World} {base n b : Nat} {u : Value} {xs : List Value} {cs : Array Value} {t : TypeId} (h : W.ownsRow base 5 1 u n xs) (hb : W.heap[b]? = some (.cells cs t (0, 0))) (ht : t ≠ 5) (e : u.ownBlock = some b) : False := by
  rcases h.2 with ⟨rfl, _⟩ | ⟨g, cap, cur, rfl, _, hh, _⟩
  · simp [Value.ownBlock] at e
  · obtain rfl : g = b := by simpa [Value.ownBlock] using e
    rw [hh] at hb
    injection hb with hb
    injection hb with _ hb
    exact ht hb.symm

set_option maxHeartbeats 4000000 in
set_option maxRecDepth 100000 in
theorem write_walk (B b : Nat) (xs ys : List Int) (A : Option Addr) (n c : Nat) (w : World) (h : Lib.IsBuilder 50 5 B b (nums .u8 xs) w) (hr : ReadsInt w .u8 A n ys) (hA : ∀ ad, A = some ad → ad.block < B) (hlen : xs.length + n ≤ 140737488355328) (hBw : B ≤ w.heap.size) :
    Calls Tryd.prog 19 #[.pointer (some ⟨b, 0, none⟩), .slice A n c] w fun e w' => e = .returned (.tuple #[.int .i64 n, .nilIface]) ∧ Lib.IsBuilder 50 5 B b (nums .u8 (xs ++ ys)) w' ∧ Below B w w' := by
  have HB0 := Lib.hid (show B ≤ b by rcases h with h | h <;> exact h.1)
  have HRD : Hid (∀ w1, Below B w w1 → ReadsInt w1 .u8 A n ys) := Lib.hid fun w1 hb => ⟨hr.1, hr.2.1, fun h0 => by
    obtain ⟨ad, e, hc⟩ := hr.2.2 h0
    refine ⟨ad, e, fun j hj => (hb.cell (p := ad.add j) ?_).trans (hc j hj)⟩
    have : (ad.add j).block = ad.block := by unfold Addr.add; split <;> rfl
    rw [this]; exact hA ad e⟩
  have hcc := (Any.Builder_copyCheck Tryd.lays240 { sizeBuilder := by kernel_rfl, liesBuilder := by kernel_rfl } B b _ w h)
  have HCC := Lib.hid hcc
  have HLEN := Lib.hid hlen
  have HBW := Lib.hid hBw
  clear hcc hlen hBw h hr hA
  go_enter Tryd.func19, Tryd.ntmps19
  go_wp2_with (go_at_call 29; refine HCC.out.mono ?_)
  rintro e w1 ⟨rfl, ⟨hB, v, hbk, hown, hne⟩, hb1⟩
  have c0 : w1.cell? ⟨b, 0, none⟩ = some (.pointer (some ⟨b, 0, none⟩)) := by rw [blk_cell hbk]; rfl
  have c1 : w1.cell? ⟨b, 1, none⟩ = some v := by rw [blk_cell hbk]; rfl
  have hxl : (nums .u8 xs).length = xs.length := by simp [nums]
  rw [hxl] at hown
  have HXL := Lib.hid hxl
  have HNE := Lib.hid hne
  have HBK := Lib.hid hbk
  have HB1 := Lib.hid hb1
  clear hxl hne hbk hB hb1
  go_wp2_with (at_builtin; refine print_append_row (w0 := w) B rfl (.tmp 12) (.tmp 13) 42 5 .u8 1 rfl Tryd.underlying42 info5 (by decide) _ xs ys A n c rfl rfl hown (HRD.out _ HB1.out) HB1.out (Nat.le_trans HBW.out HB1.out.size) (by have := HLEN.out; omega) ?_)
  intro v2 w2 hown2 hb2 hgrow hat
  have hbk2 := blk_grown HBK.out hgrow (fun e => HNE.out e.symm)
  have d0 : w2.cell? ⟨b, 0, none⟩ = some (.pointer (some ⟨b, 0, none⟩)) := (blk_cell hbk2 0).trans rfl
  have d1 : w2.cell? ⟨b, 1, none⟩ = some v := (blk_cell hbk2 1).trans rfl
  have f1 : w2.frozen? ⟨b, 1, none⟩ = false := blk_frozen hbk2 1
  obtain ⟨ao, n', cap, rfl⟩ : ∃ ao n' cap, v2 = .slice ao n' cap := by
    rcases hown2.2 with ⟨hv, _⟩ | ⟨g, cap, cur, hv, _⟩
    · exact ⟨_, _, _, hv⟩
    · exact ⟨_, _, _, hv⟩
  have HBK2 := Lib.hid hbk2
  have HOWN2 := Lib.hid hown2
  have HB2 := Lib.hid hb2
  clear hbk2 hown2 hb2 hgrow hat hown c0 c1
  go_wp2
  go_ret2
  refine ⟨rfl, .inr ⟨HB0.out, _, blk_set HBK2.out 1 _, ?_, ?_⟩, HB2.out.setCell (p := ⟨b, 1, none⟩) HB0.out _⟩
  · have hl : (nums .u8 (xs ++ ys)).length = (xs ++ ys).length := by simp [nums]
    rw [hl, List.length_append]
    exact own_setCell HOWN2.out (p := ⟨b, 1, none⟩) (fun e => own_type_ne_block HOWN2.out HBK2.out (by decide) e.symm) _
  · exact fun e => own_type_ne_block HOWN2.out HBK2.out (by decide) e
end Go.Proofs.YtomnpmfmlbmpeaaDoor.L
