/- (Plan).raise, (Plan).lower: the walks. -/
import Derived.Test.YtomnpmfmlbmpeaaDoorLetters
namespace Go.Proofs.YtomnpmfmlbmpeaaDoor.L
open Go.RowKit Go.Proofs.YtomnpmfmlbmpeaaDoorW.PrintWords

set_option maxHeartbeats 4000000 in
set_option maxRecDepth 100000 in
theorem raise_walk (p : Pl) (base g n c : Nat) (xs : List Int) (w : World) (hown : OwnZ w base (.slice (some ⟨g, 0, none⟩) n c) n xs) (hn : n ≤ 1099511627776) :
    Calls Tryd.prog 27 #[.agg p.cells, .slice (some ⟨g, 0, none⟩) n c] w fun e w' => e = .returned (.slice (some ⟨g, 0, none⟩) n c) ∧ OwnZ w' base (.slice (some ⟨g, 0, none⟩) n c) n (xs.map (lett 97 p.up)) ∧ w.grownBy w' (some g) := by
  obtain ⟨i, o, sk, ct, se, kp, sw, up, lo, sy⟩ := p
  simp only [Pl.cells]
  obtain ⟨CS, hCS⟩ : ∃ CS : Array Value, CS = #[.int .i64 i, .int .i64 o, .int .i64 sk, .int .i64 ct, .int .i64 se, .bool kp, .bool sw, .bool up, .bool lo, .bool sy] := ⟨_, rfl⟩
  have HO := Lib.hid (OwnZ.below hown (below_alloc (Below.refl _ w) (.cells CS 26)))
  have HW := Lib.hid (letters_walk base g n c xs 97 up (w.alloc (.cells CS 26)) (.inl rfl) HO.out hn)
  have HG := Lib.hid (World.grownBy_alloc w (.cells CS 26) (some g))
  rw [hCS] at HW HG
  clear hown hn hCS HO
  go_enter Tryd.func27, Tryd.ntmps27
  go_wp2_with (first | (go_at_call 43; refine HW.out.mono ?_; rintro e w1 ⟨rfl, ho, hg⟩; have HO1 := Lib.hid ho; have HG1 := Lib.hid hg; clear ho hg))
  go_ret
  exact ⟨rfl, HO1.out, HG.out.trans HG1.out⟩

set_option maxHeartbeats 4000000 in
set_option maxRecDepth 100000 in
theorem lower_walk (p : Pl) (base g n c : Nat) (xs : List Int) (w : World) (hown : OwnZ w base (.slice (some ⟨g, 0, none⟩) n c) n xs) (hn : n ≤ 1099511627776) :
    Calls Tryd.prog 28 #[.agg p.cells, .slice (some ⟨g, 0, none⟩) n c] w fun e w' => e = .returned (.slice (some ⟨g, 0, none⟩) n c) ∧ OwnZ w' base (.slice (some ⟨g, 0, none⟩) n c) n (xs.map (lett 65 p.lo)) ∧ w.grownBy w' (some g) := by
  obtain ⟨i, o, sk, ct, se, kp, sw, up, lo, sy⟩ := p
  simp only [Pl.cells]
  obtain ⟨CS, hCS⟩ : ∃ CS : Array Value, CS = #[.int .i64 i, .int .i64 o, .int .i64 sk, .int .i64 ct, .int .i64 se, .bool kp, .bool sw, .bool up, .bool lo, .bool sy] := ⟨_, rfl⟩
  have HO := Lib.hid (OwnZ.below hown (below_alloc (Below.refl _ w) (.cells CS 26)))
  have HW := Lib.hid (letters_walk base g n c xs 65 lo (w.alloc (.cells CS 26)) (.inr rfl) HO.out hn)
  have HG := Lib.hid (World.grownBy_alloc w (.cells CS 26) (some g))
  rw [hCS] at HW HG
  clear hown hn hCS HO
  go_enter Tryd.func28, Tryd.ntmps28
  go_wp2_with (first | (go_at_call 43; refine HW.out.mono ?_; rintro e w1 ⟨rfl, ho, hg⟩; have HO1 := Lib.hid ho; have HG1 := Lib.hid hg; clear ho hg))
  go_ret
  exact ⟨rfl, HO1.out, HG.out.trans HG1.out⟩
end Go.Proofs.YtomnpmfmlbmpeaaDoor.L
