/- The four steps of a block, under one contract. -/
import Derived.RangeFuncNested
import Derived.RangeFuncCalls
import Derived.Test.YtomnpmfmlbmpeaaDoorBlocks
namespace Go.Proofs.YtomnpmfmlbmpeaaDoor.L
open Go.RowKit Go.Proofs.YtomnpmfmlbmpeaaDoorW.PrintWords

/-- What has been made of a block behind q steps. -/
def stg (p : Pl) (xs : List Int) : Nat → List Int
  | 0 => xs
  | 1 => filled p.sy p.i xs
  | 2 => turned p.sw (filled p.sy p.i xs)
  | 3 => (turned p.sw (filled p.sy p.i xs)).map (lett 97 p.up)
  | _ + 4 => ((turned p.sw (filled p.sy p.i xs)).map (lett 97 p.up)).map (lett 65 p.lo)

theorem filled_len (sy : Bool) (i : Int) (xs : List Int) (h : (xs.length : Int) ≤ i) : ((filled sy i xs).length : Int) ≤ i := by
  unfold filled
  split
  · rw [List.length_append, List.length_replicate]; omega
  · exact h
theorem turned_len (sw : Bool) (xs : List Int) : (turned sw xs).length = xs.length := by
  unfold turned
  split
  · exact swTo_len _ _
  · rfl
theorem stg_len (p : Pl) (xs : List Int) (h : (xs.length : Int) ≤ p.i) (q : Nat) : ((stg p xs q).length : Int) ≤ p.i := by
  have := filled_len p.sy p.i xs h
  match q with
  | 0 => exact h
  | 1 => exact this
  | 2 => simpa [stg, turned_len] using this
  | 3 => simpa [stg, turned_len] using this
  | _ + 4 => simpa [stg, turned_len] using this

theorem OwnZ.shape {w : World} {base n : Nat} {v : Value} {xs : List Int} (h : OwnZ w base v n xs) : ∃ g c, v = .slice (some ⟨g, 0, none⟩) n c := by
  obtain ⟨_, g, cap, cur, fz, hv, _⟩ := h
  exact ⟨g, cap, hv⟩

theorem step_calls (p : Pl) (xs : List Int) (hx : (xs.length : Int) ≤ p.i) (hi : p.i ≤ 65536) (base g c n q : Nat) (hq : q < 4) (hn : n = (stg p xs q).length) (w : World) (hb : base ≤ w.heap.size) (hown : OwnZ w base (.slice (some ⟨g, 0, none⟩) n c) n (stg p xs q)) :
    Calls Tryd.prog (25 + q) #[.agg p.cells, .slice (some ⟨g, 0, none⟩) n c] w fun e w' => ∃ g2 c2, e = .returned (.slice (some ⟨g2, 0, none⟩) (stg p xs (q + 1)).length c2) ∧ OwnZ w' base (.slice (some ⟨g2, 0, none⟩) (stg p xs (q + 1)).length c2) (stg p xs (q + 1)).length (stg p xs (q + 1)) ∧ Below base w w' := by
  have hlen := stg_len p xs hx q
  have hg : base ≤ g := (hown.lt g rfl).1
  have hrow : ∀ k, (some g) = some k → base ≤ k := fun k e => by cases e; exact hg
  have hle : n ≤ 1099511627776 := by omega
  have same : ∀ (ys : List Int) (w' : World), ys.length = n → OwnZ w' base (.slice (some ⟨g, 0, none⟩) n c) n ys → w.grownBy w' (some g) → ∃ g2 c2, Ending.returned (.slice (some ⟨g, 0, none⟩) n c) = .returned (.slice (some ⟨g2, 0, none⟩) ys.length c2) ∧ OwnZ w' base (.slice (some ⟨g2, 0, none⟩) ys.length c2) ys.length ys ∧ Below base w w' := fun ys w' hl ho hgr => by
    subst hl
    exact ⟨g, c, rfl, ho, (Below.refl base w).grown hgr hb hrow⟩
  match q, hq with
  | 0, _ =>
    subst hn
    refine (fill_walk p base g _ c xs w hown hx hi hb).mono ?_
    rintro e w' ⟨v, rfl, ho, hgr, _⟩
    obtain ⟨g2, c2, rfl⟩ := ho.shape
    exact ⟨g2, c2, rfl, ho, (Below.refl base w).grown hgr hb hrow⟩
  | 1, _ =>
    refine (turn_walk p base g n c _ w hown hle).mono ?_
    rintro e w' ⟨rfl, ho, hgr⟩
    exact same _ w' (by rw [hn]; simp [stg, turned_len]) ho hgr
  | 2, _ =>
    refine (raise_walk p base g n c _ w hown hle).mono ?_
    rintro e w' ⟨rfl, ho, hgr⟩
    exact same _ w' (by rw [hn]; simp [stg]) ho hgr
  | 3, _ =>
    refine (lower_walk p base g n c _ w hown hle).mono ?_
    rintro e w' ⟨rfl, ho, hgr⟩
    exact same _ w' (by rw [hn]; simp [stg]) ho hgr

def stepAt (q : Nat) : Value := .func (.func (25 + q)) #[] #[]
theorem index46 (q : Nat) (hq : q < 4) (W : World) : (Instr.index 46 (.agg stepRow) (.int .i64 (q : Int))).run Tryd.prog W = .ok (stepAt q) W := by
  have h0 : (0 : Int) ≤ (q : Int) := by omega
  have hc : stepRow[q]? = some (stepAt q) := by
    have : q = 0 ∨ q = 1 ∨ q = 2 ∨ q = 3 := by omega
    rcases this with rfl | rfl | rfl | rfl <;> rfl
  simp [Instr.index, h0, go_sem, hc]
  omega
end Go.Proofs.YtomnpmfmlbmpeaaDoor.L
