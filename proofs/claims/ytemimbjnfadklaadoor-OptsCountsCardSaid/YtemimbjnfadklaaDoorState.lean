/- What holds at each round of opts.Parse. -/
import Derived.Test.YtemimbjnfadklaaDoorSpec
import Derived.Test.YtemimbjnfadklaaDoorNext
import Derived.Test.YtemimbjnfadklaaDoorLib
namespace Go.Proofs.YtemimbjnfadklaaDoor.L
open Go.RowKit Go.Maps Go.Proofs.YtemimbjnfadklaaDoorW.PrintWords

/-- The words that are left (in the box), the flags so far (v), the letters (block B). -/
def St (w wx : World) (B n : Nat) (f : Int → Option Bool) (A : Option Addr) (c : Nat) (ws : List ByteArray) (v : Value) (fl : List S45) : Prop :=
  ws.length ≤ c ∧ Kd.C Kd.string w A ws.length ws ∧ wx.heap[w.heap.size]? = some (.cells #[.slice A ws.length c] 22 (0, 0)) ∧
    Kd.R k45 45 wx w.heap.size (fun _ => True) v fl ∧ TMap wx B n f ∧ w.heap.size < B ∧ Below w.heap.size w wx
section
variable {w wx : World} {B n c : Nat} {f : Int → Option Bool} {A : Option Addr} {ws : List ByteArray} {v : Value} {fl : List S45}
theorem St.box (h : St w wx B n f A c ws v fl) : wx.cell? ⟨w.heap.size, 0, none⟩ = some (.slice A ws.length c) := cell_of_one h.2.2.1
theorem St.first {a : ByteArray} (h : St w wx B n f A c (a :: ws) v fl) : ∃ ad, A = some ad ∧ wx.cell? ad = some (.string a) ∧ ad.block < w.heap.size := by
  obtain ⟨_, hC, _, _, _, _, hB⟩ := h
  obtain ⟨ad, hA, hx⟩ := Kd.at_string hC 0 (by omega) (by simp)
  have hx' : w.cell? ad = some (.string a) := by
    have e : ad.add (0 : Int).toNat = ad := by simp [Addr.add]
    rw [e] at hx
    rw [hx]
    rfl
  have hlt := World.block_lt_of_cell? w ad hx'
  exact ⟨ad, hA, (hB.cell hlt).trans hx', hlt⟩
theorem St.le (h : St w wx B n f A c ws v fl) : w.heap.size < wx.heap.size := lt_of_block h.2.2.1
theorem St.below (h : St w wx B n f A c ws v fl) : Below w.heap.size w wx := h.2.2.2.2.2.2
theorem St.row (h : St w wx B n f A c ws v fl) : Kd.R k45 45 wx w.heap.size (fun _ => True) v fl := h.2.2.2.1
theorem St.map (h : St w wx B n f A c ws v fl) : TMap wx B n f := h.2.2.2.2.1
theorem St.words (h : St w wx B n f A c ws v fl) : Kd.C Kd.string wx A ws.length ws := Kd.C_below h.2.1 h.below
theorem St.later {w1 : World} (h : St w wx B n f A c ws v fl) (hb : Below wx.heap.size wx w1) : St w w1 B n f A c ws v fl := by
  obtain ⟨h1, h2, h3, h4, h5, h6, h7⟩ := h
  exact ⟨h1, h2, (hb.block _ (lt_of_block h3)).trans h3, Kd.R_below h4 hb, h5.below hb, h6, h7.trans (hb.mono h7.size)⟩
theorem St.next {a : ByteArray} {ad : Addr} (h : St w wx B n f (some ad) c (a :: ws) v fl) (m : Nat) :
    St w ((wx.setCell ⟨w.heap.size, 0, none⟩ (.slice (if c = 1 then some ad else some (ad.add 1)) ws.length (c - 1))).drewN m) B n f (if c = 1 then some ad else some (ad.add 1)) (c - 1) ws v fl := by
  obtain ⟨h1, h2, h3, h4, h5, h6, h7⟩ := h
  simp only [List.length_cons] at h1
  refine ⟨by omega, ?_, one_setCell h3, ?_, ?_, h6, ?_⟩
  · have := Kd.C_drop (m := 1) h2 (by simp) h1
    have e1 : Kd.string.sz = 1 := rfl
    simpa [e1] using this
  · exact Kd.R_set h4 h3 (by decide) 0 _
  · exact h5.kept (row := some w.heap.size) ⟨rfl, rfl, rfl, by simp [World.drewN, World.setCell], fun i hi hne => Below.heap_setCell _ _ _ _ (fun e => hne (by rw [e]))⟩ (by simp; omega)
  · exact pw_below_drewN (h7.setCell (p := ⟨w.heap.size, 0, none⟩) (Nat.le_refl _) _) m
theorem map_ne {W : World} {e base : Nat} {ok : Nat → Prop} {α : Type} {d : Kd α} {xs : List α} (h : TMap W B n f) (hr : Kd.R d e W base ok v xs) : some B ≠ v.ownBlock := by
  obtain ⟨D, hD, _⟩ := h
  intro he
  obtain ⟨inner, ho⟩ := Kd.R_own hr
  obtain ⟨cells, hc⟩ := own_typed ho B he.symm
  obtain ⟨es, clock, hb, _⟩ := hD
  rw [hc] at hb
  cases hb
/-- The append of a flag: 'W' is the world ahead of the appended one's box. -/
theorem St.appended {w1 : World} {v1 : Value} {fl1 : List S45} (h : St w wx B n f A c ws v fl) (hr : Kd.R k45 45 w1 w.heap.size (fun _ => True) v1 fl1) (hg : wx.grownBy w1 v.ownBlock) (hb : Below w.heap.size w w1) : St w w1 B n f A c ws v1 fl1 := by
  obtain ⟨h1, h2, h3, h4, h5, h6, h7⟩ := h
  exact ⟨h1, h2, (hg.block _ (lt_of_block h3) (Kd.R_ne h4 h3 (by decide))).trans h3, hr, h5.kept hg (map_ne h5 h4), h6, hb⟩
/-- A flag's block is laid, a word is taken, and told with the flag. -/
theorem St.told {a : ByteArray} {ad : Addr} (h : St w wx B n f (some ad) c (a :: ws) v fl) (F : Obj) (m : Nat) (u : Value) :
    St w ((((wx.alloc F).setCell ⟨w.heap.size, 0, none⟩ (.slice (if c = 1 then some ad else some (ad.add 1)) ws.length (c - 1))).drewN m).setCell ⟨wx.heap.size, 1, none⟩ u) B n f (if c = 1 then some ad else some (ad.add 1)) (c - 1) ws v fl := by
  have hn := (h.later ((Below.refl _ wx).alloc (Nat.le_refl _) F)).next m
  obtain ⟨h1, h2, h3, h4, h5, h6, h7⟩ := h
  have hlt := lt_of_block h3
  have hheap : ∀ i, i < wx.heap.size → i ≠ w.heap.size → ((((wx.alloc F).setCell ⟨w.heap.size, 0, none⟩ (.slice (if c = 1 then some ad else some (ad.add 1)) ws.length (c - 1))).drewN m).setCell ⟨wx.heap.size, 1, none⟩ u).heap[i]? = wx.heap[i]? := fun i hi hne =>
    (Below.heap_setCell _ _ _ _ (by simp only; omega)).trans ((Below.heap_setCell _ _ _ _ (by simp only; omega)).trans (Below.heap_alloc _ _ _ hi))
  obtain ⟨g1, g2, g3, g4, g5, g6, g7⟩ := hn
  refine ⟨g1, g2, (Below.heap_setCell _ _ _ _ (by simp only; omega)).trans g3, ?_, ?_, h6, ?_⟩
  · exact Kd.R_mono (Kd.R_step (Kd.R_types h4 h3 (by decide)) (fun k hk hlt => hheap k hlt hk.2)) (fun _ _ => trivial)
  · exact h5.kept (row := some w.heap.size) ⟨rfl, rfl, rfl, by simp [World.drewN, World.setCell], fun i hi hne => hheap i hi (fun e => hne (by rw [e]))⟩ (by simp; omega)
  · exact g7.setCell (p := ⟨wx.heap.size, 1, none⟩) (by simp only; omega) u
theorem flag_kept {W : World} {F g : Nat} {cs : Array Value} {t : TypeId} (h : W.heap[F]? = some (.cells cs t (0, 0))) (hne : F ≠ g) (x : Value) (m : Nat) : ((W.setCell ⟨g, 0, none⟩ x).drewN m).heap[F]? = some (.cells cs t (0, 0)) :=
  (Below.heap_setCell _ _ _ _ hne).trans h
end
theorem two_cells {W : World} {F : Nat} {x y : Value} {t : TypeId} (h : W.heap[F]? = some (.cells #[x, y] t (0, 0))) :
    W.cell? ⟨F, 0, none⟩ = some x ∧ W.cell? ⟨F, 1, none⟩ = some y ∧ W.frozen? ⟨F, 1, none⟩ = false := by
  refine ⟨by simp [World.cell?, h], by simp [World.cell?, h], by simp [World.frozen?, h]⟩
theorem two_set {W : World} {F : Nat} {x y : Value} {t : TypeId} (h : W.heap[F]? = some (.cells #[x, y] t (0, 0))) (u : Value) :
    (W.setCell ⟨F, 1, none⟩ u).heap[F]? = some (.cells #[x, u] t (0, 0)) := by
  simp [World.setCell, Array.getElem?_modify, h]
theorem extract_drop (a : ByteArray) (k : Nat) : a.extract k a.size = ⟨(a.data.toList.drop k).toArray⟩ := by
  have h : (a.extract k a.size).data.toList = a.data.toList.drop k := by
    exact Lib.extract_to_end a k
  rw [← h]
end Go.Proofs.YtemimbjnfadklaaDoor.L
