/- A slice of flags that came in: opened to cells. The first theorem is the kit's own pattern (extra-structs), turned to this seat. -/
import Derived.Deep.Slices
import Derived.Deep.Fields
import Derived.ChangeSame
import Derived.Test.YtemimbjnfadklaaDoorOpen
namespace Go.Proofs.YtemimbjnfadklaaDoor.L
open Go.RowKit Go.ChangeShapes Go.WideShapes Go.ChangeAt Go.Deep Go.Proofs.YtemimbjnfadklaaDoorW.PrintWords

section
variable {H : Type} {enc : TypeId × Value → H} {P : Program} {w : World} {base : Nat} {spare : Nat → Bool} {held : Bool}
theorem open_slice_fields {t e : TypeId} {fs : Array Field} {fuel : Nat} {cs : List Value} {x : DataW H × List MemPlace} (ht : P.underlying t = some (.slice e)) (he : P.underlying e = some (.struct fs))
    (hone : oneCellFields P fs = true) (hC : P.cellsOf e = fs.size) (h : DataW.trod enc P w base spare held fuel t cs = some x) :
    (cs = [.slice none 0 0] ∧ x = (.nil, [])) ∨
    ∃ (a : Addr) (len cap m : Nat) (D : Nat → DataW H) (Pl : Nat → List MemPlace), cs = [.slice (some a) len cap] ∧ base ≤ a.block ∧ len ≤ cap ∧ cap ≤ maxLen ∧ m = (if spare a.block then cap else len) ∧
      x = (.slice ((List.range len).map D) ((List.range (m - len)).map fun j => D (len + j)), MemPlace.row a (m * fs.size) ++ (List.range m).flatMap Pl) ∧
      ∀ i, i < m → ∃ (ys : List (DataW H × List MemPlace)) (n : Nat), D i = .agg (ys.map (·.1)) ∧ Pl i = ys.flatMap (·.2) ∧ ys.length = fs.size ∧
        ∀ (j : Nat) (f : Field), fs[j]? = some f → ∃ (v : Value) (y : DataW H × List MemPlace), w.cell? (a.add (i * fs.size + j)) = some v ∧ ys[j]? = some y ∧ DataW.trod enc P w base spare held n f.type [v] = some y := by
  rcases open_slice ht h with h0 | ⟨a, len, cap, m, n, D, Pl, hcs, hb, hl, hm, hmm, hx, hi⟩
  · exact .inl h0
  · refine .inr ⟨a, len, cap, m, D, Pl, hcs, hb, hl, hm, hmm, by rw [hC] at hx; exact hx, fun i him => ?_⟩
    obtain ⟨cs', hc, ht'⟩ := hi i him
    rw [hC] at hc
    obtain ⟨ys, n', hn', hy, hlen, hyl, hf⟩ := DataW.trod_struct he ht'
    obtain ⟨_, hcl, hat⟩ := World.cells?_some hc
    simp only [Prod.mk.injEq] at hy
    refine ⟨ys, n', hy.1, hy.2, hyl, fun j f hj => ?_⟩
    obtain ⟨ho, hk⟩ := hone_of hone j f hj
    have hjl : j < fs.size := (Array.getElem?_eq_some_iff.1 hj).1
    have hcell := hat j hjl
    have hv : cs'[j]? = some (cs'[j]'(by omega)) := List.getElem?_eq_getElem (by omega)
    have h1 := hf j f hj
    rw [ho, hk] at h1
    have hone' : (cs'.drop j).take 1 = [cs'[j]'(by omega)] := by
      rw [List.drop_eq_getElem_cons (by omega)]
      rfl
    rw [hone'] at h1
    have hys : ys[j]? = some (ys[j]'(by omega)) := List.getElem?_eq_getElem (by omega)
    refine ⟨_, _, ?_, hys, h1.trans hys⟩
    rw [← Go.Deep.add_add, hcell, hv]
end

def dat45 {H : Type} (x : S45) : DataW H := .agg [.lit (.int .u8 x.f0), .lit (.string x.f1.data.toList)]
theorem open_flags_sized {H : Type} {enc : TypeId × Value → H} {W : World} {a : Option Addr} {len cap : Nat} {d : DataW H} {p : List MemPlace} (h : DataW.Trod enc Tryd.prog W 0 (fun _ => true) true 26 (.slice a len cap) d p)
    (hw : ∀ n ∈ d.weights Tryd.prog 26, n ≤ reachBytes) :
    ∃ l : List S45, l.length = len ∧ len ≤ cap ∧ Kd.C k45 W a l.length l ∧ l.length * 24 ≤ 140737488351232 ∧ ∀ s ∈ l, s.f1.size ≤ 140737488351232 := by
  obtain ⟨fuel, hf⟩ := h
  rcases open_slice_fields Tryd.underlying26 Tryd.underlying45 (by kernel_rfl) (by kernel_rfl) hf with ⟨hcs, _⟩ | ⟨x, len', cap', m, D, Pl, hcs, _, hl, hm, hmm, hx, hcell⟩
  · simp [Value.cells] at hcs
    obtain ⟨rfl, rfl, rfl⟩ := hcs
    exact ⟨[], rfl, Nat.le_refl _, Kd.C_nil _ _, by simp, fun _ h => by cases h⟩
  · simp [Value.cells] at hcs
    obtain ⟨rfl, rfl, rfl⟩ := hcs
    simp at hmm
    subst hmm
    have hall : ∀ i : Nat, ∃ s : S45, i < m → D i = dat45 s ∧ W.cell? (x.add (i * 2 + 0)) = some (.int .u8 s.f0) ∧ W.cell? (x.add (i * 2 + 1)) = some (.string s.f1) := fun i => by
      by_cases hi : i < m
      · obtain ⟨ys, n, hD, _, hy, hj⟩ := hcell i hi
        obtain ⟨v0, y0, hc0, hy0, ht0⟩ := hj 0 _ rfl
        obtain ⟨v1, y1, hc1, hy1, ht1⟩ := hj 1 _ rfl
        obtain ⟨b, hb, hb2, _⟩ := DataW.trod_int Tryd.underlying5 ht0
        obtain ⟨s, hs, hs2, _⟩ := DataW.trod_string Tryd.underlying9 ht1
        cases hb
        cases hs
        refine ⟨⟨b, s⟩, fun _ => ⟨?_, hc0, hc1⟩⟩
        rw [hD]
        match ys, hy with
        | [z0, z1], _ =>
          simp at hy0 hy1
          subst hy0 hy1
          rw [hb2, hs2]
          rfl
      · exact ⟨z45, fun h => absurd h hi⟩
    obtain ⟨g, hg⟩ := Classical.axiomOfChoice hall
    have hlen : ((List.range len).map g).length = len := by simp
    obtain ⟨hx1, _⟩ := Prod.mk.inj hx
    subst hx1
    have h3 : reachBytes = 140737488351232 := rfl
    refine ⟨(List.range len).map g, hlen, hl, ?_, ?_, fun s hs => ?_⟩
    · refine ⟨rfl, by rw [hlen]; unfold maxLen at hm; omega, fun _ => ⟨x, rfl, fun j p hp => ⟨[.int .u8 p.f0, .string p.f1], rfl, ⟨[_], [_], rfl, rfl, rfl⟩, fun i u hu => ?_⟩⟩⟩
      have hj : j < len := by
        have := (List.getElem?_eq_some_iff.1 hp).1
        omega
      obtain ⟨_, h1, h2⟩ := hg j (by omega)
      have e : g j = p := by
        rw [List.getElem?_map, List.getElem?_range hj] at hp
        simpa using hp
      rw [e] at h1 h2
      have e1 : k45.sz = 2 := rfl
      rw [e1]
      match i, hu with
      | 0, hu => simp at hu; subst hu; exact h1
      | 1, hu => simp at hu; subst hu; exact h2
      | i + 2, hu => simp at hu
    · have hb : Tryd.prog.bytesOf 45 = 24 := by kernel_rfl
      have := hw ((((List.range len).map D).length + ((List.range (m - len)).map fun j => D (len + j)).length) * Tryd.prog.bytesOf 45) (by simp [DataW.weights, Tryd.underlying26])
      rw [hb, h3] at this
      simp only [List.length_map, List.length_range] at this
      rw [hlen]
      omega
    · obtain ⟨j, hj, rfl⟩ := List.mem_map.1 hs
      have hj := List.mem_range.1 hj
      obtain ⟨hD, _, _⟩ := hg j (by omega)
      have hmem : ∀ L : List Nat, j ∈ L → (g j).f1.data.toList.length ∈ DataW.weightsAll Tryd.prog 45 (L.map D) := fun L => by
        induction L with
        | nil => intro h; cases h
        | cons b L ih =>
          intro h
          rcases List.mem_cons.1 h with rfl | h
          · simp [DataW.weightsAll, hD, dat45, DataW.weights, Tryd.underlying45, DataW.weightsEach]
          · simp only [List.map_cons, DataW.weightsAll, List.mem_append]
            exact .inr (ih h)
      have := hw (g j).f1.data.toList.length (by simp only [DataW.weights, Tryd.underlying26, List.mem_cons, List.mem_append]; exact .inr (.inl (hmem _ (List.mem_range.2 hj))))
      rw [h3] at this
      simpa using this
end Go.Proofs.YtemimbjnfadklaaDoor.L
