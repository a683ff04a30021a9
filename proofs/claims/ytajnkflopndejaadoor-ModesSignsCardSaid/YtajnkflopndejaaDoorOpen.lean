/- How the arguments are opened; what the rows' list of library variables gives. The theorem on slices of structs is the kit's own pattern (extra-structs), turned to this seat. -/
import Derived.Test.YtajnkflopndejaaDoorCards
import Derived.Test.YtajnkflopndejaaDoorTie
import Derived.Test.YtajnkflopndejaaDoorApply
import Derived.Test.YtajnkflopndejaaDoorRead
import Derived.ProofKit
import Derived.OpenShut
import Derived.Lay
import Derived.LaidOnce
import Derived.LaidSub
import Derived.LaidLaws
import Derived.Lib.LaidTab
import Derived.SliceStrings
import Derived.SizedLaws
import Derived.Deep.Slices
import Derived.Deep.Fields
import Derived.ChangeSame
import Derived.Lib.SmallJoins
namespace Go.Proofs.YtajnkflopndejaaDoor.L
open Go.RowKit Go.ChangeShapes Go.WideShapes Go.ChangeAt Go.Deep Go.Proofs.YtajnkflopndejaaDoorW.PrintWords

theorem own : ownKnob Tryd.prog.godebug = none := by kernel_rfl
theorem laidOut : laidOutB Tryd.prog = true := by kernel_rfl

theorem wf_u8_range {n : Int} (h : (Lit.int .u8 n).wf = true) : 0 ≤ n ∧ n ≤ 255 := by
  simp [Lit.wf] at h
  have e1 : IntKind.u8.min = 0 := by decide
  have e2 : IntKind.u8.max = 255 := by decide
  omega
theorem glob_of {W : World} (h : laidMetH Tryd.prog Rows.modesOneRow.laid W) : Glob W := by
  have h1 := h.filter (fun x => x.1 == "strconv.ErrRange")
  have h2 := h.filter (fun x => x.1 == "math/bits.deBruijn64tab")
  rw [show (Rows.modesOneRow.laid.filter fun x => x.1 == "strconv.ErrRange") = [("strconv.ErrRange", Rows.laid_strconv_ErrRange)] from rfl] at h1
  rw [MakeChecks.laidMetH_plain _ _ _ (by kernel_rfl)] at h1
  rw [show (Rows.modesOneRow.laid.filter fun x => x.1 == "math/bits.deBruijn64tab") = [("math/bits.deBruijn64tab", Rows.laid_math_bits_deBruijn64tab)] from rfl] at h2
  rw [MakeChecks.laidMetH_plain _ _ _ (by kernel_rfl)] at h2
  obtain ⟨ps, ⟨g, t, cs, fuel, q, q2, hg, ht, hvar, hd, _⟩, _⟩ := h1
  obtain rfl : g = 2 := (Option.some.inj ((show Tryd.prog.globalNamed "strconv.ErrRange" = some 2 by kernel_rfl).symm.trans hg)).symm
  obtain rfl : t = 50 := (Option.some.inj ((show (Tryd.prog.globals[2]?).map (·.type) = some 50 by kernel_rfl).symm.trans ht)).symm
  obtain ⟨f2, u, v, hcs, _⟩ := iface_of_trod Tryd.underlying50 hd
  have hc := World.var?_cell hg hvar 0
  have hc0 : cs[0]? = some (.iface u v) := by rw [← Array.getElem?_toList, hcs]; rfl
  have htab := (Lib.tabIs_of_head (zs := [0, 1, 56, 2, 57, 49, 28, 3, 61, 58, 42, 50, 38, 29, 17, 4, 62, 47, 59, 36, 45, 43, 51, 22, 53, 39, 33, 30, 24, 18, 12, 5, 63, 55, 48, 27, 60, 41, 37, 16, 46, 35, 44, 21, 52, 32, 23, 11, 54, 26, 40, 15, 34, 20, 31, 10, 25, 14, 19, 9, 13, 8, 7, 6]) (rest := []) (g := 7) (t := 117) (e := 5) (n := 64) (k := .u8)
    (by kernel_rfl) (by kernel_rfl) Tryd.underlying117 Tryd.underlying5 (by kernel_rfl) (by kernel_rfl) h2).cell (g := 7) (by kernel_rfl) 7 (by decide)
  exact ⟨⟨.iface u v, hc.trans hc0, .inr ⟨u, v, rfl⟩⟩, htab⟩

section
variable {H : Type} {enc : TypeId × Value → H} {P : Program} {w : World} {base : Nat} {spare : Nat → Bool} {held : Bool}
theorem open_slice_fields {t e : TypeId} {fs : Array Field} {fuel : Nat} {cs : List Value} {x : DataW H × List MemPlace} (ht : P.underlying t = some (.slice e)) (he : P.underlying e = some (.struct fs))
    (hone : oneCellFields P fs = true) (hC : P.cellsOf e = fs.size) (h : DataW.trod enc P w base spare held fuel t cs = some x) :
    (cs = [.slice none 0 0] ∧ x = (.nil, [])) ∨
    ∃ (a : Addr) (len cap m : Nat) (D : Nat → DataW H) (Pl : Nat → List MemPlace), cs = [.slice (some a) len cap] ∧ base ≤ a.block ∧ len ≤ cap ∧ cap ≤ maxLen ∧ m = (if spare a.block then cap else len) ∧
      x = (.slice ((List.range len).map D) ((List.range (m - len)).map fun j => D (len + j)), MemPlace.row a (m * fs.size) ++ (List.range m).flatMap Pl) ∧
      ∀ i, i < m → ∃ (ys : List (DataW H × List MemPlace)) (n : Nat), D i = .agg (ys.map (·.1)) ∧ Pl i = ys.flatMap (·.2) ∧ ys.length = fs.size ∧
        ∀ (j : Nat) (f : Field), fs[j]? = some f → ∃ (v : Value) (y : DataW H × List MemPlace), w.cell? (a.add (i * fs.size + j)) = some v ∧ ys[j]? = some y ∧ DataW.trod enc P w base spare held n f.type [v] = some y := by
  rcases open_slice ht h with h0 | ⟨a, len, cap, m, n, D, Pl, hcs, hb, hl, hm, hmm, hx, hi⟩
  · exact .inl h0
  · refine .inr ⟨a, len, cap, m, D, Pl, hcs, hb, hl, hm, hmm, by rw [hC] at hx; exact hx, fun i him => ?_⟩
    obtain ⟨cs', hc, ht'⟩ := hi i him
    rw [hC] at hc
    obtain ⟨ys, n', hn', hy, hlen, hyl, hf⟩ := DataW.trod_struct he ht'
    obtain ⟨_, hcl, hat⟩ := World.cells?_some hc
    simp only [Prod.mk.injEq] at hy
    refine ⟨ys, n', hy.1, hy.2, hyl, fun j f hj => ?_⟩
    obtain ⟨ho, hk⟩ := hone_of hone j f hj
    have hjl : j < fs.size := (Array.getElem?_eq_some_iff.1 hj).1
    have hcell := hat j hjl
    have hv : cs'[j]? = some (cs'[j]'(by omega)) := List.getElem?_eq_getElem (by omega)
    have h1 := hf j f hj
    rw [ho, hk] at h1
    have hone' : (cs'.drop j).take 1 = [cs'[j]'(by omega)] := by
      rw [List.drop_eq_getElem_cons (by omega)]
      rfl
    rw [hone'] at h1
    have hys : ys[j]? = some (ys[j]'(by omega)) := List.getElem?_eq_getElem (by omega)
    refine ⟨_, _, ?_, hys, h1.trans hys⟩
    rw [← Go.Deep.add_add, hcell, hv]
end

theorem weights_at {H : Type} {P : Program} {ts : List TypeId} {ds : List (DataW H)} (h : (DataW.weightsEach P ts ds).all (· ≤ reachBytes) = true) {j : Nat} {t : TypeId} {d : DataW H} (ht : ts[j]? = some t) (hd : ds[j]? = some d) : ∀ n ∈ d.weights P t, n ≤ reachBytes :=
  fun n hn => by simpa using List.all_eq_true.1 h n (DataW.weights_mem_each ht hd n hn)

def dat35 {H : Type} (x : S35) : DataW H := .agg [.lit (.int .i64 x.f0), .lit (.int .u8 x.f1), .lit (.int .i64 x.f2), .lit (.int .u8 x.f3), .lit (.bool x.f4)]
theorem open_changes_sized {H : Type} {enc : TypeId × Value → H} {W : World} {a : Option Addr} {len cap : Nat} {d : DataW H} {p : List MemPlace} (h : DataW.Trod enc Tryd.prog W 0 (fun _ => true) true 33 (.slice a len cap) d p)
    (hw : ∀ n ∈ d.weights Tryd.prog 33, n ≤ reachBytes) :
    ∃ l : List S35, l.length = len ∧ len ≤ cap ∧ Kd.C k35 W a l.length l ∧ l.length * 32 ≤ 140737488351232 ∧ ∀ s ∈ l, okCh s = true ∧ 0 ≤ s.f3 ∧ s.f3 ≤ 255 := by
  obtain ⟨fuel, hf⟩ := h
  rcases open_slice_fields Tryd.underlying33 Tryd.underlying35 (by kernel_rfl) (by kernel_rfl) hf with ⟨hcs, _⟩ | ⟨x, len', cap', m, D, Pl, hcs, _, hl, hm, hmm, hx, hcell⟩
  · simp [Value.cells] at hcs
    obtain ⟨rfl, rfl, rfl⟩ := hcs
    exact ⟨[], rfl, Nat.le_refl _, Kd.C_nil _ _, by simp, fun _ h => by cases h⟩
  · simp [Value.cells] at hcs
    obtain ⟨rfl, rfl, rfl⟩ := hcs
    simp at hmm
    subst hmm
    have hall : ∀ i : Nat, ∃ s : S35, i < m → (okCh s = true ∧ 0 ≤ s.f3 ∧ s.f3 ≤ 255) ∧ W.cell? (x.add (i * 5 + 0)) = some (.int .i64 s.f0) ∧ W.cell? (x.add (i * 5 + 1)) = some (.int .u8 s.f1) ∧ W.cell? (x.add (i * 5 + 2)) = some (.int .i64 s.f2) ∧ W.cell? (x.add (i * 5 + 3)) = some (.int .u8 s.f3) ∧ W.cell? (x.add (i * 5 + 4)) = some (.bool s.f4) := fun i => by
      by_cases hi : i < m
      · obtain ⟨ys, n, hD, _, hy, hj⟩ := hcell i hi
        obtain ⟨v0, y0, hc0, hy0, ht0⟩ := hj 0 _ rfl
        obtain ⟨v1, y1, hc1, hy1, ht1⟩ := hj 1 _ rfl
        obtain ⟨v2, y2, hc2, hy2, ht2⟩ := hj 2 _ rfl
        obtain ⟨v3, y3, hc3, hy3, ht3⟩ := hj 3 _ rfl
        obtain ⟨v4, y4, hc4, hy4, ht4⟩ := hj 4 _ rfl
        obtain ⟨b0, hb0, _, _⟩ := DataW.trod_int Tryd.underlying3 ht0
        obtain ⟨b1, hb1, _, w1⟩ := DataW.trod_int Tryd.underlying5 ht1
        obtain ⟨b2, hb2, _, _⟩ := DataW.trod_int Tryd.underlying3 ht2
        obtain ⟨b3, hb3, _, w3⟩ := DataW.trod_int Tryd.underlying5 ht3
        obtain ⟨b4, hb4, _⟩ := DataW.trod_bool Tryd.underlying4 ht4
        cases hb0
        cases hb1
        cases hb2
        cases hb3
        cases hb4
        have q1 := wf_u8_range w1
        have q3 := wf_u8_range w3
        exact ⟨⟨b0, b1, b2, b3, b4⟩, fun _ => ⟨⟨decide_eq_true q1, q3⟩, hc0, hc1, hc2, hc3, hc4⟩⟩
      · exact ⟨z35, fun h => absurd h hi⟩
    obtain ⟨g, hg⟩ := Classical.axiomOfChoice hall
    have hlen : ((List.range len).map g).length = len := by simp
    obtain ⟨hx1, _⟩ := Prod.mk.inj hx
    subst hx1
    have h3 : reachBytes = 140737488351232 := rfl
    refine ⟨(List.range len).map g, hlen, hl, ?_, ?_, fun s hs => ?_⟩
    · refine ⟨rfl, by rw [hlen]; unfold maxLen at hm; omega, fun _ => ⟨x, rfl, fun j p hp => ⟨[.int .i64 p.f0, .int .u8 p.f1, .int .i64 p.f2, .int .u8 p.f3, .bool p.f4], rfl, k35_mk W p, fun i u hu => ?_⟩⟩⟩
      have hj : j < len := by
        have := (List.getElem?_eq_some_iff.1 hp).1
        omega
      obtain ⟨_, h0, h1, h2, h3, h4⟩ := hg j (by omega)
      have e : g j = p := by
        rw [List.getElem?_map, List.getElem?_range hj] at hp
        simpa using hp
      rw [e] at h0 h1 h2 h3 h4
      have e1 : k35.sz = 5 := rfl
      rw [e1]
      match i, hu with
      | 0, hu => simp at hu; subst hu; exact h0
      | 1, hu => simp at hu; subst hu; exact h1
      | 2, hu => simp at hu; subst hu; exact h2
      | 3, hu => simp at hu; subst hu; exact h3
      | 4, hu => simp at hu; subst hu; exact h4
      | i + 5, hu => simp at hu
    · have hb : Tryd.prog.bytesOf 35 = 32 := by kernel_rfl
      have := hw ((((List.range len).map D).length + ((List.range (m - len)).map fun j => D (len + j)).length) * Tryd.prog.bytesOf 35) (by simp [DataW.weights, Tryd.underlying33])
      rw [hb, h3] at this
      simp only [List.length_map, List.length_range] at this
      rw [hlen]
      omega
    · obtain ⟨j, hj, rfl⟩ := List.mem_map.1 hs
      have hj := List.mem_range.1 hj
      exact (hg j (by omega)).1
set_option maxRecDepth 100000 in
/-- The struct At. -/
theorem open_at {H : Type} {enc : TypeId × Value → H} {W : World} {r : Reach} {b0 : Nat} {v : Value} {d : DataW H} {p : List MemPlace} (hv : Value.okWide Tryd.prog W r b0 23 v) (h : DataW.Trod enc Tryd.prog W 0 (fun _ => true) true 23 v d p) :
    ∃ (a b : Int) (c : Bool), v = .agg #[.int .i64 a, .int .i64 b, .bool c] ∧ (Lit.int .i64 a).wf = true ∧ (Lit.int .i64 b).wf = true := by
  obtain ⟨v0, v1, v2, y0, y1, y2, n, rfl, _, _, t0, t1, t2⟩ := Joins.open_agg3 Tryd.underlying23 (by kernel_rfl) (by kernel_rfl) hv h
  obtain ⟨a, ha, _, wa⟩ := DataW.trod_int Tryd.underlying3 t0
  obtain ⟨b, hb, _, wb⟩ := DataW.trod_int Tryd.underlying3 t1
  obtain ⟨c, hc, _⟩ := DataW.trod_bool Tryd.underlying4 t2
  cases ha
  cases hb
  cases hc
  exact ⟨a, b, c, rfl, wa, wb⟩
end Go.Proofs.YtajnkflopndejaaDoor.L
