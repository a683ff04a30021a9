/- How the arguments are opened; what the rows' list of library variables gives; the wrap that keeps both the list and the world's shape. -/
import Derived.ProofKit
import Derived.OpenShut
import Derived.ChangeSame
import Derived.ChangeSlices
import Derived.SizedLaws
import Derived.HandedShaped
import Derived.Shelf.Vars
import Derived.LaidOnce
import Derived.LaidLaws
import Derived.LaidSub
import Derived.Lib.LaidTab
import Derived.Lay
import Derived.Test.YtndmngijfleilaaDoorTie
import Derived.Test.YtndmngijfleilaaDoorCards
import Derived.Test.YtndmngijfleilaaDoorExt
namespace Go.Proofs.YtndmngijfleilaaDoor.L
open Go.RowKit Go.ChangeShapes Go.WideShapes Go.ChangeAt Go.Proofs.YtndmngijfleilaaDoorW.PrintWords

theorem own : ownKnob Tryd.prog.godebug = none := by kernel_rfl
theorem laidOut : laidOutB Tryd.prog = true := by kernel_rfl

theorem both {H : Type} {enc : TypeId × Value → H} {a : Assume} {C : Checked} {os : Os} {f : FuncId} {fn : Func} {s : ChangeSpec} {conds : List PathCond} {apart fresh handsOn again : Bool} {X : World → Array Value → Prop}
    (hX : ∀ (w w' : World) (args : Array Value), w.heap = w'.heap → X w args → X w' args)
    (own : ownKnob C.prog.godebug = none) (started : os.Started) (noInit : C.prog.inits.idxOf? f = none) (hfn : C.prog.funcs[f]? = some fn)
    (witness : ∃ (w : World) (tape : Tape) (i : Input), w.os = os ∧ (w.forCall tape i).Shaped C.prog ∧ i.vars = [] ∧ Input.okWide C.prog (w.forCall tape i) .any w.heap.size f i ∧
      ((s.pre enc C.prog fn conds apart (w.forCall tape i).memory i.args ∧ X (w.forCall tape i).memory i.args) ∧ sizedMet enc C.prog fn (OpenSpec.ofChange s) apart (w.forCall tape i).memory i.args) ∧ a.holds C.prog (lone (Frame.enter C.prog f i.args .normal) [] (w.forCall tape i)))
    (contract : ∀ (W : World) (base : Nat) (args : Array Value) (ds gs : List (DataW H)) (before : List MemPlace),
      (∀ (j : Nat) t v, fn.params[j]? = some t → args[j]? = some v → Value.okWide C.prog W .any base t v) →
      DataW.Whole enc C.prog fn.params.toList s.vars apart W args.toList ds gs before →
      conds.all (PathCond.test C.prog ⟨fn.params.toList, ds, s.plain.varTypes C.prog, gs⟩) = true →
      (DataW.weightsEach C.prog (fn.params.toList ++ s.plain.varTypes C.prog) (ds ++ gs)).all (· ≤ reachBytes) = true → (X W args ∧ W.ShapedOpen C.prog) →
      a.holds C.prog (lone (Frame.enter C.prog f args .normal) [] W) →
      Calls C.prog f args W fun e W' => ∃ v, e = .returned v ∧ s.post enc C.prog fn apart fresh handsOn again W args v W') :
    ReturnsInHanded a C os f .any (fun w args => (s.pre enc C.prog fn conds apart w args ∧ X w args) ∧ sizedMet enc C.prog fn (OpenSpec.ofChange s) apart w args) (s.post enc C.prog fn apart fresh handsOn again) := by
  refine returnsInHanded_of_calls own started noInit witness ?_
  intro w tape i _ hsh _ hok hpre hholds
  obtain ⟨_, _, _, fn', hfn', _, _, _, _, hval⟩ := hok
  obtain rfl : fn' = fn := Option.some.inj (hfn'.symm.trans hfn)
  obtain ⟨⟨⟨ds, gs, before, hw, hc⟩, hx⟩, hz⟩ := hpre
  have hw' := DataW.Whole.of_heap (w' := w.forCall tape i) (by rfl) hw
  refine (contract (w.forCall tape i) w.heap.size i.args ds gs before hval hw' hc (hz.weights hw) ⟨hX _ _ _ (by rfl) hx, hsh⟩ hholds).mono fun e W' ⟨v, he, hp⟩ => ?_
  subst he
  exact ChangeSpec.post_blind hp

theorem glob_of {W : World} (h : laidMetH Tryd.prog Rows.setsRestRow.laid W ∧ W.ShapedOpen Tryd.prog) : Glob W := by
  obtain ⟨h, hsh⟩ := h
  have h1 := h.filter (fun x => x.1 == "strconv.ErrRange")
  have h2 := h.filter (fun x => x.1 == "strconv.ErrSyntax")
  rw [show (Rows.setsRestRow.laid.filter fun x => x.1 == "strconv.ErrRange") = [("strconv.ErrRange", Rows.laid_strconv_ErrRange)] from rfl] at h1
  rw [MakeChecks.laidMetH_plain _ _ _ (by kernel_rfl)] at h1
  rw [show (Rows.setsRestRow.laid.filter fun x => x.1 == "strconv.ErrSyntax") = [("strconv.ErrSyntax", Rows.laid_strconv_ErrSyntax)] from rfl] at h2
  rw [MakeChecks.laidMetH_plain _ _ _ (by kernel_rfl)] at h2
  obtain ⟨ps, ⟨g, t, cs, fuel, q, q2, hg, ht, hvar, hd, _⟩, _⟩ := h1
  obtain rfl : g = 2 := (Option.some.inj ((show Tryd.prog.globalNamed "strconv.ErrRange" = some 2 by kernel_rfl).symm.trans hg)).symm
  obtain rfl : t = 56 := (Option.some.inj ((show (Tryd.prog.globals[2]?).map (·.type) = some 56 by kernel_rfl).symm.trans ht)).symm
  obtain ⟨f2, u, v, hcs, _⟩ := iface_of_trod Tryd.underlying56 hd
  have hc := World.var?_cell hg hvar 0
  have hc0 : cs[0]? = some (.iface u v) := by rw [← Array.getElem?_toList, hcs]; rfl
  obtain ⟨ps', ⟨g', t', cs', fuel', q', q2', hg', ht', hvar', hd', _⟩, _⟩ := h2
  obtain rfl : g' = 1 := (Option.some.inj ((show Tryd.prog.globalNamed "strconv.ErrSyntax" = some 1 by kernel_rfl).symm.trans hg')).symm
  obtain rfl : t' = 56 := (Option.some.inj ((show (Tryd.prog.globals[1]?).map (·.type) = some 56 by kernel_rfl).symm.trans ht')).symm
  obtain ⟨f2', u', v', hcs', _⟩ := iface_of_trod Tryd.underlying56 hd'
  have hc' := World.var?_cell hg' hvar' 0
  have hc0' : cs'[0]? = some (.iface u' v') := by rw [← Array.getElem?_toList, hcs']; rfl
  obtain ⟨m, hm⟩ := cell_of_shapedOpen_int (g := 0) (t := 3) (zero := #[.int .i64 0]) (k := .i64) hsh (of_decide_eq_true (by kernel_rfl)) (by kernel_rfl) rfl (by kernel_rfl) (by kernel_rfl) Tryd.underlying3
  exact ⟨⟨m, hm⟩, ⟨.iface u' v', hc'.trans hc0', .inr ⟨u', v', rfl⟩⟩, ⟨.iface u v, hc.trans hc0, .inr ⟨u, v, rfl⟩⟩⟩

theorem wf_u8_range {n : Int} (h : (Lit.int .u8 n).wf = true) : 0 ≤ n ∧ n ≤ 255 := by
  simp [Lit.wf] at h
  have e1 : IntKind.u8.min = 0 := by decide
  have e2 : IntKind.u8.max = 255 := by decide
  omega

theorem C_bytes {w : World} {a : Addr} {len : Nat} {zs : List Int} (hle : len ≤ zs.length) (hm : len ≤ maxLen) (hc : ∀ i, i < len → w.cell? (a.add i) = some (.int .u8 (zs.getD i 0))) :
    Kd.C (Kd.int .u8) w (some a) (zs.take len).length (zs.take len) := by
  have hlen : (zs.take len).length = len := by simp; omega
  refine Kd.C_of_reads (enc := Value.int .u8) (d := (0 : Int)) (h1 := fun _ => rfl) ⟨rfl, by rw [hlen]; unfold maxLen at hm; omega, fun _ => ⟨a, rfl, fun j hj => ?_⟩⟩
  have hj' : j < len := by omega
  rw [hc j hj', List.getD_eq_getElem?_getD, List.getD_eq_getElem?_getD, List.getElem?_take, if_pos hj']
/-- A slice of bytes that came in: what the walks are told of it, and how great it can be (the form's own reach). -/
theorem open_bytes_sized {H : Type} {enc : TypeId × Value → H} {W : World} {a : Option Addr} {len cap : Nat} {d : DataW H} {p : List MemPlace} (h : DataW.Trod enc Tryd.prog W 0 (fun _ => true) true 22 (.slice a len cap) d p)
    (hw : ∀ n ∈ d.weights Tryd.prog 22, n ≤ reachBytes) :
    ∃ l : List Int, l.length = len ∧ len ≤ cap ∧ Kd.C (Kd.int .u8) W a l.length l ∧ l.length * 1 ≤ 140737488351232 ∧ ∀ x ∈ l, 0 ≤ x ∧ x ≤ 255 := by
  obtain ⟨fuel, hf⟩ := h
  rcases open_ints Tryd.underlying22 Tryd.underlying5 (by kernel_rfl) hf with ⟨hcs, _⟩ | ⟨x, l, c, zs, hcs, _, hl, hm, hz, hx, hcell, hwf⟩
  · simp [Value.cells] at hcs
    obtain ⟨rfl, rfl, rfl⟩ := hcs
    exact ⟨[], rfl, Nat.le_refl _, Kd.C_nil _ _, by simp, fun _ h => by cases h⟩
  · simp [Value.cells] at hcs
    obtain ⟨rfl, rfl, rfl⟩ := hcs
    simp at hz
    have hle : len ≤ zs.length := by omega
    have hb : Tryd.prog.bytesOf 5 = 1 := by kernel_rfl
    obtain ⟨hx1, _⟩ := Prod.mk.inj hx
    subst hx1
    have h1 : (zs.take len).length = len := by simp; omega
    refine ⟨zs.take len, h1, hl, C_bytes hle (by omega) (fun i hi => hcell i (by omega)), ?_, fun n hn => wf_u8_range (hwf n (List.mem_of_mem_take hn))⟩
    have := hw (((lits (H := H) .u8 (zs.take len)).length + (lits (H := H) .u8 (zs.drop len)).length) * Tryd.prog.bytesOf 5) (by simp [DataW.weights, Tryd.underlying22])
    rw [hb] at this
    have h2 : (lits (H := H) .u8 (zs.take len)).length = (zs.take len).length := by simp [lits]
    rw [h2] at this
    have h3 : reachBytes = 140737488351232 := rfl
    rw [h3] at this
    omega
theorem weights_at {H : Type} {P : Program} {ts : List TypeId} {ds : List (DataW H)} (h : (DataW.weightsEach P ts ds).all (· ≤ reachBytes) = true) {j : Nat} {t : TypeId} {d : DataW H} (ht : ts[j]? = some t) (hd : ds[j]? = some d) : ∀ n ∈ d.weights P t, n ≤ reachBytes :=
  fun n hn => by simpa using List.all_eq_true.1 h n (DataW.weights_mem_each ht hd n hn)
end Go.Proofs.YtndmngijfleilaaDoor.L
