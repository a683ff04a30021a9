/- How the arguments are opened, and the world that shows that the rows' conditions can be met. -/
import Derived.Test.YtemimbjnfadklaaDoorCards
import Derived.Test.YtemimbjnfadklaaDoorTie
import Derived.Test.YtemimbjnfadklaaDoorLx0
import Derived.ProofKit
import Derived.OpenShut
import Derived.Lay
import Derived.LaidOnce
import Derived.SliceStrings
import Derived.SizedLaws
namespace Go.Proofs.YtemimbjnfadklaaDoor.L
open Go.RowKit Go.ChangeShapes Go.WideShapes Go.ChangeAt Go.Proofs.YtemimbjnfadklaaDoorW.PrintWords

theorem own : ownKnob Tryd.prog.godebug = none := by kernel_rfl
theorem laidOut : laidOutB Tryd.prog = true := by kernel_rfl

theorem C_strings {w : World} {a : Addr} {len cap : Nat} {ss : List ByteArray} (hl : len ≤ ss.length) (hm : cap ≤ maxLen) (hlc : len ≤ cap) (hc : ∀ i, i < ss.length → w.cell? (a.add i) = some (.string (ss.getD i ByteArray.empty))) :
    Kd.C Kd.string w (some a) (ss.take len).length (ss.take len) := by
  have hlen : (ss.take len).length = len := by simp; omega
  refine ⟨rfl, by rw [hlen]; unfold maxLen at hm; omega, fun _ => ⟨a, rfl, fun j p hp => ⟨[.string p], rfl, rfl, fun i u hu => ?_⟩⟩⟩
  have hj : j < len := by
    have := (List.getElem?_eq_some_iff.1 hp).1
    omega
  cases i with
  | succ i => simp at hu
  | zero =>
    simp at hu
    subst hu
    have h1 := hc j (by omega)
    have e1 : Kd.string.sz = 1 := rfl
    rw [e1, Nat.mul_one, Nat.add_zero, h1]
    rw [List.getElem?_take, if_pos hj] at hp
    rw [List.getD_eq_getElem?_getD, hp]
    rfl

/-- A slice of words that came in: what the walks are told of it. -/
theorem open_words {H : Type} {enc : TypeId × Value → H} {W : World} {a : Option Addr} {len cap : Nat} {d : DataW H} {p : List MemPlace} (h : DataW.Trod enc Tryd.prog W 0 (fun _ => true) true 22 (.slice a len cap) d p) :
    ∃ l : List ByteArray, l.length = len ∧ len ≤ cap ∧ Kd.C Kd.string W a l.length l := by
  obtain ⟨fuel, hf⟩ := h
  rcases open_strings Tryd.underlying22 Tryd.underlying9 (by kernel_rfl) hf with ⟨hcs, _⟩ | ⟨x, l, c, ss, hcs, _, hl, hm, hz, _, hcell, _⟩
  · simp [Value.cells] at hcs
    obtain ⟨rfl, rfl, rfl⟩ := hcs
    exact ⟨[], rfl, Nat.le_refl _, Kd.C_nil _ _⟩
  · simp [Value.cells] at hcs
    obtain ⟨rfl, rfl, rfl⟩ := hcs
    simp at hz
    have hle : len ≤ ss.length := by omega
    exact ⟨ss.take len, by simp; omega, hl, C_strings hle hm hl hcell⟩
/-- .. and how great it can be (the form's own reach). -/
theorem open_words_sized {H : Type} {enc : TypeId × Value → H} {W : World} {a : Option Addr} {len cap : Nat} {d : DataW H} {p : List MemPlace} (h : DataW.Trod enc Tryd.prog W 0 (fun _ => true) true 22 (.slice a len cap) d p)
    (hw : ∀ n ∈ d.weights Tryd.prog 22, n ≤ reachBytes) :
    ∃ l : List ByteArray, l.length = len ∧ len ≤ cap ∧ Kd.C Kd.string W a l.length l ∧ l.length * 16 ≤ 140737488351232 ∧ ∀ s ∈ l, s.size ≤ 140737488351232 := by
  obtain ⟨fuel, hf⟩ := h
  rcases open_strings Tryd.underlying22 Tryd.underlying9 (by kernel_rfl) hf with ⟨hcs, _⟩ | ⟨x, l, c, ss, hcs, _, hl, hm, hz, hx, hcell, _⟩
  · simp [Value.cells] at hcs
    obtain ⟨rfl, rfl, rfl⟩ := hcs
    exact ⟨[], rfl, Nat.le_refl _, Kd.C_nil _ _, by simp, fun _ h => by cases h⟩
  · simp [Value.cells] at hcs
    obtain ⟨rfl, rfl, rfl⟩ := hcs
    simp at hz
    have hle : len ≤ ss.length := by omega
    have hb : Tryd.prog.bytesOf 9 = 16 := by kernel_rfl
    obtain ⟨hx1, _⟩ := Prod.mk.inj hx
    subst hx1
    have h1 : (ss.take len).length = len := by simp; omega
    refine ⟨ss.take len, h1, hl, C_strings hle hm hl hcell, ?_, fun s hs => ?_⟩
    · have := hw (((strs (H := H) (ss.take len)).length + (strs (H := H) (ss.drop len)).length) * Tryd.prog.bytesOf 9) (by simp [DataW.weights, Tryd.underlying22])
      rw [hb] at this
      have h2 : (strs (H := H) (ss.take len)).length = (ss.take len).length := by simp [strs]
      rw [h2] at this
      have h3 : reachBytes = 140737488351232 := rfl
      rw [h3] at this
      omega
    · have hmem : s.data.toList.length ∈ DataW.weightsAll Tryd.prog 9 (strs (H := H) (ss.take len)) := by
        clear hw h1
        generalize ss.take len = l at hs
        induction l with
        | nil => cases hs
        | cons b l ih =>
          rcases List.mem_cons.1 hs with rfl | hs
          · simp [strs, DataW.weightsAll, DataW.weights]
          · simp only [strs, List.map_cons, DataW.weightsAll, List.mem_append]
            exact .inr (ih hs)
      have := hw s.data.toList.length (by simp only [DataW.weights, Tryd.underlying22, List.mem_cons, List.mem_append]; exact .inr (.inl hmem))
      have h3 : reachBytes = 140737488351232 := rfl
      rw [h3] at this
      simpa using this
theorem weights_at {H : Type} {P : Program} {ts : List TypeId} {ds : List (DataW H)} (h : (DataW.weightsEach P ts ds).all (· ≤ reachBytes) = true) {j : Nat} {t : TypeId} {d : DataW H} (ht : ts[j]? = some t) (hd : ds[j]? = some d) : ∀ n ∈ d.weights P t, n ≤ reachBytes :=
  fun n hn => by simpa using List.all_eq_true.1 h n (DataW.weights_mem_each ht hd n hn)
end Go.Proofs.YtemimbjnfadklaaDoor.L
