/- Plain words: a map from bytes to bools as a function; what the letters of an option text tell. -/
import Derived.Test.YtemimbjnfadklaaDoorLx0
import Derived.Maps.OwnSet
import Derived.Lib.ConvBytes
namespace Go.Proofs.YtemimbjnfadklaaDoor.L
open Go.RowKit Go.Maps

/-- A function, turned at one place. -/
def upd (f : Int → Option Bool) (c : Int) (b : Bool) : Int → Option Bool := fun x => if x = c then some b else f x
theorem upd_same (f : Int → Option Bool) (c : Int) (b : Bool) : upd f c b c = some b := by simp [upd]
theorem upd_other (f : Int → Option Bool) (c d : Int) (b : Bool) (h : d ≠ c) : upd f c b d = f d := by simp [upd, h]

/-- Block B is a map from bytes to bools, of at most n entries, that reads as f. -/
def TMap (W : World) (B n : Nat) (f : Int → Option Bool) : Prop :=
  ∃ D : DataW Unit, W.ownsMap Tryd.prog 5 (plainElem Tryd.prog 4) B n D ∧
    ∀ c : Int, Maps.has D (.int .u8 c) = (f c).isSome ∧ D.atKey (.int .u8 c) (.lit (.bool false)) = .lit (.bool ((f c).getD false))

theorem plainElem_bool_inv {P : Program} {e : TypeId} (he : P.underlying e = some .bool) {v : Value} {x : Bool} {ps : List MemPlace} (h : plainElem (H := Unit) P e v = some (.lit (.bool x), ps)) : v = .bool x := by
  unfold plainElem at h
  rw [he] at h
  cases v <;> simp_all

theorem zero4 (w : World) : (zeroValue 4).run Tryd.prog w = .ok (.bool false) w := by kernel_rfl

theorem TMap.made (w : World) : TMap (w.alloc (.map #[] 0)) w.heap.size 0 (fun _ => none) :=
  ⟨.map [], World.ownsMap_made _ _ _ _, fun _ => ⟨rfl, rfl⟩⟩
theorem TMap.kept {W W' : World} {B n : Nat} {f : Int → Option Bool} {row : Option Nat} (h : TMap W B n f) (hg : W.grownBy W' row) (hne : some B ≠ row) : TMap W' B n f := by
  obtain ⟨D, hD, hf⟩ := h
  exact ⟨D, hD.kept hg hne, hf⟩
theorem TMap.below {W W' : World} {B n : Nat} {f : Int → Option Bool} (h : TMap W B n f) (hb : Below W.heap.size W W') : TMap W' B n f :=
  h.kept (row := none) ⟨hb.os, hb.tape, hb.output, hb.size, fun i hi _ => hb.block i hi⟩ (by simp)
theorem TMap.look {W : World} {B n : Nat} {f : Int → Option Bool} (h : TMap W B n f) (c : Int) (h0 : 0 ≤ c) (h1 : c ≤ 255) :
    (Instr.lookup 47 (.map (some B)) (.int .u8 c) true).run Tryd.prog W = .ok (.tuple #[.bool ((f c).getD false), .bool (f c).isSome]) W := by
  obtain ⟨D, hD, hf⟩ := h
  have hkey : keyOf Tryd.prog 5 (.int .u8 c) = some (.int .u8 c) := keyOf_int_mk Tryd.underlying5 (WalkArith.wf_u8 ⟨h0, h1⟩)
  obtain ⟨v, ps, hrun, hv⟩ := hD.look_ok (Maps.int_keyed Tryd.underlying5) Tryd.underlying47 (zero4 W) (plainElem_bool Tryd.underlying4 false) hkey
  obtain ⟨h2, h3⟩ := hf c
  rw [h3] at hv
  rw [hrun, plainElem_bool_inv Tryd.underlying4 hv, h2]
theorem has_put {D : DataW Unit} {n B : Nat} {W : World} (hD : W.ownsMap Tryd.prog 5 (plainElem Tryd.prog 4) B n D) {f : Int → Option Bool}
    (hf : ∀ c : Int, Maps.has D (.int .u8 c) = (f c).isSome ∧ D.atKey (.int .u8 c) (.lit (.bool false)) = .lit (.bool ((f c).getD false))) (c : Int) (b : Bool) (x : Int) :
    Maps.has (D.put (.int .u8 c) (.lit (.bool b))) (.int .u8 x) = (upd f c b x).isSome ∧ (D.put (.int .u8 c) (.lit (.bool b))).atKey (.int .u8 x) (.lit (.bool false)) = .lit (.bool ((upd f c b x).getD false)) := by
  by_cases h : x = c
  · subst h
    rw [upd_same]
    exact ⟨Maps.has_put_same hD.isMap (by simp [WideAt.IsKeyLit]) _, Maps.atKey_put_same hD.isMap (by simp [WideAt.IsKeyLit]) _ _⟩
  · rw [upd_other _ _ _ _ h]
    have hne : (Lit.int .u8 x) ≠ .int .u8 c := fun e => h (by injection e)
    rw [Maps.has_put_other hne, Maps.atKey_put_other hne]
    exact hf x

/-- A byte that may be an option's letter. -/
def okLetter (c : Int) : Bool := (decide (97 ≤ bits .or .u8 c 32) && decide (bits .or .u8 c 32 ≤ 122)) || (decide (48 ≤ c) && decide (c ≤ 57))

/-- What an option text tells, read from the left. -/
def lettersGo : List UInt8 → (Int → Option Bool) → Int → Option (Int → Option Bool)
  | [], f, _ => some f
  | c :: cs, f, last =>
    if (c.toNat : Int) = 58 ∧ f last = some false then lettersGo cs (upd f last true) 0
    else if (f c.toNat).isSome = true ∨ okLetter c.toNat = false then none
    else lettersGo cs (upd f c.toNat false) c.toNat
def lettersOf (s : ByteArray) : Option (Int → Option Bool) := lettersGo s.data.toList (fun _ => none) 0
end Go.Proofs.YtemimbjnfadklaaDoor.L
