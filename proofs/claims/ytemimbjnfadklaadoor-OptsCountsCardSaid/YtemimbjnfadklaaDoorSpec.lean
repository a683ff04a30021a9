/- What opts.Parse tells, in plain words: the options of words, by which there are. -/
import Derived.Test.YtemimbjnfadklaaDoorWordsA
namespace Go.Proofs.YtemimbjnfadklaaDoor.L
open Go.RowKit Go.Proofs.YtemimbjnfadklaaDoorW.PrintWords

/-- A word that is told as options: it begins with '-', and is more than that. -/
def isOpt (a : ByteArray) : Bool := decide (1 < a.size) && (bt a 0 == 45)
/-- A word's letters; what is left of the other words. -/
def wordGo (f : Int → Option Bool) : List UInt8 → List ByteArray → Option (List S45 × List ByteArray)
  | [], ws => some ([], ws)
  | c :: cs, ws =>
    match f c.toNat with
    | none => none
    | some false => (wordGo f cs ws).map fun p => (⟨c.toNat, ByteArray.empty⟩ :: p.1, p.2)
    | some true =>
      match cs, ws with
      | d :: ds, _ => some ([⟨c.toNat, ⟨(d :: ds).toArray⟩⟩], ws)
      | [], b :: r => some ([⟨c.toNat, b⟩], r)
      | [], [] => none
/-- All words, at most so many. -/
def parseGo (f : Int → Option Bool) : Nat → List ByteArray → Option (List S45 × List ByteArray)
  | 0, _ => none
  | _ + 1, [] => some ([], [])
  | n + 1, a :: ws =>
    if isOpt a = false then some ([], a :: ws)
    else if a.data.toList = [45, 45] then some ([], ws)
    else (wordGo f (a.data.toList.drop 1) ws).bind fun p => (parseGo f n p.2).map fun q => (p.1 ++ q.1, q.2)
/-- Flags ahead of what is told. -/
def prep (fl : List S45) (o : Option (List S45 × List ByteArray)) : Option (List S45 × List ByteArray) := o.map fun q => (fl ++ q.1, q.2)
theorem prep_nil (o : Option (List S45 × List ByteArray)) : prep [] o = o := by cases o <;> simp [prep]
theorem prep_prep (a b : List S45) (o : Option (List S45 × List ByteArray)) : prep a (prep b o) = prep (a ++ b) o := by cases o <;> simp [prep]

def bulk (ws : List ByteArray) : Nat := (ws.map ByteArray.size).sum
def bulkO (ws : List ByteArray) : Nat := match ws with
  | [] => 0
  | a :: r => if isOpt a then a.size + bulk r else 0
theorem bulkO_le (ws : List ByteArray) : bulkO ws ≤ bulk ws := by
  cases ws with
  | nil => simp [bulkO]
  | cons a r => simp only [bulkO]; split <;> simp [bulk]

/-- What is told with a flag's letter. -/
def after (f : Int → Option Bool) (N : Nat) (fl : List S45) (cs : List UInt8) (ws : List ByteArray) : Option (List S45 × List ByteArray) :=
  (wordGo f cs ws).bind fun p => prep (fl ++ p.1) (parseGo f N p.2)
theorem after_nil (f : Int → Option Bool) (N : Nat) (fl : List S45) (ws : List ByteArray) : after f N fl [] ws = prep fl (parseGo f N ws) := by simp [after, wordGo]
theorem after_none {f : Int → Option Bool} {c : UInt8} (h : f c.toNat = none) (N : Nat) (fl : List S45) (cs : List UInt8) (ws : List ByteArray) : after f N fl (c :: cs) ws = none := by simp [after, wordGo, h]
theorem after_flag {f : Int → Option Bool} {c : UInt8} (h : f c.toNat = some false) (N : Nat) (fl : List S45) (cs : List UInt8) (ws : List ByteArray) :
    after f N fl (c :: cs) ws = after f N (fl ++ [⟨c.toNat, ByteArray.empty⟩]) cs ws := by
  simp only [after, wordGo, h]
  cases wordGo f cs ws <;> simp
theorem after_here {f : Int → Option Bool} {c : UInt8} (h : f c.toNat = some true) (N : Nat) (fl : List S45) (d : UInt8) (ds : List UInt8) (ws : List ByteArray) :
    after f N fl (c :: d :: ds) ws = prep (fl ++ [⟨c.toNat, ⟨(d :: ds).toArray⟩⟩]) (parseGo f N ws) := by simp [after, wordGo, h]
theorem after_next {f : Int → Option Bool} {c : UInt8} (h : f c.toNat = some true) (N : Nat) (fl : List S45) (b : ByteArray) (r : List ByteArray) :
    after f N fl [c] (b :: r) = prep (fl ++ [⟨c.toNat, b⟩]) (parseGo f N r) := by simp [after, wordGo, h]
theorem after_end {f : Int → Option Bool} {c : UInt8} (h : f c.toNat = some true) (N : Nat) (fl : List S45) : after f N fl [c] [] = none := by simp [after, wordGo, h]
theorem parse_nil (f : Int → Option Bool) (N : Nat) (fl : List S45) : prep fl (parseGo f (N + 1) []) = some (fl, []) := by simp [parseGo, prep]
theorem parse_stop {f : Int → Option Bool} {a : ByteArray} (h : isOpt a = false) (N : Nat) (fl : List S45) (ws : List ByteArray) : prep fl (parseGo f (N + 1) (a :: ws)) = some (fl, a :: ws) := by simp [parseGo, prep, h]
theorem parse_dd {f : Int → Option Bool} {a : ByteArray} (h : isOpt a = true) (hd : a.data.toList = [45, 45]) (N : Nat) (fl : List S45) (ws : List ByteArray) : prep fl (parseGo f (N + 1) (a :: ws)) = some (fl, ws) := by
  simp [parseGo, prep, h, hd]
theorem parse_word {f : Int → Option Bool} {a : ByteArray} (h : isOpt a = true) (hd : a.data.toList ≠ [45, 45]) (N : Nat) (fl : List S45) (ws : List ByteArray) : prep fl (parseGo f (N + 1) (a :: ws)) = after f N fl (a.data.toList.drop 1) ws := by
  simp only [parseGo, h, Bool.true_eq_false, if_false, if_neg hd, after, prep]
  cases wordGo f (a.data.toList.drop 1) ws with
  | none => simp
  | some p =>
    cases h2 : parseGo f N p.2 <;> simp [h2]

/-- The answer of Parse. -/
def parseAns (o : Option (List S45 × List ByteArray)) : List S45 × List ByteArray × Int := match o with
  | none => ([], [], 4)
  | some (fl, r) => (fl, r, 0)
def opts_Parse.f (a0 : ByteArray) (l1 : List ByteArray) : Option (List S45 × List ByteArray × Int) :=
  if a0.size ≤ 4000 ∧ bulkO l1 ≤ 1099511627776 ∧ l1.length ≤ 1099511627776 then
    match lettersOf a0 with
    | none => some ([], [], 1)
    | some f => if 256 < l1.length then some ([], [], 3) else some (parseAns (parseGo f (l1.length + 1) l1))
  else none
end Go.Proofs.YtemimbjnfadklaaDoor.L
