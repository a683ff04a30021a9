/- What modes.Parse tells of a text: plain. -/
import Derived.Test.YtajnkflopndejaaDoorLx3
import Derived.Test.YtajnkflopndejaaDoorPlain
namespace Go.Proofs.YtajnkflopndejaaDoor.L
open Go.RowKit Go.Proofs.YtajnkflopndejaaDoorW.PrintWords Go.Proofs.YtajnkflopndejaaDoorW.PrintLast Go.Proofs.YtajnkflopndejaaDoorW.PrintMore

theorem clauseGo_len (who : Int) : ∀ (n : Nat) (cs : List UInt8) (r : List S35), clauseGo who n cs = some r → r.length ≤ cs.length
  | 0, _, r, h => by cases h
  | n + 1, [], r, h => by cases h; exact Nat.le_refl _
  | n + 1, c :: cs, r, h => by
    simp only [clauseGo] at h
    split at h
    · cases h
    · split at h
      · obtain ⟨l, hl, rfl⟩ := Option.map_eq_some_iff.1 h
        have := clauseGo_len who n _ l hl
        have e : (cs.drop 1).length ≤ cs.length := by rw [List.length_drop]; omega
        simp only [List.length_cons]
        omega
      · obtain ⟨l, hl, rfl⟩ := Option.map_eq_some_iff.1 h
        have := clauseGo_len who n _ l hl
        have e : (cs.drop (letGo bitTab cs 0).2).length ≤ cs.length := by rw [List.length_drop]; omega
        simp only [List.length_cons]
        omega
theorem clauseOf_len (l : List UInt8) : (clauseOf l).1.length ≤ l.length := by
  unfold clauseOf
  split
  · exact Nat.zero_le _
  · rename_i r h
    have := clauseGo_len _ _ _ _ h
    rw [List.length_drop] at this
    show r.length ≤ l.length
    omega

def mkB (l : List UInt8) : ByteArray := ⟨l.toArray⟩
/-- The changes of the clauses. -/
def joinAll : List (List UInt8) → Option (List S35)
  | [] => some []
  | p :: ps => if (clauseOf p).2 = true then (joinAll ps).map fun r => (clauseOf p).1 ++ r else none
def parseAns (acc : List S35) : Option (List S35) → List S35 × Int
  | none => ([], 5)
  | some r => (acc ++ r, 0)
theorem joinAll_append : ∀ (A B : List (List UInt8)), joinAll (A ++ B) = (joinAll A).bind fun a => (joinAll B).map fun b => a ++ b
  | [], B => by
    show joinAll B = (joinAll B).map fun b => [] ++ b
    cases joinAll B <;> rfl
  | p :: A, B => by
    have ih := joinAll_append A B
    show joinAll (p :: (A ++ B)) = _
    simp only [joinAll]
    split
    · rw [ih]
      cases joinAll A with
      | none => rfl
      | some a =>
        cases joinAll B with
        | none => rfl
        | some b => simp [List.append_assoc]
    · rfl

theorem splitC_flat (c : UInt8) : ∀ l : List UInt8, (splitC c l).flatten.length ≤ l.length
  | [] => by simp [splitC]
  | a :: l => by
    have ih := splitC_flat c l
    simp only [splitC]
    split
    · simp only [List.flatten_cons, List.nil_append, List.length_cons]
      omega
    · split
      · simp
      · rename_i p ps h
        rw [h] at ih
        simp only [List.flatten_cons, List.length_append, List.length_cons, List.cons_append] at ih ⊢
        omega
theorem splitC_ne (c : UInt8) : ∀ l : List UInt8, splitC c l ≠ []
  | [] => by simp [splitC]
  | a :: l => by
    simp only [splitC]
    split
    · simp
    · split <;> simp
theorem splitC_append (c : UInt8) : ∀ l t : List UInt8, splitC c (l ++ c :: t) = splitC c l ++ splitC c t
  | [], t => by simp [splitC]
  | a :: l, t => by
    have ih := splitC_append c l t
    show splitC c (a :: (l ++ c :: t)) = _
    simp only [splitC]
    split
    · rw [ih]; rfl
    · rw [ih]
      cases h : splitC c l with
      | nil => exact absurd h (splitC_ne c l)
      | cons p ps => rfl
theorem mem_flat {p : List UInt8} {L : List (List UInt8)} (h : p ∈ L) : p.length ≤ L.flatten.length := (List.sublist_flatten_of_mem h).length_le

theorem l1_ev (L : List (List UInt8)) (hL : L.flatten.length ≤ 4096) (d : Nat) : ∀ (i : Nat) (acc : List S35), L.length - i = d → i ≤ L.length → L.length ≤ 4097 → acc.length + (L.drop i).flatten.length ≤ 4096 →
    Ev (fun k => modes_Parse.l1 k acc (L.map mkB) (L.length : Int) (i : Int)) (parseAns acc (joinAll (L.drop i))) := by
  induction d with
  | zero =>
    intro i acc hd hi hn hb
    obtain rfl : i = L.length := by omega
    rw [List.drop_length]
    refine Ev.step (f := fun _ => some (acc, 0)) (fun k => ?_) ?_
    · simp only [modes_Parse.l1]
      rw [if_neg (by omega)]
    · rw [show parseAns acc (joinAll []) = (acc, 0) by simp [parseAns, joinAll]]
      exact Ev.now _
  | succ d ih =>
    intro i acc hd hi hn hb
    have hlt : i < L.length := by omega
    have hdr : L.drop i = L[i] :: L.drop (i + 1) := List.drop_eq_getElem_cons hlt
    have hp := mem_flat (List.getElem_mem hlt)
    have hc := clauseOf_len L[i]
    rw [hdr, List.flatten_cons, List.length_append] at hb
    have hrd : rdOf ByteArray.empty (L.map mkB) (i : Int) = mkB L[i] := by
      unfold rdOf
      rw [Int.toNat_natCast, List.getD_eq_getElem?_getD, List.getElem?_map, List.getElem?_eq_getElem hlt]
      rfl
    have hcl : modes_clause.f (mkB L[i]) = some (clauseOf L[i]) := by
      unfold modes_clause.f
      rw [if_pos (by show L[i].toArray.size ≤ _; rw [List.size_toArray]; omega)]
      rfl
    by_cases hok : (clauseOf L[i]).2 = true
    · refine Ev.step (f := fun k => modes_Parse.l1 k (acc ++ (clauseOf L[i]).1) (L.map mkB) (L.length : Int) ((i + 1 : Nat) : Int)) (fun k => ?_) ?_
      · simp only [modes_Parse.l1]
        rw [if_pos (by omega), if_pos (by omega), if_pos (by rw [List.length_map]; omega), hrd, hcl]
        simp only [Option.bind_some]
        rw [if_pos hok, if_pos (by omega), show wrap64 ((i : Int) + 1) = ((i + 1 : Nat) : Int) by unfold wrap64; omega]
      · have h := ih (i + 1) (acc ++ (clauseOf L[i]).1) (by omega) (by omega) hn (by rw [List.length_append]; omega)
        have e : parseAns acc (joinAll (L.drop i)) = parseAns (acc ++ (clauseOf L[i]).1) (joinAll (L.drop (i + 1))) := by
          rw [hdr]
          simp only [joinAll, if_pos hok]
          cases joinAll (L.drop (i + 1)) with
          | none => rfl
          | some r => simp [parseAns]
        rw [e]
        exact h
    · refine Ev.step (f := fun _ => some ([], 5)) (fun k => ?_) ?_
      · simp only [modes_Parse.l1]
        rw [if_pos (by omega), if_pos (by omega), if_pos (by rw [List.length_map]; omega), hrd, hcl]
        simp only [Option.bind_some]
        rw [if_neg hok]
      · rw [hdr]
        simp only [joinAll, if_neg hok]
        exact Ev.now _

theorem splitC_count (c : UInt8) : ∀ l : List UInt8, (splitC c l).length ≤ l.length + 1
  | [] => by simp [splitC]
  | a :: l => by
    have ih := splitC_count c l
    simp only [splitC]
    split
    · simp only [List.length_cons]; omega
    · split
      · simp
      · rename_i p ps h
        rw [h] at ih
        simp only [List.length_cons] at ih ⊢
        omega

def octAns (n : Int) : List S35 := [⟨4, 61, Go.bits .and .i64 (shr .i64 n 6) 7, 0, false⟩, ⟨2, 61, Go.bits .and .i64 (shr .i64 n 3) 7, 0, false⟩, ⟨1, 61, Go.bits .and .i64 (shr .i64 n 0) 7, 0, false⟩]
theorem l0_ev (n : Int) : Ev (fun k => modes_Parse.l0 k [] n 0) (octAns n, 0) := by
  refine Ev.of (fun k => (modes_Parse.mono_l k).1 [] n 0) (k := 4) ?_
  have s0 : shr .i64 4 0 = 4 := by decide +kernel
  have s1 : shr .i64 4 1 = 2 := by decide +kernel
  have s2 : shr .i64 4 2 = 1 := by decide +kernel
  simp [modes_Parse.l0, octAns, wrap64, s0, s1, s2]
def readOf (a0 : ByteArray) : Int × Bool := if a0.size = 0 ∨ a0.size > 4 ∨ isOct a0 = false then (0, false) else match octGo a0.data.toList 0 with | some n => ((n : Int), true) | none => (0, false)
theorem read_val (a0 : ByteArray) (h : a0.size ≤ 4096) : modes_Read.f a0 = some (readOf a0) := by
  unfold modes_Read.f
  rw [if_pos (by omega)]
  rfl
def parseOf (a0 : ByteArray) : List S35 × Int := if (readOf a0).2 = true then (octAns (readOf a0).1, 0) else parseAns [] (joinAll (splitC 44 a0.data.toList))
theorem parse_ev (a0 : ByteArray) (h : a0.size ≤ 4096) : Ev (fun k => modes_Parse.f k a0) (parseOf a0) := by
  unfold modes_Parse.f parseOf
  have e4 : ¬ (a0.size : Int) > 4096 := by omega
  simp only [if_neg e4, read_val a0 h, Option.bind_some]
  by_cases ho : (readOf a0).2 = true
  · rw [if_pos ho]
    simp only [if_pos ho]
    exact l0_ev _
  · simp only [if_neg ho]
    have hs : strings_Split.f a0 (⟨#[44]⟩ : ByteArray) = some ((splitC 44 a0.data.toList).map mkB) := by
      show (if a0.size ≤ 4000000000 then some _ else none) = _
      rw [if_pos (by omega)]
      rfl
    rw [hs]
    simp only [Option.bind_some]
    have e : a0.data.toList.length = a0.size := by simp
    have hf := splitC_flat 44 a0.data.toList
    have hn := splitC_count 44 a0.data.toList
    have hl := l1_ev (splitC 44 a0.data.toList) (by omega) _ 0 [] rfl (Nat.zero_le _) (by omega) (by rw [List.drop_zero]; simp only [List.length_nil]; omega)
    rw [List.drop_zero] at hl
    rw [List.length_map]
    exact hl
end Go.Proofs.YtajnkflopndejaaDoor.L
