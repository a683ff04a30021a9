/- The plain law of SetsSingles. -/
import Derived.Test.YtndmngijfleilaaDoorDropped
import Derived.Test.YtndmngijfleilaaDoorLx9m
namespace Go.Proofs.YtndmngijfleilaaDoor.L
open Go.RowKit Go.Proofs.YtndmngijfleilaaDoorW.PrintWords Go.Proofs.YtndmngijfleilaaDoorW.PrintLast Go.Proofs.YtndmngijfleilaaDoorW.PrintMore

/-- The four bytes that tell one byte in octal. -/
def octL (v : Nat) : List UInt8 := [92, UInt8.ofNat (48 + v / 64), UInt8.ofNat (48 + v / 8 % 8), UInt8.ofNat (48 + v % 8)]
def octs : List Int → List UInt8
  | [] => []
  | v :: l => octL v.toNat ++ octs l
theorem octs_append (l m : List Int) : octs (l ++ m) = octs l ++ octs m := by
  induction l with
  | nil => rfl
  | cons v l ih =>
    show octL v.toNat ++ octs (l ++ m) = (octL v.toNat ++ octs l) ++ octs m
    rw [ih, List.append_assoc]
theorem octs_len (l : List Int) : (octs l).length = 4 * l.length := by
  induction l with
  | nil => rfl
  | cons v l ih =>
    show (octL v.toNat ++ octs l).length = _
    rw [List.length_append, ih]
    simp [octL]
    omega
theorem octal_val (v : Int) (h : 0 ≤ v ∧ v ≤ 255) : ∃ t : ByteArray, toolchestlaw04_octal.f v = some t ∧ t.data.toList = octL v.toNat := by
  have key : ∀ x : Fin 256, (strOfNums (([92, (48 + ((Int.tdiv (x.1 : Int) 64) % 256)) % 256, 48 + (((Int.tdiv (x.1 : Int) 8) % 256) % 8), (48 + (Int.tmod (x.1 : Int) 8)) % 256] : List Int))).data.toList = octL x.1 := by decide +kernel
  have k := key ⟨v.toNat, by omega⟩
  simp only [show ((v.toNat : Nat) : Int) = v by omega] at k
  exact ⟨_, rfl, k⟩
theorem single_oct (v : Nat) (hv : v < 256) (rest : List UInt8) : singleOf (octL v ++ rest) = ((v : Int), true, rest) := by
  have key : ∀ x : Fin 256, octN 3 (octL x.1).tail = 3 ∧ octGo (octL x.1).tail 0 = some x.1 ∧ (48 ≤ (UInt8.ofNat (48 + x.1 / 64)).toNat ∧ (UInt8.ofNat (48 + x.1 / 64)).toNat ≤ 55) ∧ (48 ≤ (UInt8.ofNat (48 + x.1 / 8 % 8)).toNat ∧ (UInt8.ofNat (48 + x.1 / 8 % 8)).toNat ≤ 55) ∧ (48 ≤ (UInt8.ofNat (48 + x.1 % 8)).toNat ∧ (UInt8.ofNat (48 + x.1 % 8)).toNat ≤ 55) := by decide +kernel
  obtain ⟨_, k2, k3, k4, k5⟩ := key ⟨v, hv⟩
  have e : octN 3 (UInt8.ofNat (48 + v / 64) :: UInt8.ofNat (48 + v / 8 % 8) :: UInt8.ofNat (48 + v % 8) :: rest) = 3 := by
    simp only [octN]
    rw [if_pos k3, if_pos k4, if_pos k5]
  have k2' : octGo [UInt8.ofNat (48 + v / 64), UInt8.ofNat (48 + v / 8 % 8), UInt8.ofNat (48 + v % 8)] 0 = some v := k2
  show singleOf (92 :: UInt8.ofNat (48 + v / 64) :: UInt8.ofNat (48 + v / 8 % 8) :: UInt8.ofNat (48 + v % 8) :: rest) = _
  simp only [singleOf]
  rw [if_pos (by rfl), e, if_pos (by omega)]
  show (match octGo [UInt8.ofNat (48 + v / 64), UInt8.ofNat (48 + v / 8 % 8), UInt8.ofNat (48 + v % 8)] 0 with
    | some v => ((v : Int), true, rest)
    | none => (255, false, rest)) = _
  rw [k2']
theorem class_no (r : List UInt8) : (classOf (92 :: r)).2 = false := by
  unfold classOf
  rw [if_neg (by
    have : Lib.hasPrefix (92 :: r) [91, 58] = false := by cases r <;> rfl
    rw [this]
    simp)]
theorem thing_one (v : Int) (h : 0 ≤ v ∧ v ≤ 255) (l : List Int) : thingOf (octL v.toNat ++ octs l) = ⟨v, v, none, true, octs l⟩ := by
  have h1 := single_oct v.toNat (by omega) (octs l)
  rw [show ((v.toNat : Nat) : Int) = v by omega] at h1
  have h2 : (classOf (octL v.toNat ++ octs l)).2 = false := class_no _
  unfold thingOf
  rw [h2, h1, if_neg (by simp), if_neg (by simp)]
  cases l with
  | nil => rfl
  | cons b l => rfl
theorem thing_two (a b : Int) (ha : 0 ≤ a ∧ a ≤ 255) (hb : 0 ≤ b ∧ b ≤ 255) : thingOf (octL a.toNat ++ 45 :: octL b.toNat) = ⟨a, b, none, decide (a ≤ b), []⟩ := by
  have h1 := single_oct a.toNat (by omega) (45 :: octL b.toNat)
  rw [show ((a.toNat : Nat) : Int) = a by omega] at h1
  have h2 : (classOf (octL a.toNat ++ 45 :: octL b.toNat)).2 = false := class_no _
  have h3 := single_oct b.toNat (by omega) []
  rw [show ((b.toNat : Nat) : Int) = b by omega, List.append_nil] at h3
  unfold thingOf
  rw [h2, h1, if_neg (by simp), if_neg (by simp)]
  have h4 : (classOf (octL b.toNat)).2 = false := class_no _
  show (if (45 : UInt8).toNat = 45 then (if (classOf (octL b.toNat)).2 = true then _ else (⟨a, (singleOf (octL b.toNat)).1, none, (singleOf (octL b.toNat)).2.1 && decide (a ≤ (singleOf (octL b.toNat)).1), (singleOf (octL b.toNat)).2.2⟩ : Th)) else _) = _
  rw [if_pos (by rfl), h4, if_neg (by simp), h3]
  rfl
theorem parse_octs : ∀ (l : List Int) (n : Nat), (∀ x ∈ l, 0 ≤ x ∧ x ≤ 255) → l.length < n → parseAll n (octs l) = some l
  | [], n + 1, _, _ => rfl
  | v :: l, n + 1, h, hn => by
    have hv := h v (by simp)
    have t := thing_one v hv l
    show parseAll (n + 1) (92 :: _) = _
    simp only [parseAll]
    change (if (thingOf (octL v.toNat ++ octs l)).ok = true then (parseAll n (thingOf (octL v.toNat ++ octs l)).rest).map fun r => told (thingOf (octL v.toNat ++ octs l)) ++ r else none) = _
    rw [t, if_pos rfl]
    show (parseAll n (octs l)).map _ = _
    rw [parse_octs l n (fun x hx => h x (by simp [hx])) (by simpa using hn)]
    have : told ⟨v, v, none, true, octs l⟩ = [v] := by
      show toldN none (v + 1 - v).toNat v = _
      rw [show (v + 1 - v).toNat = 1 by omega]
      rfl
    rw [this]
    rfl
  | [], 0, _, hn => by simp at hn
  | _ :: _, 0, _, hn => by simp at hn
theorem parse_one (l : List Int) (h : ∀ x ∈ l, 0 ≤ x ∧ x ≤ 255) (hl : l.length ≤ 3000) : parseOf (octs l) = (l, 0) := by
  unfold parseOf
  rw [parse_octs l _ h (by rw [octs_len]; omega)]
  unfold parseAns
  show (if l.length > 65536 then _ else _) = _
  rw [if_neg (by omega)]
theorem parse_two (a b : Int) (ha : 0 ≤ a ∧ a ≤ 255) (hb : 0 ≤ b ∧ b ≤ 255) : parseOf (octL a.toNat ++ 45 :: octL b.toNat) = if b < a then ([], 5) else (toldN none (b + 1 - a).toNat a, 0) := by
  have t := thing_two a b ha hb
  unfold parseOf
  have e : parseAll ((octL a.toNat ++ 45 :: octL b.toNat).length + 1) (octL a.toNat ++ 45 :: octL b.toNat) = if b < a then none else some (toldN none (b + 1 - a).toNat a) := by
    show parseAll (9 + 1) (92 :: _) = _
    simp only [parseAll]
    change (if (thingOf (octL a.toNat ++ 45 :: octL b.toNat)).ok = true then (parseAll 9 (thingOf (octL a.toNat ++ 45 :: octL b.toNat)).rest).map fun r => told (thingOf (octL a.toNat ++ 45 :: octL b.toNat)) ++ r else none) = _
    rw [t]
    show (if decide (a ≤ b) = true then (some []).map (fun r => toldN none (b + 1 - a).toNat a ++ r) else none) = _
    by_cases h : b < a
    · rw [if_pos h, if_neg (by simp; omega)]
    · rw [if_neg h, if_pos (by simp; omega)]
      simp
  rw [e]
  by_cases h : b < a
  · rw [if_pos h, if_pos h]
    rfl
  · rw [if_neg h, if_neg h]
    have := toldN_len none (b + 1 - a).toNat a
    unfold parseAns
    show (if (toldN none (b + 1 - a).toNat a).length > 65536 then _ else _) = _
    rw [if_neg (by omega)]
theorem told_all : ∀ (n : Nat) (a : Int), (toldN none n a).length = n
  | 0, _ => rfl
  | n + 1, a => by
    simp only [toldN, pOf]
    rw [if_pos trivial, List.length_cons, told_all n]
theorem told_rd : ∀ (n : Nat) (a : Int) (i : Nat), i < n → rd (toldN none n a) (i : Int) = a + i
  | 0, _, i, h => by omega
  | n + 1, a, 0, _ => by
    simp only [toldN, pOf]
    rw [if_pos trivial]
    show a = _
    omega
  | n + 1, a, i + 1, h => by
    simp only [toldN, pOf]
    rw [if_pos trivial]
    have := told_rd n (a + 1) i (by omega)
    have e : rd (a :: toldN none n (a + 1)) ((i + 1 : Nat) : Int) = rd (toldN none n (a + 1)) (i : Int) := by
      unfold rd
      rw [Int.toNat_natCast, Int.toNat_natCast]
      rfl
    rw [e, this]
    omega
theorem same_loop (l : List Int) (hl : l.length ≤ 140737488351232) (d : Nat) : ∀ i : Nat, l.length - i = d → Ev (fun k => toolchestlaw01_SameBytes.l0 k l l (i : Int)) true := by
  induction d with
  | zero =>
    intro i hd
    refine Ev.step (f := fun _ => some true) (fun k => ?_) (Ev.now true)
    simp only [toolchestlaw01_SameBytes.l0]
    rw [if_neg (by omega)]
  | succ d ih =>
    intro i hd
    refine Ev.step (f := fun k => toolchestlaw01_SameBytes.l0 k l l ((i + 1 : Nat) : Int)) (fun k => ?_) (ih (i + 1) (by omega))
    simp only [toolchestlaw01_SameBytes.l0]
    rw [if_pos (by omega), if_pos (by omega), if_pos (by omega), if_pos trivial, wrap_nat i (by omega)]
theorem same_ev (l : List Int) (hl : l.length ≤ 140737488351232) : Ev (fun k => toolchestlaw01_SameBytes.f k l l) true := by
  refine Ev.congr (f := fun k => toolchestlaw01_SameBytes.l0 k l l ((0 : Nat) : Int)) (fun k => ?_) (same_loop l hl _ 0 rfl)
  unfold toolchestlaw01_SameBytes.f
  rw [if_pos rfl]
  rfl

section
variable {l : List Int} {a b : Int}
theorem rangeLoop (hb : b ≤ 255) (ha : 0 ≤ a) (d : Nat) : ∀ i : Nat, (b + 1 - a).toNat - i = d → Ev (fun k => toolchestlaw04_SetsSingles.l1 k a (toldN none (b + 1 - a).toNat a) (i : Int)) true := by
  induction d with
  | zero =>
    intro i hd
    refine Ev.step (f := fun _ => some true) (fun k => ?_) (Ev.now true)
    simp only [toolchestlaw04_SetsSingles.l1]
    rw [told_all, if_neg (by omega)]
  | succ d ih =>
    intro i hd
    refine Ev.step (f := fun k => toolchestlaw04_SetsSingles.l1 k a (toldN none (b + 1 - a).toNat a) ((i + 1 : Nat) : Int)) (fun k => ?_) (ih (i + 1) (by omega))
    simp only [toolchestlaw04_SetsSingles.l1]
    rw [told_all, if_pos (by omega), if_pos (by omega), told_rd _ _ i (by omega), if_pos (by omega), wrap_nat i (by omega)]
theorem singlesTail (ha : 0 ≤ a ∧ a ≤ 255) (hb : 0 ≤ b ∧ b ≤ 255) : Ev (fun k => toolchestlaw04_SetsSingles.j2 k a b (parseOf (octL a.toNat ++ 45 :: octL b.toNat)).1 (parseOf (octL a.toNat ++ 45 :: octL b.toNat)).2 false) true := by
  rw [parse_two a b ha hb]
  by_cases h : b < a
  · rw [if_pos h]
    refine Ev.step (f := fun _ => some true) (fun k => ?_) (Ev.now true)
    simp only [toolchestlaw04_SetsSingles.j2]
    rw [if_neg (by simp), if_pos h, if_pos trivial]
    rfl
  · rw [if_neg h]
    have w1 : wrap64 (wrap64 (wrap64 b - wrap64 a) + 1) = b + 1 - a := by unfold wrap64; omega
    refine Ev.step (f := fun k => toolchestlaw04_SetsSingles.j3 k a (toldN none (b + 1 - a).toNat a) false) (fun k => ?_) ?_
    · simp only [toolchestlaw04_SetsSingles.j2]
      rw [if_neg (by simp), if_neg h, if_pos trivial, w1, told_all, show (((b + 1 - a).toNat : Nat) : Int) = b + 1 - a by omega, bne_self_eq_false]
    · refine Ev.step (f := fun k => toolchestlaw04_SetsSingles.l1 k a (toldN none (b + 1 - a).toNat a) ((0 : Nat) : Int)) (fun k => ?_) (rangeLoop hb.2 ha.1 _ 0 rfl)
      simp only [toolchestlaw04_SetsSingles.j3]
      rw [if_neg (by simp)]
      rfl
theorem singlesLoop (hl : l.length ≤ 3000) (h : ∀ x ∈ l, 0 ≤ x ∧ x ≤ 255) (ha : 0 ≤ a ∧ a ≤ 255) (hb : 0 ≤ b ∧ b ≤ 255) (d : Nat) :
    ∀ (i : Nat) (t : ByteArray), l.length - i = d → i ≤ l.length → t.data.toList = octs (l.take i) → Ev (fun k => toolchestlaw04_SetsSingles.l0 k l a b t (i : Int)) true := by
  induction d with
  | zero =>
    intro i t hd hi ht
    rw [List.take_of_length_le (by omega)] at ht
    have hts : t.size = 4 * l.length := by rw [← data_length t, ht, octs_len]
    obtain ⟨ta, ea, da⟩ := octal_val a ha
    obtain ⟨tb, eb, db⟩ := octal_val b hb
    have za : ta.size = 4 := by rw [← data_length ta, da]; rfl
    have zb : tb.size = 4 := by rw [← data_length tb, db]; rfl
    have z1 : (ta ++ (⟨#[45]⟩ : ByteArray)).size = 5 := by rw [ByteArray.size_append, za]; rfl
    have z2 : ((ta ++ (⟨#[45]⟩ : ByteArray)) ++ tb).size = 9 := by rw [ByteArray.size_append, z1, zb]
    have dd : ((ta ++ (⟨#[45]⟩ : ByteArray)) ++ tb).data.toList = octL a.toNat ++ 45 :: octL b.toNat := by
      simp only [ByteArray.data_append, Array.toList_append, da, db]
      simp
    have p1 : sets_Parse.f t = some (l, 0) := by
      unfold sets_Parse.f
      rw [if_pos (by omega), ht, parse_one l h hl]
    have p2 : sets_Parse.f ((ta ++ (⟨#[45]⟩ : ByteArray)) ++ tb) = some (parseOf (octL a.toNat ++ 45 :: octL b.toNat)) := by
      unfold sets_Parse.f
      rw [if_pos (by rw [z2]; omega), dd]
    refine Ev.step (f := fun k => (toolchestlaw01_SameBytes.f k l l).bind fun t150 => toolchestlaw04_SetsSingles.j2 k a b (parseOf (octL a.toNat ++ 45 :: octL b.toNat)).1 (parseOf (octL a.toNat ++ 45 :: octL b.toNat)).2 (!t150)) (fun k => ?_) ?_
    · have g1 : ta.size + 1 ≤ 9223372036854775807 := by omega
      have g2 : (ta ++ (⟨#[45]⟩ : ByteArray)).size + tb.size ≤ 9223372036854775807 := by rw [z1, zb]; omega
      simp only [toolchestlaw04_SetsSingles.l0]
      rw [if_neg (by omega), p1]
      simp only [Option.bind_some, ea, eb, if_pos g1, if_pos g2, p2, if_true]
    · refine Ev.bind (same_ev l (by omega)) ?_
      exact singlesTail ha hb
  | succ d ih =>
    intro i t hd hi ht
    have hr : rd l (i : Int) = l[i]'(by omega) := rd_get l i (by omega)
    have hv := h (rd l (i : Int)) (by rw [hr]; exact List.getElem_mem _)
    obtain ⟨o, eo, dO⟩ := octal_val _ hv
    have zo : o.size = 4 := by rw [← data_length o, dO]; rfl
    have hts : t.size = 4 * i := by rw [← data_length t, ht, octs_len, List.length_take]; omega
    refine Ev.step (f := fun k => toolchestlaw04_SetsSingles.l0 k l a b (t ++ o) ((i + 1 : Nat) : Int)) (fun k => ?_) (ih (i + 1) (t ++ o) (by omega) (by omega) ?_)
    · have g1 : t.size + o.size ≤ 9223372036854775807 := by omega
      simp only [toolchestlaw04_SetsSingles.l0]
      rw [if_pos (by omega), if_pos (by omega), eo]
      simp only [Option.bind_some]
      rw [if_pos g1, wrap_nat i (by omega)]
    · rw [rd_take l i (by omega), octs_append, ByteArray.data_append, Array.toList_append, ht, dO]
      simp [octs]
end

theorem setsSingles_pure (l : List Int) (a b : Int) (h : ∀ x ∈ l, 0 ≤ x ∧ x ≤ 255) (ha : 0 ≤ a ∧ a ≤ 255) (hb : 0 ≤ b ∧ b ≤ 255) : ∃ k, toolchestlaw04_SetsSingles.f k l a b = some true := by
  refine Ev.rounds (g := fun k => toolchestlaw04_SetsSingles.f k l a b) ?_
  have hyes : Ev (fun k => toolchestlaw04_SetsSingles.j0 k l a b true) true :=
    Ev.step (f := fun k => some true) (fun k => by simp only [toolchestlaw04_SetsSingles.j0]; rw [if_pos trivial]; rfl) (Ev.now true)
  refine Ev.congr (f := fun k => toolchestlaw04_SetsSingles.j0 k l a b (decide ((l.length : Int) > 3000))) (fun k => by unfold toolchestlaw04_SetsSingles.f toolchestlaw04_alive.f; rfl) ?_
  by_cases h1 : (l.length : Int) > 3000
  · rw [decide_eq_true h1]
    exact hyes
  · rw [decide_eq_false h1]
    refine Ev.step (f := fun k => toolchestlaw04_SetsSingles.l0 k l a b (⟨#[]⟩ : ByteArray) ((0 : Nat) : Int)) (fun k => ?_) (singlesLoop (by omega) h ha hb _ 0 _ rfl (by omega) ?_)
    · simp only [toolchestlaw04_SetsSingles.j0]
      rw [if_neg (by simp)]
      rfl
    · rfl
end Go.Proofs.YtndmngijfleilaaDoor.L
