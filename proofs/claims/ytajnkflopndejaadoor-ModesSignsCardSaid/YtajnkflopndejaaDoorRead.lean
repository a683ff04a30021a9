/- modes.Read: the walk. -/
import Derived.Shelf.Strings.SlTrimAscii
import Derived.Lib.SlTrimSet
import Derived.Lib.AtoiErrMem
import Derived.Test.YtajnkflopndejaaDoorUint
namespace Go.Proofs.YtajnkflopndejaaDoor.L
open Go.RowKit Go.Shelf Go.Proofs.YtajnkflopndejaaDoorW.PrintWords

/-- What the walks ask of the library's variables. -/
structure Glob (w : World) : Prop where
  err : ∃ ev, w.cell? ⟨2, 0, none⟩ = some ev ∧ (ev = .nilIface ∨ ∃ te pe, ev = .iface te pe)
  tab : w.cell? ⟨7, 7, none⟩ = some (.int .u8 3)
theorem Glob.below {w w' : World} (h : Glob w) (hb : Below w.heap.size w w') : Glob w' := by
  obtain ⟨⟨ev, h1, h2⟩, h3⟩ := h
  exact ⟨⟨ev, (hb.cell (World.block_lt_of_cell? w _ h1)).trans h1, h2⟩, (hb.cell (World.block_lt_of_cell? w _ h3)).trans h3⟩

def uintPost (o : Option Nat) (e : Ending) : Prop := match o with
  | some n => e = .returned (.tuple #[.int .u64 (n : Int), .nilIface])
  | none => ∃ v, e = .returned (.tuple #[.int .u64 511, .iface 88 v])
set_option maxHeartbeats 8000000 in
set_option maxRecDepth 100000 in
theorem parseUint8 (t : ByteArray) (hne : t.size ≠ 0) (hmax : t.size ≤ 4) (hoct : ∀ c ∈ t.data.toList, 48 ≤ c.toNat ∧ c.toNat ≤ 55) (w : World) (G : Glob w) :
    Calls Tryd.prog 20 #[.string t, .int .i64 8, .int .i64 9] w fun e w' => uintPost (octGo t.data.toList 0) e ∧ Below w.heap.size w w' := by
  have hb := Lib.bytesWorld_below w 5 t
  have G1 := G.below hb
  obtain ⟨⟨ev, h1, h2⟩, _⟩ := G1
  cases ho : octGo t.data.toList 0 with
  | some n =>
    go_enter Tryd.func20, Tryd.ntmps20
    go_wp2_with (go_at_call 34; refine (parse8 t hne hmax hoct w).mono ?_; rw [ho]; rintro e w' ⟨rfl, rfl⟩; dsimp only [octTuple])
    go_ret2
    exact ⟨rfl, hb⟩
  | none =>
    go_enter Tryd.func20, Tryd.ntmps20
    go_wp2_with (first
      | (go_at_call 34; refine (parse8 t hne hmax hoct w).mono ?_; rw [ho]; rintro e w' ⟨rfl, rfl⟩; dsimp only [octTuple])
      | (go_at_call 35; refine (Tryd.strconv_toError_range _ t 8 9 ev _ (by omega) h1 h2).mono ?_; rintro e w' ⟨N, rfl, _, _, hb2⟩))
    go_ret2
    exact ⟨⟨_, rfl⟩, hb.trans (hb2.mono hb.size)⟩

/-! ### Trim by a set -/
theorem dropWhile_nil (p : UInt8 → Bool) : ∀ l : List UInt8, l.dropWhile p = [] ↔ ∀ x ∈ l, p x = true
  | [] => by simp
  | a :: l => by
    rw [List.dropWhile_cons]
    by_cases h : p a = true
    · rw [if_pos h, dropWhile_nil p l]
      simp [h]
    · rw [if_neg h]
      simp [h]
theorem trim_empty (l cs : List UInt8) : Lib.trimS l cs = [] ↔ ∀ b ∈ l, cs.contains b = true := by
  constructor
  · intro h b hb
    have h1 : ∀ x ∈ Lib.trimRightS l cs, cs.contains x = true := by
      have h2 : (Lib.trimRightS l cs).dropWhile (fun x => cs.contains x) = [] := h
      intro x hx
      rw [dropWhile_nil] at h2
      exact h2 x hx
    have h3 : l.reverse.dropWhile (fun x => cs.contains x) = [] := by
      cases hd : l.reverse.dropWhile (fun x => cs.contains x) with
      | nil => rfl
      | cons y ys =>
        have h4 : cs.contains y = true := h1 y (by
          show y ∈ (l.reverse.dropWhile (fun x => cs.contains x)).reverse
          rw [hd]
          simp)
        have h5 := List.head?_dropWhile_not (fun x => cs.contains x) l.reverse
        rw [hd] at h5
        simp at h5
        rw [List.contains_iff_mem] at h4
        exact absurd h4 h5
    rw [dropWhile_nil] at h3
    exact h3 b (by simpa using hb)
  · intro h
    have h1 : Lib.trimRightS l cs = [] := by
      show (l.reverse.dropWhile (fun x => cs.contains x)).reverse = []
      rw [List.reverse_eq_nil_iff, dropWhile_nil]
      intro x hx
      exact h x (by simpa using hx)
    show Lib.trimLeftS (Lib.trimRightS l cs) cs = []
    rw [h1]
    rfl

def octSet : ByteArray := ⟨#[48, 49, 50, 51, 52, 53, 54, 55]⟩
def isOct (s : ByteArray) : Bool := s.data.toList.all fun c => decide (48 ≤ c.toNat ∧ c.toNat ≤ 55)
theorem octSet_iff (c : UInt8) : octSet.data.toList.contains c = decide (48 ≤ c.toNat ∧ c.toNat ≤ 55) := by
  revert c
  have : ∀ n : Fin 256, octSet.data.toList.contains (UInt8.ofNat n.1) = decide (48 ≤ (UInt8.ofNat n.1).toNat ∧ (UInt8.ofNat n.1).toNat ≤ 55) := by decide +kernel
  intro c
  have h := this ⟨c.toNat, c.toNat_lt⟩
  simpa using h

theorem isOct_of {s : ByteArray} (h : ∀ b ∈ s.data.toList, octSet.data.toList.contains b = true) : isOct s = true :=
  List.all_eq_true.2 fun b hb => by rw [← octSet_iff]; exact h b hb
theorem octGo_le : ∀ (l : List UInt8) (n m : Nat), n ≤ 511 → octGo l n = some m → m ≤ 511
  | [], n, m, hn, h => by simp only [octGo, Option.some.injEq] at h; omega
  | c :: cs, n, m, hn, h => by
    simp only [octGo] at h
    by_cases hc : n * 8 + (c.toNat - 48) > 511
    · rw [if_pos hc] at h; cases h
    · rw [if_neg hc] at h
      exact octGo_le cs _ m (by omega) h

def modes_Read.f (a0 : ByteArray) : Option (Int × Bool) :=
  if a0.size ≤ 9223372036854775807 then
    some (if a0.size = 0 ∨ a0.size > 4 ∨ isOct a0 = false then (0, false) else match octGo a0.data.toList 0 with | some n => ((n : Int), true) | none => (0, false))
  else none

theorem trim_oct (a0 : ByteArray) (w : World) (hs : a0.size ≤ 9223372036854775807) :
    Calls Tryd.prog 19 #[.string a0, .string octSet] w fun e w' => e = .returned (.string ⟨(Lib.trimS a0.data.toList octSet.data.toList).toArray⟩) ∧ Below w.heap.size w w' :=
  Any.strings_Trim_laid Tryd.lays160 (by kernel_rfl) a0 octSet w hs (by decide) (fun j b hb => by
    have h : ∀ x ∈ octSet.data.toList, x.toNat < 128 := by decide
    exact h b (List.mem_of_getElem? hb))

set_option maxHeartbeats 8000000 in
set_option maxRecDepth 100000 in
theorem modes_Read.calls (a0 : ByteArray) (r1 : Int) (r2 : Bool) (w : World) (h : modes_Read.f a0 = some (r1, r2)) (G : Glob w) :
    Calls Tryd.prog 10 #[.string a0] w fun e w' => e = .returned (.tuple #[.int .i64 r1, .bool r2]) ∧ Below w.heap.size w w' := by
  unfold modes_Read.f at h
  by_cases hs : a0.size ≤ 9223372036854775807
  · rw [if_pos hs] at h
    have h := Option.some.inj h
    by_cases h0 : a0.size = 0
    · obtain rfl : a0 = ⟨#[]⟩ := by
        apply ByteArray.ext
        exact Array.eq_empty_of_size_eq_zero h0
      rw [if_pos (.inl rfl)] at h
      cases h
      go_enter Tryd.func10, Tryd.ntmps10
      go_wp2
      go_ret2
      exact ⟨rfl, Below.refl _ _⟩
    · have hemp : a0.toList.isEmpty = false := by
        rw [← decide_eq_emptyBytes]
        exact decide_eq_false (fun h => h0 (by rw [h]; rfl))
      by_cases h4 : a0.size > 4
      · rw [if_pos (.inr (.inl h4))] at h
        cases h
        have h4' : (4 : Int) < (a0.size : Int) := by omega
        go_enter Tryd.func10, Tryd.ntmps10
        go_wp2
        go_ret2
        exact ⟨rfl, Below.refl _ _⟩
      · have h4' : ¬ (4 : Int) < (a0.size : Int) := by omega
        have hT := trim_empty a0.data.toList octSet.data.toList
        have hcall := trim_oct a0 w hs
        obtain ⟨tr, htr⟩ : ∃ tr, Lib.trimS a0.data.toList octSet.data.toList = tr := ⟨_, rfl⟩
        rw [htr] at hT hcall
        by_cases ho : isOct a0 = false
        · rw [if_pos (.inr (.inr ho))] at h
          cases h
          have hte : tr.isEmpty = false := by
            cases htr : tr with
            | cons x xs => rfl
            | nil =>
              exfalso
              rw [isOct_of (hT.1 htr)] at ho
              cases ho
          clear hT
          go_enter Tryd.func10, Tryd.ntmps10
          go_wp2_with (go_at_call 19; refine hcall.mono ?_; rintro e w' ⟨rfl, hb⟩)
          go_ret2
          exact ⟨rfl, hb⟩
        · have ho' : isOct a0 = true := by simpa using ho
          have hoct : ∀ c ∈ a0.data.toList, 48 ≤ c.toNat ∧ c.toNat ≤ 55 := fun c hc => by
            have := List.all_eq_true.1 ho' c hc
            simpa using this
          have htn : tr = [] := hT.2 (fun b hb => by
            rw [octSet_iff]
            exact decide_eq_true (hoct b hb))
          rw [if_neg (by rintro (h | h | h) <;> contradiction)] at h
          have hp := fun w1 G1 => parseUint8 a0 h0 (by omega) hoct w1 G1
          subst htn
          clear hT htr
          cases hg : octGo a0.data.toList 0 with
          | some n =>
            rw [hg] at h hp
            cases h
            have hn := octGo_le a0.data.toList 0 n (by omega) hg
            go_enter Tryd.func10, Tryd.ntmps10
            go_wp2_with (first
              | (go_at_call 19; refine hcall.mono ?_; rintro e w' ⟨rfl, hb⟩)
              | (go_at_call 20; refine (hp _ (G.below hb)).mono ?_; rintro e w2 ⟨rfl, hb2⟩))
            go_ret2
            exact ⟨rfl, hb.trans (hb2.mono hb.size)⟩
          | none =>
            rw [hg] at h hp
            cases h
            go_enter Tryd.func10, Tryd.ntmps10
            go_wp2_with (first
              | (go_at_call 19; refine hcall.mono ?_; rintro e w' ⟨rfl, hb⟩)
              | (go_at_call 20; refine (hp _ (G.below hb)).mono ?_; rintro e w2 ⟨⟨v, rfl⟩, hb2⟩))
            go_ret2
            exact ⟨rfl, hb.trans (hb2.mono hb.size)⟩
  · rw [if_neg hs] at h
    cases h

end Go.Proofs.YtajnkflopndejaaDoor.L
