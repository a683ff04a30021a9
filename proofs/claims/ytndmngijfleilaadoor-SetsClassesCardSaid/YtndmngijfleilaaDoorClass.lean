/- reader.class: the walk. -/
import Derived.Shelf.Strings.SlTrimAscii
import Derived.Lib.SlTrimSet
import Derived.Lib.CutLaws
import Derived.Test.YtndmngijfleilaaDoorUint
import Derived.Test.YtndmngijfleilaaDoorOf
namespace Go.Proofs.YtndmngijfleilaaDoor.L
open Go.RowKit Go.Shelf Go.Proofs.YtndmngijfleilaaDoorW.PrintWords

theorem dropWhile_nil (p : UInt8 → Bool) : ∀ l : List UInt8, l.dropWhile p = [] ↔ ∀ x ∈ l, p x = true
  | [] => by simp
  | a :: l => by
    rw [List.dropWhile_cons]
    by_cases h : p a = true
    · rw [if_pos h, dropWhile_nil p l]
      simp [h]
    · rw [if_neg h]
      simp [h]
theorem trim_empty (l cs : List UInt8) : Lib.trimS l cs = [] ↔ ∀ b ∈ l, cs.contains b = true := by
  constructor
  · intro h b hb
    have h1 : ∀ x ∈ Lib.trimRightS l cs, cs.contains x = true := by
      have h2 : (Lib.trimRightS l cs).dropWhile (fun x => cs.contains x) = [] := h
      intro x hx
      rw [dropWhile_nil] at h2
      exact h2 x hx
    have h3 : l.reverse.dropWhile (fun x => cs.contains x) = [] := by
      cases hd : l.reverse.dropWhile (fun x => cs.contains x) with
      | nil => rfl
      | cons y ys =>
        have h4 : cs.contains y = true := h1 y (by
          show y ∈ (l.reverse.dropWhile (fun x => cs.contains x)).reverse
          rw [hd]
          simp)
        have h5 := List.head?_dropWhile_not (fun x => cs.contains x) l.reverse
        rw [hd] at h5
        simp at h5
        rw [List.contains_iff_mem] at h4
        exact absurd h4 h5
    rw [dropWhile_nil] at h3
    exact h3 b (by simpa using hb)
  · intro h
    have h1 : Lib.trimRightS l cs = [] := by
      show (l.reverse.dropWhile (fun x => cs.contains x)).reverse = []
      rw [List.reverse_eq_nil_iff, dropWhile_nil]
      intro x hx
      exact h x (by simpa using hx)
    show Lib.trimLeftS (Lib.trimRightS l cs) cs = []
    rw [h1]
    rfl
def lowSet : ByteArray := ⟨#[97, 98, 99, 100, 101, 102, 103, 104, 105, 106, 107, 108, 109, 110, 111, 112, 113, 114, 115, 116, 117, 118, 119, 120, 121, 122]⟩
def allLow (l : List UInt8) : Bool := l.all fun c => lowSet.data.toList.contains c
theorem allLow_iff (l : List UInt8) : (Lib.trimS l lowSet.data.toList).isEmpty = allLow l := by
  have h := trim_empty l lowSet.data.toList
  cases ha : allLow l with
  | true =>
    rw [h.2 (fun b hb => List.all_eq_true.1 ha b hb)]
    rfl
  | false =>
    cases he : Lib.trimS l lowSet.data.toList with
    | nil =>
      have : allLow l = true := List.all_eq_true.2 (fun b hb => h.1 he b hb)
      rw [ha] at this
      cases this
    | cons a as_ => rfl
theorem trim_low (s : ByteArray) (w : World) (hs : s.size ≤ 9223372036854775807) :
    Calls Tryd.prog 33 #[.string s, .string lowSet] w fun e w' => e = .returned (.string ⟨(Lib.trimS s.data.toList lowSet.data.toList).toArray⟩) ∧ Below w.heap.size w w' :=
  Any.strings_Trim_laid Tryd.lays160 (by kernel_rfl) s lowSet w hs (by decide) (fun j b hb => by
    have h : ∀ x ∈ lowSet.data.toList, x.toNat < 128 := by decide
    exact h b (List.mem_of_getElem? hb))

theorem cut_le (l sep : List UInt8) : (Lib.cut l sep).1.length ≤ l.length := by
  unfold Lib.cut
  split
  · simp only [List.length_take]; omega
  · exact Nat.le_refl _
/-- The name of a class that stands there. -/
def classOf (l : List UInt8) : List UInt8 × Bool :=
  if Lib.hasPrefix l [91, 58] = true then ((Lib.cut (Lib.trimPrefix l [91, 58]) [58, 93]).1, (Lib.cut (Lib.trimPrefix l [91, 58]) [58, 93]).2.2 && allLow (Lib.cut (Lib.trimPrefix l [91, 58]) [58, 93]).1) else ([], false)

set_option maxHeartbeats 8000000 in
set_option maxRecDepth 100000 in
theorem class_walk (s : ByteArray) (hs : s.size ≤ 4000000000) (w : World) (G : Glob w) :
    Calls Tryd.prog 26 #[.agg #[.string s]] w fun e w' => e = .returned (.tuple #[.string ⟨(classOf s.data.toList).1.toArray⟩, .bool (classOf s.data.toList).2]) ∧ Below w.heap.size w w' := by
  have hcp := fun W => Tryd.strings_CutPrefix s ⟨#[91, 58]⟩ W
  have ebx : (⟨#[91, 58]⟩ : ByteArray).data.toList = [91, 58] := rfl
  have eby : (⟨#[58, 93]⟩ : ByteArray).data.toList = [58, 93] := rfl
  rw [ebx] at hcp
  obtain ⟨bare, hbare⟩ : ∃ b : ByteArray, (⟨(Lib.trimPrefix s.data.toList [91, 58]).toArray⟩ : ByteArray) = b := ⟨_, rfl⟩
  have hbd : bare.data.toList = Lib.trimPrefix s.data.toList [91, 58] := by rw [← hbare]
  have hbs : bare.size ≤ s.size := by
    have h1 : (Lib.trimPrefix s.data.toList [91, 58]).length ≤ s.data.toList.length := by
      unfold Lib.trimPrefix
      split
      · rw [List.length_drop]; omega
      · exact Nat.le_refl _
    rw [← hbd, data_length, data_length] at h1
    exact h1
  rw [hbare] at hcp
  cases hp : Lib.hasPrefix s.data.toList [91, 58] with
  | false =>
    have hR : classOf s.data.toList = ([], false) := by unfold classOf; rw [if_neg (by rw [hp]; simp)]
    rw [hR]
    rw [hp] at hcp
    have HCP := Lib.hid hcp
    clear hbare hbd hbs hp hR hcp ebx eby
    go_enter Tryd.func26, Tryd.ntmps26
    go_wp2_with (go_at_call 31; refine (HCP.out _).mono ?_; rintro e w' ⟨rfl, rfl⟩)
    go_ret2
    exact ⟨rfl, (Below.refl _ w).alloc (Nat.le_refl _) _⟩
  | true =>
    have hR : classOf s.data.toList = ((Lib.cut bare.data.toList [58, 93]).1, (Lib.cut bare.data.toList [58, 93]).2.2 && allLow (Lib.cut bare.data.toList [58, 93]).1) := by unfold classOf; rw [if_pos hp, hbd]
    rw [hp] at hcp
    have hcut := fun W m hm => Tryd.strings_Cut bare ⟨#[58, 93]⟩ m W (by omega) hm
    rw [eby] at hcut
    obtain ⟨C, hC⟩ : ∃ C, Lib.cut bare.data.toList [58, 93] = C := ⟨_, rfl⟩
    have hlen : C.1.length ≤ bare.data.toList.length := by rw [← hC]; exact cut_le _ _
    rw [hC] at hcut hR
    rw [hR]
    obtain ⟨nm, rst, fnd⟩ := C
    have hT := fun W => trim_low ⟨nm.toArray⟩ W (by
      rw [data_length] at hlen
      show nm.toArray.size ≤ _
      rw [List.size_toArray]
      have : nm.length ≤ bare.size := hlen
      omega)
    obtain ⟨T, hTT⟩ : ∃ T, Lib.trimS nm lowSet.data.toList = T := ⟨_, rfl⟩
    have hal := allLow_iff nm
    rw [hTT] at hal
    have hT' : ∀ W, Calls Tryd.prog 33 #[.string ⟨nm.toArray⟩, .string lowSet] W fun e w' => e = .returned (.string ⟨T.toArray⟩) ∧ Below W.heap.size W w' := fun W => by
      have h := hT W
      rw [show (⟨nm.toArray⟩ : ByteArray).data.toList = nm from rfl, hTT] at h
      exact h
    have HT := Lib.hid hT'
    have HCP := Lib.hid hcp
    have HCUT := Lib.hid hcut
    have HG := Lib.hid G
    obtain ⟨al, hall⟩ : ∃ al, allLow nm = al := ⟨_, rfl⟩
    rw [hall] at hal
    have HAL := Lib.hid hall
    clear hbare hbd hbs hp hR hcp hcut ebx eby hC hlen hT hT' hTT hall G
    have hG : Glob (w.alloc (.cells #[.string s] 48)) := HG.out.below ((Below.refl _ w).alloc (Nat.le_refl _) _)
    obtain ⟨⟨m, hm⟩, _, _⟩ := hG
    have HM := Lib.hid hm
    clear hm
    cases fnd with
    | false =>
      go_enter Tryd.func26, Tryd.ntmps26
      go_wp2_with (first
        | (go_at_call 31; refine (HCP.out _).mono ?_; rintro e w' ⟨rfl, rfl⟩)
        | (go_at_call 32; refine (HCUT.out _ m HM.out).mono ?_; rintro e w' ⟨rfl, n, rfl⟩))
      go_ret2
      exact ⟨rfl, pw_below_drewN ((Below.refl _ w).alloc (Nat.le_refl _) _) n⟩
    | true =>
      go_enter Tryd.func26, Tryd.ntmps26
      go_wp2_with (first
        | (go_at_call 31; refine (HCP.out _).mono ?_; rintro e w' ⟨rfl, rfl⟩)
        | (go_at_call 32; refine (HCUT.out _ m HM.out).mono ?_; rintro e w' ⟨rfl, n, rfl⟩)
        | (go_at_call 33; refine (HT.out _).mono ?_; rintro e w3 ⟨rfl, hb3⟩; have HB3 := Lib.hid hb3; clear hb3))
      go_ret2
      refine ⟨?_, (pw_below_drewN ((Below.refl _ w).alloc (Nat.le_refl _) _) n).trans (HB3.out.mono ?_)⟩
      · rw [show allLow nm = al from HAL.out, ← hal]
        rfl
      · exact (pw_below_drewN ((Below.refl _ w).alloc (Nat.le_refl _) _) n).size
end Go.Proofs.YtndmngijfleilaaDoor.L
