/- strings.Split at one byte. -/
import Derived.Shelf.Strings.SplitCore
import Derived.Lib.SplitLaws
import Derived.Lib.IndexBytes
import Derived.Test.YtajnkflopndejaaDoorShelf
import Derived.Test.YtajnkflopndejaaDoorLx0
namespace Go.Proofs.YtajnkflopndejaaDoor.L
open Go.RowKit Go.Lib Go.Proofs.YtajnkflopndejaaDoorW.PrintWords

/-- The pieces between the bytes c. -/
def splitC (c : UInt8) : List UInt8 → List (List UInt8)
  | [] => [[]]
  | a :: l => if a = c then [] :: splitC c l else match splitC c l with
    | [] => [[a]]
    | p :: ps => (a :: p) :: ps
theorem splitC_eq (c : UInt8) : ∀ l : List UInt8, splitK [c] 0 (count l [c]) l = splitC c l
  | [] => by rw [count_miss (by simp [index])]; rfl
  | b :: l => by
    have ih := splitC_eq c l
    by_cases h : b = c
    · subst h
      have hix : index (b :: l) [b] = ((0 : Nat) : Int) := by rw [index]; simp [List.isPrefixOf]
      rw [count_cons_eq, Nat.add_comm, splitK, hix]
      simp only [splitC, if_true]
      rw [if_neg (by decide)]
      simpa using ih
    · have hp : ([c] : List UInt8).isPrefixOf (b :: l) = false := by simp [List.isPrefixOf, Ne.symm h]
      have hix : index (b :: l) [c] = if index l [c] == -1 then -1 else index l [c] + 1 := by rw [index, hp]; simp
      simp only [splitC, if_neg h]
      rw [count_cons_ne b c l h]
      by_cases hm : index l [c] = -1
      · rw [count_miss hm] at ih ⊢
        rw [splitK] at ih ⊢
        rw [← ih]
      · have hge := index_ge l [c]
        obtain ⟨j, hj⟩ : ∃ j : Nat, index l [c] = j := ⟨(index l [c]).toNat, by omega⟩
        have hix' : index (b :: l) [c] = ((j + 1 : Nat) : Int) := by rw [hix, if_neg (fun e => hm (beq_iff_eq.1 e)), hj]; omega
        have hct := count_hit (sub := [c]) (by simp) hj
        obtain ⟨k, hk⟩ : ∃ k, count l [c] = k + 1 := ⟨count (l.drop (j + [c].length)) [c], by rw [hct]; omega⟩
        rw [hk] at ih ⊢
        rw [splitK, hj, if_neg (by simp)] at ih
        rw [splitK, hix', if_neg (by first | (simp; done) | (simp; omega)), ← ih]
        simp

def strings_Split.f (a0 a1 : ByteArray) : Option (List ByteArray) :=
  match a1.data.toList with
  | [c] => if a0.size ≤ 4000000000 then some ((splitC c a0.data.toList).map fun l => ⟨l.toArray⟩) else none
  | _ => none

theorem info9' : (Tryd.prog.info? 9).map (fun i => (i.zero, i.size, i.bytes)) = some (some (.string ByteArray.empty), 1, 16) := by kernel_rfl
set_option maxHeartbeats 4000000 in
theorem split_walk (s : ByteArray) (c : UInt8) (hs : s.size < 4294967281) (w : World) :
    Calls Tryd.prog 24 #[.string s, .string ⟨#[c]⟩] w fun e w' => ∃ v0_ : Value, e = .returned v0_ ∧ Kd.R Kd.string 9 w' w.heap.size (fun _ => True) v0_ (splitB ⟨#[c]⟩ 0 (countB s ⟨#[c]⟩) s) ∧ Below w.heap.size w w' := by
  have hcl : countB s ⟨#[c]⟩ ≤ s.size := countB_le ⟨#[c]⟩ (Nat.le_refl 1) s.size s (Nat.le_refl _)
  have hgen := Any.strings_genSplit_core Tryd.lays221 info9' s ⟨#[c]⟩ 0 (-1) (countB s ⟨#[c]⟩ + 1) w hs (Nat.le_refl 1) (Nat.zero_le _)
    (fun x cs _ => by
      refine (Tryd.strings_Index_one x c _).mono ?_
      rintro e w' ⟨rfl, rfl⟩
      exact ⟨by rw [show Lib.indexB x ⟨#[c]⟩ = Lib.indexByte x.data.toList c from index_one _ _], rfl⟩)
    (by
      refine (Tryd.strings_Count_one s c _).mono ?_
      rintro e w' ⟨rfl, rfl⟩
      exact ⟨by rw [show Lib.countB s ⟨#[c]⟩ = Lib.countByte s.data.toList c from count_one _ _], rfl⟩)
    (by decide) (by decide) (by rw [if_pos (by decide)]; omega)
  have hall := splitB_all ⟨#[c]⟩ (Nat.le_refl 1) 0 (countB s ⟨#[c]⟩) s rfl
  rw [Nat.add_sub_cancel, hall] at hgen
  obtain ⟨L, hL⟩ : ∃ L, splitB ⟨#[c]⟩ 0 (countB s ⟨#[c]⟩) s = L := ⟨_, rfl⟩
  rw [hL] at hgen hall ⊢
  rw [← hall, cellsOf_full] at hgen
  have hgen' : Calls Tryd.prog 40 #[.string s, .string ⟨#[c]⟩, .int .i64 0, .int .i64 (-1)] w fun e w' => e = .returned (.slice (some ⟨w.heap.size, 0, none⟩) L.length L.length) ∧ w' = w.alloc (.cells (L.map Value.string).toArray 9) := hgen
  have hlen : L.length ≤ maxLen := by unfold maxLen; omega
  have HL := Lib.hid hlen
  clear hgen hall hL hlen hcl
  go_enter Tryd.func24, Tryd.ntmps24
  go_wp2_with (go_at_call 40; refine hgen'.mono ?_; rintro e w' ⟨rfl, rfl⟩)
  go_ret
  refine ⟨_, rfl, ?_, (Below.refl _ w).alloc (Nat.le_refl _) _⟩
  refine Kd.R_of_own (enc := Value.string) (h1 := fun _ => rfl) ?_ (fun _ _ => trivial)
  refine ⟨by simp [encs], .inr ⟨w.heap.size, L.length, (L.map Value.string).toArray, rfl, Nat.le_refl _, heap_alloc_new w _, Nat.le_refl _, HL.out, by simp, by simp [List.take_of_length_le, encs]⟩⟩

theorem mk_data (L : List ByteArray) : L = (L.map (·.data.toList)).map fun l => (⟨l.toArray⟩ : ByteArray) := by
  rw [List.map_map]
  have : ((fun l : List UInt8 => (⟨l.toArray⟩ : ByteArray)) ∘ fun b : ByteArray => b.data.toList) = id := by
    funext b
    simp
  rw [this, List.map_id]
theorem strings_Split.calls (a0 a1 : ByteArray) (r : List ByteArray) (w : World) (h : strings_Split.f a0 a1 = some r) :
    Calls Tryd.prog 24 #[.string a0, .string a1] w fun e w' => ∃ v0_ : Value, e = .returned v0_ ∧ Kd.R Kd.string 9 w' w.heap.size (fun _ => True) v0_ r ∧ Below w.heap.size w w' := by
  obtain ⟨⟨l⟩⟩ := a1
  unfold strings_Split.f at h
  match l, h with
  | [c], h =>
    by_cases hs : a0.size ≤ 4000000000
    · simp only [if_pos hs, Option.some.injEq] at h
      have hw := split_walk a0 c (by omega) w
      rw [mk_data (splitB ⟨#[c]⟩ 0 (countB a0 ⟨#[c]⟩) a0), splitB_data] at hw
      have e : splitK [c] 0 (countB a0 ⟨#[c]⟩) a0.data.toList = splitC c a0.data.toList := splitC_eq c _
      rw [show (⟨#[c]⟩ : ByteArray).data.toList = [c] from rfl, e, h] at hw
      exact hw
    · simp only [if_neg hs] at h
      cases h
end Go.Proofs.YtajnkflopndejaaDoor.L
