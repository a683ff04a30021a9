/- modes.letters: the walk. -/
import Derived.Test.YtajnkflopndejaaDoorOps
namespace Go.Proofs.YtajnkflopndejaaDoor.L
open Go.RowKit Go.Maps Go.Proofs.YtajnkflopndejaaDoorW.PrintWords

/-- The bits that the first bytes tell, and how many there are. -/
def letGo (f : Int → Option Int) : List UInt8 → Int → Int × Nat
  | [], s => (s, 0)
  | c :: cs, s => match f c.toNat with
    | none => (s, 0)
    | some b => ((letGo f cs (Go.bits .or .i64 s b)).1, (letGo f cs (Go.bits .or .i64 s b)).2 + 1)
theorem letGo_le (f : Int → Option Int) : ∀ (cs : List UInt8) (s : Int), (letGo f cs s).2 ≤ cs.length
  | [], s => Nat.le_refl _
  | c :: cs, s => by
    simp only [letGo]
    cases f c.toNat with
    | none => exact Nat.zero_le _
    | some b =>
      have := letGo_le f cs (Go.bits .or .i64 s b)
      simp only [List.length_cons]
      omega
theorem zero3 (w : World) : (zeroValue 3).run Tryd.prog w = .ok (.int .i64 (wrap64 0)) w := by kernel_rfl
theorem drop_byte (s : ByteArray) (k : Nat) (h : k < s.size) : s.data.toList.drop k = s[k] :: s.data.toList.drop (k + 1) := by
  have hl : k < s.data.toList.length := by simpa using h
  rw [List.drop_eq_getElem_cons hl]
  rfl

set_option maxHeartbeats 4000000 in
set_option maxRecDepth 100000 in
theorem letters_walk (s : ByteArray) (B n : Nat) (f : Int → Option Int) (hf : ∀ c b, f c = some b → 0 ≤ b ∧ b ≤ 15) (hs : s.size ≤ 140737488351232) (w : World) (hM : KMap vInt w B n f) :
    Calls Tryd.prog 41 #[.string s, .map (some B)] w fun e w' => e = .returned (.tuple #[.int .i64 (letGo f s.data.toList 0).1, .string (s.extract (letGo f s.data.toList 0).2 s.size), .int .i64 ((letGo f s.data.toList 0).2 : Nat)]) ∧ ∃ m, w' = w.drewN m := by
  have HM := Lib.hid hM
  have HF := Lib.hid hf
  clear hM hf
  go_enter Tryd.func41, Tryd.ntmps41
  go_wp2
  go_loop [4, 6] (fun v4 v6 => ∃ (k : Nat) (sum : Int), v4 = .int .i64 sum ∧ v6 = .int .i64 k ∧ k ≤ s.size ∧ Hid (letGo f s.data.toList 0 = ((letGo f (s.data.toList.drop k) sum).1, (letGo f (s.data.toList.drop k) sum).2 + k)))
    (fun _ v6 => s.size - (intOf v6).toNat)
  case atStart => exact ⟨0, 0, rfl, rfl, by omega, Lib.hid rfl⟩
  case round =>
    obtain ⟨k, sum, rfl, rfl, hk, HS⟩ := hrel
    by_cases hlt : k < s.size
    · have hlt' : (k : Int) < (s.size : Int) := by omega
      have hS := HS.out
      rw [drop_byte s k hlt] at hS
      have hb : 0 ≤ ((s[k]'hlt).toNat : Int) ∧ ((s[k]'hlt).toNat : Int) ≤ 255 := by have := (s[k]'hlt).toNat_lt; omega
      have hlk := KMap.look Tryd.underlying74 HM.out (zero3 w) ((s[k]'hlt).toNat : Int) hb.1 hb.2
      cases hfc : f ((s[k]'hlt).toNat : Int) with
      | none =>
        rw [hfc] at hlk
        simp only [letGo, hfc] at hS
        simp only [vInt, Option.getD_none, Option.isSome_none] at hlk
        have HS2 := Lib.hid hS
        clear hS HS
        go_wp2
        go_region
        all_goals
          go_wp2
          go_ret3
          exact ⟨by rw [HS2.out]; simp, 1, rfl⟩
      | some b =>
        rw [hfc] at hlk
        simp only [letGo, hfc] at hS
        simp only [vInt, Option.getD_some, Option.isSome_some] at hlk
        have hbr := HF.out _ _ hfc
        have hwb : wrap64 b = b := by unfold wrap64; omega
        rw [hwb] at hlk
        have HS2 := Lib.hid hS
        clear hS HS
        go_wp2
        exact ⟨⟨k + 1, _, rfl, by simp, by omega, Lib.hid (by rw [HS2.out]; simp only [Prod.mk.injEq, true_and]; omega)⟩, by simp [intOf]; omega⟩
    · obtain rfl : k = s.size := by omega
      have hS := HS.out
      rw [List.drop_eq_nil_of_le (by simp)] at hS
      simp only [letGo] at hS
      have HS2 := Lib.hid hS
      clear hS HS
      go_wp2
      go_region
      all_goals
        go_wp2
        go_ret3
        exact ⟨by rw [HS2.out]; simp, 1, rfl⟩
end Go.Proofs.YtajnkflopndejaaDoor.L
