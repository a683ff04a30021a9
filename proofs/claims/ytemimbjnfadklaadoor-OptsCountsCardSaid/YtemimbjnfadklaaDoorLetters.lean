/- The walk of opts.letters: it tells what the option text tells. -/
import Derived.Test.YtemimbjnfadklaaDoorWordsA
import Derived.Lib.Hide
namespace Go.Proofs.YtemimbjnfadklaaDoor.L
open Go.RowKit Go.Maps

def LettersPost (w : World) (o : Option (Int → Option Bool)) (e : Ending) (w' : World) : Prop :=
  Below w.heap.size w w' ∧ match o with
    | none => e = .returned (.tuple #[.map none, .bool false])
    | some f => ∃ B n, e = .returned (.tuple #[.map (some B), .bool true]) ∧ w.heap.size ≤ B ∧ TMap w' B n f

/-- The bytes of a text lie in block b. -/
def BytesAt (W : World) (b : Nat) (s : ByteArray) : Prop := ∀ j, j < s.size → W.cell? ⟨b, j, none⟩ = some (.int .u8 (s.data.toList.getD j 0).toNat)
theorem BytesAt.kept {W W' : World} {b : Nat} {s : ByteArray} {row : Option Nat} (h : BytesAt W b s) (hb : b < W.heap.size) (hg : W.grownBy W' row) (hne : some b ≠ row) : BytesAt W' b s :=
  fun j hj => (World.cell?_of_block (w := W) (a := ⟨b, j, none⟩) (hg.block b hb hne)).trans (h j hj)

theorem drop_byte (s : ByteArray) (k : Nat) (h : k < s.size) : s.data.toList.drop k = s.data.toList.getD k 0 :: s.data.toList.drop (k + 1) := by
  have hl : k < s.data.toList.length := by simpa using h
  rw [List.drop_eq_getElem_cons hl, List.getD_eq_getElem?_getD, List.getElem?_eq_getElem hl]
  rfl
theorem byte_range (b : UInt8) : 0 ≤ (b.toNat : Int) ∧ (b.toNat : Int) ≤ 255 := by have := b.toNat_lt; omega

set_option maxHeartbeats 4000000 in
set_option maxRecDepth 100000 in
theorem letters_calls (s : ByteArray) (w : World) (hs : s.size ≤ 4000) :
    Calls Tryd.prog 18 #[.string s] w (LettersPost w (lettersOf s)) := by
  have hmm := @run_makeMap Tryd.prog
  have hcv := Lib.run_convert_string_bytes (P := Tryd.prog) (w.alloc (.map #[] 0)) 9 62 5 s (u := .string) Tryd.underlying9 Tryd.underlying62 Tryd.underlying5
  have hsz : (w.alloc (.map #[] 0)).heap.size = w.heap.size + 1 := by simp
  have h0 : TMap (Lib.bytesWorld (w.alloc (.map #[] 0)) 5 s) w.heap.size 0 (fun _ => none) :=
    (TMap.made w).kept (row := none) ⟨rfl, rfl, rfl, by rw [Lib.bytesWorld_size]; omega, fun i hi _ => Lib.bytesWorld_at_old _ _ _ _ hi⟩ (by simp)
  have hB0 : Below w.heap.size w (Lib.bytesWorld (w.alloc (.map #[] 0)) 5 s) :=
    ((Below.refl _ w).alloc (Nat.le_refl _) _).trans ⟨rfl, rfl, rfl, by rw [Lib.bytesWorld_size]; omega, fun i hi => Lib.bytesWorld_at_old _ _ _ _ (by omega)⟩
  have hb0 : BytesAt (Lib.bytesWorld (w.alloc (.map #[] 0)) 5 s) (w.heap.size + 1) s := fun j hj => by
    have := Lib.bytesWorld_cell (w.alloc (.map #[] 0)) 5 s j hj
    rw [hsz] at this
    exact this
  have hz0 : w.heap.size + 2 ≤ (Lib.bytesWorld (w.alloc (.map #[] 0)) 5 s).heap.size := by rw [Lib.bytesWorld_size, hsz]; omega
  have H0 := Lib.hid h0
  have HB0 := Lib.hid hB0
  have Hb0 := Lib.hid hb0
  have Hz0 := Lib.hid hz0
  clear h0 hB0 hb0 hsz hz0
  go_enter Tryd.func18, Tryd.ntmps18
  go_wp2
  clear hmm hcv
  go_loopw [5, 16] (fun v5 v16 wr => ∃ (k n : Nat) (f : Int → Option Bool) (last : Int), k ≤ s.size ∧ v16 = .int .i64 k ∧ v5 = .int .u8 last ∧ 0 ≤ last ∧ last ≤ 255 ∧ n ≤ k ∧
      Hid (lettersGo (s.data.toList.drop k) f last = lettersOf s) ∧ Hid (TMap wr w.heap.size n f) ∧ Hid (Below w.heap.size w wr) ∧ Hid (BytesAt wr (w.heap.size + 1) s) ∧ Hid (w.heap.size + 2 ≤ wr.heap.size)) (fun _ v16 _ => s.size - (intOf v16).toNat)
  case atStart => exact ⟨0, 0, _, 0, Nat.zero_le _, rfl, rfl, by omega, by omega, Nat.le_refl _, rfl, H0, HB0, Hb0, Hz0⟩
  case round =>
    obtain ⟨k, n, f, last, hk, rfl, rfl, hl0, hl1, hn, HG, HT, HB, HC, HZ⟩ := hrel
    clear H0 HB0 Hb0 Hz0
    by_cases hlt : k < s.size
    · have hcell := HC.out k hlt
      have hcr := byte_range (s.data.toList.getD k 0)
      have HG1 : Hid (lettersGo (s.data.toList.getD k 0 :: s.data.toList.drop (k + 1)) f last = lettersOf s) := by rw [← drop_byte s k hlt]; exact HG.out
      obtain ⟨c, hc⟩ : ∃ c : Int, c = ((s.data.toList.getD k 0).toNat : Int) := ⟨_, rfl⟩
      rw [← hc] at hcell hcr
      obtain ⟨hc0, hc1⟩ := hcr
      have hlk1 := HT.out.look last hl0 hl1
      have hlk2 := HT.out.look c hc0 hc1
      have HG2 : Hid ((if c = 58 ∧ f last = some false then lettersGo (s.data.toList.drop (k + 1)) (upd f last true) 0
        else if (f c).isSome = true ∨ okLetter c = false then none else lettersGo (s.data.toList.drop (k + 1)) (upd f c false) c) = lettersOf s) := by
        have := HG1.out
        simp only [lettersGo, ← hc] at this
        exact this
      clear HG HG1 hc
      have hkl : ((k : Int) < (s.size : Int)) := by omega
      obtain ⟨D, hD, hf⟩ := HT.out
      have Hf := Lib.hid hf
      have hnm : n < maxLen := by unfold maxLen; omega
      clear hf
      by_cases hA : c = 58 ∧ f last = some false
      · obtain ⟨rfl, hfl⟩ := hA
        have HG3 : Hid (lettersGo (s.data.toList.drop (k + 1)) (upd f last true) 0 = lettersOf s) := by
          have := HG2.out
          rw [if_pos ⟨rfl, hfl⟩] at this
          exact this
        rw [hfl] at hlk1
        simp only [Option.getD_some, Option.isSome_some] at hlk1
        obtain ⟨b2, hb2⟩ : ∃ b2 : Bool, (f 58).getD false = b2 := ⟨_, rfl⟩
        obtain ⟨b3, hb3⟩ : ∃ b3 : Bool, (f 58).isSome = b3 := ⟨_, rfl⟩
        rw [hb2, hb3] at hlk2
        clear hb2 hb3 hfl HG2
        have hkey : keyOf Tryd.prog 5 (.int .u8 last) = some (.int .u8 last) := keyOf_int_mk Tryd.underlying5 (WalkArith.wf_u8 ⟨hl0, hl1⟩)
        have Hkey := Lib.hid hkey
        clear hkey
        go_wp2_with (first
          | (at_mapUpdate; refine wpList_mapUpdate_own _ rfl _ _ _ 47 rfl 5 4 (Maps.int_keyed Tryd.underlying5) Tryd.underlying47 _ w.heap.size n D rfl hD hnm _ _ _ rfl rfl Hkey.out _ [] (plainElem_bool Tryd.underlying4 _) ?_; intro w1 hown1 hgrow1))
        go_roundw
        case measure => simp [intOf]; omega
        case rel =>
          exact ⟨k + 1, n + 1, _, 0, by omega, by go_num, rfl, by omega, by omega, by omega, HG3, ⟨_, hown1, has_put hD Hf.out last true⟩, HB.out.grown hgrow1 HB.out.size (fun j hj => by cases hj; exact Nat.le_refl _), HC.out.kept (by have := HZ.out; omega) hgrow1 (by simp), Nat.le_trans HZ.out hgrow1.size⟩
      · by_cases hB : (f c).isSome = true ∨ okLetter c = false
        · have HG3 : Hid (lettersOf s = none) := by
            have := HG2.out
            rw [if_neg hA, if_pos hB] at this
            exact this.symm
          have hpost : Hid (LettersPost w (lettersOf s) (.returned (.tuple #[.map none, .bool false])) wr) := by
            have e := HG3.out
            show LettersPost w (lettersOf s) _ wr
            rw [e]
            exact ⟨HB.out, rfl⟩
          clear HG2 HG3 HC HT hD Hf
          obtain ⟨b0, hb0⟩ : ∃ b : Bool, (f last).getD false = b := ⟨_, rfl⟩
          obtain ⟨b1, hb1⟩ : ∃ b : Bool, (f last).isSome = b := ⟨_, rfl⟩
          obtain ⟨b2, hb2⟩ : ∃ b : Bool, (f c).getD false = b := ⟨_, rfl⟩
          obtain ⟨b3, hb3⟩ : ∃ b : Bool, (f c).isSome = b := ⟨_, rfl⟩
          have hA' : ¬ (c = 58 ∧ b1 = true ∧ b0 = false) := by
            rintro ⟨rfl, h1, h2⟩
            refine hA ⟨rfl, ?_⟩
            rw [← hb1] at h1
            rw [← hb0] at h2
            cases hfl : f last with
            | none => rw [hfl] at h1; cases h1
            | some x => rw [hfl] at h2; simp at h2; rw [h2]
          rw [hb0, hb1] at hlk1
          rw [hb2, hb3] at hlk2
          rw [hb3] at hB
          clear hA hb0 hb1 hb2 hb3
          by_cases h58 : c = 58
          · subst h58
            have hor : bits .or .u8 58 32 = 58 := by decide
            cases b3 <;> cases b1 <;> cases b0 <;> first | (exfalso; exact hA' ⟨rfl, rfl, rfl⟩) | skip
            all_goals
              clear hA' hB
              go_wp2
              go_ret2
              exact hpost.out
          · have hne : (c == 58) = false := by simpa using h58
            clear hA' h58
            cases b3
            · simp only [okLetter, Bool.false_eq_true, false_or] at hB
              by_cases h97 : 97 ≤ bits .or .u8 c 32 <;> by_cases h122 : bits .or .u8 c 32 ≤ 122 <;> by_cases h48 : 48 ≤ c <;> by_cases h57 : c ≤ 57 <;> first | (exfalso; simp [h97, h122, h48, h57] at hB; done) | skip
              all_goals
                clear hB
                go_wp2
                go_ret2
                exact hpost.out
            · clear hB
              go_wp2
              go_ret2
              exact hpost.out
        · have hfc : (f c).isSome = false := by cases h : (f c).isSome <;> simp_all
          have hok : okLetter c = true := by cases h : okLetter c <;> simp_all
          have HG3 : Hid (lettersGo (s.data.toList.drop (k + 1)) (upd f c false) c = lettersOf s) := by
            have := HG2.out
            rw [if_neg hA, if_neg hB] at this
            exact this
          have h58 : c ≠ 58 := by rintro rfl; exact absurd hok (by decide)
          have hne : (c == 58) = false := by simpa using h58
          have hkey : keyOf Tryd.prog 5 (.int .u8 c) = some (.int .u8 c) := keyOf_int_mk Tryd.underlying5 (WalkArith.wf_u8 ⟨hc0, hc1⟩)
          have Hkey := Lib.hid hkey
          clear hkey HG2 hA hB h58
          obtain ⟨b0, hb0⟩ : ∃ b : Bool, (f last).getD false = b := ⟨_, rfl⟩
          obtain ⟨b1, hb1⟩ : ∃ b : Bool, (f last).isSome = b := ⟨_, rfl⟩
          obtain ⟨b2, hb2⟩ : ∃ b : Bool, (f c).getD false = b := ⟨_, rfl⟩
          rw [hb0, hb1] at hlk1
          rw [hb2, hfc] at hlk2
          clear hb0 hb1 hb2 hfc
          simp only [okLetter, Bool.or_eq_true, Bool.and_eq_true, decide_eq_true_eq] at hok
          by_cases h97 : 97 ≤ bits .or .u8 c 32 <;> by_cases h122 : bits .or .u8 c 32 ≤ 122 <;> by_cases h48 : 48 ≤ c <;> by_cases h57 : c ≤ 57 <;> first | (exfalso; rcases hok with ⟨h1, h2⟩ | ⟨h1, h2⟩ <;> contradiction) | skip
          all_goals
            clear hok
            go_wp2_with (first
              | (at_mapUpdate; refine wpList_mapUpdate_own _ rfl _ _ _ 47 rfl 5 4 (Maps.int_keyed Tryd.underlying5) Tryd.underlying47 _ w.heap.size n D rfl hD hnm _ _ _ rfl rfl Hkey.out _ [] (plainElem_bool Tryd.underlying4 _) ?_; intro w1 hown1 hgrow1))
            go_roundw
            case measure => simp [intOf]; omega
            case rel =>
              exact ⟨k + 1, n + 1, _, c, by omega, by go_num, rfl, by omega, by omega, by omega, HG3, ⟨_, hown1, has_put hD Hf.out c false⟩, HB.out.grown hgrow1 HB.out.size (fun j hj => by cases hj; exact Nat.le_refl _), HC.out.kept (by have := HZ.out; omega) hgrow1 (by simp), Nat.le_trans HZ.out hgrow1.size⟩
    · have hkl : ¬ ((k : Int) < (s.size : Int)) := by omega
      have hpost : Hid (LettersPost w (lettersOf s) (.returned (.tuple #[.map (some w.heap.size), .bool true])) wr) := by
        have hg := HG.out
        rw [List.drop_eq_nil_of_le (by simp; omega)] at hg
        simp only [lettersGo] at hg
        rw [← hg]
        exact ⟨HB.out, _, _, rfl, Nat.le_refl _, HT.out⟩
      go_wp2
      go_ret2
      exact hpost.out
end Go.Proofs.YtemimbjnfadklaaDoor.L
