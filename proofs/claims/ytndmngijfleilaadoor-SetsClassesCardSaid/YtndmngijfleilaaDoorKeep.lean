/- sets.keep, Drop and Squeeze: the walks. -/
import Derived.Test.YtndmngijfleilaaDoorWb
import Derived.Test.YtndmngijfleilaaDoorRest
namespace Go.Proofs.YtndmngijfleilaaDoor.L
open Go.RowKit Go.Shelf Go.Proofs.YtndmngijfleilaaDoorW.PrintWords

/-- What is kept of a row of bytes, handed the one ahead. -/
def keepGo (so : Int → Int → Bool) : Int → List Int → List Int
  | _, [] => []
  | last, c :: l => if so last c = true then c :: keepGo so c l else keepGo so c l
theorem keepGo_step (so : Int → Int → Bool) (last : Int) (l : List Int) (k : Nat) (h : k < l.length) : keepGo so last (l.drop k) = (if so last (rd l (k : Int)) = true then [rd l (k : Int)] else []) ++ keepGo so (rd l (k : Int)) (l.drop (k + 1)) := by
  rw [List.drop_eq_getElem_cons h, ← rd_get l k h]
  simp only [keepGo]
  split <;> rfl
theorem keepGo_len (so : Int → Int → Bool) : ∀ (l : List Int) (last : Int), (keepGo so last l).length ≤ l.length
  | [], _ => Nat.le_refl _
  | c :: l, last => by
    have := keepGo_len so l c
    simp only [keepGo]
    split
    · simp only [List.length_cons]; omega
    · simp only [List.length_cons]; omega
theorem keepGo_mem (so : Int → Int → Bool) : ∀ (l : List Int) (last : Int), ∀ x ∈ keepGo so last l, x ∈ l
  | [], _, x, h => h
  | c :: l, last, x, h => by
    simp only [keepGo] at h
    split at h
    · rcases List.mem_cons.1 h with rfl | h
      · simp
      · exact List.mem_cons_of_mem _ (keepGo_mem so l c x h)
    · exact List.mem_cons_of_mem _ (keepGo_mem so l c x h)
def soDrop (F : Nat → Bool) (_ c : Int) : Bool := !F c.toNat
def soSq (F : Nat → Bool) (last c : Int) : Bool := !F c.toNat || last != c

theorem nums_u8 (l : List Int) (h : ∀ x ∈ l, 0 ≤ x ∧ x ≤ 255) : nums .u8 l = Lib.byteCells (l.map fun x => x.toNat.toUInt8) := by
  unfold nums Lib.byteCells
  rw [List.map_map]
  apply List.map_congr_left
  intro x hx
  have := h x hx
  simp only [Function.comp]
  rw [show (x.toNat.toUInt8).toNat = x.toNat by rw [Nat.toUInt8]; exact Nat.mod_eq_of_lt (by omega)]
  rw [show ((x.toNat : Nat) : Int) = x by omega]

set_option maxHeartbeats 4000000 in
set_option maxRecDepth 100000 in
theorem drop_closure (F : Nat → Bool) (C : Nat) (last c : Int) (h0 : 0 ≤ c) (h1 : c < 256) (w : World) (hC : w.heap[C]? = some (.cells (bvals F) 42 (0, 0))) :
    Calls Tryd.prog 21 #[.int .i64 last, .int .u8 c, .pointer (some ⟨C, 0, none⟩)] w fun e w' => e = .returned (.bool (soDrop F last c)) ∧ w' = w := by
  have h2 : c.toNat < 256 := by omega
  have hcl : w.cell? ⟨C, c.toNat, none⟩ = some (.bool (F c.toNat)) := (blk_cell hC _).trans (bvals_get _ _ h2)
  have hso : soDrop F last c = (!F c.toNat) := rfl
  obtain ⟨b, hb⟩ : ∃ b, F c.toNat = b := ⟨_, rfl⟩
  rw [hb] at hcl hso
  rw [hso]
  clear hC hb hso
  cases b
  all_goals
    go_enter Tryd.func21, Tryd.ntmps21
    go_wp2
    all_goals
      go_ret
      exact ⟨by first | rfl | simp, rfl⟩

set_option maxHeartbeats 8000000 in
set_option maxRecDepth 100000 in
theorem drop_keep (F : Nat → Bool) (C : Nat) (s : ByteArray) (w : World) (hC : w.heap[C]? = some (.cells (bvals F) 42 (0, 0))) (hs : s.size ≤ 70368744177664) :
    Calls Tryd.prog 20 #[.string s, .func (.func 21) #[] #[.pointer (some ⟨C, 0, none⟩)]] w fun e w' => e = .returned (.string (strOfNums (keepGo (soDrop F) (-1) (bytesOf s)))) ∧ Below w.heap.size w w' := by
  have hClt : C < w.heap.size := blk_lt hC
  obtain ⟨W1, hW1⟩ : ∃ W1, Lib.bytesWorld (w.alloc (.cells #[.pointer none, .slice none 0 0] 54)) 5 s = W1 := ⟨_, rfl⟩
  have hb1 : Below w.heap.size w W1 := by rw [← hW1]; exact bytes_below (below_alloc (Below.refl _ w) _) (by simp) 5 s
  have hbb : Below (w.heap.size + 1) (w.alloc (.cells #[.pointer none, .slice none 0 0] 54)) W1 := by
    have h := bytes_below (Below.refl (w.alloc (.cells #[.pointer none, .slice none 0 0] 54)).heap.size (w.alloc (.cells #[.pointer none, .slice none 0 0] 54))) (Nat.le_refl _) 5 s
    rw [hW1] at h
    simpa using h
  have hbld : Bld W1 w.heap.size w.heap.size (.pointer none) (.slice none 0 0) [] := ⟨(hbb.block _ (by omega)).trans (heap_alloc_new w _), own_nil _ _ _ _, by simp [Value.ownBlock], Nat.le_refl _⟩
  have hrd : ReadsInt W1 .u8 (some ⟨w.heap.size + 1, 0, none⟩) s.size (bytesOf s) := by
    have h := bytes_reads (w.alloc (.cells #[.pointer none, .slice none 0 0] 54)) 5 s (by omega)
    rw [hW1] at h
    simpa using h
  have hrng : ∀ x ∈ bytesOf s, 0 ≤ x ∧ x ≤ 255 := fun x hx => by
    simp only [bytesOf, List.mem_map] at hx
    obtain ⟨b, _, rfl⟩ := hx
    have := b.toNat_lt
    omega
  have hlen := bytesOf_length s
  have hC1 : W1.heap[C]? = some (.cells (bvals F) 42 (0, 0)) := blk_below hC hb1
  obtain ⟨l, hl⟩ : ∃ l, bytesOf s = l := ⟨_, rfl⟩
  rw [hl] at hrd hlen hrng ⊢
  have HRD := Lib.hid hrd
  have HRNG := Lib.hid hrng
  have HLEN := Lib.hid hlen
  have HC1 := Lib.hid hC1
  have HB1 := Lib.hid hb1
  have HBLD := Lib.hid hbld
  have HCL := Lib.hid hClt
  have HW1 := Lib.hid hW1
  have HL := Lib.hid hl
  have HS := Lib.hid hs
  have HSZ1 : Hid (w.heap.size + 1 ≤ W1.heap.size) := Lib.hid (by have := hbb.size; simpa using this)
  clear hrd hrng hlen hC1 hb1 hbb hbld hClt hW1 hC hl hs
  obtain ⟨cap, hcv⟩ : ∃ cap, (convert 9 22 (.string s)).run Tryd.prog (w.alloc (.cells #[.pointer none, .slice none 0 0] 54)) = .ok (.slice (some ⟨w.heap.size + 1, 0, none⟩) s.size cap) W1 :=
    ⟨grownCap (w.alloc (.cells #[.pointer none, .slice none 0 0] 54)) s.size 0 5, by rw [print_bytes 9 22 5 Tryd.underlying9 Tryd.underlying22 Tryd.underlying5 s _, HW1.out]; simp⟩
  go_enter Tryd.func20, Tryd.ntmps20
  go_wp2
  go_loopw [6, 12] (fun v6 v12 wr => ∃ (k : Nat) (last : Int) (p v : Value) (xs : List Int), k ≤ s.size ∧ v6 = .int .i64 last ∧ v12 = .int .i64 k ∧ Hid (p = .pointer none ∨ p = ptrB w.heap.size) ∧ Hid (Bld wr w.heap.size w.heap.size p v xs) ∧ Hid (xs.length ≤ k ∧ ∀ x ∈ xs, 0 ≤ x ∧ x ≤ 255) ∧ Hid (xs ++ keepGo (soDrop F) last (l.drop k) = keepGo (soDrop F) (-1) l) ∧ Hid (Below w.heap.size w wr) ∧ Hid (∀ i, i < W1.heap.size → i ≠ w.heap.size → wr.heap[i]? = W1.heap[i]?) ∧ Hid (W1.heap.size ≤ wr.heap.size) ∧ Hid (∀ k', v.ownBlock = some k' → W1.heap.size ≤ k')) (fun _ v12 _ => s.size - (intOf v12).toNat)
  case atStart => exact ⟨0, -1, _, _, [], Nat.zero_le _, rfl, rfl, Lib.hid (.inl rfl), HBLD, Lib.hid ⟨Nat.zero_le _, fun x h => by simp at h⟩, Lib.hid (by rw [List.drop_zero]; rfl), HB1, Lib.hid (fun _ _ _ => rfl), Lib.hid (Nat.le_refl _), Lib.hid (fun k' h => by simp [Value.ownBlock] at h)⟩
  case round =>
    obtain ⟨k, last, p, v, xs, hk, rfl, rfl, HP, HBL, HXL, HEQ, HBW, HOLD, HGE, HOB⟩ := hrel
    by_cases hlt : k < s.size
    · have hltI : (k : Int) < (s.size : Int) := by omega
      have hk0 : (0 : Int) ≤ (k : Int) := by omega
      have hlk : k < l.length := by have : l.length = s.size := HLEN.out; omega
      have hst := keepGo_step (soDrop F) last l k hlk
      obtain ⟨ad, hA, hcell1⟩ := HRD.out.at_ (k : Int) hk0 hltI
      have hrg := HRNG.out (rd l (k : Int)) (by rw [rd_get l k hlk]; exact List.getElem_mem hlk)
      obtain ⟨c, hc⟩ : ∃ c, rd l (k : Int) = c := ⟨_, rfl⟩
      rw [hc] at hcell1 hst hrg
      obtain rfl := Option.some.inj hA
      rw [Int.toNat_natCast, add_plain] at hcell1
      have hglt : w.heap.size + 1 < W1.heap.size := World.block_lt_of_cell? _ _ hcell1
      have hcell : wr.cell? ⟨w.heap.size + 1, k, none⟩ = some (.int .u8 c) := by
        rw [← hcell1]
        simp only [World.cell?, HOLD.out (w.heap.size + 1) hglt (by omega)]
      have hCr : wr.heap[C]? = some (.cells (bvals F) 42 (0, 0)) := (HOLD.out C (by have : C < w.heap.size := HCL.out; omega) (by have : C < w.heap.size := HCL.out; omega)).trans HC1.out
      have hcl := drop_closure F C last c hrg.1 (by omega) wr hCr
      obtain ⟨b, hb⟩ : ∃ b, soDrop F last c = b := ⟨_, rfl⟩
      rw [hb] at hcl hst
      have HST := Lib.hid hst
      have HRG := Lib.hid hrg
      have HGL := Lib.hid hglt
      have hc0 : 0 ≤ c := hrg.1
      have hc1 : c ≤ 255 := hrg.2
      have hkb : k ≤ 70368744177664 := by have : s.size ≤ 70368744177664 := HS.out; omega
      clear hst hb hcell1 hCr hc hrg hglt hlk
      cases b with
      | true =>
        have hxl : xs.length ≤ k := HXL.out.1
        have hssz : s.size ≤ 70368744177664 := HS.out
        have hwb := wb_walk w.heap.size w.heap.size p v xs c wr HBL.out HP.out (by omega) HBW.out.size
        clear hxl hssz
        go_wp2_with (first
          | (go_at_call 21; refine hcl.mono ?_; rintro e w' ⟨rfl, rfl⟩)
          | (go_at_call 24; refine hwb.mono ?_; rintro e w2 ⟨rfl, v2, hbl2, hb2, hk2, hat2⟩; have HBL2 := Lib.hid hbl2; have HB2 := Lib.hid hb2; have HK2 := Lib.hid hk2; have HAT2 := Lib.hid hat2; clear hbl2 hb2 hk2 hat2))
        go_roundw
        case rel =>
          refine ⟨k + 1, c, _, v2, xs ++ [c], by omega, by first | rfl | simp, by go_num, Lib.hid (.inr rfl), HBL2, Lib.hid ⟨by have := HXL.out.1; simp; omega, ?_⟩, Lib.hid ?_, Lib.hid (HBW.out.trans (HB2.out.mono (Nat.le_refl _))), Lib.hid ?_, Lib.hid ?_, Lib.hid ?_⟩
          · intro x hx
            rcases List.mem_append.1 hx with h | h
            · exact HXL.out.2 x h
            · rw [List.mem_singleton.1 h]
              exact HRG.out
          · have h1 := HEQ.out
            rw [HST.out] at h1
            simpa using h1
          · intro i hi hne
            refine (HK2.out.2 i (Nat.lt_of_lt_of_le hi HGE.out) hne ?_).trans (HOLD.out i hi hne)
            intro e
            have := HOB.out i e.symm
            omega
          · exact Nat.le_trans HGE.out HK2.out.1
          · intro k' h
            rcases HAT2.out with h2 | ⟨k2, h2, h3⟩
            · exact HOB.out k' (h2 ▸ h)
            · rw [h2] at h
              have e := Option.some.inj h
              exact Nat.le_trans HGE.out (e ▸ h3)
        case measure => simp [intOf]; omega
      | false =>
        go_wp2_with (go_at_call 21; refine hcl.mono ?_; rintro e w' ⟨rfl, rfl⟩)
        go_roundw
        case rel =>
          refine ⟨k + 1, c, p, v, xs, by omega, by first | rfl | simp, by go_num, HP, HBL, Lib.hid ⟨by have := HXL.out.1; omega, HXL.out.2⟩, Lib.hid ?_, HBW, HOLD, HGE, HOB⟩
          have h1 := HEQ.out
          rw [HST.out] at h1
          simpa using h1
        case measure => simp [intOf]; omega
    · obtain rfl : k = s.size := by omega
      have hend := HEQ.out
      rw [List.drop_of_length_le (by have : l.length = s.size := HLEN.out; omega)] at hend
      simp only [keepGo, List.append_nil] at hend
      have hbt : Lib.IsBuilderF 54 5 w.heap.size w.heap.size (Lib.byteCells (xs.map fun x => x.toNat.toUInt8)) wr := by
        obtain ⟨h1, h2, h3, h4⟩ := HBL.out
        rw [← nums_u8 xs HXL.out.2]
        have hat : Lib.BuilderAt 54 5 w.heap.size w.heap.size p (nums .u8 xs) wr := ⟨h4, v, h1, by rw [nums_length]; exact h2, h3⟩
        apply Lib.IsBuilderF.of
        rcases HP.out with h | h
        · rw [h] at hat; exact .inl hat
        · rw [h] at hat; exact .inr hat
      have hstr := Tryd.Builder_String_any_k w.heap.size w.heap.size _ wr hbt HBW.out.size
      have HEND := Lib.hid hend
      clear hend hbt
      go_wp2_with (go_at_call 25; refine hstr.mono ?_; rintro e w2 ⟨rfl, _, hb2, _⟩; have HB2 := Lib.hid hb2; clear hb2)
      go_ret
      exact ⟨by rw [← HEND.out]; rfl, HBW.out.trans HB2.out⟩

set_option maxHeartbeats 4000000 in
set_option maxRecDepth 100000 in
theorem sq_closure (F : Nat → Bool) (C : Nat) (last c : Int) (h0 : 0 ≤ c) (h1 : c < 256) (w : World) (hC : w.heap[C]? = some (.cells (bvals F) 42 (0, 0))) :
    Calls Tryd.prog 22 #[.int .i64 last, .int .u8 c, .pointer (some ⟨C, 0, none⟩)] w fun e w' => e = .returned (.bool (soSq F last c)) ∧ w' = w := by
  have h2 : c.toNat < 256 := by omega
  have hcl : w.cell? ⟨C, c.toNat, none⟩ = some (.bool (F c.toNat)) := (blk_cell hC _).trans (bvals_get _ _ h2)
  have hso : soSq F last c = (!F c.toNat || last != c) := rfl
  obtain ⟨b, hb⟩ : ∃ b, F c.toNat = b := ⟨_, rfl⟩
  rw [hb] at hcl hso
  rw [hso]
  clear hC hb hso
  cases b
  all_goals
    go_enter Tryd.func22, Tryd.ntmps22
    go_wp2
    all_goals
      go_ret
      exact ⟨by first | rfl | simp, rfl⟩

set_option maxHeartbeats 8000000 in
set_option maxRecDepth 100000 in
theorem sq_keep (F : Nat → Bool) (C : Nat) (s : ByteArray) (w : World) (hC : w.heap[C]? = some (.cells (bvals F) 42 (0, 0))) (hs : s.size ≤ 70368744177664) :
    Calls Tryd.prog 20 #[.string s, .func (.func 22) #[] #[.pointer (some ⟨C, 0, none⟩)]] w fun e w' => e = .returned (.string (strOfNums (keepGo (soSq F) (-1) (bytesOf s)))) ∧ Below w.heap.size w w' := by
  have hClt : C < w.heap.size := blk_lt hC
  obtain ⟨W1, hW1⟩ : ∃ W1, Lib.bytesWorld (w.alloc (.cells #[.pointer none, .slice none 0 0] 54)) 5 s = W1 := ⟨_, rfl⟩
  have hb1 : Below w.heap.size w W1 := by rw [← hW1]; exact bytes_below (below_alloc (Below.refl _ w) _) (by simp) 5 s
  have hbb : Below (w.heap.size + 1) (w.alloc (.cells #[.pointer none, .slice none 0 0] 54)) W1 := by
    have h := bytes_below (Below.refl (w.alloc (.cells #[.pointer none, .slice none 0 0] 54)).heap.size (w.alloc (.cells #[.pointer none, .slice none 0 0] 54))) (Nat.le_refl _) 5 s
    rw [hW1] at h
    simpa using h
  have hbld : Bld W1 w.heap.size w.heap.size (.pointer none) (.slice none 0 0) [] := ⟨(hbb.block _ (by omega)).trans (heap_alloc_new w _), own_nil _ _ _ _, by simp [Value.ownBlock], Nat.le_refl _⟩
  have hrd : ReadsInt W1 .u8 (some ⟨w.heap.size + 1, 0, none⟩) s.size (bytesOf s) := by
    have h := bytes_reads (w.alloc (.cells #[.pointer none, .slice none 0 0] 54)) 5 s (by omega)
    rw [hW1] at h
    simpa using h
  have hrng : ∀ x ∈ bytesOf s, 0 ≤ x ∧ x ≤ 255 := fun x hx => by
    simp only [bytesOf, List.mem_map] at hx
    obtain ⟨b, _, rfl⟩ := hx
    have := b.toNat_lt
    omega
  have hlen := bytesOf_length s
  have hC1 : W1.heap[C]? = some (.cells (bvals F) 42 (0, 0)) := blk_below hC hb1
  obtain ⟨l, hl⟩ : ∃ l, bytesOf s = l := ⟨_, rfl⟩
  rw [hl] at hrd hlen hrng ⊢
  have HRD := Lib.hid hrd
  have HRNG := Lib.hid hrng
  have HLEN := Lib.hid hlen
  have HC1 := Lib.hid hC1
  have HB1 := Lib.hid hb1
  have HBLD := Lib.hid hbld
  have HCL := Lib.hid hClt
  have HW1 := Lib.hid hW1
  have HL := Lib.hid hl
  have HS := Lib.hid hs
  have HSZ1 : Hid (w.heap.size + 1 ≤ W1.heap.size) := Lib.hid (by have := hbb.size; simpa using this)
  clear hrd hrng hlen hC1 hb1 hbb hbld hClt hW1 hC hl hs
  obtain ⟨cap, hcv⟩ : ∃ cap, (convert 9 22 (.string s)).run Tryd.prog (w.alloc (.cells #[.pointer none, .slice none 0 0] 54)) = .ok (.slice (some ⟨w.heap.size + 1, 0, none⟩) s.size cap) W1 :=
    ⟨grownCap (w.alloc (.cells #[.pointer none, .slice none 0 0] 54)) s.size 0 5, by rw [print_bytes 9 22 5 Tryd.underlying9 Tryd.underlying22 Tryd.underlying5 s _, HW1.out]; simp⟩
  go_enter Tryd.func20, Tryd.ntmps20
  go_wp2
  go_loopw [6, 12] (fun v6 v12 wr => ∃ (k : Nat) (last : Int) (p v : Value) (xs : List Int), k ≤ s.size ∧ v6 = .int .i64 last ∧ v12 = .int .i64 k ∧ Hid (p = .pointer none ∨ p = ptrB w.heap.size) ∧ Hid (Bld wr w.heap.size w.heap.size p v xs) ∧ Hid (xs.length ≤ k ∧ ∀ x ∈ xs, 0 ≤ x ∧ x ≤ 255) ∧ Hid (xs ++ keepGo (soSq F) last (l.drop k) = keepGo (soSq F) (-1) l) ∧ Hid (Below w.heap.size w wr) ∧ Hid (∀ i, i < W1.heap.size → i ≠ w.heap.size → wr.heap[i]? = W1.heap[i]?) ∧ Hid (W1.heap.size ≤ wr.heap.size) ∧ Hid (∀ k', v.ownBlock = some k' → W1.heap.size ≤ k')) (fun _ v12 _ => s.size - (intOf v12).toNat)
  case atStart => exact ⟨0, -1, _, _, [], Nat.zero_le _, rfl, rfl, Lib.hid (.inl rfl), HBLD, Lib.hid ⟨Nat.zero_le _, fun x h => by simp at h⟩, Lib.hid (by rw [List.drop_zero]; rfl), HB1, Lib.hid (fun _ _ _ => rfl), Lib.hid (Nat.le_refl _), Lib.hid (fun k' h => by simp [Value.ownBlock] at h)⟩
  case round =>
    obtain ⟨k, last, p, v, xs, hk, rfl, rfl, HP, HBL, HXL, HEQ, HBW, HOLD, HGE, HOB⟩ := hrel
    by_cases hlt : k < s.size
    · have hltI : (k : Int) < (s.size : Int) := by omega
      have hk0 : (0 : Int) ≤ (k : Int) := by omega
      have hlk : k < l.length := by have : l.length = s.size := HLEN.out; omega
      have hst := keepGo_step (soSq F) last l k hlk
      obtain ⟨ad, hA, hcell1⟩ := HRD.out.at_ (k : Int) hk0 hltI
      have hrg := HRNG.out (rd l (k : Int)) (by rw [rd_get l k hlk]; exact List.getElem_mem hlk)
      obtain ⟨c, hc⟩ : ∃ c, rd l (k : Int) = c := ⟨_, rfl⟩
      rw [hc] at hcell1 hst hrg
      obtain rfl := Option.some.inj hA
      rw [Int.toNat_natCast, add_plain] at hcell1
      have hglt : w.heap.size + 1 < W1.heap.size := World.block_lt_of_cell? _ _ hcell1
      have hcell : wr.cell? ⟨w.heap.size + 1, k, none⟩ = some (.int .u8 c) := by
        rw [← hcell1]
        simp only [World.cell?, HOLD.out (w.heap.size + 1) hglt (by omega)]
      have hCr : wr.heap[C]? = some (.cells (bvals F) 42 (0, 0)) := (HOLD.out C (by have : C < w.heap.size := HCL.out; omega) (by have : C < w.heap.size := HCL.out; omega)).trans HC1.out
      have hcl := sq_closure F C last c hrg.1 (by omega) wr hCr
      obtain ⟨b, hb⟩ : ∃ b, soSq F last c = b := ⟨_, rfl⟩
      rw [hb] at hcl hst
      have HST := Lib.hid hst
      have HRG := Lib.hid hrg
      have HGL := Lib.hid hglt
      have hc0 : 0 ≤ c := hrg.1
      have hc1 : c ≤ 255 := hrg.2
      have hkb : k ≤ 70368744177664 := by have : s.size ≤ 70368744177664 := HS.out; omega
      clear hst hb hcell1 hCr hc hrg hglt hlk
      cases b with
      | true =>
        have hxl : xs.length ≤ k := HXL.out.1
        have hssz : s.size ≤ 70368744177664 := HS.out
        have hwb := wb_walk w.heap.size w.heap.size p v xs c wr HBL.out HP.out (by omega) HBW.out.size
        clear hxl hssz
        go_wp2_with (first
          | (go_at_call 22; refine hcl.mono ?_; rintro e w' ⟨rfl, rfl⟩)
          | (go_at_call 24; refine hwb.mono ?_; rintro e w2 ⟨rfl, v2, hbl2, hb2, hk2, hat2⟩; have HBL2 := Lib.hid hbl2; have HB2 := Lib.hid hb2; have HK2 := Lib.hid hk2; have HAT2 := Lib.hid hat2; clear hbl2 hb2 hk2 hat2))
        go_roundw
        case rel =>
          refine ⟨k + 1, c, _, v2, xs ++ [c], by omega, by first | rfl | simp, by go_num, Lib.hid (.inr rfl), HBL2, Lib.hid ⟨by have := HXL.out.1; simp; omega, ?_⟩, Lib.hid ?_, Lib.hid (HBW.out.trans (HB2.out.mono (Nat.le_refl _))), Lib.hid ?_, Lib.hid ?_, Lib.hid ?_⟩
          · intro x hx
            rcases List.mem_append.1 hx with h | h
            · exact HXL.out.2 x h
            · rw [List.mem_singleton.1 h]
              exact HRG.out
          · have h1 := HEQ.out
            rw [HST.out] at h1
            simpa using h1
          · intro i hi hne
            refine (HK2.out.2 i (Nat.lt_of_lt_of_le hi HGE.out) hne ?_).trans (HOLD.out i hi hne)
            intro e
            have := HOB.out i e.symm
            omega
          · exact Nat.le_trans HGE.out HK2.out.1
          · intro k' h
            rcases HAT2.out with h2 | ⟨k2, h2, h3⟩
            · exact HOB.out k' (h2 ▸ h)
            · rw [h2] at h
              have e := Option.some.inj h
              exact Nat.le_trans HGE.out (e ▸ h3)
        case measure => simp [intOf]; omega
      | false =>
        go_wp2_with (go_at_call 22; refine hcl.mono ?_; rintro e w' ⟨rfl, rfl⟩)
        go_roundw
        case rel =>
          refine ⟨k + 1, c, p, v, xs, by omega, by first | rfl | simp, by go_num, HP, HBL, Lib.hid ⟨by have := HXL.out.1; omega, HXL.out.2⟩, Lib.hid ?_, HBW, HOLD, HGE, HOB⟩
          have h1 := HEQ.out
          rw [HST.out] at h1
          simpa using h1
        case measure => simp [intOf]; omega
    · obtain rfl : k = s.size := by omega
      have hend := HEQ.out
      rw [List.drop_of_length_le (by have : l.length = s.size := HLEN.out; omega)] at hend
      simp only [keepGo, List.append_nil] at hend
      have hbt : Lib.IsBuilderF 54 5 w.heap.size w.heap.size (Lib.byteCells (xs.map fun x => x.toNat.toUInt8)) wr := by
        obtain ⟨h1, h2, h3, h4⟩ := HBL.out
        rw [← nums_u8 xs HXL.out.2]
        have hat : Lib.BuilderAt 54 5 w.heap.size w.heap.size p (nums .u8 xs) wr := ⟨h4, v, h1, by rw [nums_length]; exact h2, h3⟩
        apply Lib.IsBuilderF.of
        rcases HP.out with h | h
        · rw [h] at hat; exact .inl hat
        · rw [h] at hat; exact .inr hat
      have hstr := Tryd.Builder_String_any_k w.heap.size w.heap.size _ wr hbt HBW.out.size
      have HEND := Lib.hid hend
      clear hend hbt
      go_wp2_with (go_at_call 25; refine hstr.mono ?_; rintro e w2 ⟨rfl, _, hb2, _⟩; have HB2 := Lib.hid hb2; clear hb2)
      go_ret
      exact ⟨by rw [← HEND.out]; rfl, HBW.out.trans HB2.out⟩
end Go.Proofs.YtndmngijfleilaaDoor.L
