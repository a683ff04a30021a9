/- reader.thing: the walk. -/
import Derived.Test.YtndmngijfleilaaDoorSingle
import Derived.Test.YtndmngijfleilaaDoorClasses
namespace Go.Proofs.YtndmngijfleilaaDoor.L
open Go.RowKit Go.Shelf Go.Proofs.YtndmngijfleilaaDoorW.PrintWords

/-- What a thing tells: from, up to, which (none: all), is it one, what is behind. -/
structure Th where
  a : Int
  b : Int
  cls : Option (List UInt8)
  ok : Bool
  rest : List UInt8
def thingOf (l : List UInt8) : Th :=
  if (classOf l).2 = true then ⟨0, 255, classTab (classOf l).1, (classTab (classOf l).1).isSome, l.drop ((classOf l).1.length + 4)⟩
  else if (singleOf l).2.1 = false then ⟨(singleOf l).1, (singleOf l).1, none, false, (singleOf l).2.2⟩
  else match (singleOf l).2.2 with
    | d :: e :: r => if d.toNat = 45 then
        (if (classOf (e :: r)).2 = true then ⟨(singleOf l).1, (singleOf l).1, none, true, d :: e :: r⟩
        else ⟨(singleOf l).1, (singleOf (e :: r)).1, none, (singleOf (e :: r)).2.1 && decide ((singleOf l).1 ≤ (singleOf (e :: r)).1), (singleOf (e :: r)).2.2⟩)
      else ⟨(singleOf l).1, (singleOf l).1, none, true, d :: e :: r⟩
    | r => ⟨(singleOf l).1, (singleOf l).1, none, true, r⟩

theorem singleEsc_len (l : List UInt8) : (singleEsc l).2.2.length ≤ l.length := by
  unfold singleEsc
  split
  · split <;> (simp only [List.length_drop]; omega)
  · split
    · exact Nat.le_refl _
    · rename_i d r _
      split
      · simp only [List.length_cons]; omega
      · split
        · simp only [List.length_cons]; omega
        · split <;> (simp only [List.length_cons]; omega)
theorem singleOf_len (l : List UInt8) : (singleOf l).2.2.length ≤ l.length - 1 := by
  cases l with
  | nil => exact Nat.le_refl _
  | cons c rest =>
    have h := singleEsc_len rest
    unfold singleEsc at h
    simp only [singleOf]
    split
    · simpa using h
    · simp
theorem singleEsc_rng (l : List UInt8) : 0 ≤ (singleEsc l).1 ∧ (singleEsc l).1 ≤ 255 := by
  unfold singleEsc
  split
  · split
    · rename_i v h
      have := octGo_le _ 0 v (by omega) h
      show 0 ≤ (v : Int) ∧ (v : Int) ≤ 255
      omega
    · show (0 : Int) ≤ 255 ∧ (255 : Int) ≤ 255
      omega
  · split
    · show (0 : Int) ≤ 0 ∧ (0 : Int) ≤ 255
      omega
    · split
      · show (0 : Int) ≤ 10 ∧ (10 : Int) ≤ 255
        omega
      · split
        · show (0 : Int) ≤ 9 ∧ (9 : Int) ≤ 255
          omega
        · split
          · show (0 : Int) ≤ 92 ∧ (92 : Int) ≤ 255
            omega
          · show (0 : Int) ≤ 0 ∧ (0 : Int) ≤ 255
            omega
theorem singleOf_rng (l : List UInt8) : 0 ≤ (singleOf l).1 ∧ (singleOf l).1 ≤ 255 := by
  cases l with
  | nil => exact ⟨Int.le_refl _, by decide⟩
  | cons c rest =>
    have h := singleEsc_rng rest
    unfold singleEsc at h
    simp only [singleOf]
    split
    · exact h
    · have := c.toNat_lt
      show 0 ≤ (c.toNat : Int) ∧ (c.toNat : Int) ≤ 255
      omega
theorem class_len (l : List UInt8) (h : (classOf l).2 = true) : (classOf l).1.length + 4 ≤ l.length := by
  unfold classOf at h ⊢
  split at h
  · rename_i hp
    rw [if_pos hp]
    have hc : (Lib.cut (Lib.trimPrefix l [91, 58]) [58, 93]).2.2 = true := by
      simp only [Bool.and_eq_true] at h
      exact h.1
    have hl : (Lib.trimPrefix l [91, 58]).length + 2 = l.length := by
      have h2 : 2 ≤ l.length := by
        unfold Lib.hasPrefix at hp
        have := (List.isPrefixOf_iff_prefix.1 hp).length_le
        simpa using this
      unfold Lib.trimPrefix
      rw [if_pos hp, List.length_drop]
      simp only [List.length_cons, List.length_nil]
      omega
    have hx : (Lib.cut (Lib.trimPrefix l [91, 58]) [58, 93]).1.length + 2 ≤ (Lib.trimPrefix l [91, 58]).length := by
      generalize Lib.trimPrefix l [91, 58] = m at hc
      unfold Lib.cut at hc ⊢
      split at hc
      · rename_i hi
        rw [if_pos hi]
        have h := Lib.index_room m [58, 93] hi
        simp only [List.length_take, List.length_cons, List.length_nil] at h ⊢
        omega
      · cases hc
    show (Lib.cut (Lib.trimPrefix l [91, 58]) [58, 93]).1.length + 4 ≤ l.length
    omega
  · cases h

/-- The function value that goes with a thing. -/
def SoV (W : World) (R : Nat) (cls : Option (List UInt8)) (v : Value) : Prop := match cls with
  | none => v = .func (.func 28) #[] #[]
  | some q => ∃ k, v = .func (.func 46) #[] #[.pointer (some ⟨k, 0, none⟩)] ∧ W.heap[k]? = some (.cells #[.string ⟨q.toArray⟩] 9 (0, 0)) ∧ k ≠ R
def thingPost (base R : Nat) (w : World) (t : Th) (e : Ending) (w' : World) : Prop :=
  ∃ v, e = .returned (.tuple #[.int .u8 t.a, .int .u8 t.b, v, .bool t.ok]) ∧ (t.ok = true → SoV w' R t.cls v) ∧ Rd w' R ⟨t.rest.toArray⟩ ∧ Below base w w' ∧ KeepBut w w' R none
theorem load48 {W : World} {R : Nat} {s : ByteArray} (h : Rd W R s) : W.heap[R]? = some (.cells #[.string s] 48 (0, 0)) := h
/-- What a walk leaves alone. -/
def Fr (base R : Nat) (w w' : World) : Prop := Below base w w' ∧ KeepBut w w' R none ∧ base ≤ R ∧ R < w.heap.size
theorem Fr.refl (w : World) {base R : Nat} (hB : base ≤ R) (hR : R < w.heap.size) : Fr base R w w := ⟨Below.refl _ _, KeepBut.refl _ _ _, hB, hR⟩
theorem Fr.below {base R : Nat} {w w' w'' : World} (h : Fr base R w w') (hb : Below w'.heap.size w' w'') : Fr base R w w'' := by
  obtain ⟨h1, h2, h3, h4⟩ := h
  exact ⟨h1.trans (hb.mono (by have := h2.1; omega)), h2.trans (KeepBut.of_below hb R none) (.inl rfl), h3, h4⟩
theorem Fr.set_ {base R : Nat} {w w' : World} (h : Fr base R w w') (v : Value) : Fr base R w (w'.setCell ⟨R, 0, none⟩ v) := by
  obtain ⟨h1, h2, h3, h4⟩ := h
  exact ⟨h1.setCell (p := ⟨R, 0, none⟩) h3 v, h2.set_ 0 v, h3, h4⟩
theorem Fr.fr {base R : Nat} {w w' w'' : World} (h : Fr base R w w') (hb : Below base w' w'') (hk : KeepBut w' w'' R none) : Fr base R w w'' := by
  obtain ⟨h1, h2, h3, h4⟩ := h
  exact ⟨h1.trans hb, h2.trans hk (.inl rfl), h3, h4⟩
theorem size_set (W : World) (a : Addr) (v : Value) : (W.setCell a v).heap.size = W.heap.size := by simp [World.setCell]
theorem zero38 (w : World) : (zeroValue 38).run Tryd.prog w = .ok (clOf 0) w := by kernel_rfl

set_option maxHeartbeats 8000000 in
set_option maxRecDepth 100000 in
theorem thing_class (s : ByteArray) (_hs0 : s.size ≠ 0) (hs : s.size ≤ 4000000000) (base R : Nat) (w : World) (G : Glob w) (hR : Rd w R s) (_h2 : 2 < R) (hB : base ≤ R) (hc : (classOf s.data.toList).2 = true) :
    Calls Tryd.prog 23 #[.pointer (some ⟨R, 0, none⟩)] w (thingPost base R w (thingOf s.data.toList)) := by
  have hcl := class_walk s hs w G
  have hln := class_len s.data.toList hc
  have hth : thingOf s.data.toList = ⟨0, 255, classTab (classOf s.data.toList).1, (classTab (classOf s.data.toList).1).isSome, s.data.toList.drop ((classOf s.data.toList).1.length + 4)⟩ := by
    unfold thingOf
    rw [if_pos hc]
  rw [hth]
  obtain ⟨nm, hnm⟩ : ∃ nm, (classOf s.data.toList).1 = nm := ⟨_, rfl⟩
  rw [hc, hnm] at hcl
  rw [hnm] at hln ⊢
  obtain ⟨NM, hNM⟩ : ∃ NM : ByteArray, (⟨nm.toArray⟩ : ByteArray) = NM := ⟨_, rfl⟩
  have hNl : NM.data.toList = nm := by rw [← hNM]
  have hNs : NM.size = nm.length := by rw [← hNl, data_length]
  rw [hNM] at hcl
  have hlI : (NM.size : Int) + 4 ≤ (s.size : Int) := by
    rw [data_length] at hln
    omega
  have hl0 : (0 : Int) ≤ (NM.size : Int) + 4 := by omega
  have hlt4 : ((NM.size : Int) + 4).toNat = NM.size + 4 := by omega
  have hNz : NM.size ≤ maxLen := by unfold maxLen; omega
  obtain ⟨T, hT⟩ : ∃ T, s.extract (NM.size + 4) s.size = T := ⟨_, rfl⟩
  have hTl : T.data.toList = s.data.toList.drop (NM.size + 4) := by rw [← hT]; exact Lib.extract_to_end s (NM.size + 4)
  have hTe : (⟨(s.data.toList.drop (nm.length + 4)).toArray⟩ : ByteArray) = T := by rw [← hNs, ← hTl]
  have hcell := hR.cell
  have HR := Lib.hid hR
  have HTE := Lib.hid hTe
  have HNL := Lib.hid hNl
  have HNZ := Lib.hid hNz
  have HCL := Lib.hid hcl
  clear hR hc hth hnm hNM hNs hNl hTl hTe hln hNz hcl
  go_enter Tryd.func23, Tryd.ntmps23
  go_wp2_with (first
    | (refine wpList_load_row rfl 48 _ rfl R rfl 48 _ (0, 0) _ HR.out Tryd.underlying48 rfl (by kernel_rfl) ?_)
    | (go_at_call 26; refine HCL.out.mono ?_; rintro e w2 ⟨rfl, hb2⟩; have hc2 := (HR.out.below hb2).cell; have hf2 := (HR.out.below hb2).free; have HB2 := Lib.hid hb2; clear hb2)
    | (go_at_call 27; refine (classes_walk _).mono ?_; rintro e w3 ⟨rfl, hst⟩; have HST := Lib.hid hst; obtain ⟨f, hm, hi, hk, hb3, _, _⟩ := hst; have hlk := hm.look (zero38 _) NM HNZ.out; rw [size_set] at hlk; have HI := Lib.hid hi; have HKK := Lib.hid hk; have HB3 := Lib.hid hb3; clear hm hi hk hb3))
  have hR2 := (HR.out.below HB2.out).set_ T
  have hfr := ((((Fr.refl w hB (blk_lt HR.out)).below HB2.out).set_ (.string T)).below HB3.out)
  refine bodyPost_ret (v := .tuple #[.int .u8 0, .int .u8 255, clOf ((f NM.data.toList).getD 0), .bool (f NM.data.toList).isSome]) (by simp [results, Tryd.results23, go_sem]) rfl ⟨clOf ((f NM.data.toList).getD 0), ?_, ?_, ?_, hfr.1, hfr.2.1⟩
  · rw [HI.out, HNL.out]
  · intro hok
    have hok' : (classTab nm).isSome = true := hok
    rw [HNL.out]
    obtain ⟨q, hq⟩ := Option.isSome_iff_exists.1 hok'
    obtain ⟨k, hkf⟩ := Option.isSome_iff_exists.1 ((HI.out nm).trans hok')
    obtain ⟨b, rfl, hbk, _⟩ := HKK.out nm k q hkf hq
    show SoV w3 R (classTab nm) (clOf ((f nm).getD 0))
    rw [hq, hkf]
    refine ⟨b, rfl, hbk, ?_⟩
    intro e
    have h3 := hR2.below HB3.out
    rw [e] at hbk
    have := (Rd.cell h3).symm.trans ((blk_cell hbk 0).trans rfl)
    have h4 : w3.heap[R]? = some (.cells #[.string T] 48 (0, 0)) := h3
    rw [h4] at hbk
    simp at hbk
  · show Rd w3 R ⟨(s.data.toList.drop (nm.length + 4)).toArray⟩
    rw [HTE.out]
    exact hR2.below HB3.out

set_option maxHeartbeats 8000000 in
set_option maxRecDepth 100000 in
theorem thing_short (s : ByteArray) (hs0 : s.size ≠ 0) (hs : s.size ≤ 4000000000) (base R : Nat) (w : World) (G : Glob w) (hR : Rd w R s) (h2 : 2 < R) (hB : base ≤ R) (hc : (classOf s.data.toList).2 = false)
    (a : Int) (ok : Bool) (T : ByteArray) (hsg : singleOf s.data.toList = (a, ok, T.data.toList)) (hend : ok = false ∨ (ok = true ∧ T.size < 2) ∨ (ok = true ∧ ∃ h : 2 ≤ T.size, ((T[0]'(by omega)).toNat : Int) ≠ 45)) :
    Calls Tryd.prog 23 #[.pointer (some ⟨R, 0, none⟩)] w (thingPost base R w ⟨a, a, none, ok, T.data.toList⟩) := by
  have hcl := class_walk s hs w G
  rw [hc] at hcl
  obtain ⟨nm, hnm⟩ : ∃ nm, (classOf s.data.toList).1 = nm := ⟨_, rfl⟩
  rw [hnm] at hcl
  have hsw : ∀ W, Glob W → Rd W R s → base ≤ R → Calls Tryd.prog 29 #[.pointer (some ⟨R, 0, none⟩)] W (singlePost base R W s.data.toList) := fun W g r hb => single_walk s hs0 hs base R W g r h2 hb
  have hsw2 : ∀ W, Glob W → Rd W R s → base ≤ R → Calls Tryd.prog 29 #[.pointer (some ⟨R, 0, none⟩)] W (fun e w' => e = .returned (.tuple #[.int .u8 a, .bool ok]) ∧ Rd w' R T ∧ Below base W w' ∧ KeepBut W w' R none) := fun W g r hb => by
    refine (hsw W g r hb).mono ?_
    rintro e w' ⟨h1, h3, h4, h5⟩
    rw [hsg] at h1 h3
    exact ⟨h1, h3, h4, h5⟩
  have HR := Lib.hid hR
  have HG := Lib.hid G
  have HCL := Lib.hid hcl
  have HSW := Lib.hid hsw2
  clear hR hc hnm hcl hsw hsw2 G hsg
  rcases hend with rfl | ⟨rfl, hlt⟩ | ⟨rfl, hge, hd⟩
  · go_enter Tryd.func23, Tryd.ntmps23
    go_wp2_with (first
      | (refine wpList_load_row rfl 48 _ rfl R rfl 48 _ (0, 0) _ HR.out Tryd.underlying48 rfl (by kernel_rfl) ?_)
      | (go_at_call 26; refine HCL.out.mono ?_; rintro e w2 ⟨rfl, hb2⟩; have HB2 := Lib.hid hb2; clear hb2)
      | (go_at_call 29; refine (HSW.out _ (HG.out.below HB2.out) (HR.out.below HB2.out) hB).mono ?_; rintro e w5 ⟨rfl, hr5, hb5, hk5⟩; have HR5 := Lib.hid hr5; have HB5 := Lib.hid hb5; have HK5 := Lib.hid hk5; clear hr5 hb5 hk5))
    have hfr := ((Fr.refl w hB (blk_lt HR.out)).below HB2.out).fr HB5.out HK5.out
    exact bodyPost_ret (v := .tuple #[.int .u8 a, .int .u8 a, .func (.func 28) #[] #[], .bool false]) (by simp [results, Tryd.results23, go_sem]) rfl ⟨.func (.func 28) #[] #[], rfl, (fun h => by cases h), HR5.out, hfr.1, hfr.2.1⟩
  · have hltI : (T.size : Int) < 2 := by omega
    clear hlt
    go_enter Tryd.func23, Tryd.ntmps23
    go_wp2_with (first
      | (refine wpList_load_row rfl 48 _ rfl R rfl 48 _ (0, 0) _ HR.out Tryd.underlying48 rfl (by kernel_rfl) ?_)
      | (go_at_call 26; refine HCL.out.mono ?_; rintro e w2 ⟨rfl, hb2⟩; have HB2 := Lib.hid hb2; clear hb2)
      | (go_at_call 29; refine (HSW.out _ (HG.out.below HB2.out) (HR.out.below HB2.out) hB).mono ?_; rintro e w5 ⟨rfl, hr5, hb5, hk5⟩; have hc5 := hr5.cell; have HR5 := Lib.hid hr5; have HB5 := Lib.hid hb5; have HK5 := Lib.hid hk5; clear hr5 hb5 hk5))
    have hfr := ((Fr.refl w hB (blk_lt HR.out)).below HB2.out).fr HB5.out HK5.out
    exact bodyPost_ret (v := .tuple #[.int .u8 a, .int .u8 a, .func (.func 28) #[] #[], .bool true]) (by simp [results, Tryd.results23, go_sem]) rfl ⟨.func (.func 28) #[] #[], rfl, (fun _ => rfl), HR5.out, hfr.1, hfr.2.1⟩
  · have hgeI : ¬ (T.size : Int) < 2 := by omega
    have hpos : (0 : Int) < (T.size : Int) := by omega
    have h00 : 0 < T.size := by omega
    obtain ⟨d, hdd⟩ : ∃ d : Int, ((T[0]'h00).toNat : Int) = d := ⟨_, rfl⟩
    have hd' : d ≠ 45 := by rw [← hdd]; exact hd
    have hdn : (d != 45) = true := bne_iff_ne.2 hd'
    have hde : (d == 45) = false := beq_eq_false_iff_ne.2 hd'
    clear hge hd hd'
    go_enter Tryd.func23, Tryd.ntmps23
    go_wp2_with (first
      | (refine wpList_load_row rfl 48 _ rfl R rfl 48 _ (0, 0) _ HR.out Tryd.underlying48 rfl (by kernel_rfl) ?_)
      | (go_at_call 26; refine HCL.out.mono ?_; rintro e w2 ⟨rfl, hb2⟩; have HB2 := Lib.hid hb2; clear hb2)
      | (go_at_call 29; refine (HSW.out _ (HG.out.below HB2.out) (HR.out.below HB2.out) hB).mono ?_; rintro e w5 ⟨rfl, hr5, hb5, hk5⟩; have hc5 := hr5.cell; have HR5 := Lib.hid hr5; have HB5 := Lib.hid hb5; have HK5 := Lib.hid hk5; clear hr5 hb5 hk5))
    have hfr := ((Fr.refl w hB (blk_lt HR.out)).below HB2.out).fr HB5.out HK5.out
    exact bodyPost_ret (v := .tuple #[.int .u8 a, .int .u8 a, .func (.func 28) #[] #[], .bool true]) (by simp [results, Tryd.results23, go_sem]) rfl ⟨.func (.func 28) #[] #[], rfl, (fun _ => rfl), HR5.out, hfr.1, hfr.2.1⟩

set_option maxHeartbeats 16000000 in
set_option maxRecDepth 100000 in
theorem thing_range (s : ByteArray) (hs0 : s.size ≠ 0) (hs : s.size ≤ 4000000000) (base R : Nat) (w : World) (G : Glob w) (hR : Rd w R s) (h2 : 2 < R) (hB : base ≤ R) (hc : (classOf s.data.toList).2 = false)
    (a : Int) (T U : ByteArray) (hsg : singleOf s.data.toList = (a, true, T.data.toList)) (hT2 : 2 ≤ T.size) (hTs : T.size ≤ 4000000000) (hd : ((T[0]'(by omega)).toNat : Int) = 45) (hU : T.extract 1 T.size = U) (hUs : U.size + 1 = T.size) (t : Th)
    (ht : ((classOf U.data.toList).2 = true ∧ t = ⟨a, a, none, true, T.data.toList⟩) ∨ ((classOf U.data.toList).2 = false ∧ t = ⟨a, (singleOf U.data.toList).1, none, (singleOf U.data.toList).2.1 && decide (a ≤ (singleOf U.data.toList).1), (singleOf U.data.toList).2.2⟩)) :
    Calls Tryd.prog 23 #[.pointer (some ⟨R, 0, none⟩)] w (thingPost base R w t) := by
  have hcl := class_walk s hs w G
  rw [hc] at hcl
  obtain ⟨nm, hnm⟩ : ∃ nm, (classOf s.data.toList).1 = nm := ⟨_, rfl⟩
  rw [hnm] at hcl
  have hsw : ∀ W, Glob W → Rd W R s → base ≤ R → Calls Tryd.prog 29 #[.pointer (some ⟨R, 0, none⟩)] W (fun e w' => e = .returned (.tuple #[.int .u8 a, .bool true]) ∧ Rd w' R T ∧ Below base W w' ∧ KeepBut W w' R none) := fun W g r hb => by
    refine (single_walk s hs0 hs base R W g r h2 hb).mono ?_
    rintro e w' ⟨h1, h3, h4, h5⟩
    rw [hsg] at h1 h3
    exact ⟨h1, h3, h4, h5⟩
  have hUz : U.size ≤ 4000000000 := by omega
  have hU0 : U.size ≠ 0 := by omega
  have hcl2 := fun W g => class_walk U hUz W g
  obtain ⟨nm2, hnm2⟩ : ∃ nm2, (classOf U.data.toList).1 = nm2 := ⟨_, rfl⟩
  have hgeI : ¬ (T.size : Int) < 2 := by omega
  have hpos : (0 : Int) < (T.size : Int) := by omega
  have hpos1 : (1 : Int) ≤ (T.size : Int) := by omega
  have h00 : 0 < T.size := by omega
  have hdd : ((T[0]'h00).toNat : Int) = 45 := hd
  have HR := Lib.hid hR
  have HG := Lib.hid G
  have HCL := Lib.hid hcl
  have HSW := Lib.hid hsw
  rcases ht with ⟨hc2, rfl⟩ | ⟨hc2, rfl⟩
  · rw [hc2, hnm2] at hcl2
    have HCL2 := Lib.hid hcl2
    clear hR hc hnm hcl hsw G hsg hcl2 hnm2 hc2 hT2 hd hUs hU0
    go_enter Tryd.func23, Tryd.ntmps23
    go_upto_region 12 with (first
      | (refine wpList_load_row rfl 48 _ rfl R rfl 48 _ (0, 0) _ HR.out Tryd.underlying48 rfl (by kernel_rfl) ?_)
      | (go_at_call 26; refine HCL.out.mono ?_; rintro e w2 ⟨rfl, hb2⟩; have HB2 := Lib.hid hb2; clear hb2)
      | (go_at_call 29; refine (HSW.out _ (HG.out.below HB2.out) (HR.out.below HB2.out) hB).mono ?_; rintro e w5 ⟨rfl, hr5, hb5, hk5⟩; have hc5 := hr5.cell; have HR5 := Lib.hid hr5; have HB5 := Lib.hid hb5; have HK5 := Lib.hid hk5; clear hr5 hb5 hk5))
    have hfr := ((Fr.refl w hB (blk_lt HR.out)).below HB2.out).fr HB5.out HK5.out
    have HG5 : Hid (Glob w5) := Lib.hid (HG.out.of_cells fun i hi => hfr.2.1.2 i (by have := HG.out.lt; omega) (by omega) (by simp))
    have HFR := Lib.hid (hfr.below ((Below.refl w5.heap.size w5).alloc (Nat.le_refl _) (.cells #[.string U] 48)))
    have HRU : Hid (Rd (w5.alloc (.cells #[.string U] 48)) w5.heap.size U) := Lib.hid (heap_alloc_new w5 _)
    have HG6 : Hid (Glob (w5.alloc (.cells #[.string U] 48))) := Lib.hid (HG5.out.below ((Below.refl w5.heap.size w5).alloc (Nat.le_refl _) _))
    have HR6 : Hid (Rd (w5.alloc (.cells #[.string U] 48)) R T) := Lib.hid (HR5.out.below ((Below.refl w5.heap.size w5).alloc (Nat.le_refl _) _))
    clear hfr
    go_wp2_with (first
      | (refine wpList_load_row rfl 48 _ rfl _ rfl 48 _ (0, 0) _ HRU.out Tryd.underlying48 rfl (by kernel_rfl) ?_)
      | (go_at_call 26; refine (HCL2.out _ HG6.out).mono ?_; rintro e w7 ⟨rfl, hb7⟩; have HB7 := Lib.hid hb7; clear hb7))
    have hfr := HFR.out.below HB7.out
    exact bodyPost_ret (v := .tuple #[.int .u8 a, .int .u8 a, .func (.func 28) #[] #[], .bool true]) (by simp [results, Tryd.results23, go_sem]) rfl ⟨.func (.func 28) #[] #[], rfl, (fun _ => rfl), HR6.out.below HB7.out, hfr.1, hfr.2.1⟩
  · rw [hc2, hnm2] at hcl2
    have HCL2 := Lib.hid hcl2
    have hrngb := singleOf_rng U.data.toList
    have hrnga : 0 ≤ a ∧ a ≤ 255 := by
      have h := singleOf_rng s.data.toList
      rw [hsg] at h
      exact h
    obtain ⟨b, okb, V, hsgU⟩ : ∃ (b : Int) (okb : Bool) (V : ByteArray), singleOf U.data.toList = (b, okb, V.data.toList) := ⟨_, _, ⟨(singleOf U.data.toList).2.2.toArray⟩, rfl⟩
    have hswU : ∀ W R2, Glob W → Rd W R2 U → 2 < R2 → Calls Tryd.prog 29 #[.pointer (some ⟨R2, 0, none⟩)] W (fun e w' => e = .returned (.tuple #[.int .u8 b, .bool okb]) ∧ Rd w' R2 V ∧ Below R2 W w' ∧ KeepBut W w' R2 none) := fun W R2 g r hr2 => by
      refine (single_walk U hU0 hUz R2 R2 W g r hr2 (Nat.le_refl _)).mono ?_
      rintro e w' ⟨h1, h3, h4, h5⟩
      rw [hsgU] at h1 h3
      exact ⟨h1, h3, h4, h5⟩
    rw [hsgU] at hrngb ⊢
    have HSWU := Lib.hid hswU
    have a0 : 0 ≤ a := hrnga.1
    have a1 : a ≤ 255 := hrnga.2
    have b0 : 0 ≤ b := hrngb.1
    have b1 : b ≤ 255 := hrngb.2
    clear hR hc hnm hcl hsw G hsg hcl2 hnm2 hc2 hT2 hd hUs hU0 hsgU hswU hrngb hrnga
    go_enter Tryd.func23, Tryd.ntmps23
    go_upto_region 12 with (first
      | (refine wpList_load_row rfl 48 _ rfl R rfl 48 _ (0, 0) _ HR.out Tryd.underlying48 rfl (by kernel_rfl) ?_)
      | (go_at_call 26; refine HCL.out.mono ?_; rintro e w2 ⟨rfl, hb2⟩; have HB2 := Lib.hid hb2; clear hb2)
      | (go_at_call 29; refine (HSW.out _ (HG.out.below HB2.out) (HR.out.below HB2.out) hB).mono ?_; rintro e w5 ⟨rfl, hr5, hb5, hk5⟩; have hc5 := hr5.cell; have HR5 := Lib.hid hr5; have HB5 := Lib.hid hb5; have HK5 := Lib.hid hk5; clear hr5 hb5 hk5))
    have hfr := ((Fr.refl w hB (blk_lt HR.out)).below HB2.out).fr HB5.out HK5.out
    have HG5 : Hid (Glob w5) := Lib.hid (HG.out.of_cells fun i hi => hfr.2.1.2 i (by have := HG.out.lt; omega) (by omega) (by simp))
    have HFR := Lib.hid (hfr.below ((Below.refl w5.heap.size w5).alloc (Nat.le_refl _) (.cells #[.string U] 48)))
    have HRU : Hid (Rd (w5.alloc (.cells #[.string U] 48)) w5.heap.size U) := Lib.hid (heap_alloc_new w5 _)
    have HG6 : Hid (Glob (w5.alloc (.cells #[.string U] 48))) := Lib.hid (HG5.out.below ((Below.refl w5.heap.size w5).alloc (Nat.le_refl _) _))
    have HR6 : Hid (Rd (w5.alloc (.cells #[.string U] 48)) R T) := Lib.hid (HR5.out.below ((Below.refl w5.heap.size w5).alloc (Nat.le_refl _) _))
    have HLT : Hid (2 < w5.heap.size ∧ R < w5.heap.size) := Lib.hid ⟨HG5.out.lt, blk_lt HR5.out⟩
    have HLW : Hid (w.heap.size ≤ w5.heap.size) := Lib.hid hfr.2.1.1
    clear hfr
    go_upto_region 16 with (first
      | (refine wpList_load_row rfl 48 _ rfl _ rfl 48 _ (0, 0) _ HRU.out Tryd.underlying48 rfl (by kernel_rfl) ?_)
      | (go_at_call 26; refine (HCL2.out _ HG6.out).mono ?_; rintro e w7 ⟨rfl, hb7⟩; have HB7 := Lib.hid hb7; clear hb7)
      | (go_at_call 29; refine (HSWU.out _ _ (HG6.out.below HB7.out) (HRU.out.below HB7.out) HLT.out.1).mono ?_; rintro e w8 ⟨rfl, hr8, hb8, hk8⟩; have HR8 := Lib.hid hr8; have HB8 := Lib.hid hb8; have HK8 := Lib.hid hk8; clear hr8 hb8 hk8))
    have hRR : R ≠ w5.heap.size := by have := HLT.out.2; omega
    have HR9 : Hid (Rd w8 R T) := Lib.hid ((HK8.out.2 R (by have := blk_lt (HR6.out.below HB7.out); exact this) hRR (by simp)).trans (HR6.out.below HB7.out))
    have cU := HR8.out.cell
    have cR := HR9.out.cell
    have fR := HR9.out.free
    have hfr8 : Fr base R w w8 := by
      have h7 := HFR.out.below HB7.out
      have hlt := HLT.out.2
      have hle : w.heap.size ≤ w5.heap.size := HLW.out
      refine ⟨h7.1.trans (HB8.out.mono (by have := h7.2.2.1; omega)), ⟨Nat.le_trans h7.2.1.1 HK8.out.1, fun i hi hne hr => ?_⟩, h7.2.2⟩
      have h7s := h7.2.1.1
      exact (HK8.out.2 i (by omega) (by omega) (by simp)).trans (h7.2.1.2 i hi hne hr)
    have HFR8 := Lib.hid hfr8
    clear hfr8 hRR
    cases okb with
    | false =>
      go_wp2
      have hfr := HFR8.out.set_ (.string V)
      exact bodyPost_ret (v := .tuple #[.int .u8 a, .int .u8 b, .func (.func 28) #[] #[], .bool false]) (by simp [results, Tryd.results23, go_sem]) rfl ⟨.func (.func 28) #[] #[], rfl, (fun h => by cases h), HR9.out.set_ V, hfr.1, hfr.2.1⟩
    | true =>
      by_cases hab : a ≤ b
      · have hdec : decide (a ≤ b) = true := decide_eq_true hab
        go_wp2
        have hfr := HFR8.out.set_ (.string V)
        exact bodyPost_ret (v := .tuple #[.int .u8 a, .int .u8 b, .func (.func 28) #[] #[], .bool true]) (by simp [results, Tryd.results23, go_sem]) rfl ⟨.func (.func 28) #[] #[], (by rw [Bool.true_and, hdec]), (fun _ => rfl), HR9.out.set_ V, hfr.1, hfr.2.1⟩
      · have hdec : decide (a ≤ b) = false := decide_eq_false hab
        go_wp2
        have hfr := HFR8.out.set_ (.string V)
        exact bodyPost_ret (v := .tuple #[.int .u8 a, .int .u8 b, .func (.func 28) #[] #[], .bool false]) (by simp [results, Tryd.results23, go_sem]) rfl ⟨.func (.func 28) #[] #[], (by first | rfl | rw [Bool.true_and, hdec]), (fun h => by first | (cases h; done) | exact absurd (show (true && decide (a ≤ b)) = true from h) (by rw [hdec]; simp)), HR9.out.set_ V, hfr.1, hfr.2.1⟩

theorem thing_walk (s : ByteArray) (hs0 : s.size ≠ 0) (hs : s.size ≤ 4000000000) (base R : Nat) (w : World) (G : Glob w) (hR : Rd w R s) (h2 : 2 < R) (hB : base ≤ R) :
    Calls Tryd.prog 23 #[.pointer (some ⟨R, 0, none⟩)] w (thingPost base R w (thingOf s.data.toList)) := by
  cases hc : (classOf s.data.toList).2 with
  | true => exact thing_class s hs0 hs base R w G hR h2 hB hc
  | false =>
    have hlen := singleOf_len s.data.toList
    obtain ⟨a, ok, T, hsg⟩ : ∃ (a : Int) (ok : Bool) (T : ByteArray), singleOf s.data.toList = (a, ok, T.data.toList) := ⟨_, _, ⟨(singleOf s.data.toList).2.2.toArray⟩, rfl⟩
    have hth : thingOf s.data.toList = if ok = false then ⟨a, a, none, false, T.data.toList⟩ else match T.data.toList with
        | d :: e :: r => if d.toNat = 45 then
            (if (classOf (e :: r)).2 = true then ⟨a, a, none, true, d :: e :: r⟩
            else ⟨a, (singleOf (e :: r)).1, none, (singleOf (e :: r)).2.1 && decide (a ≤ (singleOf (e :: r)).1), (singleOf (e :: r)).2.2⟩)
          else ⟨a, a, none, true, d :: e :: r⟩
        | r => ⟨a, a, none, true, r⟩ := by
      unfold thingOf
      rw [if_neg (by rw [hc]; simp), hsg]
    rw [hsg] at hlen
    have hTs : T.size ≤ 4000000000 := by
      have h1 : T.data.toList.length ≤ s.data.toList.length - 1 := hlen
      rw [data_length, data_length] at h1
      omega
    rw [hth]
    cases ok with
    | false => exact thing_short s hs0 hs base R w G hR h2 hB hc a false T hsg (.inl rfl)
    | true =>
      rw [if_neg (by simp)]
      match hl : T.data.toList with
      | [] =>
        have h := thing_short s hs0 hs base R w G hR h2 hB hc a true T hsg (.inr (.inl ⟨rfl, by rw [← data_length, hl]; simp⟩))
        rw [hl] at h
        exact h
      | [d] =>
        have h := thing_short s hs0 hs base R w G hR h2 hB hc a true T hsg (.inr (.inl ⟨rfl, by rw [← data_length, hl]; simp⟩))
        rw [hl] at h
        exact h
      | d :: e :: r =>
        have hsz : 2 ≤ T.size := by rw [← data_length, hl]; simp
        have h0 : 0 < T.size := by omega
        have hT0 : T[0]'h0 = d := by
          have h := get_drop T 0 h0
          rw [List.drop_zero, hl] at h
          exact (List.cons.inj h).1.symm
        by_cases hd : d.toNat = 45
        · have hUl : (T.extract 1 T.size).data.toList = e :: r := by
            rw [Lib.extract_to_end T 1, hl]
            rfl
          have hUs : (T.extract 1 T.size).size + 1 = T.size := by
            rw [← data_length (T.extract 1 T.size), hUl, ← data_length T, hl]
            rfl
          refine thing_range s hs0 hs base R w G hR h2 hB hc a T (T.extract 1 T.size) hsg hsz hTs (by rw [hT0, hd]; rfl) rfl hUs _ ?_
          rw [hUl]
          cases hc2 : (classOf (e :: r)).2 with
          | true => exact .inl ⟨rfl, by simp only [if_pos hd, if_pos hc2, hl]⟩
          | false => exact .inr ⟨rfl, by simp only [if_pos hd]; rw [if_neg (by rw [hc2]; simp)]⟩
        · have h := thing_short s hs0 hs base R w G hR h2 hB hc a true T hsg (.inr (.inr ⟨rfl, hsz, by rw [hT0]; omega⟩))
          rw [hl] at h
          simp only [if_neg hd]
          exact h
end Go.Proofs.YtndmngijfleilaaDoor.L
