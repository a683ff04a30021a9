/- sets.Parse: the walk. -/
import Derived.Test.YtndmngijfleilaaDoorThing
namespace Go.Proofs.YtndmngijfleilaaDoor.L
open Go.RowKit Go.Shelf Go.Proofs.YtndmngijfleilaaDoorW.PrintWords

def pOf : Option (List UInt8) → Int → Bool
  | none, _ => true
  | some q, c => amongGo q c
/-- The bytes that are so, n from c on. -/
def toldN (cls : Option (List UInt8)) : Nat → Int → List Int
  | 0, _ => []
  | n + 1, c => if pOf cls c = true then c :: toldN cls n (c + 1) else toldN cls n (c + 1)
def told (t : Th) : List Int := toldN t.cls (t.b + 1 - t.a).toNat t.a
theorem toldN_len (cls : Option (List UInt8)) : ∀ (n : Nat) (c : Int), (toldN cls n c).length ≤ n
  | 0, _ => Nat.le_refl _
  | n + 1, c => by
    have := toldN_len cls n (c + 1)
    simp only [toldN]
    split
    · simp only [List.length_cons]; omega
    · omega
def parseAll : Nat → List UInt8 → Option (List Int)
  | 0, _ => none
  | _ + 1, [] => some []
  | n + 1, c :: cs => if (thingOf (c :: cs)).ok = true then (parseAll n (thingOf (c :: cs)).rest).map fun r => told (thingOf (c :: cs)) ++ r else none
def parseAns : Option (List Int) → List Int × Int
  | none => ([], 5)
  | some all => if all.length > 65536 then ([], 3) else (all, 0)
def parseOf (l : List UInt8) : List Int × Int := parseAns (parseAll (l.length + 1) l)

theorem thing_len (l : List UInt8) (h : l ≠ []) : (thingOf l).rest.length + 1 ≤ l.length := by
  have hl : 0 < l.length := List.length_pos_iff.2 h
  have h1 := singleOf_len l
  unfold thingOf
  split
  · rename_i hc
    have := class_len l hc
    simp only [List.length_drop]
    omega
  · split
    · show (singleOf l).2.2.length + 1 ≤ l.length
      omega
    · split
      · rename_i d e r hr
        rw [hr] at h1
        have h2 := singleOf_len (e :: r)
        split
        · split
          · show (d :: e :: r).length + 1 ≤ l.length
            omega
          · show (singleOf (e :: r)).2.2.length + 1 ≤ l.length
            simp only [List.length_cons] at h1 h2
            omega
        · show (d :: e :: r).length + 1 ≤ l.length
          omega
      · show (singleOf l).2.2.length + 1 ≤ l.length
        omega
theorem thing_rng (l : List UInt8) : 0 ≤ (thingOf l).a ∧ (thingOf l).a ≤ 255 ∧ 0 ≤ (thingOf l).b ∧ (thingOf l).b ≤ 255 := by
  have h1 := singleOf_rng l
  unfold thingOf
  split
  · show (0 : Int) ≤ 0 ∧ (0 : Int) ≤ 255 ∧ (0 : Int) ≤ 255 ∧ (255 : Int) ≤ 255
    omega
  · split
    · exact ⟨h1.1, h1.2, h1.1, h1.2⟩
    · split
      · rename_i d e r hr
        have h2 := singleOf_rng (e :: r)
        split
        · split
          · exact ⟨h1.1, h1.2, h1.1, h1.2⟩
          · exact ⟨h1.1, h1.2, h2.1, h2.2⟩
        · exact ⟨h1.1, h1.2, h1.1, h1.2⟩
      · exact ⟨h1.1, h1.2, h1.1, h1.2⟩
theorem updS_small {f : Key → Option Key} {nm r : Key} (hf : ∀ c q, f c = some q → q.length ≤ 1000) (hr : r.length ≤ 1000) : ∀ c q, updS f nm r c = some q → q.length ≤ 1000 := by
  intro c q h
  unfold updS at h
  split at h
  · cases h
    exact hr
  · exact hf c q h
theorem classTab_small : ∀ (c q : List UInt8), classTab c = some q → q.length ≤ 1000 := by
  unfold classTab
  iterate 12 (refine updS_small ?_ (by decide))
  intro c q h
  cases h
theorem thing_cls (l : List UInt8) (q : List UInt8) (h : (thingOf l).cls = some q) : q.length ≤ 1000 := by
  unfold thingOf at h
  split at h
  · exact classTab_small _ _ h
  · split at h
    · cases h
    · split at h
      · split at h
        · split at h <;> cases h
        · cases h
      · cases h
/-- How much a reader still has. -/
def rdSize (W : World) (R : Nat) : Nat := match W.cell? ⟨R, 0, none⟩ with
  | some (.string x) => x.size
  | _ => 0
theorem rdSize_of {W : World} {R : Nat} {x : ByteArray} (h : Rd W R x) : rdSize W R = x.size := by
  unfold rdSize
  rw [h.cell]
theorem own_ne48 {W : World} {base R : Nat} {v : Value} {xs : List Int} {x : ByteArray} (h : W.ownsRow base 5 1 v xs.length (nums .u8 xs)) (hR : Rd W R x) : v.ownBlock ≠ some R := fun e => own_ne h hR (by decide) e.symm
theorem own_em (v : Value) : v.ownBlock = none ∨ v.ownBlock ≠ none := by cases v.ownBlock <;> simp
theorem fn28 (c : Int) (w : World) : Calls Tryd.prog 28 #[.int .u8 c] w fun e w' => e = .returned (.bool true) ∧ w = w' := by
  go_enter Tryd.func28, Tryd.ntmps28
  go_wp2
  go_ret
  exact ⟨rfl, rfl⟩
theorem take_snoc_lt (l : List Int) (c : Int) (h : l.length < 65536) : (l ++ [c]).take 65536 = l.take 65536 ++ [c] := by
  rw [List.take_of_length_le (by simp; omega), List.take_of_length_le (by omega)]
theorem take_snoc_ge (l : List Int) (c : Int) (h : ¬ l.length < 65536) : (l ++ [c]).take 65536 = l.take 65536 := by
  rw [List.take_append_of_le_length (by omega)]

set_option maxHeartbeats 16000000 in
set_option maxRecDepth 100000 in
theorem parse_walk (s : ByteArray) (hs : s.size ≤ 4000000000) (w : World) (G : Glob w) :
    Calls Tryd.prog 15 #[.string s] w fun e w' => ∃ v0_ : Value, e = .returned (.tuple #[v0_, .int .i64 (parseOf s.data.toList).2]) ∧ Kd.R (Kd.int .u8) 5 w' w.heap.size (fun _ => True) v0_ (parseOf s.data.toList).1 ∧ Below w.heap.size w w' := by
  obtain ⟨ANS, hANS⟩ : ∃ A, parseAll (s.data.toList.length + 1) s.data.toList = A := ⟨_, rfl⟩
  unfold parseOf
  rw [hANS]
  have HANS := Lib.hid hANS
  have HG := Lib.hid G
  have h2R := G.lt
  have H2R := Lib.hid h2R
  clear hANS G h2R
  go_enter Tryd.func15, Tryd.ntmps15
  go_wp2
  go_loopw [4, 5] (fun v4 v5 wr => ∃ (rest : ByteArray) (acc : List Int) (n : Nat), v5 = .int .i64 acc.length ∧ Hid (wr.ownsRow w.heap.size 5 1 v4 (acc.take 65536).length (nums .u8 (acc.take 65536))) ∧ Hid (Rd wr w.heap.size rest) ∧ Hid (Glob wr) ∧ Hid (Below w.heap.size w wr) ∧ Hid (rest.size < n ∧ rest.size ≤ 4000000000 ∧ acc.length + 256 * rest.size ≤ 1024000000000) ∧ Hid (ANS = (parseAll n rest.data.toList).map fun r => acc ++ r)) (fun _ _ wr => rdSize wr w.heap.size)
  case atStart => exact ⟨s, [], s.data.toList.length + 1, rfl, Lib.hid (own_nil _ _ _ _), Lib.hid (heap_alloc_new w _), Lib.hid (HG.out.below ((Below.refl _ w).alloc (Nat.le_refl _) _)), Lib.hid ((Below.refl _ w).alloc (Nat.le_refl _) _), Lib.hid ⟨by rw [data_length]; omega, hs, by simp; omega⟩, Lib.hid (by rw [← HANS.out]; cases parseAll (s.data.toList.length + 1) s.data.toList <;> rfl)⟩
  case round =>
    have HGw := HG
    clear HG HANS
    obtain ⟨rest, acc, n, rfl, HO, HR, HG, HB, HN, HE⟩ := hrel
    have hcell := HR.out.cell
    by_cases hz : rest.size = 0
    · have hre : rest = ⟨#[]⟩ := by
        apply ByteArray.ext
        exact Array.eq_empty_of_size_eq_zero hz
      have hem : rest.toList.isEmpty = true := by rw [← decide_eq_emptyBytes]; exact decide_eq_true hre
      have hem2 : rest.toList = [] := List.isEmpty_iff.1 hem
      have HA : Hid (ANS = some acc) := Lib.hid (by
        obtain ⟨m, rfl⟩ : ∃ m, n = m + 1 := ⟨n - 1, by have := HN.out.1; omega⟩
        rw [HE.out, hre]
        simp [parseAll])
      clear hz hre HE
      by_cases hbig : (acc.length : Int) > 65536
      · have hbig2 : (65536 : Int) < (acc.length : Int) := hbig
        go_wp2
        go_ret2
        refine ⟨.slice none 0 0, ?_, ?_, HB.out⟩
        · rw [HA.out]
          simp only [parseAns]
          rw [if_pos (by omega)]
          rfl
        · rw [HA.out]
          simp only [parseAns]
          rw [if_pos (by omega)]
          exact Kd.R_nil _ _ _ _ _
      · have hbig2 : ¬ (65536 : Int) < (acc.length : Int) := hbig
        go_wp2
        go_ret2
        refine ⟨?v, ?x1, ?x2, HB.out⟩
        case x1 =>
          rw [HA.out]
          simp only [parseAns]
          rw [if_neg (by omega)]
          rfl
        case x2 =>
          rw [HA.out]
          simp only [parseAns]
          rw [if_neg (by omega)]
          have ho := HO.out
          rw [List.take_of_length_le (by omega)] at ho
          exact Kd.R_of_own (enc := Value.int .u8) (h1 := fun _ => rfl) ho (fun _ _ => trivial)
    · have hem : rest.toList.isEmpty = false := by
        rw [← decide_eq_emptyBytes]
        exact decide_eq_false (fun h => hz (by rw [h]; rfl))
      have hem2 : ¬ rest.toList = [] := fun h => by rw [h] at hem; cases hem
      obtain ⟨c0, cs0, hcs⟩ : ∃ c0 cs0, rest.data.toList = c0 :: cs0 := by
        cases h : rest.data.toList with
        | nil => exact absurd (by rw [← data_length, h]; rfl) hz
        | cons a l => exact ⟨a, l, rfl⟩
      obtain ⟨m, hm⟩ : ∃ m, n = m + 1 := ⟨n - 1, by have := HN.out.1; omega⟩
      have hth := thing_walk rest hz HN.out.2.1 w.heap.size w.heap.size wr HG.out HR.out H2R.out (Nat.le_refl _)
      have hrl := thing_len rest.data.toList (by rw [hcs]; simp)
      have hrg := thing_rng rest.data.toList
      have hsm := thing_cls rest.data.toList
      have hE2 : ANS = if (thingOf rest.data.toList).ok = true then (parseAll m (thingOf rest.data.toList).rest).map fun r => (acc ++ told (thingOf rest.data.toList)) ++ r else none := by
        rw [HE.out, hm, hcs]
        simp only [parseAll]
        split
        · cases parseAll m (thingOf (c0 :: cs0)).rest <;> simp
        · rfl
      obtain ⟨t, ht⟩ : ∃ t, thingOf rest.data.toList = t := ⟨_, rfl⟩
      rw [ht] at hth hrl hrg hsm hE2
      rw [data_length] at hrl
      obtain ⟨ta, tb, tc, tok, trest⟩ := t
      have HE2 := Lib.hid hE2
      have HTH := Lib.hid hth
      have HRL := Lib.hid hrl
      have HSM := Lib.hid hsm
      have HM := Lib.hid hm
      have a0 : 0 ≤ ta := hrg.1
      have a1 : ta ≤ 255 := hrg.2.1
      have b0 : 0 ≤ tb := hrg.2.2.1
      have b1 : tb ≤ 255 := hrg.2.2.2
      have HAL : Hid ((acc.length : Int) ≤ 1024000000000) := Lib.hid (by have := HN.out.2.2; omega)
      clear hz hcs hth hrl hrg hsm hE2 ht HE hm
      cases tok with
      | false =>
        have HA : Hid (ANS = none) := Lib.hid (by rw [HE2.out]; rw [if_neg (by simp)])
        go_wp2_with (go_at_call 23; refine HTH.out.mono ?_; rintro e w2 ⟨v, rfl, _, hr2, hb2, hk2⟩; have HB2 := Lib.hid hb2; clear hr2 hb2 hk2)
        go_ret2
        refine ⟨.slice none 0 0, ?_, ?_, HB.out.trans HB2.out⟩
        · rw [HA.out]
          rfl
        · rw [HA.out]
          exact Kd.R_nil _ _ _ _ _
      | true =>
        cases tc with
        | none =>
          have HT2 : Hid (ANS = (parseAll m trest).map fun r => (acc ++ toldN none (tb + 1 - ta).toNat ta) ++ r) := Lib.hid (by rw [HE2.out]; rw [if_pos rfl]; rfl)
          have HQS := Lib.hid HSM.out
          clear HE2
          go_upto_region 9 with (go_at_call 23; refine HTH.out.mono ?_; rintro e w2 ⟨v, rfl, hso, hr2, hb2, hk2⟩; have hv : v = .func (.func 28) #[] #[] := hso rfl; subst hv; have HB2 := Lib.hid hb2; have HK2 := Lib.hid hk2; have HR2 := Lib.hid hr2; clear hr2 hb2 hk2 hso)
          have HO2 := Lib.hid (HK2.out.own HO.out (own_ne48 HO.out HR.out) (own_em _))
          have HBW2 := Lib.hid (HB.out.trans HB2.out)
          clear HB2 HTH hem hem2 hcell
          go_loopw [4, 5, 11] (fun v4 v5 v11 wq => ∃ (c : Int) (acc2 : List Int), 0 ≤ c ∧ c ≤ 256 ∧ v11 = .int .i64 c ∧ v5 = .int .i64 acc2.length ∧ Hid (wq.ownsRow w.heap.size 5 1 v4 (acc2.take 65536).length (nums .u8 (acc2.take 65536))) ∧ Hid (Rd wq w.heap.size ⟨trest.toArray⟩) ∧ Hid (Below w.heap.size w wq) ∧ Hid (acc2 ++ toldN none (tb + 1 - c).toNat c = acc ++ toldN none (tb + 1 - ta).toNat ta) ∧ Hid (acc2.length + (tb + 1 - c).toNat ≤ acc.length + 256)) (fun _ _ v11 _ => (257 - intOf v11).toNat)
          case atStart => exact ⟨ta, acc, a0, by omega, (by first | rfl | simp), rfl, HO2, HR2, HBW2, Lib.hid rfl, Lib.hid (by omega)⟩
          case round =>
            clear HO2 HR2 HBW2
            obtain ⟨c, acc2, c0, c256, rfl, rfl, HQ, HRQ, HBQ, HEQ, HLQ⟩ := hrel
            have haL : (acc2.length : Int) ≤ 1024000001000 := by have h1 := HLQ.out; have h2 : (acc.length : Int) ≤ 1024000000000 := HAL.out; omega
            by_cases hcb : c ≤ tb
            · have hw8 : IntKind.u8.wrap c = c := by rw [IntKind.wrap_u8]; omega
              have hw8' : c % 256 = c := by omega
              have c255 : c ≤ 255 := by omega
              have hk1 : (tb + 1 - c).toNat = (tb + 1 - (c + 1)).toNat + 1 := by omega
              have hstep : toldN none (tb + 1 - c).toNat c = if pOf none c = true then c :: toldN none (tb + 1 - (c + 1)).toNat (c + 1) else toldN none (tb + 1 - (c + 1)).toNat (c + 1) := by
                rw [hk1]
                rfl
              have HST := Lib.hid hstep
              have HLQ2 : Hid (acc2.length + 1 + (tb + 1 - (c + 1)).toNat ≤ acc.length + 256) := Lib.hid (by have := HLQ.out; omega)
              clear hk1 hstep
              have HP : Hid (pOf none c = true) := Lib.hid rfl
              by_cases hl : acc2.length < 65536
              · have hle : (acc2.length : Int) + 1 ≤ 65536 := by omega
                have HTK := Lib.hid (take_snoc_lt acc2 c hl)
                have htl : (acc2.take 65536).length ≤ 65536 := by rw [List.length_take]; omega
                go_wp2_with (first
                  | (go_at_call 28; refine (fn28 c _).mono ?_; rintro e w3 ⟨rfl, rfl⟩)
                  | (at_builtin; refine print_append_num (w0 := w) w.heap.size rfl (.tmp 46) (.tmp 49) 22 5 .u8 1 rfl Tryd.underlying22 info5 (by decide) _ (acc2.take 65536) _ rfl rfl HQ.out HBQ.out HBQ.out.size (by omega) ?_; intro v1 w4 hown hbw hg hat; have HO4 := Lib.hid hown; have HB4 := Lib.hid hbw; have HG4 := Lib.hid hg; clear hown hbw hg hat))
                go_roundw
                case rel => exact ⟨c + 1, acc2 ++ [c], by omega, by omega, by go_num, (by first | rfl | (simp; done) | (simp; omega)), Lib.hid (by rw [HTK.out]; exact HO4.out), Lib.hid (blk_grown HRQ.out HG4.out (own_ne HQ.out HRQ.out (by decide))), HB4, Lib.hid (by rw [← HEQ.out, HST.out, if_pos HP.out]; simp), Lib.hid (by have := HLQ2.out; simp; omega)⟩
                case measure => simp [intOf]; omega
              · have HTK := Lib.hid (take_snoc_ge acc2 c hl)
                obtain ⟨L, hL⟩ : ∃ L : Int, (acc2.length : Int) = L := ⟨_, rfl⟩
                have hle : (65536 : Int) < L + 1 := by omega
                have hle2 : decide (L + 1 ≤ 65536) = false := decide_eq_false (by omega)
                rw [hL] at haL ⊢
                have HL2 := Lib.hid hL
                clear hl hL
                go_wp2_with (go_at_call 28; refine (fn28 c _).mono ?_; rintro e w3 ⟨rfl, rfl⟩)
                go_roundw
                case rel => exact ⟨c + 1, acc2 ++ [c], by omega, by omega, by go_num, (by rw [← HL2.out]; first | rfl | (simp; done) | (simp; omega)), Lib.hid (by rw [HTK.out]; exact HQ.out), HRQ, HBQ, Lib.hid (by rw [← HEQ.out, HST.out, if_pos HP.out]; simp), Lib.hid (by have := HLQ2.out; simp; omega)⟩
                case measure => simp [intOf]; omega
            · have HZ : Hid ((tb + 1 - c).toNat = 0) := Lib.hid (by omega)
              have HANS : Hid (ANS = (parseAll m trest).map fun r => acc2 ++ r) := Lib.hid (by
                have h := HEQ.out
                rw [HZ.out] at h
                simp only [toldN, List.append_nil] at h
                rw [HT2.out, ← h])
              have hsz : (⟨trest.toArray⟩ : ByteArray).size = trest.length := by show trest.toArray.size = _; rw [List.size_toArray]
              have HSZ := Lib.hid hsz
              have HRS := Lib.hid (rdSize_of HRQ.out)
              have HRS0 := Lib.hid (rdSize_of HR.out)
              clear hsz
              go_wp2
              go_roundw
              case rel => exact ⟨⟨trest.toArray⟩, acc2, m, rfl, HQ, HRQ, Lib.hid (HGw.out.below HBQ.out), HBQ, Lib.hid ⟨by have h1 := HSZ.out; have h2 := HRL.out; have h3 := HN.out; have h4 := HM.out; have h5 : trest.length + 1 ≤ rest.size := h2; omega, by have h1 := HSZ.out; have h2 := HRL.out; have h3 := HN.out; have h5 : trest.length + 1 ≤ rest.size := h2; omega, by have h1 := HSZ.out; have h2 := HRL.out; have h3 := HN.out; have h4 := HLQ.out; have h5 : trest.length + 1 ≤ rest.size := h2; omega⟩, HANS⟩
              case measure => rw [HRS.out, HRS0.out, HSZ.out]; have h5 : trest.length + 1 ≤ rest.size := HRL.out; omega
        | some q =>
          have HT2 : Hid (ANS = (parseAll m trest).map fun r => (acc ++ toldN (some q) (tb + 1 - ta).toNat ta) ++ r) := Lib.hid (by rw [HE2.out]; rw [if_pos rfl]; rfl)
          have HQS := Lib.hid HSM.out
          clear HE2
          go_upto_region 9 with (go_at_call 23; refine HTH.out.mono ?_; rintro e w2 ⟨v, rfl, hso, hr2, hb2, hk2⟩; obtain ⟨kb, hv, hkb, hkr⟩ := hso rfl; subst hv; have HKB := Lib.hid hkb; have HKR := Lib.hid hkr; clear hkb hkr; have HB2 := Lib.hid hb2; have HK2 := Lib.hid hk2; have HR2 := Lib.hid hr2; clear hr2 hb2 hk2 hso)
          have HO2 := Lib.hid (HK2.out.own HO.out (own_ne48 HO.out HR.out) (own_em _))
          have HBW2 := Lib.hid (HB.out.trans HB2.out)
          clear HB2 HTH hem hem2 hcell
          go_loopw [4, 5, 11] (fun v4 v5 v11 wq => ∃ (c : Int) (acc2 : List Int), 0 ≤ c ∧ c ≤ 256 ∧ v11 = .int .i64 c ∧ v5 = .int .i64 acc2.length ∧ Hid (wq.ownsRow w.heap.size 5 1 v4 (acc2.take 65536).length (nums .u8 (acc2.take 65536))) ∧ Hid (Rd wq w.heap.size ⟨trest.toArray⟩) ∧ Hid (Below w.heap.size w wq) ∧ Hid (acc2 ++ toldN (some q) (tb + 1 - c).toNat c = acc ++ toldN (some q) (tb + 1 - ta).toNat ta) ∧ Hid (acc2.length + (tb + 1 - c).toNat ≤ acc.length + 256) ∧ Hid (wq.heap[kb]? = some (.cells #[.string ⟨q.toArray⟩] 9 (0, 0)))) (fun _ _ v11 _ => (257 - intOf v11).toNat)
          case atStart => exact ⟨ta, acc, a0, by omega, (by first | rfl | simp), rfl, HO2, HR2, HBW2, Lib.hid rfl, Lib.hid (by omega), HKB⟩
          case round =>
            clear HO2 HR2 HBW2 HKB
            obtain ⟨c, acc2, c0, c256, rfl, rfl, HQ, HRQ, HBQ, HEQ, HLQ, HKQ⟩ := hrel
            have haL : (acc2.length : Int) ≤ 1024000001000 := by have h1 := HLQ.out; have h2 : (acc.length : Int) ≤ 1024000000000 := HAL.out; omega
            by_cases hcb : c ≤ tb
            · have hw8 : IntKind.u8.wrap c = c := by rw [IntKind.wrap_u8]; omega
              have hw8' : c % 256 = c := by omega
              have c255 : c ≤ 255 := by omega
              have hk1 : (tb + 1 - c).toNat = (tb + 1 - (c + 1)).toNat + 1 := by omega
              have hstep : toldN (some q) (tb + 1 - c).toNat c = if pOf (some q) c = true then c :: toldN (some q) (tb + 1 - (c + 1)).toNat (c + 1) else toldN (some q) (tb + 1 - (c + 1)).toNat (c + 1) := by
                rw [hk1]
                rfl
              have HST := Lib.hid hstep
              have HLQ2 : Hid (acc2.length + 1 + (tb + 1 - (c + 1)).toNat ≤ acc.length + 256) := Lib.hid (by have := HLQ.out; omega)
              clear hk1 hstep
              have hcl := among_closure ⟨q.toArray⟩ c kb wr HKQ.out c0 c255 (by show q.toArray.size ≤ 1000; rw [List.size_toArray]; exact HQS.out q rfl)
              have hpe : pOf (some q) c = amongGo q c := rfl
              obtain ⟨bb, hbb⟩ : ∃ bb, amongGo q c = bb := ⟨_, rfl⟩
              have hcl2 : Calls Tryd.prog 46 #[.int .u8 c, .pointer (some ⟨kb, 0, none⟩)] wr fun e w' => e = .returned (.bool bb) ∧ wr = w' := by
                rw [← hbb]
                exact hcl
              have HPE := Lib.hid (hpe.trans hbb)
              have HCL := Lib.hid hcl2
              clear hcl hcl2 hpe hbb
              cases bb with
              | false =>
                go_wp2_with (go_at_call 46; refine HCL.out.mono ?_; rintro e w3 ⟨rfl, rfl⟩)
                go_roundw
                case rel => exact ⟨c + 1, acc2, by omega, by omega, by go_num, rfl, HQ, HRQ, HBQ, Lib.hid (by rw [← HEQ.out, HST.out, if_neg (by rw [HPE.out]; simp)]), Lib.hid (by have := HLQ2.out; omega), HKQ⟩
                case measure => simp [intOf]; omega
              | true =>
                have HP : Hid (pOf (some q) c = true) := HPE
                by_cases hl : acc2.length < 65536
                · have hle : (acc2.length : Int) + 1 ≤ 65536 := by omega
                  have HTK := Lib.hid (take_snoc_lt acc2 c hl)
                  have htl : (acc2.take 65536).length ≤ 65536 := by rw [List.length_take]; omega
                  go_wp2_with (first
                    | (go_at_call 46; refine HCL.out.mono ?_; rintro e w3 ⟨rfl, rfl⟩)
                    | (at_builtin; refine print_append_num (w0 := w) w.heap.size rfl (.tmp 46) (.tmp 49) 22 5 .u8 1 rfl Tryd.underlying22 info5 (by decide) _ (acc2.take 65536) _ rfl rfl HQ.out HBQ.out HBQ.out.size (by omega) ?_; intro v1 w4 hown hbw hg hat; have HO4 := Lib.hid hown; have HB4 := Lib.hid hbw; have HG4 := Lib.hid hg; clear hown hbw hg hat))
                  go_roundw
                  case rel => exact ⟨c + 1, acc2 ++ [c], by omega, by omega, by go_num, (by first | rfl | (simp; done) | (simp; omega)), Lib.hid (by rw [HTK.out]; exact HO4.out), Lib.hid (blk_grown HRQ.out HG4.out (own_ne HQ.out HRQ.out (by decide))), HB4, Lib.hid (by rw [← HEQ.out, HST.out, if_pos HP.out]; simp), Lib.hid (by have := HLQ2.out; simp; omega), Lib.hid (blk_grown HKQ.out HG4.out (own_ne HQ.out HKQ.out (by decide)))⟩
                  case measure => simp [intOf]; omega
                · have HTK := Lib.hid (take_snoc_ge acc2 c hl)
                  obtain ⟨L, hL⟩ : ∃ L : Int, (acc2.length : Int) = L := ⟨_, rfl⟩
                  have hle : (65536 : Int) < L + 1 := by omega
                  have hle2 : decide (L + 1 ≤ 65536) = false := decide_eq_false (by omega)
                  rw [hL] at haL ⊢
                  have HL2 := Lib.hid hL
                  clear hl hL
                  go_wp2_with (go_at_call 46; refine HCL.out.mono ?_; rintro e w3 ⟨rfl, rfl⟩)
                  go_roundw
                  case rel => exact ⟨c + 1, acc2 ++ [c], by omega, by omega, by go_num, (by rw [← HL2.out]; first | rfl | (simp; done) | (simp; omega)), Lib.hid (by rw [HTK.out]; exact HQ.out), HRQ, HBQ, Lib.hid (by rw [← HEQ.out, HST.out, if_pos HP.out]; simp), Lib.hid (by have := HLQ2.out; simp; omega), HKQ⟩
                  case measure => simp [intOf]; omega
            · have HZ : Hid ((tb + 1 - c).toNat = 0) := Lib.hid (by omega)
              have HANS : Hid (ANS = (parseAll m trest).map fun r => acc2 ++ r) := Lib.hid (by
                have h := HEQ.out
                rw [HZ.out] at h
                simp only [toldN, List.append_nil] at h
                rw [HT2.out, ← h])
              have hsz : (⟨trest.toArray⟩ : ByteArray).size = trest.length := by show trest.toArray.size = _; rw [List.size_toArray]
              have HSZ := Lib.hid hsz
              have HRS := Lib.hid (rdSize_of HRQ.out)
              have HRS0 := Lib.hid (rdSize_of HR.out)
              clear hsz
              go_wp2
              go_roundw
              case rel => exact ⟨⟨trest.toArray⟩, acc2, m, rfl, HQ, HRQ, Lib.hid (HGw.out.below HBQ.out), HBQ, Lib.hid ⟨by have h1 := HSZ.out; have h2 := HRL.out; have h3 := HN.out; have h4 := HM.out; have h5 : trest.length + 1 ≤ rest.size := h2; omega, by have h1 := HSZ.out; have h2 := HRL.out; have h3 := HN.out; have h5 : trest.length + 1 ≤ rest.size := h2; omega, by have h1 := HSZ.out; have h2 := HRL.out; have h3 := HN.out; have h4 := HLQ.out; have h5 : trest.length + 1 ≤ rest.size := h2; omega⟩, HANS⟩
              case measure => rw [HRS.out, HRS0.out, HSZ.out]; have h5 : trest.length + 1 ≤ rest.size := HRL.out; omega
end Go.Proofs.YtndmngijfleilaaDoor.L
