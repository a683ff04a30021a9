/- The walk of opts.Parse. -/
import Derived.Test.YtemimbjnfadklaaDoorState
import Derived.Deep.LoopGhost
namespace Go.Proofs.YtemimbjnfadklaaDoor.L
open Go.RowKit Go.Maps Go.Proofs.YtemimbjnfadklaaDoorW.PrintWords

def ParsePost (w : World) (r : List S45 × List ByteArray × Int) (e : Ending) (w' : World) : Prop :=
  ∃ v0_ v1_ : Value, e = .returned (.tuple #[v0_, v1_, .int .i64 r.2.2]) ∧ Kd.R k45 45 w' w.heap.size (fun _ => True) v0_ r.1 ∧ Kd.R Kd.string 9 w' w.heap.size (fun _ => True) v1_ r.2.1 ∧ Below w.heap.size w w'
theorem parsePost_nil {w w' : World} (hb : Below w.heap.size w w') (n : Int) : ParsePost w ([], [], n) (.returned (.tuple #[.slice none 0 0, .slice none 0 0, .int .i64 n])) w' :=
  ⟨_, _, rfl, Kd.R_nil _ _ _ _ _, Kd.R_nil _ _ _ _ _, hb⟩

theorem finish {w wx w2 : World} {B n c : Nat} {f : Int → Option Bool} {A : Option Addr} {ws : List ByteArray} {v v2 : Value} {fl : List S45} {T : Option (List S45 × List ByteArray)} {r : List S45 × List ByteArray × Int}
    (h : St w wx B n f A c ws v fl) (hT : some (fl, ws) = T) (hr : parseAns T = r) (hR : Kd.R Kd.string 9 w2 wx.heap.size (fun _ => True) v2 ws) (hb : Below wx.heap.size wx w2) : ParsePost w r (.returned (.tuple #[v, v2, .int .i64 0])) w2 := by
  subst hT
  subst hr
  exact ⟨v, v2, rfl, Kd.R_below h.row hb, Kd.R_lower hR h.below.size, h.below.trans (hb.mono h.below.size)⟩
theorem failed {w w2 : World} {T : Option (List S45 × List ByteArray)} {r : List S45 × List ByteArray × Int} (hT : none = T) (hr : parseAns T = r) (hb : Below w.heap.size w w2) : ParsePost w r (.returned (.tuple #[.slice none 0 0, .slice none 0 0, .int .i64 4])) w2 := by
  subst hT
  subst hr
  exact parsePost_nil hb 4

set_option maxHeartbeats 8000000 in
set_option maxRecDepth 100000 in
theorem parse_walk (a0 : ByteArray) (A1 : Option Addr) (c1 : Nat) (l1 : List ByteArray) (r : List S45 × List ByteArray × Int) (w : World) (hr1 : Kd.C Kd.string w A1 l1.length l1) (hc1 : l1.length ≤ c1) (h : opts_Parse.f a0 l1 = some r) :
    Calls Tryd.prog 10 #[.string a0, .slice A1 l1.length c1] w (ParsePost w r) := by
  unfold opts_Parse.f at h
  by_cases hg : a0.size ≤ 4000 ∧ bulkO l1 ≤ 1099511627776 ∧ l1.length ≤ 1099511627776
  · rw [if_pos hg] at h
    obtain ⟨hs, hbulk, hlen⟩ := hg
    have HR := Lib.hid hr1
    clear hr1
    have hB0 : Below w.heap.size w (w.alloc (.cells #[.slice A1 l1.length c1] 22)) := (Below.refl _ w).alloc (Nat.le_refl _) _
    have HB0 := Lib.hid hB0
    have hbox : (w.alloc (.cells #[.slice A1 l1.length c1] 22)).heap[w.heap.size]? = some (.cells #[.slice A1 l1.length c1] 22 (0, 0)) := heap_alloc_new w _
    have Hbox := Lib.hid hbox
    have hsz : (w.alloc (.cells #[.slice A1 l1.length c1] 22)).heap.size = w.heap.size + 1 := by simp
    have Hsz := Lib.hid hsz
    clear hB0 hbox hsz
    cases hlo : lettersOf a0 with
    | none =>
      rw [hlo] at h
      simp only [Option.some.injEq] at h
      subst h
      have HL := letters_calls a0 (w.alloc (.cells #[.slice A1 l1.length c1] 22)) hs
      rw [hlo] at HL
      clear hlo
      go_enter Tryd.func10, Tryd.ntmps10
      go_wp2
      go_step3
      go_wp2_with (first | (go_at_call 18; refine HL.mono ?_; rintro e w1 ⟨hb1, rfl⟩))
      rw [Exit.noGoto_ret]
      go_ret3
      exact parsePost_nil (HB0.out.trans (hb1.mono (by rw [Hsz.out]; omega))) 1
    | some f =>
      rw [hlo] at h
      simp only at h
      have HL := letters_calls a0 (w.alloc (.cells #[.slice A1 l1.length c1] 22)) hs
      rw [hlo] at HL
      clear hlo
      by_cases h256 : 256 < l1.length
      · rw [if_pos h256] at h
        simp only [Option.some.injEq] at h
        subst h
        go_enter Tryd.func10, Tryd.ntmps10
        go_wp2
        go_step3
        go_wp2_with (first | (go_at_call 18; refine HL.mono ?_; rintro e w1 ⟨hb1, B, n, rfl, hBn, hT⟩; have hbx1 := cell_of_one ((hb1.block w.heap.size (by rw [Hsz.out]; omega)).trans Hbox.out); have HT := Lib.hid hT; clear hT))
        rw [Exit.noGoto_ret]
        go_ret3
        exact parsePost_nil (HB0.out.trans (hb1.mono (by rw [Hsz.out]; omega))) 3
      · rw [if_neg h256] at h
        simp only [Option.some.injEq] at h
        have Hr := Lib.hid h
        clear h
        go_enter Tryd.func10, Tryd.ntmps10
        go_wp2
        go_step3
        go_wp2_with (first | (go_at_call 18; refine HL.mono ?_; rintro e w1 ⟨hb1, B, n, rfl, hBn, hT⟩; have hbx1 := cell_of_one ((hb1.block w.heap.size (by rw [Hsz.out]; omega)).trans Hbox.out); have HT := Lib.hid hT; clear hT))
        go_step3
        go_wp2
        have hb1' : Below w.heap.size w w1 := HB0.out.trans (hb1.mono (by rw [Hsz.out]; omega))
        have hst : St w w1 B n f A1 c1 l1 (.slice none 0 0) [] := ⟨hc1, HR.out, (hb1.block w.heap.size (by rw [Hsz.out]; omega)).trans Hbox.out, Kd.R_nil _ _ _ _ _, HT.out, by rw [Hsz.out] at hBn; omega, hb1'⟩
        have Hst := Lib.hid hst
        clear hst hb1' hb1 HL Hbox HB0 Hsz HT hbx1 hBn HR
        obtain ⟨T, hTT⟩ : ∃ T, parseGo f (l1.length + 1) l1 = T := ⟨_, rfl⟩
        rw [hTT] at Hr
        have HTT := Lib.hid hTT
        clear hTT
        go_loopg [10] l1.length (fun g v10 wx => ∃ (A : Option Addr) (c N : Nat) (ws : List ByteArray) (fl : List S45), Hid (ws.length = g) ∧ Hid (ws.length < N) ∧ ws.length ≤ 256 ∧ Hid (St w wx B n f A c ws v10 fl) ∧ Hid (prep fl (parseGo f N ws) = T) ∧ Hid (fl.length + bulkO ws ≤ 1099511627776))
        case atStart => exact ⟨A1, c1, l1.length + 1, l1, [], rfl, Nat.lt_succ_self _, by omega, Hst.out, by show _ = _; rw [prep_nil]; exact HTT.out, by show _ ≤ _; simpa using hbulk⟩
        case round =>
          obtain ⟨A, c, N, ws, fl, HG, HN, hw256, HS, HP, HK⟩ := hrel
          clear Hst HTT
          have hbox := HS.out.box
          obtain ⟨N, rfl⟩ : ∃ m, N = m + 1 := ⟨N - 1, by have := HN.out; omega⟩
          cases ws with
          | nil =>
            have HC := clone_calls A c [] wr HS.out.words (by simp)
            simp only [List.length_nil] at HC hbox
            go_wp2_with (first | (go_at_call 20; refine HC.mono ?_; rintro e w2 ⟨v2, rfl, hR2, hB2⟩))
            rw [Exit.noGoto_ret]
            go_ret3
            exact finish HS.out (by rw [← HP.out, parse_nil]) Hr.out hR2 hB2
          | cons a ws =>
            obtain ⟨ad, rfl, hcell, hadlt⟩ := HS.out.first
            simp only [List.length_cons] at hbox hw256
            have hp0 : (0 : Int) < (ws.length : Int) + 1 := by omega
            have hch : ∀ h : 0 < a.size, ((a[0]'h).toNat : Int) = bt a 0 := fun h => bt_at a 0 h
            cases hopt : isOpt a with
            | false =>
              have HC := clone_calls (some ad) c (a :: ws) wr HS.out.words (by simp; omega)
              simp only [List.length_cons] at HC
              have HP2 : Hid (some (fl, a :: ws) = T) := by rw [← HP.out, parse_stop hopt]; exact rfl
              by_cases h1 : 1 < a.size
              · have h1' : (1 : Int) < (a.size : Int) := by omega
                have hne : (bt a 0 == 45) = false := by simpa [isOpt, h1] using hopt
                have h0 : 0 < a.size := by omega
                have hch0 := hch h0
                generalize bt a 0 = ch at hne hch0
                clear hch hopt
                go_wp2_with (first | (go_at_call 20; refine HC.mono ?_; rintro e w2 ⟨v2, rfl, hR2, hB2⟩))
                rw [Exit.noGoto_ret]
                go_ret3
                exact finish HS.out HP2.out Hr.out hR2 hB2
              · have h1' : ¬ ((1 : Int) < (a.size : Int)) := by omega
                clear hch hopt
                go_wp2_with (first | (go_at_call 20; refine HC.mono ?_; rintro e w2 ⟨v2, rfl, hR2, hB2⟩))
                rw [Exit.noGoto_ret]
                go_ret3
                exact finish HS.out HP2.out Hr.out hR2 hB2
            | true =>
              have h1 : 1 < a.size := by
                unfold isOpt at hopt
                simp only [Bool.and_eq_true, decide_eq_true_eq] at hopt
                exact hopt.1
              have h1' : (1 : Int) < (a.size : Int) := by omega
              have heq : (bt a 0 == 45) = true := by simpa [isOpt, h1] using hopt
              have h0 : 0 < a.size := by omega
              have hch0 := hch h0
              have HOpt := Lib.hid hopt
              generalize bt a 0 = ch at heq hch0
              clear hch hopt
              have hbb : Hid (wr.heap[w.heap.size]? = some (.cells #[.slice (some ad) (ws.length + 1) c] 22 (0, 0))) := HS.out.2.2.1
              have HNx := next_calls ad ws.length c w.heap.size a wr hbb.out hcell (by have := HS.out.1; simpa using this) (by omega)
              by_cases hdd : a.data.toList = [45, 45]
              · have hdb : (a.toList == ([45, 45] : List UInt8)) = true := by rw [Lib.toList_data, hdd]; rfl
                have HP2 : Hid (some (fl, ws) = T) := by rw [← HP.out, parse_dd HOpt.out hdd]; exact rfl
                clear hdd
                have HC := fun nn => clone_calls _ (c - 1) ws _ (HS.out.next nn).words (by omega)
                have Hbx := fun nn => (HS.out.next nn).box
                go_wp2_with (first
                  | (go_at_call 19; refine HNx.mono ?_; rintro e w2 ⟨rfl, nn, hw2⟩; have HC2 := HC nn; have Hst2 := Lib.hid (HS.out.next nn); have hbx2 := Hbx nn; rw [← hw2] at HC2 Hst2 hbx2; clear HC Hbx hbox hcell hw2; generalize (if c = 1 then some ad else some (ad.add 1)) = A2 at HC2 Hst2 hbx2)
                  | (go_at_call 20; refine HC2.mono ?_; rintro e w3 ⟨v2, rfl, hR2, hB2⟩))
                try rw [Exit.noGoto_ret]
                go_ret3
                exact finish Hst2.out HP2.out Hr.out hR2 hB2
              · have hdb : (a.toList == ([45, 45] : List UInt8)) = false := by rw [Lib.toList_data]; simpa using hdd
                have HP2 : Hid (after f N fl (a.data.toList.drop 1) ws = T) := by rw [← HP.out, parse_word HOpt.out hdd]; exact rfl
                have HK2 : Hid (fl.length + (a.size - 1) + bulk ws ≤ 1099511627776) := by
                  have := HK.out
                  simp only [bulkO, HOpt.out, if_true] at this
                  show _ ≤ _
                  omega
                have hasz : a.size ≤ 1099511627777 := by have : fl.length + (a.size - 1) + bulk ws ≤ 1099511627776 := HK2.out; omega
                clear hdd
                have Hbx := fun nn => (HS.out.next nn).box
                go_wp2_with (first
                  | (go_at_call 19; refine HNx.mono ?_; rintro e w2 ⟨rfl, nn, hw2⟩; have Hst2 := Lib.hid (HS.out.next nn); have hbx2 := Hbx nn; rw [← hw2] at Hst2 hbx2; clear Hbx hbox hcell hw2; generalize (if c = 1 then some ad else some (ad.add 1)) = A2 at Hst2 hbx2; generalize c - 1 = c2 at Hst2 hbx2))
                clear hbx2 hch0 heq hp0
                go_loopg [10, 12] (a.size - 1) (fun g2 v10 v12 wy => ∃ (i : Nat) (fl2 : List S45), 1 ≤ i ∧ i ≤ a.size ∧ v12 = .int .i64 i ∧ Hid (i + g2 = a.size) ∧ Hid (St w wy B n f A2 c2 ws v10 fl2) ∧ Hid (after f N fl2 (a.data.toList.drop i) ws = T) ∧ Hid (fl2.length + (a.size - i) + bulk ws ≤ 1099511627776))
                case atStart => exact ⟨1, fl, Nat.le_refl _, by omega, rfl, by show _ = _; omega, Hst2.out, HP2.out, HK2.out⟩
                case round =>
                  obtain ⟨i, fl2, hi1, hi2, rfl, HG2, HS2, HP3, HK3⟩ := hrel
                  by_cases hi3 : i < a.size
                  · obtain ⟨g2, rfl⟩ : ∃ m, gk = m + 1 := ⟨gk - 1, by have : i + gk = a.size := HG2.out; omega⟩
                    have hi4 : (i : Int) < (a.size : Int) := by omega
                    obtain ⟨u, hu⟩ : ∃ u : UInt8, a[i]'hi3 = u := ⟨_, rfl⟩
                    have hdrop : a.data.toList.drop i = u :: a.data.toList.drop (i + 1) := by
                      have hl : i < a.data.toList.length := by simpa using hi3
                      rw [List.drop_eq_getElem_cons hl, ← hu]
                      rfl
                    have HP4 : Hid (after f N fl2 (u :: a.data.toList.drop (i + 1)) ws = T) := by rw [← hdrop]; exact HP3.out
                    obtain ⟨ch, hcu⟩ : ∃ ch : Int, (u.toNat : Int) = ch := ⟨_, rfl⟩
                    have hcr := byte_range u
                    rw [hcu] at hcr
                    obtain ⟨hc0, hc255⟩ := hcr
                    have hrd : ((a[i]'hi3).toNat : Int) = ch := by rw [hu]; exact hcu
                    have HCU := Lib.hid hcu
                    have HDrop := Lib.hid hdrop
                    have hlk := HS2.out.map.look ch hc0 hc255
                    clear hcu hdrop hu HP3
                    have hbx3 := HS2.out.box
                    have HSF : Hid (∀ s : ByteArray, St w (wr.alloc (.cells #[.int .u8 ch, .string s] 45)) B n f A2 c2 ws u10 fl2) := fun s => HS2.out.later ((Below.refl _ wr).alloc (Nat.le_refl _) _)
                    have HBF : Hid (∀ s : ByteArray, Below w.heap.size w (wr.alloc (.cells #[.int .u8 ch, .string s] 45))) := fun s => (HSF.out s).below
                    have hroom : (fl2.length + 1) * 24 ≤ 140737488355328 := by have : fl2.length + (a.size - i) + bulk ws ≤ 1099511627776 := HK3.out; omega
                    cases hf : f ch with
                    | none =>
                      rw [hf] at hlk
                      simp only [Option.getD_none, Option.isSome_none] at hlk
                      have hfail : Hid (none = T) := by rw [← HP4.out, after_none (by rw [HCU.out]; exact hf)]; exact rfl
                      clear hf
                      go_wp2
                      try rw [Exit.noGoto_ret]
                      go_ret3
                      exact failed hfail.out Hr.out (HBF.out _)
                    | some b =>
                      rw [hf] at hlk
                      simp only [Option.getD_some, Option.isSome_some] at hlk
                      have Hf := Lib.hid hf
                      clear hf
                      cases b with
                      | false =>
                        go_wp2_with (first
                          | (at_builtin; refine Kd.R_append k45 (w0 := w) w.heap.size rfl (.tmp 77) (.tmp 79) 26 45 (.agg #[.int .u8 0, .string ⟨#[]⟩]) 24 rfl Tryd.underlying26 info45 rfl (by decide) (by omega) u10 fl2 ⟨ch, ByteArray.empty⟩ [.int .u8 ch, .string ByteArray.empty] (fun _ => True) (fun _ => False) rfl (Eq.trans (b := .slice (some ⟨wr.heap.size + 1, 0, none⟩) 1 1) rfl (by rw [World.size_alloc])) (k45_mkM _ _ _ ⟨ch, ByteArray.empty⟩) (fun _ h => h.elim) (fun _ _ => trivial) (HSF.out _).row (HBF.out _) (HBF.out _).size hroom ?_; intro v1 w3 hR3 hB3 hG3 hat3))
                        go_roundg g2
                        case measure => omega
                        case rel =>
                          refine ⟨i + 1, fl2 ++ [⟨ch, ByteArray.empty⟩], by omega, by omega, by go_num, ?_, (HSF.out _).appended hR3 hG3 hB3, ?_, ?_⟩
                          · have : i + (g2 + 1) = a.size := HG2.out
                            show _ = _
                            omega
                          · rw [← HP4.out, after_flag (by rw [HCU.out]; exact Hf.out), HCU.out]
                            exact rfl
                          · have : fl2.length + (a.size - i) + bulk ws ≤ 1099511627776 := HK3.out
                            show _ ≤ _
                            simp only [List.length_append, List.length_singleton]
                            omega
                      | true =>
                        by_cases hi5 : i + 1 < a.size
                        · have hi6 : (i : Int) + 1 < (a.size : Int) := by omega
                          have hsl : Hid (after f N fl2 (u :: a.data.toList.drop (i + 1)) ws = prep (fl2 ++ [⟨ch, a.extract (i + 1) a.size⟩]) (parseGo f N ws)) := by
                            cases hdr : a.data.toList.drop (i + 1) with
                            | nil => have := congrArg List.length hdr; simp at this; omega
                            | cons d ds =>
                              show _ = _
                              rw [after_here (by rw [HCU.out]; exact Hf.out), HCU.out, extract_drop, hdr]
                          go_wp2_with (first
                            | (at_builtin; refine Kd.R_append k45 (w0 := w) w.heap.size rfl (.tmp 96) (.tmp 98) 26 45 (.agg #[.int .u8 0, .string ⟨#[]⟩]) 24 rfl Tryd.underlying26 info45 rfl (by decide) (by omega) u10 fl2 ⟨ch, a.extract (i + 1) a.size⟩ [.int .u8 ch, .string (a.extract (i + 1) a.size)] (fun _ => True) (fun _ => False) rfl (Eq.trans (b := .slice (some ⟨wr.heap.size + 1, 0, none⟩) 1 1) rfl (by rw [World.size_alloc])) (k45_mkM _ _ _ ⟨ch, a.extract (i + 1) a.size⟩) (fun _ h => h.elim) (fun _ _ => trivial) (HSF.out _).row (HBF.out _) (HBF.out _).size hroom ?_; intro v1 w3 hR3 hB3 hG3 hat3))
                          go_roundg ws.length
                          case measure => have := HG.out; simp only [List.length_cons] at this; omega
                          case rel =>
                            refine ⟨A2, c2, N, ws, _, rfl, by have := HN.out; simp only [List.length_cons] at this; show _ < _; omega, by omega, (HSF.out _).appended hR3 hG3 hB3, ?_, ?_⟩
                            · rw [← HP4.out, hsl.out]
                              exact rfl
                            · have : fl2.length + (a.size - i) + bulk ws ≤ 1099511627776 := HK3.out
                              have := bulkO_le ws
                              show _ ≤ _
                              simp only [List.length_append, List.length_singleton]
                              omega
                        · have hi6 : ¬ ((i : Int) + 1 < (a.size : Int)) := by omega
                          have hdr : Hid (a.data.toList.drop (i + 1) = []) := List.drop_eq_nil_of_le (by simp; omega)
                          cases ws with
                          | nil =>
                            have hbx4 := (HSF.out ⟨#[]⟩).box
                            have hle4 := HS2.out.le
                            simp only [List.length_nil] at hbx3 hbx4
                            have hfail : Hid (none = T) := by rw [← HP4.out, hdr.out, after_end (by rw [HCU.out]; exact Hf.out)]; exact rfl
                            go_wp2
                            try rw [Exit.noGoto_ret]
                            go_ret3
                            exact failed hfail.out Hr.out (HBF.out _)
                          | cons b ws =>
                            obtain ⟨ad2, e2, hcell2, had2⟩ := (HSF.out ⟨#[]⟩).first
                            subst e2
                            have hle4 := HS2.out.le
                            have hbb2 := (HSF.out ⟨#[]⟩).2.2.1
                            have hbx4 := (HSF.out ⟨#[]⟩).box
                            simp only [List.length_cons] at hbb2 hbx3 hbx4
                            have HNx2 := next_calls ad2 ws.length c2 w.heap.size b (wr.alloc (.cells #[.int .u8 ch, .string ⟨#[]⟩] 45)) hbb2 hcell2 (by have := HS2.out.1; simpa using this) (by omega)
                            have HF0 : Hid ((wr.alloc (.cells #[.int .u8 ch, .string ⟨#[]⟩] 45)).heap[wr.heap.size]? = some (.cells #[.int .u8 ch, .string ⟨#[]⟩] 45 (0, 0))) := heap_alloc_new wr _
                            have HTold := fun nn => HS2.out.told (.cells #[.int .u8 ch, .string ⟨#[]⟩] 45) nn (.string b)
                            have HP5 : Hid (prep (fl2 ++ [⟨ch, b⟩]) (parseGo f N ws) = T) := by rw [← HP4.out, hdr.out, after_next (by rw [HCU.out]; exact Hf.out), HCU.out]; exact rfl
                            have HK5 : Hid (fl2.length + 1 + bulkO ws ≤ 1099511627776) := by
                              have h5 : fl2.length + (a.size - i) + bulk (b :: ws) ≤ 1099511627776 := HK3.out
                              have h6 := bulkO_le ws
                              have h7 : bulk (b :: ws) = b.size + bulk ws := by simp [bulk]
                              show _ ≤ _
                              omega
                            clear hbb2 hbx3 HSF HBF
                            go_wp2_with (first
                              | (go_at_call 19; refine HNx2.mono ?_; rintro e w4 ⟨rfl, nn, hw4⟩; have hF := flag_kept HF0.out (show wr.heap.size ≠ w.heap.size by omega) (.slice (if c2 = 1 then some ad2 else some (ad2.add 1)) ws.length (c2 - 1)) nn; have HT5 := Lib.hid (HTold nn); rw [← hw4] at hF HT5; clear HTold hw4 hbx4 hcell2; generalize (if c2 = 1 then some ad2 else some (ad2.add 1)) = A3 at HT5; have hs0 := (two_cells (two_set hF (.string b))).1; have hs1 := (two_cells (two_set hF (.string b))).2.1; have hq1 := (two_cells hF).2.1; have hq2 := (two_cells hF).2.2; clear hF)
                              | (at_builtin; refine Kd.R_append k45 (w0 := w) w.heap.size rfl (.tmp 96) (.tmp 98) 26 45 (.agg #[.int .u8 0, .string ⟨#[]⟩]) 24 rfl Tryd.underlying26 info45 rfl (by decide) (by omega) u10 fl2 ⟨ch, b⟩ [.int .u8 ch, .string b] (fun _ => True) (fun _ => False) rfl (Eq.trans (b := .slice (some ⟨w4.heap.size, 0, none⟩) 1 1) rfl (by simp)) (k45_mkM _ _ _ ⟨ch, b⟩) (fun _ h => h.elim) (fun _ _ => trivial) HT5.out.row HT5.out.below HT5.out.below.size hroom ?_; intro v1 w6 hR3 hB3 hG3 hat3))
                            go_roundg ws.length
                            case measure => have := HG.out; simp only [List.length_cons] at this; omega
                            case rel => exact ⟨A3, _, N, ws, _, rfl, by have := HN.out; simp only [List.length_cons] at this; show _ < _; omega, by simp only [List.length_cons] at hw256; omega, HT5.out.appended hR3 hG3 hB3, HP5.out, by have := HK5.out; show _ ≤ _; simp only [List.length_append, List.length_singleton]; omega⟩
                  · have hi4 : ¬ ((i : Int) < (a.size : Int)) := by omega
                    go_wp2
                    go_roundg ws.length
                    case measure => have := HG.out; simp only [List.length_cons] at this; omega
                    case rel =>
                      refine ⟨A2, c2, N, ws, fl2, rfl, by have := HN.out; simp only [List.length_cons] at this; show _ < _; omega, by omega, HS2.out, ?_, ?_⟩
                      · have := HP3.out
                        rw [List.drop_eq_nil_of_le (by simp; omega), after_nil] at this
                        exact this
                      · have := HK3.out
                        have := bulkO_le ws
                        show _ ≤ _
                        omega
  · rw [if_neg hg] at h
    cases h
theorem opts_Parse.calls (a0 : ByteArray) (A1 : Option Addr) (c1 : Nat) (l1 : List ByteArray) (r1 : List S45) (r2 : List ByteArray) (r3 : Int) (w : World) (hr1 : Kd.C Kd.string w A1 l1.length l1) (hc1 : l1.length ≤ c1) (h : opts_Parse.f a0 l1 = some (r1, r2, r3)) :
    Calls Tryd.prog 10 #[.string a0, .slice A1 l1.length c1] w fun e w' => ∃ v0_ v1_ : Value, e = .returned (.tuple #[v0_, v1_, .int .i64 r3]) ∧ Kd.R k45 45 w' w.heap.size (fun _ => True) v0_ r1 ∧ Kd.R Kd.string 9 w' w.heap.size (fun _ => True) v1_ r2 ∧ Below w.heap.size w w' :=
  parse_walk a0 A1 c1 l1 (r1, r2, r3) w hr1 hc1 h
end Go.Proofs.YtemimbjnfadklaaDoor.L
