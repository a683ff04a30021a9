/- reader.single: the walk. -/
import Derived.BigGuard
import Derived.Deep.DeepCutAuto
import Derived.Test.YtndmngijfleilaaDoorClass
import Derived.Test.YtndmngijfleilaaDoorAmong
namespace Go.Proofs.YtndmngijfleilaaDoor.L
open Go.RowKit Go.Shelf Go.Proofs.YtndmngijfleilaaDoorW.PrintWords

theorem extract_take (s : ByteArray) (k : Nat) : (s.extract 0 k).data.toList = s.data.toList.take k := by
  simp [ByteArray.data_extract]
theorem octGo_le : ∀ (l : List UInt8) (n m : Nat), n ≤ 255 → octGo l n = some m → m ≤ 255
  | [], n, m, hn, h => by simp only [octGo, Option.some.injEq] at h; omega
  | c :: cs, n, m, hn, h => by
    simp only [octGo] at h
    by_cases hc : n * 8 + (c.toNat - 48) > 255
    · rw [if_pos hc] at h; cases h
    · rw [if_neg hc] at h
      exact octGo_le cs _ m (by omega) h
/-- How many octal digits are ahead, n at most. -/
def octN : Nat → List UInt8 → Nat
  | 0, _ => 0
  | _ + 1, [] => 0
  | n + 1, c :: l => if 48 ≤ c.toNat ∧ c.toNat ≤ 55 then octN n l + 1 else 0
theorem octN_le : ∀ (n : Nat) (l : List UInt8), octN n l ≤ n ∧ octN n l ≤ l.length
  | 0, _ => ⟨Nat.le_refl _, Nat.zero_le _⟩
  | _ + 1, [] => ⟨Nat.zero_le _, Nat.zero_le _⟩
  | n + 1, c :: l => by
    have := octN_le n l
    simp only [octN]
    split
    · simp only [List.length_cons]; omega
    · simp
theorem octN_dig : ∀ (n : Nat) (l : List UInt8), ∀ c ∈ l.take (octN n l), 48 ≤ c.toNat ∧ c.toNat ≤ 55
  | 0, _, c, h => by simp [octN] at h
  | _ + 1, [], c, h => by simp [octN] at h
  | n + 1, d :: l, c, h => by
    simp only [octN] at h
    split at h
    · rename_i hd
      rw [List.take_succ_cons] at h
      rcases List.mem_cons.1 h with rfl | h
      · exact hd
      · exact octN_dig n l c h
    · simp at h
/-- A single: the byte, is it one, what is behind. -/
def singleOf : List UInt8 → Int × Bool × List UInt8
  | [] => (0, false, [])
  | c :: rest =>
    if c.toNat = 92 then
      (if 0 < octN 3 rest then (match octGo (rest.take (octN 3 rest)) 0 with
        | some v => ((v : Int), true, rest.drop (octN 3 rest))
        | none => (255, false, rest.drop (octN 3 rest)))
      else match rest with
        | [] => (0, false, [])
        | d :: r => if d.toNat = 110 then (10, true, r) else if d.toNat = 116 then (9, true, r) else if d.toNat = 92 then (92, true, r) else (0, false, r))
    else ((c.toNat : Int), true, rest)

/-- .. behind a backslash. -/
def singleEsc (rest : List UInt8) : Int × Bool × List UInt8 :=
  if 0 < octN 3 rest then (match octGo (rest.take (octN 3 rest)) 0 with
    | some v => ((v : Int), true, rest.drop (octN 3 rest))
    | none => (255, false, rest.drop (octN 3 rest)))
  else match rest with
    | [] => (0, false, [])
    | d :: r => if d.toNat = 110 then (10, true, r) else if d.toNat = 116 then (9, true, r) else if d.toNat = 92 then (92, true, r) else (0, false, r)
/-- A reader in block R, at this text. -/
def Rd (W : World) (R : Nat) (s : ByteArray) : Prop := W.heap[R]? = some (.cells #[.string s] 48 (0, 0))
theorem Rd.cell {W : World} {R : Nat} {s : ByteArray} (h : Rd W R s) : W.cell? ⟨R, 0, none⟩ = some (.string s) := by rw [blk_cell h]; rfl
theorem Rd.free {W : World} {R : Nat} {s : ByteArray} (h : Rd W R s) : W.frozen? ⟨R, 0, none⟩ = false := blk_frozen h 0
theorem Rd.set_ {W : World} {R : Nat} {s : ByteArray} (h : Rd W R s) (t : ByteArray) : Rd (W.setCell ⟨R, 0, none⟩ (.string t)) R t := blk_set h 0 _
theorem Rd.below {W W' : World} {R : Nat} {s : ByteArray} (h : Rd W R s) (hb : Below W.heap.size W W') : Rd W' R s := blk_below h hb
def singlePost (base R : Nat) (w : World) (l : List UInt8) (e : Ending) (w' : World) : Prop :=
  e = .returned (.tuple #[.int .u8 (singleOf l).1, .bool (singleOf l).2.1]) ∧ Rd w' R ⟨(singleOf l).2.2.toArray⟩ ∧ Below base w w' ∧ KeepBut w w' R none
theorem glob_set {w : World} (G : Glob w) (R : Nat) (h : 2 < R) (v : Value) : Glob (w.setCell ⟨R, 0, none⟩ v) := G.of_cells fun i hi => Below.heap_setCell w ⟨R, 0, none⟩ v i (by show i ≠ R; omega)

/-- A store into the reader, something made, another store. -/
theorem rd_fin {base R : Nat} {w w5 : World} {s r T : ByteArray} (hR : Rd w R s) (hB : base ≤ R) (hb5 : Below (w.setCell ⟨R, 0, none⟩ (.string r)).heap.size (w.setCell ⟨R, 0, none⟩ (.string r)) w5) :
    Rd (w5.setCell ⟨R, 0, none⟩ (.string T)) R T ∧ Below base w (w5.setCell ⟨R, 0, none⟩ (.string T)) ∧ KeepBut w (w5.setCell ⟨R, 0, none⟩ (.string T)) R none := by
  have h1 : Rd (w.setCell ⟨R, 0, none⟩ (.string r)) R r := hR.set_ r
  have hsz : base ≤ (w.setCell ⟨R, 0, none⟩ (.string r)).heap.size := by have := blk_lt h1; omega
  refine ⟨(h1.below hb5).set_ T, ?_, ?_⟩
  · exact (((Below.refl base w).setCell (p := ⟨R, 0, none⟩) hB _).trans (hb5.mono hsz)).setCell (p := ⟨R, 0, none⟩) hB _
  · exact (((KeepBut.refl w R none).set_ 0 _).trans (KeepBut.of_below hb5 R none) (.inl rfl)).set_ 0 _
theorem rd_fin1 {base R : Nat} {w w5 : World} {s r : ByteArray} (hR : Rd w R s) (hB : base ≤ R) (hb5 : Below (w.setCell ⟨R, 0, none⟩ (.string r)).heap.size (w.setCell ⟨R, 0, none⟩ (.string r)) w5) :
    Rd w5 R r ∧ Below base w w5 ∧ KeepBut w w5 R none := by
  have h1 : Rd (w.setCell ⟨R, 0, none⟩ (.string r)) R r := hR.set_ r
  have hsz : base ≤ (w.setCell ⟨R, 0, none⟩ (.string r)).heap.size := by have := blk_lt h1; omega
  refine ⟨h1.below hb5, ?_, ?_⟩
  · exact ((Below.refl base w).setCell (p := ⟨R, 0, none⟩) hB _).trans (hb5.mono hsz)
  · exact ((KeepBut.refl w R none).set_ 0 _).trans (KeepBut.of_below hb5 R none) (.inl rfl)
set_option maxHeartbeats 8000000 in
set_option maxRecDepth 100000 in
theorem single_walk (s : ByteArray) (hs0 : s.size ≠ 0) (hs : s.size ≤ 4000000000) (base R : Nat) (w : World) (G : Glob w) (hR : Rd w R s) (h2 : 2 < R) (hB : base ≤ R) :
    Calls Tryd.prog 29 #[.pointer (some ⟨R, 0, none⟩)] w (singlePost base R w s.data.toList) := by
  have h00 : 0 < s.size := by omega
  have hpos : (0 : Int) < (s.size : Int) := by omega
  have hp1 : (1 : Int) ≤ (s.size : Int) := by omega
  obtain ⟨cb, hcb⟩ : ∃ cb, s[0]'h00 = cb := ⟨_, rfl⟩
  obtain ⟨r, hr⟩ : ∃ r, s.extract 1 s.size = r := ⟨_, rfl⟩
  have hrl : r.data.toList = s.data.toList.drop 1 := by rw [← hr]; exact Lib.extract_to_end s 1
  have hsd : s.data.toList = cb :: r.data.toList := by
    have h := get_drop s 0 (by omega)
    rw [List.drop_zero] at h
    rw [hrl, h, hcb]
    rfl
  have hrs : r.size + 1 = s.size := by
    have h := congrArg List.length hsd
    rw [List.length_cons, data_length, data_length] at h
    omega
  have hci : ((s[0]'h00).toNat : Int) = (cb.toNat : Int) := by rw [hcb]
  have hlt := cb.toNat_lt
  have hcell := hR.cell
  have hfree := hR.free
  have HR := Lib.hid hR
  have HG := Lib.hid G
  have HRS := Lib.hid hrs
  rw [hsd]
  clear hrl hsd hcb hrs hR G
  obtain ⟨c, hc⟩ : ∃ c : Int, (cb.toNat : Int) = c := ⟨_, rfl⟩
  rw [hc] at hci
  have h0 : 0 ≤ c := by omega
  have h255 : c ≤ 255 := by omega
  by_cases h92 : c = 92
  · subst h92
    have hS : singleOf (cb :: r.data.toList) = singleEsc r.data.toList := by
      simp only [singleOf]
      rw [if_pos (by omega)]
      rfl
    unfold singlePost
    rw [hS]
    obtain ⟨ANS, hANS⟩ : ∃ A, singleEsc r.data.toList = A := ⟨_, rfl⟩
    rw [hANS]
    have HANS := Lib.hid hANS
    have hrz : r.size ≤ 4000000000 := by have : r.size + 1 = s.size := HRS.out; omega
    have HW1 : Hid (Rd (w.setCell ⟨R, 0, none⟩ (.string r)) R r) := Lib.hid (HR.out.set_ r)
    have HG1 : Hid (Glob (w.setCell ⟨R, 0, none⟩ (.string r))) := Lib.hid (glob_set HG.out R h2 _)
    clear hc hS hANS hlt
    go_enter Tryd.func29, Tryd.ntmps29
    go_wp2
    go_loop [5] (fun v5 => ∃ k : Nat, k ≤ 3 ∧ k ≤ r.size ∧ v5 = .int .i64 k ∧ Hid (k + octN (3 - k) (r.data.toList.drop k) = octN 3 r.data.toList)) (fun v5 => 3 - (intOf v5).toNat)
    case atStart => exact ⟨0, by omega, by omega, rfl, Lib.hid (by simp)⟩
    case round =>
      obtain ⟨k, hk3, hkr, rfl, HE⟩ := hrel
      have hk0 : (0 : Int) ≤ (k : Int) := by omega
      by_cases hgo : ∃ h : k < r.size, k < 3 ∧ 48 ≤ (r[k]'h).toNat ∧ (r[k]'h).toNat ≤ 55
      · obtain ⟨h, hk, hd0, hd1⟩ := hgo
        have hI1 : (k : Int) < (r.size : Int) := by omega
        have hI2 : (k : Int) < 3 := by omega
        have hdr := get_drop r k h
        obtain ⟨d, hd⟩ : ∃ d : Int, ((r[k]'h).toNat : Int) = d := ⟨_, rfl⟩
        have e0 : 48 ≤ d := by omega
        have e1 : d ≤ 55 := by omega
        have HN : Hid (k + 1 + octN (3 - (k + 1)) (r.data.toList.drop (k + 1)) = octN 3 r.data.toList) := Lib.hid (by
          rw [← HE.out, hdr, show 3 - k = (3 - (k + 1)) + 1 by omega]
          simp only [octN]
          rw [if_pos ⟨hd0, hd1⟩]
          omega)
        clear hdr hd0 hd1 hk3 hkr
        go_wp2
        go_round
        case rel => exact ⟨k + 1, by omega, by omega, by go_num, HN⟩
        case measure => simp [intOf]; omega
      · have HK : Hid (octN 3 r.data.toList = k) := Lib.hid (by
          have hz : octN (3 - k) (r.data.toList.drop k) = 0 := by
            by_cases h : k < r.size
            · by_cases h3 : k < 3
              · rw [get_drop r k h, show 3 - k = (3 - (k + 1)) + 1 by omega]
                simp only [octN]
                rw [if_neg (fun hd => hgo ⟨h, h3, hd.1, hd.2⟩)]
              · rw [show 3 - k = 0 by omega]
                rfl
            · rw [List.drop_of_length_le (by rw [data_length]; omega)]
              cases 3 - k <;> rfl
          have := HE.out
          omega)
        have hex : (¬ (k : Int) < (r.size : Int)) ∨ ((k : Int) < (r.size : Int) ∧ ¬ (k : Int) < 3) ∨ ((k : Int) < (r.size : Int) ∧ (k : Int) < 3 ∧ ∃ (h : k < r.size) (d : Int), ((r[k]'h).toNat : Int) = d ∧ ¬ 48 ≤ d) ∨ ((k : Int) < (r.size : Int) ∧ (k : Int) < 3 ∧ ∃ (h : k < r.size) (d : Int), ((r[k]'h).toNat : Int) = d ∧ 48 ≤ d ∧ ¬ d ≤ 55) := by
          by_cases h : k < r.size
          · by_cases h3 : k < 3
            · by_cases h4 : 48 ≤ (r[k]'h).toNat
              · exact .inr (.inr (.inr ⟨by omega, by omega, h, _, rfl, by omega, fun h5 => hgo ⟨h, h3, h4, by omega⟩⟩))
              · exact .inr (.inr (.inl ⟨by omega, by omega, h, _, rfl, by omega⟩))
            · exact .inr (.inl ⟨by omega, by omega⟩)
          · exact .inl (by omega)
        clear hgo HE
        have hkrI : (k : Int) ≤ (r.size : Int) := by omega
        by_cases hk : k = 0
        · have hkI : ¬ (0 : Int) < (k : Int) := by omega
          have hD : r.extract 0 k = ⟨#[]⟩ := by rw [hk]; apply ByteArray.ext; simp
          have HO : Hid (octN 3 r.data.toList = 0) := Lib.hid (by rw [HK.out, hk])
          have hpu := parseUint8_empty _ HG1.out
          clear hk
          by_cases hrz0 : r.size = 0
          · have hre : r = ⟨#[]⟩ := by
              apply ByteArray.ext
              exact Array.eq_empty_of_size_eq_zero hrz0
            have hem : r.toList.isEmpty = true := by rw [← decide_eq_emptyBytes]; exact decide_eq_true hre
            have hem2 : r.toList = [] := List.isEmpty_iff.1 hem
            have HA : Hid (ANS = (0, false, []) ∧ r = ⟨#[]⟩) := Lib.hid (by
              refine ⟨?_, hre⟩
              rw [← HANS.out]
              unfold singleEsc
              rw [show octN 3 r.data.toList = 0 from HO.out, if_neg (by omega), hre])
            have h1 : ¬ (k : Int) < (r.size : Int) := by omega
            clear hrz0 hre hex
            go_wp2_with (go_at_call 35; refine hpu.mono ?_; rintro e w5 ⟨⟨ve, hpe⟩, hb5⟩; cases hpe; have hc5 := (HW1.out.below hb5).cell; have hf5 := (HW1.out.below hb5).free; have HB5 := Lib.hid hb5; clear hb5)
            go_ret2
            rw [HA.out.1]
            have hfin := rd_fin1 HR.out hB HB5.out
            refine ⟨rfl, ?_, hfin.2.1, hfin.2.2⟩
            have h := hfin.1
            rw [HA.out.2] at h
            exact h
          · have hr00 : 0 < r.size := by omega
            have hrp : (0 : Int) < (r.size : Int) := by omega
            have hrp1 : (1 : Int) ≤ (r.size : Int) := by omega
            have hem : r.toList.isEmpty = false := by
              rw [← decide_eq_emptyBytes]
              exact decide_eq_false (fun h => hrz0 (by rw [h]; rfl))
            have hem2 : ¬ r.toList = [] := fun h => by rw [h] at hem; cases hem
            obtain ⟨db, hdb⟩ : ∃ db, r[0]'hr00 = db := ⟨_, rfl⟩
            obtain ⟨T, hT⟩ : ∃ T, r.extract 1 r.size = T := ⟨_, rfl⟩
            have hTl : T.data.toList = r.data.toList.drop 1 := by rw [← hT]; exact Lib.extract_to_end r 1
            have hrd : r.data.toList = db :: T.data.toList := by
              have h := get_drop r 0 hr00
              rw [List.drop_zero] at h
              rw [hTl, h, hdb]
              rfl
            have hdi : ((r[0]'hr00).toNat : Int) = (db.toNat : Int) := by rw [hdb]
            obtain ⟨d, hd⟩ : ∃ d : Int, (db.toNat : Int) = d := ⟨_, rfl⟩
            rw [hd] at hdi
            have HA : Hid (ANS = if d = 110 then (10, true, T.data.toList) else if d = 116 then (9, true, T.data.toList) else if d = 92 then (92, true, T.data.toList) else (0, false, T.data.toList)) := Lib.hid (by
              have ho := HO.out
              rw [← HANS.out]
              unfold singleEsc
              rw [show octN 3 r.data.toList = 0 from ho, if_neg (by omega), hrd]
              have e1 : (db.toNat = 110) = (d = 110) := by apply propext; omega
              have e2 : (db.toNat = 116) = (d = 116) := by apply propext; omega
              have e3 : (db.toNat = 92) = (d = 92) := by apply propext; omega
              simp only [e1, e2, e3])
            clear hrz0 hdb hTl hrd hd
            have hcc : d = 110 ∨ (d ≠ 110 ∧ d = 116) ∨ (d ≠ 110 ∧ d ≠ 116 ∧ d = 92) ∨ (d ≠ 110 ∧ d ≠ 116 ∧ d ≠ 92) := by omega
            rcases hex with h1 | ⟨h1, h2'⟩ | ⟨h1, h2', h, dd, hd', h3⟩ | ⟨h1, h2', h, dd, hd', h3, h4⟩
            · exfalso; omega
            · exfalso; omega
            all_goals
              rcases hcc with rfl | ⟨g1, rfl⟩ | ⟨g1, g2, rfl⟩ | ⟨g1, g2, g3⟩
              all_goals
                try have j1 : (d == 110) = false := beq_eq_false_iff_ne.2 g1
                try have j2 : (d == 116) = false := beq_eq_false_iff_ne.2 g2
                try have j3 : (d == 92) = false := beq_eq_false_iff_ne.2 g3
                go_wp2_with (go_at_call 35; refine hpu.mono ?_; rintro e w5 ⟨⟨ve, hpe⟩, hb5⟩; cases hpe; have hc5 := (HW1.out.below hb5).cell; have hf5 := (HW1.out.below hb5).free; have HB5 := Lib.hid hb5; clear hb5)
                go_ret2
                rw [HA.out]
                have hfin := rd_fin (T := T) HR.out hB HB5.out
                refine ⟨?_, ?_, hfin.2.1, hfin.2.2⟩
                · first | rfl | (simp [*]; done)
                · first | exact hfin.1 | (have h := hfin.1; simp [*])
        · have hkI : (0 : Int) < (k : Int) := by omega
          obtain ⟨D, hD⟩ : ∃ D, r.extract 0 k = D := ⟨_, rfl⟩
          have hDl : D.data.toList = r.data.toList.take k := by rw [← hD]; exact extract_take r k
          have hDs : D.size = k := by
            have h := congrArg List.length hDl
            rw [data_length, List.length_take, data_length] at h
            omega
          obtain ⟨T, hT⟩ : ∃ T, r.extract k r.size = T := ⟨_, rfl⟩
          have hTl : T.data.toList = r.data.toList.drop k := by rw [← hT]; exact Lib.extract_to_end r k
          have hTe : (⟨(r.data.toList.drop k).toArray⟩ : ByteArray) = T := by rw [← hTl]
          have hpu := parseUint8 D (by omega) (by omega) (by rw [hDl]; have h := octN_dig 3 r.data.toList; rw [HK.out] at h; exact h) _ HG1.out
          rw [hDl] at hpu
          have HA : Hid (ANS = match octGo (r.data.toList.take k) 0 with | some v => ((v : Int), true, r.data.toList.drop k) | none => (255, false, r.data.toList.drop k)) := Lib.hid (by
            rw [← HANS.out]
            unfold singleEsc
            rw [show octN 3 r.data.toList = k from HK.out, if_pos (by omega)])
          have HTE := Lib.hid hTe
          cases ho : octGo (r.data.toList.take k) 0 with
          | some v =>
            have hv : v ≤ 255 := octGo_le _ 0 v (by omega) ho
            rw [ho] at hpu HA
            have HV := Lib.hid hv
            have hvi : (v : Int) ≤ 255 := by omega
            have hv0 : (0 : Int) ≤ (v : Int) := by omega
            have hw8 : IntKind.u8.wrap (v : Int) = (v : Int) := by rw [IntKind.wrap_u8]; omega
            clear hDl hDs hTl ho hv hTe
            rcases hex with h1 | ⟨h1, h2'⟩ | ⟨h1, h2', h, d, hd, h3⟩ | ⟨h1, h2', h, d, hd, h3, h4⟩
            all_goals
              go_wp2_with (go_at_call 35; refine hpu.mono ?_; rintro e w5 ⟨hpe, hb5⟩; cases hpe; have hc5 := (HW1.out.below hb5).cell; have hf5 := (HW1.out.below hb5).free; have HB5 := Lib.hid hb5; clear hb5)
              go_region
              go_wp2
              go_ret2
              rw [HA.out]
              have hfin := rd_fin (T := T) HR.out hB HB5.out
              refine ⟨rfl, ?_, below_drew hfin.2.1, hfin.2.2⟩
              show Rd _ R ⟨(r.data.toList.drop k).toArray⟩
              rw [HTE.out]
              exact hfin.1
          | none =>
            rw [ho] at hpu HA
            have hw8 : IntKind.u8.wrap 255 = 255 := by decide
            clear hDl hDs hTl ho hTe
            rcases hex with h1 | ⟨h1, h2'⟩ | ⟨h1, h2', h, d, hd, h3⟩ | ⟨h1, h2', h, d, hd, h3, h4⟩
            all_goals
              go_wp2_with (go_at_call 35; refine hpu.mono ?_; rintro e w5 ⟨⟨ve, hpe⟩, hb5⟩; cases hpe; have hc5 := (HW1.out.below hb5).cell; have hf5 := (HW1.out.below hb5).free; have HB5 := Lib.hid hb5; clear hb5)
              go_region
              go_wp2
              go_ret2
              rw [HA.out]
              have hfin := rd_fin (T := T) HR.out hB HB5.out
              refine ⟨rfl, ?_, below_drew hfin.2.1, hfin.2.2⟩
              show Rd _ R ⟨(r.data.toList.drop k).toArray⟩
              rw [HTE.out]
              exact hfin.1
  · have hS : singleOf (cb :: r.data.toList) = (c, true, r.data.toList) := by
      simp only [singleOf]
      rw [if_neg (by omega), hc]
    have HC := Lib.hid hc
    have hne : (c == 92) = false := beq_eq_false_iff_ne.2 h92
    have hne2 : (c != 92) = true := bne_iff_ne.2 h92
    unfold singlePost
    rw [hS]
    clear hc hS h92 hlt
    go_enter Tryd.func29, Tryd.ntmps29
    go_wp2
    go_ret2
    exact ⟨rfl, HR.out.set_ _, (Below.refl base w).setCell (p := ⟨R, 0, none⟩) hB _, (KeepBut.refl w R none).set_ 0 _⟩
end Go.Proofs.YtndmngijfleilaaDoor.L
