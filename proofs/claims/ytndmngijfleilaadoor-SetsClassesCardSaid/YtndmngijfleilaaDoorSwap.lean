/- sets.Swap: the walk. -/
import Derived.Test.YtndmngijfleilaaDoorRest
namespace Go.Proofs.YtndmngijfleilaaDoor.L
open Go.RowKit Go.Proofs.YtndmngijfleilaaDoorW.PrintWords

/-- 256 cells that hold bytes. -/
def ivals (f : Nat → Int) : Array Value := ((List.range 256).map fun j => Value.int .u8 (f j)).toArray
theorem ivals_size (f : Nat → Int) : (ivals f).size = 256 := by simp [ivals]
theorem ivals_get (f : Nat → Int) (j : Nat) (h : j < 256) : (ivals f)[j]? = some (.int .u8 (f j)) := by simp [ivals, h]
theorem ivals_set (f : Nat → Int) (i : Nat) (x : Int) : (ivals f).setIfInBounds i (.int .u8 x) = ivals fun j => if j = i then x else f j := by
  apply Array.ext
  · simp [ivals]
  · intro j h1 h2
    simp only [ivals, List.setIfInBounds_toArray, List.getElem_toArray, List.getElem_set, List.getElem_map, List.getElem_range]
    by_cases h : i = j
    · subst h; simp
    · rw [if_neg h, if_neg (fun e => h e.symm)]
theorem info41 : (Tryd.prog.info? 41).map (fun i => (i.zero, i.size)) = some (some (.agg (ivals fun _ => 0)), 256) := by kernel_rfl
/-- The first k are themselves. -/
def idTo (k j : Nat) : Int := if j < k then (j : Int) else 0
theorem idTo_succ (k : Nat) : (fun j => if j = k then (k : Int) else idTo k j) = idTo (k + 1) := by
  funext j
  unfold idTo
  by_cases h : j = k
  · subst h; simp
  · by_cases h2 : j < k
    · simp [h, h2, show j < k + 1 by omega]
    · simp [h, h2, show ¬ j < k + 1 by omega]
/-- What byte j becomes: by the rest of a list, of which p are through. -/
def tabGo (tt : List Int) : List Int → Nat → Nat → Int
  | [], _, j => (j : Int)
  | c :: l, p, j => if (j : Int) = c then rd tt (min (p : Int) ((tt.length : Int) - 1)) else tabGo tt l (p + 1) j
def tabAt (frm tt : List Int) (m j : Nat) : Int := tabGo tt (frm.drop m) m j
theorem tabAt_end (frm tt : List Int) : tabAt frm tt frm.length = fun j : Nat => (j : Int) := by
  funext j
  unfold tabAt
  rw [List.drop_length]
  rfl
theorem tabAt_step (frm tt : List Int) (m : Nat) (h : m < frm.length) (h0 : 0 ≤ rd frm (m : Int)) : (fun j => if j = (rd frm (m : Int)).toNat then rd tt (min (m : Int) ((tt.length : Int) - 1)) else tabAt frm tt (m + 1) j) = tabAt frm tt m := by
  funext j
  unfold tabAt
  rw [List.drop_eq_getElem_cons h, ← rd_get frm m h]
  simp only [tabGo]
  by_cases e : j = (rd frm (m : Int)).toNat
  · rw [if_pos e, if_pos (by omega)]
  · rw [if_neg e, if_neg (by omega)]
theorem bytesCells_le (w : World) (e : TypeId) (s : ByteArray) : s.size ≤ (Lib.bytesCells w e s).size := by
  simp [Lib.bytesCells]
def swapPost (s : ByteArray) (l1 l2 : List Int) : ByteArray × Int :=
  if l1.length = 0 then (s, 0) else if l2.length = 0 then (⟨#[]⟩, 1) else (strOfNums ((bytesOf s).map fun c => tabAt l1 l2 0 c.toNat), 0)

set_option maxHeartbeats 8000000 in
set_option maxRecDepth 100000 in
theorem swap_walk (s : ByteArray) (A1 : Option Addr) (c1 : Nat) (l1 : List Int) (A2 : Option Addr) (c2 : Nat) (l2 : List Int) (w : World) (hr1 : Kd.C (Kd.int .u8) w A1 l1.length l1) (hr2 : Kd.C (Kd.int .u8) w A2 l2.length l2)
    (hs : s.size ≤ 70368744177664) (hn1 : l1.length ≤ 140737488351232) (hn2 : l2.length ≤ 140737488351232) (hb1 : ∀ x ∈ l1, 0 ≤ x ∧ x ≤ 255) :
    Calls Tryd.prog 10 #[.string s, .slice A1 l1.length c1, .slice A2 l2.length c2] w fun e w' => e = .returned (.tuple #[.string (swapPost s l1 l2).1, .int .i64 (swapPost s l1 l2).2]) ∧ Below w.heap.size w w' := by
  by_cases hz1 : l1.length = 0
  · have hp : swapPost s l1 l2 = (s, 0) := by unfold swapPost; rw [if_pos hz1]
    rw [hp]
    have hd : ((l1.length : Int) == 0) = true := by rw [hz1]; rfl
    clear hr1 hr2 hb1 hz1 hp
    go_enter Tryd.func10, Tryd.ntmps10
    go_wp2
    go_ret2
    exact ⟨rfl, Below.refl _ _⟩
  · have hd1 : ((l1.length : Int) == 0) = false := by rw [beq_eq_false_iff_ne]; omega
    by_cases hz2 : l2.length = 0
    · have hp : swapPost s l1 l2 = (⟨#[]⟩, 1) := by unfold swapPost; rw [if_neg hz1, if_pos hz2]
      rw [hp]
      have hd : ((l2.length : Int) == 0) = true := by rw [hz2]; rfl
      clear hr1 hr2 hb1 hz1 hz2 hp
      go_enter Tryd.func10, Tryd.ntmps10
      go_wp2
      go_ret2
      exact ⟨rfl, Below.refl _ _⟩
    · have hd2 : ((l2.length : Int) == 0) = false := by rw [beq_eq_false_iff_ne]; omega
      have hp : swapPost s l1 l2 = (strOfNums ((bytesOf s).map fun c => tabAt l1 l2 0 c.toNat), 0) := by unfold swapPost; rw [if_neg hz1, if_neg hz2]
      rw [hp]
      have hz := (zero_of_info info41).1
      have HR1 := Lib.hid hr1
      have HR2 := Lib.hid hr2
      have HN1 := Lib.hid hn1
      have HN2 := Lib.hid hn2
      have HZ1 := Lib.hid hz1
      have HZ2 := Lib.hid hz2
      have HB1 := Lib.hid hb1
      have HS := Lib.hid hs
      have hcv := fun W => print_bytes (P := Tryd.prog) 9 22 5 Tryd.underlying9 Tryd.underlying22 Tryd.underlying5 s W
      obtain ⟨Z, hZ⟩ : ∃ Z, ivals (fun _ => 0) = Z := ⟨_, rfl⟩
      rw [hZ] at hz
      have HZ := Lib.hid hZ
      clear hr1 hr2 hb1 hz1 hz2 hp hZ
      have hl1 : l1.length ≤ 140737488351232 := hn1
      go_enter Tryd.func10, Tryd.ntmps10
      go_wp2
      go_loopw [21] (fun v21 wr => ∃ k : Nat, k ≤ 256 ∧ v21 = .int .i64 k ∧ Hid (wr.heap[w.heap.size]? = some (.cells (ivals (idTo k)) 41 (0, 0))) ∧ Hid (Below w.heap.size w wr)) (fun v21 _ => 256 - (intOf v21).toNat)
      case atStart => exact ⟨0, Nat.zero_le _, rfl, Lib.hid (by rw [show ivals (idTo 0) = Z from HZ.out]; exact heap_alloc_new w _), Lib.hid ((Below.refl _ w).alloc (Nat.le_refl _) _)⟩
      case round =>
        obtain ⟨k, hk, rfl, HK, HB⟩ := hrel
        by_cases hlt : k < 256
        · have hltI : (k : Int) < 256 := by omega
          have hk0 : (0 : Int) ≤ (k : Int) := by omega
          have hw8 : IntKind.u8.wrap (k : Int) = (k : Int) := by rw [IntKind.wrap_u8]; omega
          have hcl : wr.cell? ⟨w.heap.size, k, none⟩ = some (.int .u8 (idTo k k)) := (blk_cell HK.out _).trans (ivals_get _ _ hlt)
          have hfz := blk_frozen HK.out k
          clear hk
          go_wp2
          go_roundw
          case rel =>
            refine ⟨k + 1, by omega, by go_num, Lib.hid ?_, Lib.hid (HB.out.setCell (p := ⟨w.heap.size, k, none⟩) (Nat.le_refl _) _)⟩
            rw [← idTo_succ, ← ivals_set]
            exact blk_set HK.out _ _
          case measure => simp [intOf]; omega
        · have HK256 : Hid (k = 256) := Lib.hid (by omega)
          have hltI : ¬ (k : Int) < 256 := by omega
          clear hk hlt
          have HK2 : Hid (wr.heap[w.heap.size]? = some (.cells (ivals (tabAt l1 l2 l1.length)) 41 (0, 0))) := Lib.hid (by
            rw [HK.out, tabAt_end, show k = 256 from HK256.out]
            have : ivals (idTo 256) = ivals fun j : Nat => (j : Int) := by
              unfold ivals
              refine congrArg List.toArray (List.map_congr_left ?_)
              intro j hj
              rw [List.mem_range] at hj
              simp [idTo, hj]
            rw [this])
          clear HK
          go_wp2
          go_loopw [10] (fun v10 wr => ∃ m : Nat, m ≤ l1.length ∧ v10 = .int .i64 ((m : Int) - 1) ∧ Hid (wr.heap[w.heap.size]? = some (.cells (ivals (tabAt l1 l2 m)) 41 (0, 0))) ∧ Hid (Below w.heap.size w wr)) (fun v10 _ => (intOf v10 + 1).toNat)
          case atStart => exact ⟨l1.length, Nat.le_refl _, rfl, HK2, HB⟩
          case round =>
            clear HK2 HB
            obtain ⟨m, hm, rfl, HK, HB⟩ := hrel
            by_cases hm0 : 0 < m
            · obtain ⟨q, rfl⟩ : ∃ q, m = q + 1 := ⟨m - 1, by omega⟩
              have eq1 : ((q + 1 : Nat) : Int) - 1 = (q : Int) := by omega
              rw [eq1]
              clear eq1 hm0
              have hq1 : q < l1.length := by omega
              have hq1I : (q : Int) < (l1.length : Int) := by omega
              have hq0 : (0 : Int) ≤ (q : Int) := by omega
              have hl2 : 0 < l2.length := by have : ¬ l2.length = 0 := HZ2.out; omega
              have hn2' : l2.length ≤ 140737488351232 := HN2.out
              obtain ⟨ad1, hA1, hcell1⟩ := Kd.at_int (Kd.C_below HR1.out HB.out) (q : Int) hq0 hq1I
              subst hA1
              rw [Int.toNat_natCast] at hcell1
              have hrg := HB1.out (rd l1 (q : Int)) (by rw [rd_get l1 q hq1]; exact List.getElem_mem hq1)
              have hst := tabAt_step l1 l2 q hq1 hrg.1
              obtain ⟨c, hc⟩ : ∃ c, rd l1 (q : Int) = c := ⟨_, rfl⟩
              rw [hc] at hcell1 hrg hst
              have h0 : 0 ≤ c := hrg.1
              have h1 : c < 256 := by omega
              have h2 : c.toNat < 256 := by omega
              have hcl : wr.cell? ⟨w.heap.size, c.toNat, none⟩ = some (.int .u8 (tabAt l1 l2 (q + 1) c.toNat)) := (blk_cell HK.out _).trans (ivals_get _ _ h2)
              have hfz := blk_frozen HK.out c.toNat
              by_cases hqm : q < l2.length
              · obtain ⟨ad2, hA2, hcell2⟩ := Kd.at_int (Kd.C_below HR2.out HB.out) (q : Int) hq0 (by omega)
                subst hA2
                rw [Int.toNat_natCast] at hcell2
                have hmin : min (q : Int) ((l2.length : Int) - 1) = (q : Int) := by omega
                rw [hmin] at hst
                obtain ⟨d, hd⟩ : ∃ d, rd l2 (q : Int) = d := ⟨_, rfl⟩
                rw [hd] at hcell2 hst
                have HST := Lib.hid hst
                have hle : (q : Int) ≤ (l2.length : Int) - 1 := by omega
                have hlt2 : (q : Int) < (l2.length : Int) := by omega
                clear hst hd hc hrg hmin hm
                have hw1 : IntKind.i64.wrap ((l2.length : Int) - 1) = (l2.length : Int) - 1 := by rw [IntKind.wrap_i64]; omega
                go_wp2
                go_region
                go_wp2
                go_roundw
                case rel =>
                  refine ⟨q, by omega, by go_num, Lib.hid ?_, Lib.hid (below_drew (HB.out.setCell (p := ⟨w.heap.size, c.toNat, none⟩) (Nat.le_refl _) _))⟩
                  rw [← HST.out, ← ivals_set]
                  exact blk_drew (blk_set HK.out _ _)
                case measure => first | (simp [intOf]; done) | (simp [intOf]; omega)
              · have hp0 : (0 : Int) ≤ (l2.length : Int) - 1 := by omega
                obtain ⟨ad2, hA2, hcell2⟩ := Kd.at_int (Kd.C_below HR2.out HB.out) ((l2.length : Int) - 1) hp0 (by omega)
                subst hA2
                have e1 : ((l2.length : Int) - 1).toNat = l2.length - 1 := by omega
                rw [e1] at hcell2
                have hmin : min (q : Int) ((l2.length : Int) - 1) = (l2.length : Int) - 1 := by omega
                rw [hmin] at hst
                obtain ⟨d, hd⟩ : ∃ d, rd l2 ((l2.length : Int) - 1) = d := ⟨_, rfl⟩
                rw [hd] at hcell2 hst
                have HST := Lib.hid hst
                have hle : ¬ (q : Int) ≤ (l2.length : Int) - 1 := by omega
                have hlt3 : (l2.length : Int) - 1 < (q : Int) := by omega
                have hlt2 : (l2.length : Int) - 1 < (l2.length : Int) := by omega
                clear hst hd hc hrg hmin hm e1
                have hw1 : IntKind.i64.wrap ((l2.length : Int) - 1) = (l2.length : Int) - 1 := by rw [IntKind.wrap_i64]; omega
                have h1l : (1 : Int) ≤ (l2.length : Int) := by omega
                go_wp2
                go_region
                go_wp2
                go_roundw
                case rel =>
                  refine ⟨q, by omega, by go_num, Lib.hid ?_, Lib.hid (below_drew (HB.out.setCell (p := ⟨w.heap.size, c.toNat, none⟩) (Nat.le_refl _) _))⟩
                  rw [← HST.out, ← ivals_set]
                  exact blk_drew (blk_set HK.out _ _)
                case measure => first | (simp [intOf]; done) | (simp [intOf]; omega)
            · obtain rfl : m = 0 := by omega
              clear hm hm0
              have hbel := bytes_below HB.out HB.out.size 5 s
              have hrd := bytes_reads wr 5 s (by have : s.size ≤ 70368744177664 := HS.out; omega)
              have hnew := Lib.bytesWorld_at_new wr 5 s
              have hold := (Lib.bytesWorld_at_old wr 5 s w.heap.size (blk_lt HK.out)).trans HK.out
              obtain ⟨W1, hW1⟩ : ∃ W1, Lib.bytesWorld wr 5 s = W1 := ⟨_, rfl⟩
              obtain ⟨cap, hcap⟩ : ∃ cap, grownCap wr s.size 0 5 = cap := ⟨_, rfl⟩
              have hcv1 := hcv wr
              rw [hW1, hcap] at hcv1
              rw [hW1] at hbel hrd hnew hold
              clear hcv
              have hlen := bytesOf_length s
              have hrng : ∀ x ∈ bytesOf s, 0 ≤ x ∧ x ≤ 255 := fun x hx => by
                simp only [bytesOf, List.mem_map] at hx
                obtain ⟨b, _, rfl⟩ := hx
                have := b.toNat_lt
                omega
              obtain ⟨G, hG⟩ : ∃ G, wr.heap.size = G := ⟨_, rfl⟩
              have hBG : w.heap.size < G := by rw [← hG]; exact blk_lt HK.out
              rw [hG] at hcv1 hrd hnew
              obtain ⟨bs, hbs⟩ : ∃ bs, bytesOf s = bs := ⟨_, rfl⟩
              rw [hbs] at hrd hlen hrng
              obtain ⟨T, hT⟩ : ∃ T, tabAt l1 l2 0 = T := ⟨_, rfl⟩
              rw [hT] at hold
              have HBS := Lib.hid hbs
              have hc0 : ∀ j, j < s.size → W1.cell? ⟨G, j, none⟩ = some (.int .u8 (rd bs (j : Int))) := fun j hj => by
                obtain ⟨ad, e, h⟩ := hrd.at_ (j : Int) (by omega) (by omega)
                cases e
                rwa [Int.toNat_natCast, add_plain] at h
              have hf0 : ∀ j, j < s.size → W1.frozen? ⟨G, j, none⟩ = false := fun j hj => by
                have hbz : s.size ≤ (Lib.bytesCells wr 5 s).size := by
                  have h := hc0 j hj
                  exact bytesCells_le wr 5 s
                simp [World.frozen?, hnew]
                omega
              have HC0 := Lib.hid hc0
              have HF0 := Lib.hid hf0
              have HOLD := Lib.hid hold
              have HBEL := Lib.hid hbel
              have HLEN := Lib.hid hlen
              have HRNG := Lib.hid hrng
              have HBG := Lib.hid hBG
              have HT := Lib.hid hT
              have hss : s.size ≤ 70368744177664 := HS.out
              clear hc0 hf0 hold hbel hlen hrng hBG hT hrd hnew hbs hG hW1 hcap
              go_wp2
              go_loopw [53] (fun v53 wq => ∃ k : Nat, k ≤ s.size ∧ v53 = .int .i64 k ∧ Hid (wq.heap[w.heap.size]? = some (.cells (ivals T) 41 (0, 0))) ∧ Hid (∀ j, j < s.size → wq.cell? ⟨G, j, none⟩ = some (.int .u8 (if j < k then T (rd bs (j : Int)).toNat else rd bs (j : Int)))) ∧ Hid (∀ j, j < s.size → wq.frozen? ⟨G, j, none⟩ = false) ∧ Hid (Below w.heap.size w wq)) (fun v53 _ => s.size - (intOf v53).toNat)
              case atStart => exact ⟨0, Nat.zero_le _, rfl, HOLD, Lib.hid (fun j hj => by rw [if_neg (by omega)]; exact HC0.out j hj), HF0, HBEL⟩
              case round =>
                clear HC0 HF0 HOLD HBEL
                obtain ⟨k, hk, rfl, HTB, HC, HF, HBQ⟩ := hrel
                by_cases hlt : k < s.size
                · have hltI : (k : Int) < (s.size : Int) := by omega
                  have hk0 : (0 : Int) ≤ (k : Int) := by omega
                  have hcell := HC.out k hlt
                  rw [if_neg (by omega)] at hcell
                  have hfz := HF.out k hlt
                  have hrg := HRNG.out (rd bs (k : Int)) (by rw [rd_get bs k (by have : bs.length = s.size := HLEN.out; omega)]; exact List.getElem_mem _)
                  obtain ⟨c, hc⟩ : ∃ c, rd bs (k : Int) = c := ⟨_, rfl⟩
                  rw [hc] at hcell hrg
                  have HCC := Lib.hid hc
                  have h0 : 0 ≤ c := hrg.1
                  have h1 : c < 256 := by omega
                  have h2 : c.toNat < 256 := by omega
                  have htab : wr.cell? ⟨w.heap.size, c.toNat, none⟩ = some (.int .u8 (T c.toNat)) := (blk_cell HTB.out _).trans (ivals_get _ _ h2)
                  clear hc hrg hk
                  go_wp2
                  go_roundw
                  case rel =>
                    refine ⟨k + 1, by omega, by go_num, Lib.hid ?_, Lib.hid ?_, Lib.hid ?_, Lib.hid (HBQ.out.setCell (p := ⟨G, k, none⟩) (Nat.le_of_lt HBG.out) _)⟩
                    · exact blk_far HTB.out (p := ⟨G, k, none⟩) (Nat.ne_of_lt HBG.out) _
                    · intro j hj
                      by_cases hjk : j = k
                      · subst hjk
                        rw [if_pos (Nat.lt_succ_self j), show rd bs (j : Int) = c from HCC.out]
                        exact World.cell?_setCell_same (h := HC.out j hj) ..
                      · have hne : (⟨G, k, none⟩ : Addr) ≠ ⟨G, j, none⟩ := fun e => hjk (by injection e with _ e _; exact e.symm)
                        rw [World.cell?_setCell_other (h := hne), HC.out j hj]
                        by_cases h : j < k
                        · rw [if_pos h, if_pos (by omega)]
                        · rw [if_neg h, if_neg (by omega)]
                    · intro j hj
                      rw [World.frozen?_setCell]
                      exact HF.out j hj
                  case measure => first | (simp [intOf]; done) | (simp [intOf]; omega)
                · obtain rfl : k = s.size := by omega
                  have hread : ReadsInt wr .u8 (some ⟨G, 0, none⟩) s.size (bs.map fun c => T c.toNat) := by
                    refine ⟨by rw [List.length_map]; exact HLEN.out, by omega, fun _ => ⟨_, rfl, fun j hj => ?_⟩⟩
                    have hjl : j < bs.length := by have : bs.length = s.size := HLEN.out; omega
                    rw [add_plain, HC.out j hj, if_pos hj, List.getD_eq_getElem?_getD, List.getElem?_map, List.getElem?_eq_getElem hjl, ← rd_get bs j hjl]
                    rfl
                  have hcs := string_of_reads (c := cap) Tryd.underlying22 Tryd.underlying5 Tryd.underlying9 hread
                  have HBQ2 := Lib.hid HBQ.out
                  clear hread hk
                  go_wp2
                  go_ret2
                  refine ⟨?_, HBQ2.out⟩
                  rw [show bytesOf s = bs from HBS.out, show tabAt l1 l2 0 = T from HT.out]
                  rfl
def sets_Swap.f (a0 : ByteArray) (l1 l2 : List Int) : Option (ByteArray × Int) := if a0.size ≤ 70368744177664 ∧ l1.length ≤ 140737488351232 ∧ l2.length ≤ 140737488351232 ∧ okB l1 = true then some (swapPost a0 l1 l2) else none
theorem sets_Swap.calls (a0 : ByteArray) (A1 : Option Addr) (c1 : Nat) (l1 : List Int) (A2 : Option Addr) (c2 : Nat) (l2 : List Int) (r1 : ByteArray) (r2 : Int) (w : World) (hr1 : Kd.C (Kd.int .u8) w A1 l1.length l1) (_hc1 : l1.length ≤ c1) (hr2 : Kd.C (Kd.int .u8) w A2 l2.length l2) (_hc2 : l2.length ≤ c2) (h : sets_Swap.f a0 l1 l2 = some (r1, r2)) :
    Calls Tryd.prog 10 #[.string a0, .slice A1 l1.length c1, .slice A2 l2.length c2] w fun e w' => e = .returned (.tuple #[.string r1, .int .i64 r2]) ∧ Below w.heap.size w w' := by
  unfold sets_Swap.f at h
  by_cases hg : a0.size ≤ 70368744177664 ∧ l1.length ≤ 140737488351232 ∧ l2.length ≤ 140737488351232 ∧ okB l1 = true
  · rw [if_pos hg] at h
    have hw := swap_walk a0 A1 c1 l1 A2 c2 l2 w hr1 hr2 hg.1 hg.2.1 hg.2.2.1 (okB_mem hg.2.2.2)
    rw [Option.some.inj h] at hw
    exact hw
  · rw [if_neg hg] at h
    cases h
end Go.Proofs.YtndmngijfleilaaDoor.L
