/- (Plan).turn: the walk: bytes change places two by two. -/
import Derived.Test.YtomnpmfmlbmpeaaDoorRaise
namespace Go.Proofs.YtomnpmfmlbmpeaaDoor.L
open Go.RowKit Go.Proofs.YtomnpmfmlbmpeaaDoorW.PrintWords

/-- Where a byte comes from when m pairs have changed places. -/
def swF (m j : Nat) : Nat := if j < 2 * m then (if j % 2 = 0 then j + 1 else j - 1) else j
def swTo (m : Nat) (xs : List Int) : List Int := (List.range xs.length).map fun j => rd xs ((swF m j : Nat) : Int)
theorem swTo_len (m : Nat) (xs : List Int) : (swTo m xs).length = xs.length := by unfold swTo; simp
theorem swTo_get (m : Nat) (xs : List Int) (j : Nat) (h : j < (swTo m xs).length) : (swTo m xs)[j] = rd xs ((swF m j : Nat) : Int) := by
  have e : ∀ (l : List Int) (hl : l = (List.range xs.length).map fun j => rd xs ((swF m j : Nat) : Int)) (h : j < l.length), l[j] = rd xs ((swF m j : Nat) : Int) := by
    rintro l rfl h
    rw [List.getElem_map, List.getElem_range]
  exact e _ rfl h
/-- What turn makes of a block. -/
def turned (sw : Bool) (xs : List Int) : List Int := if sw = true then swTo (xs.length / 2) xs else xs
theorem rd_getE (l : List Int) (k : Nat) (h : k < l.length) : rd l (k : Int) = l[k] := by
  unfold rd
  rw [Int.toNat_natCast, List.getD_eq_getElem?_getD, List.getElem?_eq_getElem h]
  rfl
theorem swTo_zero (xs : List Int) : swTo 0 xs = xs := by
  apply List.ext_getElem
  · exact swTo_len 0 xs
  · intro j h1 h2
    rw [swTo_get, ← rd_getE xs j h2]
    rfl
theorem swTo_rd (m : Nat) (xs : List Int) (j : Nat) (h : 2 * m ≤ j) (hj : j < xs.length) : rd (swTo m xs) (j : Int) = rd xs (j : Int) := by
  have e : swF m j = j := by unfold swF; rw [if_neg (by omega)]
  rw [rd_getE _ j (by rw [swTo_len]; exact hj), swTo_get, e]
theorem swTo_succ (m : Nat) (xs : List Int) (_h : 2 * m + 1 < xs.length) : ((swTo m xs).set (2 * m) (rd xs ((2 * m + 1 : Nat) : Int))).set (2 * m + 1) (rd xs ((2 * m : Nat) : Int)) = swTo (m + 1) xs := by
  apply List.ext_getElem
  · simp [swTo_len]
  · intro j h1 h2
    rw [List.getElem_set, List.getElem_set, swTo_get, swTo_get]
    have e : swF (m + 1) j = if 2 * m + 1 = j then 2 * m else if 2 * m = j then 2 * m + 1 else swF m j := by
      unfold swF
      by_cases a : 2 * m + 1 = j
      · rw [if_pos a, if_pos (by omega), if_neg (by omega)]
        omega
      · rw [if_neg a]
        by_cases b : 2 * m = j
        · rw [if_pos b, if_pos (by omega), if_pos (by omega)]
          omega
        · rw [if_neg b]
          by_cases d : j < 2 * m
          · rw [if_pos d, if_pos (by omega)]
          · rw [if_neg d, if_neg (by omega)]
    rw [e]
    by_cases a : 2 * m + 1 = j
    · rw [if_pos a, if_pos a]
    · rw [if_neg a, if_neg a]
      by_cases b : 2 * m = j
      · rw [if_pos b, if_pos b]
      · rw [if_neg b, if_neg b]

set_option maxHeartbeats 4000000 in
set_option maxRecDepth 100000 in
theorem turn_walk (p : Pl) (base g n c : Nat) (xs : List Int) (w : World) (hown : OwnZ w base (.slice (some ⟨g, 0, none⟩) n c) n xs) (hn : n ≤ 1099511627776) :
    Calls Tryd.prog 26 #[.agg p.cells, .slice (some ⟨g, 0, none⟩) n c] w fun e w' => e = .returned (.slice (some ⟨g, 0, none⟩) n c) ∧ OwnZ w' base (.slice (some ⟨g, 0, none⟩) n c) n (turned p.sw xs) ∧ w.grownBy w' (some g) := by
  obtain ⟨i, o, sk, ct, se, kp, sw, up, lo, sy⟩ := p
  simp only [Pl.cells]
  have hlen : xs.length = n := by exact hown.1
  obtain ⟨CS, hCS⟩ : ∃ CS : Array Value, CS = #[.int .i64 i, .int .i64 o, .int .i64 sk, .int .i64 ct, .int .i64 se, .bool kp, .bool sw, .bool up, .bool lo, .bool sy] := ⟨_, rfl⟩
  have hO := OwnZ.below hown (below_alloc (Below.refl _ w) (.cells CS 26))
  have hb := heap_alloc_new w (.cells CS 26)
  have hG := World.grownBy_alloc w (.cells CS 26) (some g)
  have hgl : g < w.heap.size := (hown.lt g rfl).2
  rw [hCS] at hO hG hb
  have HN := Lib.hid hn
  have HL := Lib.hid hlen
  have HO := Lib.hid hO
  have HG0 := Lib.hid hG
  have HGL := Lib.hid hgl
  have HBX := Lib.hid hb
  clear hn hlen hown hCS hO hG hgl hb
  go_enter Tryd.func26, Tryd.ntmps26
  go_wp2
  go_loopw [5] (fun v5 wr => ∃ m : Nat, 2 * m ≤ n ∧ v5 = .int .i64 (2 * (m : Int) + 1) ∧ (sw = false → m = 0) ∧ Hid (wr.heap[w.heap.size]? = some (.cells #[.int .i64 i, .int .i64 o, .int .i64 sk, .int .i64 ct, .int .i64 se, .bool kp, .bool sw, .bool up, .bool lo, .bool sy] 26 (0, 0))) ∧ Hid (OwnZ wr base (.slice (some ⟨g, 0, none⟩) n c) n (swTo m xs)) ∧ Hid (w.grownBy wr (some g))) (fun v5 _ => n + 2 - (intOf v5).toNat)
  case atStart => exact ⟨0, by omega, rfl, fun _ => rfl, HBX, Lib.hid (by rw [swTo_zero]; exact HO.out), HG0⟩
  case round =>
    obtain ⟨m, hm, rfl, hsw, HB, HK, HG⟩ := hrel
    have HKB := HB.out
    have c6 : wr.cell? ⟨w.heap.size, 6, none⟩ = some (.bool sw) := blk_cell HKB 6
    clear HKB
    cases sw with
    | false =>
      have HM := Lib.hid (show swTo m xs = turned false xs by rw [hsw rfl, swTo_zero]; rfl)
      rw [HM.out] at HK
      clear hsw hm
      go_wp2
      go_ret
      exact ⟨rfl, HK.out, HG.out⟩
    | true =>
      clear hsw
      by_cases hlt : 2 * m + 1 < n
      · have hI : (2 * (m : Int) + 1) < (n : Int) := by omega
        have h0 : (0 : Int) ≤ 2 * (m : Int) := by omega
        have h1 : (0 : Int) ≤ 2 * (m : Int) + 1 := by omega
        have hN := HN.out
        obtain ⟨a1, f1⟩ := ownz_at HK.out (2 * (m : Int)) h0 (by omega)
        obtain ⟨a2, f2⟩ := ownz_at HK.out (2 * (m : Int) + 1) h1 hI
        have hl : 2 * m + 1 < xs.length := by have := HL.out; omega
        have es := swTo_succ m xs hl
        rw [← swTo_rd m xs (2 * m + 1) (by omega) hl, ← swTo_rd m xs (2 * m) (by omega) (by omega)] at es
        rw [show ((2 * m + 1 : Nat) : Int) = 2 * (m : Int) + 1 by omega, show ((2 * m : Nat) : Int) = 2 * (m : Int) by omega] at es
        rw [show 2 * m + 1 = (2 * (m : Int) + 1).toNat by omega, show 2 * m = (2 * (m : Int)).toNat by omega] at es
        obtain ⟨x1, hx1⟩ : ∃ x, rd (swTo m xs) (2 * (m : Int)) = x := ⟨_, rfl⟩
        obtain ⟨x2, hx2⟩ : ∃ x, rd (swTo m xs) (2 * (m : Int) + 1) = x := ⟨_, rfl⟩
        rw [hx1] at a1 es
        rw [hx2] at a2 es
        have s1 := ownz_store HK.out (2 * (m : Int)) x2
        have s2 := ownz_store s1.1 (2 * (m : Int) + 1) x1
        rw [es] at s2
        obtain ⟨z, hz⟩ : ∃ z : Int, 2 * (m : Int) = z := ⟨_, rfl⟩
        have hmz : 2 * ((m + 1 : Nat) : Int) = z + 2 := by omega
        rw [hz] at hI h0 h1 a1 f1 a2 f2 s1 s2 ⊢
        have S1 := Lib.hid s1
        have S2 := Lib.hid s2
        have HMZ := Lib.hid hmz
        have HZ := Lib.hid hz
        clear hm hlt hl es hx1 hx2 s1 s2 hz hmz
        go_wp2
        go_region
        go_wp2
        go_roundw
        case rel =>
          have hmz := HMZ.out
          have hgl := HGL.out
          refine ⟨m + 1, by omega, by rw [hmz, show z + 1 + 2 = z + 2 + 1 by omega], fun h => by (cases h), Lib.hid ?_, Lib.hid ?_, Lib.hid ?_⟩
          · refine blk_drew ?_
            exact (Below.heap_setCell _ _ _ _ (show w.heap.size ≠ g by omega)).trans ((Below.heap_setCell _ _ _ _ (show w.heap.size ≠ g by omega)).trans HB.out)
          · exact OwnZ.below S2.out.1 (below_drew (Below.refl _ _))
          · exact ((HG.out.trans S1.out.2).trans S2.out.2).trans (grown_of_below (below_drew (Below.refl _ _)) _)
        case measure => simp [intOf]; omega
      · have hI : ¬ (2 * (m : Int) + 1) < (n : Int) := by omega
        have HM := Lib.hid (show swTo m xs = turned true xs by
          have := HL.out
          have e : m = xs.length / 2 := by omega
          rw [e]
          rfl)
        rw [HM.out] at HK
        clear hm hlt
        go_wp2
        go_ret
        exact ⟨rfl, HK.out, HG.out⟩
end Go.Proofs.YtomnpmfmlbmpeaaDoor.L
