/- blocks.Check: the walk. -/
import Derived.WalkSmall
import Derived.Lib.Hide
import Derived.Laws.Rows
import Derived.Laws.Tables
import Derived.Laws.CopyRow
import Derived.Deep.WholeRow
import Derived.LoopTactic
import Derived.Test.YtomnpmfmlbmpeaaDoorLx0
namespace Go.Proofs.YtomnpmfmlbmpeaaDoor.L
open Go.RowKit Go.Proofs.YtomnpmfmlbmpeaaDoorW.PrintWords

/-- A plan's ten fields. -/
structure Pl where
  i : Int
  o : Int
  sk : Int
  ct : Int
  se : Int
  kp : Bool
  sw : Bool
  up : Bool
  lo : Bool
  sy : Bool
def Pl.cells (p : Pl) : Array Value := #[.int .i64 p.i, .int .i64 p.o, .int .i64 p.sk, .int .i64 p.ct, .int .i64 p.se, .bool p.kp, .bool p.sw, .bool p.up, .bool p.lo, .bool p.sy]
def Pl.ok (p : Pl) : Bool := decide (1 ≤ p.i ∧ p.i ≤ 65536) && decide (1 ≤ p.o ∧ p.o ≤ 65536) && decide (0 ≤ p.sk ∧ p.sk ≤ 2147483647) && decide (0 ≤ p.se ∧ p.se ≤ 2147483647) && (!p.up || !p.lo)

/-- An element of an array of two numbers. -/
theorem index59 (CS : Array Value) (k : Nat) (hk : k < 2) (b : Int) (hc : CS[k]? = some (.int .i64 b)) (W : World) :
    (Instr.index 59 (.agg CS) (.int .i64 (k : Int))).run Tryd.prog W = .ok (.int .i64 b) W := by
  have h0 : (0 : Int) ≤ (k : Int) := by omega
  have hs : ∀ W, (sizeOf 3).run Tryd.prog W = .ok 1 W := fun W => by kernel_rfl
  simp [Instr.index, h0, go_sem, hc, hs]
  omega
def two (a b : Int) (k : Nat) : Int := if k = 0 then a else b
theorem two_get (a b : Int) (k : Nat) (hk : k < 2) : (#[.int .i64 a, .int .i64 b] : Array Value)[k]? = some (.int .i64 (two a b k)) := by
  have : k = 0 ∨ k = 1 := by omega
  rcases this with rfl | rfl <;> rfl

set_option maxHeartbeats 4000000 in
set_option maxRecDepth 100000 in
theorem check_walk (p : Pl) (w : World) : Calls Tryd.prog 11 #[.agg p.cells] w fun e w' => e = .returned (.bool p.ok) ∧ Below w.heap.size w w' := by
  obtain ⟨i, o, sk, ct, se, kp, sw, up, lo, sy⟩ := p
  simp only [Pl.cells, Pl.ok]
  obtain ⟨R, hR⟩ : ∃ R, (decide (1 ≤ i ∧ i ≤ 65536) && decide (1 ≤ o ∧ o ≤ 65536) && decide (0 ≤ sk ∧ sk ≤ 2147483647) && decide (0 ≤ se ∧ se ≤ 2147483647) && (!up || !lo)) = R := ⟨_, rfl⟩
  rw [hR]
  have HR := Lib.hid hR
  clear hR
  go_enter Tryd.func11, Tryd.ntmps11
  go_wp2
  go_loopw [12] (fun v12 wr => ∃ k : Nat, k ≤ 2 ∧ v12 = .int .i64 k ∧ (1 ≤ k → 1 ≤ i ∧ i ≤ 65536) ∧ (2 ≤ k → 1 ≤ o ∧ o ≤ 65536) ∧ Hid (wr.heap[w.heap.size]? = some (.cells #[.int .i64 i, .int .i64 o, .int .i64 sk, .int .i64 ct, .int .i64 se, .bool kp, .bool sw, .bool up, .bool lo, .bool sy] 26 (0, 0))) ∧ Hid (Below w.heap.size w wr)) (fun v12 _ => 2 - (intOf v12).toNat)
  case atStart => exact ⟨0, by omega, rfl, by omega, by omega, Lib.hid (heap_alloc_new w _), Lib.hid (below_alloc (Below.refl _ w) _)⟩
  case round =>
    obtain ⟨k, hk, rfl, hi, ho, HK, HB⟩ := hrel
    by_cases hlt : k < 2
    · have hI : (k : Int) < 2 := by omega
      have hix : ∀ W, (Instr.index 59 (.agg #[.int .i64 i, .int .i64 o]) (.int .i64 (k : Int))).run Tryd.prog W = .ok (.int .i64 (two i o k)) W := index59 _ k hlt _ (two_get i o k hlt)
      have hi2 : k = 0 → two i o k = i := fun h => by rw [h]; rfl
      have ho2 : k = 1 → two i o k = o := fun h => by rw [h]; rfl
      obtain ⟨x, hx⟩ : ∃ x, two i o k = x := ⟨_, rfl⟩
      rw [hx] at hi2 ho2 hix
      clear hx
      by_cases g1 : x < 1
      · have HF := Lib.hid (show R = false by
          rw [← HR.out]
          have : ¬ (1 ≤ i ∧ i ≤ 65536) ∨ ¬ (1 ≤ o ∧ o ≤ 65536) := by omega
          rcases this with h | h <;> simp [h])
        clear hi ho hi2 ho2 hk
        go_wp2
        go_ret
        rw [HF.out]; exact ⟨rfl, HB.out⟩
      · by_cases g2 : x > 65536
        · have HF := Lib.hid (show R = false by
            rw [← HR.out]
            have : ¬ (1 ≤ i ∧ i ≤ 65536) ∨ ¬ (1 ≤ o ∧ o ≤ 65536) := by omega
            rcases this with h | h <;> simp [h])
          clear hi ho hi2 ho2 hk
          go_wp2
          go_ret
          rw [HF.out]; exact ⟨rfl, HB.out⟩
        · have HI := Lib.hid hi
          have HO := Lib.hid ho
          have HI2 := Lib.hid hi2
          have HO2 := Lib.hid ho2
          clear hi ho hi2 ho2 hk
          go_wp2
          go_roundw
          case rel =>
            have a1 := HI.out
            have a2 := HO.out
            have a3 := HI2.out
            have a4 := HO2.out
            exact ⟨k + 1, by omega, by go_num, by omega, by omega, HK, HB⟩
          case measure => simp [intOf]; omega
    · have hk2 : k = 2 := by omega
      have gi : 1 ≤ i ∧ i ≤ 65536 := hi (by omega)
      have go : 1 ≤ o ∧ o ≤ 65536 := ho (by omega)
      have hI : ¬ (k : Int) < 2 := by omega
      have GI := Lib.hid gi
      have GO := Lib.hid go
      have HKK := HK.out
      have c2 : wr.cell? ⟨w.heap.size, 2, none⟩ = some (.int .i64 sk) := blk_cell HKK 2
      have c4 : wr.cell? ⟨w.heap.size, 4, none⟩ = some (.int .i64 se) := blk_cell HKK 4
      clear hi ho gi go hk hk2 HKK
      go_wp2
      go_loopw [27] (fun v27 wr => ∃ k : Nat, k ≤ 2 ∧ v27 = .int .i64 k ∧ (1 ≤ k → 0 ≤ sk ∧ sk ≤ 2147483647) ∧ (2 ≤ k → 0 ≤ se ∧ se ≤ 2147483647) ∧ Hid (wr.heap[w.heap.size]? = some (.cells #[.int .i64 i, .int .i64 o, .int .i64 sk, .int .i64 ct, .int .i64 se, .bool kp, .bool sw, .bool up, .bool lo, .bool sy] 26 (0, 0))) ∧ Hid (Below w.heap.size w wr)) (fun v27 _ => 2 - (intOf v27).toNat)
      case atStart => exact ⟨0, by omega, rfl, by omega, by omega, HK, HB⟩
      case round =>
        obtain ⟨q, hq, rfl, hi, ho, HK, HB⟩ := hrel
        by_cases hlt : q < 2
        · have hI : (q : Int) < 2 := by omega
          have hix : ∀ W, (Instr.index 59 (.agg #[.int .i64 sk, .int .i64 se]) (.int .i64 (q : Int))).run Tryd.prog W = .ok (.int .i64 (two sk se q)) W := index59 _ q hlt _ (two_get sk se q hlt)
          have hi2 : q = 0 → two sk se q = sk := fun h => by rw [h]; rfl
          have ho2 : q = 1 → two sk se q = se := fun h => by rw [h]; rfl
          obtain ⟨x, hx⟩ : ∃ x, two sk se q = x := ⟨_, rfl⟩
          rw [hx] at hi2 ho2 hix
          clear hx
          by_cases g1 : x < 0
          · have HF := Lib.hid (show R = false by
              rw [← HR.out]
              have : ¬ (0 ≤ sk ∧ sk ≤ 2147483647) ∨ ¬ (0 ≤ se ∧ se ≤ 2147483647) := by omega
              rcases this with h | h <;> simp [h])
            clear hi ho hi2 ho2 hq
            go_wp2
            go_ret
            rw [HF.out]; exact ⟨rfl, HB.out⟩
          · by_cases g2 : x > 2147483647
            · have HF := Lib.hid (show R = false by
                rw [← HR.out]
                have : ¬ (0 ≤ sk ∧ sk ≤ 2147483647) ∨ ¬ (0 ≤ se ∧ se ≤ 2147483647) := by omega
                rcases this with h | h <;> simp [h])
              clear hi ho hi2 ho2 hq
              go_wp2
              go_ret
              rw [HF.out]; exact ⟨rfl, HB.out⟩
            · have HI := Lib.hid hi
              have HO := Lib.hid ho
              have HI2 := Lib.hid hi2
              have HO2 := Lib.hid ho2
              clear hi ho hi2 ho2 hq
              go_wp2
              go_roundw
              case rel =>
                have a1 := HI.out
                have a2 := HO.out
                have a3 := HI2.out
                have a4 := HO2.out
                exact ⟨q + 1, by omega, by go_num, by omega, by omega, HK, HB⟩
              case measure => simp [intOf]; omega
        · have hq2 : q = 2 := by omega
          have gsk : 0 ≤ sk ∧ sk ≤ 2147483647 := hi (by omega)
          have gse : 0 ≤ se ∧ se ≤ 2147483647 := ho (by omega)
          have hI : ¬ (q : Int) < 2 := by omega
          have HRR := Lib.hid (show R = (!up || !lo) by
            have a1 := GI.out
            have a2 := GO.out
            rw [← HR.out, decide_eq_true a1, decide_eq_true a2, decide_eq_true gsk, decide_eq_true gse]
            rfl)
          have HKK := HK.out
          have c7 : wr.cell? ⟨w.heap.size, 7, none⟩ = some (.bool up) := blk_cell HKK 7
          have c8 : wr.cell? ⟨w.heap.size, 8, none⟩ = some (.bool lo) := blk_cell HKK 8
          clear hi ho gsk gse hq hq2 HKK
          cases up <;> cases lo <;> (go_wp2; go_ret; rw [HRR.out]; exact ⟨rfl, HB.out⟩)
end Go.Proofs.YtomnpmfmlbmpeaaDoor.L
