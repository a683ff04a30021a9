/- modes.Text: the walk. -/
import Derived.WalkSmall
import Derived.Lib.OthersKept
import Derived.Laws.RangeString
import Derived.LoopTactic
import Derived.Test.YtajnkflopndejaaDoorLx0
namespace Go.Proofs.YtajnkflopndejaaDoor.L
open Go.RowKit Go.Maps Go.Proofs.YtajnkflopndejaaDoorW.PrintWords

def rwx : ByteArray := ⟨#[114, 119, 120, 114, 119, 120, 114, 119, 120]⟩
def rwxL : List Nat := [114, 119, 120, 114, 119, 120, 114, 119, 120]
def txtFirst (k : Int) : Int := if k = 1 then 45 else if k = 2 then 100 else if k = 3 then 108 else 63
def onBit (mode : Int) (i : Nat) : Bool := !(Go.bits .and .i64 (mode / 2 ^ (8 - i)) 1 == 0)
def txtAt (mode : Int) (i : Nat) : Int := if onBit mode i = true then ((rwxL.getD i 0 : Nat) : Int) else 45
def txtPre (k mode : Int) (n : Nat) : List Int := txtFirst k :: (List.range n).map (txtAt mode)

theorem txtPre_succ (k mode : Int) (n : Nat) : txtPre k mode (n + 1) = txtPre k mode n ++ [txtAt mode n] := by simp [txtPre, List.range_succ]
theorem txtPre_len (k mode : Int) (n : Nat) : (txtPre k mode n).length = n + 1 := by simp [txtPre]
theorem iter_new (w : World) (o : Obj) (s : ByteArray) : ((w.alloc o).iter s 0).heap[w.heap.size + 1]? = some (.stringIter s 0) := by
  have h := World.iter_heap (w.alloc o) s 0
  rwa [World.size_alloc] at h
theorem own_one (w : World) (c : Int) : (w.alloc (.cells #[.int .u8 c] 5)).ownsRow w.heap.size 5 1 (.slice (some ⟨w.heap.size, 0, none⟩) 1 1) 1 (nums .u8 [c]) :=
  ⟨rfl, .inr ⟨w.heap.size, 1, #[.int .u8 c], rfl, Nat.le_refl _, heap_alloc_new w _, Nat.le_refl _, by decide, rfl, rfl⟩⟩

theorem own_iterAt' {w : World} {B e size n : Nat} {v : Value} {xs : List Value} {k : Nat} {s : ByteArray} {pos : Nat} (h : w.ownsRow B e size v n xs) (hk : w.heap[k]? = some (.stringIter s pos)) (pos' : Nat) : (w.iterAt k s pos').ownsRow B e size v n xs := by
  obtain ⟨h1, h2⟩ := h
  refine ⟨h1, ?_⟩
  rcases h2 with h2 | ⟨g, cap, cur, a, b, c, d⟩
  · exact .inl h2
  · refine .inr ⟨g, cap, cur, a, b, ?_, d⟩
    rw [Lib.iterAt_other _ _ _ _ _ (fun e => by subst e; rw [hk] at c; cases c)]
    exact c
theorem own_ne_iter' {w : World} {B e size n : Nat} {v : Value} {xs : List Value} {k : Nat} {s : ByteArray} {pos : Nat} (h : w.ownsRow B e size v n xs) (hk : w.heap[k]? = some (.stringIter s pos)) : some k ≠ v.ownBlock := by
  rcases h.2 with ⟨rfl, _⟩ | ⟨g, cap, cur, rfl, b, c, d⟩
  · simp [Value.ownBlock]
  · intro e
    obtain rfl : k = g := by simpa [Value.ownBlock] using e
    rw [hk] at c
    cases c

set_option maxHeartbeats 8000000 in
set_option maxRecDepth 100000 in
theorem text_walk (a0 a1 : Int) (w : World) :
    Calls Tryd.prog 13 #[.int .u8 a0, .int .i64 a1] w fun e w' => e = .returned (.string (strOfNums (txtPre a0 a1 9))) ∧ Below w.heap.size w w' := by
  have hcase : (txtFirst a0 = 45 ∧ (a0 == 1) = true) ∨ (txtFirst a0 = 100 ∧ (a0 == 1) = false ∧ (a0 == 2) = true) ∨ (txtFirst a0 = 108 ∧ (a0 == 1) = false ∧ (a0 == 2) = false ∧ (a0 == 3) = true) ∨ (txtFirst a0 = 63 ∧ (a0 == 1) = false ∧ (a0 == 2) = false ∧ (a0 == 3) = false) := by
    unfold txtFirst
    by_cases h1 : a0 = 1
    · subst h1; exact .inl ⟨rfl, rfl⟩
    · by_cases h2 : a0 = 2
      · subst h2; exact .inr (.inl ⟨rfl, rfl, rfl⟩)
      · by_cases h3 : a0 = 3
        · subst h3; exact .inr (.inr (.inl ⟨rfl, rfl, rfl, rfl⟩))
        · exact .inr (.inr (.inr ⟨by simp [h1, h2, h3], by simp [h1], by simp [h2], by simp [h3]⟩))
  go_enter Tryd.func13, Tryd.ntmps13
  rcases hcase with ⟨hf, g1⟩ | ⟨hf, g1, g2⟩ | ⟨hf, g1, g2, g3⟩ | ⟨hf, g1, g2, g3⟩
  all_goals
    go_wp2
    go_loopw [5] (fun v wr => ∃ pos : Nat, pos ≤ 9 ∧ wr.ownsRow w.heap.size 5 1 v (pos + 1) (nums .u8 (txtPre a0 a1 pos)) ∧ wr.heap[w.heap.size + 1]? = some (.stringIter rwx pos) ∧ Below w.heap.size w wr)
      (fun _ wr => 9 - wr.iterPos (w.heap.size + 1))
    case atStart =>
      refine ⟨0, by omega, ?_, ?_, ?_⟩
      · rw [show txtPre a0 a1 0 = [txtFirst a0] from rfl, hf]
        exact (own_one w _).alloc _
      · exact iter_new w _ rwx
      · exact ((Below.refl _ w).alloc (Nat.le_refl _) _).alloc (by simp) _
    case round =>
      obtain ⟨pos, hpos, hown, hit, hbw⟩ := hrel
      by_cases hp : pos < 9
      · have ha : (rwx[pos]'hp).toNat < 128 := by
          have : ∀ p : Fin 9, (rwx[p.1]'p.2).toNat < 128 := by decide
          exact this ⟨pos, hp⟩
        have hnx := fun ty => Lib.run_next_ascii_at (P := Tryd.prog) wr (w.heap.size + 1) rwx pos ty hit hp ha
        have hit2 := Lib.iterAt_heap wr (w.heap.size + 1) rwx pos (pos + 1) hit
        have hbw2 := Lib.below_iterAt hbw (k := w.heap.size + 1) (by omega) rwx (pos + 1)
        have hown2 : (wr.iterAt (w.heap.size + 1) rwx (pos + 1)).ownsRow w.heap.size 5 1 u5 (pos + 1) (nums .u8 (txtPre a0 a1 pos)) := own_iterAt' hown hit _
        obtain ⟨A, c, rfl, _⟩ := own_reads hown2
        have hpl := txtPre_len a0 a1 pos
        by_cases hb : (Go.bits .and .i64 (a1 / 2 ^ (8 - pos)) 1 == 0) = true
        · have HH : txtAt a1 pos = 45 := by simp [txtAt, onBit, hb]
          go_wp2_with (at_builtin; refine print_append_row (w0 := w) w.heap.size rfl (.tmp 33) (.tmp 36) 32 5 .u8 1 rfl Tryd.underlying32 info5 (by decide) (.slice A (pos + 1) c) (txtPre a0 a1 pos) [_] _ _ _ rfl rfl (hpl.symm ▸ hown2.alloc _) (own_reads' (own_one _ _)) (below_alloc hbw2 _) (by have := hbw2.size; simp only [World.size_alloc]; omega) (by rw [hpl]; omega) ?_; intro v1 w1 hown3 hbw3 hg3 _)
          have hit3 : w1.heap[w.heap.size + 1]? = some (.stringIter rwx (pos + 1)) := (hg3.block _ (by have := (Array.getElem?_eq_some_iff.1 hit2).1; simp only [World.size_alloc]; omega) (own_ne_iter' hown2 hit2)).trans ((Below.heap_alloc _ _ _ (Array.getElem?_eq_some_iff.1 hit2).1).trans hit2)
          go_wp2
          go_roundw
          case rel =>
            refine ⟨pos + 1, by omega, ?_, hit3, hbw3⟩
            rw [txtPre_succ, show txtAt a1 pos = _ from HH]
            simpa [hpl] using hown3
          case measure => simp only [World.iterPos, hit3, hit]; omega
        · replace hb : (Go.bits .and .i64 (a1 / 2 ^ (8 - pos)) 1 == 0) = false := by simpa using hb
          have HH : txtAt a1 pos = ((rwx[pos]'hp).toNat : Int) := by
            have e : rwxL.getD pos 0 = (rwx[pos]'hp).toNat := by
              have : ∀ p : Fin 9, rwxL.getD p.1 0 = (rwx[p.1]'p.2).toNat := by decide
              exact this ⟨pos, hp⟩
            simp only [txtAt, onBit, hb, e]; rfl
          go_wp2_with (at_builtin; refine print_append_row (w0 := w) w.heap.size rfl (.tmp 33) (.tmp 36) 32 5 .u8 1 rfl Tryd.underlying32 info5 (by decide) (.slice A (pos + 1) c) (txtPre a0 a1 pos) [_] _ _ _ rfl rfl (hpl.symm ▸ hown2.alloc _) (own_reads' (own_one _ _)) (below_alloc hbw2 _) (by have := hbw2.size; simp only [World.size_alloc]; omega) (by rw [hpl]; omega) ?_; intro v1 w1 hown3 hbw3 hg3 _)
          have hit3 : w1.heap[w.heap.size + 1]? = some (.stringIter rwx (pos + 1)) := (hg3.block _ (by have := (Array.getElem?_eq_some_iff.1 hit2).1; simp only [World.size_alloc]; omega) (own_ne_iter' hown2 hit2)).trans ((Below.heap_alloc _ _ _ (Array.getElem?_eq_some_iff.1 hit2).1).trans hit2)
          go_wp2
          go_roundw
          case rel =>
            refine ⟨pos + 1, by omega, ?_, hit3, hbw3⟩
            rw [txtPre_succ, show txtAt a1 pos = _ from HH]
            simpa [hpl] using hown3
          case measure => simp only [World.iterPos, hit3, hit]; omega
      · have hnx := fun ty => Lib.run_next_end_at (P := Tryd.prog) wr (w.heap.size + 1) rwx pos ty hit hp
        obtain rfl : pos = 9 := by omega
        have hcv := own_string Tryd.underlying32 Tryd.underlying5 Tryd.underlying9 hown
        go_wp2
        go_ret
        exact ⟨rfl, hbw⟩
end Go.Proofs.YtajnkflopndejaaDoor.L
