/- blocks.Run: the walk. -/
import Derived.Test.YtomnpmfmlbmpeaaDoorClos
import Derived.Test.YtomnpmfmlbmpeaaDoorFresh
import Derived.Test.YtomnpmfmlbmpeaaDoorStep
import Derived.Test.YtomnpmfmlbmpeaaDoorWrite
import Derived.Deep.RegionHeld3
import Derived.Deep.AppendLies
import Derived.Deep.DeepCutAuto
import Derived.ControlIn
namespace Go.Proofs.YtomnpmfmlbmpeaaDoor.L
open Go.RowKit Go.Shelf Go.Proofs.YtomnpmfmlbmpeaaDoorW.PrintWords

attribute [local go_sem] Oper.semAt_some

/-- A block's bytes; what is made of them. -/
def ints (s : ByteArray) : List Int := s.data.toList.map fun b => (b.toNat : Int)
def workB (p : Pl) (xs : List Int) : List Int := ((turned p.sw (filled p.sy p.i xs)).map (lett 97 p.up)).map (lett 65 p.lo)
def goesK (p : Pl) (s : ByteArray) : Nat → List Int
  | 0 => []
  | k + 1 => goesK p s k ++ workB p (ints (blkB p s k))
def wholeK (p : Pl) (s : ByteArray) : Nat → Nat
  | 0 => 0
  | k + 1 => wholeK p s k + if ((blkB p s k).size : Int) = p.i then 1 else 0
def partK (p : Pl) (s : ByteArray) : Nat → Nat
  | 0 => 0
  | k + 1 => partK p s k + if ((blkB p s k).size : Int) = p.i then 0 else 1

/-- Between two rounds. -/
def InvI (p : Pl) (s : ByteArray) (w : World) (B2 k : Nat) (W : World) : Prop :=
  W.heap[w.heap.size]? = some (.cells p.cells 26 (0, 0)) ∧ W.heap[w.heap.size + 1]? = some (.cells #[.int .i64 (wholeK p s k), .int .i64 (partK p s k), .int .i64 0, .int .i64 0] 27 (0, 0)) ∧
  W.heap[B2 + 1]? = some (.cells p.cells 26 (0, 0)) ∧ W.heap[B2 + 2]? = some (.cells #[.string s] 9 (0, 0)) ∧
  (∃ v, W.heap[B2]? = some (.cells #[v] 42 (0, 0)) ∧ W.ownsRow w.heap.size 5 1 v (goesK p s k).length (nums .u8 (goesK p s k))) ∧ Below w.heap.size w W
theorem row_ne_box {W : World} {base n b : Nat} {u : Value} {xs : List Value} {cs : Array Value} {t : TypeId} (h : W.ownsRow base 5 1 u n xs) (hb : W.heap[b]? = some (.cells cs t (0, 0))) (ht : t ≠ 5) (e : u.ownBlock = some b) : False := by
  rcases h.2 with ⟨rfl, _⟩ | ⟨g, cap, cur, rfl, _, hh, _⟩
  · simp [Value.ownBlock] at e
  · obtain rfl : g = b := by simpa [Value.ownBlock] using e
    rw [hh] at hb
    injection hb with hb
    injection hb with _ hb
    exact ht hb.symm
/-- Within a round: what lies below the yielded block g. -/
structure InvC (p : Pl) (s : ByteArray) (w : World) (B2 : Nat) (nw np : Int) (G : List Int) (g : Nat) (u : Value) (W : World) : Prop where
  h0 : W.heap[w.heap.size]? = some (.cells p.cells 26 (0, 0))
  h1 : W.heap[w.heap.size + 1]? = some (.cells #[.int .i64 nw, .int .i64 np, .int .i64 0, .int .i64 0] 27 (0, 0))
  h2 : W.heap[B2 + 1]? = some (.cells p.cells 26 (0, 0))
  h3 : W.heap[B2 + 2]? = some (.cells #[.string s] 9 (0, 0))
  h4 : W.heap[B2]? = some (.cells #[u] 42 (0, 0))
  h5 : W.ownsRow w.heap.size 5 1 u G.length (nums .u8 G)
  h6 : ∀ q, u.ownBlock = some q → q < g
  h7 : Below w.heap.size w W
  h8 : B2 + 2 < g
  h9 : w.heap.size + 1 < B2
/-- When a block has been yielded. -/
def InvB (p : Pl) (s : ByteArray) (w : World) (B2 k : Nat) (u : Value) (W : World) : Prop :=
  ∃ g c v, u = .slice (some ⟨g, 0, none⟩) (blkB p s k).size c ∧ W.heap.size = g + 1 ∧ OwnZ W g (.slice (some ⟨g, 0, none⟩) (blkB p s k).size c) (blkB p s k).size (ints (blkB p s k)) ∧
  InvC p s w B2 (wholeK p s k) (partK p s k) (goesK p s k) g v W

theorem InvC.set0 {p : Pl} {s : ByteArray} {w : World} {B2 : Nat} {nw np : Int} {G : List Int} {g : Nat} {u : Value} {W : World} (h : InvC p s w B2 nw np G g u W) (x : Int) : InvC p s w B2 x np G g u (W.setCell ⟨w.heap.size + 1, 0, none⟩ (.int .i64 x)) := by
  have ne : ∀ b, b ≠ w.heap.size + 1 → (W.setCell ⟨w.heap.size + 1, 0, none⟩ (.int .i64 x)).heap[b]? = W.heap[b]? := fun b hb => Below.heap_setCell _ _ _ _ hb
  have h8 := h.h8
  have h9 := h.h9
  refine ⟨(ne _ (by omega)).trans h.h0, blk_set h.h1 0 _, (ne _ (by omega)).trans h.h2, (ne _ (by omega)).trans h.h3, (ne _ (by omega)).trans h.h4, own_setCell h.h5 (p := ⟨w.heap.size + 1, 0, none⟩) (fun e => ?_) _, h.h6, h.h7.setCell (p := ⟨w.heap.size + 1, 0, none⟩) (by simp) _, h8, h9⟩
  exact row_ne_box h.h5 h.h1 (by decide) e.symm
theorem InvC.set1 {p : Pl} {s : ByteArray} {w : World} {B2 : Nat} {nw np : Int} {G : List Int} {g : Nat} {u : Value} {W : World} (h : InvC p s w B2 nw np G g u W) (x : Int) : InvC p s w B2 nw x G g u (W.setCell ⟨w.heap.size + 1, 1, none⟩ (.int .i64 x)) := by
  have ne : ∀ b, b ≠ w.heap.size + 1 → (W.setCell ⟨w.heap.size + 1, 1, none⟩ (.int .i64 x)).heap[b]? = W.heap[b]? := fun b hb => Below.heap_setCell _ _ _ _ hb
  have h8 := h.h8
  have h9 := h.h9
  refine ⟨(ne _ (by omega)).trans h.h0, blk_set h.h1 1 _, (ne _ (by omega)).trans h.h2, (ne _ (by omega)).trans h.h3, (ne _ (by omega)).trans h.h4, own_setCell h.h5 (p := ⟨w.heap.size + 1, 1, none⟩) (fun e => ?_) _, h.h6, h.h7.setCell (p := ⟨w.heap.size + 1, 1, none⟩) (by simp) _, h8, h9⟩
  exact row_ne_box h.h5 h.h1 (by decide) e.symm
theorem InvC.below {p : Pl} {s : ByteArray} {w : World} {B2 : Nat} {nw np : Int} {G : List Int} {g : Nat} {u : Value} {W W' : World} (h : InvC p s w B2 nw np G g u W) (hb : Below g W W') : InvC p s w B2 nw np G g u W' := by
  have h8 := h.h8
  have h9 := h.h9
  refine ⟨(hb.block _ (by omega)).trans h.h0, (hb.block _ (by omega)).trans h.h1, (hb.block _ (by omega)).trans h.h2, (hb.block _ (by omega)).trans h.h3, (hb.block _ (by omega)).trans h.h4, ⟨h.h5.1, ?_⟩, h.h6, h.h7.trans (hb.mono (by omega)), h8, h9⟩
  rcases h.h5.2 with hn | ⟨b, cap, cur, hv, hbb, hh, rest⟩
  · exact .inl hn
  · exact .inr ⟨b, cap, cur, hv, hbb, (hb.block _ (h.h6 b (by rw [hv]; rfl))).trans hh, rest⟩
/-- What a round leaves: goes has grown. -/
theorem InvC.after {p : Pl} {s : ByteArray} {w : World} {B2 : Nat} {nw np : Int} {G : List Int} {g : Nat} {u : Value} {W W' : World} (h : InvC p s w B2 nw np G g u W) {u' : Value} {G' : List Int} (_hown : W'.ownsRow w.heap.size 5 1 u' G'.length (nums .u8 G')) (hg : W.grownBy W' u.ownBlock) :
    W'.heap[w.heap.size]? = some (.cells p.cells 26 (0, 0)) ∧ W'.heap[w.heap.size + 1]? = some (.cells #[.int .i64 nw, .int .i64 np, .int .i64 0, .int .i64 0] 27 (0, 0)) ∧ W'.heap[B2 + 1]? = some (.cells p.cells 26 (0, 0)) ∧ W'.heap[B2 + 2]? = some (.cells #[.string s] 9 (0, 0)) ∧ W'.heap[B2]? = some (.cells #[u] 42 (0, 0)) ∧ Below w.heap.size w W' ∧ KeepsOthers W W' :=
  ⟨blk_grown h.h0 hg (fun e => row_ne_box h.h5 h.h0 (by decide) e.symm), blk_grown h.h1 hg (fun e => row_ne_box h.h5 h.h1 (by decide) e.symm), blk_grown h.h2 hg (fun e => row_ne_box h.h5 h.h2 (by decide) e.symm), blk_grown h.h3 hg (fun e => row_ne_box h.h5 h.h3 (by decide) e.symm), blk_grown h.h4 hg (fun e => row_ne_box h.h5 h.h4 (by decide) e.symm),
    h.h7.grown hg h.h7.size (fun k e => (h.h5.lt k e).1), KeepsOthers.of_grownBy hg (fun j o e hj => by
      rcases h.h5.2 with ⟨rfl, _⟩ | ⟨b, cap, cur, rfl, _, hh, _⟩
      · simp [Value.ownBlock] at e
      · obtain rfl : b = j := by simpa [Value.ownBlock] using e
        rw [hh] at hj; cases hj; rfl)⟩
theorem keeps_below {B g : Nat} {W W' : World} (hsz : W.heap.size = g + 1) (hb : Below g W W') (hz : ∀ o, W.heap[g]? = some o → o.isCells = true) : KeepsFrom B W W' :=
  ⟨hb.size, fun k o _ hk hc => by
    have hlt := blk_lt hk
    by_cases e : k = g
    · subst e
      rw [hz o hk] at hc
      cases hc
    · exact (hb.block k (by omega)).trans hk⟩

theorem heap_ownFrom {W W' : World} {B b : Nat} {cs : Array Value} {t : TypeId} {fz : Nat × Nat} {row : Option Nat} (h : W.heap[b]? = some (.cells cs t fz)) (hg : W.grownBy W' row) (hr : ∀ r, row = some r → B ≤ r ∧ ∃ o : Obj, W.heap[r]? = some o ∧ o.isCells = false) : W'.heap[b]? = some (.cells cs t fz) :=
  (hg.block b (blk_lt h) (fun e => by obtain ⟨_, o, ho, hc⟩ := hr b e.symm; rw [h] at ho; cases ho; cases hc)).trans h
theorem row_ownFrom {W W' : World} {B base n : Nat} {v : Value} {xs : List Value} {row : Option Nat} (h : W.ownsRow base 5 1 v n xs) (hg : W.grownBy W' row) (hr : ∀ r, row = some r → B ≤ r ∧ ∃ o : Obj, W.heap[r]? = some o ∧ o.isCells = false) : W'.ownsRow base 5 1 v n xs := by
  refine h.kept hg ?_
  rcases h.2 with ⟨rfl, _⟩ | ⟨g, cap, cur, rfl, _, hgb, _⟩
  · exact .inl rfl
  · refine .inr fun e' => ?_
    obtain ⟨_, o, ho, hc⟩ := hr g (by simpa [Value.ownBlock] using e'.symm)
    rw [hgb] at ho; cases ho; cases hc
theorem InvI_own (p : Pl) (s : ByteArray) (w : World) (B2 k B : Nat) (hB : w.heap.size ≤ B) : OwnFrom B (fun (_ : Unit) W => InvI p s w B2 k W) := by
  rintro _ W W' row ⟨h0, h1, h2, h3, ⟨v, h4, h5⟩, h6⟩ hg hr
  refine ⟨heap_ownFrom h0 hg hr, heap_ownFrom h1 hg hr, heap_ownFrom h2 hg hr, heap_ownFrom h3 hg hr, ⟨v, heap_ownFrom h4 hg hr, row_ownFrom h5 hg hr⟩, ?_⟩
  exact h6.grown hg h6.size (fun k e => Nat.le_trans hB (hr k e).1)
theorem InvB_put (p : Pl) (s : ByteArray) (w : World) (B2 k : Nat) (u : Value) (W : World) (l : Nat) (o o' : Obj) (hB : w.heap.size ≤ l) (hl : W.heap[l]? = some o) (hc : o.isCells = false) (h : InvB p s w B2 k u W) : InvB p s w B2 k u (W.putObj l o') := by
  obtain ⟨g, c, v, hu, hsz, hz, h⟩ := h
  have hg := grownBy_putObj' W l o'
  have hr : ∀ r, some l = some r → w.heap.size ≤ r ∧ ∃ o : Obj, W.heap[r]? = some o ∧ o.isCells = false := fun r e => by cases e; exact ⟨hB, o, hl, hc⟩
  refine ⟨g, c, v, hu, by simpa using hsz, hz.kept hg (fun e => ?_), ⟨heap_ownFrom h.h0 hg hr, heap_ownFrom h.h1 hg hr, heap_ownFrom h.h2 hg hr, heap_ownFrom h.h3 hg hr, heap_ownFrom h.h4 hg hr, row_ownFrom h.h5 hg hr, h.h6, h.h7.grown hg h.h7.size (fun k e => (hr k e).1), h.h8, h.h9⟩⟩
  obtain rfl : g = l := by simpa [Value.ownBlock] using e
  obtain ⟨_, g', cap, cur, fz, hv, _, hh, _⟩ := hz
  obtain rfl : g = g' := by injection hv with hv; injection hv with hv; injection hv with hv
  rw [hh] at hl
  cases hl
  cases hc
theorem Inv_step (p : Pl) (s : ByteArray) (w : World) (B2 k B : Nat) (W : World) (hs : s.size ≤ 1048576) (h9 : w.heap.size + 1 < B2) (h : InvI p s w B2 k W) :
    InvB p s w B2 k (.slice (some ⟨W.heap.size, 0, none⟩) (blkB p s k).size (grownCap W (blkB p s k).size 0 5)) (Lib.bytesWorld W 5 (blkB p s k)) ∧ KeepsFrom B W (Lib.bytesWorld W 5 (blkB p s k)) := by
  obtain ⟨h0, h1, h2, h3, ⟨v, h4, h5⟩, h6⟩ := h
  have hb : Below W.heap.size W (Lib.bytesWorld W 5 (blkB p s k)) := ⟨rfl, rfl, rfl, by rw [Lib.bytesWorld_size]; omega, fun i hi => Lib.bytesWorld_at_old W 5 _ i hi⟩
  have hsz : (blkB p s k).size ≤ s.size := by unfold blkB; simp [ByteArray.size_extract]; omega
  refine ⟨⟨W.heap.size, _, v, rfl, Lib.bytesWorld_size W 5 _, ownz_conv W _ W.heap.size (Nat.le_refl _) (by omega), ⟨blk_below h0 hb, blk_below h1 hb, blk_below h2 hb, blk_below h3 hb, blk_below h4 hb, pw_own_below h5 hb, fun q e => own_lt h5 q e, h6.trans (hb.mono h6.size), blk_lt h3, h9⟩⟩, by rw [Lib.bytesWorld_size]; omega, fun i o _ hi _ => (Lib.bytesWorld_at_old W 5 _ i (blk_lt hi)).trans hi⟩

theorem ok_facts {p : Pl} (h : p.ok = true) : (1 ≤ p.i ∧ p.i ≤ 65536) ∧ (1 ≤ p.o ∧ p.o ≤ 65536) ∧ (0 ≤ p.sk ∧ p.sk ≤ 2147483647) ∧ (0 ≤ p.se ∧ p.se ≤ 2147483647) ∧ (!p.up || !p.lo) = true := by
  unfold Pl.ok at h
  simp only [Bool.and_eq_true, decide_eq_true_eq] at h
  exact ⟨h.1.1.1.1, h.1.1.1.2, h.1.1.2, h.1.2, h.2⟩
theorem blkB_size (p : Pl) (s : ByteArray) (k : Nat) (hi : 1 ≤ p.i) : ((blkB p s k).size : Int) ≤ p.i := by
  unfold blkB offB
  rw [ByteArray.size_extract, Nat.succ_mul]
  omega
theorem ints_len (s : ByteArray) : (ints s).length = s.size := by simp [ints]
theorem workB_len (p : Pl) (xs : List Int) (h : (xs.length : Int) ≤ p.i) : ((workB p xs).length : Int) ≤ p.i := by
  have := stg_len p xs h 4
  exact this
theorem goesK_len (p : Pl) (s : ByteArray) (hi : 1 ≤ p.i) (h2 : p.i ≤ 65536) : ∀ k, (goesK p s k).length ≤ k * 65536
  | 0 => by simp [goesK]
  | k + 1 => by
    have := goesK_len p s hi h2 k
    have h3 := workB_len p (ints (blkB p s k)) (by rw [ints_len]; exact blkB_size p s k hi)
    simp only [goesK, List.length_append, Nat.succ_mul]
    omega
theorem whole_part (p : Pl) (s : ByteArray) : ∀ k, wholeK p s k + partK p s k = k
  | 0 => rfl
  | k + 1 => by
    have := whole_part p s k
    simp only [wholeK, partK]
    split <;> omega
theorem info5x : ∃ ti, Tryd.prog.info? 5 = some ti ∧ ti.zero = some (.int .u8 0) ∧ ti.size = 1 ∧ ti.bytes = 1 := by
  cases h : Tryd.prog.info? 5 with
  | none =>
    have : (Tryd.prog.info? 5).isSome = true := by kernel_rfl
    rw [h] at this
    cases this
  | some ti =>
    have e : (Tryd.prog.info? 5).map (fun i => (i.zero, i.size, i.bytes)) = some (some (.int .u8 0), 1, 1) := by kernel_rfl
    rw [h] at e
    have e2 := Option.some.inj e
    exact ⟨ti, rfl, congrArg (·.1) e2, congrArg (·.2.1) e2, congrArg (·.2.2) e2⟩
theorem nums_one (xs : List Int) : ∀ u ∈ nums .u8 xs, u.oneCell' = true := fun u hu => by obtain ⟨_, _, rfl⟩ := List.mem_map.1 hu; rfl

theorem reads_of_own {W : World} {base n cap : Nat} {ao : Option Addr} {xs : List Int} (h : W.ownsRow base 5 1 (.slice ao n cap) n (nums .u8 xs)) (hn : n ≤ 9223372036854775807) : ReadsInt W .u8 ao n xs := by
  have hl : xs.length = n := by have := h.1; simp [nums] at this; exact this
  refine ⟨hl, hn, fun h0 => ?_⟩
  rcases h.2 with ⟨hv, h1⟩ | ⟨g, c, cur, hv, _⟩
  · omega
  · have hao : ao = some ⟨g, 0, none⟩ := by injection hv
    subst hao
    refine ⟨_, rfl, fun j hj => ?_⟩
    have := h.cells (g := g) rfl j (.int .u8 (xs.getD j 0)) (by simp [nums, List.getElem?_eq_getElem (show j < xs.length by omega), List.getD_eq_getElem?_getD])
    exact this
theorem byteCells_ints (l : List UInt8) : nums .u8 (l.map fun b => (b.toNat : Int)) = Lib.byteCells l := by
  simp [nums, Lib.byteCells]
theorem bits_range : ∀ c : Fin 256, 0 ≤ Go.bits .xor .u8 (c.val : Int) 32 ∧ Go.bits .xor .u8 (c.val : Int) 32 ≤ 255 := by decide +kernel
def inB (xs : List Int) : Prop := ∀ x ∈ xs, 0 ≤ x ∧ x ≤ 255
theorem inB_lett {xs : List Int} (h : inB xs) (f : Int) (so : Bool) : inB (xs.map (lett f so)) := by
  intro x hx
  obtain ⟨c, hc, rfl⟩ := List.mem_map.1 hx
  have := h c hc
  unfold lett
  split
  · have h2 := bits_range ⟨c.toNat, by omega⟩
    have e : ((c.toNat : Nat) : Int) = c := by omega
    simp only [e] at h2
    exact h2
  · exact this
theorem inB_rd {xs : List Int} (h : inB xs) (k : Nat) (hk : k < xs.length) : 0 ≤ rd xs (k : Int) ∧ rd xs (k : Int) ≤ 255 := by
  rw [rd_getE xs k hk]
  exact h _ (List.getElem_mem hk)
theorem inB_turned {xs : List Int} (h : inB xs) (sw : Bool) : inB (turned sw xs) := by
  unfold turned
  split
  · intro x hx
    unfold swTo at hx
    obtain ⟨j, hj, rfl⟩ := List.mem_map.1 hx
    have hj := List.mem_range.1 hj
    refine inB_rd h _ ?_
    unfold swF
    split
    · split <;> omega
    · exact hj
  · exact h
theorem inB_filled {xs : List Int} (h : inB xs) (sy : Bool) (i : Int) : inB (filled sy i xs) := by
  unfold filled
  split
  · intro x hx
    rcases List.mem_append.1 hx with hx | hx
    · exact h x hx
    · rw [(List.mem_replicate.1 hx).2]; omega
  · exact h
theorem inB_ints (s : ByteArray) : inB (ints s) := by
  intro x hx
  obtain ⟨b, _, rfl⟩ := List.mem_map.1 hx
  have := b.toNat_lt
  omega
theorem inB_goes (p : Pl) (s : ByteArray) : ∀ k, inB (goesK p s k)
  | 0 => fun x hx => by simp [goesK] at hx
  | k + 1 => fun x hx => by
    rcases List.mem_append.1 hx with hx | hx
    · exact inB_goes p s k x hx
    · exact inB_lett (inB_lett (inB_turned (inB_filled (inB_ints _) _ _) _) _ _) _ _ x hx
theorem back8 {xs : List Int} (h : inB xs) : (xs.map fun x => UInt8.ofNat x.toNat).map (fun b => (b.toNat : Int)) = xs := by
  rw [List.map_map]
  conv => rhs; rw [← List.map_id xs]
  refine List.map_congr_left fun x hx => ?_
  have := h x hx
  simp only [Function.comp, id, UInt8.toNat_ofNat']
  omega
theorem rep_list : ∀ c : Nat, Lib.repeatL [(0 : UInt8)] c = List.replicate c 0
  | 0 => rfl
  | c + 1 => by
    show [0] ++ Lib.repeatL [0] c = _
    rw [rep_list c]
    rfl
theorem results_tct {P : Program} {fn : Func} {t p u : Tmp} {ty : TypeId} (h : fn.results = #[.tmp t, .cell p ty, .tmp u]) (tmps : Array Value) (w : World) (g : Nat) (T : TypeId) (cs : Array Value) (fr : Nat × Nat) (d : TypeDesc)
    (hp : tmps.getD p undef = .pointer (some ⟨g, 0, none⟩)) (hg : w.heap[g]? = some (.cells cs T fr))
    (hu : P.underlying ty = some d) (hd : (match d with | .struct _ | .array _ _ => true | _ => false) = true) (hi : (P.info? ty).map (·.size) = some cs.size) :
    (results fn tmps).run P w = .ok (.tuple #[tmps.getD t undef, .agg cs, tmps.getD u undef]) w := by
  have hp' : tmps[p]?.getD undef = .pointer (some ⟨g, 0, none⟩) := by simpa using hp
  simp [results, h, hp', asAddr, run_loadVar_row w g T ty cs fr d hg hu hd hi]
theorem info27 : (Tryd.prog.info? 27).map (·.size) = some 4 := by kernel_rfl
/-- What the text becomes. -/
def out8 (p : Pl) (s o : ByteArray) : List UInt8 :=
  o.data.toList.take (p.se * p.o).toNat ++ List.replicate ((p.se * p.o).toNat - o.size) 0 ++ (goesK p s (nB p s.size)).map (fun x => UInt8.ofNat x.toNat) ++ (if p.kp = true then o.data.toList.drop ((p.se * p.o).toNat + (goesK p s (nB p s.size)).length) else [])
def runOut (p : Pl) (s o : ByteArray) : ByteArray × Int × Int × Int × Int × Int :=
  if p.se * p.o + (goesK p s (nB p s.size)).length > 1048576 then (⟨#[]⟩, 0, 0, 0, 0, 3)
  else (⟨(out8 p s o).toArray⟩, wholeK p s (nB p s.size), partK p s (nB p s.size), (goesK p s (nB p s.size)).length / p.o, min ((goesK p s (nB p s.size)).length % p.o) 1, 0)
def runV (r : ByteArray × Int × Int × Int × Int × Int) : Value := .tuple #[.string r.1, .agg #[.int .i64 r.2.1, .int .i64 r.2.2.1, .int .i64 r.2.2.2.1, .int .i64 r.2.2.2.2.1], .int .i64 r.2.2.2.2.2]

theorem extract_list (o : ByteArray) (a b : Nat) : (o.extract a b).data.toList = (o.data.toList.take b).drop a := by
  simp [ByteArray.data_extract, Array.toList_extract, List.drop_take]
theorem out_eq (p : Pl) (s o tx rp : ByteArray) (AT : Nat) (G tl : List Int) (hAT : p.se * p.o = (AT : Int)) (htx : o.extract 0 (min AT o.size) = tx) (hrp : ints rp = List.replicate (AT - tx.size) 0) (hG : goesK p s (nB p s.size) = G)
    (htl : (if p.kp = true then o.data.toList.drop (AT + G.length) else []).map (fun b => (b.toNat : Int)) = tl) : nums .u8 (ints tx ++ ints rp ++ G ++ tl) = Lib.byteCells (out8 p s o) := by
  rw [← byteCells_ints]
  congr 1
  have hl : o.data.toList.length = o.size := by simp
  have h1 : ints tx = (o.data.toList.take AT).map (fun b => (b.toNat : Int)) := by
    unfold ints
    rw [← htx, extract_list, List.drop_zero]
    congr 1
    by_cases h : AT ≤ o.size
    · rw [Nat.min_eq_left h]
    · rw [Nat.min_eq_right (by omega), List.take_of_length_le (by omega), List.take_of_length_le (by omega)]
  have h2 : tx.size = min AT o.size := by rw [← htx]; simp [ByteArray.size_extract]
  unfold out8
  rw [hAT, Int.toNat_natCast, List.map_append, List.map_append, List.map_append, hG, htl, h1, hrp, List.map_replicate, back8 (hG ▸ inB_goes p s _)]
  congr 4
  omega

set_option maxRecDepth 100000 in
set_option maxHeartbeats 4000000 in
theorem run_in (p : Pl) (s o : ByteArray) (w : World) (hok : p.ok = true) (hs : s.size ≤ 1048576) (ho : o.size ≤ 1048576) :
    CallsIn Fence.wide 3 Tryd.prog 10 #[.agg p.cells, .string s, .string o] w fun e w' => e = .returned (runV (runOut p s o)) ∧ Below w.heap.size w w' := by
  have hfa := ok_facts hok
  obtain ⟨PL, hPL⟩ : ∃ PL, PL = p := ⟨_, rfl⟩
  have HFA := Lib.hid (hPL ▸ hfa)
  clear hfa
  have hcheck := fun W => callsIn_wide (n := 2).2 (check_walk p W)
  have hblocks := fun W => callsIn_wide (n := 2).2 (blocks_walk p s W)
  rw [hok] at hcheck
  rw [← hPL]
  obtain ⟨i, ou, sk, ct, se, kp, sw, up, lo, sy⟩ := p
  simp only [Pl.cells] at hcheck hblocks ⊢
  have HC := Lib.hid hcheck
  have HBL := Lib.hid hblocks
  clear hcheck hblocks
  refine callsIn_of_wp_marks Tryd.func10 rfl trivial ?_ rfl
  simp only [Tryd.ntmps10, List.size_toArray, List.length_cons, List.length_nil, Nat.reduceAdd, Nat.reduceSub, Array.replicate_succ, Array.replicate_zero, List.push_toArray, List.append_toArray, List.nil_append, List.cons_append]
  gi_wp2
  refine ⟨trivial, (HC.out _).mono ?_⟩
  rintro e W1 ⟨rfl, hb1⟩
  have hsz0 : ((w.alloc (.cells #[.int .i64 i, .int .i64 ou, .int .i64 sk, .int .i64 ct, .int .i64 se, .bool kp, .bool sw, .bool up, .bool lo, .bool sy] 26)).alloc (.cells #[.int .i64 0, .int .i64 0, .int .i64 0, .int .i64 0] 27)).heap.size = w.heap.size + 2 := by simp
  have hl1 : w.heap.size + 2 ≤ W1.heap.size := by have := hb1.size; rw [hsz0] at this; exact this
  have hp1 : W1.heap[w.heap.size]? = some (.cells #[.int .i64 i, .int .i64 ou, .int .i64 sk, .int .i64 ct, .int .i64 se, .bool kp, .bool sw, .bool up, .bool lo, .bool sy] 26 (0, 0)) := by
    rw [hb1.block _ (by rw [hsz0]; omega), heap_alloc_old _ _ _ (by simp)]
    exact heap_alloc_new w _
  have hn1 : W1.heap[w.heap.size + 1]? = some (.cells #[.int .i64 0, .int .i64 0, .int .i64 0, .int .i64 0] 27 (0, 0)) := by
    rw [hb1.block _ (by rw [hsz0]; omega)]
    have := heap_alloc_new (w.alloc (.cells #[.int .i64 i, .int .i64 ou, .int .i64 sk, .int .i64 ct, .int .i64 se, .bool kp, .bool sw, .bool up, .bool lo, .bool sy] 26)) (.cells #[.int .i64 0, .int .i64 0, .int .i64 0, .int .i64 0] 27)
    rwa [World.size_alloc] at this
  have hB1 : Below w.heap.size w W1 := ((((Below.refl _ w).alloc (Nat.le_refl _) _).alloc (by simp) _).trans (hb1.mono (by simp; omega)))
  have q0 : W1.cell? ⟨w.heap.size, 0, none⟩ = some (.int .i64 i) := blk_cell hp1 0
  have q1 : W1.cell? ⟨w.heap.size, 1, none⟩ = some (.int .i64 ou) := blk_cell hp1 1
  have q2 : W1.cell? ⟨w.heap.size, 2, none⟩ = some (.int .i64 sk) := blk_cell hp1 2
  have q3 : W1.cell? ⟨w.heap.size, 3, none⟩ = some (.int .i64 ct) := blk_cell hp1 3
  have q4 : W1.cell? ⟨w.heap.size, 4, none⟩ = some (.int .i64 se) := blk_cell hp1 4
  have q5 : W1.cell? ⟨w.heap.size, 5, none⟩ = some (.bool kp) := blk_cell hp1 5
  have q6 : W1.cell? ⟨w.heap.size, 6, none⟩ = some (.bool sw) := blk_cell hp1 6
  have q7 : W1.cell? ⟨w.heap.size, 7, none⟩ = some (.bool up) := blk_cell hp1 7
  have q8 : W1.cell? ⟨w.heap.size, 8, none⟩ = some (.bool lo) := blk_cell hp1 8
  have q9 : W1.cell? ⟨w.heap.size, 9, none⟩ = some (.bool sy) := blk_cell hp1 9
  have hl2 : w.heap.size < W1.heap.size := by omega
  have HP1 := Lib.hid hp1
  have HN1 := Lib.hid hn1
  have HB1 := Lib.hid hB1
  have HB2 := Lib.hid hb1
  clear hp1 hn1 hB1 hb1 hsz0
  have hmax : ¬ (1048576 : Int) < max (s.size : Int) o.size := by omega
  · gi_wp2
    refine ⟨trivial, (HBL.out _).mono ?_⟩
    rintro e W2 ⟨rfl, hW2⟩
    have hsz2 : (W1.alloc (.cells #[.slice none 0 0] 42)).heap.size = W1.heap.size + 1 := by simp
    rw [hsz2]
    have HW2 := Lib.hid hW2
    clear hW2 hsz2
    gi_wp2
    have hi0 : InvI PL s w W1.heap.size 0 W2 := by
      have e0 := HW2.out
      have s1 : (W1.alloc (.cells #[.slice none 0 0] 42)).heap.size = W1.heap.size + 1 := by simp
      have hb2 : Below W1.heap.size W1 W2 := by rw [e0]; exact (((Below.refl _ W1).alloc (Nat.le_refl _) _).alloc (by simp) _).alloc (by simp; omega) _
      have hsub : PL.cells = #[.int .i64 i, .int .i64 ou, .int .i64 sk, .int .i64 ct, .int .i64 se, .bool kp, .bool sw, .bool up, .bool lo, .bool sy] := by rw [hPL]; rfl
      refine ⟨by rw [hsub]; exact blk_below HP1.out hb2, blk_below HN1.out hb2, ?_, ?_, ⟨.slice none 0 0, ?_, World.ownsRow_nil _ _ _ _⟩, HB1.out.trans (hb2.mono HB1.out.size)⟩
      · rw [hsub, e0, heap_alloc_old _ _ _ (by simp), ← s1]
        exact heap_alloc_new _ _
      · rw [e0]
        have := heap_alloc_new ((W1.alloc (.cells #[.slice none 0 0] 42)).alloc (.cells #[.int .i64 i, .int .i64 ou, .int .i64 sk, .int .i64 ct, .int .i64 se, .bool kp, .bool sw, .bool up, .bool lo, .bool sy] 26)) (.cells #[.string s] 9)
        rwa [World.size_alloc, World.size_alloc] at this
      · rw [e0, heap_alloc_old _ _ _ (by simp; omega), heap_alloc_old _ _ _ (by simp)]
        exact heap_alloc_new W1 _
    have hsW2 : W1.heap.size + 3 ≤ W2.heap.size := by rw [HW2.out]; simp
    refine rangeFunc_fresh rfl (by omega) (gf := 24) (lb := #[.pointer (some ⟨W1.heap.size + 1 + 1, 0, none⟩), .pointer (some ⟨W1.heap.size + 1, 0, none⟩)]) rfl trivial (enters_of Tryd.func24 (by kernel_rfl) rfl)
      (nB PL s.size) (fun k W => .slice (some ⟨W.heap.size, 0, none⟩) (blkB PL s k).size (grownCap W (blkB PL s k).size 0 5)) (fun k W => Lib.bytesWorld W 5 (blkB PL s k)) rfl
      (InvI PL s w W1.heap.size) (fun k => InvI_own _ _ _ _ _ _ (by omega)) (InvB PL s w W1.heap.size) (fun k v W l o o' hl ho hc h => InvB_put _ _ _ _ _ _ _ _ _ _ (by omega) ho hc h)
      (fun k W h => Inv_step _ _ _ _ _ _ _ hs (by omega) h) ?seq hi0 ?a1 ?assign ?body ?done
    case seq =>
      intro l J W hJI hY h0
      refine closure_in _ _ trivial rfl (by omega) l _ _ PL s HFA.out.1.1 HFA.out.1.2 HFA.out.2.2.1.1 HFA.out.2.2.1.2 (by omega) J (fun k W h => ?_) hY W h0
      obtain ⟨h0, h1, h2, h3, _⟩ := hJI k W h
      exact ⟨h3, h2⟩
    case assign =>
      intro l v W K hK
      gi_wp2
      exact hK
    case body =>
      intro l k v W hB hk
      obtain ⟨g, c, u, rfl, hsz, hz, hC⟩ := hB
      clear HC HBL q1 q2 q3 q4 q5 q6 q7 q8 q9 hok
      obtain ⟨m, hm⟩ : ∃ m, (blkB PL s k).size = m := ⟨_, rfl⟩
      have q0 : W.cell? ⟨w.heap.size, 0, none⟩ = some (.int .i64 i) := by rw [blk_cell hC.h0 0, hPL]; rfl
      obtain ⟨nw, hnw⟩ : ∃ nw, wholeK PL s k = nw := ⟨_, rfl⟩
      obtain ⟨np, hnp⟩ : ∃ np, partK PL s k = np := ⟨_, rfl⟩
      obtain ⟨xs, hxs⟩ : ∃ xs, ints (blkB PL s k) = xs := ⟨_, rfl⟩
      rw [hm, hxs] at hz
      rw [hnw, hnp] at hC
      have d0 : W.cell? ⟨w.heap.size + 1, 0, none⟩ = some (.int .i64 nw) := blk_cell hC.h1 0
      have d1 : W.cell? ⟨w.heap.size + 1, 1, none⟩ = some (.int .i64 np) := blk_cell hC.h1 1
      have e0 : W.frozen? ⟨w.heap.size + 1, 0, none⟩ = false := blk_frozen hC.h1 0
      have e1 : W.frozen? ⟨w.heap.size + 1, 1, none⟩ = false := blk_frozen hC.h1 1
      have hkb : k ≤ 1048576 := by have := nB_le PL s.size HFA.out.1.1; omega
      have hwp := whole_part PL s k
      rw [hnw, hnp] at hwp
      have hnw1 : (nw : Int) ≤ 1099511627776 := by omega
      have hnp1 : (np : Int) ≤ 1099511627776 := by omega
      have hm1 : (m : Int) ≤ i := by have := blkB_size PL s k HFA.out.1.1; rw [hm, hPL] at this; exact this
      have hi2 : i ≤ 65536 := by have := HFA.out.1.2; rw [hPL] at this; exact this
      have hxl : xs.length = m := hz.1
      have hcs : PL.cells = #[.int .i64 i, .int .i64 ou, .int .i64 sk, .int .i64 ct, .int .i64 se, .bool kp, .bool sw, .bool up, .bool lo, .bool sy] := by rw [hPL]; rfl
      have hpi : PL.i = i := by rw [hPL]
      have HSTEP := Lib.hid (fun (q : Nat) (hq : q < 4) (wr : World) (g2 c2 : Nat) (hb : g ≤ wr.heap.size) (hown : OwnZ wr g (.slice (some ⟨g2, 0, none⟩) (stg PL xs q).length c2) (stg PL xs q).length (stg PL xs q)) => CallsIn.inRound l (callsIn_wide (n := 0).2 (hcs ▸ step_calls PL xs (by rw [hxl, hpi]; exact hm1) (by rw [hpi]; exact hi2) g g2 c2 _ q hq rfl wr hb hown)))
      have HCI := Lib.hid hC
      have HZ := Lib.hid hz
      have HM := Lib.hid hm
      have HNW := Lib.hid hnw
      have HNP := Lib.hid hnp
      have HXS := Lib.hid hxs
      have HSZ := Lib.hid hsz
      have HXL := Lib.hid hxl
      have HCS := Lib.hid hcs
      have HPL := Lib.hid hPL
      have HWL := Lib.hid (show (workB PL xs).length ≤ 65536 by have := workB_len PL xs (by rw [hxl, hpi]; exact hm1); omega)
      have HGL := Lib.hid (show (goesK PL s k).length ≤ 68719476736 by have := goesK_len PL s HFA.out.1.1 HFA.out.1.2 k; have h3 := Nat.mul_le_mul_right 65536 hkb; omega)
      clear hC hz hm hnw hnp hxs hsz hPL hxl hcs hpi hwp hkb
      have HST := Lib.hid (fun W => CallsIn.inRound l (callsIn_wide (n := 0).2 (steps_walk W)))
      rw [HM.out]
      have hzc : ∀ (j : Nat) (x : Value) (o : Obj), (W.setCell ⟨w.heap.size + 1, j, none⟩ x).heap[g]? = some o → o.isCells = true := fun j x o h => by
        rw [Below.heap_setCell _ _ _ _ (by have := HCI.out.h8; have := HCI.out.h9; show g ≠ w.heap.size + 1; omega)] at h
        obtain ⟨_, g', cap, cur, fz, hv, _, hh, _⟩ := HZ.out
        obtain rfl : g = g' := by injection hv with hv; injection hv with hv; injection hv with hv
        rw [hh] at h; cases h; rfl
      have hzs : ∀ (j : Nat) (x : Value), OwnZ (W.setCell ⟨w.heap.size + 1, j, none⟩ x) g (.slice (some ⟨g, 0, none⟩) m c) m xs := fun j x =>
        HZ.out.kept (row := some (w.heap.size + 1)) ⟨rfl, rfl, rfl, by simp [World.setCell], fun k _ hk => Below.heap_setCell _ _ _ _ (fun e => hk (by simp [e]))⟩ (by have := HCI.out.h8; have := HCI.out.h9; simp [Value.ownBlock]; omega)
      have HZC := Lib.hid hzc
      have HZS := Lib.hid hzs
      clear hzc hzs
      by_cases hmi : (m : Int) = i
      all_goals
        first
        | (have hmb : ((m : Int) == i) = true := beq_iff_eq.2 hmi
           gi_wp2_with fail
           refine ⟨trivial, (HST.out _).mono ?_⟩
           rintro e W5 ⟨rfl, hb5⟩
           obtain ⟨X, HX⟩ : ∃ X, Hid (X.heap.size = g + 1 ∧ KeepsFrom W2.heap.size W X ∧ (∀ o, X.heap[g]? = some o → o.isCells = true) ∧ OwnZ X g (.slice (some ⟨g, 0, none⟩) m c) m xs ∧ Below X.heap.size X W5) := ⟨_, Lib.hid ⟨by simp [World.setCell]; exact HSZ.out, (KeepsOthers.setCell _ _ _).from _, HZC.out 0 _, HZS.out 0 _, hb5⟩⟩
           obtain ⟨n1, n2, HC5, HN5⟩ : ∃ n1 n2 : Int, Hid (InvC PL s w W1.heap.size n1 n2 (goesK PL s k) g u W5) ∧ Hid (n1 = wholeK PL s (k + 1) ∧ n2 = partK PL s (k + 1)) := ⟨_, _, Lib.hid ((HCI.out.set0 (nw + 1)).below (hb5.mono (by simp [World.setCell]; have := HSZ.out; omega))), Lib.hid (by
             simp only [wholeK, partK]
             rw [HM.out, if_pos (by rw [HPL.out]; exact hmi), if_pos (by rw [HPL.out]; exact hmi), HNW.out, HNP.out]
             exact ⟨by omega, by omega⟩)⟩
           clear hb5 q0 d0 d1 e0 e1 hmi hmb)
        | (have hmb : ((m : Int) == i) = false := beq_eq_false_iff_ne.2 hmi
           gi_wp2_with fail
           refine ⟨trivial, (HST.out _).mono ?_⟩
           rintro e W5 ⟨rfl, hb5⟩
           obtain ⟨X, HX⟩ : ∃ X, Hid (X.heap.size = g + 1 ∧ KeepsFrom W2.heap.size W X ∧ (∀ o, X.heap[g]? = some o → o.isCells = true) ∧ OwnZ X g (.slice (some ⟨g, 0, none⟩) m c) m xs ∧ Below X.heap.size X W5) := ⟨_, Lib.hid ⟨by simp [World.setCell]; exact HSZ.out, (KeepsOthers.setCell _ _ _).from _, HZC.out 1 _, HZS.out 1 _, hb5⟩⟩
           obtain ⟨n1, n2, HC5, HN5⟩ : ∃ n1 n2 : Int, Hid (InvC PL s w W1.heap.size n1 n2 (goesK PL s k) g u W5) ∧ Hid (n1 = wholeK PL s (k + 1) ∧ n2 = partK PL s (k + 1)) := ⟨_, _, Lib.hid ((HCI.out.set1 (np + 1)).below (hb5.mono (by simp [World.setCell]; have := HSZ.out; omega))), Lib.hid (by
             simp only [wholeK, partK]
             rw [HM.out, if_neg (by rw [HPL.out]; exact hmi), if_neg (by rw [HPL.out]; exact hmi), HNW.out, HNP.out]
             exact ⟨by omega, by omega⟩)⟩
           clear hb5 q0 d0 d1 e0 e1 hmi hmb)
        have HZ5 : Hid (OwnZ W5 g (.slice (some ⟨g, 0, none⟩) m c) m xs) := Lib.hid (HX.out.2.2.2.1.below HX.out.2.2.2.2)
        have HS5 : Hid (g < W5.heap.size) := Lib.hid (by have h1 := HX.out.1; have h2 := HX.out.2.2.2.2.size; omega)
        gi_wp2
        gi_loopw [46, 10] (fun v46 v10 wr => ∃ q g2 c2 : Nat, q ≤ 4 ∧ v46 = .int .i64 (q : Int) ∧ v10 = .slice (some ⟨g2, 0, none⟩) (stg PL xs q).length c2 ∧ Hid (OwnZ wr g (.slice (some ⟨g2, 0, none⟩) (stg PL xs q).length c2) (stg PL xs q).length (stg PL xs q)) ∧ Hid (Below g W5 wr)) (fun v46 _ _ => 4 - (intOf v46).toNat)
        case atStart => exact ⟨0, g, c, by omega, rfl, by rw [show (stg PL xs 0).length = m from HXL.out], by rw [show (stg PL xs 0).length = m from HXL.out]; exact HZ5, Lib.hid (Below.refl _ _)⟩
        case round =>
          obtain ⟨q, g2, c2, hq, rfl, rfl, HZq, HBq⟩ := hrel
          have HCq := Lib.hid (HC5.out.below HBq.out)
          have HSq := Lib.hid (Nat.lt_of_lt_of_le HS5.out HBq.out.size)
          have hu46 := Tryd.underlying46
          by_cases hlt : q < 4
          · have hh0 := HCq.out.h0
            rw [HCS.out] at hh0
            have q0 : wr.cell? ⟨w.heap.size, 0, none⟩ = some (.int .i64 i) := blk_cell hh0 0
            have q1 : wr.cell? ⟨w.heap.size, 1, none⟩ = some (.int .i64 ou) := blk_cell hh0 1
            have q2 : wr.cell? ⟨w.heap.size, 2, none⟩ = some (.int .i64 sk) := blk_cell hh0 2
            have q3 : wr.cell? ⟨w.heap.size, 3, none⟩ = some (.int .i64 ct) := blk_cell hh0 3
            have q4 : wr.cell? ⟨w.heap.size, 4, none⟩ = some (.int .i64 se) := blk_cell hh0 4
            have q5 : wr.cell? ⟨w.heap.size, 5, none⟩ = some (.bool kp) := blk_cell hh0 5
            have q6 : wr.cell? ⟨w.heap.size, 6, none⟩ = some (.bool sw) := blk_cell hh0 6
            have q7 : wr.cell? ⟨w.heap.size, 7, none⟩ = some (.bool up) := blk_cell hh0 7
            have q8 : wr.cell? ⟨w.heap.size, 8, none⟩ = some (.bool lo) := blk_cell hh0 8
            have q9 : wr.cell? ⟨w.heap.size, 9, none⟩ = some (.bool sy) := blk_cell hh0 9
            have hI : (q : Int) < 4 := by omega
            have hix : ∀ W, (Instr.index 46 (.agg stepRow) (.int .i64 (q : Int))).run Tryd.prog W = .ok (stepAt q) W := index46 q hlt
            have hSQ := HSTEP.out q hlt wr g2 c2 (Nat.le_of_lt HSq.out) HZq.out
            unfold stepAt at hix
            have hf : 25 + q = 25 ∨ 25 + q = 26 ∨ 25 + q = 27 ∨ 25 + q = 28 := by omega
            obtain ⟨f, hfq⟩ : ∃ f, 25 + q = f := ⟨_, rfl⟩
            rw [hfq] at hix hSQ hf
            have HSQ := Lib.hid hSQ
            have HF := Lib.hid hfq
            clear hh0 hSQ hfq hq hlt
            rcases hf with rfl | rfl | rfl | rfl
            all_goals
              gi_wp2_with fail
              refine ⟨trivial, HSQ.out.mono ?_⟩
              rintro e W6 ⟨g3, c3, rfl, hz6, hb6⟩
              have HZ6 := Lib.hid hz6
              have HB6 := Lib.hid (HBq.out.trans hb6)
              clear hz6 hb6
              gi_wp2
              go_roundw
              case rel => exact ⟨q + 1, g3, c3, by have := HF.out; omega, by go_num, rfl, HZ6, HB6⟩
              case measure => simp [intOf]; omega
          · have hq4 : q = 4 := by omega
            have hst4 : stg PL xs q = workB PL xs := by rw [hq4]; rfl
            rw [hst4] at HZq ⊢
            obtain ⟨ti, t1, t2, t3, t4⟩ := info5x
            have hI : ¬ (q : Int) < 4 := by omega
            have cG : wr.cell? ⟨W1.heap.size, 0, none⟩ = some u := blk_cell HCq.out.h4 0
            have HQ4 := Lib.hid hq4
            have hbase := Lib.hid HCq.out.h7.size
            clear hq4 hst4 hq hlt
            gi_wp2_with (refine wpListIn_append_own _ rfl (.tmp 54) (.tmp 55) 42 rfl w.heap.size 5 ti (.int .u8 0) 1 1 Tryd.underlying42 t1 t2 t3 t4 rfl (by omega) u _ _ rfl HCq.out.h5 ⟨g2, 0, none⟩ _ c2 (nums .u8 (workB PL xs)) rfl (by simp [nums]) HZq.out.cells (nums_one _) ?b1 ?b2 hbase.out ?_)
            case b1 => have := HWL.out; have := HGL.out; unfold maxLen; omega
            case b2 => have := HWL.out; have := HGL.out; omega
            intro v1 w1 hown1 hgrow _
            rw [← nums_append] at hown1
            have hown2 : w1.ownsRow w.heap.size 5 1 v1 (goesK PL s (k + 1)).length (nums .u8 (goesK PL s (k + 1))) := by
              have e : goesK PL s (k + 1) = goesK PL s k ++ workB PL xs := by rw [← HXS.out]; rfl
              rw [e, List.length_append]; exact hown1
            clear hown1
            obtain ⟨ao, n', cap', rfl⟩ : ∃ ao n' cap', v1 = .slice ao n' cap' := by
              rcases hown2.2 with ⟨hv, _⟩ | ⟨g, cap, cur, hv, _⟩
              · exact ⟨_, _, _, hv⟩
              · exact ⟨_, _, _, hv⟩
            have haf := HCq.out.after hown2 hgrow
            have cG1 : w1.cell? ⟨W1.heap.size, 0, none⟩ = some u := blk_cell haf.2.2.2.2.1 0
            have fG1 : w1.frozen? ⟨W1.heap.size, 0, none⟩ = false := blk_frozen haf.2.2.2.2.1 0
            have HAF := Lib.hid haf
            have HO2 := Lib.hid hown2
            have HGR := Lib.hid hgrow
            clear haf hown2 hgrow cG
            gi_wp2
            have hX := HX.out
            have haf := HAF.out
            have hgr : w1.grownBy (w1.setCell ⟨W1.heap.size, 0, none⟩ (.slice ao n' cap')) (some W1.heap.size) := grownBy_setCell' _ _ _
            refine ⟨((hX.2.1.trans (keeps_below hX.1 ((hX.2.2.2.2.mono (by omega)).trans HBq.out) hX.2.2.1)).trans (haf.2.2.2.2.2.2.from _)).trans ((KeepsOthers.setCell _ _ _).from _), ?_⟩
            have h8 := HCq.out.h8
            have h9 := HCq.out.h9
            refine ⟨blk_grown haf.1 hgr (by simp; omega), ?_, blk_grown haf.2.2.1 hgr (by simp), blk_grown haf.2.2.2.1 hgr (by simp), ⟨_, blk_set haf.2.2.2.2.1 0 _, own_setCell HO2.out (p := ⟨W1.heap.size, 0, none⟩) (fun e => row_ne_box HO2.out haf.2.2.2.2.1 (by decide) e.symm) _⟩, haf.2.2.2.2.2.1.setCell (p := ⟨W1.heap.size, 0, none⟩) (by show w.heap.size ≤ W1.heap.size; omega) _⟩
            rw [← HN5.out.1, ← HN5.out.2]
            exact blk_grown haf.2.1 hgr (by simp; omega)
    case done =>
      intro D W hD hI hK
      obtain ⟨h0, h1, h2, h3, ⟨v, h4, h5⟩, h6⟩ := hI
      clear HC HBL q0 q1 q2 q3 q4 q5 q6 q7 q8 q9 hok
      obtain ⟨N, hN⟩ : ∃ N, nB PL s.size = N := ⟨_, rfl⟩
      rw [hN] at h1 h5
      obtain ⟨G, hG⟩ : ∃ G, goesK PL s N = G := ⟨_, rfl⟩
      obtain ⟨nw, hnw⟩ : ∃ nw, wholeK PL s N = nw := ⟨_, rfl⟩
      obtain ⟨np, hnp⟩ : ∃ np, partK PL s N = np := ⟨_, rfl⟩
      rw [hG] at h5
      rw [hnw, hnp] at h1
      obtain ⟨ao, cap, rfl⟩ : ∃ ao cap, v = .slice ao G.length cap := by
        rcases h5.2 with ⟨hv, h0⟩ | ⟨g, cap, cur, hv, _⟩
        · exact ⟨none, 0, by rw [hv, h0]⟩
        · exact ⟨_, _, hv⟩
      have hcs : PL.cells = #[.int .i64 i, .int .i64 ou, .int .i64 sk, .int .i64 ct, .int .i64 se, .bool kp, .bool sw, .bool up, .bool lo, .bool sy] := by rw [hPL]; rfl
      rw [hcs] at h0
      have q1 : W.cell? ⟨w.heap.size, 1, none⟩ = some (.int .i64 ou) := blk_cell h0 1
      have q4 : W.cell? ⟨w.heap.size, 4, none⟩ = some (.int .i64 se) := blk_cell h0 4
      have q5 : W.cell? ⟨w.heap.size, 5, none⟩ = some (.bool kp) := blk_cell h0 5
      have d0 : W.cell? ⟨w.heap.size + 1, 0, none⟩ = some (.int .i64 nw) := blk_cell h1 0
      have d1 : W.cell? ⟨w.heap.size + 1, 1, none⟩ = some (.int .i64 np) := blk_cell h1 1
      have d2 : W.cell? ⟨w.heap.size + 1, 2, none⟩ = some (.int .i64 0) := blk_cell h1 2
      have d3 : W.cell? ⟨w.heap.size + 1, 3, none⟩ = some (.int .i64 0) := blk_cell h1 3
      have f2 : W.frozen? ⟨w.heap.size + 1, 2, none⟩ = false := blk_frozen h1 2
      have f3 : W.frozen? ⟨w.heap.size + 1, 3, none⟩ = false := blk_frozen h1 3
      have g0 : W.cell? ⟨W1.heap.size, 0, none⟩ = some (.slice ao G.length cap) := blk_cell h4 0
      have ho1 : 1 ≤ ou := by have := HFA.out.2.1.1; rw [hPL] at this; exact this
      have ho2 : ou ≤ 65536 := by have := HFA.out.2.1.2; rw [hPL] at this; exact this
      have hs1 : 0 ≤ se := by have := HFA.out.2.2.2.1.1; rw [hPL] at this; exact this
      have hs2 : se ≤ 2147483647 := by have := HFA.out.2.2.2.1.2; rw [hPL] at this; exact this
      have hgl : G.length ≤ 68719476736 := by
        have := goesK_len PL s HFA.out.1.1 HFA.out.1.2 N
        rw [hG] at this
        have h3 := nB_le PL s.size HFA.out.1.1
        rw [hN] at h3
        have h4 := Nat.mul_le_mul_right 65536 h3
        omega
      have H0 := Lib.hid h0
      have H1 := Lib.hid h1
      have H4 := Lib.hid h4
      have H5 := Lib.hid h5
      have H6 := Lib.hid h6
      have HK := Lib.hid hK
      have HN := Lib.hid hN
      have HG := Lib.hid hG
      have HNW := Lib.hid hnw
      have HNP := Lib.hid hnp
      have HPL := Lib.hid hPL
      clear h0 h1 h2 h3 h4 h5 h6 hK hN hG hnw hnp hPL hcs
      gi_wp2
      have hr0 : 0 ≤ (G.length : Int) % ou := Int.emod_nonneg _ (by omega)
      have hou : ou ≠ 0 := by omega
      refine wpIn_wide.2 ?_
      have hne1 : W1.heap.size ≠ w.heap.size + 1 := by omega
      have hne2 : w.heap.size + 1 ≠ W1.heap.size := by omega
      have keep : ∀ (j : Nat) (x : Value), (W.setCell ⟨w.heap.size + 1, j, none⟩ x).cell? ⟨W1.heap.size, 0, none⟩ = W.cell? ⟨W1.heap.size, 0, none⟩ := fun j x => by
        unfold World.cell?
        rw [Below.heap_setCell _ _ _ _ (show W1.heap.size ≠ w.heap.size + 1 from hne1)]
      have hq1 : IntKind.i64.wrap ((G.length : Int) / ou) = (G.length : Int) / ou := by
        have e1 : 0 ≤ (G.length : Int) / ou := Int.ediv_nonneg (by omega) (by omega)
        have e2 : (G.length : Int) / ou ≤ G.length := Int.ediv_le_self _ (by omega)
        rw [IntKind.wrap_i64]; omega
      have hq2 : ((G.length : Int)).tmod ou = (G.length : Int) % ou := Int.tmod_eq_emod_of_nonneg (by omega)
      go_cut [57] from 57 to 69 (fun s57 wx => ∃ a2 a3 : Int, Hid (a2 = (G.length : Int) / ou ∧ a3 = min ((G.length : Int) % ou) 1) ∧ Hid (wx.heap[w.heap.size]? = some (.cells #[.int .i64 i, .int .i64 ou, .int .i64 sk, .int .i64 ct, .int .i64 se, .bool kp, .bool sw, .bool up, .bool lo, .bool sy] 26 (0, 0)) ∧ wx.heap[w.heap.size + 1]? = some (.cells #[.int .i64 nw, .int .i64 np, .int .i64 a2, .int .i64 a3] 27 (0, 0)) ∧ wx.heap[W1.heap.size]? = some (.cells #[.slice ao G.length cap] 42 (0, 0)) ∧ wx.ownsRow w.heap.size 5 1 (.slice ao G.length cap) G.length (nums .u8 G) ∧ Below w.heap.size w wx ∧ wx.heap[D]? = some (.deferred (some []))))
      case first =>
        go_region_held3 (fun w' => w'.cell? ⟨W1.heap.size, 0, none⟩ = some (.slice ao G.length cap) ∧ w'.cell? ⟨w.heap.size, 1, none⟩ = some (.int .i64 ou)) (first | go_keep | exact ⟨(keep _ _).trans g0, by go_simp⟩) ((fail))
        all_goals
          go_wp2_with fail
          go_meet
          refine ⟨_, _, Lib.hid ⟨rfl, rfl⟩, Lib.hid ⟨?_, ?_, ?_, ?_, ?_, ?_⟩⟩
          · exact (Below.heap_setCell _ _ _ _ (show w.heap.size ≠ w.heap.size + 1 by omega)).trans ((Below.heap_setCell _ _ _ _ (show w.heap.size ≠ w.heap.size + 1 by omega)).trans H0.out)
          · exact blk_set (blk_set H1.out 2 _) 3 _
          · exact (Below.heap_setCell _ _ _ _ hne1).trans ((Below.heap_setCell _ _ _ _ hne1).trans H4.out)
          · exact own_drew (own_setCell (own_setCell H5.out (p := ⟨w.heap.size + 1, 2, none⟩) (fun e => row_ne_box H5.out H1.out (by decide) e.symm) _) (p := ⟨w.heap.size + 1, 3, none⟩) (fun e => row_ne_box H5.out H1.out (by decide) e.symm) _)
          · exact ((H6.out.setCell (p := ⟨w.heap.size + 1, 2, none⟩) (by simp) _).setCell (p := ⟨w.heap.size + 1, 3, none⟩) (by simp) _).drew
          · exact (Below.heap_setCell _ _ _ _ (show D ≠ w.heap.size + 1 by omega)).trans ((Below.heap_setCell _ _ _ _ (show D ≠ w.heap.size + 1 by omega)).trans HK.out)
      case rest =>
        obtain ⟨a2, a3, HA, HX⟩ := hcut
        clear H0 H1 H4 H5 H6 HK q1 q4 q5 d0 d1 d2 d3 f2 f3 g0 hq1 hq2 hr0 hou keep
        have hh0 := HX.out.1
        have hh1 := HX.out.2.1
        have hh4 := HX.out.2.2.1
        have q1 : wc.cell? ⟨w.heap.size, 1, none⟩ = some (.int .i64 ou) := blk_cell hh0 1
        have q4 : wc.cell? ⟨w.heap.size, 4, none⟩ = some (.int .i64 se) := blk_cell hh0 4
        have q5 : wc.cell? ⟨w.heap.size, 5, none⟩ = some (.bool kp) := blk_cell hh0 5
        have d0 : wc.cell? ⟨w.heap.size + 1, 0, none⟩ = some (.int .i64 nw) := blk_cell hh1 0
        have d1 : wc.cell? ⟨w.heap.size + 1, 1, none⟩ = some (.int .i64 np) := blk_cell hh1 1
        have d2 : wc.cell? ⟨w.heap.size + 1, 2, none⟩ = some (.int .i64 a2) := blk_cell hh1 2
        have d3 : wc.cell? ⟨w.heap.size + 1, 3, none⟩ = some (.int .i64 a3) := blk_cell hh1 3
        have f0 : wc.frozen? ⟨w.heap.size + 1, 0, none⟩ = false := blk_frozen hh1 0
        have f1 : wc.frozen? ⟨w.heap.size + 1, 1, none⟩ = false := blk_frozen hh1 1
        have f2 : wc.frozen? ⟨w.heap.size + 1, 2, none⟩ = false := blk_frozen hh1 2
        have f3 : wc.frozen? ⟨w.heap.size + 1, 3, none⟩ = false := blk_frozen hh1 3
        have g0 : wc.cell? ⟨W1.heap.size, 0, none⟩ = some (.slice ao G.length cap) := blk_cell hh4 0
        have m1 : 0 ≤ se * ou := Int.mul_nonneg hs1 (by omega)
        have m2 : se * ou ≤ 140737488289792 := by
          have : se * ou ≤ 2147483647 * 65536 := Int.mul_le_mul hs2 ho2 (by omega) (by omega)
          omega
        clear hh0 hh1 hh4
        by_cases hlim : se * ou + (G.length : Int) > 1048576
        · have HR : Hid (runOut PL s o = (⟨#[]⟩, 0, 0, 0, 0, 3)) := Lib.hid (by
            unfold runOut
            rw [HN.out, HG.out]
            have e1 : PL.se = se := by rw [HPL.out]
            have e2 : PL.o = ou := by rw [HPL.out]
            rw [e1, e2, if_pos hlim])
          gi_wp2
          have hx := HX.out
          obtain ⟨X, hX⟩ : ∃ X, ((((wc.setCell ⟨w.heap.size + 1, 0, none⟩ (.int .i64 0)).setCell ⟨w.heap.size + 1, 1, none⟩ (.int .i64 0)).setCell ⟨w.heap.size + 1, 2, none⟩ (.int .i64 0)).setCell ⟨w.heap.size + 1, 3, none⟩ (.int .i64 0)) = X := ⟨_, rfl⟩
          have hD : X.heap[D]? = some (.deferred (some [])) := by
            rw [← hX]
            have ne : D ≠ w.heap.size + 1 := by omega
            exact (Below.heap_setCell _ _ _ _ ne).trans ((Below.heap_setCell _ _ _ _ ne).trans ((Below.heap_setCell _ _ _ _ ne).trans ((Below.heap_setCell _ _ _ _ ne).trans hx.2.2.2.2.2)))
          have hn : X.heap[w.heap.size + 1]? = some (.cells #[.int .i64 0, .int .i64 0, .int .i64 0, .int .i64 0] 27 (0, 0)) := by
            rw [← hX]
            exact blk_set (blk_set (blk_set (blk_set hx.2.1 0 _) 1 _) 2 _) 3 _
          have hbX : Below w.heap.size w X := by
            rw [← hX]
            exact (((hx.2.2.2.2.1.setCell (p := ⟨w.heap.size + 1, 0, none⟩) (by simp) _).setCell (p := ⟨w.heap.size + 1, 1, none⟩) (by simp) _).setCell (p := ⟨w.heap.size + 1, 2, none⟩) (by simp) _).setCell (p := ⟨w.heap.size + 1, 3, none⟩) (by simp) _
          rw [hX]
          refine ⟨by simp, .inl ⟨_, _, rfl, run_takeDeferred hD, ?_⟩⟩
          have hn' : (X.putObj D (.deferred none)).heap[w.heap.size + 1]? = some (.cells #[.int .i64 0, .int .i64 0, .int .i64 0, .int .i64 0] 27 (0, 0)) := (World.putObj_heap_other (by omega)).trans hn
          exact ⟨_, results_tct Tryd.results10 _ _ (w.heap.size + 1) 27 _ (0, 0) _ rfl hn' Tryd.underlying27 rfl info27, by rw [HR.out]; rfl, hbX.trans (belowK_b (w := w) (Nat.le_refl _) X D _ _ (by omega) hD rfl rfl)⟩
        · obtain ⟨AT, hAT⟩ : ∃ AT : Nat, se * ou = (AT : Int) := ⟨(se * ou).toNat, by omega⟩
          rw [hAT] at hlim m1 m2
          have hx := HX.out
          have KX : Hid (∀ W', Below wc.heap.size wc W' → W'.heap[w.heap.size + 1]? = some (.cells #[.int .i64 nw, .int .i64 np, .int .i64 a2, .int .i64 a3] 27 (0, 0)) ∧ W'.cell? ⟨w.heap.size, 5, none⟩ = some (.bool kp) ∧ W'.cell? ⟨W1.heap.size, 0, none⟩ = some (.slice ao G.length cap) ∧ W'.ownsRow w.heap.size 5 1 (.slice ao G.length cap) G.length (nums .u8 G) ∧ Below w.heap.size w W' ∧ W'.heap[D]? = some (.deferred (some []))) := Lib.hid fun W' hb =>
            ⟨blk_below hx.2.1 hb, (hb.cell (p := ⟨w.heap.size, 5, none⟩) (blk_lt hx.1)).trans q5, (hb.cell (p := ⟨W1.heap.size, 0, none⟩) (blk_lt hx.2.2.1)).trans g0, pw_own_below hx.2.2.2.1 hb, hx.2.2.2.2.1.trans (hb.mono hx.2.2.2.2.1.size), blk_below hx.2.2.2.2.2 hb⟩
          have hmn : (min (AT : Int) (o.size : Int)).toNat = min AT o.size := by omega
          obtain ⟨tx, htx⟩ : ∃ tx, o.extract 0 (min AT o.size) = tx := ⟨_, rfl⟩
          have htxs : tx.size = min AT o.size := by rw [← htx]; simp [ByteArray.size_extract]
          have HTX := Lib.hid htx
          have HTXS := Lib.hid htxs
          have htl : tx.size ≤ AT := by omega
          have hb0 : Lib.IsBuilder 50 5 wc.heap.size wc.heap.size (nums .u8 []) (wc.alloc (.cells #[.pointer none, .slice none 0 0] 50)) := .inl ⟨Nat.le_refl _, .slice none 0 0, heap_alloc_new wc _, World.ownsRow_nil _ _ _ _, by simp [Value.ownBlock]⟩
          have HB0 := Lib.hid hb0
          clear hx hb0 d0 d1 d2 d3 f0 f1 f2 f3 htxs
          gi_wp2
          clear htx hmn q1 q4 q5 g0
          refine ⟨trivial, (callsIn_wide.2 (Tryd.Builder_WriteString wc.heap.size wc.heap.size _ tx _ HB0.out (by simp [nums]; omega) (by simp))).mono ?_⟩
          rintro e X1 ⟨rfl, hbd, hbx⟩
          have HB1 : Hid (Lib.IsBuilder 50 5 wc.heap.size wc.heap.size (nums .u8 (ints tx)) X1) := Lib.hid (.inr (by rw [strCells_ints] at hbd; exact hbd))
          have HW1 := Lib.hid (((Below.refl wc.heap.size wc).alloc (Nat.le_refl _) _).trans hbx)
          have HS1 : Hid (wc.heap.size < X1.heap.size) := Lib.hid (by have := hbx.size; simp at this; omega)
          clear hbd hbx HB0
          have hc1 := Tryd.Builder_Len wc.heap.size wc.heap.size _ X1 HB1.out
          rw [show ((nums .u8 (ints tx)).length) = tx.size by simp [nums, ints_len]] at hc1
          have HC1 := Lib.hid hc1
          clear hc1
          gi_wp2
          refine ⟨trivial, (callsIn_wide.2 HC1.out).mono ?_⟩
          rintro e X1' ⟨rfl, rfl⟩
          clear HC1
          have hsub : (AT : Int) - tx.size = ((AT - tx.size : Nat) : Int) := by omega
          gi_wp2
          refine ⟨trivial, (callsIn_wide.2 (Tryd.strings_Repeat ⟨#[0]⟩ (AT - tx.size) _ (by omega) (by show 1 * _ ≤ _; omega))).mono ?_⟩
          rintro e X2 ⟨rfl, hb2⟩
          have HB2' := Lib.hid (IsBuilder.below HB1.out hb2)
          have HW2' := Lib.hid (HW1.out.trans (hb2.mono (Nat.le_of_lt HS1.out)))
          have HS2 : Hid (wc.heap.size < X2.heap.size) := Lib.hid (Nat.lt_of_lt_of_le HS1.out hb2.size)
          clear hb2 HB1 HW1 HS1 hsub
          obtain ⟨rp, hrp⟩ : ∃ rp : ByteArray, (⟨(Lib.repeatL (ByteArray.mk #[0]).data.toList (AT - tx.size)).toArray⟩ : ByteArray) = rp := ⟨_, rfl⟩
          rw [hrp]
          have HRP : Hid (ints rp = List.replicate (AT - tx.size) 0) := Lib.hid (by rw [← hrp]; show (Lib.repeatL [0] _).map _ = _; rw [rep_list, List.map_replicate]; rfl)
          have HRS : Hid (rp.size = AT - tx.size) := Lib.hid (by rw [← ints_len, HRP.out, List.length_replicate])
          clear hrp
          gi_wp2
          refine ⟨trivial, (callsIn_wide.2 (Tryd.Builder_WriteString wc.heap.size wc.heap.size _ rp _ HB2'.out (by simp [nums, ints_len]; have := HRS.out; omega) (Nat.le_of_lt HS2.out))).mono ?_⟩
          rintro e X3 ⟨rfl, hbd, hbx⟩
          have HB3 : Hid (Lib.IsBuilder 50 5 wc.heap.size wc.heap.size (nums .u8 (ints tx ++ ints rp)) X3) := Lib.hid (.inr (by rw [strCells_ints, ← nums_append] at hbd; exact hbd))
          have HW3 := Lib.hid (HW2'.out.trans hbx)
          have HS3 : Hid (wc.heap.size < X3.heap.size) := Lib.hid (by have := hbx.size; have := HS2.out; omega)
          clear hbd hbx HB2' HW2' HS2
          have g0 := (KX.out X3 HW3.out).2.2.1
          have HRD : Hid (ReadsInt X3 .u8 ao G.length G) := Lib.hid (reads_of_own (KX.out X3 HW3.out).2.2.2.1 (by omega))
          have hAd : ∀ ad, ao = some ad → ad.block < wc.heap.size := fun ad e => own_lt HX.out.2.2.2.1 _ (by rw [e]; rfl)
          have HAd := Lib.hid hAd
          clear hAd
          gi_wp2
          refine ⟨trivial, (callsIn_wide.2 (write_walk wc.heap.size wc.heap.size _ G ao G.length cap X3 HB3.out HRD.out HAd.out (by simp [ints_len]; have := HRS.out; omega) (Nat.le_of_lt HS3.out))).mono ?_⟩
          rintro e X4 ⟨rfl, hb4, hbx⟩
          have HB4 := Lib.hid hb4
          have HW4 := Lib.hid (HW3.out.trans hbx)
          have HS4 : Hid (wc.heap.size < X4.heap.size) := Lib.hid (by have := hbx.size; have := HS3.out; omega)
          clear hb4 hbx HB3 HW3 HS3 g0 HRD HAd htl
          have q5 := (KX.out X4 HW4.out).2.1
          have hc4 := Tryd.Builder_Len wc.heap.size wc.heap.size _ X4 HB4.out
          rw [show ((nums .u8 (ints tx ++ ints rp ++ G)).length) = AT + G.length by simp [nums, ints_len]; have := HRS.out; have := HTXS.out; omega] at hc4
          have HC4 := Lib.hid (callsIn_wide (n := 2).2 hc4)
          clear hc4
          have hATP : PL.se * PL.o = (AT : Int) := by rw [HPL.out]; exact hAT
          have HOA : Hid ((kp = false ∨ ¬ ((AT + G.length : Nat) : Int) < o.size) → nums .u8 (ints tx ++ ints rp ++ G) = Lib.byteCells (out8 PL s o)) := Lib.hid fun h => by
            have := out_eq PL s o tx rp AT G [] hATP HTX.out HRP.out (by rw [HN.out]; exact HG.out) (by
              have e1 : PL.kp = kp := by rw [HPL.out]
              rw [e1]
              rcases h with h | h
              · rw [h]; rfl
              · split
                · rw [List.drop_eq_nil_of_le (by simp; omega)]; rfl
                · rfl)
            rwa [List.append_nil] at this
          have HOB : Hid (kp = true → nums .u8 (ints tx ++ ints rp ++ G ++ ints (o.extract (AT + G.length) o.size)) = Lib.byteCells (out8 PL s o)) := Lib.hid fun h => by
            refine out_eq PL s o tx rp AT G _ hATP HTX.out HRP.out (by rw [HN.out]; exact HG.out) ?_
            have e1 : PL.kp = kp := by rw [HPL.out]
            rw [e1, if_pos h]
            unfold ints
            rw [extract_list, List.take_of_length_le (by simp)]
          have HOB' : Hid ((o.extract (AT + G.length) o.size).size ≤ 1048576) := Lib.hid (by simp [ByteArray.size_extract]; omega)
          obtain ⟨RS, hRS⟩ : ∃ RS, out8 PL s o = RS := ⟨_, rfl⟩
          rw [hRS] at HOA HOB
          have HRS2 := Lib.hid hRS
          clear hRS hATP
          have hlim2 : AT + G.length ≤ 1048576 := by omega
          have HLN : Hid ((nums .u8 (ints tx ++ ints rp ++ G)).length ≤ 1048576) := Lib.hid (by simp [nums, ints_len]; have := HRS.out; have := HTXS.out; omega)
          cases kp
          rotate_left
          · by_cases hlt : ((AT + G.length : Nat) : Int) < o.size
            · gi_wp2
              refine ⟨trivial, HC4.out.mono ?_⟩
              rintro e W' ⟨rfl, hW'⟩
              rw [hW']
              clear hW' W'
              gi_wp2
              refine ⟨trivial, HC4.out.mono ?_⟩
              rintro e W' ⟨rfl, hW'⟩
              rw [hW']
              clear hW' W'
              gi_wp2
              refine ⟨trivial, (callsIn_wide.2 (Tryd.Builder_WriteString wc.heap.size wc.heap.size _ _ _ HB4.out (by have := HLN.out; have := HOB'.out; omega) (Nat.le_of_lt HS4.out))).mono ?_⟩
              rintro e X5 ⟨rfl, hbd, hbx⟩
              have HB5 : Hid (Lib.IsBuilder 50 5 wc.heap.size wc.heap.size (Lib.byteCells RS) X5) := Lib.hid (.inr (by rw [strCells_ints, ← nums_append] at hbd; rw [← HOB.out (by simp)]; exact hbd))
              have HW5 := Lib.hid (HW4.out.trans hbx)
              have HS5 : Hid (wc.heap.size < X5.heap.size) := Lib.hid (by have := hbx.size; have := HS4.out; omega)
              clear hbd hbx HB4 HW4 HS4 q5 HC4
              gi_wp2
              have hx := KX.out X5 HW5.out
              have hn4 := hx.1
              have d0 : X5.cell? ⟨w.heap.size + 1, 0, none⟩ = some (.int .i64 nw) := blk_cell hn4 0
              have d1 : X5.cell? ⟨w.heap.size + 1, 1, none⟩ = some (.int .i64 np) := blk_cell hn4 1
              have d2 : X5.cell? ⟨w.heap.size + 1, 2, none⟩ = some (.int .i64 a2) := blk_cell hn4 2
              have d3 : X5.cell? ⟨w.heap.size + 1, 3, none⟩ = some (.int .i64 a3) := blk_cell hn4 3
              have f0 : X5.frozen? ⟨w.heap.size + 1, 0, none⟩ = false := blk_frozen hn4 0
              have f1 : X5.frozen? ⟨w.heap.size + 1, 1, none⟩ = false := blk_frozen hn4 1
              have f2 : X5.frozen? ⟨w.heap.size + 1, 2, none⟩ = false := blk_frozen hn4 2
              have f3 : X5.frozen? ⟨w.heap.size + 1, 3, none⟩ = false := blk_frozen hn4 3
              have hcs := Tryd.Builder_String_any wc.heap.size wc.heap.size RS X5.drew (IsBuilder.below HB5.out (below_drew (Below.refl _ _))) (Nat.le_of_lt HS5.out)
              have HNB : Hid (w.heap.size + 1 < wc.heap.size) := Lib.hid (blk_lt HX.out.2.1)
              have HN4 := Lib.hid hn4
              have HCS2 := Lib.hid (hcs.mono (fun e w' (h : _ ∧ _) => (show e = .returned (.string ⟨RS.toArray⟩) ∧ w'.cell? ⟨w.heap.size + 1, 0, none⟩ = some (.int .i64 nw) ∧ w'.cell? ⟨w.heap.size + 1, 1, none⟩ = some (.int .i64 np) ∧ w'.cell? ⟨w.heap.size + 1, 2, none⟩ = some (.int .i64 a2) ∧ w'.cell? ⟨w.heap.size + 1, 3, none⟩ = some (.int .i64 a3) ∧ w'.frozen? ⟨w.heap.size + 1, 0, none⟩ = false ∧ w'.frozen? ⟨w.heap.size + 1, 1, none⟩ = false ∧ w'.frozen? ⟨w.heap.size + 1, 2, none⟩ = false ∧ w'.frozen? ⟨w.heap.size + 1, 3, none⟩ = false ∧ Hid (Below wc.heap.size X5 w' ∧ w'.heap[w.heap.size + 1]? = some (.cells #[.int .i64 nw, .int .i64 np, .int .i64 a2, .int .i64 a3] 27 (0, 0))) from
                ⟨h.1, (h.2.cell (p := ⟨w.heap.size + 1, 0, none⟩) HNB.out).trans d0, (h.2.cell (p := ⟨w.heap.size + 1, 1, none⟩) HNB.out).trans d1, (h.2.cell (p := ⟨w.heap.size + 1, 2, none⟩) HNB.out).trans d2, (h.2.cell (p := ⟨w.heap.size + 1, 3, none⟩) HNB.out).trans d3,
                 (h.2.frozen (p := ⟨w.heap.size + 1, 0, none⟩) HNB.out).trans f0, (h.2.frozen (p := ⟨w.heap.size + 1, 1, none⟩) HNB.out).trans f1, (h.2.frozen (p := ⟨w.heap.size + 1, 2, none⟩) HNB.out).trans f2, (h.2.frozen (p := ⟨w.heap.size + 1, 3, none⟩) HNB.out).trans f3, Lib.hid ⟨(below_drew (Below.refl wc.heap.size X5)).trans h.2, (h.2.block _ HNB.out).trans HN4.out⟩⟩)))
              clear hx hn4 hcs
              refine wpIn_wide.2 ?_
              go_cut [6, 8] from 107 to 108 (fun s6 s8 wx => s6 = .string ⟨RS.toArray⟩ ∧ s8 = .int .i64 0 ∧ Hid (wx.heap[w.heap.size + 1]? = some (.cells #[.int .i64 nw, .int .i64 np, .int .i64 a2, .int .i64 a3] 27 (0, 0)) ∧ Below w.heap.size w wx ∧ wx.heap[D]? = some (.deferred (some []))))
              case first =>
                go_region_held3 (fun w' => w'.cell? ⟨w.heap.size + 1, 0, none⟩ = some (.int .i64 nw) ∧ w'.cell? ⟨w.heap.size + 1, 1, none⟩ = some (.int .i64 np) ∧ w'.cell? ⟨w.heap.size + 1, 2, none⟩ = some (.int .i64 a2) ∧ w'.cell? ⟨w.heap.size + 1, 3, none⟩ = some (.int .i64 a3)) (first | go_keep | exact ⟨blk_cell (blk_set (blk_set (blk_set (blk_set hbY.out.2 0 _) 1 _) 2 _) 3 _) 0, blk_cell (blk_set (blk_set (blk_set (blk_set hbY.out.2 0 _) 1 _) 2 _) 3 _) 1, blk_cell (blk_set (blk_set (blk_set (blk_set hbY.out.2 0 _) 1 _) 2 _) 3 _) 2, blk_cell (blk_set (blk_set (blk_set (blk_set hbY.out.2 0 _) 1 _) 2 _) 3 _) 3⟩) ((first | (go_at_call 20; refine HCS2.out.mono ?_; rintro e w' ⟨rfl, t0, t1, t2, t3, v0, v1, v2, v3, hbY⟩)))
                go_wp2_with fail
                go_meet
                refine ⟨rfl, rfl, Lib.hid ⟨blk_set (blk_set (blk_set (blk_set hbY.out.2 0 _) 1 _) 2 _) 3 _, ?_, ?_⟩⟩
                · exact (((((KX.out X5 HW5.out).2.2.2.2.1.trans (hbY.out.1.mono (Nat.le_of_lt (by have := HNB.out; omega)))).setCell (p := ⟨w.heap.size + 1, 0, none⟩) (by simp) _).setCell (p := ⟨w.heap.size + 1, 1, none⟩) (by simp) _).setCell (p := ⟨w.heap.size + 1, 2, none⟩) (by simp) _).setCell (p := ⟨w.heap.size + 1, 3, none⟩) (by simp) _
                · have hDn : D ≠ w.heap.size + 1 := by have := hsW2; omega
                  exact (Below.heap_setCell _ _ _ _ hDn).trans ((Below.heap_setCell _ _ _ _ hDn).trans ((Below.heap_setCell _ _ _ _ hDn).trans ((Below.heap_setCell _ _ _ _ hDn).trans ((hbY.out.1.block D (blk_lt HX.out.2.2.2.2.2)).trans (KX.out X5 HW5.out).2.2.2.2.2))))
              case rest =>
                obtain ⟨rfl, rfl, HF⟩ := hcut
                have HR : Hid (runOut PL s o = ((⟨RS.toArray⟩ : ByteArray), (nw : Int), (np : Int), a2, a3, (0 : Int))) := Lib.hid (by
                  unfold runOut
                  have e1 : PL.se = se := by rw [HPL.out]
                  have e2 : PL.o = ou := by rw [HPL.out]
                  rw [HN.out, HG.out, HRS2.out, e1, e2, if_neg (by rw [hAT]; omega), HNW.out, HNP.out, HA.out.1, HA.out.2])
                gi_wp2
                refine ⟨by simp, .inl ⟨_, _, rfl, run_takeDeferred HF.out.2.2, ?_⟩⟩
                have hn' := (World.putObj_heap_other (r := D) (o := .deferred none) (show w.heap.size + 1 ≠ D by omega)).trans HF.out.1
                exact ⟨_, results_tct Tryd.results10 _ _ (w.heap.size + 1) 27 _ (0, 0) _ rfl hn' Tryd.underlying27 rfl info27, by rw [HR.out]; rfl, HF.out.2.1.trans (belowK_b (w := w) (Nat.le_refl _) _ D _ _ (by omega) HF.out.2.2 rfl rfl)⟩
            · gi_wp2
              refine ⟨trivial, HC4.out.mono ?_⟩
              rintro e W' ⟨rfl, hW'⟩
              rw [hW']
              clear hW' W'
              gi_wp2
              have HB5 : Hid (Lib.IsBuilder 50 5 wc.heap.size wc.heap.size (Lib.byteCells RS) X4) := Lib.hid (by rw [← HOA.out (.inr (by omega))]; exact HB4.out)
              clear HB4 q5 HC4
              have hx := KX.out X4 HW4.out
              have hn4 := hx.1
              have d0 : X4.cell? ⟨w.heap.size + 1, 0, none⟩ = some (.int .i64 nw) := blk_cell hn4 0
              have d1 : X4.cell? ⟨w.heap.size + 1, 1, none⟩ = some (.int .i64 np) := blk_cell hn4 1
              have d2 : X4.cell? ⟨w.heap.size + 1, 2, none⟩ = some (.int .i64 a2) := blk_cell hn4 2
              have d3 : X4.cell? ⟨w.heap.size + 1, 3, none⟩ = some (.int .i64 a3) := blk_cell hn4 3
              have f0 : X4.frozen? ⟨w.heap.size + 1, 0, none⟩ = false := blk_frozen hn4 0
              have f1 : X4.frozen? ⟨w.heap.size + 1, 1, none⟩ = false := blk_frozen hn4 1
              have f2 : X4.frozen? ⟨w.heap.size + 1, 2, none⟩ = false := blk_frozen hn4 2
              have f3 : X4.frozen? ⟨w.heap.size + 1, 3, none⟩ = false := blk_frozen hn4 3
              have hcs := Tryd.Builder_String_any wc.heap.size wc.heap.size RS X4.drew (IsBuilder.below HB5.out (below_drew (Below.refl _ _))) (Nat.le_of_lt HS4.out)
              have HNB : Hid (w.heap.size + 1 < wc.heap.size) := Lib.hid (blk_lt HX.out.2.1)
              have HN4 := Lib.hid hn4
              have HCS2 := Lib.hid (hcs.mono (fun e w' (h : _ ∧ _) => (show e = .returned (.string ⟨RS.toArray⟩) ∧ w'.cell? ⟨w.heap.size + 1, 0, none⟩ = some (.int .i64 nw) ∧ w'.cell? ⟨w.heap.size + 1, 1, none⟩ = some (.int .i64 np) ∧ w'.cell? ⟨w.heap.size + 1, 2, none⟩ = some (.int .i64 a2) ∧ w'.cell? ⟨w.heap.size + 1, 3, none⟩ = some (.int .i64 a3) ∧ w'.frozen? ⟨w.heap.size + 1, 0, none⟩ = false ∧ w'.frozen? ⟨w.heap.size + 1, 1, none⟩ = false ∧ w'.frozen? ⟨w.heap.size + 1, 2, none⟩ = false ∧ w'.frozen? ⟨w.heap.size + 1, 3, none⟩ = false ∧ Hid (Below wc.heap.size X4 w' ∧ w'.heap[w.heap.size + 1]? = some (.cells #[.int .i64 nw, .int .i64 np, .int .i64 a2, .int .i64 a3] 27 (0, 0))) from
                ⟨h.1, (h.2.cell (p := ⟨w.heap.size + 1, 0, none⟩) HNB.out).trans d0, (h.2.cell (p := ⟨w.heap.size + 1, 1, none⟩) HNB.out).trans d1, (h.2.cell (p := ⟨w.heap.size + 1, 2, none⟩) HNB.out).trans d2, (h.2.cell (p := ⟨w.heap.size + 1, 3, none⟩) HNB.out).trans d3,
                 (h.2.frozen (p := ⟨w.heap.size + 1, 0, none⟩) HNB.out).trans f0, (h.2.frozen (p := ⟨w.heap.size + 1, 1, none⟩) HNB.out).trans f1, (h.2.frozen (p := ⟨w.heap.size + 1, 2, none⟩) HNB.out).trans f2, (h.2.frozen (p := ⟨w.heap.size + 1, 3, none⟩) HNB.out).trans f3, Lib.hid ⟨(below_drew (Below.refl wc.heap.size X4)).trans h.2, (h.2.block _ HNB.out).trans HN4.out⟩⟩)))
              clear hx hn4 hcs
              refine wpIn_wide.2 ?_
              go_cut [6, 8] from 107 to 108 (fun s6 s8 wx => s6 = .string ⟨RS.toArray⟩ ∧ s8 = .int .i64 0 ∧ Hid (wx.heap[w.heap.size + 1]? = some (.cells #[.int .i64 nw, .int .i64 np, .int .i64 a2, .int .i64 a3] 27 (0, 0)) ∧ Below w.heap.size w wx ∧ wx.heap[D]? = some (.deferred (some []))))
              case first =>
                go_region_held3 (fun w' => w'.cell? ⟨w.heap.size + 1, 0, none⟩ = some (.int .i64 nw) ∧ w'.cell? ⟨w.heap.size + 1, 1, none⟩ = some (.int .i64 np) ∧ w'.cell? ⟨w.heap.size + 1, 2, none⟩ = some (.int .i64 a2) ∧ w'.cell? ⟨w.heap.size + 1, 3, none⟩ = some (.int .i64 a3)) (first | go_keep | exact ⟨blk_cell (blk_set (blk_set (blk_set (blk_set hbY.out.2 0 _) 1 _) 2 _) 3 _) 0, blk_cell (blk_set (blk_set (blk_set (blk_set hbY.out.2 0 _) 1 _) 2 _) 3 _) 1, blk_cell (blk_set (blk_set (blk_set (blk_set hbY.out.2 0 _) 1 _) 2 _) 3 _) 2, blk_cell (blk_set (blk_set (blk_set (blk_set hbY.out.2 0 _) 1 _) 2 _) 3 _) 3⟩) ((first | (go_at_call 20; refine HCS2.out.mono ?_; rintro e w' ⟨rfl, t0, t1, t2, t3, v0, v1, v2, v3, hbY⟩)))
                go_wp2_with fail
                go_meet
                refine ⟨rfl, rfl, Lib.hid ⟨blk_set (blk_set (blk_set (blk_set hbY.out.2 0 _) 1 _) 2 _) 3 _, ?_, ?_⟩⟩
                · exact (((((KX.out X4 HW4.out).2.2.2.2.1.trans (hbY.out.1.mono (Nat.le_of_lt (by have := HNB.out; omega)))).setCell (p := ⟨w.heap.size + 1, 0, none⟩) (by simp) _).setCell (p := ⟨w.heap.size + 1, 1, none⟩) (by simp) _).setCell (p := ⟨w.heap.size + 1, 2, none⟩) (by simp) _).setCell (p := ⟨w.heap.size + 1, 3, none⟩) (by simp) _
                · have hDn : D ≠ w.heap.size + 1 := by have := hsW2; omega
                  exact (Below.heap_setCell _ _ _ _ hDn).trans ((Below.heap_setCell _ _ _ _ hDn).trans ((Below.heap_setCell _ _ _ _ hDn).trans ((Below.heap_setCell _ _ _ _ hDn).trans ((hbY.out.1.block D (blk_lt HX.out.2.2.2.2.2)).trans (KX.out X4 HW4.out).2.2.2.2.2))))
              case rest =>
                obtain ⟨rfl, rfl, HF⟩ := hcut
                have HR : Hid (runOut PL s o = ((⟨RS.toArray⟩ : ByteArray), (nw : Int), (np : Int), a2, a3, (0 : Int))) := Lib.hid (by
                  unfold runOut
                  have e1 : PL.se = se := by rw [HPL.out]
                  have e2 : PL.o = ou := by rw [HPL.out]
                  rw [HN.out, HG.out, HRS2.out, e1, e2, if_neg (by rw [hAT]; omega), HNW.out, HNP.out, HA.out.1, HA.out.2])
                gi_wp2
                refine ⟨by simp, .inl ⟨_, _, rfl, run_takeDeferred HF.out.2.2, ?_⟩⟩
                have hn' := (World.putObj_heap_other (r := D) (o := .deferred none) (show w.heap.size + 1 ≠ D by omega)).trans HF.out.1
                exact ⟨_, results_tct Tryd.results10 _ _ (w.heap.size + 1) 27 _ (0, 0) _ rfl hn' Tryd.underlying27 rfl info27, by rw [HR.out]; rfl, HF.out.2.1.trans (belowK_b (w := w) (Nat.le_refl _) _ D _ _ (by omega) HF.out.2.2 rfl rfl)⟩
          · gi_wp2
            refine ⟨trivial, ?_⟩
            gi_wp2
            have HB5 : Hid (Lib.IsBuilder 50 5 wc.heap.size wc.heap.size (Lib.byteCells RS) X4) := Lib.hid (by rw [← HOA.out (.inl (by simp))]; exact HB4.out)
            clear HB4 q5 HC4
            have hx := KX.out X4 HW4.out
            have hn4 := hx.1
            have d0 : X4.cell? ⟨w.heap.size + 1, 0, none⟩ = some (.int .i64 nw) := blk_cell hn4 0
            have d1 : X4.cell? ⟨w.heap.size + 1, 1, none⟩ = some (.int .i64 np) := blk_cell hn4 1
            have d2 : X4.cell? ⟨w.heap.size + 1, 2, none⟩ = some (.int .i64 a2) := blk_cell hn4 2
            have d3 : X4.cell? ⟨w.heap.size + 1, 3, none⟩ = some (.int .i64 a3) := blk_cell hn4 3
            have f0 : X4.frozen? ⟨w.heap.size + 1, 0, none⟩ = false := blk_frozen hn4 0
            have f1 : X4.frozen? ⟨w.heap.size + 1, 1, none⟩ = false := blk_frozen hn4 1
            have f2 : X4.frozen? ⟨w.heap.size + 1, 2, none⟩ = false := blk_frozen hn4 2
            have f3 : X4.frozen? ⟨w.heap.size + 1, 3, none⟩ = false := blk_frozen hn4 3
            have hcs := Tryd.Builder_String_any wc.heap.size wc.heap.size RS X4.drew (IsBuilder.below HB5.out (below_drew (Below.refl _ _))) (Nat.le_of_lt HS4.out)
            have HNB : Hid (w.heap.size + 1 < wc.heap.size) := Lib.hid (blk_lt HX.out.2.1)
            have HN4 := Lib.hid hn4
            have HCS2 := Lib.hid (hcs.mono (fun e w' (h : _ ∧ _) => (show e = .returned (.string ⟨RS.toArray⟩) ∧ w'.cell? ⟨w.heap.size + 1, 0, none⟩ = some (.int .i64 nw) ∧ w'.cell? ⟨w.heap.size + 1, 1, none⟩ = some (.int .i64 np) ∧ w'.cell? ⟨w.heap.size + 1, 2, none⟩ = some (.int .i64 a2) ∧ w'.cell? ⟨w.heap.size + 1, 3, none⟩ = some (.int .i64 a3) ∧ w'.frozen? ⟨w.heap.size + 1, 0, none⟩ = false ∧ w'.frozen? ⟨w.heap.size + 1, 1, none⟩ = false ∧ w'.frozen? ⟨w.heap.size + 1, 2, none⟩ = false ∧ w'.frozen? ⟨w.heap.size + 1, 3, none⟩ = false ∧ Hid (Below wc.heap.size X4 w' ∧ w'.heap[w.heap.size + 1]? = some (.cells #[.int .i64 nw, .int .i64 np, .int .i64 a2, .int .i64 a3] 27 (0, 0))) from
              ⟨h.1, (h.2.cell (p := ⟨w.heap.size + 1, 0, none⟩) HNB.out).trans d0, (h.2.cell (p := ⟨w.heap.size + 1, 1, none⟩) HNB.out).trans d1, (h.2.cell (p := ⟨w.heap.size + 1, 2, none⟩) HNB.out).trans d2, (h.2.cell (p := ⟨w.heap.size + 1, 3, none⟩) HNB.out).trans d3,
               (h.2.frozen (p := ⟨w.heap.size + 1, 0, none⟩) HNB.out).trans f0, (h.2.frozen (p := ⟨w.heap.size + 1, 1, none⟩) HNB.out).trans f1, (h.2.frozen (p := ⟨w.heap.size + 1, 2, none⟩) HNB.out).trans f2, (h.2.frozen (p := ⟨w.heap.size + 1, 3, none⟩) HNB.out).trans f3, Lib.hid ⟨(below_drew (Below.refl wc.heap.size X4)).trans h.2, (h.2.block _ HNB.out).trans HN4.out⟩⟩)))
            clear hx hn4 hcs
            refine wpIn_wide.2 ?_
            go_cut [6, 8] from 107 to 108 (fun s6 s8 wx => s6 = .string ⟨RS.toArray⟩ ∧ s8 = .int .i64 0 ∧ Hid (wx.heap[w.heap.size + 1]? = some (.cells #[.int .i64 nw, .int .i64 np, .int .i64 a2, .int .i64 a3] 27 (0, 0)) ∧ Below w.heap.size w wx ∧ wx.heap[D]? = some (.deferred (some []))))
            case first =>
              go_region_held3 (fun w' => w'.cell? ⟨w.heap.size + 1, 0, none⟩ = some (.int .i64 nw) ∧ w'.cell? ⟨w.heap.size + 1, 1, none⟩ = some (.int .i64 np) ∧ w'.cell? ⟨w.heap.size + 1, 2, none⟩ = some (.int .i64 a2) ∧ w'.cell? ⟨w.heap.size + 1, 3, none⟩ = some (.int .i64 a3)) (first | go_keep | exact ⟨blk_cell (blk_set (blk_set (blk_set (blk_set hbY.out.2 0 _) 1 _) 2 _) 3 _) 0, blk_cell (blk_set (blk_set (blk_set (blk_set hbY.out.2 0 _) 1 _) 2 _) 3 _) 1, blk_cell (blk_set (blk_set (blk_set (blk_set hbY.out.2 0 _) 1 _) 2 _) 3 _) 2, blk_cell (blk_set (blk_set (blk_set (blk_set hbY.out.2 0 _) 1 _) 2 _) 3 _) 3⟩) ((first | (go_at_call 20; refine HCS2.out.mono ?_; rintro e w' ⟨rfl, t0, t1, t2, t3, v0, v1, v2, v3, hbY⟩)))
              go_wp2_with fail
              go_meet
              refine ⟨rfl, rfl, Lib.hid ⟨blk_set (blk_set (blk_set (blk_set hbY.out.2 0 _) 1 _) 2 _) 3 _, ?_, ?_⟩⟩
              · exact (((((KX.out X4 HW4.out).2.2.2.2.1.trans (hbY.out.1.mono (Nat.le_of_lt (by have := HNB.out; omega)))).setCell (p := ⟨w.heap.size + 1, 0, none⟩) (by simp) _).setCell (p := ⟨w.heap.size + 1, 1, none⟩) (by simp) _).setCell (p := ⟨w.heap.size + 1, 2, none⟩) (by simp) _).setCell (p := ⟨w.heap.size + 1, 3, none⟩) (by simp) _
              · have hDn : D ≠ w.heap.size + 1 := by have := hsW2; omega
                exact (Below.heap_setCell _ _ _ _ hDn).trans ((Below.heap_setCell _ _ _ _ hDn).trans ((Below.heap_setCell _ _ _ _ hDn).trans ((Below.heap_setCell _ _ _ _ hDn).trans ((hbY.out.1.block D (blk_lt HX.out.2.2.2.2.2)).trans (KX.out X4 HW4.out).2.2.2.2.2))))
            case rest =>
              obtain ⟨rfl, rfl, HF⟩ := hcut
              have HR : Hid (runOut PL s o = ((⟨RS.toArray⟩ : ByteArray), (nw : Int), (np : Int), a2, a3, (0 : Int))) := Lib.hid (by
                unfold runOut
                have e1 : PL.se = se := by rw [HPL.out]
                have e2 : PL.o = ou := by rw [HPL.out]
                rw [HN.out, HG.out, HRS2.out, e1, e2, if_neg (by rw [hAT]; omega), HNW.out, HNP.out, HA.out.1, HA.out.2])
              gi_wp2
              refine ⟨by simp, .inl ⟨_, _, rfl, run_takeDeferred HF.out.2.2, ?_⟩⟩
              have hn' := (World.putObj_heap_other (r := D) (o := .deferred none) (show w.heap.size + 1 ≠ D by omega)).trans HF.out.1
              exact ⟨_, results_tct Tryd.results10 _ _ (w.heap.size + 1) 27 _ (0, 0) _ rfl hn' Tryd.underlying27 rfl info27, by rw [HR.out]; rfl, HF.out.2.1.trans (belowK_b (w := w) (Nat.le_refl _) _ D _ _ (by omega) HF.out.2.2 rfl rfl)⟩
end Go.Proofs.YtomnpmfmlbmpeaaDoor.L
