/- A row of bytes of one's own of which no cell is frozen (a mark may lie behind it, as a conversion lays one). -/
import Derived.Lib.ConvBytes
import Derived.Lib.FrozenHead
import Derived.Test.YtomnpmfmlbmpeaaDoorCheck
namespace Go.Proofs.YtomnpmfmlbmpeaaDoor.L
open Go.RowKit Go.Proofs.YtomnpmfmlbmpeaaDoorW.PrintWords

def OwnZ (w : World) (base : Nat) (v : Value) (n : Nat) (xs : List Int) : Prop :=
  xs.length = n ∧ ∃ g cap cur fz, v = .slice (some ⟨g, 0, none⟩) n cap ∧ base ≤ g ∧ w.heap[g]? = some (.cells cur 5 fz) ∧ (fz.2 ≤ fz.1 ∨ cur.size ≤ fz.1) ∧ n ≤ cap ∧ cap ≤ maxLen ∧ cur.size = cap ∧ cur.toList.take n = nums .u8 xs

theorem OwnZ.of {w : World} {base n : Nat} {v : Value} {xs : List Int} (h : w.ownsRow base 5 1 v n (nums .u8 xs)) (hn : v ≠ .slice none 0 0) : OwnZ w base v n xs := by
  have hl : xs.length = n := by have := h.1; simp [nums] at this; exact this
  refine ⟨hl, ?_⟩
  rcases h.2 with ⟨h', _⟩ | ⟨g, cap, cur, rfl, hb, hh, h1, h2, h3, h4⟩
  · exact absurd h' hn
  · exact ⟨g, cap, cur, (0, 0), rfl, hb, hh, .inl (Nat.le_refl _), h1, h2, by simpa using h3, by simpa using h4⟩

theorem OwnZ.lt {w : World} {base n : Nat} {v : Value} {xs : List Int} (h : OwnZ w base v n xs) (k : Nat) (hk : v.ownBlock = some k) : base ≤ k ∧ k < w.heap.size := by
  obtain ⟨_, g, cap, cur, fz, rfl, hb, hh, _⟩ := h
  obtain rfl : g = k := by simpa [Value.ownBlock] using hk
  exact ⟨hb, (Array.getElem?_eq_some_iff.1 hh).1⟩

theorem OwnZ.kept {w w' : World} {base n : Nat} {v : Value} {xs : List Int} {row : Option Nat} (h : OwnZ w base v n xs) (hg : w.grownBy w' row) (hne : v.ownBlock ≠ row) : OwnZ w' base v n xs := by
  obtain ⟨hl, g, cap, cur, fz, rfl, hb, hh, rest⟩ := h
  exact ⟨hl, g, cap, cur, fz, rfl, hb, (hg.block g (Array.getElem?_eq_some_iff.1 hh).1 hne).trans hh, rest⟩

theorem OwnZ.below {w w1 : World} {base n : Nat} {v : Value} {xs : List Int} (h : OwnZ w base v n xs) (hb : Below w.heap.size w w1) : OwnZ w1 base v n xs := by
  have := h.kept (row := none) (grown_of_below hb none)
  refine this ?_
  obtain ⟨_, g, cap, cur, fz, rfl, _⟩ := h
  simp [Value.ownBlock]

theorem OwnZ.cells {w : World} {base g n c : Nat} {xs : List Int} (h : OwnZ w base (.slice (some ⟨g, 0, none⟩) n c) n xs) : ∀ j u, (nums .u8 xs)[j]? = some u → w.cell? ((⟨g, 0, none⟩ : Addr).add j) = some u := by
  intro j u hu
  obtain ⟨_, g', cap, cur, fz, hv, _, hh, _, _, _, _, htake⟩ := h
  obtain rfl : g = g' := by injection hv with hv; injection hv with hv; injection hv with hv
  rw [add_plain, cell_of_row w g j cur 5 fz hh]
  rw [← htake, List.getElem?_take] at hu
  split at hu
  · simpa using hu
  · cases hu

theorem ownz_at {W : World} {base g n cap : Nat} {xs : List Int} (h : OwnZ W base (.slice (some ⟨g, 0, none⟩) n cap) n xs) (i : Int) (h0 : 0 ≤ i) (h1 : i < n) :
    W.cell? ⟨g, i.toNat, none⟩ = some (.int .u8 (rd xs i)) ∧ W.frozen? ⟨g, i.toNat, none⟩ = false := by
  have hl : xs.length = n := h.1
  constructor
  · have hc := h.cells i.toNat (.int .u8 (rd xs i)) (by simp [nums, rd, List.getElem?_eq_getElem (show i.toNat < xs.length by omega), List.getD_eq_getElem?_getD])
    rwa [add_plain] at hc
  · obtain ⟨_, g', cap', cur, fz, hv, _, hh, hfz, hnc, _, hcs, _⟩ := h
    obtain rfl : g = g' := by injection hv with hv; injection hv with hv; injection hv with hv
    obtain rfl : cap = cap' := by injection hv
    obtain ⟨lo, hi⟩ := fz
    simp only [World.frozen?, hh, Bool.and_eq_false_iff, decide_eq_false_iff_not]
    simp only at hfz
    omega

theorem ownz_store {W : World} {base g n cap : Nat} {xs : List Int} (h : OwnZ W base (.slice (some ⟨g, 0, none⟩) n cap) n xs) (i x : Int) :
    OwnZ (W.setCell ⟨g, i.toNat, none⟩ (.int .u8 x)) base (.slice (some ⟨g, 0, none⟩) n cap) n (xs.set i.toNat x) ∧ W.grownBy (W.setCell ⟨g, i.toNat, none⟩ (.int .u8 x)) (some g) := by
  obtain ⟨hl, g', cap', cur, fz, hv, hb, hh, hfz, hnc, hcm, hcs, htake⟩ := h
  obtain rfl : g = g' := by injection hv with hv; injection hv with hv; injection hv with hv
  obtain rfl : cap = cap' := by injection hv
  refine ⟨⟨by simpa using hl, g, cap, cur.setIfInBounds i.toNat (.int .u8 x), fz, rfl, hb, ?_, by simpa using hfz, hnc, hcm, by simpa using hcs, ?_⟩, ⟨rfl, rfl, rfl, by simp, fun k _ hk => Below.heap_setCell _ _ _ _ (fun e => hk (by simp [e]))⟩⟩
  · rw [setCell_eq_setRow W g _ cur 5 fz _ hh]
    exact setRow_heap W g cur _ 5 fz hh
  · rw [Array.toList_setIfInBounds, List.take_set, htake]
    simp [nums, List.map_set]

/-- A conversion's new row. -/
theorem ownz_conv (w : World) (s : ByteArray) (base : Nat) (hb : base ≤ w.heap.size) (hs : s.size ≤ 1099511627776) : OwnZ (Lib.bytesWorld w 5 s) base (.slice (some ⟨w.heap.size, 0, none⟩) s.size (grownCap w s.size 0 5)) s.size (s.data.toList.map fun b => (b.toNat : Int)) := by
  have hge := grownCap_ge w s.size 0 5
  refine ⟨by simp, w.heap.size, _, Lib.bytesCells w 5 s, _, rfl, hb, Lib.bytesWorld_at_new w 5 s, .inr (Nat.le_refl _), hge, grownCap_le_maxLen w s.size 0 5 (by simp only [maxLen]; omega), ?_, ?_⟩
  · simp only [Lib.bytesCells, Array.size_append, Array.size_map, Array.size_replicate]
    have : s.data.size = s.size := rfl
    omega
  · simp only [Lib.bytesCells, Array.toList_append, Array.toList_map]
    rw [List.take_append_of_le_length (by simp)]
    rw [List.take_of_length_le (by simp)]
    simp [nums]

/-- append(v, make([]byte, m)...). -/
theorem run_append_zerosZ (w : World) (base : Nat) (i : TypeInfo) (hi : Tryd.prog.info? 5 = some i) (hz : i.zero = some (.int .u8 0)) (hsize : i.size = 1) (hby : i.bytes = 1)
    (v : Value) (n : Nat) (xs : List Int) (hown : OwnZ w base v n xs) (m : Nat) (hbytes : n + m ≤ 1099511627776) (hbase : base ≤ w.heap.size)
    (h1 : ∀ u ∈ (Builtin.zeroCells (Value.int .u8 0).cells m).toList, u.oneCell' = true) (hzl : (Builtin.zeroCells (Value.int .u8 0).cells m).toList = nums .u8 (List.replicate m 0)) :
    ∃ v' w', (Builtin.append_ #[42, 3] 42 #[v, .int .i64 m]).run Tryd.prog w = .ok v' w' ∧ OwnZ w' base v' (n + m) (xs ++ List.replicate m 0) ∧ w.grownBy w' v.ownBlock ∧
      (v'.ownBlock = v.ownBlock ∨ v'.ownBlock = some w.heap.size) := by
  have ht := Tryd.underlying42
  have hti := Tryd.underlying3
  have h63 : n + m ≤ maxLen := by simp only [maxLen]; omega
  have hw : IntKind.i64.wrap (m : Int) = m := by rw [IntKind.wrap_i64]; omega
  have hw0 : IntKind.i64.wrap 0 = 0 := by rw [IntKind.wrap_i64]; rfl
  have hneg : ¬ ((m : Int) < 0) := by omega
  have hbig : ¬ (281474976710656 < (m : Int)) := by omega
  obtain ⟨news, hnews⟩ : ∃ news, news = (Builtin.zeroCells (Value.int .u8 0).cells m).toList := ⟨_, rfl⟩
  rw [← hnews] at h1 hzl
  have hl : news.length = m := by rw [hzl]; simp [nums]
  have hna : Builtin.zeroCells (Value.int .u8 0).cells m = news.toArray := by rw [hnews]
  have hlen : (xs ++ List.replicate m 0).length = n + m := by rw [List.length_append, hown.1, List.length_replicate]
  have hnil : m = 0 → news = [] := fun h => List.eq_nil_of_length_eq_zero (by rw [hl, h])
  have hxl : (nums .u8 xs).length = n := by simp [nums, hown.1]
  have hnn : nums .u8 (xs ++ List.replicate m 0) = nums .u8 xs ++ news := by rw [nums_append, hzl]
  obtain ⟨_, g, cap, cur, fz, rfl, hbg, hg, hfz, hnc, hcm, hcs, htake⟩ := id hown
  by_cases hroom : n + m ≤ cap
  · have hfit : n + news.length ≤ cur.size := by omega
    obtain ⟨s1, s2, s3, s4⟩ := setCells_same g news n w
    have hst := run_storeCells_cells (P := Tryd.prog) g n news 0 w (fun j hj => by rw [cell_of_row w g _ cur 5 fz hg]; simp; omega) (fun j hj => by
      obtain ⟨lo, hi'⟩ := fz
      simp only [World.frozen?, hg, Bool.and_eq_false_iff, decide_eq_false_iff_not]
      simp only at hfz
      omega) h1
    simp only [Nat.add_zero] at hst
    have hrow : ∀ (news : List Value) (o : Nat) (w : World) (cur : Array Value), w.heap[g]? = some (.cells cur 5 fz) → o + news.length ≤ cur.size → ∃ cur', (w.setCells g o news).heap[g]? = some (.cells cur' 5 fz) ∧ cur'.size = cur.size ∧ cur'.toList.take (o + news.length) = cur.toList.take o ++ news := by
      intro news
      induction news with
      | nil => intro o w cur hg _; exact ⟨cur, hg, rfl, by simp⟩
      | cons u rest ih =>
        intro o w cur hg hfit
        simp only [List.length_cons] at hfit
        have hg' : (w.setCell ⟨g, o, none⟩ u).heap[g]? = some (.cells (cur.setIfInBounds o u) 5 fz) := by
          rw [setCell_eq_setRow w g _ cur 5 fz _ hg]
          exact setRow_heap w g cur _ 5 fz hg
        obtain ⟨cur', e1, e2, e3⟩ := ih (o + 1) (w.setCell ⟨g, o, none⟩ u) _ hg' (by simp; omega)
        refine ⟨cur', e1, by simpa using e2, ?_⟩
        rw [List.length_cons, show o + (rest.length + 1) = o + 1 + rest.length by omega, e3, Array.toList_setIfInBounds, List.take_add_one]
        have hlt : o < cur.toList.length := by simp; omega
        rw [List.getElem?_set_self hlt, List.take_set_of_le (Nat.le_refl _)]
        simp
    obtain ⟨cur', h3, h4, h5⟩ := hrow news n w cur hg hfit
    refine ⟨.slice (some ⟨g, 0, none⟩) (n + m) cap, w.setCells g n news, ?_, ⟨hlen, g, cap, cur', fz, rfl, hbg, h3, by rw [h4]; exact hfz, hroom, hcm, by rw [h4, hcs], ?_⟩, ⟨s1, s2, s3, by rw [s4]; exact Nat.le_refl _, fun k _ hk => setCells_far news _ k (fun e => hk (by simp [Value.ownBlock, e]))⟩, Or.inl rfl⟩
    · by_cases hm : m = 0
      · have hnl := hnil hm
        subst hm
        rw [hnl] at hst ⊢
        simp [Builtin.append_, run_underlying ht, run_underlying hti, sizeOf, typeInfo, hi, hsize, asInt, asIntOf, hw0, hnc, add_plain, hst]
      · simp [Builtin.append_, run_underlying ht, run_underlying hti, sizeOf, typeInfo, zeroValue, hi, hz, hsize, hby, asInt, asIntOf, hw, hneg, hbig, hroom, hm, hna, add_plain, hst]
    · rw [hnn, ← htake, ← hl, h5]
  · have holds : ∀ j u, (nums .u8 xs)[j]? = some u → w.cell? ((⟨g, 0, none⟩ : Addr).add j) = some u := hown.cells
    have hm : m ≠ 0 := by omega
    have hfo := run_firstCells_some (P := Tryd.prog) w.drew 1 n ⟨g, 0, none⟩ n cap (nums .u8 xs) (by simpa using hxl) (by simpa using holds)
    have hge := grownCap_ge w (n + m) cap 5
    have hcm2 : grownCap w (n + m) cap 5 ≤ maxLen := grownCap_le_maxLen w (n + m) cap 5 h63
    have h63' : ¬ (9223372036854775807 < ((n : Int) + (m : Int))) := by omega
    have hfit := growslice_fits (need := n + m) (old := cap) (bytes := 1) (by omega) (by omega)
    have h48' : ¬ (281474976710656 < Builtin.nextslicecap (n + m) cap) := by omega
    refine ⟨.slice (some ⟨w.heap.size, 0, none⟩) (n + m) (grownCap w (n + m) cap 5), w.drew.alloc (.cells ((nums .u8 xs).toArray ++ news.toArray ++ Builtin.zeroCells (Value.int .u8 0).cells (grownCap w (n + m) cap 5 - (n + m))) 5), ?_, ⟨hlen, w.heap.size, _, _, (0, 0), rfl, hbase, heap_alloc_new w.drew _, .inl (Nat.le_refl _), hge, hcm2, ?_, ?_⟩, ⟨rfl, rfl, rfl, by simp, fun k hk _ => heap_alloc_old w.drew _ hk⟩, Or.inr rfl⟩
    · simp [Builtin.append_, run_underlying ht, run_underlying hti, sizeOf, typeInfo, zeroValue, hi, hz, hsize, hby, asInt, asIntOf, hw, hneg, hbig, hroom, h63', h48', Question.forced, hfo, newRow, grownCap, hm, hna]
      rw [← Array.append_assoc, show (nums .u8 xs).toArray ++ news.toArray = (nums .u8 xs ++ news).toArray from by simp]
    · have hz1 : (Value.int IntKind.u8 0).cells.size = 1 := rfl
      simp only [Array.size_append, List.size_toArray, size_zeroCells, hz1, hxl, hl]
      omega
    · simp only [Array.toList_append, List.append_assoc]
      rw [← List.append_assoc, hnn]
      exact List.take_left' (by rw [List.length_append, hxl, hl])
end Go.Proofs.YtomnpmfmlbmpeaaDoor.L
