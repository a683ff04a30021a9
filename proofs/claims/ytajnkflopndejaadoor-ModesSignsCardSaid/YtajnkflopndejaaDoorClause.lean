/- modes.clause: what it tells, and the walk. -/
import Derived.Test.YtajnkflopndejaaDoorApply
import Derived.Test.YtajnkflopndejaaDoorLetters
namespace Go.Proofs.YtajnkflopndejaaDoor.L
open Go.RowKit Go.Maps Go.Proofs.YtajnkflopndejaaDoorW.PrintWords

def whoTab : Int → Option Int := updA (updA (updA (updA (fun _ => none) 117 4) 103 2) 111 1) 97 7
def bitTab : Int → Option Int := updA (updA (updA (updA (fun _ => none) 114 4) 119 2) 120 1) 88 8
theorem whoTab_le (c b : Int) (h : whoTab c = some b) : 0 ≤ b ∧ b ≤ 15 := by
  unfold whoTab updA at h
  by_cases h1 : c = 97
  · simp [h1] at h; omega
  · by_cases h2 : c = 111
    · simp [h2] at h; omega
    · by_cases h3 : c = 103
      · simp [h3] at h; omega
      · by_cases h4 : c = 117
        · simp [h4] at h; omega
        · simp [h1, h2, h3, h4] at h
theorem bitTab_le (c b : Int) (h : bitTab c = some b) : 0 ≤ b ∧ b ≤ 15 := by
  unfold bitTab updA at h
  by_cases h1 : c = 88
  · simp [h1] at h; omega
  · by_cases h2 : c = 120
    · simp [h2] at h; omega
    · by_cases h3 : c = 119
      · simp [h3] at h; omega
      · by_cases h4 : c = 114
        · simp [h4] at h; omega
        · simp [h1, h2, h3, h4] at h

/-- A sign of a change: '+', '-', '='. -/
def isSign (c : UInt8) : Bool := decide (0 ≤ Lib.indexByte [43, 45, 61] c)
/-- One of 'u', 'g', 'o' ahead. -/
def isCopy : List UInt8 → Bool
  | [] => false
  | d :: _ => decide (0 ≤ Lib.indexByte [117, 103, 111] d)
def clauseGo (who : Int) : Nat → List UInt8 → Option (List S35)
  | 0, _ => none
  | _ + 1, [] => some []
  | n + 1, c :: cs =>
    if isSign c = false then none
    else if isCopy cs = true then (clauseGo who n (cs.drop 1)).map fun l => ⟨who, c.toNat, 0, ((cs.headD 0).toNat : Int), false⟩ :: l
    else (clauseGo who n (cs.drop (letGo bitTab cs 0).2)).map fun l => ⟨who, c.toNat, Go.bits .andNot .i64 (letGo bitTab cs 0).1 8, 0, decide (0 < Go.bits .and .i64 (letGo bitTab cs 0).1 8)⟩ :: l
def clauseOf (l : List UInt8) : List S35 × Bool :=
  match clauseGo (letGo whoTab l 0).1 (l.length + 1) (l.drop (letGo whoTab l 0).2) with
  | none => ([], false)
  | some r => (r, decide (0 < r.length))

def joinAns (acc : List S35) : Option (List S35) → List S35 × Bool
  | none => ([], false)
  | some r => (acc ++ r, decide (0 < (acc ++ r).length))
theorem joinAns_nil (o : Option (List S35)) : (match o with | none => ([], false) | some r => (r, decide (0 < r.length))) = joinAns [] o := by cases o <;> rfl
theorem joinAns_map (acc : List S35) (p : S35) (o : Option (List S35)) : joinAns acc (o.map fun l => p :: l) = joinAns (acc ++ [p]) o := by
  cases o with
  | none => rfl
  | some r => simp [joinAns]
def strSize : Value → Nat
  | .string x => x.size
  | _ => 0

theorem idx3 (a b d : UInt8) (c : UInt8) : ∀ W, Calls Tryd.prog 21 #[.string ⟨#[a, b, d]⟩, .int .u8 (c.toNat : Int)] W fun e w' => e = .returned (.int .i64 (Lib.indexByte [a, b, d] c)) ∧ w' = W := fun W => by
  have h := Tryd.strings_IndexByte ⟨#[a, b, d]⟩ (c.toNat : Int) W
  rw [show ((c.toNat : Int)).toNat.toUInt8 = c by simp] at h
  exact h

/-- Block F holds a change. -/
def Blk (W : World) (F : Nat) (a b c d : Int) (e : Bool) : Prop := W.heap[F]? = some (.cells #[.int .i64 a, .int .u8 b, .int .i64 c, .int .u8 d, .bool e] 35 (0, 0))
section
variable {W : World} {F : Nat} {a b c d : Int} {e : Bool}
theorem Blk.c0 (h : Blk W F a b c d e) : W.cell? ⟨F, 0, none⟩ = some (.int .i64 a) := by simp [World.cell?, show W.heap[F]? = _ from h]
theorem Blk.c1 (h : Blk W F a b c d e) : W.cell? ⟨F, 1, none⟩ = some (.int .u8 b) := by simp [World.cell?, show W.heap[F]? = _ from h]
theorem Blk.c2 (h : Blk W F a b c d e) : W.cell? ⟨F, 2, none⟩ = some (.int .i64 c) := by simp [World.cell?, show W.heap[F]? = _ from h]
theorem Blk.c3 (h : Blk W F a b c d e) : W.cell? ⟨F, 3, none⟩ = some (.int .u8 d) := by simp [World.cell?, show W.heap[F]? = _ from h]
theorem Blk.c4 (h : Blk W F a b c d e) : W.cell? ⟨F, 4, none⟩ = some (.bool e) := by simp [World.cell?, show W.heap[F]? = _ from h]
theorem Blk.free (h : Blk W F a b c d e) (i : Nat) : W.frozen? ⟨F, i, none⟩ = false := by simp [World.frozen?, show W.heap[F]? = _ from h]
theorem Blk.s2 (h : Blk W F a b c d e) (x : Int) : Blk (W.setCell ⟨F, 2, none⟩ (.int .i64 x)) F a b x d e := by simp [Blk, World.setCell, Array.getElem?_modify, show W.heap[F]? = _ from h]
theorem Blk.s3 (h : Blk W F a b c d e) (x : Int) : Blk (W.setCell ⟨F, 3, none⟩ (.int .u8 x)) F a b c x e := by simp [Blk, World.setCell, Array.getElem?_modify, show W.heap[F]? = _ from h]
theorem Blk.s4 (h : Blk W F a b c d e) (x : Bool) : Blk (W.setCell ⟨F, 4, none⟩ (.bool x)) F a b c d x := by simp [Blk, World.setCell, Array.getElem?_modify, show W.heap[F]? = _ from h]
theorem Blk.below {W' : World} (h : Blk W F a b c d e) (hb : Below W.heap.size W W') : Blk W' F a b c d e := (hb.block F (Array.getElem?_eq_some_iff.1 h).1).trans h
theorem Blk.lt (h : Blk W F a b c d e) : F < W.heap.size := (Array.getElem?_eq_some_iff.1 h).1
end

/-- Four entries put into a map that was made. -/
theorem four (w : World) (c1 c2 c3 c4 x1 x2 x3 x4 : Int) (h1 : 0 ≤ c1 ∧ c1 ≤ 255) (h2 : 0 ≤ c2 ∧ c2 ≤ 255) (h3 : 0 ≤ c3 ∧ c3 ≤ 255) (h4 : 0 ≤ c4 ∧ c4 ≤ 255) (e1 : wrap64 x1 = x1) (e2 : wrap64 x2 = x2) (e3 : wrap64 x3 = x3) (e4 : wrap64 x4 = x4) :
    ∃ w1 w2 w3 w4, (Instr.mapUpdate 74 (.map (some w.heap.size)) (.int .u8 c1) (.int .i64 x1)).run Tryd.prog (w.alloc (.map #[] 0)) = .ok () w1 ∧ (Instr.mapUpdate 74 (.map (some w.heap.size)) (.int .u8 c2) (.int .i64 x2)).run Tryd.prog w1 = .ok () w2 ∧
      (Instr.mapUpdate 74 (.map (some w.heap.size)) (.int .u8 c3) (.int .i64 x3)).run Tryd.prog w2 = .ok () w3 ∧ (Instr.mapUpdate 74 (.map (some w.heap.size)) (.int .u8 c4) (.int .i64 x4)).run Tryd.prog w3 = .ok () w4 ∧
      KMap vInt w4 w.heap.size 4 (updA (updA (updA (updA (fun _ => none) c1 x1) c2 x2) c3 x3) c4 x4) ∧ Below w.heap.size w w4 := by
  obtain ⟨w1, r1, o1, t1⟩ := KMap.put Tryd.underlying74 (KMap.made (V := vInt) w) (by decide) c1 h1.1 h1.2 x1
  obtain ⟨w2, r2, o2, t2⟩ := KMap.put Tryd.underlying74 o1 (by decide) c2 h2.1 h2.2 x2
  obtain ⟨w3, r3, o3, t3⟩ := KMap.put Tryd.underlying74 o2 (by decide) c3 h3.1 h3.2 x3
  obtain ⟨w4, r4, o4, t4⟩ := KMap.put Tryd.underlying74 o3 (by decide) c4 h4.1 h4.2 x4
  have hb := below_map (below_map (below_map (below_map ((Below.refl _ w).alloc (Nat.le_refl _) _) t1 (Nat.le_refl _)) t2 (Nat.le_refl _)) t3 (Nat.le_refl _)) t4 (Nat.le_refl _)
  simp only [vInt, e1, e2, e3, e4] at r1 r2 r3 r4
  exact ⟨w1, w2, w3, w4, r1, r2, r3, r4, o4, hb⟩

def clausePost (w : World) (r : List S35 × Bool) (e : Ending) (w' : World) : Prop :=
  ∃ v0_ : Value, e = .returned (.tuple #[v0_, .bool r.2]) ∧ Kd.R k35 35 w' w.heap.size (fun _ => True) v0_ r.1 ∧ Below w.heap.size w w'

set_option maxHeartbeats 16000000 in
set_option maxRecDepth 100000 in
theorem clause_walk (s : ByteArray) (hs : s.size ≤ 1099511627776) (w : World) : Calls Tryd.prog 25 #[.string s] w (clausePost w (clauseOf s.data.toList)) := by
  have hu35 := Tryd.underlying35
  have hmm := @run_makeMap Tryd.prog
  obtain ⟨w1, w2, w3, w4, r1, r2, r3, r4, o4, hb4⟩ := four w 117 103 111 97 4 2 1 7 (by omega) (by omega) (by omega) (by omega) (by unfold wrap64; omega) (by unfold wrap64; omega) (by unfold wrap64; omega) (by unfold wrap64; omega)
  have hlet := letters_walk s w.heap.size 4 whoTab whoTab_le (by omega) w4 o4
  have hle := letGo_le whoTab s.data.toList 0
  obtain ⟨who, hwho⟩ : ∃ x, (letGo whoTab s.data.toList 0).1 = x := ⟨_, rfl⟩
  obtain ⟨k, hk⟩ : ∃ x, (letGo whoTab s.data.toList 0).2 = x := ⟨_, rfl⟩
  rw [hwho, hk] at hlet
  rw [hk] at hle
  have hans : clauseOf s.data.toList = match clauseGo who (s.data.toList.length + 1) (s.data.toList.drop k) with | none => ([], false) | some r => (r, decide (0 < r.length)) := by
    unfold clauseOf
    rw [hwho, hk]
  have hsz : s.data.toList.length = s.size := by simp
  rw [hsz] at hans hle
  obtain ⟨x, hx⟩ : ∃ x, s.extract k s.size = x := ⟨_, rfl⟩
  have hxl : x.data.toList = s.data.toList.drop k := by rw [← hx]; exact Lib.extract_to_end s k
  have hxs : x.size + k = s.size := by
    have : x.data.toList.length = s.data.toList.length - k := by rw [hxl, List.length_drop]
    simp only [hsz] at this
    have e : x.data.toList.length = x.size := by simp
    omega
  rw [← hxl] at hans
  rw [hx] at hlet
  obtain ⟨ANS, hA⟩ : ∃ A, clauseOf s.data.toList = A := ⟨_, rfl⟩
  rw [hA] at hans ⊢
  have HANS := Lib.hid hans
  have HB4 := Lib.hid hb4
  clear o4 hb4 hx hxl hwho hk hans hA hle hsz
  go_enter Tryd.func25, Tryd.ntmps25
  go_wp2_with (go_at_call 41; refine hlet.mono ?_; rintro e w5 ⟨rfl, m, hw5⟩; have HB5 := Lib.hid (show Below w.heap.size w w5 by rw [hw5]; exact pw_below_drewN HB4.out m); clear hw5)
  clear hlet r1 r2 r3 r4
  go_loopw [0, 2] (fun v0 v2 wr => ∃ (x : ByteArray) (acc : List S35) (n : Nat), v0 = .string x ∧ x.size < n ∧ Hid (acc.length + x.size ≤ s.size) ∧ Hid (ANS = joinAns acc (clauseGo who n x.data.toList)) ∧ Hid (Kd.R k35 35 wr w.heap.size (fun _ => True) v2 acc) ∧ Hid (Below w.heap.size w wr))
    (fun v0 _ _ => strSize v0)
  case atStart => exact ⟨x, [], s.size + 1, rfl, by omega, by show _ ≤ _; simp; omega, HANS.out.trans (joinAns_nil _), Kd.R_nil _ _ _ _ _, HB5.out⟩
  case round =>
    obtain ⟨x, acc, n, rfl, hn, HL, HN, HR, HB⟩ := hrel
    clear HANS HB4 HB5
    obtain ⟨n, rfl⟩ : ∃ m, n = m + 1 := ⟨n - 1, by omega⟩
    by_cases h0 : x.size = 0
    · obtain rfl : x = ⟨#[]⟩ := by
        apply ByteArray.ext
        exact Array.eq_empty_of_size_eq_zero h0
      have HA : Hid (ANS = (acc, decide (0 < acc.length))) := Lib.hid (by rw [HN.out]; simp [clauseGo, joinAns])
      clear HN
      obtain ⟨A, c, rfl⟩ := Kd.R_slice HR.out
      go_wp2
      go_ret2
      exact ⟨_, by rw [HA.out]; rfl, by rw [HA.out]; exact HR.out, HB.out⟩
    · have hemp : x.toList.isEmpty = false := by
        rw [← decide_eq_emptyBytes]
        exact decide_eq_false (fun h => h0 (by rw [h]; rfl))
      have hpos : (0 : Int) < (x.size : Int) := by omega
      have hp1 : (1 : Int) ≤ (x.size : Int) := by omega
      obtain ⟨y, hy⟩ : ∃ y, x.extract 1 x.size = y := ⟨_, rfl⟩
      have hyl : y.data.toList = x.data.toList.drop 1 := by rw [← hy]; exact Lib.extract_to_end x 1
      obtain ⟨c, hc⟩ : ∃ c, x[0]'(by omega) = c := ⟨_, rfl⟩
      have hxl : x.data.toList = c :: y.data.toList := by
        have h := drop_byte x 0 (by omega)
        rw [List.drop_zero] at h
        rw [hyl]
        rw [h, hc]
        rfl
      have hys : y.size + 1 = x.size := by
        have : x.data.toList.length = y.data.toList.length + 1 := by rw [hxl]; rfl
        simpa using this.symm
      rw [hxl] at HN
      have HN0 := HN.out
      simp only [clauseGo] at HN0
      have HNe := Lib.hid HN0
      clear HN0 HN
      have hsgn := idx3 43 45 61 c
      obtain ⟨sg, hsg⟩ : ∃ sg, Lib.indexByte [43, 45, 61] c = sg := ⟨_, rfl⟩
      rw [hsg] at hsgn
      have hci : ((x[0]'(by omega)).toNat : Int) = (c.toNat : Int) := by rw [hc]
      by_cases hS : isSign c = false
      · have hlt : sg < 0 := by unfold isSign at hS; rw [hsg] at hS; simpa using hS
        have HA : Hid (ANS = ([], false)) := Lib.hid (by rw [HNe.out, if_pos hS]; rfl)
        have HBa : Hid (∀ o, Below w.heap.size w (wr.alloc o)) := Lib.hid (fun o => HB.out.alloc HB.out.size o)
        clear HNe hS hsg hyl hxl hc
        go_wp2_with (go_at_call 21; refine (hsgn _).mono ?_; rintro e w7 ⟨rfl, rfl⟩)
        go_ret2
        exact ⟨_, by rw [HA.out]; rfl, by rw [HA.out]; exact Kd.R_nil _ _ _ _ _, HBa.out _⟩
      · have hge : 0 ≤ sg := by unfold isSign at hS; rw [hsg] at hS; simpa using hS
        have HNs := HNe.out
        rw [if_neg hS] at HNs
        have HN2 := Lib.hid HNs
        clear HNs HNe hS hsg
        go_upto_region 7 with (go_at_call 21; refine (hsgn _).mono ?_; rintro e w7 ⟨rfl, rfl⟩)
        obtain ⟨F, hF⟩ : ∃ F, wr.heap.size = F := ⟨_, rfl⟩
        obtain ⟨W1, hW1⟩ : ∃ W1, wr.alloc (.cells #[.int .i64 who, .int .u8 (c.toNat : Int), .int .i64 0, .int .u8 0, .bool false] 35) = W1 := ⟨_, rfl⟩
        have HBk : Hid (Blk W1 F who c.toNat 0 0 false) := Lib.hid (by rw [← hW1, ← hF]; exact heap_alloc_new wr _)
        have HBr : Hid (Below F wr W1) := Lib.hid (by rw [← hW1, ← hF]; exact (Below.refl _ wr).alloc (Nat.le_refl _) _)
        have HF := Lib.hid hF
        rw [hW1, hF]
        have HYS := Lib.hid hys
        have HN0 := Lib.hid hn
        clear hW1 hF hsgn hge hy hyl hxl hci hc hemp hpos hp1 h0 hys hn
        go_cut [34] (fun v34 wc => v34 = .bool (isCopy y.data.toList) ∧ W1 = wc)
        case first =>
          by_cases hy0 : y.size = 0
          · obtain rfl : y = ⟨#[]⟩ := by
              apply ByteArray.ext
              exact Array.eq_empty_of_size_eq_zero hy0
            go_wp2
            go_meet
            exact ⟨rfl, rfl⟩
          · have hempy : y.toList.isEmpty = false := by
              rw [← decide_eq_emptyBytes]
              exact decide_eq_false (fun h => hy0 (by rw [h]; rfl))
            have hposy : (0 : Int) < (y.size : Int) := by omega
            have hcp := fun d => idx3 117 103 111 d
            obtain ⟨d, hd⟩ : ∃ d, y[0]'(by omega) = d := ⟨_, rfl⟩
            have hyd : y.data.toList = d :: y.data.toList.drop 1 := by
              have h := drop_byte y 0 (by omega)
              rw [List.drop_zero] at h
              rw [h, hd]
              rfl
            have hdi : ((y[0]'(by omega)).toNat : Int) = (d.toNat : Int) := by rw [hd]
            have HE : Hid (isCopy y.data.toList = decide (0 ≤ Lib.indexByte [117, 103, 111] d)) := Lib.hid (by rw [hyd]; rfl)
            clear hyd hd
            replace hcp := hcp d
            obtain ⟨sg2, hsg2⟩ : ∃ sg, Lib.indexByte [117, 103, 111] d = sg := ⟨_, rfl⟩
            rw [hsg2] at hcp HE
            clear hsg2
            go_wp2_with (go_at_call 21; refine (hcp _).mono ?_; rintro e w7 ⟨rfl, rfl⟩)
            go_meet
            exact ⟨by rw [HE.out], rfl⟩
        case rest =>
          obtain ⟨rfl, rfl⟩ := hcut
          go_upto_if 34 with (fail)
          go_cut [0] (fun v0 wc => ∃ (z : ByteArray) (ch : S35), v0 = .string z ∧ z.size ≤ y.size ∧ Hid (ANS = joinAns (acc ++ [ch]) (clauseGo who n z.data.toList)) ∧ Hid (Blk wc F ch.f0 ch.f1 ch.f2 ch.f3 ch.f4) ∧ Hid (Below F wr wc))
          case first =>
            cases hcpy : isCopy y.data.toList
            · have HN3 : Hid (ANS = joinAns acc ((clauseGo who n (y.data.toList.drop (letGo bitTab y.data.toList 0).2)).map fun l => ⟨who, c.toNat, Go.bits .andNot .i64 (letGo bitTab y.data.toList 0).1 8, 0, decide (0 < Go.bits .and .i64 (letGo bitTab y.data.toList 0).1 8)⟩ :: l)) := Lib.hid (by rw [HN2.out, if_neg (by rw [hcpy]; simp)])
              clear HN2 hcpy
              rw [joinAns_map] at HN3
              obtain ⟨w6, w7, w8, w9, r1, r2, r3, r4, o4, hb4⟩ := four W1 114 119 120 88 4 2 1 8 (by omega) (by omega) (by omega) (by omega) (by unfold wrap64; omega) (by unfold wrap64; omega) (by unfold wrap64; omega) (by unfold wrap64; omega)
              have hlet := letters_walk y W1.heap.size 4 bitTab bitTab_le (by have : y.size + 1 = x.size := HYS.out; have : acc.length + x.size ≤ s.size := HL.out; omega) w9 o4
              have hle := letGo_le bitTab y.data.toList 0
              obtain ⟨sm, hsm⟩ : ∃ v, (letGo bitTab y.data.toList 0).1 = v := ⟨_, rfl⟩
              obtain ⟨j, hj⟩ : ∃ v, (letGo bitTab y.data.toList 0).2 = v := ⟨_, rfl⟩
              rw [hsm, hj] at hlet HN3
              rw [hj] at hle
              obtain ⟨z, hz⟩ : ∃ z, y.extract j y.size = z := ⟨_, rfl⟩
              have hzl : z.data.toList = y.data.toList.drop j := by rw [← hz]; exact Lib.extract_to_end y j
              rw [← hzl] at HN3
              rw [hz] at hlet
              have hzs : z.size ≤ y.size := by
                have h1 : z.data.toList.length = y.data.toList.length - j := by rw [hzl, List.length_drop]
                have e1 : z.data.toList.length = z.size := by simp
                have e2 : y.data.toList.length = y.size := by simp
                omega
              have HZS := Lib.hid hzs
              have HB9 := Lib.hid hb4
              clear o4 hb4 hz hzl hsm hj hle hzs
              go_upto_region 10 with (go_at_call 41; refine hlet.mono ?_; rintro e wA ⟨rfl, mm, hwA⟩; have HBA := Lib.hid (show Below W1.heap.size W1 wA by rw [hwA]; exact pw_below_drewN HB9.out mm); have HKA := Lib.hid (HBk.out.below HBA.out); clear hwA; have k2 := HKA.out.c2; have q2 := HKA.out.free 2)
              have HWF : Hid (F ≤ W1.heap.size) := Lib.hid (Nat.le_of_lt HBk.out.lt)
              have HBF : Hid (Below F wr wA) := Lib.hid (HBr.out.trans (HBA.out.mono HWF.out))
              obtain ⟨WB, hWB⟩ : ∃ WB, wA.setCell ⟨F, 2, none⟩ (.int .i64 sm) = WB := ⟨_, rfl⟩
              have HKB : Hid (Blk WB F who c.toNat sm 0 false) := Lib.hid (by rw [← hWB]; exact HKA.out.s2 sm)
              have HBB : Hid (Below F wr WB) := Lib.hid (by rw [← hWB]; exact HBF.out.setCell (p := ⟨F, 2, none⟩) (Nat.le_refl _) _)
              have m2 := HKB.out.c2
              have m4 := HKB.out.c4
              have n4 := HKB.out.free 4
              rw [hWB]
              clear hWB k2 q2
              go_upto_region 11 with (fail)
              obtain ⟨WC, hWC⟩ : ∃ WC, WB.setCell ⟨F, 4, none⟩ (.bool (decide (0 < Go.bits .and .i64 sm 8))) = WC := ⟨_, rfl⟩
              have HKC : Hid (Blk WC F who c.toNat sm 0 (decide (0 < Go.bits .and .i64 sm 8))) := Lib.hid (by rw [← hWC]; exact HKB.out.s4 _)
              have HBC : Hid (Below F wr WC) := Lib.hid (by rw [← hWC]; exact HBB.out.setCell (p := ⟨F, 4, none⟩) (Nat.le_refl _) _)
              have p2 := HKC.out.c2
              have l2 := HKC.out.free 2
              rw [hWC]
              clear hWC m2 m4 n4
              go_wp2
              go_meet
              case rel => exact ⟨z, ⟨who, c.toNat, Go.bits .andNot .i64 sm 8, 0, decide (0 < Go.bits .and .i64 sm 8)⟩, rfl, HZS.out, HN3, Lib.hid (HKC.out.s2 _), Lib.hid (HBC.out.setCell (p := ⟨F, 2, none⟩) (Nat.le_refl _) _)⟩
            · have hy0 : y.size ≠ 0 := fun h => by
                have : y.data.toList = [] := List.eq_nil_of_length_eq_zero (by simpa using h)
                rw [this] at hcpy
                cases hcpy
              have hposy : (0 : Int) < (y.size : Int) := by omega
              have hp1y : (1 : Int) ≤ (y.size : Int) := by omega
              obtain ⟨d, hd⟩ : ∃ d, y[0]'(by omega) = d := ⟨_, rfl⟩
              obtain ⟨z, hz⟩ : ∃ z, y.extract 1 y.size = z := ⟨_, rfl⟩
              have hzl : z.data.toList = y.data.toList.drop 1 := by rw [← hz]; exact Lib.extract_to_end y 1
              have hyd : y.data.toList = d :: z.data.toList := by
                have h := drop_byte y 0 (by omega)
                rw [List.drop_zero] at h
                rw [hzl]
                rw [h, hd]
                rfl
              have hdi : ((y[0]'(by omega)).toNat : Int) = (d.toNat : Int) := by rw [hd]
              have HZS : Hid (z.size ≤ y.size) := Lib.hid (by
                have : y.data.toList.length = z.data.toList.length + 1 := by rw [hyd]; rfl
                have e1 : z.data.toList.length = z.size := by simp
                have e2 : y.data.toList.length = y.size := by simp
                omega)
              have HN3 : Hid (ANS = joinAns (acc ++ [⟨who, c.toNat, 0, (d.toNat : Int), false⟩]) (clauseGo who n z.data.toList)) := Lib.hid (by
                rw [HN2.out, if_pos hcpy, hyd]
                exact joinAns_map _ _ _)
              clear HN2 hcpy hyd hzl hd hy0
              have k3 := HBk.out.c3
              have q3 := HBk.out.free 3
              go_wp2
              go_region
              all_goals
                go_wp2
                go_meet
                case rel => exact ⟨z, ⟨who, c.toNat, 0, (d.toNat : Int), false⟩, rfl, HZS.out, HN3, Lib.hid (HBk.out.s3 _), Lib.hid (by repeat (first | exact HBr.out.setCell (p := ⟨F, 3, none⟩) (Nat.le_refl _) _ | apply below_drew1 | apply pw_below_drewN))⟩
          case rest =>
            obtain ⟨z, ch, rfl, hzs, HN4, HKD, HBD⟩ := hcut
            have e0 := HKD.out.c0
            have e1 := HKD.out.c1
            have e2 := HKD.out.c2
            have e3 := HKD.out.c3
            have e4 := HKD.out.c4
            have HFw : Hid (w.heap.size ≤ F) := Lib.hid (by have h : wr.heap.size = F := HF.out; rw [← h]; exact HB.out.size)
            have HBw : Hid (Below w.heap.size w wc) := Lib.hid (HB.out.trans (HBD.out.mono HFw.out))
            have HRw : Hid (Kd.R k35 35 wc w.heap.size (fun _ => True) u2 acc) := Lib.hid (Kd.R_below HR.out (by have h : wr.heap.size = F := HF.out; rw [h]; exact HBD.out))
            have hroom : (acc.length + 1) * 32 ≤ 140737488355328 := by have : acc.length + x.size ≤ s.size := HL.out; omega
            clear HN2
            go_wp2_with (at_builtin; refine Kd.R_append k35 (w0 := w) w.heap.size rfl (.tmp 58) (.tmp 60) 33 35 (.agg #[.int .i64 0, .int .u8 0, .int .i64 0, .int .u8 0, .bool false]) 32 rfl Tryd.underlying33 info35 rfl (by decide) (by omega) u2 acc ch [.int .i64 ch.f0, .int .u8 ch.f1, .int .i64 ch.f2, .int .u8 ch.f3, .bool ch.f4] (fun _ => True) (fun _ => False) rfl rfl (k35_mkM _ _ _ ch) (fun _ h => h.elim) (fun _ _ => trivial) HRw.out HBw.out HBw.out.size hroom ?_; intro v1 wz hR3 hB3 _ _; have HR3 := Lib.hid hR3; have HB3 := Lib.hid hB3; clear hR3 hB3)
            go_roundw
            case rel => exact ⟨z, acc ++ [ch], n, rfl, by have : y.size + 1 = x.size := HYS.out; have : x.size < n + 1 := HN0.out; omega, Lib.hid (by have : y.size + 1 = x.size := HYS.out; have : acc.length + x.size ≤ s.size := HL.out; simp; omega), HN4, HR3, HB3⟩
            case measure => simp only [strSize]; have : y.size + 1 = x.size := HYS.out; omega

def modes_clause.f (a0 : ByteArray) : Option (List S35 × Bool) := if a0.size ≤ 1099511627776 then some (clauseOf a0.data.toList) else none
theorem modes_clause.calls (a0 : ByteArray) (r1 : List S35) (r2 : Bool) (w : World) (h : modes_clause.f a0 = some (r1, r2)) :
    Calls Tryd.prog 25 #[.string a0] w fun e w' => ∃ v0_ : Value, e = .returned (.tuple #[v0_, .bool r2]) ∧ Kd.R k35 35 w' w.heap.size (fun _ => True) v0_ r1 ∧ Below w.heap.size w w' := by
  unfold modes_clause.f at h
  by_cases hg : a0.size ≤ 1099511627776
  · rw [if_pos hg] at h
    have h := Option.some.inj h
    have hw := clause_walk a0 hg w
    rw [h] at hw
    exact hw
  · rw [if_neg hg] at h
    cases h
end Go.Proofs.YtajnkflopndejaaDoor.L
