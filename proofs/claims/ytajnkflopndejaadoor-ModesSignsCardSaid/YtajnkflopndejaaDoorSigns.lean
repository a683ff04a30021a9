/- The plain law of ModesSigns. -/
import Derived.Test.YtajnkflopndejaaDoorOcts
import Derived.Test.YtajnkflopndejaaDoorLx4
import Derived.Test.YtajnkflopndejaaDoorLx7m
namespace Go.Proofs.YtajnkflopndejaaDoor.L
open Go.RowKit Go.Proofs.YtajnkflopndejaaDoorW.PrintWords Go.Proofs.YtajnkflopndejaaDoorW.PrintLast Go.Proofs.YtajnkflopndejaaDoorW.PrintMore

theorem and_one (x : Int) : Go.bits .and .i64 x 1 = x % 2 := by
  have h127 : (BitVec.ofInt 64 1).toNat = 2 ^ 1 - 1 := by decide
  have key : (BitVec.ofInt 64 x &&& BitVec.ofInt 64 1).toNat = (x % ((2 ^ 64 : Nat) : Int)).toNat % 2 ^ 1 := by
    rw [BitVec.toNat_and, BitVec.toNat_ofInt, h127, Nat.and_two_pow_sub_one_eq_mod]
  show IntKind.i64.wrap ((BitVec.ofInt 64 x &&& BitVec.ofInt 64 1).toNat : Nat) = x % 2
  rw [key, IntKind.wrap_i64]
  omega
/-- A mode's bit, from the left. -/
def onN (n j : Nat) : Bool := n / 2 ^ (8 - j) % 2 == 1
theorem on_mod (a : Int) (n j : Nat) (hn : a % 512 = (n : Int)) (hj : j < 9) : a / 2 ^ (8 - j) % 2 = ((n / 2 ^ (8 - j) % 2 : Nat) : Int) := by
  have hj' : j = 0 ∨ j = 1 ∨ j = 2 ∨ j = 3 ∨ j = 4 ∨ j = 5 ∨ j = 6 ∨ j = 7 ∨ j = 8 := by omega
  rcases hj' with rfl | rfl | rfl | rfl | rfl | rfl | rfl | rfl | rfl <;> simp only [Nat.reduceSub, Nat.reducePow, Int.reducePow, Nat.sub_zero, Nat.sub_self, Nat.pow_zero, Int.pow_zero] <;> omega
theorem onBit_n (a : Int) (n j : Nat) (hn : a % 512 = (n : Int)) (hj : j < 9) : onBit a j = onN n j := by
  unfold onBit onN
  rw [and_one, on_mod a n j hn hj]
  have h : n / 2 ^ (8 - j) % 2 = 0 ∨ n / 2 ^ (8 - j) % 2 = 1 := by omega
  rcases h with h | h <;> rw [h] <;> rfl
theorem shr_n (a : Int) (n j : Nat) (hn : a % 512 = (n : Int)) (hj : j < 9) : Go.bits .and .i64 (shr .i64 a ((8 - j : Nat) : Int)) 1 = if onN n j = true then 1 else 0 := by
  have e : shr .i64 a ((8 - j : Nat) : Int) = a / 2 ^ (8 - j) := by
    show a / 2 ^ min ((8 - j : Nat) : Int).toNat 64 = _
    rw [Int.toNat_natCast, Nat.min_eq_left (by omega)]
  rw [e, and_one, on_mod a n j hn hj]
  unfold onN
  have h : n / 2 ^ (8 - j) % 2 = 0 ∨ n / 2 ^ (8 - j) % 2 = 1 := by omega
  rcases h with h | h <;> rw [h] <;> rfl

def chN (n j : Nat) : Int := if onN n j = true then ((rwxL.getD j 0 : Nat) : Int) else 45
def txtN (n : Nat) : ByteArray := strOfNums (100 :: (List.range 9).map (chN n))
theorem txt_n (a : Int) (n : Nat) (hn : a % 512 = (n : Int)) : strOfNums (txtPre 2 a 9) = txtN n := by
  unfold txtPre txtN
  have e : (List.range 9).map (txtAt a) = (List.range 9).map (chN n) := by
    apply List.map_congr_left
    intro j hj
    rw [List.mem_range] at hj
    unfold txtAt chN
    rw [onBit_n a n j hn hj]
  rw [e]
  rfl
theorem txt_at (n : Nat) (hn : n < 512) (j : Nat) (hj : j < 9) : bt (txtN n) (1 + (j : Int)) = chN n j := by
  have : ∀ x : Fin 512, ∀ y : Fin 9, bt (txtN x.1) (1 + (y.1 : Int)) = chN x.1 y.1 := by decide +kernel
  exact this ⟨n, hn⟩ ⟨j, hj⟩

/-- What is told of one bit, behind a text. -/
def addP (n j : Nat) (t : ByteArray) : ByteArray := if onN n j = true then t ++ strOfNums [chN n j] else t
def addH (i : Nat) (t : ByteArray) : ByteArray := ((if 0 < i then t ++ (⟨#[44]⟩ : ByteArray) else t) ++ (⟨#[117, 103, 111]⟩ : ByteArray).extract i (i + 1)) ++ (⟨#[61]⟩ : ByteArray)
def addT (n i : Nat) (t : ByteArray) : ByteArray := addP n (3 * i + 2) (addP n (3 * i + 1) (addP n (3 * i) (addH i t)))
def signText (n : Nat) : ByteArray := addT n 2 (addT n 1 (addT n 0 ⟨#[]⟩))
theorem addP_size (n j : Nat) (t : ByteArray) : (addP n j t).size ≤ t.size + 1 := by
  unfold addP
  split
  · rw [ByteArray.size_append]
    exact Nat.le_refl _
  · omega

theorem l1_end (a b c : Int) (d : Bool) (s t : ByteArray) (i : Nat) (hi : i < 3) (r : Bool) (h : Ev (fun k => toolchestlaw10_ModesSigns.l0 k a s t ((i + 1 : Nat) : Int) b c d) r) :
    Ev (fun k => toolchestlaw10_ModesSigns.l1 k a s t (i : Int) 3 b c d) r := by
  refine Ev.step (f := fun k => toolchestlaw10_ModesSigns.l0 k a s t ((i + 1 : Nat) : Int) b c d) (fun k => ?_) h
  simp only [toolchestlaw10_ModesSigns.l1]
  rw [if_neg (by omega), show wrap64 ((i : Int) + 1) = ((i + 1 : Nat) : Int) by unfold wrap64; omega]

theorem l1_step (a b c : Int) (d : Bool) (n : Nat) (hn : n < 512) (ha : a % 512 = (n : Int)) (t : ByteArray) (ht : t.size ≤ 1000) (i q : Nat) (hi : i < 3) (hq : q < 3) (r : Bool)
    (h : Ev (fun k => toolchestlaw10_ModesSigns.l1 k a (txtN n) (addP n (3 * i + q) t) (i : Int) ((q + 1 : Nat) : Int) b c d) r) :
    Ev (fun k => toolchestlaw10_ModesSigns.l1 k a (txtN n) t (i : Int) (q : Int) b c d) r := by
  have hj : 3 * i + q < 9 := by omega
  have e1 : wrap64 ((wrap64 (1 + (wrap64 (3 * (i : Int))))) + (q : Int)) = 1 + ((3 * i + q : Nat) : Int) := by
    have : ∀ x y : Fin 3, wrap64 ((wrap64 (1 + (wrap64 (3 * (x.1 : Int))))) + (y.1 : Int)) = 1 + ((3 * x.1 + y.1 : Nat) : Int) := by decide +kernel
    exact this ⟨i, hi⟩ ⟨q, hq⟩
  have e2 : wrap64 ((wrap64 (8 - (wrap64 (3 * (i : Int))))) - (q : Int)) = ((8 - (3 * i + q) : Nat) : Int) := by
    have : ∀ x y : Fin 3, wrap64 ((wrap64 (8 - (wrap64 (3 * (x.1 : Int))))) - (y.1 : Int)) = ((8 - (3 * x.1 + y.1) : Nat) : Int) := by decide +kernel
    exact this ⟨i, hi⟩ ⟨q, hq⟩
  have e3 : wrap64 ((q : Int) + 1) = ((q + 1 : Nat) : Int) := by unfold wrap64; omega
  have e4 := txt_at n hn (3 * i + q) hj
  have e5 := shr_n a n (3 * i + q) ha hj
  have e6 : ((txtN n).size : Int) = 10 := rfl
  have e7 : bt (⟨#[114, 119, 120]⟩ : ByteArray) (q : Int) = ((rwxL.getD (3 * i + q) 0 : Nat) : Int) := by
    have : ∀ x y : Fin 3, bt (⟨#[114, 119, 120]⟩ : ByteArray) (y.1 : Int) = ((rwxL.getD (3 * x.1 + y.1) 0 : Nat) : Int) := by decide +kernel
    exact this ⟨i, hi⟩ ⟨q, hq⟩
  have e8 : ((rwxL.getD (3 * i + q) 0 : Nat) : Int) ≠ 45 := by
    have : ∀ x y : Fin 3, ((rwxL.getD (3 * x.1 + y.1) 0 : Nat) : Int) ≠ 45 := by decide +kernel
    exact this ⟨i, hi⟩ ⟨q, hq⟩
  cases hon : onN n (3 * i + q) with
  | true =>
    rw [hon, if_pos rfl] at e5
    have hch : chN n (3 * i + q) = ((rwxL.getD (3 * i + q) 0 : Nat) : Int) := by unfold chN; rw [hon, if_pos rfl]
    refine Ev.step (f := fun k => toolchestlaw10_ModesSigns.j4 k a (txtN n) t (i : Int) (q : Int) (chN n (3 * i + q)) true false b c d) (fun k => ?_) ?_
    · simp only [toolchestlaw10_ModesSigns.l1]
      rw [if_pos (by omega), e1, if_pos (by omega), if_pos (by rw [e6]; omega), e2, if_pos (by omega), if_pos (by omega), e4, e5, e7, hch]
      simp
    · refine Ev.step (f := fun k => toolchestlaw10_ModesSigns.l1 k a (txtN n) (addP n (3 * i + q) t) (i : Int) ((q + 1 : Nat) : Int) b c d) (fun k => ?_) h
      simp only [toolchestlaw10_ModesSigns.j4]
      rw [if_neg (by simp), if_pos trivial]
      simp only [Option.bind_some]
      rw [if_pos (by show t.size + 1 ≤ _; omega), e3]
      unfold addP
      rw [hon, if_pos rfl]
  | false =>
    rw [hon, if_neg (by simp)] at e5
    have hch : chN n (3 * i + q) = 45 := by unfold chN; rw [hon, if_neg (by simp)]
    refine Ev.step (f := fun k => toolchestlaw10_ModesSigns.j4 k a (txtN n) t (i : Int) (q : Int) (chN n (3 * i + q)) false false b c d) (fun k => ?_) ?_
    · simp only [toolchestlaw10_ModesSigns.l1]
      rw [if_pos (by omega), e1, if_pos (by omega), if_pos (by rw [e6]; omega), e2, if_pos (by omega), if_pos (by omega), e4, e5, e7, hch]
      have e9 : ((45 : Int) == ((rwxL.getD (3 * i + q) 0 : Nat) : Int)) = false := beq_eq_false_iff_ne.2 (fun h => e8 h.symm)
      rw [e9]
      simp
    · refine Ev.step (f := fun k => toolchestlaw10_ModesSigns.l1 k a (txtN n) (addP n (3 * i + q) t) (i : Int) ((q + 1 : Nat) : Int) b c d) (fun k => ?_) h
      simp only [toolchestlaw10_ModesSigns.j4]
      rw [if_neg (by simp), if_neg (by simp), e3]
      unfold addP
      rw [hon, if_neg (by simp)]

theorem l1_all (a b c : Int) (d : Bool) (n : Nat) (hn : n < 512) (ha : a % 512 = (n : Int)) (t : ByteArray) (ht : t.size ≤ 900) (i : Nat) (hi : i < 3) (r : Bool)
    (h : Ev (fun k => toolchestlaw10_ModesSigns.l0 k a (txtN n) (addP n (3 * i + 2) (addP n (3 * i + 1) (addP n (3 * i) t))) ((i + 1 : Nat) : Int) b c d) r) :
    Ev (fun k => toolchestlaw10_ModesSigns.l1 k a (txtN n) t (i : Int) 0 b c d) r := by
  have s0 := addP_size n (3 * i) t
  have s1 := addP_size n (3 * i + 1) (addP n (3 * i) t)
  exact l1_step a b c d n hn ha t (by omega) i 0 hi (by omega) r
    (l1_step a b c d n hn ha _ (Nat.le_trans s0 (by omega)) i 1 hi (by omega) r
      (l1_step a b c d n hn ha _ (Nat.le_trans s1 (by omega)) i 2 hi (by omega) r
        (l1_end a b c d _ _ i hi r h)))

theorem ext_size (i : Nat) (hi : i < 3) : ((⟨#[117, 103, 111]⟩ : ByteArray).extract i (i + 1)).size = 1 := by
  have : i = 0 ∨ i = 1 ∨ i = 2 := by omega
  rcases this with rfl | rfl | rfl <;> rfl
theorem j2_step (a b c : Int) (d : Bool) (n : Nat) (t : ByteArray) (ht : t.size ≤ 800) (i : Nat) (hi : i < 3) (r : Bool)
    (h : Ev (fun k => toolchestlaw10_ModesSigns.l1 k a (txtN n) ((t ++ (⟨#[117, 103, 111]⟩ : ByteArray).extract i (i + 1)) ++ (⟨#[61]⟩ : ByteArray)) (i : Int) 0 b c d) r) :
    Ev (fun k => toolchestlaw10_ModesSigns.j2 k a (txtN n) t (i : Int) b c d) r := by
  have e : wrap64 ((i : Int) + 1) = ((i + 1 : Nat) : Int) := by unfold wrap64; omega
  have hz := ext_size i hi
  refine Ev.step (f := fun k => toolchestlaw10_ModesSigns.l1 k a (txtN n) ((t ++ (⟨#[117, 103, 111]⟩ : ByteArray).extract i (i + 1)) ++ (⟨#[61]⟩ : ByteArray)) (i : Int) 0 b c d) (fun k => ?_) h
  simp only [toolchestlaw10_ModesSigns.j2]
  rw [e, if_pos (by omega), if_pos (by omega), if_pos (by omega), Int.toNat_natCast, Int.toNat_natCast, if_pos (by rw [hz]; omega), if_pos (by rw [ByteArray.size_append, hz]; omega)]
theorem l0_step (a b c : Int) (d : Bool) (n : Nat) (hn : n < 512) (ha : a % 512 = (n : Int)) (t : ByteArray) (ht : t.size ≤ 700) (i : Nat) (hi : i < 3) (r : Bool)
    (h : Ev (fun k => toolchestlaw10_ModesSigns.l0 k a (txtN n) (addT n i t) ((i + 1 : Nat) : Int) b c d) r) :
    Ev (fun k => toolchestlaw10_ModesSigns.l0 k a (txtN n) t (i : Int) b c d) r := by
  have hz := ext_size i hi
  by_cases h0 : 0 < i
  · have hs : (t ++ (⟨#[44]⟩ : ByteArray)).size = t.size + 1 := by rw [ByteArray.size_append]; rfl
    refine Ev.step (f := fun k => toolchestlaw10_ModesSigns.j2 k a (txtN n) (t ++ (⟨#[44]⟩ : ByteArray)) (i : Int) b c d) (fun k => ?_) (j2_step a b c d n _ (by rw [hs]; omega) i hi r (l1_all a b c d n hn ha _ (by rw [ByteArray.size_append, ByteArray.size_append, hs, hz]; show t.size + 1 + 1 + 1 ≤ 900; omega) i hi r ?_))
    · simp only [toolchestlaw10_ModesSigns.l0]
      rw [if_pos (by omega), if_pos (by omega), if_pos (by omega)]
    · unfold addT addH at h
      rw [if_pos h0] at h
      exact h
  · refine Ev.step (f := fun k => toolchestlaw10_ModesSigns.j2 k a (txtN n) t (i : Int) b c d) (fun k => ?_) (j2_step a b c d n _ (by omega) i hi r (l1_all a b c d n hn ha _ (by rw [ByteArray.size_append, ByteArray.size_append, hz]; show t.size + 1 + 1 ≤ 900; omega) i hi r ?_))
    · simp only [toolchestlaw10_ModesSigns.l0]
      rw [if_pos (by omega), if_neg (by omega)]
    · unfold addT addH at h
      rw [if_neg h0] at h
      exact h

def tup (x : S35) : Int × Int × Int × Int × Bool := (x.f0, x.f1, x.f2, x.f3, x.f4)
def untup (x : Int × Int × Int × Int × Bool) : S35 := ⟨x.1, x.2.1, x.2.2.1, x.2.2.2.1, x.2.2.2.2⟩
theorem tup_inj {l m : List S35} (h : l.map tup = m.map tup) : l = m := by
  have e : ∀ l : List S35, (l.map tup).map untup = l := fun l => by
    rw [List.map_map]
    exact (List.map_congr_left (fun _ _ => rfl)).trans (List.map_id l)
  rw [← e l, h, e m]
theorem sign_parse (n : Nat) (hn : n < 512) : parseOf (signText n) = (octAns (n : Int), 0) := by
  have : ∀ x : Fin 512, ((parseOf (signText x.1)).1.map tup = (octAns (x.1 : Int)).map tup) ∧ (parseOf (signText x.1)).2 = 0 := by decide +kernel
  have h := this ⟨n, hn⟩
  exact Prod.ext (tup_inj h.1) h.2
theorem signText_size (n : Nat) (hn : n < 512) : (addT n 0 ⟨#[]⟩).size ≤ 10 ∧ (addT n 1 (addT n 0 ⟨#[]⟩)).size ≤ 20 ∧ (signText n).size ≤ 30 := by
  have : ∀ x : Fin 512, (addT x.1 0 ⟨#[]⟩).size ≤ 10 ∧ (addT x.1 1 (addT x.1 0 ⟨#[]⟩)).size ≤ 20 ∧ (signText x.1).size ≤ 30 := by decide +kernel
  exact this ⟨n, hn⟩

theorem sign_by (n : Nat) (hn : n < 512) (a b : Int) (c : Bool) : Ev (fun k => toolchestlaw10_by.f k (signText n) a b c) (n : Int) := by
  unfold toolchestlaw10_by.f
  refine Ev.bind (parse_ev _ (by have := (signText_size n hn).2.2; omega)) ?_
  rw [sign_parse n hn]
  refine Ev.congr (f := fun _ => some (n : Int)) (fun k => ?_) (Ev.now _)
  rw [if_pos rfl, oct_apply_val n hn]
  rfl
theorem modesSigns_pure (a b c : Int) (d : Bool) : ∃ k, toolchestlaw10_ModesSigns.f k a b c d = some true := by
  refine Ev.rounds (g := fun k => toolchestlaw10_ModesSigns.f k a b c d) ?_
  obtain ⟨n, hn⟩ : ∃ n : Nat, a % 512 = (n : Int) := ⟨(a % 512).toNat, by omega⟩
  have hn1 : n < 512 := by omega
  have hand := i64_and511 a
  have hT : modes_Text.f 2 a = some (txtN n) := by unfold modes_Text.f; rw [txt_n a n hn]
  unfold toolchestlaw10_ModesSigns.f
  rw [hT]
  simp only [Option.bind_some]
  refine Ev.bind alive_ev ?_
  have e1 : ((txtN n).size : Int) = 10 := rfl
  have e2 : 0 < ((txtN n).size : Int) := by rw [e1]; decide
  have e3 : (bt (txtN n) 0 != 100) = false := by
    have : bt (txtN n) 0 = 100 := rfl
    rw [this]; rfl
  simp only [if_true, if_pos e1, if_pos e2, e3]
  have sz := signText_size n hn1
  refine Ev.step (f := fun k => toolchestlaw10_ModesSigns.l0 k a (txtN n) (⟨#[]⟩ : ByteArray) 0 b c d) (fun k => by simp only [toolchestlaw10_ModesSigns.j0]; rw [if_neg (by simp)]) ?_
  refine l0_step a b c d n hn1 hn ⟨#[]⟩ (by decide) 0 (by omega) true ?_
  refine l0_step a b c d n hn1 hn _ (by omega) 1 (by omega) true ?_
  refine l0_step a b c d n hn1 hn _ (by omega) 2 (by omega) true ?_
  refine Ev.step (f := fun k => (toolchestlaw10_by.f k (signText n) b c d).bind fun t => some (t == (Go.bits .and .i64 a 511))) (fun k => ?_) (Ev.bind (sign_by n hn1 b c d) ?_)
  · simp only [toolchestlaw10_ModesSigns.l0]
    rw [if_neg (by omega)]
    rfl
  · refine Ev.congr (f := fun _ => some true) (fun k => ?_) (Ev.now _)
    rw [hand, hn]
    simp
end Go.Proofs.YtajnkflopndejaaDoor.L
