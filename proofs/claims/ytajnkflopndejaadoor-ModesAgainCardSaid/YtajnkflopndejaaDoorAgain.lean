/- The plain law of ModesAgain. -/
import Derived.Test.YtajnkflopndejaaDoorBits
import Derived.Test.YtajnkflopndejaaDoorLx8
namespace Go.Proofs.YtajnkflopndejaaDoor.L
open Go.RowKit Go.Proofs.YtajnkflopndejaaDoorW.PrintWords Go.Proofs.YtajnkflopndejaaDoorW.PrintLast Go.Proofs.YtajnkflopndejaaDoorW.PrintMore

theorem copy_none (c : S35) (h0 : 0 ≤ c.f3) (h1 : c.f3 ≤ 255) (hu : c.f3 ≠ 117) (hg : c.f3 ≠ 103) (ho : c.f3 ≠ 111) : copyIx c < 0 := by
  unfold copyIx
  have : ∀ x : Fin 256, (x.1 : Int) ≠ 117 → (x.1 : Int) ≠ 103 → (x.1 : Int) ≠ 111 → Lib.indexByte (⟨#[111, 103, 117]⟩ : ByteArray).data.toList ((x.1 : Int)).toNat.toUInt8 < 0 := by decide +kernel
  have h := this ⟨c.f3.toNat, by omega⟩
  rw [show ((c.f3.toNat : Nat) : Int) = c.f3 by omega] at h
  exact h hu hg ho
theorem bits1_none (m : Int) (c : S35) (h : copyIx c < 0) : bits1 m c = Go.bits .and .i64 c.f2 7 := by
  unfold bits1
  rw [if_neg (by omega)]

/-- Nothing of a word's bits 0, 3, 6. -/
theorem x_pos (m : Int) : 0 < Go.bits .and .i64 m 73 ↔ Bv m &&& Bv 73 ≠ 0#64 := by
  have hr : 0 ≤ Go.bits .and .i64 m 73 ∧ Go.bits .and .i64 m 73 ≤ 511 := and_range m 73 (by omega) (by omega)
  have hb := Bv_and m 73
  constructor
  · intro h e
    rw [e] at hb
    have : Go.bits .and .i64 m 73 = 0 := Bv_inj hr.1 hr.2 (by omega) (by omega) (hb.trans rfl)
    omega
  · intro h
    by_cases e : Go.bits .and .i64 m 73 = 0
    · rw [e] at hb
      exact absurd hb.symm h
    · omega
theorem thr_odd (b : Int) (h0 : 0 ≤ b) (h1 : b ≤ 7) : (Go.bits .or .i64 b 1 = b) ∨ Bv (thr3 7 b) &&& Bv 73 = 0#64 := by
  have : ∀ x : Fin 8, (Go.bits .or .i64 (x.1 : Int) 1 = (x.1 : Int)) ∨ Bv (thr3 7 (x.1 : Int)) &&& Bv 73 = 0#64 := by decide +kernel
  have h := this ⟨b.toNat, by omega⟩
  rwa [show ((b.toNat : Nat) : Int) = b by omega] at h
theorem thr_or (b : Int) (h0 : 0 ≤ b) (h1 : b ≤ 7) : Bv (thr3 7 (Go.bits .or .i64 b 1)) = Bv (thr3 7 b) ||| Bv 73 := by
  have : ∀ x : Fin 8, Bv (thr3 7 (Go.bits .or .i64 (x.1 : Int) 1)) = Bv (thr3 7 (x.1 : Int)) ||| Bv 73 := by decide +kernel
  have h := this ⟨b.toNat, by omega⟩
  rwa [show ((b.toNat : Nat) : Int) = b by omega] at h

/-- A change done to rows of bits. -/
def opv (op : Nat) (A T : BitVec 64) : BitVec 64 := if op = 37 then A ||| T else if op = 38 then A &&& ~~~ T else T
def stv (op : Nat) (A M T : BitVec 64) : BitVec 64 := (A &&& ~~~ M) ||| (opv op A T &&& M)
theorem opf_bv (op : Nat) (a b : Int) : Bv (opf op a b) = opv op (Bv a) (Bv b) := by
  unfold opf opv
  split
  · exact Bv_or a b
  · split
    · exact Bv_andNot a b
    · rfl
def stI (op : Nat) (m M T : Int) : Int := Go.bits .or .i64 (Go.bits .andNot .i64 m M) (Go.bits .and .i64 (opf op m T) M)
theorem stI_bv (op : Nat) (m M T : Int) : Bv (stI op m M T) = stv op (Bv m) (Bv M) (Bv T) := by
  unfold stI stv
  rw [Bv_or, Bv_andNot, Bv_and, opf_bv]

theorem stv_same (op : Nat) (A M T : BitVec 64) : stv op (stv op A M T) M T = stv op A M T := by
  unfold stv opv
  split
  · apply BitVec.eq_of_getLsbD_eq
    intro i hi
    simp only [BitVec.getLsbD_and, BitVec.getLsbD_or, BitVec.getLsbD_not, hi, decide_true, Bool.true_and]
    cases A.getLsbD i <;> cases M.getLsbD i <;> cases T.getLsbD i <;> rfl
  · split
    · apply BitVec.eq_of_getLsbD_eq
      intro i hi
      simp only [BitVec.getLsbD_and, BitVec.getLsbD_or, BitVec.getLsbD_not, hi, decide_true, Bool.true_and]
      cases A.getLsbD i <;> cases M.getLsbD i <;> cases T.getLsbD i <;> rfl
    · apply BitVec.eq_of_getLsbD_eq
      intro i hi
      simp only [BitVec.getLsbD_and, BitVec.getLsbD_or, BitVec.getLsbD_not, hi, decide_true, Bool.true_and]
      cases A.getLsbD i <;> cases M.getLsbD i <;> cases T.getLsbD i <;> rfl
/-- X was told of, and no longer is. -/
theorem stv_off (op : Nat) (A M T S : BitVec 64) (h : stv op A M (T ||| S) &&& S = 0#64) : stv op (stv op A M (T ||| S)) M T = stv op A M (T ||| S) := by
  unfold stv opv at h ⊢
  split at h
  · rename_i e
    simp only [if_pos e]
    apply BitVec.eq_of_getLsbD_eq
    intro i hi
    have g := congrArg (fun x : BitVec 64 => x.getLsbD i) h
    simp only [BitVec.getLsbD_and, BitVec.getLsbD_or, BitVec.getLsbD_not, hi, decide_true, Bool.true_and, BitVec.getLsbD_zero] at g ⊢
    revert g
    cases A.getLsbD i <;> cases M.getLsbD i <;> cases T.getLsbD i <;> cases S.getLsbD i <;> decide
  · rename_i e
    split at h
    · rename_i e'
      simp only [if_neg e, if_pos e']
      apply BitVec.eq_of_getLsbD_eq
      intro i hi
      have g := congrArg (fun x : BitVec 64 => x.getLsbD i) h
      simp only [BitVec.getLsbD_and, BitVec.getLsbD_or, BitVec.getLsbD_not, hi, decide_true, Bool.true_and, BitVec.getLsbD_zero] at g ⊢
      revert g
      cases A.getLsbD i <;> cases M.getLsbD i <;> cases T.getLsbD i <;> cases S.getLsbD i <;> decide
    · rename_i e'
      simp only [if_neg e, if_neg e']
      apply BitVec.eq_of_getLsbD_eq
      intro i hi
      have g := congrArg (fun x : BitVec 64 => x.getLsbD i) h
      simp only [BitVec.getLsbD_and, BitVec.getLsbD_or, BitVec.getLsbD_not, hi, decide_true, Bool.true_and, BitVec.getLsbD_zero] at g ⊢
      revert g
      cases A.getLsbD i <;> cases M.getLsbD i <;> cases T.getLsbD i <;> cases S.getLsbD i <;> decide
/-- X is told of only now: that cannot be. -/
theorem stv_on (op : Nat) (A M T S : BitVec 64) (hA : A &&& S = 0#64) (hT : T &&& S = 0#64) : stv op A M T &&& S = 0#64 := by
  unfold stv opv
  split
  · apply BitVec.eq_of_getLsbD_eq
    intro i hi
    have g := congrArg (fun x : BitVec 64 => x.getLsbD i) hA
    have g' := congrArg (fun x : BitVec 64 => x.getLsbD i) hT
    simp only [BitVec.getLsbD_and, BitVec.getLsbD_or, BitVec.getLsbD_not, hi, decide_true, Bool.true_and, BitVec.getLsbD_zero] at g g' ⊢
    revert g g'
    cases A.getLsbD i <;> cases M.getLsbD i <;> cases T.getLsbD i <;> cases S.getLsbD i <;> decide
  · split
    · apply BitVec.eq_of_getLsbD_eq
      intro i hi
      have g := congrArg (fun x : BitVec 64 => x.getLsbD i) hA
      have g' := congrArg (fun x : BitVec 64 => x.getLsbD i) hT
      simp only [BitVec.getLsbD_and, BitVec.getLsbD_or, BitVec.getLsbD_not, hi, decide_true, Bool.true_and, BitVec.getLsbD_zero] at g g' ⊢
      revert g g'
      cases A.getLsbD i <;> cases M.getLsbD i <;> cases T.getLsbD i <;> cases S.getLsbD i <;> decide
    · apply BitVec.eq_of_getLsbD_eq
      intro i hi
      have g := congrArg (fun x : BitVec 64 => x.getLsbD i) hA
      have g' := congrArg (fun x : BitVec 64 => x.getLsbD i) hT
      simp only [BitVec.getLsbD_and, BitVec.getLsbD_or, BitVec.getLsbD_not, hi, decide_true, Bool.true_and, BitVec.getLsbD_zero] at g g' ⊢
      revert g g'
      cases A.getLsbD i <;> cases M.getLsbD i <;> cases T.getLsbD i <;> cases S.getLsbD i <;> decide

theorem stI_eq (op : Nat) (m M T m' T' : Int) (h : Bv (stI op m M T) = Bv (stI op m' M T')) : stI op m M T = stI op m' M T' := by
  unfold stI at h ⊢
  rw [Bv_or, Bv_or] at h
  exact or_eq _ _ _ _ h

theorem step_twice (mask : Int) (dir : Bool) (m : Int) (c : S35) (hc : copyIx c < 0) : stepCh mask dir (stepCh mask dir m c) c = stepCh mask dir m c := by
  unfold stepCh
  cases opTab c.f1 with
  | none => rfl
  | some op =>
    show stI op (stI op m (may2 mask c) (thr3 7 (bits2 dir m c))) (may2 mask c) (thr3 7 (bits2 dir (stI op m (may2 mask c) (thr3 7 (bits2 dir m c))) c)) = stI op m (may2 mask c) (thr3 7 (bits2 dir m c))
    apply stI_eq
    rw [stI_bv, stI_bv]
    generalize may2 mask c = M
    have hb0 := i64_and7 c.f2
    have e1 : ∀ x, bits2 dir x c = if c.f4 = true ∧ (dir = true ∨ 0 < Go.bits .and .i64 x 73) then Go.bits .or .i64 (Go.bits .and .i64 c.f2 7) 1 else Go.bits .and .i64 c.f2 7 := fun x => by unfold bits2; rw [bits1_none x c hc]
    rw [e1, e1]
    obtain ⟨b, hb⟩ : ∃ b, Go.bits .and .i64 c.f2 7 = b := ⟨_, rfl⟩
    rw [hb] at hb0 ⊢
    have r0 : 0 ≤ b := by omega
    have r1 : b ≤ 7 := by omega
    clear hb hb0 e1
    by_cases hX : c.f4 = true
    · by_cases hd : dir = true
      · rw [if_pos ⟨hX, .inl hd⟩, if_pos ⟨hX, .inl hd⟩]
        exact stv_same _ _ _ _
      · by_cases h1 : 0 < Go.bits .and .i64 m 73
        · rw [if_pos ⟨hX, .inr h1⟩]
          by_cases h2 : 0 < Go.bits .and .i64 (stI op m M (thr3 7 (Go.bits .or .i64 b 1))) 73
          · rw [if_pos ⟨hX, .inr h2⟩]
            exact stv_same _ _ _ _
          · rw [if_neg (fun h => h.2.elim hd h2), thr_or b r0 r1]
            refine stv_off _ _ _ _ _ ?_
            rw [x_pos, stI_bv, thr_or b r0 r1] at h2
            exact Decidable.of_not_not h2
        · rw [if_neg (fun h => h.2.elim hd h1)]
          rcases thr_odd b r0 r1 with ho | he
          · rw [ho, ite_self]
            exact stv_same _ _ _ _
          · have h2 : ¬ 0 < Go.bits .and .i64 (stI op m M (thr3 7 b)) 73 := by
              rw [x_pos] at h1 ⊢
              rw [stI_bv]
              exact fun h => h (stv_on _ _ _ _ _ (Decidable.of_not_not h1) he)
            rw [if_neg (fun h => h.2.elim hd h2)]
            exact stv_same _ _ _ _
    · rw [if_neg (fun h => hX h.1), if_neg (fun h => hX h.1)]
      exact stv_same _ _ _ _

def dbl (l : List S35) : List S35 := l.flatMap fun c => [c, c]
theorem dbl_len : ∀ l : List S35, (dbl l).length = 2 * l.length
  | [] => rfl
  | c :: l => by
    have := dbl_len l
    simp only [dbl, List.flatMap_cons, List.length_append, List.length_cons, List.length_nil] at this ⊢
    omega
theorem dbl_fold (mask : Int) (dir : Bool) : ∀ (l : List S35) (m : Int), (∀ c ∈ l, copyIx c < 0) → (dbl l).foldl (stepCh mask dir) m = l.foldl (stepCh mask dir) m
  | [], _, _ => rfl
  | c :: l, m, h => by
    show (dbl l).foldl (stepCh mask dir) (stepCh mask dir (stepCh mask dir m c) c) = l.foldl (stepCh mask dir) (stepCh mask dir m c)
    rw [step_twice mask dir m c (h c (by simp))]
    exact dbl_fold mask dir l _ fun x hx => h x (by simp [hx])
theorem dbl_mem (l : List S35) (c : S35) (h : c ∈ dbl l) : c ∈ l := by
  unfold dbl at h
  rw [List.mem_flatMap] at h
  obtain ⟨x, hx, hc⟩ := h
  have : c = x := by simpa using hc
  rw [this]
  exact hx
theorem rd35 (l : List S35) (i : Nat) (h : i < l.length) : rd_T35 l (i : Int) = l[i] := by
  unfold rd_T35
  rw [Int.toNat_natCast, List.getD_eq_getElem?_getD, List.getElem?_eq_getElem h]
  rfl

theorem again_loop (l : List S35) (a b : Int) (dir : Bool) (hl : l.length ≤ 5000) (hok : ∀ c ∈ l, okCh c = true) (h3 : ∀ c ∈ l, 0 ≤ c.f3 ∧ c.f3 ≤ 255) (d : Nat) : ∀ i : Nat, i ≤ l.length → l.length - i = d → (∀ c ∈ l.take i, copyIx c < 0) →
    Ev (fun k => toolchestlaw10_ModesAgain.l0 k l (dbl (l.take i)) (i : Int) a b dir) true := by
  induction d with
  | zero =>
    intro i hi hd hc
    obtain rfl : i = l.length := by omega
    refine Ev.step (f := fun _ => some true) (fun k => ?_) (Ev.now true)
    simp only [toolchestlaw10_ModesAgain.l0]
    rw [if_neg (by omega), List.take_length]
    rw [List.take_length] at hc
    rw [apply_val l a b dir (by omega) hok]
    simp only [Option.bind_some]
    rw [apply_val (dbl l) a b dir (by rw [dbl_len]; omega) (fun c h => hok c (dbl_mem l c h)), dbl_fold b dir l _ hc]
    simp
  | succ d ih =>
    intro i hi hd hc
    have hlt : i < l.length := by omega
    have hm : l[i] ∈ l := List.getElem_mem hlt
    by_cases hcp : l[i].f3 = 117 ∨ l[i].f3 = 103 ∨ l[i].f3 = 111
    · refine Ev.step (f := fun _ => some true) (fun k => ?_) (Ev.now true)
      simp only [toolchestlaw10_ModesAgain.l0]
      rw [if_pos (by omega), if_pos (by omega), rd35 l i hlt]
      rcases hcp with h | h | h <;> simp [h]
    · have n1 : ¬ l[i].f3 = 117 := fun h => hcp (.inl h)
      have n2 : ¬ l[i].f3 = 103 := fun h => hcp (.inr (.inl h))
      have n3 : ¬ l[i].f3 = 111 := fun h => hcp (.inr (.inr h))
      have hts : l.take (i + 1) = l.take i ++ [l[i]] := List.take_succ_eq_append_getElem hlt
      refine Ev.step (f := fun k => toolchestlaw10_ModesAgain.l0 k l (dbl (l.take (i + 1))) ((i + 1 : Nat) : Int) a b dir) (fun k => ?_) (ih (i + 1) (by omega) (by omega) (fun c h => ?_))
      · simp only [toolchestlaw10_ModesAgain.l0]
        rw [if_pos (by omega), if_pos (by omega), rd35 l i hlt, if_neg n1, if_neg n2, if_neg n3]
        simp only [Option.bind_some]
        have e : dbl (l.take (i + 1)) = dbl (l.take i) ++ [l[i], l[i]] := by
          rw [hts]
          unfold dbl
          rw [List.flatMap_append]
          rfl
        rw [if_pos (by rw [dbl_len, List.length_take]; simp only [List.length_cons, List.length_nil]; omega), e]
        rw [show wrap64 ((i : Int) + 1) = ((i + 1 : Nat) : Int) by unfold wrap64; omega]
      · rw [hts] at h
        rcases List.mem_append.1 h with h | h
        · exact hc c h
        · rw [List.mem_singleton.1 h]
          exact copy_none _ (h3 _ hm).1 (h3 _ hm).2 n1 n2 n3

theorem modesAgain_pure (l : List S35) (a b : Int) (dir : Bool) (hok : ∀ c ∈ l, okCh c = true) (h3 : ∀ c ∈ l, 0 ≤ c.f3 ∧ c.f3 ≤ 255) : ∃ k, toolchestlaw10_ModesAgain.f k l a b dir = some true := by
  refine Ev.rounds (g := fun k => toolchestlaw10_ModesAgain.f k l a b dir) ?_
  unfold toolchestlaw10_ModesAgain.f
  refine Ev.bind alive_ev ?_
  simp only [if_true]
  by_cases hl : (l.length : Int) > 5000
  · rw [decide_eq_true hl]
    refine Ev.step (f := fun k => (toolchestlaw10_alive.f k).bind fun t => some t) (fun k => by simp only [toolchestlaw10_ModesAgain.j0]; rw [if_pos trivial]) ?_
    exact Ev.bind alive_ev (Ev.now true)
  · rw [decide_eq_false hl]
    refine Ev.step (f := fun k => toolchestlaw10_ModesAgain.l0 k l [] 0 a b dir) (fun k => by simp only [toolchestlaw10_ModesAgain.j0]; rw [if_neg (by simp)]) ?_
    have h := again_loop l a b dir (by omega) hok h3 l.length 0 (by omega) (by omega) (by simp)
    exact h
end Go.Proofs.YtajnkflopndejaaDoor.L
