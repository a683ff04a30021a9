/- (Plan).fill: the walk: a block is filled up with noughts. -/
import Derived.Test.YtomnpmfmlbmpeaaDoorTurn
namespace Go.Proofs.YtomnpmfmlbmpeaaDoor.L
open Go.RowKit Go.Proofs.YtomnpmfmlbmpeaaDoorW.PrintWords

/-- What fill makes of a block. -/
def filled (sy : Bool) (i : Int) (xs : List Int) : List Int := if sy = true then xs ++ List.replicate (i.toNat - xs.length) 0 else xs
theorem zeros_u8 (m : Nat) : (Builtin.zeroCells (Value.int .u8 0).cells m).toList = nums .u8 (List.replicate m 0) := by
  have : ∀ m : Nat, (Builtin.zeroCells (Value.int .u8 0).cells m).toList = List.replicate m (.int .u8 0) := by
    intro m
    apply List.ext_getElem?
    intro j
    by_cases h : j < m <;> simp [Builtin.zeroCells, Value.cells, h, Nat.mod_one]
  rw [this, nums, List.map_replicate]

theorem wp_append_run {o : Oper} {ops : Array Oper} {Q : Exit → Act → World → Prop} {rest : List Oper} {a : Act} {W : World} (hgd : o.guard = none) (s x : Operand) (ho : o.op = .call { callee := .builtin .append, args := #[s, x], argTypes := #[42, 3] }) (hty : o.type = 42) (v : Value) (m : Int) (hs : a.eval s = v) (hx : a.eval x = .int .i64 m)
    (v1 : Value) (w1 : World) (hr : (Builtin.append_ #[42, 3] 42 #[v, .int .i64 m]).run Tryd.prog W = .ok v1 w1) (h : wpList Tryd.prog ops Q rest (a.put o.dst v1) w1) : wpList Tryd.prog ops Q (o :: rest) a W := by
  refine wpList_plain hgd fun K hK => ?_
  unfold Oper.wp execOp
  simp only [ho, hty, resolve, invoke, builtin, Sem.run_bind, Sem.run_pure, Result.andThen_ok, List.map_toArray, List.map_cons, List.map_nil, hs, hx, hr]
  exact hK _ _ h

set_option maxHeartbeats 4000000 in
set_option maxRecDepth 100000 in
theorem fill_walk (p : Pl) (base g n c : Nat) (xs : List Int) (w : World) (hown : OwnZ w base (.slice (some ⟨g, 0, none⟩) n c) n xs) (hni : (n : Int) ≤ p.i) (hi : p.i ≤ 65536) (hb : base ≤ w.heap.size) :
    Calls Tryd.prog 25 #[.agg p.cells, .slice (some ⟨g, 0, none⟩) n c] w fun e w' => ∃ v, e = .returned v ∧ OwnZ w' base v (filled p.sy p.i xs).length (filled p.sy p.i xs) ∧ w.grownBy w' (some g) ∧ (v.ownBlock = some g ∨ ∃ b, v.ownBlock = some b ∧ w.heap.size ≤ b) := by
  obtain ⟨i, o, sk, ct, se, kp, sw, up, lo, sy⟩ := p
  simp only [Pl.cells]
  replace hni : (n : Int) ≤ i := hni
  replace hi : i ≤ 65536 := hi
  have hlen : xs.length = n := by exact hown.1
  obtain ⟨CS, hCS⟩ : ∃ CS : Array Value, CS = #[.int .i64 i, .int .i64 o, .int .i64 sk, .int .i64 ct, .int .i64 se, .bool kp, .bool sw, .bool up, .bool lo, .bool sy] := ⟨_, rfl⟩
  have hO := OwnZ.below hown (below_alloc (Below.refl _ w) (.cells CS 26))
  have hG := World.grownBy_alloc w (.cells CS 26) (some g)
  cases sy with
  | false =>
    rw [hCS] at hO hG
    have HO := Lib.hid hO
    have HG := Lib.hid hG
    have HL := Lib.hid hlen
    clear hO hG hown hni hi hlen hCS hb
    go_enter Tryd.func25, Tryd.ntmps25
    go_wp2
    go_ret
    refine ⟨_, rfl, ?_, HG.out, .inl rfl⟩
    show OwnZ _ base _ xs.length _
    rw [HL.out]
    exact HO.out
  | true =>
    obtain ⟨m, hm⟩ : ∃ m : Nat, m = (i - n).toNat := ⟨_, rfl⟩
    have hinf : ∃ ti, Tryd.prog.info? 5 = some ti ∧ ti.zero = some (.int .u8 0) ∧ ti.size = 1 ∧ ti.bytes = 1 := by
      cases h : Tryd.prog.info? 5 with
      | none =>
        have : (Tryd.prog.info? 5).isSome = true := by kernel_rfl
        rw [h] at this
        cases this
      | some ti =>
        have e : (Tryd.prog.info? 5).map (fun i => (i.zero, i.size, i.bytes)) = some (some (.int .u8 0), 1, 1) := by kernel_rfl
        rw [h] at e
        have e2 := Option.some.inj e
        exact ⟨ti, rfl, congrArg (·.1) e2, congrArg (·.2.1) e2, congrArg (·.2.2) e2⟩
    obtain ⟨ti, t1, t2, t3, t4⟩ := hinf
    obtain ⟨v', w', hrun, ho', hg', hat⟩ := run_append_zerosZ (w.alloc (.cells CS 26)) base ti t1 t2 t3 t4 _ n _ hO m (by omega) (by rw [World.size_alloc]; omega) (by rw [zeros_u8]; intro u hu; obtain ⟨_, _, rfl⟩ := List.mem_map.1 hu; rfl) (zeros_u8 m)
    have hfi : xs ++ List.replicate m 0 = filled true i xs := by
      unfold filled
      rw [if_pos rfl, hm, hlen]
      congr 2
      omega
    have hfl : n + m = (filled true i xs).length := by rw [← hfi, List.length_append, List.length_replicate, hlen]
    rw [hfi, hfl] at ho'
    have hmI : i - (n : Int) = (m : Int) := by omega
    rw [hCS] at hG hrun
    have HO := Lib.hid ho'
    have HG := Lib.hid (hG.trans (show (w.alloc (.cells _ 26)).grownBy w' (some g) from hCS ▸ hg'))
    have HAT := Lib.hid hat
    have HRUN := Lib.hid hrun
    clear hrun
    clear hO hG hown hni hlen hCS hb ho' hg' hat hfi hfl t1 t2 t3 t4 hm
    have hw1 : IntKind.i64.wrap (i - (n : Int)) = (m : Int) := by rw [IntKind.wrap_i64]; omega
    go_enter Tryd.func25, Tryd.ntmps25
    go_wp2_with (first
      | (refine wp_append_run rfl (.tmp 7) (.tmp 12) rfl rfl _ _ rfl rfl v' w' (by first | exact HRUN.out | (rw [hmI]; exact HRUN.out)) ?_))
    go_ret
    refine ⟨_, rfl, HO.out, HG.out, ?_⟩
    rcases HAT.out with e | e
    · exact .inl e
    · exact .inr ⟨_, e, by rw [World.size_alloc]; omega⟩
end Go.Proofs.YtomnpmfmlbmpeaaDoor.L
