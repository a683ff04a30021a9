/- The plain law of ModesOne. -/
import Derived.Test.YtajnkflopndejaaDoorPlain
import Derived.Test.YtajnkflopndejaaDoorLx10
namespace Go.Proofs.YtajnkflopndejaaDoor.L
open Go.RowKit Go.Proofs.YtajnkflopndejaaDoorW.PrintWords Go.Proofs.YtajnkflopndejaaDoorW.PrintLast Go.Proofs.YtajnkflopndejaaDoorW.PrintMore

theorem one_true (l0 l1 : List S35) (a b : Int) (c : Bool) : Ev (fun k => toolchestlaw10_ModesOne.j0 k l0 l1 true a b c) true := by
  refine Ev.step (f := fun k => (toolchestlaw10_alive.f k).bind fun t => some t) (fun k => by simp only [toolchestlaw10_ModesOne.j0]; rw [if_pos trivial]) ?_
  exact Ev.bind alive_ev (Ev.now true)

theorem one_false (l0 l1 : List S35) (a b : Int) (c : Bool) (h : l0.length + l1.length ≤ 1048576) (h0 : ∀ x ∈ l0, okCh x = true) (h1 : ∀ x ∈ l1, okCh x = true) : Ev (fun k => toolchestlaw10_ModesOne.j0 k l0 l1 false a b c) true := by
  refine Ev.step (f := fun _ => some true) (fun k => ?_) (Ev.now true)
  simp only [toolchestlaw10_ModesOne.j0]
  rw [if_neg (by simp), if_pos (by simp; omega)]
  simp only [Option.bind_some, List.nil_append]
  rw [if_pos (by omega)]
  have hr := i64_and511 a
  have f0 := fold_range b c l0 (Go.bits .and .i64 a 511) (by omega) (by omega)
  have f1 := fold_range b c l1 _ f0.1 f0.2
  rw [apply_val l0 a b c (by omega) h0]
  simp only [Option.bind_some]
  rw [apply_val l1 _ b c (by omega) h1, and511_id _ f0.1 f0.2]
  simp only [Option.bind_some]
  rw [apply_val (l0 ++ l1) a b c (by simp; omega) (fun x hx => (List.mem_append.1 hx).elim (h0 x) (h1 x)), List.foldl_append]
  simp only [Option.bind_some, if_true]
  rw [if_pos (by omega), decide_eq_true f1.2]

theorem modesOne_pure (l0 l1 : List S35) (a b : Int) (c : Bool) (n0 : l0.length ≤ 8796093022208) (n1 : l1.length ≤ 8796093022208) (h0 : ∀ x ∈ l0, okCh x = true) (h1 : ∀ x ∈ l1, okCh x = true) :
    ∃ k, toolchestlaw10_ModesOne.f k l0 l1 a b c = some true := by
  refine Ev.rounds (g := fun k => toolchestlaw10_ModesOne.f k l0 l1 a b c) ?_
  unfold toolchestlaw10_ModesOne.f
  refine Ev.bind alive_ev ?_
  simp only [if_true]
  obtain ⟨t, e, r⟩ := beyond_ev (l0.length : Int) (l1.length : Int) (by omega) (by omega) (by omega) (by omega)
  refine Ev.bind e ?_
  cases t with
  | true => exact one_true l0 l1 a b c
  | false => exact one_false l0 l1 a b c (by have := r rfl; omega) h0 h1
end Go.Proofs.YtajnkflopndejaaDoor.L
