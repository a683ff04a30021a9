/- The plain law of ModesBack. -/
import Derived.Test.YtajnkflopndejaaDoorOcts
import Derived.Test.YtajnkflopndejaaDoorLx6
namespace Go.Proofs.YtajnkflopndejaaDoor.L
open Go.RowKit Go.Proofs.YtajnkflopndejaaDoorW.PrintWords Go.Proofs.YtajnkflopndejaaDoorW.PrintLast Go.Proofs.YtajnkflopndejaaDoorW.PrintMore

theorem oct_read (n : Nat) (hn : n < 512) : readOf (octStr n) = ((n : Int), true) := by
  have : ∀ x : Fin 512, readOf (octStr x.1) = ((x.1 : Int), true) := by decide +kernel
  exact this ⟨n, hn⟩
theorem oct_read0 (n : Nat) (hn : n < 512) : readOf ((⟨#[48]⟩ : ByteArray) ++ octStr n) = ((n : Int), true) := by
  have : ∀ x : Fin 512, readOf ((⟨#[48]⟩ : ByteArray) ++ octStr x.1) = ((x.1 : Int), true) := by decide +kernel
  exact this ⟨n, hn⟩
theorem by_ev (n : Nat) (hn : n < 512) (s : ByteArray) (hs : s.size ≤ 4096) (hp : parseOf s = (octAns (n : Int), 0)) (a b : Int) (c : Bool) : Ev (fun k => toolchestlaw10_by.f k s a b c) (n : Int) := by
  unfold toolchestlaw10_by.f
  refine Ev.bind (parse_ev s hs) ?_
  rw [hp]
  refine Ev.congr (f := fun _ => some (n : Int)) (fun k => ?_) (Ev.now _)
  rw [if_pos rfl, oct_apply_val n hn]
  rfl
theorem modesBack_pure (a0 a b : Int) (c : Bool) : ∃ k, toolchestlaw10_ModesBack.f k a0 a b c = some true := by
  refine Ev.rounds (g := fun k => toolchestlaw10_ModesBack.f k a0 a b c) ?_
  obtain ⟨n, hn⟩ : ∃ n : Nat, (a0 % 512).toNat = n := ⟨_, rfl⟩
  have hn1 : n < 512 := by omega
  have hand := i64_and511 a0
  have hsz : (octStr n).size = 3 := rfl
  have hr := oct_read n hn1
  have hr0 := oct_read0 n hn1
  have hz0 : ((⟨#[48]⟩ : ByteArray) ++ octStr n).size = 4 := by rw [ByteArray.size_append, hsz]; rfl
  have hp : parseOf (octStr n) = (octAns (n : Int), 0) := by
    unfold parseOf
    rw [hr]
    rfl
  unfold toolchestlaw10_ModesBack.f
  have hO : modes_Octal.f a0 = some (octStr n) := by unfold modes_Octal.f; rw [hn]
  rw [hO]
  simp only [Option.bind_some]
  rw [read_val (octStr n) (by omega), hr]
  simp only [Option.bind_some]
  have g1 : 1 + (octStr n).size ≤ 9223372036854775807 := by omega
  have hv0 : modes_Read.f ((⟨#[48]⟩ : ByteArray) ++ octStr n) = some ((n : Int), true) := by rw [read_val _ (by omega), hr0]
  simp only [if_pos g1, hv0, Option.bind_some]
  refine Ev.bind alive_ev ?_
  have e1 : ((octStr n).size : Int) = 3 := by omega
  have e2 : (n : Int) = Go.bits .and .i64 a0 511 := by omega
  simp only [if_true, if_pos e1, if_pos e2]
  refine Ev.bind (by_ev n hn1 (octStr n) (by omega) hp a b c) ?_
  refine Ev.congr (f := fun _ => some true) (fun k => ?_) (Ev.now _)
  simp
end Go.Proofs.YtajnkflopndejaaDoor.L
