/- What the printed texts take as given: the contracts of Parse, Swap, Drop, Squeeze, Rest, alive. -/
import Derived.Test.YtndmngijfleilaaDoorAlive
namespace Go.Proofs.YtndmngijfleilaaDoor.L
theorem alive_f : toolchestlaw04_alive.f = some true := rfl
end Go.Proofs.YtndmngijfleilaaDoor.L
