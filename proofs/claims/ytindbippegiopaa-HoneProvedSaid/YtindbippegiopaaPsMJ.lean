/- The oracle of the runs, and calls at given numbers, run by the kernel. Conditions: none. -/
import Derived.Test.YtindbippegiopaaPsMX
import Derived.Test.YtindbippegiopaaPsMT
import Derived.Test.YtindbippegiopaaPsMF
namespace Go.Proofs.Ytindbippegiopaa
theorem mixed : Try.prog.follows .mixedOrders = true := by kernel_rfl
end Go.Proofs.Ytindbippegiopaa
