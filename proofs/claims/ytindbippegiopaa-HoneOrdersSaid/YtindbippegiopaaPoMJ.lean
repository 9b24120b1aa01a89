/- The oracle of the runs, and calls at given numbers, run by the kernel. Conditions: none. -/
import Derived.Test.YtindbippegiopaaPoMX
import Derived.Test.YtindbippegiopaaPoMT
import Derived.Test.YtindbippegiopaaPoMF
namespace Go.Proofs.Ytindbippegiopaa
theorem mixed : Try.prog.follows .mixedOrders = true := by kernel_rfl
end Go.Proofs.Ytindbippegiopaa
