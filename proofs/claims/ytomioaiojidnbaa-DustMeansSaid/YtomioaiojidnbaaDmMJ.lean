/- The oracle of the runs, and calls at given numbers, run by the kernel. Conditions: none. -/
import Derived.Test.YtomioaiojidnbaaDmMX
import Derived.Test.YtomioaiojidnbaaDmMT
import Derived.Test.YtomioaiojidnbaaDmMF
namespace Go.Proofs.Ytomioaiojidnbaa
theorem mixed:Try.prog.follows .mixedOrders=true:=by kernel_rfl
end Go.Proofs.Ytomioaiojidnbaa
