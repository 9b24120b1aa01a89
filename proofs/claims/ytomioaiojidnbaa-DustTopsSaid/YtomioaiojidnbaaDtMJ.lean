/- The oracle of the runs, and calls at given numbers, run by the kernel. Conditions: none. -/
import Derived.Test.YtomioaiojidnbaaDtMX
import Derived.Test.YtomioaiojidnbaaDtMT
import Derived.Test.YtomioaiojidnbaaDtMF
namespace Go.Proofs.Ytomioaiojidnbaa
theorem mixed:Try.prog.follows .mixedOrders=true:=by kernel_rfl
end Go.Proofs.Ytomioaiojidnbaa
