/- The oracle of the runs, and calls at given numbers, run by the kernel. Conditions: none. -/
import Derived.Test.YtomioaiojidnbaaDbMX
import Derived.Test.YtomioaiojidnbaaDbMT
import Derived.Test.YtomioaiojidnbaaDbMF
namespace Go.Proofs.Ytomioaiojidnbaa
theorem mixed : Try.prog.follows .mixedOrders = true := by kernel_rfl
end Go.Proofs.Ytomioaiojidnbaa
