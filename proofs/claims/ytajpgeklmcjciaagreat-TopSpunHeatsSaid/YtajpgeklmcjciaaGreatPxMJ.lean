/- The oracle of the runs, and calls at given numbers, run by the kernel. Conditions: none. -/
import Derived.Test.YtajpgeklmcjciaaGreatPxMX
import Derived.Test.YtajpgeklmcjciaaGreatPxM7
import Derived.Test.YtajpgeklmcjciaaGreatPxMT
import Derived.Test.YtajpgeklmcjciaaGreatPxMF
namespace Go.Proofs.YtajpgeklmcjciaaGreat
theorem mixed:Tryz.prog.follows .mixedOrders=true:=by kernel_rfl
end Go.Proofs.YtajpgeklmcjciaaGreat
