/- Lemmas. No conditions. -/
import Derived.Test.YtajpgeklmcjciaaGreatPyMX
import Derived.Test.YtajpgeklmcjciaaGreatPyM7
import Derived.Test.YtajpgeklmcjciaaGreatPyMT
import Derived.Test.YtajpgeklmcjciaaGreatPyMF
namespace Go.Proofs.YtajpgeklmcjciaaGreat
theorem mixed:Tryz.prog.follows .mixedOrders=true:=by kernel_rfl
end Go.Proofs.YtajpgeklmcjciaaGreat
