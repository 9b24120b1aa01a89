/- Calls at given numbers, run by the kernel. Conditions: none. Written by knowns.py. -/
import Derived.Test.YtgfnogdecggkkaaKcMK
namespace Go.Proofs.Ytgfnogdecggkkaa
open Go Go.AH
def knK : Known := ⟨38, [stn, s5], [pul], .tuple #[.slice (some ⟨1, 0, none⟩) 5 5, .int .i64 0], [.rw [.int .i64 2, .int .i64 1, .int .i64 1, .int .i64 2, .int .i64 2]]⟩
theorem knK_ok : KnownOk Try.prog knK := ⟨ev_run (orc := orc) tabOk orc_ok mixed (n := 200) (lo := 1) (by kernel_rfl), by kernel_rfl, by kernel_rfl⟩
end Go.Proofs.Ytgfnogdecggkkaa
namespace Go.Proofs.Ytgfnogdecggkkaa
open Go Go.AH
def ksW : List Known := [knA0, knA1, knA2, knA3, knA4, knG1, knG2, knP, knX, knC1, knC2, knV, knQ, knF1, knF2, knF4, knK]
theorem ksW_ok : ∀ k ∈ ksW, KnownOk Try.prog k := by intro k hk; simp only [ksW, List.mem_cons, List.not_mem_nil, or_false] at hk; rcases hk with rfl | rfl | rfl | rfl | rfl | rfl | rfl | rfl | rfl | rfl | rfl | rfl | rfl | rfl | rfl | rfl | rfl <;> first | exact knA0_ok | exact knA1_ok | exact knA2_ok | exact knA3_ok | exact knA4_ok | exact knG1_ok | exact knG2_ok | exact knP_ok | exact knX_ok | exact knC1_ok | exact knC2_ok | exact knV_ok | exact knQ_ok | exact knF1_ok | exact knF2_ok | exact knF4_ok | exact knK_ok
def knW : Known := ⟨17, [], [], .bool true, []⟩
theorem knW_ok : KnownOk Try.prog knW := ⟨ev_run (orc := orcOr orc (knowns ksW)) tabOk (orcOr_ok orc_ok (knowns_ok ksW_ok)) mixed (n := 200) (lo := 0) (by kernel_rfl), by kernel_rfl, by kernel_rfl⟩
end Go.Proofs.Ytgfnogdecggkkaa
