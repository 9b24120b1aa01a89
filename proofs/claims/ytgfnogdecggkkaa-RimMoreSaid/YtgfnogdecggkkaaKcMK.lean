/- Calls at given numbers, run by the kernel. Conditions: none. Written by knowns.py. -/
import Derived.Test.YtgfnogdecggkkaaKcMJ
namespace Go.Proofs.Ytgfnogdecggkkaa
open Go Go.AH
def run4 (a b c d e f g h : Int) : List Value := [.int .i64 a, .int .i64 b, .int .i64 c, .int .i64 d, .int .i64 e, .int .i64 f, .int .i64 g, .int .i64 h]
def s4 : Value := .slice (some ⟨1, 0, none⟩) 4 4
def knP : Known := ⟨28, [stn, s5], [pul], .tuple #[.slice (some ⟨1, 0, none⟩) 4 4, .int .i64 0], [.rw [.int .i64 3000, .int .i64 0, .int .i64 2709, .int .i64 2, .int .i64 2086, .int .i64 3, .int .i64 1809, .int .i64 4]]⟩
theorem knP_ok : KnownOk Try.prog knP := ⟨ev_run (orc := orc) tabOk orc_ok mixed (n := 200) (lo := 1) (by kernel_rfl), by kernel_rfl, by kernel_rfl⟩
def knX : Known := ⟨30, [stn, s5], [pul], .tuple #[.slice (some ⟨1, 0, none⟩) 4 4, .int .i64 0], [.rw [.int .i64 3000, .int .i64 2709, .int .i64 2086, .int .i64 1809]]⟩
theorem knX_ok : KnownOk Try.prog knX := ⟨ev_run (orc := orc) tabOk orc_ok mixed (n := 200) (lo := 1) (by kernel_rfl), by kernel_rfl, by kernel_rfl⟩
def knC1 : Known := ⟨26, [stn, s5, s4], [pul, run4 3000 0 2800 1 2100 3 1836 4], .int .i64 19, []⟩
theorem knC1_ok : KnownOk Try.prog knC1 := ⟨ev_run (orc := orc) tabOk orc_ok mixed (n := 200) (lo := 2) (by kernel_rfl), by kernel_rfl, by kernel_rfl⟩
def knC2 : Known := ⟨26, [stn, s5, s4], [pul, run4 3000 0 2800 1 2169 3 1836 4], .int .i64 0, []⟩
theorem knC2_ok : KnownOk Try.prog knC2 := ⟨ev_run (orc := orc) tabOk orc_ok mixed (n := 200) (lo := 2) (by kernel_rfl), by kernel_rfl, by kernel_rfl⟩
end Go.Proofs.Ytgfnogdecggkkaa
namespace Go.Proofs.Ytgfnogdecggkkaa
open Go Go.AH
def knV : Known := ⟨24, [stn, s5, s4], [pul, run4 3000 0 2709 2 2086 3 1809 4], .tuple #[.agg #[.int .i64 540000, .int .i64 709410], .int .i64 0], []⟩
theorem knV_ok : KnownOk Try.prog knV := ⟨ev_run (orc := orc) tabOk orc_ok mixed (n := 200) (lo := 2) (by kernel_rfl), by kernel_rfl, by kernel_rfl⟩
def knQ : Known := ⟨34, [stn, s5, .slice (some ⟨1, 0, none⟩) 3 3], [pul, [.int .i64 3000, .int .i64 2800, .int .i64 2000]], .int .i64 14, []⟩
theorem knQ_ok : KnownOk Try.prog knQ := ⟨ev_run (orc := orc) tabOk orc_ok mixed (n := 200) (lo := 2) (by kernel_rfl), by kernel_rfl, by kernel_rfl⟩
def knF1 : Known := ⟨36, [stn, s5, .int .i64 1], [pul], .tuple #[.int .i64 2710, .int .i64 0], []⟩
theorem knF1_ok : KnownOk Try.prog knF1 := ⟨ev_run (orc := orc) tabOk orc_ok mixed (n := 200) (lo := 1) (by kernel_rfl), by kernel_rfl, by kernel_rfl⟩
def knF2 : Known := ⟨36, [stn, s5, .int .i64 2], [pul], .tuple #[.int .i64 2087, .int .i64 0], []⟩
theorem knF2_ok : KnownOk Try.prog knF2 := ⟨ev_run (orc := orc) tabOk orc_ok mixed (n := 200) (lo := 1) (by kernel_rfl), by kernel_rfl, by kernel_rfl⟩
def knF4 : Known := ⟨36, [stn, s5, .int .i64 4], [pul], .tuple #[.int .i64 1500, .int .i64 0], []⟩
theorem knF4_ok : KnownOk Try.prog knF4 := ⟨ev_run (orc := orc) tabOk orc_ok mixed (n := 200) (lo := 1) (by kernel_rfl), by kernel_rfl, by kernel_rfl⟩
end Go.Proofs.Ytgfnogdecggkkaa
