/- The own function of RimStones, and how arguments of a law are read. Conditions: stand in each theorem. -/
import Derived.Test.YtgfnogdecggkkaaKeMN
import Derived.Test.YtgfnogdecggkkaaKeML
namespace Go.Proofs.Ytgfnogdecggkkaa
open Go Go.AH
attribute [local irreducible] WOps WCode WFree retQ thenQ blockQ OpOk ACall RetRef roundA roundB
set_option maxRecDepth 100000
set_option maxHeartbeats 1000000
theorem many_ok (l : List Int) (c : Nat) (hN : l.length ≤ 9223372036854775807) : Ev Try.prog 16 [.slice (some ⟨0, 0, none⟩) l.length c] [.ro (ints l)] (.bool (decide ((l.length : Int) > 20))) [.ro (ints l)] := by
  refine acall_intro 1 6 Try.func16 rfl rfl rfl rfl rfl ?_
  repeat' (first | (refine gU ?_; first | (refine gMove ?_; first | refine st (ok_move rfl) rfl rfl ?_) | (refine gAssign ?_; first | refine st (ok_assign rfl) rfl rfl ?_) | (refine gBin ?_; first | refine st (ok_bin rfl rfl rfl) rfl rfl ?_) | (refine gLen ?_; first | refine st (ok_len rfl) rfl rfl ?_ | refine st (ok_lenV rfl) rfl rfl ?_)) | refine W_seq ?_ | refine W_region ?_ | refine st_nil ?_ | refine tq_n ?_ | refine tq_r ?_ | refine tq_e ?_ | refine bq_n ?_ | refine bq_r ?_ | refine bq_hit rfl ?_ | refine bq_miss rfl ?_ | refine W_skip ?_ | refine W_exit ?_ | refine W_ret ?_ | refine W_block ?_ | refine W_condTA rfl ?_ | refine W_condFA rfl ?_ | (refine W_condD rfl ?_ ?_ <;> intro _) | (refine W_cond rfl ?_ ?_ <;> intro _))
  refine ret0 (.tmp rfl .nil) (.plain rfl rfl) ⟨rfl, rfl⟩
theorem many_ev {σ : Heap} {l : List Int} {x c : Nat} (hx : arrAt σ x (ints l)) (hN : l.length ≤ 9223372036854775807) (hni : σ.all (fun o => !isIter o) = true) :
    Ev Try.prog 16 [.slice (some ⟨x, 0, none⟩) l.length c] σ (.bool (decide ((l.length : Int) > 20))) σ :=
  Ev.arrs [ints l] [x] (many_ok l c hN) ⟨hx, trivial⟩ ⟨by simpa [bsR] using VQ.slice (q := true) (n := 1) (ρ := bsR [x]) 0 0 l.length c c (Nat.le_refl _) (by omega), trivial⟩ (by simp [ints_plain]) rfl hni
theorem works_ev {σ : Heap} (hni : σ.all (fun o => !isIter o) = true) : Ev Try.prog 17 [] σ (.bool true) σ := Ev.nil knW_ok.1 rfl rfl hni
end Go.Proofs.Ytgfnogdecggkkaa
