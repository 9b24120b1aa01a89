/- Gaps, plans, points, plainly: the plan that is returned is best. Conditions: stand in each theorem. -/
import Derived.Test.YtgfnogdecggkkaaKeMV
import Derived.Test.YtgfnogdecggkkaaKeMS
import Derived.Test.YtgfnogdecggkkaaKeMO
import Derived.Test.YtgfnogdecggkkaaKeN6
import Derived.Test.YtgfnogdecggkkaaKeN3
namespace Go.Proofs.Ytgfnogdecggkkaa
open Go Go.AH
attribute [local irreducible] WOps WCode WFree retQ thenQ blockQ OpOk ACall RetRef roundA roundB
set_option maxRecDepth 100000
set_option maxHeartbeats 1000000
def fineB (s : St) (l : List Int) : Bool := decide (¬ (l.length : Int) > 20) && decide (checkS s l = 0)
theorem fine_ok (s : St) (l : List Int) (c : Nat) (hN : l.length ≤ 9223372036854775807) : Ev Try.prog 41 [s.val, .slice (some ⟨0, 0, none⟩) l.length c] [.ro (ints l)] (.bool (decide (checkS s l = 0))) [.ro (ints l)] := by
  have h20 : (l.length : Int) > 20 → checkS s l ≠ 0 := fun h => by
    unfold checkS; rw [if_pos (by omega)]; decide
  by_cases hm : (l.length : Int) > 20
  · have h0 := h20 hm
    refine acall_intro 1 14 Try.func41 rfl rfl rfl rfl rfl ?_
    repeat' (first | (refine gU ?_; first | (refine gMove ?_; first | refine st (ok_move rfl) rfl rfl ?_) | (refine gAssign ?_; first | refine st (ok_assign rfl) rfl rfl ?_) | (refine gLoad ?_; first | refine st (ok_load rfl (by first | rfl | assumption)) rfl rfl ?_ | refine st (ok_loadA rfl (by first | rfl | assumption)) rfl rfl ?_) | (refine gBin ?_; first | refine st (ok_bin rfl rfl rfl) rfl rfl ?_ | refine st (ok_eq2 rfl rfl) rfl rfl ?_) | (refine gPick ?_; first | refine st (ok_pickTA rfl rfl) rfl rfl ?_ | refine st (ok_pickFA rfl rfl) rfl rfl ?_) | (refine gNot ?_; first | refine st (ok_notD rfl) rfl rfl ?_ | refine st (ok_not' rfl) rfl rfl ?_) | (refine gCall ?_; first | refine st (ok_call rfl rfl rfl (by first | exact many_ev (by first | exact .inl rfl | exact .inr (.inl rfl) | exact .inr (.inr ⟨_, rfl⟩) | assumption) (by assumption) rfl | exact refCheckStone_ev (by first | exact .inl rfl | exact .inr (.inl rfl) | exact .inr (.inr ⟨_, rfl⟩) | assumption) rfl)) rfl rfl ?_) | (refine gBox ?_; first | refine st (ok_box rfl) rfl rfl ?_)) | (refine gG ?_; first | (refine gMove ?_; first | refine stGA rfl (ok_move rfl) rfl rfl ?_) | (refine gLoad ?_; first | refine stGA rfl (ok_load rfl (by first | rfl | assumption)) rfl rfl ?_ | refine stGA rfl (ok_loadA rfl (by first | rfl | assumption)) rfl rfl ?_) | (refine gBin ?_; first | refine stGA rfl (ok_bin rfl rfl rfl) rfl rfl ?_ | refine stGA rfl (ok_eq2 rfl rfl) rfl rfl ?_) | (refine gCall ?_; first | refine stGA rfl (ok_call rfl rfl rfl (by first | exact many_ev (by first | exact .inl rfl | exact .inr (.inl rfl) | exact .inr (.inr ⟨_, rfl⟩) | assumption) (by assumption) rfl | exact refCheckStone_ev (by first | exact .inl rfl | exact .inr (.inl rfl) | exact .inr (.inr ⟨_, rfl⟩) | assumption) rfl)) rfl rfl ?_) | refine stSU rfl rfl ?_ | refine stSA rfl rfl ?_ | ((fail_if_success (refine stGkA rfl ?_)); first | (refine stGdD rfl ?_ ?_ <;> intro _) | (refine stGd rfl ?_ ?_ <;> intro _))) | refine W_seq ?_ | refine W_region ?_ | refine st_nil ?_ | refine tq_n ?_ | refine tq_r ?_ | refine tq_e ?_ | refine bq_n ?_ | refine bq_r ?_ | refine bq_hit rfl ?_ | refine bq_miss rfl ?_ | refine W_skip ?_ | refine W_exit ?_ | refine W_ret ?_ | refine W_block ?_ | refine W_condTA rfl ?_ | refine W_condFA rfl ?_ | (refine W_condD rfl ?_ ?_ <;> intro _) | (refine W_cond rfl ?_ ?_ <;> intro _))
    refine ret0 (.tmp rfl .nil) (.plain rfl rfl) ⟨?_, rfl⟩
    rw [decide_eq_false h0]; rfl
  · refine acall_intro 1 14 Try.func41 rfl rfl rfl rfl rfl ?_
    repeat' (first | (refine gU ?_; first | (refine gMove ?_; first | refine st (ok_move rfl) rfl rfl ?_) | (refine gAssign ?_; first | refine st (ok_assign rfl) rfl rfl ?_) | (refine gLoad ?_; first | refine st (ok_load rfl (by first | rfl | assumption)) rfl rfl ?_ | refine st (ok_loadA rfl (by first | rfl | assumption)) rfl rfl ?_) | (refine gBin ?_; first | refine st (ok_bin rfl rfl rfl) rfl rfl ?_ | refine st (ok_eq2 rfl rfl) rfl rfl ?_) | (refine gPick ?_; first | refine st (ok_pickTA rfl rfl) rfl rfl ?_ | refine st (ok_pickFA rfl rfl) rfl rfl ?_) | (refine gNot ?_; first | refine st (ok_notD rfl) rfl rfl ?_ | refine st (ok_not' rfl) rfl rfl ?_) | (refine gCall ?_; first | refine st (ok_call rfl rfl rfl (by first | exact many_ev (by first | exact .inl rfl | exact .inr (.inl rfl) | exact .inr (.inr ⟨_, rfl⟩) | assumption) (by assumption) rfl | exact refCheckStone_ev (by first | exact .inl rfl | exact .inr (.inl rfl) | exact .inr (.inr ⟨_, rfl⟩) | assumption) rfl)) rfl rfl ?_) | (refine gBox ?_; first | refine st (ok_box rfl) rfl rfl ?_)) | (refine gG ?_; first | (refine gMove ?_; first | refine stGA rfl (ok_move rfl) rfl rfl ?_) | (refine gLoad ?_; first | refine stGA rfl (ok_load rfl (by first | rfl | assumption)) rfl rfl ?_ | refine stGA rfl (ok_loadA rfl (by first | rfl | assumption)) rfl rfl ?_) | (refine gBin ?_; first | refine stGA rfl (ok_bin rfl rfl rfl) rfl rfl ?_ | refine stGA rfl (ok_eq2 rfl rfl) rfl rfl ?_) | (refine gCall ?_; first | refine stGA rfl (ok_call rfl rfl rfl (by first | exact many_ev (by first | exact .inl rfl | exact .inr (.inl rfl) | exact .inr (.inr ⟨_, rfl⟩) | assumption) (by assumption) rfl | exact refCheckStone_ev (by first | exact .inl rfl | exact .inr (.inl rfl) | exact .inr (.inr ⟨_, rfl⟩) | assumption) rfl)) rfl rfl ?_) | refine stSU rfl rfl ?_ | refine stSA rfl rfl ?_ | ((fail_if_success (refine stGkA rfl ?_)); first | (refine stGdD rfl ?_ ?_ <;> intro _) | (refine stGd rfl ?_ ?_ <;> intro _))) | refine W_seq ?_ | refine W_region ?_ | refine st_nil ?_ | refine tq_n ?_ | refine tq_r ?_ | refine tq_e ?_ | refine bq_n ?_ | refine bq_r ?_ | refine bq_hit rfl ?_ | refine bq_miss rfl ?_ | refine W_skip ?_ | refine W_exit ?_ | refine W_ret ?_ | refine W_block ?_ | refine W_condTA rfl ?_ | refine W_condFA rfl ?_ | (refine W_condD rfl ?_ ?_ <;> intro _) | (refine W_cond rfl ?_ ?_ <;> intro _))
    exact ret0 (.tmp rfl .nil) (.plain rfl rfl) ⟨rfl, rfl⟩
theorem fine_ev {σ : Heap} {s : St} {l : List Int} {x c : Nat} (hx : arrAt σ x (ints l)) (hN : l.length ≤ 9223372036854775807) (hni : σ.all (fun o => !isIter o) = true) :
    Ev Try.prog 41 [s.val, .slice (some ⟨x, 0, none⟩) l.length c] σ (.bool (decide (checkS s l = 0))) σ :=
  Ev.arrs [ints l] [x] (fine_ok s l c hN) ⟨hx, trivial⟩ ⟨vrel_plain _ rfl, by simpa [bsR] using VQ.slice (q := true) (n := 1) (ρ := bsR [x]) 0 0 l.length c c (Nat.le_refl _) (by omega), trivial⟩ (by simp [ints_plain]) rfl hni
theorem grd_full {F : Nat → Int × Int} {n : Nat} {to : Int} : ∀ (k : Nat) (x : Int), x < to + k → (∀ y, to ≤ y → y ≤ x → ∃ i < n, (F i).1 ≤ y ∧ y ≤ (F i).2) → (grd F n to k x).2 < to
  | 0, x, hk, _ => by simp only [grd]; omega
  | k + 1, x, hk, h => by
    simp only [grd]
    by_cases hx : x < to
    · rw [if_pos (.inl hx)]; exact hx
    · rcases bestF_is F x n with ⟨h1, h2⟩ | ⟨b, hb, h1, h2, h3, h4⟩
      · obtain ⟨i, hi, hc⟩ := h x (by omega) (Int.le_refl _)
        exact absurd hc (h2 i hi)
      · rw [h1, if_neg (by omega), Int.toNat_natCast]
        exact grd_full k _ (by omega) fun y hy1 hy2 => h y hy1 (by omega)
theorem full_grd {F : Nat → Int × Int} {n : Nat} {to : Int} : ∀ (k : Nat) (x : Int), (grd F n to k x).2 < to → ∀ y, to ≤ y → y ≤ x → ∃ i < n, (F i).1 ≤ y ∧ y ≤ (F i).2
  | 0, x, h, y, hy1, hy2 => by simp only [grd] at h; omega
  | k + 1, x, h, y, hy1, hy2 => by
    simp only [grd] at h
    rcases bestF_is F x n with ⟨h1, h2⟩ | ⟨b, hb, h1, h2, h3, h4⟩
    · rw [if_pos (.inr (by omega))] at h; simp only at h; omega
    · by_cases hx : x < to
      · omega
      · rw [h1, if_neg (by omega), Int.toNat_natCast] at h
        by_cases hlo : (F b).1 ≤ y
        · exact ⟨b, hb, hlo, by omega⟩
        · exact full_grd k _ h y hy1 (by omega)
theorem cov_sp {s : St} {l : List Int} {y : Int} : Cov (spanAt s l) l.length y ↔ ∃ i < l.length, (sp s l i).1 ≤ y ∧ y ≤ (sp s l i).2 := by
  constructor
  · rintro ⟨i, hi, hc⟩; exact ⟨i, hi, by rw [← at_hold hi hc]; exact hc⟩
  · rintro ⟨i, hi, hc⟩; exact ⟨i, hi, by rw [sp_hold hi hc]; exact hc⟩
theorem gap_none {s : St} {l : List Int} (h : checkS s l = 0) (hg : gapS (spanAt s l) l.length s.short s.long < 0) : planE s l = 0 ∧ ∀ y, s.short ≤ y → y ≤ s.long → Cov (spanAt s l) l.length y := by
  obtain ⟨_, _, hs, _⟩ := checkS_zero h
  have hs1 : 1 ≤ s.short := by unfold badStone at hs; omega
  have hs2 : s.short ≤ s.long := by unfold badStone at hs; omega
  rcases gapS_is (f := spanAt s l) (n := l.length) hs2 with ⟨_, hc⟩ | ⟨h1, _⟩
  · refine ⟨?_, hc⟩
    unfold planE
    rw [if_neg (by omega), if_pos]
    exact grd_full _ _ (by omega) fun y h1 h2 => cov_sp.1 (hc y h1 h2)
  · omega
theorem gap_some {s : St} {l : List Int} (h : checkS s l = 0) (hg : ¬ gapS (spanAt s l) l.length s.short s.long < 0) :
    planE s l = 19 ∧ s.short ≤ gapS (spanAt s l) l.length s.short s.long ∧ gapS (spanAt s l) l.length s.short s.long ≤ s.long ∧ ¬ Cov (spanAt s l) l.length (gapS (spanAt s l) l.length s.short s.long) ∧ ∀ y, gapS (spanAt s l) l.length s.short s.long < y → y ≤ s.long → Cov (spanAt s l) l.length y := by
  obtain ⟨_, _, hs, _⟩ := checkS_zero h
  have hs1 : 1 ≤ s.short := by unfold badStone at hs; omega
  have hs2 : s.short ≤ s.long := by unfold badStone at hs; omega
  rcases gapS_is (f := spanAt s l) (n := l.length) hs2 with ⟨h1, _⟩ | ⟨h1, h2, h3, h4⟩
  · omega
  · refine ⟨?_, h1, h2, h3, h4⟩
    unfold planE
    rw [if_neg (by omega), if_neg]
    exact fun hp => h3 (cov_sp.2 (full_grd _ _ hp _ h1 h2))
theorem run_at {s : St} {l : List Int} {pl : List (Int × Int)} (h : checkP s l pl = 0) {y : Int} (h1 : s.short ≤ y) (h2 : y ≤ s.long) : ∃ i < pl.length, endS s.short pl i ≤ y ∧ y ≤ (gp pl i).1 := by
  have hrun : checkS s l = 0 ∧ 1 ≤ pl.length ∧ pl.length ≤ 20 ∧ (∀ j < pl.length, ¬ badRun s l pl j) := by
    unfold checkP at h
    split at h
    · rename_i hc; exact absurd h hc
    · split at h
      · cases h
      · split at h
        · cases h
        · rename_i g1 g2 g3
          exact ⟨by omega, by omega, by omega, someB_none g3⟩
  obtain ⟨g1, g2, g3, g4⟩ := hrun
  have step : ∀ k, k < pl.length → y ≤ (gp pl k).1 ∨ ∃ i < pl.length, endS s.short pl i ≤ y ∧ y ≤ (gp pl i).1 := by
    intro k
    induction k with
    | zero =>
      intro hk
      have := g4 0 hk
      unfold badRun at this
      exact .inl (by omega)
    | succ k ih =>
      intro hk
      rcases ih (by omega) with h3 | h3
      · by_cases he : endS s.short pl k ≤ y
        · exact .inr ⟨k, by omega, he, h3⟩
        · refine .inl ?_
          unfold endS at he
          rw [if_pos hk] at he
          omega
      · exact .inr h3
  rcases step (pl.length - 1) (by omega) with h3 | h3
  · refine ⟨pl.length - 1, by omega, ?_, h3⟩
    unfold endS
    rw [if_neg (by omega)]; exact h1
  · exact h3
theorem plan_cov {s : St} {l : List Int} {pl : List (Int × Int)} (h : checkP s l pl = 0) {y : Int} (h1 : s.short ≤ y) (h2 : y ≤ s.long) : Cov (spanAt s l) l.length y := by
  obtain ⟨i, hi, he, hf⟩ := run_at h h1 h2
  unfold checkP at h
  split at h
  · rename_i hc; exact absurd h hc
  · split at h
    · cases h
    · split at h
      · cases h
      · split at h
        · cases h
        · rename_i g1 g2 g3 g4
          have hb := runs_in (someB_none g3) i hi
          have hq := someB_none g4 i hi
          unfold badFast inP at hq
          exact ⟨(gp pl i).2.toNat, by omega, by omega, by omega⟩
end Go.Proofs.Ytgfnogdecggkkaa
namespace Go.Proofs.Ytgfnogdecggkkaa
open Go Go.AH
attribute [local irreducible] WOps WCode WFree retQ thenQ blockQ OpOk ACall RetRef roundA roundB
set_option maxRecDepth 100000
set_option maxHeartbeats 1000000
theorem best_lo {F : Nat → Int × Int} {n : Nat} {x : Int} (h : ¬ bestF F x n < 0) : (bestF F x n).toNat < n ∧ (F (bestF F x n).toNat).1 ≤ x ∧ x ≤ (F (bestF F x n).toNat).2 ∧ ∀ i < n, (F i).1 ≤ x → x ≤ (F i).2 → (F (bestF F x n).toNat).1 ≤ (F i).1 := by
  rcases bestF_is F x n with ⟨h1, _⟩ | ⟨b, hb, h1, h2, h3, h4⟩
  · omega
  · rw [h1, Int.toNat_natCast]
    exact ⟨hb, h2, h3, fun i hi g1 g2 => (h4 i hi g1 g2).1⟩
theorem grd_in {F : Nat → Int × Int} {n : Nat} {to : Int} : ∀ (k : Nat) (x : Int) (m : Nat), m < (grd F n to k x).1.length → to ≤ (gp (grd F n to k x).1 m).1
  | 0, x, m, h => by simp [grd] at h
  | k + 1, x, m, h => by
    simp only [grd] at h ⊢
    by_cases hs : x < to ∨ bestF F x n < 0
    · rw [if_pos hs] at h; simp at h
    · rw [if_neg hs] at h ⊢
      cases m with
      | zero => show to ≤ x; omega
      | succ m => exact grd_in k _ m (by simpa using h)
end Go.Proofs.Ytgfnogdecggkkaa
namespace Go.Proofs.Ytgfnogdecggkkaa
open Go Go.AH
attribute [local irreducible] WOps WCode WFree retQ thenQ blockQ OpOk ACall RetRef roundA roundB
set_option maxRecDepth 100000
set_option maxHeartbeats 1000000
theorem grd_runs {F : Nat → Int × Int} {n : Nat} {to : Int} : ∀ (k : Nat) (x : Int) (i : Nat), i < (grd F n to k x).1.length →
    (gp (grd F n to k x).1 i).2 = bestF F (gp (grd F n to k x).1 i).1 n ∧ 0 ≤ (gp (grd F n to k x).1 i).2 ∧ (i = 0 → (gp (grd F n to k x).1 i).1 = x) ∧
    (i + 1 < (grd F n to k x).1.length → (gp (grd F n to k x).1 (i + 1)).1 = (F (gp (grd F n to k x).1 i).2.toNat).1 - 1) ∧ (i + 1 = (grd F n to k x).1.length → (grd F n to k x).2 = (F (gp (grd F n to k x).1 i).2.toNat).1 - 1)
  | 0, x, i, h => by simp [grd] at h
  | k + 1, x, i, h => by
    by_cases hs : x < to ∨ bestF F x n < 0
    · rw [grd_stop hs] at h; simp at h
    · have e1 : grd F n to (k + 1) x = ((x, bestF F x n) :: (grd F n to k ((F (bestF F x n).toNat).1 - 1)).1, (grd F n to k ((F (bestF F x n).toNat).1 - 1)).2) := by simp only [grd]; rw [if_neg hs]
      rw [e1] at h ⊢
      have ih := grd_runs (F := F) (n := n) (to := to) k ((F (bestF F x n).toNat).1 - 1)
      generalize hG : grd F n to k ((F (bestF F x n).toNat).1 - 1) = G at h ih ⊢
      cases i with
      | zero =>
        refine ⟨rfl, by show 0 ≤ bestF F x n; omega, fun _ => rfl, fun h1 => ?_, fun h1 => ?_⟩
        · exact (ih 0 (by simpa using h1)).2.2.1 rfl
        · have h0 : G.1 = [] := List.eq_nil_of_length_eq_zero (by simpa using h1.symm)
          show G.2 = (F (bestF F x n).toNat).1 - 1
          cases k with
          | zero => rw [← hG]; rfl
          | succ k =>
            by_cases hs2 : ((F (bestF F x n).toNat).1 - 1) < to ∨ bestF F ((F (bestF F x n).toNat).1 - 1) n < 0
            · rw [grd_stop hs2] at hG; rw [← hG]
            · simp only [grd] at hG; rw [if_neg hs2] at hG; rw [← hG] at h0; simp at h0
      | succ i =>
        have hi : i < G.1.length := by simpa using h
        obtain ⟨g1, g2, g3, g4, g5⟩ := ih i hi
        exact ⟨g1, g2, fun h0 => by omega, fun h1 => g4 (by simpa using h1), fun h1 => g5 (by simpa using h1)⟩
structure IsBest (s : St) (l : List Int) (R : List (Int × Int)) : Prop where
  pos : 1 ≤ R.length
  first : (gp R 0).1 = s.long
  best : ∀ i < R.length, (gp R i).2 = bestF (sp s l) (gp R i).1 l.length ∧ 0 ≤ (gp R i).2
  next : ∀ i, i + 1 < R.length → (gp R (i + 1)).1 = (sp s l (gp R i).2.toNat).1 - 1
  last : ∀ i, i + 1 = R.length → (sp s l (gp R i).2.toNat).1 ≤ s.short
  low : ∀ i < R.length, s.short ≤ (gp R i).1
theorem planR_best {s : St} {l : List Int} (h : checkS s l = 0) (hp : planE s l = 0) : IsBest s l (planR s l) := by
  have hpos := planR_pos hp
  unfold planE at hp
  rw [if_neg (by omega)] at hp
  by_cases hlt : (planS (sp s l) l.length s.long s.short).2 < s.short
  · have hR : planR s l = (planS (sp s l) l.length s.long s.short).1 := by
      unfold planR planIf; rw [if_neg (by omega), if_pos hlt]
    rw [hR] at hpos ⊢
    unfold planS at hlt hpos ⊢
    have hr := grd_runs (F := sp s l) (n := l.length) (to := s.short) (s.long - s.short + 1).toNat s.long
    have hin := grd_in (F := sp s l) (n := l.length) (to := s.short) (s.long - s.short + 1).toNat s.long
    generalize grd (sp s l) l.length s.short (s.long - s.short + 1).toNat s.long = G at hlt hpos hr hin ⊢
    exact ⟨hpos, (hr 0 (by omega)).2.2.1 rfl, fun i hi => ⟨(hr i hi).1, (hr i hi).2.1⟩, fun i hi => (hr i (by omega)).2.2.2.1 hi, fun i hi => by have := (hr i (by omega)).2.2.2.2 hi; omega, hin⟩
  · rw [if_neg hlt] at hp; cases hp
section
variable {s : St} {l : List Int} {R : List (Int × Int)}
theorem IsBest.at (h : IsBest s l R) {i : Nat} (hi : i < R.length) : (gp R i).2.toNat < l.length ∧ (sp s l (gp R i).2.toNat).1 ≤ (gp R i).1 ∧ (gp R i).1 ≤ (sp s l (gp R i).2.toNat).2 ∧ ∀ k < l.length, (sp s l k).1 ≤ (gp R i).1 → (gp R i).1 ≤ (sp s l k).2 → (sp s l (gp R i).2.toNat).1 ≤ (sp s l k).1 := by
  obtain ⟨h1, h2⟩ := h.best i hi
  have h3 := best_lo (F := sp s l) (n := l.length) (x := (gp R i).1) (by omega)
  rw [← h1] at h3
  exact h3
theorem IsBest.down (h : IsBest s l R) {i : Nat} (hi : i + 1 < R.length) : (gp R (i + 1)).1 < (gp R i).1 := by
  have h1 := h.next i hi
  have h2 := h.at (i := i) (by omega)
  omega
theorem IsBest.le_long (h : IsBest s l R) : ∀ i < R.length, (gp R i).1 ≤ s.long
  | 0, hi => by rw [h.first]; exact Int.le_refl _
  | i + 1, hi => by
    have := IsBest.le_long h i (by omega)
    have := h.down hi
    omega
def cntLo (F : Nat → Int × Int) (x : Int) : Nat → Nat
  | 0 => 0
  | n + 1 => cntLo F x n + if (F n).1 ≤ x then 1 else 0
theorem cntLo_le (F : Nat → Int × Int) (x : Int) : ∀ n, cntLo F x n ≤ n
  | 0 => Nat.le_refl _
  | n + 1 => by have := cntLo_le F x n; simp only [cntLo]; split <;> omega
theorem cntLo_mono {F : Nat → Int × Int} {x y : Int} (h : x ≤ y) : ∀ n, cntLo F x n ≤ cntLo F y n
  | 0 => Nat.le_refl _
  | n + 1 => by have := cntLo_mono (F := F) h n; simp only [cntLo]; split <;> split <;> omega
theorem cntLo_lt {F : Nat → Int × Int} {x y : Int} (h : x ≤ y) : ∀ n, (∃ b < n, (F b).1 ≤ y ∧ ¬ (F b).1 ≤ x) → cntLo F x n < cntLo F y n
  | 0, ⟨b, hb, _⟩ => by omega
  | n + 1, ⟨b, hb, h1, h2⟩ => by
    simp only [cntLo]
    by_cases hbn : b = n
    · subst hbn
      have := cntLo_mono (F := F) h b
      rw [if_neg h2, if_pos h1]; omega
    · have := cntLo_lt h n ⟨b, by omega, h1, h2⟩
      split <;> split <;> omega
theorem IsBest.cnt (h : IsBest s l R) : ∀ i < R.length, cntLo (sp s l) (gp R i).1 l.length + i ≤ l.length
  | 0, _ => by have := cntLo_le (sp s l) (gp R 0).1 l.length; omega
  | i + 1, hi => by
    have ih := IsBest.cnt h i (by omega)
    have h1 := h.next i hi
    have h2 := h.at (i := i) (by omega)
    have := cntLo_lt (F := sp s l) (x := (gp R (i + 1)).1) (y := (gp R i).1) (by omega) l.length ⟨_, h2.1, h2.2.1, by omega⟩
    omega
theorem cntLo_pos {F : Nat → Int × Int} {x : Int} : ∀ n, (∃ b < n, (F b).1 ≤ x) → 1 ≤ cntLo F x n
  | 0, ⟨b, hb, _⟩ => by omega
  | n + 1, ⟨b, hb, h1⟩ => by
    simp only [cntLo]
    by_cases hbn : b = n
    · subst hbn; rw [if_pos h1]; omega
    · have := cntLo_pos n ⟨b, by omega, h1⟩; omega
theorem IsBest.len (h : IsBest s l R) : R.length ≤ l.length := by
  have hp := h.pos
  have h1 := h.cnt (R.length - 1) (by omega)
  have h2 := h.at (i := R.length - 1) (by omega)
  have h3 := cntLo_pos (F := sp s l) (x := (gp R (R.length - 1)).1) l.length ⟨_, h2.1, h2.2.1⟩
  omega
theorem IsBest.right (h : IsBest s l R) (hc : checkS s l = 0) : checkP s l R = 0 := by
  obtain ⟨h12, hl1, hs, ht⟩ := checkS_zero hc
  have hs1 : 1 ≤ s.short := by unfold badStone at hs; omega
  have hlen := h.len
  have hpos := h.pos
  have hrun : ∀ j < R.length, ¬ badRun s l R j := fun j hj => by
    have h1 := h.at hj
    have h2 := h.low j hj
    have h3 := h.best j hj
    unfold badRun
    rintro (⟨rfl, hx⟩ | ⟨h0, hx⟩ | hx | hx | hx)
    · exact hx h.first
    · have := h.down (i := j - 1) (by omega)
      rw [show j - 1 + 1 = j from by omega] at this
      omega
    · omega
    · omega
    · omega
  have hfast : ∀ j < R.length, ¬ badFast s l R j := fun j hj hb => by
    have h1 := h.at hj
    have h2 := h.low j hj
    have e : spanAt s l (gp R j).2.toNat = sp s l (gp R j).2.toNat := sp_hold h1.1 ⟨h1.2.1, h1.2.2.1⟩
    have hen : (sp s l (gp R j).2.toNat).1 ≤ endS s.short R j ∧ endS s.short R j ≤ (gp R j).1 := by
      unfold endS
      split
      · rename_i hj1
        have := h.next j hj1
        have := h.down hj1
        omega
      · have := h.last j (by omega)
        omega
    unfold badFast inP at hb
    rw [e] at hb
    omega
  unfold checkP
  rw [if_neg (by omega), if_neg (by omega), if_neg (by rw [someB_false hrun]; simp), if_neg (by rw [someB_false hfast]; simp)]
theorem ptsL_gi (R : List (Int × Int)) : ∀ (n i : Nat), i < n → gi (ptsL R n) i = (gp R i).1
  | 0, i, h => by omega
  | n + 1, i, h => by
    have hl := ptsL_len R n
    simp only [ptsL]
    by_cases hi : i < n
    · rw [show gi (ptsL R n ++ [(gp R n).1]) i = gi (ptsL R n) i from by simp only [gi, List.getD_eq_getElem?_getD]; rw [List.getElem?_append_left (by omega)]]
      exact ptsL_gi R n i hi
    · obtain rfl : i = n := by omega
      simp only [gi, List.getD_eq_getElem?_getD]
      rw [List.getElem?_append_right (by omega), hl, Nat.sub_self]; rfl
theorem IsBest.points (h : IsBest s l R) (hc : checkS s l = 0) : checkQ s l (ptsL R R.length) = 0 := by
  obtain ⟨h12, hl1, hs, ht⟩ := checkS_zero hc
  have hs1 : 1 ≤ s.short := by unfold badStone at hs; omega
  have hlen := h.len
  have hl := ptsL_len R R.length
  have hg := ptsL_gi R R.length
  have hpt : ∀ j < (ptsL R R.length).length, ¬ badPt s (ptsL R R.length) j := fun j hj => by
    rw [hl] at hj
    have h1 := h.le_long j hj
    have h2 := h.low j hj
    unfold badPt
    rw [hg j hj]
    rintro (hx | hx | ⟨h0, hx⟩)
    · omega
    · omega
    · rw [hg (j - 1) (by omega)] at hx
      have := h.down (i := j - 1) (by omega)
      rw [show j - 1 + 1 = j from by omega] at this
      omega
  have hm : ∀ j < (ptsL R R.length).length, ¬ meets s l (ptsL R R.length) j := fun j hj ⟨h0, hb⟩ => by
    rw [hl] at hj
    obtain ⟨k, hk, hb⟩ := someB_some hb
    rw [hg j hj, hg (j - 1) (by omega)] at hb
    unfold both at hb
    have e : spanAt s l k = sp s l k := at_hold hk hb.1
    rw [e] at hb
    have h1 := (h.at (i := j - 1) (by omega)).2.2.2 k hk hb.1.1 hb.1.2
    have h2 := h.next (j - 1) (by omega)
    rw [show j - 1 + 1 = j from by omega] at h2
    omega
  unfold checkQ
  rw [if_neg (by omega), if_neg (by omega), if_neg (by rw [someB_false hpt]; simp), if_neg (by rw [someB_false hm]; simp)]
end
theorem checkP_parts {s : St} {l : List Int} {pl : List (Int × Int)} (h : checkP s l pl = 0) : checkS s l = 0 ∧ 1 ≤ pl.length ∧ pl.length ≤ 20 ∧ (∀ j < pl.length, ¬ badRun s l pl j) ∧ ∀ j < pl.length, ¬ badFast s l pl j := by
  unfold checkP at h
  split at h
  · rename_i hc; exact absurd h hc
  · split at h
    · cases h
    · split at h
      · cases h
      · split at h
        · cases h
        · rename_i h1 h2 h3 h4
          exact ⟨by omega, by omega, by omega, someB_none h3, someB_none h4⟩
theorem IsBest.late {s : St} {l : List Int} {R pl : List (Int × Int)} (h : IsBest s l R) (hp : checkP s l pl = 0) : ∀ i, i < R.length → i < pl.length → (gp R i).1 ≤ (gp pl i).1
  | 0, h1, h2 => by
    obtain ⟨c1, c2, c3, c4, c5⟩ := checkP_parts hp
    have := c4 0 h2
    unfold badRun at this
    have := h.first
    omega
  | i + 1, h1, h2 => by
    obtain ⟨c1, c2, c3, c4, c5⟩ := checkP_parts hp
    have ih := IsBest.late h hp i (by omega) (by omega)
    have hn := h.next i h1
    have ha := h.at (i := i) (by omega)
    have hb := runs_in c4 i (by omega)
    have hf := c5 i (by omega)
    have hk : (gp pl i).2.toNat < l.length := by omega
    apply Int.not_lt.1
    intro hlt
    have he : endS s.short pl i = (gp pl (i + 1)).1 + 1 := by unfold endS; rw [if_pos h2]
    unfold badFast inP at hf
    rw [he] at hf
    have hx : (spanAt s l (gp pl i).2.toNat).1 ≤ (gp pl (i + 1)).1 + 1 ∧ (gp pl i).1 ≤ (spanAt s l (gp pl i).2.toNat).2 := by omega
    have e : spanAt s l (gp pl i).2.toNat = sp s l (gp pl i).2.toNat := at_hold hk (x := (gp pl i).1) (by omega)
    rw [e] at hx
    have := ha.2.2.2 _ hk (by omega) (by omega)
    omega
end Go.Proofs.Ytgfnogdecggkkaa
namespace Go.AH
open Go
theorem ok_convK {P : Program} {rd : Option Nat} {ty : TypeId} {e : Env} {σ : Heap} {x : Operand} {m : Int} {s d : TypeId} {k : IntKind} [Ik P s k] [Ik P d .i64] (hx : evalO e x = some (.int k m)) (h1 : -9223372036854775808 ≤ m) (h2 : m ≤ 9223372036854775807) :
    OpOk P rd (.convert s d x) ty e σ (.int .i64 m) σ := by
  have := ok_convI (P := P) (rd := rd) (ty := ty) (σ := σ) (s := s) (d := d) hx
  rwa [wrap64 h1 h2] at this
end Go.AH
namespace Go.Proofs.Ytgfnogdecggkkaa
open Go Go.AH
attribute [local irreducible] WOps WCode WFree retQ thenQ blockQ OpOk ACall RetRef roundA roundB
set_option maxRecDepth 100000
set_option maxHeartbeats 1000000
def cut (s : St) (a : Int) : St := ⟨s.long, a, s.off, s.lo, s.hi⟩
end Go.Proofs.Ytgfnogdecggkkaa
