/- Gaps, plans and how far, plainly; the own function of RimFarther. Conditions: stand in each theorem. -/
import Derived.Test.YtgfnogdecggkkaaMV
import Derived.Test.YtgfnogdecggkkaaM4
import Derived.Test.YtgfnogdecggkkaaMO
namespace Go.Proofs.Ytgfnogdecggkkaa
open Go Go.AH
attribute [local irreducible] WOps WCode WFree retQ thenQ blockQ OpOk ACall RetRef roundA roundB
set_option maxRecDepth 100000
set_option maxHeartbeats 1000000
def fineB (s : St) (l : List Int) : Bool := decide (¬ (l.length : Int) > 20) && decide (checkS s l = 0)
theorem fine_ok (s : St) (l : List Int) (c : Nat) (hN : l.length ≤ 9223372036854775807) : Ev Try.prog 41 [s.val, .slice (some ⟨0, 0, none⟩) l.length c] [.ro (ints l)] (.bool (decide (checkS s l = 0))) [.ro (ints l)] := by
  have h20 : (l.length : Int) > 20 → checkS s l ≠ 0 := fun h => by
    unfold checkS; rw [if_pos (by omega)]; decide
  by_cases hm : (l.length : Int) > 20
  · have h0 := h20 hm
    refine acall_intro 1 14 Try.func41 rfl rfl rfl rfl rfl ?_
    repeat' (first | (refine gU ?_; first | (refine gMove ?_; first | refine st (ok_move rfl) rfl rfl ?_) | (refine gAssign ?_; first | refine st (ok_assign rfl) rfl rfl ?_) | (refine gLoad ?_; first | refine st (ok_load rfl (by first | rfl | assumption)) rfl rfl ?_ | refine st (ok_loadA rfl (by first | rfl | assumption)) rfl rfl ?_) | (refine gBin ?_; first | refine st (ok_bin rfl rfl rfl) rfl rfl ?_ | refine st (ok_eq2 rfl rfl) rfl rfl ?_) | (refine gPick ?_; first | refine st (ok_pickT rfl (by first | rfl | exact dtrue (by assumption) | exact dfalse (by assumption) | assumption | exact dtrue (by omega) | exact dfalse (by omega)) rfl) rfl rfl ?_ | refine st (ok_pickF rfl (by first | rfl | exact dtrue (by assumption) | exact dfalse (by assumption) | assumption | exact dtrue (by omega) | exact dfalse (by omega)) rfl) rfl rfl ?_) | (refine gNot ?_; first | refine st (ok_notD rfl) rfl rfl ?_ | refine st (ok_not' rfl) rfl rfl ?_) | (refine gCall ?_; first | refine st (ok_call rfl rfl rfl (by first | exact many_ev (by first | exact .inl rfl | exact .inr (.inl rfl) | exact .inr (.inr ⟨_, rfl⟩) | assumption) (by assumption) rfl | exact refCheckStone_ev (by first | exact .inl rfl | exact .inr (.inl rfl) | exact .inr (.inr ⟨_, rfl⟩) | assumption) rfl)) rfl rfl ?_) | (refine gBox ?_; first | refine st (ok_box rfl) rfl rfl ?_)) | (refine gG ?_; first | (refine gMove ?_; first | refine stG rfl (by first | rfl | exact dtrue (by assumption) | exact dfalse (by assumption) | assumption | exact dtrue (by omega) | exact dfalse (by omega)) (ok_move rfl) rfl rfl ?_) | (refine gLoad ?_; first | refine stG rfl (by first | rfl | exact dtrue (by assumption) | exact dfalse (by assumption) | assumption | exact dtrue (by omega) | exact dfalse (by omega)) (ok_load rfl (by first | rfl | assumption)) rfl rfl ?_ | refine stG rfl (by first | rfl | exact dtrue (by assumption) | exact dfalse (by assumption) | assumption | exact dtrue (by omega) | exact dfalse (by omega)) (ok_loadA rfl (by first | rfl | assumption)) rfl rfl ?_) | (refine gBin ?_; first | refine stG rfl (by first | rfl | exact dtrue (by assumption) | exact dfalse (by assumption) | assumption | exact dtrue (by omega) | exact dfalse (by omega)) (ok_bin rfl rfl rfl) rfl rfl ?_ | refine stG rfl (by first | rfl | exact dtrue (by assumption) | exact dfalse (by assumption) | assumption | exact dtrue (by omega) | exact dfalse (by omega)) (ok_eq2 rfl rfl) rfl rfl ?_) | (refine gCall ?_; first | refine stG rfl (by first | rfl | exact dtrue (by assumption) | exact dfalse (by assumption) | assumption | exact dtrue (by omega) | exact dfalse (by omega)) (ok_call rfl rfl rfl (by first | exact many_ev (by first | exact .inl rfl | exact .inr (.inl rfl) | exact .inr (.inr ⟨_, rfl⟩) | assumption) (by assumption) rfl | exact refCheckStone_ev (by first | exact .inl rfl | exact .inr (.inl rfl) | exact .inr (.inr ⟨_, rfl⟩) | assumption) rfl)) rfl rfl ?_) | refine stSU rfl rfl ?_ | refine stS rfl (by first | rfl | exact dtrue (by assumption) | exact dfalse (by assumption) | assumption | exact dtrue (by omega) | exact dfalse (by omega)) rfl ?_ | ((fail_if_success (refine stGk rfl (by first | rfl | exact dtrue (by assumption) | exact dfalse (by assumption) | assumption | exact dtrue (by omega) | exact dfalse (by omega)) ?_)); first | (refine stGdD rfl ?_ ?_ <;> intro _) | (refine stGd rfl ?_ ?_ <;> intro _))) | refine W_seq ?_ | refine W_region ?_ | refine st_nil ?_ | refine tq_n ?_ | refine tq_r ?_ | refine tq_e ?_ | refine bq_n ?_ | refine bq_r ?_ | refine bq_hit rfl ?_ | refine bq_miss rfl ?_ | refine W_skip ?_ | refine W_exit ?_ | refine W_ret ?_ | refine W_block ?_ | refine W_condT rfl (by first | rfl | exact dtrue (by assumption) | exact dfalse (by assumption) | assumption | exact dtrue (by omega) | exact dfalse (by omega)) ?_ | refine W_condF rfl (by first | rfl | exact dtrue (by assumption) | exact dfalse (by assumption) | assumption | exact dtrue (by omega) | exact dfalse (by omega)) ?_ | (refine W_condD rfl ?_ ?_ <;> intro _) | (refine W_cond rfl ?_ ?_ <;> intro _))
    refine ret0 (.tmp rfl .nil) (.plain rfl rfl) ⟨?_, rfl⟩
    rw [decide_eq_false h0]; rfl
  · refine acall_intro 1 14 Try.func41 rfl rfl rfl rfl rfl ?_
    repeat' (first | (refine gU ?_; first | (refine gMove ?_; first | refine st (ok_move rfl) rfl rfl ?_) | (refine gAssign ?_; first | refine st (ok_assign rfl) rfl rfl ?_) | (refine gLoad ?_; first | refine st (ok_load rfl (by first | rfl | assumption)) rfl rfl ?_ | refine st (ok_loadA rfl (by first | rfl | assumption)) rfl rfl ?_) | (refine gBin ?_; first | refine st (ok_bin rfl rfl rfl) rfl rfl ?_ | refine st (ok_eq2 rfl rfl) rfl rfl ?_) | (refine gPick ?_; first | refine st (ok_pickT rfl (by first | rfl | exact dtrue (by assumption) | exact dfalse (by assumption) | assumption | exact dtrue (by omega) | exact dfalse (by omega)) rfl) rfl rfl ?_ | refine st (ok_pickF rfl (by first | rfl | exact dtrue (by assumption) | exact dfalse (by assumption) | assumption | exact dtrue (by omega) | exact dfalse (by omega)) rfl) rfl rfl ?_) | (refine gNot ?_; first | refine st (ok_notD rfl) rfl rfl ?_ | refine st (ok_not' rfl) rfl rfl ?_) | (refine gCall ?_; first | refine st (ok_call rfl rfl rfl (by first | exact many_ev (by first | exact .inl rfl | exact .inr (.inl rfl) | exact .inr (.inr ⟨_, rfl⟩) | assumption) (by assumption) rfl | exact refCheckStone_ev (by first | exact .inl rfl | exact .inr (.inl rfl) | exact .inr (.inr ⟨_, rfl⟩) | assumption) rfl)) rfl rfl ?_) | (refine gBox ?_; first | refine st (ok_box rfl) rfl rfl ?_)) | (refine gG ?_; first | (refine gMove ?_; first | refine stG rfl (by first | rfl | exact dtrue (by assumption) | exact dfalse (by assumption) | assumption | exact dtrue (by omega) | exact dfalse (by omega)) (ok_move rfl) rfl rfl ?_) | (refine gLoad ?_; first | refine stG rfl (by first | rfl | exact dtrue (by assumption) | exact dfalse (by assumption) | assumption | exact dtrue (by omega) | exact dfalse (by omega)) (ok_load rfl (by first | rfl | assumption)) rfl rfl ?_ | refine stG rfl (by first | rfl | exact dtrue (by assumption) | exact dfalse (by assumption) | assumption | exact dtrue (by omega) | exact dfalse (by omega)) (ok_loadA rfl (by first | rfl | assumption)) rfl rfl ?_) | (refine gBin ?_; first | refine stG rfl (by first | rfl | exact dtrue (by assumption) | exact dfalse (by assumption) | assumption | exact dtrue (by omega) | exact dfalse (by omega)) (ok_bin rfl rfl rfl) rfl rfl ?_ | refine stG rfl (by first | rfl | exact dtrue (by assumption) | exact dfalse (by assumption) | assumption | exact dtrue (by omega) | exact dfalse (by omega)) (ok_eq2 rfl rfl) rfl rfl ?_) | (refine gCall ?_; first | refine stG rfl (by first | rfl | exact dtrue (by assumption) | exact dfalse (by assumption) | assumption | exact dtrue (by omega) | exact dfalse (by omega)) (ok_call rfl rfl rfl (by first | exact many_ev (by first | exact .inl rfl | exact .inr (.inl rfl) | exact .inr (.inr ⟨_, rfl⟩) | assumption) (by assumption) rfl | exact refCheckStone_ev (by first | exact .inl rfl | exact .inr (.inl rfl) | exact .inr (.inr ⟨_, rfl⟩) | assumption) rfl)) rfl rfl ?_) | refine stSU rfl rfl ?_ | refine stS rfl (by first | rfl | exact dtrue (by assumption) | exact dfalse (by assumption) | assumption | exact dtrue (by omega) | exact dfalse (by omega)) rfl ?_ | ((fail_if_success (refine stGk rfl (by first | rfl | exact dtrue (by assumption) | exact dfalse (by assumption) | assumption | exact dtrue (by omega) | exact dfalse (by omega)) ?_)); first | (refine stGdD rfl ?_ ?_ <;> intro _) | (refine stGd rfl ?_ ?_ <;> intro _))) | refine W_seq ?_ | refine W_region ?_ | refine st_nil ?_ | refine tq_n ?_ | refine tq_r ?_ | refine tq_e ?_ | refine bq_n ?_ | refine bq_r ?_ | refine bq_hit rfl ?_ | refine bq_miss rfl ?_ | refine W_skip ?_ | refine W_exit ?_ | refine W_ret ?_ | refine W_block ?_ | refine W_condT rfl (by first | rfl | exact dtrue (by assumption) | exact dfalse (by assumption) | assumption | exact dtrue (by omega) | exact dfalse (by omega)) ?_ | refine W_condF rfl (by first | rfl | exact dtrue (by assumption) | exact dfalse (by assumption) | assumption | exact dtrue (by omega) | exact dfalse (by omega)) ?_ | (refine W_condD rfl ?_ ?_ <;> intro _) | (refine W_cond rfl ?_ ?_ <;> intro _))
    exact ret0 (.tmp rfl .nil) (.plain rfl rfl) ⟨rfl, rfl⟩
theorem fine_ev {σ : Heap} {s : St} {l : List Int} {x c : Nat} (hx : arrAt σ x (ints l)) (hN : l.length ≤ 9223372036854775807) (hni : σ.all (fun o => !isIter o) = true) :
    Ev Try.prog 41 [s.val, .slice (some ⟨x, 0, none⟩) l.length c] σ (.bool (decide (checkS s l = 0))) σ :=
  Ev.arrs [ints l] [x] (fine_ok s l c hN) ⟨hx, trivial⟩ ⟨vrel_plain _ rfl, by simpa [bsR] using VQ.slice (q := true) (n := 1) (ρ := bsR [x]) 0 0 l.length c c (Nat.le_refl _) (by omega), trivial⟩ (by simp [ints_plain]) rfl hni
theorem grd_full {F : Nat → Int × Int} {n : Nat} {to : Int} : ∀ (k : Nat) (x : Int), x < to + k → (∀ y, to ≤ y → y ≤ x → ∃ i < n, (F i).1 ≤ y ∧ y ≤ (F i).2) → (grd F n to k x).2 < to
  | 0, x, hk, _ => by simp only [grd]; omega
  | k + 1, x, hk, h => by
    simp only [grd]
    by_cases hx : x < to
    · rw [if_pos (.inl hx)]; exact hx
    · rcases bestF_is F x n with ⟨h1, h2⟩ | ⟨b, hb, h1, h2, h3, h4⟩
      · obtain ⟨i, hi, hc⟩ := h x (by omega) (Int.le_refl _)
        exact absurd hc (h2 i hi)
      · rw [h1, if_neg (by omega), Int.toNat_natCast]
        exact grd_full k _ (by omega) fun y hy1 hy2 => h y hy1 (by omega)
theorem full_grd {F : Nat → Int × Int} {n : Nat} {to : Int} : ∀ (k : Nat) (x : Int), (grd F n to k x).2 < to → ∀ y, to ≤ y → y ≤ x → ∃ i < n, (F i).1 ≤ y ∧ y ≤ (F i).2
  | 0, x, h, y, hy1, hy2 => by simp only [grd] at h; omega
  | k + 1, x, h, y, hy1, hy2 => by
    simp only [grd] at h
    rcases bestF_is F x n with ⟨h1, h2⟩ | ⟨b, hb, h1, h2, h3, h4⟩
    · rw [if_pos (.inr (by omega))] at h; simp only at h; omega
    · by_cases hx : x < to
      · omega
      · rw [h1, if_neg (by omega), Int.toNat_natCast] at h
        by_cases hlo : (F b).1 ≤ y
        · exact ⟨b, hb, hlo, by omega⟩
        · exact full_grd k _ h y hy1 (by omega)
theorem cov_sp {s : St} {l : List Int} {y : Int} : Cov (spanAt s l) l.length y ↔ ∃ i < l.length, (sp s l i).1 ≤ y ∧ y ≤ (sp s l i).2 := by
  constructor
  · rintro ⟨i, hi, hc⟩; exact ⟨i, hi, by rw [← at_hold hi hc]; exact hc⟩
  · rintro ⟨i, hi, hc⟩; exact ⟨i, hi, by rw [sp_hold hi hc]; exact hc⟩
theorem gap_none {s : St} {l : List Int} (h : checkS s l = 0) (hg : gapS (spanAt s l) l.length s.short s.long < 0) : planE s l = 0 ∧ ∀ y, s.short ≤ y → y ≤ s.long → Cov (spanAt s l) l.length y := by
  obtain ⟨_, _, hs, _⟩ := checkS_zero h
  have hs1 : 1 ≤ s.short := by unfold badStone at hs; omega
  have hs2 : s.short ≤ s.long := by unfold badStone at hs; omega
  rcases gapS_is (f := spanAt s l) (n := l.length) hs2 with ⟨_, hc⟩ | ⟨h1, _⟩
  · refine ⟨?_, hc⟩
    unfold planE
    rw [if_neg (by omega), if_pos]
    exact grd_full _ _ (by omega) fun y h1 h2 => cov_sp.1 (hc y h1 h2)
  · omega
theorem gap_some {s : St} {l : List Int} (h : checkS s l = 0) (hg : ¬ gapS (spanAt s l) l.length s.short s.long < 0) :
    planE s l = 19 ∧ s.short ≤ gapS (spanAt s l) l.length s.short s.long ∧ gapS (spanAt s l) l.length s.short s.long ≤ s.long ∧ ¬ Cov (spanAt s l) l.length (gapS (spanAt s l) l.length s.short s.long) ∧ ∀ y, gapS (spanAt s l) l.length s.short s.long < y → y ≤ s.long → Cov (spanAt s l) l.length y := by
  obtain ⟨_, _, hs, _⟩ := checkS_zero h
  have hs1 : 1 ≤ s.short := by unfold badStone at hs; omega
  have hs2 : s.short ≤ s.long := by unfold badStone at hs; omega
  rcases gapS_is (f := spanAt s l) (n := l.length) hs2 with ⟨h1, _⟩ | ⟨h1, h2, h3, h4⟩
  · omega
  · refine ⟨?_, h1, h2, h3, h4⟩
    unfold planE
    rw [if_neg (by omega), if_neg]
    exact fun hp => h3 (cov_sp.2 (full_grd _ _ hp _ h1 h2))
theorem run_at {s : St} {l : List Int} {pl : List (Int × Int)} (h : checkP s l pl = 0) {y : Int} (h1 : s.short ≤ y) (h2 : y ≤ s.long) : ∃ i < pl.length, endS s.short pl i ≤ y ∧ y ≤ (gp pl i).1 := by
  have hrun : checkS s l = 0 ∧ 1 ≤ pl.length ∧ pl.length ≤ 20 ∧ (∀ j < pl.length, ¬ badRun s l pl j) := by
    unfold checkP at h
    split at h
    · rename_i hc; exact absurd h hc
    · split at h
      · cases h
      · split at h
        · cases h
        · rename_i g1 g2 g3
          exact ⟨by omega, by omega, by omega, someB_none g3⟩
  obtain ⟨g1, g2, g3, g4⟩ := hrun
  have step : ∀ k, k < pl.length → y ≤ (gp pl k).1 ∨ ∃ i < pl.length, endS s.short pl i ≤ y ∧ y ≤ (gp pl i).1 := by
    intro k
    induction k with
    | zero =>
      intro hk
      have := g4 0 hk
      unfold badRun at this
      exact .inl (by omega)
    | succ k ih =>
      intro hk
      rcases ih (by omega) with h3 | h3
      · by_cases he : endS s.short pl k ≤ y
        · exact .inr ⟨k, by omega, he, h3⟩
        · refine .inl ?_
          unfold endS at he
          rw [if_pos hk] at he
          omega
      · exact .inr h3
  rcases step (pl.length - 1) (by omega) with h3 | h3
  · refine ⟨pl.length - 1, by omega, ?_, h3⟩
    unfold endS
    rw [if_neg (by omega)]; exact h1
  · exact h3
theorem plan_cov {s : St} {l : List Int} {pl : List (Int × Int)} (h : checkP s l pl = 0) {y : Int} (h1 : s.short ≤ y) (h2 : y ≤ s.long) : Cov (spanAt s l) l.length y := by
  obtain ⟨i, hi, he, hf⟩ := run_at h h1 h2
  unfold checkP at h
  split at h
  · rename_i hc; exact absurd h hc
  · split at h
    · cases h
    · split at h
      · cases h
      · split at h
        · cases h
        · rename_i g1 g2 g3 g4
          have hb := runs_in (someB_none g3) i hi
          have hq := someB_none g4 i hi
          unfold badFast inP at hq
          exact ⟨(gp pl i).2.toNat, by omega, by omega, by omega⟩
theorem covB_succ (f : Nat → Int × Int) (i : Nat) (x : Int) : covB f (i + 1) x = (covB f i x || (decide ((f i).1 ≤ x) && decide (x ≤ (f i).2))) := by
  unfold covB
  rw [List.range_succ, List.any_append]
  simp
end Go.Proofs.Ytgfnogdecggkkaa
namespace Go.Proofs.Ytgfnogdecggkkaa
open Go Go.AH
attribute [local irreducible] WOps WCode WFree retQ thenQ blockQ OpOk ACall RetRef roundA roundB
set_option maxRecDepth 100000
set_option maxHeartbeats 1000000
theorem best_lo {F : Nat → Int × Int} {n : Nat} {x : Int} (h : ¬ bestF F x n < 0) : (bestF F x n).toNat < n ∧ (F (bestF F x n).toNat).1 ≤ x ∧ x ≤ (F (bestF F x n).toNat).2 ∧ ∀ i < n, (F i).1 ≤ x → x ≤ (F i).2 → (F (bestF F x n).toNat).1 ≤ (F i).1 := by
  rcases bestF_is F x n with ⟨h1, _⟩ | ⟨b, hb, h1, h2, h3, h4⟩
  · omega
  · rw [h1, Int.toNat_natCast]
    exact ⟨hb, h2, h3, fun i hi g1 g2 => (h4 i hi g1 g2).1⟩
theorem farS_le {F : Nat → Int × Int} {n : Nat} {short : Int} : ∀ (m : Nat) (x : Int), farS F n short m x ≤ x
  | 0, x => Int.le_refl _
  | m + 1, x => by
    simp only [farS]
    split
    · exact Int.le_refl _
    · rename_i h
      have h1 := best_lo (F := F) (n := n) (x := x) (by omega)
      have := farS_le (F := F) (n := n) (short := short) m ((F (bestF F x n).toNat).1 - 1)
      omega
theorem farS_ge {F : Nat → Int × Int} {n : Nat} {short : Int} (hF : ∀ i < n, short ≤ (F i).1) : ∀ (m : Nat) (x : Int), short - 1 ≤ x → short - 1 ≤ farS F n short m x
  | 0, x, h => h
  | m + 1, x, h => by
    simp only [farS]
    split
    · exact h
    · rename_i hs
      have h1 := best_lo (F := F) (n := n) (x := x) (by omega)
      have := hF _ h1.1
      exact farS_ge hF m _ (by omega)
theorem farS_anti {F : Nat → Int × Int} {n : Nat} {short : Int} : ∀ (m : Nat) (x : Int), farS F n short (m + 1) x ≤ farS F n short m x
  | 0, x => farS_le 1 x
  | m + 1, x => by
    have e1 : farS F n short (m + 1 + 1) x = if x < short ∨ bestF F x n < 0 then x else farS F n short (m + 1) ((F (bestF F x n).toNat).1 - 1) := rfl
    have e2 : farS F n short (m + 1) x = if x < short ∨ bestF F x n < 0 then x else farS F n short m ((F (bestF F x n).toNat).1 - 1) := rfl
    rw [e1, e2]
    by_cases h : x < short ∨ bestF F x n < 0
    · rw [if_pos h, if_pos h]; exact Int.le_refl _
    · rw [if_neg h, if_neg h]; exact farS_anti m _
theorem farS_grd {F : Nat → Int × Int} {n : Nat} {short : Int} : ∀ (k : Nat) (x : Int) (m : Nat), x < short + k → farS F n short m x = if m < (grd F n short k x).1.length then (gp (grd F n short k x).1 m).1 else (grd F n short k x).2
  | 0, x, m, hk => by
    have e1 : grd F n short 0 x = ([], x) := rfl
    rw [e1, if_neg (by simp), farS_stop (.inl (by omega))]
  | k + 1, x, m, hk => by
    by_cases h : x < short ∨ bestF F x n < 0
    · have e1 : grd F n short (k + 1) x = ([], x) := grd_stop h _
      rw [e1, if_neg (by simp), farS_stop h]
    · have e1 : grd F n short (k + 1) x = ((x, bestF F x n) :: (grd F n short k ((F (bestF F x n).toNat).1 - 1)).1, (grd F n short k ((F (bestF F x n).toNat).1 - 1)).2) := by simp only [grd]; rw [if_neg h]
      rw [e1]
      have h1 := best_lo (F := F) (n := n) (x := x) (by omega)
      cases m with
      | zero => rw [if_pos (by simp)]; rfl
      | succ m =>
        have ih := farS_grd (F := F) (n := n) (short := short) k ((F (bestF F x n).toNat).1 - 1) m (by omega)
        have e2 : farS F n short (m + 1) x = farS F n short m ((F (bestF F x n).toNat).1 - 1) := by simp only [farS]; rw [if_neg h]
        rw [e2, ih]
        by_cases hm : m < (grd F n short k ((F (bestF F x n).toNat).1 - 1)).1.length
        · rw [if_pos hm, if_pos (by simp only [List.length_cons]; omega)]; rfl
        · rw [if_neg hm, if_neg (by simp only [List.length_cons]; omega)]
theorem grd_in {F : Nat → Int × Int} {n : Nat} {to : Int} : ∀ (k : Nat) (x : Int) (m : Nat), m < (grd F n to k x).1.length → to ≤ (gp (grd F n to k x).1 m).1
  | 0, x, m, h => by simp [grd] at h
  | k + 1, x, m, h => by
    simp only [grd] at h ⊢
    by_cases hs : x < to ∨ bestF F x n < 0
    · rw [if_pos hs] at h; simp at h
    · rw [if_neg hs] at h ⊢
      cases m with
      | zero => show to ≤ x; omega
      | succ m => exact grd_in k _ m (by simpa using h)
theorem grd_short {F G : Nat → Int × Int} {n : Nat} {short a : Int} (hsa : short ≤ a) (hG : ∀ i < n, (G i).1 = max a (F i).1 ∧ (G i).2 = (F i).2) : ∀ (m : Nat) (y : Int) (k : Nat), y < a + k → farS F n short m y = a - 1 → (grd G n a k y).2 = a - 1 ∧ (grd G n a k y).1.length ≤ m
  | 0, y, k, hk, h => by
    have h' : y = a - 1 := h
    have e : grd G n a k y = ([], y) := grd_stop (.inl (by omega)) k
    rw [e]; exact ⟨h', Nat.le_refl _⟩
  | m + 1, y, k, hk, h => by
    by_cases hya : y < a
    · have e : grd G n a k y = ([], y) := grd_stop (.inl hya) k
      rw [e]
      have := farS_le (F := F) (n := n) (short := short) (m + 1) y
      exact ⟨by simp only; omega, by simp⟩
    · simp only [farS] at h
      by_cases hst : y < short ∨ bestF F y n < 0
      · rw [if_pos hst] at h; omega
      · rw [if_neg hst] at h
        obtain ⟨b1, b2, b3, b4⟩ := best_lo (F := F) (n := n) (x := y) (by omega)
        have hle := farS_le (F := F) (n := n) (short := short) m ((F (bestF F y n).toNat).1 - 1)
        obtain ⟨g1, g2⟩ := hG _ b1
        cases k with
        | zero => omega
        | succ k =>
          simp only [grd]
          rcases bestF_is G y n with ⟨c1, c2⟩ | ⟨b', hb', c1, c2, c3, c4⟩
          · exact absurd ⟨by omega, by omega⟩ (c2 _ b1)
          · rw [c1, if_neg (by omega), Int.toNat_natCast]
            obtain ⟨k1, k2⟩ := hG b' hb'
            have e1 := (c4 _ b1 (by omega) (by omega)).1
            have e2 := b4 b' hb' (by omega) (by omega)
            have e3 : (G b').1 - 1 = (F (bestF F y n).toNat).1 - 1 := by omega
            rw [e3]
            have ih := grd_short hsa hG m _ k (by omega) h
            exact ⟨ih.1, by simp only [List.length_cons]; omega⟩
end Go.Proofs.Ytgfnogdecggkkaa
namespace Go.AH
open Go
theorem ok_convK {P : Program} {rd : Option Nat} {ty : TypeId} {e : Env} {σ : Heap} {x : Operand} {m : Int} {s d : TypeId} {k : IntKind} [Ik P s k] [Ik P d .i64] (hx : evalO e x = some (.int k m)) (h1 : -9223372036854775808 ≤ m) (h2 : m ≤ 9223372036854775807) :
    OpOk P rd (.convert s d x) ty e σ (.int .i64 m) σ := by
  have := ok_convI (P := P) (rd := rd) (ty := ty) (σ := σ) (s := s) (d := d) hx
  rwa [wrap64 h1 h2] at this
end Go.AH
namespace Go.Proofs.Ytgfnogdecggkkaa
open Go Go.AH
attribute [local irreducible] WOps WCode WFree retQ thenQ blockQ OpOk ACall RetRef roundA roundB
set_option maxRecDepth 100000
set_option maxHeartbeats 1000000
theorem count_ok (s : St) (l : List Int) (c : Nat) (hN : l.length ≤ 1000000) (hr : -9223372036854775808 ≤ s.short ∧ s.short ≤ 9223372036854775807) (h : planE s l = 0) :
    Ev Try.prog 43 [s.val, .slice (some ⟨0, 0, none⟩) l.length c] [.ro (ints l)] (.tuple #[.int .i64 ((planR s l).length : Int), .bool true]) [.ro (ints l)] := by
  have hpl := rimPlanS_ev (σ := [.ro (ints l), .rw s.cells]) (s := s) (l := l) (a := 0) (c := c) (.inl rfl) hN hr rfl
  rw [h] at hpl
  refine acall_intro 1 23 Try.func43 rfl rfl rfl rfl rfl ?_
  repeat' (first | (refine gU ?_; first | (refine gMove ?_; first | refine st (ok_move rfl) rfl rfl ?_) | (refine gAssign ?_; first | refine st (ok_assign rfl) rfl rfl ?_) | (refine gLoad ?_; first | refine st (ok_load rfl (by first | rfl | assumption)) rfl rfl ?_ | refine st (ok_loadA rfl (by first | rfl | assumption)) rfl rfl ?_) | (refine gBin ?_; first | refine st (ok_bin rfl rfl rfl) rfl rfl ?_ | refine st (ok_eq2 rfl rfl) rfl rfl ?_) | (refine gLen ?_; first | refine st (ok_len rfl) rfl rfl ?_ | refine st (ok_lenV rfl) rfl rfl ?_) | (refine gExtract ?_; first | refine st (ok_extract rfl rfl) rfl rfl ?_) | (refine gCall ?_; first | refine st (ok_call rfl rfl rfl (by first | exact fine_ev (by first | exact .inl rfl | exact .inr (.inl rfl) | exact .inr (.inr ⟨_, rfl⟩) | assumption) (by assumption) rfl | exact works_ev rfl | exact hfar1 | exact hfar2 | exact hplan | exact hcount | exact hpl)) rfl rfl ?_) | (refine gBox ?_; first | refine st (ok_box rfl) rfl rfl ?_)) | refine W_seq ?_ | refine W_region ?_ | refine st_nil ?_ | refine tq_n ?_ | refine tq_r ?_ | refine tq_e ?_ | refine bq_n ?_ | refine bq_r ?_ | refine bq_hit rfl ?_ | refine bq_miss rfl ?_ | refine W_skip ?_ | refine W_exit ?_ | refine W_ret ?_ | refine W_block ?_ | refine W_condT rfl (by first | rfl | exact dtrue (by assumption) | exact dfalse (by assumption) | assumption | exact dtrue (by omega) | exact dfalse (by omega)) ?_ | refine W_condF rfl (by first | rfl | exact dtrue (by assumption) | exact dfalse (by assumption) | assumption | exact dtrue (by omega) | exact dfalse (by omega)) ?_ | (refine W_condD rfl ?_ ?_ <;> intro _) | (refine W_cond rfl ?_ ?_ <;> intro _))
  exact ret0 (.tmp rfl (.tmp rfl .nil)) (.plain rfl rfl) ⟨rfl, rfl⟩
theorem count_ev {σ : Heap} {s : St} {l : List Int} {a c : Nat} (hx : arrAt σ a (ints l)) (hN : l.length ≤ 1000000) (hr : -9223372036854775808 ≤ s.short ∧ s.short ≤ 9223372036854775807) (h : planE s l = 0) (hni : σ.all (fun o => !isIter o) = true) :
    Ev Try.prog 43 [s.val, .slice (some ⟨a, 0, none⟩) l.length c] σ (.tuple #[.int .i64 ((planR s l).length : Int), .bool true]) σ :=
  Ev.arrs [ints l] [a] (count_ok s l c hN hr h) ⟨hx, trivial⟩ ⟨vrel_plain _ rfl, by simpa [bsR] using VQ.slice (q := true) (n := 1) (ρ := bsR [a]) 0 0 l.length c c (Nat.le_refl _) (by omega), trivial⟩ (by simp [ints_plain]) rfl hni
def cut (s : St) (a : Int) : St := ⟨s.long, a, s.off, s.lo, s.hi⟩
theorem cut_check {s : St} {l : List Int} {a : Int} (h : checkS s l = 0) (h1 : s.short ≤ a) (h2 : a ≤ s.long) : checkS (cut s a) l = 0 := by
  obtain ⟨h12, hl1, hs, ht⟩ := checkS_zero h
  unfold checkS
  rw [if_neg (by omega), if_neg (by unfold badStone at hs ⊢; unfold cut; simp only; omega), ht]
  rfl
theorem farther_facts {s : St} {l : List Int} (h : checkS s l = 0) (m : Nat) (hb : ¬ bestF (sp s l) s.long l.length < 0) :
    s.short ≤ farS (sp s l) l.length s.short (m + 1) s.long + 1 ∧ farS (sp s l) l.length s.short (m + 1) s.long + 1 ≤ s.long ∧
    planE (cut s (farS (sp s l) l.length s.short (m + 1) s.long + 1)) l = 0 ∧ (planR (cut s (farS (sp s l) l.length s.short (m + 1) s.long + 1)) l).length ≤ m + 1 ∧
    (planE s l ≠ 0 → farS (sp s l) l.length s.short (m + 1) s.long + 1 > s.short) ∧
    (planE s l = 0 → farS (sp s l) l.length s.short (m + 1) s.long + 1 = if m + 1 < (planR s l).length then (gp (planR s l) (m + 1)).1 + 1 else s.short) := by
  obtain ⟨h12, hl1, hs, ht⟩ := checkS_zero h
  have hs1 : 1 ≤ s.short := by unfold badStone at hs; omega
  have hs2 : s.short ≤ s.long := by unfold badStone at hs; omega
  have hF : ∀ i < l.length, s.short ≤ (sp s l i).1 := fun i _ => (sp_bounds s l i).1
  have hge := farS_ge (F := sp s l) (n := l.length) (short := s.short) hF (m + 1) s.long (by omega)
  have hle : farS (sp s l) l.length s.short (m + 1) s.long + 1 ≤ s.long := by
    have h1 := best_lo hb
    have h2 := farS_le (F := sp s l) (n := l.length) (short := s.short) m ((sp s l (bestF (sp s l) s.long l.length).toNat).1 - 1)
    simp only [farS]
    rw [if_neg (by omega)]
    omega
  have hgrd := farS_grd (F := sp s l) (n := l.length) (short := s.short) (s.long - s.short + 1).toNat s.long (m + 1) (by omega)
  refine ⟨by omega, hle, ?_, ?_, ?_, ?_⟩
  · generalize hA : farS (sp s l) l.length s.short (m + 1) s.long + 1 = A at *
    have hc := cut_check h (a := A) (by omega) (by omega)
    have hsh := grd_short (F := sp s l) (G := sp (cut s A) l) (n := l.length) (short := s.short) (a := A) (by omega) (fun i hi => ⟨by unfold sp span cut; simp only; omega, rfl⟩) (m + 1) s.long (s.long - A + 1).toNat (by omega) (by omega)
    unfold planE
    rw [if_neg (by omega), if_pos]
    show (grd (sp (cut s A) l) l.length A (s.long - A + 1).toNat s.long).2 < A
    omega
  · generalize hA : farS (sp s l) l.length s.short (m + 1) s.long + 1 = A at *
    have hc := cut_check h (a := A) (by omega) (by omega)
    have hsh := grd_short (F := sp s l) (G := sp (cut s A) l) (n := l.length) (short := s.short) (a := A) (by omega) (fun i hi => ⟨by unfold sp span cut; simp only; omega, rfl⟩) (m + 1) s.long (s.long - A + 1).toNat (by omega) (by omega)
    unfold planR
    rw [if_neg (by omega)]
    unfold planIf
    split
    · exact hsh.2
    · simp
  · intro hp
    unfold planE at hp
    rw [if_neg (by omega)] at hp
    by_cases hlt : (planS (sp s l) l.length s.long s.short).2 < s.short
    · rw [if_pos hlt] at hp; exact absurd rfl hp
    · rw [hgrd]
      unfold planS at hlt
      split
      · rename_i hm
        have := grd_in (F := sp s l) (n := l.length) (to := s.short) _ _ _ hm
        omega
      · omega
  · intro hp
    unfold planE at hp
    rw [if_neg (by omega)] at hp
    by_cases hlt : (planS (sp s l) l.length s.long s.short).2 < s.short
    · have hR : planR s l = (planS (sp s l) l.length s.long s.short).1 := by
        unfold planR planIf; rw [if_neg (by omega), if_pos hlt]
      rw [hR, hgrd]
      unfold planS at hlt ⊢
      split
      · rfl
      · rename_i hm
        have hst := farS_ge (F := sp s l) (n := l.length) (short := s.short) hF (m + 1) s.long (by omega)
        rw [hgrd, if_neg hm] at hst
        omega
    · rw [if_neg hlt] at hp; cases hp
theorem farther_bad (s : St) (l : List Int) (c : Nat) (n : Int) (hN : l.length ≤ 9223372036854775807) (h : ¬ checkS s l = 0) : Ev Try.prog 13 [s.val, .slice (some ⟨0, 0, none⟩) l.length c, .int .u8 n] [.ro (ints l)] (.bool true) [.ro (ints l)] := by
  refine acall_intro 1 144 Try.func13 rfl rfl rfl rfl rfl ?_
  repeat' (first | (refine gU ?_; first | (refine gMove ?_; first | refine st (ok_move rfl) rfl rfl ?_) | (refine gAssign ?_; first | refine st (ok_assign rfl) rfl rfl ?_) | (refine gFA ?_; first | refine st (ok_fieldAddr rfl) rfl rfl ?_) | (refine gLoad ?_; first | refine st (ok_load rfl (by first | rfl | assumption)) rfl rfl ?_ | refine st (ok_loadA rfl (by first | rfl | assumption)) rfl rfl ?_) | (refine gAdd ?_; first | refine st (ok_inc rfl rfl (by omega)) rfl rfl ?_ | refine st (ok_add rfl rfl (by omega) (by omega)) rfl rfl ?_ | refine st (ok_bin rfl rfl rfl) rfl rfl ?_) | (refine gBin ?_; first | refine st (ok_bin rfl rfl rfl) rfl rfl ?_ | refine st (ok_rem rfl rfl (by omega)) rfl rfl ?_ | refine st (ok_eq2 rfl rfl) rfl rfl ?_ | refine st (ok_neq2 rfl rfl) rfl rfl ?_) | (refine gLen ?_; first | refine st (ok_len rfl) rfl rfl ?_ | refine st (ok_lenV rfl) rfl rfl ?_) | (refine gPick ?_; first | refine st (ok_pickT rfl (by first | rfl | exact dtrue (by assumption) | exact dfalse (by assumption) | assumption | exact dtrue (by omega) | exact dfalse (by omega)) rfl) rfl rfl ?_ | refine st (ok_pickF rfl (by first | rfl | exact dtrue (by assumption) | exact dfalse (by assumption) | assumption | exact dtrue (by omega) | exact dfalse (by omega)) rfl) rfl rfl ?_) | (refine gNot ?_; first | refine st (ok_notD rfl) rfl rfl ?_ | refine st (ok_not' rfl) rfl rfl ?_) | (refine gExtract ?_; first | refine st (ok_extract rfl rfl) rfl rfl ?_) | (refine gIA ?_; first | refine st (ok_idxN rfl rfl (by omega)) rfl rfl ?_ | refine st (ok_idxSN rfl rfl (by omega)) rfl rfl ?_ | refine st (ok_idxAN rfl rfl (by omega)) rfl rfl ?_ | refine st (ok_idx rfl rfl (by omega) (by omega)) rfl rfl ?_ | refine st (ok_idxG rfl rfl (by omega) (by omega)) rfl rfl ?_ | refine st (ok_idxA rfl rfl (by omega) (by omega)) rfl rfl ?_) | (refine gConv ?_; first | refine st (ok_conv64 rfl (by omega) (by omega)) rfl rfl ?_ | refine st (ok_convK rfl (by omega) (by omega)) rfl rfl ?_) | (refine gCall ?_; first | refine st (ok_call rfl rfl rfl (by first | exact fine_ev (by first | exact .inl rfl | exact .inr (.inl rfl) | exact .inr (.inr ⟨_, rfl⟩) | assumption) (by assumption) rfl | exact works_ev rfl | exact hfar1 | exact hfar2 | exact hplan | exact hcount | exact hpl)) rfl rfl ?_) | (refine gBox ?_; first | refine st (ok_box rfl) rfl rfl ?_) | (refine gAlloc ?_; first | refine st (ok_alloc rfl) rfl rfl ?_) | (refine gStore ?_; refine stN (ok_store rfl rfl rfl rfl (by first | rfl | assumption | exact hp1 (by omega) | exact hp2 (by omega))) rfl ?_)) | (refine gG ?_; first | (refine gMove ?_; first | refine stG rfl (by first | rfl | exact dtrue (by assumption) | exact dfalse (by assumption) | assumption | exact dtrue (by omega) | exact dfalse (by omega)) (ok_move rfl) rfl rfl ?_) | (refine gFA ?_; first | refine stG rfl (by first | rfl | exact dtrue (by assumption) | exact dfalse (by assumption) | assumption | exact dtrue (by omega) | exact dfalse (by omega)) (ok_fieldAddr rfl) rfl rfl ?_) | (refine gLoad ?_; first | refine stG rfl (by first | rfl | exact dtrue (by assumption) | exact dfalse (by assumption) | assumption | exact dtrue (by omega) | exact dfalse (by omega)) (ok_load rfl (by first | rfl | assumption)) rfl rfl ?_ | refine stG rfl (by first | rfl | exact dtrue (by assumption) | exact dfalse (by assumption) | assumption | exact dtrue (by omega) | exact dfalse (by omega)) (ok_loadA rfl (by first | rfl | assumption)) rfl rfl ?_) | (refine gBin ?_; first | refine stG rfl (by first | rfl | exact dtrue (by assumption) | exact dfalse (by assumption) | assumption | exact dtrue (by omega) | exact dfalse (by omega)) (ok_bin rfl rfl rfl) rfl rfl ?_ | refine stG rfl (by first | rfl | exact dtrue (by assumption) | exact dfalse (by assumption) | assumption | exact dtrue (by omega) | exact dfalse (by omega)) (ok_eq2 rfl rfl) rfl rfl ?_ | refine stG rfl (by first | rfl | exact dtrue (by assumption) | exact dfalse (by assumption) | assumption | exact dtrue (by omega) | exact dfalse (by omega)) (ok_neq2 rfl rfl) rfl rfl ?_) | (refine gPick ?_; first | refine stG rfl (by first | rfl | exact dtrue (by assumption) | exact dfalse (by assumption) | assumption | exact dtrue (by omega) | exact dfalse (by omega)) (ok_pickT rfl (by first | rfl | exact dtrue (by assumption) | exact dfalse (by assumption) | assumption | exact dtrue (by omega) | exact dfalse (by omega)) rfl) rfl rfl ?_ | refine stG rfl (by first | rfl | exact dtrue (by assumption) | exact dfalse (by assumption) | assumption | exact dtrue (by omega) | exact dfalse (by omega)) (ok_pickF rfl (by first | rfl | exact dtrue (by assumption) | exact dfalse (by assumption) | assumption | exact dtrue (by omega) | exact dfalse (by omega)) rfl) rfl rfl ?_) | (refine gCall ?_; first | refine stG rfl (by first | rfl | exact dtrue (by assumption) | exact dfalse (by assumption) | assumption | exact dtrue (by omega) | exact dfalse (by omega)) (ok_call rfl rfl rfl (by first | exact fine_ev (by first | exact .inl rfl | exact .inr (.inl rfl) | exact .inr (.inr ⟨_, rfl⟩) | assumption) (by assumption) rfl | exact works_ev rfl | exact hfar1 | exact hfar2 | exact hplan | exact hcount | exact hpl)) rfl rfl ?_) | refine stSU rfl rfl ?_ | refine stS rfl (by first | rfl | exact dtrue (by assumption) | exact dfalse (by assumption) | assumption | exact dtrue (by omega) | exact dfalse (by omega)) rfl ?_ | ((fail_if_success (refine stGk rfl (by first | rfl | exact dtrue (by assumption) | exact dfalse (by assumption) | assumption | exact dtrue (by omega) | exact dfalse (by omega)) ?_)); first | (refine stGdD rfl ?_ ?_ <;> intro _) | (refine stGd rfl ?_ ?_ <;> intro _))) | refine W_seq ?_ | refine W_region ?_ | refine st_nil ?_ | refine tq_n ?_ | refine tq_r ?_ | refine tq_e ?_ | refine bq_n ?_ | refine bq_r ?_ | refine bq_hit rfl ?_ | refine bq_miss rfl ?_ | refine W_skip ?_ | refine W_exit ?_ | refine W_ret ?_ | refine W_block ?_ | refine W_condT rfl (by first | rfl | exact dtrue (by assumption) | exact dfalse (by assumption) | assumption | exact dtrue (by omega) | exact dfalse (by omega)) ?_ | refine W_condF rfl (by first | rfl | exact dtrue (by assumption) | exact dfalse (by assumption) | assumption | exact dtrue (by omega) | exact dfalse (by omega)) ?_ | (refine W_condD rfl ?_ ?_ <;> intro _) | (refine W_cond rfl ?_ ?_ <;> intro _))
  all_goals exact ret0 (.tmp rfl .nil) (.plain rfl rfl) ⟨rfl, rfl⟩
theorem farther_ok (s : St) (l : List Int) (c : Nat) (n : Int) (hr : -9223372036854775808 ≤ s.short ∧ s.short ≤ 9223372036854775807) (hn : 0 ≤ n ∧ n ≤ 255) (h : checkS s l = 0) : Ev Try.prog 13 [s.val, .slice (some ⟨0, 0, none⟩) l.length c, .int .u8 n] [.ro (ints l)] (.bool true) [.ro (ints l)] := by
  obtain ⟨h12, h1, hs, ht⟩ := checkS_zero h
  have hN : l.length ≤ 9223372036854775807 := by omega
  have hN' : l.length ≤ 1000000 := by omega
  have hs1 : 1 ≤ s.short := by unfold badStone at hs; omega
  have hs2 : s.short ≤ s.long := by unfold badStone at hs; omega
  have hs3 : s.long ≤ 100000 := by unfold badStone at hs; omega
  have hr1 : 0 ≤ n.tmod 19 := Int.tmod_nonneg _ hn.1
  have hr2 : n.tmod 19 < 19 := Int.tmod_lt_of_pos _ (by omega)
  have hfar1 := rimFar_ev (σ := [.ro (ints l), .rw s.cells]) (s := s) (l := l) (a := 0) (c := c) (r := 1 + n.tmod 19) (.inl rfl) hN' hr rfl
  have hfar2 := rimFar_ev (σ := [.ro (ints l), .rw s.cells]) (s := s) (l := l) (a := 0) (c := c) (r := 1 + n.tmod 19 + 1) (.inl rfl) hN' hr rfl
  have hplan := rimPlanS_ev (σ := [.ro (ints l), .rw s.cells]) (s := s) (l := l) (a := 0) (c := c) (.inl rfl) hN' hr rfl
  unfold farV farP at hfar1 hfar2
  rw [if_neg (by omega), if_neg (by omega)] at hfar1 hfar2
  have e1 : (1 + n.tmod 19).toNat = (n.tmod 19).toNat + 1 := by omega
  have e2 : (1 + n.tmod 19 + 1).toNat = (n.tmod 19).toNat + 1 + 1 := by omega
  rw [e1] at hfar1
  rw [e2] at hfar2
  by_cases hb : bestF (sp s l) s.long l.length < 0
  · have f1 : ∀ m, farS (sp s l) l.length s.short m s.long = s.long := farS_stop (.inr hb)
    rw [f1, if_pos (by omega)] at hfar1 hfar2
    have hpe : planE s l = 19 := by
      unfold planE planS
      rw [if_neg (by omega), grd_stop (.inr hb), if_neg (by simp only; omega)]
    rw [hpe] at hplan
    refine acall_intro 1 144 Try.func13 rfl rfl rfl rfl rfl ?_
    repeat' (first | (refine gU ?_; first | (refine gMove ?_; first | refine st (ok_move rfl) rfl rfl ?_) | (refine gAssign ?_; first | refine st (ok_assign rfl) rfl rfl ?_) | (refine gFA ?_; first | refine st (ok_fieldAddr rfl) rfl rfl ?_) | (refine gLoad ?_; first | refine st (ok_load rfl (by first | rfl | assumption)) rfl rfl ?_ | refine st (ok_loadA rfl (by first | rfl | assumption)) rfl rfl ?_) | (refine gAdd ?_; first | refine st (ok_inc rfl rfl (by omega)) rfl rfl ?_ | refine st (ok_add rfl rfl (by omega) (by omega)) rfl rfl ?_ | refine st (ok_bin rfl rfl rfl) rfl rfl ?_) | (refine gBin ?_; first | refine st (ok_bin rfl rfl rfl) rfl rfl ?_ | refine st (ok_rem rfl rfl (by omega)) rfl rfl ?_ | refine st (ok_eq2 rfl rfl) rfl rfl ?_ | refine st (ok_neq2 rfl rfl) rfl rfl ?_) | (refine gLen ?_; first | refine st (ok_len rfl) rfl rfl ?_ | refine st (ok_lenV rfl) rfl rfl ?_) | (refine gPick ?_; first | refine st (ok_pickT rfl (by first | rfl | exact dtrue (by assumption) | exact dfalse (by assumption) | assumption | exact dtrue (by omega) | exact dfalse (by omega)) rfl) rfl rfl ?_ | refine st (ok_pickF rfl (by first | rfl | exact dtrue (by assumption) | exact dfalse (by assumption) | assumption | exact dtrue (by omega) | exact dfalse (by omega)) rfl) rfl rfl ?_) | (refine gNot ?_; first | refine st (ok_notD rfl) rfl rfl ?_ | refine st (ok_not' rfl) rfl rfl ?_) | (refine gExtract ?_; first | refine st (ok_extract rfl rfl) rfl rfl ?_) | (refine gIA ?_; first | refine st (ok_idxN rfl rfl (by omega)) rfl rfl ?_ | refine st (ok_idxSN rfl rfl (by omega)) rfl rfl ?_ | refine st (ok_idxAN rfl rfl (by omega)) rfl rfl ?_ | refine st (ok_idx rfl rfl (by omega) (by omega)) rfl rfl ?_ | refine st (ok_idxG rfl rfl (by omega) (by omega)) rfl rfl ?_ | refine st (ok_idxA rfl rfl (by omega) (by omega)) rfl rfl ?_) | (refine gConv ?_; first | refine st (ok_conv64 rfl (by omega) (by omega)) rfl rfl ?_ | refine st (ok_convK rfl (by omega) (by omega)) rfl rfl ?_) | (refine gCall ?_; first | refine st (ok_call rfl rfl rfl (by first | exact fine_ev (by first | exact .inl rfl | exact .inr (.inl rfl) | exact .inr (.inr ⟨_, rfl⟩) | assumption) (by assumption) rfl | exact works_ev rfl | exact hfar1 | exact hfar2 | exact hplan | exact hcount | exact hpl)) rfl rfl ?_) | (refine gBox ?_; first | refine st (ok_box rfl) rfl rfl ?_) | (refine gAlloc ?_; first | refine st (ok_alloc rfl) rfl rfl ?_) | (refine gStore ?_; refine stN (ok_store rfl rfl rfl rfl (by first | rfl | assumption | exact hp1 (by omega) | exact hp2 (by omega))) rfl ?_)) | (refine gG ?_; first | (refine gMove ?_; first | refine stG rfl (by first | rfl | exact dtrue (by assumption) | exact dfalse (by assumption) | assumption | exact dtrue (by omega) | exact dfalse (by omega)) (ok_move rfl) rfl rfl ?_) | (refine gFA ?_; first | refine stG rfl (by first | rfl | exact dtrue (by assumption) | exact dfalse (by assumption) | assumption | exact dtrue (by omega) | exact dfalse (by omega)) (ok_fieldAddr rfl) rfl rfl ?_) | (refine gLoad ?_; first | refine stG rfl (by first | rfl | exact dtrue (by assumption) | exact dfalse (by assumption) | assumption | exact dtrue (by omega) | exact dfalse (by omega)) (ok_load rfl (by first | rfl | assumption)) rfl rfl ?_ | refine stG rfl (by first | rfl | exact dtrue (by assumption) | exact dfalse (by assumption) | assumption | exact dtrue (by omega) | exact dfalse (by omega)) (ok_loadA rfl (by first | rfl | assumption)) rfl rfl ?_) | (refine gBin ?_; first | refine stG rfl (by first | rfl | exact dtrue (by assumption) | exact dfalse (by assumption) | assumption | exact dtrue (by omega) | exact dfalse (by omega)) (ok_bin rfl rfl rfl) rfl rfl ?_ | refine stG rfl (by first | rfl | exact dtrue (by assumption) | exact dfalse (by assumption) | assumption | exact dtrue (by omega) | exact dfalse (by omega)) (ok_eq2 rfl rfl) rfl rfl ?_ | refine stG rfl (by first | rfl | exact dtrue (by assumption) | exact dfalse (by assumption) | assumption | exact dtrue (by omega) | exact dfalse (by omega)) (ok_neq2 rfl rfl) rfl rfl ?_) | (refine gPick ?_; first | refine stG rfl (by first | rfl | exact dtrue (by assumption) | exact dfalse (by assumption) | assumption | exact dtrue (by omega) | exact dfalse (by omega)) (ok_pickT rfl (by first | rfl | exact dtrue (by assumption) | exact dfalse (by assumption) | assumption | exact dtrue (by omega) | exact dfalse (by omega)) rfl) rfl rfl ?_ | refine stG rfl (by first | rfl | exact dtrue (by assumption) | exact dfalse (by assumption) | assumption | exact dtrue (by omega) | exact dfalse (by omega)) (ok_pickF rfl (by first | rfl | exact dtrue (by assumption) | exact dfalse (by assumption) | assumption | exact dtrue (by omega) | exact dfalse (by omega)) rfl) rfl rfl ?_) | (refine gCall ?_; first | refine stG rfl (by first | rfl | exact dtrue (by assumption) | exact dfalse (by assumption) | assumption | exact dtrue (by omega) | exact dfalse (by omega)) (ok_call rfl rfl rfl (by first | exact fine_ev (by first | exact .inl rfl | exact .inr (.inl rfl) | exact .inr (.inr ⟨_, rfl⟩) | assumption) (by assumption) rfl | exact works_ev rfl | exact hfar1 | exact hfar2 | exact hplan | exact hcount | exact hpl)) rfl rfl ?_) | refine stSU rfl rfl ?_ | refine stS rfl (by first | rfl | exact dtrue (by assumption) | exact dfalse (by assumption) | assumption | exact dtrue (by omega) | exact dfalse (by omega)) rfl ?_ | ((fail_if_success (refine stGk rfl (by first | rfl | exact dtrue (by assumption) | exact dfalse (by assumption) | assumption | exact dtrue (by omega) | exact dfalse (by omega)) ?_)); first | (refine stGdD rfl ?_ ?_ <;> intro _) | (refine stGd rfl ?_ ?_ <;> intro _))) | refine W_seq ?_ | refine W_region ?_ | refine st_nil ?_ | refine tq_n ?_ | refine tq_r ?_ | refine tq_e ?_ | refine bq_n ?_ | refine bq_r ?_ | refine bq_hit rfl ?_ | refine bq_miss rfl ?_ | refine W_skip ?_ | refine W_exit ?_ | refine W_ret ?_ | refine W_block ?_ | refine W_condT rfl (by first | rfl | exact dtrue (by assumption) | exact dfalse (by assumption) | assumption | exact dtrue (by omega) | exact dfalse (by omega)) ?_ | refine W_condF rfl (by first | rfl | exact dtrue (by assumption) | exact dfalse (by assumption) | assumption | exact dtrue (by omega) | exact dfalse (by omega)) ?_ | (refine W_condD rfl ?_ ?_ <;> intro _) | (refine W_cond rfl ?_ ?_ <;> intro _))
    exact ret0 (.tmp rfl .nil) (.plain rfl rfl) ⟨rfl, rfl⟩
  · obtain ⟨g1, g2, g3, g4, g5, g6⟩ := farther_facts h (n.tmod 19).toNat hb
    obtain ⟨k1, k2, -, -, -, -⟩ := farther_facts h ((n.tmod 19).toNat + 1) hb
    have hanti : farS (sp s l) l.length s.short ((n.tmod 19).toNat + 1 + 1) s.long + 1 ≤ farS (sp s l) l.length s.short ((n.tmod 19).toNat + 1) s.long + 1 := by
      have := farS_anti (F := sp s l) (n := l.length) (short := s.short) ((n.tmod 19).toNat + 1) s.long
      omega
    rw [if_neg (by omega)] at hfar1 hfar2
    dsimp only at hfar1 hfar2
    generalize farS (sp s l) l.length s.short ((n.tmod 19).toNat + 1) s.long + 1 = A at *
    generalize farS (sp s l) l.length s.short ((n.tmod 19).toNat + 1 + 1) s.long + 1 = B at *
    have hcount := count_ev (σ := [.ro (ints l), .rw s.cells, .rw (runsC (planR s l)), .rw (cut s A).cells]) (s := cut s A) (l := l) (a := 0) (c := c) (.inl rfl) hN' (by unfold cut; simp only; omega) g3 rfl
    have hp019 : planE s l = 0 ∨ planE s l = 19 := by
      unfold planE; rw [if_neg (by omega)]; split <;> simp
    generalize (planR (cut s A) l).length = M at g4 hcount
    rcases hp019 with hpe | hpe
    · have g7 := g6 hpe
      rw [hpe] at hplan
      by_cases hlt : (n.tmod 19).toNat + 1 < (planR s l).length
      · rw [if_pos hlt] at g7
        have hcr : cellGet [.ro (ints l), .rw s.cells, .rw (runsC (planR s l)), .rw (cut s A).cells] 2 (0 + (1 + n.tmod 19).toNat * 2 + 0) = some (.int .i64 (gp (planR s l) ((n.tmod 19).toNat + 1)).1) := by
          rw [e1]; simpa [cellGet] using runs_get1 hlt
        clear g5 g6
        refine acall_intro 1 144 Try.func13 rfl rfl rfl rfl rfl ?_
        repeat' (first | (refine gU ?_; first | (refine gMove ?_; first | refine st (ok_move rfl) rfl rfl ?_) | (refine gAssign ?_; first | refine st (ok_assign rfl) rfl rfl ?_) | (refine gFA ?_; first | refine st (ok_fieldAddr rfl) rfl rfl ?_) | (refine gLoad ?_; first | refine st (ok_load rfl (by first | rfl | assumption)) rfl rfl ?_ | refine st (ok_loadA rfl (by first | rfl | assumption)) rfl rfl ?_) | (refine gAdd ?_; first | refine st (ok_inc rfl rfl (by omega)) rfl rfl ?_ | refine st (ok_add rfl rfl (by omega) (by omega)) rfl rfl ?_ | refine st (ok_bin rfl rfl rfl) rfl rfl ?_) | (refine gBin ?_; first | refine st (ok_bin rfl rfl rfl) rfl rfl ?_ | refine st (ok_rem rfl rfl (by omega)) rfl rfl ?_ | refine st (ok_eq2 rfl rfl) rfl rfl ?_ | refine st (ok_neq2 rfl rfl) rfl rfl ?_) | (refine gLen ?_; first | refine st (ok_len rfl) rfl rfl ?_ | refine st (ok_lenV rfl) rfl rfl ?_) | (refine gPick ?_; first | refine st (ok_pickT rfl (by first | rfl | exact dtrue (by assumption) | exact dfalse (by assumption) | assumption | exact dtrue (by omega) | exact dfalse (by omega)) rfl) rfl rfl ?_ | refine st (ok_pickF rfl (by first | rfl | exact dtrue (by assumption) | exact dfalse (by assumption) | assumption | exact dtrue (by omega) | exact dfalse (by omega)) rfl) rfl rfl ?_) | (refine gNot ?_; first | refine st (ok_notD rfl) rfl rfl ?_ | refine st (ok_not' rfl) rfl rfl ?_) | (refine gExtract ?_; first | refine st (ok_extract rfl rfl) rfl rfl ?_) | (refine gIA ?_; first | refine st (ok_idxN rfl rfl (by omega)) rfl rfl ?_ | refine st (ok_idxSN rfl rfl (by omega)) rfl rfl ?_ | refine st (ok_idxAN rfl rfl (by omega)) rfl rfl ?_ | refine st (ok_idx rfl rfl (by omega) (by omega)) rfl rfl ?_ | refine st (ok_idxG rfl rfl (by omega) (by omega)) rfl rfl ?_ | refine st (ok_idxA rfl rfl (by omega) (by omega)) rfl rfl ?_) | (refine gConv ?_; first | refine st (ok_conv64 rfl (by omega) (by omega)) rfl rfl ?_ | refine st (ok_convK rfl (by omega) (by omega)) rfl rfl ?_) | (refine gCall ?_; first | refine st (ok_call rfl rfl rfl (by first | exact fine_ev (by first | exact .inl rfl | exact .inr (.inl rfl) | exact .inr (.inr ⟨_, rfl⟩) | assumption) (by assumption) rfl | exact works_ev rfl | exact hfar1 | exact hfar2 | exact hplan | exact hcount | exact hpl)) rfl rfl ?_) | (refine gBox ?_; first | refine st (ok_box rfl) rfl rfl ?_) | (refine gAlloc ?_; first | refine st (ok_alloc rfl) rfl rfl ?_) | (refine gStore ?_; refine stN (ok_store rfl rfl rfl rfl (by first | rfl | assumption | exact hp1 (by omega) | exact hp2 (by omega))) rfl ?_)) | (refine gG ?_; first | (refine gMove ?_; first | refine stG rfl (by first | rfl | exact dtrue (by assumption) | exact dfalse (by assumption) | assumption | exact dtrue (by omega) | exact dfalse (by omega)) (ok_move rfl) rfl rfl ?_) | (refine gFA ?_; first | refine stG rfl (by first | rfl | exact dtrue (by assumption) | exact dfalse (by assumption) | assumption | exact dtrue (by omega) | exact dfalse (by omega)) (ok_fieldAddr rfl) rfl rfl ?_) | (refine gLoad ?_; first | refine stG rfl (by first | rfl | exact dtrue (by assumption) | exact dfalse (by assumption) | assumption | exact dtrue (by omega) | exact dfalse (by omega)) (ok_load rfl (by first | rfl | assumption)) rfl rfl ?_ | refine stG rfl (by first | rfl | exact dtrue (by assumption) | exact dfalse (by assumption) | assumption | exact dtrue (by omega) | exact dfalse (by omega)) (ok_loadA rfl (by first | rfl | assumption)) rfl rfl ?_) | (refine gBin ?_; first | refine stG rfl (by first | rfl | exact dtrue (by assumption) | exact dfalse (by assumption) | assumption | exact dtrue (by omega) | exact dfalse (by omega)) (ok_bin rfl rfl rfl) rfl rfl ?_ | refine stG rfl (by first | rfl | exact dtrue (by assumption) | exact dfalse (by assumption) | assumption | exact dtrue (by omega) | exact dfalse (by omega)) (ok_eq2 rfl rfl) rfl rfl ?_ | refine stG rfl (by first | rfl | exact dtrue (by assumption) | exact dfalse (by assumption) | assumption | exact dtrue (by omega) | exact dfalse (by omega)) (ok_neq2 rfl rfl) rfl rfl ?_) | (refine gPick ?_; first | refine stG rfl (by first | rfl | exact dtrue (by assumption) | exact dfalse (by assumption) | assumption | exact dtrue (by omega) | exact dfalse (by omega)) (ok_pickT rfl (by first | rfl | exact dtrue (by assumption) | exact dfalse (by assumption) | assumption | exact dtrue (by omega) | exact dfalse (by omega)) rfl) rfl rfl ?_ | refine stG rfl (by first | rfl | exact dtrue (by assumption) | exact dfalse (by assumption) | assumption | exact dtrue (by omega) | exact dfalse (by omega)) (ok_pickF rfl (by first | rfl | exact dtrue (by assumption) | exact dfalse (by assumption) | assumption | exact dtrue (by omega) | exact dfalse (by omega)) rfl) rfl rfl ?_) | (refine gCall ?_; first | refine stG rfl (by first | rfl | exact dtrue (by assumption) | exact dfalse (by assumption) | assumption | exact dtrue (by omega) | exact dfalse (by omega)) (ok_call rfl rfl rfl (by first | exact fine_ev (by first | exact .inl rfl | exact .inr (.inl rfl) | exact .inr (.inr ⟨_, rfl⟩) | assumption) (by assumption) rfl | exact works_ev rfl | exact hfar1 | exact hfar2 | exact hplan | exact hcount | exact hpl)) rfl rfl ?_) | refine stSU rfl rfl ?_ | refine stS rfl (by first | rfl | exact dtrue (by assumption) | exact dfalse (by assumption) | assumption | exact dtrue (by omega) | exact dfalse (by omega)) rfl ?_ | ((fail_if_success (refine stGk rfl (by first | rfl | exact dtrue (by assumption) | exact dfalse (by assumption) | assumption | exact dtrue (by omega) | exact dfalse (by omega)) ?_)); first | (refine stGdD rfl ?_ ?_ <;> intro _) | (refine stGd rfl ?_ ?_ <;> intro _))) | refine W_seq ?_ | refine W_region ?_ | refine st_nil ?_ | refine tq_n ?_ | refine tq_r ?_ | refine tq_e ?_ | refine bq_n ?_ | refine bq_r ?_ | refine bq_hit rfl ?_ | refine bq_miss rfl ?_ | refine W_skip ?_ | refine W_exit ?_ | refine W_ret ?_ | refine W_block ?_ | refine W_condT rfl (by first | rfl | exact dtrue (by assumption) | exact dfalse (by assumption) | assumption | exact dtrue (by omega) | exact dfalse (by omega)) ?_ | refine W_condF rfl (by first | rfl | exact dtrue (by assumption) | exact dfalse (by assumption) | assumption | exact dtrue (by omega) | exact dfalse (by omega)) ?_ | (refine W_condD rfl ?_ ?_ <;> intro _) | (refine W_cond rfl ?_ ?_ <;> intro _))
        exact ret0 (.tmp rfl .nil) (.plain rfl rfl) ⟨rfl, rfl⟩
      · rw [if_neg hlt] at g7
        clear g5 g6
        refine acall_intro 1 144 Try.func13 rfl rfl rfl rfl rfl ?_
        repeat' (first | (refine gU ?_; first | (refine gMove ?_; first | refine st (ok_move rfl) rfl rfl ?_) | (refine gAssign ?_; first | refine st (ok_assign rfl) rfl rfl ?_) | (refine gFA ?_; first | refine st (ok_fieldAddr rfl) rfl rfl ?_) | (refine gLoad ?_; first | refine st (ok_load rfl (by first | rfl | assumption)) rfl rfl ?_ | refine st (ok_loadA rfl (by first | rfl | assumption)) rfl rfl ?_) | (refine gAdd ?_; first | refine st (ok_inc rfl rfl (by omega)) rfl rfl ?_ | refine st (ok_add rfl rfl (by omega) (by omega)) rfl rfl ?_ | refine st (ok_bin rfl rfl rfl) rfl rfl ?_) | (refine gBin ?_; first | refine st (ok_bin rfl rfl rfl) rfl rfl ?_ | refine st (ok_rem rfl rfl (by omega)) rfl rfl ?_ | refine st (ok_eq2 rfl rfl) rfl rfl ?_ | refine st (ok_neq2 rfl rfl) rfl rfl ?_) | (refine gLen ?_; first | refine st (ok_len rfl) rfl rfl ?_ | refine st (ok_lenV rfl) rfl rfl ?_) | (refine gPick ?_; first | refine st (ok_pickT rfl (by first | rfl | exact dtrue (by assumption) | exact dfalse (by assumption) | assumption | exact dtrue (by omega) | exact dfalse (by omega)) rfl) rfl rfl ?_ | refine st (ok_pickF rfl (by first | rfl | exact dtrue (by assumption) | exact dfalse (by assumption) | assumption | exact dtrue (by omega) | exact dfalse (by omega)) rfl) rfl rfl ?_) | (refine gNot ?_; first | refine st (ok_notD rfl) rfl rfl ?_ | refine st (ok_not' rfl) rfl rfl ?_) | (refine gExtract ?_; first | refine st (ok_extract rfl rfl) rfl rfl ?_) | (refine gIA ?_; first | refine st (ok_idxN rfl rfl (by omega)) rfl rfl ?_ | refine st (ok_idxSN rfl rfl (by omega)) rfl rfl ?_ | refine st (ok_idxAN rfl rfl (by omega)) rfl rfl ?_ | refine st (ok_idx rfl rfl (by omega) (by omega)) rfl rfl ?_ | refine st (ok_idxG rfl rfl (by omega) (by omega)) rfl rfl ?_ | refine st (ok_idxA rfl rfl (by omega) (by omega)) rfl rfl ?_) | (refine gConv ?_; first | refine st (ok_conv64 rfl (by omega) (by omega)) rfl rfl ?_ | refine st (ok_convK rfl (by omega) (by omega)) rfl rfl ?_) | (refine gCall ?_; first | refine st (ok_call rfl rfl rfl (by first | exact fine_ev (by first | exact .inl rfl | exact .inr (.inl rfl) | exact .inr (.inr ⟨_, rfl⟩) | assumption) (by assumption) rfl | exact works_ev rfl | exact hfar1 | exact hfar2 | exact hplan | exact hcount | exact hpl)) rfl rfl ?_) | (refine gBox ?_; first | refine st (ok_box rfl) rfl rfl ?_) | (refine gAlloc ?_; first | refine st (ok_alloc rfl) rfl rfl ?_) | (refine gStore ?_; refine stN (ok_store rfl rfl rfl rfl (by first | rfl | assumption | exact hp1 (by omega) | exact hp2 (by omega))) rfl ?_)) | (refine gG ?_; first | (refine gMove ?_; first | refine stG rfl (by first | rfl | exact dtrue (by assumption) | exact dfalse (by assumption) | assumption | exact dtrue (by omega) | exact dfalse (by omega)) (ok_move rfl) rfl rfl ?_) | (refine gFA ?_; first | refine stG rfl (by first | rfl | exact dtrue (by assumption) | exact dfalse (by assumption) | assumption | exact dtrue (by omega) | exact dfalse (by omega)) (ok_fieldAddr rfl) rfl rfl ?_) | (refine gLoad ?_; first | refine stG rfl (by first | rfl | exact dtrue (by assumption) | exact dfalse (by assumption) | assumption | exact dtrue (by omega) | exact dfalse (by omega)) (ok_load rfl (by first | rfl | assumption)) rfl rfl ?_ | refine stG rfl (by first | rfl | exact dtrue (by assumption) | exact dfalse (by assumption) | assumption | exact dtrue (by omega) | exact dfalse (by omega)) (ok_loadA rfl (by first | rfl | assumption)) rfl rfl ?_) | (refine gBin ?_; first | refine stG rfl (by first | rfl | exact dtrue (by assumption) | exact dfalse (by assumption) | assumption | exact dtrue (by omega) | exact dfalse (by omega)) (ok_bin rfl rfl rfl) rfl rfl ?_ | refine stG rfl (by first | rfl | exact dtrue (by assumption) | exact dfalse (by assumption) | assumption | exact dtrue (by omega) | exact dfalse (by omega)) (ok_eq2 rfl rfl) rfl rfl ?_ | refine stG rfl (by first | rfl | exact dtrue (by assumption) | exact dfalse (by assumption) | assumption | exact dtrue (by omega) | exact dfalse (by omega)) (ok_neq2 rfl rfl) rfl rfl ?_) | (refine gPick ?_; first | refine stG rfl (by first | rfl | exact dtrue (by assumption) | exact dfalse (by assumption) | assumption | exact dtrue (by omega) | exact dfalse (by omega)) (ok_pickT rfl (by first | rfl | exact dtrue (by assumption) | exact dfalse (by assumption) | assumption | exact dtrue (by omega) | exact dfalse (by omega)) rfl) rfl rfl ?_ | refine stG rfl (by first | rfl | exact dtrue (by assumption) | exact dfalse (by assumption) | assumption | exact dtrue (by omega) | exact dfalse (by omega)) (ok_pickF rfl (by first | rfl | exact dtrue (by assumption) | exact dfalse (by assumption) | assumption | exact dtrue (by omega) | exact dfalse (by omega)) rfl) rfl rfl ?_) | (refine gCall ?_; first | refine stG rfl (by first | rfl | exact dtrue (by assumption) | exact dfalse (by assumption) | assumption | exact dtrue (by omega) | exact dfalse (by omega)) (ok_call rfl rfl rfl (by first | exact fine_ev (by first | exact .inl rfl | exact .inr (.inl rfl) | exact .inr (.inr ⟨_, rfl⟩) | assumption) (by assumption) rfl | exact works_ev rfl | exact hfar1 | exact hfar2 | exact hplan | exact hcount | exact hpl)) rfl rfl ?_) | refine stSU rfl rfl ?_ | refine stS rfl (by first | rfl | exact dtrue (by assumption) | exact dfalse (by assumption) | assumption | exact dtrue (by omega) | exact dfalse (by omega)) rfl ?_ | ((fail_if_success (refine stGk rfl (by first | rfl | exact dtrue (by assumption) | exact dfalse (by assumption) | assumption | exact dtrue (by omega) | exact dfalse (by omega)) ?_)); first | (refine stGdD rfl ?_ ?_ <;> intro _) | (refine stGd rfl ?_ ?_ <;> intro _))) | refine W_seq ?_ | refine W_region ?_ | refine st_nil ?_ | refine tq_n ?_ | refine tq_r ?_ | refine tq_e ?_ | refine bq_n ?_ | refine bq_r ?_ | refine bq_hit rfl ?_ | refine bq_miss rfl ?_ | refine W_skip ?_ | refine W_exit ?_ | refine W_ret ?_ | refine W_block ?_ | refine W_condT rfl (by first | rfl | exact dtrue (by assumption) | exact dfalse (by assumption) | assumption | exact dtrue (by omega) | exact dfalse (by omega)) ?_ | refine W_condF rfl (by first | rfl | exact dtrue (by assumption) | exact dfalse (by assumption) | assumption | exact dtrue (by omega) | exact dfalse (by omega)) ?_ | (refine W_condD rfl ?_ ?_ <;> intro _) | (refine W_cond rfl ?_ ?_ <;> intro _))
        exact ret0 (.tmp rfl .nil) (.plain rfl rfl) ⟨rfl, rfl⟩
    · have g7 := g5 (by omega)
      rw [hpe] at hplan
      clear g5 g6
      refine acall_intro 1 144 Try.func13 rfl rfl rfl rfl rfl ?_
      repeat' (first | (refine gU ?_; first | (refine gMove ?_; first | refine st (ok_move rfl) rfl rfl ?_) | (refine gAssign ?_; first | refine st (ok_assign rfl) rfl rfl ?_) | (refine gFA ?_; first | refine st (ok_fieldAddr rfl) rfl rfl ?_) | (refine gLoad ?_; first | refine st (ok_load rfl (by first | rfl | assumption)) rfl rfl ?_ | refine st (ok_loadA rfl (by first | rfl | assumption)) rfl rfl ?_) | (refine gAdd ?_; first | refine st (ok_inc rfl rfl (by omega)) rfl rfl ?_ | refine st (ok_add rfl rfl (by omega) (by omega)) rfl rfl ?_ | refine st (ok_bin rfl rfl rfl) rfl rfl ?_) | (refine gBin ?_; first | refine st (ok_bin rfl rfl rfl) rfl rfl ?_ | refine st (ok_rem rfl rfl (by omega)) rfl rfl ?_ | refine st (ok_eq2 rfl rfl) rfl rfl ?_ | refine st (ok_neq2 rfl rfl) rfl rfl ?_) | (refine gLen ?_; first | refine st (ok_len rfl) rfl rfl ?_ | refine st (ok_lenV rfl) rfl rfl ?_) | (refine gPick ?_; first | refine st (ok_pickT rfl (by first | rfl | exact dtrue (by assumption) | exact dfalse (by assumption) | assumption | exact dtrue (by omega) | exact dfalse (by omega)) rfl) rfl rfl ?_ | refine st (ok_pickF rfl (by first | rfl | exact dtrue (by assumption) | exact dfalse (by assumption) | assumption | exact dtrue (by omega) | exact dfalse (by omega)) rfl) rfl rfl ?_) | (refine gNot ?_; first | refine st (ok_notD rfl) rfl rfl ?_ | refine st (ok_not' rfl) rfl rfl ?_) | (refine gExtract ?_; first | refine st (ok_extract rfl rfl) rfl rfl ?_) | (refine gIA ?_; first | refine st (ok_idxN rfl rfl (by omega)) rfl rfl ?_ | refine st (ok_idxSN rfl rfl (by omega)) rfl rfl ?_ | refine st (ok_idxAN rfl rfl (by omega)) rfl rfl ?_ | refine st (ok_idx rfl rfl (by omega) (by omega)) rfl rfl ?_ | refine st (ok_idxG rfl rfl (by omega) (by omega)) rfl rfl ?_ | refine st (ok_idxA rfl rfl (by omega) (by omega)) rfl rfl ?_) | (refine gConv ?_; first | refine st (ok_conv64 rfl (by omega) (by omega)) rfl rfl ?_ | refine st (ok_convK rfl (by omega) (by omega)) rfl rfl ?_) | (refine gCall ?_; first | refine st (ok_call rfl rfl rfl (by first | exact fine_ev (by first | exact .inl rfl | exact .inr (.inl rfl) | exact .inr (.inr ⟨_, rfl⟩) | assumption) (by assumption) rfl | exact works_ev rfl | exact hfar1 | exact hfar2 | exact hplan | exact hcount | exact hpl)) rfl rfl ?_) | (refine gBox ?_; first | refine st (ok_box rfl) rfl rfl ?_) | (refine gAlloc ?_; first | refine st (ok_alloc rfl) rfl rfl ?_) | (refine gStore ?_; refine stN (ok_store rfl rfl rfl rfl (by first | rfl | assumption | exact hp1 (by omega) | exact hp2 (by omega))) rfl ?_)) | (refine gG ?_; first | (refine gMove ?_; first | refine stG rfl (by first | rfl | exact dtrue (by assumption) | exact dfalse (by assumption) | assumption | exact dtrue (by omega) | exact dfalse (by omega)) (ok_move rfl) rfl rfl ?_) | (refine gFA ?_; first | refine stG rfl (by first | rfl | exact dtrue (by assumption) | exact dfalse (by assumption) | assumption | exact dtrue (by omega) | exact dfalse (by omega)) (ok_fieldAddr rfl) rfl rfl ?_) | (refine gLoad ?_; first | refine stG rfl (by first | rfl | exact dtrue (by assumption) | exact dfalse (by assumption) | assumption | exact dtrue (by omega) | exact dfalse (by omega)) (ok_load rfl (by first | rfl | assumption)) rfl rfl ?_ | refine stG rfl (by first | rfl | exact dtrue (by assumption) | exact dfalse (by assumption) | assumption | exact dtrue (by omega) | exact dfalse (by omega)) (ok_loadA rfl (by first | rfl | assumption)) rfl rfl ?_) | (refine gBin ?_; first | refine stG rfl (by first | rfl | exact dtrue (by assumption) | exact dfalse (by assumption) | assumption | exact dtrue (by omega) | exact dfalse (by omega)) (ok_bin rfl rfl rfl) rfl rfl ?_ | refine stG rfl (by first | rfl | exact dtrue (by assumption) | exact dfalse (by assumption) | assumption | exact dtrue (by omega) | exact dfalse (by omega)) (ok_eq2 rfl rfl) rfl rfl ?_ | refine stG rfl (by first | rfl | exact dtrue (by assumption) | exact dfalse (by assumption) | assumption | exact dtrue (by omega) | exact dfalse (by omega)) (ok_neq2 rfl rfl) rfl rfl ?_) | (refine gPick ?_; first | refine stG rfl (by first | rfl | exact dtrue (by assumption) | exact dfalse (by assumption) | assumption | exact dtrue (by omega) | exact dfalse (by omega)) (ok_pickT rfl (by first | rfl | exact dtrue (by assumption) | exact dfalse (by assumption) | assumption | exact dtrue (by omega) | exact dfalse (by omega)) rfl) rfl rfl ?_ | refine stG rfl (by first | rfl | exact dtrue (by assumption) | exact dfalse (by assumption) | assumption | exact dtrue (by omega) | exact dfalse (by omega)) (ok_pickF rfl (by first | rfl | exact dtrue (by assumption) | exact dfalse (by assumption) | assumption | exact dtrue (by omega) | exact dfalse (by omega)) rfl) rfl rfl ?_) | (refine gCall ?_; first | refine stG rfl (by first | rfl | exact dtrue (by assumption) | exact dfalse (by assumption) | assumption | exact dtrue (by omega) | exact dfalse (by omega)) (ok_call rfl rfl rfl (by first | exact fine_ev (by first | exact .inl rfl | exact .inr (.inl rfl) | exact .inr (.inr ⟨_, rfl⟩) | assumption) (by assumption) rfl | exact works_ev rfl | exact hfar1 | exact hfar2 | exact hplan | exact hcount | exact hpl)) rfl rfl ?_) | refine stSU rfl rfl ?_ | refine stS rfl (by first | rfl | exact dtrue (by assumption) | exact dfalse (by assumption) | assumption | exact dtrue (by omega) | exact dfalse (by omega)) rfl ?_ | ((fail_if_success (refine stGk rfl (by first | rfl | exact dtrue (by assumption) | exact dfalse (by assumption) | assumption | exact dtrue (by omega) | exact dfalse (by omega)) ?_)); first | (refine stGdD rfl ?_ ?_ <;> intro _) | (refine stGd rfl ?_ ?_ <;> intro _))) | refine W_seq ?_ | refine W_region ?_ | refine st_nil ?_ | refine tq_n ?_ | refine tq_r ?_ | refine tq_e ?_ | refine bq_n ?_ | refine bq_r ?_ | refine bq_hit rfl ?_ | refine bq_miss rfl ?_ | refine W_skip ?_ | refine W_exit ?_ | refine W_ret ?_ | refine W_block ?_ | refine W_condT rfl (by first | rfl | exact dtrue (by assumption) | exact dfalse (by assumption) | assumption | exact dtrue (by omega) | exact dfalse (by omega)) ?_ | refine W_condF rfl (by first | rfl | exact dtrue (by assumption) | exact dfalse (by assumption) | assumption | exact dtrue (by omega) | exact dfalse (by omega)) ?_ | (refine W_condD rfl ?_ ?_ <;> intro _) | (refine W_cond rfl ?_ ?_ <;> intro _))
      exact ret0 (.tmp rfl .nil) (.plain rfl rfl) ⟨rfl, rfl⟩
theorem rimFarther_law (s : St) (l : List Int) (c : Nat) (n : Int) (hr : -9223372036854775808 ≤ s.short ∧ s.short ≤ 9223372036854775807) (hN : l.length ≤ 9223372036854775807) (hn : 0 ≤ n ∧ n ≤ 255) : Ev Try.prog 13 [s.val, .slice (some ⟨0, 0, none⟩) l.length c, .int .u8 n] [.ro (ints l)] (.bool true) [.ro (ints l)] := by
  by_cases h : checkS s l = 0
  · exact farther_ok s l c n hr hn h
  · exact farther_bad s l c n hN h
end Go.Proofs.Ytgfnogdecggkkaa
