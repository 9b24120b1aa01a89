/- How plans, and how many runs, change with a stone and its pulleys, plainly; what count returns where there is a gap. -/
import Derived.Test.YtgfnogdecggkkaaKcQ2
import Derived.Test.YtgfnogdecggkkaaKcQ3
import Derived.Test.YtgfnogdecggkkaaKcQ1
namespace Go.Proofs.Ytgfnogdecggkkaa
open Go Go.AH
attribute [local irreducible] WOps WCode WFree retQ thenQ blockQ OpOk ACall RetRef roundA roundB
set_option maxRecDepth 100000
set_option maxHeartbeats 1000000
end Go.Proofs.Ytgfnogdecggkkaa
namespace Go.Proofs.Ytgfnogdecggkkaa
open Go Go.AH
attribute [local irreducible] WOps WCode WFree retQ thenQ blockQ OpOk ACall RetRef roundA roundB
set_option maxRecDepth 100000
set_option maxHeartbeats 1000000
end Go.Proofs.Ytgfnogdecggkkaa
namespace Go.Proofs.Ytgfnogdecggkkaa
open Go Go.AH
attribute [local irreducible] WOps WCode WFree retQ thenQ blockQ OpOk ACall RetRef roundA roundB
set_option maxRecDepth 100000
set_option maxHeartbeats 1000000
def allowP (s : St) (l : List Int) (p : Int) : (Int × Int) × Int :=
  if checkS s l ≠ 0 then ((0, 0), checkS s l) else if p < 0 ∨ p ≥ l.length then ((0, 0), 3) else if spanAt s l p.toNat = nw then ((0, 0), 5) else (spanAt s l p.toNat, 0)
def allowV (s : St) (l : List Int) (p : Int) : Value := .tuple #[pairV (allowP s l p).1, .int .i64 (allowP s l p).2]
def gapP (s : St) (l : List Int) : Int × Int :=
  if checkS s l ≠ 0 then (0, checkS s l) else if gapS (spanAt s l) l.length s.short s.long < 0 then (0, 5) else (gapS (spanAt s l) l.length s.short s.long, 0)
def gapV (s : St) (l : List Int) : Value := .tuple #[.int .i64 (gapP s l).1, .int .i64 (gapP s l).2]
end Go.Proofs.Ytgfnogdecggkkaa
namespace Go.Proofs.Ytgfnogdecggkkaa
open Go Go.AH
attribute [local irreducible] WOps WCode WFree retQ thenQ blockQ OpOk ACall RetRef roundA roundB
set_option maxRecDepth 100000
set_option maxHeartbeats 1000000
def times (s : St) (t : Int) : St := ⟨s.long, s.short, s.off, t * s.lo, t * s.hi⟩
def mulL (t : Int) (l : List Int) (k : Nat) : List Int := (l.take k).map (t * ·)
theorem fineV_ev {σ : Heap} {s : St} {l : List Int} {x n : Nat} (hx : arrAt σ x (ints l)) (hn : l.length = n) (hN : n ≤ 9223372036854775807) (hni : σ.all (fun o => !isIter o) = true) :
    Ev Try.prog 41 [s.val, slvV x 1 n] σ (.bool (decide (checkS s l = 0))) σ := by
  subst hn
  exact Ev.arrs [ints l] [x] (fine_ok s l l.length hN) ⟨hx, trivial⟩ ⟨vrel_plain _ rfl, vsub_slvR (by simp) (by simp [bsR]), trivial⟩ (by simp [ints_plain]) rfl hni
end Go.Proofs.Ytgfnogdecggkkaa
namespace Go.Proofs.Ytgfnogdecggkkaa
open Go Go.AH
attribute [local irreducible] WOps WCode WFree retQ thenQ blockQ OpOk ACall RetRef roundA roundB
set_option maxRecDepth 100000
set_option maxHeartbeats 1000000
theorem kindsL_gi {F : Nat → Int × Int} {n : Nat} {long short m : Int} : ∀ (k i : Nat), i < k → gi (kindsL F n long short m k) i = kindV F n long short i m
  | 0, i, h => by omega
  | k + 1, i, h => by
    have hl := kindsL_len (F := F) (n := n) (long := long) (short := short) (m := m) k
    simp only [kindsL]
    by_cases hi : i < k
    · rw [show gi (kindsL F n long short m k ++ [kindV F n long short k m]) i = gi (kindsL F n long short m k) i from by simp only [gi, List.getD_eq_getElem?_getD]; rw [List.getElem?_append_left (by omega)]]
      exact kindsL_gi k i hi
    · obtain rfl : i = k := by omega
      simp only [gi, List.getD_eq_getElem?_getD]
      rw [List.getElem?_append_right (by omega), hl, Nat.sub_self]; rfl
theorem planS_fewest {s : St} {l : List Int} (hc : checkS s l = 0) (hE : planE s l = 0) : (planS (sp s l) l.length s.long s.short).2 < s.short ∧ planR s l = (planS (sp s l) l.length s.long s.short).1 := by
  have hF : (planS (sp s l) l.length s.long s.short).2 < s.short := by
    unfold planE at hE
    rw [if_neg (by omega)] at hE
    apply Classical.byContradiction
    intro hn
    rw [if_neg hn] at hE
    cases hE
  refine ⟨hF, ?_⟩
  unfold planR planIf; rw [if_neg (by omega), if_pos hF]
end Go.Proofs.Ytgfnogdecggkkaa
namespace Go.Proofs.Ytgfnogdecggkkaa
open Go Go.AH
attribute [local irreducible] WOps WCode WFree retQ thenQ blockQ OpOk ACall RetRef roundA roundB
set_option maxRecDepth 100000
set_option maxHeartbeats 1000000
def cntV (s : St) (l : List Int) : Int := if planE s l = 0 then ((planR s l).length : Int) else 1000
theorem planE_01 {s : St} {l : List Int} (h : checkS s l = 0) : planE s l = 0 ∨ planE s l = 19 := by
  unfold planE; rw [if_neg (by omega)]; split <;> simp
theorem count2_ok (s : St) (l : List Int) (c : Nat) (hN : l.length ≤ 1000000) (hr : -9223372036854775808 ≤ s.short ∧ s.short ≤ 9223372036854775807) (h : checkS s l = 0) :
    Ev Try.prog 43 [s.val, .slice (some ⟨0, 0, none⟩) l.length c] [.ro (ints l)] (.tuple #[.int .i64 (cntV s l), .bool true]) [.ro (ints l)] := by
  unfold cntV
  rcases planE_01 h with hp | hp
  · rw [if_pos hp]; exact count_ok s l c hN hr hp
  · have hpl := rimPlanS_ev (σ := [.ro (ints l), .rw s.cells]) (s := s) (l := l) (a := 0) (c := c) (.inl rfl) hN hr rfl
    have hz := planE_zero (s := s) (l := l) (by omega)
    rw [hp, hz] at hpl
    rw [if_neg (by omega)]
    refine acall_intro 1 23 Try.func43 rfl rfl rfl rfl rfl ?_
    repeat' (first | (refine gU ?_; first | (refine gMove ?_; first | refine st (ok_move rfl) rfl rfl ?_) | (refine gAssign ?_; first | refine st (ok_assign rfl) rfl rfl ?_) | (refine gLoad ?_; first | refine st (ok_load rfl (by first | rfl | assumption)) rfl rfl ?_ | refine st (ok_loadA rfl (by first | rfl | assumption)) rfl rfl ?_) | (refine gBin ?_; first | refine st (ok_bin rfl rfl rfl) rfl rfl ?_ | refine st (ok_eq2 rfl rfl) rfl rfl ?_) | (refine gLen ?_; first | refine st (ok_len rfl) rfl rfl ?_ | refine st (ok_lenV rfl) rfl rfl ?_) | (refine gExtract ?_; first | refine st (ok_extract rfl rfl) rfl rfl ?_) | (refine gCall ?_; first | refine st (ok_call rfl rfl rfl (by first | exact hpl)) rfl rfl ?_) | (refine gBox ?_; first | refine st (ok_box rfl) rfl rfl ?_)) | refine W_seq ?_ | refine W_region ?_ | refine st_nil ?_ | refine tq_n ?_ | refine tq_r ?_ | refine tq_e ?_ | refine bq_n ?_ | refine bq_r ?_ | refine bq_hit rfl ?_ | refine bq_miss rfl ?_ | refine W_skip ?_ | refine W_exit ?_ | refine W_ret ?_ | refine W_block ?_ | refine W_condTA rfl ?_ | refine W_condFA rfl ?_ | (refine W_condD rfl ?_ ?_ <;> intro _) | (refine W_cond rfl ?_ ?_ <;> intro _))
    exact ret0 (.tmp rfl (.tmp rfl .nil)) (.plain rfl rfl) ⟨rfl, rfl⟩
theorem count2_ev {σ : Heap} {s : St} {l : List Int} {a c : Nat} (hx : arrAt σ a (ints l)) (hN : l.length ≤ 1000000) (hr : -9223372036854775808 ≤ s.short ∧ s.short ≤ 9223372036854775807) (h : checkS s l = 0) (hni : σ.all (fun o => !isIter o) = true) :
    Ev Try.prog 43 [s.val, .slice (some ⟨a, 0, none⟩) l.length c] σ (.tuple #[.int .i64 (cntV s l), .bool true]) σ :=
  Ev.arrs [ints l] [a] (count2_ok s l c hN hr h) ⟨hx, trivial⟩ ⟨vrel_plain _ rfl, by simpa [bsR] using VQ.slice (q := true) (n := 1) (ρ := bsR [a]) 0 0 l.length c c (Nat.le_refl _) (by omega), trivial⟩ (by simp [ints_plain]) rfl hni
theorem countV_ev {σ : Heap} {s : St} {l : List Int} {a n : Nat} (hx : arrAt σ a (ints l)) (hn : l.length = n) (hN : l.length ≤ 1000000) (hr : -9223372036854775808 ≤ s.short ∧ s.short ≤ 9223372036854775807) (h : checkS s l = 0) (hni : σ.all (fun o => !isIter o) = true) :
    Ev Try.prog 43 [s.val, slvV a 1 n] σ (.tuple #[.int .i64 (cntV s l), .bool true]) σ := by
  subst hn
  exact Ev.arrs [ints l] [a] (count2_ok s l l.length hN hr h) ⟨hx, trivial⟩ ⟨vrel_plain _ rfl, vsub_slvR (by simp) (by simp [bsR]), trivial⟩ (by simp [ints_plain]) rfl hni
theorem cntV_le {s : St} {l : List Int} (h : checkS s l = 0) : 0 ≤ cntV s l ∧ cntV s l ≤ 1000 := by
  unfold cntV
  obtain ⟨h12, _⟩ := checkS_zero h
  split
  · rename_i hp
    have := (planR_best h hp).len
    omega
  · omega
theorem cntV_dom {s s' : St} {l l' : List Int} (h : checkS s l = 0) (h' : checkS s' l' = 0) (hD : Dom (sp s l) l.length (sp s' l') l'.length s'.short s'.long) (h1 : s.short ≤ s'.short) (h2 : s'.long ≤ s.long) : cntV s' l' ≤ cntV s l := by
  rcases planE_01 h with hp | hp
  · obtain ⟨f1, f2⟩ := planS_fewest h hp
    obtain ⟨g1, g2⟩ := planS_dom hD h1 h2 f1
    have hp' : planE s' l' = 0 := by
      unfold planE
      rw [if_neg (show ¬ checkS s' l' ≠ 0 by omega), if_pos g1]
    obtain ⟨_, k2⟩ := planS_fewest h' hp'
    unfold cntV
    rw [if_pos hp, if_pos hp', f2, k2]
    omega
  · have := (cntV_le h').2
    have e : cntV s l = 1000 := by unfold cntV; rw [if_neg (by omega)]
    omega
theorem tdiv_mono {a b n : Int} (h : a ≤ b) (h0 : 0 ≤ a) (hn : 0 < n) : a.tdiv n ≤ b.tdiv n := by
  rw [Int.tdiv_eq_ediv_of_nonneg h0, Int.tdiv_eq_ediv_of_nonneg (by omega)]
  exact Int.ediv_le_ediv hn h
section
variable {s : St} {l : List Int}
def wideS (s : St) (a b : Int) : St := ⟨s.long, s.short, s.off, max 0 (s.lo - a), min 1000000000 (s.hi + b)⟩
def offS (s : St) (a : Int) : St := ⟨s.long, s.short, max 0 (s.off - a), s.lo, s.hi⟩
def shortS (s : St) (a : Int) : St := ⟨s.long, min s.long (s.short + a), s.off, s.lo, s.hi⟩
def longS (s : St) (a : Int) : St := ⟨max s.short (s.long - a), s.short, s.off, s.lo, s.hi⟩
theorem check_of {s' : St} (h : checkS s l = 0) (hs : ¬ badStone s') : checkS s' l = 0 := by
  obtain ⟨h12, hl1, _, ht⟩ := checkS_zero h
  unfold checkS
  rw [if_neg (by omega), if_neg hs, ht]; rfl
theorem wide_more {a b : Int} (h : checkS s l = 0) (ha : 0 ≤ a) (hb : 0 ≤ b) : checkS (wideS s a b) l = 0 ∧ cntV (wideS s a b) l ≤ cntV s l := by
  obtain ⟨_, _, hs, ht⟩ := checkS_zero h
  have hno := turns_in ht
  have hc : checkS (wideS s a b) l = 0 := check_of h (by unfold badStone at hs ⊢; unfold wideS; simp only; omega)
  refine ⟨hc, cntV_dom h hc (fun x h1 h2 i hi h3 h4 => ⟨i, hi, ?_⟩) (Int.le_refl _) (Int.le_refl _)⟩
  have hn := hno i hi
  unfold badStone at hs
  have d1 : (max 0 (s.lo - a) + gi l i - 1).tdiv (gi l i) ≤ (s.lo + gi l i - 1).tdiv (gi l i) := tdiv_mono (by omega) (by omega) (by omega)
  have d2 : s.hi.tdiv (gi l i) ≤ (min 1000000000 (s.hi + b)).tdiv (gi l i) := tdiv_mono (by omega) (by omega) (by omega)
  unfold sp span wideS at *
  simp only at *
  omega
theorem off_more {a : Int} (h : checkS s l = 0) (ha : 0 ≤ a) : checkS (offS s a) l = 0 ∧ cntV (offS s a) l ≤ cntV s l := by
  obtain ⟨_, _, hs, ht⟩ := checkS_zero h
  have hc : checkS (offS s a) l = 0 := check_of h (by unfold badStone at hs ⊢; unfold offS; simp only; omega)
  refine ⟨hc, cntV_dom h hc (fun x h1 h2 i hi h3 h4 => ⟨i, hi, ?_⟩) (Int.le_refl _) (Int.le_refl _)⟩
  unfold badStone at hs
  unfold sp span offS at *
  simp only at *
  omega
theorem short_more {a : Int} (h : checkS s l = 0) (ha : 0 ≤ a) : checkS (shortS s a) l = 0 ∧ cntV (shortS s a) l ≤ cntV s l := by
  obtain ⟨_, _, hs, ht⟩ := checkS_zero h
  have hs' := hs
  unfold badStone at hs'
  have hc : checkS (shortS s a) l = 0 := check_of h (by unfold badStone at hs ⊢; unfold shortS; simp only; omega)
  refine ⟨hc, cntV_dom h hc (fun x h1 h2 i hi h3 h4 => ⟨i, hi, ?_⟩) (by unfold shortS; simp only; omega) (Int.le_refl _)⟩
  unfold sp span shortS at *
  simp only at *
  omega
theorem long_more {a : Int} (h : checkS s l = 0) (ha : 0 ≤ a) : checkS (longS s a) l = 0 ∧ cntV (longS s a) l ≤ cntV s l := by
  obtain ⟨_, _, hs, ht⟩ := checkS_zero h
  have hs' := hs
  unfold badStone at hs'
  have hc : checkS (longS s a) l = 0 := check_of h (by unfold badStone at hs ⊢; unfold longS; simp only; omega)
  refine ⟨hc, cntV_dom h hc (fun x h1 h2 i hi h3 h4 => ⟨i, hi, ?_⟩) (Int.le_refl _) (by unfold longS; simp only; omega)⟩
  unfold sp span longS at *
  simp only at *
  omega
theorem gi_appL {a b : List Int} {i : Nat} (h : i < a.length) : gi (a ++ b) i = gi a i := by
  simp only [gi, List.getD_eq_getElem?_getD, List.getElem?_append_left h]
theorem snoc_more {a : Int} (h : checkS s l = 0) (hc : checkS s (l ++ [a]) = 0) : cntV s (l ++ [a]) ≤ cntV s l := by
  refine cntV_dom h hc (fun x h1 h2 i hi h3 h4 => ⟨i, by simp; omega, ?_⟩) (Int.le_refl _) (Int.le_refl _)
  have e : sp s (l ++ [a]) i = sp s l i := by unfold sp; rw [gi_appL hi]
  rw [e]; exact ⟨h3, h4, .inl (Int.le_refl _)⟩
theorem without_check {i : Nat} (h : checkS s l = 0) (hi : i < l.length) (h2 : l.length ≠ 1) : checkS s (without l i) = 0 := by
  obtain ⟨h12, hl1, hs, ht⟩ := checkS_zero h
  have hno := turns_in ht
  have hwl := without_len hi
  have hwt : badTurns (without l i) = false := by
    cases hb : badTurns (without l i) with
    | false => rfl
    | true =>
      obtain ⟨k, hk, hb⟩ := badTurns_iff.1 hb
      rw [hwl] at hk
      rw [without_get hi hk] at hb
      have := hno (if k < i then k else k + 1) (by split <;> omega)
      omega
  unfold checkS
  rw [if_neg (by omega), if_neg hs, hwt]; rfl
theorem kinds_more {i : Nat} (h : checkS s l = 0) (hE : planE s l = 0) (hi : i < l.length) (h2 : l.length ≠ 1) :
    (gi (kindsR s l) i = 2 ↔ cntV s (without l i) > cntV s l) ∧ cntV s l ≤ cntV s (without l i) ∧ 0 ≤ gi (kindsR s l) i ∧ gi (kindsR s l) i ≤ 2 := by
  have hw := without_check h hi h2
  have hwl := without_len hi
  obtain ⟨hF, hR⟩ := planS_fewest h hE
  obtain ⟨h12, _, _, _⟩ := checkS_zero h
  have hK : gi (kindsR s l) i = kindD s l i (planR s l).length := by
    unfold kindsR
    rw [if_pos hE, kindsL_gi _ _ hi, hR]
    exact kind_same h hi hF
  have hcl : cntV s l = (planR s l).length := by unfold cntV; rw [if_pos hE]
  have hlen := (planR_best h hE).len
  have hD : Dom (sp s (without l i)) (without l i).length (sp s l) l.length s.short s.long := fun x h1 h2 k hk h3 h4 => by
    rw [hwl] at hk
    rw [sp_without hi hk] at h3 h4 ⊢
    exact ⟨_, by split <;> omega, h3, h4, .inl (Int.le_refl _)⟩
  have hle := cntV_dom hw h hD (Int.le_refl _) (Int.le_refl _)
  refine ⟨?_, hle, ?_, ?_⟩
  · rw [hK]
    rcases planE_01 hw with hp | hp
    · obtain ⟨g1, g2⟩ := planS_fewest hw hp
      rw [hwl] at g1 g2
      have hcw : cntV s (without l i) = (planR s (without l i)).length := by unfold cntV; rw [if_pos hp]
      rw [hcl, hcw, g2]
      unfold kindD
      by_cases hgt : (planS (sp s (without l i)) (l.length - 1) s.long s.short).1.length > (planR s l).length
      · rw [if_pos (.inr hgt)]; simp only [true_iff]; omega
      · rw [if_neg (by omega)]
        constructor
        · intro hk; split at hk <;> omega
        · intro hk; omega
    · have hcw : cntV s (without l i) = 1000 := by unfold cntV; rw [if_neg (by omega)]
      have hn : ¬ (planS (sp s (without l i)) (l.length - 1) s.long s.short).2 < s.short := by
        intro hx
        unfold planE at hp
        rw [if_neg (show ¬ checkS s (without l i) ≠ 0 by omega), hwl, if_pos hx] at hp
        cases hp
      unfold kindD
      rw [if_pos (.inl hn), hcl, hcw]
      simp only [true_iff]; omega
  · rw [hK]; unfold kindD; split
    · decide
    · split <;> decide
  · rw [hK]; unfold kindD; split
    · decide
    · split <;> decide
theorem kinds_one (h : checkS s l = 0) (hE : planE s l = 0) (h1 : l.length = 1) : gi (kindsR s l) 0 = 2 := by
  obtain ⟨hF, hR⟩ := planS_fewest h hE
  obtain ⟨_, _, hs, _⟩ := checkS_zero h
  have hK : gi (kindsR s l) 0 = kindD s l 0 (planR s l).length := by
    unfold kindsR
    rw [if_pos hE, kindsL_gi _ _ (by omega), hR]
    exact kind_same h (by omega) hF
  rw [hK]
  unfold kindD
  rw [if_pos]
  left
  unfold planS
  have e : bestF (sp s (without l 0)) s.long (l.length - 1) < 0 := by rw [h1]; simp [bestF]
  rw [grd_stop (.inr e)]
  unfold badStone at hs
  simp only; omega
end
end Go.Proofs.Ytgfnogdecggkkaa
