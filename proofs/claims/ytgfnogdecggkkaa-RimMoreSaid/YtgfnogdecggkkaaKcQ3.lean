/- The own function of RimFarther. -/
import Derived.Test.YtgfnogdecggkkaaKcQ2
namespace Go.Proofs.Ytgfnogdecggkkaa
open Go Go.AH
attribute [local irreducible] WOps WCode WFree retQ thenQ blockQ OpOk ACall RetRef roundA roundB
set_option maxRecDepth 100000
set_option maxHeartbeats 1000000
def ptsL (pl : List (Int × Int)) : Nat → List Int
  | 0 => []
  | i + 1 => ptsL pl i ++ [(gp pl i).1]
theorem planE_zero {s : St} {l : List Int} (h : planE s l ≠ 0) : planR s l = [] := by
  unfold planE at h
  unfold planR planIf
  split
  · rfl
  · rename_i hc
    rw [if_neg hc] at h
    split
    · rename_i hp; rw [if_pos hp] at h; exact absurd rfl h
    · rfl
def padL (R : List (Int × Int)) (i : Nat) : List Int := ptsL R i ++ List.replicate (R.length - i) 0
theorem grd_len {F : Nat → Int × Int} {n : Nat} {to : Int} : ∀ (k : Nat) (x : Int), (grd F n to k x).1.length ≤ k
  | 0, x => by simp [grd]
  | k + 1, x => by
    simp only [grd]
    split
    · simp
    · have := grd_len (F := F) (n := n) (to := to) k ((F (bestF F x n).toNat).1 - 1)
      simp only [List.length_cons]; omega
theorem planR_pos {s : St} {l : List Int} (h : planE s l = 0) : 1 ≤ (planR s l).length := by
  unfold planE at h
  unfold planR
  split at h
  · rename_i hc; exact absurd h hc
  · rename_i hc
    obtain ⟨_, _, hs, _⟩ := checkS_zero (by omega : checkS s l = 0)
    have hs2 : s.short ≤ s.long := by unfold badStone at hs; omega
    rw [if_neg hc]
    unfold planIf
    split at h
    · rename_i hp
      rw [if_pos hp]
      unfold planS at hp ⊢
      rw [show (s.long - s.short + 1).toNat = (s.long - s.short).toNat + 1 from by omega] at hp ⊢
      simp only [grd] at hp ⊢
      split
      · rename_i hq; rw [if_pos hq] at hp; simp only at hp; omega
      · simp
    · cases h
end Go.Proofs.Ytgfnogdecggkkaa
namespace Go.Proofs.Ytgfnogdecggkkaa
open Go Go.AH
attribute [local irreducible] WOps WCode WFree retQ thenQ blockQ OpOk ACall RetRef roundA roundB
set_option maxRecDepth 100000
set_option maxHeartbeats 1000000
theorem grd_runs {F : Nat → Int × Int} {n : Nat} {to : Int} : ∀ (k : Nat) (x : Int) (i : Nat), i < (grd F n to k x).1.length →
    (gp (grd F n to k x).1 i).2 = bestF F (gp (grd F n to k x).1 i).1 n ∧ 0 ≤ (gp (grd F n to k x).1 i).2 ∧ (i = 0 → (gp (grd F n to k x).1 i).1 = x) ∧
    (i + 1 < (grd F n to k x).1.length → (gp (grd F n to k x).1 (i + 1)).1 = (F (gp (grd F n to k x).1 i).2.toNat).1 - 1) ∧ (i + 1 = (grd F n to k x).1.length → (grd F n to k x).2 = (F (gp (grd F n to k x).1 i).2.toNat).1 - 1)
  | 0, x, i, h => by simp [grd] at h
  | k + 1, x, i, h => by
    by_cases hs : x < to ∨ bestF F x n < 0
    · rw [grd_stop hs] at h; simp at h
    · have e1 : grd F n to (k + 1) x = ((x, bestF F x n) :: (grd F n to k ((F (bestF F x n).toNat).1 - 1)).1, (grd F n to k ((F (bestF F x n).toNat).1 - 1)).2) := by simp only [grd]; rw [if_neg hs]
      rw [e1] at h ⊢
      have ih := grd_runs (F := F) (n := n) (to := to) k ((F (bestF F x n).toNat).1 - 1)
      generalize hG : grd F n to k ((F (bestF F x n).toNat).1 - 1) = G at h ih ⊢
      cases i with
      | zero =>
        refine ⟨rfl, by show 0 ≤ bestF F x n; omega, fun _ => rfl, fun h1 => ?_, fun h1 => ?_⟩
        · exact (ih 0 (by simpa using h1)).2.2.1 rfl
        · have h0 : G.1 = [] := List.eq_nil_of_length_eq_zero (by simpa using h1.symm)
          show G.2 = (F (bestF F x n).toNat).1 - 1
          cases k with
          | zero => rw [← hG]; rfl
          | succ k =>
            by_cases hs2 : ((F (bestF F x n).toNat).1 - 1) < to ∨ bestF F ((F (bestF F x n).toNat).1 - 1) n < 0
            · rw [grd_stop hs2] at hG; rw [← hG]
            · simp only [grd] at hG; rw [if_neg hs2] at hG; rw [← hG] at h0; simp at h0
      | succ i =>
        have hi : i < G.1.length := by simpa using h
        obtain ⟨g1, g2, g3, g4, g5⟩ := ih i hi
        exact ⟨g1, g2, fun h0 => by omega, fun h1 => g4 (by simpa using h1), fun h1 => g5 (by simpa using h1)⟩
structure IsBest (s : St) (l : List Int) (R : List (Int × Int)) : Prop where
  pos : 1 ≤ R.length
  first : (gp R 0).1 = s.long
  best : ∀ i < R.length, (gp R i).2 = bestF (sp s l) (gp R i).1 l.length ∧ 0 ≤ (gp R i).2
  next : ∀ i, i + 1 < R.length → (gp R (i + 1)).1 = (sp s l (gp R i).2.toNat).1 - 1
  last : ∀ i, i + 1 = R.length → (sp s l (gp R i).2.toNat).1 ≤ s.short
  low : ∀ i < R.length, s.short ≤ (gp R i).1
theorem planR_best {s : St} {l : List Int} (h : checkS s l = 0) (hp : planE s l = 0) : IsBest s l (planR s l) := by
  have hpos := planR_pos hp
  unfold planE at hp
  rw [if_neg (by omega)] at hp
  by_cases hlt : (planS (sp s l) l.length s.long s.short).2 < s.short
  · have hR : planR s l = (planS (sp s l) l.length s.long s.short).1 := by
      unfold planR planIf; rw [if_neg (by omega), if_pos hlt]
    rw [hR] at hpos ⊢
    unfold planS at hlt hpos ⊢
    have hr := grd_runs (F := sp s l) (n := l.length) (to := s.short) (s.long - s.short + 1).toNat s.long
    have hin := grd_in (F := sp s l) (n := l.length) (to := s.short) (s.long - s.short + 1).toNat s.long
    generalize grd (sp s l) l.length s.short (s.long - s.short + 1).toNat s.long = G at hlt hpos hr hin ⊢
    exact ⟨hpos, (hr 0 (by omega)).2.2.1 rfl, fun i hi => ⟨(hr i hi).1, (hr i hi).2.1⟩, fun i hi => (hr i (by omega)).2.2.2.1 hi, fun i hi => by have := (hr i (by omega)).2.2.2.2 hi; omega, hin⟩
  · rw [if_neg hlt] at hp; cases hp
section
variable {s : St} {l : List Int} {R : List (Int × Int)}
theorem IsBest.at (h : IsBest s l R) {i : Nat} (hi : i < R.length) : (gp R i).2.toNat < l.length ∧ (sp s l (gp R i).2.toNat).1 ≤ (gp R i).1 ∧ (gp R i).1 ≤ (sp s l (gp R i).2.toNat).2 ∧ ∀ k < l.length, (sp s l k).1 ≤ (gp R i).1 → (gp R i).1 ≤ (sp s l k).2 → (sp s l (gp R i).2.toNat).1 ≤ (sp s l k).1 := by
  obtain ⟨h1, h2⟩ := h.best i hi
  have h3 := best_lo (F := sp s l) (n := l.length) (x := (gp R i).1) (by omega)
  rw [← h1] at h3
  exact h3
theorem IsBest.down (h : IsBest s l R) {i : Nat} (hi : i + 1 < R.length) : (gp R (i + 1)).1 < (gp R i).1 := by
  have h1 := h.next i hi
  have h2 := h.at (i := i) (by omega)
  omega
def cntLo (F : Nat → Int × Int) (x : Int) : Nat → Nat
  | 0 => 0
  | n + 1 => cntLo F x n + if (F n).1 ≤ x then 1 else 0
theorem cntLo_le (F : Nat → Int × Int) (x : Int) : ∀ n, cntLo F x n ≤ n
  | 0 => Nat.le_refl _
  | n + 1 => by have := cntLo_le F x n; simp only [cntLo]; split <;> omega
theorem cntLo_mono {F : Nat → Int × Int} {x y : Int} (h : x ≤ y) : ∀ n, cntLo F x n ≤ cntLo F y n
  | 0 => Nat.le_refl _
  | n + 1 => by have := cntLo_mono (F := F) h n; simp only [cntLo]; split <;> split <;> omega
theorem cntLo_lt {F : Nat → Int × Int} {x y : Int} (h : x ≤ y) : ∀ n, (∃ b < n, (F b).1 ≤ y ∧ ¬ (F b).1 ≤ x) → cntLo F x n < cntLo F y n
  | 0, ⟨b, hb, _⟩ => by omega
  | n + 1, ⟨b, hb, h1, h2⟩ => by
    simp only [cntLo]
    by_cases hbn : b = n
    · subst hbn
      have := cntLo_mono (F := F) h b
      rw [if_neg h2, if_pos h1]; omega
    · have := cntLo_lt h n ⟨b, by omega, h1, h2⟩
      split <;> split <;> omega
theorem IsBest.cnt (h : IsBest s l R) : ∀ i < R.length, cntLo (sp s l) (gp R i).1 l.length + i ≤ l.length
  | 0, _ => by have := cntLo_le (sp s l) (gp R 0).1 l.length; omega
  | i + 1, hi => by
    have ih := IsBest.cnt h i (by omega)
    have h1 := h.next i hi
    have h2 := h.at (i := i) (by omega)
    have := cntLo_lt (F := sp s l) (x := (gp R (i + 1)).1) (y := (gp R i).1) (by omega) l.length ⟨_, h2.1, h2.2.1, by omega⟩
    omega
theorem cntLo_pos {F : Nat → Int × Int} {x : Int} : ∀ n, (∃ b < n, (F b).1 ≤ x) → 1 ≤ cntLo F x n
  | 0, ⟨b, hb, _⟩ => by omega
  | n + 1, ⟨b, hb, h1⟩ => by
    simp only [cntLo]
    by_cases hbn : b = n
    · subst hbn; rw [if_pos h1]; omega
    · have := cntLo_pos n ⟨b, by omega, h1⟩; omega
theorem IsBest.len (h : IsBest s l R) : R.length ≤ l.length := by
  have hp := h.pos
  have h1 := h.cnt (R.length - 1) (by omega)
  have h2 := h.at (i := R.length - 1) (by omega)
  have h3 := cntLo_pos (F := sp s l) (x := (gp R (R.length - 1)).1) l.length ⟨_, h2.1, h2.2.1⟩
  omega
theorem IsBest.right (h : IsBest s l R) (hc : checkS s l = 0) : checkP s l R = 0 := by
  obtain ⟨h12, hl1, hs, ht⟩ := checkS_zero hc
  have hs1 : 1 ≤ s.short := by unfold badStone at hs; omega
  have hlen := h.len
  have hpos := h.pos
  have hrun : ∀ j < R.length, ¬ badRun s l R j := fun j hj => by
    have h1 := h.at hj
    have h2 := h.low j hj
    have h3 := h.best j hj
    unfold badRun
    rintro (⟨rfl, hx⟩ | ⟨h0, hx⟩ | hx | hx | hx)
    · exact hx h.first
    · have := h.down (i := j - 1) (by omega)
      rw [show j - 1 + 1 = j from by omega] at this
      omega
    · omega
    · omega
    · omega
  have hfast : ∀ j < R.length, ¬ badFast s l R j := fun j hj hb => by
    have h1 := h.at hj
    have h2 := h.low j hj
    have e : spanAt s l (gp R j).2.toNat = sp s l (gp R j).2.toNat := sp_hold h1.1 ⟨h1.2.1, h1.2.2.1⟩
    have hen : (sp s l (gp R j).2.toNat).1 ≤ endS s.short R j ∧ endS s.short R j ≤ (gp R j).1 := by
      unfold endS
      split
      · rename_i hj1
        have := h.next j hj1
        have := h.down hj1
        omega
      · have := h.last j (by omega)
        omega
    unfold badFast inP at hb
    rw [e] at hb
    omega
  unfold checkP
  rw [if_neg (by omega), if_neg (by omega), if_neg (by rw [someB_false hrun]; simp), if_neg (by rw [someB_false hfast]; simp)]
end
theorem checkP_parts {s : St} {l : List Int} {pl : List (Int × Int)} (h : checkP s l pl = 0) : checkS s l = 0 ∧ 1 ≤ pl.length ∧ pl.length ≤ 20 ∧ (∀ j < pl.length, ¬ badRun s l pl j) ∧ ∀ j < pl.length, ¬ badFast s l pl j := by
  unfold checkP at h
  split at h
  · rename_i hc; exact absurd h hc
  · split at h
    · cases h
    · split at h
      · cases h
      · split at h
        · cases h
        · rename_i h1 h2 h3 h4
          exact ⟨by omega, by omega, by omega, someB_none h3, someB_none h4⟩
theorem IsBest.late {s : St} {l : List Int} {R pl : List (Int × Int)} (h : IsBest s l R) (hp : checkP s l pl = 0) : ∀ i, i < R.length → i < pl.length → (gp R i).1 ≤ (gp pl i).1
  | 0, h1, h2 => by
    obtain ⟨c1, c2, c3, c4, c5⟩ := checkP_parts hp
    have := c4 0 h2
    unfold badRun at this
    have := h.first
    omega
  | i + 1, h1, h2 => by
    obtain ⟨c1, c2, c3, c4, c5⟩ := checkP_parts hp
    have ih := IsBest.late h hp i (by omega) (by omega)
    have hn := h.next i h1
    have ha := h.at (i := i) (by omega)
    have hb := runs_in c4 i (by omega)
    have hf := c5 i (by omega)
    have hk : (gp pl i).2.toNat < l.length := by omega
    apply Int.not_lt.1
    intro hlt
    have he : endS s.short pl i = (gp pl (i + 1)).1 + 1 := by unfold endS; rw [if_pos h2]
    unfold badFast inP at hf
    rw [he] at hf
    have hx : (spanAt s l (gp pl i).2.toNat).1 ≤ (gp pl (i + 1)).1 + 1 ∧ (gp pl i).1 ≤ (spanAt s l (gp pl i).2.toNat).2 := by omega
    have e : spanAt s l (gp pl i).2.toNat = sp s l (gp pl i).2.toNat := at_hold hk (x := (gp pl i).1) (by omega)
    rw [e] at hx
    have := ha.2.2.2 _ hk (by omega) (by omega)
    omega
end Go.Proofs.Ytgfnogdecggkkaa
namespace Go.Proofs.Ytgfnogdecggkkaa
open Go Go.AH
attribute [local irreducible] WOps WCode WFree retQ thenQ blockQ OpOk ACall RetRef roundA roundB
set_option maxRecDepth 100000
set_option maxHeartbeats 1000000
def outG (i : Nat) : Nat → Int := setF (fun _ => 0) i 1
theorem maskF_zero (f : Nat → Int × Int) : maskF f (fun _ => 0) = f := by
  funext i
  simp [maskF]
def kindV (F : Nat → Int × Int) (n : Nat) (long short : Int) (i : Nat) (m : Int) : Int :=
  if ¬ (planS (maskF F (outG i)) n long short).2 < short ∨ ((planS (maskF F (outG i)) n long short).1.length : Int) > m then 2 else if F i = nw then 0 else
    if ((planS F n long ((F i).2 + 1)).1.length : Int) + 1 + ((planS F n ((F i).1 - 1) short).1.length : Int) > m then 0 else 1
theorem planS_len {F : Nat → Int × Int} {n : Nat} {from_ to : Int} (h1 : 0 ≤ to) (h2 : from_ ≤ 100000) : ((planS F n from_ to).1.length : Int) ≤ 100001 := by
  have := grd_len (F := F) (n := n) (to := to) (from_ - to + 1).toNat from_
  unfold planS
  omega
theorem rack_setOut {s : St} {tv : Value} {f : Nat → Int × Int} : ∀ {i : Nat}, i < 12 → splice (rackC s tv f fun _ => 0) (30 + i * 1) [.int .i64 1] = rackC s tv f (outG i)
  | 0, _ => rfl | 1, _ => rfl | 2, _ => rfl | 3, _ => rfl | 4, _ => rfl | 5, _ => rfl | 6, _ => rfl | 7, _ => rfl | 8, _ => rfl | 9, _ => rfl | 10, _ => rfl | 11, _ => rfl
theorem rack_clear {s : St} {tv : Value} {f : Nat → Int × Int} {g : Nat → Int} : splice (rackC s tv f g) 30 (zcells (vcells (.int .i64 0)) 12) = rackC s tv f fun _ => 0 := rfl
theorem kind_ok (s : St) (l : List Int) (c : Nat) (f : Nat → Int × Int) (best : List (Int × Int)) (ks : List Int) (i : Nat) (m : Int) (h12 : l.length ≤ 12) (hs : 1 ≤ s.short) (hs2 : s.short ≤ s.long) (hs3 : s.long ≤ 100000) (hi : i < l.length)
    (hsp : ∀ i < l.length, f i = nw ∨ (s.short ≤ (f i).1 ∧ (f i).1 ≤ (f i).2 ∧ (f i).2 ≤ s.long)) :
    Ev Try.prog 67 [.pointer (some ⟨2, 0, none⟩), .int .i64 (i : Int), .int .i64 m] [.ro (ints l), .rw s.cells, .rw (rackC s (rkV l 0 c) f fun _ => 0), .rw (runsC best), .gr (ints ks) 3] (.int .i64 (kindV f l.length s.long s.short i m)) [.ro (ints l), .rw s.cells, .rw (rackC s (rkV l 0 c) f fun _ => 0), .rw (runsC best), .gr (ints ks) 3] := by
  have hi12 : i < 12 := by omega
  have hsp1 : ∀ i < l.length, f i = nw ∨ s.short ≤ (f i).1 := fun i hi => (hsp i hi).imp id fun h => h.1
  have hput0 : putCells [.ro (ints l), .rw s.cells, .rw (rackC s (rkV l 0 c) f fun _ => 0), .rw (runsC best), .gr (ints ks) 3] 2 30 (zcells (vcells (.int .i64 0)) 12) = some [.ro (ints l), .rw s.cells, .rw (rackC s (rkV l 0 c) f fun _ => 0), .rw (runsC best), .gr (ints ks) 3] := putRw rfl (by rw [rack_len]; decide) (by rw [rack_len]; decide) rack_clear
  have hput1 : putCells [.ro (ints l), .rw s.cells, .rw (rackC s (rkV l 0 c) f fun _ => 0), .rw (runsC best), .gr (ints ks) 3] 2 (30 + i * 1) [.int .i64 1] = some [.ro (ints l), .rw s.cells, .rw (rackC s (rkV l 0 c) f (outG i)), .rw (runsC best), .gr (ints ks) 3] := putRw rfl (by rw [rack_len]; simp; omega) (by rw [rack_len]; decide) (rack_setOut hi12)
  have hw := rplan_ev (σ := [.ro (ints l), .rw s.cells, .rw (rackC s (rkV l 0 c) f (outG i)), .rw (runsC best), .gr (ints ks) 3]) (s := s) (l := l) (c := c) (f := f) (g := outG i) (from_ := s.long) (to := s.short) (t := 0) (r := 2) (.inl rfl) (.inr (.inl rfl)) h12 hs (Int.le_refl _) (by omega) hs3 hsp1 rfl
  have hlw := planS_len (F := maskF f (outG i)) (n := l.length) (from_ := s.long) (to := s.short) (by omega) hs3
  unfold kindV
  generalize planS (maskF f (outG i)) l.length s.long s.short = W at hw hlw ⊢
  have hput2 : putCells [.ro (ints l), .rw s.cells, .rw (rackC s (rkV l 0 c) f (outG i)), .rw (runsC best), .gr (ints ks) 3, .rw (runsC W.1)] 2 30 (zcells (vcells (.int .i64 0)) 12) = some [.ro (ints l), .rw s.cells, .rw (rackC s (rkV l 0 c) f fun _ => 0), .rw (runsC best), .gr (ints ks) 3, .rw (runsC W.1)] := putRw rfl (by rw [rack_len]; decide) (by rw [rack_len]; decide) rack_clear
  have hc1 : cellsAt [.ro (ints l), .rw s.cells, .rw (rackC s (rkV l 0 c) f fun _ => 0), .rw (runsC best), .gr (ints ks) 3, .rw (runsC W.1)] 2 (6 + i * 2) 2 = some [.int .i64 (f i).1, .int .i64 (f i).2] := rack_pairAt (.inr (.inl rfl)) hi12
  by_cases h1 : ¬ W.2 < s.short ∨ (W.1.length : Int) > m
  · rw [if_pos h1]
    refine acall_intro 5 96 Try.func67 rfl rfl rfl rfl rfl ?_
    repeat' (first | (refine gU ?_; first | (refine gMove ?_; first | refine st (ok_move rfl) rfl rfl ?_) | (refine gAssign ?_; first | refine st (ok_assign rfl) rfl rfl ?_) | (refine gFA ?_; first | refine st (ok_fieldAddr rfl) rfl rfl ?_) | (refine gLoad ?_; first | refine st (ok_load rfl (by first | rfl | assumption)) rfl rfl ?_ | refine st (ok_loadA rfl (by first | rfl | assumption)) rfl rfl ?_) | (refine gAdd ?_; first | refine st (ok_inc rfl rfl (by omega)) rfl rfl ?_ | refine st (ok_add rfl rfl (by omega) (by omega)) rfl rfl ?_ | refine st (ok_bin rfl rfl rfl) rfl rfl ?_) | (refine gSub ?_; first | refine st (ok_sub rfl rfl (by omega) (by omega)) rfl rfl ?_ | refine st (ok_bin rfl rfl rfl) rfl rfl ?_) | (refine gBin ?_; first | refine st (ok_bin rfl rfl rfl) rfl rfl ?_ | refine st (ok_eq2 rfl rfl) rfl rfl ?_) | (refine gLen ?_; first | refine st (ok_len rfl) rfl rfl ?_ | refine st (ok_lenV rfl) rfl rfl ?_) | (refine gPick ?_; first | refine st (ok_pickTA rfl rfl) rfl rfl ?_ | refine st (ok_pickFA rfl rfl) rfl rfl ?_) | (refine gNot ?_; first | refine st (ok_notD rfl) rfl rfl ?_ | refine st (ok_not' rfl) rfl rfl ?_) | (refine gExtract ?_; first | refine st (ok_extract rfl rfl) rfl rfl ?_) | (refine gNil ?_; first | refine st (ok_nilP rfl) rfl rfl ?_ | refine st (ok_nilF rfl) rfl rfl ?_) | (refine gIA ?_; first | refine st (ok_idxN rfl rfl (by omega)) rfl rfl ?_ | refine st (ok_idxSN rfl rfl (by omega)) rfl rfl ?_ | refine st (ok_idxAN rfl rfl (by omega)) rfl rfl ?_ | refine st (ok_idx rfl rfl (by omega) (by omega)) rfl rfl ?_ | refine st (ok_idxG rfl rfl (by omega) (by omega)) rfl rfl ?_ | refine st (ok_idxA rfl rfl (by omega) (by omega)) rfl rfl ?_) | (refine gMkF ?_; first | refine st (ok_makeFunc rfl rfl) rfl rfl ?_) | (refine gSlice ?_; first | refine st (ok_slice3V rfl rfl rfl) rfl rfl ?_ | refine st (ok_sliceH rfl rfl (by omega)) rfl rfl ?_ | refine st (ok_sliceL rfl rfl (by omega) (by omega)) rfl rfl ?_ | refine st (ok_sliceA rfl) rfl rfl ?_ | refine st (ok_sliceAH rfl rfl (by omega)) rfl rfl ?_) | (refine gCall ?_; first | refine st (ok_call rfl rfl rfl (by first | exact hw | exact ha | exact hb | exact Ev.nil nowhere_ok rfl rfl rfl)) rfl rfl ?_) | (refine gAlloc ?_; first | refine st (ok_alloc rfl) rfl rfl ?_) | (refine gStore ?_; refine stN (ok_store rfl rfl rfl rfl (by first | exact hput0 | exact hput1 | exact hput2 | rfl)) rfl ?_) | (refine gClear ?_; refine stN (ok_clear (by rfl) (by rfl) rfl (by omega) (by rfl) (by first | exact hput0 | exact hput1 | exact hput2 | rfl)) rfl ?_)) | (refine gG ?_; first | (refine gMove ?_; first | refine stGA rfl (ok_move rfl) rfl rfl ?_) | (refine gBin ?_; first | refine stGA rfl (ok_bin rfl rfl rfl) rfl rfl ?_) | (refine gLen ?_; first | refine stGA rfl (ok_len rfl) rfl rfl ?_ | refine stGA rfl (ok_lenV rfl) rfl rfl ?_) | refine stSU rfl rfl ?_ | refine stSA rfl rfl ?_ | ((fail_if_success (refine stGkA rfl ?_)); first | (refine stGdD rfl ?_ ?_ <;> intro _) | (refine stGd rfl ?_ ?_ <;> intro _))) | (refine fU ?_; first | refine frN (ok_call rfl rfl rfl hw) nok_tup (plainL_closed (runs_plain _)).1 (plainL_closed (n := 0) (runs_plain _)).2 rfl ?_ | refine frN (ok_call rfl rfl rfl ha) nok_tup (plainL_closed (runs_plain _)).1 (plainL_closed (n := 0) (runs_plain _)).2 rfl ?_ | refine frN (ok_call rfl rfl rfl hb) nok_tup (plainL_closed (runs_plain _)).1 (plainL_closed (n := 0) (runs_plain _)).2 rfl ?_ | (refine fMove ?_; first | refine frA (ok_move rfl) rfl ?_) | (refine fAssign ?_; first | refine frA (ok_assign rfl) rfl ?_) | (refine fFA ?_; first | refine frA (ok_fieldAddr rfl) rfl ?_) | (refine fLoad ?_; first | refine frA (ok_load rfl (by first | rfl | assumption)) rfl ?_ | refine frA (ok_loadA rfl (by first | rfl | assumption)) rfl ?_) | (refine fAdd ?_; first | refine frA (ok_inc rfl rfl (by omega)) rfl ?_ | refine frA (ok_add rfl rfl (by omega) (by omega)) rfl ?_ | refine frA (ok_bin rfl rfl rfl) rfl ?_) | (refine fSub ?_; first | refine frA (ok_sub rfl rfl (by omega) (by omega)) rfl ?_ | refine frA (ok_bin rfl rfl rfl) rfl ?_) | (refine fBin ?_; first | refine frA (ok_bin rfl rfl rfl) rfl ?_ | refine frA (ok_eq2 rfl rfl) rfl ?_) | (refine fExtract ?_; first | refine frA (ok_extract rfl rfl) rfl ?_) | (refine fNil ?_; first | refine frA (ok_nilP rfl) rfl ?_ | refine frA (ok_nilF rfl) rfl ?_) | (refine fCall ?_; first | refine frA (ok_call rfl rfl rfl (by first | exact hw | exact ha | exact hb | exact Ev.nil nowhere_ok rfl rfl rfl)) rfl ?_)) | (refine frW (ok_move rfl) rfl (by kernel_rfl) rfl ?_) | (refine frW (ok_assign rfl) rfl (by kernel_rfl) rfl ?_) | (refine frW (ok_extract rfl rfl) rfl (by kernel_rfl) rfl ?_) | (refine fr_stop ⟨by kernel_rfl, ?_⟩) | refine W_seq ?_ | refine W_region ?_ | refine W_regionD (by kernel_rfl) rfl ?_ | refine st_nil ?_ | refine tq_n ?_ | refine tq_r ?_ | refine tq_e ?_ | refine bq_n ?_ | refine bq_r ?_ | refine bq_hit rfl ?_ | refine bq_miss rfl ?_ | refine W_skip ?_ | refine W_exit ?_ | refine W_ret ?_ | refine W_block ?_ | refine W_condTA rfl ?_ | refine W_condFA rfl ?_ | (refine W_condD rfl ?_ ?_ <;> intro _) | (refine W_cond rfl ?_ ?_ <;> intro _))
    all_goals (first | exact ret0 (.tmp rfl .nil) (.plain rfl rfl) ⟨rfl, rfl⟩ | exact absurd h1 (by omega))
  · rw [if_neg h1]
    rcases hsp i hi with hn | hn
    · rw [if_pos hn]
      have hn1 : (f i).1 = 100001 := by rw [hn]
      have hn2 : (f i).2 = -1 := by rw [hn]
      refine acall_intro 5 96 Try.func67 rfl rfl rfl rfl rfl ?_
      repeat' (first | (refine gU ?_; first | (refine gMove ?_; first | refine st (ok_move rfl) rfl rfl ?_) | (refine gAssign ?_; first | refine st (ok_assign rfl) rfl rfl ?_) | (refine gFA ?_; first | refine st (ok_fieldAddr rfl) rfl rfl ?_) | (refine gLoad ?_; first | refine st (ok_load rfl (by first | rfl | assumption)) rfl rfl ?_ | refine st (ok_loadA rfl (by first | rfl | assumption)) rfl rfl ?_) | (refine gAdd ?_; first | refine st (ok_inc rfl rfl (by omega)) rfl rfl ?_ | refine st (ok_add rfl rfl (by omega) (by omega)) rfl rfl ?_ | refine st (ok_bin rfl rfl rfl) rfl rfl ?_) | (refine gSub ?_; first | refine st (ok_sub rfl rfl (by omega) (by omega)) rfl rfl ?_ | refine st (ok_bin rfl rfl rfl) rfl rfl ?_) | (refine gBin ?_; first | refine st (ok_bin rfl rfl rfl) rfl rfl ?_ | refine st (ok_eq2 rfl rfl) rfl rfl ?_) | (refine gLen ?_; first | refine st (ok_len rfl) rfl rfl ?_ | refine st (ok_lenV rfl) rfl rfl ?_) | (refine gPick ?_; first | refine st (ok_pickTA rfl rfl) rfl rfl ?_ | refine st (ok_pickFA rfl rfl) rfl rfl ?_) | (refine gNot ?_; first | refine st (ok_notD rfl) rfl rfl ?_ | refine st (ok_not' rfl) rfl rfl ?_) | (refine gExtract ?_; first | refine st (ok_extract rfl rfl) rfl rfl ?_) | (refine gNil ?_; first | refine st (ok_nilP rfl) rfl rfl ?_ | refine st (ok_nilF rfl) rfl rfl ?_) | (refine gIA ?_; first | refine st (ok_idxN rfl rfl (by omega)) rfl rfl ?_ | refine st (ok_idxSN rfl rfl (by omega)) rfl rfl ?_ | refine st (ok_idxAN rfl rfl (by omega)) rfl rfl ?_ | refine st (ok_idx rfl rfl (by omega) (by omega)) rfl rfl ?_ | refine st (ok_idxG rfl rfl (by omega) (by omega)) rfl rfl ?_ | refine st (ok_idxA rfl rfl (by omega) (by omega)) rfl rfl ?_) | (refine gMkF ?_; first | refine st (ok_makeFunc rfl rfl) rfl rfl ?_) | (refine gSlice ?_; first | refine st (ok_slice3V rfl rfl rfl) rfl rfl ?_ | refine st (ok_sliceH rfl rfl (by omega)) rfl rfl ?_ | refine st (ok_sliceL rfl rfl (by omega) (by omega)) rfl rfl ?_ | refine st (ok_sliceA rfl) rfl rfl ?_ | refine st (ok_sliceAH rfl rfl (by omega)) rfl rfl ?_) | (refine gCall ?_; first | refine st (ok_call rfl rfl rfl (by first | exact hw | exact ha | exact hb | exact Ev.nil nowhere_ok rfl rfl rfl)) rfl rfl ?_) | (refine gAlloc ?_; first | refine st (ok_alloc rfl) rfl rfl ?_) | (refine gStore ?_; refine stN (ok_store rfl rfl rfl rfl (by first | exact hput0 | exact hput1 | exact hput2 | rfl)) rfl ?_) | (refine gClear ?_; refine stN (ok_clear (by rfl) (by rfl) rfl (by omega) (by rfl) (by first | exact hput0 | exact hput1 | exact hput2 | rfl)) rfl ?_)) | (refine gG ?_; first | (refine gMove ?_; first | refine stGA rfl (ok_move rfl) rfl rfl ?_) | (refine gBin ?_; first | refine stGA rfl (ok_bin rfl rfl rfl) rfl rfl ?_) | (refine gLen ?_; first | refine stGA rfl (ok_len rfl) rfl rfl ?_ | refine stGA rfl (ok_lenV rfl) rfl rfl ?_) | refine stSU rfl rfl ?_ | refine stSA rfl rfl ?_ | ((fail_if_success (refine stGkA rfl ?_)); first | (refine stGdD rfl ?_ ?_ <;> intro _) | (refine stGd rfl ?_ ?_ <;> intro _))) | (refine fU ?_; first | refine frN (ok_call rfl rfl rfl hw) nok_tup (plainL_closed (runs_plain _)).1 (plainL_closed (n := 0) (runs_plain _)).2 rfl ?_ | refine frN (ok_call rfl rfl rfl ha) nok_tup (plainL_closed (runs_plain _)).1 (plainL_closed (n := 0) (runs_plain _)).2 rfl ?_ | refine frN (ok_call rfl rfl rfl hb) nok_tup (plainL_closed (runs_plain _)).1 (plainL_closed (n := 0) (runs_plain _)).2 rfl ?_ | (refine fMove ?_; first | refine frA (ok_move rfl) rfl ?_) | (refine fAssign ?_; first | refine frA (ok_assign rfl) rfl ?_) | (refine fFA ?_; first | refine frA (ok_fieldAddr rfl) rfl ?_) | (refine fLoad ?_; first | refine frA (ok_load rfl (by first | rfl | assumption)) rfl ?_ | refine frA (ok_loadA rfl (by first | rfl | assumption)) rfl ?_) | (refine fAdd ?_; first | refine frA (ok_inc rfl rfl (by omega)) rfl ?_ | refine frA (ok_add rfl rfl (by omega) (by omega)) rfl ?_ | refine frA (ok_bin rfl rfl rfl) rfl ?_) | (refine fSub ?_; first | refine frA (ok_sub rfl rfl (by omega) (by omega)) rfl ?_ | refine frA (ok_bin rfl rfl rfl) rfl ?_) | (refine fBin ?_; first | refine frA (ok_bin rfl rfl rfl) rfl ?_ | refine frA (ok_eq2 rfl rfl) rfl ?_) | (refine fExtract ?_; first | refine frA (ok_extract rfl rfl) rfl ?_) | (refine fNil ?_; first | refine frA (ok_nilP rfl) rfl ?_ | refine frA (ok_nilF rfl) rfl ?_) | (refine fCall ?_; first | refine frA (ok_call rfl rfl rfl (by first | exact hw | exact ha | exact hb | exact Ev.nil nowhere_ok rfl rfl rfl)) rfl ?_)) | (refine frW (ok_move rfl) rfl (by kernel_rfl) rfl ?_) | (refine frW (ok_assign rfl) rfl (by kernel_rfl) rfl ?_) | (refine frW (ok_extract rfl rfl) rfl (by kernel_rfl) rfl ?_) | (refine fr_stop ⟨by kernel_rfl, ?_⟩) | refine W_seq ?_ | refine W_region ?_ | refine W_regionD (by kernel_rfl) rfl ?_ | refine st_nil ?_ | refine tq_n ?_ | refine tq_r ?_ | refine tq_e ?_ | refine bq_n ?_ | refine bq_r ?_ | refine bq_hit rfl ?_ | refine bq_miss rfl ?_ | refine W_skip ?_ | refine W_exit ?_ | refine W_ret ?_ | refine W_block ?_ | refine W_condTA rfl ?_ | refine W_condFA rfl ?_ | (refine W_condD rfl ?_ ?_ <;> intro _) | (refine W_cond rfl ?_ ?_ <;> intro _))
      all_goals (first | exact ret0 (.tmp rfl .nil) (.plain rfl rfl) ⟨rfl, rfl⟩ | exact absurd h1 (by omega) | (exfalso; omega))
    · have hne : ¬ f i = nw := fun h => by
        rw [h] at hn
        have : (nw.1 : Int) ≤ nw.2 := hn.2.1
        exact absurd this (by decide)
      rw [if_neg hne]
      have ha := rplan_ev (σ := [.ro (ints l), .rw s.cells, .rw (rackC s (rkV l 0 c) f fun _ => 0), .rw (runsC best), .gr (ints ks) 3, .rw (runsC W.1), .rw [.int .i64 (f i).1, .int .i64 (f i).2]]) (s := s) (l := l) (c := c) (f := f) (g := fun _ => 0) (from_ := s.long) (to := (f i).2 + 1) (t := 0) (r := 2) (.inl rfl) (.inr (.inl rfl)) h12 hs (by omega) (by omega) hs3 hsp1 rfl
      rw [maskF_zero] at ha
      have hla := planS_len (F := f) (n := l.length) (from_ := s.long) (to := (f i).2 + 1) (by omega) hs3
      generalize planS f l.length s.long ((f i).2 + 1) = A at ha hla ⊢
      have hb := rplan_ev (σ := [.ro (ints l), .rw s.cells, .rw (rackC s (rkV l 0 c) f fun _ => 0), .rw (runsC best), .gr (ints ks) 3, .rw (runsC W.1), .rw [.int .i64 (f i).1, .int .i64 (f i).2], .rw (runsC A.1)]) (s := s) (l := l) (c := c) (f := f) (g := fun _ => 0) (from_ := (f i).1 - 1) (to := s.short) (t := 0) (r := 2) (.inl rfl) (.inr (.inl rfl)) h12 hs (Int.le_refl _) (by omega) (by omega) hsp1 rfl
      rw [maskF_zero] at hb
      have hlb := planS_len (F := f) (n := l.length) (from_ := (f i).1 - 1) (to := s.short) (by omega) (by omega)
      generalize planS f l.length ((f i).1 - 1) s.short = B at hb hlb ⊢
      refine acall_intro 5 96 Try.func67 rfl rfl rfl rfl rfl ?_
      repeat' (first | (refine gU ?_; first | (refine gMove ?_; first | refine st (ok_move rfl) rfl rfl ?_) | (refine gAssign ?_; first | refine st (ok_assign rfl) rfl rfl ?_) | (refine gFA ?_; first | refine st (ok_fieldAddr rfl) rfl rfl ?_) | (refine gLoad ?_; first | refine st (ok_load rfl (by first | rfl | assumption)) rfl rfl ?_ | refine st (ok_loadA rfl (by first | rfl | assumption)) rfl rfl ?_) | (refine gAdd ?_; first | refine st (ok_inc rfl rfl (by omega)) rfl rfl ?_ | refine st (ok_add rfl rfl (by omega) (by omega)) rfl rfl ?_ | refine st (ok_bin rfl rfl rfl) rfl rfl ?_) | (refine gSub ?_; first | refine st (ok_sub rfl rfl (by omega) (by omega)) rfl rfl ?_ | refine st (ok_bin rfl rfl rfl) rfl rfl ?_) | (refine gBin ?_; first | refine st (ok_bin rfl rfl rfl) rfl rfl ?_ | refine st (ok_eq2 rfl rfl) rfl rfl ?_) | (refine gLen ?_; first | refine st (ok_len rfl) rfl rfl ?_ | refine st (ok_lenV rfl) rfl rfl ?_) | (refine gPick ?_; first | refine st (ok_pickTA rfl rfl) rfl rfl ?_ | refine st (ok_pickFA rfl rfl) rfl rfl ?_) | (refine gNot ?_; first | refine st (ok_notD rfl) rfl rfl ?_ | refine st (ok_not' rfl) rfl rfl ?_) | (refine gExtract ?_; first | refine st (ok_extract rfl rfl) rfl rfl ?_) | (refine gNil ?_; first | refine st (ok_nilP rfl) rfl rfl ?_ | refine st (ok_nilF rfl) rfl rfl ?_) | (refine gIA ?_; first | refine st (ok_idxN rfl rfl (by omega)) rfl rfl ?_ | refine st (ok_idxSN rfl rfl (by omega)) rfl rfl ?_ | refine st (ok_idxAN rfl rfl (by omega)) rfl rfl ?_ | refine st (ok_idx rfl rfl (by omega) (by omega)) rfl rfl ?_ | refine st (ok_idxG rfl rfl (by omega) (by omega)) rfl rfl ?_ | refine st (ok_idxA rfl rfl (by omega) (by omega)) rfl rfl ?_) | (refine gMkF ?_; first | refine st (ok_makeFunc rfl rfl) rfl rfl ?_) | (refine gSlice ?_; first | refine st (ok_slice3V rfl rfl rfl) rfl rfl ?_ | refine st (ok_sliceH rfl rfl (by omega)) rfl rfl ?_ | refine st (ok_sliceL rfl rfl (by omega) (by omega)) rfl rfl ?_ | refine st (ok_sliceA rfl) rfl rfl ?_ | refine st (ok_sliceAH rfl rfl (by omega)) rfl rfl ?_) | (refine gCall ?_; first | refine st (ok_call rfl rfl rfl (by first | exact hw | exact ha | exact hb | exact Ev.nil nowhere_ok rfl rfl rfl)) rfl rfl ?_) | (refine gAlloc ?_; first | refine st (ok_alloc rfl) rfl rfl ?_) | (refine gStore ?_; refine stN (ok_store rfl rfl rfl rfl (by first | exact hput0 | exact hput1 | exact hput2 | rfl)) rfl ?_) | (refine gClear ?_; refine stN (ok_clear (by rfl) (by rfl) rfl (by omega) (by rfl) (by first | exact hput0 | exact hput1 | exact hput2 | rfl)) rfl ?_)) | (refine gG ?_; first | (refine gMove ?_; first | refine stGA rfl (ok_move rfl) rfl rfl ?_) | (refine gBin ?_; first | refine stGA rfl (ok_bin rfl rfl rfl) rfl rfl ?_) | (refine gLen ?_; first | refine stGA rfl (ok_len rfl) rfl rfl ?_ | refine stGA rfl (ok_lenV rfl) rfl rfl ?_) | refine stSU rfl rfl ?_ | refine stSA rfl rfl ?_ | ((fail_if_success (refine stGkA rfl ?_)); first | (refine stGdD rfl ?_ ?_ <;> intro _) | (refine stGd rfl ?_ ?_ <;> intro _))) | (refine fU ?_; first | refine frN (ok_call rfl rfl rfl hw) nok_tup (plainL_closed (runs_plain _)).1 (plainL_closed (n := 0) (runs_plain _)).2 rfl ?_ | refine frN (ok_call rfl rfl rfl ha) nok_tup (plainL_closed (runs_plain _)).1 (plainL_closed (n := 0) (runs_plain _)).2 rfl ?_ | refine frN (ok_call rfl rfl rfl hb) nok_tup (plainL_closed (runs_plain _)).1 (plainL_closed (n := 0) (runs_plain _)).2 rfl ?_ | (refine fMove ?_; first | refine frA (ok_move rfl) rfl ?_) | (refine fAssign ?_; first | refine frA (ok_assign rfl) rfl ?_) | (refine fFA ?_; first | refine frA (ok_fieldAddr rfl) rfl ?_) | (refine fLoad ?_; first | refine frA (ok_load rfl (by first | rfl | assumption)) rfl ?_ | refine frA (ok_loadA rfl (by first | rfl | assumption)) rfl ?_) | (refine fAdd ?_; first | refine frA (ok_inc rfl rfl (by omega)) rfl ?_ | refine frA (ok_add rfl rfl (by omega) (by omega)) rfl ?_ | refine frA (ok_bin rfl rfl rfl) rfl ?_) | (refine fSub ?_; first | refine frA (ok_sub rfl rfl (by omega) (by omega)) rfl ?_ | refine frA (ok_bin rfl rfl rfl) rfl ?_) | (refine fBin ?_; first | refine frA (ok_bin rfl rfl rfl) rfl ?_ | refine frA (ok_eq2 rfl rfl) rfl ?_) | (refine fExtract ?_; first | refine frA (ok_extract rfl rfl) rfl ?_) | (refine fNil ?_; first | refine frA (ok_nilP rfl) rfl ?_ | refine frA (ok_nilF rfl) rfl ?_) | (refine fCall ?_; first | refine frA (ok_call rfl rfl rfl (by first | exact hw | exact ha | exact hb | exact Ev.nil nowhere_ok rfl rfl rfl)) rfl ?_)) | (refine frW (ok_move rfl) rfl (by kernel_rfl) rfl ?_) | (refine frW (ok_assign rfl) rfl (by kernel_rfl) rfl ?_) | (refine frW (ok_extract rfl rfl) rfl (by kernel_rfl) rfl ?_) | (refine fr_stop ⟨by kernel_rfl, ?_⟩) | refine W_seq ?_ | refine W_region ?_ | refine W_regionD (by kernel_rfl) rfl ?_ | refine st_nil ?_ | refine tq_n ?_ | refine tq_r ?_ | refine tq_e ?_ | refine bq_n ?_ | refine bq_r ?_ | refine bq_hit rfl ?_ | refine bq_miss rfl ?_ | refine W_skip ?_ | refine W_exit ?_ | refine W_ret ?_ | refine W_block ?_ | refine W_condTA rfl ?_ | refine W_condFA rfl ?_ | (refine W_condD rfl ?_ ?_ <;> intro _) | (refine W_cond rfl ?_ ?_ <;> intro _))
      · rename_i hq
        rw [if_pos (by omega)]
        exact ret0 (.tmp rfl .nil) (.plain rfl rfl) ⟨rfl, rfl⟩
      · rename_i hq
        rw [if_neg (by omega)]
        exact ret0 (.tmp rfl .nil) (.plain rfl rfl) ⟨rfl, rfl⟩
end Go.Proofs.Ytgfnogdecggkkaa
namespace Go.Proofs.Ytgfnogdecggkkaa
open Go Go.AH
attribute [local irreducible] WOps WCode WFree retQ thenQ blockQ OpOk ACall RetRef roundA roundB
set_option maxRecDepth 100000
set_option maxHeartbeats 1000000
def kindsL (F : Nat → Int × Int) (n : Nat) (long short m : Int) : Nat → List Int
  | 0 => []
  | k + 1 => kindsL F n long short m k ++ [kindV F n long short k m]
theorem kindsL_len {F : Nat → Int × Int} {n : Nat} {long short m : Int} : ∀ k, (kindsL F n long short m k).length = k
  | 0 => rfl
  | k + 1 => by simp [kindsL, kindsL_len k]
def kindsR (s : St) (l : List Int) : List Int := if planE s l = 0 then kindsL (spanAt s l) l.length s.long s.short ((planR s l).length : Int) l.length else []
theorem hc_K4 (l : List Int) (s : St) (c : Nat) (B : List (Int × Int) × Int) : HClosed 4 [AObj.ro (ints l), .rw s.cells, .rw (rackC s (rkV l 0 c) (spanAt s l) fun _ => 0), .rw (runsC B.1)] :=
  ⟨plainL_closed (ints_plain l), plainL_closed (cells_plain s), rack_closed (slice_closed (by simp)).1 (slice_closed (n := 1) (by simp)).2, plainL_closed (runs_plain _), trivial⟩
theorem ints_app (a : List Int) (x : Int) : ints (a ++ [x]) = ints a ++ [.int .i64 x] := by simp [ints]
theorem rimKinds_ok (s : St) (l : List Int) (c : Nat) (hN : l.length ≤ 1000000) (hr : -9223372036854775808 ≤ s.short ∧ s.short ≤ 9223372036854775807) :
    Ev Try.prog 38 [s.val, .slice (some ⟨0, 0, none⟩) l.length c] [.ro (ints l)] (.tuple #[.slice (some ⟨1, 0, none⟩) (kindsR s l).length (kindsR s l).length, .int .i64 (planE s l)]) [.ro (ints l), .rw (ints (kindsR s l))] := by
  by_cases h : checkS s l = 0
  · obtain ⟨h12, h1, hs, ht⟩ := checkS_zero h
    have hs1 : 1 ≤ s.short := by unfold badStone at hs; omega
    have hs2 : s.short ≤ s.long := by unfold badStone at hs; omega
    have hs3 : s.long ≤ 100000 := by unfold badStone at hs; omega
    have hplan := rplan_ev (σ := [.ro (ints l), .rw s.cells, .rw (rackC s (.slice (some ⟨0, 0, none⟩) l.length c) (spanAt s l) fun _ => 0)]) (s := s) (l := l) (c := c) (f := spanAt s l) (g := fun _ => 0) (from_ := s.long) (to := s.short) (t := 0) (r := 2) (.inl rfl) (.inr (.inl rfl)) h12 hs1 (Int.le_refl _) (by omega) hs3 spanAt_lo rfl
    have hE : planE s l = if (planS (spanAt s l) l.length s.long s.short).2 < s.short then 0 else 19 := by
      unfold planE; rw [if_neg (by omega), ← plan_same, maskF_zero]
    have hR : planE s l = 0 → planR s l = (planS (spanAt s l) l.length s.long s.short).1 := fun h0 => by
      rw [hE] at h0
      unfold planR planIf; rw [if_neg (by omega), ← plan_same, maskF_zero, if_pos (by
        apply Classical.byContradiction; intro hn
        rw [if_neg hn] at h0; cases h0)]
    rw [maskF_zero] at hplan
    unfold kindsR
    generalize hB : planS (spanAt s l) l.length s.long s.short = B at hplan hE hR ⊢
    by_cases hB2 : B.2 < s.short
    · rw [if_pos hB2] at hE
      rw [if_pos hE, hR hE, hE]
      have hloop : ∀ k : Nat, Ev Try.prog 67 [.pointer (some ⟨2, 0, none⟩), .int .i64 (k : Int), .int .i64 (B.1.length : Int)] [.ro (ints l), .rw s.cells, .rw (rackC s (rkV l 0 c) (spanAt s l) fun _ => 0), .rw (runsC B.1), .gr (ints (kindsL (spanAt s l) l.length s.long s.short (B.1.length : Int) k)) 3] (.int .i64 (kindV (spanAt s l) l.length s.long s.short k (B.1.length : Int))) [.ro (ints l), .rw s.cells, .rw (rackC s (rkV l 0 c) (spanAt s l) fun _ => 0), .rw (runsC B.1), .gr (ints (kindsL (spanAt s l) l.length s.long s.short (B.1.length : Int) k)) 3] ∨ l.length ≤ k := fun k => by
        by_cases hk : k < l.length
        · exact .inl (kind_ok s l c (spanAt s l) B.1 _ k (B.1.length : Int) h12 hs1 hs2 hs3 hk fun i hi => by
            rcases spanAt_in (s := s) i hi with h | h
            · exact .inl h
            · exact .inr (by omega))
        · exact .inr (by omega)
      have hBl := planS_len (F := spanAt s l) (n := l.length) (from_ := s.long) (to := s.short) (by omega) hs3
      rw [hB] at hBl
      refine acall_intro 1 52 Try.func38 rfl rfl rfl rfl rfl ?_
      repeat' (first | (refine gU ?_; first | (refine gMove ?_; first | refine st (ok_move rfl) rfl rfl ?_) | (refine gAssign ?_; first | refine st (ok_assign rfl) rfl rfl ?_) | (refine gFA ?_; first | refine st (ok_fieldAddr rfl) rfl rfl ?_) | (refine gLoad ?_; first | refine st (ok_load rfl (by first | rfl | assumption)) rfl rfl ?_ | refine st (ok_loadA rfl (by first | rfl | assumption)) rfl rfl ?_) | (refine gAdd ?_; first | refine st (ok_inc rfl rfl (by omega)) rfl rfl ?_ | refine st (ok_add rfl rfl (by omega) (by omega)) rfl rfl ?_ | refine st (ok_bin rfl rfl rfl) rfl rfl ?_) | (refine gBin ?_; first | refine st (ok_bin rfl rfl rfl) rfl rfl ?_ | refine st (ok_neq2 rfl rfl) rfl rfl ?_) | (refine gLen ?_; first | refine st (ok_len rfl) rfl rfl ?_ | refine st (ok_lenV rfl) rfl rfl ?_) | (refine gNot ?_; first | refine st (ok_notD rfl) rfl rfl ?_ | refine st (ok_not' rfl) rfl rfl ?_) | (refine gExtract ?_; first | refine st (ok_extract rfl rfl) rfl rfl ?_) | (refine gSlice ?_; first | refine st (ok_slice3V rfl rfl rfl) rfl rfl ?_ | refine st (ok_sliceH rfl rfl (by omega)) rfl rfl ?_ | refine st (ok_sliceL rfl rfl (by omega) (by omega)) rfl rfl ?_ | refine st (ok_sliceA rfl) rfl rfl ?_ | refine st (ok_sliceAH rfl rfl (by omega)) rfl rfl ?_) | (refine gCall ?_; first | refine st (ok_call rfl rfl rfl (by first | exact open_evBad (by first | exact .inl rfl | exact .inr (.inl rfl) | exact .inr (.inr ⟨_, rfl⟩) | assumption) (by assumption) (by assumption) (by assumption) rfl | exact open_evOk (by first | exact .inl rfl | exact .inr (.inl rfl) | exact .inr (.inr ⟨_, rfl⟩) | assumption) (by assumption) (by assumption) rfl | exact hplan | exact hkind)) rfl rfl ?_) | (refine gBox ?_; first | refine st (ok_box rfl) rfl rfl ?_) | (refine gBuildS ?_; first | refine st (ok_buildS (by rfl) (by rfl) (by rfl) (by rfl) rfl (by rfl)) rfl rfl ?_ | refine st (ok_buildS0) rfl rfl ?_) | (refine gApp ?_; first | refine st (ok_appendV (by rfl) (by rfl) rfl (by rfl) (by first | rfl | assumption) rfl (by first | rfl | assumption) (by omega) (by first | rfl | assumption) (by omega) (by omega)) rfl rfl ?_ | refine st (ok_appendIn rfl rfl (by omega) (by omega) (by first | rfl | assumption) (by first | rfl | assumption) (by first | rfl | assumption | exact hp1 (by omega) | exact hp2 (by omega))) rfl rfl ?_ | refine st (ok_app0 rfl (by first | rfl | exact slOk_slvV _ _ _) rfl (by omega)) rfl rfl ?_ | refine st (ok_appendE (by rfl) rfl rfl (by first | rfl | assumption) (by omega) (by omega) (by omega)) rfl rfl ?_)) | (refine fU ?_; first | (refine fMove ?_; first | refine frA (ok_move rfl) rfl ?_) | (refine fAssign ?_; first | refine frA (ok_assign rfl) rfl ?_) | (refine fLen ?_; first | refine frA (ok_len rfl) rfl ?_ | refine frA (ok_lenV rfl) rfl ?_) | (refine fSlice ?_; first | refine frA (ok_slice3V rfl rfl rfl) rfl ?_ | refine frA (ok_sliceH rfl rfl (by omega)) rfl ?_ | refine frA (ok_sliceL rfl rfl (by omega) (by omega)) rfl ?_ | refine frA (ok_sliceA rfl) rfl ?_ | refine frA (ok_sliceAH rfl rfl (by omega)) rfl ?_) | (refine fCall ?_; first | refine frA (ok_call rfl rfl rfl (by first | exact open_evBad (by first | exact .inl rfl | exact .inr (.inl rfl) | exact .inr (.inr ⟨_, rfl⟩) | assumption) (by assumption) (by assumption) (by assumption) rfl | exact open_evOk (by first | exact .inl rfl | exact .inr (.inl rfl) | exact .inr (.inr ⟨_, rfl⟩) | assumption) (by assumption) (by assumption) rfl | exact hplan | exact hkind)) rfl ?_) | (refine fBuildS ?_; first | refine frN (ok_buildS (by rfl) (by rfl) (by rfl) (by rfl) rfl (by rfl)) nok_slice rfl rfl rfl ?_ | refine frN (ok_buildS0) nok_slice rfl rfl rfl ?_)) | (refine fr_stop ⟨by kernel_rfl, ?_⟩) | refine W_seq ?_ | refine W_region ?_ | refine W_regionD (by kernel_rfl) rfl ?_ | refine st_nil ?_ | refine tq_n ?_ | refine tq_r ?_ | refine tq_e ?_ | refine bq_n ?_ | refine bq_r ?_ | refine bq_hit rfl ?_ | refine bq_miss rfl ?_ | refine W_skip ?_ | refine W_exit ?_ | refine W_ret ?_ | refine W_block ?_ | refine W_condTA rfl ?_ | refine W_condFA rfl ?_ | (refine W_condD rfl ?_ ?_ <;> intro _) | (refine W_cond rfl ?_ ?_ <;> intro _))
      refine W_loopS (ι := Nat) (fun i => [(1, .slice (some ⟨0, 0, none⟩) l.length c), (6, .pointer (some ⟨2, 0, none⟩)), (8, .slice (some ⟨3, 0, none⟩) B.1.length B.1.length), (10, slvV 4 1 (kindsL (spanAt s l) l.length s.long s.short (B.1.length : Int) i).length), (33, .int .i64 (l.length : Int)), (34, .int .i64 (i : Int))])
        (fun i => [.ro (ints l), .rw s.cells, .rw (rackC s (rkV l 0 c) (spanAt s l) fun _ => 0), .rw (runsC B.1), .gr (ints (kindsL (spanAt s l) l.length s.long s.short (B.1.length : Int) i)) 3]) (fun i => l.length - i) (fun i => i ≤ l.length) 0 (by simp) (StRef.src [.ro (ints l), .rw s.cells, .rw (rackC s (rkV l 0 c) (spanAt s l) fun _ => 0), .rw (runsC B.1)] [.gr [] 3] [4] (by simp) rfl (hc_K4 l s c B) rfl rfl ⟨osub_gr0, trivial⟩ (by (repeat' (first | exact trivial | refine ⟨er_plain rfl rfl, ?_⟩ | refine ⟨er_closed (m := 4) rfl (fun i hi => srcR_lt hi) (by simp) (by first | rfl | exact closed_slice rfl) rfl, ?_⟩ | refine ⟨er_slvV rfl (by simp) rfl, ?_⟩ | refine ⟨er_slvV (by rw [hlen]; rfl) (by simp) rfl, ?_⟩ | refine ⟨er_nil rfl, ?_⟩)))) (by omega) ?_
      rintro i hi
      have hkl := kindsL_len (F := spanAt s l) (n := l.length) (long := s.long) (short := s.short) (m := (B.1.length : Int)) i
      have hks := kindsL_len (F := spanAt s l) (n := l.length) (long := s.long) (short := s.short) (m := (B.1.length : Int)) (i + 1)
      by_cases hil : i < l.length
      · have hkind := (hloop i).resolve_right (by omega)
        have hlen : (kindsL (spanAt s l) l.length s.long s.short (B.1.length : Int) (i + 1)).length = (kindsL (spanAt s l) l.length s.long s.short (B.1.length : Int) i).length + 1 := by omega
        have hcs : ints (kindsL (spanAt s l) l.length s.long s.short (B.1.length : Int) (i + 1)) = ints (kindsL (spanAt s l) l.length s.long s.short (B.1.length : Int) i) ++ [.int .i64 (kindV (spanAt s l) l.length s.long s.short i (B.1.length : Int))] := by simp only [kindsL, ints_app]
        have hil2 : (ints (kindsL (spanAt s l) l.length s.long s.short (B.1.length : Int) i)).length = (kindsL (spanAt s l) l.length s.long s.short (B.1.length : Int) i).length * 1 := by simp [ints]
        clear hloop hB hR
        generalize kindV (spanAt s l) l.length s.long s.short i (B.1.length : Int) = kv at hkind hcs
        generalize kindsL (spanAt s l) l.length s.long s.short (B.1.length : Int) i = KL at hkl hkind hlen hcs hil2 ⊢
        repeat' (first | (refine gU ?_; first | (refine gMove ?_; first | refine st (ok_move rfl) rfl rfl ?_) | (refine gAssign ?_; first | refine st (ok_assign rfl) rfl rfl ?_) | (refine gFA ?_; first | refine st (ok_fieldAddr rfl) rfl rfl ?_) | (refine gLoad ?_; first | refine st (ok_load rfl (by first | rfl | assumption)) rfl rfl ?_ | refine st (ok_loadA rfl (by first | rfl | assumption)) rfl rfl ?_) | (refine gAdd ?_; first | refine st (ok_inc rfl rfl (by omega)) rfl rfl ?_ | refine st (ok_add rfl rfl (by omega) (by omega)) rfl rfl ?_ | refine st (ok_bin rfl rfl rfl) rfl rfl ?_) | (refine gBin ?_; first | refine st (ok_bin rfl rfl rfl) rfl rfl ?_ | refine st (ok_neq2 rfl rfl) rfl rfl ?_) | (refine gLen ?_; first | refine st (ok_len rfl) rfl rfl ?_ | refine st (ok_lenV rfl) rfl rfl ?_) | (refine gNot ?_; first | refine st (ok_notD rfl) rfl rfl ?_ | refine st (ok_not' rfl) rfl rfl ?_) | (refine gExtract ?_; first | refine st (ok_extract rfl rfl) rfl rfl ?_) | (refine gSlice ?_; first | refine st (ok_slice3V rfl rfl rfl) rfl rfl ?_ | refine st (ok_sliceH rfl rfl (by omega)) rfl rfl ?_ | refine st (ok_sliceL rfl rfl (by omega) (by omega)) rfl rfl ?_ | refine st (ok_sliceA rfl) rfl rfl ?_ | refine st (ok_sliceAH rfl rfl (by omega)) rfl rfl ?_) | (refine gCall ?_; first | refine st (ok_call rfl rfl rfl (by first | exact open_evBad (by first | exact .inl rfl | exact .inr (.inl rfl) | exact .inr (.inr ⟨_, rfl⟩) | assumption) (by assumption) (by assumption) (by assumption) rfl | exact open_evOk (by first | exact .inl rfl | exact .inr (.inl rfl) | exact .inr (.inr ⟨_, rfl⟩) | assumption) (by assumption) (by assumption) rfl | exact hplan | exact hkind)) rfl rfl ?_) | (refine gBox ?_; first | refine st (ok_box rfl) rfl rfl ?_) | (refine gBuildS ?_; first | refine st (ok_buildS (by rfl) (by rfl) (by rfl) (by rfl) rfl (by rfl)) rfl rfl ?_ | refine st (ok_buildS0) rfl rfl ?_) | (refine gApp ?_; first | refine st (ok_appendV (by rfl) (by rfl) rfl (by rfl) (by first | rfl | assumption) rfl (by first | rfl | assumption) (by omega) (by first | rfl | assumption) (by omega) (by omega)) rfl rfl ?_ | refine st (ok_appendIn rfl rfl (by omega) (by omega) (by first | rfl | assumption) (by first | rfl | assumption) (by first | rfl | assumption | exact hp1 (by omega) | exact hp2 (by omega))) rfl rfl ?_ | refine st (ok_app0 rfl (by first | rfl | exact slOk_slvV _ _ _) rfl (by omega)) rfl rfl ?_ | refine st (ok_appendE (by rfl) rfl rfl (by first | rfl | assumption) (by omega) (by omega) (by omega)) rfl rfl ?_)) | (refine fU ?_; first | (refine fMove ?_; first | refine frA (ok_move rfl) rfl ?_) | (refine fAssign ?_; first | refine frA (ok_assign rfl) rfl ?_) | (refine fLen ?_; first | refine frA (ok_len rfl) rfl ?_ | refine frA (ok_lenV rfl) rfl ?_) | (refine fSlice ?_; first | refine frA (ok_slice3V rfl rfl rfl) rfl ?_ | refine frA (ok_sliceH rfl rfl (by omega)) rfl ?_ | refine frA (ok_sliceL rfl rfl (by omega) (by omega)) rfl ?_ | refine frA (ok_sliceA rfl) rfl ?_ | refine frA (ok_sliceAH rfl rfl (by omega)) rfl ?_) | (refine fCall ?_; first | refine frA (ok_call rfl rfl rfl (by first | exact open_evBad (by first | exact .inl rfl | exact .inr (.inl rfl) | exact .inr (.inr ⟨_, rfl⟩) | assumption) (by assumption) (by assumption) (by assumption) rfl | exact open_evOk (by first | exact .inl rfl | exact .inr (.inl rfl) | exact .inr (.inr ⟨_, rfl⟩) | assumption) (by assumption) (by assumption) rfl | exact hplan | exact hkind)) rfl ?_) | (refine fBuildS ?_; first | refine frN (ok_buildS (by rfl) (by rfl) (by rfl) (by rfl) rfl (by rfl)) nok_slice rfl rfl rfl ?_ | refine frN (ok_buildS0) nok_slice rfl rfl rfl ?_)) | (refine fr_stop ⟨by kernel_rfl, ?_⟩) | refine W_seq ?_ | refine W_region ?_ | refine W_regionD (by kernel_rfl) rfl ?_ | refine st_nil ?_ | refine tq_n ?_ | refine tq_r ?_ | refine tq_e ?_ | refine bq_n ?_ | refine bq_r ?_ | refine bq_hit rfl ?_ | refine bq_miss rfl ?_ | refine W_skip ?_ | refine W_exit ?_ | refine W_ret ?_ | refine W_block ?_ | refine W_condTA rfl ?_ | refine W_condFA rfl ?_ | (refine W_condD rfl ?_ ?_ <;> intro _) | (refine W_cond rfl ?_ ?_ <;> intro _))
        exact ⟨rfl, i + 1, by omega, by omega, StRef.src [.ro (ints l), .rw s.cells, .rw (rackC s (rkV l 0 c) (spanAt s l) fun _ => 0), .rw (runsC B.1)] [.gr (ints (kindsL (spanAt s l) l.length s.long s.short (B.1.length : Int) (i + 1))) 3] [6] (by simp) rfl (hc_K4 l s c B) rfl rfl ⟨osub_gr rfl (by rw [hcs]; rfl) (ints_plain _), trivial⟩ (by (repeat' (first | exact trivial | refine ⟨er_plain rfl rfl, ?_⟩ | refine ⟨er_closed (m := 4) rfl (fun i hi => srcR_lt hi) (by simp) (by first | rfl | exact closed_slice rfl) rfl, ?_⟩ | refine ⟨er_slvV rfl (by simp) rfl, ?_⟩ | refine ⟨er_slvV (by rw [hlen]; rfl) (by simp) rfl, ?_⟩ | refine ⟨er_nil rfl, ?_⟩)))⟩
      · obtain rfl : i = l.length := by omega
        clear hloop hB hR
        generalize kindsL (spanAt s l) l.length s.long s.short (B.1.length : Int) l.length = KL at hkl ⊢
        repeat' (first | (refine gU ?_; first | (refine gMove ?_; first | refine st (ok_move rfl) rfl rfl ?_) | (refine gAssign ?_; first | refine st (ok_assign rfl) rfl rfl ?_) | (refine gFA ?_; first | refine st (ok_fieldAddr rfl) rfl rfl ?_) | (refine gLoad ?_; first | refine st (ok_load rfl (by first | rfl | assumption)) rfl rfl ?_ | refine st (ok_loadA rfl (by first | rfl | assumption)) rfl rfl ?_) | (refine gAdd ?_; first | refine st (ok_inc rfl rfl (by omega)) rfl rfl ?_ | refine st (ok_add rfl rfl (by omega) (by omega)) rfl rfl ?_ | refine st (ok_bin rfl rfl rfl) rfl rfl ?_) | (refine gBin ?_; first | refine st (ok_bin rfl rfl rfl) rfl rfl ?_ | refine st (ok_neq2 rfl rfl) rfl rfl ?_) | (refine gLen ?_; first | refine st (ok_len rfl) rfl rfl ?_ | refine st (ok_lenV rfl) rfl rfl ?_) | (refine gNot ?_; first | refine st (ok_notD rfl) rfl rfl ?_ | refine st (ok_not' rfl) rfl rfl ?_) | (refine gExtract ?_; first | refine st (ok_extract rfl rfl) rfl rfl ?_) | (refine gSlice ?_; first | refine st (ok_slice3V rfl rfl rfl) rfl rfl ?_ | refine st (ok_sliceH rfl rfl (by omega)) rfl rfl ?_ | refine st (ok_sliceL rfl rfl (by omega) (by omega)) rfl rfl ?_ | refine st (ok_sliceA rfl) rfl rfl ?_ | refine st (ok_sliceAH rfl rfl (by omega)) rfl rfl ?_) | (refine gCall ?_; first | refine st (ok_call rfl rfl rfl (by first | exact open_evBad (by first | exact .inl rfl | exact .inr (.inl rfl) | exact .inr (.inr ⟨_, rfl⟩) | assumption) (by assumption) (by assumption) (by assumption) rfl | exact open_evOk (by first | exact .inl rfl | exact .inr (.inl rfl) | exact .inr (.inr ⟨_, rfl⟩) | assumption) (by assumption) (by assumption) rfl | exact hplan | exact hkind)) rfl rfl ?_) | (refine gBox ?_; first | refine st (ok_box rfl) rfl rfl ?_) | (refine gBuildS ?_; first | refine st (ok_buildS (by rfl) (by rfl) (by rfl) (by rfl) rfl (by rfl)) rfl rfl ?_ | refine st (ok_buildS0) rfl rfl ?_) | (refine gApp ?_; first | refine st (ok_appendV (by rfl) (by rfl) rfl (by rfl) (by first | rfl | assumption) rfl (by first | rfl | assumption) (by omega) (by first | rfl | assumption) (by omega) (by omega)) rfl rfl ?_ | refine st (ok_appendIn rfl rfl (by omega) (by omega) (by first | rfl | assumption) (by first | rfl | assumption) (by first | rfl | assumption | exact hp1 (by omega) | exact hp2 (by omega))) rfl rfl ?_ | refine st (ok_app0 rfl (by first | rfl | exact slOk_slvV _ _ _) rfl (by omega)) rfl rfl ?_ | refine st (ok_appendE (by rfl) rfl rfl (by first | rfl | assumption) (by omega) (by omega) (by omega)) rfl rfl ?_)) | (refine fU ?_; first | (refine fMove ?_; first | refine frA (ok_move rfl) rfl ?_) | (refine fAssign ?_; first | refine frA (ok_assign rfl) rfl ?_) | (refine fLen ?_; first | refine frA (ok_len rfl) rfl ?_ | refine frA (ok_lenV rfl) rfl ?_) | (refine fSlice ?_; first | refine frA (ok_slice3V rfl rfl rfl) rfl ?_ | refine frA (ok_sliceH rfl rfl (by omega)) rfl ?_ | refine frA (ok_sliceL rfl rfl (by omega) (by omega)) rfl ?_ | refine frA (ok_sliceA rfl) rfl ?_ | refine frA (ok_sliceAH rfl rfl (by omega)) rfl ?_) | (refine fCall ?_; first | refine frA (ok_call rfl rfl rfl (by first | exact open_evBad (by first | exact .inl rfl | exact .inr (.inl rfl) | exact .inr (.inr ⟨_, rfl⟩) | assumption) (by assumption) (by assumption) (by assumption) rfl | exact open_evOk (by first | exact .inl rfl | exact .inr (.inl rfl) | exact .inr (.inr ⟨_, rfl⟩) | assumption) (by assumption) (by assumption) rfl | exact hplan | exact hkind)) rfl ?_) | (refine fBuildS ?_; first | refine frN (ok_buildS (by rfl) (by rfl) (by rfl) (by rfl) rfl (by rfl)) nok_slice rfl rfl rfl ?_ | refine frN (ok_buildS0) nok_slice rfl rfl rfl ?_)) | (refine fr_stop ⟨by kernel_rfl, ?_⟩) | refine W_seq ?_ | refine W_region ?_ | refine W_regionD (by kernel_rfl) rfl ?_ | refine st_nil ?_ | refine tq_n ?_ | refine tq_r ?_ | refine tq_e ?_ | refine bq_n ?_ | refine bq_r ?_ | refine bq_hit rfl ?_ | refine bq_miss rfl ?_ | refine W_skip ?_ | refine W_exit ?_ | refine W_ret ?_ | refine W_block ?_ | refine W_condTA rfl ?_ | refine W_condFA rfl ?_ | (refine W_condD rfl ?_ ?_ <;> intro _) | (refine W_cond rfl ?_ ?_ <;> intro _))
        exact ret0 (.tmp rfl (.tmp rfl .nil)) (retSl (j := 4) rfl (ints_plain KL) (.inr ⟨3, rfl⟩) rfl rfl) ⟨rfl, rfl⟩
    · rw [if_neg hB2] at hE
      rw [if_neg (by omega), hE]
      refine acall_intro 1 52 Try.func38 rfl rfl rfl rfl rfl ?_
      repeat' (first | (refine gU ?_; first | (refine gMove ?_; first | refine st (ok_move rfl) rfl rfl ?_) | (refine gAssign ?_; first | refine st (ok_assign rfl) rfl rfl ?_) | (refine gFA ?_; first | refine st (ok_fieldAddr rfl) rfl rfl ?_) | (refine gLoad ?_; first | refine st (ok_load rfl (by first | rfl | assumption)) rfl rfl ?_ | refine st (ok_loadA rfl (by first | rfl | assumption)) rfl rfl ?_) | (refine gAdd ?_; first | refine st (ok_inc rfl rfl (by omega)) rfl rfl ?_ | refine st (ok_add rfl rfl (by omega) (by omega)) rfl rfl ?_ | refine st (ok_bin rfl rfl rfl) rfl rfl ?_) | (refine gBin ?_; first | refine st (ok_bin rfl rfl rfl) rfl rfl ?_ | refine st (ok_neq2 rfl rfl) rfl rfl ?_) | (refine gLen ?_; first | refine st (ok_len rfl) rfl rfl ?_ | refine st (ok_lenV rfl) rfl rfl ?_) | (refine gNot ?_; first | refine st (ok_notD rfl) rfl rfl ?_ | refine st (ok_not' rfl) rfl rfl ?_) | (refine gExtract ?_; first | refine st (ok_extract rfl rfl) rfl rfl ?_) | (refine gSlice ?_; first | refine st (ok_slice3V rfl rfl rfl) rfl rfl ?_ | refine st (ok_sliceH rfl rfl (by omega)) rfl rfl ?_ | refine st (ok_sliceL rfl rfl (by omega) (by omega)) rfl rfl ?_ | refine st (ok_sliceA rfl) rfl rfl ?_ | refine st (ok_sliceAH rfl rfl (by omega)) rfl rfl ?_) | (refine gCall ?_; first | refine st (ok_call rfl rfl rfl (by first | exact open_evBad (by first | exact .inl rfl | exact .inr (.inl rfl) | exact .inr (.inr ⟨_, rfl⟩) | assumption) (by assumption) (by assumption) (by assumption) rfl | exact open_evOk (by first | exact .inl rfl | exact .inr (.inl rfl) | exact .inr (.inr ⟨_, rfl⟩) | assumption) (by assumption) (by assumption) rfl | exact hplan | exact hkind)) rfl rfl ?_) | (refine gBox ?_; first | refine st (ok_box rfl) rfl rfl ?_) | (refine gBuildS ?_; first | refine st (ok_buildS (by rfl) (by rfl) (by rfl) (by rfl) rfl (by rfl)) rfl rfl ?_ | refine st (ok_buildS0) rfl rfl ?_) | (refine gApp ?_; first | refine st (ok_appendV (by rfl) (by rfl) rfl (by rfl) (by first | rfl | assumption) rfl (by first | rfl | assumption) (by omega) (by first | rfl | assumption) (by omega) (by omega)) rfl rfl ?_ | refine st (ok_appendIn rfl rfl (by omega) (by omega) (by first | rfl | assumption) (by first | rfl | assumption) (by first | rfl | assumption | exact hp1 (by omega) | exact hp2 (by omega))) rfl rfl ?_ | refine st (ok_app0 rfl (by first | rfl | exact slOk_slvV _ _ _) rfl (by omega)) rfl rfl ?_ | refine st (ok_appendE (by rfl) rfl rfl (by first | rfl | assumption) (by omega) (by omega) (by omega)) rfl rfl ?_)) | (refine fU ?_; first | (refine fMove ?_; first | refine frA (ok_move rfl) rfl ?_) | (refine fAssign ?_; first | refine frA (ok_assign rfl) rfl ?_) | (refine fLen ?_; first | refine frA (ok_len rfl) rfl ?_ | refine frA (ok_lenV rfl) rfl ?_) | (refine fSlice ?_; first | refine frA (ok_slice3V rfl rfl rfl) rfl ?_ | refine frA (ok_sliceH rfl rfl (by omega)) rfl ?_ | refine frA (ok_sliceL rfl rfl (by omega) (by omega)) rfl ?_ | refine frA (ok_sliceA rfl) rfl ?_ | refine frA (ok_sliceAH rfl rfl (by omega)) rfl ?_) | (refine fCall ?_; first | refine frA (ok_call rfl rfl rfl (by first | exact open_evBad (by first | exact .inl rfl | exact .inr (.inl rfl) | exact .inr (.inr ⟨_, rfl⟩) | assumption) (by assumption) (by assumption) (by assumption) rfl | exact open_evOk (by first | exact .inl rfl | exact .inr (.inl rfl) | exact .inr (.inr ⟨_, rfl⟩) | assumption) (by assumption) (by assumption) rfl | exact hplan | exact hkind)) rfl ?_) | (refine fBuildS ?_; first | refine frN (ok_buildS (by rfl) (by rfl) (by rfl) (by rfl) rfl (by rfl)) nok_slice rfl rfl rfl ?_ | refine frN (ok_buildS0) nok_slice rfl rfl rfl ?_)) | (refine fr_stop ⟨by kernel_rfl, ?_⟩) | refine W_seq ?_ | refine W_region ?_ | refine W_regionD (by kernel_rfl) rfl ?_ | refine st_nil ?_ | refine tq_n ?_ | refine tq_r ?_ | refine tq_e ?_ | refine bq_n ?_ | refine bq_r ?_ | refine bq_hit rfl ?_ | refine bq_miss rfl ?_ | refine W_skip ?_ | refine W_exit ?_ | refine W_ret ?_ | refine W_block ?_ | refine W_condTA rfl ?_ | refine W_condFA rfl ?_ | (refine W_condD rfl ?_ ?_ <;> intro _) | (refine W_cond rfl ?_ ?_ <;> intro _))
      exact ret0 (.tmp rfl (.tmp rfl .nil)) (retNil rfl rfl) ⟨rfl, rfl⟩
  · have hE : planE s l = checkS s l := by unfold planE; rw [if_pos h]
    unfold kindsR
    rw [hE, if_neg h]
    refine acall_intro 1 52 Try.func38 rfl rfl rfl rfl rfl ?_
    repeat' (first | (refine gU ?_; first | (refine gMove ?_; first | refine st (ok_move rfl) rfl rfl ?_) | (refine gAssign ?_; first | refine st (ok_assign rfl) rfl rfl ?_) | (refine gFA ?_; first | refine st (ok_fieldAddr rfl) rfl rfl ?_) | (refine gLoad ?_; first | refine st (ok_load rfl (by first | rfl | assumption)) rfl rfl ?_ | refine st (ok_loadA rfl (by first | rfl | assumption)) rfl rfl ?_) | (refine gAdd ?_; first | refine st (ok_inc rfl rfl (by omega)) rfl rfl ?_ | refine st (ok_add rfl rfl (by omega) (by omega)) rfl rfl ?_ | refine st (ok_bin rfl rfl rfl) rfl rfl ?_) | (refine gBin ?_; first | refine st (ok_bin rfl rfl rfl) rfl rfl ?_ | refine st (ok_neq2 rfl rfl) rfl rfl ?_) | (refine gLen ?_; first | refine st (ok_len rfl) rfl rfl ?_ | refine st (ok_lenV rfl) rfl rfl ?_) | (refine gNot ?_; first | refine st (ok_notD rfl) rfl rfl ?_ | refine st (ok_not' rfl) rfl rfl ?_) | (refine gExtract ?_; first | refine st (ok_extract rfl rfl) rfl rfl ?_) | (refine gSlice ?_; first | refine st (ok_slice3V rfl rfl rfl) rfl rfl ?_ | refine st (ok_sliceH rfl rfl (by omega)) rfl rfl ?_ | refine st (ok_sliceL rfl rfl (by omega) (by omega)) rfl rfl ?_ | refine st (ok_sliceA rfl) rfl rfl ?_ | refine st (ok_sliceAH rfl rfl (by omega)) rfl rfl ?_) | (refine gCall ?_; first | refine st (ok_call rfl rfl rfl (by first | exact open_evBad (by first | exact .inl rfl | exact .inr (.inl rfl) | exact .inr (.inr ⟨_, rfl⟩) | assumption) (by assumption) (by assumption) (by assumption) rfl | exact open_evOk (by first | exact .inl rfl | exact .inr (.inl rfl) | exact .inr (.inr ⟨_, rfl⟩) | assumption) (by assumption) (by assumption) rfl | exact hplan | exact hkind)) rfl rfl ?_) | (refine gBox ?_; first | refine st (ok_box rfl) rfl rfl ?_) | (refine gBuildS ?_; first | refine st (ok_buildS (by rfl) (by rfl) (by rfl) (by rfl) rfl (by rfl)) rfl rfl ?_ | refine st (ok_buildS0) rfl rfl ?_) | (refine gApp ?_; first | refine st (ok_appendV (by rfl) (by rfl) rfl (by rfl) (by first | rfl | assumption) rfl (by first | rfl | assumption) (by omega) (by first | rfl | assumption) (by omega) (by omega)) rfl rfl ?_ | refine st (ok_appendIn rfl rfl (by omega) (by omega) (by first | rfl | assumption) (by first | rfl | assumption) (by first | rfl | assumption | exact hp1 (by omega) | exact hp2 (by omega))) rfl rfl ?_ | refine st (ok_app0 rfl (by first | rfl | exact slOk_slvV _ _ _) rfl (by omega)) rfl rfl ?_ | refine st (ok_appendE (by rfl) rfl rfl (by first | rfl | assumption) (by omega) (by omega) (by omega)) rfl rfl ?_)) | (refine fU ?_; first | (refine fMove ?_; first | refine frA (ok_move rfl) rfl ?_) | (refine fAssign ?_; first | refine frA (ok_assign rfl) rfl ?_) | (refine fLen ?_; first | refine frA (ok_len rfl) rfl ?_ | refine frA (ok_lenV rfl) rfl ?_) | (refine fSlice ?_; first | refine frA (ok_slice3V rfl rfl rfl) rfl ?_ | refine frA (ok_sliceH rfl rfl (by omega)) rfl ?_ | refine frA (ok_sliceL rfl rfl (by omega) (by omega)) rfl ?_ | refine frA (ok_sliceA rfl) rfl ?_ | refine frA (ok_sliceAH rfl rfl (by omega)) rfl ?_) | (refine fCall ?_; first | refine frA (ok_call rfl rfl rfl (by first | exact open_evBad (by first | exact .inl rfl | exact .inr (.inl rfl) | exact .inr (.inr ⟨_, rfl⟩) | assumption) (by assumption) (by assumption) (by assumption) rfl | exact open_evOk (by first | exact .inl rfl | exact .inr (.inl rfl) | exact .inr (.inr ⟨_, rfl⟩) | assumption) (by assumption) (by assumption) rfl | exact hplan | exact hkind)) rfl ?_) | (refine fBuildS ?_; first | refine frN (ok_buildS (by rfl) (by rfl) (by rfl) (by rfl) rfl (by rfl)) nok_slice rfl rfl rfl ?_ | refine frN (ok_buildS0) nok_slice rfl rfl rfl ?_)) | (refine fr_stop ⟨by kernel_rfl, ?_⟩) | refine W_seq ?_ | refine W_region ?_ | refine W_regionD (by kernel_rfl) rfl ?_ | refine st_nil ?_ | refine tq_n ?_ | refine tq_r ?_ | refine tq_e ?_ | refine bq_n ?_ | refine bq_r ?_ | refine bq_hit rfl ?_ | refine bq_miss rfl ?_ | refine W_skip ?_ | refine W_exit ?_ | refine W_ret ?_ | refine W_block ?_ | refine W_condTA rfl ?_ | refine W_condFA rfl ?_ | (refine W_condD rfl ?_ ?_ <;> intro _) | (refine W_cond rfl ?_ ?_ <;> intro _))
    exact ret0 (.tmp rfl (.tmp rfl .nil)) (retNil rfl rfl) ⟨rfl, rfl⟩
theorem rimKinds_ev {σ : Heap} {s : St} {l : List Int} {a c : Nat} (hx : arrAt σ a (ints l)) (hN : l.length ≤ 1000000) (hr : -9223372036854775808 ≤ s.short ∧ s.short ≤ 9223372036854775807) (hni : σ.all (fun o => !isIter o) = true) :
    Ev Try.prog 38 [s.val, .slice (some ⟨a, 0, none⟩) l.length c] σ (.tuple #[.slice (some ⟨σ.length, 0, none⟩) (kindsR s l).length (kindsR s l).length, .int .i64 (planE s l)]) (σ ++ [.rw (ints (kindsR s l))]) := by
  refine Ev.arrsN [ints l] [a] (news := [.rw (ints (kindsR s l))]) (rimKinds_ok s l c hN hr) ⟨hx, trivial⟩ ⟨vrel_plain _ rfl, by simpa [bsR] using VQ.slice (q := true) (n := 1) (ρ := bsR [a]) 0 0 l.length c c (Nat.le_refl _) (by omega), trivial⟩ (by simp [ints_plain]) rfl ?_ ?_ hni
  · simp [ren, renA, renL, shf]
  · simp only [List.map_cons, List.map_nil, renO, renL_plain _ (ints_plain _)]
end Go.Proofs.Ytgfnogdecggkkaa
namespace Go.Proofs.Ytgfnogdecggkkaa
open Go Go.AH
attribute [local irreducible] WOps WCode WFree retQ thenQ blockQ OpOk ACall RetRef roundA roundB
set_option maxRecDepth 100000
set_option maxHeartbeats 1000000
def Dom (F : Nat → Int × Int) (n : Nat) (G : Nat → Int × Int) (m : Nat) (tG Y : Int) : Prop :=
  ∀ x, tG ≤ x → x ≤ Y → ∀ i < n, (F i).1 ≤ x → x ≤ (F i).2 → ∃ j < m, (G j).1 ≤ x ∧ x ≤ (G j).2 ∧ ((G j).1 ≤ (F i).1 ∨ (G j).1 ≤ tG)
theorem Dom.refl {F : Nat → Int × Int} {n : Nat} {t Y : Int} : Dom F n F n t Y := fun _ _ _ i hi h1 h2 => ⟨i, hi, h1, h2, .inl (Int.le_refl _)⟩
theorem grd_dom {F G : Nat → Int × Int} {n m : Nat} {tF tG Y : Int} (hD : Dom F n G m tG Y) (ht : tF ≤ tG) : ∀ (q k : Nat) (x : Int) (k' : Nat) (y : Int), k + k' ≤ q → x < tF + k → y < tG + k' → y ≤ x → y ≤ Y → (grd F n tF k x).2 < tF →
    (grd G m tG k' y).2 < tG ∧ (grd G m tG k' y).1.length ≤ (grd F n tF k x).1.length
  | q, k, x, k', y, hq, hk, hk', hyx, hyY, hF => by
    by_cases hy : y < tG
    · rw [grd_stop (.inl hy)]; exact ⟨hy, by simp⟩
    · cases k with
      | zero => omega
      | succ k =>
        cases q with
        | zero => omega
        | succ q =>
          by_cases hs : x < tF ∨ bestF F x n < 0
          · rw [grd_stop hs] at hF; simp only at hF; omega
          · have e1 : grd F n tF (k + 1) x = ((x, bestF F x n) :: (grd F n tF k ((F (bestF F x n).toNat).1 - 1)).1, (grd F n tF k ((F (bestF F x n).toNat).1 - 1)).2) := by simp only [grd]; rw [if_neg hs]
            obtain ⟨b1, b2, b3, b4⟩ := best_lo (F := F) (n := n) (x := x) (by omega)
            rw [e1] at hF ⊢
            simp only [List.length_cons] at hF ⊢
            by_cases hlo : (F (bestF F x n).toNat).1 ≤ y
            · obtain ⟨j, hj, g1, g2, g3⟩ := hD y (by omega) hyY _ b1 hlo (by omega)
              rcases bestF_is G y m with ⟨c1, c2⟩ | ⟨b', hb', c1, c2, c3, c4⟩
              · exact absurd ⟨g1, g2⟩ (c2 j hj)
              · have hlow := (c4 j hj g1 g2).1
                cases k' with
                | zero => omega
                | succ k' =>
                  have hns : ¬ (y < tG ∨ bestF G y m < 0) := by rw [c1]; omega
                  have e2 : grd G m tG (k' + 1) y = ((y, bestF G y m) :: (grd G m tG k' ((G (bestF G y m).toNat).1 - 1)).1, (grd G m tG k' ((G (bestF G y m).toNat).1 - 1)).2) := by simp only [grd]; rw [if_neg hns]
                  rw [e2, c1, Int.toNat_natCast]
                  simp only [List.length_cons]
                  by_cases hst : (G b').1 - 1 < tG
                  · rw [grd_stop (.inl hst)]; exact ⟨hst, by simp⟩
                  · have ih := grd_dom hD ht q k ((F (bestF F x n).toNat).1 - 1) k' ((G b').1 - 1) (by omega) (by omega) (by omega) (by omega) (by omega) hF
                    exact ⟨ih.1, by omega⟩
            · have ih := grd_dom hD ht q k ((F (bestF F x n).toNat).1 - 1) k' y (by omega) (by omega) hk' (by omega) hyY hF
              exact ⟨ih.1, by omega⟩
theorem planS_dom {F G : Nat → Int × Int} {n m : Nat} {fF tF fG tG : Int} (hD : Dom F n G m tG fG) (ht : tF ≤ tG) (hf : fG ≤ fF) (hF : (planS F n fF tF).2 < tF) :
    (planS G m fG tG).2 < tG ∧ (planS G m fG tG).1.length ≤ (planS F n fF tF).1.length := by
  unfold planS at hF ⊢
  exact grd_dom hD ht _ _ _ _ _ (Nat.le_refl _) (by omega) (by omega) hf (Int.le_refl _) hF
theorem grd_around {F : Nat → Int × Int} {n i : Nat} {to : Int} (hi : i < n) (hto : to ≤ (F i).1) (hlh : (F i).1 ≤ (F i).2) (kb : Nat) (hkb : (F i).1 - 1 < to + kb) (hb : (grd F n to kb ((F i).1 - 1)).2 < to) : ∀ (k : Nat) (x : Int) (ka : Nat), x < to + k → x < (F i).2 + 1 + ka →
    (grd F n ((F i).2 + 1) ka x).2 < (F i).2 + 1 → (grd F n to k x).1.length ≤ (grd F n ((F i).2 + 1) ka x).1.length + 1 + (grd F n to kb ((F i).1 - 1)).1.length
  | k, x, ka, hk, hka, ha => by
    by_cases hs : x < to ∨ bestF F x n < 0
    · rw [grd_stop hs]; simp
    · obtain ⟨b1, b2, b3, b4⟩ := best_lo (F := F) (n := n) (x := x) (by omega)
      cases k with
      | zero => omega
      | succ k =>
        have e1 : grd F n to (k + 1) x = ((x, bestF F x n) :: (grd F n to k ((F (bestF F x n).toNat).1 - 1)).1, (grd F n to k ((F (bestF F x n).toNat).1 - 1)).2) := by simp only [grd]; rw [if_neg hs]
        by_cases hx : x < (F i).2 + 1
        · rw [grd_stop (to := (F i).2 + 1) (.inl hx)]
          by_cases hlo : (F i).1 ≤ x
          · have hle := b4 i hi hlo (by omega)
            rw [e1]
            have := (grd_dom (F := F) (G := F) (Dom.refl (t := to) (Y := (F (bestF F x n).toNat).1 - 1)) (Int.le_refl to) _ kb ((F i).1 - 1) k ((F (bestF F x n).toNat).1 - 1) (Nat.le_refl _) hkb (by omega) (by omega) (Int.le_refl _) hb).2
            simp only [List.length_cons, List.length_nil]; omega
          · have := (grd_dom (F := F) (G := F) (Dom.refl (t := to) (Y := x)) (Int.le_refl to) _ kb ((F i).1 - 1) (k + 1) x (Nat.le_refl _) hkb (by omega) (by omega) (Int.le_refl _) hb).2
            simp only [List.length_nil]; omega
        · cases ka with
          | zero => omega
          | succ ka =>
            have hns : ¬ (x < (F i).2 + 1 ∨ bestF F x n < 0) := by omega
            have e2 : grd F n ((F i).2 + 1) (ka + 1) x = ((x, bestF F x n) :: (grd F n ((F i).2 + 1) ka ((F (bestF F x n).toNat).1 - 1)).1, (grd F n ((F i).2 + 1) ka ((F (bestF F x n).toNat).1 - 1)).2) := by simp only [grd]; rw [if_neg hns]
            rw [e2] at ha ⊢
            rw [e1]
            have ih := grd_around hi hto hlh kb hkb hb k ((F (bestF F x n).toNat).1 - 1) ka (by omega) (by omega) ha
            simp only [List.length_cons]; omega
theorem sp_without {s : St} {l : List Int} {i k : Nat} (hi : i < l.length) (hk : k < l.length - 1) : sp s (without l i) k = sp s l (if k < i then k else k + 1) := by
  unfold sp; rw [without_get hi hk]
theorem dom_out {s : St} {l : List Int} {i : Nat} (hi : i < l.length) {t Y : Int} : Dom (maskF (spanAt s l) (outG i)) l.length (sp s (without l i)) (l.length - 1) t Y := fun x h1 h2 k hk h3 h4 => by
  by_cases hki : k = i
  · subst hki
    have e : maskF (spanAt s l) (outG k) k = nw := by unfold maskF outG setF; simp
    rw [e] at h3 h4
    have : (nw.1 : Int) ≤ nw.2 := by omega
    exact absurd this (by decide)
  · have e : maskF (spanAt s l) (outG i) k = spanAt s l k := by unfold maskF outG setF; simp [hki]
    rw [e] at h3 h4 ⊢
    have e2 := at_hold hk ⟨h3, h4⟩
    rw [e2] at h3 h4 ⊢
    by_cases hlt : k < i
    · refine ⟨k, by omega, ?_⟩
      rw [sp_without hi (by omega), if_pos hlt]
      exact ⟨h3, h4, .inl (Int.le_refl _)⟩
    · refine ⟨k - 1, by omega, ?_⟩
      rw [sp_without hi (by omega), if_neg (by omega), show k - 1 + 1 = k from by omega]
      exact ⟨h3, h4, .inl (Int.le_refl _)⟩
theorem dom_in {s : St} {l : List Int} {i : Nat} (hi : i < l.length) {t Y : Int} : Dom (sp s (without l i)) (l.length - 1) (maskF (spanAt s l) (outG i)) l.length t Y := fun x h1 h2 k hk h3 h4 => by
  rw [sp_without hi hk] at h3 h4 ⊢
  generalize hj : (if k < i then k else k + 1) = j at h3 h4 ⊢
  have hjl : j < l.length := by rw [← hj]; split <;> omega
  have hji : j ≠ i := by rw [← hj]; split <;> omega
  have e : maskF (spanAt s l) (outG i) j = spanAt s l j := by unfold maskF outG setF; simp [hji]
  refine ⟨j, hjl, ?_⟩
  rw [e, sp_hold hjl ⟨h3, h4⟩]
  exact ⟨h3, h4, .inl (Int.le_refl _)⟩
theorem plan_out {s : St} {l : List Int} {i : Nat} (hi : i < l.length) {from_ to : Int} :
    ((planS (maskF (spanAt s l) (outG i)) l.length from_ to).2 < to ↔ (planS (sp s (without l i)) (l.length - 1) from_ to).2 < to) ∧
    ((planS (sp s (without l i)) (l.length - 1) from_ to).2 < to → (planS (maskF (spanAt s l) (outG i)) l.length from_ to).1.length = (planS (sp s (without l i)) (l.length - 1) from_ to).1.length) := by
  have h1 := fun h => planS_dom (F := maskF (spanAt s l) (outG i)) (n := l.length) (fF := from_) (tF := to) (fG := from_) (tG := to) (dom_out (s := s) (l := l) hi) (Int.le_refl _) (Int.le_refl _) h
  have h2 := fun h => planS_dom (F := sp s (without l i)) (n := l.length - 1) (fF := from_) (tF := to) (fG := from_) (tG := to) (dom_in (s := s) (l := l) hi) (Int.le_refl _) (Int.le_refl _) h
  refine ⟨⟨fun h => (h1 h).1, fun h => (h2 h).1⟩, fun h => ?_⟩
  have h3 := h2 h
  have h4 := h1 h3.1
  omega
def kindD (s : St) (l : List Int) (i : Nat) (m : Nat) : Int :=
  if ¬ (planS (sp s (without l i)) (l.length - 1) s.long s.short).2 < s.short ∨ (planS (sp s (without l i)) (l.length - 1) s.long s.short).1.length > m then 2 else
    if (sp s l i).1 ≤ (sp s l i).2 ∧ (planS (sp s l) l.length s.long ((sp s l i).2 + 1)).2 < (sp s l i).2 + 1 ∧ (planS (sp s l) l.length ((sp s l i).1 - 1) s.short).2 < s.short ∧
      (planS (sp s l) l.length s.long ((sp s l i).2 + 1)).1.length + 1 + (planS (sp s l) l.length ((sp s l i).1 - 1) s.short).1.length = m then 1 else 0
theorem plan_span {s : St} {l : List Int} {from_ to : Int} : planS (spanAt s l) l.length from_ to = planS (sp s l) l.length from_ to := by
  rw [← plan_same, maskF_zero]
theorem spanAt_sp {s : St} {l : List Int} {i : Nat} (hi : i < l.length) : (spanAt s l i = nw ∧ ¬ (sp s l i).1 ≤ (sp s l i).2) ∨ (spanAt s l i = sp s l i ∧ (sp s l i).1 ≤ (sp s l i).2) := by
  by_cases h : (sp s l i).1 ≤ (sp s l i).2
  · exact .inr ⟨sp_hold hi ⟨Int.le_refl _, h⟩, h⟩
  · refine .inl ⟨?_, h⟩
    rcases spanAt_in (s := s) i hi with h2 | h2
    · exact h2
    · exfalso
      have := at_hold hi (x := (spanAt s l i).1) ⟨Int.le_refl _, by omega⟩
      rw [this] at h2; omega
theorem kind_same {s : St} {l : List Int} {i : Nat} (hc : checkS s l = 0) (hi : i < l.length) (hF : (planS (sp s l) l.length s.long s.short).2 < s.short) :
    kindV (spanAt s l) l.length s.long s.short i ((planS (sp s l) l.length s.long s.short).1.length : Int) = kindD s l i (planS (sp s l) l.length s.long s.short).1.length := by
  obtain ⟨_, _, hs, _⟩ := checkS_zero hc
  have hs2 : s.short ≤ s.long := by unfold badStone at hs; omega
  obtain ⟨p1, p2⟩ := plan_out (s := s) hi (from_ := s.long) (to := s.short)
  unfold kindV kindD
  by_cases h1 : (planS (sp s (without l i)) (l.length - 1) s.long s.short).2 < s.short
  · have e := p2 h1
    by_cases h2 : (planS (sp s (without l i)) (l.length - 1) s.long s.short).1.length > (planS (sp s l) l.length s.long s.short).1.length
    · rw [if_pos (.inr (by omega)), if_pos (.inr h2)]
    · have n1 : ¬ (¬ (planS (sp s (without l i)) (l.length - 1) s.long s.short).2 < s.short ∨ (planS (sp s (without l i)) (l.length - 1) s.long s.short).1.length > (planS (sp s l) l.length s.long s.short).1.length) := by omega
      rw [if_neg (by rw [p1]; omega), if_neg n1]
      rcases spanAt_sp (s := s) hi with ⟨e1, e2⟩ | ⟨e1, e2⟩
      · rw [if_pos e1, if_neg (fun h => e2 h.1)]
      · have hlo : s.short ≤ (sp s l i).1 := by unfold sp span; simp only; omega
        have hhi : (sp s l i).2 ≤ s.long := by unfold sp span; simp only; omega
        have hne : spanAt s l i ≠ nw := fun h => by
          rw [e1] at h; rw [h] at e2; exact absurd e2 (by decide)
        rw [if_neg hne, plan_span, plan_span, e1]
        have ha := planS_dom (F := sp s l) (G := sp s l) (n := l.length) (m := l.length) (fF := s.long) (tF := s.short) (fG := s.long) (tG := (sp s l i).2 + 1) Dom.refl (by omega) (Int.le_refl _) hF
        have hb := planS_dom (F := sp s l) (G := sp s l) (n := l.length) (m := l.length) (fF := s.long) (tF := s.short) (fG := (sp s l i).1 - 1) (tG := s.short) Dom.refl (Int.le_refl _) (by omega) hF
        have har : (planS (sp s l) l.length s.long s.short).1.length ≤ (planS (sp s l) l.length s.long ((sp s l i).2 + 1)).1.length + 1 + (planS (sp s l) l.length ((sp s l i).1 - 1) s.short).1.length := by
          have hb' := hb.1
          have ha' := ha.1
          unfold planS at ha' hb' ⊢
          exact grd_around hi hlo e2 _ (by omega) hb' _ _ _ (by omega) (by omega) ha'
        by_cases hm : (planS (sp s l) l.length s.long ((sp s l i).2 + 1)).1.length + 1 + (planS (sp s l) l.length ((sp s l i).1 - 1) s.short).1.length = (planS (sp s l) l.length s.long s.short).1.length
        · rw [if_neg (by omega), if_pos ⟨e2, ha.1, hb.1, hm⟩]
        · rw [if_pos (by omega), if_neg fun h => hm h.2.2.2]
  · rw [if_pos (.inl (by rw [p1]; exact h1)), if_pos (.inl h1)]
end Go.Proofs.Ytgfnogdecggkkaa
namespace Go.Proofs.Ytgfnogdecggkkaa
open Go Go.AH
attribute [local irreducible] WOps WCode WFree retQ thenQ blockQ OpOk ACall RetRef roundA roundB
set_option maxRecDepth 100000
set_option maxHeartbeats 1000000
end Go.Proofs.Ytgfnogdecggkkaa
namespace Go.Proofs.Ytgfnogdecggkkaa
open Go Go.AH
attribute [local irreducible] WOps WCode WFree retQ thenQ blockQ OpOk ACall RetRef roundA roundB
set_option maxRecDepth 100000
set_option maxHeartbeats 1000000
end Go.Proofs.Ytgfnogdecggkkaa
namespace Go.AH
open Go
theorem ok_convK {P : Program} {rd : Option Nat} {ty : TypeId} {e : Env} {σ : Heap} {x : Operand} {m : Int} {s d : TypeId} {k : IntKind} [Ik P s k] [Ik P d .i64] (hx : evalO e x = some (.int k m)) (h1 : -9223372036854775808 ≤ m) (h2 : m ≤ 9223372036854775807) :
    OpOk P rd (.convert s d x) ty e σ (.int .i64 m) σ := by
  have := ok_convI (P := P) (rd := rd) (ty := ty) (σ := σ) (s := s) (d := d) hx
  rwa [wrap64 h1 h2] at this
end Go.AH
namespace Go.Proofs.Ytgfnogdecggkkaa
open Go Go.AH
attribute [local irreducible] WOps WCode WFree retQ thenQ blockQ OpOk ACall RetRef roundA roundB
set_option maxRecDepth 100000
set_option maxHeartbeats 1000000
theorem count_ok (s : St) (l : List Int) (c : Nat) (hN : l.length ≤ 1000000) (hr : -9223372036854775808 ≤ s.short ∧ s.short ≤ 9223372036854775807) (h : planE s l = 0) :
    Ev Try.prog 43 [s.val, .slice (some ⟨0, 0, none⟩) l.length c] [.ro (ints l)] (.tuple #[.int .i64 ((planR s l).length : Int), .bool true]) [.ro (ints l)] := by
  have hpl := rimPlanS_ev (σ := [.ro (ints l), .rw s.cells]) (s := s) (l := l) (a := 0) (c := c) (.inl rfl) hN hr rfl
  rw [h] at hpl
  refine acall_intro 1 23 Try.func43 rfl rfl rfl rfl rfl ?_
  repeat' (first | (refine gU ?_; first | (refine gMove ?_; first | refine st (ok_move rfl) rfl rfl ?_) | (refine gAssign ?_; first | refine st (ok_assign rfl) rfl rfl ?_) | (refine gLoad ?_; first | refine st (ok_load rfl (by first | rfl | assumption)) rfl rfl ?_ | refine st (ok_loadA rfl (by first | rfl | assumption)) rfl rfl ?_) | (refine gBin ?_; first | refine st (ok_bin rfl rfl rfl) rfl rfl ?_ | refine st (ok_eq2 rfl rfl) rfl rfl ?_) | (refine gLen ?_; first | refine st (ok_len rfl) rfl rfl ?_ | refine st (ok_lenV rfl) rfl rfl ?_) | (refine gExtract ?_; first | refine st (ok_extract rfl rfl) rfl rfl ?_) | (refine gCall ?_; first | refine st (ok_call rfl rfl rfl (by first | exact fine_ev (by first | exact .inl rfl | exact .inr (.inl rfl) | exact .inr (.inr ⟨_, rfl⟩) | assumption) (by assumption) rfl | exact works_ev rfl | exact hfar1 | exact hfar2 | exact hplan | exact hcount | exact hpl)) rfl rfl ?_) | (refine gBox ?_; first | refine st (ok_box rfl) rfl rfl ?_)) | refine W_seq ?_ | refine W_region ?_ | refine st_nil ?_ | refine tq_n ?_ | refine tq_r ?_ | refine tq_e ?_ | refine bq_n ?_ | refine bq_r ?_ | refine bq_hit rfl ?_ | refine bq_miss rfl ?_ | refine W_skip ?_ | refine W_exit ?_ | refine W_ret ?_ | refine W_block ?_ | refine W_condTA rfl ?_ | refine W_condFA rfl ?_ | (refine W_condD rfl ?_ ?_ <;> intro _) | (refine W_cond rfl ?_ ?_ <;> intro _))
  exact ret0 (.tmp rfl (.tmp rfl .nil)) (.plain rfl rfl) ⟨rfl, rfl⟩
def cut (s : St) (a : Int) : St := ⟨s.long, a, s.off, s.lo, s.hi⟩
end Go.Proofs.Ytgfnogdecggkkaa
