/- What End, IsAllowed of the reference, end, least and at of rim do; lists of runs. Conditions: stand in each theorem. -/
import Derived.Test.YtgfnogdecggkkaaKeMN
namespace Go.Proofs.Ytgfnogdecggkkaa
open Go Go.AH
attribute [local irreducible] WOps WCode WFree retQ thenQ blockQ OpOk ACall RetRef roundA roundB
set_option maxRecDepth 100000
set_option maxHeartbeats 1000000
def gp (pl : List (Int × Int)) (i : Nat) : Int × Int := pl.getD i (0, 0)
def runsC (pl : List (Int × Int)) : List Value := pl.flatMap fun p => [.int .i64 p.1, .int .i64 p.2]
theorem runs_len : ∀ pl : List (Int × Int), (runsC pl).length = pl.length * 2
  | [] => rfl
  | p :: r => by
    have := runs_len r
    simp only [runsC, List.flatMap_cons, List.length_append, List.length_cons, List.length_nil] at this ⊢
    omega
theorem runs_plain : ∀ pl : List (Int × Int), plainL (runsC pl) = true
  | [] => rfl
  | p :: r => by
    have := runs_plain r
    simpa [runsC, plainL, plain] using this
theorem runs_cells : ∀ {pl : List (Int × Int)} {i : Nat}, i < pl.length → ((runsC pl).drop (i * 2)).take 2 = [.int .i64 (gp pl i).1, .int .i64 (gp pl i).2]
  | [], i, h => by simp at h
  | p :: r, 0, h => rfl
  | p :: r, i + 1, h => by
    have := runs_cells (pl := r) (i := i) (by simpa using h)
    rw [show (i + 1) * 2 = i * 2 + 2 from by omega]
    simpa [runsC, gp] using this
theorem runs_get1 {pl : List (Int × Int)} {i : Nat} (h : i < pl.length) : (runsC pl)[i * 2]? = some (.int .i64 (gp pl i).1) := by
  have h1 := runs_cells h
  have : (((runsC pl).drop (i * 2)).take 2)[0]? = some (.int .i64 (gp pl i).1) := by rw [h1]; rfl
  simpa [List.getElem?_take] using this
theorem runs_get2 {pl : List (Int × Int)} {i : Nat} (h : i < pl.length) : (runsC pl)[i * 2 + 1]? = some (.int .i64 (gp pl i).2) := by
  have h1 := runs_cells h
  have : (((runsC pl).drop (i * 2)).take 2)[1]? = some (.int .i64 (gp pl i).2) := by rw [h1]; rfl
  simpa [List.getElem?_take] using this
def endS (short : Int) (pl : List (Int × Int)) (i : Nat) : Int := if i + 1 < pl.length then (gp pl (i + 1)).1 + 1 else short
def isAl (s : St) (n x : Int) : Prop := (x - s.off) * n ≥ s.lo ∧ (x + s.off) * n ≤ s.hi
instance (s : St) (n x : Int) : Decidable (isAl s n x) := by unfold isAl; infer_instance
theorem mul_bounds {a n : Int} {A N : Int} (h : 0 ≤ a ∧ a ≤ A) (h' : 0 ≤ n ∧ n ≤ N) : 0 ≤ a * n ∧ a * n ≤ A * N :=
  ⟨Int.mul_nonneg h.1 h'.1, Int.mul_le_mul h.2 h'.2 h'.1 (by omega)⟩
theorem sp_allowed {s : St} {n x : Int} (hs : ¬ badStone s) (hn : 1 ≤ n ∧ n ≤ 10000) (hx : s.short ≤ x ∧ x ≤ s.long) : ((span s n).1 ≤ x ∧ x ≤ (span s n).2) ↔ isAl s n x := by
  unfold badStone at hs
  unfold span isAl
  simp only
  have d1 : (s.lo + n - 1).tdiv n = (s.lo + n - 1) / n := Int.tdiv_eq_ediv_of_nonneg (by omega)
  have d2 : s.hi.tdiv n = s.hi / n := Int.tdiv_eq_ediv_of_nonneg (by omega)
  rw [d1, d2]
  have e1 : (s.lo + n - 1) / n ≤ x - s.off ↔ (x - s.off) * n ≥ s.lo := by
    rw [show ((s.lo + n - 1) / n ≤ x - s.off) ↔ (s.lo + n - 1) / n < x - s.off + 1 from by omega, Int.ediv_lt_iff_lt_mul (by omega), Int.add_mul]
    omega
  have e2 : x + s.off ≤ s.hi / n ↔ (x + s.off) * n ≤ s.hi := Int.le_ediv_iff_mul_le (by omega)
  omega
theorem isallowed_ok (s : St) (n x : Int) (hs : ¬ badStone s) (hn : 1 ≤ n ∧ n ≤ 10000) (hx : s.short ≤ x ∧ x ≤ s.long) : Ev Try.prog 60 [s.val, .int .i64 n, .int .i64 x] [] (.bool (decide (isAl s n x))) [] := by
  have hs' := hs
  unfold badStone at hs'
  have m1 := mul_bounds (a := x - s.off) (n := n) (A := 100000) (N := 10000) (by omega) (by omega)
  have m2 := mul_bounds (a := x + s.off) (n := n) (A := 200000) (N := 10000) (by omega) (by omega)
  refine acall_intro 0 29 Try.func60 rfl rfl rfl rfl rfl ?_
  repeat' (first | (refine gU ?_; first | (refine gMove ?_; first | refine st (ok_move rfl) rfl rfl ?_) | (refine gAssign ?_; first | refine st (ok_assign rfl) rfl rfl ?_) | (refine gFA ?_; first | refine st (ok_fieldAddr rfl) rfl rfl ?_) | (refine gLoad ?_; first | refine st (ok_load rfl (by first | rfl | assumption | exact hc1 (by omega) | exact hc2 (by omega) | exact hc3 (by omega) | exact hc4 (by omega) | exact hc5 (by omega) | exact hc6 (by omega))) rfl rfl ?_ | refine st (ok_loadA rfl (by first | rfl | assumption | exact hc1 (by omega) | exact hc2 (by omega) | exact hc3 (by omega) | exact hc4 (by omega) | exact hc5 (by omega) | exact hc6 (by omega))) rfl rfl ?_) | (refine gAdd ?_; first | refine st (ok_inc rfl rfl (by omega)) rfl rfl ?_ | refine st (ok_add rfl rfl (by omega) (by omega)) rfl rfl ?_ | refine st (ok_bin rfl rfl rfl) rfl rfl ?_) | (refine gSub ?_; first | refine st (ok_sub rfl rfl (by omega) (by omega)) rfl rfl ?_ | refine st (ok_bin rfl rfl rfl) rfl rfl ?_) | (refine gMul ?_; first | refine st (ok_mul rfl rfl (by omega) (by omega)) rfl rfl ?_ | refine st (ok_mul rfl rfl (by assumption) (by assumption)) rfl rfl ?_ | refine st (ok_bin rfl rfl rfl) rfl rfl ?_) | (refine gBin ?_; first | refine st (ok_bin rfl rfl rfl) rfl rfl ?_) | (refine gPick ?_; first | refine st (ok_pickTA rfl rfl) rfl rfl ?_ | refine st (ok_pickFA rfl rfl) rfl rfl ?_) | (refine gBox ?_; first | refine st (ok_box rfl) rfl rfl ?_)) | (refine gG ?_; first | (refine gMove ?_; first | refine stGA rfl (ok_move rfl) rfl rfl ?_) | (refine gFA ?_; first | refine stGA rfl (ok_fieldAddr rfl) rfl rfl ?_) | (refine gLoad ?_; first | refine stGA rfl (ok_load rfl (by first | rfl | assumption | exact hc1 (by omega) | exact hc2 (by omega) | exact hc3 (by omega) | exact hc4 (by omega) | exact hc5 (by omega) | exact hc6 (by omega))) rfl rfl ?_ | refine stGA rfl (ok_loadA rfl (by first | rfl | assumption | exact hc1 (by omega) | exact hc2 (by omega) | exact hc3 (by omega) | exact hc4 (by omega) | exact hc5 (by omega) | exact hc6 (by omega))) rfl rfl ?_) | (refine gAdd ?_; first | refine stGA rfl (ok_inc rfl rfl (by omega)) rfl rfl ?_ | refine stGA rfl (ok_add rfl rfl (by omega) (by omega)) rfl rfl ?_ | refine stGA rfl (ok_bin rfl rfl rfl) rfl rfl ?_) | (refine gMul ?_; first | refine stGA rfl (ok_mul rfl rfl (by omega) (by omega)) rfl rfl ?_ | refine stGA rfl (ok_mul rfl rfl (by assumption) (by assumption)) rfl rfl ?_ | refine stGA rfl (ok_bin rfl rfl rfl) rfl rfl ?_) | (refine gBin ?_; first | refine stGA rfl (ok_bin rfl rfl rfl) rfl rfl ?_) | refine stSU rfl rfl ?_ | refine stSA rfl rfl ?_ | ((fail_if_success (refine stGkA rfl ?_)); first | (refine stGdD rfl ?_ ?_ <;> intro _) | (refine stGd rfl ?_ ?_ <;> intro _))) | refine W_seq ?_ | refine W_region ?_ | refine st_nil ?_ | refine tq_n ?_ | refine tq_r ?_ | refine tq_e ?_ | refine bq_n ?_ | refine bq_r ?_ | refine bq_hit rfl ?_ | refine bq_miss rfl ?_ | refine W_skip ?_ | refine W_exit ?_ | refine W_ret ?_ | refine W_block ?_ | refine W_condTA rfl ?_ | refine W_condFA rfl ?_ | (refine W_condD rfl ?_ ?_ <;> intro _) | (refine W_cond rfl ?_ ?_ <;> intro _))
  · rename_i hq
    refine ret0 (.tmp rfl .nil) (.plain rfl rfl) ⟨?_, rfl⟩
    have : isAl s n x ↔ (x + s.off) * n ≤ s.hi := ⟨fun h => h.2, fun h => ⟨hq, h⟩⟩
    simp only [retV, this]
  · rename_i hq
    refine ret0 (.tmp rfl .nil) (.plain rfl rfl) ⟨?_, rfl⟩
    rw [decide_eq_false (fun h : isAl s n x => hq h.1)]; rfl
theorem isallowed_ev {σ : Heap} {s : St} {n x : Int} (hs : ¬ badStone s) (hn : 1 ≤ n ∧ n ≤ 10000) (hx : s.short ≤ x ∧ x ≤ s.long) (hni : σ.all (fun o => !isIter o) = true) : Ev Try.prog 60 [s.val, .int .i64 n, .int .i64 x] σ (.bool (decide (isAl s n x))) σ :=
  Ev.nil (isallowed_ok s n x hs hn hx) rfl rfl hni
theorem refend_ok (s : St) (pl : List (Int × Int)) (c i : Nat) (hi : i < pl.length) (h20 : pl.length ≤ 1000000) (hb : ∀ i < pl.length, -1000000 ≤ (gp pl i).1 ∧ (gp pl i).1 ≤ 1000000) :
    Ev Try.prog 59 [s.val, .slice (some ⟨0, 0, none⟩) pl.length c, .int .i64 (i : Int)] [.ro (runsC pl)] (.int .i64 (endS s.short pl i)) [.ro (runsC pl)] := by
  have hb1 : i + 1 < pl.length → -1000000 ≤ (gp pl (i + 1)).1 ∧ (gp pl (i + 1)).1 ≤ 1000000 := fun h => hb _ h
  have hc1 : i + 1 < pl.length → cellGet [.ro (runsC pl), .rw s.cells] 0 (0 + (i + 1) * 2 + 0) = some (.int .i64 (gp pl (i + 1)).1) := fun h => by simpa [cellGet] using runs_get1 h
  refine acall_intro 1 21 Try.func59 rfl rfl rfl rfl rfl ?_
  repeat' (first | (refine gU ?_; first | (refine gMove ?_; first | refine st (ok_move rfl) rfl rfl ?_) | (refine gAssign ?_; first | refine st (ok_assign rfl) rfl rfl ?_) | (refine gFA ?_; first | refine st (ok_fieldAddr rfl) rfl rfl ?_) | (refine gLoad ?_; first | refine st (ok_load rfl (by first | rfl | assumption | exact hc1 (by omega) | exact hc2 (by omega) | exact hc3 (by omega) | exact hc4 (by omega) | exact hc5 (by omega) | exact hc6 (by omega))) rfl rfl ?_ | refine st (ok_loadA rfl (by first | rfl | assumption | exact hc1 (by omega) | exact hc2 (by omega) | exact hc3 (by omega) | exact hc4 (by omega) | exact hc5 (by omega) | exact hc6 (by omega))) rfl rfl ?_) | (refine gAdd ?_; first | refine st (ok_inc rfl rfl (by omega)) rfl rfl ?_ | refine st (ok_add rfl rfl (by omega) (by omega)) rfl rfl ?_ | refine st (ok_bin rfl rfl rfl) rfl rfl ?_) | (refine gBin ?_; first | refine st (ok_bin rfl rfl rfl) rfl rfl ?_) | (refine gLen ?_; first | refine st (ok_len rfl) rfl rfl ?_ | refine st (ok_lenV rfl) rfl rfl ?_) | (refine gIA ?_; first | refine st (ok_idxN rfl rfl (by omega)) rfl rfl ?_ | refine st (ok_idxSN rfl rfl (by omega)) rfl rfl ?_ | refine st (ok_idxAN rfl rfl (by omega)) rfl rfl ?_ | refine st (ok_idx rfl rfl (by omega) (by omega)) rfl rfl ?_ | refine st (ok_idxG rfl rfl (by omega) (by omega)) rfl rfl ?_ | refine st (ok_idxA rfl rfl (by omega) (by omega)) rfl rfl ?_) | (refine gBox ?_; first | refine st (ok_box rfl) rfl rfl ?_)) | refine W_seq ?_ | refine W_region ?_ | refine st_nil ?_ | refine tq_n ?_ | refine tq_r ?_ | refine tq_e ?_ | refine bq_n ?_ | refine bq_r ?_ | refine bq_hit rfl ?_ | refine bq_miss rfl ?_ | refine W_skip ?_ | refine W_exit ?_ | refine W_ret ?_ | refine W_block ?_ | refine W_condTA rfl ?_ | refine W_condFA rfl ?_ | (refine W_condD rfl ?_ ?_ <;> intro _) | (refine W_cond rfl ?_ ?_ <;> intro _))
  · rename_i hq
    refine ret0 (.tmp rfl .nil) (.plain rfl rfl) ⟨?_, rfl⟩
    unfold endS; rw [if_pos (by omega)]; rfl
  · rename_i hq
    refine ret0 (.tmp rfl .nil) (.plain rfl rfl) ⟨?_, rfl⟩
    unfold endS; rw [if_neg (by omega)]; rfl
theorem refend_ev {σ : Heap} {s : St} {pl : List (Int × Int)} {y c i : Nat} (hy : arrAt σ y (runsC pl)) (hi : i < pl.length) (h20 : pl.length ≤ 1000000) (hb : ∀ i < pl.length, -1000000 ≤ (gp pl i).1 ∧ (gp pl i).1 ≤ 1000000) (hni : σ.all (fun o => !isIter o) = true) :
    Ev Try.prog 59 [s.val, .slice (some ⟨y, 0, none⟩) pl.length c, .int .i64 (i : Int)] σ (.int .i64 (endS s.short pl i)) σ :=
  Ev.arrs [runsC pl] [y] (refend_ok s pl c i hi h20 hb) ⟨hy, trivial⟩ ⟨vrel_plain _ rfl, by simpa [bsR] using VQ.slice (q := true) (n := 1) (ρ := bsR [y]) 0 0 pl.length c c (Nat.le_refl _) (by omega), vrel_plain _ rfl, trivial⟩ (by simp [runs_plain]) rfl hni
theorem rimend_ok (s : St) (l : List Int) (tc : Nat) (f : Nat → Int × Int) (g : Nat → Int) (pl : List (Int × Int)) (c i : Nat) (hi : i < pl.length) (h20 : pl.length ≤ 1000000) (hb : ∀ i < pl.length, -1000000 ≤ (gp pl i).1 ∧ (gp pl i).1 ≤ 1000000) :
    Ev Try.prog 56 [.pointer (some ⟨1, 0, none⟩), .slice (some ⟨2, 0, none⟩) pl.length c, .int .i64 (i : Int)] [.ro (ints l), .ro (rackC s (rkV l 0 tc) f g), .ro (runsC pl)] (.int .i64 (endS s.short pl i)) [.ro (ints l), .ro (rackC s (rkV l 0 tc) f g), .ro (runsC pl)] := by
  have hb1 : i + 1 < pl.length → -1000000 ≤ (gp pl (i + 1)).1 ∧ (gp pl (i + 1)).1 ≤ 1000000 := fun h => hb _ h
  have hc1 : i + 1 < pl.length → cellGet [.ro (ints l), .ro (rackC s (rkV l 0 tc) f g), .ro (runsC pl)] 2 (0 + (i + 1) * 2 + 0) = some (.int .i64 (gp pl (i + 1)).1) := fun h => by simpa [cellGet] using runs_get1 h
  refine acall_intro 3 24 Try.func56 rfl rfl rfl rfl rfl ?_
  repeat' (first | (refine gU ?_; first | (refine gMove ?_; first | refine st (ok_move rfl) rfl rfl ?_) | (refine gAssign ?_; first | refine st (ok_assign rfl) rfl rfl ?_) | (refine gFA ?_; first | refine st (ok_fieldAddr rfl) rfl rfl ?_) | (refine gLoad ?_; first | refine st (ok_load rfl (by first | rfl | assumption | exact hc1 (by omega) | exact hc2 (by omega) | exact hc3 (by omega) | exact hc4 (by omega) | exact hc5 (by omega) | exact hc6 (by omega))) rfl rfl ?_ | refine st (ok_loadA rfl (by first | rfl | assumption | exact hc1 (by omega) | exact hc2 (by omega) | exact hc3 (by omega) | exact hc4 (by omega) | exact hc5 (by omega) | exact hc6 (by omega))) rfl rfl ?_) | (refine gAdd ?_; first | refine st (ok_inc rfl rfl (by omega)) rfl rfl ?_ | refine st (ok_add rfl rfl (by omega) (by omega)) rfl rfl ?_ | refine st (ok_bin rfl rfl rfl) rfl rfl ?_) | (refine gSub ?_; first | refine st (ok_sub rfl rfl (by omega) (by omega)) rfl rfl ?_ | refine st (ok_bin rfl rfl rfl) rfl rfl ?_) | (refine gBin ?_; first | refine st (ok_bin rfl rfl rfl) rfl rfl ?_ | refine st (ok_eq2 rfl rfl) rfl rfl ?_) | (refine gLen ?_; first | refine st (ok_len rfl) rfl rfl ?_ | refine st (ok_lenV rfl) rfl rfl ?_) | (refine gNil ?_; first | refine st (ok_nilP rfl) rfl rfl ?_ | refine st (ok_nilF rfl) rfl rfl ?_) | (refine gIA ?_; first | refine st (ok_idxN rfl rfl (by omega)) rfl rfl ?_ | refine st (ok_idxSN rfl rfl (by omega)) rfl rfl ?_ | refine st (ok_idxAN rfl rfl (by omega)) rfl rfl ?_ | refine st (ok_idx rfl rfl (by omega) (by omega)) rfl rfl ?_ | refine st (ok_idxG rfl rfl (by omega) (by omega)) rfl rfl ?_ | refine st (ok_idxA rfl rfl (by omega) (by omega)) rfl rfl ?_)) | refine W_seq ?_ | refine W_region ?_ | refine st_nil ?_ | refine tq_n ?_ | refine tq_r ?_ | refine tq_e ?_ | refine bq_n ?_ | refine bq_r ?_ | refine bq_hit rfl ?_ | refine bq_miss rfl ?_ | refine W_skip ?_ | refine W_exit ?_ | refine W_ret ?_ | refine W_block ?_ | refine W_condTA rfl ?_ | refine W_condFA rfl ?_ | (refine W_condD rfl ?_ ?_ <;> intro _) | (refine W_cond rfl ?_ ?_ <;> intro _))
  · rename_i hq
    refine ret0 (.tmp rfl .nil) (.plain rfl rfl) ⟨?_, rfl⟩
    unfold endS; rw [if_neg (by omega)]; rfl
  · rename_i hq
    refine ret0 (.tmp rfl .nil) (.plain rfl rfl) ⟨?_, rfl⟩
    unfold endS; rw [if_pos (by omega)]; rfl
theorem rimend_ev {σ : Heap} {s : St} {l : List Int} {tc : Nat} {f : Nat → Int × Int} {g : Nat → Int} {pl : List (Int × Int)} {t r y c i : Nat} (ht : arrAt σ t (ints l)) (hr : arrAt σ r (rackC s (rkV l t tc) f g)) (hy : arrAt σ y (runsC pl)) (hi : i < pl.length)
    (h20 : pl.length ≤ 1000000) (hb : ∀ i < pl.length, -1000000 ≤ (gp pl i).1 ∧ (gp pl i).1 ≤ 1000000) (hni : σ.all (fun o => !isIter o) = true) :
    Ev Try.prog 56 [.pointer (some ⟨r, 0, none⟩), .slice (some ⟨y, 0, none⟩) pl.length c, .int .i64 (i : Int)] σ (.int .i64 (endS s.short pl i)) σ :=
  Ev.arrsP [ints l, rackC s (rkV l 0 tc) f g, runsC pl] [(t, ints l), (r, rackC s (rkV l t tc) f g), (y, runsC pl)] (rimend_ok s l tc f g pl c i hi h20 hb)
    ⟨⟨ht, CellsSub.plain (ints_plain l)⟩, ⟨hr, rack_sub (by simpa [bsR, rkV] using VQ.slice (q := true) (n := 3) (ρ := bsR [t, r, y]) 0 0 l.length tc tc (Nat.le_refl _) (by omega))⟩, ⟨hy, CellsSub.plain (runs_plain pl)⟩, trivial⟩
    ⟨by simpa [bsR] using VQ.ptr (q := true) (n := 3) (ρ := bsR [t, r, y]) 1 0 (by omega), by simpa [bsR] using VQ.slice (q := true) (n := 3) (ρ := bsR [t, r, y]) 2 0 pl.length c c (Nat.le_refl _) (by omega), .int _ _, trivial⟩ rfl hni
end Go.Proofs.Ytgfnogdecggkkaa
namespace Go.Proofs.Ytgfnogdecggkkaa
open Go Go.AH
attribute [local irreducible] WOps WCode WFree retQ thenQ blockQ OpOk ACall RetRef roundA roundB
set_option maxRecDepth 100000
set_option maxHeartbeats 1000000
def someB (n : Nat) (p : Nat → Prop) [DecidablePred p] : Bool := (List.range n).any fun i => decide (p i)
theorem someB_true {n : Nat} {p : Nat → Prop} [DecidablePred p] {i : Nat} (hi : i < n) (h : p i) : someB n p = true := by
  simp only [someB, List.any_eq_true, List.mem_range, decide_eq_true_eq]
  exact ⟨i, hi, h⟩
theorem someB_false {n : Nat} {p : Nat → Prop} [DecidablePred p] (h : ∀ i < n, ¬ p i) : someB n p = false := by
  simp only [someB, List.any_eq_false, List.mem_range, decide_eq_true_eq]
  exact h
theorem someB_some {n : Nat} {p : Nat → Prop} [DecidablePred p] (h : someB n p = true) : ∃ i < n, p i := by
  simpa [someB] using h
theorem someB_none {n : Nat} {p : Nat → Prop} [DecidablePred p] (h : ¬ someB n p = true) : ∀ i < n, ¬ p i := by
  simpa [someB] using h
def badRun (s : St) (l : List Int) (pl : List (Int × Int)) (i : Nat) : Prop :=
  (i = 0 ∧ (gp pl i).1 ≠ s.long) ∨ (0 < i ∧ (gp pl i).1 ≥ (gp pl (i - 1)).1) ∨ (gp pl i).1 < s.short ∨ (gp pl i).2 < 0 ∨ (gp pl i).2 ≥ l.length
instance (s : St) (l : List Int) (pl : List (Int × Int)) : DecidablePred (badRun s l pl) := fun i => by unfold badRun; infer_instance
def inP (p : Int × Int) (x : Int) : Prop := p.1 ≤ x ∧ x ≤ p.2
instance (p : Int × Int) (x : Int) : Decidable (inP p x) := by unfold inP; infer_instance
def badFast (s : St) (l : List Int) (pl : List (Int × Int)) (i : Nat) : Prop := ¬ (inP (spanAt s l (gp pl i).2.toNat) (gp pl i).1 ∧ inP (spanAt s l (gp pl i).2.toNat) (endS s.short pl i))
instance (s : St) (l : List Int) (pl : List (Int × Int)) : DecidablePred (badFast s l pl) := fun i => by unfold badFast; infer_instance
def checkP (s : St) (l : List Int) (pl : List (Int × Int)) : Int :=
  if checkS s l ≠ 0 then checkS s l else if pl.length < 1 ∨ pl.length > 20 then 6 else if someB pl.length (badRun s l pl) = true then 3 else if someB pl.length (badFast s l pl) = true then 19 else 0
theorem runs_in {s : St} {l : List Int} {pl : List (Int × Int)} : ∀ {k : Nat}, (∀ j < k, ¬ badRun s l pl j) → ∀ j < k, s.short ≤ (gp pl j).1 ∧ (gp pl j).1 ≤ s.long ∧ 0 ≤ (gp pl j).2 ∧ (gp pl j).2 < l.length ∧ (0 < j → (gp pl j).1 < (gp pl (j - 1)).1)
  | 0, _, j, h => by omega
  | k + 1, hb, j, h => by
    by_cases hjk : j < k
    · exact runs_in (fun i hi => hb i (by omega)) j hjk
    · obtain rfl : j = k := by omega
      have h1 := hb j (by omega)
      unfold badRun at h1
      by_cases h0 : j = 0
      · subst h0; omega
      · have := runs_in (k := j) (fun i hi => hb i (by omega)) (j - 1) (by omega)
        omega
theorem ends_in {s : St} {l : List Int} {pl : List (Int × Int)} (hs : s.short ≤ s.long) (hb : ∀ j < pl.length, ¬ badRun s l pl j) {i : Nat} (hi : i < pl.length) : s.short ≤ endS s.short pl i ∧ endS s.short pl i ≤ (gp pl i).1 := by
  have h1 := runs_in hb i hi
  unfold endS
  split
  · rename_i h
    have h2 := runs_in hb (i + 1) h
    have h3 := h2.2.2.2.2 (by omega)
    simp only [Nat.add_sub_cancel] at h3
    omega
  · omega
theorem notbad_succ {p : Nat → Prop} {i : Nat} (h : ∀ j < i, ¬ p j) (hi : ¬ p i) : ∀ j < i + 1, ¬ p j := fun j hj => by
  by_cases hji : j < i
  · exact h j hji
  · obtain rfl : j = i := by omega
    exact hi
theorem inP_at {s : St} {l : List Int} {k : Nat} {x : Int} (hs : ¬ badStone s) (hk : k < l.length) (hn : 1 ≤ gi l k ∧ gi l k ≤ 10000) (hx : s.short ≤ x ∧ x ≤ s.long) : inP (spanAt s l k) x ↔ isAl s (gi l k) x := by
  rw [← sp_allowed hs hn hx]
  constructor
  · intro h
    have := at_hold hk h
    unfold inP at h; rw [this] at h; exact h
  · intro h
    have : spanAt s l k = sp s l k := sp_hold hk h
    unfold inP; rw [this]; exact h
theorem runs_cellsAt {σ : Heap} {b i : Nat} {pl : List (Int × Int)} (h : arrAt σ b (runsC pl)) (hi : i < pl.length) : cellsAt σ b (0 + i * 2) 2 = some [.int .i64 (gp pl i).1, .int .i64 (gp pl i).2] := by
  have h1 : Nat.ble (i * 2 + 2) (runsC pl).length = true := Nat.ble_eq_true_of_le (by rw [runs_len]; omega)
  have h2 := runs_cells hi
  unfold cellsAt
  rcases h with h | h | ⟨t, h⟩ <;> rw [h] <;> simp only [Nat.zero_add, h1, h2, cond_true]
end Go.Proofs.Ytgfnogdecggkkaa
namespace Go.Proofs.Ytgfnogdecggkkaa
open Go Go.AH
attribute [local irreducible] WOps WCode WFree retQ thenQ blockQ OpOk ACall RetRef roundA roundB
set_option maxRecDepth 100000
set_option maxHeartbeats 1000000
theorem least_ok (s : St) (l : List Int) (c : Nat) (f : Nat → Int × Int) (g : Nat → Int) (ks : List Nat) (c2 : Nat) (hks : ∀ i < ks.length, gn ks i < 12) (hN : ks.length ≤ 1000000) :
    Ev Try.prog 75 [.slice (some ⟨3, 0, none⟩) ks.length c2, .func (.func 76) #[] #[.pointer (some ⟨2, 0, none⟩)]] [.ro (ints l), .ro (rackC s (rkV l 0 c) f g), .ro [.pointer (some ⟨1, 0, none⟩)], .ro (nats ks)] (.int .i64 (leastIx (fun i => (f i).1) ks ks.length)) [.ro (ints l), .ro (rackC s (rkV l 0 c) f g), .ro [.pointer (some ⟨1, 0, none⟩)], .ro (nats ks)] := by
  refine acall_intro 4 32 Try.func75 rfl rfl rfl rfl rfl ?_
  repeat' (first | (refine gU ?_; first | (refine gMove ?_; first | refine st (ok_move rfl) rfl rfl ?_) | (refine gAssign ?_; first | refine st (ok_assign rfl) rfl rfl ?_) | (refine gLoad ?_; first | refine st (ok_load rfl (by first | rfl | assumption | exact hc1 (by omega) | exact hc2 (by omega))) rfl rfl ?_ | refine st (ok_loadA rfl (by first | rfl | assumption | exact hc1 (by omega) | exact hc2 (by omega))) rfl rfl ?_) | (refine gAdd ?_; first | refine st (ok_inc rfl rfl (by omega)) rfl rfl ?_ | refine st (ok_add rfl rfl (by omega) (by omega)) rfl rfl ?_ | refine st (ok_bin rfl rfl rfl) rfl rfl ?_) | (refine gBin ?_; first | refine st (ok_bin rfl rfl rfl) rfl rfl ?_) | (refine gLen ?_; first | refine st (ok_len rfl) rfl rfl ?_ | refine st (ok_lenV rfl) rfl rfl ?_) | (refine gPick ?_; first | refine st (ok_pickTA rfl rfl) rfl rfl ?_ | refine st (ok_pickFA rfl rfl) rfl rfl ?_) | (refine gIA ?_; first | refine st (ok_idxN rfl rfl (by omega)) rfl rfl ?_ | refine st (ok_idxSN rfl rfl (by omega)) rfl rfl ?_ | refine st (ok_idxAN rfl rfl (by omega)) rfl rfl ?_ | refine st (ok_idx rfl rfl (by omega) (by omega)) rfl rfl ?_ | refine st (ok_idxG rfl rfl (by omega) (by omega)) rfl rfl ?_ | refine st (ok_idxA rfl rfl (by omega) (by omega)) rfl rfl ?_) | (refine gCall ?_; first | refine st (ok_call rfl rfl rfl (by first | exact at1_ev (t := 0) (r := 1) (l := l) (by omega) (by first | exact .inl rfl | exact .inr (.inl rfl) | exact .inr (.inr ⟨_, rfl⟩) | assumption) (by first | exact .inl rfl | exact .inr (.inl rfl) | exact .inr (.inr ⟨_, rfl⟩) | assumption) (by first | exact .inl rfl | exact .inr (.inl rfl) | exact .inr (.inr ⟨_, rfl⟩) | assumption) rfl | exact hk1 (by omega) | exact hk2 (by omega))) rfl rfl ?_)) | (refine gG ?_; first | (refine gMove ?_; first | refine stGA rfl (ok_move rfl) rfl rfl ?_) | (refine gLoad ?_; first | refine stGA rfl (ok_load rfl (by first | rfl | assumption | exact hc1 (by omega) | exact hc2 (by omega))) rfl rfl ?_ | refine stGA rfl (ok_loadA rfl (by first | rfl | assumption | exact hc1 (by omega) | exact hc2 (by omega))) rfl rfl ?_) | (refine gBin ?_; first | refine stGA rfl (ok_bin rfl rfl rfl) rfl rfl ?_) | (refine gIA ?_; first | refine stGA rfl (ok_idxN rfl rfl (by omega)) rfl rfl ?_ | refine stGA rfl (ok_idxSN rfl rfl (by omega)) rfl rfl ?_ | refine stGA rfl (ok_idxAN rfl rfl (by omega)) rfl rfl ?_ | refine stGA rfl (ok_idx rfl rfl (by omega) (by omega)) rfl rfl ?_ | refine stGA rfl (ok_idxG rfl rfl (by omega) (by omega)) rfl rfl ?_ | refine stGA rfl (ok_idxA rfl rfl (by omega) (by omega)) rfl rfl ?_) | (refine gCall ?_; first | refine stGA rfl (ok_call rfl rfl rfl (by first | exact at1_ev (t := 0) (r := 1) (l := l) (by omega) (by first | exact .inl rfl | exact .inr (.inl rfl) | exact .inr (.inr ⟨_, rfl⟩) | assumption) (by first | exact .inl rfl | exact .inr (.inl rfl) | exact .inr (.inr ⟨_, rfl⟩) | assumption) (by first | exact .inl rfl | exact .inr (.inl rfl) | exact .inr (.inr ⟨_, rfl⟩) | assumption) rfl | exact hk1 (by omega) | exact hk2 (by omega))) rfl rfl ?_) | refine stSU rfl rfl ?_ | refine stSA rfl rfl ?_ | ((fail_if_success (refine stGkA rfl ?_)); first | (refine stGdD rfl ?_ ?_ <;> intro _) | (refine stGd rfl ?_ ?_ <;> intro _))) | (refine fU ?_; first | (refine fMove ?_; first | refine frA (ok_move rfl) rfl ?_) | (refine fLoad ?_; first | refine frA (ok_load rfl (by first | rfl | assumption | exact hc1 (by omega) | exact hc2 (by omega))) rfl ?_ | refine frA (ok_loadA rfl (by first | rfl | assumption | exact hc1 (by omega) | exact hc2 (by omega))) rfl ?_) | (refine fBin ?_; first | refine frA (ok_bin rfl rfl rfl) rfl ?_) | (refine fPick ?_; first | refine frA (ok_pickTA rfl rfl) rfl ?_ | refine frA (ok_pickFA rfl rfl) rfl ?_) | (refine fIA ?_; first | refine frA (ok_idxN rfl rfl (by omega)) rfl ?_ | refine frA (ok_idxSN rfl rfl (by omega)) rfl ?_ | refine frA (ok_idxAN rfl rfl (by omega)) rfl ?_ | refine frA (ok_idx rfl rfl (by omega) (by omega)) rfl ?_ | refine frA (ok_idxG rfl rfl (by omega) (by omega)) rfl ?_ | refine frA (ok_idxA rfl rfl (by omega) (by omega)) rfl ?_) | (refine fCall ?_; first | refine frA (ok_call rfl rfl rfl (by first | exact at1_ev (t := 0) (r := 1) (l := l) (by omega) (by first | exact .inl rfl | exact .inr (.inl rfl) | exact .inr (.inr ⟨_, rfl⟩) | assumption) (by first | exact .inl rfl | exact .inr (.inl rfl) | exact .inr (.inr ⟨_, rfl⟩) | assumption) (by first | exact .inl rfl | exact .inr (.inl rfl) | exact .inr (.inr ⟨_, rfl⟩) | assumption) rfl | exact hk1 (by omega) | exact hk2 (by omega))) rfl ?_)) | (refine fG ?_; first | (refine fMove ?_; first | refine frGA rfl (ok_move rfl) rfl ?_) | (refine fLoad ?_; first | refine frGA rfl (ok_load rfl (by first | rfl | assumption | exact hc1 (by omega) | exact hc2 (by omega))) rfl ?_ | refine frGA rfl (ok_loadA rfl (by first | rfl | assumption | exact hc1 (by omega) | exact hc2 (by omega))) rfl ?_) | (refine fBin ?_; first | refine frGA rfl (ok_bin rfl rfl rfl) rfl ?_) | (refine fIA ?_; first | refine frGA rfl (ok_idxN rfl rfl (by omega)) rfl ?_ | refine frGA rfl (ok_idxSN rfl rfl (by omega)) rfl ?_ | refine frGA rfl (ok_idxAN rfl rfl (by omega)) rfl ?_ | refine frGA rfl (ok_idx rfl rfl (by omega) (by omega)) rfl ?_ | refine frGA rfl (ok_idxG rfl rfl (by omega) (by omega)) rfl ?_ | refine frGA rfl (ok_idxA rfl rfl (by omega) (by omega)) rfl ?_) | (refine fCall ?_; first | refine frGA rfl (ok_call rfl rfl rfl (by first | exact at1_ev (t := 0) (r := 1) (l := l) (by omega) (by first | exact .inl rfl | exact .inr (.inl rfl) | exact .inr (.inr ⟨_, rfl⟩) | assumption) (by first | exact .inl rfl | exact .inr (.inl rfl) | exact .inr (.inr ⟨_, rfl⟩) | assumption) (by first | exact .inl rfl | exact .inr (.inl rfl) | exact .inr (.inr ⟨_, rfl⟩) | assumption) rfl | exact hk1 (by omega) | exact hk2 (by omega))) rfl ?_) | refine frSU rfl rfl ?_ | refine frSA rfl rfl ?_ | ((fail_if_success (refine frGkA rfl ?_)); first | (refine frGdD rfl ?_ ?_ <;> intro _) | (refine frGd rfl ?_ ?_ <;> intro _))) | (refine fr_stop ⟨by kernel_rfl, ?_⟩) | refine W_seq ?_ | refine W_region ?_ | refine W_regionD (by kernel_rfl) rfl ?_ | refine st_nil ?_ | refine tq_n ?_ | refine tq_r ?_ | refine tq_e ?_ | refine bq_n ?_ | refine bq_r ?_ | refine bq_hit rfl ?_ | refine bq_miss rfl ?_ | refine W_skip ?_ | refine W_exit ?_ | refine W_ret ?_ | refine W_block ?_ | refine W_condTA rfl ?_ | refine W_condFA rfl ?_ | (refine W_condD rfl ?_ ?_ <;> intro _) | (refine W_cond rfl ?_ ?_ <;> intro _))
  refine W_loopS (ι := Nat) (fun i => [(0, .slice (some ⟨3, 0, none⟩) ks.length c2), (1, .func (.func 76) #[] #[.pointer (some ⟨2, 0, none⟩)]), (5, .int .i64 (leastIx (fun i => (f i).1) ks i)), (8, .slice (some ⟨3, 0, none⟩) ks.length c2), (9, .int .i64 (ks.length : Int)), (10, .int .i64 (i : Int))])
    (fun _ => [.ro (ints l), .ro (rackC s (rkV l 0 c) f g), .ro [.pointer (some ⟨1, 0, none⟩)], .ro (nats ks)]) (fun i => ks.length - i) (fun i => i ≤ ks.length) 0 (by simp) (.same ⟨rfl, rfl, rfl, rfl, rfl, rfl, trivial⟩) (by omega) ?_
  rintro i hi
  by_cases hil : i < ks.length
  · have hb := leastIx_lt (fun i => (f i).1) ks i
    have hs : leastIx (fun i => (f i).1) ks (i + 1) = if leastIx (fun i => (f i).1) ks i < 0 ∨ (f (gn ks i)).1 < (f (gn ks (leastIx (fun i => (f i).1) ks i).toNat)).1 then (i : Int) else leastIx (fun i => (f i).1) ks i := rfl
    generalize leastIx (fun i => (f i).1) ks i = b at hb hs
    have hki := hks i hil
    have hkb : ¬ b < 0 → gn ks b.toNat < 12 := fun h => hks _ (by omega)
    have hc1 : i < ks.length → cellGet [.ro (ints l), .ro (rackC s (rkV l 0 c) f g), .ro [.pointer (some ⟨1, 0, none⟩)], .ro (nats ks)] 3 i = some (.int .i64 (gn ks i : Int)) := fun h => nats_get h
    have hc2 : ¬ b < 0 → cellGet [.ro (ints l), .ro (rackC s (rkV l 0 c) f g), .ro [.pointer (some ⟨1, 0, none⟩)], .ro (nats ks)] 3 (0 + b.toNat * 1) = some (.int .i64 (gn ks b.toNat : Int)) := fun h => by
      have : b.toNat < ks.length := by omega
      simpa [cellGet] using nats_get this
    repeat' (first | (refine gU ?_; first | (refine gMove ?_; first | refine st (ok_move rfl) rfl rfl ?_) | (refine gAssign ?_; first | refine st (ok_assign rfl) rfl rfl ?_) | (refine gLoad ?_; first | refine st (ok_load rfl (by first | rfl | assumption | exact hc1 (by omega) | exact hc2 (by omega))) rfl rfl ?_ | refine st (ok_loadA rfl (by first | rfl | assumption | exact hc1 (by omega) | exact hc2 (by omega))) rfl rfl ?_) | (refine gAdd ?_; first | refine st (ok_inc rfl rfl (by omega)) rfl rfl ?_ | refine st (ok_add rfl rfl (by omega) (by omega)) rfl rfl ?_ | refine st (ok_bin rfl rfl rfl) rfl rfl ?_) | (refine gBin ?_; first | refine st (ok_bin rfl rfl rfl) rfl rfl ?_) | (refine gLen ?_; first | refine st (ok_len rfl) rfl rfl ?_ | refine st (ok_lenV rfl) rfl rfl ?_) | (refine gPick ?_; first | refine st (ok_pickTA rfl rfl) rfl rfl ?_ | refine st (ok_pickFA rfl rfl) rfl rfl ?_) | (refine gIA ?_; first | refine st (ok_idxN rfl rfl (by omega)) rfl rfl ?_ | refine st (ok_idxSN rfl rfl (by omega)) rfl rfl ?_ | refine st (ok_idxAN rfl rfl (by omega)) rfl rfl ?_ | refine st (ok_idx rfl rfl (by omega) (by omega)) rfl rfl ?_ | refine st (ok_idxG rfl rfl (by omega) (by omega)) rfl rfl ?_ | refine st (ok_idxA rfl rfl (by omega) (by omega)) rfl rfl ?_) | (refine gCall ?_; first | refine st (ok_call rfl rfl rfl (by first | exact at1_ev (t := 0) (r := 1) (l := l) (by omega) (by first | exact .inl rfl | exact .inr (.inl rfl) | exact .inr (.inr ⟨_, rfl⟩) | assumption) (by first | exact .inl rfl | exact .inr (.inl rfl) | exact .inr (.inr ⟨_, rfl⟩) | assumption) (by first | exact .inl rfl | exact .inr (.inl rfl) | exact .inr (.inr ⟨_, rfl⟩) | assumption) rfl | exact hk1 (by omega) | exact hk2 (by omega))) rfl rfl ?_)) | (refine gG ?_; first | (refine gMove ?_; first | refine stGA rfl (ok_move rfl) rfl rfl ?_) | (refine gLoad ?_; first | refine stGA rfl (ok_load rfl (by first | rfl | assumption | exact hc1 (by omega) | exact hc2 (by omega))) rfl rfl ?_ | refine stGA rfl (ok_loadA rfl (by first | rfl | assumption | exact hc1 (by omega) | exact hc2 (by omega))) rfl rfl ?_) | (refine gBin ?_; first | refine stGA rfl (ok_bin rfl rfl rfl) rfl rfl ?_) | (refine gIA ?_; first | refine stGA rfl (ok_idxN rfl rfl (by omega)) rfl rfl ?_ | refine stGA rfl (ok_idxSN rfl rfl (by omega)) rfl rfl ?_ | refine stGA rfl (ok_idxAN rfl rfl (by omega)) rfl rfl ?_ | refine stGA rfl (ok_idx rfl rfl (by omega) (by omega)) rfl rfl ?_ | refine stGA rfl (ok_idxG rfl rfl (by omega) (by omega)) rfl rfl ?_ | refine stGA rfl (ok_idxA rfl rfl (by omega) (by omega)) rfl rfl ?_) | (refine gCall ?_; first | refine stGA rfl (ok_call rfl rfl rfl (by first | exact at1_ev (t := 0) (r := 1) (l := l) (by omega) (by first | exact .inl rfl | exact .inr (.inl rfl) | exact .inr (.inr ⟨_, rfl⟩) | assumption) (by first | exact .inl rfl | exact .inr (.inl rfl) | exact .inr (.inr ⟨_, rfl⟩) | assumption) (by first | exact .inl rfl | exact .inr (.inl rfl) | exact .inr (.inr ⟨_, rfl⟩) | assumption) rfl | exact hk1 (by omega) | exact hk2 (by omega))) rfl rfl ?_) | refine stSU rfl rfl ?_ | refine stSA rfl rfl ?_ | ((fail_if_success (refine stGkA rfl ?_)); first | (refine stGdD rfl ?_ ?_ <;> intro _) | (refine stGd rfl ?_ ?_ <;> intro _))) | (refine fU ?_; first | (refine fMove ?_; first | refine frA (ok_move rfl) rfl ?_) | (refine fLoad ?_; first | refine frA (ok_load rfl (by first | rfl | assumption | exact hc1 (by omega) | exact hc2 (by omega))) rfl ?_ | refine frA (ok_loadA rfl (by first | rfl | assumption | exact hc1 (by omega) | exact hc2 (by omega))) rfl ?_) | (refine fBin ?_; first | refine frA (ok_bin rfl rfl rfl) rfl ?_) | (refine fPick ?_; first | refine frA (ok_pickTA rfl rfl) rfl ?_ | refine frA (ok_pickFA rfl rfl) rfl ?_) | (refine fIA ?_; first | refine frA (ok_idxN rfl rfl (by omega)) rfl ?_ | refine frA (ok_idxSN rfl rfl (by omega)) rfl ?_ | refine frA (ok_idxAN rfl rfl (by omega)) rfl ?_ | refine frA (ok_idx rfl rfl (by omega) (by omega)) rfl ?_ | refine frA (ok_idxG rfl rfl (by omega) (by omega)) rfl ?_ | refine frA (ok_idxA rfl rfl (by omega) (by omega)) rfl ?_) | (refine fCall ?_; first | refine frA (ok_call rfl rfl rfl (by first | exact at1_ev (t := 0) (r := 1) (l := l) (by omega) (by first | exact .inl rfl | exact .inr (.inl rfl) | exact .inr (.inr ⟨_, rfl⟩) | assumption) (by first | exact .inl rfl | exact .inr (.inl rfl) | exact .inr (.inr ⟨_, rfl⟩) | assumption) (by first | exact .inl rfl | exact .inr (.inl rfl) | exact .inr (.inr ⟨_, rfl⟩) | assumption) rfl | exact hk1 (by omega) | exact hk2 (by omega))) rfl ?_)) | (refine fG ?_; first | (refine fMove ?_; first | refine frGA rfl (ok_move rfl) rfl ?_) | (refine fLoad ?_; first | refine frGA rfl (ok_load rfl (by first | rfl | assumption | exact hc1 (by omega) | exact hc2 (by omega))) rfl ?_ | refine frGA rfl (ok_loadA rfl (by first | rfl | assumption | exact hc1 (by omega) | exact hc2 (by omega))) rfl ?_) | (refine fBin ?_; first | refine frGA rfl (ok_bin rfl rfl rfl) rfl ?_) | (refine fIA ?_; first | refine frGA rfl (ok_idxN rfl rfl (by omega)) rfl ?_ | refine frGA rfl (ok_idxSN rfl rfl (by omega)) rfl ?_ | refine frGA rfl (ok_idxAN rfl rfl (by omega)) rfl ?_ | refine frGA rfl (ok_idx rfl rfl (by omega) (by omega)) rfl ?_ | refine frGA rfl (ok_idxG rfl rfl (by omega) (by omega)) rfl ?_ | refine frGA rfl (ok_idxA rfl rfl (by omega) (by omega)) rfl ?_) | (refine fCall ?_; first | refine frGA rfl (ok_call rfl rfl rfl (by first | exact at1_ev (t := 0) (r := 1) (l := l) (by omega) (by first | exact .inl rfl | exact .inr (.inl rfl) | exact .inr (.inr ⟨_, rfl⟩) | assumption) (by first | exact .inl rfl | exact .inr (.inl rfl) | exact .inr (.inr ⟨_, rfl⟩) | assumption) (by first | exact .inl rfl | exact .inr (.inl rfl) | exact .inr (.inr ⟨_, rfl⟩) | assumption) rfl | exact hk1 (by omega) | exact hk2 (by omega))) rfl ?_) | refine frSU rfl rfl ?_ | refine frSA rfl rfl ?_ | ((fail_if_success (refine frGkA rfl ?_)); first | (refine frGdD rfl ?_ ?_ <;> intro _) | (refine frGd rfl ?_ ?_ <;> intro _))) | (refine fr_stop ⟨by kernel_rfl, ?_⟩) | refine W_seq ?_ | refine W_region ?_ | refine W_regionD (by kernel_rfl) rfl ?_ | refine st_nil ?_ | refine tq_n ?_ | refine tq_r ?_ | refine tq_e ?_ | refine bq_n ?_ | refine bq_r ?_ | refine bq_hit rfl ?_ | refine bq_miss rfl ?_ | refine W_skip ?_ | refine W_exit ?_ | refine W_ret ?_ | refine W_block ?_ | refine W_condTA rfl ?_ | refine W_condFA rfl ?_ | (refine W_condD rfl ?_ ?_ <;> intro _) | (refine W_cond rfl ?_ ?_ <;> intro _))
    · rename_i hq
      exact ⟨rfl, i + 1, by omega, by omega, by rw [hs, if_pos (.inl hq)]; exact .same ⟨rfl, rfl, rfl, rfl, rfl, rfl, trivial⟩⟩
    · rename_i hq0 hq
      exact ⟨rfl, i + 1, by omega, by omega, by rw [hs, if_pos (.inr hq)]; exact .same ⟨rfl, rfl, rfl, rfl, rfl, rfl, trivial⟩⟩
    · rename_i hq0 hq
      exact ⟨rfl, i + 1, by omega, by omega, by rw [hs, if_neg (fun h => h.elim hq0 hq)]; exact .same ⟨rfl, rfl, rfl, rfl, rfl, rfl, trivial⟩⟩
  · repeat' (first | (refine gU ?_; first | (refine gMove ?_; first | refine st (ok_move rfl) rfl rfl ?_) | (refine gAssign ?_; first | refine st (ok_assign rfl) rfl rfl ?_) | (refine gLoad ?_; first | refine st (ok_load rfl (by first | rfl | assumption | exact hc1 (by omega) | exact hc2 (by omega))) rfl rfl ?_ | refine st (ok_loadA rfl (by first | rfl | assumption | exact hc1 (by omega) | exact hc2 (by omega))) rfl rfl ?_) | (refine gAdd ?_; first | refine st (ok_inc rfl rfl (by omega)) rfl rfl ?_ | refine st (ok_add rfl rfl (by omega) (by omega)) rfl rfl ?_ | refine st (ok_bin rfl rfl rfl) rfl rfl ?_) | (refine gBin ?_; first | refine st (ok_bin rfl rfl rfl) rfl rfl ?_) | (refine gLen ?_; first | refine st (ok_len rfl) rfl rfl ?_ | refine st (ok_lenV rfl) rfl rfl ?_) | (refine gPick ?_; first | refine st (ok_pickTA rfl rfl) rfl rfl ?_ | refine st (ok_pickFA rfl rfl) rfl rfl ?_) | (refine gIA ?_; first | refine st (ok_idxN rfl rfl (by omega)) rfl rfl ?_ | refine st (ok_idxSN rfl rfl (by omega)) rfl rfl ?_ | refine st (ok_idxAN rfl rfl (by omega)) rfl rfl ?_ | refine st (ok_idx rfl rfl (by omega) (by omega)) rfl rfl ?_ | refine st (ok_idxG rfl rfl (by omega) (by omega)) rfl rfl ?_ | refine st (ok_idxA rfl rfl (by omega) (by omega)) rfl rfl ?_) | (refine gCall ?_; first | refine st (ok_call rfl rfl rfl (by first | exact at1_ev (t := 0) (r := 1) (l := l) (by omega) (by first | exact .inl rfl | exact .inr (.inl rfl) | exact .inr (.inr ⟨_, rfl⟩) | assumption) (by first | exact .inl rfl | exact .inr (.inl rfl) | exact .inr (.inr ⟨_, rfl⟩) | assumption) (by first | exact .inl rfl | exact .inr (.inl rfl) | exact .inr (.inr ⟨_, rfl⟩) | assumption) rfl | exact hk1 (by omega) | exact hk2 (by omega))) rfl rfl ?_)) | (refine gG ?_; first | (refine gMove ?_; first | refine stGA rfl (ok_move rfl) rfl rfl ?_) | (refine gLoad ?_; first | refine stGA rfl (ok_load rfl (by first | rfl | assumption | exact hc1 (by omega) | exact hc2 (by omega))) rfl rfl ?_ | refine stGA rfl (ok_loadA rfl (by first | rfl | assumption | exact hc1 (by omega) | exact hc2 (by omega))) rfl rfl ?_) | (refine gBin ?_; first | refine stGA rfl (ok_bin rfl rfl rfl) rfl rfl ?_) | (refine gIA ?_; first | refine stGA rfl (ok_idxN rfl rfl (by omega)) rfl rfl ?_ | refine stGA rfl (ok_idxSN rfl rfl (by omega)) rfl rfl ?_ | refine stGA rfl (ok_idxAN rfl rfl (by omega)) rfl rfl ?_ | refine stGA rfl (ok_idx rfl rfl (by omega) (by omega)) rfl rfl ?_ | refine stGA rfl (ok_idxG rfl rfl (by omega) (by omega)) rfl rfl ?_ | refine stGA rfl (ok_idxA rfl rfl (by omega) (by omega)) rfl rfl ?_) | (refine gCall ?_; first | refine stGA rfl (ok_call rfl rfl rfl (by first | exact at1_ev (t := 0) (r := 1) (l := l) (by omega) (by first | exact .inl rfl | exact .inr (.inl rfl) | exact .inr (.inr ⟨_, rfl⟩) | assumption) (by first | exact .inl rfl | exact .inr (.inl rfl) | exact .inr (.inr ⟨_, rfl⟩) | assumption) (by first | exact .inl rfl | exact .inr (.inl rfl) | exact .inr (.inr ⟨_, rfl⟩) | assumption) rfl | exact hk1 (by omega) | exact hk2 (by omega))) rfl rfl ?_) | refine stSU rfl rfl ?_ | refine stSA rfl rfl ?_ | ((fail_if_success (refine stGkA rfl ?_)); first | (refine stGdD rfl ?_ ?_ <;> intro _) | (refine stGd rfl ?_ ?_ <;> intro _))) | (refine fU ?_; first | (refine fMove ?_; first | refine frA (ok_move rfl) rfl ?_) | (refine fLoad ?_; first | refine frA (ok_load rfl (by first | rfl | assumption | exact hc1 (by omega) | exact hc2 (by omega))) rfl ?_ | refine frA (ok_loadA rfl (by first | rfl | assumption | exact hc1 (by omega) | exact hc2 (by omega))) rfl ?_) | (refine fBin ?_; first | refine frA (ok_bin rfl rfl rfl) rfl ?_) | (refine fPick ?_; first | refine frA (ok_pickTA rfl rfl) rfl ?_ | refine frA (ok_pickFA rfl rfl) rfl ?_) | (refine fIA ?_; first | refine frA (ok_idxN rfl rfl (by omega)) rfl ?_ | refine frA (ok_idxSN rfl rfl (by omega)) rfl ?_ | refine frA (ok_idxAN rfl rfl (by omega)) rfl ?_ | refine frA (ok_idx rfl rfl (by omega) (by omega)) rfl ?_ | refine frA (ok_idxG rfl rfl (by omega) (by omega)) rfl ?_ | refine frA (ok_idxA rfl rfl (by omega) (by omega)) rfl ?_) | (refine fCall ?_; first | refine frA (ok_call rfl rfl rfl (by first | exact at1_ev (t := 0) (r := 1) (l := l) (by omega) (by first | exact .inl rfl | exact .inr (.inl rfl) | exact .inr (.inr ⟨_, rfl⟩) | assumption) (by first | exact .inl rfl | exact .inr (.inl rfl) | exact .inr (.inr ⟨_, rfl⟩) | assumption) (by first | exact .inl rfl | exact .inr (.inl rfl) | exact .inr (.inr ⟨_, rfl⟩) | assumption) rfl | exact hk1 (by omega) | exact hk2 (by omega))) rfl ?_)) | (refine fG ?_; first | (refine fMove ?_; first | refine frGA rfl (ok_move rfl) rfl ?_) | (refine fLoad ?_; first | refine frGA rfl (ok_load rfl (by first | rfl | assumption | exact hc1 (by omega) | exact hc2 (by omega))) rfl ?_ | refine frGA rfl (ok_loadA rfl (by first | rfl | assumption | exact hc1 (by omega) | exact hc2 (by omega))) rfl ?_) | (refine fBin ?_; first | refine frGA rfl (ok_bin rfl rfl rfl) rfl ?_) | (refine fIA ?_; first | refine frGA rfl (ok_idxN rfl rfl (by omega)) rfl ?_ | refine frGA rfl (ok_idxSN rfl rfl (by omega)) rfl ?_ | refine frGA rfl (ok_idxAN rfl rfl (by omega)) rfl ?_ | refine frGA rfl (ok_idx rfl rfl (by omega) (by omega)) rfl ?_ | refine frGA rfl (ok_idxG rfl rfl (by omega) (by omega)) rfl ?_ | refine frGA rfl (ok_idxA rfl rfl (by omega) (by omega)) rfl ?_) | (refine fCall ?_; first | refine frGA rfl (ok_call rfl rfl rfl (by first | exact at1_ev (t := 0) (r := 1) (l := l) (by omega) (by first | exact .inl rfl | exact .inr (.inl rfl) | exact .inr (.inr ⟨_, rfl⟩) | assumption) (by first | exact .inl rfl | exact .inr (.inl rfl) | exact .inr (.inr ⟨_, rfl⟩) | assumption) (by first | exact .inl rfl | exact .inr (.inl rfl) | exact .inr (.inr ⟨_, rfl⟩) | assumption) rfl | exact hk1 (by omega) | exact hk2 (by omega))) rfl ?_) | refine frSU rfl rfl ?_ | refine frSA rfl rfl ?_ | ((fail_if_success (refine frGkA rfl ?_)); first | (refine frGdD rfl ?_ ?_ <;> intro _) | (refine frGd rfl ?_ ?_ <;> intro _))) | (refine fr_stop ⟨by kernel_rfl, ?_⟩) | refine W_seq ?_ | refine W_region ?_ | refine W_regionD (by kernel_rfl) rfl ?_ | refine st_nil ?_ | refine tq_n ?_ | refine tq_r ?_ | refine tq_e ?_ | refine bq_n ?_ | refine bq_r ?_ | refine bq_hit rfl ?_ | refine bq_miss rfl ?_ | refine W_skip ?_ | refine W_exit ?_ | refine W_ret ?_ | refine W_block ?_ | refine W_condTA rfl ?_ | refine W_condFA rfl ?_ | (refine W_condD rfl ?_ ?_ <;> intro _) | (refine W_cond rfl ?_ ?_ <;> intro _))
    obtain rfl : i = ks.length := by omega
    refine ret0 (.tmp rfl .nil) (.plain rfl rfl) ⟨rfl, rfl⟩
theorem least_ev {σ : Heap} {s : St} {l : List Int} {c : Nat} {f : Nat → Int × Int} {g : Nat → Int} {ks : List Nat} {t r x y : Nat} (ht : arrAt σ t (ints l)) (hr : arrAt σ r (rackC s (rkV l t c) f g)) (hx : arrAt σ x [.pointer (some ⟨r, 0, none⟩)]) (hy : arrAt σ y (nats ks))
    (hks : ∀ i < ks.length, gn ks i < 12) (hN : ks.length ≤ 1000000) (hni : σ.all (fun o => !isIter o) = true) :
    Ev Try.prog 75 [slvV y 1 ks.length, .func (.func 76) #[] #[.pointer (some ⟨x, 0, none⟩)]] σ (.int .i64 (leastIx (fun i => (f i).1) ks ks.length)) σ := by
  refine Ev.arrsP [ints l, rackC s (rkV l 0 c) f g, [.pointer (some ⟨1, 0, none⟩)], nats ks] [(t, ints l), (r, rackC s (rkV l t c) f g), (x, [.pointer (some ⟨r, 0, none⟩)]), (y, nats ks)] (least_ok s l c f g ks ks.length hks hN)
    ⟨⟨ht, CellsSub.plain (ints_plain l)⟩, ⟨hr, rack_sub (by simpa [bsR, rkV] using VQ.slice (q := true) (n := 4) (ρ := bsR [t, r, x, y]) 0 0 l.length c c (Nat.le_refl _) (by omega))⟩, ⟨hx, CellsSub.one (by simpa [bsR] using VQ.ptr (q := true) (n := 4) (ρ := bsR [t, r, x, y]) 1 0 (by omega))⟩, ⟨hy, CellsSub.plain (nats_plain ks)⟩, trivial⟩
    ⟨vsub_slvR (by simp) (by simp [bsR]), ?_, trivial⟩ rfl hni
  refine .func _ _ _ _ _ rfl rfl (fun i h => by simp at h) fun i h h' => ?_
  have : i = 0 := by simpa using h
  subst this
  simpa [bsR] using VQ.ptr (q := true) (n := 4) (ρ := bsR [t, r, x, y]) 2 0 (by omega)
end Go.Proofs.Ytgfnogdecggkkaa
namespace Go.Proofs.Ytgfnogdecggkkaa
open Go Go.AH
attribute [local irreducible] WOps WCode WFree retQ thenQ blockQ OpOk ACall RetRef roundA roundB
set_option maxRecDepth 100000
set_option maxHeartbeats 1000000
def maskF (f : Nat → Int × Int) (g : Nat → Int) (i : Nat) : Int × Int := if g i = 0 then f i else nw
def atL (f : Nat → Int × Int) (g : Nat → Int) (x : Int) : Nat → List Nat
  | 0 => []
  | n + 1 => if g n = 0 ∧ (f n).1 ≤ x ∧ x ≤ (f n).2 then atL f g x n ++ [n] else atL f g x n
theorem atL_lt {f : Nat → Int × Int} {g : Nat → Int} {x : Int} : ∀ {n : Nat}, ∀ k ∈ atL f g x n, k < n
  | 0, k, h => by simp [atL] at h
  | n + 1, k, h => by
    simp only [atL] at h
    split at h
    · rcases List.mem_append.1 h with h | h
      · have := atL_lt k h; omega
      · simp at h; omega
    · have := atL_lt k h; omega
theorem atL_len {f : Nat → Int × Int} {g : Nat → Int} {x : Int} : ∀ {n : Nat}, (atL f g x n).length ≤ n
  | 0 => by simp [atL]
  | n + 1 => by
    have := atL_len (f := f) (g := g) (x := x) (n := n)
    simp only [atL]
    split
    · simp; omega
    · omega
theorem gn_app1 {a b : List Nat} {i : Nat} (h : i < a.length) : gn (a ++ b) i = gn a i := by
  simp only [gn, List.getD_eq_getElem?_getD, List.getElem?_append_left h]
theorem gn_app2 {a : List Nat} {k : Nat} : gn (a ++ [k]) a.length = k := by
  simp only [gn, List.getD_eq_getElem?_getD]
  rw [List.getElem?_append_right (by omega), Nat.sub_self]; rfl
theorem leastIx_app {key : Nat → Int} {a b : List Nat} : ∀ {n : Nat}, n ≤ a.length → leastIx key (a ++ b) n = leastIx key a n
  | 0, _ => rfl
  | n + 1, h => by
    have ih := leastIx_app (key := key) (a := a) (b := b) (n := n) (by omega)
    have hl := leastIx_lt key a n
    simp only [leastIx, ih]
    rw [gn_app1 (a := a) (i := n) (by omega)]
    by_cases h0 : leastIx key a n < 0
    · simp only [h0, true_or, if_true]
    · rw [gn_app1 (a := a) (i := (leastIx key a n).toNat) (by omega)]
def atV (f : Nat → Int × Int) (g : Nat → Int) (x : Int) (n : Nat) : Int :=
  if leastIx (fun i => (f i).1) (atL f g x n) (atL f g x n).length < 0 then -1 else (gn (atL f g x n) (leastIx (fun i => (f i).1) (atL f g x n) (atL f g x n).length).toNat : Nat)
theorem atV_best {f : Nat → Int × Int} {g : Nat → Int} {x : Int} (hx : 0 ≤ x) : ∀ n : Nat, atV f g x n = bestF (maskF f g) x n
  | 0 => rfl
  | n + 1 => by
    have ih := atV_best (f := f) (g := g) hx n
    have hb := bestF_is (maskF f g) x n
    simp only [bestF]
    by_cases hq : g n = 0 ∧ (f n).1 ≤ x ∧ x ≤ (f n).2
    · have hm : maskF f g n = f n := by unfold maskF; rw [if_pos hq.1]
      have ha : atL f g x (n + 1) = atL f g x n ++ [n] := by simp only [atL]; rw [if_pos hq]
      rw [hm, ← ih]
      unfold atV
      rw [ha, show (atL f g x n ++ [n]).length = (atL f g x n).length + 1 from by simp]
      have hl := leastIx_lt (fun i => (f i).1) (atL f g x n) (atL f g x n).length
      have hstep : leastIx (fun i => (f i).1) (atL f g x n ++ [n]) ((atL f g x n).length + 1) = if leastIx (fun i => (f i).1) (atL f g x n) (atL f g x n).length < 0 ∨ (f n).1 < (f (gn (atL f g x n ++ [n]) (leastIx (fun i => (f i).1) (atL f g x n) (atL f g x n).length).toNat)).1 then ((atL f g x n).length : Int) else leastIx (fun i => (f i).1) (atL f g x n) (atL f g x n).length := by
        have e1 := leastIx_app (key := fun i => (f i).1) (a := atL f g x n) (b := [n]) (Nat.le_refl _)
        have e2 := gn_app2 (a := atL f g x n) (k := n)
        show (if leastIx (fun i => (f i).1) (atL f g x n ++ [n]) (atL f g x n).length < 0 ∨ (f (gn (atL f g x n ++ [n]) (atL f g x n).length)).1 < (f (gn (atL f g x n ++ [n]) (leastIx (fun i => (f i).1) (atL f g x n ++ [n]) (atL f g x n).length).toNat)).1 then ((atL f g x n).length : Int) else leastIx (fun i => (f i).1) (atL f g x n ++ [n]) (atL f g x n).length) = _
        simp only [e1, e2]
      have hb' : 0 ≤ leastIx (fun i => (f i).1) (atL f g x n) (atL f g x n).length → maskF f g (gn (atL f g x n) (leastIx (fun i => (f i).1) (atL f g x n) (atL f g x n).length).toNat) = f (gn (atL f g x n) (leastIx (fun i => (f i).1) (atL f g x n) (atL f g x n).length).toNat) := fun h0 => by
        rcases hb with ⟨h1, h2⟩ | ⟨b, hbn, h1, h2, h3, h4⟩
        · rw [← ih] at h1; unfold atV at h1; rw [if_neg (by omega)] at h1; omega
        · rw [← ih] at h1; unfold atV at h1; rw [if_neg (by omega)] at h1
          have e : gn (atL f g x n) (leastIx (fun i => (f i).1) (atL f g x n) (atL f g x n).length).toNat = b := by omega
          rw [e]
          unfold maskF at h2 h3 ⊢
          split
          · rfl
          · rename_i hg; rw [if_neg hg] at h2 h3; simp only at h2 h3; omega
      generalize leastIx (fun i => (f i).1) (atL f g x n ++ [n]) ((atL f g x n).length + 1) = M at hstep ⊢
      generalize leastIx (fun i => (f i).1) (atL f g x n) (atL f g x n).length = L at hl hstep hb' ⊢
      subst hstep
      by_cases h0 : L < 0
      · have e0 : (if L < 0 ∨ (f n).1 < (f (gn (atL f g x n ++ [n]) L.toNat)).1 then ((atL f g x n).length : Int) else L) = (atL f g x n).length := if_pos (.inl h0)
        simp only [e0]
        rw [if_neg (by omega), Int.toNat_natCast, gn_app2, if_pos ⟨hq.2, .inl (by rw [if_pos h0]; omega)⟩]
      · have hLt : L.toNat < (atL f g x n).length := by omega
        have e1 := gn_app1 (a := atL f g x n) (b := [n]) (i := L.toNat) hLt
        have e2 := hb' (by omega)
        have e3 : (if L < 0 then (-1 : Int) else (gn (atL f g x n) L.toNat : Nat)) = (gn (atL f g x n) L.toNat : Nat) := if_neg h0
        simp only [e3, Int.toNat_natCast, e2]
        rw [e1]
        by_cases hlt : (f n).1 < (f (gn (atL f g x n) L.toNat)).1
        · have e4 : (if L < 0 ∨ (f n).1 < (f (gn (atL f g x n) L.toNat)).1 then ((atL f g x n).length : Int) else L) = (atL f g x n).length := if_pos (.inr hlt)
          simp only [e4]
          rw [if_neg (by omega), Int.toNat_natCast, gn_app2, if_pos ⟨hq.2, .inr hlt⟩]
        · have e4 : (if L < 0 ∨ (f n).1 < (f (gn (atL f g x n) L.toNat)).1 then ((atL f g x n).length : Int) else L) = L := if_neg (fun h => h.elim h0 hlt)
          simp only [e4]
          rw [if_neg h0, e1, if_neg (fun h => h.2.elim (by omega) hlt)]
    · have ha : atL f g x (n + 1) = atL f g x n := by simp only [atL]; rw [if_neg hq]
      have hn : ¬ ((maskF f g n).1 ≤ x ∧ x ≤ (maskF f g n).2) := by
        unfold maskF
        split
        · rename_i hg; exact fun h => hq ⟨hg, h⟩
        · simp only; omega
      rw [if_neg (fun h => hn h.1), ← ih]
      unfold atV
      rw [ha]
theorem hc_three (l : List Int) (s : St) (c : Nat) (f : Nat → Int × Int) (g : Nat → Int) : HClosed 3 [AObj.ro (ints l), .ro (rackC s (rkV l 0 c) f g), .rw [.pointer (some ⟨1, 0, none⟩)]] :=
  ⟨plainL_closed (ints_plain l), rack_closed (slice_closed (by simp)).1 (slice_closed (n := 1) (by simp)).2, ⟨rfl, rfl⟩, trivial⟩
theorem at_ok (s : St) (l : List Int) (c : Nat) (f : Nat → Int × Int) (g : Nat → Int) (x : Int) (h12 : l.length ≤ 12) (hx : 0 ≤ x) :
    Ev Try.prog 73 [.pointer (some ⟨1, 0, none⟩), .int .i64 x] [.ro (ints l), .ro (rackC s (rkV l 0 c) f g)] (.int .i64 (bestF (maskF f g) x l.length)) [.ro (ints l), .ro (rackC s (rkV l 0 c) f g)] := by
  rw [← atV_best hx]
  refine acall_intro 2 56 Try.func73 rfl rfl rfl rfl rfl ?_
  repeat' (first | (refine gU ?_; first | (refine gMove ?_; first | refine st (ok_move rfl) rfl rfl ?_) | (refine gAssign ?_; first | refine st (ok_assign rfl) rfl rfl ?_) | (refine gFA ?_; first | refine st (ok_fieldAddr rfl) rfl rfl ?_) | (refine gLoad ?_; first | refine st (ok_load rfl (by first | rfl | assumption | exact hc1 (by omega) | exact hc2 (by omega))) rfl rfl ?_ | refine st (ok_loadA rfl (by first | rfl | assumption | exact hc1 (by omega) | exact hc2 (by omega))) rfl rfl ?_) | (refine gAdd ?_; first | refine st (ok_inc rfl rfl (by omega)) rfl rfl ?_ | refine st (ok_add rfl rfl (by omega) (by omega)) rfl rfl ?_ | refine st (ok_bin rfl rfl rfl) rfl rfl ?_) | (refine gBin ?_; first | refine st (ok_bin rfl rfl rfl) rfl rfl ?_ | refine st (ok_eq2 rfl rfl) rfl rfl ?_) | (refine gLen ?_; first | refine st (ok_len rfl) rfl rfl ?_ | refine st (ok_lenV rfl) rfl rfl ?_) | (refine gPick ?_; first | refine st (ok_pickTA rfl rfl) rfl rfl ?_ | refine st (ok_pickFA rfl rfl) rfl rfl ?_) | (refine gNil ?_; first | refine st (ok_nilP rfl) rfl rfl ?_ | refine st (ok_nilF rfl) rfl rfl ?_) | (refine gIA ?_; first | refine st (ok_idxN rfl rfl (by omega)) rfl rfl ?_ | refine st (ok_idxSN rfl rfl (by omega)) rfl rfl ?_ | refine st (ok_idxAN rfl rfl (by omega)) rfl rfl ?_ | refine st (ok_idx rfl rfl (by omega) (by omega)) rfl rfl ?_ | refine st (ok_idxG rfl rfl (by omega) (by omega)) rfl rfl ?_ | refine st (ok_idxA rfl rfl (by omega) (by omega)) rfl rfl ?_) | (refine gMkF ?_; first | refine st (ok_makeFunc rfl rfl) rfl rfl ?_) | (refine gCall ?_; first | refine st (ok_call rfl rfl rfl (by first | exact hleast)) rfl rfl ?_) | (refine gBox ?_; first | refine st (ok_box rfl) rfl rfl ?_) | (refine gAlloc ?_; first | refine st (ok_alloc rfl) rfl rfl ?_) | (refine gBuildS ?_; first | refine st (ok_buildS (by rfl) (by rfl) (by rfl) (by rfl) rfl (by rfl)) rfl rfl ?_) | (refine gApp ?_; first | refine st (ok_appendV (by rfl) (by rfl) rfl (by rfl) (by first | rfl | assumption) rfl (by first | rfl | assumption) (by omega) (by first | rfl | assumption) (by omega) (by omega)) rfl rfl ?_ | refine st (ok_appendIn rfl rfl (by omega) (by omega) (by first | rfl | assumption) (by first | rfl | assumption) (by first | rfl | assumption | exact hp1 (by omega) | exact hp2 (by omega))) rfl rfl ?_) | (refine gStore ?_; refine stN (ok_store rfl rfl rfl rfl (by first | rfl | assumption | exact hp1 (by omega) | exact hp2 (by omega))) rfl ?_)) | (refine gG ?_; first | (refine gMove ?_; first | refine stGA rfl (ok_move rfl) rfl rfl ?_) | (refine gFA ?_; first | refine stGA rfl (ok_fieldAddr rfl) rfl rfl ?_) | (refine gLoad ?_; first | refine stGA rfl (ok_load rfl (by first | rfl | assumption | exact hc1 (by omega) | exact hc2 (by omega))) rfl rfl ?_ | refine stGA rfl (ok_loadA rfl (by first | rfl | assumption | exact hc1 (by omega) | exact hc2 (by omega))) rfl rfl ?_) | (refine gBin ?_; first | refine stGA rfl (ok_bin rfl rfl rfl) rfl rfl ?_) | refine stSU rfl rfl ?_ | refine stSA rfl rfl ?_ | ((fail_if_success (refine stGkA rfl ?_)); first | (refine stGdD rfl ?_ ?_ <;> intro _) | (refine stGd rfl ?_ ?_ <;> intro _))) | refine W_seq ?_ | refine W_region ?_ | refine st_nil ?_ | refine tq_n ?_ | refine tq_r ?_ | refine tq_e ?_ | refine bq_n ?_ | refine bq_r ?_ | refine bq_hit rfl ?_ | refine bq_miss rfl ?_ | refine W_skip ?_ | refine W_exit ?_ | refine W_ret ?_ | refine W_block ?_ | refine W_condTA rfl ?_ | refine W_condFA rfl ?_ | (refine W_condD rfl ?_ ?_ <;> intro _) | (refine W_cond rfl ?_ ?_ <;> intro _))
  refine W_loopS (ι := Nat) (fun i => [(1, .int .i64 x), (2, .pointer (some ⟨2, 0, none⟩)), (5, slvV 3 1 (atL f g x i).length), (13, .int .i64 (l.length : Int)), (14, .int .i64 (i : Int))])
    (fun i => [.ro (ints l), .ro (rackC s (rkV l 0 c) f g), .rw [.pointer (some ⟨1, 0, none⟩)], .gr (nats (atL f g x i)) 3]) (fun i => l.length - i) (fun i => i ≤ l.length) 0 (by simp) (StRef.src [.ro (ints l), .ro (rackC s (rkV l 0 c) f g), .rw [.pointer (some ⟨1, 0, none⟩)]] [.gr [] 3] [3] (by simp) rfl (hc_three l s c f g) rfl rfl ⟨osub_gr0, trivial⟩ (by (repeat' (first | exact trivial | refine ⟨er_plain rfl rfl, ?_⟩ | refine ⟨er_closed (m := 3) rfl (fun i hi => srcR_lt hi) (by simp) (by first | rfl | exact closed_slice rfl) rfl, ?_⟩ | refine ⟨er_slvV rfl (by simp) rfl, ?_⟩ | refine ⟨er_slvV (by rw [he10]; rfl) (by simp) rfl, ?_⟩ | refine ⟨er_nil rfl, ?_⟩)))) (by omega) ?_
  rintro i hi
  by_cases hil : i < l.length
  · have hi12 : i < 12 := by omega
    have hL := atL_len (f := f) (g := g) (x := x) (n := i)
    have hlen : (nats (atL f g x i)).length = (atL f g x i).length * 1 := by simp [nats]
    have hc3 : cellsAt [.ro (ints l), .ro (rackC s (rkV l 0 c) f g), .rw [.pointer (some ⟨1, 0, none⟩)], .gr (nats (atL f g x i)) 3] 1 (6 + i * 2) 2 = some [.int .i64 (f i).1, .int .i64 (f i).2] := rack_pairAt (.inl rfl) hi12
    have hc4 : cellGet [.ro (ints l), .ro (rackC s (rkV l 0 c) f g), .rw [.pointer (some ⟨1, 0, none⟩)], .gr (nats (atL f g x i)) 3, .rw [.int .i64 (f i).1, .int .i64 (f i).2]] 1 (30 + i * 1) = some (.int .i64 (g i)) := rack_out hi12
    repeat' (first | (refine gU ?_; first | (refine gMove ?_; first | refine st (ok_move rfl) rfl rfl ?_) | (refine gAssign ?_; first | refine st (ok_assign rfl) rfl rfl ?_) | (refine gFA ?_; first | refine st (ok_fieldAddr rfl) rfl rfl ?_) | (refine gLoad ?_; first | refine st (ok_load rfl (by first | rfl | assumption | exact hc1 (by omega) | exact hc2 (by omega))) rfl rfl ?_ | refine st (ok_loadA rfl (by first | rfl | assumption | exact hc1 (by omega) | exact hc2 (by omega))) rfl rfl ?_) | (refine gAdd ?_; first | refine st (ok_inc rfl rfl (by omega)) rfl rfl ?_ | refine st (ok_add rfl rfl (by omega) (by omega)) rfl rfl ?_ | refine st (ok_bin rfl rfl rfl) rfl rfl ?_) | (refine gBin ?_; first | refine st (ok_bin rfl rfl rfl) rfl rfl ?_ | refine st (ok_eq2 rfl rfl) rfl rfl ?_) | (refine gLen ?_; first | refine st (ok_len rfl) rfl rfl ?_ | refine st (ok_lenV rfl) rfl rfl ?_) | (refine gPick ?_; first | refine st (ok_pickTA rfl rfl) rfl rfl ?_ | refine st (ok_pickFA rfl rfl) rfl rfl ?_) | (refine gNil ?_; first | refine st (ok_nilP rfl) rfl rfl ?_ | refine st (ok_nilF rfl) rfl rfl ?_) | (refine gIA ?_; first | refine st (ok_idxN rfl rfl (by omega)) rfl rfl ?_ | refine st (ok_idxSN rfl rfl (by omega)) rfl rfl ?_ | refine st (ok_idxAN rfl rfl (by omega)) rfl rfl ?_ | refine st (ok_idx rfl rfl (by omega) (by omega)) rfl rfl ?_ | refine st (ok_idxG rfl rfl (by omega) (by omega)) rfl rfl ?_ | refine st (ok_idxA rfl rfl (by omega) (by omega)) rfl rfl ?_) | (refine gMkF ?_; first | refine st (ok_makeFunc rfl rfl) rfl rfl ?_) | (refine gCall ?_; first | refine st (ok_call rfl rfl rfl (by first | exact hleast)) rfl rfl ?_) | (refine gBox ?_; first | refine st (ok_box rfl) rfl rfl ?_) | (refine gAlloc ?_; first | refine st (ok_alloc rfl) rfl rfl ?_) | (refine gBuildS ?_; first | refine st (ok_buildS (by rfl) (by rfl) (by rfl) (by rfl) rfl (by rfl)) rfl rfl ?_) | (refine gApp ?_; first | refine st (ok_appendV (by rfl) (by rfl) rfl (by rfl) (by first | rfl | assumption) rfl (by first | rfl | assumption) (by omega) (by first | rfl | assumption) (by omega) (by omega)) rfl rfl ?_ | refine st (ok_appendIn rfl rfl (by omega) (by omega) (by first | rfl | assumption) (by first | rfl | assumption) (by first | rfl | assumption | exact hp1 (by omega) | exact hp2 (by omega))) rfl rfl ?_) | (refine gStore ?_; refine stN (ok_store rfl rfl rfl rfl (by first | rfl | assumption | exact hp1 (by omega) | exact hp2 (by omega))) rfl ?_)) | (refine gG ?_; first | (refine gMove ?_; first | refine stGA rfl (ok_move rfl) rfl rfl ?_) | (refine gFA ?_; first | refine stGA rfl (ok_fieldAddr rfl) rfl rfl ?_) | (refine gLoad ?_; first | refine stGA rfl (ok_load rfl (by first | rfl | assumption | exact hc1 (by omega) | exact hc2 (by omega))) rfl rfl ?_ | refine stGA rfl (ok_loadA rfl (by first | rfl | assumption | exact hc1 (by omega) | exact hc2 (by omega))) rfl rfl ?_) | (refine gBin ?_; first | refine stGA rfl (ok_bin rfl rfl rfl) rfl rfl ?_) | refine stSU rfl rfl ?_ | refine stSA rfl rfl ?_ | ((fail_if_success (refine stGkA rfl ?_)); first | (refine stGdD rfl ?_ ?_ <;> intro _) | (refine stGd rfl ?_ ?_ <;> intro _))) | refine W_seq ?_ | refine W_region ?_ | refine st_nil ?_ | refine tq_n ?_ | refine tq_r ?_ | refine tq_e ?_ | refine bq_n ?_ | refine bq_r ?_ | refine bq_hit rfl ?_ | refine bq_miss rfl ?_ | refine W_skip ?_ | refine W_exit ?_ | refine W_ret ?_ | refine W_block ?_ | refine W_condTA rfl ?_ | refine W_condFA rfl ?_ | (refine W_condD rfl ?_ ?_ <;> intro _) | (refine W_cond rfl ?_ ?_ <;> intro _))
    · rename_i h1 h2 h3
      have ha : atL f g x (i + 1) = atL f g x i ++ [i] := by simp only [atL]; rw [if_pos ⟨h1, h2, h3⟩]
      have he10 : (atL f g x (i + 1)).length = (atL f g x i).length + 1 := by rw [ha]; simp
      have hcs : nats (atL f g x (i + 1)) = nats (atL f g x i) ++ [.int .i64 (i : Int)] := by rw [ha]; simp [nats]
      exact ⟨rfl, i + 1, by omega, by omega, StRef.src [.ro (ints l), .ro (rackC s (rkV l 0 c) f g), .rw [.pointer (some ⟨1, 0, none⟩)]] [.gr (nats (atL f g x (i + 1))) 3] [6] (by simp) rfl (hc_three l s c f g) rfl rfl ⟨osub_gr rfl (by rw [hcs]; rfl) (nats_plain _), trivial⟩ (by (repeat' (first | exact trivial | refine ⟨er_plain rfl rfl, ?_⟩ | refine ⟨er_closed (m := 3) rfl (fun i hi => srcR_lt hi) (by simp) (by first | rfl | exact closed_slice rfl) rfl, ?_⟩ | refine ⟨er_slvV rfl (by simp) rfl, ?_⟩ | refine ⟨er_slvV (by rw [he10]; rfl) (by simp) rfl, ?_⟩ | refine ⟨er_nil rfl, ?_⟩)))⟩
    all_goals
      have ha : atL f g x (i + 1) = atL f g x i := by simp only [atL]; rw [if_neg (by omega)]
      have he10 : (atL f g x (i + 1)).length = (atL f g x i).length := by rw [ha]
      exact ⟨rfl, i + 1, by omega, by omega, StRef.src [.ro (ints l), .ro (rackC s (rkV l 0 c) f g), .rw [.pointer (some ⟨1, 0, none⟩)]] [.gr (nats (atL f g x (i + 1))) 3] [3] (by simp) rfl (hc_three l s c f g) rfl rfl ⟨osub_gr rfl (by rw [ha]; rfl) (nats_plain _), trivial⟩ (by (repeat' (first | exact trivial | refine ⟨er_plain rfl rfl, ?_⟩ | refine ⟨er_closed (m := 3) rfl (fun i hi => srcR_lt hi) (by simp) (by first | rfl | exact closed_slice rfl) rfl, ?_⟩ | refine ⟨er_slvV rfl (by simp) rfl, ?_⟩ | refine ⟨er_slvV (by rw [he10]; rfl) (by simp) rfl, ?_⟩ | refine ⟨er_nil rfl, ?_⟩)))⟩
  · obtain rfl : i = l.length := by omega
    have hL := atL_len (f := f) (g := g) (x := x) (n := l.length)
    have hleast := least_ev (σ := [.ro (ints l), .ro (rackC s (rkV l 0 c) f g), .rw [.pointer (some ⟨1, 0, none⟩)], .gr (nats (atL f g x l.length)) 3]) (s := s) (l := l) (c := c) (f := f) (g := g) (t := 0) (r := 1) (x := 2) (y := 3) (ks := atL f g x l.length) (.inl rfl) (.inl rfl) (.inr (.inl rfl)) (.inr (.inr ⟨_, rfl⟩))
      (fun i hi => by
        have h1 : gn (atL f g x l.length) i ∈ atL f g x l.length := by
          simp only [gn, List.getD_eq_getElem?_getD]; rw [List.getElem?_eq_getElem hi]; exact List.getElem_mem hi
        have := atL_lt _ h1; omega) (by omega) rfl
    have hl := leastIx_lt (fun i => (f i).1) (atL f g x l.length) (atL f g x l.length).length
    have hnn : 0 < (atL f g x l.length).length → 0 ≤ leastIx (fun i => (f i).1) (atL f g x l.length) (atL f g x l.length).length := leastIx_nn _ _
    unfold atV
    generalize leastIx (fun i => (f i).1) (atL f g x l.length) (atL f g x l.length).length = L at hl hleast hnn ⊢
    have hc3 : 0 ≤ L → L < (atL f g x l.length).length → cellGet [.ro (ints l), .ro (rackC s (rkV l 0 c) f g), .rw [.pointer (some ⟨1, 0, none⟩)], .gr (nats (atL f g x l.length)) 3] 3 (L.toNat * 1) = some (.int .i64 (gn (atL f g x l.length) L.toNat : Int)) := fun h1 h2 => by
      have : L.toNat < (atL f g x l.length).length := by omega
      simpa [cellGet] using nats_get this
    cases hm : (atL f g x l.length).length with
    | zero =>
      rw [hm] at hleast hl hnn
      have hL0 : L < 0 := by omega
      rw [if_pos hL0]
      repeat' (first | (refine gU ?_; first | (refine gMove ?_; first | refine st (ok_move rfl) rfl rfl ?_) | (refine gAssign ?_; first | refine st (ok_assign rfl) rfl rfl ?_) | (refine gFA ?_; first | refine st (ok_fieldAddr rfl) rfl rfl ?_) | (refine gLoad ?_; first | refine st (ok_load rfl (by first | rfl | assumption | exact hc1 (by omega) | exact hc2 (by omega))) rfl rfl ?_ | refine st (ok_loadA rfl (by first | rfl | assumption | exact hc1 (by omega) | exact hc2 (by omega))) rfl rfl ?_) | (refine gAdd ?_; first | refine st (ok_inc rfl rfl (by omega)) rfl rfl ?_ | refine st (ok_add rfl rfl (by omega) (by omega)) rfl rfl ?_ | refine st (ok_bin rfl rfl rfl) rfl rfl ?_) | (refine gBin ?_; first | refine st (ok_bin rfl rfl rfl) rfl rfl ?_ | refine st (ok_eq2 rfl rfl) rfl rfl ?_) | (refine gLen ?_; first | refine st (ok_len rfl) rfl rfl ?_ | refine st (ok_lenV rfl) rfl rfl ?_) | (refine gPick ?_; first | refine st (ok_pickTA rfl rfl) rfl rfl ?_ | refine st (ok_pickFA rfl rfl) rfl rfl ?_) | (refine gNil ?_; first | refine st (ok_nilP rfl) rfl rfl ?_ | refine st (ok_nilF rfl) rfl rfl ?_) | (refine gIA ?_; first | refine st (ok_idxN rfl rfl (by omega)) rfl rfl ?_ | refine st (ok_idxSN rfl rfl (by omega)) rfl rfl ?_ | refine st (ok_idxAN rfl rfl (by omega)) rfl rfl ?_ | refine st (ok_idx rfl rfl (by omega) (by omega)) rfl rfl ?_ | refine st (ok_idxG rfl rfl (by omega) (by omega)) rfl rfl ?_ | refine st (ok_idxA rfl rfl (by omega) (by omega)) rfl rfl ?_) | (refine gMkF ?_; first | refine st (ok_makeFunc rfl rfl) rfl rfl ?_) | (refine gCall ?_; first | refine st (ok_call rfl rfl rfl (by first | exact hleast)) rfl rfl ?_) | (refine gBox ?_; first | refine st (ok_box rfl) rfl rfl ?_) | (refine gAlloc ?_; first | refine st (ok_alloc rfl) rfl rfl ?_) | (refine gBuildS ?_; first | refine st (ok_buildS (by rfl) (by rfl) (by rfl) (by rfl) rfl (by rfl)) rfl rfl ?_) | (refine gApp ?_; first | refine st (ok_appendV (by rfl) (by rfl) rfl (by rfl) (by first | rfl | assumption) rfl (by first | rfl | assumption) (by omega) (by first | rfl | assumption) (by omega) (by omega)) rfl rfl ?_ | refine st (ok_appendIn rfl rfl (by omega) (by omega) (by first | rfl | assumption) (by first | rfl | assumption) (by first | rfl | assumption | exact hp1 (by omega) | exact hp2 (by omega))) rfl rfl ?_) | (refine gStore ?_; refine stN (ok_store rfl rfl rfl rfl (by first | rfl | assumption | exact hp1 (by omega) | exact hp2 (by omega))) rfl ?_)) | (refine gG ?_; first | (refine gMove ?_; first | refine stGA rfl (ok_move rfl) rfl rfl ?_) | (refine gFA ?_; first | refine stGA rfl (ok_fieldAddr rfl) rfl rfl ?_) | (refine gLoad ?_; first | refine stGA rfl (ok_load rfl (by first | rfl | assumption | exact hc1 (by omega) | exact hc2 (by omega))) rfl rfl ?_ | refine stGA rfl (ok_loadA rfl (by first | rfl | assumption | exact hc1 (by omega) | exact hc2 (by omega))) rfl rfl ?_) | (refine gBin ?_; first | refine stGA rfl (ok_bin rfl rfl rfl) rfl rfl ?_) | refine stSU rfl rfl ?_ | refine stSA rfl rfl ?_ | ((fail_if_success (refine stGkA rfl ?_)); first | (refine stGdD rfl ?_ ?_ <;> intro _) | (refine stGd rfl ?_ ?_ <;> intro _))) | refine W_seq ?_ | refine W_region ?_ | refine st_nil ?_ | refine tq_n ?_ | refine tq_r ?_ | refine tq_e ?_ | refine bq_n ?_ | refine bq_r ?_ | refine bq_hit rfl ?_ | refine bq_miss rfl ?_ | refine W_skip ?_ | refine W_exit ?_ | refine W_ret ?_ | refine W_block ?_ | refine W_condTA rfl ?_ | refine W_condFA rfl ?_ | (refine W_condD rfl ?_ ?_ <;> intro _) | (refine W_cond rfl ?_ ?_ <;> intro _))
      exact ret0 (.tmp rfl .nil) (.plain rfl rfl) ⟨rfl, rfl⟩
    | succ m =>
      rw [hm] at hleast hl hnn hc3
      have hL0 : ¬ L < 0 := by omega
      have hc4 := hc3 (by omega) (by omega)
      rw [if_neg hL0]
      repeat' (first | (refine gU ?_; first | (refine gMove ?_; first | refine st (ok_move rfl) rfl rfl ?_) | (refine gAssign ?_; first | refine st (ok_assign rfl) rfl rfl ?_) | (refine gFA ?_; first | refine st (ok_fieldAddr rfl) rfl rfl ?_) | (refine gLoad ?_; first | refine st (ok_load rfl (by first | rfl | assumption | exact hc1 (by omega) | exact hc2 (by omega))) rfl rfl ?_ | refine st (ok_loadA rfl (by first | rfl | assumption | exact hc1 (by omega) | exact hc2 (by omega))) rfl rfl ?_) | (refine gAdd ?_; first | refine st (ok_inc rfl rfl (by omega)) rfl rfl ?_ | refine st (ok_add rfl rfl (by omega) (by omega)) rfl rfl ?_ | refine st (ok_bin rfl rfl rfl) rfl rfl ?_) | (refine gBin ?_; first | refine st (ok_bin rfl rfl rfl) rfl rfl ?_ | refine st (ok_eq2 rfl rfl) rfl rfl ?_) | (refine gLen ?_; first | refine st (ok_len rfl) rfl rfl ?_ | refine st (ok_lenV rfl) rfl rfl ?_) | (refine gPick ?_; first | refine st (ok_pickTA rfl rfl) rfl rfl ?_ | refine st (ok_pickFA rfl rfl) rfl rfl ?_) | (refine gNil ?_; first | refine st (ok_nilP rfl) rfl rfl ?_ | refine st (ok_nilF rfl) rfl rfl ?_) | (refine gIA ?_; first | refine st (ok_idxN rfl rfl (by omega)) rfl rfl ?_ | refine st (ok_idxSN rfl rfl (by omega)) rfl rfl ?_ | refine st (ok_idxAN rfl rfl (by omega)) rfl rfl ?_ | refine st (ok_idx rfl rfl (by omega) (by omega)) rfl rfl ?_ | refine st (ok_idxG rfl rfl (by omega) (by omega)) rfl rfl ?_ | refine st (ok_idxA rfl rfl (by omega) (by omega)) rfl rfl ?_) | (refine gMkF ?_; first | refine st (ok_makeFunc rfl rfl) rfl rfl ?_) | (refine gCall ?_; first | refine st (ok_call rfl rfl rfl (by first | exact hleast)) rfl rfl ?_) | (refine gBox ?_; first | refine st (ok_box rfl) rfl rfl ?_) | (refine gAlloc ?_; first | refine st (ok_alloc rfl) rfl rfl ?_) | (refine gBuildS ?_; first | refine st (ok_buildS (by rfl) (by rfl) (by rfl) (by rfl) rfl (by rfl)) rfl rfl ?_) | (refine gApp ?_; first | refine st (ok_appendV (by rfl) (by rfl) rfl (by rfl) (by first | rfl | assumption) rfl (by first | rfl | assumption) (by omega) (by first | rfl | assumption) (by omega) (by omega)) rfl rfl ?_ | refine st (ok_appendIn rfl rfl (by omega) (by omega) (by first | rfl | assumption) (by first | rfl | assumption) (by first | rfl | assumption | exact hp1 (by omega) | exact hp2 (by omega))) rfl rfl ?_) | (refine gStore ?_; refine stN (ok_store rfl rfl rfl rfl (by first | rfl | assumption | exact hp1 (by omega) | exact hp2 (by omega))) rfl ?_)) | (refine gG ?_; first | (refine gMove ?_; first | refine stGA rfl (ok_move rfl) rfl rfl ?_) | (refine gFA ?_; first | refine stGA rfl (ok_fieldAddr rfl) rfl rfl ?_) | (refine gLoad ?_; first | refine stGA rfl (ok_load rfl (by first | rfl | assumption | exact hc1 (by omega) | exact hc2 (by omega))) rfl rfl ?_ | refine stGA rfl (ok_loadA rfl (by first | rfl | assumption | exact hc1 (by omega) | exact hc2 (by omega))) rfl rfl ?_) | (refine gBin ?_; first | refine stGA rfl (ok_bin rfl rfl rfl) rfl rfl ?_) | refine stSU rfl rfl ?_ | refine stSA rfl rfl ?_ | ((fail_if_success (refine stGkA rfl ?_)); first | (refine stGdD rfl ?_ ?_ <;> intro _) | (refine stGd rfl ?_ ?_ <;> intro _))) | refine W_seq ?_ | refine W_region ?_ | refine st_nil ?_ | refine tq_n ?_ | refine tq_r ?_ | refine tq_e ?_ | refine bq_n ?_ | refine bq_r ?_ | refine bq_hit rfl ?_ | refine bq_miss rfl ?_ | refine W_skip ?_ | refine W_exit ?_ | refine W_ret ?_ | refine W_block ?_ | refine W_condTA rfl ?_ | refine W_condFA rfl ?_ | (refine W_condD rfl ?_ ?_ <;> intro _) | (refine W_cond rfl ?_ ?_ <;> intro _))
      exact ret0 (.tmp rfl .nil) (.plain rfl rfl) ⟨rfl, rfl⟩
theorem at_ev {σ : Heap} {s : St} {l : List Int} {c : Nat} {f : Nat → Int × Int} {g : Nat → Int} {x : Int} {t r : Nat} (ht : arrAt σ t (ints l)) (hr : arrAt σ r (rackC s (rkV l t c) f g)) (h12 : l.length ≤ 12) (hx : 0 ≤ x) (hni : σ.all (fun o => !isIter o) = true) :
    Ev Try.prog 73 [.pointer (some ⟨r, 0, none⟩), .int .i64 x] σ (.int .i64 (bestF (maskF f g) x l.length)) σ :=
  Ev.arrsP [ints l, rackC s (rkV l 0 c) f g] [(t, ints l), (r, rackC s (rkV l t c) f g)] (at_ok s l c f g x h12 hx)
    ⟨⟨ht, CellsSub.plain (ints_plain l)⟩, ⟨hr, rack_sub (by simpa [bsR, rkV] using VQ.slice (q := true) (n := 2) (ρ := bsR [t, r]) 0 0 l.length c c (Nat.le_refl _) (by omega))⟩, trivial⟩
    ⟨by simpa [bsR] using VQ.ptr (q := true) (n := 2) (ρ := bsR [t, r]) 1 0 (by omega), .int _ _, trivial⟩ rfl hni
end Go.Proofs.Ytgfnogdecggkkaa
