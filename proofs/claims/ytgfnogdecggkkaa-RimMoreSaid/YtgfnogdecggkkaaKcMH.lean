/- What newRack, open and at of rim do, and the plain theory of gaps. Conditions: stand in each theorem. -/
import Derived.Test.YtgfnogdecggkkaaKcMG
import Derived.Test.YtgfnogdecggkkaaKcMC
namespace Go.AH
open Go
def spanC (p : Int × Int) : List Value := [.int .i64 p.1, .int .i64 p.2]
def spansC (f : Nat → Int × Int) : List Value := (List.range 12).flatMap fun k => spanC (f k)
def outC (g : Nat → Int) : List Value := (List.range 12).map fun k => .int .i64 (g k)
def rackC (s : St) (tv : Value) (f : Nat → Int × Int) (g : Nat → Int) : List Value := s.cells ++ [tv] ++ spansC f ++ outC g
def setF {α : Type} (f : Nat → α) (i : Nat) (a : α) : Nat → α := fun k => if k = i then a else f k
theorem rack_lo {s : St} {tv : Value} {f : Nat → Int × Int} {g : Nat → Int} : ∀ {i : Nat}, i < 12 → (rackC s tv f g)[6 + i * 2]? = some (.int .i64 (f i).1)
  | 0, _ => rfl | 1, _ => rfl | 2, _ => rfl | 3, _ => rfl | 4, _ => rfl | 5, _ => rfl | 6, _ => rfl | 7, _ => rfl | 8, _ => rfl | 9, _ => rfl | 10, _ => rfl | 11, _ => rfl
theorem rack_out {s : St} {tv : Value} {f : Nat → Int × Int} {g : Nat → Int} : ∀ {i : Nat}, i < 12 → (rackC s tv f g)[30 + i * 1]? = some (.int .i64 (g i))
  | 0, _ => rfl | 1, _ => rfl | 2, _ => rfl | 3, _ => rfl | 4, _ => rfl | 5, _ => rfl | 6, _ => rfl | 7, _ => rfl | 8, _ => rfl | 9, _ => rfl | 10, _ => rfl | 11, _ => rfl
theorem rack_set {s : St} {tv : Value} {f : Nat → Int × Int} {g : Nat → Int} {a b : Int} : ∀ {i : Nat}, i < 12 → splice (rackC s tv f g) (6 + i * 2) [.int .i64 a, .int .i64 b] = rackC s tv (setF f i (a, b)) g
  | 0, _ => rfl | 1, _ => rfl | 2, _ => rfl | 3, _ => rfl | 4, _ => rfl | 5, _ => rfl | 6, _ => rfl | 7, _ => rfl | 8, _ => rfl | 9, _ => rfl | 10, _ => rfl | 11, _ => rfl
theorem rack_len {s : St} {tv : Value} {f : Nat → Int × Int} {g : Nat → Int} : (rackC s tv f g).length = 42 := rfl
theorem closedL_app (n : Nat) (a b : List Value) : closedL n (a ++ b) = (closedL n a && closedL n b) := by
  induction a with
  | nil => simp [closedL]
  | cons x a ih => simp [closedL, ih, Bool.and_assoc]
theorem okL_app (a b : List Value) : okL (a ++ b) = (okL a && okL b) := by
  induction a with
  | nil => simp [okL]
  | cons x a ih => simp [okL, ih, Bool.and_assoc]
theorem cells_plain (s : St) : plainL s.cells = true := by simp [St.cells, plainL, plain]
theorem spans_plain (f : Nat → Int × Int) : plainL (spansC f) = true := by simp [spansC, spanC, List.range, List.range.loop, plainL, plain]
theorem out_plain (g : Nat → Int) : plainL (outC g) = true := by simp [outC, List.range, List.range.loop, plainL, plain]
theorem rack_closed {n : Nat} {s : St} {tv : Value} {f : Nat → Int × Int} {g : Nat → Int} (h1 : closed n tv = true) (h2 : okV tv = true) : closedL n (rackC s tv f g) = true ∧ okL (rackC s tv f g) = true := by
  have a := plainL_closed (n := n) (cells_plain s)
  have b := plainL_closed (n := n) (spans_plain f)
  have c := plainL_closed (n := n) (out_plain g)
  simp only [rackC, closedL_app, okL_app]
  exact ⟨by simp [a.1, b.1, c.1, closedL, h1], by simp [a.2, b.2, c.2, okL, h2]⟩
theorem slice_closed {n i l c : Nat} (h : i < n) : closed n (.slice (some ⟨i, 0, none⟩) l c) = true ∧ okV (.slice (some ⟨i, 0, none⟩) l c) = true := by
  have := VQ.slice (q := false) (n := n) (ρ := fun k => ⟨k, 0, 0⟩) i 0 l c c (Nat.le_refl _) h
  exact ⟨vq_closed this, vq_ok this⟩
theorem putRw {σ : Heap} {b o : Nat} {cs vs cs' : List Value} (h : σ[b]? = some (.rw cs)) (hl : o + vs.length ≤ cs.length) (h0 : 0 < cs.length) (he : splice cs o vs = cs') : putCells σ b o vs = some (σ.set b (.rw cs')) := by
  have e1 : Nat.ble (o + vs.length) cs.length = true := Nat.ble_eq_true_of_le hl
  have e2 : Nat.blt 0 cs.length = true := Nat.blt_eq.mpr h0
  simp only [putCells, h, e1, e2, Bool.and_self, cond_true, he]
def span (s : St) (n : Int) : Int × Int := (max s.short ((s.lo + n - 1).tdiv n + s.off), min s.long (s.hi.tdiv n - s.off))
def spanR (s : St) (n : Int) : Int × Int := if (span s n).1 ≤ (span s n).2 then span s n else (100001, -1)
def spanAt (s : St) (l : List Int) (i : Nat) : Int × Int := if i < l.length then spanR s (gi l i) else (100001, -1)
end Go.AH
namespace Go.Proofs.Ytgfnogdecggkkaa
open Go Go.AH
attribute [local irreducible] WOps WCode WFree retQ thenQ blockQ OpOk ACall RetRef roundA roundB
set_option maxRecDepth 100000
set_option maxHeartbeats 1000000
theorem newRack_ok (s : St) (l : List Int) (c : Nat) (h12 : l.length ≤ 12) (hs : ¬ badStone s) (ht : badTurns l = false) :
    Ev Try.prog 68 [s.val, .slice (some ⟨0, 0, none⟩) l.length c] [.ro (ints l)] (.pointer (some ⟨1, 0, none⟩)) [.ro (ints l), .rw (rackC s (.slice (some ⟨0, 0, none⟩) l.length c) (spanAt s l) fun _ => 0)] := by
  refine acall_intro 1 72 Try.func68 rfl rfl rfl rfl rfl ?_
  repeat' (first | (refine gU ?_; first | (refine gMove ?_; first | refine st (ok_move rfl) rfl rfl ?_) | (refine gAssign ?_; first | refine st (ok_assign rfl) rfl rfl ?_) | (refine gFA ?_; first | refine st (ok_fieldAddr rfl) rfl rfl ?_) | (refine gLoad ?_; first | refine st (ok_load rfl (by first | rfl | assumption | exact hc1 (by omega) | exact hc2 (by omega) | exact hc3 (by omega) | exact hc4 (by omega))) rfl rfl ?_ | refine st (ok_loadA rfl (by first | rfl | assumption | exact hc1 (by omega) | exact hc2 (by omega) | exact hc3 (by omega) | exact hc4 (by omega))) rfl rfl ?_) | (refine gAdd ?_; first | refine st (ok_inc rfl rfl (by omega)) rfl rfl ?_ | refine st (ok_add rfl rfl (by omega) (by omega)) rfl rfl ?_ | refine st (ok_bin rfl rfl rfl) rfl rfl ?_) | (refine gSub ?_; first | refine st (ok_sub rfl rfl (by omega) (by omega)) rfl rfl ?_ | refine st (ok_bin rfl rfl rfl) rfl rfl ?_) | (refine gBin ?_; first | refine st (ok_bin rfl rfl rfl) rfl rfl ?_ | refine st (ok_quo64 rfl rfl (by omega) (by first | assumption | omega | exact hq1 (by omega) | exact hq2 (by omega) | exact hq3 (by omega) | exact hq4 (by omega)) (by first | assumption | omega | exact hq1 (by omega) | exact hq2 (by omega) | exact hq3 (by omega) | exact hq4 (by omega))) rfl rfl ?_ | refine st (ok_quo rfl rfl (by omega)) rfl rfl ?_) | (refine gLen ?_; first | refine st (ok_len rfl) rfl rfl ?_ | refine st (ok_lenV rfl) rfl rfl ?_) | (refine gNil ?_; first | refine st (ok_nilP rfl) rfl rfl ?_ | refine st (ok_nilF rfl) rfl rfl ?_) | (refine gIA ?_; first | refine st (ok_idxN rfl rfl (by omega)) rfl rfl ?_ | refine st (ok_idxSN rfl rfl (by omega)) rfl rfl ?_ | refine st (ok_idxAN rfl rfl (by omega)) rfl rfl ?_ | refine st (ok_idx rfl rfl (by omega) (by omega)) rfl rfl ?_ | refine st (ok_idxG rfl rfl (by omega) (by omega)) rfl rfl ?_ | refine st (ok_idxA rfl rfl (by omega) (by omega)) rfl rfl ?_) | (refine gMax ?_; first | refine st (ok_max rfl rfl) rfl rfl ?_) | (refine gMin ?_; first | refine st (ok_min rfl rfl) rfl rfl ?_) | (refine gBuild ?_; first | refine st (ok_build (by rfl) rfl (by rfl)) rfl rfl ?_ | refine st (ok_buildA (by rfl)) rfl rfl ?_) | (refine gCall ?_; first | refine st (ok_call rfl rfl rfl (by first | exact Ev.nil nowhere_ok rfl rfl rfl)) rfl rfl ?_) | (refine gBox ?_; first | refine st (ok_box rfl) rfl rfl ?_) | (refine gAlloc ?_; first | refine st (ok_alloc rfl) rfl rfl ?_) | (refine gStore ?_; refine stN (ok_store rfl rfl rfl rfl (by first | rfl | assumption | exact hp1 (by omega) | exact hp2 (by omega))) rfl ?_)) | (refine fU ?_; first | (refine fMove ?_; first | refine fr (ok_move rfl) (by first | rfl | exact closed_slice rfl | exact closed_slvV rfl) rfl ?_) | (refine fFA ?_; first | refine fr (ok_fieldAddr rfl) (by first | rfl | exact closed_slice rfl | exact closed_slvV rfl) rfl ?_) | (refine fLoad ?_; first | refine fr (ok_load rfl (by first | rfl | assumption | exact hc1 (by omega) | exact hc2 (by omega) | exact hc3 (by omega) | exact hc4 (by omega))) (by first | rfl | exact closed_slice rfl | exact closed_slvV rfl) rfl ?_ | refine fr (ok_loadA rfl (by first | rfl | assumption | exact hc1 (by omega) | exact hc2 (by omega) | exact hc3 (by omega) | exact hc4 (by omega))) (by first | rfl | exact closed_slice rfl | exact closed_slvV rfl) rfl ?_) | (refine fAdd ?_; first | refine fr (ok_inc rfl rfl (by omega)) (by first | rfl | exact closed_slice rfl | exact closed_slvV rfl) rfl ?_ | refine fr (ok_add rfl rfl (by omega) (by omega)) (by first | rfl | exact closed_slice rfl | exact closed_slvV rfl) rfl ?_ | refine fr (ok_bin rfl rfl rfl) (by first | rfl | exact closed_slice rfl | exact closed_slvV rfl) rfl ?_) | (refine fSub ?_; first | refine fr (ok_sub rfl rfl (by omega) (by omega)) (by first | rfl | exact closed_slice rfl | exact closed_slvV rfl) rfl ?_ | refine fr (ok_bin rfl rfl rfl) (by first | rfl | exact closed_slice rfl | exact closed_slvV rfl) rfl ?_) | (refine fBin ?_; first | refine fr (ok_quo64 rfl rfl (by omega) (by first | assumption | omega | exact hq1 (by omega) | exact hq2 (by omega) | exact hq3 (by omega) | exact hq4 (by omega)) (by first | assumption | omega | exact hq1 (by omega) | exact hq2 (by omega) | exact hq3 (by omega) | exact hq4 (by omega))) (by first | rfl | exact closed_slice rfl | exact closed_slvV rfl) rfl ?_ | refine fr (ok_quo rfl rfl (by omega)) (by first | rfl | exact closed_slice rfl | exact closed_slvV rfl) rfl ?_) | (refine fNil ?_; first | refine fr (ok_nilP rfl) (by first | rfl | exact closed_slice rfl | exact closed_slvV rfl) rfl ?_ | refine fr (ok_nilF rfl) (by first | rfl | exact closed_slice rfl | exact closed_slvV rfl) rfl ?_) | (refine fIA ?_; first | refine fr (ok_idxN rfl rfl (by omega)) (by first | rfl | exact closed_slice rfl | exact closed_slvV rfl) rfl ?_ | refine fr (ok_idxSN rfl rfl (by omega)) (by first | rfl | exact closed_slice rfl | exact closed_slvV rfl) rfl ?_ | refine fr (ok_idxAN rfl rfl (by omega)) (by first | rfl | exact closed_slice rfl | exact closed_slvV rfl) rfl ?_ | refine fr (ok_idx rfl rfl (by omega) (by omega)) (by first | rfl | exact closed_slice rfl | exact closed_slvV rfl) rfl ?_ | refine fr (ok_idxG rfl rfl (by omega) (by omega)) (by first | rfl | exact closed_slice rfl | exact closed_slvV rfl) rfl ?_ | refine fr (ok_idxA rfl rfl (by omega) (by omega)) (by first | rfl | exact closed_slice rfl | exact closed_slvV rfl) rfl ?_) | (refine fMax ?_; first | refine fr (ok_max rfl rfl) (by first | rfl | exact closed_slice rfl | exact closed_slvV rfl) rfl ?_) | (refine fMin ?_; first | refine fr (ok_min rfl rfl) (by first | rfl | exact closed_slice rfl | exact closed_slvV rfl) rfl ?_) | (refine fBuild ?_; first | refine fr (ok_build (by rfl) rfl (by rfl)) (by first | rfl | exact closed_slice rfl | exact closed_slvV rfl) rfl ?_ | refine fr (ok_buildA (by rfl)) (by first | rfl | exact closed_slice rfl | exact closed_slvV rfl) rfl ?_) | (refine fCall ?_; first | refine fr (ok_call rfl rfl rfl (by first | exact Ev.nil nowhere_ok rfl rfl rfl)) (by first | rfl | exact closed_slice rfl | exact closed_slvV rfl) rfl ?_) | (refine fAlloc ?_; first | refine fr1 (ok_alloc rfl) rfl rfl rfl ?_)) | (refine fr_stop ⟨by kernel_rfl, ?_⟩) | refine W_seq ?_ | refine W_region ?_ | refine W_regionD (by kernel_rfl) rfl ?_ | refine st_nil ?_ | refine tq_n ?_ | refine tq_r ?_ | refine tq_e ?_ | refine bq_n ?_ | refine bq_r ?_ | refine bq_hit rfl ?_ | refine bq_miss rfl ?_ | refine W_skip ?_ | refine W_exit ?_ | refine W_ret ?_ | refine W_block ?_ | refine W_condT rfl (by first | rfl | exact dtrue (by assumption) | exact dfalse (by assumption) | assumption | exact dtrue (by omega) | exact dfalse (by omega)) ?_ | refine W_condF rfl (by first | rfl | exact dtrue (by assumption) | exact dfalse (by assumption) | assumption | exact dtrue (by omega) | exact dfalse (by omega)) ?_ | (refine W_condD rfl ?_ ?_ <;> intro _) | (refine W_cond rfl ?_ ?_ <;> intro _))
  unfold badStone at hs
  have hno : ∀ i < l.length, 1 ≤ gi l i ∧ gi l i ≤ 10000 := fun i hi => by
    have : ¬ (gi l i < 1 ∨ gi l i > 10000) := fun hb => by rw [badTurns_iff.2 ⟨i, hi, hb⟩] at ht; cases ht
    omega
  refine W_loopS (ι := Nat) (fun i => [(1, .slice (some ⟨0, 0, none⟩) l.length c), (2, .pointer (some ⟨1, 0, none⟩)), (5, .pointer (some ⟨2, 0, none⟩)), (15, .int .i64 (i : Int))])
    (fun i => [.ro (ints l), .rw s.cells, .rw (rackC s (.slice (some ⟨0, 0, none⟩) l.length c) (fun k => if k < i then (100001, -1) else (0, 0)) fun _ => 0)]) (fun i => 12 - i) (fun i => i ≤ 12) 0 (by simp)
    (.same ⟨rfl, rfl, rfl, rfl, trivial⟩) (by omega) ?_
  · intro i hi
    have hp1 : i < 12 → putCells [.ro (ints l), .rw s.cells, .rw (rackC s (.slice (some ⟨0, 0, none⟩) l.length c) (fun k => if k < i then (100001, -1) else (0, 0)) fun _ => 0)] 2 (6 + i * 2) [.int .i64 100001, .int .i64 (-1)] =
        some [.ro (ints l), .rw s.cells, .rw (rackC s (.slice (some ⟨0, 0, none⟩) l.length c) (fun k => if k < i + 1 then (100001, -1) else (0, 0)) fun _ => 0)] := fun h => by
      refine putRw rfl (by rw [rack_len]; simp; omega) (by rw [rack_len]; omega) ?_
      rw [rack_set h]
      congr 1
      funext k
      simp only [setF]
      by_cases hk : k = i <;> by_cases hk2 : k < i <;> simp [hk, hk2] <;> omega
    repeat' (first | (refine gU ?_; first | (refine gMove ?_; first | refine st (ok_move rfl) rfl rfl ?_) | (refine gAssign ?_; first | refine st (ok_assign rfl) rfl rfl ?_) | (refine gFA ?_; first | refine st (ok_fieldAddr rfl) rfl rfl ?_) | (refine gLoad ?_; first | refine st (ok_load rfl (by first | rfl | assumption | exact hc1 (by omega) | exact hc2 (by omega) | exact hc3 (by omega) | exact hc4 (by omega))) rfl rfl ?_ | refine st (ok_loadA rfl (by first | rfl | assumption | exact hc1 (by omega) | exact hc2 (by omega) | exact hc3 (by omega) | exact hc4 (by omega))) rfl rfl ?_) | (refine gAdd ?_; first | refine st (ok_inc rfl rfl (by omega)) rfl rfl ?_ | refine st (ok_add rfl rfl (by omega) (by omega)) rfl rfl ?_ | refine st (ok_bin rfl rfl rfl) rfl rfl ?_) | (refine gSub ?_; first | refine st (ok_sub rfl rfl (by omega) (by omega)) rfl rfl ?_ | refine st (ok_bin rfl rfl rfl) rfl rfl ?_) | (refine gBin ?_; first | refine st (ok_bin rfl rfl rfl) rfl rfl ?_ | refine st (ok_quo64 rfl rfl (by omega) (by first | assumption | omega | exact hq1 (by omega) | exact hq2 (by omega) | exact hq3 (by omega) | exact hq4 (by omega)) (by first | assumption | omega | exact hq1 (by omega) | exact hq2 (by omega) | exact hq3 (by omega) | exact hq4 (by omega))) rfl rfl ?_ | refine st (ok_quo rfl rfl (by omega)) rfl rfl ?_) | (refine gLen ?_; first | refine st (ok_len rfl) rfl rfl ?_ | refine st (ok_lenV rfl) rfl rfl ?_) | (refine gNil ?_; first | refine st (ok_nilP rfl) rfl rfl ?_ | refine st (ok_nilF rfl) rfl rfl ?_) | (refine gIA ?_; first | refine st (ok_idxN rfl rfl (by omega)) rfl rfl ?_ | refine st (ok_idxSN rfl rfl (by omega)) rfl rfl ?_ | refine st (ok_idxAN rfl rfl (by omega)) rfl rfl ?_ | refine st (ok_idx rfl rfl (by omega) (by omega)) rfl rfl ?_ | refine st (ok_idxG rfl rfl (by omega) (by omega)) rfl rfl ?_ | refine st (ok_idxA rfl rfl (by omega) (by omega)) rfl rfl ?_) | (refine gMax ?_; first | refine st (ok_max rfl rfl) rfl rfl ?_) | (refine gMin ?_; first | refine st (ok_min rfl rfl) rfl rfl ?_) | (refine gBuild ?_; first | refine st (ok_build (by rfl) rfl (by rfl)) rfl rfl ?_ | refine st (ok_buildA (by rfl)) rfl rfl ?_) | (refine gCall ?_; first | refine st (ok_call rfl rfl rfl (by first | exact Ev.nil nowhere_ok rfl rfl rfl)) rfl rfl ?_) | (refine gBox ?_; first | refine st (ok_box rfl) rfl rfl ?_) | (refine gAlloc ?_; first | refine st (ok_alloc rfl) rfl rfl ?_) | (refine gStore ?_; refine stN (ok_store rfl rfl rfl rfl (by first | rfl | assumption | exact hp1 (by omega) | exact hp2 (by omega))) rfl ?_)) | (refine fU ?_; first | (refine fMove ?_; first | refine fr (ok_move rfl) (by first | rfl | exact closed_slice rfl | exact closed_slvV rfl) rfl ?_) | (refine fFA ?_; first | refine fr (ok_fieldAddr rfl) (by first | rfl | exact closed_slice rfl | exact closed_slvV rfl) rfl ?_) | (refine fLoad ?_; first | refine fr (ok_load rfl (by first | rfl | assumption | exact hc1 (by omega) | exact hc2 (by omega) | exact hc3 (by omega) | exact hc4 (by omega))) (by first | rfl | exact closed_slice rfl | exact closed_slvV rfl) rfl ?_ | refine fr (ok_loadA rfl (by first | rfl | assumption | exact hc1 (by omega) | exact hc2 (by omega) | exact hc3 (by omega) | exact hc4 (by omega))) (by first | rfl | exact closed_slice rfl | exact closed_slvV rfl) rfl ?_) | (refine fAdd ?_; first | refine fr (ok_inc rfl rfl (by omega)) (by first | rfl | exact closed_slice rfl | exact closed_slvV rfl) rfl ?_ | refine fr (ok_add rfl rfl (by omega) (by omega)) (by first | rfl | exact closed_slice rfl | exact closed_slvV rfl) rfl ?_ | refine fr (ok_bin rfl rfl rfl) (by first | rfl | exact closed_slice rfl | exact closed_slvV rfl) rfl ?_) | (refine fSub ?_; first | refine fr (ok_sub rfl rfl (by omega) (by omega)) (by first | rfl | exact closed_slice rfl | exact closed_slvV rfl) rfl ?_ | refine fr (ok_bin rfl rfl rfl) (by first | rfl | exact closed_slice rfl | exact closed_slvV rfl) rfl ?_) | (refine fBin ?_; first | refine fr (ok_quo64 rfl rfl (by omega) (by first | assumption | omega | exact hq1 (by omega) | exact hq2 (by omega) | exact hq3 (by omega) | exact hq4 (by omega)) (by first | assumption | omega | exact hq1 (by omega) | exact hq2 (by omega) | exact hq3 (by omega) | exact hq4 (by omega))) (by first | rfl | exact closed_slice rfl | exact closed_slvV rfl) rfl ?_ | refine fr (ok_quo rfl rfl (by omega)) (by first | rfl | exact closed_slice rfl | exact closed_slvV rfl) rfl ?_) | (refine fNil ?_; first | refine fr (ok_nilP rfl) (by first | rfl | exact closed_slice rfl | exact closed_slvV rfl) rfl ?_ | refine fr (ok_nilF rfl) (by first | rfl | exact closed_slice rfl | exact closed_slvV rfl) rfl ?_) | (refine fIA ?_; first | refine fr (ok_idxN rfl rfl (by omega)) (by first | rfl | exact closed_slice rfl | exact closed_slvV rfl) rfl ?_ | refine fr (ok_idxSN rfl rfl (by omega)) (by first | rfl | exact closed_slice rfl | exact closed_slvV rfl) rfl ?_ | refine fr (ok_idxAN rfl rfl (by omega)) (by first | rfl | exact closed_slice rfl | exact closed_slvV rfl) rfl ?_ | refine fr (ok_idx rfl rfl (by omega) (by omega)) (by first | rfl | exact closed_slice rfl | exact closed_slvV rfl) rfl ?_ | refine fr (ok_idxG rfl rfl (by omega) (by omega)) (by first | rfl | exact closed_slice rfl | exact closed_slvV rfl) rfl ?_ | refine fr (ok_idxA rfl rfl (by omega) (by omega)) (by first | rfl | exact closed_slice rfl | exact closed_slvV rfl) rfl ?_) | (refine fMax ?_; first | refine fr (ok_max rfl rfl) (by first | rfl | exact closed_slice rfl | exact closed_slvV rfl) rfl ?_) | (refine fMin ?_; first | refine fr (ok_min rfl rfl) (by first | rfl | exact closed_slice rfl | exact closed_slvV rfl) rfl ?_) | (refine fBuild ?_; first | refine fr (ok_build (by rfl) rfl (by rfl)) (by first | rfl | exact closed_slice rfl | exact closed_slvV rfl) rfl ?_ | refine fr (ok_buildA (by rfl)) (by first | rfl | exact closed_slice rfl | exact closed_slvV rfl) rfl ?_) | (refine fCall ?_; first | refine fr (ok_call rfl rfl rfl (by first | exact Ev.nil nowhere_ok rfl rfl rfl)) (by first | rfl | exact closed_slice rfl | exact closed_slvV rfl) rfl ?_) | (refine fAlloc ?_; first | refine fr1 (ok_alloc rfl) rfl rfl rfl ?_)) | (refine fr_stop ⟨by kernel_rfl, ?_⟩) | refine W_seq ?_ | refine W_region ?_ | refine W_regionD (by kernel_rfl) rfl ?_ | refine st_nil ?_ | refine tq_n ?_ | refine tq_r ?_ | refine tq_e ?_ | refine bq_n ?_ | refine bq_r ?_ | refine bq_hit rfl ?_ | refine bq_miss rfl ?_ | refine W_skip ?_ | refine W_exit ?_ | refine W_ret ?_ | refine W_block ?_ | refine W_condT rfl (by first | rfl | exact dtrue (by assumption) | exact dfalse (by assumption) | assumption | exact dtrue (by omega) | exact dfalse (by omega)) ?_ | refine W_condF rfl (by first | rfl | exact dtrue (by assumption) | exact dfalse (by assumption) | assumption | exact dtrue (by omega) | exact dfalse (by omega)) ?_ | (refine W_condD rfl ?_ ?_ <;> intro _) | (refine W_cond rfl ?_ ?_ <;> intro _))
    · exact ⟨rfl, i + 1, by omega, by omega, .same ⟨rfl, rfl, rfl, rfl, trivial⟩⟩
    · obtain rfl : i = 12 := by omega
      refine W_loopS (ι := Nat) (fun i => [(2, .pointer (some ⟨1, 0, none⟩)), (5, .pointer (some ⟨2, 0, none⟩)), (25, .slice (some ⟨0, 0, none⟩) l.length c), (26, .int .i64 (l.length : Int)), (27, .int .i64 (i : Int))])
        (fun i => [.ro (ints l), .rw s.cells, .rw (rackC s (.slice (some ⟨0, 0, none⟩) l.length c) (fun k => if k < i then spanAt s l k else (100001, -1)) fun _ => 0)]) (fun i => l.length - i) (fun i => i ≤ l.length) 0 (by simp)
        (.same ⟨rfl, rfl, rfl, rfl, rfl, trivial⟩) (by omega) ?_
      intro i hi
      have hc1 : i < l.length → cellGet [.ro (ints l), .rw s.cells, .rw (rackC s (.slice (some ⟨0, 0, none⟩) l.length c) (fun k => if k < i then spanAt s l k else (100001, -1)) fun _ => 0)] 0 i = some (.int .i64 (gi l i)) := fun h => ints_get h
      have hn1 := hno i
      have hq1 : i < l.length → 0 ≤ (s.lo + gi l i - 1).tdiv (gi l i) := fun h => by
        have := Int.tdiv_nonneg (a := s.lo + gi l i - 1) (b := gi l i) (by have := hn1 h; omega) (by have := hn1 h; omega); omega
      have hq2 : i < l.length → (s.lo + gi l i - 1).tdiv (gi l i) ≤ 2000000000 := fun h => by
        have := Int.tdiv_le_self (a := s.lo + gi l i - 1) (gi l i) (by have := hn1 h; omega); have := hn1 h; omega
      have hq3 : i < l.length → 0 ≤ s.hi.tdiv (gi l i) := fun h => by
        have := Int.tdiv_nonneg (a := s.hi) (b := gi l i) (by omega) (by have := hn1 h; omega); omega
      have hq4 : i < l.length → s.hi.tdiv (gi l i) ≤ 2000000000 := fun h => by
        have := Int.tdiv_le_self (a := s.hi) (gi l i) (by omega); omega
      have hf : ∀ h : i < l.length, setF (fun k => if k < i then spanAt s l k else (100001, -1)) i (spanAt s l i) = fun k => if k < i + 1 then spanAt s l k else (100001, -1) := fun h => by
        funext k
        simp only [setF]
        by_cases hk : k = i
        · subst hk; simp
        · by_cases hk2 : k < i
          · simp [hk, hk2, show k < i + 1 by omega]
          · simp [hk, hk2, show ¬ k < i + 1 by omega]
      have hp1 : (i < l.length ∧ max s.short ((s.lo + gi l i - 1).tdiv (gi l i) + s.off) ≤ min s.long (s.hi.tdiv (gi l i) - s.off)) →
          putCells [.ro (ints l), .rw s.cells, .rw (rackC s (.slice (some ⟨0, 0, none⟩) l.length c) (fun k => if k < i then spanAt s l k else (100001, -1)) fun _ => 0),
            .rw [.int .i64 (max s.short ((s.lo + gi l i - 1).tdiv (gi l i) + s.off)), .int .i64 (min s.long (s.hi.tdiv (gi l i) - s.off))]] 2 (6 + i * 2)
            [.int .i64 (max s.short ((s.lo + gi l i - 1).tdiv (gi l i) + s.off)), .int .i64 (min s.long (s.hi.tdiv (gi l i) - s.off))] =
          some [.ro (ints l), .rw s.cells, .rw (rackC s (.slice (some ⟨0, 0, none⟩) l.length c) (fun k => if k < i + 1 then spanAt s l k else (100001, -1)) fun _ => 0),
            .rw [.int .i64 (max s.short ((s.lo + gi l i - 1).tdiv (gi l i) + s.off)), .int .i64 (min s.long (s.hi.tdiv (gi l i) - s.off))]] := fun ⟨h, hb⟩ => by
        refine putRw rfl (by rw [rack_len]; simp; omega) (by rw [rack_len]; omega) ?_
        rw [rack_set (by omega), ← hf h]
        have : spanAt s l i = (max s.short ((s.lo + gi l i - 1).tdiv (gi l i) + s.off), min s.long (s.hi.tdiv (gi l i) - s.off)) := by
          simp only [spanAt, if_pos h, spanR, span]
          exact if_pos hb
        rw [this]
      have hcl : ∀ i, HClosed 3 [.ro (ints l), .rw s.cells, .rw (rackC s (.slice (some ⟨0, 0, none⟩) l.length c) (fun k => if k < i then spanAt s l k else (100001, -1)) fun _ => 0)] := fun i =>
        ⟨plainL_closed (ints_plain l), plainL_closed (cells_plain s), rack_closed (tv := .slice (some ⟨0, 0, none⟩) l.length c) (slice_closed (by omega)).1 (slice_closed (n := 3) (i := 0) (by omega)).2, trivial⟩
      repeat' (first | (refine gU ?_; first | (refine gMove ?_; first | refine st (ok_move rfl) rfl rfl ?_) | (refine gAssign ?_; first | refine st (ok_assign rfl) rfl rfl ?_) | (refine gFA ?_; first | refine st (ok_fieldAddr rfl) rfl rfl ?_) | (refine gLoad ?_; first | refine st (ok_load rfl (by first | rfl | assumption | exact hc1 (by omega) | exact hc2 (by omega) | exact hc3 (by omega) | exact hc4 (by omega))) rfl rfl ?_ | refine st (ok_loadA rfl (by first | rfl | assumption | exact hc1 (by omega) | exact hc2 (by omega) | exact hc3 (by omega) | exact hc4 (by omega))) rfl rfl ?_) | (refine gAdd ?_; first | refine st (ok_inc rfl rfl (by omega)) rfl rfl ?_ | refine st (ok_add rfl rfl (by omega) (by omega)) rfl rfl ?_ | refine st (ok_bin rfl rfl rfl) rfl rfl ?_) | (refine gSub ?_; first | refine st (ok_sub rfl rfl (by omega) (by omega)) rfl rfl ?_ | refine st (ok_bin rfl rfl rfl) rfl rfl ?_) | (refine gBin ?_; first | refine st (ok_bin rfl rfl rfl) rfl rfl ?_ | refine st (ok_quo64 rfl rfl (by omega) (by first | assumption | omega | exact hq1 (by omega) | exact hq2 (by omega) | exact hq3 (by omega) | exact hq4 (by omega)) (by first | assumption | omega | exact hq1 (by omega) | exact hq2 (by omega) | exact hq3 (by omega) | exact hq4 (by omega))) rfl rfl ?_ | refine st (ok_quo rfl rfl (by omega)) rfl rfl ?_) | (refine gLen ?_; first | refine st (ok_len rfl) rfl rfl ?_ | refine st (ok_lenV rfl) rfl rfl ?_) | (refine gNil ?_; first | refine st (ok_nilP rfl) rfl rfl ?_ | refine st (ok_nilF rfl) rfl rfl ?_) | (refine gIA ?_; first | refine st (ok_idxN rfl rfl (by omega)) rfl rfl ?_ | refine st (ok_idxSN rfl rfl (by omega)) rfl rfl ?_ | refine st (ok_idxAN rfl rfl (by omega)) rfl rfl ?_ | refine st (ok_idx rfl rfl (by omega) (by omega)) rfl rfl ?_ | refine st (ok_idxG rfl rfl (by omega) (by omega)) rfl rfl ?_ | refine st (ok_idxA rfl rfl (by omega) (by omega)) rfl rfl ?_) | (refine gMax ?_; first | refine st (ok_max rfl rfl) rfl rfl ?_) | (refine gMin ?_; first | refine st (ok_min rfl rfl) rfl rfl ?_) | (refine gBuild ?_; first | refine st (ok_build (by rfl) rfl (by rfl)) rfl rfl ?_ | refine st (ok_buildA (by rfl)) rfl rfl ?_) | (refine gCall ?_; first | refine st (ok_call rfl rfl rfl (by first | exact Ev.nil nowhere_ok rfl rfl rfl)) rfl rfl ?_) | (refine gBox ?_; first | refine st (ok_box rfl) rfl rfl ?_) | (refine gAlloc ?_; first | refine st (ok_alloc rfl) rfl rfl ?_) | (refine gStore ?_; refine stN (ok_store rfl rfl rfl rfl (by first | rfl | assumption | exact hp1 (by omega) | exact hp2 (by omega))) rfl ?_)) | (refine fU ?_; first | (refine fMove ?_; first | refine fr (ok_move rfl) (by first | rfl | exact closed_slice rfl | exact closed_slvV rfl) rfl ?_) | (refine fFA ?_; first | refine fr (ok_fieldAddr rfl) (by first | rfl | exact closed_slice rfl | exact closed_slvV rfl) rfl ?_) | (refine fLoad ?_; first | refine fr (ok_load rfl (by first | rfl | assumption | exact hc1 (by omega) | exact hc2 (by omega) | exact hc3 (by omega) | exact hc4 (by omega))) (by first | rfl | exact closed_slice rfl | exact closed_slvV rfl) rfl ?_ | refine fr (ok_loadA rfl (by first | rfl | assumption | exact hc1 (by omega) | exact hc2 (by omega) | exact hc3 (by omega) | exact hc4 (by omega))) (by first | rfl | exact closed_slice rfl | exact closed_slvV rfl) rfl ?_) | (refine fAdd ?_; first | refine fr (ok_inc rfl rfl (by omega)) (by first | rfl | exact closed_slice rfl | exact closed_slvV rfl) rfl ?_ | refine fr (ok_add rfl rfl (by omega) (by omega)) (by first | rfl | exact closed_slice rfl | exact closed_slvV rfl) rfl ?_ | refine fr (ok_bin rfl rfl rfl) (by first | rfl | exact closed_slice rfl | exact closed_slvV rfl) rfl ?_) | (refine fSub ?_; first | refine fr (ok_sub rfl rfl (by omega) (by omega)) (by first | rfl | exact closed_slice rfl | exact closed_slvV rfl) rfl ?_ | refine fr (ok_bin rfl rfl rfl) (by first | rfl | exact closed_slice rfl | exact closed_slvV rfl) rfl ?_) | (refine fBin ?_; first | refine fr (ok_quo64 rfl rfl (by omega) (by first | assumption | omega | exact hq1 (by omega) | exact hq2 (by omega) | exact hq3 (by omega) | exact hq4 (by omega)) (by first | assumption | omega | exact hq1 (by omega) | exact hq2 (by omega) | exact hq3 (by omega) | exact hq4 (by omega))) (by first | rfl | exact closed_slice rfl | exact closed_slvV rfl) rfl ?_ | refine fr (ok_quo rfl rfl (by omega)) (by first | rfl | exact closed_slice rfl | exact closed_slvV rfl) rfl ?_) | (refine fNil ?_; first | refine fr (ok_nilP rfl) (by first | rfl | exact closed_slice rfl | exact closed_slvV rfl) rfl ?_ | refine fr (ok_nilF rfl) (by first | rfl | exact closed_slice rfl | exact closed_slvV rfl) rfl ?_) | (refine fIA ?_; first | refine fr (ok_idxN rfl rfl (by omega)) (by first | rfl | exact closed_slice rfl | exact closed_slvV rfl) rfl ?_ | refine fr (ok_idxSN rfl rfl (by omega)) (by first | rfl | exact closed_slice rfl | exact closed_slvV rfl) rfl ?_ | refine fr (ok_idxAN rfl rfl (by omega)) (by first | rfl | exact closed_slice rfl | exact closed_slvV rfl) rfl ?_ | refine fr (ok_idx rfl rfl (by omega) (by omega)) (by first | rfl | exact closed_slice rfl | exact closed_slvV rfl) rfl ?_ | refine fr (ok_idxG rfl rfl (by omega) (by omega)) (by first | rfl | exact closed_slice rfl | exact closed_slvV rfl) rfl ?_ | refine fr (ok_idxA rfl rfl (by omega) (by omega)) (by first | rfl | exact closed_slice rfl | exact closed_slvV rfl) rfl ?_) | (refine fMax ?_; first | refine fr (ok_max rfl rfl) (by first | rfl | exact closed_slice rfl | exact closed_slvV rfl) rfl ?_) | (refine fMin ?_; first | refine fr (ok_min rfl rfl) (by first | rfl | exact closed_slice rfl | exact closed_slvV rfl) rfl ?_) | (refine fBuild ?_; first | refine fr (ok_build (by rfl) rfl (by rfl)) (by first | rfl | exact closed_slice rfl | exact closed_slvV rfl) rfl ?_ | refine fr (ok_buildA (by rfl)) (by first | rfl | exact closed_slice rfl | exact closed_slvV rfl) rfl ?_) | (refine fCall ?_; first | refine fr (ok_call rfl rfl rfl (by first | exact Ev.nil nowhere_ok rfl rfl rfl)) (by first | rfl | exact closed_slice rfl | exact closed_slvV rfl) rfl ?_) | (refine fAlloc ?_; first | refine fr1 (ok_alloc rfl) rfl rfl rfl ?_)) | (refine fr_stop ⟨by kernel_rfl, ?_⟩) | refine W_seq ?_ | refine W_region ?_ | refine W_regionD (by kernel_rfl) rfl ?_ | refine st_nil ?_ | refine tq_n ?_ | refine tq_r ?_ | refine tq_e ?_ | refine bq_n ?_ | refine bq_r ?_ | refine bq_hit rfl ?_ | refine bq_miss rfl ?_ | refine W_skip ?_ | refine W_exit ?_ | refine W_ret ?_ | refine W_block ?_ | refine W_condT rfl (by first | rfl | exact dtrue (by assumption) | exact dfalse (by assumption) | assumption | exact dtrue (by omega) | exact dfalse (by omega)) ?_ | refine W_condF rfl (by first | rfl | exact dtrue (by assumption) | exact dfalse (by assumption) | assumption | exact dtrue (by omega) | exact dfalse (by omega)) ?_ | (refine W_condD rfl ?_ ?_ <;> intro _) | (refine W_cond rfl ?_ ?_ <;> intro _))
      · exact ⟨rfl, i + 1, by omega, by omega, .drop _ [_] (Nat.le_of_ble_eq_true rfl) (hcl _) ⟨⟨rfl, rfl, rfl⟩, ⟨rfl, rfl, rfl⟩, ⟨rfl, slice_closed (Nat.blt_eq.mp rfl)⟩, ⟨rfl, rfl, rfl⟩, ⟨rfl, rfl, rfl⟩, trivial⟩⟩
      · rename_i hlt hb
        have hlt' : i < l.length := by omega
        have hsp : spanAt s l i = (100001, -1) := by
          simp only [spanAt, if_pos hlt', spanR, span]
          exact if_neg hb
        have hff : (fun k => if k < i + 1 then spanAt s l k else ((100001, -1) : Int × Int)) = fun k => if k < i then spanAt s l k else (100001, -1) := by
          rw [← hf hlt', hsp]
          funext k
          simp only [setF]
          by_cases hk : k = i <;> simp [hk]
        refine ⟨rfl, i + 1, by omega, by omega, ?_⟩
        rw [hff]
        exact .drop _ [_] (Nat.le_of_ble_eq_true rfl) (hcl _) ⟨⟨rfl, rfl, rfl⟩, ⟨rfl, rfl, rfl⟩, ⟨rfl, slice_closed (Nat.blt_eq.mp rfl)⟩, ⟨rfl, rfl, rfl⟩, ⟨rfl, rfl, rfl⟩, trivial⟩
      · obtain rfl : i = l.length := by omega
        have hff : (fun k => if k < l.length then spanAt s l k else ((100001, -1) : Int × Int)) = spanAt s l := by
          funext k
          by_cases hk : k < l.length <;> simp [hk, spanAt]
        rw [hff]
        refine ret0 (.tmp rfl .nil) (.src [_] [2] rfl rfl rfl ⟨osub_rwc (m := 1) rfl (.inl rfl) (fun i hi => srcR_lt hi) (Nat.le_of_ble_eq_true rfl) (rack_closed (n := 1) (tv := .slice (some ⟨0, 0, none⟩) l.length c) (slice_closed (by omega)).1 (slice_closed (n := 1) (i := 0) (by omega)).2).1 (rack_closed (n := 1) (tv := .slice (some ⟨0, 0, none⟩) l.length c) (slice_closed (by omega)).1 (slice_closed (n := 1) (i := 0) (by omega)).2).2, trivial⟩ ?_) ⟨rfl, rfl⟩
        have := VQ.ptr (q := true) (n := 2) (ρ := srcR 1 [2]) 1 0 (by omega)
        exact this
end Go.Proofs.Ytgfnogdecggkkaa
namespace Go.AH
open Go
theorem renL_app (r : Rho) (a b : List Value) : renL r (a ++ b) = renL r a ++ renL r b := by simp [renL_eq]
theorem renL_pl {r : Rho} {l : List Value} (h : plainL l = true) : renL r l = l := by first | exact renL_plain l h | exact renL_plain h | simp [renL_plain, h]
theorem rack_ren {r : Rho} {s : St} {tv : Value} {f : Nat → Int × Int} {g : Nat → Int} : renL r (rackC s tv f g) = rackC s (ren r tv) f g := by
  simp only [rackC, renL_app, renL_pl (cells_plain s), renL_pl (spans_plain f), renL_pl (out_plain g)]
  rfl
end Go.AH
namespace Go.Proofs.Ytgfnogdecggkkaa
open Go Go.AH
attribute [local irreducible] WOps WCode WFree retQ thenQ blockQ OpOk ACall RetRef roundA roundB
set_option maxRecDepth 100000
set_option maxHeartbeats 1000000
theorem newRack_ev {σ : Heap} {s : St} {l : List Int} {x c : Nat} (hx : arrAt σ x (ints l)) (h12 : l.length ≤ 12) (hs : ¬ badStone s) (ht : badTurns l = false) (hni : σ.all (fun o => !isIter o) = true) :
    Ev Try.prog 68 [s.val, .slice (some ⟨x, 0, none⟩) l.length c] σ (.pointer (some ⟨σ.length, 0, none⟩)) (σ ++ [.rw (rackC s (.slice (some ⟨x, 0, none⟩) l.length c) (spanAt s l) fun _ => 0)]) := by
  refine Ev.arrsN [ints l] [x] (newRack_ok s l c h12 hs ht) ⟨hx, trivial⟩ ⟨vrel_plain _ rfl, by simpa [bsR] using VQ.slice (q := true) (n := 1) (ρ := bsR [x]) 0 0 l.length c c (Nat.le_refl _) (by omega), trivial⟩ (by simp [ints_plain]) rfl ?_ ?_ hni
  · simp [ren, shf]
  · simp only [List.map_cons, List.map_nil, renO, rack_ren]
    simp [ren, shf, bsR]
end Go.Proofs.Ytgfnogdecggkkaa
namespace Go.Proofs.Ytgfnogdecggkkaa
open Go Go.AH
attribute [local irreducible] WOps WCode WFree retQ thenQ blockQ OpOk ACall RetRef roundA roundB
set_option maxRecDepth 100000
set_option maxHeartbeats 1000000
theorem checkS_zero {s : St} {l : List Int} (h : checkS s l = 0) : l.length ≤ 12 ∧ 1 ≤ l.length ∧ ¬ badStone s ∧ badTurns l = false := by
  unfold checkS at h
  split at h
  · omega
  · split at h
    · omega
    · split at h
      · omega
      · rename_i h1 h2 h3
        exact ⟨by omega, by omega, h2, by simpa using h3⟩
theorem open_bad (s : St) (l : List Int) (c : Nat) (hN : l.length ≤ 1000000) (hr : -9223372036854775808 ≤ s.short ∧ s.short ≤ 9223372036854775807) (h : checkS s l ≠ 0) :
    Ev Try.prog 49 [s.val, .slice (some ⟨0, 0, none⟩) l.length c] [.ro (ints l)] (.tuple #[.pointer none, .int .i64 (checkS s l)]) [.ro (ints l)] := by
  refine acall_intro 1 16 Try.func49 rfl rfl rfl rfl rfl ?_
  repeat' (first | (refine gU ?_; first | (refine gMove ?_; first | refine st (ok_move rfl) rfl rfl ?_) | (refine gAssign ?_; first | refine st (ok_assign rfl) rfl rfl ?_) | (refine gLoad ?_; first | refine st (ok_load rfl (by first | rfl | assumption | exact hc1 (by omega) | exact hc2 (by omega) | exact hc3 (by omega) | exact hc4 (by omega))) rfl rfl ?_ | refine st (ok_loadA rfl (by first | rfl | assumption | exact hc1 (by omega) | exact hc2 (by omega) | exact hc3 (by omega) | exact hc4 (by omega))) rfl rfl ?_) | (refine gBin ?_; first | refine st (ok_bin rfl rfl rfl) rfl rfl ?_ | refine st (ok_neq2 rfl rfl) rfl rfl ?_) | (refine gCall ?_; first | refine st (ok_call rfl rfl rfl (by first | exact rimCheckStone_ev (by first | exact .inl rfl | exact .inr (.inl rfl) | exact .inr (.inr ⟨_, rfl⟩) | assumption) (by assumption) (by assumption) rfl | exact newRack_ev (by first | exact .inl rfl | exact .inr (.inl rfl) | exact .inr (.inr ⟨_, rfl⟩) | assumption) (by assumption) (by assumption) (by assumption) rfl)) rfl rfl ?_) | (refine gBox ?_; first | refine st (ok_box rfl) rfl rfl ?_)) | refine W_seq ?_ | refine W_region ?_ | refine st_nil ?_ | refine tq_n ?_ | refine tq_r ?_ | refine tq_e ?_ | refine bq_n ?_ | refine bq_r ?_ | refine bq_hit rfl ?_ | refine bq_miss rfl ?_ | refine W_skip ?_ | refine W_exit ?_ | refine W_ret ?_ | refine W_block ?_ | refine W_condT rfl (by first | rfl | exact dtrue (by assumption) | exact dfalse (by assumption) | assumption | exact dtrue (by omega) | exact dfalse (by omega)) ?_ | refine W_condF rfl (by first | rfl | exact dtrue (by assumption) | exact dfalse (by assumption) | assumption | exact dtrue (by omega) | exact dfalse (by omega)) ?_ | (refine W_condD rfl ?_ ?_ <;> intro _) | (refine W_cond rfl ?_ ?_ <;> intro _))
  refine ret0 (.tmp rfl (.tmp rfl .nil)) (.plain rfl rfl) ⟨rfl, rfl⟩
theorem open_ok (s : St) (l : List Int) (c : Nat) (hr : -9223372036854775808 ≤ s.short ∧ s.short ≤ 9223372036854775807) (h : checkS s l = 0) :
    Ev Try.prog 49 [s.val, .slice (some ⟨0, 0, none⟩) l.length c] [.ro (ints l)] (.tuple #[.pointer (some ⟨1, 0, none⟩), .int .i64 0]) [.ro (ints l), .rw (rackC s (.slice (some ⟨0, 0, none⟩) l.length c) (spanAt s l) fun _ => 0)] := by
  obtain ⟨h12, h1, hs, ht⟩ := checkS_zero h
  have hN : l.length ≤ 1000000 := by omega
  refine acall_intro 1 16 Try.func49 rfl rfl rfl rfl rfl ?_
  repeat' (first | (refine gU ?_; first | (refine gMove ?_; first | refine st (ok_move rfl) rfl rfl ?_) | (refine gAssign ?_; first | refine st (ok_assign rfl) rfl rfl ?_) | (refine gLoad ?_; first | refine st (ok_load rfl (by first | rfl | assumption | exact hc1 (by omega) | exact hc2 (by omega) | exact hc3 (by omega) | exact hc4 (by omega))) rfl rfl ?_ | refine st (ok_loadA rfl (by first | rfl | assumption | exact hc1 (by omega) | exact hc2 (by omega) | exact hc3 (by omega) | exact hc4 (by omega))) rfl rfl ?_) | (refine gBin ?_; first | refine st (ok_bin rfl rfl rfl) rfl rfl ?_ | refine st (ok_neq2 rfl rfl) rfl rfl ?_) | (refine gCall ?_; first | refine st (ok_call rfl rfl rfl (by first | exact rimCheckStone_ev (by first | exact .inl rfl | exact .inr (.inl rfl) | exact .inr (.inr ⟨_, rfl⟩) | assumption) (by assumption) (by assumption) rfl | exact newRack_ev (by first | exact .inl rfl | exact .inr (.inl rfl) | exact .inr (.inr ⟨_, rfl⟩) | assumption) (by assumption) (by assumption) (by assumption) rfl)) rfl rfl ?_) | (refine gBox ?_; first | refine st (ok_box rfl) rfl rfl ?_)) | refine W_seq ?_ | refine W_region ?_ | refine st_nil ?_ | refine tq_n ?_ | refine tq_r ?_ | refine tq_e ?_ | refine bq_n ?_ | refine bq_r ?_ | refine bq_hit rfl ?_ | refine bq_miss rfl ?_ | refine W_skip ?_ | refine W_exit ?_ | refine W_ret ?_ | refine W_block ?_ | refine W_condT rfl (by first | rfl | exact dtrue (by assumption) | exact dfalse (by assumption) | assumption | exact dtrue (by omega) | exact dfalse (by omega)) ?_ | refine W_condF rfl (by first | rfl | exact dtrue (by assumption) | exact dfalse (by assumption) | assumption | exact dtrue (by omega) | exact dfalse (by omega)) ?_ | (refine W_condD rfl ?_ ?_ <;> intro _) | (refine W_cond rfl ?_ ?_ <;> intro _))
  refine ret0 (.tmp rfl (.tmp rfl .nil)) (.src [_] [2] rfl rfl rfl ⟨osub_rwc (m := 1) rfl (.inl rfl) (fun i hi => srcR_lt hi) (Nat.le_of_ble_eq_true rfl) (rack_closed (n := 1) (tv := .slice (some ⟨0, 0, none⟩) l.length c) (slice_closed (by omega)).1 (slice_closed (n := 1) (i := 0) (by omega)).2).1 (rack_closed (n := 1) (tv := .slice (some ⟨0, 0, none⟩) l.length c) (slice_closed (by omega)).1 (slice_closed (n := 1) (i := 0) (by omega)).2).2, trivial⟩ ?_) ⟨rfl, rfl⟩
  refine .tuple _ _ rfl fun i hi _ => ?_
  match i, hi with
  | 0, _ => exact VQ.ptr (q := true) (n := 2) (ρ := srcR 1 [2]) 1 0 (by omega)
  | 1, _ => exact .int _ _
end Go.Proofs.Ytgfnogdecggkkaa
namespace Go.Proofs.Ytgfnogdecggkkaa
open Go Go.AH
attribute [local irreducible] WOps WCode WFree retQ thenQ blockQ OpOk ACall RetRef roundA roundB
set_option maxRecDepth 100000
set_option maxHeartbeats 1000000
def rkV (l : List Int) (t c : Nat) : Value := .slice (some ⟨t, 0, none⟩) l.length c
theorem at1_ok (s : St) (l : List Int) (c : Nat) (f : Nat → Int × Int) (g : Nat → Int) (i : Nat) (hi : i < 12) :
    Ev Try.prog 76 [.int .i64 (i : Int), .pointer (some ⟨2, 0, none⟩)] [.ro (ints l), .ro (rackC s (rkV l 0 c) f g), .ro [.pointer (some ⟨1, 0, none⟩)]] (.int .i64 (f i).1)
      [.ro (ints l), .ro (rackC s (rkV l 0 c) f g), .ro [.pointer (some ⟨1, 0, none⟩)]] := by
  refine acall_intro 3 11 Try.func76 rfl rfl rfl rfl rfl ?_
  have hc1 : i < 12 → cellGet [.ro (ints l), .ro (rackC s (rkV l 0 c) f g), .ro [.pointer (some ⟨1, 0, none⟩)]] 1 (6 + i * 2) = some (.int .i64 (f i).1) := fun h => rack_lo h
  repeat' (first | (refine gU ?_; first | (refine gMove ?_; first | refine st (ok_move rfl) rfl rfl ?_) | (refine gAssign ?_; first | refine st (ok_assign rfl) rfl rfl ?_) | (refine gFA ?_; first | refine st (ok_fieldAddr rfl) rfl rfl ?_) | (refine gLoad ?_; first | refine st (ok_load rfl (by first | rfl | assumption | exact hc1 (by omega) | exact hc2 (by omega) | exact hc3 (by omega) | exact hc4 (by omega))) rfl rfl ?_ | refine st (ok_loadA rfl (by first | rfl | assumption | exact hc1 (by omega) | exact hc2 (by omega) | exact hc3 (by omega) | exact hc4 (by omega))) rfl rfl ?_) | (refine gNil ?_; first | refine st (ok_nilP rfl) rfl rfl ?_ | refine st (ok_nilF rfl) rfl rfl ?_) | (refine gIA ?_; first | refine st (ok_idxN rfl rfl (by omega)) rfl rfl ?_ | refine st (ok_idxSN rfl rfl (by omega)) rfl rfl ?_ | refine st (ok_idxAN rfl rfl (by omega)) rfl rfl ?_ | refine st (ok_idx rfl rfl (by omega) (by omega)) rfl rfl ?_ | refine st (ok_idxG rfl rfl (by omega) (by omega)) rfl rfl ?_ | refine st (ok_idxA rfl rfl (by omega) (by omega)) rfl rfl ?_)) | refine W_seq ?_ | refine W_region ?_ | refine st_nil ?_ | refine tq_n ?_ | refine tq_r ?_ | refine tq_e ?_ | refine bq_n ?_ | refine bq_r ?_ | refine bq_hit rfl ?_ | refine bq_miss rfl ?_ | refine W_skip ?_ | refine W_exit ?_ | refine W_ret ?_ | refine W_block ?_ | refine W_condT rfl (by first | rfl | exact dtrue (by assumption) | exact dfalse (by assumption) | assumption | exact dtrue (by omega) | exact dfalse (by omega)) ?_ | refine W_condF rfl (by first | rfl | exact dtrue (by assumption) | exact dfalse (by assumption) | assumption | exact dtrue (by omega) | exact dfalse (by omega)) ?_ | (refine W_condD rfl ?_ ?_ <;> intro _) | (refine W_cond rfl ?_ ?_ <;> intro _))
  refine ret0 (.tmp rfl .nil) (.plain rfl rfl) ⟨?_, rfl⟩
  rfl
end Go.Proofs.Ytgfnogdecggkkaa
namespace Go.AH
open Go
def gn (l : List Nat) (i : Nat) : Nat := l.getD i 0
def nats (l : List Nat) : List Value := l.map fun (i : Nat) => Value.int .i64 (Int.ofNat i)
theorem nats_get {l : List Nat} {i : Nat} (h : i < l.length) : (nats l)[i]? = some (.int .i64 (gn l i : Int)) := by simp [nats, gn, h]
theorem nats_plain (l : List Nat) : plainL (nats l) = true := plainL_map _ (fun _ => rfl) l
def leastIx (key : Nat → Int) (l : List Nat) : Nat → Int
  | 0 => -1
  | n + 1 => if leastIx key l n < 0 ∨ key (gn l n) < key (gn l (leastIx key l n).toNat) then (n : Int) else leastIx key l n
theorem leastIx_lt (key : Nat → Int) (l : List Nat) : ∀ n : Nat, -1 ≤ leastIx key l n ∧ leastIx key l n < n
  | 0 => by simp [leastIx]
  | n + 1 => by
    have := leastIx_lt key l n
    simp only [leastIx]
    split <;> omega
theorem leastIx_nn (key : Nat → Int) (l : List Nat) {n : Nat} (h : 0 < n) : 0 ≤ leastIx key l n := by
  obtain ⟨n, rfl⟩ : ∃ k, n = k + 1 := ⟨n - 1, by omega⟩
  simp only [leastIx]
  split <;> omega
end Go.AH
namespace Go.Proofs.Ytgfnogdecggkkaa
open Go Go.AH
attribute [local irreducible] WOps WCode WFree retQ thenQ blockQ OpOk ACall RetRef roundA roundB
set_option maxRecDepth 100000
set_option maxHeartbeats 1000000
theorem CellsSub.app {n : Nat} {π : Rho} {a a' b b' : List Value} (h1 : CellsSub n π a a') (h2 : CellsSub n π b b') : CellsSub n π (a ++ b) (a' ++ b') := by
  refine ⟨by simp [h1.1, h2.1], fun j h h' => ?_⟩
  by_cases hj : j < a.length
  · rw [List.getElem_append_left hj, List.getElem_append_left (by have := h1.1; omega)]; exact h1.2 j hj _
  · simp only [List.length_append] at h h'
    have := h1.1
    rw [List.getElem_append_right (by omega), List.getElem_append_right (by omega)]
    have := h2.2 (j - a.length) (by omega) (by omega)
    simpa [h1.1] using this
theorem CellsSub.plain {n : Nat} {π : Rho} {a : List Value} (h : plainL a = true) : CellsSub n π a a := ⟨rfl, fun j hj _ => vrel_plainL a h j hj⟩
theorem CellsSub.one {n : Nat} {π : Rho} {v v' : Value} (h : VSub n π v v') : CellsSub n π [v] [v'] := by
  refine ⟨rfl, fun j hj _ => ?_⟩
  have : j = 0 := by simpa using hj
  subst this; exact h
theorem rack_sub {n : Nat} {π : Rho} {s : St} {tv tv' : Value} {f : Nat → Int × Int} {g : Nat → Int} (h : VSub n π tv tv') : CellsSub n π (rackC s tv f g) (rackC s tv' f g) :=
  CellsSub.app (CellsSub.app (CellsSub.app (CellsSub.plain (cells_plain s)) (CellsSub.one h)) (CellsSub.plain (spans_plain f))) (CellsSub.plain (out_plain g))
theorem at1_ev {σ : Heap} {s : St} {l : List Int} {c : Nat} {f : Nat → Int × Int} {g : Nat → Int} {i t r x : Nat} (hi : i < 12) (ht : arrAt σ t (ints l)) (hr : arrAt σ r (rackC s (rkV l t c) f g)) (hx : arrAt σ x [.pointer (some ⟨r, 0, none⟩)])
    (hni : σ.all (fun o => !isIter o) = true) : Ev Try.prog 76 [.int .i64 (i : Int), .pointer (some ⟨x, 0, none⟩)] σ (.int .i64 (f i).1) σ := by
  exact Ev.arrsP [ints l, rackC s (rkV l 0 c) f g, [.pointer (some ⟨1, 0, none⟩)]] [(t, ints l), (r, rackC s (rkV l t c) f g), (x, [.pointer (some ⟨r, 0, none⟩)])] (at1_ok s l c f g i hi)
    ⟨⟨ht, CellsSub.plain (ints_plain l)⟩, ⟨hr, rack_sub (by simpa [bsR, rkV] using VQ.slice (q := true) (n := 3) (ρ := bsR [t, r, x]) 0 0 l.length c c (Nat.le_refl _) (by omega))⟩, ⟨hx, CellsSub.one (by simpa [bsR] using VQ.ptr (q := true) (n := 3) (ρ := bsR [t, r, x]) 1 0 (by omega))⟩, trivial⟩
    ⟨.int _ _, by simpa [bsR] using VQ.ptr (q := true) (n := 3) (ρ := bsR [t, r, x]) 2 0 (by omega), trivial⟩ rfl hni
end Go.Proofs.Ytgfnogdecggkkaa
namespace Go.AH
open Go
abbrev nw : Int × Int := (100001, -1)
def Cov (f : Nat → Int × Int) (n : Nat) (x : Int) : Prop := ∃ i < n, (f i).1 ≤ x ∧ x ≤ (f i).2
def GapIs (f : Nat → Int × Int) (n : Nat) (short long r : Int) : Prop :=
  (r = -1 ∧ ∀ x, short ≤ x → x ≤ long → Cov f n x) ∨ (short ≤ r ∧ r ≤ long ∧ ¬ Cov f n r ∧ ∀ x, r < x → x ≤ long → Cov f n x)
theorem GapIs.uniq {f : Nat → Int × Int} {n : Nat} {short long r r' : Int} (_hs : 0 ≤ short) (h : GapIs f n short long r) (h' : GapIs f n short long r') : r = r' := by
  rcases h with ⟨rfl, h⟩ | ⟨h1, h2, h3, h4⟩ <;> rcases h' with ⟨rfl, h'⟩ | ⟨g1, g2, g3, g4⟩
  · rfl
  · exact absurd (h _ g1 g2) g3
  · exact absurd (h' _ h1 h2) h3
  · rcases Int.lt_trichotomy r r' with hl | hl | hl
    · exact absurd (h4 _ hl g2) g3
    · exact hl
    · exact absurd (g4 _ hl h2) h3
def covB (f : Nat → Int × Int) (n : Nat) (x : Int) : Bool := (List.range n).any fun i => decide ((f i).1 ≤ x) && decide (x ≤ (f i).2)
theorem covB_iff {f : Nat → Int × Int} {n : Nat} {x : Int} : covB f n x = true ↔ Cov f n x := by simp [covB, Cov]
def loAt (f : Nat → Int × Int) (x : Int) : Nat → Int
  | 0 => x + 1
  | n + 1 => if (f n).1 ≤ x ∧ x ≤ (f n).2 then min (loAt f x n) (f n).1 else loAt f x n
theorem loAt_le {f : Nat → Int × Int} {x : Int} : ∀ {n : Nat}, loAt f x n ≤ x + 1 ∧ (∀ i < n, (f i).1 ≤ x → x ≤ (f i).2 → loAt f x n ≤ (f i).1) ∧ (loAt f x n = x + 1 ∨ ∃ i < n, (f i).1 = loAt f x n ∧ (f i).1 ≤ x ∧ x ≤ (f i).2)
  | 0 => ⟨Int.le_refl _, fun i h => by omega, .inl rfl⟩
  | n + 1 => by
    obtain ⟨h1, h2, h3⟩ := loAt_le (f := f) (x := x) (n := n)
    simp only [loAt]
    split
    · rename_i h
      refine ⟨by omega, fun i hi a b => ?_, ?_⟩
      · by_cases hin : i = n
        · subst hin; omega
        · have := h2 i (by omega) a b; omega
      · rcases h3 with h3 | ⟨i, hi, h3, h4⟩
        · exact .inr ⟨n, by omega, by omega, h⟩
        · by_cases hc : loAt f x n ≤ (f n).1
          · exact .inr ⟨i, by omega, by omega, h4⟩
          · exact .inr ⟨n, by omega, by omega, h⟩
    · rename_i h
      refine ⟨h1, fun i hi a b => ?_, ?_⟩
      · by_cases hin : i = n
        · subst hin; exact absurd ⟨a, b⟩ h
        · exact h2 i (by omega) a b
      · rcases h3 with h3 | ⟨i, hi, h3⟩
        · exact .inl h3
        · exact .inr ⟨i, by omega, h3⟩
def gapGo (f : Nat → Int × Int) (n : Nat) (short : Int) : Nat → Int → Int
  | 0, _ => -1
  | k + 1, x => if x < short then -1 else if covB f n x = true then gapGo f n short k (loAt f x n - 1) else x
def gapS (f : Nat → Int × Int) (n : Nat) (short long : Int) : Int := gapGo f n short (long - short + 1).toNat long
theorem gapGo_is {f : Nat → Int × Int} {n : Nat} {short long : Int} : ∀ (k : Nat) (x : Int), x ≤ long → x < short + k → (∀ y, x < y → y ≤ long → Cov f n y) → GapIs f n short long (gapGo f n short k x)
  | 0, x, hx, hk, h => .inl ⟨rfl, fun y h1 h2 => h y (by omega) h2⟩
  | k + 1, x, hx, hk, h => by
    simp only [gapGo]
    split
    · exact .inl ⟨rfl, fun y h1 h2 => h y (by omega) h2⟩
    · split
      · rename_i h1 h2
        obtain ⟨a1, a2, a3⟩ := loAt_le (f := f) (x := x) (n := n)
        obtain ⟨i, hi, c1, c2⟩ := covB_iff.1 h2
        have hle := a2 i hi c1 c2
        refine gapGo_is k _ (by omega) (by omega) fun y hy hyl => ?_
        by_cases hyx : x < y
        · exact h y hyx hyl
        · rcases a3 with a3 | ⟨j, hj, b1, b2, b3⟩
          · omega
          · exact ⟨j, hj, by omega, by omega⟩
      · rename_i h1 h2
        exact .inr ⟨by omega, hx, fun hc => h2 (covB_iff.2 hc), h⟩
theorem gapS_is {f : Nat → Int × Int} {n : Nat} {short long : Int} (h : short ≤ long) : GapIs f n short long (gapS f n short long) :=
  gapGo_is _ _ (Int.le_refl _) (by omega) fun y h1 h2 => by omega
def keys (l : KMap) : List (Int × Int) := l.map (·.1)
theorem keys_up (l : KMap) (k : Int × Int) (v : Value) : keys (mapUp l k v) = if k ∈ keys l then keys l else keys l ++ [k] := by
  unfold mapUp
  cases hf : (l.map (·.1)).findIdx? (fun q => decide (k = q)) with
  | none =>
    have : k ∉ keys l := fun hk => by
      rw [List.findIdx?_eq_none_iff] at hf
      have := hf k hk
      simp at this
    rw [if_neg this]; simp [keys]
  | some j =>
    obtain ⟨h1, h2, h3⟩ := List.findIdx?_eq_some_iff_getElem.1 hf
    have hk : k = (keys l)[j] := of_decide_eq_true h2
    have : k ∈ keys l := by rw [hk]; exact List.getElem_mem h1
    rw [if_pos this]
    simp only [keys, List.map_set]
    refine List.ext_getElem (by simp) fun i h4 h5 => ?_
    rw [List.getElem_set]
    split
    · rename_i hji; subst hji; exact hk
    · rfl
theorem keys_del_mem {l : KMap} {k p : Int × Int} (hn : (keys l).Nodup) : p ∈ keys (mapDel l k) ↔ p ∈ keys l ∧ p ≠ k := by
  unfold mapDel
  cases hf : (l.map (·.1)).findIdx? (fun q => decide (k = q)) with
  | none =>
    have : k ∉ keys l := fun hk => by
      rw [List.findIdx?_eq_none_iff] at hf
      have := hf k hk
      simp at this
    exact ⟨fun h => ⟨h, fun hpk => this (hpk ▸ h)⟩, fun h => h.1⟩
  | some j =>
    obtain ⟨h1, h2, h3⟩ := List.findIdx?_eq_some_iff_getElem.1 hf
    have hk : k = (keys l)[j] := of_decide_eq_true h2
    have hke : keys (l.eraseIdx j) = (keys l).eraseIdx j := by simp [keys, List.eraseIdx_eq_take_drop_succ, List.map_take, List.map_drop]
    simp only [hke]
    have h1' : j < (keys l).length := h1
    have hp := List.pairwise_iff_getElem.1 hn
    rw [List.mem_eraseIdx_iff_getElem]
    constructor
    · rintro ⟨i, hi, hne, rfl⟩
      refine ⟨List.getElem_mem _, fun he => ?_⟩
      rw [hk] at he
      rcases Nat.lt_or_gt_of_ne hne with h | h
      · exact hp _ _ _ _ h he
      · exact hp _ _ _ _ h he.symm
    · rintro ⟨h4, h5⟩
      obtain ⟨i, hi, rfl⟩ := List.getElem_of_mem h4
      exact ⟨i, hi, fun hij => h5 (by subst hij; exact hk.symm), rfl⟩
theorem mapDel_sub (l : KMap) (k : Int × Int) : (mapDel l k).Sublist l := by
  unfold mapDel
  split
  · exact List.eraseIdx_sublist ..
  · exact List.Sublist.refl _
theorem keys_del_nodup {l : KMap} {k : Int × Int} (hn : (keys l).Nodup) : (keys (mapDel l k)).Nodup := List.Nodup.sublist ((mapDel_sub l k).map _) hn
def bm (f : Nat → Int × Int) : Nat → KMap
  | 0 => []
  | i + 1 => if f i = nw then bm f i else mapUp (bm f i) (f i) (.int .i64 (i : Int))
theorem bm_keys (f : Nat → Int × Int) : ∀ n, (keys (bm f n)).Nodup ∧ ∀ p, p ∈ keys (bm f n) ↔ ∃ i < n, f i = p ∧ p ≠ nw
  | 0 => ⟨by simp [bm, keys], fun p => by simp [bm, keys]⟩
  | n + 1 => by
    obtain ⟨h1, h2⟩ := bm_keys f n
    simp only [bm]
    split
    · rename_i hn
      refine ⟨h1, fun p => (h2 p).trans ⟨fun ⟨i, hi, a, b⟩ => ⟨i, by omega, a, b⟩, fun ⟨i, hi, a, b⟩ => ⟨i, ?_, a, b⟩⟩⟩
      rcases Nat.lt_or_ge i n with h | h
      · exact h
      · have : i = n := by omega
        subst this; exact absurd (a ▸ hn) b
    · rename_i hn
      rw [keys_up]
      split
      · rename_i hin
        refine ⟨h1, fun p => ⟨fun hp => ?_, fun ⟨i, hi, a, b⟩ => ?_⟩⟩
        · obtain ⟨i, hi, a, b⟩ := (h2 p).1 hp; exact ⟨i, by omega, a, b⟩
        · by_cases h : i = n
          · subst h; exact a ▸ hin
          · exact (h2 p).2 ⟨i, by omega, a, b⟩
      · rename_i hin
        refine ⟨List.nodup_append.2 ⟨h1, by simp, fun a ha b hb => ?_⟩, fun p => ⟨fun hp => ?_, fun ⟨i, hi, a, b⟩ => ?_⟩⟩
        · simp at hb; subst hb; exact fun h => hin (h ▸ ha)
        · rcases List.mem_append.1 hp with hp | hp
          · obtain ⟨i, hi, a, b⟩ := (h2 p).1 hp; exact ⟨i, by omega, a, b⟩
          · simp at hp; subst hp; exact ⟨n, by omega, rfl, hn⟩
        · by_cases h : i = n
          · subst h; exact List.mem_append_right _ (by simp [a])
          · exact List.mem_append_left _ ((h2 p).2 ⟨i, by omega, a, b⟩)
theorem bm_plain (f : Nat → Int × Int) : ∀ n, ∀ p ∈ bm f n, plain p.2 = true
  | 0, p, h => by simp [bm] at h
  | n + 1, p, h => by
    simp only [bm] at h
    split at h
    · exact bm_plain f n p h
    · unfold mapUp at h
      split at h
      · rcases List.mem_or_eq_of_mem_set h with h | rfl
        · exact bm_plain f n p h
        · rfl
      · rcases List.mem_append.1 h with h | h
        · exact bm_plain f n p h
        · simp at h; subst h; rfl
def left (l : KMap) (seen : List (Int × Int)) : Nat := ((keys l).filter fun p => decide (p ∉ seen)).length
theorem filter_lt' {α : Type} (p q : α → Bool) (hpq : ∀ x, q x = true → p x = true) (e : α) (hp : p e = true) (hq : q e = false) : ∀ (l l' : List α), l'.Sublist l → e ∈ l → (l'.filter q).length < (l.filter p).length
  | l, l', hs, he => by
    have h1 : (l'.filter q).length ≤ (l.filter q).length := (hs.filter q).length_le
    have h2 : (l.filter q).length < (l.filter p).length := Go.filter_lt p q hpq e hp hq l he
    omega
theorem left_lt {l l' : KMap} {seen : List (Int × Int)} {k : Int × Int} (hs : l'.Sublist l) (hk : k ∈ keys l) (hn : k ∉ seen) : left l' (seen ++ [k]) < left l seen :=
  filter_lt' _ _ (fun x hx => by simp at hx ⊢; exact hx.1) k (by simpa using hn) (by simp) _ _ (hs.map _) hk
end Go.AH
namespace Go.AH
open Go
structure GInv (f : Nat → Int × Int) (n : Nat) (short long len : Int) (lm : KMap) : Prop where
  le : len ≤ long
  ge : short - 1 ≤ len
  nd : (keys lm).Nodup
  pl : ∀ q ∈ lm, plain q.2 = true
  sub : ∀ k ∈ keys lm, ∃ i < n, f i = k ∧ k ≠ nw
  all : ∀ i < n, f i ≠ nw → f i ∈ keys lm ∨ len < (f i).1
  cov : ∀ x, len < x → x ≤ long → Cov f n x
structure GIn (f : Nat → Int × Int) (n : Nat) (len : Int) (lm : KMap) (low : Int) (lm' : KMap) (seen : List (Int × Int)) : Prop where
  sub : lm'.Sublist lm
  nd : (keys lm').Nodup
  le : low ≤ len + 1
  lw : low = len + 1 ∨ ∃ i < n, f i ≠ nw ∧ (f i).1 = low ∧ low ≤ len ∧ len ≤ (f i).2
  gone : ∀ k ∈ keys lm, k ∈ keys lm' ∨ (len ≤ k.2 ∧ low ≤ k.1)
  passed : ∀ k ∈ keys lm', k ∈ seen → k.2 < len
section
variable {f : Nat → Int × Int} {n : Nat} {short long len low : Int} {lm lm' : KMap} {seen : List (Int × Int)}
theorem GIn.start (h : GInv f n short long len lm) : GIn f n len lm (len + 1) lm [] :=
  ⟨List.Sublist.refl _, h.nd, Int.le_refl _, .inl rfl, fun k hk => .inl hk, fun k _ hs => by simp at hs⟩
theorem GIn.skip (h : GIn f n len lm low lm' seen) {k : Int × Int} (hk : k.2 < len) : GIn f n len lm low lm' (seen ++ [k]) :=
  ⟨h.sub, h.nd, h.le, h.lw, h.gone, fun q hq hs => by
    rcases List.mem_append.1 hs with hs | hs
    · exact h.passed q hq hs
    · simp at hs; subst hs; exact hk⟩
theorem GIn.take (h : GIn f n len lm low lm' seen) (hi : GInv f n short long len lm) {k : Int × Int} (hk : k ∈ keys lm') (hl : ¬ k.2 < len) : GIn f n len lm (min low k.1) (mapDel lm' k) (seen ++ [k]) := by
  have hkl : k ∈ keys lm := (h.sub.map _).subset hk
  obtain ⟨i, hin, hik, hnw⟩ := hi.sub k hkl
  refine ⟨(mapDel_sub lm' k).trans h.sub, keys_del_nodup h.nd, by have := h.le; omega, ?_, fun q hq => ?_, fun q hq hs => ?_⟩
  · by_cases hle : k.1 < low
    · by_cases hlen : k.1 ≤ len
      · exact .inr ⟨i, hin, by rw [hik]; exact hnw, by rw [hik]; omega, by omega, by rw [hik]; omega⟩
      · have := h.le; left; omega
    · rcases h.lw with h0 | ⟨j, a, b, c, d, e⟩
      · left; have := h.le; omega
      · exact .inr ⟨j, a, b, by omega, by omega, e⟩
  · rcases h.gone q hq with h0 | h0
    · by_cases hqk : q = k
      · subst hqk; exact .inr ⟨by omega, by omega⟩
      · exact .inl ((keys_del_mem h.nd).2 ⟨h0, hqk⟩)
    · exact .inr ⟨h0.1, by omega⟩
  · obtain ⟨h0, h1⟩ := (keys_del_mem h.nd).1 hq
    rcases List.mem_append.1 hs with hs | hs
    · exact h.passed q h0 hs
    · simp at hs; exact absurd hs h1
theorem GIn.found (h : GIn f n len lm low lm' seen) (hi : GInv f n short long len lm) (hall : ∀ q ∈ lm', q.1 ∈ seen) (hlow : low > len) (hs : short ≤ len) (_hnw : ∀ i < n, f i = nw ∨ (short ≤ (f i).1 ∧ (f i).1 ≤ (f i).2 ∧ (f i).2 ≤ long)) (_h1 : 1 ≤ short) : GapIs f n short long len := by
  refine .inr ⟨hs, hi.le, ?_, hi.cov⟩
  rintro ⟨i, hin, a, b⟩
  have hfi : f i ≠ nw := fun h => by rw [h] at a b; simp at a b; omega
  rcases hi.all i hin hfi with hk | hk
  · rcases h.gone _ hk with h0 | h0
    · obtain ⟨q, hq, hqe⟩ := List.mem_map.1 h0
      have := h.passed _ h0 (by rw [← hqe]; exact hall q hq)
      omega
    · omega
  · omega
theorem GIn.next (h : GIn f n len lm low lm' seen) (hi : GInv f n short long len lm) (hlow : ¬ low > len) (hnw : ∀ i < n, f i = nw ∨ (short ≤ (f i).1 ∧ (f i).1 ≤ (f i).2 ∧ (f i).2 ≤ long)) : GInv f n short long (low - 1) lm' := by
  have hl : ∃ i < n, f i ≠ nw ∧ (f i).1 = low ∧ low ≤ len ∧ len ≤ (f i).2 := by
    rcases h.lw with h0 | h0
    · omega
    · exact h0
  obtain ⟨i, hin, hfi, a, b, c⟩ := hl
  have hs : short ≤ low := by
    rcases hnw i hin with h0 | h0
    · exact absurd h0 hfi
    · omega
  refine ⟨by have := hi.le; omega, by omega, h.nd, fun q hq => hi.pl q (h.sub.subset hq), fun k hk => hi.sub k ((h.sub.map _).subset hk), fun j hj hfj => ?_, fun x hx hxl => ?_⟩
  · rcases hi.all j hj hfj with h0 | h0
    · rcases h.gone _ h0 with h1 | h1
      · exact .inl h1
      · exact .inr (by omega)
    · exact .inr (by omega)
  · by_cases hxl2 : len < x
    · exact hi.cov x hxl2 hxl
    · exact ⟨i, hin, by omega, by omega⟩
end
theorem plainL_closed' {m : Nat} {v : Value} (h : plain v = true) : closed m v = true ∧ okV v = true := by
  have := plainL_closed (n := m) (l := [v]) (by simp [plainL, h])
  simpa [closedL, okL] using this
theorem map_oclosed {m : Nat} {lm : KMap} (h : ∀ q ∈ lm, plain q.2 = true) : oclosed m (mapO lm) := by
  intro p hp
  obtain ⟨q, hq, rfl⟩ := List.mem_map.1 hp
  exact plainL_closed' (h q hq)
end Go.AH
