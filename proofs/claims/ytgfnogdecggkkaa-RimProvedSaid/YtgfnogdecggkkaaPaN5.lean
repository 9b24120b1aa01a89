/- What Points of rim and of the reference do. Conditions: stand in each theorem. -/
import Derived.Test.YtgfnogdecggkkaaPaMV
import Derived.Test.YtgfnogdecggkkaaPaMS
import Derived.Test.YtgfnogdecggkkaaPaN4
import Derived.Test.YtgfnogdecggkkaaPaMO
namespace Go.Proofs.Ytgfnogdecggkkaa
open Go Go.AH
attribute [local irreducible] WOps WCode WFree retQ thenQ blockQ OpOk ACall RetRef roundA roundB
set_option maxRecDepth 100000
set_option maxHeartbeats 1000000
def ptsL (pl : List (Int × Int)) : Nat → List Int
  | 0 => []
  | i + 1 => ptsL pl i ++ [(gp pl i).1]
theorem ptsL_len (pl : List (Int × Int)) : ∀ i, (ptsL pl i).length = i
  | 0 => rfl
  | i + 1 => by simp only [ptsL, List.length_append, ptsL_len pl i, List.length_cons, List.length_nil]
theorem planE_zero {s : St} {l : List Int} (h : planE s l ≠ 0) : planR s l = [] := by
  unfold planE at h
  unfold planR planIf
  split
  · rfl
  · rename_i hc
    rw [if_neg hc] at h
    split
    · rename_i hp; rw [if_pos hp] at h; exact absurd rfl h
    · rfl
def padL (R : List (Int × Int)) (i : Nat) : List Int := ptsL R i ++ List.replicate (R.length - i) 0
theorem padL_len {R : List (Int × Int)} {i : Nat} (h : i ≤ R.length) : (padL R i).length = R.length := by simp [padL, ptsL_len]; omega
theorem zc_ints : ∀ n : Nat, zcells (vcells (Value.int .i64 0)) n = ints (List.replicate n 0)
  | 0 => rfl
  | n + 1 => by
    have := zc_ints n
    simp only [zcells, this, List.replicate_succ, ints, List.map_cons]
    rfl
theorem padL_set {R : List (Int × Int)} {i : Nat} (h : i < R.length) : splice (ints (padL R i)) (0 + i * 1) [.int .i64 (gp R i).1] = ints (padL R (i + 1)) := by
  have e : R.length - i = (R.length - (i + 1)) + 1 := by omega
  have hl : (ptsL R i).length = i := ptsL_len R i
  have hl2 : ((ptsL R i).map (Value.int IntKind.i64)).length = i := by rw [List.length_map, hl]
  unfold splice padL
  rw [e, List.replicate_succ]
  simp only [ints, List.map_append, List.map_cons, ptsL, List.map_nil, Nat.zero_add, Nat.mul_one, List.length_cons, List.length_nil]
  rw [List.take_append_of_le_length (by omega), List.take_of_length_le (by omega), List.drop_append, List.drop_of_length_le (by omega), hl2, show i + 1 - i = 1 from by omega]
  simp
theorem ints_one (l : List Int) : (ints l).all (·.oneCell') = true := by
  simp only [ints, List.all_eq_true, List.mem_map]
  rintro v ⟨a, _, rfl⟩
  rfl
theorem grd_len {F : Nat → Int × Int} {n : Nat} {to : Int} : ∀ (k : Nat) (x : Int), (grd F n to k x).1.length ≤ k
  | 0, x => by simp [grd]
  | k + 1, x => by
    simp only [grd]
    split
    · simp
    · have := grd_len (F := F) (n := n) (to := to) k ((F (bestF F x n).toNat).1 - 1)
      simp only [List.length_cons]; omega
theorem planR_len (s : St) (l : List Int) : (planR s l).length ≤ 200000 := by
  unfold planR
  split
  · simp
  · rename_i hc
    obtain ⟨_, _, hs, _⟩ := checkS_zero (by omega : checkS s l = 0)
    unfold planIf
    split
    · have := grd_len (F := sp s l) (n := l.length) (to := s.short) (s.long - s.short + 1).toNat s.long
      unfold planS
      unfold badStone at hs
      omega
    · simp
theorem planR_pos {s : St} {l : List Int} (h : planE s l = 0) : 1 ≤ (planR s l).length := by
  unfold planE at h
  unfold planR
  split at h
  · rename_i hc; exact absurd h hc
  · rename_i hc
    obtain ⟨_, _, hs, _⟩ := checkS_zero (by omega : checkS s l = 0)
    have hs2 : s.short ≤ s.long := by unfold badStone at hs; omega
    rw [if_neg hc]
    unfold planIf
    split at h
    · rename_i hp
      rw [if_pos hp]
      unfold planS at hp ⊢
      rw [show (s.long - s.short + 1).toNat = (s.long - s.short).toNat + 1 from by omega] at hp ⊢
      simp only [grd] at hp ⊢
      split
      · rename_i hq; rw [if_pos hq] at hp; simp only at hp; omega
      · simp
    · cases h
theorem rimPoints_ok (s : St) (l : List Int) (c : Nat) (hN : l.length ≤ 1000000) (hr : -9223372036854775808 ≤ s.short ∧ s.short ≤ 9223372036854775807) :
    Ev Try.prog 30 [s.val, .slice (some ⟨0, 0, none⟩) l.length c] [.ro (ints l)] (.tuple #[.slice (some ⟨1, 0, none⟩) (planR s l).length (planR s l).length, .int .i64 (planE s l)]) [.ro (ints l), .rw (ints (ptsL (planR s l) (planR s l).length))] := by
  have hn := planR_len s l
  by_cases h : planE s l = 0
  · have hpos := planR_pos h
    refine acall_intro 1 43 Try.func30 rfl rfl rfl rfl rfl ?_
    repeat' (first | (refine gU ?_; first | (refine gMove ?_; first | refine st (ok_move rfl) rfl rfl ?_) | (refine gAssign ?_; first | refine st (ok_assign rfl) rfl rfl ?_) | (refine gFA ?_; first | refine st (ok_fieldAddr rfl) rfl rfl ?_) | (refine gLoad ?_; first | refine st (ok_load rfl (by first | rfl | assumption)) rfl rfl ?_ | refine st (ok_loadA rfl (by first | rfl | assumption)) rfl rfl ?_) | (refine gAdd ?_; first | refine st (ok_inc rfl rfl (by omega)) rfl rfl ?_ | refine st (ok_add rfl rfl (by omega) (by omega)) rfl rfl ?_ | refine st (ok_bin rfl rfl rfl) rfl rfl ?_) | (refine gBin ?_; first | refine st (ok_bin rfl rfl rfl) rfl rfl ?_ | refine st (ok_neq2 rfl rfl) rfl rfl ?_) | (refine gLen ?_; first | refine st (ok_len rfl) rfl rfl ?_ | refine st (ok_lenV rfl) rfl rfl ?_) | (refine gExtract ?_; first | refine st (ok_extract rfl rfl) rfl rfl ?_) | (refine gIA ?_; first | refine st (ok_idxN rfl rfl (by omega)) rfl rfl ?_ | refine st (ok_idxSN rfl rfl (by omega)) rfl rfl ?_ | refine st (ok_idxAN rfl rfl (by omega)) rfl rfl ?_ | refine st (ok_idx rfl rfl (by omega) (by omega)) rfl rfl ?_ | refine st (ok_idxG rfl rfl (by omega) (by omega)) rfl rfl ?_ | refine st (ok_idxA rfl rfl (by omega) (by omega)) rfl rfl ?_) | (refine gCall ?_; first | refine st (ok_call rfl rfl rfl (by first | exact refPlanS_ev (by first | exact .inl rfl | exact .inr (.inl rfl) | exact .inr (.inr ⟨_, rfl⟩) | assumption) rfl | exact rimPlanS_ev (by first | exact .inl rfl | exact .inr (.inl rfl) | exact .inr (.inr ⟨_, rfl⟩) | assumption) (by assumption) (by assumption) rfl)) rfl rfl ?_) | (refine gBox ?_; first | refine st (ok_box rfl) rfl rfl ?_) | (refine gAlloc ?_; first | refine st (ok_alloc rfl) rfl rfl ?_) | (refine gBuildS ?_; first | refine st (ok_buildS (by rfl) (by rfl) (by rfl) (by rfl) rfl (by rfl)) rfl rfl ?_) | (refine gApp ?_; first | refine st (ok_appendV (by rfl) (by rfl) rfl (by rfl) (by first | rfl | assumption) rfl (by first | rfl | assumption) (by omega) (by first | rfl | assumption) (by omega) (by omega)) rfl rfl ?_ | refine st (ok_appendIn rfl rfl (by omega) (by omega) (by first | rfl | assumption) (by first | rfl | assumption) (by first | rfl | assumption | exact hp1 (by omega) | exact hp2 (by omega))) rfl rfl ?_) | (refine gMakeS ?_; first | refine st (ok_makeS (by rfl) (by rfl) rfl rfl (by omega) (by omega) (by omega)) rfl rfl ?_ | refine st (ok_makeS (l := 0) (by rfl) (by rfl) rfl rfl (by omega) (by omega) (by omega)) rfl rfl ?_) | (refine gCopy ?_; first | refine st (ok_copy rfl rfl (by omega) (by first | rfl | assumption) (by first | rfl | assumption) (by first | rfl | assumption | exact hp1 (by omega) | exact hp2 (by omega))) rfl rfl ?_) | (refine gStore ?_; refine stN (ok_store rfl rfl rfl rfl (by first | rfl | assumption | exact hp1 (by omega) | exact hp2 (by omega))) rfl ?_)) | refine W_seq ?_ | refine W_region ?_ | refine st_nil ?_ | refine tq_n ?_ | refine tq_r ?_ | refine tq_e ?_ | refine bq_n ?_ | refine bq_r ?_ | refine bq_hit rfl ?_ | refine bq_miss rfl ?_ | refine W_skip ?_ | refine W_exit ?_ | refine W_ret ?_ | refine W_block ?_ | refine W_condTA rfl ?_ | refine W_condFA rfl ?_ | (refine W_condD rfl ?_ ?_ <;> intro _) | (refine W_cond rfl ?_ ?_ <;> intro _))
    refine W_loopS (ι := Nat) (fun i => [(8, .slice (some ⟨3, 0, none⟩) i (planR s l).length), (24, .slice (some ⟨2, 0, none⟩) (planR s l).length (planR s l).length), (25, .int .i64 ((planR s l).length : Int)), (26, .int .i64 (i : Int))])
      (fun i => [.ro (ints l), .rw s.cells, .rw (runsC (planR s l)), .rw (ints (padL (planR s l) i))]) (fun i => (planR s l).length - i) (fun i => i ≤ (planR s l).length) 0 (by simp)
      (by
        have e : ints (padL (planR s l) 0) = zcells (vcells (Value.int .i64 0)) (planR s l).length := by rw [zc_ints]; rfl
        rw [e]; exact .same ⟨rfl, rfl, rfl, rfl, trivial⟩) (by omega) ?_
    rintro i hi
    by_cases hil : i < (planR s l).length
    · have hcr : cellsAt [.ro (ints l), .rw s.cells, .rw (runsC (planR s l)), .rw (ints (padL (planR s l) i))] 2 (0 + i * 2) 2 = some [.int .i64 (gp (planR s l) i).1, .int .i64 (gp (planR s l) i).2] := runs_cellsAt (.inr (.inl rfl)) hil
      have hpp : putCells [.ro (ints l), .rw s.cells, .rw (runsC (planR s l)), .rw (ints (padL (planR s l) i)), .rw [.int .i64 (gp (planR s l) i).1, .int .i64 (gp (planR s l) i).2], .rw [.int .i64 (gp (planR s l) i).1]] 3 (0 + i * 1) [.int .i64 (gp (planR s l) i).1] =
          some [.ro (ints l), .rw s.cells, .rw (runsC (planR s l)), .rw (ints (padL (planR s l) (i + 1))), .rw [.int .i64 (gp (planR s l) i).1, .int .i64 (gp (planR s l) i).2], .rw [.int .i64 (gp (planR s l) i).1]] :=
        putRw rfl (by simp [ints, padL_len hi]; omega) (by simp [ints, padL_len hi]; omega) (padL_set hil)
      repeat' (first | (refine gU ?_; first | (refine gMove ?_; first | refine st (ok_move rfl) rfl rfl ?_) | (refine gAssign ?_; first | refine st (ok_assign rfl) rfl rfl ?_) | (refine gFA ?_; first | refine st (ok_fieldAddr rfl) rfl rfl ?_) | (refine gLoad ?_; first | refine st (ok_load rfl (by first | rfl | assumption)) rfl rfl ?_ | refine st (ok_loadA rfl (by first | rfl | assumption)) rfl rfl ?_) | (refine gAdd ?_; first | refine st (ok_inc rfl rfl (by omega)) rfl rfl ?_ | refine st (ok_add rfl rfl (by omega) (by omega)) rfl rfl ?_ | refine st (ok_bin rfl rfl rfl) rfl rfl ?_) | (refine gBin ?_; first | refine st (ok_bin rfl rfl rfl) rfl rfl ?_ | refine st (ok_neq2 rfl rfl) rfl rfl ?_) | (refine gLen ?_; first | refine st (ok_len rfl) rfl rfl ?_ | refine st (ok_lenV rfl) rfl rfl ?_) | (refine gExtract ?_; first | refine st (ok_extract rfl rfl) rfl rfl ?_) | (refine gIA ?_; first | refine st (ok_idxN rfl rfl (by omega)) rfl rfl ?_ | refine st (ok_idxSN rfl rfl (by omega)) rfl rfl ?_ | refine st (ok_idxAN rfl rfl (by omega)) rfl rfl ?_ | refine st (ok_idx rfl rfl (by omega) (by omega)) rfl rfl ?_ | refine st (ok_idxG rfl rfl (by omega) (by omega)) rfl rfl ?_ | refine st (ok_idxA rfl rfl (by omega) (by omega)) rfl rfl ?_) | (refine gCall ?_; first | refine st (ok_call rfl rfl rfl (by first | exact refPlanS_ev (by first | exact .inl rfl | exact .inr (.inl rfl) | exact .inr (.inr ⟨_, rfl⟩) | assumption) rfl | exact rimPlanS_ev (by first | exact .inl rfl | exact .inr (.inl rfl) | exact .inr (.inr ⟨_, rfl⟩) | assumption) (by assumption) (by assumption) rfl)) rfl rfl ?_) | (refine gBox ?_; first | refine st (ok_box rfl) rfl rfl ?_) | (refine gAlloc ?_; first | refine st (ok_alloc rfl) rfl rfl ?_) | (refine gBuildS ?_; first | refine st (ok_buildS (by rfl) (by rfl) (by rfl) (by rfl) rfl (by rfl)) rfl rfl ?_) | (refine gApp ?_; first | refine st (ok_appendV (by rfl) (by rfl) rfl (by rfl) (by first | rfl | assumption) rfl (by first | rfl | assumption) (by omega) (by first | rfl | assumption) (by omega) (by omega)) rfl rfl ?_ | refine st (ok_appendIn rfl rfl (by omega) (by omega) (by first | rfl | assumption) (by first | rfl | assumption) (by first | rfl | assumption | exact hp1 (by omega) | exact hp2 (by omega))) rfl rfl ?_) | (refine gMakeS ?_; first | refine st (ok_makeS (by rfl) (by rfl) rfl rfl (by omega) (by omega) (by omega)) rfl rfl ?_ | refine st (ok_makeS (l := 0) (by rfl) (by rfl) rfl rfl (by omega) (by omega) (by omega)) rfl rfl ?_) | (refine gCopy ?_; first | refine st (ok_copy rfl rfl (by omega) (by first | rfl | assumption) (by first | rfl | assumption) (by first | rfl | assumption | exact hp1 (by omega) | exact hp2 (by omega))) rfl rfl ?_) | (refine gStore ?_; refine stN (ok_store rfl rfl rfl rfl (by first | rfl | assumption | exact hp1 (by omega) | exact hp2 (by omega))) rfl ?_)) | refine W_seq ?_ | refine W_region ?_ | refine st_nil ?_ | refine tq_n ?_ | refine tq_r ?_ | refine tq_e ?_ | refine bq_n ?_ | refine bq_r ?_ | refine bq_hit rfl ?_ | refine bq_miss rfl ?_ | refine W_skip ?_ | refine W_exit ?_ | refine W_ret ?_ | refine W_block ?_ | refine W_condTA rfl ?_ | refine W_condFA rfl ?_ | (refine W_condD rfl ?_ ?_ <;> intro _) | (refine W_cond rfl ?_ ?_ <;> intro _))
      exact ⟨rfl, i + 1, by omega, by omega, StRef.drop [.ro (ints l), .rw s.cells, .rw (runsC (planR s l)), .rw (ints (padL (planR s l) (i + 1)))] [_, _] (by simp) ⟨plainL_closed (ints_plain l), plainL_closed (cells_plain s), plainL_closed (runs_plain _), plainL_closed (ints_plain _), trivial⟩ (by (repeat' (first | exact trivial | exact ⟨rfl, rfl, rfl⟩ | exact ⟨rfl, closed_slice rfl, rfl⟩ | refine ⟨?_, ?_⟩)))⟩
    · obtain rfl : i = (planR s l).length := by omega
      have hpl : padL (planR s l) (planR s l).length = ptsL (planR s l) (planR s l).length := by simp [padL]
      rw [hpl]
      have hlen : (ints (ptsL (planR s l) (planR s l).length)).length = (planR s l).length := by simp [ints, ptsL_len]
      have hcc : cellsAt [.ro (ints l), .rw s.cells, .rw (runsC (planR s l)), .rw (ints (ptsL (planR s l) (planR s l).length)), .rw (zcells (vcells (Value.int .i64 0)) (planR s l).length)] 3 0 ((planR s l).length * 1) = some (ints (ptsL (planR s l) (planR s l).length)) := by
        have e : Nat.ble (0 + (planR s l).length * 1) (ints (ptsL (planR s l) (planR s l).length)).length = true := Nat.ble_eq_true_of_le (by omega)
        simp only [cellsAt, List.getElem?_cons_succ, List.getElem?_cons_zero, e, cond_true, List.drop_zero]
        rw [List.take_of_length_le (by omega)]
      have hone := ints_one (ptsL (planR s l) (planR s l).length)
      have hpp : putCells [.ro (ints l), .rw s.cells, .rw (runsC (planR s l)), .rw (ints (ptsL (planR s l) (planR s l).length)), .rw (zcells (vcells (Value.int .i64 0)) (planR s l).length)] 4 0 (ints (ptsL (planR s l) (planR s l).length)) =
          some [.ro (ints l), .rw s.cells, .rw (runsC (planR s l)), .rw (ints (ptsL (planR s l) (planR s l).length)), .rw (ints (ptsL (planR s l) (planR s l).length))] := by
        refine putRw rfl (by rw [zc_ints]; simp [ints, ptsL_len]) (by rw [zc_ints]; simp [ints]; omega) ?_
        unfold splice
        rw [zc_ints, List.drop_of_length_le (by simp [ints, ptsL_len])]; simp
      repeat' (first | (refine gU ?_; first | (refine gMove ?_; first | refine st (ok_move rfl) rfl rfl ?_) | (refine gAssign ?_; first | refine st (ok_assign rfl) rfl rfl ?_) | (refine gFA ?_; first | refine st (ok_fieldAddr rfl) rfl rfl ?_) | (refine gLoad ?_; first | refine st (ok_load rfl (by first | rfl | assumption)) rfl rfl ?_ | refine st (ok_loadA rfl (by first | rfl | assumption)) rfl rfl ?_) | (refine gAdd ?_; first | refine st (ok_inc rfl rfl (by omega)) rfl rfl ?_ | refine st (ok_add rfl rfl (by omega) (by omega)) rfl rfl ?_ | refine st (ok_bin rfl rfl rfl) rfl rfl ?_) | (refine gBin ?_; first | refine st (ok_bin rfl rfl rfl) rfl rfl ?_ | refine st (ok_neq2 rfl rfl) rfl rfl ?_) | (refine gLen ?_; first | refine st (ok_len rfl) rfl rfl ?_ | refine st (ok_lenV rfl) rfl rfl ?_) | (refine gExtract ?_; first | refine st (ok_extract rfl rfl) rfl rfl ?_) | (refine gIA ?_; first | refine st (ok_idxN rfl rfl (by omega)) rfl rfl ?_ | refine st (ok_idxSN rfl rfl (by omega)) rfl rfl ?_ | refine st (ok_idxAN rfl rfl (by omega)) rfl rfl ?_ | refine st (ok_idx rfl rfl (by omega) (by omega)) rfl rfl ?_ | refine st (ok_idxG rfl rfl (by omega) (by omega)) rfl rfl ?_ | refine st (ok_idxA rfl rfl (by omega) (by omega)) rfl rfl ?_) | (refine gCall ?_; first | refine st (ok_call rfl rfl rfl (by first | exact refPlanS_ev (by first | exact .inl rfl | exact .inr (.inl rfl) | exact .inr (.inr ⟨_, rfl⟩) | assumption) rfl | exact rimPlanS_ev (by first | exact .inl rfl | exact .inr (.inl rfl) | exact .inr (.inr ⟨_, rfl⟩) | assumption) (by assumption) (by assumption) rfl)) rfl rfl ?_) | (refine gBox ?_; first | refine st (ok_box rfl) rfl rfl ?_) | (refine gAlloc ?_; first | refine st (ok_alloc rfl) rfl rfl ?_) | (refine gBuildS ?_; first | refine st (ok_buildS (by rfl) (by rfl) (by rfl) (by rfl) rfl (by rfl)) rfl rfl ?_) | (refine gApp ?_; first | refine st (ok_appendV (by rfl) (by rfl) rfl (by rfl) (by first | rfl | assumption) rfl (by first | rfl | assumption) (by omega) (by first | rfl | assumption) (by omega) (by omega)) rfl rfl ?_ | refine st (ok_appendIn rfl rfl (by omega) (by omega) (by first | rfl | assumption) (by first | rfl | assumption) (by first | rfl | assumption | exact hp1 (by omega) | exact hp2 (by omega))) rfl rfl ?_) | (refine gMakeS ?_; first | refine st (ok_makeS (by rfl) (by rfl) rfl rfl (by omega) (by omega) (by omega)) rfl rfl ?_ | refine st (ok_makeS (l := 0) (by rfl) (by rfl) rfl rfl (by omega) (by omega) (by omega)) rfl rfl ?_) | (refine gCopy ?_; first | refine st (ok_copy rfl rfl (by omega) (by first | rfl | assumption) (by first | rfl | assumption) (by first | rfl | assumption | exact hp1 (by omega) | exact hp2 (by omega))) rfl rfl ?_) | (refine gStore ?_; refine stN (ok_store rfl rfl rfl rfl (by first | rfl | assumption | exact hp1 (by omega) | exact hp2 (by omega))) rfl ?_)) | refine W_seq ?_ | refine W_region ?_ | refine st_nil ?_ | refine tq_n ?_ | refine tq_r ?_ | refine tq_e ?_ | refine bq_n ?_ | refine bq_r ?_ | refine bq_hit rfl ?_ | refine bq_miss rfl ?_ | refine W_skip ?_ | refine W_exit ?_ | refine W_ret ?_ | refine W_block ?_ | refine W_condTA rfl ?_ | refine W_condFA rfl ?_ | (refine W_condD rfl ?_ ?_ <;> intro _) | (refine W_cond rfl ?_ ?_ <;> intro _))
      exact ret0 (.tmp rfl (.tmp rfl .nil)) (retSl' (j := 4) rfl (ints_plain _) (.inl rfl) rfl rfl (Nat.le_refl _)) ⟨by rw [h]; rfl, rfl⟩
  · have h' : planE s l ≠ 0 := h
    have h2 := planE_zero h'
    clear h
    refine acall_intro 1 43 Try.func30 rfl rfl rfl rfl rfl ?_
    repeat' (first | (refine gU ?_; first | (refine gMove ?_; first | refine st (ok_move rfl) rfl rfl ?_) | (refine gAssign ?_; first | refine st (ok_assign rfl) rfl rfl ?_) | (refine gFA ?_; first | refine st (ok_fieldAddr rfl) rfl rfl ?_) | (refine gLoad ?_; first | refine st (ok_load rfl (by first | rfl | assumption)) rfl rfl ?_ | refine st (ok_loadA rfl (by first | rfl | assumption)) rfl rfl ?_) | (refine gAdd ?_; first | refine st (ok_inc rfl rfl (by omega)) rfl rfl ?_ | refine st (ok_add rfl rfl (by omega) (by omega)) rfl rfl ?_ | refine st (ok_bin rfl rfl rfl) rfl rfl ?_) | (refine gBin ?_; first | refine st (ok_bin rfl rfl rfl) rfl rfl ?_ | refine st (ok_neq2 rfl rfl) rfl rfl ?_) | (refine gLen ?_; first | refine st (ok_len rfl) rfl rfl ?_ | refine st (ok_lenV rfl) rfl rfl ?_) | (refine gExtract ?_; first | refine st (ok_extract rfl rfl) rfl rfl ?_) | (refine gIA ?_; first | refine st (ok_idxN rfl rfl (by omega)) rfl rfl ?_ | refine st (ok_idxSN rfl rfl (by omega)) rfl rfl ?_ | refine st (ok_idxAN rfl rfl (by omega)) rfl rfl ?_ | refine st (ok_idx rfl rfl (by omega) (by omega)) rfl rfl ?_ | refine st (ok_idxG rfl rfl (by omega) (by omega)) rfl rfl ?_ | refine st (ok_idxA rfl rfl (by omega) (by omega)) rfl rfl ?_) | (refine gCall ?_; first | refine st (ok_call rfl rfl rfl (by first | exact refPlanS_ev (by first | exact .inl rfl | exact .inr (.inl rfl) | exact .inr (.inr ⟨_, rfl⟩) | assumption) rfl | exact rimPlanS_ev (by first | exact .inl rfl | exact .inr (.inl rfl) | exact .inr (.inr ⟨_, rfl⟩) | assumption) (by assumption) (by assumption) rfl)) rfl rfl ?_) | (refine gBox ?_; first | refine st (ok_box rfl) rfl rfl ?_) | (refine gAlloc ?_; first | refine st (ok_alloc rfl) rfl rfl ?_) | (refine gBuildS ?_; first | refine st (ok_buildS (by rfl) (by rfl) (by rfl) (by rfl) rfl (by rfl)) rfl rfl ?_) | (refine gApp ?_; first | refine st (ok_appendV (by rfl) (by rfl) rfl (by rfl) (by first | rfl | assumption) rfl (by first | rfl | assumption) (by omega) (by first | rfl | assumption) (by omega) (by omega)) rfl rfl ?_ | refine st (ok_appendIn rfl rfl (by omega) (by omega) (by first | rfl | assumption) (by first | rfl | assumption) (by first | rfl | assumption | exact hp1 (by omega) | exact hp2 (by omega))) rfl rfl ?_) | (refine gMakeS ?_; first | refine st (ok_makeS (by rfl) (by rfl) rfl rfl (by omega) (by omega) (by omega)) rfl rfl ?_ | refine st (ok_makeS (l := 0) (by rfl) (by rfl) rfl rfl (by omega) (by omega) (by omega)) rfl rfl ?_) | (refine gCopy ?_; first | refine st (ok_copy rfl rfl (by omega) (by first | rfl | assumption) (by first | rfl | assumption) (by first | rfl | assumption | exact hp1 (by omega) | exact hp2 (by omega))) rfl rfl ?_) | (refine gStore ?_; refine stN (ok_store rfl rfl rfl rfl (by first | rfl | assumption | exact hp1 (by omega) | exact hp2 (by omega))) rfl ?_)) | refine W_seq ?_ | refine W_region ?_ | refine st_nil ?_ | refine tq_n ?_ | refine tq_r ?_ | refine tq_e ?_ | refine bq_n ?_ | refine bq_r ?_ | refine bq_hit rfl ?_ | refine bq_miss rfl ?_ | refine W_skip ?_ | refine W_exit ?_ | refine W_ret ?_ | refine W_block ?_ | refine W_condTA rfl ?_ | refine W_condFA rfl ?_ | (refine W_condD rfl ?_ ?_ <;> intro _) | (refine W_cond rfl ?_ ?_ <;> intro _))
    rw [h2]
    exact ret0 (.tmp rfl (.tmp rfl .nil)) (retNil rfl rfl) ⟨rfl, rfl⟩
end Go.Proofs.Ytgfnogdecggkkaa
namespace Go.Proofs.Ytgfnogdecggkkaa
open Go Go.AH
attribute [local irreducible] WOps WCode WFree retQ thenQ blockQ OpOk ACall RetRef roundA roundB
set_option maxRecDepth 100000
set_option maxHeartbeats 1000000
theorem rimPoints_ev {σ : Heap} {s : St} {l : List Int} {a c : Nat} (hx : arrAt σ a (ints l)) (hN : l.length ≤ 1000000) (hr : -9223372036854775808 ≤ s.short ∧ s.short ≤ 9223372036854775807) (hni : σ.all (fun o => !isIter o) = true) :
    Ev Try.prog 30 [s.val, .slice (some ⟨a, 0, none⟩) l.length c] σ (.tuple #[.slice (some ⟨σ.length, 0, none⟩) (planR s l).length (planR s l).length, .int .i64 (planE s l)]) (σ ++ [.rw (ints (ptsL (planR s l) (planR s l).length))]) := by
  refine Ev.arrsN [ints l] [a] (news := [.rw (ints (ptsL (planR s l) (planR s l).length))]) (rimPoints_ok s l c hN hr) ⟨hx, trivial⟩ ⟨vrel_plain _ rfl, by simpa [bsR] using VQ.slice (q := true) (n := 1) (ρ := bsR [a]) 0 0 l.length c c (Nat.le_refl _) (by omega), trivial⟩ (by simp [ints_plain]) rfl ?_ ?_ hni
  · simp [ren, renA, renL, shf]
  · simp only [List.map_cons, List.map_nil, renO, renL_plain _ (ints_plain _)]
end Go.Proofs.Ytgfnogdecggkkaa
