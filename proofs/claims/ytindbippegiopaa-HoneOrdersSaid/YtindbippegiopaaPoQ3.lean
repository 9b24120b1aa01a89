/- Hones, plainly: marks of the edges on fewest strokes, edge by edge and stone by stone. -/
import Derived.Test.YtindbippegiopaaPoQ2
namespace Go.AH.Hone
open Go Go.AH
def downL (r : List Int) : Prop := ∀ i, i + 1 < r.length → gi r (i + 1) ≤ gi r i
theorem downL_iff (r : List Int) : downL r ↔ ∀ i < r.length - 1, gi r (i + 1) ≤ gi r i := ⟨fun h i hi => h i (by omega), fun h i hi => h i (by omega)⟩
instance (r : List Int) : Decidable (downL r) := decidable_of_iff _ (downL_iff r).symm
def isRowP (r : List Int) : Prop := r.length = 7 ∧ ¬ badIx (-1) 100 r ≥ 0 ∧ downL r
instance (r : List Int) : Decidable (isRowP r) := by unfold isRowP; infer_instance
def rowOf (r : List Int) : Nat → Int := if r.length = 7 ∧ ¬ badIx (-1) 100 r ≥ 0 then gi r else fun _ => 0
end Go.AH.Hone
namespace Go.Proofs.Ytindbippegiopaa
open Go Go.AH
attribute [local irreducible] WOps WCode WFree retQ thenQ blockQ scopeQ OpOk ACall RetRef roundA roundB
set_option maxRecDepth 100000
set_option maxHeartbeats 1000000
open Go.AH.Hone
theorem clone_ok (q : List Int) (c : Nat) (h0 : 0 < q.length) (hN : q.length ≤ 1000000) :
    Ev Try.prog 62 [.slice (some ⟨0, 0, none⟩) q.length c] [.ro (ints q)] (.slice (some ⟨1, 0, none⟩) q.length q.length) [.ro (ints q), .rw (ints q)] := by
  have hcs : ∀ σ' : Heap, cellsAt (.ro (ints q) :: σ') 0 0 (q.length * 1) = some (ints q) := fun σ' => by
    have := cellsAt_arr (σ := .ro (ints q) :: σ') (b := 0) (cs := ints q) (.inl rfl)
    rw [ints_length] at this; rw [Nat.mul_one]; exact this
  replace hcs := hcs [.dead]
  have hone := ints_cell1 q
  refine acall_intro 1 8 Try.func62 rfl rfl rfl rfl rfl ?_
  repeat' (first | (refine gU ?_; first | (refine gMove ?_; refine st (ok_move rfl) rfl rfl ?_) | (refine gAssign ?_; refine st (ok_assign rfl) rfl rfl ?_) | (refine gBin ?_; refine st (ok_eqNil rfl (by omega) rfl) rfl rfl ?_) | (refine gBuildS ?_; refine st (ok_buildS0) rfl rfl ?_) | (refine gApp ?_; refine st (ok_appendE (by rfl) rfl rfl (by exact hcs) (by omega) (by omega) (by omega)) rfl rfl ?_)) | refine W_seq ?_ | refine W_region ?_ | refine st_nil ?_ | refine tq_n ?_ | refine W_skip ?_ | refine W_ret ?_ | refine W_condFA rfl ?_)
  exact ret0 (.tmp rfl .nil) (retOne rfl (ints_plain _) (.inr ⟨_, rfl⟩) rfl) ⟨rfl, rfl⟩
theorem clone_ev {σ : Heap} {q : List Int} {n x c : Nat} (hn : q.length = n) (hx : arrAt σ x (ints q)) (h0 : 0 < n) (hN : n ≤ 1000000) (hni : σ.all (fun o => !isIter o) = true) :
    Ev Try.prog 62 [.slice (some ⟨x, 0, none⟩) n c] σ (.slice (some ⟨σ.length, 0, none⟩) n n) (σ ++ [.rw (ints q)]) := by
  subst hn
  refine Ev.arrsN [ints q] [x] (clone_ok q c h0 hN) ⟨hx, trivial⟩ ⟨by simpa [bsR] using VQ.slice (q := true) (n := 1) (ρ := bsR [x]) 0 0 q.length c c (Nat.le_refl _) (by omega), trivial⟩ (by simp [ints_plain]) rfl ?_ ?_ hni
  · simp [ren, shf]
  · simp only [List.map_cons, List.map_nil, renO, renL_plain _ (ints_plain _)]
theorem sub80_ok (a b : Int) (ha : -1000 ≤ a ∧ a ≤ 1000) (hb : -1000 ≤ b ∧ b ≤ 1000) : Ev Try.prog 80 [.int .i64 a, .int .i64 b] [] (.int .i64 (b - a)) [] := by
  refine acall_intro 0 8 Try.func80 rfl rfl rfl rfl rfl ?_
  repeat' (first | (refine gU ?_; first | (refine gMove ?_; refine st (ok_move rfl) rfl rfl ?_) | (refine gAssign ?_; refine st (ok_assign rfl) rfl rfl ?_) | (refine gSub ?_; refine st (ok_sub rfl rfl (by omega) (by omega)) rfl rfl ?_)) | refine W_seq ?_ | refine W_region ?_ | refine st_nil ?_ | refine tq_n ?_ | refine W_ret ?_)
  exact ret0 (.tmp rfl .nil) (.plain rfl rfl) ⟨rfl, rfl⟩
theorem sorted_ok (q : List Int) (c : Nat) (hN : q.length ≤ 1000000) (hq : ∀ i < q.length, -1000 ≤ gi q i ∧ gi q i ≤ 1000) :
    Ev Try.prog 79 [.slice (some ⟨0, 0, none⟩) q.length c, .func (.func 80) #[] #[]] [.ro (ints q)] (.bool (decide (downL q))) [.ro (ints q)] := by
  refine acall_intro 1 25 Try.func79 rfl rfl rfl rfl rfl ?_
  repeat' (first | (refine gU ?_; first | (refine gMove ?_; refine st (ok_move rfl) rfl rfl ?_) | (refine gAssign ?_; refine st (ok_assign rfl) rfl rfl ?_) | (refine gSub ?_; refine st (ok_sub rfl rfl (by omega) (by omega)) rfl rfl ?_) | (refine gLen ?_; refine st (ok_len rfl) rfl rfl ?_)) | refine W_seq ?_ | refine W_region ?_ | refine st_nil ?_ | refine tq_n ?_ | refine W_block ?_)
  refine W_loopS (ι := Int) (fun i => [(0, .slice (some ⟨0, 0, none⟩) q.length c), (1, .func (.func 80) #[] #[]), (5, .int .i64 i)])
    (fun _ => [.ro (ints q)]) (fun i => (i + 1).toNat) (fun i => -1 ≤ i ∧ i < q.length ∧ ∀ j : Nat, i ≤ j → j + 1 < q.length → gi q (j + 1) ≤ gi q j) ((q.length : Int) - 1) (by simp) (.same ⟨rfl, rfl, rfl, trivial⟩) ⟨by omega, by omega, fun j h1 h2 => by omega⟩ ?_
  rintro i ⟨h1, h2, hall⟩
  by_cases hi : i > 0
  · obtain ⟨j, rfl⟩ : ∃ j : Nat, i = (j : Int) + 1 := ⟨(i - 1).toNat, by omega⟩
    have hjj : ((j : Int) + 1).toNat = j + 1 := by omega
    have hjk : ((j : Int) + 1 - 1).toNat = j := by omega
    have hc1 : cellGet [.ro (ints q)] 0 (0 + ((j : Int) + 1).toNat * 1) = some (.int .i64 (gi q (j + 1))) := by rw [hjj, Nat.zero_add, Nat.mul_one]; simpa [cellGet] using ints_get (l := q) (i := j + 1) (by omega)
    have hc2 : cellGet [.ro (ints q)] 0 (0 + ((j : Int) + 1 - 1).toNat * 1) = some (.int .i64 (gi q j)) := by rw [hjk, Nat.zero_add, Nat.mul_one]; simpa [cellGet] using ints_get (l := q) (i := j) (by omega)
    have hb1 := hq (j + 1) (by omega)
    have hb2 := hq j (by omega)
    by_cases hlt : gi q j - gi q (j + 1) < 0
    · rw [decide_eq_false (fun h => by have := h j (by omega); omega)]
      repeat' (first | (refine gU ?_; first | (refine gMove ?_; refine st (ok_move rfl) rfl rfl ?_) | (refine gAssign ?_; refine st (ok_assign rfl) rfl rfl ?_) | (refine gBin ?_; refine st (ok_bin rfl rfl rfl) rfl rfl ?_)) | (refine fU ?_; first | (refine fMove ?_; refine frA (ok_move rfl) rfl ?_) | (refine fLoad ?_; refine frA (ok_load rfl (by first | exact hc1 | exact hc2)) rfl ?_) | (refine fSub ?_; refine frA (ok_sub rfl rfl (by omega) (by omega)) rfl ?_) | (refine fBin ?_; refine frA (ok_bin rfl rfl rfl) rfl ?_) | (refine fIA ?_; refine frA (ok_idx rfl rfl (by omega) (by omega)) rfl ?_) | (refine fCall ?_; refine frA (ok_call rfl rfl rfl (by exact Ev.nil (sub80_ok _ _ (by omega) (by omega)) rfl rfl rfl)) rfl ?_)) | (refine fr_stop ⟨by kernel_rfl, ?_⟩) | refine W_seq ?_ | refine W_region ?_ | refine W_regionD (by kernel_rfl) rfl ?_ | refine st_nil ?_ | refine tq_n ?_ | refine tq_r ?_ | refine bq_r ?_ | refine W_skip ?_ | refine W_ret ?_ | refine W_block ?_ | refine W_condTA rfl ?_)
      exact ret0 (.tmp rfl .nil) (.plain rfl rfl) ⟨rfl, rfl⟩
    · repeat' (first | (refine gU ?_; first | (refine gMove ?_; refine st (ok_move rfl) rfl rfl ?_) | (refine gAssign ?_; refine st (ok_assign rfl) rfl rfl ?_) | (refine gSub ?_; refine st (ok_sub rfl rfl (by omega) (by omega)) rfl rfl ?_) | (refine gBin ?_; refine st (ok_bin rfl rfl rfl) rfl rfl ?_)) | (refine fU ?_; first | (refine fMove ?_; refine frA (ok_move rfl) rfl ?_) | (refine fLoad ?_; refine frA (ok_load rfl (by first | exact hc1 | exact hc2)) rfl ?_) | (refine fSub ?_; refine frA (ok_sub rfl rfl (by omega) (by omega)) rfl ?_) | (refine fBin ?_; refine frA (ok_bin rfl rfl rfl) rfl ?_) | (refine fIA ?_; refine frA (ok_idx rfl rfl (by omega) (by omega)) rfl ?_) | (refine fCall ?_; refine frA (ok_call rfl rfl rfl (by exact Ev.nil (sub80_ok _ _ (by omega) (by omega)) rfl rfl rfl)) rfl ?_)) | (refine fr_stop ⟨by kernel_rfl, ?_⟩) | refine W_seq ?_ | refine W_region ?_ | refine W_regionD (by kernel_rfl) rfl ?_ | refine st_nil ?_ | refine tq_n ?_ | refine bq_n ?_ | refine W_skip ?_ | refine W_block ?_ | refine W_condTA rfl ?_ | refine W_condFA rfl ?_)
      refine ⟨rfl, (j : Int) + 1 - 1, ⟨by omega, by omega, fun k hk hk2 => ?_⟩, by omega, .same ⟨rfl, rfl, rfl, trivial⟩⟩
      by_cases hkj : k = j
      · subst hkj; omega
      · exact hall k (by omega) hk2
  · rw [decide_eq_true (show downL q from fun j hj => hall j (by omega) hj)]
    repeat' (first | (refine gU ?_; first | (refine gMove ?_; refine st (ok_move rfl) rfl rfl ?_) | (refine gAssign ?_; refine st (ok_assign rfl) rfl rfl ?_) | (refine gBin ?_; refine st (ok_bin rfl rfl rfl) rfl rfl ?_)) | refine W_seq ?_ | refine W_region ?_ | refine st_nil ?_ | refine tq_n ?_ | refine tq_e ?_ | refine bq_hit rfl ?_ | refine W_exit ?_ | refine W_ret ?_ | refine W_condFA rfl ?_)
    exact ret0 (.tmp rfl .nil) (.plain rfl rfl) ⟨rfl, rfl⟩
theorem sorted_ev {σ : Heap} {q : List Int} {n x c : Nat} (hn : q.length = n) (hx : arrAt σ x (ints q)) (hN : n ≤ 1000000) (hq : ∀ i < q.length, -1000 ≤ gi q i ∧ gi q i ≤ 1000) (hni : σ.all (fun o => !isIter o) = true) :
    Ev Try.prog 79 [.slice (some ⟨x, 0, none⟩) n c, .func (.func 80) #[] #[]] σ (.bool (decide (downL q))) σ := by
  subst hn
  exact Ev.arrs [ints q] [x] (sorted_ok q c hN hq) ⟨hx, trivial⟩ ⟨by simpa [bsR] using VQ.slice (q := true) (n := 1) (ρ := bsR [x]) 0 0 q.length c c (Nat.le_refl _) (by omega), vrel_plain _ rfl, trivial⟩ (by simp [ints_plain]) rfl hni
theorem rowOf_bad {q : List Int} (h : ¬ (q.length = 7 ∧ ¬ badIx (-1) 100 q ≥ 0)) : rowV (rowOf q) = rowV (fun _ => 0) ∧ ¬ isRowP q := by
  refine ⟨by unfold rowOf; rw [if_neg h], fun hr => h ⟨hr.1, hr.2.1⟩⟩
theorem toRow_ok (q : List Int) (c : Nat) (hN : q.length ≤ 1000000) :
    Ev Try.prog 64 [.slice (some ⟨0, 0, none⟩) q.length c] [.ro (ints q)] (.tuple #[rowV (rowOf q), .bool (decide (isRowP q))]) [.ro (ints q)] := by
  by_cases h7 : (q.length : Int) = 7
  · by_cases hb : badIx (-1) 100 q ≥ 0
    · obtain ⟨e1, e2⟩ := rowOf_bad (q := q) (fun h => h.2 hb)
      rw [e1, decide_eq_false e2]
      have h7' : ¬ (q.length : Int) ≠ 7 := by omega
      refine acall_intro 1 20 Try.func64 rfl rfl rfl rfl rfl ?_
      repeat' (first | (refine gU ?_; first | (refine gMove ?_; refine st (ok_move rfl) rfl rfl ?_) | (refine gAssign ?_; refine st (ok_assign rfl) rfl rfl ?_) | (refine gLoad ?_; refine st (ok_loadA rfl (by rfl)) rfl rfl ?_) | (refine gBin ?_; refine st (ok_bin rfl rfl rfl) rfl rfl ?_) | (refine gLen ?_; refine st (ok_len rfl) rfl rfl ?_) | (refine gPick ?_; refine st (ok_pickFA rfl rfl) rfl rfl ?_) | (refine gAlloc ?_; refine st (ok_alloc rfl) rfl rfl ?_) | (refine gStore ?_; refine stN (ok_store rfl rfl rfl rfl (by rfl)) rfl ?_)) | (refine gG ?_; first | (refine gMove ?_; refine stGA rfl (ok_move rfl) rfl rfl ?_) | (refine gNot ?_; refine stGA rfl (ok_notD rfl) rfl rfl ?_) | (refine gCall ?_; refine stGA rfl (ok_call rfl rfl rfl (by exact within_ev (by exact .inl rfl) (by omega) rfl)) rfl rfl ?_)) | refine W_seq ?_ | refine W_region ?_ | refine st_nil ?_ | refine tq_n ?_ | refine tq_r ?_ | refine W_ret ?_ | refine W_condTA rfl ?_)
      exact ret0 (.cellN inferInstance rfl rfl (.tmp rfl .nil)) (.plain rfl rfl) ⟨rfl, rfl⟩
    · have hin : ∀ i < q.length, -1000 ≤ gi q i ∧ gi q i ≤ 1000 := fun i hi => by
        have := mt (badIx_iff (lo := -1) (hi := 100) (l := q)).2 hb
        have h2 : ¬ (gi q i < -1 ∨ gi q i > 100) := fun h => this ⟨i, hi, h⟩
        omega
      obtain ⟨a0, a1, a2, a3, a4, a5, a6, rfl⟩ : ∃ a0 a1 a2 a3 a4 a5 a6, q = [a0, a1, a2, a3, a4, a5, a6] := by
        match q, h7 with
        | [a0, a1, a2, a3, a4, a5, a6], _ => exact ⟨a0, a1, a2, a3, a4, a5, a6, rfl⟩
        | [], h => cases h
        | [_], h => cases h
        | [_, _], h => cases h
        | [_, _, _], h => cases h
        | [_, _, _, _], h => cases h
        | [_, _, _, _, _], h => cases h
        | [_, _, _, _, _, _], h => cases h
        | _ :: _ :: _ :: _ :: _ :: _ :: _ :: _ :: r, h => simp at h; omega
      have e1 : rowV (rowOf [a0, a1, a2, a3, a4, a5, a6]) = .agg #[.int .i64 a0, .int .i64 a1, .int .i64 a2, .int .i64 a3, .int .i64 a4, .int .i64 a5, .int .i64 a6] := by unfold rowOf; rw [if_pos ⟨rfl, hb⟩]; rfl
      have e2 : decide (isRowP [a0, a1, a2, a3, a4, a5, a6]) = decide (downL [a0, a1, a2, a3, a4, a5, a6]) := decide_eq_decide.2 ⟨fun h => h.2.2, fun h => ⟨rfl, hb, h⟩⟩
      rw [e1, e2]
      have hsort := sorted_ev (σ := [.ro (ints [a0, a1, a2, a3, a4, a5, a6]), .rw (rowC fun _ => 0), .rw (ints [a0, a1, a2, a3, a4, a5, a6])]) (q := [a0, a1, a2, a3, a4, a5, a6]) (n := 7) (x := 0) (c := c) rfl (.inl rfl) (by omega) hin rfl
      have hb' : ¬ ¬ ¬ badIx (-1) 100 [a0, a1, a2, a3, a4, a5, a6] ≥ 0 := by omega
      refine acall_intro 1 20 Try.func64 rfl rfl rfl rfl rfl ?_
      repeat' (first | (refine gU ?_; first | (refine gMove ?_; refine st (ok_move rfl) rfl rfl ?_) | (refine gAssign ?_; refine st (ok_assign rfl) rfl rfl ?_) | (refine gBin ?_; refine st (ok_bin rfl rfl rfl) rfl rfl ?_) | (refine gLen ?_; refine st (ok_len rfl) rfl rfl ?_) | (refine gPick ?_; refine st (ok_pickFA rfl rfl) rfl rfl ?_) | (refine gSlice ?_; refine st (ok_sliceA rfl) rfl rfl ?_) | (refine gAlloc ?_; refine st (ok_alloc rfl) rfl rfl ?_) | (refine gCopy ?_; refine st (ok_copy rfl rfl (by omega) (by rfl) (by rfl) (by rfl)) rfl rfl ?_) | (refine gStore ?_; refine stN (ok_store rfl rfl rfl rfl (by rfl)) rfl ?_)) | (refine gG ?_; first | (refine gMove ?_; refine stGA rfl (ok_move rfl) rfl rfl ?_) | (refine gNot ?_; refine stGA rfl (ok_notD rfl) rfl rfl ?_) | (refine gCall ?_; refine stGA rfl (ok_call rfl rfl rfl (by exact within_ev (by exact .inl rfl) (by omega) rfl)) rfl rfl ?_)) | (refine fU ?_; first | (refine fMove ?_; refine frA (ok_move rfl) rfl ?_) | (refine fLoad ?_; refine frA (ok_loadA rfl (by rfl)) rfl ?_) | (refine fCall ?_; refine frA (ok_call rfl rfl rfl (by exact hsort)) rfl ?_)) | (refine fr_stop ⟨by kernel_rfl, ?_⟩) | refine W_seq ?_ | refine W_region ?_ | refine W_regionD (by kernel_rfl) rfl ?_ | refine st_nil ?_ | refine tq_n ?_ | refine W_skip ?_ | refine W_ret ?_ | refine W_condFA rfl ?_)
      exact ret0 (.cellN inferInstance rfl rfl (.tmp rfl .nil)) (.plain rfl rfl) ⟨rfl, rfl⟩
  · obtain ⟨e1, e2⟩ := rowOf_bad (q := q) (fun h => h7 (by omega))
    rw [e1, decide_eq_false e2]
    refine acall_intro 1 20 Try.func64 rfl rfl rfl rfl rfl ?_
    repeat' (first | (refine gU ?_; first | (refine gMove ?_; refine st (ok_move rfl) rfl rfl ?_) | (refine gAssign ?_; refine st (ok_assign rfl) rfl rfl ?_) | (refine gLoad ?_; refine st (ok_loadA rfl (by rfl)) rfl rfl ?_) | (refine gBin ?_; refine st (ok_bin rfl rfl rfl) rfl rfl ?_) | (refine gLen ?_; refine st (ok_len rfl) rfl rfl ?_) | (refine gPick ?_; refine st (ok_pickTA rfl rfl) rfl rfl ?_) | (refine gAlloc ?_; refine st (ok_alloc rfl) rfl rfl ?_) | (refine gStore ?_; refine stN (ok_store rfl rfl rfl rfl (by rfl)) rfl ?_)) | (refine gG ?_; refine stSA rfl rfl ?_) | refine W_seq ?_ | refine W_region ?_ | refine st_nil ?_ | refine tq_n ?_ | refine tq_r ?_ | refine W_ret ?_ | refine W_condTA rfl ?_)
    exact ret0 (.cellN inferInstance rfl rfl (.tmp rfl .nil)) (.plain rfl rfl) ⟨rfl, rfl⟩
theorem toRow_ev {σ : Heap} {q : List Int} {x c : Nat} (hx : arrAt σ x (ints q)) (hN : q.length ≤ 1000000) (hni : σ.all (fun o => !isIter o) = true) :
    Ev Try.prog 64 [.slice (some ⟨x, 0, none⟩) q.length c] σ (.tuple #[rowV (rowOf q), .bool (decide (isRowP q))]) σ :=
  Ev.arrs [ints q] [x] (toRow_ok q c hN) ⟨hx, trivial⟩ ⟨by simpa [bsR] using VQ.slice (q := true) (n := 1) (ρ := bsR [x]) 0 0 q.length c c (Nat.le_refl _) (by omega), trivial⟩ (by simp [ints_plain]) rfl hni
end Go.Proofs.Ytindbippegiopaa
namespace Go.AH.Hone
open Go Go.AH
def rowL (f : Nat → Int) : List Int := [f 0, f 1, f 2, f 3, f 4, f 5, f 6]
theorem rowL_congr {f g : Nat → Int} (h : ∀ b < 7, f b = g b) : rowL f = rowL g := by
  simp only [rowL, h 0 (by omega), h 1 (by omega), h 2 (by omega), h 3 (by omega), h 4 (by omega), h 5 (by omega), h 6 (by omega)]
theorem rowN_min {l : List Sn} {goal : Ed} (hl : ∀ i < l.length, ¬ badSn (gs l i)) (hg : ¬ badEd goal) (k : Nat) : sameR (rowN l goal (min k (lastN l goal))) (rowN l goal k) := by
  by_cases h : k ≤ lastN l goal
  · rw [Nat.min_eq_left h]; exact fun _ _ => rfl
  · rw [Nat.min_eq_right (by omega)]
    have := rowN_stay hl (lastN_is (l := l) hg).1 (k - lastN l goal)
    rwa [show lastN l goal + (k - lastN l goal) = k by omega] at this
end Go.AH.Hone
namespace Go.Proofs.Ytindbippegiopaa
open Go Go.AH
attribute [local irreducible] WOps WCode WFree retQ thenQ blockQ scopeQ OpOk ACall RetRef roundA roundB
set_option maxRecDepth 100000
set_option maxHeartbeats 1000000
open Go.AH.Hone
def farE (l : List Sn) (goal : Ed) (k : Int) : Int := if askE l goal goal ≠ 0 then askE l goal goal else if k < 0 ∨ k > 800 then 3 else 0
def farL (l : List Sn) (goal : Ed) (k : Int) : List Int := if farE l goal k ≠ 0 then [] else rowL (rowN l goal k.toNat)
def lastL (l : List Sn) (goal : Ed) : List Int := if askE l goal goal ≠ 0 then [] else rowL (rowN l goal (lastN l goal))
theorem far_ok (l : List Sn) (goal : Ed) (k : Int) (c : Nat) (hN : l.length ≤ 1000000) :
    Ev Try.prog 30 [.slice (some ⟨0, 0, none⟩) l.length c, goal.val, .int .i64 k] [.ro (stonesC l)] (.tuple #[.slice (some ⟨1, 0, none⟩) (farL l goal k).length (farL l goal k).length, .int .i64 (farE l goal k)]) [.ro (stonesC l), .rw (ints (farL l goal k))] := by
  by_cases ha : askE l goal goal = 0
  · obtain ⟨g1, g2, g3⟩ := askE_zero ha
    obtain ⟨_, _, hl⟩ := boxE_zero g1
    have hlast := (lastN_is (l := l) g3).2.1
    have hopen := open_evOk (σ := [.ro (stonesC l), .rw goal.cells]) (l := l) (e := goal) (goal := goal) (x := 0) (c := c) (.inl rfl) ha hN rfl
    by_cases hk : k < 0 ∨ k > 800
    · have e1 : farE l goal k = 3 := by unfold farE; rw [if_neg (by omega), if_pos hk]
      have e2 : farL l goal k = [] := by unfold farL; rw [e1]; rfl
      rw [e1, e2]
      have hk' : ¬ (0 ≤ k ∧ k ≤ 800) := by omega
      refine acall_intro 1 43 Try.func30 rfl rfl rfl rfl rfl ?_
      repeat' (first | (refine gU ?_; first | (refine gMove ?_; refine st (ok_move rfl) rfl rfl ?_) | (refine gAssign ?_; refine st (ok_assign rfl) rfl rfl ?_) | (refine gLoad ?_; refine st (ok_loadA rfl (by rfl)) rfl rfl ?_) | (refine gBin ?_; refine st (ok_bin rfl rfl rfl) rfl rfl ?_) | (refine gNot ?_; refine st (ok_notD rfl) rfl rfl ?_) | (refine gExtract ?_; refine st (ok_extract rfl rfl) rfl rfl ?_) | (refine gCall ?_; refine st (ok_call rfl rfl rfl (by first | exact hopen | exact within_ev1 (by exact .inr (.inl rfl)) rfl)) rfl rfl ?_) | (refine gBox ?_; refine st (ok_box rfl) rfl rfl ?_) | (refine gBuildS ?_; refine st (ok_buildS (by rfl) (by rfl) (by rfl) (by rfl) rfl (by rfl)) rfl rfl ?_)) | refine W_seq ?_ | refine W_region ?_ | refine st_nil ?_ | refine tq_n ?_ | refine tq_r ?_ | refine bq_r ?_ | refine W_ret ?_ | refine W_block ?_ | refine W_condTA rfl ?_ | refine W_condFA rfl ?_)
      exact ret0 (.tmp rfl (.tmp rfl .nil)) (retNil rfl rfl) ⟨rfl, rfl⟩
    · have e1 : farE l goal k = 0 := by unfold farE; rw [if_neg (by omega), if_neg hk]
      have e2 : farL l goal k = rowL (rowN l goal k.toNat) := by unfold farL; rw [e1]; rfl
      rw [e1, e2]
      have hmin := rowN_min hl g3 k.toNat
      rw [← rowL_congr hmin]
      have hix : (min k (((lastN l goal + 1 : Nat) : Int) - 1)).toNat = min k.toNat (lastN l goal) := by omega
      have hc1 : cellsAt [.ro (stonesC l), .rw goal.cells, .rw (benchC goal (.slice (some ⟨0, 0, none⟩) l.length c) (.slice (some ⟨3, 0, none⟩) (lastN l goal + 1) (lastN l goal + 1))), .rw (rowsC l goal (lastN l goal + 1)), .rw [.int .i64 k]] 3 (0 + (min k (((lastN l goal + 1 : Nat) : Int) - 1)).toNat * 7) 7 = some (rowC (rowN l goal (min k.toNat (lastN l goal)))) := by
        rw [hix]; exact row_cells (.inr (.inl rfl)) (by omega)
      generalize rowN l goal (min k.toNat (lastN l goal)) = f at *
      have hclone := clone_ev (σ := [.ro (stonesC l), .rw goal.cells, .rw (benchC goal (.slice (some ⟨0, 0, none⟩) l.length c) (.slice (some ⟨3, 0, none⟩) (lastN l goal + 1) (lastN l goal + 1))), .rw (rowsC l goal (lastN l goal + 1)), .rw [.int .i64 k], .rw (rowC f)]) (q := rowL f) (n := 7) (x := 5) (c := 7) rfl (.inr (.inl rfl)) (by omega) (by omega) rfl
      have hk' : ¬ ¬ (0 ≤ k ∧ k ≤ 800) := by omega
      refine acall_intro 1 43 Try.func30 rfl rfl rfl rfl rfl ?_
      repeat' (first | (refine gU ?_; first | (refine gMove ?_; refine st (ok_move rfl) rfl rfl ?_) | (refine gAssign ?_; refine st (ok_assign rfl) rfl rfl ?_) | (refine gLoad ?_; refine st (ok_loadA rfl (by rfl)) rfl rfl ?_) | (refine gBin ?_; refine st (ok_bin rfl rfl rfl) rfl rfl ?_) | (refine gNot ?_; refine st (ok_notD rfl) rfl rfl ?_) | (refine gExtract ?_; refine st (ok_extract rfl rfl) rfl rfl ?_) | (refine gSlice ?_; refine st (ok_sliceA rfl) rfl rfl ?_) | (refine gCall ?_; refine st (ok_call rfl rfl rfl (by first | exact hopen | exact within_ev1 (by exact .inr (.inl rfl)) rfl | exact hclone)) rfl rfl ?_) | (refine gBox ?_; refine st (ok_box rfl) rfl rfl ?_) | (refine gBuildS ?_; refine st (ok_buildS (by rfl) (by rfl) (by rfl) (by rfl) rfl (by rfl)) rfl rfl ?_) | (refine gStore ?_; refine stN (ok_store rfl rfl rfl rfl (by rfl)) rfl ?_)) | (refine fU ?_; first | (refine fMove ?_; refine frA (ok_move rfl) rfl ?_) | (refine fFA ?_; refine frA (ok_fieldAddr rfl) rfl ?_) | (refine fLoad ?_; first | refine frA (ok_load rfl (by rfl)) rfl ?_ | refine frA (ok_loadA rfl (by exact hc1)) rfl ?_) | (refine fSub ?_; refine frA (ok_sub rfl rfl (by omega) (by omega)) rfl ?_) | (refine fLen ?_; refine frA (ok_len rfl) rfl ?_) | (refine fNil ?_; refine frA (ok_nilP rfl) rfl ?_) | (refine fIA ?_; refine frA (ok_idx rfl rfl (by omega) (by omega)) rfl ?_) | (refine fMin ?_; refine frA (ok_min rfl rfl) rfl ?_) | (refine fAlloc ?_; refine fr1 (ok_alloc rfl) rfl rfl rfl ?_)) | (refine fr_stop ⟨by kernel_rfl, ?_⟩) | refine W_seq ?_ | refine W_region ?_ | refine W_regionD (by kernel_rfl) rfl ?_ | refine st_nil ?_ | refine tq_n ?_ | refine bq_n ?_ | refine W_skip ?_ | refine W_ret ?_ | refine W_block ?_ | refine W_condFA rfl ?_)
      exact ret0 (.tmp rfl (.tmp rfl .nil)) (retSl' (j := 6) rfl (ints_plain (rowL f)) (.inl rfl) rfl rfl (Nat.le_refl _)) ⟨rfl, rfl⟩
  · have e1 : farE l goal k = askE l goal goal := by unfold farE; rw [if_pos ha]
    have e2 : farL l goal k = [] := by unfold farL; rw [e1, if_pos ha]
    rw [e1, e2]
    have hopen := open_evBad (σ := [.ro (stonesC l), .rw goal.cells]) (l := l) (e := goal) (goal := goal) (x := 0) (c := c) (.inl rfl) ha hN rfl
    refine acall_intro 1 43 Try.func30 rfl rfl rfl rfl rfl ?_
    repeat' (first | (refine gU ?_; first | (refine gMove ?_; refine st (ok_move rfl) rfl rfl ?_) | (refine gAssign ?_; refine st (ok_assign rfl) rfl rfl ?_) | (refine gLoad ?_; refine st (ok_loadA rfl (by rfl)) rfl rfl ?_) | (refine gBin ?_; refine st (ok_bin rfl rfl rfl) rfl rfl ?_) | (refine gExtract ?_; refine st (ok_extract rfl rfl) rfl rfl ?_) | (refine gCall ?_; refine st (ok_call rfl rfl rfl (by exact hopen)) rfl rfl ?_) | (refine gBox ?_; refine st (ok_box rfl) rfl rfl ?_)) | refine W_seq ?_ | refine W_region ?_ | refine st_nil ?_ | refine tq_n ?_ | refine tq_r ?_ | refine bq_r ?_ | refine W_ret ?_ | refine W_block ?_ | refine W_condTA rfl ?_)
    exact ret0 (.tmp rfl (.tmp rfl .nil)) (retNil rfl rfl) ⟨rfl, rfl⟩
theorem last_ok (l : List Sn) (goal : Ed) (c : Nat) (hN : l.length ≤ 1000000) :
    Ev Try.prog 32 [.slice (some ⟨0, 0, none⟩) l.length c, goal.val] [.ro (stonesC l)] (.tuple #[.slice (some ⟨1, 0, none⟩) (lastL l goal).length (lastL l goal).length, .int .i64 (askE l goal goal)]) [.ro (stonesC l), .rw (ints (lastL l goal))] := by
  unfold lastL
  by_cases ha : askE l goal goal = 0
  · rw [if_neg (by omega), ha]
    obtain ⟨g1, g2, g3⟩ := askE_zero ha
    obtain ⟨_, _, hl⟩ := boxE_zero g1
    have hlast := (lastN_is (l := l) g3).2.1
    have hopen := open_evOk (σ := [.ro (stonesC l), .rw goal.cells]) (l := l) (e := goal) (goal := goal) (x := 0) (c := c) (.inl rfl) ha hN rfl
    have hix : (((lastN l goal + 1 : Nat) : Int) - 1).toNat = lastN l goal := by omega
    have hc1 : cellsAt [.ro (stonesC l), .rw goal.cells, .rw (benchC goal (.slice (some ⟨0, 0, none⟩) l.length c) (.slice (some ⟨3, 0, none⟩) (lastN l goal + 1) (lastN l goal + 1))), .rw (rowsC l goal (lastN l goal + 1))] 3 (0 + (((lastN l goal + 1 : Nat) : Int) - 1).toNat * 7) 7 = some (rowC (rowN l goal (lastN l goal))) := by
      rw [hix]; exact row_cells (.inr (.inl rfl)) (by omega)
    generalize rowN l goal (lastN l goal) = f at *
    have hclone := clone_ev (σ := [.ro (stonesC l), .rw goal.cells, .rw (benchC goal (.slice (some ⟨0, 0, none⟩) l.length c) (.slice (some ⟨3, 0, none⟩) (lastN l goal + 1) (lastN l goal + 1))), .rw (rowsC l goal (lastN l goal + 1)), .rw (rowC f)]) (q := rowL f) (n := 7) (x := 4) (c := 7) rfl (.inr (.inl rfl)) (by omega) (by omega) rfl
    refine acall_intro 1 33 Try.func32 rfl rfl rfl rfl rfl ?_
    repeat' (first | (refine gU ?_; first | (refine gMove ?_; refine st (ok_move rfl) rfl rfl ?_) | (refine gAssign ?_; refine st (ok_assign rfl) rfl rfl ?_) | (refine gLoad ?_; refine st (ok_loadA rfl (by rfl)) rfl rfl ?_) | (refine gBin ?_; refine st (ok_bin rfl rfl rfl) rfl rfl ?_) | (refine gExtract ?_; refine st (ok_extract rfl rfl) rfl rfl ?_) | (refine gSlice ?_; refine st (ok_sliceA rfl) rfl rfl ?_) | (refine gCall ?_; refine st (ok_call rfl rfl rfl (by first | exact hopen | exact hclone)) rfl rfl ?_) | (refine gBox ?_; refine st (ok_box rfl) rfl rfl ?_) | (refine gStore ?_; refine stN (ok_store rfl rfl rfl rfl (by rfl)) rfl ?_)) | (refine fU ?_; first | (refine fMove ?_; refine frA (ok_move rfl) rfl ?_) | (refine fFA ?_; refine frA (ok_fieldAddr rfl) rfl ?_) | (refine fLoad ?_; first | refine frA (ok_load rfl (by rfl)) rfl ?_ | refine frA (ok_loadA rfl (by exact hc1)) rfl ?_) | (refine fSub ?_; refine frA (ok_sub rfl rfl (by omega) (by omega)) rfl ?_) | (refine fLen ?_; refine frA (ok_len rfl) rfl ?_) | (refine fNil ?_; refine frA (ok_nilP rfl) rfl ?_) | (refine fIA ?_; refine frA (ok_idx rfl rfl (by omega) (by omega)) rfl ?_) | (refine fAlloc ?_; refine fr1 (ok_alloc rfl) rfl rfl rfl ?_)) | (refine fr_stop ⟨by kernel_rfl, ?_⟩) | refine W_seq ?_ | refine W_region ?_ | refine W_regionD (by kernel_rfl) rfl ?_ | refine st_nil ?_ | refine tq_n ?_ | refine W_skip ?_ | refine W_ret ?_ | refine W_condFA rfl ?_)
    exact ret0 (.tmp rfl (.tmp rfl .nil)) (retSl' (j := 5) rfl (ints_plain (rowL f)) (.inl rfl) rfl rfl (Nat.le_refl _)) ⟨rfl, rfl⟩
  · rw [if_pos ha]
    have hopen := open_evBad (σ := [.ro (stonesC l), .rw goal.cells]) (l := l) (e := goal) (goal := goal) (x := 0) (c := c) (.inl rfl) ha hN rfl
    refine acall_intro 1 33 Try.func32 rfl rfl rfl rfl rfl ?_
    repeat' (first | (refine gU ?_; first | (refine gMove ?_; refine st (ok_move rfl) rfl rfl ?_) | (refine gAssign ?_; refine st (ok_assign rfl) rfl rfl ?_) | (refine gLoad ?_; refine st (ok_loadA rfl (by rfl)) rfl rfl ?_) | (refine gBin ?_; refine st (ok_bin rfl rfl rfl) rfl rfl ?_) | (refine gExtract ?_; refine st (ok_extract rfl rfl) rfl rfl ?_) | (refine gCall ?_; refine st (ok_call rfl rfl rfl (by exact hopen)) rfl rfl ?_) | (refine gBox ?_; refine st (ok_box rfl) rfl rfl ?_)) | refine W_seq ?_ | refine W_region ?_ | refine st_nil ?_ | refine tq_n ?_ | refine tq_r ?_ | refine W_ret ?_ | refine W_condTA rfl ?_)
    exact ret0 (.tmp rfl (.tmp rfl .nil)) (retNil rfl rfl) ⟨rfl, rfl⟩
theorem last_ev {σ : Heap} {l : List Sn} {goal : Ed} {x c : Nat} (hx : arrAt σ x (stonesC l)) (hN : l.length ≤ 1000000) (hni : σ.all (fun o => !isIter o) = true) :
    Ev Try.prog 32 [.slice (some ⟨x, 0, none⟩) l.length c, goal.val] σ (.tuple #[.slice (some ⟨σ.length, 0, none⟩) (lastL l goal).length (lastL l goal).length, .int .i64 (askE l goal goal)]) (σ ++ [.rw (ints (lastL l goal))]) := by
  refine Ev.arrsN [stonesC l] [x] (last_ok l goal c hN) ⟨hx, trivial⟩ ⟨by simpa [bsR] using VQ.slice (q := true) (n := 1) (ρ := bsR [x]) 0 0 l.length c c (Nat.le_refl _) (by omega), vrel_plain _ rfl, trivial⟩ (by simp [stonesC_plain]) rfl ?_ ?_ hni
  · simp [ren, renA, renL, shf]
  · simp only [List.map_cons, List.map_nil, renO, renL_plain _ (ints_plain _)]
def neverE (l : List Sn) (e goal : Ed) (q : List Int) : Int :=
  if askE l e goal ≠ 0 then askE l e goal else if ¬ isRowP q then 3 else if ¬ coversP goal (gi q) ∨ ¬ lvP l (gi q) (gi q) ∨ inR (gi q) e then 14 else 0
theorem rowOf_good {q : List Int} (h : isRowP q) : rowOf q = gi q ∧ ∀ b < 7, -1 ≤ gi q b ∧ gi q b ≤ 100 := by
  refine ⟨by unfold rowOf; rw [if_pos ⟨h.1, h.2.1⟩], fun b hb => ?_⟩
  have := mt (badIx_iff (lo := -1) (hi := 100) (l := q)).2 h.2.1
  have h2 : ¬ (gi q b < -1 ∨ gi q b > 100) := fun h' => this ⟨b, by have := h.1; omega, h'⟩
  omega
theorem never_ok (l : List Sn) (e goal : Ed) (q : List Int) (c c2 : Nat) (hN : l.length ≤ 1000000) (hM : q.length ≤ 1000000) :
    Ev Try.prog 34 [.slice (some ⟨0, 0, none⟩) l.length c, e.val, goal.val, .slice (some ⟨1, 0, none⟩) q.length c2] [.ro (stonesC l), .ro (ints q)] (.int .i64 (neverE l e goal q)) [.ro (stonesC l), .ro (ints q)] := by
  unfold neverE
  by_cases ha : askE l e goal = 0
  · rw [if_neg (by omega)]
    obtain ⟨g1, hev, g3⟩ := askE_zero ha
    obtain ⟨_, _, hl⟩ := boxE_zero g1
    have hopen := open_evOk (σ := [.ro (stonesC l), .ro (ints q), .rw e.cells, .rw goal.cells]) (l := l) (e := e) (goal := goal) (x := 0) (c := c) (.inl rfl) ha hN rfl
    have htr := toRow_ev (σ := [.ro (stonesC l), .ro (ints q), .rw e.cells, .rw goal.cells, .rw (benchC goal (.slice (some ⟨0, 0, none⟩) l.length c) (.slice (some ⟨5, 0, none⟩) (lastN l goal + 1) (lastN l goal + 1))), .rw (rowsC l goal (lastN l goal + 1))]) (q := q) (x := 1) (c := c2) (.inl rfl) hM rfl
    by_cases hr : isRowP q
    · rw [if_neg (fun h => h hr)]
      obtain ⟨e1, hqb⟩ := rowOf_good hr
      rw [e1] at htr
      have hr' : ¬¬ isRowP q := fun h => h hr
      have hcov := covers_ev (σ := [.ro (stonesC l), .ro (ints q), .rw e.cells, .rw goal.cells, .rw (benchC goal (.slice (some ⟨0, 0, none⟩) l.length c) (.slice (some ⟨5, 0, none⟩) (lastN l goal + 1) (lastN l goal + 1))), .rw (rowsC l goal (lastN l goal + 1)), .rw (rowC (gi q))]) (l := l) (goal := goal) (p := 4) (x := 0) (y := 5) (c := c) (f := gi q) ⟨.inr (.inl rfl), .inl rfl, .inr (.inl rfl)⟩ g3 rfl
      have hlv := leaves_ev (σ := [.ro (stonesC l), .ro (ints q), .rw e.cells, .rw goal.cells, .rw (benchC goal (.slice (some ⟨0, 0, none⟩) l.length c) (.slice (some ⟨5, 0, none⟩) (lastN l goal + 1) (lastN l goal + 1))), .rw (rowsC l goal (lastN l goal + 1)), .rw (rowC (gi q))]) (l := l) (goal := goal) (p := 4) (x := 0) (y := 5) (c := c) (f := gi q) (g := gi q) ⟨.inr (.inl rfl), .inl rfl, .inr (.inl rfl)⟩ hqb hl hN rfl
      generalize gi q = f at *
      by_cases h1 : coversP goal f
      · have h1' : ¬¬ coversP goal f := fun h => h h1
        by_cases h2 : lvP l f f
        · have h2' : ¬¬ lvP l f f := fun h => h h2
          by_cases h3 : inR f e
          · rw [if_pos (.inr (.inr h3))]
            refine acall_intro 2 48 Try.func34 rfl rfl rfl rfl rfl ?_
            repeat' (first | (refine gU ?_; first | (refine gMove ?_; refine st (ok_move rfl) rfl rfl ?_) | (refine gAssign ?_; refine st (ok_assign rfl) rfl rfl ?_) | (refine gLoad ?_; refine st (ok_loadA rfl (by rfl)) rfl rfl ?_) | (refine gBin ?_; refine st (ok_bin rfl rfl rfl) rfl rfl ?_) | (refine gPick ?_; refine st (ok_pickFA rfl rfl) rfl rfl ?_) | (refine gNot ?_; refine st (ok_notD rfl) rfl rfl ?_) | (refine gExtract ?_; refine st (ok_extract rfl rfl) rfl rfl ?_) | (refine gCall ?_; refine st (ok_call rfl rfl rfl (by first | exact hopen | exact htr | exact hcov)) rfl rfl ?_) | (refine gBox ?_; refine st (ok_box rfl) rfl rfl ?_) | (refine gAlloc ?_; refine st (ok_alloc rfl) rfl rfl ?_) | (refine gStore ?_; refine stN (ok_store rfl rfl rfl rfl (by rfl)) rfl ?_)) | (refine gG ?_; first | (refine gMove ?_; refine stGA rfl (ok_move rfl) rfl rfl ?_) | (refine gLoad ?_; refine stGA rfl (ok_loadA rfl (by rfl)) rfl rfl ?_) | (refine gNot ?_; refine stGA rfl (ok_notD rfl) rfl rfl ?_) | (refine gCall ?_; refine stGA rfl (ok_call rfl rfl rfl (by first | exact hlv | exact has_ev hev (by rfl))) rfl rfl ?_)) | refine W_seq ?_ | refine W_region ?_ | refine st_nil ?_ | refine tq_n ?_ | refine tq_r ?_ | refine bq_r ?_ | refine W_skip ?_ | refine W_ret ?_ | refine W_block ?_ | refine W_condTA rfl ?_ | refine W_condFA rfl ?_)
            exact ret0 (.tmp rfl .nil) (.plain rfl rfl) ⟨rfl, rfl⟩
          · rw [if_neg (fun h => h.elim (fun h => h h1) (fun h => h.elim (fun h => h h2) h3))]
            refine acall_intro 2 48 Try.func34 rfl rfl rfl rfl rfl ?_
            repeat' (first | (refine gU ?_; first | (refine gMove ?_; refine st (ok_move rfl) rfl rfl ?_) | (refine gAssign ?_; refine st (ok_assign rfl) rfl rfl ?_) | (refine gLoad ?_; refine st (ok_loadA rfl (by rfl)) rfl rfl ?_) | (refine gBin ?_; refine st (ok_bin rfl rfl rfl) rfl rfl ?_) | (refine gPick ?_; refine st (ok_pickFA rfl rfl) rfl rfl ?_) | (refine gNot ?_; refine st (ok_notD rfl) rfl rfl ?_) | (refine gExtract ?_; refine st (ok_extract rfl rfl) rfl rfl ?_) | (refine gCall ?_; refine st (ok_call rfl rfl rfl (by first | exact hopen | exact htr | exact hcov)) rfl rfl ?_) | (refine gBox ?_; refine st (ok_box rfl) rfl rfl ?_) | (refine gAlloc ?_; refine st (ok_alloc rfl) rfl rfl ?_) | (refine gStore ?_; refine stN (ok_store rfl rfl rfl rfl (by rfl)) rfl ?_)) | (refine gG ?_; first | (refine gMove ?_; refine stGA rfl (ok_move rfl) rfl rfl ?_) | (refine gLoad ?_; refine stGA rfl (ok_loadA rfl (by rfl)) rfl rfl ?_) | (refine gNot ?_; refine stGA rfl (ok_notD rfl) rfl rfl ?_) | (refine gCall ?_; refine stGA rfl (ok_call rfl rfl rfl (by first | exact hlv | exact has_ev hev (by rfl))) rfl rfl ?_)) | refine W_seq ?_ | refine W_region ?_ | refine st_nil ?_ | refine tq_n ?_ | refine bq_n ?_ | refine W_skip ?_ | refine W_ret ?_ | refine W_block ?_ | refine W_condFA rfl ?_)
            exact ret0 (.tmp rfl .nil) (.plain rfl rfl) ⟨rfl, rfl⟩
        · rw [if_pos (.inr (.inl h2))]
          refine acall_intro 2 48 Try.func34 rfl rfl rfl rfl rfl ?_
          repeat' (first | (refine gU ?_; first | (refine gMove ?_; refine st (ok_move rfl) rfl rfl ?_) | (refine gAssign ?_; refine st (ok_assign rfl) rfl rfl ?_) | (refine gLoad ?_; refine st (ok_loadA rfl (by rfl)) rfl rfl ?_) | (refine gBin ?_; refine st (ok_bin rfl rfl rfl) rfl rfl ?_) | (refine gPick ?_; first | refine st (ok_pickTA rfl rfl) rfl rfl ?_ | refine st (ok_pickFA rfl rfl) rfl rfl ?_) | (refine gNot ?_; refine st (ok_notD rfl) rfl rfl ?_) | (refine gExtract ?_; refine st (ok_extract rfl rfl) rfl rfl ?_) | (refine gCall ?_; refine st (ok_call rfl rfl rfl (by first | exact hopen | exact htr | exact hcov)) rfl rfl ?_) | (refine gBox ?_; refine st (ok_box rfl) rfl rfl ?_) | (refine gAlloc ?_; refine st (ok_alloc rfl) rfl rfl ?_) | (refine gStore ?_; refine stN (ok_store rfl rfl rfl rfl (by rfl)) rfl ?_)) | (refine gG ?_; first | (refine gMove ?_; refine stGA rfl (ok_move rfl) rfl rfl ?_) | (refine gLoad ?_; refine stGA rfl (ok_loadA rfl (by rfl)) rfl rfl ?_) | (refine gNot ?_; refine stGA rfl (ok_notD rfl) rfl rfl ?_) | (refine gCall ?_; refine stGA rfl (ok_call rfl rfl rfl (by exact hlv)) rfl rfl ?_) | refine stSA rfl rfl ?_) | refine W_seq ?_ | refine W_region ?_ | refine st_nil ?_ | refine tq_n ?_ | refine tq_r ?_ | refine bq_r ?_ | refine W_skip ?_ | refine W_ret ?_ | refine W_block ?_ | refine W_condTA rfl ?_ | refine W_condFA rfl ?_)
          exact ret0 (.tmp rfl .nil) (.plain rfl rfl) ⟨rfl, rfl⟩
      · rw [if_pos (.inl h1)]
        refine acall_intro 2 48 Try.func34 rfl rfl rfl rfl rfl ?_
        repeat' (first | (refine gU ?_; first | (refine gMove ?_; refine st (ok_move rfl) rfl rfl ?_) | (refine gAssign ?_; refine st (ok_assign rfl) rfl rfl ?_) | (refine gLoad ?_; refine st (ok_loadA rfl (by rfl)) rfl rfl ?_) | (refine gBin ?_; refine st (ok_bin rfl rfl rfl) rfl rfl ?_) | (refine gPick ?_; refine st (ok_pickTA rfl rfl) rfl rfl ?_) | (refine gNot ?_; refine st (ok_notD rfl) rfl rfl ?_) | (refine gExtract ?_; refine st (ok_extract rfl rfl) rfl rfl ?_) | (refine gCall ?_; refine st (ok_call rfl rfl rfl (by first | exact hopen | exact htr | exact hcov)) rfl rfl ?_) | (refine gBox ?_; refine st (ok_box rfl) rfl rfl ?_) | (refine gAlloc ?_; refine st (ok_alloc rfl) rfl rfl ?_) | (refine gStore ?_; refine stN (ok_store rfl rfl rfl rfl (by rfl)) rfl ?_)) | (refine gG ?_; refine stSA rfl rfl ?_) | refine W_seq ?_ | refine W_region ?_ | refine st_nil ?_ | refine tq_n ?_ | refine tq_r ?_ | refine bq_r ?_ | refine W_skip ?_ | refine W_ret ?_ | refine W_block ?_ | refine W_condTA rfl ?_ | refine W_condFA rfl ?_)
        exact ret0 (.tmp rfl .nil) (.plain rfl rfl) ⟨rfl, rfl⟩
    · rw [if_pos hr]
      refine acall_intro 2 48 Try.func34 rfl rfl rfl rfl rfl ?_
      repeat' (first | (refine gU ?_; first | (refine gMove ?_; refine st (ok_move rfl) rfl rfl ?_) | (refine gAssign ?_; refine st (ok_assign rfl) rfl rfl ?_) | (refine gLoad ?_; refine st (ok_loadA rfl (by rfl)) rfl rfl ?_) | (refine gBin ?_; refine st (ok_bin rfl rfl rfl) rfl rfl ?_) | (refine gNot ?_; refine st (ok_notD rfl) rfl rfl ?_) | (refine gExtract ?_; refine st (ok_extract rfl rfl) rfl rfl ?_) | (refine gCall ?_; refine st (ok_call rfl rfl rfl (by first | exact hopen | exact htr)) rfl rfl ?_) | (refine gBox ?_; refine st (ok_box rfl) rfl rfl ?_) | (refine gAlloc ?_; refine st (ok_alloc rfl) rfl rfl ?_) | (refine gStore ?_; refine stN (ok_store rfl rfl rfl rfl (by rfl)) rfl ?_)) | refine W_seq ?_ | refine W_region ?_ | refine st_nil ?_ | refine tq_n ?_ | refine tq_r ?_ | refine bq_r ?_ | refine W_skip ?_ | refine W_ret ?_ | refine W_block ?_ | refine W_condTA rfl ?_ | refine W_condFA rfl ?_)
      exact ret0 (.tmp rfl .nil) (.plain rfl rfl) ⟨rfl, rfl⟩
  · rw [if_pos ha]
    have hopen := open_evBad (σ := [.ro (stonesC l), .ro (ints q), .rw e.cells, .rw goal.cells]) (l := l) (e := e) (goal := goal) (x := 0) (c := c) (.inl rfl) ha hN rfl
    refine acall_intro 2 48 Try.func34 rfl rfl rfl rfl rfl ?_
    repeat' (first | (refine gU ?_; first | (refine gMove ?_; refine st (ok_move rfl) rfl rfl ?_) | (refine gAssign ?_; refine st (ok_assign rfl) rfl rfl ?_) | (refine gLoad ?_; refine st (ok_loadA rfl (by rfl)) rfl rfl ?_) | (refine gBin ?_; refine st (ok_bin rfl rfl rfl) rfl rfl ?_) | (refine gExtract ?_; refine st (ok_extract rfl rfl) rfl rfl ?_) | (refine gCall ?_; refine st (ok_call rfl rfl rfl (by exact hopen)) rfl rfl ?_) | (refine gBox ?_; refine st (ok_box rfl) rfl rfl ?_)) | refine W_seq ?_ | refine W_region ?_ | refine st_nil ?_ | refine tq_n ?_ | refine tq_r ?_ | refine W_ret ?_ | refine W_condTA rfl ?_)
    exact ret0 (.tmp rfl .nil) (.plain rfl rfl) ⟨rfl, rfl⟩
end Go.Proofs.Ytindbippegiopaa
namespace Go.AH.Hone
open Go Go.AH
theorem stonesC_app (a b : List Sn) : stonesC (a ++ b) = stonesC a ++ stonesC b := by simp [stonesC]
theorem stonesC_takeN : ∀ (l : List Sn) (k : Nat), stonesC (l.take k) = (stonesC l).take (k * 3)
  | [], k => by simp [stonesC]
  | s :: l, 0 => by simp [stonesC]
  | s :: l, k + 1 => by
    have ih := stonesC_takeN l k
    simp only [stonesC, List.take_succ_cons, List.flatMap_cons] at ih ⊢
    rw [ih, show (k + 1) * 3 = (Sn.cells s).length + k * 3 from by simp [Sn.cells]; omega, List.take_length_add_append]
theorem stonesC_dropN (l : List Sn) (k : Nat) : stonesC (l.drop k) = (stonesC l).drop (k * 3) := by
  by_cases hk : k ≤ l.length
  · have h := stonesC_app (l.take k) (l.drop k)
    rw [List.take_append_drop] at h
    have hl : (stonesC (l.take k)).length = k * 3 := by rw [stonesC_len, List.length_take]; omega
    rw [h, ← hl, List.drop_left]
  · rw [List.drop_of_length_le (by omega), List.drop_of_length_le (by rw [stonesC_len]; omega)]; rfl
theorem ok_clearN {P : Program} {rd : Option Nat} {ty : TypeId} {e : Env} {σ : Heap} {x : Operand} {t el size bytes i o n c : Nat} {agg : Bool} {z : Value} {σ' : Heap} (m : Nat) [ha : Sl P t el] [ht : Ty P el size agg z bytes] (hz : plain z = true) (hzs : z.cells.size = size) (hx : evalO e x = some (.slice (some ⟨i, o, none⟩) n c)) (hnm : n = m) (hn : 0 < m)
    (h1 : (zcells (vcells z) m).all (·.oneCell') = true) (hp : putCells σ i o (zcells (vcells z) m) = some σ') :
    OpOk P rd (.call { callee := .builtin .clear, args := #[x], argTypes := #[t] }) ty e σ (.tuple #[]) σ' := by
  subst hnm; exact ok_clear hz hzs hx hn h1 hp
theorem retDel {o0 o1 o2 o3 o4 o5 : AObj} {cs D2 X : List Value} {i n : Nat} (_hi : i < n) (hD2l : D2.length = n * 3) (hD2t : D2.take ((n - 1) * 3) = X) (hX : plainL X = true) :
    RetRef [o0, o1, o2, o3, o4, o5, .rw cs] [o0, o1, o2, o3, o4, o5, .rw D2] (.slice (some ⟨6, 0, none⟩) (n - 1) n) (.slice (some ⟨6, 0, none⟩) (n - 1) n) [o0, o1, o2, o3, o4, o5, .rw X] := by
  refine Or.inr fun hcl => ⟨fun i => ⟨i, 0, 0⟩, ⟨by simp, fun _ _ => rfl, fun j o hj => ?_, fun i j oi oj hi hj _ _ h => h⟩, by simpa using VQ.slice (q := true) (n := 7) (ρ := fun i => ⟨i, 0, 0⟩) 6 0 (n - 1) n n (Nat.le_refl _) (by omega)⟩
  have hj7 := idx_lt hj
  simp only [List.length_cons, List.length_nil] at hj7
  by_cases h6 : j = 6
  · subst h6
    cases hj
    refine .inr ⟨rfl, D2, .inl rfl, ?_, fun k hk hk' => ?_⟩
    · rw [← hD2t, List.length_take]; omega
    · have e1 : X[k] = D2[k] := by simp only [← hD2t, List.getElem_take]
      rw [← e1]
      exact vrel_plainL _ hX k hk
  · have hs : ([o0, o1, o2, o3, o4, o5, .rw cs] : Heap)[j]? = some o ∧ ([o0, o1, o2, o3, o4, o5, .rw D2] : Heap)[j]? = some o := by
      match j, hj7, h6, hj with
      | 0, _, _, hj => exact ⟨hj, hj⟩
      | 1, _, _, hj => exact ⟨hj, hj⟩
      | 2, _, _, hj => exact ⟨hj, hj⟩
      | 3, _, _, hj => exact ⟨hj, hj⟩
      | 4, _, _, hj => exact ⟨hj, hj⟩
      | 5, _, _, hj => exact ⟨hj, hj⟩
      | 6, _, h6, _ => exact absurd rfl h6
    exact osub_refl (m := 7) (fun _ _ => rfl) (Nat.le_refl _) hj7 hs.2 (hcl j o hs.1)
theorem stonesC_cell1 (l : List Sn) : (stonesC l).all (·.oneCell') = true := by
  simp only [List.all_eq_true, stonesC, List.mem_flatMap]
  rintro v ⟨s, _, hv⟩
  simp only [Sn.cells, List.mem_cons, List.not_mem_nil, or_false] at hv
  rcases hv with rfl | rfl | rfl <;> rfl
end Go.AH.Hone
namespace Go.Proofs.Ytindbippegiopaa
open Go Go.AH
attribute [local irreducible] WOps WCode WFree retQ thenQ blockQ scopeQ OpOk ACall RetRef roundA roundB
set_option maxRecDepth 100000
set_option maxHeartbeats 1000000
open Go.AH.Hone
theorem cloneS_ok (l : List Sn) (c : Nat) (h0 : 0 < l.length) (hN : l.length ≤ 300000) :
    Ev Try.prog 71 [.slice (some ⟨0, 0, none⟩) l.length c] [.ro (stonesC l)] (.slice (some ⟨1, 0, none⟩) l.length l.length) [.ro (stonesC l), .rw (stonesC l)] := by
  have hcs : cellsAt [.ro (stonesC l), .dead] 0 0 (l.length * 3) = some (stonesC l) := by
    have := cellsAt_arr (σ := [.ro (stonesC l), .dead]) (b := 0) (cs := stonesC l) (.inl rfl)
    rw [stonesC_len] at this; rw [Nat.mul_comm]; exact this
  have hone := stonesC_cell1 l
  refine acall_intro 1 8 Try.func71 rfl rfl rfl rfl rfl ?_
  repeat' (first | (refine gU ?_; first | (refine gMove ?_; refine st (ok_move rfl) rfl rfl ?_) | (refine gAssign ?_; refine st (ok_assign rfl) rfl rfl ?_) | (refine gBin ?_; refine st (ok_eqNil rfl (by omega) rfl) rfl rfl ?_) | (refine gBuildS ?_; refine st (ok_buildS0) rfl rfl ?_) | (refine gApp ?_; refine st (ok_appendE (by rfl) rfl rfl (by exact hcs) (by omega) (by omega) (by omega)) rfl rfl ?_)) | refine W_seq ?_ | refine W_region ?_ | refine st_nil ?_ | refine tq_n ?_ | refine W_skip ?_ | refine W_ret ?_ | refine W_condFA rfl ?_)
  exact ret0 (.tmp rfl .nil) (retOne rfl (stonesC_plain _) (.inr ⟨_, rfl⟩) rfl) ⟨rfl, rfl⟩
theorem cloneS_ev {σ : Heap} {l : List Sn} {x c : Nat} (hx : arrAt σ x (stonesC l)) (h0 : 0 < l.length) (hN : l.length ≤ 300000) (hni : σ.all (fun o => !isIter o) = true) :
    Ev Try.prog 71 [.slice (some ⟨x, 0, none⟩) l.length c] σ (.slice (some ⟨σ.length, 0, none⟩) l.length l.length) (σ ++ [.rw (stonesC l)]) := by
  refine Ev.arrsN [stonesC l] [x] (cloneS_ok l c h0 hN) ⟨hx, trivial⟩ ⟨by simpa [bsR] using VQ.slice (q := true) (n := 1) (ρ := bsR [x]) 0 0 l.length c c (Nat.le_refl _) (by omega), trivial⟩ (by simp [stonesC_plain]) rfl ?_ ?_ hni
  · simp [ren, shf]
  · simp only [List.map_cons, List.map_nil, renO, renL_plain _ (stonesC_plain _)]
theorem delete_at (o0 o1 o2 o3 o4 o5 : AObj) (l : List Sn) (i : Nat) (hi : i < l.length) (hN : l.length ≤ 300000) :
    Ev Try.prog 70 [.slice (some ⟨6, 0, none⟩) l.length l.length, .int .i64 (i : Int), .int .i64 ((i + 1 : Nat) : Int)] [o0, o1, o2, o3, o4, o5, .rw (stonesC l)] (.slice (some ⟨6, 0, none⟩) (l.length - 1) l.length) [o0, o1, o2, o3, o4, o5, .rw (stonesC (wout l i))] := by
  have hll := stonesC_len l
  have hne : ¬ (i : Int) = ((i + 1 : Nat) : Int) := by omega
  have hone := stonesC_cell1 (l.drop (i + 1))
  obtain ⟨D, hD⟩ : ∃ D, splice (stonesC l) (i * 3) (stonesC (l.drop (i + 1))) = D := ⟨_, rfl⟩
  have hDl : D.length = l.length * 3 := by
    rw [← hD]; simp only [splice, List.length_append, List.length_take, List.length_drop, stonesC_len]; omega
  have hDp : plainL D = true := by
    rw [← hD]; simp only [splice]
    have tk : ∀ (q : List Value) (k : Nat), plainL q = true → plainL (q.take k) = true ∧ plainL (q.drop k) = true := fun q k h => by
      have := plainL_append (q.take k) (q.drop k)
      rw [List.take_append_drop, h] at this
      simpa using this.symm
    rw [plainL_append, plainL_append, (tk _ _ (stonesC_plain l)).1, stonesC_plain, (tk _ _ (stonesC_plain l)).2]; rfl
  have hDt : D.take ((l.length - 1) * 3) = stonesC (wout l i) := by
    rw [← hD]
    have e1 : wout l i = l.take i ++ l.drop (i + 1) := rfl
    rw [e1, stonesC_app, stonesC_takeN]
    simp only [splice]
    rw [List.take_left']
    simp only [List.length_append, List.length_take, stonesC_len, List.length_drop]; omega
  obtain ⟨D2, hD2⟩ : ∃ D2, splice D ((l.length - 1) * 3) [.int .i64 0, .int .i64 0, .int .i64 0] = D2 := ⟨_, rfl⟩
  have hD2l : D2.length = l.length * 3 := by
    rw [← hD2]; simp only [splice, List.length_append, List.length_take, List.length_drop, List.length_cons, List.length_nil]; omega
  have hD2t : D2.take ((l.length - 1) * 3) = stonesC (wout l i) := by
    rw [← hDt, ← hD2]
    simp only [splice]
    rw [List.append_assoc, List.take_left']
    rw [List.length_take]; omega
  have hput2 := putRw (σ := [o0, o1, o2, o3, o4, o5, .rw D]) (b := 6) (o := (l.length - 1) * 3) (cs' := D2) (vs := [.int .i64 0, .int .i64 0, .int .i64 0]) rfl (by simp only [List.length_cons, List.length_nil]; omega) (by omega) hD2
  have ret := retDel (o0 := o0) (o1 := o1) (o2 := o2) (o3 := o3) (o4 := o4) (o5 := o5) (cs := stonesC l) (n := l.length) hi hD2l hD2t (stonesC_plain _)
  have hz3 : zcells (vcells (Value.agg #[.int .i64 0, .int .i64 0, .int .i64 0])) 1 = [.int .i64 0, .int .i64 0, .int .i64 0] := rfl
  by_cases hm : l.length - (i + 1) = 0
  · have hDe : D = stonesC l := by
      rw [← hD, List.drop_of_length_le (by omega)]
      simp [splice, stonesC]
    have hil : l.length - 1 = i := by omega
    subst hDe
    rw [hil] at hput2 ret ⊢
    refine acall_intro 7 33 Try.func70 rfl rfl rfl rfl rfl ?_
    repeat' (first | (refine gU ?_; first | (refine gMove ?_; refine st (ok_move rfl) rfl rfl ?_) | (refine gAssign ?_; refine st (ok_assign rfl) rfl rfl ?_) | (refine gBin ?_; refine st (ok_bin rfl rfl rfl) rfl rfl ?_) | (refine gLen ?_; refine st (ok_len rfl) rfl rfl ?_) | (refine gSlice ?_; first | refine st (ok_sliceLH rfl rfl rfl (by omega) (by omega)) rfl rfl ?_ | refine st (ok_slice3 rfl rfl rfl rfl (by omega) (by omega) (by omega)) rfl rfl ?_) | (refine gApp ?_; refine st (ok_app0 rfl (by exact Nat.ble_eq.mpr (by omega)) rfl (by omega)) rfl rfl ?_)) | (refine fU ?_; first | (refine fMove ?_; refine frA (ok_move rfl) rfl ?_) | (refine fSlice ?_; first | refine frA (ok_sliceH rfl rfl (by omega)) rfl ?_ | refine frA (ok_sliceL rfl rfl (by omega) (by omega)) rfl ?_)) | (refine fr_stop ⟨by kernel_rfl, ?_⟩) | refine W_seq ?_ | refine W_region ?_ | refine W_regionD (by kernel_rfl) rfl ?_ | refine st_nil ?_ | refine tq_n ?_ | refine W_skip ?_ | refine W_condFA rfl ?_)
    refine stN (ok_clearN 1 (by rfl) (by rfl) rfl (by omega) (by omega) (by rfl) (by rw [hz3, Nat.zero_add]; exact hput2)) rfl ?_
    repeat' (first | (refine gU ?_; first | (refine gMove ?_; refine st (ok_move rfl) rfl rfl ?_) | (refine gAssign ?_; refine st (ok_assign rfl) rfl rfl ?_)) | refine W_seq ?_ | refine W_region ?_ | refine st_nil ?_ | refine tq_n ?_ | refine W_ret ?_)
    exact ret0 (.tmp rfl .nil) ret ⟨rfl, rfl⟩
  · have hput := putRw (σ := [o0, o1, o2, o3, o4, o5, .rw (stonesC l)]) (b := 6) (o := 0 + i * 3) (cs' := D) (vs := stonesC (l.drop (i + 1))) rfl (by rw [stonesC_len, stonesC_len, List.length_drop]; omega) (by omega) (by rw [Nat.zero_add]; exact hD)
    have hcs : cellsAt [o0, o1, o2, o3, o4, o5, .rw (stonesC l)] 6 (0 + (i + 1) * 3) ((l.length - (i + 1)) * 3) = some (stonesC (l.drop (i + 1))) := by
      rw [stonesC_dropN, Nat.zero_add]
      simp only [cellsAt, List.getElem?_cons_succ, List.getElem?_cons_zero]
      rw [show Nat.ble ((i + 1) * 3 + (l.length - (i + 1)) * 3) (stonesC l).length = true from Nat.ble_eq.mpr (by omega), List.take_of_length_le (by rw [List.length_drop, stonesC_len]; omega)]
      rfl
    have hlen2 : i + (l.length - (i + 1)) = l.length - 1 := by omega
    refine acall_intro 7 33 Try.func70 rfl rfl rfl rfl rfl ?_
    repeat' (first | (refine gU ?_; first | (refine gMove ?_; refine st (ok_move rfl) rfl rfl ?_) | (refine gAssign ?_; refine st (ok_assign rfl) rfl rfl ?_) | (refine gBin ?_; refine st (ok_bin rfl rfl rfl) rfl rfl ?_) | (refine gLen ?_; refine st (ok_len rfl) rfl rfl ?_) | (refine gSlice ?_; first | refine st (ok_sliceLH rfl rfl rfl (by omega) (by omega)) rfl rfl ?_ | refine st (ok_slice3 rfl rfl rfl rfl (by omega) (by omega) (by omega)) rfl rfl ?_) | (refine gApp ?_; refine st (ok_appendIn rfl rfl (by omega) (by omega) (by exact hcs) (by exact hone) (by exact hput)) rfl rfl ?_)) | (refine fU ?_; first | (refine fMove ?_; refine frA (ok_move rfl) rfl ?_) | (refine fSlice ?_; first | refine frA (ok_sliceH rfl rfl (by omega)) rfl ?_ | refine frA (ok_sliceL rfl rfl (by omega) (by omega)) rfl ?_)) | (refine fr_stop ⟨by kernel_rfl, ?_⟩) | refine W_seq ?_ | refine W_region ?_ | refine W_regionD (by kernel_rfl) rfl ?_ | refine st_nil ?_ | refine tq_n ?_ | refine W_skip ?_ | refine W_condFA rfl ?_)
    refine stN (ok_clearN 1 (by rfl) (by rfl) rfl (by omega) (by omega) (by rfl) (by rw [hz3, Nat.zero_add, hlen2]; exact hput2)) rfl ?_
    repeat' (first | (refine gU ?_; first | (refine gMove ?_; refine st (ok_move rfl) rfl rfl ?_) | (refine gAssign ?_; refine st (ok_assign rfl) rfl rfl ?_)) | refine W_seq ?_ | refine W_region ?_ | refine st_nil ?_ | refine tq_n ?_ | refine W_ret ?_)
    exact ret0 (.tmp rfl .nil) (by simp only [retV, hlen2]; exact ret) ⟨rfl, rfl⟩
end Go.Proofs.Ytindbippegiopaa
namespace Go.Proofs.Ytindbippegiopaa
open Go Go.AH
attribute [local irreducible] WOps WCode WFree retQ thenQ blockQ scopeQ OpOk ACall RetRef roundA roundB
set_option maxRecDepth 100000
set_option maxHeartbeats 1000000
open Go.AH.Hone
def spareK (l : List Sn) (e goal : Ed) : Nat → List Int
  | 0 => []
  | k + 1 => if needsV (wout l k) goal e = needsV l goal e then spareK l e goal k ++ [(k : Int)] else spareK l e goal k
def spareL (l : List Sn) (e goal : Ed) : List Int := if bestE l e goal ≠ 0 then [] else spareK l e goal l.length
theorem spareK_len (l : List Sn) (e goal : Ed) : ∀ k, (spareK l e goal k).length ≤ k
  | 0 => by simp [spareK]
  | k + 1 => by
    have := spareK_len l e goal k
    simp only [spareK]; split
    · simp; omega
    · omega
theorem hc_sp (l : List Sn) (e goal : Ed) (c : Nat) : HClosed 5 [.ro (stonesC l), .rw e.cells, .rw goal.cells, .rw (benchC goal (.slice (some ⟨0, 0, none⟩) l.length c) (.slice (some ⟨4, 0, none⟩) (lastN l goal + 1) (lastN l goal + 1))), .rw (rowsC l goal (lastN l goal + 1))] := by
  have h := slice_closed (n := 5) (i := 0) (l := l.length) (c := c) (by omega)
  have h' := slice_closed (n := 5) (i := 4) (l := lastN l goal + 1) (c := lastN l goal + 1) (by omega)
  exact ⟨plainL_closed (stonesC_plain l), plainL_closed rfl, plainL_closed rfl, ⟨by simp [benchC, closedL, closed, h.1, h'.1], by simp [benchC, okL, okV, h.2, h'.2]⟩, plainL_closed (rowsC_plain _ _ _), trivial⟩
theorem hc_sp6 (l : List Sn) (e goal : Ed) (c : Nat) (q : List Int) : HClosed 6 [.ro (stonesC l), .rw e.cells, .rw goal.cells, .rw (benchC goal (.slice (some ⟨0, 0, none⟩) l.length c) (.slice (some ⟨4, 0, none⟩) (lastN l goal + 1) (lastN l goal + 1))), .rw (rowsC l goal (lastN l goal + 1)), .gr (ints q) 3] := by
  have h := slice_closed (n := 6) (i := 0) (l := l.length) (c := c) (by omega)
  have h' := slice_closed (n := 6) (i := 4) (l := lastN l goal + 1) (c := lastN l goal + 1) (by omega)
  exact ⟨plainL_closed (stonesC_plain l), plainL_closed rfl, plainL_closed rfl, ⟨by simp [benchC, closedL, closed, h.1, h'.1], by simp [benchC, okL, okV, h.2, h'.2]⟩, plainL_closed (rowsC_plain _ _ _), plainL_closed (ints_plain q), trivial⟩
theorem spare_ok (l : List Sn) (e goal : Ed) (c : Nat) (hN : l.length ≤ 1000000) :
    Ev Try.prog 36 [.slice (some ⟨0, 0, none⟩) l.length c, e.val, goal.val] [.ro (stonesC l)] (.tuple #[.slice (some ⟨1, 0, none⟩) (spareL l e goal).length (spareL l e goal).length, .int .i64 (bestE l e goal)]) [.ro (stonesC l), .rw (ints (spareL l e goal))] := by
  unfold spareL
  by_cases h : bestE l e goal = 0
  · rw [if_neg (by omega), h]
    obtain ⟨ha, hn⟩ := bestE_zero h
    obtain ⟨g1, g2, g3⟩ := askE_zero ha
    obtain ⟨b1, b2, hl⟩ := boxE_zero g1
    have hopen := open_evOk (σ := [.ro (stonesC l), .rw e.cells, .rw goal.cells]) (l := l) (e := e) (goal := goal) (x := 0) (c := c) (.inl rfl) ha hN rfl
    have hneeds := needs_ev (σ := [.ro (stonesC l), .rw e.cells, .rw goal.cells, .rw (benchC goal (.slice (some ⟨0, 0, none⟩) l.length c) (.slice (some ⟨4, 0, none⟩) (lastN l goal + 1) (lastN l goal + 1))), .rw (rowsC l goal (lastN l goal + 1))]) (l := l) (e := e) (goal := goal) (p := 3) (x := 0) (y := 4) (c := c) ⟨.inr (.inl rfl), .inl rfl, .inr (.inl rfl)⟩ g2 g3 hl rfl
    refine acall_intro 1 53 Try.func36 rfl rfl rfl rfl rfl ?_
    repeat' (first | (refine gU ?_; first | (refine gMove ?_; refine st (ok_move rfl) rfl rfl ?_) | (refine gAssign ?_; refine st (ok_assign rfl) rfl rfl ?_) | (refine gLoad ?_; refine st (ok_loadA rfl (by rfl)) rfl rfl ?_) | (refine gBin ?_; refine st (ok_bin rfl rfl rfl) rfl rfl ?_) | (refine gLen ?_; refine st (ok_len rfl) rfl rfl ?_) | (refine gExtract ?_; refine st (ok_extract rfl rfl) rfl rfl ?_) | (refine gCall ?_; refine st (ok_call rfl rfl rfl (by first | exact hopen | exact hneeds)) rfl rfl ?_) | (refine gBox ?_; refine st (ok_box rfl) rfl rfl ?_)) | refine W_seq ?_ | refine W_region ?_ | refine st_nil ?_ | refine tq_n ?_ | refine W_skip ?_ | refine W_block ?_ | refine W_condFA rfl ?_)
    refine W_loopS (ι := Nat) (fun k => [(0, .slice (some ⟨0, 0, none⟩) l.length c), (4, .pointer (some ⟨1, 0, none⟩)), (5, .pointer (some ⟨2, 0, none⟩)), (10, .int .i64 (needsV l goal e)), (11, slvV 5 1 (spareK l e goal k).length), (30, .int .i64 (l.length : Int)), (31, .int .i64 (k : Int))])
      (fun k => [.ro (stonesC l), .rw e.cells, .rw goal.cells, .rw (benchC goal (.slice (some ⟨0, 0, none⟩) l.length c) (.slice (some ⟨4, 0, none⟩) (lastN l goal + 1) (lastN l goal + 1))), .rw (rowsC l goal (lastN l goal + 1)), .gr (ints (spareK l e goal k)) 3]) (fun k => l.length - k) (fun k => k ≤ l.length) 0 (by simp) (StRef.src [.ro (stonesC l), .rw e.cells, .rw goal.cells, .rw (benchC goal (.slice (some ⟨0, 0, none⟩) l.length c) (.slice (some ⟨4, 0, none⟩) (lastN l goal + 1) (lastN l goal + 1))), .rw (rowsC l goal (lastN l goal + 1))] [.gr [] 3] [5] (by simp) rfl (hc_sp l e goal c) rfl rfl ⟨osub_gr0, trivial⟩ (by (repeat' (first | exact trivial | refine ⟨er_plain rfl rfl, ?_⟩ | refine ⟨er_closed (m := 5) rfl (fun i hi => srcR_lt hi) (by simp) (by first | rfl | exact closed_slice rfl) rfl, ?_⟩)))) (by omega) ?_
    clear hopen hneeds
    rintro k hk
    have hkl := spareK_len l e goal k
    have hil2 : (ints (spareK l e goal k)).length = (spareK l e goal k).length * 1 := by simp [ints]
    by_cases hkl' : k < l.length
    · have hs : spareK l e goal (k + 1) = if needsV (wout l k) goal e = needsV l goal e then spareK l e goal k ++ [(k : Int)] else spareK l e goal k := rfl
      have hwl := wout_len hkl'
      have hwo := wout_ok hl hkl'
      have hclone := cloneS_ev (σ := [.ro (stonesC l), .rw e.cells, .rw goal.cells, .rw (benchC goal (.slice (some ⟨0, 0, none⟩) l.length c) (.slice (some ⟨4, 0, none⟩) (lastN l goal + 1) (lastN l goal + 1))), .rw (rowsC l goal (lastN l goal + 1)), .gr (ints (spareK l e goal k)) 3]) (l := l) (x := 0) (c := c) (.inl rfl) (by omega) (by omega) rfl
      have hdel := delete_at (.ro (stonesC l)) (.rw e.cells) (.rw goal.cells) (.rw (benchC goal (.slice (some ⟨0, 0, none⟩) l.length c) (.slice (some ⟨4, 0, none⟩) (lastN l goal + 1) (lastN l goal + 1)))) (.rw (rowsC l goal (lastN l goal + 1))) (.gr (ints (spareK l e goal k)) 3) l k hkl' (by omega)
      rw [← hwl] at hdel
      generalize wout l k = W at *
      have hnb := newBench_ev (σ := [.ro (stonesC l), .rw e.cells, .rw goal.cells, .rw (benchC goal (.slice (some ⟨0, 0, none⟩) l.length c) (.slice (some ⟨4, 0, none⟩) (lastN l goal + 1) (lastN l goal + 1))), .rw (rowsC l goal (lastN l goal + 1)), .gr (ints (spareK l e goal k)) 3, .rw (stonesC W)]) (l := W) (goal := goal) (x := 6) (c := l.length) (.inr (.inl rfl)) g3 hwo (by omega) rfl
      have hneeds2 := needs_ev (σ := [.ro (stonesC l), .rw e.cells, .rw goal.cells, .rw (benchC goal (.slice (some ⟨0, 0, none⟩) l.length c) (.slice (some ⟨4, 0, none⟩) (lastN l goal + 1) (lastN l goal + 1))), .rw (rowsC l goal (lastN l goal + 1)), .gr (ints (spareK l e goal k)) 3, .rw (stonesC W), .rw (benchC goal (.slice (some ⟨6, 0, none⟩) W.length l.length) (.slice (some ⟨8, 0, none⟩) (lastN W goal + 1) (lastN W goal + 1))), .rw (rowsC W goal (lastN W goal + 1))]) (l := W) (e := e) (goal := goal) (p := 7) (x := 6) (y := 8) (c := l.length) ⟨.inr (.inl rfl), .inr (.inl rfl), .inr (.inl rfl)⟩ g2 g3 hwo rfl
      generalize spareK l e goal k = KL at *
      by_cases hq : needsV W goal e = needsV l goal e
      · rw [if_pos hq] at hs
        have hlen : (spareK l e goal (k + 1)).length = KL.length + 1 := by rw [hs]; simp
        have hcs : ints (spareK l e goal (k + 1)) = ints KL ++ [.int .i64 (k : Int)] := by rw [hs, ints_app]
        repeat' (first | (refine gU ?_; first | (refine gMove ?_; refine st (ok_move rfl) rfl rfl ?_) | (refine gAssign ?_; refine st (ok_assign rfl) rfl rfl ?_) | (refine gLoad ?_; refine st (ok_loadA rfl (by rfl)) rfl rfl ?_) | (refine gAdd ?_; refine st (ok_inc rfl rfl (by omega)) rfl rfl ?_) | (refine gBin ?_; refine st (ok_bin rfl rfl rfl) rfl rfl ?_) | (refine gCall ?_; refine st (ok_call rfl rfl rfl (by first | exact hclone | exact hdel | exact hnb | exact hneeds2)) rfl rfl ?_) | (refine gBuildS ?_; refine st (ok_buildS (by rfl) (by rfl) (by rfl) (by rfl) rfl (by rfl)) rfl rfl ?_) | (refine gApp ?_; refine st (ok_appendV (by rfl) (by rfl) rfl (by rfl) (by exact hil2) rfl (by rfl) (by omega) (by rfl) (by omega) (by omega)) rfl rfl ?_)) | refine W_seq ?_ | refine W_region ?_ | refine W_regionA (id := 11) (by kernel_rfl) ?_ | refine st_nil ?_ | refine wa_doneA ?_ | refine wa_two 1 6 rfl rfl ?_ ?_ | refine wa_two 5 6 rfl rfl ?_ ?_ | refine wa_pureA 0 rfl rfl ?_ | refine wa_pureA 2 rfl rfl ?_ | refine wa_pureA 3 rfl rfl ?_ | refine wa_pureA 4 rfl rfl ?_ | refine wa_pureA 8 rfl rfl ?_ | refine wa_oneA 1 rfl ?_ | refine wa_oneA 5 rfl ?_ | refine wa_oneA 6 rfl ?_ | refine wa_oneA 7 rfl ?_ | refine tq_n ?_ | refine bq_n ?_ | refine W_skip ?_ | refine W_block ?_ | refine W_condTA rfl ?_)
        all_goals exact ⟨rfl, k + 1, by omega, by omega, StRef.src [.ro (stonesC l), .rw e.cells, .rw goal.cells, .rw (benchC goal (.slice (some ⟨0, 0, none⟩) l.length c) (.slice (some ⟨4, 0, none⟩) (lastN l goal + 1) (lastN l goal + 1))), .rw (rowsC l goal (lastN l goal + 1))] [.gr (ints (spareK l e goal (k + 1))) 3] [10] (by simp) rfl (hc_sp l e goal c) rfl rfl ⟨osub_gr rfl (by rw [hcs]; rfl) (ints_plain _), trivial⟩ (by (repeat' (first | exact trivial | refine ⟨er_plain rfl rfl, ?_⟩ | refine ⟨er_closed (m := 5) rfl (fun i hi => srcR_lt hi) (by simp) (by first | rfl | exact closed_slice rfl) rfl, ?_⟩ | refine ⟨er_slvV (by rw [hlen]; rfl) (by simp) rfl, ?_⟩)))⟩
      · rw [if_neg hq] at hs
        repeat' (first | (refine gU ?_; first | (refine gMove ?_; refine st (ok_move rfl) rfl rfl ?_) | (refine gAssign ?_; refine st (ok_assign rfl) rfl rfl ?_) | (refine gLoad ?_; refine st (ok_loadA rfl (by rfl)) rfl rfl ?_) | (refine gAdd ?_; refine st (ok_inc rfl rfl (by omega)) rfl rfl ?_) | (refine gBin ?_; refine st (ok_bin rfl rfl rfl) rfl rfl ?_) | (refine gCall ?_; refine st (ok_call rfl rfl rfl (by first | exact hclone | exact hdel | exact hnb | exact hneeds2)) rfl rfl ?_)) | refine W_seq ?_ | refine W_region ?_ | refine W_regionA (id := 11) (by kernel_rfl) ?_ | refine st_nil ?_ | refine wa_doneA ?_ | refine wa_two 1 6 rfl rfl ?_ ?_ | refine wa_two 5 6 rfl rfl ?_ ?_ | refine wa_pureA 0 rfl rfl ?_ | refine wa_pureA 2 rfl rfl ?_ | refine wa_pureA 3 rfl rfl ?_ | refine wa_pureA 4 rfl rfl ?_ | refine wa_pureA 8 rfl rfl ?_ | refine wa_oneA 1 rfl ?_ | refine wa_oneA 5 rfl ?_ | refine wa_oneA 6 rfl ?_ | refine wa_oneA 7 rfl ?_ | refine tq_n ?_ | refine bq_n ?_ | refine W_skip ?_ | refine W_block ?_ | refine W_condTA rfl ?_ | refine W_condFA rfl ?_)
        all_goals
          refine ⟨rfl, k + 1, by omega, by omega, ?_⟩
          rw [hs]
          exact StRef.drop [.ro (stonesC l), .rw e.cells, .rw goal.cells, .rw (benchC goal (.slice (some ⟨0, 0, none⟩) l.length c) (.slice (some ⟨4, 0, none⟩) (lastN l goal + 1) (lastN l goal + 1))), .rw (rowsC l goal (lastN l goal + 1)), .gr (ints KL) 3] [_, _, _] (by simp) (hc_sp6 l e goal c KL) (by (repeat' (first | exact trivial | exact ⟨rfl, rfl, rfl⟩ | exact ⟨rfl, closed_slice rfl, rfl⟩ | exact ⟨rfl, closed_slvV rfl, okV_slv⟩ | refine ⟨?_, ?_⟩)))
    · obtain rfl : k = l.length := by omega
      generalize spareK l e goal l.length = KL at *
      repeat' (first | (refine gU ?_; first | (refine gMove ?_; refine st (ok_move rfl) rfl rfl ?_) | (refine gAssign ?_; refine st (ok_assign rfl) rfl rfl ?_) | (refine gBin ?_; refine st (ok_bin rfl rfl rfl) rfl rfl ?_)) | refine W_seq ?_ | refine W_region ?_ | refine st_nil ?_ | refine tq_n ?_ | refine tq_e ?_ | refine bq_hit rfl ?_ | refine W_exit ?_ | refine W_ret ?_ | refine W_condFA rfl ?_)
      exact ret0 (.tmp rfl (.tmp rfl .nil)) (retSl (j := 5) rfl (ints_plain KL) (.inr ⟨3, rfl⟩) rfl rfl) ⟨rfl, rfl⟩
  · rw [if_pos h]
    unfold bestE at h ⊢
    by_cases ha : askE l e goal = 0
    · rw [if_neg (by omega)] at h ⊢
      have hn : needsV l goal e < 0 := by
        apply Classical.byContradiction; intro hn
        rw [if_neg hn] at h; exact h rfl
      rw [if_pos hn]
      obtain ⟨g1, g2, g3⟩ := askE_zero ha
      obtain ⟨_, _, hl⟩ := boxE_zero g1
      have hopen := open_evOk (σ := [.ro (stonesC l), .rw e.cells, .rw goal.cells]) (l := l) (e := e) (goal := goal) (x := 0) (c := c) (.inl rfl) ha hN rfl
      have hneeds := needs_ev (σ := [.ro (stonesC l), .rw e.cells, .rw goal.cells, .rw (benchC goal (.slice (some ⟨0, 0, none⟩) l.length c) (.slice (some ⟨4, 0, none⟩) (lastN l goal + 1) (lastN l goal + 1))), .rw (rowsC l goal (lastN l goal + 1))]) (l := l) (e := e) (goal := goal) (p := 3) (x := 0) (y := 4) (c := c) ⟨.inr (.inl rfl), .inl rfl, .inr (.inl rfl)⟩ g2 g3 hl rfl
      refine acall_intro 1 53 Try.func36 rfl rfl rfl rfl rfl ?_
      repeat' (first | (refine gU ?_; first | (refine gMove ?_; refine st (ok_move rfl) rfl rfl ?_) | (refine gAssign ?_; refine st (ok_assign rfl) rfl rfl ?_) | (refine gLoad ?_; refine st (ok_loadA rfl (by rfl)) rfl rfl ?_) | (refine gBin ?_; refine st (ok_bin rfl rfl rfl) rfl rfl ?_) | (refine gExtract ?_; refine st (ok_extract rfl rfl) rfl rfl ?_) | (refine gCall ?_; refine st (ok_call rfl rfl rfl (by first | exact hopen | exact hneeds)) rfl rfl ?_) | (refine gBox ?_; refine st (ok_box rfl) rfl rfl ?_)) | refine W_seq ?_ | refine W_region ?_ | refine st_nil ?_ | refine tq_n ?_ | refine tq_r ?_ | refine W_skip ?_ | refine W_ret ?_ | refine W_condTA rfl ?_ | refine W_condFA rfl ?_)
      exact ret0 (.tmp rfl (.tmp rfl .nil)) (retNil rfl rfl) ⟨rfl, rfl⟩
    · rw [if_pos ha]
      have hopen := open_evBad (σ := [.ro (stonesC l), .rw e.cells, .rw goal.cells]) (l := l) (e := e) (goal := goal) (x := 0) (c := c) (.inl rfl) ha hN rfl
      refine acall_intro 1 53 Try.func36 rfl rfl rfl rfl rfl ?_
      repeat' (first | (refine gU ?_; first | (refine gMove ?_; refine st (ok_move rfl) rfl rfl ?_) | (refine gAssign ?_; refine st (ok_assign rfl) rfl rfl ?_) | (refine gLoad ?_; refine st (ok_loadA rfl (by rfl)) rfl rfl ?_) | (refine gBin ?_; refine st (ok_bin rfl rfl rfl) rfl rfl ?_) | (refine gExtract ?_; refine st (ok_extract rfl rfl) rfl rfl ?_) | (refine gCall ?_; refine st (ok_call rfl rfl rfl (by exact hopen)) rfl rfl ?_) | (refine gBox ?_; refine st (ok_box rfl) rfl rfl ?_)) | refine W_seq ?_ | refine W_region ?_ | refine st_nil ?_ | refine tq_n ?_ | refine tq_r ?_ | refine W_ret ?_ | refine W_condTA rfl ?_)
      exact ret0 (.tmp rfl (.tmp rfl .nil)) (retNil rfl rfl) ⟨rfl, rfl⟩
theorem spare_ev {σ : Heap} {l : List Sn} {e goal : Ed} {x c : Nat} (hx : arrAt σ x (stonesC l)) (hL : l.length ≤ 1000000) (hni : σ.all (fun o => !isIter o) = true) :
    Ev Try.prog 36 [.slice (some ⟨x, 0, none⟩) l.length c, e.val, goal.val] σ (.tuple #[.slice (some ⟨σ.length, 0, none⟩) (spareL l e goal).length (spareL l e goal).length, .int .i64 (bestE l e goal)]) (σ ++ [.rw (ints (spareL l e goal))]) := by
  refine Ev.arrsN [stonesC l] [x] (spare_ok l e goal c hL) ⟨hx, trivial⟩ ⟨by simpa [bsR] using VQ.slice (q := true) (n := 1) (ρ := bsR [x]) 0 0 l.length c c (Nat.le_refl _) (by omega), vrel_plain _ rfl, vrel_plain _ rfl, trivial⟩ (by simp [stonesC_plain]) rfl ?_ ?_ hni
  · simp [ren, renA, renL, shf]
  · simp only [List.map_cons, List.map_nil, renO, renL_plain _ (ints_plain _)]
end Go.Proofs.Ytindbippegiopaa
namespace Go.AH.Hone
open Go Go.AH
def tabL (f : Nat → Int) : List Int := (List.range 707).map f
attribute [local irreducible] tabL
section
variable {l : List Sn} {goal : Ed} (hl : ∀ i < l.length, ¬ badSn (gs l i)) (hg : ¬ badEd goal)
include hl hg
end
def tabM (l : List Sn) (goal : Ed) (n i j : Nat) : Int := if j < i then tabV l goal ((n : Int) + 1) j else tabV l goal n j
def moreB (l : List Sn) (goal : Ed) (n i : Nat) : Bool := someB i fun j => needsV l goal (edI j) = (n : Int)
def needsL (l : List Sn) (goal : Ed) : List Int := tabL fun i => needsV l goal (edI i)
end Go.AH.Hone
namespace Go.Proofs.Ytindbippegiopaa
open Go Go.AH
attribute [local irreducible] WOps WCode WFree retQ thenQ blockQ scopeQ OpOk ACall RetRef roundA roundB
set_option maxRecDepth 100000
set_option maxHeartbeats 1000000
open Go.AH.Hone
attribute [local irreducible] Go.AH.Hone.tabL
theorem refStrokeE_ev {σ : Heap} {i : Nat} {s : Sn} (hs : ¬ badSn s) (hi : i < 707) (hni : σ.all (fun o => !isIter o) = true) : Ev Try.prog 61 [s.val, .agg #[.int .i64 ((i : Int).tdiv 7), .int .i64 ((i : Int).tmod 7)]] σ (strokeV s (edI i) ⟨0, 0⟩) σ := refStroke_ev (e := edI i) hs (edI_ok hi) hni
end Go.Proofs.Ytindbippegiopaa
namespace Go.AH.Hone
open Go Go.AH
end Go.AH.Hone
namespace Go.Proofs.Ytindbippegiopaa
open Go Go.AH
attribute [local irreducible] WOps WCode WFree retQ thenQ blockQ scopeQ OpOk ACall RetRef roundA roundB
set_option maxRecDepth 100000
set_option maxHeartbeats 1000000
open Go.AH.Hone
attribute [local irreducible] Go.AH.Hone.tabL Go.AH.Hone.needsL
end Go.Proofs.Ytindbippegiopaa
namespace Go.AH.Hone
open Go Go.AH
def oddN (q : List Int) (b : Nat) : Prop := gi q b < -1 ∨ gi q b > 100 ∨ 0 < b ∧ gi q b > gi q (b - 1)
def leavesN (l : List Sn) (f g : Nat → Int) (i : Nat) : Prop := ¬ inR f (edI i) → ∀ s < l.length, can (gs l s) (edI i) → ¬ inR g (aft (gs l s) (edI i))
theorem leavesN_iff {l : List Sn} {f g : Nat → Int} (hf : ∀ b < 7, -1 ≤ f b) : (∀ i < 707, leavesN l f g i) ↔ lvP l f g := by
  have h1 : (∀ i < 707, leavesN l f g i) ↔ leaves l f g := by
    constructor
    · intro h e he hn s hs hc
      obtain ⟨e1, e2⟩ := edI_ix he
      have := h _ e2
      unfold leavesN at this
      rw [e1] at this
      exact this hn s hs hc
    · intro h i hi hn s hs hc
      exact h _ (edI_ok hi) hn s hs hc
  rw [h1, leaves_iff hf]; rfl
end Go.AH.Hone
namespace Go.Proofs.Ytindbippegiopaa
open Go Go.AH
attribute [local irreducible] WOps WCode WFree retQ thenQ blockQ scopeQ OpOk ACall RetRef roundA roundB
set_option maxRecDepth 100000
set_option maxHeartbeats 1000000
open Go.AH.Hone
attribute [local irreducible] Go.AH.Hone.tabL Go.AH.Hone.needsL
theorem hc_rl (l : List Sn) (p q : List Int) : HClosed 3 [AObj.ro (stonesC l), .ro (ints p), .ro (ints q)] := ⟨plainL_closed (stonesC_plain l), plainL_closed (ints_plain _), plainL_closed (ints_plain _), trivial⟩
theorem refLeaves_ok (l : List Sn) (p q : List Int) (c c2 c3 : Nat) (hl : ∀ i < l.length, ¬ badSn (gs l i)) (hN : l.length ≤ 1000000) (hp : p.length = 7) (hq : q.length = 7) (hpb : ∀ b < 7, -1 ≤ gi p b) :
    Ev Try.prog 68 [.slice (some ⟨0, 0, none⟩) l.length c, .slice (some ⟨1, 0, none⟩) p.length c2, .slice (some ⟨2, 0, none⟩) q.length c3] [.ro (stonesC l), .ro (ints p), .ro (ints q)] (.bool (decide (lvP l (gi p) (gi q)))) [.ro (stonesC l), .ro (ints p), .ro (ints q)] := by
  have hiff := leavesN_iff (l := l) (f := gi p) (g := gi q) hpb
  refine acall_intro 3 53 Try.func68 rfl rfl rfl rfl rfl ?_
  repeat' (first | (refine gU ?_; (refine gAssign ?_; refine st (ok_assign rfl) rfl rfl ?_)) | refine W_seq ?_ | refine W_region ?_ | refine st_nil ?_ | refine tq_n ?_ | refine W_block ?_)
  refine W_loopS (ι := Nat) (fun i => [(0, .slice (some ⟨0, 0, none⟩) l.length c), (1, .slice (some ⟨1, 0, none⟩) p.length c2), (2, .slice (some ⟨2, 0, none⟩) q.length c3), (7, .int .i64 (i : Int))]) (fun _ => [.ro (stonesC l), .ro (ints p), .ro (ints q)]) (fun i => 707 - i) (fun i => i ≤ 707 ∧ ∀ j < i, leavesN l (gi p) (gi q) j) 0 (by simp) (.same ⟨rfl, rfl, rfl, rfl, trivial⟩) ⟨by omega, fun j hj => by omega⟩ ?_
  rintro i ⟨hi, hall⟩
  by_cases hi7 : (i : Int) < 707
  · have hi' : i < 707 := by omega
    have hbad := edI_ok hi'
    have hq1 : -9223372036854775808 ≤ (i : Int).tdiv 7 := by have : (i : Int).tdiv 7 = ((i / 7 : Nat) : Int) := rfl; omega
    have hq2 : (i : Int).tdiv 7 ≤ 9223372036854775807 := by have : (i : Int).tdiv 7 = ((i / 7 : Nat) : Int) := rfl; omega
    have hm0 : 0 ≤ (i : Int).tmod 7 := by have : (i : Int).tmod 7 = ((i % 7 : Nat) : Int) := rfl; omega
    have hm7 : (i : Int).tmod 7 < 7 := by have : (i : Int).tmod 7 = ((i % 7 : Nat) : Int) := rfl; omega
    have hc1 : cellGet [.ro (stonesC l), .ro (ints p), .ro (ints q)] 1 (0 + ((i : Int).tmod 7).toNat * 1) = some (.int .i64 (gi p (i % 7))) := by
      rw [show ((i : Int).tmod 7).toNat = i % 7 from rfl, Nat.zero_add, Nat.mul_one]
      simpa [cellGet] using ints_get (l := p) (i := i % 7) (by omega)
    have hnx : leavesN l (gi p) (gi q) i → ∀ j < i + 1, leavesN l (gi p) (gi q) j := fun h j hj => by
      by_cases hji : j = i
      · subst hji; exact h
      · exact hall j (by omega)
    by_cases hin : (i : Int).tdiv 7 ≤ gi p (i % 7)
    · have hin' : inR (gi p) (edI i) := hin
      repeat' (first | (refine gU ?_; first | (refine gMove ?_; refine st (ok_move rfl) rfl rfl ?_) | (refine gAssign ?_; refine st (ok_assign rfl) rfl rfl ?_) | (refine gLoad ?_; refine st (ok_load rfl (by exact hc1)) rfl rfl ?_) | (refine gAdd ?_; refine st (ok_inc rfl rfl (by omega)) rfl rfl ?_) | (refine gBin ?_; first | refine st (ok_bin rfl rfl rfl) rfl rfl ?_ | refine st (ok_rem rfl rfl (by decide)) rfl rfl ?_ | refine st (ok_quo64 rfl rfl (by decide) (by assumption) (by assumption)) rfl rfl ?_) | (refine gIA ?_; refine st (ok_idx rfl rfl (by omega) (by omega)) rfl rfl ?_)) | refine W_seq ?_ | refine W_region ?_ | refine st_nil ?_ | refine tq_n ?_ | refine tq_e ?_ | refine bq_hit rfl ?_ | refine W_skip ?_ | refine W_exit ?_ | refine W_block ?_ | refine W_condTA rfl ?_)
      exact ⟨rfl, i + 1, ⟨by omega, hnx fun h => absurd hin' h⟩, by omega, .same ⟨rfl, rfl, rfl, rfl, trivial⟩⟩
    · have hin' : ¬ inR (gi p) (edI i) := hin
      repeat' (first | (refine gU ?_; first | (refine gMove ?_; refine st (ok_move rfl) rfl rfl ?_) | (refine gAssign ?_; refine st (ok_assign rfl) rfl rfl ?_) | (refine gLoad ?_; refine st (ok_load rfl (by exact hc1)) rfl rfl ?_) | (refine gBin ?_; first | refine st (ok_bin rfl rfl rfl) rfl rfl ?_ | refine st (ok_rem rfl rfl (by decide)) rfl rfl ?_ | refine st (ok_quo64 rfl rfl (by decide) (by assumption) (by assumption)) rfl rfl ?_) | (refine gIA ?_; refine st (ok_idx rfl rfl (by omega) (by omega)) rfl rfl ?_)) | refine W_seq ?_ | refine W_region ?_ | refine st_nil ?_ | refine tq_n ?_ | refine W_skip ?_ | refine W_block ?_ | refine W_condTA rfl ?_ | refine W_condFA rfl ?_)
      refine W_loopS (ι := Nat) (fun s => [(0, .slice (some ⟨0, 0, none⟩) l.length c), (1, .slice (some ⟨1, 0, none⟩) p.length c2), (2, .slice (some ⟨2, 0, none⟩) q.length c3), (7, .int .i64 (i : Int)), (8, .int .i64 (s : Int))]) (fun _ => [.ro (stonesC l), .ro (ints p), .ro (ints q)]) (fun s => l.length - s) (fun s => s ≤ l.length ∧ ∀ j < s, can (gs l j) (edI i) → ¬ inR (gi q) (aft (gs l j) (edI i))) 0 (by simp) (.same ⟨rfl, rfl, rfl, rfl, rfl, trivial⟩) ⟨by omega, fun j hj => by omega⟩ ?_
      rintro s ⟨hs, hsall⟩
      by_cases hsl : (s : Int) < (l.length : Int)
      · have hsl' : s < l.length := by omega
        have hc3 := fun σ' : Heap => stone_cells (σ := .ro (stonesC l) :: σ') (x := 0) (l := l) (i := s) (.inl rfl) hsl'
        have hst := refStrokeE_ev (σ := [.ro (stonesC l), .ro (ints p), .ro (ints q)]) (i := i) (hl s hsl') hi' rfl
        have hok := aft_ok (hl s hsl') hbad
        have hbreak : can (gs l s) (edI i) → inR (gi q) (aft (gs l s) (edI i)) → ¬ lvP l (gi p) (gi q) := fun h1 h2 h => hiff.2 h i hi' hin' s hsl' h1 h2
        have hsn : (can (gs l s) (edI i) → ¬ inR (gi q) (aft (gs l s) (edI i))) → ∀ j < s + 1, can (gs l j) (edI i) → ¬ inR (gi q) (aft (gs l j) (edI i)) := fun h j hj => by
          by_cases hjs : j = s
          · subst hjs; exact h
          · exact hsall j (by omega)
        replace hsall := Hide.mk hsall
        generalize gs l s = st0 at *
        unfold strokeV at hst
        by_cases hcn : (edI i).b + st0.b ≤ 6
        · rw [if_neg (by omega)] at hst
          replace hok := hok hcn
          replace hbreak := hbreak hcn
          obtain ⟨x, hx⟩ : ∃ x, aft st0 (edI i) = x := ⟨_, rfl⟩
          rw [hx] at hst hok hbreak hsn
          unfold badEd at hok
          have hc4 : cellGet [.ro (stonesC l), .ro (ints p), .ro (ints q), .rw x.cells] 2 (0 + x.b.toNat * 1) = some (.int .i64 (gi q x.b.toNat)) := by
            rw [Nat.zero_add, Nat.mul_one]; simpa [cellGet] using ints_get (l := q) (i := x.b.toNat) (by omega)
          by_cases hxq : x.d ≤ gi q x.b.toNat
          · rw [decide_eq_false (hbreak hxq)]
            repeat' (first | (refine gU ?_; first | (refine gMove ?_; refine st (ok_move rfl) rfl rfl ?_) | (refine gAssign ?_; refine st (ok_assign rfl) rfl rfl ?_) | (refine gLoad ?_; refine st (ok_loadA rfl (by exact hc3 _)) rfl rfl ?_) | (refine gBin ?_; first | refine st (ok_bin rfl rfl rfl) rfl rfl ?_ | refine st (ok_rem rfl rfl (by decide)) rfl rfl ?_ | refine st (ok_quo64 rfl rfl (by decide) (by assumption) (by assumption)) rfl rfl ?_) | (refine gLen ?_; refine st (ok_len rfl) rfl rfl ?_) | (refine gExtract ?_; refine st (ok_extract rfl rfl) rfl rfl ?_) | (refine gIA ?_; refine st (ok_idxSN rfl rfl (by omega)) rfl rfl ?_) | (refine gBuild ?_; refine st (ok_build (by rfl) rfl (by rfl)) rfl rfl ?_) | (refine gCall ?_; refine st (ok_call rfl rfl rfl (by exact hst)) rfl rfl ?_) | (refine gAlloc ?_; refine st (ok_alloc rfl) rfl rfl ?_) | (refine gStore ?_; refine stN (ok_store rfl rfl rfl rfl (by rfl)) rfl ?_)) | (refine fU ?_; first | (refine fMove ?_; refine frA (ok_move rfl) rfl ?_) | (refine fPick ?_; refine frA (ok_pickTA rfl rfl) rfl ?_)) | (refine fG ?_; first | (refine fMove ?_; refine frGA rfl (ok_move rfl) rfl ?_) | (refine fFA ?_; refine frGA rfl (ok_fieldAddr rfl) rfl ?_) | (refine fLoad ?_; refine frGA rfl (ok_load rfl (by first | rfl | exact hc4)) rfl ?_) | (refine fBin ?_; refine frGA rfl (ok_bin rfl rfl rfl) rfl ?_) | (refine fIA ?_; refine frGA rfl (ok_idx rfl rfl (by omega) (by omega)) rfl ?_)) | (refine fr_stop ⟨by kernel_rfl, ?_⟩) | refine W_seq ?_ | refine W_region ?_ | refine W_regionD (by kernel_rfl) rfl ?_ | refine st_nil ?_ | refine tq_n ?_ | refine tq_r ?_ | refine bq_r ?_ | refine W_skip ?_ | refine W_ret ?_ | refine W_block ?_ | refine W_condTA rfl ?_)
            exact ret0 (.tmp rfl .nil) (.plain rfl rfl) ⟨rfl, rfl⟩
          · repeat' (first | (refine gU ?_; first | (refine gMove ?_; refine st (ok_move rfl) rfl rfl ?_) | (refine gAssign ?_; refine st (ok_assign rfl) rfl rfl ?_) | (refine gLoad ?_; refine st (ok_loadA rfl (by exact hc3 _)) rfl rfl ?_) | (refine gAdd ?_; refine st (ok_inc rfl rfl (by omega)) rfl rfl ?_) | (refine gBin ?_; first | refine st (ok_bin rfl rfl rfl) rfl rfl ?_ | refine st (ok_rem rfl rfl (by decide)) rfl rfl ?_ | refine st (ok_quo64 rfl rfl (by decide) (by assumption) (by assumption)) rfl rfl ?_) | (refine gLen ?_; refine st (ok_len rfl) rfl rfl ?_) | (refine gExtract ?_; refine st (ok_extract rfl rfl) rfl rfl ?_) | (refine gIA ?_; refine st (ok_idxSN rfl rfl (by omega)) rfl rfl ?_) | (refine gBuild ?_; refine st (ok_build (by rfl) rfl (by rfl)) rfl rfl ?_) | (refine gCall ?_; refine st (ok_call rfl rfl rfl (by exact hst)) rfl rfl ?_) | (refine gAlloc ?_; refine st (ok_alloc rfl) rfl rfl ?_) | (refine gStore ?_; refine stN (ok_store rfl rfl rfl rfl (by rfl)) rfl ?_)) | (refine fU ?_; first | (refine fMove ?_; refine frA (ok_move rfl) rfl ?_) | (refine fPick ?_; refine frA (ok_pickTA rfl rfl) rfl ?_)) | (refine fG ?_; first | (refine fMove ?_; refine frGA rfl (ok_move rfl) rfl ?_) | (refine fFA ?_; refine frGA rfl (ok_fieldAddr rfl) rfl ?_) | (refine fLoad ?_; refine frGA rfl (ok_load rfl (by first | rfl | exact hc4)) rfl ?_) | (refine fBin ?_; refine frGA rfl (ok_bin rfl rfl rfl) rfl ?_) | (refine fIA ?_; refine frGA rfl (ok_idx rfl rfl (by omega) (by omega)) rfl ?_)) | (refine fr_stop ⟨by kernel_rfl, ?_⟩) | refine W_seq ?_ | refine W_region ?_ | refine W_regionD (by kernel_rfl) rfl ?_ | refine st_nil ?_ | refine tq_n ?_ | refine bq_n ?_ | refine W_skip ?_ | refine W_block ?_ | refine W_condTA rfl ?_ | refine W_condFA rfl ?_)
            exact ⟨rfl, s + 1, ⟨by omega, hsn fun _ => hxq⟩, by omega, StRef.drop [.ro (stonesC l), .ro (ints p), .ro (ints q)] [_] (by simp) (hc_rl l p q) (by (repeat' (first | exact trivial | exact ⟨rfl, rfl, rfl⟩ | exact ⟨rfl, closed_slice rfl, rfl⟩ | refine ⟨?_, ?_⟩)))⟩
        · rw [if_pos (by omega)] at hst
          repeat' (first | (refine gU ?_; first | (refine gMove ?_; refine st (ok_move rfl) rfl rfl ?_) | (refine gAssign ?_; refine st (ok_assign rfl) rfl rfl ?_) | (refine gLoad ?_; refine st (ok_loadA rfl (by exact hc3 _)) rfl rfl ?_) | (refine gAdd ?_; refine st (ok_inc rfl rfl (by omega)) rfl rfl ?_) | (refine gBin ?_; first | refine st (ok_bin rfl rfl rfl) rfl rfl ?_ | refine st (ok_rem rfl rfl (by decide)) rfl rfl ?_ | refine st (ok_quo64 rfl rfl (by decide) (by assumption) (by assumption)) rfl rfl ?_) | (refine gLen ?_; refine st (ok_len rfl) rfl rfl ?_) | (refine gExtract ?_; refine st (ok_extract rfl rfl) rfl rfl ?_) | (refine gIA ?_; refine st (ok_idxSN rfl rfl (by omega)) rfl rfl ?_) | (refine gBuild ?_; refine st (ok_build (by rfl) rfl (by rfl)) rfl rfl ?_) | (refine gCall ?_; refine st (ok_call rfl rfl rfl (by exact hst)) rfl rfl ?_) | (refine gAlloc ?_; refine st (ok_alloc rfl) rfl rfl ?_) | (refine gStore ?_; refine stN (ok_store rfl rfl rfl rfl (by rfl)) rfl ?_)) | (refine fU ?_; first | (refine fMove ?_; refine frA (ok_move rfl) rfl ?_) | (refine fPick ?_; refine frA (ok_pickFA rfl rfl) rfl ?_)) | (refine fG ?_; refine frSA rfl rfl ?_) | (refine fr_stop ⟨by kernel_rfl, ?_⟩) | refine W_seq ?_ | refine W_region ?_ | refine W_regionD (by kernel_rfl) rfl ?_ | refine st_nil ?_ | refine tq_n ?_ | refine bq_n ?_ | refine W_skip ?_ | refine W_block ?_ | refine W_condTA rfl ?_ | refine W_condFA rfl ?_)
          exact ⟨rfl, s + 1, ⟨by omega, hsn fun h => absurd h hcn⟩, by omega, StRef.drop [.ro (stonesC l), .ro (ints p), .ro (ints q)] [_] (by simp) (hc_rl l p q) (by (repeat' (first | exact trivial | exact ⟨rfl, rfl, rfl⟩ | exact ⟨rfl, closed_slice rfl, rfl⟩ | refine ⟨?_, ?_⟩)))⟩
      · obtain rfl : s = l.length := by omega
        repeat' (first | (refine gU ?_; first | (refine gMove ?_; refine st (ok_move rfl) rfl rfl ?_) | (refine gAssign ?_; refine st (ok_assign rfl) rfl rfl ?_) | (refine gAdd ?_; refine st (ok_inc rfl rfl (by omega)) rfl rfl ?_) | (refine gBin ?_; refine st (ok_bin rfl rfl rfl) rfl rfl ?_) | (refine gLen ?_; refine st (ok_len rfl) rfl rfl ?_)) | refine W_seq ?_ | refine W_region ?_ | refine st_nil ?_ | refine tq_n ?_ | refine tq_e ?_ | refine bq_n ?_ | refine bq_hit rfl ?_ | refine W_exit ?_ | refine W_condFA rfl ?_)
        exact ⟨rfl, i + 1, ⟨by omega, hnx fun _ => hsall⟩, by omega, .same ⟨rfl, rfl, rfl, rfl, trivial⟩⟩
  · rw [decide_eq_true (hiff.1 fun j hj => hall j (by omega))]
    repeat' (first | (refine gU ?_; first | (refine gMove ?_; refine st (ok_move rfl) rfl rfl ?_) | (refine gAssign ?_; refine st (ok_assign rfl) rfl rfl ?_) | (refine gBin ?_; refine st (ok_bin rfl rfl rfl) rfl rfl ?_)) | refine W_seq ?_ | refine W_region ?_ | refine st_nil ?_ | refine tq_n ?_ | refine tq_e ?_ | refine bq_hit rfl ?_ | refine W_exit ?_ | refine W_ret ?_ | refine W_condFA rfl ?_)
    exact ret0 (.tmp rfl .nil) (.plain rfl rfl) ⟨rfl, rfl⟩
def rowQ (T : Nat → Int) (k : Int) (i : Nat) : Prop := 0 ≤ T i ∧ (k < 0 ∨ T i ≤ k)
instance (T : Nat → Int) (k : Int) : DecidablePred (rowQ T k) := fun i => by unfold rowQ; infer_instance
def rrowF (T : Nat → Int) (k : Int) (i : Nat) (b : Nat) : Int := rrow (rowQ T k) b i
end Go.Proofs.Ytindbippegiopaa
namespace Go.AH.Hone
open Go Go.AH
end Go.AH.Hone
namespace Go.Proofs.Ytindbippegiopaa
open Go Go.AH
attribute [local irreducible] WOps WCode WFree retQ thenQ blockQ scopeQ OpOk ACall RetRef roundA roundB
set_option maxRecDepth 100000
set_option maxHeartbeats 1000000
open Go.AH.Hone
attribute [local irreducible] Go.AH.Hone.tabL Go.AH.Hone.needsL
end Go.Proofs.Ytindbippegiopaa
namespace Go.Proofs.Ytindbippegiopaa
open Go Go.AH
attribute [local irreducible] WOps WCode WFree retQ thenQ blockQ scopeQ OpOk ACall RetRef roundA roundB
set_option maxRecDepth 100000
set_option maxHeartbeats 1000000
open Go.AH.Hone
end Go.Proofs.Ytindbippegiopaa
namespace Go.Proofs.Ytindbippegiopaa
open Go Go.AH
attribute [local irreducible] WOps WCode WFree retQ thenQ blockQ scopeQ OpOk ACall RetRef roundA roundB
set_option maxRecDepth 100000
set_option maxHeartbeats 1000000
open Go.AH.Hone
attribute [local irreducible] Go.AH.Hone.tabL Go.AH.Hone.needsL
end Go.Proofs.Ytindbippegiopaa
namespace Go.AH.Hone
open Go Go.AH
noncomputable def ind (p : Nat → Prop) (j : Nat) : Int := haveI := Classical.propDecidable (p j); if p j then 1 else 0
theorem ind_pos {p : Nat → Prop} {j : Nat} (h : p j) : ind p j = 1 := by unfold ind; simp [h]
theorem ind_neg {p : Nat → Prop} {j : Nat} (h : ¬ p j) : ind p j = 0 := by unfold ind; simp [h]
theorem ind_congr {p q : Nat → Prop} {j : Nat} (h : p j ↔ q j) : ind p j = ind q j := by
  by_cases hp : p j
  · rw [ind_pos hp, ind_pos (h.1 hp)]
  · rw [ind_neg hp, ind_neg (fun hq => hp (h.2 hq))]
theorem ind_set {p q : Nat → Prop} {i j : Nat} (h : q j ↔ p j ∨ j = i) : setF (ind p) i 1 j = ind q j := by
  unfold setF
  by_cases hj : j = i
  · rw [if_pos hj, ind_pos (h.2 (.inr hj))]
  · rw [if_neg hj]; exact ind_congr ⟨fun hp => h.2 (.inl hp), fun hq => (h.1 hq).resolve_right hj⟩
def hit (l : List Sn) (goal e : Ed) (n : Int) (i s j : Nat) : Prop := On l goal e (edI i) ∧ needsV l goal (edI i) = n ∧ can (gs l s) (edI i) ∧ needsV l goal (aft (gs l s) (edI i)) = n - 1 ∧ ixE (aft (gs l s) (edI i)) = j
def PE (l : List Sn) (goal e : Ed) (n : Int) (i s j : Nat) : Prop := (On l goal e (edI j) ∧ n ≤ needsV l goal (edI j)) ∨ ∃ i' s', i' < 707 ∧ s' < l.length ∧ (i' < i ∨ i' = i ∧ s' < s) ∧ hit l goal e n i' s' j
def QE (l : List Sn) (goal e : Ed) (n : Int) (i s k : Nat) : Prop := n = 1 ∧ ∃ i', i' < 707 ∧ k < l.length ∧ (i' < i ∨ i' = i ∧ k < s) ∧ ∃ j, hit l goal e 1 i' k j
section
variable {l : List Sn} {goal e : Ed} (hl : ∀ i < l.length, ¬ badSn (gs l i)) (hg : ¬ badEd goal) (he : ¬ badEd e)
theorem On.top {x : Ed} (h : On l goal e x) : x = e ∨ needsV l goal x < needsV l goal e := by
  cases h with
  | start => exact .inl rfl
  | step h hi hc h0 hn => right; have := h.le; omega
theorem On.inv {x : Ed} (h : On l goal e x) (hx : needsV l goal x < needsV l goal e) : ∃ y i, On l goal e y ∧ i < l.length ∧ can (gs l i) y ∧ aft (gs l i) y = x ∧ needsV l goal y = needsV l goal x + 1 := by
  cases h with
  | start => omega
  | step h hi hc h0 hn => exact ⟨_, _, h, hi, hc, rfl, hn⟩
include he in
end
noncomputable def endsK (l : List Sn) (e goal : Ed) : Nat → List Int
  | 0 => []
  | k + 1 => haveI := Classical.propDecidable (endsP l goal e k); if endsP l goal e k then endsK l e goal k ++ [(k : Int)] else endsK l e goal k
theorem endsK_len (l : List Sn) (e goal : Ed) : ∀ k, (endsK l e goal k).length ≤ k
  | 0 => by simp [endsK]
  | k + 1 => by
    have := endsK_len l e goal k
    simp only [endsK]; split
    · simp; omega
    · omega
theorem endsK_pos {l : List Sn} {e goal : Ed} {k : Nat} (h : endsP l goal e k) : endsK l e goal (k + 1) = endsK l e goal k ++ [(k : Int)] := by simp only [endsK]; rw [if_pos h]
theorem endsK_neg {l : List Sn} {e goal : Ed} {k : Nat} (h : ¬ endsP l goal e k) : endsK l e goal (k + 1) = endsK l e goal k := by simp only [endsK]; rw [if_neg h]
end Go.AH.Hone
