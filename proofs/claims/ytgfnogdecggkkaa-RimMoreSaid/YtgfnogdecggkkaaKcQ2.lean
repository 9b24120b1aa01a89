/- What CheckPoints of rim returns. -/
import Derived.Test.YtgfnogdecggkkaaKcQ1
import Derived.Test.YtgfnogdecggkkaaKcML
namespace Go.Proofs.Ytgfnogdecggkkaa
open Go Go.AH
attribute [local irreducible] WOps WCode WFree retQ thenQ blockQ OpOk ACall RetRef roundA roundB
set_option maxRecDepth 100000
set_option maxHeartbeats 1000000
def without (l : List Int) (i : Nat) : List Int := l.take i ++ l.drop (i + 1)
theorem without_len {l : List Int} {i : Nat} (h : i < l.length) : (without l i).length = l.length - 1 := by
  simp [without]; omega
theorem without_get {l : List Int} {i k : Nat} (h : i < l.length) (_hk : k < l.length - 1) : gi (without l i) k = gi l (if k < i then k else k + 1) := by
  simp only [gi, List.getD_eq_getElem?_getD, without]
  by_cases hki : k < i
  · rw [if_pos hki, List.getElem?_append_left (by simp; omega), List.getElem?_take_of_lt hki]
  · rw [if_neg hki, List.getElem?_append_right (by simp; omega), List.getElem?_drop]
    congr 2
    simp; omega
theorem retOne {σin σ : Heap} {cs : List Value} {n j sz : Nat} (hσ : σ.take σin.length = σin) (hp : plainL cs = true) (hg : σ[j]? = some (.rw cs) ∨ ∃ t, σ[j]? = some (.gr cs t)) (hj : Nat.ble σin.length j = true) :
    RetRef σin σ (slvV j sz n) (.slice (some ⟨σin.length, 0, none⟩) n n) (σin ++ [.rw cs]) :=
  RetRef.src [.rw cs] [j] hσ rfl (by simp [distinctFrom, hj]) ⟨osub_rwp srcR_at hg hp, trivial⟩ (vsub_slvR (by simp) srcR_at)
theorem retZ {σin σ : Heap} {n : Nat} (hσ : σ.take σin.length = σin) (hn : n = 0) :
    RetRef σin σ (.slice none 0 1) (.slice (some ⟨σin.length, 0, none⟩) n n) (σin ++ [.rw []]) := by
  subst hn
  exact RetRef.src [.rw []] [σin.length] hσ rfl (by simp [distinctFrom]) ⟨.inl rfl, trivial⟩ (.emptySlice _ _ _ _)
theorem cells_part {l : List Int} {a n : Nat} {σ : Heap} (h : a + n ≤ l.length) : cellsAt (.ro (ints l) :: σ) 0 a n = some (ints ((l.drop a).take n)) := by
  have hl : (ints l).length = l.length := by simp [ints]
  simp only [cellsAt, List.getElem?_cons_zero, hl]
  rw [show Nat.ble (a + n) l.length = true from Nat.ble_eq.mpr h]
  simp [ints, List.map_take, List.map_drop]
theorem ints_cell1 (l : List Int) : (ints l).all (·.oneCell') = true := by
  simp only [List.all_eq_true, ints, List.mem_map]
  rintro x ⟨y, _, rfl⟩
  rfl
theorem without_ok (l : List Int) (c i : Nat) (hi : i < l.length) (hc : l.length ≤ c) (hN : l.length ≤ 1000000) :
    Ev Try.prog 45 [.slice (some ⟨0, 0, none⟩) l.length c, .int .i64 (i : Int)] [.ro (ints l)] (.slice (some ⟨1, 0, none⟩) (l.length - 1) (l.length - 1)) [.ro (ints l), .rw (ints (without l i))] := by
  have hA : ∀ σ' : Heap, cellsAt (.ro (ints l) :: σ') 0 0 (i * 1) = some (ints (l.take i)) := fun σ' => by
    have := cells_part (l := l) (a := 0) (n := i * 1) (σ := σ') (by omega)
    simpa using this
  have hB : ∀ σ' : Heap, cellsAt (.ro (ints l) :: σ') 0 (0 + (i + 1) * 1) ((l.length - (i + 1)) * 1) = some (ints (l.drop (i + 1))) := fun σ' => by
    rw [cells_part (l := l) (a := 0 + (i + 1) * 1) (σ := σ') (by omega), List.take_of_length_le (by simp)]
    simp
  have hone := ints_cell1 (l.drop (i + 1))
  have hlen : (ints (l.take i)).length = i * 1 := by simp [ints]; omega
  have hw : ints (l.take i) ++ ints (l.drop (i + 1)) = ints (without l i) := by simp [ints, without]
  by_cases h0 : i = 0 <;> by_cases h1 : l.length - (i + 1) = 0
  · have hl : without l i = [] := List.eq_nil_of_length_eq_zero (by rw [without_len hi]; omega)
    rw [hl]
    refine acall_intro 1 15 Try.func45 rfl rfl rfl rfl rfl ?_
    repeat' (first | (refine gU ?_; first | (refine gMove ?_; first | refine st (ok_move rfl) rfl rfl ?_) | (refine gAssign ?_; first | refine st (ok_assign rfl) rfl rfl ?_) | (refine gAdd ?_; first | refine st (ok_inc rfl rfl (by omega)) rfl rfl ?_ | refine st (ok_add rfl rfl (by omega) (by omega)) rfl rfl ?_ | refine st (ok_bin rfl rfl rfl) rfl rfl ?_) | (refine gSlice ?_; first | refine st (ok_slice3V rfl rfl rfl) rfl rfl ?_ | refine st (ok_sliceH rfl rfl (by omega)) rfl rfl ?_ | refine st (ok_sliceL rfl rfl (by omega) (by omega)) rfl rfl ?_ | refine st (ok_sliceA rfl) rfl rfl ?_ | refine st (ok_sliceAH rfl rfl (by omega)) rfl rfl ?_) | (refine gBuildS ?_; first | refine st (ok_buildS (by rfl) (by rfl) (by rfl) (by rfl) rfl (by rfl)) rfl rfl ?_ | refine st (ok_buildS0) rfl rfl ?_) | (refine gApp ?_; first | refine st (ok_appendV (by rfl) (by rfl) rfl (by rfl) (by first | rfl | exact hlen | assumption) rfl (by first | rfl | exact hA _ | exact hB _ | assumption) (by omega) (by first | rfl | exact hone | assumption) (by omega) (by omega)) rfl rfl ?_ | refine st (ok_appendIn rfl rfl (by omega) (by omega) (by first | rfl | exact hA _ | exact hB _ | assumption) (by first | rfl | exact hone | assumption) (by first | rfl | assumption | exact hp1 (by omega) | exact hp2 (by omega))) rfl rfl ?_ | refine st (ok_app0 rfl (by first | rfl | exact slOk_slvV _ _ _) rfl (by omega)) rfl rfl ?_ | refine st (ok_appendE (by rfl) rfl rfl (by first | rfl | exact hA _ | exact hB _ | assumption) (by omega) (by omega) (by omega)) rfl rfl ?_)) | (refine fU ?_; first | (refine fMove ?_; first | refine frA (ok_move rfl) rfl ?_) | (refine fAssign ?_; first | refine frA (ok_assign rfl) rfl ?_) | (refine fAdd ?_; first | refine frA (ok_inc rfl rfl (by omega)) rfl ?_ | refine frA (ok_add rfl rfl (by omega) (by omega)) rfl ?_ | refine frA (ok_bin rfl rfl rfl) rfl ?_) | (refine fSlice ?_; first | refine frA (ok_slice3V rfl rfl rfl) rfl ?_ | refine frA (ok_sliceH rfl rfl (by omega)) rfl ?_ | refine frA (ok_sliceL rfl rfl (by omega) (by omega)) rfl ?_ | refine frA (ok_sliceA rfl) rfl ?_ | refine frA (ok_sliceAH rfl rfl (by omega)) rfl ?_) | (refine fBuildS ?_; first | refine frN (ok_buildS (by rfl) (by rfl) (by rfl) (by rfl) rfl (by rfl)) nok_slice rfl rfl rfl ?_ | refine frN (ok_buildS0) nok_slice rfl rfl rfl ?_)) | (refine fr_stop ⟨by kernel_rfl, ?_⟩) | refine W_seq ?_ | refine W_region ?_ | refine W_regionA (id := 1) (by kernel_rfl) ?_ | refine W_regionD (by kernel_rfl) rfl ?_ | refine st_nil ?_ | refine wa_doneA ?_ | refine wa_pureA 0 rfl rfl ?_ | refine wa_pureA 1 rfl rfl ?_ | refine wa_pureA 2 rfl rfl ?_ | refine wa_pureA 3 rfl rfl ?_ | refine wa_pureA 4 rfl rfl ?_ | refine wa_pureA 5 rfl rfl ?_ | refine wa_pureA 6 rfl rfl ?_ | refine wa_pureA 7 rfl rfl ?_ | refine wa_pureA 8 rfl rfl ?_ | refine wa_pureA 9 rfl rfl ?_ | refine wa_pureA 10 rfl rfl ?_ | refine wa_oneA 0 rfl ?_ | refine wa_oneA 1 rfl ?_ | refine wa_oneA 2 rfl ?_ | refine wa_oneA 3 rfl ?_ | refine wa_oneA 4 rfl ?_ | refine wa_oneA 5 rfl ?_ | refine wa_oneA 6 rfl ?_ | refine wa_oneA 7 rfl ?_ | refine wa_oneA 8 rfl ?_ | refine wa_oneA 9 rfl ?_ | refine wa_oneA 10 rfl ?_ | refine tq_n ?_ | refine tq_r ?_ | refine tq_e ?_ | refine bq_n ?_ | refine bq_r ?_ | refine bq_hit rfl ?_ | refine bq_miss rfl ?_ | refine W_skip ?_ | refine W_exit ?_ | refine W_ret ?_ | refine W_block ?_ | refine W_condTA rfl ?_ | refine W_condFA rfl ?_ | (refine W_condD rfl ?_ ?_ <;> intro _) | (refine W_cond rfl ?_ ?_ <;> intro _))
    exact ret0 (.tmp rfl .nil) (retZ rfl (by omega)) ⟨rfl, rfl⟩
  · have hl : without l i = l.drop (i + 1) := by simp [without, h0]
    rw [hl, show l.length - 1 = l.length - (i + 1) from by omega]
    refine acall_intro 1 15 Try.func45 rfl rfl rfl rfl rfl ?_
    repeat' (first | (refine gU ?_; first | (refine gMove ?_; first | refine st (ok_move rfl) rfl rfl ?_) | (refine gAssign ?_; first | refine st (ok_assign rfl) rfl rfl ?_) | (refine gAdd ?_; first | refine st (ok_inc rfl rfl (by omega)) rfl rfl ?_ | refine st (ok_add rfl rfl (by omega) (by omega)) rfl rfl ?_ | refine st (ok_bin rfl rfl rfl) rfl rfl ?_) | (refine gSlice ?_; first | refine st (ok_slice3V rfl rfl rfl) rfl rfl ?_ | refine st (ok_sliceH rfl rfl (by omega)) rfl rfl ?_ | refine st (ok_sliceL rfl rfl (by omega) (by omega)) rfl rfl ?_ | refine st (ok_sliceA rfl) rfl rfl ?_ | refine st (ok_sliceAH rfl rfl (by omega)) rfl rfl ?_) | (refine gBuildS ?_; first | refine st (ok_buildS (by rfl) (by rfl) (by rfl) (by rfl) rfl (by rfl)) rfl rfl ?_ | refine st (ok_buildS0) rfl rfl ?_) | (refine gApp ?_; first | refine st (ok_appendV (by rfl) (by rfl) rfl (by rfl) (by first | rfl | exact hlen | assumption) rfl (by first | rfl | exact hA _ | exact hB _ | assumption) (by omega) (by first | rfl | exact hone | assumption) (by omega) (by omega)) rfl rfl ?_ | refine st (ok_appendIn rfl rfl (by omega) (by omega) (by first | rfl | exact hA _ | exact hB _ | assumption) (by first | rfl | exact hone | assumption) (by first | rfl | assumption | exact hp1 (by omega) | exact hp2 (by omega))) rfl rfl ?_ | refine st (ok_app0 rfl (by first | rfl | exact slOk_slvV _ _ _) rfl (by omega)) rfl rfl ?_ | refine st (ok_appendE (by rfl) rfl rfl (by first | rfl | exact hA _ | exact hB _ | assumption) (by omega) (by omega) (by omega)) rfl rfl ?_)) | (refine fU ?_; first | (refine fMove ?_; first | refine frA (ok_move rfl) rfl ?_) | (refine fAssign ?_; first | refine frA (ok_assign rfl) rfl ?_) | (refine fAdd ?_; first | refine frA (ok_inc rfl rfl (by omega)) rfl ?_ | refine frA (ok_add rfl rfl (by omega) (by omega)) rfl ?_ | refine frA (ok_bin rfl rfl rfl) rfl ?_) | (refine fSlice ?_; first | refine frA (ok_slice3V rfl rfl rfl) rfl ?_ | refine frA (ok_sliceH rfl rfl (by omega)) rfl ?_ | refine frA (ok_sliceL rfl rfl (by omega) (by omega)) rfl ?_ | refine frA (ok_sliceA rfl) rfl ?_ | refine frA (ok_sliceAH rfl rfl (by omega)) rfl ?_) | (refine fBuildS ?_; first | refine frN (ok_buildS (by rfl) (by rfl) (by rfl) (by rfl) rfl (by rfl)) nok_slice rfl rfl rfl ?_ | refine frN (ok_buildS0) nok_slice rfl rfl rfl ?_)) | (refine fr_stop ⟨by kernel_rfl, ?_⟩) | refine W_seq ?_ | refine W_region ?_ | refine W_regionA (id := 1) (by kernel_rfl) ?_ | refine W_regionD (by kernel_rfl) rfl ?_ | refine st_nil ?_ | refine wa_doneA ?_ | refine wa_pureA 0 rfl rfl ?_ | refine wa_pureA 1 rfl rfl ?_ | refine wa_pureA 2 rfl rfl ?_ | refine wa_pureA 3 rfl rfl ?_ | refine wa_pureA 4 rfl rfl ?_ | refine wa_pureA 5 rfl rfl ?_ | refine wa_pureA 6 rfl rfl ?_ | refine wa_pureA 7 rfl rfl ?_ | refine wa_pureA 8 rfl rfl ?_ | refine wa_pureA 9 rfl rfl ?_ | refine wa_pureA 10 rfl rfl ?_ | refine wa_oneA 0 rfl ?_ | refine wa_oneA 1 rfl ?_ | refine wa_oneA 2 rfl ?_ | refine wa_oneA 3 rfl ?_ | refine wa_oneA 4 rfl ?_ | refine wa_oneA 5 rfl ?_ | refine wa_oneA 6 rfl ?_ | refine wa_oneA 7 rfl ?_ | refine wa_oneA 8 rfl ?_ | refine wa_oneA 9 rfl ?_ | refine wa_oneA 10 rfl ?_ | refine tq_n ?_ | refine tq_r ?_ | refine tq_e ?_ | refine bq_n ?_ | refine bq_r ?_ | refine bq_hit rfl ?_ | refine bq_miss rfl ?_ | refine W_skip ?_ | refine W_exit ?_ | refine W_ret ?_ | refine W_block ?_ | refine W_condTA rfl ?_ | refine W_condFA rfl ?_ | (refine W_condD rfl ?_ ?_ <;> intro _) | (refine W_cond rfl ?_ ?_ <;> intro _))
    exact ret0 (.tmp rfl .nil) (retOne rfl (ints_plain _) (.inr ⟨_, rfl⟩) rfl) ⟨rfl, rfl⟩
  · have hl : without l i = l.take i := by simp only [without]; rw [List.drop_of_length_le (by omega), List.append_nil]
    rw [hl, show l.length - 1 = i from by omega]
    refine acall_intro 1 15 Try.func45 rfl rfl rfl rfl rfl ?_
    repeat' (first | (refine gU ?_; first | (refine gMove ?_; first | refine st (ok_move rfl) rfl rfl ?_) | (refine gAssign ?_; first | refine st (ok_assign rfl) rfl rfl ?_) | (refine gAdd ?_; first | refine st (ok_inc rfl rfl (by omega)) rfl rfl ?_ | refine st (ok_add rfl rfl (by omega) (by omega)) rfl rfl ?_ | refine st (ok_bin rfl rfl rfl) rfl rfl ?_) | (refine gSlice ?_; first | refine st (ok_slice3V rfl rfl rfl) rfl rfl ?_ | refine st (ok_sliceH rfl rfl (by omega)) rfl rfl ?_ | refine st (ok_sliceL rfl rfl (by omega) (by omega)) rfl rfl ?_ | refine st (ok_sliceA rfl) rfl rfl ?_ | refine st (ok_sliceAH rfl rfl (by omega)) rfl rfl ?_) | (refine gBuildS ?_; first | refine st (ok_buildS (by rfl) (by rfl) (by rfl) (by rfl) rfl (by rfl)) rfl rfl ?_ | refine st (ok_buildS0) rfl rfl ?_) | (refine gApp ?_; first | refine st (ok_appendV (by rfl) (by rfl) rfl (by rfl) (by first | rfl | exact hlen | assumption) rfl (by first | rfl | exact hA _ | exact hB _ | assumption) (by omega) (by first | rfl | exact hone | assumption) (by omega) (by omega)) rfl rfl ?_ | refine st (ok_appendIn rfl rfl (by omega) (by omega) (by first | rfl | exact hA _ | exact hB _ | assumption) (by first | rfl | exact hone | assumption) (by first | rfl | assumption | exact hp1 (by omega) | exact hp2 (by omega))) rfl rfl ?_ | refine st (ok_app0 rfl (by first | rfl | exact slOk_slvV _ _ _) rfl (by omega)) rfl rfl ?_ | refine st (ok_appendE (by rfl) rfl rfl (by first | rfl | exact hA _ | exact hB _ | assumption) (by omega) (by omega) (by omega)) rfl rfl ?_)) | (refine fU ?_; first | (refine fMove ?_; first | refine frA (ok_move rfl) rfl ?_) | (refine fAssign ?_; first | refine frA (ok_assign rfl) rfl ?_) | (refine fAdd ?_; first | refine frA (ok_inc rfl rfl (by omega)) rfl ?_ | refine frA (ok_add rfl rfl (by omega) (by omega)) rfl ?_ | refine frA (ok_bin rfl rfl rfl) rfl ?_) | (refine fSlice ?_; first | refine frA (ok_slice3V rfl rfl rfl) rfl ?_ | refine frA (ok_sliceH rfl rfl (by omega)) rfl ?_ | refine frA (ok_sliceL rfl rfl (by omega) (by omega)) rfl ?_ | refine frA (ok_sliceA rfl) rfl ?_ | refine frA (ok_sliceAH rfl rfl (by omega)) rfl ?_) | (refine fBuildS ?_; first | refine frN (ok_buildS (by rfl) (by rfl) (by rfl) (by rfl) rfl (by rfl)) nok_slice rfl rfl rfl ?_ | refine frN (ok_buildS0) nok_slice rfl rfl rfl ?_)) | (refine fr_stop ⟨by kernel_rfl, ?_⟩) | refine W_seq ?_ | refine W_region ?_ | refine W_regionA (id := 1) (by kernel_rfl) ?_ | refine W_regionD (by kernel_rfl) rfl ?_ | refine st_nil ?_ | refine wa_doneA ?_ | refine wa_pureA 0 rfl rfl ?_ | refine wa_pureA 1 rfl rfl ?_ | refine wa_pureA 2 rfl rfl ?_ | refine wa_pureA 3 rfl rfl ?_ | refine wa_pureA 4 rfl rfl ?_ | refine wa_pureA 5 rfl rfl ?_ | refine wa_pureA 6 rfl rfl ?_ | refine wa_pureA 7 rfl rfl ?_ | refine wa_pureA 8 rfl rfl ?_ | refine wa_pureA 9 rfl rfl ?_ | refine wa_pureA 10 rfl rfl ?_ | refine wa_oneA 0 rfl ?_ | refine wa_oneA 1 rfl ?_ | refine wa_oneA 2 rfl ?_ | refine wa_oneA 3 rfl ?_ | refine wa_oneA 4 rfl ?_ | refine wa_oneA 5 rfl ?_ | refine wa_oneA 6 rfl ?_ | refine wa_oneA 7 rfl ?_ | refine wa_oneA 8 rfl ?_ | refine wa_oneA 9 rfl ?_ | refine wa_oneA 10 rfl ?_ | refine tq_n ?_ | refine tq_r ?_ | refine tq_e ?_ | refine bq_n ?_ | refine bq_r ?_ | refine bq_hit rfl ?_ | refine bq_miss rfl ?_ | refine W_skip ?_ | refine W_exit ?_ | refine W_ret ?_ | refine W_block ?_ | refine W_condTA rfl ?_ | refine W_condFA rfl ?_ | (refine W_condD rfl ?_ ?_ <;> intro _) | (refine W_cond rfl ?_ ?_ <;> intro _))
    exact ret0 (.tmp rfl .nil) (retOne rfl (ints_plain _) (.inr ⟨_, rfl⟩) rfl) ⟨rfl, rfl⟩
  · rw [← hw, show l.length - 1 = i + (l.length - (i + 1)) from by omega]
    refine acall_intro 1 15 Try.func45 rfl rfl rfl rfl rfl ?_
    repeat' (first | (refine gU ?_; first | (refine gMove ?_; first | refine st (ok_move rfl) rfl rfl ?_) | (refine gAssign ?_; first | refine st (ok_assign rfl) rfl rfl ?_) | (refine gAdd ?_; first | refine st (ok_inc rfl rfl (by omega)) rfl rfl ?_ | refine st (ok_add rfl rfl (by omega) (by omega)) rfl rfl ?_ | refine st (ok_bin rfl rfl rfl) rfl rfl ?_) | (refine gSlice ?_; first | refine st (ok_slice3V rfl rfl rfl) rfl rfl ?_ | refine st (ok_sliceH rfl rfl (by omega)) rfl rfl ?_ | refine st (ok_sliceL rfl rfl (by omega) (by omega)) rfl rfl ?_ | refine st (ok_sliceA rfl) rfl rfl ?_ | refine st (ok_sliceAH rfl rfl (by omega)) rfl rfl ?_) | (refine gBuildS ?_; first | refine st (ok_buildS (by rfl) (by rfl) (by rfl) (by rfl) rfl (by rfl)) rfl rfl ?_ | refine st (ok_buildS0) rfl rfl ?_) | (refine gApp ?_; first | refine st (ok_appendV (by rfl) (by rfl) rfl (by rfl) (by first | rfl | exact hlen | assumption) rfl (by first | rfl | exact hA _ | exact hB _ | assumption) (by omega) (by first | rfl | exact hone | assumption) (by omega) (by omega)) rfl rfl ?_ | refine st (ok_appendIn rfl rfl (by omega) (by omega) (by first | rfl | exact hA _ | exact hB _ | assumption) (by first | rfl | exact hone | assumption) (by first | rfl | assumption | exact hp1 (by omega) | exact hp2 (by omega))) rfl rfl ?_ | refine st (ok_app0 rfl (by first | rfl | exact slOk_slvV _ _ _) rfl (by omega)) rfl rfl ?_ | refine st (ok_appendE (by rfl) rfl rfl (by first | rfl | exact hA _ | exact hB _ | assumption) (by omega) (by omega) (by omega)) rfl rfl ?_)) | (refine fU ?_; first | (refine fMove ?_; first | refine frA (ok_move rfl) rfl ?_) | (refine fAssign ?_; first | refine frA (ok_assign rfl) rfl ?_) | (refine fAdd ?_; first | refine frA (ok_inc rfl rfl (by omega)) rfl ?_ | refine frA (ok_add rfl rfl (by omega) (by omega)) rfl ?_ | refine frA (ok_bin rfl rfl rfl) rfl ?_) | (refine fSlice ?_; first | refine frA (ok_slice3V rfl rfl rfl) rfl ?_ | refine frA (ok_sliceH rfl rfl (by omega)) rfl ?_ | refine frA (ok_sliceL rfl rfl (by omega) (by omega)) rfl ?_ | refine frA (ok_sliceA rfl) rfl ?_ | refine frA (ok_sliceAH rfl rfl (by omega)) rfl ?_) | (refine fBuildS ?_; first | refine frN (ok_buildS (by rfl) (by rfl) (by rfl) (by rfl) rfl (by rfl)) nok_slice rfl rfl rfl ?_ | refine frN (ok_buildS0) nok_slice rfl rfl rfl ?_)) | (refine fr_stop ⟨by kernel_rfl, ?_⟩) | refine W_seq ?_ | refine W_region ?_ | refine W_regionA (id := 1) (by kernel_rfl) ?_ | refine W_regionD (by kernel_rfl) rfl ?_ | refine st_nil ?_ | refine wa_doneA ?_ | refine wa_pureA 0 rfl rfl ?_ | refine wa_pureA 1 rfl rfl ?_ | refine wa_pureA 2 rfl rfl ?_ | refine wa_pureA 3 rfl rfl ?_ | refine wa_pureA 4 rfl rfl ?_ | refine wa_pureA 5 rfl rfl ?_ | refine wa_pureA 6 rfl rfl ?_ | refine wa_pureA 7 rfl rfl ?_ | refine wa_pureA 8 rfl rfl ?_ | refine wa_pureA 9 rfl rfl ?_ | refine wa_pureA 10 rfl rfl ?_ | refine wa_oneA 0 rfl ?_ | refine wa_oneA 1 rfl ?_ | refine wa_oneA 2 rfl ?_ | refine wa_oneA 3 rfl ?_ | refine wa_oneA 4 rfl ?_ | refine wa_oneA 5 rfl ?_ | refine wa_oneA 6 rfl ?_ | refine wa_oneA 7 rfl ?_ | refine wa_oneA 8 rfl ?_ | refine wa_oneA 9 rfl ?_ | refine wa_oneA 10 rfl ?_ | refine tq_n ?_ | refine tq_r ?_ | refine tq_e ?_ | refine bq_n ?_ | refine bq_r ?_ | refine bq_hit rfl ?_ | refine bq_miss rfl ?_ | refine W_skip ?_ | refine W_exit ?_ | refine W_ret ?_ | refine W_block ?_ | refine W_condTA rfl ?_ | refine W_condFA rfl ?_ | (refine W_condD rfl ?_ ?_ <;> intro _) | (refine W_cond rfl ?_ ?_ <;> intro _))
    exact ret0 (.tmp rfl .nil) (retOne rfl (by rw [hw]; exact ints_plain _) (.inr ⟨_, rfl⟩) rfl) ⟨rfl, rfl⟩
theorem without_ev {σ : Heap} {l : List Int} {a c i : Nat} (hx : arrAt σ a (ints l)) (hi : i < l.length) (hc : l.length ≤ c) (hN : l.length ≤ 1000000) (hni : σ.all (fun o => !isIter o) = true) :
    Ev Try.prog 45 [.slice (some ⟨a, 0, none⟩) l.length c, .int .i64 (i : Int)] σ (.slice (some ⟨σ.length, 0, none⟩) (l.length - 1) (l.length - 1)) (σ ++ [.rw (ints (without l i))]) := by
  refine Ev.arrsN [ints l] [a] (news := [.rw (ints (without l i))]) (without_ok l c i hi hc hN) ⟨hx, trivial⟩ ⟨by simpa [bsR] using VQ.slice (q := true) (n := 1) (ρ := bsR [a]) 0 0 l.length c c (Nat.le_refl _) (by omega), vrel_plain _ rfl, trivial⟩ (by simp [ints_plain]) rfl ?_ ?_ hni
  · simp [ren, shf]
  · simp only [List.map_cons, List.map_nil, renO, renL_plain _ (ints_plain _)]
end Go.Proofs.Ytgfnogdecggkkaa
namespace Go.AH
open Go
def masksG : List Oper → List Nat → List Nat
  | [], acc => acc
  | o :: r, acc => forceN (maskOf acc o.after.toList) fun mk => masksG r (acc ++ [mk])
theorem masksG_good {all : List Oper} : ∀ (rest : List Oper) (acc : List Nat), rest = all.drop acc.length → acc.length ≤ all.length → (∀ (k : Nat) (mk : Nat), acc[k]? = some mk → Good all k mk) →
    ∀ (k : Nat) (mk : Nat), (masksG rest acc)[k]? = some mk → Good all k mk
  | [], acc, _, _, hacc => hacc
  | o :: rest, acc, hr, hl, hacc => by
    have ho : all[acc.length]? = some o := by
      have := congrArg (fun l : List Oper => l[0]?) hr
      simpa using this.symm
    have hlt := (List.getElem?_eq_some_iff.1 ho).1
    have hg := good_mask ho hacc hl
    simp only [masksG, forceN_eq]
    refine masksG_good rest (acc ++ [maskOf acc o.after.toList]) ?_ (by simp; omega) fun k mk hk => ?_
    · have := congrArg List.tail hr
      simpa using this
    · by_cases hkl : k < acc.length
      · rw [List.getElem?_append_left hkl] at hk; exact hacc k mk hk
      · rw [List.getElem?_append_right (by omega)] at hk
        have hk0 : k - acc.length = 0 := by
          have := (List.getElem?_eq_some_iff.1 hk).1
          simp at this; omega
        rw [hk0] at hk; simp at hk; subst hk
        rw [show k = acc.length by omega]; exact hg
def newsIn (all : List Oper) (k : Nat) (news : List (Nat × Heap)) : Bool :=
  match (masksG all [])[k]? with | some mk => news.all fun p => mk.testBit p.1 | none => false
theorem nok_in {all : List Oper} {k n : Nat} {news : List (Nat × Heap)} {v : Value} {o : Oper} (ho : all[k]? = some o) (h : newsIn all k news = true) : NokN all k n news v := by
  intro n1 i x n2 hn ⟨D, hD, hk, hi⟩
  exfalso
  unfold newsIn at h
  cases hm : (masksG all [])[k]? with
  | none => rw [hm] at h; cases h
  | some mk =>
    rw [hm] at h
    have hg := masksG_good (all := all) all [] rfl (Nat.zero_le _) (fun k mk hk => by simp at hk) k mk hm
    have hb := List.all_eq_true.1 h (i, x) (by rw [hn]; simp)
    exact hi (hg D hD o ho (fun j hj => hD k o ho hk j hj) i hb)
theorem nok_tup {n b l c : Nat} {x : Bool} : Nok n b (.tuple #[.slice (some ⟨b, 0, none⟩) l c, .bool x]) := fun k ρ ρ' v' hv hρ => by
  cases hv with
  | tuple _ a' h1 h3 =>
    refine .tuple _ _ h1 fun i h h' => ?_
    have hi := h3 i h h'
    have h2 : i < 2 := h
    obtain rfl | rfl : i = 0 ∨ i = 1 := by omega
    · exact nok_slice k ρ ρ' _ hi hρ
    · rw [show a'[1] = Value.bool x from (vrel_plain_eq hi rfl)]; exact vrel_plain _ rfl
section
variable {P : Program} {N : Nat} {rd : Option Nat} {e : Env} {σ0 : Heap} {news : List (Nat × Heap)} {K : Env → List (Nat × Heap) → List Oper → Prop} {k : Nat} {all rest : List Oper}
  {d : Nat} {op : Op} {ty : TypeId} {pos : String} {after : Array Edge} {v : Value}
theorem frW (h : OpOk P rd op ty e (σ0 ++ visN (waitsA after) news) v (σ0 ++ visN (waitsA after) news)) (ha : all[k]? = some ⟨some d, op, ty, pos, after, none⟩) (hn : newsIn all k news = true) (hd : Nat.blt d N = true) (hk : WFree P N rd all (k + 1) rest ((d, v) :: e) σ0 news K) :
    WFree P N rd all k (⟨some d, op, ty, pos, after, none⟩ :: rest) e σ0 news K :=
  .inr ⟨hd, .inl ⟨rfl, v, [], by simpa using h, fun _ hx => by simp at hx, nok_in ha hn, by simpa [putE, addN] using hk⟩⟩
end
end Go.AH
namespace Go.Proofs.Ytgfnogdecggkkaa
open Go Go.AH
attribute [local irreducible] WOps WCode WFree retQ thenQ blockQ OpOk ACall RetRef roundA roundB
set_option maxRecDepth 100000
set_option maxHeartbeats 1000000
def planE (s : St) (l : List Int) : Int := if checkS s l ≠ 0 then checkS s l else if (planS (sp s l) l.length s.long s.short).2 < s.short then 0 else 19
def planR (s : St) (l : List Int) : List (Int × Int) := if checkS s l ≠ 0 then [] else planIf (planS (sp s l) l.length s.long s.short) s.short
theorem spanAt_lo {s : St} {l : List Int} : ∀ i < l.length, spanAt s l i = nw ∨ s.short ≤ (spanAt s l i).1 := fun i hi => by
  rcases spanAt_in (s := s) i hi with h | h
  · exact .inl h
  · exact .inr h.1
theorem rimPlanS_ok (s : St) (l : List Int) (c : Nat) (hN : l.length ≤ 1000000) (hr : -9223372036854775808 ≤ s.short ∧ s.short ≤ 9223372036854775807) :
    Ev Try.prog 28 [s.val, .slice (some ⟨0, 0, none⟩) l.length c] [.ro (ints l)] (.tuple #[.slice (some ⟨1, 0, none⟩) (planR s l).length (planR s l).length, .int .i64 (planE s l)]) [.ro (ints l), .rw (runsC (planR s l))] := by
  unfold planE planR
  by_cases h : checkS s l = 0
  · obtain ⟨h12, h1, hs, ht⟩ := checkS_zero h
    have hs1 : 1 ≤ s.short := by unfold badStone at hs; omega
    have hs2 : s.short ≤ s.long := by unfold badStone at hs; omega
    have hs3 : s.long ≤ 100000 := by unfold badStone at hs; omega
    rw [if_neg (by omega), if_neg (by omega)]
    have hplan := rplan_ev (σ := [.ro (ints l), .rw s.cells, .rw (rackC s (.slice (some ⟨0, 0, none⟩) l.length c) (spanAt s l) fun _ => 0)]) (s := s) (l := l) (c := c) (f := spanAt s l) (g := fun _ => 0) (from_ := s.long) (to := s.short) (t := 0) (r := 2) (.inl rfl) (.inr (.inl rfl)) h12 hs1 (Int.le_refl _) (by omega) hs3 spanAt_lo rfl
    rw [plan_same] at hplan
    generalize planS (sp s l) l.length s.long s.short = P at hplan ⊢
    refine acall_intro 1 31 Try.func28 rfl rfl rfl rfl rfl ?_
    repeat' (first | (refine gU ?_; first | (refine gMove ?_; first | refine st (ok_move rfl) rfl rfl ?_) | (refine gAssign ?_; first | refine st (ok_assign rfl) rfl rfl ?_) | (refine gFA ?_; first | refine st (ok_fieldAddr rfl) rfl rfl ?_) | (refine gLoad ?_; first | refine st (ok_load rfl (by first | rfl | assumption)) rfl rfl ?_ | refine st (ok_loadA rfl (by first | rfl | assumption)) rfl rfl ?_) | (refine gBin ?_; first | refine st (ok_bin rfl rfl rfl) rfl rfl ?_ | refine st (ok_neq2 rfl rfl) rfl rfl ?_) | (refine gNot ?_; first | refine st (ok_notD rfl) rfl rfl ?_ | refine st (ok_not' rfl) rfl rfl ?_) | (refine gExtract ?_; first | refine st (ok_extract rfl rfl) rfl rfl ?_) | (refine gCall ?_; first | refine st (ok_call rfl rfl rfl (by first | exact open_evBad (by first | exact .inl rfl | exact .inr (.inl rfl) | exact .inr (.inr ⟨_, rfl⟩) | assumption) (by assumption) (by assumption) (by assumption) rfl | exact open_evOk (by first | exact .inl rfl | exact .inr (.inl rfl) | exact .inr (.inr ⟨_, rfl⟩) | assumption) (by assumption) (by assumption) rfl | exact refCheckStone_ev (by first | exact .inl rfl | exact .inr (.inl rfl) | exact .inr (.inr ⟨_, rfl⟩) | assumption) rfl | exact hplan)) rfl rfl ?_) | (refine gBox ?_; first | refine st (ok_box rfl) rfl rfl ?_)) | refine W_seq ?_ | refine W_region ?_ | refine st_nil ?_ | refine tq_n ?_ | refine tq_r ?_ | refine tq_e ?_ | refine bq_n ?_ | refine bq_r ?_ | refine bq_hit rfl ?_ | refine bq_miss rfl ?_ | refine W_skip ?_ | refine W_exit ?_ | refine W_ret ?_ | refine W_block ?_ | refine W_condTA rfl ?_ | refine W_condFA rfl ?_ | (refine W_condD rfl ?_ ?_ <;> intro _) | (refine W_cond rfl ?_ ?_ <;> intro _))
    · rename_i hq
      refine ret0 (.tmp rfl (.tmp rfl .nil)) (retNil rfl rfl) ⟨?_, ?_⟩
      · unfold planIf; rw [if_neg (by omega), if_neg (by omega)]; rfl
      · unfold planIf; rw [if_neg (by omega)]; rfl
    · rename_i hq
      refine ret0 (.tmp rfl (.tmp rfl .nil)) (retSl' (j := 3) rfl (runs_plain P.1) (.inl rfl) rfl rfl (Nat.le_refl _)) ⟨?_, ?_⟩
      · unfold planIf; rw [if_pos (by omega), if_pos (by omega)]; rfl
      · unfold planIf; rw [if_pos (by omega)]; rfl
  · have h' : checkS s l ≠ 0 := h
    rw [if_pos h', if_pos h']
    refine acall_intro 1 31 Try.func28 rfl rfl rfl rfl rfl ?_
    repeat' (first | (refine gU ?_; first | (refine gMove ?_; first | refine st (ok_move rfl) rfl rfl ?_) | (refine gAssign ?_; first | refine st (ok_assign rfl) rfl rfl ?_) | (refine gFA ?_; first | refine st (ok_fieldAddr rfl) rfl rfl ?_) | (refine gLoad ?_; first | refine st (ok_load rfl (by first | rfl | assumption)) rfl rfl ?_ | refine st (ok_loadA rfl (by first | rfl | assumption)) rfl rfl ?_) | (refine gBin ?_; first | refine st (ok_bin rfl rfl rfl) rfl rfl ?_ | refine st (ok_neq2 rfl rfl) rfl rfl ?_) | (refine gNot ?_; first | refine st (ok_notD rfl) rfl rfl ?_ | refine st (ok_not' rfl) rfl rfl ?_) | (refine gExtract ?_; first | refine st (ok_extract rfl rfl) rfl rfl ?_) | (refine gCall ?_; first | refine st (ok_call rfl rfl rfl (by first | exact open_evBad (by first | exact .inl rfl | exact .inr (.inl rfl) | exact .inr (.inr ⟨_, rfl⟩) | assumption) (by assumption) (by assumption) (by assumption) rfl | exact open_evOk (by first | exact .inl rfl | exact .inr (.inl rfl) | exact .inr (.inr ⟨_, rfl⟩) | assumption) (by assumption) (by assumption) rfl | exact refCheckStone_ev (by first | exact .inl rfl | exact .inr (.inl rfl) | exact .inr (.inr ⟨_, rfl⟩) | assumption) rfl | exact hplan)) rfl rfl ?_) | (refine gBox ?_; first | refine st (ok_box rfl) rfl rfl ?_)) | refine W_seq ?_ | refine W_region ?_ | refine st_nil ?_ | refine tq_n ?_ | refine tq_r ?_ | refine tq_e ?_ | refine bq_n ?_ | refine bq_r ?_ | refine bq_hit rfl ?_ | refine bq_miss rfl ?_ | refine W_skip ?_ | refine W_exit ?_ | refine W_ret ?_ | refine W_block ?_ | refine W_condTA rfl ?_ | refine W_condFA rfl ?_ | (refine W_condD rfl ?_ ?_ <;> intro _) | (refine W_cond rfl ?_ ?_ <;> intro _))
    exact ret0 (.tmp rfl (.tmp rfl .nil)) (retNil rfl rfl) ⟨rfl, rfl⟩
theorem rimPlanS_ev {σ : Heap} {s : St} {l : List Int} {a c : Nat} (hx : arrAt σ a (ints l)) (hN : l.length ≤ 1000000) (hr : -9223372036854775808 ≤ s.short ∧ s.short ≤ 9223372036854775807) (hni : σ.all (fun o => !isIter o) = true) :
    Ev Try.prog 28 [s.val, .slice (some ⟨a, 0, none⟩) l.length c] σ (.tuple #[.slice (some ⟨σ.length, 0, none⟩) (planR s l).length (planR s l).length, .int .i64 (planE s l)]) (σ ++ [.rw (runsC (planR s l))]) := by
  refine Ev.arrsN [ints l] [a] (news := [.rw (runsC (planR s l))]) (rimPlanS_ok s l c hN hr) ⟨hx, trivial⟩ ⟨vrel_plain _ rfl, by simpa [bsR] using VQ.slice (q := true) (n := 1) (ρ := bsR [a]) 0 0 l.length c c (Nat.le_refl _) (by omega), trivial⟩ (by simp [ints_plain]) rfl ?_ ?_ hni
  · simp [ren, renA, renL, shf]
  · simp only [List.map_cons, List.map_nil, renO, renL_plain _ (runs_plain _)]
end Go.Proofs.Ytgfnogdecggkkaa
namespace Go.Proofs.Ytgfnogdecggkkaa
open Go Go.AH
attribute [local irreducible] WOps WCode WFree retQ thenQ blockQ OpOk ACall RetRef roundA roundB
set_option maxRecDepth 100000
set_option maxHeartbeats 1000000
def someB (n : Nat) (p : Nat → Prop) [DecidablePred p] : Bool := (List.range n).any fun i => decide (p i)
theorem someB_false {n : Nat} {p : Nat → Prop} [DecidablePred p] (h : ∀ i < n, ¬ p i) : someB n p = false := by
  simp only [someB, List.any_eq_false, List.mem_range, decide_eq_true_eq]
  exact h
theorem someB_none {n : Nat} {p : Nat → Prop} [DecidablePred p] (h : ¬ someB n p = true) : ∀ i < n, ¬ p i := by
  simpa [someB] using h
def badRun (s : St) (l : List Int) (pl : List (Int × Int)) (i : Nat) : Prop :=
  (i = 0 ∧ (gp pl i).1 ≠ s.long) ∨ (0 < i ∧ (gp pl i).1 ≥ (gp pl (i - 1)).1) ∨ (gp pl i).1 < s.short ∨ (gp pl i).2 < 0 ∨ (gp pl i).2 ≥ l.length
instance (s : St) (l : List Int) (pl : List (Int × Int)) : DecidablePred (badRun s l pl) := fun i => by unfold badRun; infer_instance
def inP (p : Int × Int) (x : Int) : Prop := p.1 ≤ x ∧ x ≤ p.2
instance (p : Int × Int) (x : Int) : Decidable (inP p x) := by unfold inP; infer_instance
def badFast (s : St) (l : List Int) (pl : List (Int × Int)) (i : Nat) : Prop := ¬ (inP (spanAt s l (gp pl i).2.toNat) (gp pl i).1 ∧ inP (spanAt s l (gp pl i).2.toNat) (endS s.short pl i))
instance (s : St) (l : List Int) (pl : List (Int × Int)) : DecidablePred (badFast s l pl) := fun i => by unfold badFast; infer_instance
def checkP (s : St) (l : List Int) (pl : List (Int × Int)) : Int :=
  if checkS s l ≠ 0 then checkS s l else if pl.length < 1 ∨ pl.length > 20 then 6 else if someB pl.length (badRun s l pl) = true then 3 else if someB pl.length (badFast s l pl) = true then 19 else 0
theorem runs_in {s : St} {l : List Int} {pl : List (Int × Int)} : ∀ {k : Nat}, (∀ j < k, ¬ badRun s l pl j) → ∀ j < k, s.short ≤ (gp pl j).1 ∧ (gp pl j).1 ≤ s.long ∧ 0 ≤ (gp pl j).2 ∧ (gp pl j).2 < l.length ∧ (0 < j → (gp pl j).1 < (gp pl (j - 1)).1)
  | 0, _, j, h => by omega
  | k + 1, hb, j, h => by
    by_cases hjk : j < k
    · exact runs_in (fun i hi => hb i (by omega)) j hjk
    · obtain rfl : j = k := by omega
      have h1 := hb j (by omega)
      unfold badRun at h1
      by_cases h0 : j = 0
      · subst h0; omega
      · have := runs_in (k := j) (fun i hi => hb i (by omega)) (j - 1) (by omega)
        omega
end Go.Proofs.Ytgfnogdecggkkaa
namespace Go.Proofs.Ytgfnogdecggkkaa
open Go Go.AH
attribute [local irreducible] WOps WCode WFree retQ thenQ blockQ OpOk ACall RetRef roundA roundB
set_option maxRecDepth 100000
set_option maxHeartbeats 1000000
theorem many_ok (l : List Int) (c : Nat) (_hN : l.length ≤ 9223372036854775807) : Ev Try.prog 16 [.slice (some ⟨0, 0, none⟩) l.length c] [.ro (ints l)] (.bool (decide ((l.length : Int) > 20))) [.ro (ints l)] := by
  refine acall_intro 1 6 Try.func16 rfl rfl rfl rfl rfl ?_
  repeat' (first | (refine gU ?_; first | (refine gMove ?_; first | refine st (ok_move rfl) rfl rfl ?_) | (refine gAssign ?_; first | refine st (ok_assign rfl) rfl rfl ?_) | (refine gBin ?_; first | refine st (ok_bin rfl rfl rfl) rfl rfl ?_) | (refine gLen ?_; first | refine st (ok_len rfl) rfl rfl ?_ | refine st (ok_lenV rfl) rfl rfl ?_)) | refine W_seq ?_ | refine W_region ?_ | refine st_nil ?_ | refine tq_n ?_ | refine tq_r ?_ | refine tq_e ?_ | refine bq_n ?_ | refine bq_r ?_ | refine bq_hit rfl ?_ | refine bq_miss rfl ?_ | refine W_skip ?_ | refine W_exit ?_ | refine W_ret ?_ | refine W_block ?_ | refine W_condTA rfl ?_ | refine W_condFA rfl ?_ | (refine W_condD rfl ?_ ?_ <;> intro _) | (refine W_cond rfl ?_ ?_ <;> intro _))
  refine ret0 (.tmp rfl .nil) (.plain rfl rfl) ⟨rfl, rfl⟩
theorem many_ev {σ : Heap} {l : List Int} {x c : Nat} (hx : arrAt σ x (ints l)) (hN : l.length ≤ 9223372036854775807) (hni : σ.all (fun o => !isIter o) = true) :
    Ev Try.prog 16 [.slice (some ⟨x, 0, none⟩) l.length c] σ (.bool (decide ((l.length : Int) > 20))) σ :=
  Ev.arrs [ints l] [x] (many_ok l c hN) ⟨hx, trivial⟩ ⟨by simpa [bsR] using VQ.slice (q := true) (n := 1) (ρ := bsR [x]) 0 0 l.length c c (Nat.le_refl _) (by omega), trivial⟩ (by simp [ints_plain]) rfl hni
theorem works_ev {σ : Heap} (hni : σ.all (fun o => !isIter o) = true) : Ev Try.prog 17 [] σ (.bool true) σ := Ev.nil knW_ok.1 rfl rfl hni
end Go.Proofs.Ytgfnogdecggkkaa
namespace Go.Proofs.Ytgfnogdecggkkaa
open Go Go.AH
attribute [local irreducible] WOps WCode WFree retQ thenQ blockQ OpOk ACall RetRef roundA roundB
set_option maxRecDepth 100000
set_option maxHeartbeats 1000000
def fineB (s : St) (l : List Int) : Bool := decide (¬ (l.length : Int) > 20) && decide (checkS s l = 0)
theorem fine_ok (s : St) (l : List Int) (c : Nat) (hN : l.length ≤ 9223372036854775807) : Ev Try.prog 41 [s.val, .slice (some ⟨0, 0, none⟩) l.length c] [.ro (ints l)] (.bool (decide (checkS s l = 0))) [.ro (ints l)] := by
  have h20 : (l.length : Int) > 20 → checkS s l ≠ 0 := fun h => by
    unfold checkS; rw [if_pos (by omega)]; decide
  by_cases hm : (l.length : Int) > 20
  · have h0 := h20 hm
    refine acall_intro 1 14 Try.func41 rfl rfl rfl rfl rfl ?_
    repeat' (first | (refine gU ?_; first | (refine gMove ?_; first | refine st (ok_move rfl) rfl rfl ?_) | (refine gAssign ?_; first | refine st (ok_assign rfl) rfl rfl ?_) | (refine gLoad ?_; first | refine st (ok_load rfl (by first | rfl | assumption)) rfl rfl ?_ | refine st (ok_loadA rfl (by first | rfl | assumption)) rfl rfl ?_) | (refine gBin ?_; first | refine st (ok_bin rfl rfl rfl) rfl rfl ?_ | refine st (ok_eq2 rfl rfl) rfl rfl ?_) | (refine gPick ?_; first | refine st (ok_pickTA rfl rfl) rfl rfl ?_ | refine st (ok_pickFA rfl rfl) rfl rfl ?_) | (refine gNot ?_; first | refine st (ok_notD rfl) rfl rfl ?_ | refine st (ok_not' rfl) rfl rfl ?_) | (refine gCall ?_; first | refine st (ok_call rfl rfl rfl (by first | exact many_ev (by first | exact .inl rfl | exact .inr (.inl rfl) | exact .inr (.inr ⟨_, rfl⟩) | assumption) (by assumption) rfl | exact refCheckStone_ev (by first | exact .inl rfl | exact .inr (.inl rfl) | exact .inr (.inr ⟨_, rfl⟩) | assumption) rfl)) rfl rfl ?_) | (refine gBox ?_; first | refine st (ok_box rfl) rfl rfl ?_)) | (refine gG ?_; first | (refine gMove ?_; first | refine stGA rfl (ok_move rfl) rfl rfl ?_) | (refine gLoad ?_; first | refine stGA rfl (ok_load rfl (by first | rfl | assumption)) rfl rfl ?_ | refine stGA rfl (ok_loadA rfl (by first | rfl | assumption)) rfl rfl ?_) | (refine gBin ?_; first | refine stGA rfl (ok_bin rfl rfl rfl) rfl rfl ?_ | refine stGA rfl (ok_eq2 rfl rfl) rfl rfl ?_) | (refine gCall ?_; first | refine stGA rfl (ok_call rfl rfl rfl (by first | exact many_ev (by first | exact .inl rfl | exact .inr (.inl rfl) | exact .inr (.inr ⟨_, rfl⟩) | assumption) (by assumption) rfl | exact refCheckStone_ev (by first | exact .inl rfl | exact .inr (.inl rfl) | exact .inr (.inr ⟨_, rfl⟩) | assumption) rfl)) rfl rfl ?_) | refine stSU rfl rfl ?_ | refine stSA rfl rfl ?_ | ((fail_if_success (refine stGkA rfl ?_)); first | (refine stGdD rfl ?_ ?_ <;> intro _) | (refine stGd rfl ?_ ?_ <;> intro _))) | refine W_seq ?_ | refine W_region ?_ | refine st_nil ?_ | refine tq_n ?_ | refine tq_r ?_ | refine tq_e ?_ | refine bq_n ?_ | refine bq_r ?_ | refine bq_hit rfl ?_ | refine bq_miss rfl ?_ | refine W_skip ?_ | refine W_exit ?_ | refine W_ret ?_ | refine W_block ?_ | refine W_condTA rfl ?_ | refine W_condFA rfl ?_ | (refine W_condD rfl ?_ ?_ <;> intro _) | (refine W_cond rfl ?_ ?_ <;> intro _))
    refine ret0 (.tmp rfl .nil) (.plain rfl rfl) ⟨?_, rfl⟩
    rw [decide_eq_false h0]; rfl
  · refine acall_intro 1 14 Try.func41 rfl rfl rfl rfl rfl ?_
    repeat' (first | (refine gU ?_; first | (refine gMove ?_; first | refine st (ok_move rfl) rfl rfl ?_) | (refine gAssign ?_; first | refine st (ok_assign rfl) rfl rfl ?_) | (refine gLoad ?_; first | refine st (ok_load rfl (by first | rfl | assumption)) rfl rfl ?_ | refine st (ok_loadA rfl (by first | rfl | assumption)) rfl rfl ?_) | (refine gBin ?_; first | refine st (ok_bin rfl rfl rfl) rfl rfl ?_ | refine st (ok_eq2 rfl rfl) rfl rfl ?_) | (refine gPick ?_; first | refine st (ok_pickTA rfl rfl) rfl rfl ?_ | refine st (ok_pickFA rfl rfl) rfl rfl ?_) | (refine gNot ?_; first | refine st (ok_notD rfl) rfl rfl ?_ | refine st (ok_not' rfl) rfl rfl ?_) | (refine gCall ?_; first | refine st (ok_call rfl rfl rfl (by first | exact many_ev (by first | exact .inl rfl | exact .inr (.inl rfl) | exact .inr (.inr ⟨_, rfl⟩) | assumption) (by assumption) rfl | exact refCheckStone_ev (by first | exact .inl rfl | exact .inr (.inl rfl) | exact .inr (.inr ⟨_, rfl⟩) | assumption) rfl)) rfl rfl ?_) | (refine gBox ?_; first | refine st (ok_box rfl) rfl rfl ?_)) | (refine gG ?_; first | (refine gMove ?_; first | refine stGA rfl (ok_move rfl) rfl rfl ?_) | (refine gLoad ?_; first | refine stGA rfl (ok_load rfl (by first | rfl | assumption)) rfl rfl ?_ | refine stGA rfl (ok_loadA rfl (by first | rfl | assumption)) rfl rfl ?_) | (refine gBin ?_; first | refine stGA rfl (ok_bin rfl rfl rfl) rfl rfl ?_ | refine stGA rfl (ok_eq2 rfl rfl) rfl rfl ?_) | (refine gCall ?_; first | refine stGA rfl (ok_call rfl rfl rfl (by first | exact many_ev (by first | exact .inl rfl | exact .inr (.inl rfl) | exact .inr (.inr ⟨_, rfl⟩) | assumption) (by assumption) rfl | exact refCheckStone_ev (by first | exact .inl rfl | exact .inr (.inl rfl) | exact .inr (.inr ⟨_, rfl⟩) | assumption) rfl)) rfl rfl ?_) | refine stSU rfl rfl ?_ | refine stSA rfl rfl ?_ | ((fail_if_success (refine stGkA rfl ?_)); first | (refine stGdD rfl ?_ ?_ <;> intro _) | (refine stGd rfl ?_ ?_ <;> intro _))) | refine W_seq ?_ | refine W_region ?_ | refine st_nil ?_ | refine tq_n ?_ | refine tq_r ?_ | refine tq_e ?_ | refine bq_n ?_ | refine bq_r ?_ | refine bq_hit rfl ?_ | refine bq_miss rfl ?_ | refine W_skip ?_ | refine W_exit ?_ | refine W_ret ?_ | refine W_block ?_ | refine W_condTA rfl ?_ | refine W_condFA rfl ?_ | (refine W_condD rfl ?_ ?_ <;> intro _) | (refine W_cond rfl ?_ ?_ <;> intro _))
    exact ret0 (.tmp rfl .nil) (.plain rfl rfl) ⟨rfl, rfl⟩
theorem fine_ev {σ : Heap} {s : St} {l : List Int} {x c : Nat} (hx : arrAt σ x (ints l)) (hN : l.length ≤ 9223372036854775807) (hni : σ.all (fun o => !isIter o) = true) :
    Ev Try.prog 41 [s.val, .slice (some ⟨x, 0, none⟩) l.length c] σ (.bool (decide (checkS s l = 0))) σ :=
  Ev.arrs [ints l] [x] (fine_ok s l c hN) ⟨hx, trivial⟩ ⟨vrel_plain _ rfl, by simpa [bsR] using VQ.slice (q := true) (n := 1) (ρ := bsR [x]) 0 0 l.length c c (Nat.le_refl _) (by omega), trivial⟩ (by simp [ints_plain]) rfl hni
end Go.Proofs.Ytgfnogdecggkkaa
namespace Go.Proofs.Ytgfnogdecggkkaa
open Go Go.AH
attribute [local irreducible] WOps WCode WFree retQ thenQ blockQ OpOk ACall RetRef roundA roundB
set_option maxRecDepth 100000
set_option maxHeartbeats 1000000
def farS (F : Nat → Int × Int) (n : Nat) (short : Int) : Nat → Int → Int
  | 0, x => x
  | m + 1, x => if x < short ∨ bestF F x n < 0 then x else farS F n short m ((F (bestF F x n).toNat).1 - 1)
def farP (s : St) (l : List Int) (r : Int) : Int × Int :=
  if checkS s l ≠ 0 then (0, checkS s l) else if r < 1 ∨ r > 20 then (0, 2) else if farS (sp s l) l.length s.short r.toNat s.long + 1 > s.long then (0, 19) else (farS (sp s l) l.length s.short r.toNat s.long + 1, 0)
def farV (s : St) (l : List Int) (r : Int) : Value := .tuple #[.int .i64 (farP s l r).1, .int .i64 (farP s l r).2]
end Go.Proofs.Ytgfnogdecggkkaa
namespace Go.Proofs.Ytgfnogdecggkkaa
open Go Go.AH
attribute [local irreducible] WOps WCode WFree retQ thenQ blockQ OpOk ACall RetRef roundA roundB
set_option maxRecDepth 100000
set_option maxHeartbeats 1000000
theorem best_lo {F : Nat → Int × Int} {n : Nat} {x : Int} (h : ¬ bestF F x n < 0) : (bestF F x n).toNat < n ∧ (F (bestF F x n).toNat).1 ≤ x ∧ x ≤ (F (bestF F x n).toNat).2 ∧ ∀ i < n, (F i).1 ≤ x → x ≤ (F i).2 → (F (bestF F x n).toNat).1 ≤ (F i).1 := by
  rcases bestF_is F x n with ⟨h1, _⟩ | ⟨b, hb, h1, h2, h3, h4⟩
  · omega
  · rw [h1, Int.toNat_natCast]
    exact ⟨hb, h2, h3, fun i hi g1 g2 => (h4 i hi g1 g2).1⟩
theorem grd_in {F : Nat → Int × Int} {n : Nat} {to : Int} : ∀ (k : Nat) (x : Int) (m : Nat), m < (grd F n to k x).1.length → to ≤ (gp (grd F n to k x).1 m).1
  | 0, x, m, h => by simp [grd] at h
  | k + 1, x, m, h => by
    simp only [grd] at h ⊢
    by_cases hs : x < to ∨ bestF F x n < 0
    · rw [if_pos hs] at h; simp at h
    · rw [if_neg hs] at h ⊢
      cases m with
      | zero => show to ≤ x; omega
      | succ m => exact grd_in k _ m (by simpa using h)
end Go.Proofs.Ytgfnogdecggkkaa
namespace Go.Proofs.Ytgfnogdecggkkaa
open Go Go.AH
attribute [local irreducible] WOps WCode WFree retQ thenQ blockQ OpOk ACall RetRef roundA roundB
set_option maxRecDepth 100000
set_option maxHeartbeats 1000000
def firstB (n : Nat) (p : Nat → Prop) [DecidablePred p] : Int := match (List.range n).find? (fun i => decide (p i)) with | some i => i | none => -1
def both (f : Nat → Int × Int) (p r : Int) (k : Nat) : Prop := ((f k).1 ≤ p ∧ p ≤ (f k).2) ∧ (f k).1 ≤ r ∧ r ≤ (f k).2
instance (f : Nat → Int × Int) (p r : Int) : DecidablePred (both f p r) := fun k => by unfold both; infer_instance
end Go.Proofs.Ytgfnogdecggkkaa
namespace Go.Proofs.Ytgfnogdecggkkaa
open Go Go.AH
attribute [local irreducible] WOps WCode WFree retQ thenQ blockQ OpOk ACall RetRef roundA roundB
set_option maxRecDepth 100000
set_option maxHeartbeats 1000000
def badPt (s : St) (q : List Int) (i : Nat) : Prop := gi q i > s.long ∨ gi q i < s.short ∨ (0 < i ∧ gi q i ≥ gi q (i - 1))
instance (s : St) (q : List Int) : DecidablePred (badPt s q) := fun i => by unfold badPt; infer_instance
def meets (s : St) (l q : List Int) (i : Nat) : Prop := 0 < i ∧ someB l.length (both (spanAt s l) (gi q (i - 1)) (gi q i)) = true
instance (s : St) (l q : List Int) : DecidablePred (meets s l q) := fun i => by unfold meets; infer_instance
def checkQ (s : St) (l q : List Int) : Int :=
  if checkS s l ≠ 0 then checkS s l else if q.length > 20 then 6 else if someB q.length (badPt s q) = true then 3 else if someB q.length (meets s l q) = true then 14 else 0
def lastQ (s : St) (q : List Int) : Nat → Int
  | 0 => s.long + 1
  | i + 1 => gi q i
end Go.Proofs.Ytgfnogdecggkkaa
