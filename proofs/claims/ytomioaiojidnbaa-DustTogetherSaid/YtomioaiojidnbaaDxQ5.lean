/- DustTogether's own function, hours by numbers. -/
import Derived.Test.YtomioaiojidnbaaDxQ4
namespace Go.AH.Dust
open Go Go.AH
noncomputable def begF (S : Shp) (H : Nat) (lim : Int) (i : Nat) : List Int := ((reachL S).take i).filter (overB S H lim)
theorem begF_step {S : Shp} {H : Nat} {lim : Int} {i : Nat} (hi : i < (reachL S).length) : begF S H lim (i + 1) = if 0 ≤ most S H (gi (reachL S) i).toNat ∧ most S H (gi (reachL S) i).toNat > lim then begF S H lim i ++ [gi (reachL S) i] else begF S H lim i := by
  unfold begF
  have hg : (reachL S)[i] = gi (reachL S) i := by simp [gi, List.getD_eq_getElem?_getD, List.getElem?_eq_getElem hi]
  rw [List.take_add_one, List.getElem?_eq_getElem hi, Option.toList_some, List.filter_append, hg]
  by_cases ho : 0 ≤ most S H (gi (reachL S) i).toNat ∧ most S H (gi (reachL S) i).toNat > lim
  · rw [if_pos ho]
    have : overB S H lim (gi (reachL S) i) = true := by simp only [overB, Bool.and_eq_true, decide_eq_true_eq]; exact ho
    rw [List.filter_cons_of_pos this, List.filter_nil]
  · rw [if_neg ho]
    have : ¬ overB S H lim (gi (reachL S) i) = true := by
      simp only [overB, Bool.and_eq_true, decide_eq_true_eq]; exact ho
    rw [List.filter_cons_of_neg this, List.filter_nil, List.append_nil]
theorem begF_len {S : Shp} {H : Nat} {lim : Int} {i : Nat} : (begF S H lim i).length ≤ (reachL S).length := by
  unfold begF
  exact Nat.le_trans (List.length_filter_le _ _) (List.length_take_le' _ _)
theorem hc_g6 (S : Shp) (H : Nat) {n : Nat} (hn : 3 ≤ n) : HClosed n [.ro (ints S.d), .ro (pc S.f), .ro (ints S.s), .rw (shL 0 1 2 S), .rw (ints (reachL S)), .rw (cl S.d.length (most S H))] :=
  ⟨plainL_closed (ints_plain _), plainL_closed (pc_plain _), plainL_closed (ints_plain _), shL_closed (by omega) (by omega) (by omega), plainL_closed (ints_plain _), plainL_closed cl_plain, trivial⟩
noncomputable def safeE (S : Shp) (h lim : Int) : Int := if clockE S h ≠ 0 then clockE S h else if (begL S h lim).length > 0 then 23 else 0
end Go.AH.Dust
namespace Go.Proofs.Ytomioaiojidnbaa
open Go Go.AH
attribute [local irreducible] WOps WCode WFree retQ thenQ blockQ scopeQ OpOk ACall RetRef roundA roundB
set_option maxRecDepth 100000
set_option maxHeartbeats 1000000
open Go.AH.Dust
theorem begins32_ok (S : Shp) (hS : S.fit) (h lim : Int) :
    Ev Try.prog 32 [shV 0 1 2 S, .int .i64 h, .int .i64 lim] S.hp (.tuple #[sl 3 (begL S h lim).length, .int .i64 (clockE S h)]) (S.hp ++ [.rw (ints (begL S h lim))]) := by
  have hho := hours65_ev (σ := [.ro (ints S.d), .ro (pc S.f), .ro (ints S.s), .rw (shL 0 1 2 S)]) (S := S) (h := h) (x := 0) (y := 1) (z := 2) ⟨.inl rfl, .inl rfl, .inl rfl⟩ shS_self hS rfl
  by_cases hc : clockE S h = 0
  · obtain ⟨h0, h1, h24⟩ := clockE_zero hc
    have hok := shopE_zero h0
    have n10 := hok.n10
    obtain ⟨H, rfl⟩ : ∃ H : Nat, h = ((H + 1 : Nat) : Int) := ⟨(h - 1).toNat, by omega⟩
    have hre := refReached_ev (σ := [.ro (ints S.d), .ro (pc S.f), .ro (ints S.s), .rw (shL 0 1 2 S)]) (S := S) (x := 0) (y := 1) (z := 2) ⟨.inl rfl, .inl rfl, .inl rfl⟩ shS_self hS rfl
    have hmo := most66_ev (σ := [.ro (ints S.d), .ro (pc S.f), .ro (ints S.s), .rw (shL 0 1 2 S), .rw (ints (reachL S))]) (S := S) (x := 0) (y := 1) (z := 2) ⟨.inl rfl, .inl rfl, .inl rfl⟩ shS_self hok (H := H) (by omega) rfl
    have hlr := reachL_le (S := S)
    have hbl : begL S ((H + 1 : Nat) : Int) lim = begF S H lim (reachL S).length := by
      unfold begL begF
      rw [if_pos hc, List.take_length, show (((H + 1 : Nat) : Int)).toNat - 1 = H by omega]
    rw [hbl, hc]
    rw [hc] at hho
    refine acall_intro 3 61 Try.func32 rfl rfl rfl rfl rfl ?_
    repeat' (first | (refine gU ?_; first | (refine gMove ?_; refine st (ok_move rfl) rfl rfl ?_) | (refine gAssign ?_; refine st (ok_assign rfl) rfl rfl ?_) | (refine gLoad ?_; refine st (ok_loadA rfl (by rfl)) rfl rfl ?_) | (refine gBin ?_; refine st (ok_bin rfl rfl rfl) rfl rfl ?_) | (refine gExtract ?_; refine st (ok_extract rfl rfl) rfl rfl ?_) | (refine gCall ?_; refine st (ok_call rfl rfl rfl (by first | exact hho | exact hre | exact hmo)) rfl rfl ?_) | (refine gBox ?_; refine st (ok_box rfl) rfl rfl ?_)) | refine W_seq ?_ | refine W_region ?_ | refine st_nil ?_ | refine tq_n ?_ | refine W_skip ?_ | refine W_block ?_ | refine W_condFA rfl ?_)
    refine W_loopS (ι := Nat) (fun i => [(2, .int .i64 lim), (8, sl 4 (reachL S).length), (10, sl 5 S.d.length), (11, slvV 6 1 (begF S H lim i).length), (12, .int .i64 (i : Int))])
      (fun i => [.ro (ints S.d), .ro (pc S.f), .ro (ints S.s), .rw (shL 0 1 2 S), .rw (ints (reachL S)), .rw (cl S.d.length (most S H)), .gr (ints (begF S H lim i)) 3]) (fun i => (reachL S).length - i) (fun i => i ≤ (reachL S).length) 0 (by simp) (StRef.src [.ro (ints S.d), .ro (pc S.f), .ro (ints S.s), .rw (shL 0 1 2 S), .rw (ints (reachL S)), .rw (cl S.d.length (most S H))] [.gr [] 3] [6] (by simp) rfl (hc_g6 S H (by simp)) rfl rfl ⟨osub_gr0, trivial⟩ (by (repeat' (first | exact trivial | refine ⟨er_plain rfl rfl, ?_⟩ | refine ⟨er_closed (m := 6) rfl (fun i hi => srcR_lt hi) (by simp) (by exact closed_slice rfl) rfl, ?_⟩)))) (by omega) ?_
    intro i hi
    by_cases hil : i < (reachL S).length
    · have hs := begF_step (S := S) (H := H) (lim := lim) hil
      have hkl := begF_len (S := S) (H := H) (lim := lim) (i := i)
      obtain ⟨n, e1, e2, _⟩ := reachL_at h0 hil
      have hil2 : (ints (begF S H lim i)).length = (begF S H lim i).length * 1 := by simp [ints]
      have hc1 : cellGet [.ro (ints S.d), .ro (pc S.f), .ro (ints S.s), .rw (shL 0 1 2 S), .rw (ints (reachL S)), .rw (cl S.d.length (most S H)), .gr (ints (begF S H lim i)) 3] 4 i = some (.int .i64 (n : Int)) := by rw [← e1]; exact ints_get hil
      have hc2 : cellGet [.ro (ints S.d), .ro (pc S.f), .ro (ints S.s), .rw (shL 0 1 2 S), .rw (ints (reachL S)), .rw (cl S.d.length (most S H)), .gr (ints (begF S H lim i)) 3] 5 n = some (.int .i64 (most S H n)) := cl_get e2
      rw [e1, Int.toNat_natCast] at hs
      generalize hKL : begF S H lim i = KL at *
      generalize most S H n = rk at *
      by_cases hr0 : rk ≥ 0
      · by_cases hrl : rk > lim
        · rw [if_pos ⟨hr0, hrl⟩] at hs
          have hlen : (begF S H lim (i + 1)).length = KL.length + 1 := by rw [hs]; simp
          have hcs : ints (begF S H lim (i + 1)) = ints KL ++ [.int .i64 (n : Int)] := by rw [hs, ints_app]
          repeat' (first | (refine gU ?_; first | (refine gMove ?_; refine st (ok_move rfl) rfl rfl ?_) | (refine gAssign ?_; refine st (ok_assign rfl) rfl rfl ?_) | (refine gLoad ?_; refine st (ok_load rfl (by first | exact hc1 | exact hc2)) rfl rfl ?_) | (refine gAdd ?_; refine st (ok_inc rfl rfl (by omega)) rfl rfl ?_) | (refine gBin ?_; refine st (ok_bin rfl rfl rfl) rfl rfl ?_) | (refine gLen ?_; refine st (ok_len rfl) rfl rfl ?_) | (refine gPick ?_; refine st (ok_pickTA rfl rfl) rfl rfl ?_) | (refine gIA ?_; refine st (ok_idxN rfl rfl (by omega)) rfl rfl ?_) | (refine gBuildS ?_; refine st (ok_buildS (by rfl) (by rfl) (by rfl) (by rfl) rfl (by rfl)) rfl rfl ?_) | (refine gApp ?_; refine st (ok_appendV (by rfl) (by rfl) rfl (by rfl) (by exact hil2) rfl (by rfl) (by omega) (by rfl) (by omega) (by omega)) rfl rfl ?_)) | (refine gG ?_; first | (refine gMove ?_; refine stGA rfl (ok_move rfl) rfl rfl ?_) | (refine gLoad ?_; refine stGA rfl (ok_load rfl (by first | exact hc1 | exact hc2)) rfl rfl ?_) | (refine gBin ?_; refine stGA rfl (ok_bin rfl rfl rfl) rfl rfl ?_) | (refine gIA ?_; refine stGA rfl (ok_idxN rfl rfl (by omega)) rfl rfl ?_)) | refine W_seq ?_ | refine W_region ?_ | refine st_nil ?_ | refine tq_n ?_ | refine bq_n ?_ | refine W_skip ?_ | refine W_block ?_ | refine W_condTA rfl ?_)
          exact ⟨rfl, i + 1, by omega, by omega, StRef.src [.ro (ints S.d), .ro (pc S.f), .ro (ints S.s), .rw (shL 0 1 2 S), .rw (ints (reachL S)), .rw (cl S.d.length (most S H))] [.gr (ints (begF S H lim (i + 1))) 3] [8] (by simp) rfl (hc_g6 S H (by simp)) rfl rfl ⟨osub_gr rfl (by rw [hcs]; rfl) (ints_plain _), trivial⟩ (by (repeat' (first | exact trivial | refine ⟨er_plain rfl rfl, ?_⟩ | refine ⟨er_closed (m := 6) rfl (fun i hi => srcR_lt hi) (by simp) (by exact closed_slice rfl) rfl, ?_⟩ | refine ⟨er_slvV (by rw [hlen]; rfl) (by simp) rfl, ?_⟩)))⟩
        · rw [if_neg (fun h => hrl h.2)] at hs
          repeat' (first | (refine gU ?_; first | (refine gMove ?_; refine st (ok_move rfl) rfl rfl ?_) | (refine gAssign ?_; refine st (ok_assign rfl) rfl rfl ?_) | (refine gLoad ?_; refine st (ok_load rfl (by first | exact hc1 | exact hc2)) rfl rfl ?_) | (refine gAdd ?_; refine st (ok_inc rfl rfl (by omega)) rfl rfl ?_) | (refine gBin ?_; refine st (ok_bin rfl rfl rfl) rfl rfl ?_) | (refine gLen ?_; refine st (ok_len rfl) rfl rfl ?_) | (refine gPick ?_; refine st (ok_pickTA rfl rfl) rfl rfl ?_) | (refine gIA ?_; refine st (ok_idxN rfl rfl (by omega)) rfl rfl ?_)) | (refine gG ?_; first | (refine gMove ?_; refine stGA rfl (ok_move rfl) rfl rfl ?_) | (refine gLoad ?_; refine stGA rfl (ok_load rfl (by first | exact hc1 | exact hc2)) rfl rfl ?_) | (refine gBin ?_; refine stGA rfl (ok_bin rfl rfl rfl) rfl rfl ?_) | (refine gIA ?_; refine stGA rfl (ok_idxN rfl rfl (by omega)) rfl rfl ?_)) | refine W_seq ?_ | refine W_region ?_ | refine st_nil ?_ | refine tq_n ?_ | refine bq_n ?_ | refine W_skip ?_ | refine W_block ?_ | refine W_condTA rfl ?_ | refine W_condFA rfl ?_)
          refine ⟨rfl, i + 1, by omega, by omega, ?_⟩
          rw [hs]
          exact .same ⟨rfl, rfl, rfl, rfl, rfl, trivial⟩
      · rw [if_neg (fun h => hr0 h.1)] at hs
        repeat' (first | (refine gU ?_; first | (refine gMove ?_; refine st (ok_move rfl) rfl rfl ?_) | (refine gAssign ?_; refine st (ok_assign rfl) rfl rfl ?_) | (refine gLoad ?_; refine st (ok_load rfl (by first | exact hc1 | exact hc2)) rfl rfl ?_) | (refine gAdd ?_; refine st (ok_inc rfl rfl (by omega)) rfl rfl ?_) | (refine gBin ?_; refine st (ok_bin rfl rfl rfl) rfl rfl ?_) | (refine gLen ?_; refine st (ok_len rfl) rfl rfl ?_) | (refine gPick ?_; refine st (ok_pickFA rfl rfl) rfl rfl ?_) | (refine gIA ?_; refine st (ok_idxN rfl rfl (by omega)) rfl rfl ?_)) | (refine gG ?_; refine stSA rfl rfl ?_) | refine W_seq ?_ | refine W_region ?_ | refine st_nil ?_ | refine tq_n ?_ | refine bq_n ?_ | refine W_skip ?_ | refine W_block ?_ | refine W_condTA rfl ?_ | refine W_condFA rfl ?_)
        refine ⟨rfl, i + 1, by omega, by omega, ?_⟩
        rw [hs]
        exact .same ⟨rfl, rfl, rfl, rfl, rfl, trivial⟩
    · obtain rfl : i = (reachL S).length := by omega
      repeat' (first | (refine gU ?_; first | (refine gMove ?_; refine st (ok_move rfl) rfl rfl ?_) | (refine gAssign ?_; refine st (ok_assign rfl) rfl rfl ?_) | (refine gBin ?_; refine st (ok_bin rfl rfl rfl) rfl rfl ?_) | (refine gLen ?_; refine st (ok_len rfl) rfl rfl ?_)) | refine W_seq ?_ | refine W_region ?_ | refine st_nil ?_ | refine tq_n ?_ | refine tq_e ?_ | refine bq_hit rfl ?_ | refine W_exit ?_ | refine W_ret ?_ | refine W_condFA rfl ?_)
      exact ret0 (.tmp rfl (.tmp rfl .nil)) (retSl (j := 6) rfl (ints_plain _) (.inr ⟨3, rfl⟩) rfl rfl) ⟨rfl, rfl⟩
  · have e : begL S h lim = [] := by unfold begL; rw [if_neg hc]
    rw [e]
    generalize clockE S h = E at *
    refine acall_intro 3 61 Try.func32 rfl rfl rfl rfl rfl ?_
    repeat' (first | (refine gU ?_; first | (refine gMove ?_; refine st (ok_move rfl) rfl rfl ?_) | (refine gAssign ?_; refine st (ok_assign rfl) rfl rfl ?_) | (refine gLoad ?_; refine st (ok_loadA rfl (by rfl)) rfl rfl ?_) | (refine gBin ?_; refine st (ok_bin rfl rfl rfl) rfl rfl ?_) | (refine gCall ?_; refine st (ok_call rfl rfl rfl (by exact hho)) rfl rfl ?_) | (refine gBox ?_; refine st (ok_box rfl) rfl rfl ?_)) | refine W_seq ?_ | refine W_region ?_ | refine st_nil ?_ | refine tq_n ?_ | refine tq_r ?_ | refine W_ret ?_ | refine W_condTA rfl ?_)
    exact ret0 (.tmp rfl (.tmp rfl .nil)) (retNil rfl rfl) ⟨rfl, rfl⟩
theorem begins31_ev {σ : Heap} {S : Shp} {h lim : Int} {x y z : Nat} {v : Value} (hs : SAt σ x y z S) (hv : ShS x y z S v) (hS : S.fit) (hni : σ.all (fun o => !isIter o) = true) :
    Ev Try.prog 31 [v, .int .i64 h, .int .i64 lim] σ (.tuple #[sl σ.length (begL S h lim).length, .int .i64 (clockE S h)]) (σ ++ [.rw (ints (begL S h lim))]) := by
  refine Ev.arrsN S.css [x, y, z] (begins31_ok S hS h lim) hs.arrs ⟨hv, .int _ _, .int _ _, trivial⟩ S.css_plain rfl ?_ ?_ hni
  · simp [ren, renA, renL, shf]
  · simp only [List.map_cons, List.map_nil, renO, renL_plain _ (ints_plain _)]
theorem begins32_ev {σ : Heap} {S : Shp} {h lim : Int} {x y z : Nat} {v : Value} (hs : SAt σ x y z S) (hv : ShS x y z S v) (hS : S.fit) (hni : σ.all (fun o => !isIter o) = true) :
    Ev Try.prog 32 [v, .int .i64 h, .int .i64 lim] σ (.tuple #[sl σ.length (begL S h lim).length, .int .i64 (clockE S h)]) (σ ++ [.rw (ints (begL S h lim))]) := by
  refine Ev.arrsN S.css [x, y, z] (begins32_ok S hS h lim) hs.arrs ⟨hv, .int _ _, .int _ _, trivial⟩ S.css_plain rfl ?_ ?_ hni
  · simp [ren, renA, renL, shf]
  · simp only [List.map_cons, List.map_nil, renO, renL_plain _ (ints_plain _)]
theorem safe33_ok (S : Shp) (hS : S.fit) (h lim : Int) : Ev Try.prog 33 [shV 0 1 2 S, .int .i64 h, .int .i64 lim] S.hp (.int .i64 (safeE S h lim)) S.hp := by
  have hbe := begins31_ev (σ := [.ro (ints S.d), .ro (pc S.f), .ro (ints S.s), .rw (shL 0 1 2 S)]) (S := S) (h := h) (lim := lim) (x := 0) (y := 1) (z := 2) ⟨.inl rfl, .inl rfl, .inl rfl⟩ shS_self hS rfl
  unfold safeE
  generalize begL S h lim = L at *
  generalize clockE S h = E at *
  by_cases hE : E ≠ 0
  · rw [if_pos hE]
    refine acall_intro 3 24 Try.func33 rfl rfl rfl rfl rfl ?_
    repeat' (first | (refine gU ?_; first | (refine gMove ?_; refine st (ok_move rfl) rfl rfl ?_) | (refine gAssign ?_; refine st (ok_assign rfl) rfl rfl ?_) | (refine gLoad ?_; refine st (ok_loadA rfl (by rfl)) rfl rfl ?_) | (refine gBin ?_; refine st (ok_bin rfl rfl rfl) rfl rfl ?_) | (refine gExtract ?_; refine st (ok_extract rfl rfl) rfl rfl ?_) | (refine gCall ?_; refine st (ok_call rfl rfl rfl (by exact hbe)) rfl rfl ?_) | (refine gBox ?_; refine st (ok_box rfl) rfl rfl ?_)) | refine W_seq ?_ | refine W_region ?_ | refine st_nil ?_ | refine tq_n ?_ | refine tq_r ?_ | refine bq_r ?_ | refine W_ret ?_ | refine W_block ?_ | refine W_condTA rfl ?_)
    all_goals exact ret0 (.tmp rfl .nil) (.plain rfl rfl) ⟨rfl, rfl⟩
  · rw [if_neg hE]
    by_cases hL : (L.length : Int) > 0
    · rw [if_pos (by omega)]
      refine acall_intro 3 24 Try.func33 rfl rfl rfl rfl rfl ?_
      repeat' (first | (refine gU ?_; first | (refine gMove ?_; refine st (ok_move rfl) rfl rfl ?_) | (refine gAssign ?_; refine st (ok_assign rfl) rfl rfl ?_) | (refine gLoad ?_; refine st (ok_loadA rfl (by rfl)) rfl rfl ?_) | (refine gBin ?_; refine st (ok_bin rfl rfl rfl) rfl rfl ?_) | (refine gLen ?_; refine st (ok_len rfl) rfl rfl ?_) | (refine gExtract ?_; refine st (ok_extract rfl rfl) rfl rfl ?_) | (refine gCall ?_; refine st (ok_call rfl rfl rfl (by exact hbe)) rfl rfl ?_) | (refine gBox ?_; refine st (ok_box rfl) rfl rfl ?_)) | refine W_seq ?_ | refine W_region ?_ | refine st_nil ?_ | refine tq_n ?_ | refine tq_r ?_ | refine bq_r ?_ | refine W_ret ?_ | refine W_block ?_ | refine W_condTA rfl ?_ | refine W_condFA rfl ?_)
      all_goals exact ret0 (.tmp rfl .nil) (.plain rfl rfl) ⟨rfl, rfl⟩
    · rw [if_neg (by omega)]
      refine acall_intro 3 24 Try.func33 rfl rfl rfl rfl rfl ?_
      repeat' (first | (refine gU ?_; first | (refine gMove ?_; refine st (ok_move rfl) rfl rfl ?_) | (refine gAssign ?_; refine st (ok_assign rfl) rfl rfl ?_) | (refine gLoad ?_; refine st (ok_loadA rfl (by rfl)) rfl rfl ?_) | (refine gBin ?_; refine st (ok_bin rfl rfl rfl) rfl rfl ?_) | (refine gLen ?_; refine st (ok_len rfl) rfl rfl ?_) | (refine gExtract ?_; refine st (ok_extract rfl rfl) rfl rfl ?_) | (refine gCall ?_; refine st (ok_call rfl rfl rfl (by exact hbe)) rfl rfl ?_) | (refine gBox ?_; refine st (ok_box rfl) rfl rfl ?_)) | refine W_seq ?_ | refine W_region ?_ | refine st_nil ?_ | refine tq_n ?_ | refine bq_n ?_ | refine W_skip ?_ | refine W_ret ?_ | refine W_block ?_ | refine W_condFA rfl ?_)
      all_goals exact ret0 (.tmp rfl .nil) (.plain rfl rfl) ⟨rfl, rfl⟩
theorem safe34_ok (S : Shp) (hS : S.fit) (h lim : Int) : Ev Try.prog 34 [shV 0 1 2 S, .int .i64 h, .int .i64 lim] S.hp (.int .i64 (safeE S h lim)) S.hp := by
  have hbe := begins32_ev (σ := [.ro (ints S.d), .ro (pc S.f), .ro (ints S.s), .rw (shL 0 1 2 S)]) (S := S) (h := h) (lim := lim) (x := 0) (y := 1) (z := 2) ⟨.inl rfl, .inl rfl, .inl rfl⟩ shS_self hS rfl
  unfold safeE
  generalize begL S h lim = L at *
  generalize clockE S h = E at *
  by_cases hE : E ≠ 0
  · rw [if_pos hE]
    refine acall_intro 3 22 Try.func34 rfl rfl rfl rfl rfl ?_
    repeat' (first | (refine gU ?_; first | (refine gMove ?_; refine st (ok_move rfl) rfl rfl ?_) | (refine gAssign ?_; refine st (ok_assign rfl) rfl rfl ?_) | (refine gLoad ?_; refine st (ok_loadA rfl (by rfl)) rfl rfl ?_) | (refine gBin ?_; refine st (ok_bin rfl rfl rfl) rfl rfl ?_) | (refine gExtract ?_; refine st (ok_extract rfl rfl) rfl rfl ?_) | (refine gCall ?_; refine st (ok_call rfl rfl rfl (by exact hbe)) rfl rfl ?_) | (refine gBox ?_; refine st (ok_box rfl) rfl rfl ?_)) | refine W_seq ?_ | refine W_region ?_ | refine st_nil ?_ | refine tq_n ?_ | refine tq_r ?_ | refine W_ret ?_ | refine W_condTA rfl ?_)
    all_goals exact ret0 (.tmp rfl .nil) (.plain rfl rfl) ⟨rfl, rfl⟩
  · rw [if_neg hE]
    by_cases hL : (L.length : Int) > 0
    · rw [if_pos (by omega)]
      refine acall_intro 3 22 Try.func34 rfl rfl rfl rfl rfl ?_
      repeat' (first | (refine gU ?_; first | (refine gMove ?_; refine st (ok_move rfl) rfl rfl ?_) | (refine gAssign ?_; refine st (ok_assign rfl) rfl rfl ?_) | (refine gLoad ?_; refine st (ok_loadA rfl (by rfl)) rfl rfl ?_) | (refine gBin ?_; refine st (ok_bin rfl rfl rfl) rfl rfl ?_) | (refine gLen ?_; refine st (ok_len rfl) rfl rfl ?_) | (refine gExtract ?_; refine st (ok_extract rfl rfl) rfl rfl ?_) | (refine gCall ?_; refine st (ok_call rfl rfl rfl (by exact hbe)) rfl rfl ?_) | (refine gBox ?_; refine st (ok_box rfl) rfl rfl ?_)) | refine W_seq ?_ | refine W_region ?_ | refine st_nil ?_ | refine tq_n ?_ | refine tq_r ?_ | refine W_skip ?_ | refine W_ret ?_ | refine W_condTA rfl ?_ | refine W_condFA rfl ?_)
      all_goals exact ret0 (.tmp rfl .nil) (.plain rfl rfl) ⟨rfl, rfl⟩
    · rw [if_neg (by omega)]
      refine acall_intro 3 22 Try.func34 rfl rfl rfl rfl rfl ?_
      repeat' (first | (refine gU ?_; first | (refine gMove ?_; refine st (ok_move rfl) rfl rfl ?_) | (refine gAssign ?_; refine st (ok_assign rfl) rfl rfl ?_) | (refine gLoad ?_; refine st (ok_loadA rfl (by rfl)) rfl rfl ?_) | (refine gBin ?_; refine st (ok_bin rfl rfl rfl) rfl rfl ?_) | (refine gLen ?_; refine st (ok_len rfl) rfl rfl ?_) | (refine gExtract ?_; refine st (ok_extract rfl rfl) rfl rfl ?_) | (refine gCall ?_; refine st (ok_call rfl rfl rfl (by exact hbe)) rfl rfl ?_) | (refine gBox ?_; refine st (ok_box rfl) rfl rfl ?_)) | refine W_seq ?_ | refine W_region ?_ | refine st_nil ?_ | refine tq_n ?_ | refine W_skip ?_ | refine W_ret ?_ | refine W_condFA rfl ?_)
      all_goals exact ret0 (.tmp rfl .nil) (.plain rfl rfl) ⟨rfl, rfl⟩
theorem safe33_ev {σ : Heap} {S : Shp} {h lim : Int} {x y z : Nat} {v : Value} (hs : SAt σ x y z S) (hv : ShS x y z S v) (hS : S.fit) (hni : σ.all (fun o => !isIter o) = true) :
    Ev Try.prog 33 [v, .int .i64 h, .int .i64 lim] σ (.int .i64 (safeE S h lim)) σ := Ev.arrs S.css [x, y, z] (safe33_ok S hS h lim) hs.arrs ⟨hv, .int _ _, .int _ _, trivial⟩ S.css_plain rfl hni
theorem safe34_ev {σ : Heap} {S : Shp} {h lim : Int} {x y z : Nat} {v : Value} (hs : SAt σ x y z S) (hv : ShS x y z S v) (hS : S.fit) (hni : σ.all (fun o => !isIter o) = true) :
    Ev Try.prog 34 [v, .int .i64 h, .int .i64 lim] σ (.int .i64 (safeE S h lim)) σ := Ev.arrs S.css [x, y, z] (safe34_ok S hS h lim) hs.arrs ⟨hv, .int _ _, .int _ _, trivial⟩ S.css_plain rfl hni
end Go.Proofs.Ytomioaiojidnbaa
namespace Go.Proofs.Ytomioaiojidnbaa
open Go Go.AH
attribute [local irreducible] WOps WCode WFree retQ thenQ blockQ scopeQ OpOk ACall RetRef roundA roundB
set_option maxRecDepth 100000
set_option maxHeartbeats 1000000
open Go.AH.Dust
theorem dustLimits_own (hwo : ∀ σ : Heap, σ.all (fun o => !isIter o) = true → Ev Try.prog 14 [] σ (.bool true) σ) (S : Shp) (hS : S.fit) (h lim : Int) :
    Ev Try.prog 6 [shV 0 1 2 S, .int .i64 h, .int .i64 lim] S.hp (.bool true) S.hp := by
  have hgr := great_ev (σ := [.ro (ints S.d), .ro (pc S.f), .ro (ints S.s), .rw (shL 0 1 2 S)]) (S := S) (x := 0) (y := 1) (z := 2) ⟨.inl rfl, .inl rfl, .inl rfl⟩ shS_self hS rfl
  by_cases hm : (S.d.length : Int) > 15 ∨ (S.f.length : Int) > 70 ∨ (S.s.length : Int) > 15
  · refine acall_intro 3 50 Try.func6 rfl rfl rfl rfl rfl ?_
    repeat' (first | (refine gU ?_; first | (refine gAssign ?_; refine st (ok_assign rfl) rfl rfl ?_) | (refine gLoad ?_; refine st (ok_loadA rfl (by rfl)) rfl rfl ?_) | (refine gCall ?_; refine st (ok_call rfl rfl rfl (by first | exact hgr | exact hwo _ rfl)) rfl rfl ?_) | (refine gBox ?_; refine st (ok_box rfl) rfl rfl ?_)) | refine W_seq ?_ | refine W_region ?_ | refine st_nil ?_ | refine tq_n ?_ | refine tq_r ?_ | refine W_ret ?_ | refine W_condTA rfl ?_)
    all_goals exact ret0 (.tmp rfl .nil) (.plain rfl rfl) ⟨rfl, rfl⟩
  · have hA := begins31_ev (σ := [.ro (ints S.d), .ro (pc S.f), .ro (ints S.s), .rw (shL 0 1 2 S)]) (S := S) (h := h) (lim := lim) (x := 0) (y := 1) (z := 2) ⟨.inl rfl, .inl rfl, .inl rfl⟩ shS_self hS rfl
    have hB := begins32_ev (σ := [.ro (ints S.d), .ro (pc S.f), .ro (ints S.s), .rw (shL 0 1 2 S), .rw (ints (begL S h lim))]) (S := S) (h := h) (lim := lim) (x := 0) (y := 1) (z := 2) ⟨.inl rfl, .inl rfl, .inl rfl⟩ shS_self hS rfl
    have hC := ints_ev (σ := [.ro (ints S.d), .ro (pc S.f), .ro (ints S.s), .rw (shL 0 1 2 S), .rw (ints (begL S h lim)), .rw (ints (begL S h lim))]) (q := begL S h lim) (x := 4) (y := 5) (o := 0) (o2 := 0) (prtAt_arr (.inr (.inl rfl))) (prtAt_arr (.inr (.inl rfl))) ps_self ps_self begL_le rfl
    have hD := safe33_ev (σ := [.ro (ints S.d), .ro (pc S.f), .ro (ints S.s), .rw (shL 0 1 2 S), .rw (ints (begL S h lim)), .rw (ints (begL S h lim))]) (S := S) (h := h) (lim := lim) (x := 0) (y := 1) (z := 2) ⟨.inl rfl, .inl rfl, .inl rfl⟩ shS_self hS rfl
    have hE := safe34_ev (σ := [.ro (ints S.d), .ro (pc S.f), .ro (ints S.s), .rw (shL 0 1 2 S), .rw (ints (begL S h lim)), .rw (ints (begL S h lim))]) (S := S) (h := h) (lim := lim) (x := 0) (y := 1) (z := 2) ⟨.inl rfl, .inl rfl, .inl rfl⟩ shS_self hS rfl
    generalize safeE S h lim = se at *
    generalize begL S h lim = L at *
    generalize clockE S h = E at *
    refine acall_intro 3 50 Try.func6 rfl rfl rfl rfl rfl ?_
    repeat' (first | (refine gU ?_; first | (refine gMove ?_; refine st (ok_move rfl) rfl rfl ?_) | (refine gAssign ?_; refine st (ok_assign rfl) rfl rfl ?_) | (refine gLoad ?_; refine st (ok_loadA rfl (by rfl)) rfl rfl ?_) | (refine gExtract ?_; refine st (ok_extract rfl rfl) rfl rfl ?_) | (refine gCall ?_; refine st (ok_call rfl rfl rfl (by first | exact hgr | exact hA | exact hB)) rfl rfl ?_) | (refine gBox ?_; refine st (ok_box rfl) rfl rfl ?_)) | (refine fU ?_; first | refine frA (ok_call rfl rfl rfl hC) rfl ?_ | (refine fMove ?_; refine frA (ok_move rfl) rfl ?_) | (refine fAssign ?_; refine frA (ok_assign rfl) rfl ?_) | (refine fPick ?_; refine frA (ok_pickTA rfl rfl) rfl ?_)) | (refine fG ?_; first | (refine fMove ?_; refine frGA rfl (ok_move rfl) rfl ?_) | (refine fLoad ?_; refine frGA rfl (ok_loadA rfl (by rfl)) rfl ?_) | (refine fBin ?_; refine frGA rfl (ok_bin rfl rfl rfl) rfl ?_) | (refine fCall ?_; refine frGA rfl (ok_call rfl rfl rfl (by first | exact hwo _ rfl | exact hD | exact hE)) rfl ?_)) | (refine fr_stop ⟨by kernel_rfl, ?_⟩) | refine W_seq ?_ | refine W_region ?_ | refine W_regionD (by kernel_rfl) rfl ?_ | refine st_nil ?_ | refine tq_n ?_ | refine W_skip ?_ | refine W_ret ?_ | refine W_condFA rfl ?_)
    all_goals exact ret0 (.tmp rfl .nil) (.plain rfl rfl) ⟨rfl, rfl⟩
theorem dustLimits_law (S : Shp) (hS : S.fit) (h lim : Int) : Ev Try.prog 6 [shV 0 1 2 S, .int .i64 h, .int .i64 lim] S.hp (.bool true) S.hp := dustLimits_own (fun _ h => works_ev h) S hS h lim
end Go.Proofs.Ytomioaiojidnbaa
namespace Go.AH.Dust
open Go Go.AH
theorem mostF_ge {S : Shp} {m : Nat → Int} {i : Nat} : ∀ {k j : Nat}, j < k → (gf S.f j).1 = i → 0 ≤ m (gf S.f j).2.toNat → gi S.d i + m (gf S.f j).2.toNat ≤ mostF S m i k
  | k + 1, j, hj, h1, h2 => by
    simp only [mostF]
    by_cases hjk : j = k
    · subst hjk
      rw [if_pos ⟨h1, h2⟩]; omega
    · have ih := mostF_ge (S := S) (m := m) (i := i) (k := k) (j := j) (by omega) h1 h2
      split <;> omega
theorem most_split {S : Shp} (hS : S.ok) {k : Nat} : ∀ (h i : Nat), i < S.d.length → 0 ≤ most S (h + k + 1) i → ∃ j, j < S.d.length ∧ (rB S i = true → rB S j = true) ∧ 0 ≤ most S h i ∧ 0 ≤ most S k j ∧ most S (h + k + 1) i ≤ most S h i + most S k j
  | 0, i, hi, hm => by
    rw [Nat.zero_add] at hm ⊢
    obtain ⟨j, h1, h2, h3, h4⟩ := mostF_at (S := S) (m := most S k) (i := i) (k := S.f.length) hm
    have hw := (hS.f j h1).2.1
    have hd := hS.d i hi
    refine ⟨(gf S.f j).2.toNat, by have := hw.1; have := hw.2; omega, fun hr => ?_, by simp only [most]; omega, h3, ?_⟩
    · rw [rB_iff] at hr ⊢
      refine .next hr (mem_gf.2 ⟨j, h1, ?_⟩)
      have := hw.1
      exact Prod.ext (by rw [h2]) (by simp only; omega)
    · have h4' : most S (k + 1) i = gi S.d i + most S k (gf S.f j).2.toNat := h4
      rw [h4']; simp only [most]; omega
  | h + 1, i, hi, hm => by
    rw [show h + 1 + k + 1 = (h + k + 1) + 1 by omega] at hm ⊢
    obtain ⟨j, h1, h2, h3, h4⟩ := mostF_at (S := S) (m := most S (h + k + 1)) (i := i) (k := S.f.length) hm
    have hw := (hS.f j h1).2.1
    have hw1 := hw.1; have hw2 := hw.2
    have hd := hS.d i hi
    obtain ⟨j2, i1, i2, i3, i4, i5⟩ := most_split hS (k := k) h (gf S.f j).2.toNat (by omega) h3
    have hge := mostF_ge (S := S) (m := most S h) h1 h2 i3
    have hge' : gi S.d i + most S h (gf S.f j).2.toNat ≤ most S (h + 1) i := hge
    have h4' : most S ((h + k + 1) + 1) i = gi S.d i + most S (h + k + 1) (gf S.f j).2.toNat := h4
    refine ⟨j2, i1, fun hr => i2 ?_, by omega, i4, by omega⟩
    rw [rB_iff] at hr ⊢
    exact .next hr (mem_gf.2 ⟨j, h1, Prod.ext (by rw [h2]) (by simp only; omega)⟩)
theorem refW_ge {S : Shp} {H i : Nat} (hi : i < S.d.length) (hr : rB S i = true) : most S H i ≤ refW S H ∨ most S H i < 0 := by
  unfold refW
  rcases winT_is S H with ⟨t1, t2⟩ | ⟨t, t1, t2, t3, t4, t5⟩
  · exact .inr (t2 i hi hr)
  · rw [if_neg (by omega), t1, Int.toNat_natCast]; exact .inl (t5 i hi hr)
theorem refW_at {S : Shp} {H : Nat} (h : 0 ≤ refW S H) : ∃ i, i < S.d.length ∧ rB S i = true ∧ most S H i = refW S H := by
  unfold refW at h ⊢
  rcases winT_is S H with ⟨t1, t2⟩ | ⟨t, t1, t2, t3, t4, t5⟩
  · rw [if_pos (by omega)] at h; omega
  · rw [if_neg (by omega), t1, Int.toNat_natCast]; exact ⟨t, t2, t3, rfl⟩
theorem refW_split {S : Shp} (hS : S.ok) {h k : Nat} (hz : 0 ≤ refW S (h + k + 1)) : 0 ≤ refW S h ∧ 0 ≤ refW S k ∧ refW S (h + k + 1) ≤ refW S h + refW S k := by
  obtain ⟨i, i1, i2, i3⟩ := refW_at hz
  obtain ⟨j, j1, j2, j3, j4, j5⟩ := most_split hS (k := k) h i i1 (by omega)
  have a := refW_ge (S := S) (H := h) i1 i2
  have b := refW_ge (S := S) (H := k) j1 (j2 i2)
  omega
def endB (S : Shp) : Prop := ∀ i, i < S.d.length → rB S i = true → ∃ j, j < S.f.length ∧ (gf S.f j).1 = i
theorem end_mono {S : Shp} (hS : S.ok) (he : endB S) : ∀ (h i : Nat), i < S.d.length → rB S i = true → 0 ≤ most S h i ∧ most S h i ≤ most S (h + 1) i
  | 0, i, hi, hr => by
    obtain ⟨j, h1, h2⟩ := he i hi hr
    have hw := (hS.f j h1).2.1
    have hw1 := hw.1; have hw2 := hw.2
    have hd := hS.d i hi
    have hd2 := hS.d (gf S.f j).2.toNat (by omega)
    have hge := mostF_ge (S := S) (m := most S 0) h1 h2 (by simp only [most]; omega)
    have hge' : gi S.d i + most S 0 (gf S.f j).2.toNat ≤ most S (0 + 1) i := hge
    simp only [most] at hge' ⊢
    omega
  | h + 1, i, hi, hr => by
    have ih := end_mono hS he h i hi hr
    refine ⟨by omega, ?_⟩
    obtain ⟨j, h1, h2, h3, h4⟩ := mostF_at (S := S) (m := most S h) (i := i) (k := S.f.length) (show 0 ≤ most S (h + 1) i by omega)
    have hw := (hS.f j h1).2.1
    have hw1 := hw.1; have hw2 := hw.2
    have hrj : rB S (gf S.f j).2.toNat = true := by
      rw [rB_iff] at hr ⊢
      exact .next hr (mem_gf.2 ⟨j, h1, Prod.ext (by rw [h2]) (by simp only; omega)⟩)
    have ihj := end_mono hS he h (gf S.f j).2.toNat (by omega) hrj
    have hge := mostF_ge (S := S) (m := most S (h + 1)) h1 h2 (by omega)
    have hge' : gi S.d i + most S (h + 1) (gf S.f j).2.toNat ≤ most S (h + 1 + 1) i := hge
    have h4' : most S (h + 1) i = gi S.d i + most S h (gf S.f j).2.toNat := h4
    omega
theorem end_le {S : Shp} (hS : S.ok) (he : endB S) {i : Nat} (hi : i < S.d.length) (hr : rB S i = true) (h : Nat) : ∀ k, most S h i ≤ most S (h + k) i
  | 0 => Int.le_refl _
  | k + 1 => by
    have := end_le hS he hi hr h k
    have := (end_mono hS he (h + k) i hi hr).2
    rw [show h + (k + 1) = h + k + 1 by omega]; omega
end Go.AH.Dust
namespace Go.AH.Dust
open Go Go.AH
def smB (S : Shp) (n : Int) : Nat → Bool
  | 0 => false
  | k + 1 => smB S n k || decide ((gf S.f k).1 = n)
theorem smB_iff {S : Shp} {n : Int} : ∀ {k : Nat}, smB S n k = true ↔ ∃ j, j < k ∧ (gf S.f j).1 = n
  | 0 => by simp [smB]
  | k + 1 => by
    simp only [smB, Bool.or_eq_true, decide_eq_true_eq, smB_iff (k := k)]
    constructor
    · rintro (⟨j, h1, h2⟩ | h)
      · exact ⟨j, by omega, h2⟩
      · exact ⟨k, by omega, h⟩
    · rintro ⟨j, h1, h2⟩
      by_cases hj : j = k
      · subst hj; exact .inr h2
      · exact .inl ⟨j, by omega, h2⟩
open Classical in
noncomputable def endV (S : Shp) : Bool := decide (endB S)
theorem endV_true {S : Shp} (h : endB S) : endV S = true := @decide_eq_true _ (Classical.propDecidable _) h
theorem endV_false {S : Shp} (h : ¬ endB S) : endV S = false := @decide_eq_false _ (Classical.propDecidable _) h
theorem endV_iff {S : Shp} : endV S = true ↔ endB S := @decide_eq_true_iff _ (Classical.propDecidable _)
end Go.AH.Dust
namespace Go.Proofs.Ytomioaiojidnbaa
open Go Go.AH
attribute [local irreducible] WOps WCode WFree retQ thenQ blockQ scopeQ OpOk ACall RetRef roundA roundB
set_option maxRecDepth 100000
set_option maxHeartbeats 1000000
open Go.AH.Dust
theorem endless_ok (S : Shp) (h0 : shopE S = 0) : Ev Try.prog 43 [shV 0 1 2 S] S.hp (.bool (endV S)) S.hp := by
  have hok := shopE_zero h0
  have f60 := hok.f60
  have hlen := reachL_le (S := S)
  have hre := refReached_ev (σ := [.ro (ints S.d), .ro (pc S.f), .ro (ints S.s), .rw (shL 0 1 2 S)]) (S := S) (x := 0) (y := 1) (z := 2) ⟨.inl rfl, .inl rfl, .inl rfl⟩ shS_self hok.fit rfl
  refine acall_intro 3 42 Try.func43 rfl rfl rfl rfl rfl ?_
  repeat' (first | (refine gU ?_; first | (refine gMove ?_; refine st (ok_move rfl) rfl rfl ?_) | (refine gAssign ?_; refine st (ok_assign rfl) rfl rfl ?_) | (refine gLoad ?_; refine st (ok_loadA rfl (by rfl)) rfl rfl ?_) | (refine gExtract ?_; refine st (ok_extract rfl rfl) rfl rfl ?_) | (refine gCall ?_; refine st (ok_call rfl rfl rfl (by exact hre)) rfl rfl ?_) | (refine gBox ?_; refine st (ok_box rfl) rfl rfl ?_)) | refine W_seq ?_ | refine W_region ?_ | refine st_nil ?_ | refine tq_n ?_ | refine W_block ?_)
  refine W_loopS (ι := Nat) (fun i => [(1, .pointer (some ⟨3, 0, none⟩)), (3, sl 4 (reachL S).length), (5, .int .i64 (i : Int))]) (fun _ => [.ro (ints S.d), .ro (pc S.f), .ro (ints S.s), .rw (shL 0 1 2 S), .rw (ints (reachL S))]) (fun i => (reachL S).length - i) (fun i => i ≤ (reachL S).length ∧ ∀ i' < i, smB S (gi (reachL S) i') S.f.length = true) 0 (by simp) (.same ⟨rfl, rfl, rfl, trivial⟩) ⟨Nat.zero_le _, fun i' h => by omega⟩ ?_
  intro i ⟨hi, hall⟩
  by_cases hil : i < (reachL S).length
  · have hc2 : cellGet [.ro (ints S.d), .ro (pc S.f), .ro (ints S.s), .rw (shL 0 1 2 S), .rw (ints (reachL S))] 4 i = some (.int .i64 (gi (reachL S) i)) := ints_get hil
    obtain ⟨n, e1, e2, e3⟩ := reachL_at h0 hil
    repeat' (first | (refine gU ?_; first | (refine gMove ?_; refine st (ok_move rfl) rfl rfl ?_) | (refine gAssign ?_; refine st (ok_assign rfl) rfl rfl ?_) | (refine gBin ?_; refine st (ok_bin rfl rfl rfl) rfl rfl ?_) | (refine gLen ?_; refine st (ok_len rfl) rfl rfl ?_)) | refine W_seq ?_ | refine W_region ?_ | refine st_nil ?_ | refine tq_n ?_ | refine W_skip ?_ | refine W_block ?_ | refine W_condTA rfl ?_)
    refine W_loopS (ι := Nat) (fun k => [(1, .pointer (some ⟨3, 0, none⟩)), (3, sl 4 (reachL S).length), (5, .int .i64 (i : Int)), (6, .bool (smB S (gi (reachL S) i) k)), (7, .int .i64 (k : Int))]) (fun _ => [.ro (ints S.d), .ro (pc S.f), .ro (ints S.s), .rw (shL 0 1 2 S), .rw (ints (reachL S))]) (fun k => S.f.length - k) (fun k => k ≤ S.f.length) 0 (by simp) (.same ⟨rfl, rfl, rfl, rfl, rfl, trivial⟩) (Nat.zero_le _) ?_
    intro k hk
    by_cases hkl : k < S.f.length
    · have hc1 : cellGet [.ro (ints S.d), .ro (pc S.f), .ro (ints S.s), .rw (shL 0 1 2 S), .rw (ints (reachL S))] 1 (0 + k * 2 + 0 * 1) = some (.int .i64 (gf S.f k).1) := pc_get0 (.inl rfl) hkl
      have hs : smB S (gi (reachL S) i) (k + 1) = (smB S (gi (reachL S) i) k || decide ((gf S.f k).1 = gi (reachL S) i)) := rfl
      cases hb : smB S (gi (reachL S) i) k with
      | true =>
        rw [hb, Bool.true_or] at hs
        repeat' (first | (refine gU ?_; first | (refine gMove ?_; refine st (ok_move rfl) rfl rfl ?_) | (refine gAssign ?_; refine st (ok_assign rfl) rfl rfl ?_) | (refine gFA ?_; refine st (ok_fieldAddr rfl) rfl rfl ?_) | (refine gLoad ?_; refine st (ok_load rfl (by rfl)) rfl rfl ?_) | (refine gAdd ?_; refine st (ok_inc rfl rfl (by omega)) rfl rfl ?_) | (refine gBin ?_; refine st (ok_bin rfl rfl rfl) rfl rfl ?_) | (refine gLen ?_; refine st (ok_len rfl) rfl rfl ?_)) | (refine fU ?_; first | (refine fMove ?_; refine frA (ok_move rfl) rfl ?_) | (refine fAssign ?_; refine frA (ok_assign rfl) rfl ?_) | (refine fPick ?_; refine frA (ok_pickTA rfl rfl) rfl ?_)) | (refine fG ?_; refine frSA rfl rfl ?_) | (refine fr_stop ⟨by kernel_rfl, ?_⟩) | refine W_seq ?_ | refine W_region ?_ | refine W_regionD (by kernel_rfl) rfl ?_ | refine st_nil ?_ | refine tq_n ?_ | refine bq_n ?_ | refine W_skip ?_ | refine W_block ?_ | refine W_condTA rfl ?_)
        exact ⟨rfl, k + 1, by omega, by omega, .same ⟨rfl, rfl, rfl, by rw [hs]; rfl, rfl, trivial⟩⟩
      | false =>
        rw [hb, Bool.false_or] at hs
        repeat' (first | (refine gU ?_; first | (refine gMove ?_; refine st (ok_move rfl) rfl rfl ?_) | (refine gAssign ?_; refine st (ok_assign rfl) rfl rfl ?_) | (refine gFA ?_; refine st (ok_fieldAddr rfl) rfl rfl ?_) | (refine gLoad ?_; refine st (ok_load rfl (by rfl)) rfl rfl ?_) | (refine gAdd ?_; refine st (ok_inc rfl rfl (by omega)) rfl rfl ?_) | (refine gBin ?_; refine st (ok_bin rfl rfl rfl) rfl rfl ?_) | (refine gLen ?_; refine st (ok_len rfl) rfl rfl ?_)) | (refine fU ?_; first | (refine fMove ?_; refine frA (ok_move rfl) rfl ?_) | (refine fAssign ?_; refine frA (ok_assign rfl) rfl ?_) | (refine fPick ?_; refine frA (ok_pickFA rfl rfl) rfl ?_)) | (refine fG ?_; first | (refine fMove ?_; refine frGA rfl (ok_move rfl) rfl ?_) | (refine fFA ?_; refine frGA rfl (ok_fieldAddr rfl) rfl ?_) | (refine fLoad ?_; refine frGA rfl (ok_load rfl (by first | rfl | exact hc1 | exact hc2)) rfl ?_) | (refine fBin ?_; refine frGA rfl (ok_bin rfl rfl rfl) rfl ?_) | (refine fIA ?_; first | refine frGA rfl (ok_idxN rfl rfl (by omega)) rfl ?_ | refine frGA rfl (ok_idxSN rfl rfl (by omega)) rfl ?_ | refine frGA rfl (ok_idxA rfl rfl (by omega) (by omega)) rfl ?_)) | (refine fr_stop ⟨by kernel_rfl, ?_⟩) | refine W_seq ?_ | refine W_region ?_ | refine W_regionD (by kernel_rfl) rfl ?_ | refine st_nil ?_ | refine tq_n ?_ | refine bq_n ?_ | refine W_skip ?_ | refine W_block ?_ | refine W_condTA rfl ?_)
        exact ⟨rfl, k + 1, by omega, by omega, .same ⟨rfl, rfl, rfl, by rw [hs]; rfl, rfl, trivial⟩⟩
    · obtain rfl : k = S.f.length := by omega
      cases hb : smB S (gi (reachL S) i) S.f.length with
      | true =>
        repeat' (first | (refine gU ?_; first | (refine gMove ?_; refine st (ok_move rfl) rfl rfl ?_) | (refine gAssign ?_; refine st (ok_assign rfl) rfl rfl ?_) | (refine gFA ?_; refine st (ok_fieldAddr rfl) rfl rfl ?_) | (refine gLoad ?_; refine st (ok_load rfl (by rfl)) rfl rfl ?_) | (refine gAdd ?_; refine st (ok_inc rfl rfl (by omega)) rfl rfl ?_) | (refine gBin ?_; refine st (ok_bin rfl rfl rfl) rfl rfl ?_) | (refine gLen ?_; refine st (ok_len rfl) rfl rfl ?_) | (refine gNot ?_; refine st (ok_not' rfl) rfl rfl ?_)) | refine W_seq ?_ | refine W_region ?_ | refine st_nil ?_ | refine tq_n ?_ | refine tq_e ?_ | refine bq_n ?_ | refine bq_hit rfl ?_ | refine W_skip ?_ | refine W_exit ?_ | refine W_condFA rfl ?_)
        refine ⟨rfl, i + 1, ⟨by omega, fun i' hi' => ?_⟩, by omega, .same ⟨rfl, rfl, rfl, trivial⟩⟩
        by_cases hii : i' = i
        · subst hii; exact hb
        · exact hall i' (by omega)
      | false =>
        have hv : endV S = false := endV_false fun he => by
          obtain ⟨j, h1, h2⟩ := he n e2 e3
          rw [e1, smB_iff.2 ⟨j, h1, h2⟩] at hb
          cases hb
        rw [hv]
        repeat' (first | (refine gU ?_; first | (refine gMove ?_; refine st (ok_move rfl) rfl rfl ?_) | (refine gAssign ?_; refine st (ok_assign rfl) rfl rfl ?_) | (refine gFA ?_; refine st (ok_fieldAddr rfl) rfl rfl ?_) | (refine gLoad ?_; refine st (ok_load rfl (by rfl)) rfl rfl ?_) | (refine gBin ?_; refine st (ok_bin rfl rfl rfl) rfl rfl ?_) | (refine gLen ?_; refine st (ok_len rfl) rfl rfl ?_) | (refine gNot ?_; refine st (ok_not' rfl) rfl rfl ?_)) | refine W_seq ?_ | refine W_region ?_ | refine st_nil ?_ | refine tq_n ?_ | refine tq_r ?_ | refine tq_e ?_ | refine bq_r ?_ | refine bq_hit rfl ?_ | refine W_exit ?_ | refine W_ret ?_ | refine W_condTA rfl ?_ | refine W_condFA rfl ?_)
        exact ret0 (.tmp rfl .nil) (.plain rfl rfl) ⟨rfl, rfl⟩
  · obtain rfl : i = (reachL S).length := by omega
    have hv : endV S = true := endV_true fun n hn hr => by
      obtain ⟨i', h1, h2⟩ := reachL_mem h0 hn hr
      have := hall i' h1
      rw [h2] at this
      exact smB_iff.1 this
    rw [hv]
    repeat' (first | (refine gU ?_; first | (refine gMove ?_; refine st (ok_move rfl) rfl rfl ?_) | (refine gAssign ?_; refine st (ok_assign rfl) rfl rfl ?_) | (refine gBin ?_; refine st (ok_bin rfl rfl rfl) rfl rfl ?_) | (refine gLen ?_; refine st (ok_len rfl) rfl rfl ?_)) | refine W_seq ?_ | refine W_region ?_ | refine st_nil ?_ | refine tq_n ?_ | refine tq_e ?_ | refine bq_hit rfl ?_ | refine W_exit ?_ | refine W_ret ?_ | refine W_condFA rfl ?_)
    exact ret0 (.tmp rfl .nil) (.plain rfl rfl) ⟨rfl, rfl⟩
theorem endless_ev {σ : Heap} {S : Shp} {x y z : Nat} {v : Value} (hs : SAt σ x y z S) (hv : ShS x y z S v) (h0 : shopE S = 0) (hni : σ.all (fun o => !isIter o) = true) :
    Ev Try.prog 43 [v] σ (.bool (endV S)) σ := Ev.arrs S.css [x, y, z] (endless_ok S h0) hs.arrs ⟨hv, trivial⟩ S.css_plain rfl hni
end Go.Proofs.Ytomioaiojidnbaa
namespace Go.AH.Dust
open Go Go.AH
theorem clock0 {S : Shp} (h0 : shopE S = 0) {h : Int} (h1 : 1 ≤ h) (h2 : h ≤ 24) : clockE S h = 0 := by
  unfold clockE; rw [if_neg (fun x => x h0), if_neg (by omega)]
theorem winE_refW {S : Shp} {h : Int} (hc : clockE S h = 0) : winE S h = 0 ↔ 0 ≤ refW S (h.toNat - 1) := by
  rw [winE_eq, if_neg (fun x => x hc)]
  by_cases hr : refW S (h.toNat - 1) < 0
  · rw [if_pos hr]; omega
  · rw [if_neg hr]; omega
theorem tog_split {S : Shp} (h0 : shopE S = 0) {A B : Int} (hA : 1 ≤ A) (hB : 1 ≤ B) (hAB : A + B ≤ 24) (he : winE S (A + B) = 0) : winE S A = 0 ∧ winE S B = 0 ∧ winV S (A + B) ≤ winV S A + winV S B := by
  have cA := clock0 h0 hA (by omega)
  have cB := clock0 h0 hB (by omega)
  have cC := clock0 h0 (show 1 ≤ A + B by omega) hAB
  have hz := (winE_refW cC).1 he
  have e : (A + B).toNat - 1 = (A.toNat - 1) + (B.toNat - 1) + 1 := by omega
  rw [e] at hz
  obtain ⟨r1, r2, r3⟩ := refW_split (shopE_zero h0) hz
  have eA := (winE_refW cA).2 r1
  have eB := (winE_refW cB).2 r2
  refine ⟨eA, eB, ?_⟩
  rw [(win_run he).2.2.2.1, (win_run eA).2.2.2.1, (win_run eB).2.2.2.1, e]
  exact r3
theorem tog_one {S : Shp} (h0 : shopE S = 0) (hend : endB S) {A : Int} (hA : 1 ≤ A) (hA2 : A ≤ 24) : winE S A = 0 := by
  have hS := shopE_zero h0
  have cA := clock0 h0 hA hA2
  have hw : isW S (gi S.s 0) := (hS.s 0 (by have := hS.s0; omega)).1
  have hw1 := hw.1; have hw2 := hw.2
  have hr : rB S (gi S.s 0).toNat = true := by
    rw [rB_iff]
    refine .first ?_
    rw [show (((gi S.s 0).toNat : Nat) : Int) = gi S.s 0 by omega]
    exact mem_gi.2 ⟨0, by have := hS.s0; omega, rfl⟩
  have hm := (end_mono hS hend (A.toNat - 1) _ (by omega) hr).1
  have := refW_ge (H := A.toNat - 1) (show (gi S.s 0).toNat < S.d.length by omega) hr
  exact (winE_refW cA).2 (by omega)
theorem tog_le {S : Shp} (h0 : shopE S = 0) (hend : endB S) {A C : Int} (hA : 1 ≤ A) (hC : C ≤ 24) (hAC : A ≤ C) : winV S A ≤ winV S C := by
  have hS := shopE_zero h0
  have eA := tog_one h0 hend hA (by omega)
  have eC := tog_one h0 hend (show 1 ≤ C by omega) hC
  have cA := clock0 h0 hA (by omega)
  rw [(win_run eA).2.2.2.1, (win_run eC).2.2.2.1]
  obtain ⟨i, i1, i2, i3⟩ := refW_at ((winE_refW cA).1 eA)
  have hl := end_le hS hend i1 i2 (A.toNat - 1) (C.toNat - A.toNat)
  rw [show A.toNat - 1 + (C.toNat - A.toNat) = C.toNat - 1 by omega] at hl
  have hg := refW_ge (H := C.toNat - 1) i1 i2
  have := (winE_refW cA).1 eA
  omega
theorem winV_bound {S : Shp} {h : Int} : -1 ≤ winV S h ∧ winV S h ≤ 24000 := by
  by_cases hE : winE S h = 0
  · obtain ⟨_, _, _, r4, r5⟩ := win_run hE
    obtain ⟨h0, h1, h2⟩ := clockE_zero r5
    rw [r4]
    have := (winE_refW r5).1 hE
    obtain ⟨i, i1, i2, i3⟩ := refW_at this
    have := most_bound (shopE_zero h0) (h.toNat - 1) i i1
    omega
  · rw [(win_bad hE).1]; omega
theorem beg_mono {S : Shp} {h l1 l2 : Int} (hl : l1 ≤ l2) {n : Int} (hn : n ∈ begL S h l2) : n ∈ begL S h l1 := by
  unfold begL at *
  split at hn
  · rename_i hc
    rw [if_pos hc]
    rw [List.mem_filter] at hn ⊢
    refine ⟨hn.1, ?_⟩
    have h2 := hn.2
    simp only [overB, Bool.and_eq_true, decide_eq_true_eq] at h2 ⊢
    omega
  · simp at hn
end Go.AH.Dust
namespace Go.Proofs.Ytomioaiojidnbaa
open Go Go.AH
attribute [local irreducible] WOps WCode WFree retQ thenQ blockQ scopeQ OpOk ACall RetRef roundA roundB
set_option maxRecDepth 100000
set_option maxHeartbeats 1000000
open Go.AH.Dust
theorem fine39_ok (S : Shp) (hS : S.fit) : Ev Try.prog 39 [shV 0 1 2 S] S.hp (.bool (decide (shopE S = 0))) S.hp := by
  have hfi := great_ev (σ := [.ro (ints S.d), .ro (pc S.f), .ro (ints S.s), .rw (shL 0 1 2 S)]) (S := S) (x := 0) (y := 1) (z := 2) ⟨.inl rfl, .inl rfl, .inl rfl⟩ shS_self hS rfl
  have hA := refShop_ev (σ := [.ro (ints S.d), .ro (pc S.f), .ro (ints S.s), .rw (shL 0 1 2 S)]) (S := S) (x := 0) (y := 1) (z := 2) ⟨.inl rfl, .inl rfl, .inl rfl⟩ shS_self hS rfl
  by_cases hm : (S.d.length : Int) > 15 ∨ (S.f.length : Int) > 70 ∨ (S.s.length : Int) > 15
  · have h0 : ¬ shopE S = 0 := fun h => by
      have := (shopE_zero h).n10; have := (shopE_zero h).f60; have := (shopE_zero h).s10; omega
    rw [decide_eq_false h0]
    refine acall_intro 3 11 Try.func39 rfl rfl rfl rfl rfl ?_
    repeat' (first | (refine gU ?_; first | (refine gMove ?_; refine st (ok_move rfl) rfl rfl ?_) | (refine gAssign ?_; refine st (ok_assign rfl) rfl rfl ?_) | (refine gLoad ?_; refine st (ok_loadA rfl (by rfl)) rfl rfl ?_) | (refine gPick ?_; refine st (ok_pickFA rfl rfl) rfl rfl ?_) | (refine gNot ?_; refine st (ok_notD rfl) rfl rfl ?_) | (refine gCall ?_; refine st (ok_call rfl rfl rfl (by exact hfi)) rfl rfl ?_) | (refine gBox ?_; refine st (ok_box rfl) rfl rfl ?_)) | (refine gG ?_; refine stSA rfl rfl ?_) | refine W_seq ?_ | refine W_region ?_ | refine st_nil ?_ | refine tq_n ?_ | refine W_ret ?_)
    all_goals exact ret0 (.tmp rfl .nil) (.plain rfl rfl) ⟨rfl, rfl⟩
  · generalize shopE S = E at *
    refine acall_intro 3 11 Try.func39 rfl rfl rfl rfl rfl ?_
    repeat' (first | (refine gU ?_; first | (refine gMove ?_; refine st (ok_move rfl) rfl rfl ?_) | (refine gAssign ?_; refine st (ok_assign rfl) rfl rfl ?_) | (refine gLoad ?_; refine st (ok_loadA rfl (by rfl)) rfl rfl ?_) | (refine gPick ?_; refine st (ok_pickTA rfl rfl) rfl rfl ?_) | (refine gNot ?_; refine st (ok_notD rfl) rfl rfl ?_) | (refine gCall ?_; refine st (ok_call rfl rfl rfl (by exact hfi)) rfl rfl ?_) | (refine gBox ?_; refine st (ok_box rfl) rfl rfl ?_)) | (refine gG ?_; first | (refine gLoad ?_; refine stGA rfl (ok_loadA rfl (by rfl)) rfl rfl ?_) | (refine gBin ?_; refine stGA rfl (ok_bin rfl rfl rfl) rfl rfl ?_) | (refine gCall ?_; refine stGA rfl (ok_call rfl rfl rfl (by exact hA)) rfl rfl ?_)) | refine W_seq ?_ | refine W_region ?_ | refine st_nil ?_ | refine tq_n ?_ | refine W_ret ?_)
    all_goals exact ret0 (.tmp rfl .nil) (.plain rfl rfl) ⟨rfl, rfl⟩
theorem fine39_ev {σ : Heap} {S : Shp} {x y z : Nat} {v : Value} (hs : SAt σ x y z S) (hv : ShS x y z S v) (hS : S.fit) (hni : σ.all (fun o => !isIter o) = true) :
    Ev Try.prog 39 [v] σ (.bool (decide (shopE S = 0))) σ := Ev.arrs S.css [x, y, z] (fine39_ok S hS) hs.arrs ⟨hv, trivial⟩ S.css_plain rfl hni
theorem dustTogether_own (hwo : ∀ σ : Heap, σ.all (fun o => !isIter o) = true → Ev Try.prog 14 [] σ (.bool true) σ) (S : Shp) (hS : S.fit) (p q : Nat) (hp : p ≤ 255) (hq : q ≤ 255) (lim : Int) (hlim : -9223372036854775808 ≤ lim ∧ lim ≤ 9223372036854775807) (more : Int) (hmore : 0 ≤ more ∧ more ≤ 4294967295) :
    Ev Try.prog 10 [shV 0 1 2 S, .agg #[.int .u8 p, .int .u8 q], .int .i64 lim, .int .u32 more] S.hp (.bool true) S.hp := by
  have hfi := fine39_ev (σ := [.ro (ints S.d), .ro (pc S.f), .ro (ints S.s), .rw (shL 0 1 2 S), .rw [.int .u8 p, .int .u8 q]]) (S := S) (x := 0) (y := 1) (z := 2) ⟨.inl rfl, .inl rfl, .inl rfl⟩ shS_self hS rfl
  by_cases h0 : shopE S = 0
  · rw [decide_eq_true h0] at hfi
    have e1 : ((p : Nat) : Int).tmod 23 = ((p % 23 : Nat) : Int) := rfl
    have hp1 : 0 ≤ ((p : Nat) : Int).tmod 23 ∧ ((p : Nat) : Int).tmod 23 < 23 := by rw [e1]; omega
    have e2 : (24 : Int) - (1 + ((p : Nat) : Int).tmod 23) = ((23 - p % 23 : Nat) : Int) := by rw [e1]; omega
    have e3 : ((q : Nat) : Int).tmod (24 - (1 + ((p : Nat) : Int).tmod 23)) = ((q % (23 - p % 23) : Nat) : Int) := by rw [e2]; rfl
    have hq1 : 0 ≤ ((q : Nat) : Int).tmod (24 - (1 + ((p : Nat) : Int).tmod 23)) ∧ ((q : Nat) : Int).tmod (24 - (1 + ((p : Nat) : Int).tmod 23)) < 24 - (1 + ((p : Nat) : Int).tmod 23) := by
      rw [e3, e2]; have := Nat.mod_lt q (show 0 < 23 - p % 23 by omega); omega
    refine acall_intro 3 136 Try.func10 rfl rfl rfl rfl rfl ?_
    repeat' (first | (refine gU ?_; first | (refine gMove ?_; refine st (ok_move rfl) rfl rfl ?_) | (refine gAssign ?_; refine st (ok_assign rfl) rfl rfl ?_) | (refine gLoad ?_; first | refine st (ok_load rfl (by rfl)) rfl rfl ?_ | refine st (ok_loadA rfl (by rfl)) rfl rfl ?_) | (refine gAdd ?_; refine st (ok_add rfl rfl (by omega) (by omega)) rfl rfl ?_) | (refine gSub ?_; refine st (ok_sub rfl rfl (by omega) (by omega)) rfl rfl ?_) | (refine gBin ?_; refine st (ok_rem rfl rfl (by omega)) rfl rfl ?_) | (refine gNot ?_; refine st (ok_not' rfl) rfl rfl ?_) | (refine gIA ?_; refine st (ok_idxA rfl rfl (by omega) (by omega)) rfl rfl ?_) | (refine gConv ?_; refine st (ok_convK rfl (by omega) (by omega)) rfl rfl ?_) | (refine gCall ?_; refine st (ok_call rfl rfl rfl (by exact hfi)) rfl rfl ?_) | (refine gBox ?_; refine st (ok_box rfl) rfl rfl ?_)) | refine W_seq ?_ | refine W_region ?_ | refine st_nil ?_ | refine tq_n ?_ | refine W_skip ?_ | refine W_condFA rfl ?_)
    obtain ⟨A, hA0⟩ : ∃ A, 1 + ((p : Nat) : Int).tmod 23 = A := ⟨_, rfl⟩
    rw [hA0] at hq1
    simp only [hA0]
    obtain ⟨B, hB0⟩ : ∃ B, 1 + ((q : Nat) : Int).tmod (24 - A) = B := ⟨_, rfl⟩
    simp only [hB0]
    have hA1 : 1 ≤ A := by omega
    have hB1 : 1 ≤ B := by omega
    have hAB : A + B ≤ 24 := by omega
    clear e1 hp1 e2 e3 hq1 hA0 hB0
    have hA := window_ev (σ := [.ro (ints S.d), .ro (pc S.f), .ro (ints S.s), .rw (shL 0 1 2 S), .rw [.int .u8 p, .int .u8 q]]) (S := S) (h := A) (x := 0) (y := 1) (z := 2) ⟨.inl rfl, .inl rfl, .inl rfl⟩ shS_self hS rfl
    have hB := fun a => window_ev (σ := [.ro (ints S.d), .ro (pc S.f), .ro (ints S.s), .rw (shL 0 1 2 S), .rw [.int .u8 p, .int .u8 q], .rw (ints a)]) (S := S) (h := B) (x := 0) (y := 1) (z := 2) ⟨.inl rfl, .inl rfl, .inl rfl⟩ shS_self hS rfl
    have hC := fun a b => window_ev (σ := [.ro (ints S.d), .ro (pc S.f), .ro (ints S.s), .rw (shL 0 1 2 S), .rw [.int .u8 p, .int .u8 q], .rw (ints a), .rw (ints b)]) (S := S) (h := A + B) (x := 0) (y := 1) (z := 2) ⟨.inl rfl, .inl rfl, .inl rfl⟩ shS_self hS rfl
    have hD := fun a b c => endless_ev (σ := [.ro (ints S.d), .ro (pc S.f), .ro (ints S.s), .rw (shL 0 1 2 S), .rw [.int .u8 p, .int .u8 q], .rw (ints a), .rw (ints b), .rw (ints c)]) (S := S) (x := 0) (y := 1) (z := 2) ⟨.inl rfl, .inl rfl, .inl rfl⟩ shS_self h0 rfl
    have hE := fun a b c => begins31_ev (σ := [.ro (ints S.d), .ro (pc S.f), .ro (ints S.s), .rw (shL 0 1 2 S), .rw [.int .u8 p, .int .u8 q], .rw (ints a), .rw (ints b), .rw (ints c)]) (S := S) (h := A) (lim := min lim 1099511627776) (x := 0) (y := 1) (z := 2) ⟨.inl rfl, .inl rfl, .inl rfl⟩ shS_self hS rfl
    have hF := fun a b c d => begins31_ev (σ := [.ro (ints S.d), .ro (pc S.f), .ro (ints S.s), .rw (shL 0 1 2 S), .rw [.int .u8 p, .int .u8 q], .rw (ints a), .rw (ints b), .rw (ints c), .rw (ints d)]) (S := S) (h := A) (lim := min lim 1099511627776 + more) (x := 0) (y := 1) (z := 2) ⟨.inl rfl, .inl rfl, .inl rfl⟩ shS_self hS rfl
    have hsub : ∀ n, n ∈ begL S A (min lim 1099511627776 + more) → n ∈ begL S A (min lim 1099511627776) := fun n hn => beg_mono (by omega) hn
    have hLl := begL_le (S := S) (h := A) (lim := min lim 1099511627776)
    have hMl := begL_le (S := S) (h := A) (lim := min lim 1099511627776 + more)
    have hcA := clock0 h0 hA1 (show A ≤ 24 by omega)
    have hsp := tog_split h0 hA1 hB1 hAB
    have hen : endV S = true → winE S (A + B) = 0 ∧ winV S A ≤ winV S (A + B) ∧ winV S B ≤ winV S (A + B) := fun h =>
      ⟨tog_one h0 (endV_iff.1 h) (by omega) hAB, tog_le h0 (endV_iff.1 h) hA1 hAB (by omega), tog_le h0 (endV_iff.1 h) hB1 hAB (by omega)⟩
    rw [hcA] at hE hF
    have hva := winV_bound (S := S) (h := A)
    have hvb := winV_bound (S := S) (h := B)
    have hlm : -9223372036854775808 ≤ min lim 1099511627776 ∧ min lim 1099511627776 ≤ 1099511627776 := by omega
    generalize begL S A (min lim 1099511627776 + more) = M at *
    generalize begL S A (min lim 1099511627776) = L at *
    generalize winV S A = va at *
    generalize winV S B = vb at *
    generalize winV S (A + B) = vc at *
    generalize winE S A = ea at *
    generalize winE S B = eb at *
    generalize winE S (A + B) = ec at *
    generalize endV S = en at *
    replace hB := hB (winL S A)
    replace hC := hC (winL S A) (winL S B)
    replace hD := hD (winL S A) (winL S B) (winL S (A + B))
    replace hE := hE (winL S A) (winL S B) (winL S (A + B))
    replace hF := hF (winL S A) (winL S B) (winL S (A + B)) L
    generalize winL S A = la at *
    generalize winL S B = lb at *
    generalize winL S (A + B) = lc at *
    have hin : ∀ i, i < M.length → Ev Try.prog 41 [sl 8 L.length, .int .i64 (gi M i)] [.ro (ints S.d), .ro (pc S.f), .ro (ints S.s), .rw (shL 0 1 2 S), .rw [.int .u8 p, .int .u8 q], .rw (ints la), .rw (ints lb), .rw (ints lc), .rw (ints L), .rw (ints M)] (.bool true) [.ro (ints S.d), .ro (pc S.f), .ro (ints S.s), .rw (shL 0 1 2 S), .rw [.int .u8 p, .int .u8 q], .rw (ints la), .rw (ints lb), .rw (ints lc), .rw (ints L), .rw (ints M)] := fun i hi => by
      have := in41_ev (σ := [.ro (ints S.d), .ro (pc S.f), .ro (ints S.s), .rw (shL 0 1 2 S), .rw [.int .u8 p, .int .u8 q], .rw (ints la), .rw (ints lb), .rw (ints lc), .rw (ints L), .rw (ints M)]) (l := L) (p := gi M i) (x := 8) (o := 0) (prtAt_arr (.inr (.inl rfl))) ps_self (by omega) rfl
      rwa [decide_eq_true (hsub _ (mem_gi.2 ⟨i, hi, rfl⟩))] at this
    have main : ec = 0 ∧ ea = 0 ∧ eb = 0 ∧ vc ≤ va + vb ∧ (en = true → va ≤ vc ∧ vb ≤ vc) ∨ ec ≠ 0 ∧ en = false := by
      by_cases hec : ec = 0
      · exact .inl ⟨hec, (hsp hec).1, (hsp hec).2.1, (hsp hec).2.2, fun h => (hen h).2⟩
      · refine .inr ⟨hec, ?_⟩
        cases en with
        | false => rfl
        | true => exact absurd (hen rfl).1 hec
    clear hsp hen hsub
    rcases main with ⟨rfl, rfl, rfl, hle, hmo⟩ | ⟨hec, rfl⟩
    · cases en with
      | true =>
        obtain ⟨hm1, hm2⟩ := hmo rfl
        repeat' (first | (refine gU ?_; first | (refine gMove ?_; refine st (ok_move rfl) rfl rfl ?_) | (refine gAssign ?_; refine st (ok_assign rfl) rfl rfl ?_) | (refine gLoad ?_; refine st (ok_loadA rfl (by rfl)) rfl rfl ?_) | (refine gAdd ?_; refine st (ok_add rfl rfl (by omega) (by omega)) rfl rfl ?_) | (refine gBin ?_; refine st (ok_bin rfl rfl rfl) rfl rfl ?_) | (refine gPick ?_; first | refine st (ok_pickTA rfl rfl) rfl rfl ?_ | refine st (ok_pickFA rfl rfl) rfl rfl ?_) | (refine gExtract ?_; refine st (ok_extract rfl rfl) rfl rfl ?_) | (refine gMin ?_; refine st (ok_min rfl rfl) rfl rfl ?_) | (refine gConv ?_; refine st (ok_convK rfl (by omega) (by omega)) rfl rfl ?_) | (refine gCall ?_; refine st (ok_call rfl rfl rfl (by first | exact hA | exact hB | exact hC | exact hD | exact hE | exact hF)) rfl rfl ?_)) | (refine gG ?_; first | (refine gMove ?_; refine stGA rfl (ok_move rfl) rfl rfl ?_) | (refine gAdd ?_; refine stGA rfl (ok_add rfl rfl (by omega) (by omega)) rfl rfl ?_) | (refine gBin ?_; refine stGA rfl (ok_bin rfl rfl rfl) rfl rfl ?_) | (refine gPick ?_; refine stGA rfl (ok_pickFA rfl rfl) rfl rfl ?_)) | refine W_seq ?_ | refine W_region ?_ | refine st_nil ?_ | refine tq_n ?_ | refine W_skip ?_ | refine W_block ?_ | refine W_condFA rfl ?_)
        refine W_loopS (ι := Nat) (fun i => [(20, sl 8 L.length), (22, sl 9 M.length), (24, .int .i64 (i : Int))]) (fun _ => [.ro (ints S.d), .ro (pc S.f), .ro (ints S.s), .rw (shL 0 1 2 S), .rw [.int .u8 p, .int .u8 q], .rw (ints la), .rw (ints lb), .rw (ints lc), .rw (ints L), .rw (ints M)]) (fun i => M.length - i) (fun i => i ≤ M.length) 0 (by simp) (.same ⟨rfl, rfl, rfl, trivial⟩) (Nat.zero_le _) ?_
        intro i hi
        by_cases hil : i < M.length
        · have hj := hin i hil
          have hc1 : cellGet [.ro (ints S.d), .ro (pc S.f), .ro (ints S.s), .rw (shL 0 1 2 S), .rw [.int .u8 p, .int .u8 q], .rw (ints la), .rw (ints lb), .rw (ints lc), .rw (ints L), .rw (ints M)] 9 i = some (.int .i64 (gi M i)) := ints_get hil
          repeat' (first | (refine gU ?_; first | (refine gMove ?_; refine st (ok_move rfl) rfl rfl ?_) | (refine gAssign ?_; refine st (ok_assign rfl) rfl rfl ?_) | (refine gLoad ?_; refine st (ok_load rfl (by exact hc1)) rfl rfl ?_) | (refine gAdd ?_; refine st (ok_inc rfl rfl (by omega)) rfl rfl ?_) | (refine gBin ?_; refine st (ok_bin rfl rfl rfl) rfl rfl ?_) | (refine gLen ?_; refine st (ok_len rfl) rfl rfl ?_) | (refine gNot ?_; refine st (ok_not' rfl) rfl rfl ?_) | (refine gIA ?_; refine st (ok_idxN rfl rfl (by omega)) rfl rfl ?_) | (refine gCall ?_; refine st (ok_call rfl rfl rfl (by exact hj)) rfl rfl ?_)) | refine W_seq ?_ | refine W_region ?_ | refine st_nil ?_ | refine tq_n ?_ | refine bq_n ?_ | refine W_skip ?_ | refine W_block ?_ | refine W_condTA rfl ?_ | refine W_condFA rfl ?_)
          exact ⟨rfl, i + 1, by omega, by omega, .same ⟨rfl, rfl, rfl, trivial⟩⟩
        · obtain rfl : i = M.length := by omega
          repeat' (first | (refine gU ?_; first | (refine gMove ?_; refine st (ok_move rfl) rfl rfl ?_) | (refine gAssign ?_; refine st (ok_assign rfl) rfl rfl ?_) | (refine gBin ?_; refine st (ok_bin rfl rfl rfl) rfl rfl ?_) | (refine gLen ?_; refine st (ok_len rfl) rfl rfl ?_) | (refine gCall ?_; refine st (ok_call rfl rfl rfl (by exact hwo _ rfl)) rfl rfl ?_)) | refine W_seq ?_ | refine W_region ?_ | refine st_nil ?_ | refine tq_n ?_ | refine tq_e ?_ | refine bq_hit rfl ?_ | refine W_exit ?_ | refine W_ret ?_ | refine W_condFA rfl ?_)
          exact ret0 (.tmp rfl .nil) (.plain rfl rfl) ⟨rfl, rfl⟩
      | false =>
        clear hmo
        repeat' (first | (refine gU ?_; first | (refine gMove ?_; refine st (ok_move rfl) rfl rfl ?_) | (refine gAssign ?_; refine st (ok_assign rfl) rfl rfl ?_) | (refine gLoad ?_; refine st (ok_loadA rfl (by rfl)) rfl rfl ?_) | (refine gAdd ?_; refine st (ok_add rfl rfl (by omega) (by omega)) rfl rfl ?_) | (refine gBin ?_; refine st (ok_bin rfl rfl rfl) rfl rfl ?_) | (refine gPick ?_; first | refine st (ok_pickTA rfl rfl) rfl rfl ?_ | refine st (ok_pickFA rfl rfl) rfl rfl ?_) | (refine gExtract ?_; refine st (ok_extract rfl rfl) rfl rfl ?_) | (refine gMin ?_; refine st (ok_min rfl rfl) rfl rfl ?_) | (refine gConv ?_; refine st (ok_convK rfl (by omega) (by omega)) rfl rfl ?_) | (refine gCall ?_; refine st (ok_call rfl rfl rfl (by first | exact hA | exact hB | exact hC | exact hD | exact hE | exact hF)) rfl rfl ?_)) | (refine gG ?_; first | (refine gMove ?_; refine stGA rfl (ok_move rfl) rfl rfl ?_) | (refine gAdd ?_; refine stGA rfl (ok_add rfl rfl (by omega) (by omega)) rfl rfl ?_) | (refine gBin ?_; refine stGA rfl (ok_bin rfl rfl rfl) rfl rfl ?_) | (refine gPick ?_; refine stGA rfl (ok_pickFA rfl rfl) rfl rfl ?_) | refine stSU rfl rfl ?_ | refine stSA rfl rfl ?_) | refine W_seq ?_ | refine W_region ?_ | refine st_nil ?_ | refine tq_n ?_ | refine W_skip ?_ | refine W_block ?_ | refine W_condFA rfl ?_)
        refine W_loopS (ι := Nat) (fun i => [(20, sl 8 L.length), (22, sl 9 M.length), (24, .int .i64 (i : Int))]) (fun _ => [.ro (ints S.d), .ro (pc S.f), .ro (ints S.s), .rw (shL 0 1 2 S), .rw [.int .u8 p, .int .u8 q], .rw (ints la), .rw (ints lb), .rw (ints lc), .rw (ints L), .rw (ints M)]) (fun i => M.length - i) (fun i => i ≤ M.length) 0 (by simp) (.same ⟨rfl, rfl, rfl, trivial⟩) (Nat.zero_le _) ?_
        intro i hi
        by_cases hil : i < M.length
        · have hj := hin i hil
          have hc1 : cellGet [.ro (ints S.d), .ro (pc S.f), .ro (ints S.s), .rw (shL 0 1 2 S), .rw [.int .u8 p, .int .u8 q], .rw (ints la), .rw (ints lb), .rw (ints lc), .rw (ints L), .rw (ints M)] 9 i = some (.int .i64 (gi M i)) := ints_get hil
          repeat' (first | (refine gU ?_; first | (refine gMove ?_; refine st (ok_move rfl) rfl rfl ?_) | (refine gAssign ?_; refine st (ok_assign rfl) rfl rfl ?_) | (refine gLoad ?_; refine st (ok_load rfl (by exact hc1)) rfl rfl ?_) | (refine gAdd ?_; refine st (ok_inc rfl rfl (by omega)) rfl rfl ?_) | (refine gBin ?_; refine st (ok_bin rfl rfl rfl) rfl rfl ?_) | (refine gLen ?_; refine st (ok_len rfl) rfl rfl ?_) | (refine gNot ?_; refine st (ok_not' rfl) rfl rfl ?_) | (refine gIA ?_; refine st (ok_idxN rfl rfl (by omega)) rfl rfl ?_) | (refine gCall ?_; refine st (ok_call rfl rfl rfl (by exact hj)) rfl rfl ?_)) | refine W_seq ?_ | refine W_region ?_ | refine st_nil ?_ | refine tq_n ?_ | refine bq_n ?_ | refine W_skip ?_ | refine W_block ?_ | refine W_condTA rfl ?_ | refine W_condFA rfl ?_)
          exact ⟨rfl, i + 1, by omega, by omega, .same ⟨rfl, rfl, rfl, trivial⟩⟩
        · obtain rfl : i = M.length := by omega
          repeat' (first | (refine gU ?_; first | (refine gMove ?_; refine st (ok_move rfl) rfl rfl ?_) | (refine gAssign ?_; refine st (ok_assign rfl) rfl rfl ?_) | (refine gBin ?_; refine st (ok_bin rfl rfl rfl) rfl rfl ?_) | (refine gLen ?_; refine st (ok_len rfl) rfl rfl ?_) | (refine gCall ?_; refine st (ok_call rfl rfl rfl (by exact hwo _ rfl)) rfl rfl ?_)) | refine W_seq ?_ | refine W_region ?_ | refine st_nil ?_ | refine tq_n ?_ | refine tq_e ?_ | refine bq_hit rfl ?_ | refine W_exit ?_ | refine W_ret ?_ | refine W_condFA rfl ?_)
          exact ret0 (.tmp rfl .nil) (.plain rfl rfl) ⟨rfl, rfl⟩
    · repeat' (first | (refine gU ?_; first | (refine gMove ?_; refine st (ok_move rfl) rfl rfl ?_) | (refine gAssign ?_; refine st (ok_assign rfl) rfl rfl ?_) | (refine gLoad ?_; refine st (ok_loadA rfl (by rfl)) rfl rfl ?_) | (refine gAdd ?_; refine st (ok_add rfl rfl (by omega) (by omega)) rfl rfl ?_) | (refine gBin ?_; refine st (ok_bin rfl rfl rfl) rfl rfl ?_) | (refine gPick ?_; refine st (ok_pickFA rfl rfl) rfl rfl ?_) | (refine gExtract ?_; refine st (ok_extract rfl rfl) rfl rfl ?_) | (refine gMin ?_; refine st (ok_min rfl rfl) rfl rfl ?_) | (refine gConv ?_; refine st (ok_convK rfl (by omega) (by omega)) rfl rfl ?_) | (refine gCall ?_; refine st (ok_call rfl rfl rfl (by first | exact hA | exact hB | exact hC | exact hD | exact hE | exact hF)) rfl rfl ?_)) | (refine gG ?_; first | (refine gMove ?_; refine stGA rfl (ok_move rfl) rfl rfl ?_) | (refine gBin ?_; refine stGA rfl (ok_bin rfl rfl rfl) rfl rfl ?_) | refine stSU rfl rfl ?_ | refine stSA rfl rfl ?_) | refine W_seq ?_ | refine W_region ?_ | refine st_nil ?_ | refine tq_n ?_ | refine W_skip ?_ | refine W_block ?_ | refine W_condFA rfl ?_)
      refine W_loopS (ι := Nat) (fun i => [(20, sl 8 L.length), (22, sl 9 M.length), (24, .int .i64 (i : Int))]) (fun _ => [.ro (ints S.d), .ro (pc S.f), .ro (ints S.s), .rw (shL 0 1 2 S), .rw [.int .u8 p, .int .u8 q], .rw (ints la), .rw (ints lb), .rw (ints lc), .rw (ints L), .rw (ints M)]) (fun i => M.length - i) (fun i => i ≤ M.length) 0 (by simp) (.same ⟨rfl, rfl, rfl, trivial⟩) (Nat.zero_le _) ?_
      intro i hi
      by_cases hil : i < M.length
      · have hj := hin i hil
        have hc1 : cellGet [.ro (ints S.d), .ro (pc S.f), .ro (ints S.s), .rw (shL 0 1 2 S), .rw [.int .u8 p, .int .u8 q], .rw (ints la), .rw (ints lb), .rw (ints lc), .rw (ints L), .rw (ints M)] 9 i = some (.int .i64 (gi M i)) := ints_get hil
        repeat' (first | (refine gU ?_; first | (refine gMove ?_; refine st (ok_move rfl) rfl rfl ?_) | (refine gAssign ?_; refine st (ok_assign rfl) rfl rfl ?_) | (refine gLoad ?_; refine st (ok_load rfl (by exact hc1)) rfl rfl ?_) | (refine gAdd ?_; refine st (ok_inc rfl rfl (by omega)) rfl rfl ?_) | (refine gBin ?_; refine st (ok_bin rfl rfl rfl) rfl rfl ?_) | (refine gLen ?_; refine st (ok_len rfl) rfl rfl ?_) | (refine gNot ?_; refine st (ok_not' rfl) rfl rfl ?_) | (refine gIA ?_; refine st (ok_idxN rfl rfl (by omega)) rfl rfl ?_) | (refine gCall ?_; refine st (ok_call rfl rfl rfl (by exact hj)) rfl rfl ?_)) | refine W_seq ?_ | refine W_region ?_ | refine st_nil ?_ | refine tq_n ?_ | refine bq_n ?_ | refine W_skip ?_ | refine W_block ?_ | refine W_condTA rfl ?_ | refine W_condFA rfl ?_)
        exact ⟨rfl, i + 1, by omega, by omega, .same ⟨rfl, rfl, rfl, trivial⟩⟩
      · obtain rfl : i = M.length := by omega
        repeat' (first | (refine gU ?_; first | (refine gMove ?_; refine st (ok_move rfl) rfl rfl ?_) | (refine gAssign ?_; refine st (ok_assign rfl) rfl rfl ?_) | (refine gBin ?_; refine st (ok_bin rfl rfl rfl) rfl rfl ?_) | (refine gLen ?_; refine st (ok_len rfl) rfl rfl ?_) | (refine gCall ?_; refine st (ok_call rfl rfl rfl (by exact hwo _ rfl)) rfl rfl ?_)) | refine W_seq ?_ | refine W_region ?_ | refine st_nil ?_ | refine tq_n ?_ | refine tq_e ?_ | refine bq_hit rfl ?_ | refine W_exit ?_ | refine W_ret ?_ | refine W_condFA rfl ?_)
        exact ret0 (.tmp rfl .nil) (.plain rfl rfl) ⟨rfl, rfl⟩
  · rw [decide_eq_false h0] at hfi
    refine acall_intro 3 136 Try.func10 rfl rfl rfl rfl rfl ?_
    repeat' (first | (refine gU ?_; first | (refine gAssign ?_; refine st (ok_assign rfl) rfl rfl ?_) | (refine gLoad ?_; refine st (ok_loadA rfl (by rfl)) rfl rfl ?_) | (refine gNot ?_; refine st (ok_not' rfl) rfl rfl ?_) | (refine gCall ?_; refine st (ok_call rfl rfl rfl (by first | exact hfi | exact hwo _ rfl)) rfl rfl ?_) | (refine gBox ?_; refine st (ok_box rfl) rfl rfl ?_)) | refine W_seq ?_ | refine W_region ?_ | refine st_nil ?_ | refine tq_n ?_ | refine tq_r ?_ | refine W_ret ?_ | refine W_condTA rfl ?_)
    all_goals exact ret0 (.tmp rfl .nil) (.plain rfl rfl) ⟨rfl, rfl⟩
theorem dustTogether_law (S : Shp) (hS : S.fit) (p q : Nat) (hp : p ≤ 255) (hq : q ≤ 255) (lim : Int) (hlim : -9223372036854775808 ≤ lim ∧ lim ≤ 9223372036854775807) (more : Int) (hmore : 0 ≤ more ∧ more ≤ 4294967295) :
    Ev Try.prog 10 [shV 0 1 2 S, .agg #[.int .u8 p, .int .u8 q], .int .i64 lim, .int .u32 more] S.hp (.bool true) S.hp := dustTogether_own (fun _ h => works_ev h) S hS p q hp hq lim hlim more hmore
end Go.Proofs.Ytomioaiojidnbaa
namespace Go.Proofs.Ytomioaiojidnbaa
open Go Go.AH Go.AH.Dust
theorem dustTogether_int (S : Shp) (hS : S.fit) (p q : Int) (hp0 : 0 ≤ p) (hp : p ≤ 255) (hq0 : 0 ≤ q) (hq : q ≤ 255) (lim : Int) (hlim : -9223372036854775808 ≤ lim ∧ lim ≤ 9223372036854775807) (more : Int) (hm0 : 0 ≤ more) (hm : more ≤ 4294967295) :
    Ev Try.prog 10 [shV 0 1 2 S, .agg #[.int .u8 p, .int .u8 q], .int .i64 lim, .int .u32 more] S.hp (.bool true) S.hp := by
  obtain ⟨a, rfl⟩ : ∃ a : Nat, p = (a : Int) := ⟨p.toNat, by omega⟩
  obtain ⟨b, rfl⟩ : ∃ b : Nat, q = (b : Int) := ⟨q.toNat, by omega⟩
  exact dustTogether_law S hS a b (by omega) (by omega) lim hlim more ⟨hm0, hm⟩
end Go.Proofs.Ytomioaiojidnbaa
