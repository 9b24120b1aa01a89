/- DustLimits' own function. -/
import Derived.Test.YtomioaiojidnbaaDxQ4
namespace Go.AH.Dust
open Go Go.AH
noncomputable def begF (S : Shp) (H : Nat) (lim : Int) (i : Nat) : List Int := ((reachL S).take i).filter (overB S H lim)
theorem begF_step {S : Shp} {H : Nat} {lim : Int} {i : Nat} (hi : i < (reachL S).length) : begF S H lim (i + 1) = if 0 ≤ most S H (gi (reachL S) i).toNat ∧ most S H (gi (reachL S) i).toNat > lim then begF S H lim i ++ [gi (reachL S) i] else begF S H lim i := by
  unfold begF
  have hg : (reachL S)[i] = gi (reachL S) i := by simp [gi, List.getD_eq_getElem?_getD, List.getElem?_eq_getElem hi]
  rw [List.take_add_one, List.getElem?_eq_getElem hi, Option.toList_some, List.filter_append, hg]
  by_cases ho : 0 ≤ most S H (gi (reachL S) i).toNat ∧ most S H (gi (reachL S) i).toNat > lim
  · rw [if_pos ho]
    have : overB S H lim (gi (reachL S) i) = true := by simp only [overB, Bool.and_eq_true, decide_eq_true_eq]; exact ho
    rw [List.filter_cons_of_pos this, List.filter_nil]
  · rw [if_neg ho]
    have : ¬ overB S H lim (gi (reachL S) i) = true := by
      simp only [overB, Bool.and_eq_true, decide_eq_true_eq]; exact ho
    rw [List.filter_cons_of_neg this, List.filter_nil, List.append_nil]
theorem begF_len {S : Shp} {H : Nat} {lim : Int} {i : Nat} : (begF S H lim i).length ≤ (reachL S).length := by
  unfold begF
  exact Nat.le_trans (List.length_filter_le _ _) (List.length_take_le' _ _)
theorem hc_g6 (S : Shp) (H : Nat) {n : Nat} (hn : 3 ≤ n) : HClosed n [.ro (ints S.d), .ro (pc S.f), .ro (ints S.s), .rw (shL 0 1 2 S), .rw (ints (reachL S)), .rw (cl S.d.length (most S H))] :=
  ⟨plainL_closed (ints_plain _), plainL_closed (pc_plain _), plainL_closed (ints_plain _), shL_closed (by omega) (by omega) (by omega), plainL_closed (ints_plain _), plainL_closed cl_plain, trivial⟩
noncomputable def safeE (S : Shp) (h lim : Int) : Int := if clockE S h ≠ 0 then clockE S h else if (begL S h lim).length > 0 then 23 else 0
end Go.AH.Dust
namespace Go.Proofs.Ytomioaiojidnbaa
open Go Go.AH
attribute [local irreducible] WOps WCode WFree retQ thenQ blockQ scopeQ OpOk ACall RetRef roundA roundB
set_option maxRecDepth 100000
set_option maxHeartbeats 1000000
open Go.AH.Dust
theorem begins32_ok (S : Shp) (hS : S.fit) (h lim : Int) :
    Ev Try.prog 32 [shV 0 1 2 S, .int .i64 h, .int .i64 lim] S.hp (.tuple #[sl 3 (begL S h lim).length, .int .i64 (clockE S h)]) (S.hp ++ [.rw (ints (begL S h lim))]) := by
  have hho := hours65_ev (σ := [.ro (ints S.d), .ro (pc S.f), .ro (ints S.s), .rw (shL 0 1 2 S)]) (S := S) (h := h) (x := 0) (y := 1) (z := 2) ⟨.inl rfl, .inl rfl, .inl rfl⟩ shS_self hS rfl
  by_cases hc : clockE S h = 0
  · obtain ⟨h0, h1, h24⟩ := clockE_zero hc
    have hok := shopE_zero h0
    have n10 := hok.n10
    obtain ⟨H, rfl⟩ : ∃ H : Nat, h = ((H + 1 : Nat) : Int) := ⟨(h - 1).toNat, by omega⟩
    have hre := refReached_ev (σ := [.ro (ints S.d), .ro (pc S.f), .ro (ints S.s), .rw (shL 0 1 2 S)]) (S := S) (x := 0) (y := 1) (z := 2) ⟨.inl rfl, .inl rfl, .inl rfl⟩ shS_self hS rfl
    have hmo := most66_ev (σ := [.ro (ints S.d), .ro (pc S.f), .ro (ints S.s), .rw (shL 0 1 2 S), .rw (ints (reachL S))]) (S := S) (x := 0) (y := 1) (z := 2) ⟨.inl rfl, .inl rfl, .inl rfl⟩ shS_self hok (H := H) (by omega) rfl
    have hlr := reachL_le (S := S)
    have hbl : begL S ((H + 1 : Nat) : Int) lim = begF S H lim (reachL S).length := by
      unfold begL begF
      rw [if_pos hc, List.take_length, show (((H + 1 : Nat) : Int)).toNat - 1 = H by omega]
    rw [hbl, hc]
    rw [hc] at hho
    refine acall_intro 3 61 Try.func32 rfl rfl rfl rfl rfl ?_
    repeat' (first | (refine gU ?_; first | (refine gMove ?_; refine st (ok_move rfl) rfl rfl ?_) | (refine gAssign ?_; refine st (ok_assign rfl) rfl rfl ?_) | (refine gLoad ?_; refine st (ok_loadA rfl (by rfl)) rfl rfl ?_) | (refine gBin ?_; refine st (ok_bin rfl rfl rfl) rfl rfl ?_) | (refine gExtract ?_; refine st (ok_extract rfl rfl) rfl rfl ?_) | (refine gCall ?_; refine st (ok_call rfl rfl rfl (by first | exact hho | exact hre | exact hmo)) rfl rfl ?_) | (refine gBox ?_; refine st (ok_box rfl) rfl rfl ?_)) | refine W_seq ?_ | refine W_region ?_ | refine st_nil ?_ | refine tq_n ?_ | refine W_skip ?_ | refine W_block ?_ | refine W_condFA rfl ?_)
    refine W_loopS (ι := Nat) (fun i => [(2, .int .i64 lim), (8, sl 4 (reachL S).length), (10, sl 5 S.d.length), (11, slvV 6 1 (begF S H lim i).length), (12, .int .i64 (i : Int))])
      (fun i => [.ro (ints S.d), .ro (pc S.f), .ro (ints S.s), .rw (shL 0 1 2 S), .rw (ints (reachL S)), .rw (cl S.d.length (most S H)), .gr (ints (begF S H lim i)) 3]) (fun i => (reachL S).length - i) (fun i => i ≤ (reachL S).length) 0 (by simp) (StRef.src [.ro (ints S.d), .ro (pc S.f), .ro (ints S.s), .rw (shL 0 1 2 S), .rw (ints (reachL S)), .rw (cl S.d.length (most S H))] [.gr [] 3] [6] (by simp) rfl (hc_g6 S H (by simp)) rfl rfl ⟨osub_gr0, trivial⟩ (by (repeat' (first | exact trivial | refine ⟨er_plain rfl rfl, ?_⟩ | refine ⟨er_closed (m := 6) rfl (fun i hi => srcR_lt hi) (by simp) (by exact closed_slice rfl) rfl, ?_⟩)))) (by omega) ?_
    intro i hi
    by_cases hil : i < (reachL S).length
    · have hs := begF_step (S := S) (H := H) (lim := lim) hil
      have hkl := begF_len (S := S) (H := H) (lim := lim) (i := i)
      obtain ⟨n, e1, e2, _⟩ := reachL_at h0 hil
      have hil2 : (ints (begF S H lim i)).length = (begF S H lim i).length * 1 := by simp [ints]
      have hc1 : cellGet [.ro (ints S.d), .ro (pc S.f), .ro (ints S.s), .rw (shL 0 1 2 S), .rw (ints (reachL S)), .rw (cl S.d.length (most S H)), .gr (ints (begF S H lim i)) 3] 4 i = some (.int .i64 (n : Int)) := by rw [← e1]; exact ints_get hil
      have hc2 : cellGet [.ro (ints S.d), .ro (pc S.f), .ro (ints S.s), .rw (shL 0 1 2 S), .rw (ints (reachL S)), .rw (cl S.d.length (most S H)), .gr (ints (begF S H lim i)) 3] 5 n = some (.int .i64 (most S H n)) := cl_get e2
      rw [e1, Int.toNat_natCast] at hs
      generalize hKL : begF S H lim i = KL at *
      generalize most S H n = rk at *
      by_cases hr0 : rk ≥ 0
      · by_cases hrl : rk > lim
        · rw [if_pos ⟨hr0, hrl⟩] at hs
          have hlen : (begF S H lim (i + 1)).length = KL.length + 1 := by rw [hs]; simp
          have hcs : ints (begF S H lim (i + 1)) = ints KL ++ [.int .i64 (n : Int)] := by rw [hs, ints_app]
          repeat' (first | (refine gU ?_; first | (refine gMove ?_; refine st (ok_move rfl) rfl rfl ?_) | (refine gAssign ?_; refine st (ok_assign rfl) rfl rfl ?_) | (refine gLoad ?_; refine st (ok_load rfl (by first | exact hc1 | exact hc2)) rfl rfl ?_) | (refine gAdd ?_; refine st (ok_inc rfl rfl (by omega)) rfl rfl ?_) | (refine gBin ?_; refine st (ok_bin rfl rfl rfl) rfl rfl ?_) | (refine gLen ?_; refine st (ok_len rfl) rfl rfl ?_) | (refine gPick ?_; refine st (ok_pickTA rfl rfl) rfl rfl ?_) | (refine gIA ?_; refine st (ok_idxN rfl rfl (by omega)) rfl rfl ?_) | (refine gBuildS ?_; refine st (ok_buildS (by rfl) (by rfl) (by rfl) (by rfl) rfl (by rfl)) rfl rfl ?_) | (refine gApp ?_; refine st (ok_appendV (by rfl) (by rfl) rfl (by rfl) (by exact hil2) rfl (by rfl) (by omega) (by rfl) (by omega) (by omega)) rfl rfl ?_)) | (refine gG ?_; first | (refine gMove ?_; refine stGA rfl (ok_move rfl) rfl rfl ?_) | (refine gLoad ?_; refine stGA rfl (ok_load rfl (by first | exact hc1 | exact hc2)) rfl rfl ?_) | (refine gBin ?_; refine stGA rfl (ok_bin rfl rfl rfl) rfl rfl ?_) | (refine gIA ?_; refine stGA rfl (ok_idxN rfl rfl (by omega)) rfl rfl ?_)) | refine W_seq ?_ | refine W_region ?_ | refine st_nil ?_ | refine tq_n ?_ | refine bq_n ?_ | refine W_skip ?_ | refine W_block ?_ | refine W_condTA rfl ?_)
          exact ⟨rfl, i + 1, by omega, by omega, StRef.src [.ro (ints S.d), .ro (pc S.f), .ro (ints S.s), .rw (shL 0 1 2 S), .rw (ints (reachL S)), .rw (cl S.d.length (most S H))] [.gr (ints (begF S H lim (i + 1))) 3] [8] (by simp) rfl (hc_g6 S H (by simp)) rfl rfl ⟨osub_gr rfl (by rw [hcs]; rfl) (ints_plain _), trivial⟩ (by (repeat' (first | exact trivial | refine ⟨er_plain rfl rfl, ?_⟩ | refine ⟨er_closed (m := 6) rfl (fun i hi => srcR_lt hi) (by simp) (by exact closed_slice rfl) rfl, ?_⟩ | refine ⟨er_slvV (by rw [hlen]; rfl) (by simp) rfl, ?_⟩)))⟩
        · rw [if_neg (fun h => hrl h.2)] at hs
          repeat' (first | (refine gU ?_; first | (refine gMove ?_; refine st (ok_move rfl) rfl rfl ?_) | (refine gAssign ?_; refine st (ok_assign rfl) rfl rfl ?_) | (refine gLoad ?_; refine st (ok_load rfl (by first | exact hc1 | exact hc2)) rfl rfl ?_) | (refine gAdd ?_; refine st (ok_inc rfl rfl (by omega)) rfl rfl ?_) | (refine gBin ?_; refine st (ok_bin rfl rfl rfl) rfl rfl ?_) | (refine gLen ?_; refine st (ok_len rfl) rfl rfl ?_) | (refine gPick ?_; refine st (ok_pickTA rfl rfl) rfl rfl ?_) | (refine gIA ?_; refine st (ok_idxN rfl rfl (by omega)) rfl rfl ?_)) | (refine gG ?_; first | (refine gMove ?_; refine stGA rfl (ok_move rfl) rfl rfl ?_) | (refine gLoad ?_; refine stGA rfl (ok_load rfl (by first | exact hc1 | exact hc2)) rfl rfl ?_) | (refine gBin ?_; refine stGA rfl (ok_bin rfl rfl rfl) rfl rfl ?_) | (refine gIA ?_; refine stGA rfl (ok_idxN rfl rfl (by omega)) rfl rfl ?_)) | refine W_seq ?_ | refine W_region ?_ | refine st_nil ?_ | refine tq_n ?_ | refine bq_n ?_ | refine W_skip ?_ | refine W_block ?_ | refine W_condTA rfl ?_ | refine W_condFA rfl ?_)
          refine ⟨rfl, i + 1, by omega, by omega, ?_⟩
          rw [hs]
          exact .same ⟨rfl, rfl, rfl, rfl, rfl, trivial⟩
      · rw [if_neg (fun h => hr0 h.1)] at hs
        repeat' (first | (refine gU ?_; first | (refine gMove ?_; refine st (ok_move rfl) rfl rfl ?_) | (refine gAssign ?_; refine st (ok_assign rfl) rfl rfl ?_) | (refine gLoad ?_; refine st (ok_load rfl (by first | exact hc1 | exact hc2)) rfl rfl ?_) | (refine gAdd ?_; refine st (ok_inc rfl rfl (by omega)) rfl rfl ?_) | (refine gBin ?_; refine st (ok_bin rfl rfl rfl) rfl rfl ?_) | (refine gLen ?_; refine st (ok_len rfl) rfl rfl ?_) | (refine gPick ?_; refine st (ok_pickFA rfl rfl) rfl rfl ?_) | (refine gIA ?_; refine st (ok_idxN rfl rfl (by omega)) rfl rfl ?_)) | (refine gG ?_; refine stSA rfl rfl ?_) | refine W_seq ?_ | refine W_region ?_ | refine st_nil ?_ | refine tq_n ?_ | refine bq_n ?_ | refine W_skip ?_ | refine W_block ?_ | refine W_condTA rfl ?_ | refine W_condFA rfl ?_)
        refine ⟨rfl, i + 1, by omega, by omega, ?_⟩
        rw [hs]
        exact .same ⟨rfl, rfl, rfl, rfl, rfl, trivial⟩
    · obtain rfl : i = (reachL S).length := by omega
      repeat' (first | (refine gU ?_; first | (refine gMove ?_; refine st (ok_move rfl) rfl rfl ?_) | (refine gAssign ?_; refine st (ok_assign rfl) rfl rfl ?_) | (refine gBin ?_; refine st (ok_bin rfl rfl rfl) rfl rfl ?_) | (refine gLen ?_; refine st (ok_len rfl) rfl rfl ?_)) | refine W_seq ?_ | refine W_region ?_ | refine st_nil ?_ | refine tq_n ?_ | refine tq_e ?_ | refine bq_hit rfl ?_ | refine W_exit ?_ | refine W_ret ?_ | refine W_condFA rfl ?_)
      exact ret0 (.tmp rfl (.tmp rfl .nil)) (retSl (j := 6) rfl (ints_plain _) (.inr ⟨3, rfl⟩) rfl rfl) ⟨rfl, rfl⟩
  · have e : begL S h lim = [] := by unfold begL; rw [if_neg hc]
    rw [e]
    generalize clockE S h = E at *
    refine acall_intro 3 61 Try.func32 rfl rfl rfl rfl rfl ?_
    repeat' (first | (refine gU ?_; first | (refine gMove ?_; refine st (ok_move rfl) rfl rfl ?_) | (refine gAssign ?_; refine st (ok_assign rfl) rfl rfl ?_) | (refine gLoad ?_; refine st (ok_loadA rfl (by rfl)) rfl rfl ?_) | (refine gBin ?_; refine st (ok_bin rfl rfl rfl) rfl rfl ?_) | (refine gCall ?_; refine st (ok_call rfl rfl rfl (by exact hho)) rfl rfl ?_) | (refine gBox ?_; refine st (ok_box rfl) rfl rfl ?_)) | refine W_seq ?_ | refine W_region ?_ | refine st_nil ?_ | refine tq_n ?_ | refine tq_r ?_ | refine W_ret ?_ | refine W_condTA rfl ?_)
    exact ret0 (.tmp rfl (.tmp rfl .nil)) (retNil rfl rfl) ⟨rfl, rfl⟩
theorem begins31_ev {σ : Heap} {S : Shp} {h lim : Int} {x y z : Nat} {v : Value} (hs : SAt σ x y z S) (hv : ShS x y z S v) (hS : S.fit) (hni : σ.all (fun o => !isIter o) = true) :
    Ev Try.prog 31 [v, .int .i64 h, .int .i64 lim] σ (.tuple #[sl σ.length (begL S h lim).length, .int .i64 (clockE S h)]) (σ ++ [.rw (ints (begL S h lim))]) := by
  refine Ev.arrsN S.css [x, y, z] (begins31_ok S hS h lim) hs.arrs ⟨hv, .int _ _, .int _ _, trivial⟩ S.css_plain rfl ?_ ?_ hni
  · simp [ren, renA, renL, shf]
  · simp only [List.map_cons, List.map_nil, renO, renL_plain _ (ints_plain _)]
theorem begins32_ev {σ : Heap} {S : Shp} {h lim : Int} {x y z : Nat} {v : Value} (hs : SAt σ x y z S) (hv : ShS x y z S v) (hS : S.fit) (hni : σ.all (fun o => !isIter o) = true) :
    Ev Try.prog 32 [v, .int .i64 h, .int .i64 lim] σ (.tuple #[sl σ.length (begL S h lim).length, .int .i64 (clockE S h)]) (σ ++ [.rw (ints (begL S h lim))]) := by
  refine Ev.arrsN S.css [x, y, z] (begins32_ok S hS h lim) hs.arrs ⟨hv, .int _ _, .int _ _, trivial⟩ S.css_plain rfl ?_ ?_ hni
  · simp [ren, renA, renL, shf]
  · simp only [List.map_cons, List.map_nil, renO, renL_plain _ (ints_plain _)]
theorem safe33_ok (S : Shp) (hS : S.fit) (h lim : Int) : Ev Try.prog 33 [shV 0 1 2 S, .int .i64 h, .int .i64 lim] S.hp (.int .i64 (safeE S h lim)) S.hp := by
  have hbe := begins31_ev (σ := [.ro (ints S.d), .ro (pc S.f), .ro (ints S.s), .rw (shL 0 1 2 S)]) (S := S) (h := h) (lim := lim) (x := 0) (y := 1) (z := 2) ⟨.inl rfl, .inl rfl, .inl rfl⟩ shS_self hS rfl
  unfold safeE
  generalize begL S h lim = L at *
  generalize clockE S h = E at *
  by_cases hE : E ≠ 0
  · rw [if_pos hE]
    refine acall_intro 3 24 Try.func33 rfl rfl rfl rfl rfl ?_
    repeat' (first | (refine gU ?_; first | (refine gMove ?_; refine st (ok_move rfl) rfl rfl ?_) | (refine gAssign ?_; refine st (ok_assign rfl) rfl rfl ?_) | (refine gLoad ?_; refine st (ok_loadA rfl (by rfl)) rfl rfl ?_) | (refine gBin ?_; refine st (ok_bin rfl rfl rfl) rfl rfl ?_) | (refine gExtract ?_; refine st (ok_extract rfl rfl) rfl rfl ?_) | (refine gCall ?_; refine st (ok_call rfl rfl rfl (by exact hbe)) rfl rfl ?_) | (refine gBox ?_; refine st (ok_box rfl) rfl rfl ?_)) | refine W_seq ?_ | refine W_region ?_ | refine st_nil ?_ | refine tq_n ?_ | refine tq_r ?_ | refine bq_r ?_ | refine W_ret ?_ | refine W_block ?_ | refine W_condTA rfl ?_)
    all_goals exact ret0 (.tmp rfl .nil) (.plain rfl rfl) ⟨rfl, rfl⟩
  · rw [if_neg hE]
    by_cases hL : (L.length : Int) > 0
    · rw [if_pos (by omega)]
      refine acall_intro 3 24 Try.func33 rfl rfl rfl rfl rfl ?_
      repeat' (first | (refine gU ?_; first | (refine gMove ?_; refine st (ok_move rfl) rfl rfl ?_) | (refine gAssign ?_; refine st (ok_assign rfl) rfl rfl ?_) | (refine gLoad ?_; refine st (ok_loadA rfl (by rfl)) rfl rfl ?_) | (refine gBin ?_; refine st (ok_bin rfl rfl rfl) rfl rfl ?_) | (refine gLen ?_; refine st (ok_len rfl) rfl rfl ?_) | (refine gExtract ?_; refine st (ok_extract rfl rfl) rfl rfl ?_) | (refine gCall ?_; refine st (ok_call rfl rfl rfl (by exact hbe)) rfl rfl ?_) | (refine gBox ?_; refine st (ok_box rfl) rfl rfl ?_)) | refine W_seq ?_ | refine W_region ?_ | refine st_nil ?_ | refine tq_n ?_ | refine tq_r ?_ | refine bq_r ?_ | refine W_ret ?_ | refine W_block ?_ | refine W_condTA rfl ?_ | refine W_condFA rfl ?_)
      all_goals exact ret0 (.tmp rfl .nil) (.plain rfl rfl) ⟨rfl, rfl⟩
    · rw [if_neg (by omega)]
      refine acall_intro 3 24 Try.func33 rfl rfl rfl rfl rfl ?_
      repeat' (first | (refine gU ?_; first | (refine gMove ?_; refine st (ok_move rfl) rfl rfl ?_) | (refine gAssign ?_; refine st (ok_assign rfl) rfl rfl ?_) | (refine gLoad ?_; refine st (ok_loadA rfl (by rfl)) rfl rfl ?_) | (refine gBin ?_; refine st (ok_bin rfl rfl rfl) rfl rfl ?_) | (refine gLen ?_; refine st (ok_len rfl) rfl rfl ?_) | (refine gExtract ?_; refine st (ok_extract rfl rfl) rfl rfl ?_) | (refine gCall ?_; refine st (ok_call rfl rfl rfl (by exact hbe)) rfl rfl ?_) | (refine gBox ?_; refine st (ok_box rfl) rfl rfl ?_)) | refine W_seq ?_ | refine W_region ?_ | refine st_nil ?_ | refine tq_n ?_ | refine bq_n ?_ | refine W_skip ?_ | refine W_ret ?_ | refine W_block ?_ | refine W_condFA rfl ?_)
      all_goals exact ret0 (.tmp rfl .nil) (.plain rfl rfl) ⟨rfl, rfl⟩
theorem safe34_ok (S : Shp) (hS : S.fit) (h lim : Int) : Ev Try.prog 34 [shV 0 1 2 S, .int .i64 h, .int .i64 lim] S.hp (.int .i64 (safeE S h lim)) S.hp := by
  have hbe := begins32_ev (σ := [.ro (ints S.d), .ro (pc S.f), .ro (ints S.s), .rw (shL 0 1 2 S)]) (S := S) (h := h) (lim := lim) (x := 0) (y := 1) (z := 2) ⟨.inl rfl, .inl rfl, .inl rfl⟩ shS_self hS rfl
  unfold safeE
  generalize begL S h lim = L at *
  generalize clockE S h = E at *
  by_cases hE : E ≠ 0
  · rw [if_pos hE]
    refine acall_intro 3 22 Try.func34 rfl rfl rfl rfl rfl ?_
    repeat' (first | (refine gU ?_; first | (refine gMove ?_; refine st (ok_move rfl) rfl rfl ?_) | (refine gAssign ?_; refine st (ok_assign rfl) rfl rfl ?_) | (refine gLoad ?_; refine st (ok_loadA rfl (by rfl)) rfl rfl ?_) | (refine gBin ?_; refine st (ok_bin rfl rfl rfl) rfl rfl ?_) | (refine gExtract ?_; refine st (ok_extract rfl rfl) rfl rfl ?_) | (refine gCall ?_; refine st (ok_call rfl rfl rfl (by exact hbe)) rfl rfl ?_) | (refine gBox ?_; refine st (ok_box rfl) rfl rfl ?_)) | refine W_seq ?_ | refine W_region ?_ | refine st_nil ?_ | refine tq_n ?_ | refine tq_r ?_ | refine W_ret ?_ | refine W_condTA rfl ?_)
    all_goals exact ret0 (.tmp rfl .nil) (.plain rfl rfl) ⟨rfl, rfl⟩
  · rw [if_neg hE]
    by_cases hL : (L.length : Int) > 0
    · rw [if_pos (by omega)]
      refine acall_intro 3 22 Try.func34 rfl rfl rfl rfl rfl ?_
      repeat' (first | (refine gU ?_; first | (refine gMove ?_; refine st (ok_move rfl) rfl rfl ?_) | (refine gAssign ?_; refine st (ok_assign rfl) rfl rfl ?_) | (refine gLoad ?_; refine st (ok_loadA rfl (by rfl)) rfl rfl ?_) | (refine gBin ?_; refine st (ok_bin rfl rfl rfl) rfl rfl ?_) | (refine gLen ?_; refine st (ok_len rfl) rfl rfl ?_) | (refine gExtract ?_; refine st (ok_extract rfl rfl) rfl rfl ?_) | (refine gCall ?_; refine st (ok_call rfl rfl rfl (by exact hbe)) rfl rfl ?_) | (refine gBox ?_; refine st (ok_box rfl) rfl rfl ?_)) | refine W_seq ?_ | refine W_region ?_ | refine st_nil ?_ | refine tq_n ?_ | refine tq_r ?_ | refine W_skip ?_ | refine W_ret ?_ | refine W_condTA rfl ?_ | refine W_condFA rfl ?_)
      all_goals exact ret0 (.tmp rfl .nil) (.plain rfl rfl) ⟨rfl, rfl⟩
    · rw [if_neg (by omega)]
      refine acall_intro 3 22 Try.func34 rfl rfl rfl rfl rfl ?_
      repeat' (first | (refine gU ?_; first | (refine gMove ?_; refine st (ok_move rfl) rfl rfl ?_) | (refine gAssign ?_; refine st (ok_assign rfl) rfl rfl ?_) | (refine gLoad ?_; refine st (ok_loadA rfl (by rfl)) rfl rfl ?_) | (refine gBin ?_; refine st (ok_bin rfl rfl rfl) rfl rfl ?_) | (refine gLen ?_; refine st (ok_len rfl) rfl rfl ?_) | (refine gExtract ?_; refine st (ok_extract rfl rfl) rfl rfl ?_) | (refine gCall ?_; refine st (ok_call rfl rfl rfl (by exact hbe)) rfl rfl ?_) | (refine gBox ?_; refine st (ok_box rfl) rfl rfl ?_)) | refine W_seq ?_ | refine W_region ?_ | refine st_nil ?_ | refine tq_n ?_ | refine W_skip ?_ | refine W_ret ?_ | refine W_condFA rfl ?_)
      all_goals exact ret0 (.tmp rfl .nil) (.plain rfl rfl) ⟨rfl, rfl⟩
theorem safe33_ev {σ : Heap} {S : Shp} {h lim : Int} {x y z : Nat} {v : Value} (hs : SAt σ x y z S) (hv : ShS x y z S v) (hS : S.fit) (hni : σ.all (fun o => !isIter o) = true) :
    Ev Try.prog 33 [v, .int .i64 h, .int .i64 lim] σ (.int .i64 (safeE S h lim)) σ := Ev.arrs S.css [x, y, z] (safe33_ok S hS h lim) hs.arrs ⟨hv, .int _ _, .int _ _, trivial⟩ S.css_plain rfl hni
theorem safe34_ev {σ : Heap} {S : Shp} {h lim : Int} {x y z : Nat} {v : Value} (hs : SAt σ x y z S) (hv : ShS x y z S v) (hS : S.fit) (hni : σ.all (fun o => !isIter o) = true) :
    Ev Try.prog 34 [v, .int .i64 h, .int .i64 lim] σ (.int .i64 (safeE S h lim)) σ := Ev.arrs S.css [x, y, z] (safe34_ok S hS h lim) hs.arrs ⟨hv, .int _ _, .int _ _, trivial⟩ S.css_plain rfl hni
end Go.Proofs.Ytomioaiojidnbaa
namespace Go.Proofs.Ytomioaiojidnbaa
open Go Go.AH
attribute [local irreducible] WOps WCode WFree retQ thenQ blockQ scopeQ OpOk ACall RetRef roundA roundB
set_option maxRecDepth 100000
set_option maxHeartbeats 1000000
open Go.AH.Dust
theorem dustLimits_own (hwo : ∀ σ : Heap, σ.all (fun o => !isIter o) = true → Ev Try.prog 14 [] σ (.bool true) σ) (S : Shp) (hS : S.fit) (h lim : Int) :
    Ev Try.prog 6 [shV 0 1 2 S, .int .i64 h, .int .i64 lim] S.hp (.bool true) S.hp := by
  have hgr := great_ev (σ := [.ro (ints S.d), .ro (pc S.f), .ro (ints S.s), .rw (shL 0 1 2 S)]) (S := S) (x := 0) (y := 1) (z := 2) ⟨.inl rfl, .inl rfl, .inl rfl⟩ shS_self hS rfl
  by_cases hm : (S.d.length : Int) > 15 ∨ (S.f.length : Int) > 70 ∨ (S.s.length : Int) > 15
  · refine acall_intro 3 50 Try.func6 rfl rfl rfl rfl rfl ?_
    repeat' (first | (refine gU ?_; first | (refine gAssign ?_; refine st (ok_assign rfl) rfl rfl ?_) | (refine gLoad ?_; refine st (ok_loadA rfl (by rfl)) rfl rfl ?_) | (refine gCall ?_; refine st (ok_call rfl rfl rfl (by first | exact hgr | exact hwo _ rfl)) rfl rfl ?_) | (refine gBox ?_; refine st (ok_box rfl) rfl rfl ?_)) | refine W_seq ?_ | refine W_region ?_ | refine st_nil ?_ | refine tq_n ?_ | refine tq_r ?_ | refine W_ret ?_ | refine W_condTA rfl ?_)
    all_goals exact ret0 (.tmp rfl .nil) (.plain rfl rfl) ⟨rfl, rfl⟩
  · have hA := begins31_ev (σ := [.ro (ints S.d), .ro (pc S.f), .ro (ints S.s), .rw (shL 0 1 2 S)]) (S := S) (h := h) (lim := lim) (x := 0) (y := 1) (z := 2) ⟨.inl rfl, .inl rfl, .inl rfl⟩ shS_self hS rfl
    have hB := begins32_ev (σ := [.ro (ints S.d), .ro (pc S.f), .ro (ints S.s), .rw (shL 0 1 2 S), .rw (ints (begL S h lim))]) (S := S) (h := h) (lim := lim) (x := 0) (y := 1) (z := 2) ⟨.inl rfl, .inl rfl, .inl rfl⟩ shS_self hS rfl
    have hC := ints_ev (σ := [.ro (ints S.d), .ro (pc S.f), .ro (ints S.s), .rw (shL 0 1 2 S), .rw (ints (begL S h lim)), .rw (ints (begL S h lim))]) (q := begL S h lim) (x := 4) (y := 5) (o := 0) (o2 := 0) (prtAt_arr (.inr (.inl rfl))) (prtAt_arr (.inr (.inl rfl))) ps_self ps_self begL_le rfl
    have hD := safe33_ev (σ := [.ro (ints S.d), .ro (pc S.f), .ro (ints S.s), .rw (shL 0 1 2 S), .rw (ints (begL S h lim)), .rw (ints (begL S h lim))]) (S := S) (h := h) (lim := lim) (x := 0) (y := 1) (z := 2) ⟨.inl rfl, .inl rfl, .inl rfl⟩ shS_self hS rfl
    have hE := safe34_ev (σ := [.ro (ints S.d), .ro (pc S.f), .ro (ints S.s), .rw (shL 0 1 2 S), .rw (ints (begL S h lim)), .rw (ints (begL S h lim))]) (S := S) (h := h) (lim := lim) (x := 0) (y := 1) (z := 2) ⟨.inl rfl, .inl rfl, .inl rfl⟩ shS_self hS rfl
    generalize safeE S h lim = se at *
    generalize begL S h lim = L at *
    generalize clockE S h = E at *
    refine acall_intro 3 50 Try.func6 rfl rfl rfl rfl rfl ?_
    repeat' (first | (refine gU ?_; first | (refine gMove ?_; refine st (ok_move rfl) rfl rfl ?_) | (refine gAssign ?_; refine st (ok_assign rfl) rfl rfl ?_) | (refine gLoad ?_; refine st (ok_loadA rfl (by rfl)) rfl rfl ?_) | (refine gExtract ?_; refine st (ok_extract rfl rfl) rfl rfl ?_) | (refine gCall ?_; refine st (ok_call rfl rfl rfl (by first | exact hgr | exact hA | exact hB)) rfl rfl ?_) | (refine gBox ?_; refine st (ok_box rfl) rfl rfl ?_)) | (refine fU ?_; first | refine frA (ok_call rfl rfl rfl hC) rfl ?_ | (refine fMove ?_; refine frA (ok_move rfl) rfl ?_) | (refine fAssign ?_; refine frA (ok_assign rfl) rfl ?_) | (refine fPick ?_; refine frA (ok_pickTA rfl rfl) rfl ?_)) | (refine fG ?_; first | (refine fMove ?_; refine frGA rfl (ok_move rfl) rfl ?_) | (refine fLoad ?_; refine frGA rfl (ok_loadA rfl (by rfl)) rfl ?_) | (refine fBin ?_; refine frGA rfl (ok_bin rfl rfl rfl) rfl ?_) | (refine fCall ?_; refine frGA rfl (ok_call rfl rfl rfl (by first | exact hwo _ rfl | exact hD | exact hE)) rfl ?_)) | (refine fr_stop ⟨by kernel_rfl, ?_⟩) | refine W_seq ?_ | refine W_region ?_ | refine W_regionD (by kernel_rfl) rfl ?_ | refine st_nil ?_ | refine tq_n ?_ | refine W_skip ?_ | refine W_ret ?_ | refine W_condFA rfl ?_)
    all_goals exact ret0 (.tmp rfl .nil) (.plain rfl rfl) ⟨rfl, rfl⟩
theorem dustLimits_law (S : Shp) (hS : S.fit) (h lim : Int) : Ev Try.prog 6 [shV 0 1 2 S, .int .i64 h, .int .i64 lim] S.hp (.bool true) S.hp := dustLimits_own (fun _ h => works_ev h) S hS h lim
end Go.Proofs.Ytomioaiojidnbaa
