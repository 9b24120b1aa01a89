/- The own function of HoneEither. -/
import Derived.Test.YtindbippegiopaaPbQ4
namespace Go.Proofs.Ytindbippegiopaa
open Go Go.AH
attribute [local irreducible] WOps WCode WFree retQ thenQ blockQ scopeQ OpOk ACall RetRef roundA roundB
set_option maxRecDepth 100000
set_option maxHeartbeats 1000000
open Go.AH.Hone
theorem farL_le (l : List Sn) (goal : Ed) (k : Int) : (farL l goal k).length ≤ 200000 := by
  unfold farL; split <;> simp [rowL]
theorem lastL_le (l : List Sn) (goal : Ed) : (lastL l goal).length ≤ 200000 := by
  unfold lastL; split <;> simp [rowL]
theorem honeFars_law (l : List Sn) (e goal : Ed) (k : Int) (q : List Int) (c c2 : Nat) (hN : l.length ≤ 9223372036854775807) (hM : q.length ≤ 9223372036854775807) :
    Ev Try.prog 6 [.slice (some ⟨0, 0, none⟩) l.length c, e.val, goal.val, .int .i64 k, .slice (some ⟨1, 0, none⟩) q.length c2] [.ro (stonesC l), .ro (ints q)] (.bool true) [.ro (stonesC l), .ro (ints q)] := by
  have hgr := great_ev (σ := [.ro (stonesC l), .ro (ints q), .rw e.cells, .rw goal.cells]) (l := l) (x := 0) (c := c) (.inl rfl) hN rfl
  by_cases hm : (l.length : Int) > 10
  · refine acall_intro 2 87 Try.func6 rfl rfl rfl rfl rfl ?_
    repeat' (first | (refine gU ?_; first | (refine gMove ?_; refine st (ok_move rfl) rfl rfl ?_) | (refine gAssign ?_; refine st (ok_assign rfl) rfl rfl ?_) | (refine gPick ?_; refine st (ok_pickTA rfl rfl) rfl rfl ?_) | (refine gCall ?_; refine st (ok_call rfl rfl rfl (by first | exact hgr | exact works_ev rfl)) rfl rfl ?_) | (refine gBox ?_; refine st (ok_box rfl) rfl rfl ?_)) | (refine gG ?_; refine stSA rfl rfl ?_) | refine W_seq ?_ | refine W_region ?_ | refine st_nil ?_ | refine tq_n ?_ | refine tq_r ?_ | refine W_ret ?_ | refine W_condTA rfl ?_)
    all_goals exact ret0 (.tmp rfl .nil) (.plain rfl rfl) ⟨rfl, rfl⟩
  · by_cases hk : (q.length : Int) > 10
    · refine acall_intro 2 87 Try.func6 rfl rfl rfl rfl rfl ?_
      repeat' (first | (refine gU ?_; first | (refine gMove ?_; refine st (ok_move rfl) rfl rfl ?_) | (refine gAssign ?_; refine st (ok_assign rfl) rfl rfl ?_) | (refine gPick ?_; refine st (ok_pickFA rfl rfl) rfl rfl ?_) | (refine gCall ?_; refine st (ok_call rfl rfl rfl (by first | exact hgr | exact works_ev rfl)) rfl rfl ?_) | (refine gBox ?_; refine st (ok_box rfl) rfl rfl ?_)) | (refine gG ?_; first | (refine gMove ?_; refine stGA rfl (ok_move rfl) rfl rfl ?_) | (refine gBin ?_; refine stGA rfl (ok_bin rfl rfl rfl) rfl rfl ?_) | (refine gLen ?_; refine stGA rfl (ok_len rfl) rfl rfl ?_)) | refine W_seq ?_ | refine W_region ?_ | refine st_nil ?_ | refine tq_n ?_ | refine tq_r ?_ | refine W_ret ?_ | refine W_condTA rfl ?_)
      all_goals exact ret0 (.tmp rfl .nil) (.plain rfl rfl) ⟨rfl, rfl⟩
    · have hA := far_ev (σ := [.ro (stonesC l), .ro (ints q), .rw e.cells, .rw goal.cells]) (l := l) (goal := goal) (k := k) (x := 0) (c := c) (.inl rfl) (by omega) rfl
      have hB := fun A => refFar_ev (σ := [.ro (stonesC l), .ro (ints q), .rw e.cells, .rw goal.cells, .rw (ints A)]) (l := l) (goal := goal) (k := k) (x := 0) (c := c) (.inl rfl) (by omega) rfl
      replace hB := hB (farL l goal k)
      have hC := fun A B => last_ev (σ := [.ro (stonesC l), .ro (ints q), .rw e.cells, .rw goal.cells, .rw (ints A), .rw (ints B)]) (l := l) (goal := goal) (x := 0) (c := c) (.inl rfl) (by omega) rfl
      replace hC := hC (farL l goal k) (farL l goal k)
      have hD := fun A B C => refLast_ev (σ := [.ro (stonesC l), .ro (ints q), .rw e.cells, .rw goal.cells, .rw (ints A), .rw (ints B), .rw (ints C)]) (l := l) (goal := goal) (x := 0) (c := c) (.inl rfl) (by omega) rfl
      replace hD := hD (farL l goal k) (farL l goal k) (lastL l goal)
      have hV := fun A B C D => never_ev (σ := [.ro (stonesC l), .ro (ints q), .rw e.cells, .rw goal.cells, .rw (ints A), .rw (ints B), .rw (ints C), .rw (ints D)]) (l := l) (e := e) (goal := goal) (q := q) (x := 0) (y := 1) (c := c) (c2 := c2) (.inl rfl) (.inl rfl) (by omega) (by omega) rfl
      replace hV := hV (farL l goal k) (farL l goal k) (lastL l goal) (lastL l goal)
      have hW := fun A B C D => refNever_ev (σ := [.ro (stonesC l), .ro (ints q), .rw e.cells, .rw goal.cells, .rw (ints A), .rw (ints B), .rw (ints C), .rw (ints D)]) (l := l) (e := e) (goal := goal) (q := q) (x := 0) (y := 1) (c := c) (c2 := c2) (.inl rfl) (.inl rfl) (by omega) (by omega) rfl
      replace hW := hW (farL l goal k) (farL l goal k) (lastL l goal) (lastL l goal)
      have hle := farL_le l goal k
      have hle2 := lastL_le l goal
      generalize farL l goal k = F at *
      generalize lastL l goal = G at *
      generalize farE l goal k = f at *
      generalize askE l goal goal = f2 at *
      generalize neverE l e goal q = f3 at *
      refine acall_intro 2 87 Try.func6 rfl rfl rfl rfl rfl ?_
      repeat' (first | (refine gU ?_; first | (refine gMove ?_; refine st (ok_move rfl) rfl rfl ?_) | (refine gAssign ?_; refine st (ok_assign rfl) rfl rfl ?_) | (refine gLoad ?_; refine st (ok_loadA rfl (by rfl)) rfl rfl ?_) | (refine gPick ?_; refine st (ok_pickFA rfl rfl) rfl rfl ?_) | (refine gExtract ?_; refine st (ok_extract rfl rfl) rfl rfl ?_) | (refine gCall ?_; refine st (ok_call rfl rfl rfl (by first | exact hgr | exact hA | exact hB | exact hC | exact hD)) rfl rfl ?_) | (refine gBox ?_; refine st (ok_box rfl) rfl rfl ?_)) | (refine gG ?_; first | (refine gMove ?_; refine stGA rfl (ok_move rfl) rfl rfl ?_) | (refine gBin ?_; refine stGA rfl (ok_bin rfl rfl rfl) rfl rfl ?_) | (refine gLen ?_; refine stGA rfl (ok_len rfl) rfl rfl ?_)) | (refine fU ?_; first | (refine fMove ?_; refine frA (ok_move rfl) rfl ?_) | (refine fAssign ?_; refine frA (ok_assign rfl) rfl ?_) | (refine fPick ?_; refine frA (ok_pickTA rfl rfl) rfl ?_) | (refine fCall ?_; refine frA (ok_call rfl rfl rfl (by exact ints_ev rfl (by exact .inr (.inl rfl)) (by exact .inr (.inl rfl)) (by assumption) rfl)) rfl ?_)) | (refine fG ?_; first | (refine fMove ?_; refine frGA rfl (ok_move rfl) rfl ?_) | (refine fLoad ?_; refine frGA rfl (ok_loadA rfl (by rfl)) rfl ?_) | (refine fBin ?_; refine frGA rfl (ok_bin rfl rfl rfl) rfl ?_) | (refine fCall ?_; refine frGA rfl (ok_call rfl rfl rfl (by first | exact works_ev rfl | exact ints_ev rfl (by exact .inr (.inl rfl)) (by exact .inr (.inl rfl)) (by assumption) rfl | exact hV | exact hW)) rfl ?_)) | (refine fr_stop ⟨by kernel_rfl, ?_⟩) | refine W_seq ?_ | refine W_region ?_ | refine W_regionD (by kernel_rfl) rfl ?_ | refine st_nil ?_ | refine tq_n ?_ | refine W_skip ?_ | refine W_ret ?_ | refine W_condFA rfl ?_)
      all_goals exact ret0 (.tmp rfl .nil) (.plain rfl rfl) ⟨rfl, rfl⟩
end Go.Proofs.Ytindbippegiopaa
namespace Go.AH.Hone
open Go Go.AH Go.Proofs.Ytindbippegiopaa
section
variable {l : List Sn} {goal e : Ed}
theorem rowL_gi {f : Nat → Int} : ∀ {b : Nat}, b < 7 → gi (rowL f) b = f b
  | 0, _ => rfl | 1, _ => rfl | 2, _ => rfl | 3, _ => rfl | 4, _ => rfl | 5, _ => rfl | 6, _ => rfl
theorem inR_rowL {f : Nat → Int} (he : ¬ badEd e) : inR (gi (rowL f)) e ↔ inR f e := inR_same he fun _ hb => rowL_gi hb
theorem rowL_isRow (hl : ∀ i < l.length, ¬ badSn (gs l i)) (hg : ¬ badEd goal) (n : Nat) : isRowP (rowL (rowN l goal n)) := by
  refine ⟨rfl, fun h => ?_, fun i hi => ?_⟩
  · obtain ⟨i, hi, h⟩ := badIx_iff.1 h
    have hi7 : i < 7 := hi
    rw [rowL_gi hi7] at h
    have := rowN_bounds (l := l) hg n i
    omega
  · have hi7 : i + 1 < 7 := hi
    rw [rowL_gi hi7, rowL_gi (by omega)]
    exact rowN_down hl hg n i (i + 1) (by omega) hi7
theorem needs_last (hl : ∀ i < l.length, ¬ badSn (gs l i)) (hg : ¬ badEd goal) (he : ¬ badEd e) : inR (rowN l goal (lastN l goal)) e ↔ 0 ≤ needsV l goal e := by
  rw [needsV_iff hl hg he]
  refine ⟨fun h => h.1, fun h => ⟨h, ?_⟩⟩
  unfold needsV at *
  rcases needsK_is (l := l) (goal := goal) (e := e) (lastN l goal + 1) with ⟨h1, _⟩ | ⟨n, hn, h1, _⟩ <;> omega
theorem covers_row (hg : ¬ badEd goal) (n : Nat) : coversP goal (gi (rowL (rowN l goal n))) := fun b hb => by
  rw [rowL_gi hb]; exact rowN_mono (Nat.zero_le n) b
theorem lvP_leaves {f g : Nat → Int} (hf : ∀ b < 7, -1 ≤ f b) : lvP l f g ↔ leaves l f g := (leaves_iff hf).symm
theorem lvP_rows (hl : ∀ i < l.length, ¬ badSn (gs l i)) (hg : ¬ badEd goal) {n m : Nat} (h : ∀ e, ¬ badEd e → (inR (rowN l goal (m + 1)) e → inR (rowN l goal n) e)) : lvP l (gi (rowL (rowN l goal n))) (gi (rowL (rowN l goal m))) := by
  rw [lvP_leaves fun b hb => by rw [rowL_gi hb]; exact (rowN_bounds hg n b).1]
  intro e he hn i hi hc h2
  rw [inR_rowL he] at hn
  rw [inR_rowL (aft_ok (hl i hi) he hc)] at h2
  exact hn (h e he ((rowN_step he m).2 (.inr ⟨i, hi, hc, h2⟩)))
theorem never_last (ha : askE l e goal = 0) : neverE l e goal (rowL (rowN l goal (lastN l goal))) = if 0 ≤ needsV l goal e then 14 else 0 := by
  obtain ⟨g1, g2, g3⟩ := askE_zero ha
  obtain ⟨_, _, hl⟩ := boxE_zero g1
  have h1 := rowL_isRow hl g3 (lastN l goal)
  have h2 := covers_row (l := l) g3 (lastN l goal)
  have h3 : lvP l (gi (rowL (rowN l goal (lastN l goal)))) (gi (rowL (rowN l goal (lastN l goal)))) := lvP_rows hl g3 fun e he h => (inR_same he (lastN_is (l := l) g3).1).2 h
  have h4 := (inR_rowL (f := rowN l goal (lastN l goal)) g2).trans (needs_last hl g3 g2)
  unfold neverE
  rw [if_neg (by omega), if_neg (fun h => h h1)]
  by_cases hn : 0 ≤ needsV l goal e
  · rw [if_pos hn, if_pos (.inr (.inr (h4.2 hn)))]
  · rw [if_neg hn, if_neg]
    rintro (h | h | h)
    · exact h h2
    · exact h h3
    · exact hn (h4.1 h)
theorem keen_covers {f : Nat → Int} (hg : ¬ badEd goal) (hf : ∀ b < 7, -1 ≤ f b) (h : coversP goal f) {x : Ed} (hx : ¬ badEd x) (hk : keen x goal) : inR f x := by
  have hb : ((x.b.toNat : Nat) : Int) = x.b := by unfold badEd at hx; omega
  have := (coversP_iff hg hf).1 h x.b.toNat (by rw [hb]; exact hk.2)
  unfold inR
  exact Int.le_trans hk.1 this
theorem never_sound (hl : ∀ i < l.length, ¬ badSn (gs l i)) (hg : ¬ badEd goal) (he : ¬ badEd e) {q : List Int} (hq : isRowP q) (hc : coversP goal (gi q)) (hv : lvP l (gi q) (gi q)) (hn : 0 ≤ needsV l goal e) : inR (gi q) e := by
  have hb := fun b hb => ((rowOf_good hq).2 b hb).1
  have hp := path_of_needs hl hg (needsV l goal e).toNat e he (by omega)
  exact rows_prove (R := fun _ => gi q) (k := (needsV l goal e).toNat) (fun x hx hk => keen_covers hg hb hc hx hk) (fun n _ => (lvP_leaves hb).1 hv) hl _ (Nat.le_refl _) e he hp
theorem never_pos (ha : askE l e goal = 0) (hn : 0 ≤ needsV l goal e) (q : List Int) : neverE l e goal q ≠ 0 := by
  obtain ⟨g1, g2, g3⟩ := askE_zero ha
  obtain ⟨_, _, hl⟩ := boxE_zero g1
  unfold neverE
  rw [if_neg (by omega)]
  by_cases hq : isRowP q
  · rw [if_neg (fun h => h hq)]
    by_cases hc : coversP goal (gi q)
    · by_cases hv : lvP l (gi q) (gi q)
      · rw [if_pos (.inr (.inr (never_sound hl g3 g2 hq hc hv hn)))]; decide
      · rw [if_pos (.inr (.inl hv))]; decide
    · rw [if_pos (.inl hc)]; decide
  · rw [if_pos hq]; decide
end
end Go.AH.Hone
namespace Go.Proofs.Ytindbippegiopaa
open Go Go.AH Go.AH.Hone
theorem after_zero {l : List Sn} {e : Ed} {ks : List Int} (h : (afterV l e ks).1 = 0) : askE l e e = 0 ∧ ks.length ≤ 800 ∧ (∀ i ∈ natsOf ks, i < l.length) ∧ aftL l e (natsOf ks) = some (afterV l e ks).2 := by
  unfold afterV at *
  by_cases ha : askE l e e = 0
  · rw [if_neg (by omega)] at *
    unfold afterE at *
    by_cases h8 : ks.length > 800
    · rw [if_pos h8] at h; cases h
    · rw [if_neg h8] at *
      by_cases hb : badIx 0 ((l.length : Int) - 1) ks ≥ 0
      · rw [if_pos hb] at h; cases h
      · rw [if_neg hb] at *
        refine ⟨ha, by omega, fun i hi => ?_, ?_⟩
        · obtain ⟨k, hk, rfl⟩ := List.mem_map.1 hi
          obtain ⟨j, hj, rfl⟩ := List.getElem_of_mem hk
          have := after_loop_facts hb hj
          have e1 : gi ks j = ks[j] := by simp [gi, hj]
          omega
        · cases hx : aftL l e (natsOf ks) with
          | none => rw [hx] at h; cases h
          | some x => rfl
  · rw [if_pos ha] at h; exact absurd h ha
theorem after_needs {l : List Sn} {e goal : Ed} {ks : List Int} (ha : askE l e goal = 0) (h : (afterV l e ks).1 = 0) (hk : keen (afterV l e ks).2 goal) : 0 ≤ needsV l goal e ∧ needsV l goal e ≤ ks.length := by
  obtain ⟨g1, g2, g3⟩ := askE_zero ha
  obtain ⟨_, _, hl⟩ := boxE_zero g1
  obtain ⟨_, _, h3, h4⟩ := after_zero h
  have hp := path_of_list (goal := goal) _ _ _ h3 h4 hk
  have := needs_of_path hl g3 _ e g2 hp
  have e1 : (natsOf ks).length = ks.length := by simp [natsOf]
  rwa [e1] at this
end Go.Proofs.Ytindbippegiopaa
namespace Go.Proofs.Ytindbippegiopaa
open Go Go.AH
attribute [local irreducible] WOps WCode WFree retQ thenQ blockQ scopeQ OpOk ACall RetRef roundA roundB
set_option maxRecDepth 100000
set_option maxHeartbeats 1000000
open Go.AH.Hone
theorem ask_goal {l : List Sn} {e goal : Ed} (ha : askE l e goal = 0) : askE l goal goal = 0 := by
  obtain ⟨g1, g2, g3⟩ := askE_zero ha
  unfold askE; rw [if_neg (by omega), if_neg (fun h => h.elim g3 g3)]
theorem ask_small {l : List Sn} {e goal : Ed} (ha : askE l e goal = 0) : 1 ≤ l.length ∧ l.length ≤ 6 := by
  obtain ⟨g1, _, _⟩ := askE_zero ha
  obtain ⟨h1, h2, _⟩ := boxE_zero g1
  exact ⟨h1, h2⟩
theorem honeEither_law (l : List Sn) (e goal : Ed) (ks q : List Int) (c c2 c3 : Nat) (hN : l.length ≤ 9223372036854775807) (hM : ks.length ≤ 9223372036854775807) (hQ : q.length ≤ 9223372036854775807) :
    Ev Try.prog 9 [.slice (some ⟨0, 0, none⟩) l.length c, e.val, goal.val, .slice (some ⟨1, 0, none⟩) ks.length c2, .slice (some ⟨2, 0, none⟩) q.length c3] [.ro (stonesC l), .ro (ints ks), .ro (ints q)] (.bool true) [.ro (stonesC l), .ro (ints ks), .ro (ints q)] := by
  have hfine := fine_ev (σ := [.ro (stonesC l), .ro (ints ks), .ro (ints q), .rw e.cells, .rw goal.cells]) (l := l) (e := e) (goal := goal) (x := 0) (c := c) (.inl rfl) hN rfl
  by_cases ha : askE l e goal = 0
  · by_cases hk : (ks.length : Int) > 800
    · refine acall_intro 3 128 Try.func9 rfl rfl rfl rfl rfl ?_
      repeat' (first | (refine gU ?_; first | (refine gMove ?_; refine st (ok_move rfl) rfl rfl ?_) | (refine gAssign ?_; refine st (ok_assign rfl) rfl rfl ?_) | (refine gLoad ?_; refine st (ok_loadA rfl (by rfl)) rfl rfl ?_) | (refine gPick ?_; first | refine st (ok_pickTA rfl rfl) rfl rfl ?_ | refine st (ok_pickFA rfl rfl) rfl rfl ?_) | (refine gNot ?_; refine st (ok_notD rfl) rfl rfl ?_) | (refine gCall ?_; refine st (ok_call rfl rfl rfl (by first | exact hfine | exact works_ev rfl)) rfl rfl ?_) | (refine gBox ?_; refine st (ok_box rfl) rfl rfl ?_)) | (refine gG ?_; first | (refine gMove ?_; refine stGA rfl (ok_move rfl) rfl rfl ?_) | (refine gBin ?_; refine stGA rfl (ok_bin rfl rfl rfl) rfl rfl ?_) | (refine gLen ?_; refine stGA rfl (ok_len rfl) rfl rfl ?_) | refine stSA rfl rfl ?_) | refine W_seq ?_ | refine W_region ?_ | refine st_nil ?_ | refine tq_n ?_ | refine tq_r ?_ | refine W_ret ?_ | refine W_condTA rfl ?_)
      all_goals exact ret0 (.tmp rfl .nil) (.plain rfl rfl) ⟨rfl, rfl⟩
    · by_cases hq : (q.length : Int) > 10
      · refine acall_intro 3 128 Try.func9 rfl rfl rfl rfl rfl ?_
        repeat' (first | (refine gU ?_; first | (refine gMove ?_; refine st (ok_move rfl) rfl rfl ?_) | (refine gAssign ?_; refine st (ok_assign rfl) rfl rfl ?_) | (refine gLoad ?_; refine st (ok_loadA rfl (by rfl)) rfl rfl ?_) | (refine gPick ?_; refine st (ok_pickFA rfl rfl) rfl rfl ?_) | (refine gNot ?_; refine st (ok_notD rfl) rfl rfl ?_) | (refine gCall ?_; refine st (ok_call rfl rfl rfl (by first | exact hfine | exact works_ev rfl)) rfl rfl ?_) | (refine gBox ?_; refine st (ok_box rfl) rfl rfl ?_)) | (refine gG ?_; first | (refine gMove ?_; refine stGA rfl (ok_move rfl) rfl rfl ?_) | (refine gBin ?_; refine stGA rfl (ok_bin rfl rfl rfl) rfl rfl ?_) | (refine gLen ?_; refine stGA rfl (ok_len rfl) rfl rfl ?_)) | refine W_seq ?_ | refine W_region ?_ | refine st_nil ?_ | refine tq_n ?_ | refine tq_r ?_ | refine W_ret ?_ | refine W_condTA rfl ?_)
        all_goals exact ret0 (.tmp rfl .nil) (.plain rfl rfl) ⟨rfl, rfl⟩
      · obtain ⟨g1, g2, g3⟩ := askE_zero ha
        obtain ⟨hs1, hs2⟩ := ask_small ha
        obtain ⟨_, _, hl⟩ := boxE_zero g1
        have hB := best_ev (σ := [.ro (stonesC l), .ro (ints ks), .ro (ints q), .rw e.cells, .rw goal.cells]) (l := l) (e := e) (goal := goal) (x := 0) (c := c) (.inl rfl) (by omega) rfl
        have hL := fun B => last_ev (σ := [.ro (stonesC l), .ro (ints ks), .ro (ints q), .rw e.cells, .rw goal.cells, .rw (ints B)]) (l := l) (goal := goal) (x := 0) (c := c) (.inl rfl) (by omega) rfl
        replace hL := hL (bestL l e goal)
        have hlL : lastL l goal = rowL (rowN l goal (lastN l goal)) := by unfold lastL; rw [if_neg (by have := ask_goal ha; omega)]
        rw [hlL, ask_goal ha, show (rowL (rowN l goal (lastN l goal))).length = 7 from rfl] at hL
        have hrow := fun B => isRow_ev (σ := [.ro (stonesC l), .ro (ints ks), .ro (ints q), .rw e.cells, .rw goal.cells, .rw (ints B), .rw (ints (rowL (rowN l goal (lastN l goal))))]) (q := rowL (rowN l goal (lastN l goal))) (n := 7) (x := 6) (c := 7) rfl (.inr (.inl rfl)) (by omega) rfl
        replace hrow := hrow (bestL l e goal)
        rw [decide_eq_true (rowL_isRow hl g3 (lastN l goal))] at hrow
        have hn1 := fun B => never_ev (σ := [.ro (stonesC l), .ro (ints ks), .ro (ints q), .rw e.cells, .rw goal.cells, .rw (ints B), .rw (ints (rowL (rowN l goal (lastN l goal))))]) (l := l) (e := e) (goal := goal) (q := rowL (rowN l goal (lastN l goal))) (x := 0) (y := 6) (c := c) (c2 := 7) (.inl rfl) (.inr (.inl rfl)) (by omega) (by simp [rowL]) rfl
        replace hn1 := hn1 (bestL l e goal)
        rw [never_last ha] at hn1
        have hb : 0 ≤ e.b ∧ e.b ≤ 6 := by unfold badEd at g2; omega
        have hin := needs_last hl g3 g2
        unfold inR at hin
        have hc1 : ∀ (B : List Int) (σ : Heap), cellGet ([.ro (stonesC l), .ro (ints ks), .ro (ints q), .rw e.cells, .rw goal.cells, .rw (ints B), .rw (ints (rowL (rowN l goal (lastN l goal))))] ++ σ) 6 (0 + e.b.toNat * 1) = some (.int .i64 (rowN l goal (lastN l goal) e.b.toNat)) := fun B σ => by
          have h1 := ints_get (l := rowL (rowN l goal (lastN l goal))) (i := e.b.toNat) (show e.b.toNat < 7 by omega)
          rw [rowL_gi (show e.b.toNat < 7 by omega)] at h1
          rw [Nat.zero_add, Nat.mul_one]; exact h1
        by_cases hn : 0 ≤ needsV l goal e
        · rw [if_pos hn] at hn1
          have hE : bestE l e goal = 0 := by unfold bestE; rw [if_neg (by omega), if_neg (by omega)]
          rw [hE] at hB
          have hle := hin.2 hn
          have hn2 := fun B => never_ev (σ := [.ro (stonesC l), .ro (ints ks), .ro (ints q), .rw e.cells, .rw goal.cells, .rw (ints B), .rw (ints (rowL (rowN l goal (lastN l goal))))]) (l := l) (e := e) (goal := goal) (q := q) (x := 0) (y := 2) (c := c) (c2 := c3) (.inl rfl) (.inl rfl) (by omega) (by omega) rfl
          replace hn2 := hn2 (bestL l e goal)
          have hne := never_pos ha hn q
          replace hc1 := hc1 (bestL l e goal) []
          generalize neverE l e goal q = f3 at *
          generalize bestL l e goal = B at *
          generalize rowN l goal (lastN l goal) = R at *
          refine acall_intro 3 128 Try.func9 rfl rfl rfl rfl rfl ?_
          repeat' (first | (refine gU ?_; first | (refine gMove ?_; refine st (ok_move rfl) rfl rfl ?_) | (refine gAssign ?_; refine st (ok_assign rfl) rfl rfl ?_) | (refine gLoad ?_; refine st (ok_loadA rfl (by rfl)) rfl rfl ?_) | (refine gBin ?_; refine st (ok_bin rfl rfl rfl) rfl rfl ?_) | (refine gPick ?_; refine st (ok_pickFA rfl rfl) rfl rfl ?_) | (refine gNot ?_; refine st (ok_notD rfl) rfl rfl ?_) | (refine gExtract ?_; refine st (ok_extract rfl rfl) rfl rfl ?_) | (refine gCall ?_; refine st (ok_call rfl rfl rfl (by first | exact hfine | exact hB | exact hL | exact hn1)) rfl rfl ?_) | (refine gBox ?_; refine st (ok_box rfl) rfl rfl ?_)) | (refine gG ?_; first | (refine gMove ?_; refine stGA rfl (ok_move rfl) rfl rfl ?_) | (refine gBin ?_; refine stGA rfl (ok_bin rfl rfl rfl) rfl rfl ?_) | (refine gLen ?_; refine stGA rfl (ok_len rfl) rfl rfl ?_) | (refine gNot ?_; refine stGA rfl (ok_not' rfl) rfl rfl ?_) | (refine gCall ?_; refine stGA rfl (ok_call rfl rfl rfl (by exact hrow)) rfl rfl ?_)) | (refine fU ?_; first | (refine fMove ?_; refine frA (ok_move rfl) rfl ?_) | (refine fAssign ?_; refine frA (ok_assign rfl) rfl ?_) | (refine fBin ?_; refine frA (ok_bin rfl rfl rfl) rfl ?_) | (refine fPick ?_; refine frA (ok_pickTA rfl rfl) rfl ?_)) | (refine fG ?_; first | (refine fMove ?_; refine frGA rfl (ok_move rfl) rfl ?_) | (refine fFA ?_; refine frGA rfl (ok_fieldAddr rfl) rfl ?_) | (refine fLoad ?_; first | refine frGA rfl (ok_load rfl (by first | rfl | exact hc1)) rfl ?_ | refine frGA rfl (ok_loadA rfl (by rfl)) rfl ?_) | (refine fBin ?_; refine frGA rfl (ok_bin rfl rfl rfl) rfl ?_) | (refine fIA ?_; refine frGA rfl (ok_idx rfl rfl (by omega) (by omega)) rfl ?_) | (refine fCall ?_; refine frGA rfl (ok_call rfl rfl rfl (by first | exact works_ev rfl | exact hn2)) rfl ?_)) | (refine fr_stop ⟨by kernel_rfl, ?_⟩) | refine W_seq ?_ | refine W_region ?_ | refine W_regionD (by kernel_rfl) rfl ?_ | refine st_nil ?_ | refine tq_n ?_ | refine tq_r ?_ | refine W_skip ?_ | refine W_ret ?_ | refine W_condTA rfl ?_ | refine W_condFA rfl ?_)
          all_goals exact ret0 (.tmp rfl .nil) (.plain rfl rfl) ⟨rfl, rfl⟩
        · rw [if_neg hn] at hn1
          have hE : bestE l e goal = 13 := by unfold bestE; rw [if_neg (by omega), if_pos (by omega)]
          rw [hE] at hB
          have hle : ¬ e.d ≤ rowN l goal (lastN l goal) e.b.toNat := fun h => hn (hin.1 h)
          have hle' : e.d > rowN l goal (lastN l goal) e.b.toNat := by omega
          have hno := fun h1 h2 => hn (after_needs (ks := ks) ha h1 h2).1
          have hA := fun B => after_ev (σ := [.ro (stonesC l), .ro (ints ks), .ro (ints q), .rw e.cells, .rw goal.cells, .rw (ints B), .rw (ints (rowL (rowN l goal (lastN l goal))))]) (l := l) (e := e) (ks := ks) (x := 0) (y := 1) (c := c) (c2 := c2) (.inl rfl) (.inl rfl) (by omega) (by omega) rfl
          replace hA := hA (bestL l e goal)
          have hn3 := fun B x => refNever_ev (σ := [.ro (stonesC l), .ro (ints ks), .ro (ints q), .rw e.cells, .rw goal.cells, .rw (ints B), .rw (ints (rowL (rowN l goal (lastN l goal)))), .rw (Ed.cells x)]) (l := l) (e := e) (goal := goal) (q := rowL (rowN l goal (lastN l goal))) (x := 0) (y := 6) (c := c) (c2 := 7) (.inl rfl) (.inr (.inl rfl)) (by omega) (by simp [rowL]) rfl
          replace hn3 := hn3 (bestL l e goal) (afterV l e ks).2
          rw [never_last ha, if_neg hn] at hn3
          replace hc1 := hc1 (bestL l e goal)
          generalize bestL l e goal = B at *
          generalize afterV l e ks = r at *
          obtain ⟨f, x⟩ := r
          simp only at hno hn3
          simp only [afterT] at hA
          generalize rowN l goal (lastN l goal) = R at *
          replace hc1 := hc1 [.rw x.cells]
          have hK := keen_ev (σ := [.ro (stonesC l), .ro (ints ks), .ro (ints q), .rw e.cells, .rw goal.cells, .rw (ints B), .rw (ints (rowL R)), .rw x.cells]) (e := x) (goal := goal) rfl
          by_cases hf : f = 0
          · subst hf
            have hkx : ¬ keen x goal := fun h => hno rfl h
            rw [decide_eq_false hkx] at hK
            refine acall_intro 3 128 Try.func9 rfl rfl rfl rfl rfl ?_
            repeat' (first | (refine gU ?_; first | (refine gMove ?_; refine st (ok_move rfl) rfl rfl ?_) | (refine gAssign ?_; refine st (ok_assign rfl) rfl rfl ?_) | (refine gLoad ?_; refine st (ok_loadA rfl (by rfl)) rfl rfl ?_) | (refine gBin ?_; refine st (ok_bin rfl rfl rfl) rfl rfl ?_) | (refine gPick ?_; refine st (ok_pickFA rfl rfl) rfl rfl ?_) | (refine gNot ?_; refine st (ok_notD rfl) rfl rfl ?_) | (refine gExtract ?_; refine st (ok_extract rfl rfl) rfl rfl ?_) | (refine gCall ?_; refine st (ok_call rfl rfl rfl (by first | exact hfine | exact hB | exact hL | exact hn1 | exact hA)) rfl rfl ?_) | (refine gBox ?_; refine st (ok_box rfl) rfl rfl ?_) | (refine gAlloc ?_; refine st (ok_alloc rfl) rfl rfl ?_) | (refine gStore ?_; refine stN (ok_store rfl rfl rfl rfl (by rfl)) rfl ?_)) | (refine gG ?_; first | (refine gMove ?_; refine stGA rfl (ok_move rfl) rfl rfl ?_) | (refine gBin ?_; refine stGA rfl (ok_bin rfl rfl rfl) rfl rfl ?_) | (refine gLen ?_; refine stGA rfl (ok_len rfl) rfl rfl ?_) | (refine gNot ?_; refine stGA rfl (ok_not' rfl) rfl rfl ?_) | (refine gCall ?_; refine stGA rfl (ok_call rfl rfl rfl (by exact hrow)) rfl rfl ?_)) | (refine fU ?_; first | (refine fMove ?_; refine frA (ok_move rfl) rfl ?_) | (refine fAssign ?_; refine frA (ok_assign rfl) rfl ?_) | (refine fBin ?_; refine frA (ok_bin rfl rfl rfl) rfl ?_) | (refine fPick ?_; refine frA (ok_pickTA rfl rfl) rfl ?_)) | (refine fG ?_; first | (refine fMove ?_; refine frGA rfl (ok_move rfl) rfl ?_) | (refine fFA ?_; refine frGA rfl (ok_fieldAddr rfl) rfl ?_) | (refine fLoad ?_; first | refine frGA rfl (ok_load rfl (by first | rfl | exact hc1)) rfl ?_ | refine frGA rfl (ok_loadA rfl (by rfl)) rfl ?_) | (refine fBin ?_; refine frGA rfl (ok_bin rfl rfl rfl) rfl ?_) | (refine fPick ?_; refine frGA rfl (ok_pickFA rfl rfl) rfl ?_) | (refine fNot ?_; refine frGA rfl (ok_not' rfl) rfl ?_) | (refine fIA ?_; refine frGA rfl (ok_idx rfl rfl (by omega) (by omega)) rfl ?_) | (refine fCall ?_; refine frGA rfl (ok_call rfl rfl rfl (by first | exact works_ev rfl | exact hn3 | exact hK)) rfl ?_)) | (refine fr_stop ⟨by kernel_rfl, ?_⟩) | refine W_seq ?_ | refine W_region ?_ | refine W_regionD (by kernel_rfl) rfl ?_ | refine st_nil ?_ | refine tq_n ?_ | refine W_skip ?_ | refine W_ret ?_ | refine W_condFA rfl ?_)
            all_goals exact ret0 (.tmp rfl .nil) (.plain rfl rfl) ⟨rfl, rfl⟩
          · have hf' : f ≠ 0 := hf
            refine acall_intro 3 128 Try.func9 rfl rfl rfl rfl rfl ?_
            repeat' (first | (refine gU ?_; first | (refine gMove ?_; refine st (ok_move rfl) rfl rfl ?_) | (refine gAssign ?_; refine st (ok_assign rfl) rfl rfl ?_) | (refine gLoad ?_; refine st (ok_loadA rfl (by rfl)) rfl rfl ?_) | (refine gBin ?_; refine st (ok_bin rfl rfl rfl) rfl rfl ?_) | (refine gPick ?_; refine st (ok_pickFA rfl rfl) rfl rfl ?_) | (refine gNot ?_; refine st (ok_notD rfl) rfl rfl ?_) | (refine gExtract ?_; refine st (ok_extract rfl rfl) rfl rfl ?_) | (refine gCall ?_; refine st (ok_call rfl rfl rfl (by first | exact hfine | exact hB | exact hL | exact hn1 | exact hA)) rfl rfl ?_) | (refine gBox ?_; refine st (ok_box rfl) rfl rfl ?_) | (refine gAlloc ?_; refine st (ok_alloc rfl) rfl rfl ?_) | (refine gStore ?_; refine stN (ok_store rfl rfl rfl rfl (by rfl)) rfl ?_)) | (refine gG ?_; first | (refine gMove ?_; refine stGA rfl (ok_move rfl) rfl rfl ?_) | (refine gBin ?_; refine stGA rfl (ok_bin rfl rfl rfl) rfl rfl ?_) | (refine gLen ?_; refine stGA rfl (ok_len rfl) rfl rfl ?_) | (refine gNot ?_; refine stGA rfl (ok_not' rfl) rfl rfl ?_) | (refine gCall ?_; refine stGA rfl (ok_call rfl rfl rfl (by exact hrow)) rfl rfl ?_)) | (refine fU ?_; first | (refine fMove ?_; refine frA (ok_move rfl) rfl ?_) | (refine fAssign ?_; refine frA (ok_assign rfl) rfl ?_) | (refine fBin ?_; refine frA (ok_bin rfl rfl rfl) rfl ?_) | (refine fPick ?_; refine frA (ok_pickTA rfl rfl) rfl ?_)) | (refine fG ?_; first | (refine fMove ?_; refine frGA rfl (ok_move rfl) rfl ?_) | (refine fFA ?_; refine frGA rfl (ok_fieldAddr rfl) rfl ?_) | (refine fLoad ?_; first | refine frGA rfl (ok_load rfl (by first | rfl | exact hc1)) rfl ?_ | refine frGA rfl (ok_loadA rfl (by rfl)) rfl ?_) | (refine fBin ?_; refine frGA rfl (ok_bin rfl rfl rfl) rfl ?_) | (refine fPick ?_; refine frGA rfl (ok_pickTA rfl rfl) rfl ?_) | (refine fIA ?_; refine frGA rfl (ok_idx rfl rfl (by omega) (by omega)) rfl ?_) | (refine fCall ?_; refine frGA rfl (ok_call rfl rfl rfl (by first | exact works_ev rfl | exact hn3)) rfl ?_) | refine frSA rfl rfl ?_) | (refine fr_stop ⟨by kernel_rfl, ?_⟩) | refine W_seq ?_ | refine W_region ?_ | refine W_regionD (by kernel_rfl) rfl ?_ | refine st_nil ?_ | refine tq_n ?_ | refine W_skip ?_ | refine W_ret ?_ | refine W_condFA rfl ?_)
            all_goals exact ret0 (.tmp rfl .nil) (.plain rfl rfl) ⟨rfl, rfl⟩
  · refine acall_intro 3 128 Try.func9 rfl rfl rfl rfl rfl ?_
    repeat' (first | (refine gU ?_; first | (refine gMove ?_; refine st (ok_move rfl) rfl rfl ?_) | (refine gAssign ?_; refine st (ok_assign rfl) rfl rfl ?_) | (refine gLoad ?_; refine st (ok_loadA rfl (by rfl)) rfl rfl ?_) | (refine gPick ?_; refine st (ok_pickTA rfl rfl) rfl rfl ?_) | (refine gNot ?_; refine st (ok_notD rfl) rfl rfl ?_) | (refine gCall ?_; refine st (ok_call rfl rfl rfl (by first | exact hfine | exact works_ev rfl)) rfl rfl ?_) | (refine gBox ?_; refine st (ok_box rfl) rfl rfl ?_)) | (refine gG ?_; refine stSA rfl rfl ?_) | refine W_seq ?_ | refine W_region ?_ | refine st_nil ?_ | refine tq_n ?_ | refine tq_r ?_ | refine W_ret ?_ | refine W_condTA rfl ?_)
    all_goals exact ret0 (.tmp rfl .nil) (.plain rfl rfl) ⟨rfl, rfl⟩
end Go.Proofs.Ytindbippegiopaa
