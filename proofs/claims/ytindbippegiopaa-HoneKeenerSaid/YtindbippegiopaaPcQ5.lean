/- More arguments of a law: seven of them. -/
import Derived.Test.YtindbippegiopaaPcQ4
import Derived.Test.YtindbippegiopaaPcMM
import Derived.OpenShut
import Derived.Test.YtindbippegiopaaPcQ2
import Derived.Deep.Slices
namespace Go.Proofs.Ytindbippegiopaa
open Go Go.AH
attribute [local irreducible] WOps WCode WFree retQ thenQ blockQ scopeQ OpOk ACall RetRef roundA roundB
set_option maxRecDepth 100000
set_option maxHeartbeats 1000000
open Go.AH.Hone
theorem ask_goal {l : List Sn} {e goal : Ed} (ha : askE l e goal = 0) : askE l goal goal = 0 := by
  obtain ⟨g1, g2, g3⟩ := askE_zero ha
  unfold askE; rw [if_neg (by omega), if_neg (fun h => h.elim g3 g3)]
theorem ask_edge {l : List Sn} {e goal : Ed} (ha : askE l e goal = 0) : askE l e e = 0 := by
  obtain ⟨g1, g2, g3⟩ := askE_zero ha
  unfold askE; rw [if_neg (by omega), if_neg (fun h => h.elim g2 g2)]
theorem ask_small {l : List Sn} {e goal : Ed} (ha : askE l e goal = 0) : 1 ≤ l.length ∧ l.length ≤ 6 := by
  obtain ⟨g1, _, _⟩ := askE_zero ha
  obtain ⟨h1, h2, _⟩ := boxE_zero g1
  exact ⟨h1, h2⟩
end Go.Proofs.Ytindbippegiopaa
namespace Go.AH
open Go
theorem ok_neqB0 {P : Program} {rd : Option Nat} {ty : TypeId} {e : Env} {σ : Heap} {x y : Operand} {t t' : TypeId} {a b : Bool} (ht : P.underlying t = some .bool) (hx : evalO e x = some (.bool a)) (hy : evalO e y = some (.bool b)) (hab : a = b) : OpOk P rd (.binOp .neq t x y t') ty e σ (.bool false) σ :=
  ok_plain (by simp) rfl fun o ho _ A hA w => by
    have h1 := hA x (by simp [Op.operands]) _ hx rfl
    have h2 := hA y (by simp [Op.operands]) _ hy rfl
    have h3 : (eqGuard .neq t x y (.bool a) (.bool b)).run P w = .ok () w := by unfold eqGuard; split <;> rfl
    have h5 : ∀ d, (Op.equalIn (d + 1) t (.bool a) (.bool b)).run P w = .ok (a == b) w := fun d => by simp [Op.equalIn, underlying, ht]
    have h4 : (Op.equal t (.bool a) (.bool b)).run P w = .ok (a == b) w := h5 9999
    subst hab
    simp [execOp, ho, h1, h2, h3, binOp, h4]
end Go.AH
namespace Go.AH.Hone
open Go Go.AH Go.Proofs.Ytindbippegiopaa
section
variable {l : List Sn} {goal e : Ed}
theorem sumR_ge (hg : ¬ badEd goal) : ∀ m ≤ lastN l goal, sumR (rowN l goal 0) + m ≤ sumR (rowN l goal m)
  | 0, _ => by simp
  | m + 1, hm => by
    have ih := sumR_ge hg m (by omega)
    have := sum_lt (fun b _ => rowN_mono (l := l) (goal := goal) (Nat.le_add_right m 1) b) ((lastN_is (l := l) hg).2.2 m (by omega))
    omega
theorem last706 (hg : ¬ badEd goal) : lastN l goal ≤ 706 := by
  have h := sumR_ge (l := l) hg _ (Nat.le_refl _)
  have hb := fun b => rowN_bounds (l := l) hg (lastN l goal) b
  have h0 := fun b => rowN_bounds (l := l) hg 0 b
  have b0 := hb 0; have b1 := hb 1; have b2 := hb 2; have b3 := hb 3; have b4 := hb 4; have b5 := hb 5; have b6 := hb 6
  have c1 := h0 1; have c2 := h0 2; have c3 := h0 3; have c4 := h0 4; have c5 := h0 5; have c6 := h0 6
  have c0 : 0 ≤ rowN l goal 0 0 := by
    unfold badEd at hg
    simp only [rowN, first]; split <;> omega
  unfold sumR at h
  omega
theorem rowN_last (hl : ∀ i < l.length, ¬ badSn (gs l i)) (hg : ¬ badEd goal) (k : Nat) : ∀ b < 7, rowN l goal k b ≤ rowN l goal (lastN l goal) b := fun b hb => by
  rw [← rowN_min hl hg k b hb]
  exact rowN_mono (Nat.min_le_right _ _) b
theorem natsOf_zs (p : List Nat) : natsOf (zs p) = p := by
  simp only [natsOf, zs, List.map_map]
  conv => rhs; rw [← List.map_id p]
  exact List.map_congr_left fun x _ => by simp
theorem gi_zs {p : List Nat} {i : Nat} (h : i < p.length) : gi (zs p) i = (p[i] : Int) := by simp [gi, zs, h]
theorem after_list {p : List Nat} {x : Ed} (ha : askE l e e = 0) (h8 : p.length ≤ 800) (hp : ∀ i ∈ p, i < l.length) (h : aftL l e p = some x) : afterV l e (zs p) = (0, x) := by
  unfold afterV
  rw [if_neg (by omega)]
  unfold afterE
  rw [if_neg (by rw [zs_len]; omega), if_neg, natsOf_zs, h]
  intro hb
  obtain ⟨i, hi, h1⟩ := badIx_iff.1 hb
  rw [zs_len] at hi
  rw [gi_zs hi] at h1
  have := hp _ (List.getElem_mem hi)
  omega
theorem best_rest (ha : askE l e goal = 0) {m : Nat} (hn : needsV l goal e = (m : Int) + 1) : ∃ (i : Nat) (T : List Int), bestL l e goal = (i : Int) :: T ∧ T.length = m ∧ ¬ badEd (aft (gs l i) e) ∧ afterV l e [(i : Int)] = (0, aft (gs l i) e) ∧ bestE l (aft (gs l i) e) goal = 0 ∧ bestL l (aft (gs l i) e) goal = T := by
  obtain ⟨g1, g2, g3⟩ := askE_zero ha
  obtain ⟨_, _, hl⟩ := boxE_zero g1
  obtain ⟨i, hi, h1, hc, h2, _⟩ := best_pick hl g3 g2 hn
  have hok := aft_ok (hl i hi) g2 hc
  have ha' : askE l (aft (gs l i) e) goal = 0 := by unfold askE; rw [if_neg (by omega), if_neg (fun h => h.elim hok g3)]
  have hE : bestE l (aft (gs l i) e) goal = 0 := by unfold bestE; rw [if_neg (by omega), if_neg (by omega)]
  have hE0 : bestE l e goal = 0 := by unfold bestE; rw [if_neg (by omega), if_neg (by omega)]
  refine ⟨i, zs (bestS l goal m (aft (gs l i) e)), ?_, by rw [zs_len, bestS_len], hok, ?_, hE, ?_⟩
  · unfold bestL
    rw [if_neg (by omega), hn, show ((m : Int) + 1).toNat = m + 1 by omega, bestS, h1]
    rfl
  · have := after_list (p := [i]) (x := aft (gs l i) e) (ask_edge ha) (by simp) (by simpa using hi) (by simp only [aftL, if_pos hc])
    exact this
  · unfold bestL
    rw [if_neg (by omega), h2]; rfl
theorem fw_iff (ha : askE l e goal = 0) {k : Nat} (hk : k < 1000) : inR (rowN l goal k) e ↔ fwV l e goal ≤ k := by
  obtain ⟨g1, g2, g3⟩ := askE_zero ha
  obtain ⟨_, _, hl⟩ := boxE_zero g1
  rw [needsV_iff hl g3 g2]
  unfold fwV
  by_cases hn : needsV l goal e < 0
  · rw [if_pos hn]; omega
  · rw [if_neg hn]; omega
end
end Go.AH.Hone
namespace Go.Proofs.Ytindbippegiopaa
open Go Go.AH
attribute [local irreducible] WOps WCode WFree retQ thenQ blockQ scopeQ OpOk ACall RetRef roundA roundB
set_option maxRecDepth 100000
set_option maxHeartbeats 1000000
open Go.AH.Hone
theorem afterP_ev {σ : Heap} {l : List Sn} {e : Ed} {ks : List Int} {x y o c c2 n : Nat} (hn : ks.length = n) (hx : arrAt σ x (stonesC l)) (hy : prtAt σ (y, o) (ints ks)) (hL : l.length ≤ 1000000) (hN : ks.length ≤ 1000000) (hni : σ.all (fun o => !isIter o) = true) :
    Ev Try.prog 17 [.slice (some ⟨x, 0, none⟩) l.length c, e.val, .slice (some ⟨y, o, none⟩) n c2] σ (afterT (afterV l e ks)) σ := by
  subst hn
  exact Ev.parts [stonesC l, ints ks] [(x, 0), (y, o)] (after_ok l e ks c c2 hL hN) ⟨prtAt_arr hx, hy, trivial⟩ ⟨by simpa [psR] using VQ.slice (q := true) (n := 2) (ρ := psR [(x, 0), (y, o)]) 0 0 l.length c c (Nat.le_refl _) (by omega), vrel_plain _ rfl, by simpa [psR] using VQ.slice (q := true) (n := 2) (ρ := psR [(x, 0), (y, o)]) 1 0 ks.length c2 c2 (Nat.le_refl _) (by omega), trivial⟩ (by simp [stonesC_plain, ints_plain]) rfl hni
theorem row7_ev {σ : Heap} {R : Nat → Int} {x : Nat} (hx : arrAt σ x (ints (rowL R))) (hr : isRowP (rowL R)) (hni : σ.all (fun o => !isIter o) = true) : Ev Try.prog 42 [.slice (some ⟨x, 0, none⟩) 7 7] σ (.bool true) σ := by
  have := isRow_ev (σ := σ) (q := rowL R) (n := 7) (x := x) (c := 7) rfl hx (by omega) hni
  rwa [decide_eq_true hr] at this
theorem far7_ev {σ : Heap} {l : List Sn} {goal : Ed} {k : Int} {R : Nat → Int} {x c : Nat} (hx : arrAt σ x (stonesC l)) (hN : l.length ≤ 1000000) (hE : farE l goal k = 0) (hR : farL l goal k = rowL R) (hni : σ.all (fun o => !isIter o) = true) :
    Ev Try.prog 30 [.slice (some ⟨x, 0, none⟩) l.length c, goal.val, .int .i64 k] σ (.tuple #[.slice (some ⟨σ.length, 0, none⟩) 7 7, .int .i64 0]) (σ ++ [.rw (ints (rowL R))]) := by
  have := far_ev (σ := σ) (l := l) (goal := goal) (k := k) (x := x) (c := c) hx hN hni
  rw [hE, hR] at this; exact this
theorem last7_ev {σ : Heap} {l : List Sn} {goal : Ed} {R : Nat → Int} {x c : Nat} (hx : arrAt σ x (stonesC l)) (hN : l.length ≤ 1000000) (hE : askE l goal goal = 0) (hR : lastL l goal = rowL R) (hni : σ.all (fun o => !isIter o) = true) :
    Ev Try.prog 32 [.slice (some ⟨x, 0, none⟩) l.length c, goal.val] σ (.tuple #[.slice (some ⟨σ.length, 0, none⟩) 7 7, .int .i64 0]) (σ ++ [.rw (ints (rowL R))]) := by
  have := last_ev (σ := σ) (l := l) (goal := goal) (x := x) (c := c) hx hN hni
  rw [hE, hR] at this; exact this
theorem honeParts_law (l : List Sn) (e goal : Ed) (k : Int) (c : Nat) (hN : l.length ≤ 9223372036854775807) (hk : 0 ≤ k ∧ k ≤ 255) :
    Ev Try.prog 11 [.slice (some ⟨0, 0, none⟩) l.length c, e.val, goal.val, .int .u8 k] [.ro (stonesC l)] (.bool true) [.ro (stonesC l)] := by
  have hfine := fine_ev (σ := [.ro (stonesC l), .rw e.cells, .rw goal.cells]) (l := l) (e := e) (goal := goal) (x := 0) (c := c) (.inl rfl) hN rfl
  by_cases ha : askE l e goal = 0
  · obtain ⟨g1, g2, g3⟩ := askE_zero ha
    obtain ⟨hs1, hs2⟩ := ask_small ha
    obtain ⟨_, _, hl⟩ := boxE_zero g1
    have hgg := ask_goal ha
    have eL : lastL l goal = rowL (rowN l goal (lastN l goal)) := by unfold lastL; rw [if_neg (by omega)]
    have z0 : farE l goal k = 0 := by unfold farE; rw [if_neg (by omega), if_neg (by omega)]
    have z1 : farE l goal (k + 1) = 0 := by unfold farE; rw [if_neg (by omega), if_neg (by omega)]
    have z2 : farE l goal 706 = 0 := by unfold farE; rw [if_neg (by omega), if_neg (by omega)]
    have e0 : farL l goal k = rowL (rowN l goal k.toNat) := by unfold farL; rw [if_neg (by omega)]
    have e1 : farL l goal (k + 1) = rowL (rowN l goal (k.toNat + 1)) := by unfold farL; rw [if_neg (by omega), show (k + 1).toNat = k.toNat + 1 by omega]
    have e2 : farL l goal 706 = rowL (rowN l goal (lastN l goal)) := by
      unfold farL; rw [if_neg (by omega)]
      have := rowN_min hl g3 706
      rw [Nat.min_eq_right (last706 g3)] at this
      exact (rowL_congr this).symm
    have i0 := rowL_isRow hl g3 k.toNat
    have i1 := rowL_isRow hl g3 (k.toNat + 1)
    have i2 := rowL_isRow hl g3 (lastN l goal)
    have m1 : ∀ b < 7, rowN l goal k.toNat b ≤ rowN l goal (k.toNat + 1) b := fun b _ => rowN_mono (Nat.le_add_right _ 1) b
    have m2 := rowN_last hl g3 (k.toNat + 1)
    have hfwi := fw_iff ha (k := k.toNat) (by omega)
    rw [show ((k.toNat : Nat) : Int) = k by omega] at hfwi
    have hfw := fun R0 R1 RL => fewest44_ev (σ := [.ro (stonesC l), .rw e.cells, .rw goal.cells, .rw (ints (rowL R0)), .rw (ints (rowL R1)), .rw (ints (rowL RL)), .rw (ints (rowL RL))]) (l := l) (e := e) (goal := goal) (x := 0) (c := c) (.inl rfl) (by omega) ha rfl
    have hb : 0 ≤ e.b ∧ e.b ≤ 6 := by unfold badEd at g2; omega
    unfold inR at hfwi
    have hfwn : needsV l goal e ≤ 0 ∨ 1 ≤ needsV l goal e := by omega
    generalize hRd : rowN l goal k.toNat = R0 at *
    generalize hRd1 : rowN l goal (k.toNat + 1) = R1 at *
    generalize hRdL : rowN l goal (lastN l goal) = RL at *
    replace hfw := hfw R0 R1 RL
    have hF0 := far7_ev (σ := [.ro (stonesC l), .rw e.cells, .rw goal.cells]) (l := l) (goal := goal) (k := k) (R := R0) (x := 0) (c := c) (.inl rfl) (by omega) z0 e0 rfl
    have hF1 := far7_ev (σ := [.ro (stonesC l), .rw e.cells, .rw goal.cells, .rw (ints (rowL R0))]) (l := l) (goal := goal) (k := k + 1) (R := R1) (x := 0) (c := c) (.inl rfl) (by omega) z1 e1 rfl
    have hF2 := far7_ev (σ := [.ro (stonesC l), .rw e.cells, .rw goal.cells, .rw (ints (rowL R0)), .rw (ints (rowL R1))]) (l := l) (goal := goal) (k := 706) (R := RL) (x := 0) (c := c) (.inl rfl) (by omega) z2 e2 rfl
    have hL := last7_ev (σ := [.ro (stonesC l), .rw e.cells, .rw goal.cells, .rw (ints (rowL R0)), .rw (ints (rowL R1)), .rw (ints (rowL RL))]) (l := l) (goal := goal) (R := RL) (x := 0) (c := c) (.inl rfl) (by omega) hgg eL rfl
    have hi := ints_ev (σ := [.ro (stonesC l), .rw e.cells, .rw goal.cells, .rw (ints (rowL R0)), .rw (ints (rowL R1)), .rw (ints (rowL RL)), .rw (ints (rowL RL))]) (q := rowL RL) (n := 7) (x := 5) (y := 6) (c := 7) (c2 := 7) rfl (.inr (.inl rfl)) (.inr (.inl rfl)) (by omega) rfl
    have hr0 := row7_ev (σ := [.ro (stonesC l), .rw e.cells, .rw goal.cells, .rw (ints (rowL R0)), .rw (ints (rowL R1)), .rw (ints (rowL RL)), .rw (ints (rowL RL))]) (R := R0) (x := 3) (.inr (.inl rfl)) i0 rfl
    have hr1 := row7_ev (σ := [.ro (stonesC l), .rw e.cells, .rw goal.cells, .rw (ints (rowL R0)), .rw (ints (rowL R1)), .rw (ints (rowL RL)), .rw (ints (rowL RL))]) (R := R1) (x := 4) (.inr (.inl rfl)) i1 rfl
    have hr2 := row7_ev (σ := [.ro (stonesC l), .rw e.cells, .rw goal.cells, .rw (ints (rowL R0)), .rw (ints (rowL R1)), .rw (ints (rowL RL)), .rw (ints (rowL RL))]) (R := RL) (x := 6) (.inr (.inl rfl)) i2 rfl
    refine acall_intro 1 190 Try.func11 rfl rfl rfl rfl rfl ?_
    repeat' (first | (refine gU ?_; first | (refine gMove ?_; refine st (ok_move rfl) rfl rfl ?_) | (refine gAssign ?_; refine st (ok_assign rfl) rfl rfl ?_) | (refine gLoad ?_; refine st (ok_loadA rfl (by rfl)) rfl rfl ?_) | (refine gAdd ?_; refine st (ok_add rfl rfl (by omega) (by omega)) rfl rfl ?_) | (refine gBin ?_; refine st (ok_bin rfl rfl rfl) rfl rfl ?_) | (refine gPick ?_; refine st (ok_pickFA rfl rfl) rfl rfl ?_) | (refine gNot ?_; refine st (ok_notD rfl) rfl rfl ?_) | (refine gExtract ?_; refine st (ok_extract rfl rfl) rfl rfl ?_) | (refine gConv ?_; refine st (ok_convK rfl (by omega) (by omega)) rfl rfl ?_) | (refine gCall ?_; refine st (ok_call rfl rfl rfl (by first | exact hfine | exact hF0 | exact hF1 | exact hF2 | exact hL | exact hfw)) rfl rfl ?_) | (refine gBox ?_; refine st (ok_box rfl) rfl rfl ?_)) | (refine gG ?_; first | (refine gMove ?_; refine stGA rfl (ok_move rfl) rfl rfl ?_) | (refine gBin ?_; refine stGA rfl (ok_bin rfl rfl rfl) rfl rfl ?_) | (refine gNot ?_; refine stGA rfl (ok_not' rfl) rfl rfl ?_) | (refine gCall ?_; refine stGA rfl (ok_call rfl rfl rfl (by first | exact hi | exact hr0 | exact hr1 | exact hr2)) rfl rfl ?_)) | refine W_seq ?_ | refine W_region ?_ | refine st_nil ?_ | refine tq_n ?_ | refine W_skip ?_ | refine W_block ?_ | refine W_condFA rfl ?_)
    refine W_loopS (ι := Nat) (fun i => [(0, .slice (some ⟨0, 0, none⟩) l.length c), (5, .pointer (some ⟨1, 0, none⟩)), (6, .pointer (some ⟨2, 0, none⟩)), (9, .int .i64 k), (10, .slice (some ⟨3, 0, none⟩) 7 7), (12, .slice (some ⟨4, 0, none⟩) 7 7), (16, .slice (some ⟨6, 0, none⟩) 7 7), (18, .int .i64 (fwV l e goal)), (20, .int .i64 (i : Int))])
      (fun _ => [.ro (stonesC l), .rw e.cells, .rw goal.cells, .rw (ints (rowL R0)), .rw (ints (rowL R1)), .rw (ints (rowL RL)), .rw (ints (rowL RL))]) (fun i => 7 - i) (fun i => i ≤ 7) 0 (by simp) (.same ⟨rfl, rfl, rfl, rfl, rfl, rfl, rfl, rfl, rfl, trivial⟩) (by omega) ?_
    clear hF0 hF1 hF2 hL hi hr0 hr1 hr2 hfw
    rintro i hi
    by_cases hi7 : i < 7
    · have hc1 : cellGet [.ro (stonesC l), .rw e.cells, .rw goal.cells, .rw (ints (rowL R0)), .rw (ints (rowL R1)), .rw (ints (rowL RL)), .rw (ints (rowL RL))] 3 i = some (.int .i64 (R0 i)) := by
        have := ints_get (l := rowL R0) (i := i) hi7
        rw [rowL_gi hi7] at this; exact this
      have hc2 : cellGet [.ro (stonesC l), .rw e.cells, .rw goal.cells, .rw (ints (rowL R0)), .rw (ints (rowL R1)), .rw (ints (rowL RL)), .rw (ints (rowL RL))] 4 i = some (.int .i64 (R1 i)) := by
        have := ints_get (l := rowL R1) (i := i) hi7
        rw [rowL_gi hi7] at this; exact this
      have hc3 : cellGet [.ro (stonesC l), .rw e.cells, .rw goal.cells, .rw (ints (rowL R0)), .rw (ints (rowL R1)), .rw (ints (rowL RL)), .rw (ints (rowL RL))] 6 i = some (.int .i64 (RL i)) := by
        have := ints_get (l := rowL RL) (i := i) hi7
        rw [rowL_gi hi7] at this; exact this
      have q1 := m1 i hi7
      have q2 := m2 i hi7
      repeat' (first | (refine gU ?_; first | (refine gMove ?_; refine st (ok_move rfl) rfl rfl ?_) | (refine gAssign ?_; refine st (ok_assign rfl) rfl rfl ?_) | (refine gAdd ?_; refine st (ok_inc rfl rfl (by omega)) rfl rfl ?_) | (refine gBin ?_; refine st (ok_bin rfl rfl rfl) rfl rfl ?_)) | (refine fU ?_; first | (refine fMove ?_; refine frA (ok_move rfl) rfl ?_) | (refine fLoad ?_; refine frA (ok_load rfl (by first | exact hc1 | exact hc2)) rfl ?_) | (refine fBin ?_; refine frA (ok_bin rfl rfl rfl) rfl ?_) | (refine fPick ?_; refine frA (ok_pickFA rfl rfl) rfl ?_) | (refine fIA ?_; refine frA (ok_idxN rfl rfl (by omega)) rfl ?_)) | (refine fG ?_; first | (refine fMove ?_; refine frGA rfl (ok_move rfl) rfl ?_) | (refine fLoad ?_; refine frGA rfl (ok_load rfl (by first | exact hc2 | exact hc3)) rfl ?_) | (refine fBin ?_; refine frGA rfl (ok_bin rfl rfl rfl) rfl ?_) | (refine fIA ?_; refine frGA rfl (ok_idxN rfl rfl (by omega)) rfl ?_)) | (refine fr_stop ⟨by kernel_rfl, ?_⟩) | refine W_seq ?_ | refine W_region ?_ | refine W_regionD (by kernel_rfl) rfl ?_ | refine st_nil ?_ | refine tq_n ?_ | refine bq_n ?_ | refine W_skip ?_ | refine W_block ?_ | refine W_condTA rfl ?_ | refine W_condFA rfl ?_)
      exact ⟨rfl, i + 1, by omega, by omega, .same ⟨rfl, rfl, rfl, rfl, rfl, rfl, rfl, rfl, rfl, trivial⟩⟩
    · obtain rfl : i = 7 := by omega
      have hc1 : cellGet [.ro (stonesC l), .rw e.cells, .rw goal.cells, .rw (ints (rowL R0)), .rw (ints (rowL R1)), .rw (ints (rowL RL)), .rw (ints (rowL RL))] 3 (0 + e.b.toNat * 1) = some (.int .i64 (R0 e.b.toNat)) := by
        have h1 := ints_get (l := rowL R0) (i := e.b.toNat) (show e.b.toNat < 7 by omega)
        rw [rowL_gi (show e.b.toNat < 7 by omega)] at h1
        rw [Nat.zero_add, Nat.mul_one]; exact h1
      have hneq : decide (e.d ≤ R0 e.b.toNat) = decide (fwV l e goal ≤ k) := decide_eq_decide.2 hfwi
      have hB := best_ev (σ := [.ro (stonesC l), .rw e.cells, .rw goal.cells, .rw (ints (rowL R0)), .rw (ints (rowL R1)), .rw (ints (rowL RL)), .rw (ints (rowL RL))]) (l := l) (e := e) (goal := goal) (x := 0) (c := c) (.inl rfl) (by omega) rfl
      by_cases hn : needsV l goal e < 0
      · have hE : bestE l e goal = 13 := by unfold bestE; rw [if_neg (by omega), if_pos hn]
        rw [hE] at hB
        generalize bestL l e goal = B at *
        repeat' (first | (refine gU ?_; first | refine st (ok_neqB0 Try.underlying4 rfl rfl hneq) rfl rfl ?_ | (refine gMove ?_; refine st (ok_move rfl) rfl rfl ?_) | (refine gAssign ?_; refine st (ok_assign rfl) rfl rfl ?_) | (refine gLoad ?_; refine st (ok_loadA rfl (by rfl)) rfl rfl ?_) | (refine gBin ?_; refine st (ok_bin rfl rfl rfl) rfl rfl ?_) | (refine gPick ?_; refine st (ok_pickTA rfl rfl) rfl rfl ?_) | (refine gExtract ?_; refine st (ok_extract rfl rfl) rfl rfl ?_) | (refine gCall ?_; refine st (ok_call rfl rfl rfl (by first | exact works_ev rfl | exact hB)) rfl rfl ?_)) | (refine gG ?_; refine stSA rfl rfl ?_) | (refine fU ?_; first | (refine fMove ?_; refine frA (ok_move rfl) rfl ?_) | (refine fFA ?_; refine frA (ok_fieldAddr rfl) rfl ?_) | (refine fLoad ?_; refine frA (ok_load rfl (by first | rfl | exact hc1)) rfl ?_) | (refine fBin ?_; refine frA (ok_bin rfl rfl rfl) rfl ?_) | (refine fIA ?_; refine frA (ok_idx rfl rfl (by omega) (by omega)) rfl ?_)) | (refine fr_stop ⟨by kernel_rfl, ?_⟩) | refine W_seq ?_ | refine W_region ?_ | refine W_regionD (by kernel_rfl) rfl ?_ | refine st_nil ?_ | refine tq_n ?_ | refine tq_r ?_ | refine tq_e ?_ | refine bq_hit rfl ?_ | refine W_skip ?_ | refine W_exit ?_ | refine W_ret ?_ | refine W_condTA rfl ?_ | refine W_condFA rfl ?_)
        all_goals exact ret0 (.tmp rfl .nil) (.plain rfl rfl) ⟨rfl, rfl⟩
      · have hE : bestE l e goal = 0 := by unfold bestE; rw [if_neg (by omega), if_neg hn]
        rw [hE] at hB
        by_cases hn0 : needsV l goal e = 0
        · have hlen : bestL l e goal = [] := List.eq_nil_of_length_eq_zero (by rw [bestL_len hE, hn0]; rfl)
          rw [hlen] at hB
          repeat' (first | (refine gU ?_; first | refine st (ok_neqB0 Try.underlying4 rfl rfl hneq) rfl rfl ?_ | (refine gMove ?_; refine st (ok_move rfl) rfl rfl ?_) | (refine gAssign ?_; refine st (ok_assign rfl) rfl rfl ?_) | (refine gLoad ?_; refine st (ok_loadA rfl (by rfl)) rfl rfl ?_) | (refine gBin ?_; refine st (ok_bin rfl rfl rfl) rfl rfl ?_) | (refine gPick ?_; refine st (ok_pickFA rfl rfl) rfl rfl ?_) | (refine gExtract ?_; refine st (ok_extract rfl rfl) rfl rfl ?_) | (refine gCall ?_; refine st (ok_call rfl rfl rfl (by first | exact works_ev rfl | exact hB)) rfl rfl ?_)) | (refine gG ?_; first | (refine gMove ?_; refine stGA rfl (ok_move rfl) rfl rfl ?_) | (refine gBin ?_; refine stGA rfl (ok_bin rfl rfl rfl) rfl rfl ?_) | (refine gLen ?_; refine stGA rfl (ok_len rfl) rfl rfl ?_)) | (refine fU ?_; first | (refine fMove ?_; refine frA (ok_move rfl) rfl ?_) | (refine fFA ?_; refine frA (ok_fieldAddr rfl) rfl ?_) | (refine fLoad ?_; refine frA (ok_load rfl (by first | rfl | exact hc1)) rfl ?_) | (refine fBin ?_; refine frA (ok_bin rfl rfl rfl) rfl ?_) | (refine fIA ?_; refine frA (ok_idx rfl rfl (by omega) (by omega)) rfl ?_)) | (refine fr_stop ⟨by kernel_rfl, ?_⟩) | refine W_seq ?_ | refine W_region ?_ | refine W_regionD (by kernel_rfl) rfl ?_ | refine st_nil ?_ | refine tq_n ?_ | refine tq_r ?_ | refine tq_e ?_ | refine bq_hit rfl ?_ | refine W_skip ?_ | refine W_exit ?_ | refine W_ret ?_ | refine W_condTA rfl ?_ | refine W_condFA rfl ?_)
          all_goals exact ret0 (.tmp rfl .nil) (.plain rfl rfl) ⟨rfl, rfl⟩
        · obtain ⟨j, T, b1, b2, b3, b4, b5, b6⟩ := best_rest ha (m := (needsV l goal e).toNat - 1) (by omega)
          have hTl : T.length ≤ 200000 := by have := bestL_le l e goal; rw [b1] at this; simp at this; omega
          rw [b1, show ((j : Int) :: T).length = T.length + 1 from rfl] at hB
          generalize aft (gs l j) e = x at *
          have hA := afterP_ev (σ := [.ro (stonesC l), .rw e.cells, .rw goal.cells, .rw (ints (rowL R0)), .rw (ints (rowL R1)), .rw (ints (rowL RL)), .rw (ints (rowL RL)), .rw (ints ((j : Int) :: T))]) (l := l) (e := e) (ks := [(j : Int)]) (x := 0) (y := 7) (o := 0) (c := c) (n := 1) (c2 := T.length + 1) rfl (.inl rfl) ⟨_, .inr (.inl rfl), rfl, by simp [ints]⟩ (by omega) (by simp) rfl
          rw [b4] at hA
          simp only [afterT] at hA
          have hE2 := refEdge_ev (σ := [.ro (stonesC l), .rw e.cells, .rw goal.cells, .rw (ints (rowL R0)), .rw (ints (rowL R1)), .rw (ints (rowL RL)), .rw (ints (rowL RL)), .rw (ints ((j : Int) :: T)), .rw x.cells]) (e := x) rfl
          rw [decide_eq_true b3] at hE2
          have hB2 := best_ev (σ := [.ro (stonesC l), .rw e.cells, .rw goal.cells, .rw (ints (rowL R0)), .rw (ints (rowL R1)), .rw (ints (rowL RL)), .rw (ints (rowL RL)), .rw (ints ((j : Int) :: T)), .rw x.cells]) (l := l) (e := x) (goal := goal) (x := 0) (c := c) (.inl rfl) (by omega) rfl
          rw [b5, b6] at hB2
          have hi2 := intsP_ev (σ := [.ro (stonesC l), .rw e.cells, .rw goal.cells, .rw (ints (rowL R0)), .rw (ints (rowL R1)), .rw (ints (rowL RL)), .rw (ints (rowL RL)), .rw (ints ((j : Int) :: T)), .rw x.cells, .rw (ints T)]) (q := T) (n := T.length) (x := 9) (y := 7) (o := 0) (o2 := 1) (c := T.length) (c2 := T.length) rfl (prtAt_arr (.inr (.inl rfl))) ⟨_, .inr (.inl rfl), (by simp only [ints, List.map_cons, List.drop_succ_cons, List.drop_zero]; exact List.take_of_length_le (by simp)), (by simp [ints]; omega)⟩ hTl rfl
          repeat' (first | (refine gU ?_; first | refine st (ok_neqB0 Try.underlying4 rfl rfl hneq) rfl rfl ?_ | (refine gMove ?_; refine st (ok_move rfl) rfl rfl ?_) | (refine gAssign ?_; refine st (ok_assign rfl) rfl rfl ?_) | (refine gLoad ?_; refine st (ok_loadA rfl (by rfl)) rfl rfl ?_) | (refine gBin ?_; refine st (ok_bin rfl rfl rfl) rfl rfl ?_) | (refine gPick ?_; first | refine st (ok_pickTA rfl rfl) rfl rfl ?_ | refine st (ok_pickFA rfl rfl) rfl rfl ?_) | (refine gExtract ?_; refine st (ok_extract rfl rfl) rfl rfl ?_) | (refine gCall ?_; refine st (ok_call rfl rfl rfl (by first | exact hB | exact hB2)) rfl rfl ?_) | (refine gStore ?_; refine stN (ok_store rfl rfl rfl rfl (by rfl)) rfl ?_)) | (refine gG ?_; first | refine stGA rfl (ok_sliceL (l := 1) rfl rfl (by omega) (by omega)) rfl rfl ?_ | (refine gMove ?_; refine stGA rfl (ok_move rfl) rfl rfl ?_) | (refine gLoad ?_; refine stGA rfl (ok_loadA rfl (by rfl)) rfl rfl ?_) | (refine gBin ?_; refine stGA rfl (ok_bin rfl rfl rfl) rfl rfl ?_) | (refine gLen ?_; refine stGA rfl (ok_len rfl) rfl rfl ?_) | (refine gNot ?_; refine stGA rfl (ok_not' rfl) rfl rfl ?_) | (refine gCall ?_; refine stGA rfl (ok_call rfl rfl rfl (by first | exact works_ev rfl | exact hE2 | exact hi2)) rfl rfl ?_)) | (refine fU ?_; first | refine fr (ok_sliceH (h := 1) rfl rfl (by omega)) (by rfl) rfl ?_ | (refine fMove ?_; refine frA (ok_move rfl) rfl ?_) | (refine fFA ?_; refine frA (ok_fieldAddr rfl) rfl ?_) | (refine fLoad ?_; first | refine frA (ok_load rfl (by first | rfl | exact hc1)) rfl ?_ | refine frA (ok_loadA rfl (by rfl)) rfl ?_) | (refine fBin ?_; refine frA (ok_bin rfl rfl rfl) rfl ?_) | (refine fExtract ?_; refine frA (ok_extract rfl rfl) rfl ?_) | (refine fIA ?_; refine frA (ok_idx rfl rfl (by omega) (by omega)) rfl ?_) | (refine fCall ?_; refine frA (ok_call rfl rfl rfl (by exact hA)) rfl ?_) | (refine fAlloc ?_; refine fr1 (ok_alloc rfl) rfl rfl rfl ?_)) | (refine fr_stop ⟨by kernel_rfl, ?_⟩) | refine W_seq ?_ | refine W_region ?_ | refine Late.W_regionE 7 164 (id := 21) (by kernel_rfl) rfl ?_ | refine W_regionD (by kernel_rfl) rfl ?_ | refine Late.split ?_ rfl rfl rfl rfl ?_ | refine st_nil ?_ | refine tq_n ?_ | refine tq_e ?_ | refine bq_hit rfl ?_ | refine W_skip ?_ | refine W_exit ?_ | refine W_ret ?_ | refine W_condFA rfl ?_)
          all_goals exact ret0 (.tmp rfl .nil) (.plain rfl rfl) ⟨rfl, rfl⟩
  · refine acall_intro 1 190 Try.func11 rfl rfl rfl rfl rfl ?_
    repeat' (first | (refine gU ?_; first | (refine gMove ?_; refine st (ok_move rfl) rfl rfl ?_) | (refine gAssign ?_; refine st (ok_assign rfl) rfl rfl ?_) | (refine gLoad ?_; refine st (ok_loadA rfl (by rfl)) rfl rfl ?_) | (refine gNot ?_; refine st (ok_notD rfl) rfl rfl ?_) | (refine gCall ?_; refine st (ok_call rfl rfl rfl (by first | exact hfine | exact works_ev rfl)) rfl rfl ?_) | (refine gBox ?_; refine st (ok_box rfl) rfl rfl ?_)) | refine W_seq ?_ | refine W_region ?_ | refine st_nil ?_ | refine tq_n ?_ | refine tq_r ?_ | refine W_ret ?_ | refine W_condTA rfl ?_)
    all_goals exact ret0 (.tmp rfl .nil) (.plain rfl rfl) ⟨rfl, rfl⟩
end Go.Proofs.Ytindbippegiopaa
namespace Go.AH
open Go Go.RowKit Go.WideShapes Go.ChangeShapes
section
variable {H : Type} {enc : TypeId × Value → H} {P : Program} {W : World}
theorem wf64 {n : Int} (h : (Lit.int .i64 n).wf = true) : -9223372036854775808 ≤ n ∧ n ≤ 9223372036854775807 := by
  simp only [Lit.wf, Bool.and_eq_true, decide_eq_true_eq] at h
  exact h
def cellsI (l : List Int) : List Value := l.map (.int .i64)
structure SlArg (W : World) (v : Value) (n size : Nat) (cs : List Value) (pl : Pl) : Prop where
  len : n ≤ 9223372036854775807
  rel : ∀ (m : Nat) (ρ : Rho) (i : Nat), i < m → ρ i = pl → VRel m ρ (.slice (some ⟨i, 0, none⟩) n n) v
  sz : cs.length = n * size
  cells : cs ≠ [] → pl.b < W.heap.size ∧ ∀ (k : Nat) (h : k < cs.length), W.cell? ⟨pl.b, pl.o + k, none⟩ = some cs[k]
theorem cell_lt {w : World} {a : Addr} {v : Value} (h : w.cell? a = some v) : a.block < w.heap.size ∧ a.spot = none := by
  unfold World.cell? at h
  split at h
  · rename_i hb
    refine ⟨(Array.getElem?_eq_some_iff.1 hb).1, ?_⟩
    split at h
    · cases h
    · rename_i hs; simpa using hs
  · cases h
theorem read_ints {b0 : Nat} {t e : TypeId} {v : Value} {d : DataW H} {p : List MemPlace} (ht : P.underlying t = some (.slice e)) (he : P.underlying e = some (.int .i64)) (hc : P.cellsOf e = 1) (hval : Value.okWide P W .any b0 t v)
    (h : DataW.Trod enc P W 0 (fun _ => true) true t v d p) : ∃ (l : List Int) (pl : Pl), SlArg W v l.length 1 (cellsI l) pl ∧ ∀ n ∈ l, -9223372036854775808 ≤ n ∧ n ≤ 9223372036854775807 := by
  obtain ⟨a0, len, cap, rfl⟩ := okWide_slice ht hval
  obtain ⟨fuel, hf⟩ := h
  rcases open_ints ht he hc hf with ⟨hcs, -⟩ | ⟨a, len', cap', zs, hcs, -, hl, hm, hz, -, hcell, hwf⟩
  · have hcs' : Value.slice a0 len cap = Value.slice none 0 0 := by simpa [Value.cells] using hcs
    cases hcs'
    exact ⟨[], ⟨0, 0, 0⟩, ⟨by simp, fun m ρ i hi hρ => .emptySlice _ _ _ _, rfl, fun h => absurd rfl h⟩, fun n hn => by simp at hn⟩
  · have hcs' : Value.slice a0 len cap = Value.slice (some a) len' cap' := by simpa [Value.cells] using hcs
    cases hcs'
    simp only [if_true] at hz
    have hlz : (zs.take len).length = len := by rw [List.length_take]; omega
    have hm' : len ≤ 9223372036854775807 := by unfold maxLen at hm; omega
    by_cases h0 : len = 0
    · subst h0
      exact ⟨[], ⟨0, 0, 0⟩, ⟨by simp, fun m ρ i hi hρ => .emptySlice _ _ _ _, rfl, fun h => absurd rfl h⟩, fun n hn => by simp at hn⟩
    · have h1 := hcell 0 (by omega)
      have ha : a.add 0 = a := by simp [Addr.add]
      rw [ha] at h1
      obtain ⟨hb, hs⟩ := cell_lt h1
      obtain ⟨b, o, sp⟩ := a
      simp only at hb hs
      subst hs
      refine ⟨zs.take len, ⟨b, o, 0⟩, ⟨by omega, fun m ρ i hi hρ => ?_, by simp [cellsI], fun _ => ⟨hb, fun k hk => ?_⟩⟩, fun n hn => wf64 (hwf n (List.mem_of_mem_take hn))⟩
      · rw [hlz]
        have := VQ.slice (q := false) (n := m) (ρ := ρ) i 0 len len cap hl hi
        rw [hρ] at this
        simpa using this
      · have hk' : k < len := by
          simp only [cellsI, List.length_map] at hk
          omega
        have h2 := hcell k (by omega)
        have hk2 : zs.getD k 0 = (zs.take len)[k]'(by omega) := by
          rw [List.getElem_take, List.getD_eq_getElem?_getD, List.getElem?_eq_getElem (by omega)]; rfl
        have ha2 : (⟨b, o, none⟩ : Addr).add k = ⟨b, o + k, none⟩ := by
          unfold Addr.add
          split
          · rename_i h; subst h; rfl
          · rfl
        rw [ha2, hk2] at h2
        simpa [cellsI] using h2
theorem SlArg.hro {v : Value} {n size : Nat} {cs : List Value} {pl : Pl} (h : SlArg W v n size cs pl) (hp : plainL cs = true) (ρ : Rho) (i m : Nat) (hρ : ρ i = pl) (hne : cs ≠ []) :
    (ρ i).b < W.heap.size ∧ ∀ (k : Nat) (hk : k < cs.length), ∃ v', W.cell? ⟨(ρ i).b, (ρ i).o + k, none⟩ = some v' ∧ VRel m ρ cs[k] v' := by
  rw [hρ]
  obtain ⟨h1, h2⟩ := h.cells hne
  exact ⟨h1, fun k hk => ⟨_, h2 k hk, vrel_plainL cs hp k hk⟩⟩
end
end Go.AH
namespace Go.AH
open Go Go.RowKit Go.WideShapes Go.ChangeShapes
section
variable {H : Type} {enc : TypeId × Value → H} {P : Program} {w : World} {base : Nat} {spare : Nat → Bool} {held : Bool}
theorem trodAll_n4 {t t' t'' t3 : TypeId} {args : Array Value} {ds : List (DataW H)} {ps : List MemPlace} (h : DataW.TrodAll enc P w base spare held [t, t', t'', t3] args.toList ds ps) :
    ∃ v v' v'' v3 d d' d'' d3 p p' p'' p3, args = #[v, v', v'', v3] ∧ ds = [d, d', d'', d3] ∧ ps = p ++ p' ++ p'' ++ p3 ∧ DataW.Trod enc P w base spare held t v d p ∧ DataW.Trod enc P w base spare held t' v' d' p' ∧ DataW.Trod enc P w base spare held t'' v'' d'' p'' ∧ DataW.Trod enc P w base spare held t3 v3 d3 p3 := by
  obtain ⟨v, vs, d, ds', p, q, hargs, rfl, rfl, hd, hrest⟩ := trodAll_cons h
  obtain ⟨v', vs', d', ds'', p', q', rfl, rfl, rfl, hd', hrest'⟩ := trodAll_cons hrest
  obtain ⟨v'', vs'', d'', ds''', p'', q'', rfl, rfl, rfl, hd'', hrest''⟩ := trodAll_cons hrest'
  obtain ⟨v3, vs3, d3, ds3, p3, q3, rfl, rfl, rfl, hd3, hrest3⟩ := trodAll_cons hrest''
  obtain ⟨rfl, rfl, rfl⟩ := trodAll_nil hrest3
  exact ⟨v, v', v'', v3, d, d', d'', d3, p, p', p'', p3, by cases args; simp_all, rfl, by simp, hd, hd', hd'', hd3⟩
theorem trodAll_mkn4 {t t' t'' t3 : TypeId} {v v' v'' v3 : Value} {d d' d'' d3 : DataW H} {p p' p'' p3 : List MemPlace} (h : DataW.Trod enc P w base spare held t v d p) (h' : DataW.Trod enc P w base spare held t' v' d' p')
    (h'' : DataW.Trod enc P w base spare held t'' v'' d'' p'') (h3 : DataW.Trod enc P w base spare held t3 v3 d3 p3) : DataW.TrodAll enc P w base spare held [t, t', t'', t3] [v, v', v'', v3] [d, d', d'', d3] (p ++ (p' ++ (p'' ++ p3))) := ⟨p, p' ++ (p'' ++ p3), h, trodAll_mk3 h' h'' h3, rfl⟩
end
section
variable {H : Type} {enc : TypeId × Value → H} {P : Program} {W : World}
theorem read_u8 {b0 : Nat} {t : TypeId} {v : Value} {d : DataW H} {p : List MemPlace} (ht : P.underlying t = some (.int .u8)) (hval : Value.okWide P W .any b0 t v)
    (h : DataW.Trod enc P W 0 (fun _ => true) true t v d p) : ∃ n : Int, v = .int .u8 n ∧ 0 ≤ n ∧ n ≤ 255 := by
  obtain ⟨n, rfl, _, _, wn⟩ := open_int ht hval h
  simp only [Lit.wf, Bool.and_eq_true, decide_eq_true_eq] at wn
  exact ⟨n, rfl, wn⟩
end
end Go.AH
namespace Go.AH
open Go Go.RowKit Go.WideShapes Go.ChangeShapes
section
variable {H : Type} {enc : TypeId × Value → H} {P : Program} {w : World} {base : Nat} {spare : Nat → Bool} {held : Bool}
theorem trodAll_mkn5 {t t' t'' t3 t4 : TypeId} {v v' v'' v3 v4 : Value} {d d' d'' d3 d4 : DataW H} {p p' p'' p3 p4 : List MemPlace} (h : DataW.Trod enc P w base spare held t v d p) (h' : DataW.Trod enc P w base spare held t' v' d' p')
    (h'' : DataW.Trod enc P w base spare held t'' v'' d'' p'') (h3 : DataW.Trod enc P w base spare held t3 v3 d3 p3) (h4 : DataW.Trod enc P w base spare held t4 v4 d4 p4) : DataW.TrodAll enc P w base spare held [t, t', t'', t3, t4] [v, v', v'', v3, v4] [d, d', d'', d3, d4] (p ++ (p' ++ (p'' ++ (p3 ++ p4)))) := ⟨p, p' ++ (p'' ++ (p3 ++ p4)), h, trodAll_mkn4 h' h'' h3 h4, rfl⟩
end
end Go.AH
namespace Go.AH
open Go Go.RowKit Go.WideShapes Go.ChangeShapes
section
variable {H : Type} {enc : TypeId × Value → H} {P : Program} {w : World} {base : Nat} {spare : Nat → Bool} {held : Bool}
theorem trodAll_mkn6 {t t' t'' t3 t4 t5 : TypeId} {v v' v'' v3 v4 v5 : Value} {d d' d'' d3 d4 d5 : DataW H} {p p' p'' p3 p4 p5 : List MemPlace} (h : DataW.Trod enc P w base spare held t v d p) (h' : DataW.Trod enc P w base spare held t' v' d' p')
    (h'' : DataW.Trod enc P w base spare held t'' v'' d'' p'') (h3 : DataW.Trod enc P w base spare held t3 v3 d3 p3) (h4 : DataW.Trod enc P w base spare held t4 v4 d4 p4) (h5 : DataW.Trod enc P w base spare held t5 v5 d5 p5) :
    DataW.TrodAll enc P w base spare held [t, t', t'', t3, t4, t5] [v, v', v'', v3, v4, v5] [d, d', d'', d3, d4, d5] (p ++ (p' ++ (p'' ++ (p3 ++ (p4 ++ p5))))) := ⟨p, p' ++ (p'' ++ (p3 ++ (p4 ++ p5))), h, trodAll_mkn5 h' h'' h3 h4 h5, rfl⟩
end
section
variable {H : Type} {enc : TypeId × Value → H} {P : Program} {W : World}
theorem okWide_arr {n : Nat} {t e : TypeId} {b0 : Nat} {v : Value} (ht : P.underlying t = some (.array n e)) (h : Value.okWide P W .any b0 t v) : ∃ cs, v = .agg cs ∧ cs.size = P.cellsOf t := by
  simp only [Value.okWide, ht] at h
  obtain ⟨cs, h1, h2, _⟩ := h
  exact ⟨cs, h1, h2⟩
theorem read_arr2 {b0 : Nat} {t e : TypeId} {v : Value} {d : DataW H} {p : List MemPlace} {k : IntKind} (ht : P.underlying t = some (.array 2 e)) (he : P.underlying e = some (.int k)) (hct : P.cellsOf t = 2) (hce : P.cellsOf e = 1) (hval : Value.okWide P W .any b0 t v)
    (h : DataW.Trod enc P W 0 (fun _ => true) true t v d p) : ∃ x y : Int, v = .agg #[.int k x, .int k y] ∧ Lit.wf (.int k x) = true ∧ Lit.wf (.int k y) = true := by
  obtain ⟨cs, rfl, hsz⟩ := okWide_arr ht hval
  obtain ⟨l⟩ := cs
  have hsz2 : l.length = 2 := by rw [← hct, ← hsz]; rfl
  match l, hsz2 with
  | [c0, c1], _ =>
    obtain ⟨fuel, hf⟩ := h
    obtain ⟨xs, n, _, _, _, hlen, hg⟩ := DataW.trod_array ht hf
    match xs, hlen with
    | [y0, y1], _ =>
      have g0 := hg 0 (by omega)
      have g1 := hg 1 (by omega)
      simp only [hce, Value.cells, List.getElem?_cons_zero, List.getElem?_cons_succ] at g0 g1
      obtain ⟨n0, e0, _, w0⟩ := DataW.trod_int he g0
      obtain ⟨n1, e1, _, w1⟩ := DataW.trod_int he g1
      cases e0; cases e1
      exact ⟨n0, n1, rfl, w0, w1⟩
end
end Go.AH
namespace Go.Proofs.Ytindbippegiopaa
open Go Go.AH Go.RowKit Go.WideShapes Go.ChangeShapes Go.AH.Hone
def inI (n : Int) : Prop := -9223372036854775808 ≤ n ∧ n ≤ 9223372036854775807
def inSn (s : Sn) : Prop := inI s.g ∧ inI s.c ∧ inI s.b
def inEd (e : Ed) : Prop := inI e.d ∧ inI e.b
theorem listS_of {Q : Nat → Sn → Prop} {n : Nat} (h : ∀ i < n, ∃ p, Q i p) : ∃ l : List Sn, l.length = n ∧ ∀ i < n, Q i (gs l i) := by
  induction n with
  | zero => exact ⟨[], rfl, fun i hi => by omega⟩
  | succ n ih =>
    obtain ⟨l, h1, h2⟩ := ih fun i hi => h i (by omega)
    obtain ⟨p, hp⟩ := h n (by omega)
    refine ⟨l ++ [p], by simp [h1], fun i hi => ?_⟩
    by_cases hin : i < n
    · have : gs (l ++ [p]) i = gs l i := by simp only [gs, List.getD_eq_getElem?_getD]; rw [List.getElem?_append_left (by omega)]
      rw [this]; exact h2 i hin
    · obtain rfl : i = n := by omega
      have : gs (l ++ [p]) i = p := by simp only [gs, List.getD_eq_getElem?_getD]; rw [List.getElem?_append_right (by omega), h1, Nat.sub_self]; rfl
      rw [this]; exact hp
theorem add_cell {b o k : Nat} : (⟨b, o, none⟩ : Addr).add k = ⟨b, o + k, none⟩ := by
  unfold Addr.add
  split
  · rename_i h; subst h; rfl
  · rfl
theorem stonesC_get {l : List Sn} {i j : Nat} (hi : i < l.length) (hj : j < 3) : (stonesC l)[i * 3 + j]? = (gs l i).cells[j]? := by
  obtain ⟨r, hr⟩ := stonesC_drop hi
  have : (stonesC l)[i * 3 + j]? = ((stonesC l).drop (i * 3))[j]? := by rw [List.getElem?_drop]
  rw [this, hr, List.getElem?_append_left (by simpa [Sn.cells] using hj)]
set_option maxRecDepth 100000 in
theorem read_sn {b0 : Nat} {H : Type} {enc : TypeId × Value → H} {W : World} {v : Value} {d : DataW H} {p : List MemPlace} (hval : Value.okWide Try.prog W .any b0 54 v) (h : DataW.Trod enc Try.prog W 0 (fun _ => true) true 54 v d p) :
    ∃ s : Sn, v = s.val ∧ inSn s := by
  obtain ⟨cs, rfl, hsz⟩ := okWide_struct Try.underlying54 hval
  have k25 : Try.prog.cellsOf 54 = 3 := by kernel_rfl
  have hsz5 : cs.size = 3 := hsz.trans k25
  obtain ⟨l⟩ := cs
  match l, hsz5 with
  | [c0, c1, c2], _ =>
    obtain ⟨fuel, hf⟩ := h
    obtain ⟨xs, n, _, _, _, hlen, hg⟩ := DataW.trod_struct Try.underlying54 hf
    match xs, hlen with
    | [y0, y1, y2], _ =>
      have k3 : Try.prog.cellsOf 3 = 1 := by kernel_rfl
      have g0 := hg 0 _ rfl
      have g1 := hg 1 _ rfl
      have g2 := hg 2 _ rfl
      simp only [Value.cells, k3, List.drop_succ_cons, List.drop_zero, List.take_succ_cons, List.take_zero, List.getElem?_cons_zero, List.getElem?_cons_succ] at g0 g1 g2
      obtain ⟨n0, e0, _, w0⟩ := DataW.trod_int Try.underlying3 g0
      obtain ⟨n1, e1, _, w1⟩ := DataW.trod_int Try.underlying3 g1
      obtain ⟨n2, e2, _, w2⟩ := DataW.trod_int Try.underlying3 g2
      cases e0; cases e1; cases e2
      exact ⟨⟨n0, n1, n2⟩, rfl, wf64 w0, wf64 w1, wf64 w2⟩
set_option maxRecDepth 100000 in
theorem read_edge {b0 : Nat} {H : Type} {enc : TypeId × Value → H} {W : World} {v : Value} {d : DataW H} {p : List MemPlace} (hval : Value.okWide Try.prog W .any b0 24 v) (h : DataW.Trod enc Try.prog W 0 (fun _ => true) true 24 v d p) :
    ∃ e : Ed, v = e.val ∧ inEd e := by
  obtain ⟨cs, rfl, hsz⟩ := okWide_struct Try.underlying24 hval
  have k25 : Try.prog.cellsOf 24 = 2 := by kernel_rfl
  have hsz5 : cs.size = 2 := hsz.trans k25
  obtain ⟨l⟩ := cs
  match l, hsz5 with
  | [c0, c1], _ =>
    obtain ⟨fuel, hf⟩ := h
    obtain ⟨xs, n, _, _, _, hlen, hg⟩ := DataW.trod_struct Try.underlying24 hf
    match xs, hlen with
    | [y0, y1], _ =>
      have k3 : Try.prog.cellsOf 3 = 1 := by kernel_rfl
      have g0 := hg 0 _ rfl
      have g1 := hg 1 _ rfl
      simp only [Value.cells, k3, List.drop_succ_cons, List.drop_zero, List.take_succ_cons, List.take_zero, List.getElem?_cons_zero, List.getElem?_cons_succ] at g0 g1
      obtain ⟨n0, e0, _, w0⟩ := DataW.trod_int Try.underlying3 g0
      obtain ⟨n1, e1, _, w1⟩ := DataW.trod_int Try.underlying3 g1
      cases e0; cases e1
      exact ⟨⟨n0, n1⟩, rfl, wf64 w0, wf64 w1⟩
set_option maxRecDepth 100000 in
theorem read_stones {H : Type} {enc : TypeId × Value → H} {W : World} {b0 : Nat} {v : Value} {d : DataW H} {p : List MemPlace} (hval : Value.okWide Try.prog W .any b0 22 v) (h : DataW.Trod enc Try.prog W 0 (fun _ => true) true 22 v d p) :
    ∃ (l : List Sn) (pl : Pl), SlArg W v l.length 3 (stonesC l) pl ∧ ∀ i < l.length, inSn (gs l i) := by
  obtain ⟨a0, len, cap, rfl⟩ := okWide_slice Try.underlying22 hval
  obtain ⟨fuel, hf⟩ := h
  have k54 : Try.prog.cellsOf 54 = 3 := by kernel_rfl
  have k3 : Try.prog.cellsOf 3 = 1 := by kernel_rfl
  have hempty : ∃ (l : List Sn) (pl : Pl), SlArg W (.slice a0 0 cap) l.length 3 (stonesC l) pl ∧ ∀ i < l.length, inSn (gs l i) :=
    ⟨[], ⟨0, 0, 0⟩, ⟨by simp, fun m ρ i hi hρ => .emptySlice _ _ _ _, rfl, fun h => absurd rfl h⟩, fun n hn => by simp at hn⟩
  rcases Deep.open_slice Try.underlying22 hf with ⟨hcs, -⟩ | ⟨a, len', cap', m, n, D, Pl, hcs, -, hl, hm, hmm, -, hi⟩
  · have hcs' : Value.slice a0 len cap = Value.slice none 0 0 := by simpa [Value.cells] using hcs
    cases hcs'
    exact hempty
  · have hcs' : Value.slice a0 len cap = Value.slice (some a) len' cap' := by simpa [Value.cells] using hcs
    cases hcs'
    simp only [if_true] at hmm
    by_cases h0 : len = 0
    · subst h0; exact hempty
    · have each : ∀ i < len, ∃ q : Sn, (W.cell? (a.add (i * 3)) = some (.int .i64 q.g) ∧ W.cell? ((a.add (i * 3)).add 1) = some (.int .i64 q.c) ∧ W.cell? ((a.add (i * 3)).add 2) = some (.int .i64 q.b)) ∧ inSn q := fun i hil => by
        obtain ⟨cs, hc, ht⟩ := hi i (by omega)
        rw [k54] at hc
        obtain ⟨_, hcl, hat⟩ := World.cells?_some hc
        match cs, hcl with
        | [c0, c1, c2], _ =>
          obtain ⟨zs, m', _, _, _, hlen2, hg2⟩ := DataW.trod_struct Try.underlying54 ht
          match zs, hlen2 with
          | [z0, z1, z2], _ =>
            have q0 := hg2 0 _ rfl
            have q1 := hg2 1 _ rfl
            have q2 := hg2 2 _ rfl
            simp only [k3, List.drop_succ_cons, List.drop_zero, List.take_succ_cons, List.take_zero, List.getElem?_cons_zero, List.getElem?_cons_succ] at q0 q1 q2
            obtain ⟨n0, e0, _, w0⟩ := DataW.trod_int Try.underlying3 q0
            obtain ⟨n1, e1, _, w1⟩ := DataW.trod_int Try.underlying3 q1
            obtain ⟨n2, e2, _, w2⟩ := DataW.trod_int Try.underlying3 q2
            cases e0; cases e1; cases e2
            have g0 := hat 0 (by omega)
            have g1 := hat 1 (by omega)
            have g2 := hat 2 (by omega)
            have ha : (a.add (i * 3)).add 0 = a.add (i * 3) := by simp [Addr.add]
            rw [ha] at g0
            exact ⟨⟨n0, n1, n2⟩, ⟨by simpa using g0, by simpa using g1, by simpa using g2⟩, wf64 w0, wf64 w1, wf64 w2⟩
      obtain ⟨l, hll, hq⟩ := listS_of each
      have h1 := (hq 0 (by omega)).1.1
      have ha : a.add (0 * 3) = a := by simp [Addr.add]
      rw [ha] at h1
      obtain ⟨hb, hs⟩ := cell_lt h1
      obtain ⟨b, o, sp⟩ := a
      simp only at hb hs
      subst hs
      have hm' : len ≤ 9223372036854775807 := by unfold maxLen at hm; omega
      have hlen := stonesC_len l
      refine ⟨l, ⟨b, o, 0⟩, ⟨by omega, fun m ρ i hi hρ => ?_, by omega, fun _ => ⟨hb, fun k hk => ?_⟩⟩, fun i hil => (hq i (by omega)).2⟩
      · rw [hll]
        have := VQ.slice (q := false) (n := m) (ρ := ρ) i 0 len len cap hl hi
        rw [hρ] at this
        simpa using this
      · obtain ⟨g0, g1, g2⟩ := (hq (k / 3) (by omega)).1
        simp only [add_cell] at g0 g1 g2
        have h3 := List.getElem?_eq_getElem (l := stonesC l) (i := k) hk
        have hg := stonesC_get (l := l) (i := k / 3) (j := k % 3) (by omega) (by omega)
        rw [show k / 3 * 3 + k % 3 = k by omega, h3] at hg
        rcases (show k % 3 = 0 ∨ k % 3 = 1 ∨ k % 3 = 2 by omega) with h2 | h2 | h2
        · rw [h2] at hg
          rw [show o + k = o + k / 3 * 3 by omega, g0]; exact hg.symm
        · rw [h2] at hg
          rw [show o + k = o + k / 3 * 3 + 1 by omega, g1]; exact hg.symm
        · rw [h2] at hg
          rw [show o + k = o + k / 3 * 3 + 2 by omega, g2]; exact hg.symm
end Go.Proofs.Ytindbippegiopaa
namespace Go.AH.Hone
open Go Go.AH Go.Proofs.Ytindbippegiopaa
section
variable {l : List Sn} {goal e : Ed}
theorem spareK_mem (l : List Sn) (e goal : Ed) (i : Nat) : ∀ n, (i : Int) ∈ spareK l e goal n ↔ i < n ∧ needsV (wout l i) goal e = needsV l goal e
  | 0 => by simp [spareK]
  | n + 1 => by
    have ih := spareK_mem l e goal i n
    simp only [spareK]
    by_cases h : needsV (wout l n) goal e = needsV l goal e
    · rw [if_pos h]
      simp only [List.mem_append, List.mem_singleton, ih]
      constructor
      · rintro (⟨h1, h2⟩ | h1)
        · exact ⟨by omega, h2⟩
        · obtain rfl : i = n := by omega
          exact ⟨by omega, h⟩
      · rintro ⟨h1, h2⟩
        by_cases hi : i = n
        · exact .inr (by omega)
        · exact .inl ⟨by omega, h2⟩
    · rw [if_neg h, ih]
      constructor
      · rintro ⟨h1, h2⟩; exact ⟨by omega, h2⟩
      · rintro ⟨h1, h2⟩
        refine ⟨?_, h2⟩
        apply Classical.byContradiction
        intro hi
        obtain rfl : i = n := by omega
        exact h h2
theorem endsK_up (l : List Sn) (e goal : Ed) : ∀ n, (∀ x ∈ endsK l e goal n, 0 ≤ x ∧ x < n) ∧ (endsK l e goal n).Pairwise (· < ·)
  | 0 => by simp [endsK]
  | n + 1 => by
    obtain ⟨h1, h2⟩ := endsK_up l e goal n
    by_cases h : endsP l goal e n
    · rw [endsK_pos h]
      refine ⟨fun x hx => ?_, List.pairwise_append.2 ⟨h2, by simp, fun a ha b hb => ?_⟩⟩
      · rcases List.mem_append.1 hx with hx | hx
        · have := h1 x hx; omega
        · rw [List.mem_singleton] at hx; omega
      · rw [List.mem_singleton] at hb
        have := h1 a ha; omega
    · rw [endsK_neg h]
      exact ⟨fun x hx => by have := h1 x hx; omega, h2⟩
theorem endsK_mem (l : List Sn) (e goal : Ed) (i : Nat) : ∀ n, i < n → endsP l goal e i → (i : Int) ∈ endsK l e goal n
  | 0, h, _ => by omega
  | n + 1, h, hi => by
    by_cases hin : i = n
    · subst hin; rw [endsK_pos hi]; simp
    · have ih := endsK_mem l e goal i n (by omega) hi
      by_cases hn : endsP l goal e n
      · rw [endsK_pos hn]; simp [ih]
      · rw [endsK_neg hn]; exact ih
theorem endsK_nil (l : List Sn) (e goal : Ed) (h : ∀ i, ¬ endsP l goal e i) : ∀ n, endsK l e goal n = []
  | 0 => rfl
  | n + 1 => by rw [endsK_neg (h n)]; exact endsK_nil l e goal h n
theorem up_get {Y : List Int} (h : Y.Pairwise (· < ·)) {i : Nat} (hi : i + 1 < Y.length) : gi Y i < gi Y (i + 1) := by
  have := List.pairwise_iff_getElem.1 h i (i + 1) (by omega) hi (by omega)
  simpa [gi, show i < Y.length by omega, hi] using this
theorem gi_mem {Y : List Int} {i : Nat} (h : i < Y.length) : gi Y i ∈ Y := by simp [gi, h]
theorem spare_facts (ha : askE l e goal = 0) (hn : 0 ≤ needsV l goal e) {i : Nat} (hi : i < l.length) :
    (((i : Int) ∈ spareL l e goal) ↔ fwV (wout l i) e goal = ((bestL l e goal).length : Int)) ∧ ((bestL l e goal).length : Int) ≤ fwV (wout l i) e goal ∧ ((i : Int) ∈ spareL l e goal ∨ (i : Int) ∈ bestL l e goal) := by
  obtain ⟨g1, g2, g3⟩ := askE_zero ha
  obtain ⟨_, _, hl⟩ := boxE_zero g1
  have hE : bestE l e goal = 0 := by unfold bestE; rw [if_neg (by omega), if_neg (by omega)]
  have hlen := bestL_len hE
  have h7 := needs_le (l := l) (goal := goal) (e := e) g3
  have hX : (i : Int) ∈ spareL l e goal ↔ needsV (wout l i) goal e = needsV l goal e := by
    unfold spareL; rw [if_neg (by omega), spareK_mem]
    exact ⟨fun h => h.2, fun h => ⟨hi, h⟩⟩
  have hge := fun h => (needs_wout hl g3 g2 hi h).2
  have hng := needs_ge (wout l i) goal e
  refine ⟨?_, ?_, ?_⟩
  · rw [hX]
    unfold fwV
    by_cases h : needsV (wout l i) goal e < 0
    · rw [if_pos h]; omega
    · rw [if_neg h]; omega
  · unfold fwV
    by_cases h : needsV (wout l i) goal e < 0
    · rw [if_pos h]; omega
    · rw [if_neg h]; have := hge (by omega); omega
  · by_cases hS : (i : Int) ∈ bestL l e goal
    · exact .inr hS
    · refine .inl (hX.2 ?_)
      obtain ⟨b1, e', b2, b3⟩ := best_after hl g3 (needsV l goal e).toNat e g2 (by omega)
      have hp := path_unused hi (bestS l goal (needsV l goal e).toNat e) e e' (fun k hk => ⟨b1 k hk, fun hki => hS (by
        unfold bestL; rw [if_neg (by omega)]
        subst hki
        exact List.mem_map.2 ⟨_, hk, rfl⟩)⟩) b2 b3
      rw [bestS_len] at hp
      have := needs_of_path (wout_ok hl hi) g3 _ e g2 hp
      have := hge this.1
      omega
theorem fw_nil (ha : askE l e goal = 0) (hn : 0 ≤ needsV l goal e) (h1 : l.length = 1) : fwV (wout l 0) e goal = if (bestL l e goal).length = 0 then 0 else 1000 := by
  obtain ⟨g1, g2, g3⟩ := askE_zero ha
  obtain ⟨_, _, hl⟩ := boxE_zero g1
  have hE : bestE l e goal = 0 := by unfold bestE; rw [if_neg (by omega), if_neg (by omega)]
  have hlen := bestL_len hE
  have hw : (wout l 0).length = 0 := by rw [wout_len (by omega)]; omega
  have hwo := wout_ok hl (i := 0) (by omega)
  have hz := needs_zero (l := wout l 0) hwo g3 g2
  have hz' := needs_zero hl g3 g2
  unfold fwV
  by_cases hk : keen e goal
  · rw [hz.2 hk, if_neg (by omega), if_pos (by rw [hlen, hz'.2 hk]; rfl)]
  · have hneg : needsV (wout l 0) goal e < 0 := by
      apply Classical.byContradiction
      intro hc
      have h0 : needsV (wout l 0) goal e ≠ 0 := fun h => hk (hz.1 h)
      obtain ⟨i, hi, _⟩ := needs_down (l := wout l 0) hwo g3 g2 (n := (needsV (wout l 0) goal e).toNat - 1) (by omega)
      omega
    have h0 : needsV l goal e ≠ 0 := fun h => hk (hz'.1 h)
    rw [if_pos hneg, if_neg (by omega)]
theorem ends_facts (ha : askE l e goal = 0) (hn : 0 ≤ needsV l goal e) : ((bestL l e goal).length = 0 ↔ (endsL l e goal).length = 0) ∧ (0 < (bestL l e goal).length → gi (bestL l e goal) ((bestL l e goal).length - 1) ∈ endsL l e goal) ∧ (∀ x ∈ endsL l e goal, 0 ≤ x ∧ x < l.length) ∧ (endsL l e goal).Pairwise (· < ·) := by
  obtain ⟨g1, g2, g3⟩ := askE_zero ha
  obtain ⟨_, _, hl⟩ := boxE_zero g1
  have hE : bestE l e goal = 0 := by unfold bestE; rw [if_neg (by omega), if_neg (by omega)]
  have hlen := bestL_len hE
  have hY : endsL l e goal = endsK l e goal l.length := by unfold endsL; rw [if_neg (by omega)]
  rw [hY]
  have hup := endsK_up l e goal l.length
  refine ⟨?_, ?_, hup.1, hup.2⟩
  · constructor
    · intro h
      rw [endsK_nil l e goal (ends_none hl g3 g2 (by omega))]; rfl
    · intro h
      apply Classical.byContradiction
      intro hc
      obtain ⟨i, hi, _, h2⟩ := best_ends hl g3 ((needsV l goal e).toNat - 1) e g2 (by omega)
      have := endsK_mem l e goal i l.length hi h2
      rw [List.length_eq_zero_iff.1 h] at this
      simp at this
  · intro h
    obtain ⟨i, hi, h1, h2⟩ := best_ends hl g3 ((needsV l goal e).toNat - 1) e g2 (by omega)
    rw [show (needsV l goal e).toNat - 1 + 1 = (needsV l goal e).toNat by omega] at h1
    have h3 : gi (bestL l e goal) ((bestL l e goal).length - 1) = (i : Int) := by
      unfold bestL at hlen ⊢
      rw [if_neg (by omega)] at hlen ⊢
      rw [hlen]
      simp only [gi, zs, List.getD_eq_getElem?_getD, List.getElem?_map, h1]
      rfl
    rw [h3]
    exact endsK_mem l e goal i l.length hi h2
end
end Go.AH.Hone
namespace Go.Proofs.Ytindbippegiopaa
open Go Go.AH
attribute [local irreducible] WOps WCode WFree retQ thenQ blockQ scopeQ OpOk ACall RetRef roundA roundB
set_option maxRecDepth 100000
set_option maxHeartbeats 1000000
open Go.AH.Hone
theorem hc_s6 (l : List Sn) (e goal : Ed) (B X Y : List Int) : HClosed 6 [.ro (stonesC l), .rw e.cells, .rw goal.cells, .rw (ints B), .rw (ints X), .rw (ints Y)] := ⟨plainL_closed (stonesC_plain l), plainL_closed rfl, plainL_closed rfl, plainL_closed (ints_plain B), plainL_closed (ints_plain X), plainL_closed (ints_plain Y), trivial⟩
theorem boxE_good {l : List Sn} (h1 : 1 ≤ l.length) (h6 : l.length ≤ 6) (hl : ∀ i < l.length, ¬ badSn (gs l i)) : boxE l = 0 := by
  unfold boxE; rw [if_neg (by omega), if_neg]; unfold badBox; rw [someB_false fun j hj => hl j (by omega)]; simp
theorem ask_wout {l : List Sn} {e goal : Ed} (ha : askE l e goal = 0) {i : Nat} (hi : i < l.length) (h1 : 1 < l.length) : askE (wout l i) e goal = 0 := by
  obtain ⟨g1, g2, g3⟩ := askE_zero ha
  obtain ⟨_, hs2, hl⟩ := boxE_zero g1
  have hw := wout_len hi
  have hb : boxE (wout l i) = 0 := boxE_good (by omega) (by omega) (wout_ok hl hi)
  unfold askE; rw [if_neg (by omega), if_neg (fun h => h.elim g2 g3)]
theorem in_ok (q : List Int) (n : Int) (c : Nat) (hN : q.length ≤ 200000) : Ev Try.prog 46 [.slice (some ⟨0, 0, none⟩) q.length c, .int .i64 n] [.ro (ints q)] (.bool (decide (n ∈ q))) [.ro (ints q)] := by
  refine acall_intro 1 18 Try.func46 rfl rfl rfl rfl rfl ?_
  repeat' (first | (refine gU ?_; (refine gAssign ?_; refine st (ok_assign rfl) rfl rfl ?_)) | refine W_seq ?_ | refine W_region ?_ | refine st_nil ?_ | refine tq_n ?_ | refine W_block ?_)
  refine W_loopS (ι := Nat) (fun i => [(0, .slice (some ⟨0, 0, none⟩) q.length c), (1, .int .i64 n), (5, .int .i64 (i : Int))])
    (fun _ => [.ro (ints q)]) (fun i => q.length - i) (fun i => i ≤ q.length ∧ ∀ j < i, gi q j ≠ n) 0 (by simp) (.same ⟨rfl, rfl, rfl, trivial⟩) ⟨by omega, fun j hj => by omega⟩ ?_
  rintro i ⟨hi, hall⟩
  by_cases hil : i < q.length
  · have hc1 : cellGet [.ro (ints q)] 0 i = some (.int .i64 (gi q i)) := ints_get hil
    by_cases hq : gi q i = n
    · have hin : n ∈ q := by rw [← hq]; exact gi_mem hil
      repeat' (first | (refine gU ?_; first | (refine gMove ?_; refine st (ok_move rfl) rfl rfl ?_) | (refine gAssign ?_; refine st (ok_assign rfl) rfl rfl ?_) | (refine gLoad ?_; refine st (ok_load rfl (by exact hc1)) rfl rfl ?_) | (refine gBin ?_; refine st (ok_bin rfl rfl rfl) rfl rfl ?_) | (refine gLen ?_; refine st (ok_len rfl) rfl rfl ?_) | (refine gIA ?_; refine st (ok_idxN rfl rfl (by omega)) rfl rfl ?_)) | refine W_seq ?_ | refine W_region ?_ | refine st_nil ?_ | refine tq_n ?_ | refine tq_r ?_ | refine bq_r ?_ | refine W_skip ?_ | refine W_ret ?_ | refine W_block ?_ | refine W_condTA rfl ?_)
      refine ret0 (.tmp rfl .nil) (.plain rfl rfl) ⟨?_, rfl⟩
      rw [decide_eq_true hin]; rfl
    · repeat' (first | (refine gU ?_; first | (refine gMove ?_; refine st (ok_move rfl) rfl rfl ?_) | (refine gAssign ?_; refine st (ok_assign rfl) rfl rfl ?_) | (refine gLoad ?_; refine st (ok_load rfl (by exact hc1)) rfl rfl ?_) | (refine gAdd ?_; refine st (ok_inc rfl rfl (by omega)) rfl rfl ?_) | (refine gBin ?_; refine st (ok_bin rfl rfl rfl) rfl rfl ?_) | (refine gLen ?_; refine st (ok_len rfl) rfl rfl ?_) | (refine gIA ?_; refine st (ok_idxN rfl rfl (by omega)) rfl rfl ?_)) | refine W_seq ?_ | refine W_region ?_ | refine st_nil ?_ | refine tq_n ?_ | refine bq_n ?_ | refine W_skip ?_ | refine W_block ?_ | refine W_condTA rfl ?_ | refine W_condFA rfl ?_)
      exact ⟨rfl, i + 1, ⟨by omega, fun j hj => by
        by_cases hji : j = i
        · subst hji; exact hq
        · exact hall j (by omega)⟩, by omega, .same ⟨rfl, rfl, rfl, trivial⟩⟩
  · have hin : n ∉ q := fun h => by
      obtain ⟨j, hj, rfl⟩ := List.getElem_of_mem h
      exact hall j (by omega) (by simp [gi, hj])
    repeat' (first | (refine gU ?_; first | (refine gMove ?_; refine st (ok_move rfl) rfl rfl ?_) | (refine gAssign ?_; refine st (ok_assign rfl) rfl rfl ?_) | (refine gBin ?_; refine st (ok_bin rfl rfl rfl) rfl rfl ?_) | (refine gLen ?_; refine st (ok_len rfl) rfl rfl ?_)) | refine W_seq ?_ | refine W_region ?_ | refine st_nil ?_ | refine tq_n ?_ | refine tq_e ?_ | refine bq_hit rfl ?_ | refine W_exit ?_ | refine W_ret ?_ | refine W_condFA rfl ?_)
    refine ret0 (.tmp rfl .nil) (.plain rfl rfl) ⟨?_, rfl⟩
    rw [decide_eq_false hin]; rfl
theorem in_ev {σ : Heap} {q : List Int} {n : Int} {x c : Nat} (hx : arrAt σ x (ints q)) (hN : q.length ≤ 200000) (hni : σ.all (fun o => !isIter o) = true) :
    Ev Try.prog 46 [.slice (some ⟨x, 0, none⟩) q.length c, .int .i64 n] σ (.bool (decide (n ∈ q))) σ :=
  Ev.arrs [ints q] [x] (in_ok q n c hN) ⟨hx, trivial⟩ ⟨by simpa [bsR] using VQ.slice (q := true) (n := 1) (ρ := bsR [x]) 0 0 q.length c c (Nat.le_refl _) (by omega), vrel_plain _ rfl, trivial⟩ (by simp [ints_plain]) rfl hni
theorem honeSpared_law (l : List Sn) (e goal : Ed) (c : Nat) (hc : l.length ≤ c) (hN : l.length ≤ 9223372036854775807) :
    Ev Try.prog 12 [.slice (some ⟨0, 0, none⟩) l.length c, e.val, goal.val] [.ro (stonesC l)] (.bool true) [.ro (stonesC l)] := by
  have hfine := fine_ev (σ := [.ro (stonesC l), .rw e.cells, .rw goal.cells]) (l := l) (e := e) (goal := goal) (x := 0) (c := c) (.inl rfl) hN rfl
  by_cases ha : askE l e goal = 0
  · obtain ⟨g1, g2, g3⟩ := askE_zero ha
    obtain ⟨hs1, hs2⟩ := ask_small ha
    obtain ⟨_, _, hl⟩ := boxE_zero g1
    have hB := best_ev (σ := [.ro (stonesC l), .rw e.cells, .rw goal.cells]) (l := l) (e := e) (goal := goal) (x := 0) (c := c) (.inl rfl) (by omega) rfl
    have hX := fun B => spare_ev (σ := [.ro (stonesC l), .rw e.cells, .rw goal.cells, .rw (ints B)]) (l := l) (e := e) (goal := goal) (x := 0) (c := c) (.inl rfl) (by omega) rfl
    have hY := fun B X => ends_ev (σ := [.ro (stonesC l), .rw e.cells, .rw goal.cells, .rw (ints B), .rw (ints X)]) (l := l) (e := e) (goal := goal) (x := 0) (c := c) (.inl rfl) (by omega) rfl
    replace hX := hX (bestL l e goal)
    replace hY := hY (bestL l e goal) (spareL l e goal)
    by_cases hn : 0 ≤ needsV l goal e
    · have hE : bestE l e goal = 0 := by unfold bestE; rw [if_neg (by omega), if_neg (by omega)]
      rw [hE] at hB hX hY
      have hsp := fun i hi => spare_facts ha hn (i := i) hi
      have hnil := fw_nil ha hn
      obtain ⟨f1, f2, f3, f4⟩ := ends_facts ha hn
      have l1 := bestL_le l e goal
      have l2 := spareL_le l e goal
      have l3 := endsL_le l e goal
      generalize bestL l e goal = B at *
      generalize spareL l e goal = X at *
      generalize endsL l e goal = Y at *
      have hneq : decide ((B.length : Int) = 0) = decide ((Y.length : Int) = 0) := decide_eq_decide.2 (by omega)
      have hc0 : 0 < B.length → cellGet [.ro (stonesC l), .rw e.cells, .rw goal.cells, .rw (ints B), .rw (ints X), .rw (ints Y)] 3 (0 + ((B.length : Int) - 1).toNat * 1) = some (.int .i64 (gi B (B.length - 1))) := fun h => by
        have h1 := ints_get (l := B) (i := B.length - 1) (by omega)
        rw [Nat.zero_add, Nat.mul_one, show ((B.length : Int) - 1).toNat = B.length - 1 by omega]; exact h1
      have hin0 : 0 < B.length → Ev Try.prog 46 [.slice (some ⟨5, 0, none⟩) Y.length Y.length, .int .i64 (gi B (B.length - 1))] [.ro (stonesC l), .rw e.cells, .rw goal.cells, .rw (ints B), .rw (ints X), .rw (ints Y)] (.bool true) [.ro (stonesC l), .rw e.cells, .rw goal.cells, .rw (ints B), .rw (ints X), .rw (ints Y)] := fun h => by
        have := in_ev (σ := [.ro (stonesC l), .rw e.cells, .rw goal.cells, .rw (ints B), .rw (ints X), .rw (ints Y)]) (q := Y) (n := gi B (B.length - 1)) (x := 5) (c := Y.length) (.inr (.inl rfl)) (by omega) rfl
        rwa [decide_eq_true (f2 h)] at this
      refine acall_intro 1 180 Try.func12 rfl rfl rfl rfl rfl ?_
      repeat' (first | (refine gU ?_; first | refine st (ok_neqB0 Try.underlying4 rfl rfl hneq) rfl rfl ?_ | (refine gMove ?_; refine st (ok_move rfl) rfl rfl ?_) | (refine gAssign ?_; refine st (ok_assign rfl) rfl rfl ?_) | (refine gLoad ?_; refine st (ok_loadA rfl (by rfl)) rfl rfl ?_) | (refine gBin ?_; refine st (ok_bin rfl rfl rfl) rfl rfl ?_) | (refine gLen ?_; refine st (ok_len rfl) rfl rfl ?_) | (refine gPick ?_; refine st (ok_pickFA rfl rfl) rfl rfl ?_) | (refine gNot ?_; refine st (ok_notD rfl) rfl rfl ?_) | (refine gExtract ?_; refine st (ok_extract rfl rfl) rfl rfl ?_) | (refine gCall ?_; refine st (ok_call rfl rfl rfl (by first | exact hfine | exact hB | exact hX | exact hY)) rfl rfl ?_) | (refine gBox ?_; refine st (ok_box rfl) rfl rfl ?_)) | (refine gG ?_; first | (refine gMove ?_; refine stGA rfl (ok_move rfl) rfl rfl ?_) | (refine gLoad ?_; refine stGA rfl (ok_load rfl (by exact hc0 (by omega))) rfl rfl ?_) | (refine gSub ?_; refine stGA rfl (ok_sub rfl rfl (by omega) (by omega)) rfl rfl ?_) | (refine gBin ?_; refine stGA rfl (ok_bin rfl rfl rfl) rfl rfl ?_) | (refine gLen ?_; refine stGA rfl (ok_len rfl) rfl rfl ?_) | (refine gPick ?_; first | refine stGA rfl (ok_pickTA rfl rfl) rfl rfl ?_ | refine stGA rfl (ok_pickFA rfl rfl) rfl rfl ?_) | (refine gNot ?_; refine stGA rfl (ok_not' rfl) rfl rfl ?_) | (refine gIA ?_; refine stGA rfl (ok_idx rfl rfl (by omega) (by omega)) rfl rfl ?_) | (refine gCall ?_; refine stGA rfl (ok_call rfl rfl rfl (by exact hin0 (by omega))) rfl rfl ?_) | refine stSA rfl rfl ?_ | ((fail_if_success (refine stGkA rfl ?_)); (refine stGdD rfl ?_ ?_ <;> intro _))) | refine W_seq ?_ | refine W_region ?_ | refine st_nil ?_ | refine tq_n ?_ | refine W_skip ?_ | refine W_block ?_ | refine W_condFA rfl ?_)
      all_goals
        rename_i hx
        clear hx
        refine W_loopS (ι := Nat) (fun i => [(0, .slice (some ⟨0, 0, none⟩) l.length c), (4, .pointer (some ⟨1, 0, none⟩)), (5, .pointer (some ⟨2, 0, none⟩)), (7, .slice (some ⟨3, 0, none⟩) B.length B.length), (9, .slice (some ⟨4, 0, none⟩) X.length X.length), (11, .slice (some ⟨5, 0, none⟩) Y.length Y.length), (13, .int .i64 (i : Int))])
          (fun _ => [.ro (stonesC l), .rw e.cells, .rw goal.cells, .rw (ints B), .rw (ints X), .rw (ints Y)]) (fun i => l.length - i) (fun i => i ≤ l.length) 0 (by simp) (.same ⟨rfl, rfl, rfl, rfl, rfl, rfl, rfl, trivial⟩) (by omega) ?_
        clear hB hX hY hc0 hin0 hneq
        rintro i hi
        by_cases hil : i < l.length
        · obtain ⟨p1, p2, p3⟩ := hsp i hil
          have hin1 := in_ev (σ := [.ro (stonesC l), .rw e.cells, .rw goal.cells, .rw (ints B), .rw (ints X), .rw (ints Y)]) (q := X) (n := (i : Int)) (x := 4) (c := X.length) (.inr (.inl rfl)) (by omega) rfl
          have hin2 := in_ev (σ := [.ro (stonesC l), .rw e.cells, .rw goal.cells, .rw (ints B), .rw (ints X), .rw (ints Y)]) (q := B) (n := (i : Int)) (x := 3) (c := B.length) (.inr (.inl rfl)) (by omega) rfl
          by_cases h1 : 1 < l.length
          · have h1' : (l.length : Int) > 1 := by omega
            have hwl := wout_len hil
            have haw := ask_wout ha hil h1
            have hwo := refWithout_ev (σ := [.ro (stonesC l), .rw e.cells, .rw goal.cells, .rw (ints B), .rw (ints X), .rw (ints Y)]) (l := l) (x := 0) (c := c) (.inl rfl) hil hc (by omega) rfl
            rw [← hwl] at hwo
            generalize wout l i = W at *
            have hfw := fewest44_ev (σ := [.ro (stonesC l), .rw e.cells, .rw goal.cells, .rw (ints B), .rw (ints X), .rw (ints Y), .rw (stonesC W)]) (l := W) (e := e) (goal := goal) (x := 6) (c := W.length) (.inr (.inl rfl)) (by omega) haw rfl
            have hneq2 : decide ((i : Int) ∈ X) = decide (fwV W e goal = (B.length : Int)) := decide_eq_decide.2 p1
            generalize fwV W e goal = F at *
            have hin1' := in_ev (σ := [.ro (stonesC l), .rw e.cells, .rw goal.cells, .rw (ints B), .rw (ints X), .rw (ints Y), .rw (stonesC W)]) (q := X) (n := (i : Int)) (x := 4) (c := X.length) (.inr (.inl rfl)) (by omega) rfl
            have hin2' := in_ev (σ := [.ro (stonesC l), .rw e.cells, .rw goal.cells, .rw (ints B), .rw (ints X), .rw (ints Y), .rw (stonesC W)]) (q := B) (n := (i : Int)) (x := 3) (c := B.length) (.inr (.inl rfl)) (by omega) rfl
            by_cases hX : (i : Int) ∈ X
            · have hX' : ¬ ¬ ((i : Int) ∈ X) := fun h => h hX
              repeat' (first | (refine gU ?_; first | refine st (ok_neqB0 Try.underlying4 rfl rfl hneq2) rfl rfl ?_ | (refine gMove ?_; refine st (ok_move rfl) rfl rfl ?_) | (refine gAssign ?_; refine st (ok_assign rfl) rfl rfl ?_) | (refine gAdd ?_; refine st (ok_inc rfl rfl (by omega)) rfl rfl ?_) | (refine gBin ?_; refine st (ok_bin rfl rfl rfl) rfl rfl ?_) | (refine gLen ?_; refine st (ok_len rfl) rfl rfl ?_) | (refine gPick ?_; refine st (ok_pickFA rfl rfl) rfl rfl ?_) | (refine gNot ?_; refine st (ok_not' rfl) rfl rfl ?_) | (refine gCall ?_; refine st (ok_call rfl rfl rfl (by exact hin1')) rfl rfl ?_)) | (refine gG ?_; first | (refine gMove ?_; refine stGA rfl (ok_move rfl) rfl rfl ?_) | (refine gBin ?_; refine stGA rfl (ok_bin rfl rfl rfl) rfl rfl ?_) | (refine gLen ?_; refine stGA rfl (ok_len rfl) rfl rfl ?_) | (refine gPick ?_; refine stGA rfl (ok_pickFA rfl rfl) rfl rfl ?_) | (refine gNot ?_; refine stGA rfl (ok_notD rfl) rfl rfl ?_) | (refine gCall ?_; refine stGA rfl (ok_call rfl rfl rfl (by exact hin1')) rfl rfl ?_) | refine stSA rfl rfl ?_) | (refine fU ?_; first | refine frN (ok_call rfl rfl rfl hwo) nok_slice (plainL_closed (stonesC_plain _)).1 (plainL_closed (n := 0) (stonesC_plain _)).2 rfl ?_ | refine frA2 (by kernel_rfl) (ok_call rfl rfl rfl hfw) rfl rfl ?_ | (refine fMove ?_; refine frA (ok_move rfl) rfl ?_) | (refine fAssign ?_; refine frA (ok_assign rfl) rfl ?_) | (refine fLoad ?_; refine frA (ok_loadA rfl (by rfl)) rfl ?_) | (refine fExtract ?_; refine frA (ok_extract rfl rfl) rfl ?_)) | (refine fr_stop ⟨by kernel_rfl, ?_⟩) | refine W_seq ?_ | refine W_region ?_ | refine W_regionD (by kernel_rfl) rfl ?_ | refine st_nil ?_ | refine tq_n ?_ | refine bq_n ?_ | refine W_skip ?_ | refine W_block ?_ | refine W_condTA rfl ?_ | refine W_condFA rfl ?_)
              exact ⟨rfl, i + 1, by omega, by omega, StRef.drop [.ro (stonesC l), .rw e.cells, .rw goal.cells, .rw (ints B), .rw (ints X), .rw (ints Y)] [_] (by simp) (hc_s6 l e goal B X Y) (by (repeat' (first | exact trivial | exact ⟨rfl, rfl, rfl⟩ | exact ⟨rfl, closed_slice rfl, rfl⟩ | refine ⟨?_, ?_⟩)))⟩
            · have hS := p3.resolve_left hX
              have hS' : ¬ ¬ ((i : Int) ∈ B) := fun h => h hS
              repeat' (first | (refine gU ?_; first | refine st (ok_neqB0 Try.underlying4 rfl rfl hneq2) rfl rfl ?_ | (refine gMove ?_; refine st (ok_move rfl) rfl rfl ?_) | (refine gAssign ?_; refine st (ok_assign rfl) rfl rfl ?_) | (refine gAdd ?_; refine st (ok_inc rfl rfl (by omega)) rfl rfl ?_) | (refine gBin ?_; refine st (ok_bin rfl rfl rfl) rfl rfl ?_) | (refine gLen ?_; refine st (ok_len rfl) rfl rfl ?_) | (refine gPick ?_; refine st (ok_pickFA rfl rfl) rfl rfl ?_) | (refine gNot ?_; refine st (ok_not' rfl) rfl rfl ?_) | (refine gCall ?_; refine st (ok_call rfl rfl rfl (by exact hin1')) rfl rfl ?_)) | (refine gG ?_; first | (refine gMove ?_; refine stGA rfl (ok_move rfl) rfl rfl ?_) | (refine gBin ?_; refine stGA rfl (ok_bin rfl rfl rfl) rfl rfl ?_) | (refine gLen ?_; refine stGA rfl (ok_len rfl) rfl rfl ?_) | (refine gPick ?_; refine stGA rfl (ok_pickTA rfl rfl) rfl rfl ?_) | (refine gNot ?_; refine stGA rfl (ok_notD rfl) rfl rfl ?_) | (refine gCall ?_; refine stGA rfl (ok_call rfl rfl rfl (by first | exact hin1' | exact hin2')) rfl rfl ?_)) | (refine fU ?_; first | refine frN (ok_call rfl rfl rfl hwo) nok_slice (plainL_closed (stonesC_plain _)).1 (plainL_closed (n := 0) (stonesC_plain _)).2 rfl ?_ | refine frA2 (by kernel_rfl) (ok_call rfl rfl rfl hfw) rfl rfl ?_ | (refine fMove ?_; refine frA (ok_move rfl) rfl ?_) | (refine fAssign ?_; refine frA (ok_assign rfl) rfl ?_) | (refine fLoad ?_; refine frA (ok_loadA rfl (by rfl)) rfl ?_) | (refine fExtract ?_; refine frA (ok_extract rfl rfl) rfl ?_)) | (refine fr_stop ⟨by kernel_rfl, ?_⟩) | refine W_seq ?_ | refine W_region ?_ | refine W_regionD (by kernel_rfl) rfl ?_ | refine st_nil ?_ | refine tq_n ?_ | refine bq_n ?_ | refine W_skip ?_ | refine W_block ?_ | refine W_condTA rfl ?_ | refine W_condFA rfl ?_)
              exact ⟨rfl, i + 1, by omega, by omega, StRef.drop [.ro (stonesC l), .rw e.cells, .rw goal.cells, .rw (ints B), .rw (ints X), .rw (ints Y)] [_] (by simp) (hc_s6 l e goal B X Y) (by (repeat' (first | exact trivial | exact ⟨rfl, rfl, rfl⟩ | exact ⟨rfl, closed_slice rfl, rfl⟩ | refine ⟨?_, ?_⟩)))⟩
          · obtain rfl : i = 0 := by omega
            have h1' : ¬ (l.length : Int) > 1 := by omega
            have hF := hnil (by omega)
            rw [hF] at p1 p2
            by_cases hB0 : B.length = 0
            · rw [if_pos hB0] at p1 p2
              have hB0' : (B.length : Int) = 0 := by omega
              have hneq2 : decide (((0 : Nat) : Int) ∈ X) = decide ((0 : Int) = (B.length : Int)) := decide_eq_decide.2 p1
              have hX : ((0 : Nat) : Int) ∈ X := p1.2 (by omega)
              have hX' : ¬ ¬ (((0 : Nat) : Int) ∈ X) := fun h => h hX
              repeat' (first | (refine gU ?_; first | refine st (ok_neqB0 Try.underlying4 rfl rfl hneq2) rfl rfl ?_ | (refine gMove ?_; refine st (ok_move rfl) rfl rfl ?_) | (refine gAssign ?_; refine st (ok_assign rfl) rfl rfl ?_) | (refine gAdd ?_; refine st (ok_inc rfl rfl (by omega)) rfl rfl ?_) | (refine gBin ?_; refine st (ok_bin rfl rfl rfl) rfl rfl ?_) | (refine gLen ?_; refine st (ok_len rfl) rfl rfl ?_) | (refine gPick ?_; refine st (ok_pickFA rfl rfl) rfl rfl ?_) | (refine gCall ?_; refine st (ok_call rfl rfl rfl (by exact hin1)) rfl rfl ?_)) | (refine gG ?_; first | (refine gMove ?_; refine stGA rfl (ok_move rfl) rfl rfl ?_) | (refine gBin ?_; refine stGA rfl (ok_bin rfl rfl rfl) rfl rfl ?_) | (refine gLen ?_; refine stGA rfl (ok_len rfl) rfl rfl ?_) | (refine gPick ?_; refine stGA rfl (ok_pickFA rfl rfl) rfl rfl ?_) | (refine gNot ?_; refine stGA rfl (ok_notD rfl) rfl rfl ?_) | (refine gCall ?_; refine stGA rfl (ok_call rfl rfl rfl (by exact hin1)) rfl rfl ?_) | refine stSA rfl rfl ?_) | refine W_seq ?_ | refine W_region ?_ | refine st_nil ?_ | refine tq_n ?_ | refine bq_n ?_ | refine W_skip ?_ | refine W_block ?_ | refine W_condTA rfl ?_ | refine W_condFA rfl ?_)
              exact ⟨rfl, 1, by omega, by omega, .same ⟨rfl, rfl, rfl, rfl, rfl, rfl, rfl, trivial⟩⟩
            · rw [if_neg hB0] at p1 p2
              have hB0' : ¬ (B.length : Int) = 0 := by omega
              have hneq2 : decide (((0 : Nat) : Int) ∈ X) = decide ((1000 : Int) = (B.length : Int)) := decide_eq_decide.2 p1
              by_cases hX : ((0 : Nat) : Int) ∈ X
              · have hX' : ¬ ¬ (((0 : Nat) : Int) ∈ X) := fun h => h hX
                repeat' (first | (refine gU ?_; first | refine st (ok_neqB0 Try.underlying4 rfl rfl hneq2) rfl rfl ?_ | (refine gMove ?_; refine st (ok_move rfl) rfl rfl ?_) | (refine gAssign ?_; refine st (ok_assign rfl) rfl rfl ?_) | (refine gAdd ?_; refine st (ok_inc rfl rfl (by omega)) rfl rfl ?_) | (refine gBin ?_; refine st (ok_bin rfl rfl rfl) rfl rfl ?_) | (refine gLen ?_; refine st (ok_len rfl) rfl rfl ?_) | (refine gPick ?_; refine st (ok_pickFA rfl rfl) rfl rfl ?_) | (refine gCall ?_; refine st (ok_call rfl rfl rfl (by exact hin1)) rfl rfl ?_)) | (refine gG ?_; first | (refine gMove ?_; refine stGA rfl (ok_move rfl) rfl rfl ?_) | (refine gBin ?_; refine stGA rfl (ok_bin rfl rfl rfl) rfl rfl ?_) | (refine gLen ?_; refine stGA rfl (ok_len rfl) rfl rfl ?_) | (refine gPick ?_; refine stGA rfl (ok_pickFA rfl rfl) rfl rfl ?_) | (refine gNot ?_; refine stGA rfl (ok_notD rfl) rfl rfl ?_) | (refine gCall ?_; refine stGA rfl (ok_call rfl rfl rfl (by exact hin1)) rfl rfl ?_) | refine stSA rfl rfl ?_) | refine W_seq ?_ | refine W_region ?_ | refine st_nil ?_ | refine tq_n ?_ | refine bq_n ?_ | refine W_skip ?_ | refine W_block ?_ | refine W_condTA rfl ?_ | refine W_condFA rfl ?_)
                exact ⟨rfl, 1, by omega, by omega, .same ⟨rfl, rfl, rfl, rfl, rfl, rfl, rfl, trivial⟩⟩
              · have hS := p3.resolve_left hX
                have hS' : ¬ ¬ (((0 : Nat) : Int) ∈ B) := fun h => h hS
                repeat' (first | (refine gU ?_; first | refine st (ok_neqB0 Try.underlying4 rfl rfl hneq2) rfl rfl ?_ | (refine gMove ?_; refine st (ok_move rfl) rfl rfl ?_) | (refine gAssign ?_; refine st (ok_assign rfl) rfl rfl ?_) | (refine gAdd ?_; refine st (ok_inc rfl rfl (by omega)) rfl rfl ?_) | (refine gBin ?_; refine st (ok_bin rfl rfl rfl) rfl rfl ?_) | (refine gLen ?_; refine st (ok_len rfl) rfl rfl ?_) | (refine gPick ?_; refine st (ok_pickFA rfl rfl) rfl rfl ?_) | (refine gCall ?_; refine st (ok_call rfl rfl rfl (by exact hin1)) rfl rfl ?_)) | (refine gG ?_; first | (refine gMove ?_; refine stGA rfl (ok_move rfl) rfl rfl ?_) | (refine gBin ?_; refine stGA rfl (ok_bin rfl rfl rfl) rfl rfl ?_) | (refine gLen ?_; refine stGA rfl (ok_len rfl) rfl rfl ?_) | (refine gPick ?_; refine stGA rfl (ok_pickTA rfl rfl) rfl rfl ?_) | (refine gNot ?_; refine stGA rfl (ok_notD rfl) rfl rfl ?_) | (refine gCall ?_; refine stGA rfl (ok_call rfl rfl rfl (by first | exact hin1 | exact hin2)) rfl rfl ?_)) | refine W_seq ?_ | refine W_region ?_ | refine st_nil ?_ | refine tq_n ?_ | refine bq_n ?_ | refine W_skip ?_ | refine W_block ?_ | refine W_condTA rfl ?_ | refine W_condFA rfl ?_)
                exact ⟨rfl, 1, by omega, by omega, .same ⟨rfl, rfl, rfl, rfl, rfl, rfl, rfl, trivial⟩⟩
        · obtain rfl : i = l.length := by omega
          repeat' (first | (refine gU ?_; first | (refine gMove ?_; refine st (ok_move rfl) rfl rfl ?_) | (refine gAssign ?_; refine st (ok_assign rfl) rfl rfl ?_) | (refine gBin ?_; refine st (ok_bin rfl rfl rfl) rfl rfl ?_) | (refine gLen ?_; refine st (ok_len rfl) rfl rfl ?_)) | refine W_seq ?_ | refine W_region ?_ | refine st_nil ?_ | refine tq_n ?_ | refine tq_e ?_ | refine bq_hit rfl ?_ | refine W_exit ?_ | refine W_block ?_ | refine W_condFA rfl ?_)
          refine W_loopS (ι := Nat) (fun i => [(0, .slice (some ⟨0, 0, none⟩) l.length c), (11, .slice (some ⟨5, 0, none⟩) Y.length Y.length), (17, .int .i64 (i : Int))])
            (fun _ => [.ro (stonesC l), .rw e.cells, .rw goal.cells, .rw (ints B), .rw (ints X), .rw (ints Y)]) (fun i => Y.length - i) (fun i => i ≤ Y.length) 0 (by simp) (.same ⟨rfl, rfl, rfl, trivial⟩) (by omega) ?_
          rintro i hi
          by_cases hil : i < Y.length
          · have hc1 : cellGet [.ro (stonesC l), .rw e.cells, .rw goal.cells, .rw (ints B), .rw (ints X), .rw (ints Y)] 5 i = some (.int .i64 (gi Y i)) := ints_get hil
            have q1 := f3 _ (gi_mem hil)
            by_cases hi0 : i = 0
            · subst hi0
              repeat' (first | (refine gU ?_; first | (refine gMove ?_; refine st (ok_move rfl) rfl rfl ?_) | (refine gAssign ?_; refine st (ok_assign rfl) rfl rfl ?_) | (refine gAdd ?_; refine st (ok_inc rfl rfl (by omega)) rfl rfl ?_) | (refine gBin ?_; refine st (ok_bin rfl rfl rfl) rfl rfl ?_) | (refine gLen ?_; refine st (ok_len rfl) rfl rfl ?_)) | (refine fU ?_; first | (refine fMove ?_; refine frA (ok_move rfl) rfl ?_) | (refine fLoad ?_; refine frA (ok_load rfl (by exact hc1)) rfl ?_) | (refine fBin ?_; refine frA (ok_bin rfl rfl rfl) rfl ?_) | (refine fPick ?_; refine frA (ok_pickFA rfl rfl) rfl ?_) | (refine fIA ?_; refine frA (ok_idxN rfl rfl (by omega)) rfl ?_)) | (refine fG ?_; first | (refine fMove ?_; refine frGA rfl (ok_move rfl) rfl ?_) | (refine fLoad ?_; refine frGA rfl (ok_load rfl (by exact hc1)) rfl ?_) | (refine fBin ?_; refine frGA rfl (ok_bin rfl rfl rfl) rfl ?_) | (refine fLen ?_; refine frGA rfl (ok_len rfl) rfl ?_) | (refine fPick ?_; refine frGA rfl (ok_pickFA rfl rfl) rfl ?_) | (refine fIA ?_; refine frGA rfl (ok_idxN rfl rfl (by omega)) rfl ?_) | refine frSA rfl rfl ?_) | (refine fr_stop ⟨by kernel_rfl, ?_⟩) | refine W_seq ?_ | refine W_region ?_ | refine W_regionD (by kernel_rfl) rfl ?_ | refine st_nil ?_ | refine tq_n ?_ | refine bq_n ?_ | refine W_skip ?_ | refine W_block ?_ | refine W_condTA rfl ?_ | refine W_condFA rfl ?_)
              exact ⟨rfl, 1, by omega, by omega, .same ⟨rfl, rfl, rfl, trivial⟩⟩
            · have q2 : gi Y (i - 1) < gi Y i := by have := up_get f4 (i := i - 1) (by omega); rwa [show i - 1 + 1 = i by omega] at this
              have hc2 : 0 < i → cellGet [.ro (stonesC l), .rw e.cells, .rw goal.cells, .rw (ints B), .rw (ints X), .rw (ints Y)] 5 (0 + ((i : Int) - 1).toNat * 1) = some (.int .i64 (gi Y (i - 1))) := fun h => by
                have h1 := ints_get (l := Y) (i := i - 1) (by omega)
                rw [Nat.zero_add, Nat.mul_one, show ((i : Int) - 1).toNat = i - 1 by omega]; exact h1
              repeat' (first | (refine gU ?_; first | (refine gMove ?_; refine st (ok_move rfl) rfl rfl ?_) | (refine gAssign ?_; refine st (ok_assign rfl) rfl rfl ?_) | (refine gAdd ?_; refine st (ok_inc rfl rfl (by omega)) rfl rfl ?_) | (refine gBin ?_; refine st (ok_bin rfl rfl rfl) rfl rfl ?_) | (refine gLen ?_; refine st (ok_len rfl) rfl rfl ?_)) | (refine fU ?_; first | (refine fMove ?_; refine frA (ok_move rfl) rfl ?_) | (refine fLoad ?_; refine frA (ok_load rfl (by exact hc1)) rfl ?_) | (refine fBin ?_; refine frA (ok_bin rfl rfl rfl) rfl ?_) | (refine fPick ?_; refine frA (ok_pickFA rfl rfl) rfl ?_) | (refine fIA ?_; refine frA (ok_idxN rfl rfl (by omega)) rfl ?_)) | (refine fG ?_; first | (refine fMove ?_; refine frGA rfl (ok_move rfl) rfl ?_) | (refine fLoad ?_; refine frGA rfl (ok_load rfl (by first | exact hc1 | exact hc2 (by omega))) rfl ?_) | (refine fSub ?_; refine frGA rfl (ok_sub rfl rfl (by omega) (by omega)) rfl ?_) | (refine fBin ?_; refine frGA rfl (ok_bin rfl rfl rfl) rfl ?_) | (refine fLen ?_; refine frGA rfl (ok_len rfl) rfl ?_) | (refine fPick ?_; refine frGA rfl (ok_pickTA rfl rfl) rfl ?_) | (refine fIA ?_; first | refine frGA rfl (ok_idxN rfl rfl (by omega)) rfl ?_ | refine frGA rfl (ok_idx rfl rfl (by omega) (by omega)) rfl ?_)) | (refine fr_stop ⟨by kernel_rfl, ?_⟩) | refine W_seq ?_ | refine W_region ?_ | refine W_regionD (by kernel_rfl) rfl ?_ | refine st_nil ?_ | refine tq_n ?_ | refine bq_n ?_ | refine W_skip ?_ | refine W_block ?_ | refine W_condTA rfl ?_ | refine W_condFA rfl ?_)
              exact ⟨rfl, i + 1, by omega, by omega, .same ⟨rfl, rfl, rfl, trivial⟩⟩
          · obtain rfl : i = Y.length := by omega
            repeat' (first | (refine gU ?_; first | (refine gMove ?_; refine st (ok_move rfl) rfl rfl ?_) | (refine gAssign ?_; refine st (ok_assign rfl) rfl rfl ?_) | (refine gBin ?_; refine st (ok_bin rfl rfl rfl) rfl rfl ?_) | (refine gLen ?_; refine st (ok_len rfl) rfl rfl ?_) | (refine gCall ?_; refine st (ok_call rfl rfl rfl (by exact works_ev rfl)) rfl rfl ?_)) | refine W_seq ?_ | refine W_region ?_ | refine st_nil ?_ | refine tq_n ?_ | refine tq_e ?_ | refine bq_hit rfl ?_ | refine W_exit ?_ | refine W_ret ?_ | refine W_condFA rfl ?_)
            all_goals exact ret0 (.tmp rfl .nil) (.plain rfl rfl) ⟨rfl, rfl⟩
    · have hE : bestE l e goal = 13 := by unfold bestE; rw [if_neg (by omega), if_pos (by omega)]
      have e1 : bestL l e goal = [] := by unfold bestL; rw [hE]; rfl
      have e2 : spareL l e goal = [] := by unfold spareL; rw [hE]; rfl
      have e3 : endsL l e goal = [] := by unfold endsL; rw [if_pos (by rw [hE]; decide)]
      rw [e1] at hB hX hY
      rw [e2] at hX hY
      rw [e3] at hY
      rw [hE] at hB hX hY
      refine acall_intro 1 180 Try.func12 rfl rfl rfl rfl rfl ?_
      repeat' (first | (refine gU ?_; first | (refine gMove ?_; refine st (ok_move rfl) rfl rfl ?_) | (refine gAssign ?_; refine st (ok_assign rfl) rfl rfl ?_) | (refine gLoad ?_; refine st (ok_loadA rfl (by rfl)) rfl rfl ?_) | (refine gBin ?_; refine st (ok_bin rfl rfl rfl) rfl rfl ?_) | (refine gPick ?_; first | refine st (ok_pickTA rfl rfl) rfl rfl ?_ | refine st (ok_pickFA rfl rfl) rfl rfl ?_) | (refine gNot ?_; refine st (ok_notD rfl) rfl rfl ?_) | (refine gExtract ?_; refine st (ok_extract rfl rfl) rfl rfl ?_) | (refine gCall ?_; refine st (ok_call rfl rfl rfl (by first | exact hfine | exact hB | exact hX | exact hY)) rfl rfl ?_) | (refine gBox ?_; refine st (ok_box rfl) rfl rfl ?_)) | (refine gG ?_; first | (refine gMove ?_; refine stGA rfl (ok_move rfl) rfl rfl ?_) | (refine gBin ?_; refine stGA rfl (ok_bin rfl rfl rfl) rfl rfl ?_) | (refine gLen ?_; refine stGA rfl (ok_len rfl) rfl rfl ?_) | (refine gCall ?_; refine stGA rfl (ok_call rfl rfl rfl (by exact works_ev rfl)) rfl rfl ?_)) | refine W_seq ?_ | refine W_region ?_ | refine st_nil ?_ | refine tq_n ?_ | refine tq_r ?_ | refine W_skip ?_ | refine W_ret ?_ | refine W_condTA rfl ?_ | refine W_condFA rfl ?_)
      all_goals exact ret0 (.tmp rfl .nil) (.plain rfl rfl) ⟨rfl, rfl⟩
  · refine acall_intro 1 180 Try.func12 rfl rfl rfl rfl rfl ?_
    repeat' (first | (refine gU ?_; first | (refine gMove ?_; refine st (ok_move rfl) rfl rfl ?_) | (refine gAssign ?_; refine st (ok_assign rfl) rfl rfl ?_) | (refine gLoad ?_; refine st (ok_loadA rfl (by rfl)) rfl rfl ?_) | (refine gNot ?_; refine st (ok_notD rfl) rfl rfl ?_) | (refine gCall ?_; refine st (ok_call rfl rfl rfl (by first | exact hfine | exact works_ev rfl)) rfl rfl ?_) | (refine gBox ?_; refine st (ok_box rfl) rfl rfl ?_)) | refine W_seq ?_ | refine W_region ?_ | refine st_nil ?_ | refine tq_n ?_ | refine tq_r ?_ | refine W_ret ?_ | refine W_condTA rfl ?_)
    all_goals exact ret0 (.tmp rfl .nil) (.plain rfl rfl) ⟨rfl, rfl⟩
end Go.Proofs.Ytindbippegiopaa
namespace Go.AH.Hone
open Go Go.AH Go.Proofs.Ytindbippegiopaa
def keenerE (e : Ed) (k0 k1 : Int) : Ed := ⟨max 0 (e.d - k0), max 0 (e.b - k1)⟩
def lessE (goal : Ed) (l0 l1 : Int) : Ed := ⟨min 100 (goal.d + l0), min 6 (goal.b + l1)⟩
section
variable {l : List Sn} {goal e : Ed} {k0 k1 l0 l1 : Int}
theorem keener_ok (he : ¬ badEd e) (h0 : 0 ≤ k0) (h1 : 0 ≤ k1) : ¬ badEd (keenerE e k0 k1) ∧ keen (keenerE e k0 k1) e := by
  unfold badEd keen keenerE at *; simp only; omega
theorem less_ok (hg : ¬ badEd goal) (h0 : 0 ≤ l0) (h1 : 0 ≤ l1) : ¬ badEd (lessE goal l0 l1) ∧ keen goal (lessE goal l0 l1) := by
  unfold badEd keen lessE at *; simp only; omega
theorem ask_of (h : askE l e goal = 0) {x y : Ed} (hx : ¬ badEd x) (hy : ¬ badEd y) : askE l x y = 0 := by
  obtain ⟨g1, g2, g3⟩ := askE_zero h
  unfold askE; rw [if_neg (by omega), if_neg (fun h => h.elim hx hy)]
theorem fw_mono {l' : List Sn} {goal' e' : Ed} (ha : askE l e goal = 0) (ha' : askE l' e' goal' = 0) (h : ∀ n, pathTo l goal n e → pathTo l' goal' n e') : fwV l' e' goal' ≤ fwV l e goal := by
  obtain ⟨g1, g2, g3⟩ := askE_zero ha
  obtain ⟨_, _, hl⟩ := boxE_zero g1
  obtain ⟨g1', g2', g3'⟩ := askE_zero ha'
  obtain ⟨_, _, hl'⟩ := boxE_zero g1'
  have h7 := needs_le (l := l') (goal := goal') (e := e') g3'
  unfold fwV
  by_cases hn : needsV l goal e < 0
  · rw [if_pos hn]; split <;> omega
  · have := needs_mono hl g3 g2 hl' g3' g2' h (by omega)
    rw [if_neg hn, if_neg (by omega)]; omega
theorem fw_keener (ha : askE l e goal = 0) {x : Ed} (hx : ¬ badEd x) (hk : keen x e) : fwV l x goal ≤ fwV l e goal := fw_mono ha (ask_of ha hx (askE_zero ha).2.2) fun n => path_keener n x e hk
theorem fw_less (ha : askE l e goal = 0) {y : Ed} (hy : ¬ badEd y) (hk : keen goal y) : fwV l e y ≤ fwV l e goal := fw_mono ha (ask_of ha (askE_zero ha).2.1 hy) fun n => path_goal hk n e
theorem gs_app {l : List Sn} {s : Sn} {i : Nat} (h : i < l.length) : gs (l ++ [s]) i = gs l i := by simp only [gs, List.getD_eq_getElem?_getD]; rw [List.getElem?_append_left h]
theorem fw_more (ha : askE l e goal = 0) {s : Sn} (ha' : askE (l ++ [s]) e goal = 0) : fwV (l ++ [s]) e goal ≤ fwV l e goal :=
  fw_mono ha ha' fun n => path_box (fun i hi => ⟨i, by simp; omega, gs_app hi⟩) n e
theorem after_keener (ha : askE l e goal = 0) {x : Ed} (hx : ¬ badEd x) (hk : keen x e) {ks : List Int} (h : (afterV l e ks).1 = 0) : (afterV l x ks).1 = 0 ∧ keen (afterV l x ks).2 (afterV l e ks).2 := by
  obtain ⟨h1, h2, h3, h4⟩ := after_zero h
  obtain ⟨b, h5, h6⟩ := aftL_keener _ x e _ hk h4
  have e1 : zs (natsOf ks) = ks := by
    have h9 : ∀ i < ks.length, 0 ≤ gi ks i := fun i hi => by
      unfold afterV at h
      rw [if_neg (by omega)] at h
      unfold afterE at h
      rw [if_neg (by omega)] at h
      by_cases hb : badIx 0 ((l.length : Int) - 1) ks ≥ 0
      · rw [if_pos hb] at h; cases h
      · exact (after_loop_facts hb hi).1
    refine List.ext_getElem (by simp [zs, natsOf]) fun i hi hi' => ?_
    have := h9 i hi'
    simp only [gi, List.getD_eq_getElem?_getD, List.getElem?_eq_getElem hi', Option.getD_some] at this
    simp only [zs, natsOf, List.getElem_map]
    show ((ks[i].toNat : Nat) : Int) = ks[i]
    omega
  have := after_list (l := l) (e := x) (p := natsOf ks) (x := b) (ask_of ha hx hx) (by simp [natsOf]; omega) h3 h5
  rw [e1] at this
  rw [this]; exact ⟨rfl, h6⟩
theorem best_keener (ha : askE l e goal = 0) (hn : 0 ≤ needsV l goal e) {x : Ed} (hx : ¬ badEd x) (hk : keen x e) : ∃ c, afterV l x (bestL l e goal) = (0, c) ∧ keen c goal := by
  obtain ⟨g1, g2, g3⟩ := askE_zero ha
  obtain ⟨_, _, hl⟩ := boxE_zero g1
  have hE : bestE l e goal = 0 := by unfold bestE; rw [if_neg (by omega), if_neg (by omega)]
  obtain ⟨b1, e', b2, b3⟩ := best_after hl g3 (needsV l goal e).toNat e g2 (by omega)
  obtain ⟨c, h5, h6⟩ := aftL_keener _ x e _ hk b2
  have h7 := needs_le (l := l) (goal := goal) (e := e) g3
  refine ⟨c, ?_, keen_trans h6 b3⟩
  unfold bestL
  rw [if_neg (by omega)]
  exact after_list (ask_of ha hx hx) (by rw [bestS_len]; omega) b1 h5
end
end Go.AH.Hone
namespace Go.Proofs.Ytindbippegiopaa
open Go Go.AH
attribute [local irreducible] WOps WCode WFree retQ thenQ blockQ scopeQ OpOk ACall RetRef roundA roundB
set_option maxRecDepth 100000
set_option maxHeartbeats 1000000
open Go.AH.Hone
theorem edge_ok (d b : Int) : Ev Try.prog 43 [.int .i64 d, .int .i64 b] [] (.agg #[.int .i64 d, .int .i64 b]) [] := by
  refine acall_intro 0 8 Try.func43 rfl rfl rfl rfl rfl ?_
  repeat' (first | (refine gU ?_; first | (refine gMove ?_; refine st (ok_move rfl) rfl rfl ?_) | (refine gBuild ?_; refine st (ok_build (by rfl) rfl (by rfl)) rfl rfl ?_) | (refine gAlloc ?_; refine st (ok_alloc rfl) rfl rfl ?_) | (refine gStore ?_; refine stN (ok_store rfl rfl rfl rfl (by rfl)) rfl ?_)) | refine W_seq ?_ | refine W_region ?_ | refine st_nil ?_ | refine tq_n ?_ | refine W_ret ?_)
  exact ret0 (.cellN inferInstance rfl rfl .nil) (.plain rfl rfl) ⟨rfl, rfl⟩
theorem fineV_ev {σ : Heap} {l : List Sn} {e goal : Ed} {x n : Nat} (hn : l.length = n) (hx : arrAt σ x (stonesC l)) (hN : n ≤ 9223372036854775807) (hni : σ.all (fun o => !isIter o) = true) :
    Ev Try.prog 40 [slvV x 3 n, e.val, goal.val] σ (.bool (decide (askE l e goal = 0))) σ := by
  subst hn
  exact Ev.arrs [stonesC l] [x] (fine_ok l e goal l.length hN) ⟨hx, trivial⟩ ⟨vsub_slvR (by simp) (by simp [bsR]), vrel_plain _ rfl, vrel_plain _ rfl, trivial⟩ (by simp [stonesC_plain]) rfl hni
theorem fewestV_ev {σ : Heap} {l : List Sn} {e goal : Ed} {x n : Nat} (hn : l.length = n) (hx : arrAt σ x (stonesC l)) (hN : n ≤ 1000000) (ha : askE l e goal = 0) (hni : σ.all (fun o => !isIter o) = true) :
    Ev Try.prog 44 [slvV x 3 n, e.val, goal.val] σ (.tuple #[.int .i64 (fwV l e goal), .bool true]) σ := by
  subst hn
  exact Ev.arrs [stonesC l] [x] (fewest44_ok l e goal l.length hN ha) ⟨hx, trivial⟩ ⟨vsub_slvR (by simp) (by simp [bsR]), vrel_plain _ rfl, vrel_plain _ rfl, trivial⟩ (by simp [stonesC_plain]) rfl hni
theorem stonesC_app (l : List Sn) (s : Sn) : stonesC (l ++ [s]) = stonesC l ++ s.cells := by simp [stonesC]
theorem hc_k11 (l : List Sn) (e goal : Ed) (k0 k1 l0 l1 : Int) (more : Sn) (ks : List Int) (a b : Ed) : HClosed 11 [.ro (stonesC l), .ro (ints ks), .rw e.cells, .rw goal.cells, .rw [.int .u8 k0, .int .u8 k1], .rw [.int .u8 l0, .int .u8 l1], .rw more.cells, .rw (Ed.cells (keenerE e k0 k1)), .rw (Ed.cells (lessE goal l0 l1)), .rw a.cells, .rw b.cells] :=
  ⟨plainL_closed (stonesC_plain l), plainL_closed (ints_plain ks), plainL_closed rfl, plainL_closed rfl, plainL_closed rfl, plainL_closed rfl, plainL_closed rfl, plainL_closed rfl, plainL_closed rfl, plainL_closed rfl, plainL_closed rfl, trivial⟩
theorem honeKeener_law (l : List Sn) (e goal : Ed) (k0 k1 l0 l1 : Int) (more : Sn) (ks : List Int) (c c2 : Nat) (hN : l.length ≤ 9223372036854775807) (hM : ks.length ≤ 9223372036854775807)
    (hk0 : 0 ≤ k0 ∧ k0 ≤ 255) (hk1 : 0 ≤ k1 ∧ k1 ≤ 255) (hl0 : 0 ≤ l0 ∧ l0 ≤ 255) (hl1 : 0 ≤ l1 ∧ l1 ≤ 255) :
    Ev Try.prog 10 [.slice (some ⟨0, 0, none⟩) l.length c, e.val, goal.val, .agg #[.int .u8 k0, .int .u8 k1], .agg #[.int .u8 l0, .int .u8 l1], more.val, .slice (some ⟨1, 0, none⟩) ks.length c2] [.ro (stonesC l), .ro (ints ks)] (.bool true) [.ro (stonesC l), .ro (ints ks)] := by
  have hfine := fine_ev (σ := [.ro (stonesC l), .ro (ints ks), .rw e.cells, .rw goal.cells, .rw [.int .u8 k0, .int .u8 k1], .rw [.int .u8 l0, .int .u8 l1], .rw more.cells]) (l := l) (e := e) (goal := goal) (x := 0) (c := c) (.inl rfl) hN rfl
  by_cases ha : askE l e goal = 0
  · by_cases hk : (ks.length : Int) > 800
    · refine acall_intro 2 192 Try.func10 rfl rfl rfl rfl rfl ?_
      repeat' (first | (refine gU ?_; first | (refine gMove ?_; refine st (ok_move rfl) rfl rfl ?_) | (refine gAssign ?_; refine st (ok_assign rfl) rfl rfl ?_) | (refine gLoad ?_; refine st (ok_loadA rfl (by rfl)) rfl rfl ?_) | (refine gPick ?_; refine st (ok_pickFA rfl rfl) rfl rfl ?_) | (refine gNot ?_; refine st (ok_notD rfl) rfl rfl ?_) | (refine gCall ?_; refine st (ok_call rfl rfl rfl (by first | exact hfine | exact works_ev rfl)) rfl rfl ?_) | (refine gBox ?_; refine st (ok_box rfl) rfl rfl ?_)) | (refine gG ?_; first | (refine gMove ?_; refine stGA rfl (ok_move rfl) rfl rfl ?_) | (refine gBin ?_; refine stGA rfl (ok_bin rfl rfl rfl) rfl rfl ?_) | (refine gLen ?_; refine stGA rfl (ok_len rfl) rfl rfl ?_)) | refine W_seq ?_ | refine W_region ?_ | refine st_nil ?_ | refine tq_n ?_ | refine tq_r ?_ | refine W_ret ?_ | refine W_condTA rfl ?_)
      all_goals exact ret0 (.tmp rfl .nil) (.plain rfl rfl) ⟨rfl, rfl⟩
    · obtain ⟨g1, g2, g3⟩ := askE_zero ha
      obtain ⟨hs1, hs2⟩ := ask_small ha
      obtain ⟨_, _, hl⟩ := boxE_zero g1
      obtain ⟨x1, x2⟩ := keener_ok g2 hk0.1 hk1.1
      obtain ⟨y1, y2⟩ := less_ok g3 hl0.1 hl1.1
      have hbd : 0 ≤ e.d ∧ e.d ≤ 100 ∧ 0 ≤ e.b ∧ e.b ≤ 6 := by unfold badEd at g2; omega
      have hbg : 0 ≤ goal.d ∧ goal.d ≤ 100 ∧ 0 ≤ goal.b ∧ goal.b ≤ 6 := by unfold badEd at g3; omega
      have hA := after_ev (σ := [.ro (stonesC l), .ro (ints ks), .rw e.cells, .rw goal.cells, .rw [.int .u8 k0, .int .u8 k1], .rw [.int .u8 l0, .int .u8 l1], .rw more.cells, .rw (Ed.cells (keenerE e k0 k1)), .rw (Ed.cells (lessE goal l0 l1))]) (l := l) (e := e) (ks := ks) (x := 0) (y := 1) (c := c) (c2 := c2) (.inl rfl) (.inl rfl) (by omega) (by omega) rfl
      have hA2 := fun a => after_ev (σ := [.ro (stonesC l), .ro (ints ks), .rw e.cells, .rw goal.cells, .rw [.int .u8 k0, .int .u8 k1], .rw [.int .u8 l0, .int .u8 l1], .rw more.cells, .rw (Ed.cells (keenerE e k0 k1)), .rw (Ed.cells (lessE goal l0 l1)), .rw (Ed.cells a)]) (l := l) (e := keenerE e k0 k1) (ks := ks) (x := 0) (y := 1) (c := c) (c2 := c2) (.inl rfl) (.inl rfl) (by omega) (by omega) rfl
      replace hA2 := hA2 (afterV l e ks).2
      have hkk := fun h => after_keener ha x1 x2 (ks := ks) h
      have w1 := fw_keener ha x1 x2
      have w2 := fw_less ha y1 y2
      generalize afterV l e ks = r at *
      generalize afterV l (keenerE e k0 k1) ks = r2 at *
      obtain ⟨f, a⟩ := r
      obtain ⟨f2, b⟩ := r2
      simp only [afterT] at hA hA2 hkk
      have hz : f = 0 → f2 = 0 := fun h => (hkk h).1
      have hK : f = 0 → Ev Try.prog 41 [b.val, a.val] [.ro (stonesC l), .ro (ints ks), .rw e.cells, .rw goal.cells, .rw [.int .u8 k0, .int .u8 k1], .rw [.int .u8 l0, .int .u8 l1], .rw more.cells, .rw (Ed.cells (keenerE e k0 k1)), .rw (Ed.cells (lessE goal l0 l1)), .rw a.cells, .rw b.cells] (.bool true) [.ro (stonesC l), .ro (ints ks), .rw e.cells, .rw goal.cells, .rw [.int .u8 k0, .int .u8 k1], .rw [.int .u8 l0, .int .u8 l1], .rw more.cells, .rw (Ed.cells (keenerE e k0 k1)), .rw (Ed.cells (lessE goal l0 l1)), .rw a.cells, .rw b.cells] := fun h => by
        have := keen_ev (σ := [.ro (stonesC l), .ro (ints ks), .rw e.cells, .rw goal.cells, .rw [.int .u8 k0, .int .u8 k1], .rw [.int .u8 l0, .int .u8 l1], .rw more.cells, .rw (Ed.cells (keenerE e k0 k1)), .rw (Ed.cells (lessE goal l0 l1)), .rw a.cells, .rw b.cells]) (e := b) (goal := a) rfl
        rwa [decide_eq_true (hkk h).2] at this
      have hf1 := fewest44_ev (σ := [.ro (stonesC l), .ro (ints ks), .rw e.cells, .rw goal.cells, .rw [.int .u8 k0, .int .u8 k1], .rw [.int .u8 l0, .int .u8 l1], .rw more.cells, .rw (Ed.cells (keenerE e k0 k1)), .rw (Ed.cells (lessE goal l0 l1)), .rw a.cells, .rw b.cells]) (l := l) (e := e) (goal := goal) (x := 0) (c := c) (.inl rfl) (by omega) ha rfl
      have hf2 := fewest44_ev (σ := [.ro (stonesC l), .ro (ints ks), .rw e.cells, .rw goal.cells, .rw [.int .u8 k0, .int .u8 k1], .rw [.int .u8 l0, .int .u8 l1], .rw more.cells, .rw (Ed.cells (keenerE e k0 k1)), .rw (Ed.cells (lessE goal l0 l1)), .rw a.cells, .rw b.cells]) (l := l) (e := keenerE e k0 k1) (goal := goal) (x := 0) (c := c) (.inl rfl) (by omega) (ask_of ha x1 g3) rfl
      have hf3 := fewest44_ev (σ := [.ro (stonesC l), .ro (ints ks), .rw e.cells, .rw goal.cells, .rw [.int .u8 k0, .int .u8 k1], .rw [.int .u8 l0, .int .u8 l1], .rw more.cells, .rw (Ed.cells (keenerE e k0 k1)), .rw (Ed.cells (lessE goal l0 l1)), .rw a.cells, .rw b.cells]) (l := l) (e := e) (goal := lessE goal l0 l1) (x := 0) (c := c) (.inl rfl) (by omega) (ask_of ha g2 y1) rfl
      have hcs : ∀ σ' : Heap, cellsAt (.ro (stonesC l) :: σ') 0 0 (l.length * 3) = some (stonesC l) := fun σ' => by
        have := cellsAt_arr (σ := .ro (stonesC l) :: σ') (b := 0) (cs := stonesC l) (.inl rfl)
        rwa [stonesC_len, Nat.mul_comm] at this
      have hone := stonesC_cell1 l
      have hlen1 : (stonesC l).length = l.length * 3 := by rw [stonesC_len]; omega
      refine acall_intro 2 192 Try.func10 rfl rfl rfl rfl rfl ?_
      repeat' (first | (refine gU ?_; first | (refine gMove ?_; refine st (ok_move rfl) rfl rfl ?_) | (refine gAssign ?_; refine st (ok_assign rfl) rfl rfl ?_) | (refine gFA ?_; refine st (ok_fieldAddr rfl) rfl rfl ?_) | (refine gLoad ?_; first | refine st (ok_load rfl (by rfl)) rfl rfl ?_ | refine st (ok_loadA rfl (by rfl)) rfl rfl ?_) | (refine gAdd ?_; refine st (ok_add rfl rfl (by omega) (by omega)) rfl rfl ?_) | (refine gSub ?_; refine st (ok_sub rfl rfl (by omega) (by omega)) rfl rfl ?_) | (refine gBin ?_; refine st (ok_bin rfl rfl rfl) rfl rfl ?_) | (refine gPick ?_; first | refine st (ok_pickTA rfl rfl) rfl rfl ?_ | refine st (ok_pickFA rfl rfl) rfl rfl ?_) | (refine gNot ?_; first | refine st (ok_notD rfl) rfl rfl ?_ | refine st (ok_not' rfl) rfl rfl ?_) | (refine gExtract ?_; refine st (ok_extract rfl rfl) rfl rfl ?_) | (refine gIA ?_; refine st (ok_idxA rfl rfl (by omega) (by omega)) rfl rfl ?_) | (refine gMax ?_; refine st (ok_max rfl rfl) rfl rfl ?_) | (refine gMin ?_; refine st (ok_min rfl rfl) rfl rfl ?_) | (refine gConv ?_; refine st (ok_convK rfl (by omega) (by omega)) rfl rfl ?_) | (refine gCall ?_; refine st (ok_call rfl rfl rfl (by first | exact hfine | exact Ev.nil (edge_ok _ _) rfl rfl rfl | exact hA | exact hA2 | exact hf1 | exact hf2 | exact hf3)) rfl rfl ?_) | (refine gBox ?_; refine st (ok_box rfl) rfl rfl ?_) | (refine gAlloc ?_; refine st (ok_alloc rfl) rfl rfl ?_) | (refine gBuildS ?_; first | refine st (ok_buildS (by rfl) (by rfl) (by rfl) (by rfl) rfl (by rfl)) rfl rfl ?_ | refine st (ok_buildS0) rfl rfl ?_) | (refine gApp ?_; first | refine st (ok_appendV (by rfl) (by rfl) rfl (by rfl) (by exact hlen1) rfl (by rfl) (by omega) (by rfl) (by omega) (by omega)) rfl rfl ?_ | refine st (ok_appendE (by rfl) rfl rfl (by exact hcs _) (by omega) (by omega) (by omega)) rfl rfl ?_) | (refine gStore ?_; refine stN (ok_store rfl rfl rfl rfl (by rfl)) rfl ?_)) | (refine gG ?_; first | (refine gMove ?_; refine stGA rfl (ok_move rfl) rfl rfl ?_) | (refine gLoad ?_; refine stGA rfl (ok_loadA rfl (by rfl)) rfl rfl ?_) | (refine gBin ?_; refine stGA rfl (ok_bin rfl rfl rfl) rfl rfl ?_) | (refine gLen ?_; refine stGA rfl (ok_len rfl) rfl rfl ?_) | (refine gPick ?_; refine stGA rfl (ok_pickFA rfl rfl) rfl rfl ?_) | (refine gNot ?_; refine stGA rfl (ok_not' rfl) rfl rfl ?_) | (refine gCall ?_; refine stGA rfl (ok_call rfl rfl rfl (by exact hK (by omega))) rfl rfl ?_) | refine stSU rfl rfl ?_ | refine stSA rfl rfl ?_ | ((fail_if_success (refine stGkA rfl ?_)); (refine stGdD rfl ?_ ?_ <;> intro _))) | refine W_seq ?_ | refine W_stop (id := 15) ?_ | refine W_region ?_ | refine W_regionA (id := 14) (by kernel_rfl) ?_ | refine st_nil ?_ | refine wa_doneA ?_ | refine wa_two 0 3 rfl rfl ?_ ?_ | refine wa_two 2 3 rfl rfl ?_ ?_ | refine wa_two 0 4 rfl rfl ?_ ?_ | refine wa_two 2 4 rfl rfl ?_ ?_ | refine wa_pureA 1 rfl rfl ?_ | refine wa_pureA 6 rfl rfl ?_ | refine wa_oneA 0 rfl ?_ | refine wa_oneA 2 rfl ?_ | refine wa_oneA 3 rfl ?_ | refine wa_oneA 4 rfl ?_ | refine wa_oneA 5 rfl ?_ | refine tq_n ?_ | refine W_skip ?_ | refine W_condFA rfl ?_)
      all_goals
        rename_i hx
        clear hx
        refine ⟨?_⟩
        refine W_st (by simp) (StRef.src [.ro (stonesC l), .ro (ints ks), .rw e.cells, .rw goal.cells, .rw [.int .u8 k0, .int .u8 k1], .rw [.int .u8 l0, .int .u8 l1], .rw more.cells, .rw (Ed.cells (keenerE e k0 k1)), .rw (Ed.cells (lessE goal l0 l1)), .rw a.cells, .rw b.cells] [.gr (stonesC (l ++ [more])) 54] [14] (by simp) rfl (hc_k11 l e goal k0 k1 l0 l1 more ks a b) rfl rfl ⟨osub_gr rfl (by rw [stonesC_app]; rfl) (stonesC_plain _), trivial⟩ (e2 := [(0, .slice (some ⟨0, 0, none⟩) l.length c), (8, .pointer (some ⟨2, 0, none⟩)), (9, .pointer (some ⟨3, 0, none⟩)), (15, .pointer (some ⟨7, 0, none⟩)), (21, .int .i64 (fwV l e goal)), (27, slvV 11 3 (l.length + 1))]) (by (repeat' (first | exact trivial | refine ⟨er_plain rfl rfl, ?_⟩ | refine ⟨er_closed (m := 11) rfl (fun i hi => srcR_lt hi) (by simp) (by first | rfl | exact closed_slice rfl) rfl, ?_⟩ | refine ⟨er_slvV rfl (by simp) rfl, ?_⟩)))) ?tail
      case' tail => skip
      clear hA hA2 hK hf1 hf2 hf3 hcs
      apply W_region
      have hfz := fineV_ev (σ := [.ro (stonesC l), .ro (ints ks), .rw e.cells, .rw goal.cells, .rw [.int .u8 k0, .int .u8 k1], .rw [.int .u8 l0, .int .u8 l1], .rw more.cells, .rw (Ed.cells (keenerE e k0 k1)), .rw (Ed.cells (lessE goal l0 l1)), .rw a.cells, .rw b.cells, .gr (stonesC (l ++ [more])) 54]) (l := l ++ [more]) (e := e) (goal := goal) (x := 11) (n := l.length + 1) (by simp) (.inr (.inr ⟨_, rfl⟩)) (by omega) rfl
      have hB := best_ev (σ := [.ro (stonesC l), .ro (ints ks), .rw e.cells, .rw goal.cells, .rw [.int .u8 k0, .int .u8 k1], .rw [.int .u8 l0, .int .u8 l1], .rw more.cells, .rw (Ed.cells (keenerE e k0 k1)), .rw (Ed.cells (lessE goal l0 l1)), .rw a.cells, .rw b.cells, .gr (stonesC (l ++ [more])) 54]) (l := l) (e := e) (goal := goal) (x := 0) (c := c) (.inl rfl) (by omega) rfl
      by_cases hn : 0 ≤ needsV l goal e
      · obtain ⟨d, d1, d2⟩ := best_keener ha hn x1 x2
        have hE : bestE l e goal = 0 := by unfold bestE; rw [if_neg (by omega), if_neg (by omega)]
        rw [hE] at hB
        have hBl := bestL_le l e goal
        have hA3 := fun B hB => after_ev (σ := [.ro (stonesC l), .ro (ints ks), .rw e.cells, .rw goal.cells, .rw [.int .u8 k0, .int .u8 k1], .rw [.int .u8 l0, .int .u8 l1], .rw more.cells, .rw (Ed.cells (keenerE e k0 k1)), .rw (Ed.cells (lessE goal l0 l1)), .rw a.cells, .rw b.cells, .gr (stonesC (l ++ [more])) 54, .rw (ints B)]) (l := l) (e := keenerE e k0 k1) (ks := B) (x := 0) (y := 12) (c := c) (c2 := B.length) (.inl rfl) (.inr (.inl rfl)) (by omega) hB rfl
        replace hA3 := hA3 (bestL l e goal) (by omega)
        rw [d1] at hA3
        simp only [afterT] at hA3
        generalize bestL l e goal = B at *
        have hK2 := keen_ev (σ := [.ro (stonesC l), .ro (ints ks), .rw e.cells, .rw goal.cells, .rw [.int .u8 k0, .int .u8 k1], .rw [.int .u8 l0, .int .u8 l1], .rw more.cells, .rw (Ed.cells (keenerE e k0 k1)), .rw (Ed.cells (lessE goal l0 l1)), .rw a.cells, .rw b.cells, .gr (stonesC (l ++ [more])) 54, .rw (ints B), .rw d.cells]) (e := d) (goal := goal) rfl
        rw [decide_eq_true d2] at hK2
        by_cases haz : askE (l ++ [more]) e goal = 0
        · have hf4 := fewestV_ev (σ := [.ro (stonesC l), .ro (ints ks), .rw e.cells, .rw goal.cells, .rw [.int .u8 k0, .int .u8 k1], .rw [.int .u8 l0, .int .u8 l1], .rw more.cells, .rw (Ed.cells (keenerE e k0 k1)), .rw (Ed.cells (lessE goal l0 l1)), .rw a.cells, .rw b.cells, .gr (stonesC (l ++ [more])) 54]) (l := l ++ [more]) (e := e) (goal := goal) (x := 11) (n := l.length + 1) (by simp) (.inr (.inr ⟨_, rfl⟩)) (by omega) haz rfl
          have w3 := fw_more ha haz
          repeat' (first | (refine gU ?_; first | (refine gMove ?_; refine st (ok_move rfl) rfl rfl ?_) | (refine gAssign ?_; refine st (ok_assign rfl) rfl rfl ?_) | (refine gLoad ?_; refine st (ok_loadA rfl (by rfl)) rfl rfl ?_) | (refine gBin ?_; refine st (ok_bin rfl rfl rfl) rfl rfl ?_) | (refine gPick ?_; first | refine st (ok_pickTA rfl rfl) rfl rfl ?_ | refine st (ok_pickFA rfl rfl) rfl rfl ?_) | (refine gNot ?_; refine st (ok_not' rfl) rfl rfl ?_) | (refine gExtract ?_; refine st (ok_extract rfl rfl) rfl rfl ?_) | (refine gCall ?_; refine st (ok_call rfl rfl rfl (by first | exact hfz | exact hf4 | exact hB | exact hA3)) rfl rfl ?_) | (refine gAlloc ?_; refine st (ok_alloc rfl) rfl rfl ?_) | (refine gStore ?_; refine stN (ok_store rfl rfl rfl rfl (by rfl)) rfl ?_)) | (refine gG ?_; first | (refine gMove ?_; refine stGA rfl (ok_move rfl) rfl rfl ?_) | (refine gLoad ?_; refine stGA rfl (ok_loadA rfl (by rfl)) rfl rfl ?_) | (refine gBin ?_; refine stGA rfl (ok_bin rfl rfl rfl) rfl rfl ?_) | (refine gCall ?_; refine stGA rfl (ok_call rfl rfl rfl (by first | exact works_ev rfl | exact hK2)) rfl rfl ?_)) | refine W_seq ?_ | refine W_region ?_ | refine st_nil ?_ | refine tq_n ?_ | refine W_skip ?_ | refine W_ret ?_ | refine W_condTA rfl ?_ | refine W_condFA rfl ?_)
          all_goals exact ret0 (.tmp rfl .nil) (.plain rfl rfl) ⟨rfl, rfl⟩
        · repeat' (first | (refine gU ?_; first | (refine gMove ?_; refine st (ok_move rfl) rfl rfl ?_) | (refine gAssign ?_; refine st (ok_assign rfl) rfl rfl ?_) | (refine gLoad ?_; refine st (ok_loadA rfl (by rfl)) rfl rfl ?_) | (refine gBin ?_; refine st (ok_bin rfl rfl rfl) rfl rfl ?_) | (refine gPick ?_; refine st (ok_pickTA rfl rfl) rfl rfl ?_) | (refine gExtract ?_; refine st (ok_extract rfl rfl) rfl rfl ?_) | (refine gCall ?_; refine st (ok_call rfl rfl rfl (by first | exact hfz | exact hB | exact hA3)) rfl rfl ?_) | (refine gAlloc ?_; refine st (ok_alloc rfl) rfl rfl ?_) | (refine gStore ?_; refine stN (ok_store rfl rfl rfl rfl (by rfl)) rfl ?_)) | (refine gG ?_; first | (refine gLoad ?_; refine stGA rfl (ok_loadA rfl (by rfl)) rfl rfl ?_) | (refine gCall ?_; refine stGA rfl (ok_call rfl rfl rfl (by first | exact works_ev rfl | exact hK2)) rfl rfl ?_)) | refine W_seq ?_ | refine W_region ?_ | refine st_nil ?_ | refine tq_n ?_ | refine W_skip ?_ | refine W_ret ?_ | refine W_condFA rfl ?_)
          all_goals exact ret0 (.tmp rfl .nil) (.plain rfl rfl) ⟨rfl, rfl⟩
      · have hE : bestE l e goal = 13 := by unfold bestE; rw [if_neg (by omega), if_pos (by omega)]
        rw [hE] at hB
        generalize bestL l e goal = B at *
        by_cases haz : askE (l ++ [more]) e goal = 0
        · have hf4 := fewestV_ev (σ := [.ro (stonesC l), .ro (ints ks), .rw e.cells, .rw goal.cells, .rw [.int .u8 k0, .int .u8 k1], .rw [.int .u8 l0, .int .u8 l1], .rw more.cells, .rw (Ed.cells (keenerE e k0 k1)), .rw (Ed.cells (lessE goal l0 l1)), .rw a.cells, .rw b.cells, .gr (stonesC (l ++ [more])) 54]) (l := l ++ [more]) (e := e) (goal := goal) (x := 11) (n := l.length + 1) (by simp) (.inr (.inr ⟨_, rfl⟩)) (by omega) haz rfl
          have w3 := fw_more ha haz
          repeat' (first | (refine gU ?_; first | (refine gMove ?_; refine st (ok_move rfl) rfl rfl ?_) | (refine gAssign ?_; refine st (ok_assign rfl) rfl rfl ?_) | (refine gLoad ?_; refine st (ok_loadA rfl (by rfl)) rfl rfl ?_) | (refine gBin ?_; refine st (ok_bin rfl rfl rfl) rfl rfl ?_) | (refine gPick ?_; refine st (ok_pickFA rfl rfl) rfl rfl ?_) | (refine gNot ?_; refine st (ok_not' rfl) rfl rfl ?_) | (refine gExtract ?_; refine st (ok_extract rfl rfl) rfl rfl ?_) | (refine gCall ?_; refine st (ok_call rfl rfl rfl (by first | exact works_ev rfl | exact hfz | exact hf4 | exact hB)) rfl rfl ?_)) | (refine gG ?_; first | (refine gMove ?_; refine stGA rfl (ok_move rfl) rfl rfl ?_) | (refine gBin ?_; refine stGA rfl (ok_bin rfl rfl rfl) rfl rfl ?_)) | refine W_seq ?_ | refine W_region ?_ | refine st_nil ?_ | refine tq_n ?_ | refine tq_r ?_ | refine W_skip ?_ | refine W_ret ?_ | refine W_condTA rfl ?_ | refine W_condFA rfl ?_)
          all_goals exact ret0 (.tmp rfl .nil) (.plain rfl rfl) ⟨rfl, rfl⟩
        · repeat' (first | (refine gU ?_; first | (refine gMove ?_; refine st (ok_move rfl) rfl rfl ?_) | (refine gAssign ?_; refine st (ok_assign rfl) rfl rfl ?_) | (refine gLoad ?_; refine st (ok_loadA rfl (by rfl)) rfl rfl ?_) | (refine gBin ?_; refine st (ok_bin rfl rfl rfl) rfl rfl ?_) | (refine gExtract ?_; refine st (ok_extract rfl rfl) rfl rfl ?_) | (refine gCall ?_; refine st (ok_call rfl rfl rfl (by first | exact works_ev rfl | exact hfz | exact hB)) rfl rfl ?_)) | refine W_seq ?_ | refine W_region ?_ | refine st_nil ?_ | refine tq_n ?_ | refine tq_r ?_ | refine W_skip ?_ | refine W_ret ?_ | refine W_condTA rfl ?_ | refine W_condFA rfl ?_)
          all_goals exact ret0 (.tmp rfl .nil) (.plain rfl rfl) ⟨rfl, rfl⟩
  · refine acall_intro 2 192 Try.func10 rfl rfl rfl rfl rfl ?_
    repeat' (first | (refine gU ?_; first | (refine gMove ?_; refine st (ok_move rfl) rfl rfl ?_) | (refine gAssign ?_; refine st (ok_assign rfl) rfl rfl ?_) | (refine gLoad ?_; refine st (ok_loadA rfl (by rfl)) rfl rfl ?_) | (refine gPick ?_; refine st (ok_pickTA rfl rfl) rfl rfl ?_) | (refine gNot ?_; refine st (ok_notD rfl) rfl rfl ?_) | (refine gCall ?_; refine st (ok_call rfl rfl rfl (by first | exact hfine | exact works_ev rfl)) rfl rfl ?_) | (refine gBox ?_; refine st (ok_box rfl) rfl rfl ?_)) | (refine gG ?_; refine stSA rfl rfl ?_) | refine W_seq ?_ | refine W_region ?_ | refine st_nil ?_ | refine tq_n ?_ | refine tq_r ?_ | refine W_ret ?_ | refine W_condTA rfl ?_)
    all_goals exact ret0 (.tmp rfl .nil) (.plain rfl rfl) ⟨rfl, rfl⟩
end Go.Proofs.Ytindbippegiopaa
namespace Go.AH
open Go Go.RowKit Go.WideShapes Go.ChangeShapes
section
variable {H : Type} {enc : TypeId × Value → H} {P : Program} {w : World} {base : Nat} {spare : Nat → Bool} {held : Bool}
theorem trodAll_n7 {t0 t1 t2 t3 t4 t5 t6 : TypeId} {args : Array Value} {ds : List (DataW H)} {ps : List MemPlace} (h : DataW.TrodAll enc P w base spare held [t0, t1, t2, t3, t4, t5, t6] args.toList ds ps) :
    ∃ v0 v1 v2 v3 v4 v5 v6 d0 d1 d2 d3 d4 d5 d6 p0 p1 p2 p3 p4 p5 p6, args = #[v0, v1, v2, v3, v4, v5, v6] ∧ ds = [d0, d1, d2, d3, d4, d5, d6] ∧ ps = p0 ++ p1 ++ p2 ++ p3 ++ p4 ++ p5 ++ p6 ∧ DataW.Trod enc P w base spare held t0 v0 d0 p0 ∧ DataW.Trod enc P w base spare held t1 v1 d1 p1 ∧ DataW.Trod enc P w base spare held t2 v2 d2 p2 ∧ DataW.Trod enc P w base spare held t3 v3 d3 p3 ∧ DataW.Trod enc P w base spare held t4 v4 d4 p4 ∧ DataW.Trod enc P w base spare held t5 v5 d5 p5 ∧ DataW.Trod enc P w base spare held t6 v6 d6 p6 := by
  obtain ⟨v0, vs0, d0, ds0, p0, q0, hargs, rfl, rfl, hd0, hr0⟩ := trodAll_cons h
  obtain ⟨v1, vs1, d1, ds1, p1, q1, rfl, rfl, rfl, hd1, hr1⟩ := trodAll_cons hr0
  obtain ⟨v2, vs2, d2, ds2, p2, q2, rfl, rfl, rfl, hd2, hr2⟩ := trodAll_cons hr1
  obtain ⟨v3, vs3, d3, ds3, p3, q3, rfl, rfl, rfl, hd3, hr3⟩ := trodAll_cons hr2
  obtain ⟨v4, vs4, d4, ds4, p4, q4, rfl, rfl, rfl, hd4, hr4⟩ := trodAll_cons hr3
  obtain ⟨v5, vs5, d5, ds5, p5, q5, rfl, rfl, rfl, hd5, hr5⟩ := trodAll_cons hr4
  obtain ⟨v6, vs6, d6, ds6, p6, q6, rfl, rfl, rfl, hd6, hr6⟩ := trodAll_cons hr5
  obtain ⟨rfl, rfl, rfl⟩ := trodAll_nil hr6
  exact ⟨v0, v1, v2, v3, v4, v5, v6, d0, d1, d2, d3, d4, d5, d6, p0, p1, p2, p3, p4, p5, p6, by cases args; simp_all, rfl, by simp, hd0, hd1, hd2, hd3, hd4, hd5, hd6⟩
theorem trodAll_mkn7 {t0 t1 t2 t3 t4 t5 t6 : TypeId} {v0 v1 v2 v3 v4 v5 v6 : Value} {d0 d1 d2 d3 d4 d5 d6 : DataW H} {p0 p1 p2 p3 p4 p5 p6 : List MemPlace} (h0 : DataW.Trod enc P w base spare held t0 v0 d0 p0) (h1 : DataW.Trod enc P w base spare held t1 v1 d1 p1) (h2 : DataW.Trod enc P w base spare held t2 v2 d2 p2) (h3 : DataW.Trod enc P w base spare held t3 v3 d3 p3) (h4 : DataW.Trod enc P w base spare held t4 v4 d4 p4) (h5 : DataW.Trod enc P w base spare held t5 v5 d5 p5) (h6 : DataW.Trod enc P w base spare held t6 v6 d6 p6) :
    DataW.TrodAll enc P w base spare held [t0, t1, t2, t3, t4, t5, t6] [v0, v1, v2, v3, v4, v5, v6] [d0, d1, d2, d3, d4, d5, d6] (p0 ++ (p1 ++ (p2 ++ (p3 ++ (p4 ++ (p5 ++ p6)))))) := ⟨p0, (p1 ++ (p2 ++ (p3 ++ (p4 ++ (p5 ++ p6))))), h0, trodAll_mkn6 h1 h2 h3 h4 h5 h6, rfl⟩
end
end Go.AH
