/- What Allowed and Gap of rim, and Between, best, Allowed and Gap of its reference do. Conditions: stand in each theorem. -/
import Derived.Test.YtgfnogdecggkkaaPaMJ
namespace Go.AH
open Go
theorem closed_slvV {n i sz k : Nat} (h : Nat.blt i n = true) : closed n (slvV i sz k) = true := by
  cases k <;> simp [slvV, closed, h]
section
variable {P : Program} {n0 N : Nat} {rd : Option Nat} {Q : Post} {e : Env} {mk : List Nat} {σ : Heap} {K : Env → List Nat → Heap → Prop} {all rest : List Oper}
theorem stGA {d : Nat} {op : Op} {ty : TypeId} {pos : String} {after : Array Edge} {v : Value} {σ' : Heap} {j : Nat} {b want : Bool} (hg : guardV all e j = some (.bool b))
    (h : OpOk P rd op ty e σ v σ') (hrd : rdok rd n0 = true) (hd : Nat.blt d N = true)
    (k : WOps P n0 N rd all rest K ((d, v) :: e) mk σ') (hb : b = want := by first | rfl | exact dtrue (by assumption) | exact dfalse (by assumption) | assumption | exact dtrue (by omega) | exact dfalse (by omega)) : WOps P n0 N rd all (⟨some d, op, ty, pos, after, some (j, want)⟩ :: rest) K e mk σ := stG hg hb h hrd hd k
theorem stSA {d : Nat} {op : Op} {ty : TypeId} {pos : String} {after : Array Edge} {j : Nat} {b want : Bool} (hg : guardV all e j = some (.bool b)) (hd : Nat.blt d N = true)
    (k : WOps P n0 N rd all rest K ((d, undef) :: e) mk σ) (hb : b = !want := by first | rfl | exact dtrue (by assumption) | exact dfalse (by assumption) | assumption | exact dtrue (by omega) | exact dfalse (by omega)) : WOps P n0 N rd all (⟨some d, op, ty, pos, after, some (j, want)⟩ :: rest) K e mk σ := stS hg hb hd k
theorem stGkA {d : Option Nat} {op : Op} {ty : TypeId} {pos : String} {after : Array Edge} {j : Nat} {b want : Bool} (hg : guardV all e j = some (.bool b)) (k : WOps P n0 N rd all (⟨d, op, ty, pos, after, some (j, want)⟩ :: rest) K e mk σ) (hb : b = want := by first | rfl | exact dtrue (by assumption) | exact dfalse (by assumption) | assumption | exact dtrue (by omega) | exact dfalse (by omega)) :
    WOps P n0 N rd all (⟨d, op, ty, pos, after, some (j, want)⟩ :: rest) K e mk σ := stGk hg hb k
theorem W_condTA {c : Operand} {x y : Code} {b : Bool} (hc : evalO e c = some (.bool b)) (h : WCode P n0 N rd x Q e mk σ) (hb : b = true := by first | rfl | exact dtrue (by assumption) | exact dfalse (by assumption) | assumption | exact dtrue (by omega) | exact dfalse (by omega)) : WCode P n0 N rd (.cond c x y) Q e mk σ := W_condT hc hb h
theorem W_condFA {c : Operand} {x y : Code} {b : Bool} (hc : evalO e c = some (.bool b)) (h : WCode P n0 N rd y Q e mk σ) (hb : b = false := by first | rfl | exact dtrue (by assumption) | exact dfalse (by assumption) | assumption | exact dtrue (by omega) | exact dfalse (by omega)) : WCode P n0 N rd (.cond c x y) Q e mk σ := W_condF hc hb h
end
section
variable {P : Program} {rd : Option Nat} {ty : TypeId} {e : Env} {σ : Heap} {a b c : Operand} {v : Value}
theorem ok_pickTA {t : Bool} (hc : evalO e c = some (.bool t)) (ha : evalO e a = some v) (ht : t = true := by first | rfl | exact dtrue (by assumption) | exact dfalse (by assumption) | assumption | exact dtrue (by omega) | exact dfalse (by omega)) : OpOk P rd (.pick c a b) ty e σ v σ := ok_pickT hc ht ha
theorem ok_pickFA {t : Bool} (hc : evalO e c = some (.bool t)) (hb : evalO e b = some v) (ht : t = false := by first | rfl | exact dtrue (by assumption) | exact dfalse (by assumption) | assumption | exact dtrue (by omega) | exact dfalse (by omega)) : OpOk P rd (.pick c a b) ty e σ v σ := ok_pickF hc ht hb
end
section
variable {P : Program} {N : Nat} {rd : Option Nat} {e : Env} {σ0 : Heap} {news : List (Nat × Heap)} {K : Env → List (Nat × Heap) → List Oper → Prop} {k : Nat} {all rest : List Oper} {d : Nat} {op : Op} {ty : TypeId} {pos : String} {after : Array Edge} {v : Value} {j : Nat} {b want : Bool}
theorem frA (h : OpOk P rd op ty e (σ0 ++ visN (waitsA after) news) v (σ0 ++ visN (waitsA after) news)) (hd : Nat.blt d N = true) (hk : WFree P N rd all (k + 1) rest ((d, v) :: e) σ0 news K) (hc : closed σ0.length v = true := by first | rfl | exact closed_slice rfl | exact closed_slvV rfl) :
    WFree P N rd all k (⟨some d, op, ty, pos, after, none⟩ :: rest) e σ0 news K := fr h hc hd hk
theorem frGA (hg : guardV all e j = some (.bool b)) (h : OpOk P rd op ty e (σ0 ++ visN (waitsA after) news) v (σ0 ++ visN (waitsA after) news)) (hd : Nat.blt d N = true) (hk : WFree P N rd all (k + 1) rest ((d, v) :: e) σ0 news K)
    (hb : b = want := by first | rfl | exact dtrue (by assumption) | exact dfalse (by assumption) | assumption | exact dtrue (by omega) | exact dfalse (by omega)) (hc : closed σ0.length v = true := by first | rfl | exact closed_slice rfl | exact closed_slvV rfl) : WFree P N rd all k (⟨some d, op, ty, pos, after, some (j, want)⟩ :: rest) e σ0 news K := frG hg hb h hc hd hk
theorem frSA (hg : guardV all e j = some (.bool b)) (hd : Nat.blt d N = true) (hk : WFree P N rd all (k + 1) rest ((d, undef) :: e) σ0 news K) (hb : b = !want := by first | rfl | exact dtrue (by assumption) | exact dfalse (by assumption) | assumption | exact dtrue (by omega) | exact dfalse (by omega)) :
    WFree P N rd all k (⟨some d, op, ty, pos, after, some (j, want)⟩ :: rest) e σ0 news K := frS hg hb hd hk
theorem frGkA {d : Option Nat} (hg : guardV all e j = some (.bool b)) (h : WFree P N rd all k (⟨d, op, ty, pos, after, some (j, want)⟩ :: rest) e σ0 news K) (hb : b = want := by first | rfl | exact dtrue (by assumption) | exact dfalse (by assumption) | assumption | exact dtrue (by omega) | exact dfalse (by omega)) :
    WFree P N rd all k (⟨d, op, ty, pos, after, some (j, want)⟩ :: rest) e σ0 news K := frGk hg hb h
end
end Go.AH
namespace Go.Proofs.Ytgfnogdecggkkaa
open Go Go.AH
attribute [local irreducible] WOps WCode WFree retQ thenQ blockQ OpOk ACall RetRef roundA roundB
set_option maxRecDepth 100000
set_option maxHeartbeats 1000000
theorem open_evBad {σ : Heap} {s : St} {l : List Int} {x c : Nat} (hx : arrAt σ x (ints l)) (hN : l.length ≤ 1000000) (hr : -9223372036854775808 ≤ s.short ∧ s.short ≤ 9223372036854775807) (h : checkS s l ≠ 0) (hni : σ.all (fun o => !isIter o) = true) :
    Ev Try.prog 49 [s.val, .slice (some ⟨x, 0, none⟩) l.length c] σ (.tuple #[.pointer none, .int .i64 (checkS s l)]) σ :=
  Ev.arrs [ints l] [x] (open_bad s l c hN hr h) ⟨hx, trivial⟩ ⟨vrel_plain _ rfl, by simpa [bsR] using VQ.slice (q := true) (n := 1) (ρ := bsR [x]) 0 0 l.length c c (Nat.le_refl _) (by omega), trivial⟩ (by simp [ints_plain]) rfl hni
theorem open_evOk {σ : Heap} {s : St} {l : List Int} {x c : Nat} (hx : arrAt σ x (ints l)) (hr : -9223372036854775808 ≤ s.short ∧ s.short ≤ 9223372036854775807) (h : checkS s l = 0) (hni : σ.all (fun o => !isIter o) = true) :
    Ev Try.prog 49 [s.val, .slice (some ⟨x, 0, none⟩) l.length c] σ (.tuple #[.pointer (some ⟨σ.length, 0, none⟩), .int .i64 0]) (σ ++ [.rw (rackC s (.slice (some ⟨x, 0, none⟩) l.length c) (spanAt s l) fun _ => 0)]) := by
  refine Ev.arrsN [ints l] [x] (open_ok s l c hr h) ⟨hx, trivial⟩ ⟨vrel_plain _ rfl, by simpa [bsR] using VQ.slice (q := true) (n := 1) (ρ := bsR [x]) 0 0 l.length c c (Nat.le_refl _) (by omega), trivial⟩ (by simp [ints_plain]) rfl ?_ ?_ hni
  · simp [ren, renA, renL, shf]
  · simp only [List.map_cons, List.map_nil, renO, rack_ren]
    simp [ren, shf, bsR]
theorem rack_pairAt {σ : Heap} {s : St} {tv : Value} {f : Nat → Int × Int} {g : Nat → Int} {r i : Nat} (h : arrAt σ r (rackC s tv f g)) (hi : i < 12) : cellsAt σ r (6 + i * 2) 2 = some [.int .i64 (f i).1, .int .i64 (f i).2] := by
  have h2 := rack_pair (a := .ro []) (s := s) (tv := tv) (f := f) (g := g) (r := []) hi
  unfold cellsAt at h2 ⊢
  rcases h with h | h | ⟨t, h⟩ <;> rw [h] <;> exact h2
def pairV (p : Int × Int) : Value := .agg #[.int .i64 p.1, .int .i64 p.2]
theorem spanAt_in {s : St} {l : List Int} : ∀ i < l.length, spanAt s l i = nw ∨ (s.short ≤ (spanAt s l i).1 ∧ (spanAt s l i).1 ≤ (spanAt s l i).2 ∧ (spanAt s l i).2 ≤ s.long) := by
  intro i hi
  unfold spanAt
  rw [if_pos hi]
  unfold spanR
  split
  · rename_i h
    right
    unfold span at h ⊢
    simp only at h ⊢
    omega
  · exact .inl rfl
end Go.Proofs.Ytgfnogdecggkkaa
namespace Go.Proofs.Ytgfnogdecggkkaa
open Go Go.AH
attribute [local irreducible] WOps WCode WFree retQ thenQ blockQ OpOk ACall RetRef roundA roundB
set_option maxRecDepth 100000
set_option maxHeartbeats 1000000
structure Hide (p : Prop) : Prop where
  h : p
theorem between_ok (s : St) (n : Int) (hs : ¬ badStone s) (hn : 1 ≤ n ∧ n ≤ 10000) : Ev Try.prog 51 [s.val, .int .i64 n] [] (pairV (span s n)) [] := by
  unfold badStone at hs
  have hq1 : 0 ≤ (s.lo + n - 1).tdiv n := by
    have := Int.tdiv_nonneg (a := s.lo + n - 1) (b := n) (by omega) (by omega); omega
  have hq2 : (s.lo + n - 1).tdiv n ≤ 2000000000 := by
    have := Int.tdiv_le_self (a := s.lo + n - 1) n (by omega); omega
  have hq3 : 0 ≤ s.hi.tdiv n := by
    have := Int.tdiv_nonneg (a := s.hi) (b := n) (by omega) (by omega); omega
  have hq4 : s.hi.tdiv n ≤ 2000000000 := by
    have := Int.tdiv_le_self (a := s.hi) n (by omega); omega
  refine acall_intro 0 35 Try.func51 rfl rfl rfl rfl rfl ?_
  repeat' (first | (refine gU ?_; first | (refine gMove ?_; first | refine st (ok_move rfl) rfl rfl ?_) | (refine gAssign ?_; first | refine st (ok_assign rfl) rfl rfl ?_) | (refine gFA ?_; first | refine st (ok_fieldAddr rfl) rfl rfl ?_) | (refine gLoad ?_; first | refine st (ok_load rfl (by first | rfl | assumption | exact hc1 (by omega) | exact hc2 (by omega) | exact hc3 (by omega) | exact hc4 (by omega))) rfl rfl ?_ | refine st (ok_loadA rfl (by first | rfl | assumption | exact hc1 (by omega) | exact hc2 (by omega) | exact hc3 (by omega) | exact hc4 (by omega))) rfl rfl ?_) | (refine gAdd ?_; first | refine st (ok_inc rfl rfl (by omega)) rfl rfl ?_ | refine st (ok_add rfl rfl (by omega) (by omega)) rfl rfl ?_ | refine st (ok_bin rfl rfl rfl) rfl rfl ?_) | (refine gSub ?_; first | refine st (ok_sub rfl rfl (by omega) (by omega)) rfl rfl ?_ | refine st (ok_bin rfl rfl rfl) rfl rfl ?_) | (refine gBin ?_; first | refine st (ok_quo64 rfl rfl (by omega) (by first | assumption | omega | exact hq1 (by omega) | exact hq2 (by omega) | exact hq3 (by omega) | exact hq4 (by omega)) (by first | assumption | omega | exact hq1 (by omega) | exact hq2 (by omega) | exact hq3 (by omega) | exact hq4 (by omega))) rfl rfl ?_ | refine st (ok_quo rfl rfl (by omega)) rfl rfl ?_) | (refine gMax ?_; first | refine st (ok_max rfl rfl) rfl rfl ?_) | (refine gMin ?_; first | refine st (ok_min rfl rfl) rfl rfl ?_) | (refine gBuild ?_; first | refine st (ok_build (by rfl) rfl (by rfl)) rfl rfl ?_ | refine st (ok_buildA (by rfl)) rfl rfl ?_) | (refine gBox ?_; first | refine st (ok_box rfl) rfl rfl ?_) | (refine gAlloc ?_; first | refine st (ok_alloc rfl) rfl rfl ?_) | (refine gStore ?_; refine stN (ok_store rfl rfl rfl rfl (by first | rfl | assumption | exact hp1 (by omega) | exact hp2 (by omega))) rfl ?_)) | (refine fU ?_; first | (refine fMove ?_; first | refine frA (ok_move rfl) rfl ?_) | (refine fAssign ?_; first | refine frA (ok_assign rfl) rfl ?_) | (refine fFA ?_; first | refine frA (ok_fieldAddr rfl) rfl ?_) | (refine fLoad ?_; first | refine frA (ok_load rfl (by first | rfl | assumption | exact hc1 (by omega) | exact hc2 (by omega) | exact hc3 (by omega) | exact hc4 (by omega))) rfl ?_ | refine frA (ok_loadA rfl (by first | rfl | assumption | exact hc1 (by omega) | exact hc2 (by omega) | exact hc3 (by omega) | exact hc4 (by omega))) rfl ?_) | (refine fAdd ?_; first | refine frA (ok_inc rfl rfl (by omega)) rfl ?_ | refine frA (ok_add rfl rfl (by omega) (by omega)) rfl ?_ | refine frA (ok_bin rfl rfl rfl) rfl ?_) | (refine fSub ?_; first | refine frA (ok_sub rfl rfl (by omega) (by omega)) rfl ?_ | refine frA (ok_bin rfl rfl rfl) rfl ?_) | (refine fBin ?_; first | refine frA (ok_quo64 rfl rfl (by omega) (by first | assumption | omega | exact hq1 (by omega) | exact hq2 (by omega) | exact hq3 (by omega) | exact hq4 (by omega)) (by first | assumption | omega | exact hq1 (by omega) | exact hq2 (by omega) | exact hq3 (by omega) | exact hq4 (by omega))) rfl ?_ | refine frA (ok_quo rfl rfl (by omega)) rfl ?_)) | (refine fr_stop ⟨by kernel_rfl, ?_⟩) | refine W_seq ?_ | refine W_region ?_ | refine W_regionD (by kernel_rfl) rfl ?_ | refine st_nil ?_ | refine tq_n ?_ | refine tq_r ?_ | refine tq_e ?_ | refine bq_n ?_ | refine bq_r ?_ | refine bq_hit rfl ?_ | refine bq_miss rfl ?_ | refine W_skip ?_ | refine W_exit ?_ | refine W_ret ?_ | refine W_block ?_ | refine W_condTA rfl ?_ | refine W_condFA rfl ?_ | (refine W_condD rfl ?_ ?_ <;> intro _) | (refine W_cond rfl ?_ ?_ <;> intro _))
  refine ret0 (.cellN inferInstance rfl rfl .nil) (.plain rfl rfl) ⟨rfl, rfl⟩
theorem between_ev {σ : Heap} {s : St} {n : Int} (hs : ¬ badStone s) (hn : 1 ≤ n ∧ n ≤ 10000) (hni : σ.all (fun o => !isIter o) = true) : Ev Try.prog 51 [s.val, .int .i64 n] σ (pairV (span s n)) σ :=
  Ev.nil (between_ok s n hs hn) rfl rfl hni
theorem turns_in {l : List Int} (ht : badTurns l = false) : ∀ i < l.length, 1 ≤ gi l i ∧ gi l i ≤ 10000 := fun i hi => by
  have : ¬ (gi l i < 1 ∨ gi l i > 10000) := fun hb => by rw [badTurns_iff.2 ⟨i, hi, hb⟩] at ht; cases ht
  omega
def bestF (f : Nat → Int × Int) (x : Int) : Nat → Int
  | 0 => -1
  | i + 1 => if ((f i).1 ≤ x ∧ x ≤ (f i).2) ∧ (bestF f x i < 0 ∨ (f i).1 < (f (bestF f x i).toNat).1) then (i : Int) else bestF f x i
theorem bestF_in (f : Nat → Int × Int) (x : Int) : ∀ i : Nat, -1 ≤ bestF f x i ∧ bestF f x i < i
  | 0 => by simp [bestF]
  | i + 1 => by
    have := bestF_in f x i
    simp only [bestF]
    split <;> omega
def sp (s : St) (l : List Int) (i : Nat) : Int × Int := span s (gi l i)
theorem bestF_is (f : Nat → Int × Int) (x : Int) : ∀ n : Nat, (bestF f x n = -1 ∧ ∀ i < n, ¬ ((f i).1 ≤ x ∧ x ≤ (f i).2)) ∨
    ∃ b < n, bestF f x n = (b : Int) ∧ (f b).1 ≤ x ∧ x ≤ (f b).2 ∧ ∀ i < n, (f i).1 ≤ x → x ≤ (f i).2 → (f b).1 ≤ (f i).1 ∧ (i < b → (f b).1 < (f i).1)
  | 0 => .inl ⟨rfl, fun i h => by omega⟩
  | n + 1 => by
    simp only [bestF]
    rcases bestF_is f x n with ⟨h1, h2⟩ | ⟨b, hb, h1, h2, h3, h4⟩
    · rw [h1]
      split
      · rename_i h
        refine .inr ⟨n, by omega, rfl, h.1.1, h.1.2, fun i hi a1 a2 => ?_⟩
        by_cases hin : i = n
        · subst hin; omega
        · exact absurd ⟨a1, a2⟩ (h2 i (by omega))
      · rename_i h
        refine .inl ⟨rfl, fun i hi hc => ?_⟩
        by_cases hin : i = n
        · subst hin; exact h ⟨hc, .inl (by omega)⟩
        · exact h2 i (by omega) hc
    · rw [h1]
      simp only [Int.toNat_natCast]
      split
      · rename_i h
        have hlt : (f n).1 < (f b).1 := by rcases h.2 with h | h <;> omega
        refine .inr ⟨n, by omega, rfl, h.1.1, h.1.2, fun i hi a1 a2 => ?_⟩
        by_cases hin : i = n
        · subst hin; omega
        · have := h4 i (by omega) a1 a2
          omega
      · rename_i h
        refine .inr ⟨b, by omega, rfl, h2, h3, fun i hi a1 a2 => ?_⟩
        by_cases hin : i = n
        · subst hin
          have : ¬ (f i).1 < (f b).1 := fun hq => h ⟨⟨a1, a2⟩, .inr hq⟩
          omega
        · exact h4 i (by omega) a1 a2
theorem sp_at {s : St} {l : List Int} {i : Nat} (hi : i < l.length) : spanAt s l i = spanR s (gi l i) := by unfold spanAt; rw [if_pos hi]
theorem sp_hold {s : St} {l : List Int} {i : Nat} {x : Int} (hi : i < l.length) (h : (sp s l i).1 ≤ x ∧ x ≤ (sp s l i).2) : spanAt s l i = sp s l i := by
  rw [sp_at hi]
  unfold spanR
  unfold sp at h ⊢
  rw [if_pos (by omega)]
theorem at_hold {s : St} {l : List Int} {i : Nat} {x : Int} (hi : i < l.length) (h : (spanAt s l i).1 ≤ x ∧ x ≤ (spanAt s l i).2) : spanAt s l i = sp s l i := by
  rw [sp_at hi] at h ⊢
  unfold spanR at h ⊢
  split at h
  · rename_i hq; rw [if_pos hq]; rfl
  · simp only at h; omega
theorem sp_bounds (s : St) (l : List Int) (i : Nat) : s.short ≤ (sp s l i).1 ∧ (sp s l i).2 ≤ s.long := by
  unfold sp span
  simp only
  omega
theorem hc_two (l : List Int) (s : St) : HClosed [AObj.ro (ints l), .rw s.cells].length [.ro (ints l), .rw s.cells] := ⟨plainL_closed (ints_plain l), plainL_closed (cells_plain s), trivial⟩
theorem best_ok (s : St) (l : List Int) (c : Nat) (x : Int) (h12 : l.length ≤ 12) (hs : ¬ badStone s) (ht : badTurns l = false) :
    Ev Try.prog 66 [s.val, .slice (some ⟨0, 0, none⟩) l.length c, .int .i64 x] [.ro (ints l)] (.int .i64 (bestF (sp s l) x l.length)) [.ro (ints l)] := by
  have hno := turns_in ht
  refine acall_intro 1 50 Try.func66 rfl rfl rfl rfl rfl ?_
  repeat' (first | (refine gU ?_; first | (refine gMove ?_; first | refine st (ok_move rfl) rfl rfl ?_) | (refine gAssign ?_; first | refine st (ok_assign rfl) rfl rfl ?_) | (refine gFA ?_; first | refine st (ok_fieldAddr rfl) rfl rfl ?_) | (refine gLoad ?_; first | refine st (ok_load rfl (by first | rfl | assumption | exact hc1 (by omega) | exact hc2 (by omega) | exact hc3 (by omega) | exact hc4 (by omega))) rfl rfl ?_ | refine st (ok_loadA rfl (by first | rfl | assumption | exact hc1 (by omega) | exact hc2 (by omega) | exact hc3 (by omega) | exact hc4 (by omega))) rfl rfl ?_) | (refine gAdd ?_; first | refine st (ok_inc rfl rfl (by omega)) rfl rfl ?_ | refine st (ok_add rfl rfl (by omega) (by omega)) rfl rfl ?_ | refine st (ok_bin rfl rfl rfl) rfl rfl ?_) | (refine gBin ?_; first | refine st (ok_bin rfl rfl rfl) rfl rfl ?_) | (refine gLen ?_; first | refine st (ok_len rfl) rfl rfl ?_ | refine st (ok_lenV rfl) rfl rfl ?_) | (refine gPick ?_; first | refine st (ok_pickTA rfl rfl) rfl rfl ?_ | refine st (ok_pickFA rfl rfl) rfl rfl ?_) | (refine gField ?_; first | refine st (ok_field1 rfl rfl) rfl rfl ?_) | (refine gIA ?_; first | refine st (ok_idxN rfl rfl (by omega)) rfl rfl ?_ | refine st (ok_idxSN rfl rfl (by omega)) rfl rfl ?_ | refine st (ok_idxAN rfl rfl (by omega)) rfl rfl ?_ | refine st (ok_idx rfl rfl (by omega) (by omega)) rfl rfl ?_ | refine st (ok_idxG rfl rfl (by omega) (by omega)) rfl rfl ?_ | refine st (ok_idxA rfl rfl (by omega) (by omega)) rfl rfl ?_) | (refine gCall ?_; first | refine st (ok_call rfl rfl rfl (by first | exact between_ev (by assumption) (by first | exact hno2 (by omega) | exact hno _ (by omega)) rfl)) rfl rfl ?_) | (refine gBox ?_; first | refine st (ok_box rfl) rfl rfl ?_) | (refine gAlloc ?_; first | refine st (ok_alloc rfl) rfl rfl ?_) | (refine gStore ?_; refine stN (ok_store rfl rfl rfl rfl (by first | rfl | assumption | exact hp1 (by omega) | exact hp2 (by omega))) rfl ?_)) | (refine gG ?_; first | (refine gMove ?_; first | refine stGA rfl (ok_move rfl) rfl rfl ?_) | (refine gFA ?_; first | refine stGA rfl (ok_fieldAddr rfl) rfl rfl ?_) | (refine gLoad ?_; first | refine stGA rfl (ok_load rfl (by first | rfl | assumption | exact hc1 (by omega) | exact hc2 (by omega) | exact hc3 (by omega) | exact hc4 (by omega))) rfl rfl ?_ | refine stGA rfl (ok_loadA rfl (by first | rfl | assumption | exact hc1 (by omega) | exact hc2 (by omega) | exact hc3 (by omega) | exact hc4 (by omega))) rfl rfl ?_) | (refine gBin ?_; first | refine stGA rfl (ok_bin rfl rfl rfl) rfl rfl ?_) | (refine gPick ?_; first | refine stGA rfl (ok_pickTA rfl rfl) rfl rfl ?_ | refine stGA rfl (ok_pickFA rfl rfl) rfl rfl ?_) | (refine gField ?_; first | refine stGA rfl (ok_field1 rfl rfl) rfl rfl ?_) | (refine gIA ?_; first | refine stGA rfl (ok_idxN rfl rfl (by omega)) rfl rfl ?_ | refine stGA rfl (ok_idxSN rfl rfl (by omega)) rfl rfl ?_ | refine stGA rfl (ok_idxAN rfl rfl (by omega)) rfl rfl ?_ | refine stGA rfl (ok_idx rfl rfl (by omega) (by omega)) rfl rfl ?_ | refine stGA rfl (ok_idxG rfl rfl (by omega) (by omega)) rfl rfl ?_ | refine stGA rfl (ok_idxA rfl rfl (by omega) (by omega)) rfl rfl ?_) | (refine gCall ?_; first | refine stGA rfl (ok_call rfl rfl rfl (by first | exact between_ev (by assumption) (by first | exact hno2 (by omega) | exact hno _ (by omega)) rfl)) rfl rfl ?_) | refine stSU rfl rfl ?_ | refine stSA rfl rfl ?_ | ((fail_if_success (refine stGkA rfl ?_)); first | (refine stGdD rfl ?_ ?_ <;> intro _) | (refine stGd rfl ?_ ?_ <;> intro _))) | (refine fU ?_; first | (refine fMove ?_; first | refine frA (ok_move rfl) rfl ?_) | (refine fFA ?_; first | refine frA (ok_fieldAddr rfl) rfl ?_) | (refine fLoad ?_; first | refine frA (ok_load rfl (by first | rfl | assumption | exact hc1 (by omega) | exact hc2 (by omega) | exact hc3 (by omega) | exact hc4 (by omega))) rfl ?_ | refine frA (ok_loadA rfl (by first | rfl | assumption | exact hc1 (by omega) | exact hc2 (by omega) | exact hc3 (by omega) | exact hc4 (by omega))) rfl ?_) | (refine fBin ?_; first | refine frA (ok_bin rfl rfl rfl) rfl ?_) | (refine fPick ?_; first | refine frA (ok_pickTA rfl rfl) rfl ?_ | refine frA (ok_pickFA rfl rfl) rfl ?_) | (refine fField ?_; first | refine frA (ok_field1 rfl rfl) rfl ?_) | (refine fIA ?_; first | refine frA (ok_idxN rfl rfl (by omega)) rfl ?_ | refine frA (ok_idxSN rfl rfl (by omega)) rfl ?_ | refine frA (ok_idxAN rfl rfl (by omega)) rfl ?_ | refine frA (ok_idx rfl rfl (by omega) (by omega)) rfl ?_ | refine frA (ok_idxG rfl rfl (by omega) (by omega)) rfl ?_ | refine frA (ok_idxA rfl rfl (by omega) (by omega)) rfl ?_) | (refine fCall ?_; first | refine frA (ok_call rfl rfl rfl (by first | exact between_ev (by assumption) (by first | exact hno2 (by omega) | exact hno _ (by omega)) rfl)) rfl ?_) | (refine fAlloc ?_; first | refine fr1 (ok_alloc rfl) rfl rfl rfl ?_)) | (refine fG ?_; first | (refine fMove ?_; first | refine frGA rfl (ok_move rfl) rfl ?_) | (refine fFA ?_; first | refine frGA rfl (ok_fieldAddr rfl) rfl ?_) | (refine fLoad ?_; first | refine frGA rfl (ok_load rfl (by first | rfl | assumption | exact hc1 (by omega) | exact hc2 (by omega) | exact hc3 (by omega) | exact hc4 (by omega))) rfl ?_ | refine frGA rfl (ok_loadA rfl (by first | rfl | assumption | exact hc1 (by omega) | exact hc2 (by omega) | exact hc3 (by omega) | exact hc4 (by omega))) rfl ?_) | (refine fBin ?_; first | refine frGA rfl (ok_bin rfl rfl rfl) rfl ?_) | (refine fPick ?_; first | refine frGA rfl (ok_pickTA rfl rfl) rfl ?_ | refine frGA rfl (ok_pickFA rfl rfl) rfl ?_) | (refine fField ?_; first | refine frGA rfl (ok_field1 rfl rfl) rfl ?_) | (refine fIA ?_; first | refine frGA rfl (ok_idxN rfl rfl (by omega)) rfl ?_ | refine frGA rfl (ok_idxSN rfl rfl (by omega)) rfl ?_ | refine frGA rfl (ok_idxAN rfl rfl (by omega)) rfl ?_ | refine frGA rfl (ok_idx rfl rfl (by omega) (by omega)) rfl ?_ | refine frGA rfl (ok_idxG rfl rfl (by omega) (by omega)) rfl ?_ | refine frGA rfl (ok_idxA rfl rfl (by omega) (by omega)) rfl ?_) | (refine fCall ?_; first | refine frGA rfl (ok_call rfl rfl rfl (by first | exact between_ev (by assumption) (by first | exact hno2 (by omega) | exact hno _ (by omega)) rfl)) rfl ?_) | refine frSU rfl rfl ?_ | refine frSA rfl rfl ?_ | ((fail_if_success (refine frGkA rfl ?_)); first | (refine frGdD rfl ?_ ?_ <;> intro _) | (refine frGd rfl ?_ ?_ <;> intro _))) | (refine fr_stop ⟨by kernel_rfl, ?_⟩) | refine W_seq ?_ | refine W_region ?_ | refine W_regionD (by kernel_rfl) rfl ?_ | refine st_nil ?_ | refine tq_n ?_ | refine tq_r ?_ | refine tq_e ?_ | refine bq_n ?_ | refine bq_r ?_ | refine bq_hit rfl ?_ | refine bq_miss rfl ?_ | refine W_skip ?_ | refine W_exit ?_ | refine W_ret ?_ | refine W_block ?_ | refine W_condTA rfl ?_ | refine W_condFA rfl ?_ | (refine W_condD rfl ?_ ?_ <;> intro _) | (refine W_cond rfl ?_ ?_ <;> intro _))
  refine W_loopS (ι := Nat × Int) (fun p => [(1, .slice (some ⟨0, 0, none⟩) l.length c), (2, .int .i64 x), (3, .pointer (some ⟨1, 0, none⟩)), (7, .int .i64 p.2), (8, .int .i64 (p.1 : Int))])
    (fun _ => [.ro (ints l), .rw s.cells]) (fun p => l.length - p.1) (fun p => p.1 ≤ l.length ∧ p.2 = bestF (sp s l) x p.1) (0, -1) (by simp) (.same ⟨rfl, rfl, rfl, rfl, rfl, trivial⟩) ⟨by simp, rfl⟩ ?_
  rintro ⟨i, b⟩ ⟨hi, hb⟩
  have hbi := bestF_in (sp s l) x i
  simp only at hi hb
  dsimp only
  rw [← hb] at hbi
  have hc1 : i < l.length → cellGet [.ro (ints l), .rw s.cells] 0 i = some (.int .i64 (gi l i)) := fun h => ints_get h
  have hc2 : (0 ≤ b ∧ i < l.length) → cellGet [.ro (ints l), .rw s.cells, .rw [.int .i64 (span s (gi l i)).1, .int .i64 (span s (gi l i)).2]] 0 (0 + b.toNat * 1) = some (.int .i64 (gi l b.toNat)) := fun h => by
    have : b.toNat < l.length := by omega
    simpa [cellGet] using ints_get this
  have hno2 : (0 ≤ b ∧ i < l.length) → 1 ≤ gi l b.toNat ∧ gi l b.toNat ≤ 10000 := fun h => hno _ (by omega)
  repeat' (first | (refine gU ?_; first | (refine gMove ?_; first | refine st (ok_move rfl) rfl rfl ?_) | (refine gAssign ?_; first | refine st (ok_assign rfl) rfl rfl ?_) | (refine gFA ?_; first | refine st (ok_fieldAddr rfl) rfl rfl ?_) | (refine gLoad ?_; first | refine st (ok_load rfl (by first | rfl | assumption | exact hc1 (by omega) | exact hc2 (by omega) | exact hc3 (by omega) | exact hc4 (by omega))) rfl rfl ?_ | refine st (ok_loadA rfl (by first | rfl | assumption | exact hc1 (by omega) | exact hc2 (by omega) | exact hc3 (by omega) | exact hc4 (by omega))) rfl rfl ?_) | (refine gAdd ?_; first | refine st (ok_inc rfl rfl (by omega)) rfl rfl ?_ | refine st (ok_add rfl rfl (by omega) (by omega)) rfl rfl ?_ | refine st (ok_bin rfl rfl rfl) rfl rfl ?_) | (refine gBin ?_; first | refine st (ok_bin rfl rfl rfl) rfl rfl ?_) | (refine gLen ?_; first | refine st (ok_len rfl) rfl rfl ?_ | refine st (ok_lenV rfl) rfl rfl ?_) | (refine gPick ?_; first | refine st (ok_pickTA rfl rfl) rfl rfl ?_ | refine st (ok_pickFA rfl rfl) rfl rfl ?_) | (refine gField ?_; first | refine st (ok_field1 rfl rfl) rfl rfl ?_) | (refine gIA ?_; first | refine st (ok_idxN rfl rfl (by omega)) rfl rfl ?_ | refine st (ok_idxSN rfl rfl (by omega)) rfl rfl ?_ | refine st (ok_idxAN rfl rfl (by omega)) rfl rfl ?_ | refine st (ok_idx rfl rfl (by omega) (by omega)) rfl rfl ?_ | refine st (ok_idxG rfl rfl (by omega) (by omega)) rfl rfl ?_ | refine st (ok_idxA rfl rfl (by omega) (by omega)) rfl rfl ?_) | (refine gCall ?_; first | refine st (ok_call rfl rfl rfl (by first | exact between_ev (by assumption) (by first | exact hno2 (by omega) | exact hno _ (by omega)) rfl)) rfl rfl ?_) | (refine gBox ?_; first | refine st (ok_box rfl) rfl rfl ?_) | (refine gAlloc ?_; first | refine st (ok_alloc rfl) rfl rfl ?_) | (refine gStore ?_; refine stN (ok_store rfl rfl rfl rfl (by first | rfl | assumption | exact hp1 (by omega) | exact hp2 (by omega))) rfl ?_)) | (refine gG ?_; first | (refine gMove ?_; first | refine stGA rfl (ok_move rfl) rfl rfl ?_) | (refine gFA ?_; first | refine stGA rfl (ok_fieldAddr rfl) rfl rfl ?_) | (refine gLoad ?_; first | refine stGA rfl (ok_load rfl (by first | rfl | assumption | exact hc1 (by omega) | exact hc2 (by omega) | exact hc3 (by omega) | exact hc4 (by omega))) rfl rfl ?_ | refine stGA rfl (ok_loadA rfl (by first | rfl | assumption | exact hc1 (by omega) | exact hc2 (by omega) | exact hc3 (by omega) | exact hc4 (by omega))) rfl rfl ?_) | (refine gBin ?_; first | refine stGA rfl (ok_bin rfl rfl rfl) rfl rfl ?_) | (refine gPick ?_; first | refine stGA rfl (ok_pickTA rfl rfl) rfl rfl ?_ | refine stGA rfl (ok_pickFA rfl rfl) rfl rfl ?_) | (refine gField ?_; first | refine stGA rfl (ok_field1 rfl rfl) rfl rfl ?_) | (refine gIA ?_; first | refine stGA rfl (ok_idxN rfl rfl (by omega)) rfl rfl ?_ | refine stGA rfl (ok_idxSN rfl rfl (by omega)) rfl rfl ?_ | refine stGA rfl (ok_idxAN rfl rfl (by omega)) rfl rfl ?_ | refine stGA rfl (ok_idx rfl rfl (by omega) (by omega)) rfl rfl ?_ | refine stGA rfl (ok_idxG rfl rfl (by omega) (by omega)) rfl rfl ?_ | refine stGA rfl (ok_idxA rfl rfl (by omega) (by omega)) rfl rfl ?_) | (refine gCall ?_; first | refine stGA rfl (ok_call rfl rfl rfl (by first | exact between_ev (by assumption) (by first | exact hno2 (by omega) | exact hno _ (by omega)) rfl)) rfl rfl ?_) | refine stSU rfl rfl ?_ | refine stSA rfl rfl ?_ | ((fail_if_success (refine stGkA rfl ?_)); first | (refine stGdD rfl ?_ ?_ <;> intro _) | (refine stGd rfl ?_ ?_ <;> intro _))) | (refine fU ?_; first | (refine fMove ?_; first | refine frA (ok_move rfl) rfl ?_) | (refine fFA ?_; first | refine frA (ok_fieldAddr rfl) rfl ?_) | (refine fLoad ?_; first | refine frA (ok_load rfl (by first | rfl | assumption | exact hc1 (by omega) | exact hc2 (by omega) | exact hc3 (by omega) | exact hc4 (by omega))) rfl ?_ | refine frA (ok_loadA rfl (by first | rfl | assumption | exact hc1 (by omega) | exact hc2 (by omega) | exact hc3 (by omega) | exact hc4 (by omega))) rfl ?_) | (refine fBin ?_; first | refine frA (ok_bin rfl rfl rfl) rfl ?_) | (refine fPick ?_; first | refine frA (ok_pickTA rfl rfl) rfl ?_ | refine frA (ok_pickFA rfl rfl) rfl ?_) | (refine fField ?_; first | refine frA (ok_field1 rfl rfl) rfl ?_) | (refine fIA ?_; first | refine frA (ok_idxN rfl rfl (by omega)) rfl ?_ | refine frA (ok_idxSN rfl rfl (by omega)) rfl ?_ | refine frA (ok_idxAN rfl rfl (by omega)) rfl ?_ | refine frA (ok_idx rfl rfl (by omega) (by omega)) rfl ?_ | refine frA (ok_idxG rfl rfl (by omega) (by omega)) rfl ?_ | refine frA (ok_idxA rfl rfl (by omega) (by omega)) rfl ?_) | (refine fCall ?_; first | refine frA (ok_call rfl rfl rfl (by first | exact between_ev (by assumption) (by first | exact hno2 (by omega) | exact hno _ (by omega)) rfl)) rfl ?_) | (refine fAlloc ?_; first | refine fr1 (ok_alloc rfl) rfl rfl rfl ?_)) | (refine fG ?_; first | (refine fMove ?_; first | refine frGA rfl (ok_move rfl) rfl ?_) | (refine fFA ?_; first | refine frGA rfl (ok_fieldAddr rfl) rfl ?_) | (refine fLoad ?_; first | refine frGA rfl (ok_load rfl (by first | rfl | assumption | exact hc1 (by omega) | exact hc2 (by omega) | exact hc3 (by omega) | exact hc4 (by omega))) rfl ?_ | refine frGA rfl (ok_loadA rfl (by first | rfl | assumption | exact hc1 (by omega) | exact hc2 (by omega) | exact hc3 (by omega) | exact hc4 (by omega))) rfl ?_) | (refine fBin ?_; first | refine frGA rfl (ok_bin rfl rfl rfl) rfl ?_) | (refine fPick ?_; first | refine frGA rfl (ok_pickTA rfl rfl) rfl ?_ | refine frGA rfl (ok_pickFA rfl rfl) rfl ?_) | (refine fField ?_; first | refine frGA rfl (ok_field1 rfl rfl) rfl ?_) | (refine fIA ?_; first | refine frGA rfl (ok_idxN rfl rfl (by omega)) rfl ?_ | refine frGA rfl (ok_idxSN rfl rfl (by omega)) rfl ?_ | refine frGA rfl (ok_idxAN rfl rfl (by omega)) rfl ?_ | refine frGA rfl (ok_idx rfl rfl (by omega) (by omega)) rfl ?_ | refine frGA rfl (ok_idxG rfl rfl (by omega) (by omega)) rfl ?_ | refine frGA rfl (ok_idxA rfl rfl (by omega) (by omega)) rfl ?_) | (refine fCall ?_; first | refine frGA rfl (ok_call rfl rfl rfl (by first | exact between_ev (by assumption) (by first | exact hno2 (by omega) | exact hno _ (by omega)) rfl)) rfl ?_) | refine frSU rfl rfl ?_ | refine frSA rfl rfl ?_ | ((fail_if_success (refine frGkA rfl ?_)); first | (refine frGdD rfl ?_ ?_ <;> intro _) | (refine frGd rfl ?_ ?_ <;> intro _))) | (refine fr_stop ⟨by kernel_rfl, ?_⟩) | refine W_seq ?_ | refine W_region ?_ | refine W_regionD (by kernel_rfl) rfl ?_ | refine st_nil ?_ | refine tq_n ?_ | refine tq_r ?_ | refine tq_e ?_ | refine bq_n ?_ | refine bq_r ?_ | refine bq_hit rfl ?_ | refine bq_miss rfl ?_ | refine W_skip ?_ | refine W_exit ?_ | refine W_ret ?_ | refine W_block ?_ | refine W_condTA rfl ?_ | refine W_condFA rfl ?_ | (refine W_condD rfl ?_ ?_ <;> intro _) | (refine W_cond rfl ?_ ?_ <;> intro _))
  · rename_i hin h1 h2 h3
    exact ⟨rfl, (i + 1, (i : Int)), ⟨by simp only; omega, by simp only [bestF]; rw [← hb, if_pos ⟨⟨h1, h2⟩, .inl h3⟩]⟩, by simp only; omega, StRef.drop [.ro (ints l), .rw s.cells] [_] (by simp) (hc_two l s) (by (repeat' (first | exact trivial | exact ⟨rfl, rfl, rfl⟩ | exact ⟨rfl, closed_slice rfl, rfl⟩ | refine ⟨?_, ?_⟩)))⟩
  · rename_i hin h1 h2 h3 h4
    exact ⟨rfl, (i + 1, (i : Int)), ⟨by simp only; omega, by simp only [bestF]; rw [← hb, if_pos ⟨⟨h1, h2⟩, .inr h4⟩]⟩, by simp only; omega, StRef.drop [.ro (ints l), .rw s.cells] [_] (by simp) (hc_two l s) (by (repeat' (first | exact trivial | exact ⟨rfl, rfl, rfl⟩ | exact ⟨rfl, closed_slice rfl, rfl⟩ | refine ⟨?_, ?_⟩)))⟩
  · rename_i hin h1 h2 h3 h4
    exact ⟨rfl, (i + 1, b), ⟨by simp only; omega, by simp only [bestF]; rw [← hb, if_neg fun h => h.2.elim h3 h4]⟩, by simp only; omega, StRef.drop [.ro (ints l), .rw s.cells] [_] (by simp) (hc_two l s) (by (repeat' (first | exact trivial | exact ⟨rfl, rfl, rfl⟩ | exact ⟨rfl, closed_slice rfl, rfl⟩ | refine ⟨?_, ?_⟩)))⟩
  · rename_i hin h1 h2
    exact ⟨rfl, (i + 1, b), ⟨by simp only; omega, by simp only [bestF]; rw [← hb, if_neg fun h => h2 h.1.2]⟩, by simp only; omega, StRef.drop [.ro (ints l), .rw s.cells] [_] (by simp) (hc_two l s) (by (repeat' (first | exact trivial | exact ⟨rfl, rfl, rfl⟩ | exact ⟨rfl, closed_slice rfl, rfl⟩ | refine ⟨?_, ?_⟩)))⟩
  · rename_i hin h1
    exact ⟨rfl, (i + 1, b), ⟨by simp only; omega, by simp only [bestF]; rw [← hb, if_neg fun h => h1 h.1.1]⟩, by simp only; omega, StRef.drop [.ro (ints l), .rw s.cells] [_] (by simp) (hc_two l s) (by (repeat' (first | exact trivial | exact ⟨rfl, rfl, rfl⟩ | exact ⟨rfl, closed_slice rfl, rfl⟩ | refine ⟨?_, ?_⟩)))⟩
  · rename_i hin
    have : i = l.length := by omega
    subst this
    refine ret0 (.tmp rfl .nil) (.plain rfl rfl) ⟨by rw [← hb]; rfl, rfl⟩
theorem best_ev {σ : Heap} {s : St} {l : List Int} {a c : Nat} {x : Int} (hx : arrAt σ a (ints l)) (h12 : l.length ≤ 12) (hs : ¬ badStone s) (ht : badTurns l = false) (hni : σ.all (fun o => !isIter o) = true) :
    Ev Try.prog 66 [s.val, .slice (some ⟨a, 0, none⟩) l.length c, .int .i64 x] σ (.int .i64 (bestF (sp s l) x l.length)) σ :=
  Ev.arrs [ints l] [a] (best_ok s l c x h12 hs ht) ⟨hx, trivial⟩ ⟨vrel_plain _ rfl, by simpa [bsR] using VQ.slice (q := true) (n := 1) (ρ := bsR [a]) 0 0 l.length c c (Nat.le_refl _) (by omega), vrel_plain _ rfl, trivial⟩ (by simp [ints_plain]) rfl hni
end Go.Proofs.Ytgfnogdecggkkaa
