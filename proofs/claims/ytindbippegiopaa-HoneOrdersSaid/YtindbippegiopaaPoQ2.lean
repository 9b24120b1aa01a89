/- What Best of hone returns. -/
import Derived.Test.YtindbippegiopaaPoQ1
namespace Go.Proofs.Ytindbippegiopaa
open Go Go.AH
attribute [local irreducible] WOps WCode WFree retQ thenQ blockQ scopeQ OpOk ACall RetRef roundA roundB
set_option maxRecDepth 100000
set_option maxHeartbeats 1000000
theorem within1_ok (n lo hi : Int) : Ev Try.prog 76 [.int .i64 n, .pointer (some ⟨0, 0, none⟩), .pointer (some ⟨1, 0, none⟩)] [.ro [.int .i64 lo], .ro [.int .i64 hi]] (.bool (decide (n < lo ∨ n > hi))) [.ro [.int .i64 lo], .ro [.int .i64 hi]] := by
  refine acall_intro 2 13 Try.func76 rfl rfl rfl rfl rfl ?_
  repeat' (first | (refine gU ?_; first | (refine gMove ?_; refine st (ok_move rfl) rfl rfl ?_) | (refine gAssign ?_; refine st (ok_assign rfl) rfl rfl ?_) | (refine gLoad ?_; refine st (ok_load rfl (by rfl)) rfl rfl ?_) | (refine gBin ?_; refine st (ok_bin rfl rfl rfl) rfl rfl ?_) | (refine gPick ?_; first | refine st (ok_pickTA rfl rfl) rfl rfl ?_ | refine st (ok_pickFA rfl rfl) rfl rfl ?_)) | (refine gG ?_; first | (refine gMove ?_; refine stGA rfl (ok_move rfl) rfl rfl ?_) | (refine gLoad ?_; refine stGA rfl (ok_load rfl (by rfl)) rfl rfl ?_) | (refine gBin ?_; refine stGA rfl (ok_bin rfl rfl rfl) rfl rfl ?_) | refine stSA rfl rfl ?_ | ((fail_if_success (refine stGkA rfl ?_)); (refine stGdD rfl ?_ ?_ <;> intro _))) | refine W_seq ?_ | refine W_region ?_ | refine st_nil ?_ | refine tq_n ?_ | refine W_ret ?_)
  all_goals
    refine ret0 (.tmp rfl .nil) (.plain rfl rfl) ⟨?_, rfl⟩
    simp only [retV, Value.bool.injEq]
    (simp; omega)
theorem within1_ev {σ : Heap} {n lo hi : Int} {a b : Nat} (ha : arrAt σ a [.int .i64 lo]) (hb : arrAt σ b [.int .i64 hi]) (hni : σ.all (fun o => !isIter o) = true) :
    Ev Try.prog 76 [.int .i64 n, .pointer (some ⟨a, 0, none⟩), .pointer (some ⟨b, 0, none⟩)] σ (.bool (decide (n < lo ∨ n > hi))) σ :=
  Ev.arrs [[.int .i64 lo], [.int .i64 hi]] [a, b] (within1_ok n lo hi) ⟨ha, hb, trivial⟩ ⟨.int _ _, by simpa [bsR] using VQ.ptr (q := true) (n := 2) (ρ := bsR [a, b]) 0 0 (by omega), by simpa [bsR] using VQ.ptr (q := true) (n := 2) (ρ := bsR [a, b]) 1 0 (by omega), trivial⟩ rfl rfl hni
theorem indexFunc_ok (l : List Int) (lo hi : Int) (c : Nat) (hN : l.length ≤ 1000000) :
    Ev Try.prog 84 [.slice (some ⟨0, 0, none⟩) l.length c, .func (.func 76) #[] #[.pointer (some ⟨1, 0, none⟩), .pointer (some ⟨2, 0, none⟩)]] [.ro (ints l), .ro [.int .i64 lo], .ro [.int .i64 hi]] (.int .i64 (badIx lo hi l)) [.ro (ints l), .ro [.int .i64 lo], .ro [.int .i64 hi]] := by
  refine acall_intro 3 19 Try.func84 rfl rfl rfl rfl rfl ?_
  repeat' (first | (refine gU ?_; first | (refine gMove ?_; refine st (ok_move rfl) rfl rfl ?_) | (refine gAssign ?_; refine st (ok_assign rfl) rfl rfl ?_) | (refine gLen ?_; refine st (ok_len rfl) rfl rfl ?_)) | refine W_seq ?_ | refine W_region ?_ | refine st_nil ?_ | refine tq_n ?_ | refine W_block ?_)
  refine W_loopS (ι := Nat) (fun i => [(0, .slice (some ⟨0, 0, none⟩) l.length c), (1, .func (.func 76) #[] #[.pointer (some ⟨1, 0, none⟩), .pointer (some ⟨2, 0, none⟩)]), (7, .int .i64 (l.length : Int)), (8, .int .i64 (i : Int))])
    (fun _ => [.ro (ints l), .ro [.int .i64 lo], .ro [.int .i64 hi]]) (fun i => l.length - i) (fun i => i ≤ l.length ∧ ∀ j < i, ¬ (gi l j < lo ∨ gi l j > hi)) 0 (by simp) (.same ⟨rfl, rfl, rfl, rfl, trivial⟩) ⟨by omega, fun j h => by omega⟩ ?_
  intro i ⟨hi', hall⟩
  have hc1 : i < l.length → cellGet [.ro (ints l), .ro [.int .i64 lo], .ro [.int .i64 hi]] 0 i = some (.int .i64 (gi l i)) := fun h => ints_get h
  repeat' (first | (refine gU ?_; first | (refine gMove ?_; refine st (ok_move rfl) rfl rfl ?_) | (refine gAssign ?_; refine st (ok_assign rfl) rfl rfl ?_) | (refine gLoad ?_; refine st (ok_load rfl (by exact hc1 (by omega))) rfl rfl ?_) | (refine gAdd ?_; refine st (ok_inc rfl rfl (by omega)) rfl rfl ?_) | (refine gBin ?_; refine st (ok_bin rfl rfl rfl) rfl rfl ?_) | (refine gIA ?_; refine st (ok_idxN rfl rfl (by omega)) rfl rfl ?_) | (refine gCall ?_; refine st (ok_call rfl rfl rfl (by exact within1_ev (by exact .inl rfl) (by exact .inl rfl) rfl)) rfl rfl ?_)) | refine W_seq ?_ | refine W_region ?_ | refine st_nil ?_ | refine tq_n ?_ | refine tq_r ?_ | refine tq_e ?_ | refine bq_n ?_ | refine bq_r ?_ | refine bq_hit rfl ?_ | refine W_skip ?_ | refine W_exit ?_ | refine W_ret ?_ | refine W_block ?_ | (refine W_condD rfl ?_ ?_ <;> intro _))
  · refine ret0 (.tmp rfl .nil) (.plain rfl rfl) ⟨?_, rfl⟩
    simp only [retV]
    rw [badIx_some (by omega) (by assumption) hall]
  · refine ⟨rfl, i + 1, ⟨by omega, fun j hj => ?_⟩, by omega, .same ⟨rfl, rfl, rfl, rfl, trivial⟩⟩
    by_cases hji : j = i
    · subst hji; assumption
    · exact hall j (by omega)
  · refine ret0 (.tmp rfl .nil) (.plain rfl rfl) ⟨?_, rfl⟩
    simp only [retV]
    rw [badIx_none fun j hj => hall j (by omega)]
theorem indexFunc_ev {σ : Heap} {l : List Int} {lo hi : Int} {x a b c : Nat} (hx : arrAt σ x (ints l)) (ha : arrAt σ a [.int .i64 lo]) (hb : arrAt σ b [.int .i64 hi]) (hN : l.length ≤ 1000000) (hni : σ.all (fun o => !isIter o) = true) :
    Ev Try.prog 84 [.slice (some ⟨x, 0, none⟩) l.length c, .func (.func 76) #[] #[.pointer (some ⟨a, 0, none⟩), .pointer (some ⟨b, 0, none⟩)]] σ (.int .i64 (badIx lo hi l)) σ :=
  Ev.arrs [ints l, [.int .i64 lo], [.int .i64 hi]] [x, a, b] (indexFunc_ok l lo hi c hN) ⟨hx, ha, hb, trivial⟩
    ⟨by simpa [bsR] using VQ.slice (q := true) (n := 3) (ρ := bsR [x, a, b]) 0 0 l.length c c (Nat.le_refl _) (by omega),
      vsub_fn2 (by simpa [bsR] using VQ.ptr (q := true) (n := 3) (ρ := bsR [x, a, b]) 1 0 (by omega)) (by simpa [bsR] using VQ.ptr (q := true) (n := 3) (ρ := bsR [x, a, b]) 2 0 (by omega)), trivial⟩ (by simp [ints_plain, plainL, plain]) rfl hni
theorem containsFunc_ok (l : List Int) (lo hi : Int) (c : Nat) (hN : l.length ≤ 1000000) :
    Ev Try.prog 75 [.slice (some ⟨0, 0, none⟩) l.length c, .func (.func 76) #[] #[.pointer (some ⟨1, 0, none⟩), .pointer (some ⟨2, 0, none⟩)]] [.ro (ints l), .ro [.int .i64 lo], .ro [.int .i64 hi]] (.bool (decide (badIx lo hi l ≥ 0))) [.ro (ints l), .ro [.int .i64 lo], .ro [.int .i64 hi]] := by
  refine acall_intro 3 9 Try.func75 rfl rfl rfl rfl rfl ?_
  repeat' (first | (refine gU ?_; first | (refine gMove ?_; refine st (ok_move rfl) rfl rfl ?_) | (refine gAssign ?_; refine st (ok_assign rfl) rfl rfl ?_) | (refine gBin ?_; refine st (ok_bin rfl rfl rfl) rfl rfl ?_) | (refine gCall ?_; refine st (ok_call rfl rfl rfl (by exact indexFunc_ev (by exact .inl rfl) (by exact .inl rfl) (by exact .inl rfl) (by omega) rfl)) rfl rfl ?_)) | refine W_seq ?_ | refine W_region ?_ | refine st_nil ?_ | refine tq_n ?_ | refine W_ret ?_)
  refine ret0 (.tmp rfl .nil) (.plain rfl rfl) ⟨?_, rfl⟩
  rfl
theorem containsFunc_ev {σ : Heap} {l : List Int} {lo hi : Int} {x a b c : Nat} (hx : arrAt σ x (ints l)) (ha : arrAt σ a [.int .i64 lo]) (hb : arrAt σ b [.int .i64 hi]) (hN : l.length ≤ 1000000) (hni : σ.all (fun o => !isIter o) = true) :
    Ev Try.prog 75 [.slice (some ⟨x, 0, none⟩) l.length c, .func (.func 76) #[] #[.pointer (some ⟨a, 0, none⟩), .pointer (some ⟨b, 0, none⟩)]] σ (.bool (decide (badIx lo hi l ≥ 0))) σ :=
  Ev.arrs [ints l, [.int .i64 lo], [.int .i64 hi]] [x, a, b] (containsFunc_ok l lo hi c hN) ⟨hx, ha, hb, trivial⟩
    ⟨by simpa [bsR] using VQ.slice (q := true) (n := 3) (ρ := bsR [x, a, b]) 0 0 l.length c c (Nat.le_refl _) (by omega),
      vsub_fn2 (by simpa [bsR] using VQ.ptr (q := true) (n := 3) (ρ := bsR [x, a, b]) 1 0 (by omega)) (by simpa [bsR] using VQ.ptr (q := true) (n := 3) (ρ := bsR [x, a, b]) 2 0 (by omega)), trivial⟩ (by simp [ints_plain, plainL, plain]) rfl hni
theorem within_ok (l : List Int) (lo hi : Int) (c : Nat) (hN : l.length ≤ 1000000) :
    Ev Try.prog 50 [.int .i64 lo, .int .i64 hi, .slice (some ⟨0, 0, none⟩) l.length c] [.ro (ints l)] (.bool (decide (¬ (badIx lo hi l ≥ 0)))) [.ro (ints l)] := by
  refine acall_intro 1 11 Try.func50 rfl rfl rfl rfl rfl ?_
  repeat' (first | (refine gU ?_; first | (refine gMove ?_; refine st (ok_move rfl) rfl rfl ?_) | (refine gAssign ?_; refine st (ok_assign rfl) rfl rfl ?_) | (refine gNot ?_; refine st (ok_notD rfl) rfl rfl ?_) | (refine gMkF ?_; refine st (ok_makeFunc rfl rfl) rfl rfl ?_) | (refine gCall ?_; refine st (ok_call rfl rfl rfl (by exact containsFunc_ev (by exact .inl rfl) (by exact .inr (.inl rfl)) (by exact .inr (.inl rfl)) (by omega) rfl)) rfl rfl ?_) | (refine gBox ?_; refine st (ok_box rfl) rfl rfl ?_)) | refine W_seq ?_ | refine W_region ?_ | refine st_nil ?_ | refine tq_n ?_ | refine W_ret ?_)
  refine ret0 (.tmp rfl .nil) (.plain rfl rfl) ⟨?_, rfl⟩
  rfl
theorem within_ev {σ : Heap} {l : List Int} {lo hi : Int} {x c : Nat} (hx : arrAt σ x (ints l)) (hN : l.length ≤ 1000000) (hni : σ.all (fun o => !isIter o) = true) :
    Ev Try.prog 50 [.int .i64 lo, .int .i64 hi, .slice (some ⟨x, 0, none⟩) l.length c] σ (.bool (decide (¬ (badIx lo hi l ≥ 0)))) σ :=
  Ev.arrs [ints l] [x] (within_ok l lo hi c hN) ⟨hx, trivial⟩ ⟨.int _ _, .int _ _, by simpa [bsR] using VQ.slice (q := true) (n := 1) (ρ := bsR [x]) 0 0 l.length c c (Nat.le_refl _) (by omega), trivial⟩ (by simp [ints_plain]) rfl hni
theorem within_ev1 {σ : Heap} {a lo hi : Int} {x c : Nat} (hx : arrAt σ x [.int .i64 a]) (hni : σ.all (fun o => !isIter o) = true) :
    Ev Try.prog 50 [.int .i64 lo, .int .i64 hi, .slice (some ⟨x, 0, none⟩) 1 c] σ (.bool (decide (lo ≤ a ∧ a ≤ hi))) σ := by
  have h := within_ev (σ := σ) (l := [a]) (lo := lo) (hi := hi) (c := c) hx (by simp) hni
  have e : (¬ (badIx lo hi [a] ≥ 0)) ↔ (lo ≤ a ∧ a ≤ hi) := by
    by_cases hb : a < lo ∨ a > hi
    · rw [badIx_some (l := [a]) (i := 0) (by simp) (by simpa [gi] using hb) (fun j hj => by omega)]; simp; omega
    · rw [badIx_none (l := [a]) (fun j hj => by have : j = 0 := by simpa using hj
                                                subst this; simpa [gi] using hb)]; simp; omega
  simpa [e] using h
theorem within_ev2 {σ : Heap} {a b lo hi : Int} {x c : Nat} (hx : arrAt σ x [.int .i64 a, .int .i64 b]) (hni : σ.all (fun o => !isIter o) = true) :
    Ev Try.prog 50 [.int .i64 lo, .int .i64 hi, .slice (some ⟨x, 0, none⟩) 2 c] σ (.bool (decide ((lo ≤ a ∧ a ≤ hi) ∧ lo ≤ b ∧ b ≤ hi))) σ := by
  have h := within_ev (σ := σ) (l := [a, b]) (lo := lo) (hi := hi) (c := c) hx (by simp) hni
  have e : (¬ (badIx lo hi [a, b] ≥ 0)) ↔ ((lo ≤ a ∧ a ≤ hi) ∧ lo ≤ b ∧ b ≤ hi) := by
    by_cases ha : a < lo ∨ a > hi
    · rw [badIx_some (l := [a, b]) (i := 0) (by simp) (by simpa [gi] using ha) (fun j hj => by omega)]; simp; omega
    · by_cases hb : b < lo ∨ b > hi
      · rw [badIx_some (l := [a, b]) (i := 1) (by simp) (by simpa [gi] using hb) (fun j hj => by have : j = 0 := by omega
                                                                                                 subst this; simpa [gi] using ha)]; simp; omega
      · rw [badIx_none (l := [a, b]) (fun j hj => by
          have : j = 0 ∨ j = 1 := by simp at hj; omega
          rcases this with rfl | rfl
          · simpa [gi] using ha
          · simpa [gi] using hb)]; simp; omega
  simpa [e] using h
end Go.Proofs.Ytindbippegiopaa
namespace Go.AH.Hone
open Go Go.AH
def Sn.cells (s : Sn) : List Value := [.int .i64 s.g, .int .i64 s.c, .int .i64 s.b]
def Sn.val (s : Sn) : Value := .agg #[.int .i64 s.g, .int .i64 s.c, .int .i64 s.b]
def Ed.cells (e : Ed) : List Value := [.int .i64 e.d, .int .i64 e.b]
def Ed.val (e : Ed) : Value := .agg #[.int .i64 e.d, .int .i64 e.b]
def rowC (f : Nat → Int) : List Value := [.int .i64 (f 0), .int .i64 (f 1), .int .i64 (f 2), .int .i64 (f 3), .int .i64 (f 4), .int .i64 (f 5), .int .i64 (f 6)]
theorem rowC_get {f : Nat → Int} : ∀ {b : Nat}, b < 7 → (rowC f)[b]? = some (.int .i64 (f b))
  | 0, _ => rfl | 1, _ => rfl | 2, _ => rfl | 3, _ => rfl | 4, _ => rfl | 5, _ => rfl | 6, _ => rfl
def bigSn (s : Sn) : Prop := -1000 ≤ s.g ∧ s.g ≤ 1000 ∧ -1000 ≤ s.c ∧ s.c ≤ 1000 ∧ -1000 ≤ s.b ∧ s.b ≤ 1000
end Go.AH.Hone
namespace Go.Proofs.Ytindbippegiopaa
open Go Go.AH
attribute [local irreducible] WOps WCode WFree retQ thenQ blockQ scopeQ OpOk ACall RetRef roundA roundB
set_option maxRecDepth 100000
set_option maxHeartbeats 1000000
open Go.AH.Hone
def strokeV (s : Sn) (e e0 : Ed) : Value := if e.b + s.b > 6 then .tuple #[e0.val, .bool false] else .tuple #[(aft s e).val, .bool true]
theorem stroke_ok (s : Sn) (e : Ed) (hs : ¬ badSn s) (he : ¬ badEd e) : Ev Try.prog 51 [s.val, e.val] [] (strokeV s e e) [] := by
  unfold badSn badEd at *
  unfold strokeV
  by_cases h : e.b + s.b > 6
  · rw [if_pos h]
    refine acall_intro 0 26 Try.func51 rfl rfl rfl rfl rfl ?_
    repeat' (first | (refine gU ?_; first | (refine gMove ?_; refine st (ok_move rfl) rfl rfl ?_) | (refine gAssign ?_; refine st (ok_assign rfl) rfl rfl ?_) | (refine gFA ?_; refine st (ok_fieldAddr rfl) rfl rfl ?_) | (refine gLoad ?_; first | refine st (ok_load rfl (by rfl)) rfl rfl ?_ | refine st (ok_loadA rfl (by rfl)) rfl rfl ?_) | (refine gAdd ?_; refine st (ok_add rfl rfl (by omega) (by omega)) rfl rfl ?_) | (refine gBin ?_; refine st (ok_bin rfl rfl rfl) rfl rfl ?_) | (refine gBox ?_; refine st (ok_box rfl) rfl rfl ?_) | (refine gAlloc ?_; refine st (ok_alloc rfl) rfl rfl ?_) | (refine gStore ?_; refine stN (ok_store rfl rfl rfl rfl (by rfl)) rfl ?_)) | refine W_seq ?_ | refine W_region ?_ | refine st_nil ?_ | refine tq_n ?_ | refine tq_r ?_ | refine W_ret ?_ | refine W_condTA rfl ?_)
    exact ret0 (.cellN inferInstance rfl rfl (.tmp rfl .nil)) (.plain rfl rfl) ⟨rfl, rfl⟩
  · rw [if_neg h]
    refine acall_intro 0 26 Try.func51 rfl rfl rfl rfl rfl ?_
    repeat' (first | (refine gU ?_; first | (refine gMove ?_; refine st (ok_move rfl) rfl rfl ?_) | (refine gAssign ?_; refine st (ok_assign rfl) rfl rfl ?_) | (refine gFA ?_; refine st (ok_fieldAddr rfl) rfl rfl ?_) | (refine gLoad ?_; refine st (ok_load rfl (by rfl)) rfl rfl ?_) | (refine gAdd ?_; refine st (ok_add rfl rfl (by omega) (by omega)) rfl rfl ?_) | (refine gSub ?_; refine st (ok_sub rfl rfl (by omega) (by omega)) rfl rfl ?_) | (refine gBin ?_; refine st (ok_bin rfl rfl rfl) rfl rfl ?_) | (refine gMax ?_; refine st (ok_max rfl rfl) rfl rfl ?_) | (refine gBuild ?_; refine st (ok_build (by rfl) rfl (by rfl)) rfl rfl ?_) | (refine gBox ?_; refine st (ok_box rfl) rfl rfl ?_) | (refine gAlloc ?_; refine st (ok_alloc rfl) rfl rfl ?_) | (refine gStore ?_; refine stN (ok_store rfl rfl rfl rfl (by rfl)) rfl ?_)) | refine W_seq ?_ | refine W_region ?_ | refine st_nil ?_ | refine tq_n ?_ | refine W_skip ?_ | refine W_ret ?_ | refine W_condFA rfl ?_)
    exact ret0 (.cellN inferInstance rfl rfl (.tmp rfl .nil)) (.plain rfl rfl) ⟨rfl, rfl⟩
theorem refStroke_ok (s : Sn) (e : Ed) (hs : ¬ badSn s) (he : ¬ badEd e) : Ev Try.prog 61 [s.val, e.val] [] (strokeV s e ⟨0, 0⟩) [] := by
  unfold badSn badEd at *
  unfold strokeV
  by_cases h : e.b + s.b > 6
  · rw [if_pos h]
    refine acall_intro 0 28 Try.func61 rfl rfl rfl rfl rfl ?_
    repeat' (first | (refine gU ?_; first | (refine gAssign ?_; refine st (ok_assign rfl) rfl rfl ?_) | (refine gFA ?_; refine st (ok_fieldAddr rfl) rfl rfl ?_) | (refine gLoad ?_; refine st (ok_load rfl (by rfl)) rfl rfl ?_) | (refine gAdd ?_; refine st (ok_add rfl rfl (by omega) (by omega)) rfl rfl ?_) | (refine gBin ?_; refine st (ok_bin rfl rfl rfl) rfl rfl ?_) | (refine gBuild ?_; refine st (ok_build (by rfl) rfl (by rfl)) rfl rfl ?_) | (refine gBox ?_; refine st (ok_box rfl) rfl rfl ?_) | (refine gAlloc ?_; refine st (ok_alloc rfl) rfl rfl ?_) | (refine gStore ?_; refine stN (ok_store rfl rfl rfl rfl (by rfl)) rfl ?_)) | refine W_seq ?_ | refine W_region ?_ | refine st_nil ?_ | refine tq_n ?_ | refine tq_r ?_ | refine W_ret ?_ | refine W_condTA rfl ?_)
    exact ret0 (.cellN inferInstance rfl rfl (.tmp rfl .nil)) (.plain rfl rfl) ⟨rfl, rfl⟩
  · rw [if_neg h]
    refine acall_intro 0 28 Try.func61 rfl rfl rfl rfl rfl ?_
    repeat' (first | (refine gU ?_; first | (refine gAssign ?_; refine st (ok_assign rfl) rfl rfl ?_) | (refine gFA ?_; refine st (ok_fieldAddr rfl) rfl rfl ?_) | (refine gLoad ?_; refine st (ok_load rfl (by rfl)) rfl rfl ?_) | (refine gAdd ?_; refine st (ok_add rfl rfl (by omega) (by omega)) rfl rfl ?_) | (refine gSub ?_; refine st (ok_sub rfl rfl (by omega) (by omega)) rfl rfl ?_) | (refine gBin ?_; refine st (ok_bin rfl rfl rfl) rfl rfl ?_) | (refine gMax ?_; refine st (ok_max rfl rfl) rfl rfl ?_) | (refine gBuild ?_; refine st (ok_build (by rfl) rfl (by rfl)) rfl rfl ?_) | (refine gBox ?_; refine st (ok_box rfl) rfl rfl ?_) | (refine gAlloc ?_; refine st (ok_alloc rfl) rfl rfl ?_) | (refine gStore ?_; refine stN (ok_store rfl rfl rfl rfl (by rfl)) rfl ?_)) | refine W_seq ?_ | refine W_region ?_ | refine st_nil ?_ | refine tq_n ?_ | refine W_skip ?_ | refine W_ret ?_ | refine W_condFA rfl ?_)
    exact ret0 (.cellN inferInstance rfl rfl (.tmp rfl .nil)) (.plain rfl rfl) ⟨rfl, rfl⟩
end Go.Proofs.Ytindbippegiopaa
namespace Go.AH.Hone
open Go Go.AH
def stonesC (l : List Sn) : List Value := l.flatMap Sn.cells
theorem stonesC_len (l : List Sn) : (stonesC l).length = 3 * l.length := by
  induction l with
  | nil => rfl
  | cons s l ih => simp only [stonesC, List.flatMap_cons, List.length_append, List.length_cons] at *; rw [ih]; simp [Sn.cells]; omega
theorem stonesC_drop : ∀ {l : List Sn} {i : Nat}, i < l.length → ∃ r, (stonesC l).drop (i * 3) = (gs l i).cells ++ r
  | s :: l, 0, _ => ⟨stonesC l, by simp [stonesC, gs]⟩
  | s :: l, i + 1, h => by
    obtain ⟨r, hr⟩ := stonesC_drop (l := l) (i := i) (by simpa using h)
    refine ⟨r, ?_⟩
    rw [show (i + 1) * 3 = 3 + i * 3 from by omega, ← List.drop_drop]
    simpa [stonesC, gs, Sn.cells] using hr
  | [], _, h => by simp at h
theorem stonesC_at {l : List Sn} {i k : Nat} (hi : i < l.length) (hk : k < 3) : (stonesC l)[i * 3 + k]? = (gs l i).cells[k]? := by
  obtain ⟨r, hr⟩ := stonesC_drop hi
  rw [← List.getElem?_drop, hr, List.getElem?_append_left (by simpa [Sn.cells] using hk)]
theorem stonesC_take {l : List Sn} {i : Nat} (hi : i < l.length) : ((stonesC l).drop (i * 3)).take 3 = (gs l i).cells := by
  obtain ⟨r, hr⟩ := stonesC_drop hi
  rw [hr]; simp [Sn.cells]
theorem stonesC_plain : ∀ l : List Sn, plainL (stonesC l) = true
  | [] => rfl
  | s :: l => by rw [stonesC, List.flatMap_cons, plainL_append]; rw [show plainL (l.flatMap Sn.cells) = true from stonesC_plain l]; rfl
theorem stone_cells {σ : Heap} {l : List Sn} {x i : Nat} (hx : arrAt σ x (stonesC l)) (hi : i < l.length) : cellsAt σ x (0 + i * 3) 3 = some (gs l i).cells := by
  have hl := stonesC_len l
  have ht := stonesC_take hi
  rcases hx with h | h | ⟨t, h⟩ <;> simp only [cellsAt, h] <;> rw [show Nat.ble (0 + i * 3 + 3) (stonesC l).length = true from Nat.ble_eq.mpr (by omega), Nat.zero_add, ht] <;> rfl
def badBox (l : List Sn) : Bool := someB l.length fun i => badSn (gs l i)
def boxIx (l : List Sn) : Int := match (List.range l.length).find? (fun i => decide (badSn (gs l i))) with | some i => i | none => -1
theorem boxIx_some {l : List Sn} {i : Nat} (hi' : i < l.length) (h : badSn (gs l i)) (hall : ∀ j < i, ¬ badSn (gs l j)) : boxIx l = i := by
  have : (List.range l.length).find? (fun i => decide (badSn (gs l i))) = some i := by
    rw [List.find?_range_eq_some]
    exact ⟨by simpa using h, by simpa using hi', fun j hj => by simpa using hall j hj⟩
  simp only [boxIx, this]
theorem boxIx_none {l : List Sn} (hall : ∀ j < l.length, ¬ badSn (gs l j)) : boxIx l = -1 := by
  have : (List.range l.length).find? (fun i => decide (badSn (gs l i))) = none := by
    rw [List.find?_eq_none]
    intro j hj
    simpa using hall j (by simpa using hj)
  simp only [boxIx, this]
theorem boxIx_iff (l : List Sn) : boxIx l ≥ 0 ↔ badBox l = true := by
  unfold boxIx
  cases h : (List.range l.length).find? (fun i => decide (badSn (gs l i))) with
  | some i =>
    rw [List.find?_range_eq_some] at h
    simp only
    constructor
    · intro _; exact someB_true (by simpa using h.2.1) (by simpa using h.1)
    · intro _; omega
  | none =>
    rw [List.find?_eq_none] at h
    simp only
    constructor
    · intro hx; omega
    · intro hx
      obtain ⟨i, hi, hb⟩ := someB_some hx
      exact absurd hb (by simpa using h i (by simpa using hi))
def boxE (l : List Sn) : Int := if l.length = 0 ∨ l.length > 6 then 6 else if badBox l = true then 3 else 0
theorem boxE_zero {l : List Sn} (h : boxE l = 0) : 1 ≤ l.length ∧ l.length ≤ 6 ∧ ∀ i < l.length, ¬ badSn (gs l i) := by
  unfold boxE at h
  by_cases h1 : l.length = 0 ∨ l.length > 6
  · rw [if_pos h1] at h; omega
  · rw [if_neg h1] at h
    by_cases h2 : badBox l = true
    · rw [if_pos h2] at h; omega
    · exact ⟨by omega, by omega, someB_none h2⟩
end Go.AH.Hone
namespace Go.Proofs.Ytindbippegiopaa
open Go Go.AH
attribute [local irreducible] WOps WCode WFree retQ thenQ blockQ scopeQ OpOk ACall RetRef roundA roundB
set_option maxRecDepth 100000
set_option maxHeartbeats 1000000
open Go.AH.Hone
theorem boxBad_ok (s : Sn) : Ev Try.prog 54 [s.val] [] (.bool (decide (badSn s))) [] := by
  by_cases h1 : (0 ≤ s.g ∧ s.g ≤ 100) ∧ 0 ≤ s.c ∧ s.c ≤ 100
  · by_cases h2 : -6 ≤ s.b ∧ s.b ≤ 6
    · rw [decide_eq_false (by unfold badSn; omega)]
      refine acall_intro 0 17 Try.func54 rfl rfl rfl rfl rfl ?_
      repeat' (first | (refine gU ?_; first | (refine gMove ?_; refine st (ok_move rfl) rfl rfl ?_) | (refine gAssign ?_; refine st (ok_assign rfl) rfl rfl ?_) | (refine gFA ?_; refine st (ok_fieldAddr rfl) rfl rfl ?_) | (refine gLoad ?_; refine st (ok_load rfl (by rfl)) rfl rfl ?_) | (refine gPick ?_; refine st (ok_pickFA rfl rfl) rfl rfl ?_) | (refine gNot ?_; refine st (ok_notD rfl) rfl rfl ?_) | (refine gCall ?_; refine st (ok_call rfl rfl rfl (by exact within_ev2 (by exact .inr (.inl rfl)) rfl)) rfl rfl ?_) | (refine gBox ?_; refine st (ok_box rfl) rfl rfl ?_) | (refine gBuildS ?_; refine st (ok_buildS (by rfl) (by rfl) (by rfl) (by rfl) rfl (by rfl)) rfl rfl ?_)) | (refine gG ?_; first | (refine gFA ?_; refine stGA rfl (ok_fieldAddr rfl) rfl rfl ?_) | (refine gLoad ?_; refine stGA rfl (ok_load rfl (by rfl)) rfl rfl ?_) | (refine gNot ?_; refine stGA rfl (ok_notD rfl) rfl rfl ?_) | (refine gCall ?_; refine stGA rfl (ok_call rfl rfl rfl (by exact within_ev1 (by exact .inr (.inl rfl)) rfl)) rfl rfl ?_) | (refine gBuildS ?_; refine stGA rfl (ok_buildS (by rfl) (by rfl) (by rfl) (by rfl) rfl (by rfl)) rfl rfl ?_)) | refine W_seq ?_ | refine W_region ?_ | refine st_nil ?_ | refine tq_n ?_ | refine W_ret ?_)
      refine ret0 (.tmp rfl .nil) (.plain rfl rfl) ⟨?_, rfl⟩
      simp [retV, h2]
    · rw [decide_eq_true (by unfold badSn; omega)]
      refine acall_intro 0 17 Try.func54 rfl rfl rfl rfl rfl ?_
      repeat' (first | (refine gU ?_; first | (refine gMove ?_; refine st (ok_move rfl) rfl rfl ?_) | (refine gAssign ?_; refine st (ok_assign rfl) rfl rfl ?_) | (refine gFA ?_; refine st (ok_fieldAddr rfl) rfl rfl ?_) | (refine gLoad ?_; refine st (ok_load rfl (by rfl)) rfl rfl ?_) | (refine gPick ?_; refine st (ok_pickFA rfl rfl) rfl rfl ?_) | (refine gNot ?_; refine st (ok_notD rfl) rfl rfl ?_) | (refine gCall ?_; refine st (ok_call rfl rfl rfl (by exact within_ev2 (by exact .inr (.inl rfl)) rfl)) rfl rfl ?_) | (refine gBox ?_; refine st (ok_box rfl) rfl rfl ?_) | (refine gBuildS ?_; refine st (ok_buildS (by rfl) (by rfl) (by rfl) (by rfl) rfl (by rfl)) rfl rfl ?_)) | (refine gG ?_; first | (refine gFA ?_; refine stGA rfl (ok_fieldAddr rfl) rfl rfl ?_) | (refine gLoad ?_; refine stGA rfl (ok_load rfl (by rfl)) rfl rfl ?_) | (refine gNot ?_; refine stGA rfl (ok_notD rfl) rfl rfl ?_) | (refine gCall ?_; refine stGA rfl (ok_call rfl rfl rfl (by exact within_ev1 (by exact .inr (.inl rfl)) rfl)) rfl rfl ?_) | (refine gBuildS ?_; refine stGA rfl (ok_buildS (by rfl) (by rfl) (by rfl) (by rfl) rfl (by rfl)) rfl rfl ?_)) | refine W_seq ?_ | refine W_region ?_ | refine st_nil ?_ | refine tq_n ?_ | refine W_ret ?_)
      refine ret0 (.tmp rfl .nil) (.plain rfl rfl) ⟨?_, rfl⟩
      simp only [retV, Value.bool.injEq, decide_eq_true_eq]; exact h2
  · rw [decide_eq_true (by unfold badSn; omega)]
    refine acall_intro 0 17 Try.func54 rfl rfl rfl rfl rfl ?_
    repeat' (first | (refine gU ?_; first | (refine gMove ?_; refine st (ok_move rfl) rfl rfl ?_) | (refine gAssign ?_; refine st (ok_assign rfl) rfl rfl ?_) | (refine gFA ?_; refine st (ok_fieldAddr rfl) rfl rfl ?_) | (refine gLoad ?_; refine st (ok_load rfl (by rfl)) rfl rfl ?_) | (refine gPick ?_; refine st (ok_pickTA rfl rfl) rfl rfl ?_) | (refine gNot ?_; refine st (ok_notD rfl) rfl rfl ?_) | (refine gCall ?_; refine st (ok_call rfl rfl rfl (by exact within_ev2 (by exact .inr (.inl rfl)) rfl)) rfl rfl ?_) | (refine gBox ?_; refine st (ok_box rfl) rfl rfl ?_) | (refine gBuildS ?_; refine st (ok_buildS (by rfl) (by rfl) (by rfl) (by rfl) rfl (by rfl)) rfl rfl ?_)) | (refine gG ?_; refine stSA rfl rfl ?_) | refine W_seq ?_ | refine W_region ?_ | refine st_nil ?_ | refine tq_n ?_ | refine W_ret ?_)
    exact ret0 (.tmp rfl .nil) (.plain rfl rfl) ⟨rfl, rfl⟩
theorem boxBad_ev {σ : Heap} {s : Sn} (hni : σ.all (fun o => !isIter o) = true) : Ev Try.prog 54 [s.val] σ (.bool (decide (badSn s))) σ := Ev.nil (boxBad_ok s) rfl rfl hni
theorem indexBox_ok (l : List Sn) (c : Nat) (hN : l.length ≤ 1000000) :
    Ev Try.prog 77 [.slice (some ⟨0, 0, none⟩) l.length c, .func (.func 54) #[] #[]] [.ro (stonesC l)] (.int .i64 (boxIx l)) [.ro (stonesC l)] := by
  refine acall_intro 1 19 Try.func77 rfl rfl rfl rfl rfl ?_
  repeat' (first | (refine gU ?_; first | (refine gMove ?_; refine st (ok_move rfl) rfl rfl ?_) | (refine gAssign ?_; refine st (ok_assign rfl) rfl rfl ?_) | (refine gLen ?_; refine st (ok_len rfl) rfl rfl ?_)) | refine W_seq ?_ | refine W_region ?_ | refine st_nil ?_ | refine tq_n ?_ | refine W_block ?_)
  refine W_loopS (ι := Nat) (fun i => [(0, .slice (some ⟨0, 0, none⟩) l.length c), (1, .func (.func 54) #[] #[]), (7, .int .i64 (l.length : Int)), (8, .int .i64 (i : Int))])
    (fun _ => [.ro (stonesC l)]) (fun i => l.length - i) (fun i => i ≤ l.length ∧ ∀ j < i, ¬ badSn (gs l j)) 0 (by simp) (.same ⟨rfl, rfl, rfl, rfl, trivial⟩) ⟨by omega, fun j h => by omega⟩ ?_
  intro i ⟨hi', hall⟩
  by_cases hil : i < l.length
  · have hc := stone_cells (σ := [.ro (stonesC l)]) (x := 0) (.inl rfl) hil
    have hc' : Ev Try.prog 54 [.agg (gs l i).cells.toArray] [.ro (stonesC l)] (.bool (decide (badSn (gs l i)))) [.ro (stonesC l)] := boxBad_ev rfl
    by_cases hb : badSn (gs l i)
    · repeat' (first | (refine gU ?_; first | (refine gMove ?_; refine st (ok_move rfl) rfl rfl ?_) | (refine gAssign ?_; refine st (ok_assign rfl) rfl rfl ?_) | (refine gLoad ?_; refine st (ok_loadA rfl (by assumption)) rfl rfl ?_) | (refine gBin ?_; refine st (ok_bin rfl rfl rfl) rfl rfl ?_) | (refine gIA ?_; refine st (ok_idxSN rfl rfl (by omega)) rfl rfl ?_) | (refine gCall ?_; refine st (ok_call rfl rfl rfl (by exact boxBad_ev rfl)) rfl rfl ?_)) | refine W_seq ?_ | refine W_region ?_ | refine st_nil ?_ | refine tq_n ?_ | refine tq_r ?_ | refine bq_r ?_ | refine W_skip ?_ | refine W_ret ?_ | refine W_block ?_ | refine W_condTA rfl ?_)
      · refine ret0 (.tmp rfl .nil) (.plain rfl rfl) ⟨?_, rfl⟩
        simp only [retV]
        rw [boxIx_some hil hb hall]
    · repeat' (first | (refine gU ?_; first | (refine gMove ?_; refine st (ok_move rfl) rfl rfl ?_) | (refine gAssign ?_; refine st (ok_assign rfl) rfl rfl ?_) | (refine gLoad ?_; refine st (ok_loadA rfl (by assumption)) rfl rfl ?_) | (refine gAdd ?_; refine st (ok_inc rfl rfl (by omega)) rfl rfl ?_) | (refine gBin ?_; refine st (ok_bin rfl rfl rfl) rfl rfl ?_) | (refine gIA ?_; refine st (ok_idxSN rfl rfl (by omega)) rfl rfl ?_) | (refine gCall ?_; refine st (ok_call rfl rfl rfl (by exact boxBad_ev rfl)) rfl rfl ?_)) | refine W_seq ?_ | refine W_region ?_ | refine st_nil ?_ | refine tq_n ?_ | refine bq_n ?_ | refine W_skip ?_ | refine W_block ?_ | refine W_condTA rfl ?_ | refine W_condFA rfl ?_)
      refine ⟨rfl, i + 1, ⟨by omega, fun j hj => ?_⟩, by omega, .same ⟨rfl, rfl, rfl, rfl, trivial⟩⟩
      by_cases hji : j = i
      · subst hji; assumption
      · exact hall j (by omega)
  · repeat' (first | (refine gU ?_; first | (refine gAssign ?_; refine st (ok_assign rfl) rfl rfl ?_) | (refine gBin ?_; refine st (ok_bin rfl rfl rfl) rfl rfl ?_)) | refine W_seq ?_ | refine W_region ?_ | refine st_nil ?_ | refine tq_n ?_ | refine tq_e ?_ | refine bq_hit rfl ?_ | refine W_exit ?_ | refine W_ret ?_ | refine W_condFA rfl ?_)
    refine ret0 (.tmp rfl .nil) (.plain rfl rfl) ⟨?_, rfl⟩
    simp only [retV]
    rw [boxIx_none fun j hj => hall j (by omega)]
theorem indexBox_ev {σ : Heap} {l : List Sn} {x c : Nat} (hx : arrAt σ x (stonesC l)) (hN : l.length ≤ 1000000) (hni : σ.all (fun o => !isIter o) = true) :
    Ev Try.prog 77 [.slice (some ⟨x, 0, none⟩) l.length c, .func (.func 54) #[] #[]] σ (.int .i64 (boxIx l)) σ :=
  Ev.arrs [stonesC l] [x] (indexBox_ok l c hN) ⟨hx, trivial⟩ ⟨by simpa [bsR] using VQ.slice (q := true) (n := 1) (ρ := bsR [x]) 0 0 l.length c c (Nat.le_refl _) (by omega), vrel_plain _ rfl, trivial⟩ (by simp [stonesC_plain]) rfl hni
theorem containsBox_ok (l : List Sn) (c : Nat) (hN : l.length ≤ 1000000) :
    Ev Try.prog 55 [.slice (some ⟨0, 0, none⟩) l.length c, .func (.func 54) #[] #[]] [.ro (stonesC l)] (.bool (decide (boxIx l ≥ 0))) [.ro (stonesC l)] := by
  refine acall_intro 1 9 Try.func55 rfl rfl rfl rfl rfl ?_
  repeat' (first | (refine gU ?_; first | (refine gMove ?_; refine st (ok_move rfl) rfl rfl ?_) | (refine gAssign ?_; refine st (ok_assign rfl) rfl rfl ?_) | (refine gBin ?_; refine st (ok_bin rfl rfl rfl) rfl rfl ?_) | (refine gCall ?_; refine st (ok_call rfl rfl rfl (by exact indexBox_ev (by exact .inl rfl) (by assumption) rfl)) rfl rfl ?_)) | refine W_seq ?_ | refine W_region ?_ | refine st_nil ?_ | refine tq_n ?_ | refine W_ret ?_)
  refine ret0 (.tmp rfl .nil) (.plain rfl rfl) ⟨?_, rfl⟩
  rfl
theorem containsBox_ev {σ : Heap} {l : List Sn} {x c : Nat} (hx : arrAt σ x (stonesC l)) (hN : l.length ≤ 1000000) (hni : σ.all (fun o => !isIter o) = true) :
    Ev Try.prog 55 [.slice (some ⟨x, 0, none⟩) l.length c, .func (.func 54) #[] #[]] σ (.bool (decide (boxIx l ≥ 0))) σ :=
  Ev.arrs [stonesC l] [x] (containsBox_ok l c hN) ⟨hx, trivial⟩ ⟨by simpa [bsR] using VQ.slice (q := true) (n := 1) (ρ := bsR [x]) 0 0 l.length c c (Nat.le_refl _) (by omega), vrel_plain _ rfl, trivial⟩ (by simp [stonesC_plain]) rfl hni
theorem checkBox_ok (l : List Sn) (c : Nat) (hN : l.length ≤ 1000000) :
    Ev Try.prog 19 [.slice (some ⟨0, 0, none⟩) l.length c] [.ro (stonesC l)] (.int .i64 (boxE l)) [.ro (stonesC l)] := by
  have hi := boxIx_iff l
  by_cases h0 : (l.length : Int) = 0
  · have e : boxE l = 6 := by unfold boxE; rw [if_pos (by omega)]
    rw [e]
    refine acall_intro 1 17 Try.func19 rfl rfl rfl rfl rfl ?_
    repeat' (first | (refine gU ?_; first | (refine gMove ?_; refine st (ok_move rfl) rfl rfl ?_) | (refine gAssign ?_; refine st (ok_assign rfl) rfl rfl ?_) | (refine gBin ?_; refine st (ok_bin rfl rfl rfl) rfl rfl ?_) | (refine gLen ?_; refine st (ok_len rfl) rfl rfl ?_) | (refine gPick ?_; refine st (ok_pickTA rfl rfl) rfl rfl ?_)) | (refine gG ?_; refine stSA rfl rfl ?_) | refine W_seq ?_ | refine W_region ?_ | refine st_nil ?_ | refine tq_n ?_ | refine tq_r ?_ | refine bq_r ?_ | refine W_ret ?_ | refine W_block ?_ | refine W_condTA rfl ?_)
    exact ret0 (.tmp rfl .nil) (.plain rfl rfl) ⟨rfl, rfl⟩
  · by_cases h6 : (l.length : Int) > 6
    · have e : boxE l = 6 := by unfold boxE; rw [if_pos (by omega)]
      rw [e]
      refine acall_intro 1 17 Try.func19 rfl rfl rfl rfl rfl ?_
      repeat' (first | (refine gU ?_; first | (refine gMove ?_; refine st (ok_move rfl) rfl rfl ?_) | (refine gAssign ?_; refine st (ok_assign rfl) rfl rfl ?_) | (refine gBin ?_; refine st (ok_bin rfl rfl rfl) rfl rfl ?_) | (refine gLen ?_; refine st (ok_len rfl) rfl rfl ?_) | (refine gPick ?_; refine st (ok_pickFA rfl rfl) rfl rfl ?_)) | (refine gG ?_; first | (refine gMove ?_; refine stGA rfl (ok_move rfl) rfl rfl ?_) | (refine gBin ?_; refine stGA rfl (ok_bin rfl rfl rfl) rfl rfl ?_) | (refine gLen ?_; refine stGA rfl (ok_len rfl) rfl rfl ?_)) | refine W_seq ?_ | refine W_region ?_ | refine st_nil ?_ | refine tq_n ?_ | refine tq_r ?_ | refine bq_r ?_ | refine W_ret ?_ | refine W_block ?_ | refine W_condTA rfl ?_)
      exact ret0 (.tmp rfl .nil) (.plain rfl rfl) ⟨rfl, rfl⟩
    · by_cases hb : boxIx l ≥ 0
      · have e : boxE l = 3 := by unfold boxE; rw [if_neg (by omega), if_pos (hi.1 hb)]
        rw [e]
        refine acall_intro 1 17 Try.func19 rfl rfl rfl rfl rfl ?_
        repeat' (first | (refine gU ?_; first | (refine gMove ?_; refine st (ok_move rfl) rfl rfl ?_) | (refine gAssign ?_; refine st (ok_assign rfl) rfl rfl ?_) | (refine gBin ?_; refine st (ok_bin rfl rfl rfl) rfl rfl ?_) | (refine gLen ?_; refine st (ok_len rfl) rfl rfl ?_) | (refine gPick ?_; refine st (ok_pickFA rfl rfl) rfl rfl ?_) | (refine gCall ?_; refine st (ok_call rfl rfl rfl (by exact containsBox_ev (by exact .inl rfl) (by assumption) rfl)) rfl rfl ?_)) | (refine gG ?_; first | (refine gMove ?_; refine stGA rfl (ok_move rfl) rfl rfl ?_) | (refine gBin ?_; refine stGA rfl (ok_bin rfl rfl rfl) rfl rfl ?_) | (refine gLen ?_; refine stGA rfl (ok_len rfl) rfl rfl ?_)) | refine W_seq ?_ | refine W_region ?_ | refine st_nil ?_ | refine tq_n ?_ | refine tq_r ?_ | refine bq_r ?_ | refine W_ret ?_ | refine W_block ?_ | refine W_condTA rfl ?_ | refine W_condFA rfl ?_)
        exact ret0 (.tmp rfl .nil) (.plain rfl rfl) ⟨rfl, rfl⟩
      · have e : boxE l = 0 := by unfold boxE; rw [if_neg (by omega), if_neg (fun h => hb (hi.2 h))]
        rw [e]
        refine acall_intro 1 17 Try.func19 rfl rfl rfl rfl rfl ?_
        repeat' (first | (refine gU ?_; first | (refine gMove ?_; refine st (ok_move rfl) rfl rfl ?_) | (refine gAssign ?_; refine st (ok_assign rfl) rfl rfl ?_) | (refine gBin ?_; refine st (ok_bin rfl rfl rfl) rfl rfl ?_) | (refine gLen ?_; refine st (ok_len rfl) rfl rfl ?_) | (refine gPick ?_; refine st (ok_pickFA rfl rfl) rfl rfl ?_) | (refine gCall ?_; refine st (ok_call rfl rfl rfl (by exact containsBox_ev (by exact .inl rfl) (by assumption) rfl)) rfl rfl ?_)) | (refine gG ?_; first | (refine gMove ?_; refine stGA rfl (ok_move rfl) rfl rfl ?_) | (refine gBin ?_; refine stGA rfl (ok_bin rfl rfl rfl) rfl rfl ?_) | (refine gLen ?_; refine stGA rfl (ok_len rfl) rfl rfl ?_)) | refine W_seq ?_ | refine W_region ?_ | refine st_nil ?_ | refine tq_n ?_ | refine bq_n ?_ | refine W_skip ?_ | refine W_ret ?_ | refine W_block ?_ | refine W_condFA rfl ?_)
        exact ret0 (.tmp rfl .nil) (.plain rfl rfl) ⟨rfl, rfl⟩
theorem checkBox_ev {σ : Heap} {l : List Sn} {x c : Nat} (hx : arrAt σ x (stonesC l)) (hN : l.length ≤ 1000000) (hni : σ.all (fun o => !isIter o) = true) :
    Ev Try.prog 19 [.slice (some ⟨x, 0, none⟩) l.length c] σ (.int .i64 (boxE l)) σ :=
  Ev.arrs [stonesC l] [x] (checkBox_ok l c hN) ⟨hx, trivial⟩ ⟨by simpa [bsR] using VQ.slice (q := true) (n := 1) (ρ := bsR [x]) 0 0 l.length c c (Nat.le_refl _) (by omega), trivial⟩ (by simp [stonesC_plain]) rfl hni
theorem isEdge_ok (e : Ed) : Ev Try.prog 49 [e.val] [] (.bool (decide (¬ badEd e))) [] := by
  by_cases h1 : 0 ≤ e.d ∧ e.d ≤ 100
  · refine acall_intro 0 13 Try.func49 rfl rfl rfl rfl rfl ?_
    repeat' (first | (refine gU ?_; first | (refine gMove ?_; refine st (ok_move rfl) rfl rfl ?_) | (refine gAssign ?_; refine st (ok_assign rfl) rfl rfl ?_) | (refine gFA ?_; refine st (ok_fieldAddr rfl) rfl rfl ?_) | (refine gLoad ?_; refine st (ok_load rfl (by rfl)) rfl rfl ?_) | (refine gPick ?_; refine st (ok_pickTA rfl rfl) rfl rfl ?_) | (refine gCall ?_; refine st (ok_call rfl rfl rfl (by exact within_ev1 (by exact .inr (.inl rfl)) rfl)) rfl rfl ?_) | (refine gBox ?_; refine st (ok_box rfl) rfl rfl ?_) | (refine gBuildS ?_; refine st (ok_buildS (by rfl) (by rfl) (by rfl) (by rfl) rfl (by rfl)) rfl rfl ?_)) | (refine gG ?_; first | (refine gFA ?_; refine stGA rfl (ok_fieldAddr rfl) rfl rfl ?_) | (refine gLoad ?_; refine stGA rfl (ok_load rfl (by rfl)) rfl rfl ?_) | (refine gCall ?_; refine stGA rfl (ok_call rfl rfl rfl (by exact within_ev1 (by exact .inr (.inl rfl)) rfl)) rfl rfl ?_) | (refine gBuildS ?_; refine stGA rfl (ok_buildS (by rfl) (by rfl) (by rfl) (by rfl) rfl (by rfl)) rfl rfl ?_)) | refine W_seq ?_ | refine W_region ?_ | refine st_nil ?_ | refine tq_n ?_ | refine W_ret ?_)
    refine ret0 (.tmp rfl .nil) (.plain rfl rfl) ⟨?_, rfl⟩
    simp only [retV, Value.bool.injEq, decide_eq_decide]; unfold badEd; omega
  · refine acall_intro 0 13 Try.func49 rfl rfl rfl rfl rfl ?_
    repeat' (first | (refine gU ?_; first | (refine gMove ?_; refine st (ok_move rfl) rfl rfl ?_) | (refine gAssign ?_; refine st (ok_assign rfl) rfl rfl ?_) | (refine gFA ?_; refine st (ok_fieldAddr rfl) rfl rfl ?_) | (refine gLoad ?_; refine st (ok_load rfl (by rfl)) rfl rfl ?_) | (refine gPick ?_; refine st (ok_pickFA rfl rfl) rfl rfl ?_) | (refine gCall ?_; refine st (ok_call rfl rfl rfl (by exact within_ev1 (by exact .inr (.inl rfl)) rfl)) rfl rfl ?_) | (refine gBox ?_; refine st (ok_box rfl) rfl rfl ?_) | (refine gBuildS ?_; refine st (ok_buildS (by rfl) (by rfl) (by rfl) (by rfl) rfl (by rfl)) rfl rfl ?_)) | (refine gG ?_; refine stSA rfl rfl ?_) | refine W_seq ?_ | refine W_region ?_ | refine st_nil ?_ | refine tq_n ?_ | refine W_ret ?_)
    refine ret0 (.tmp rfl .nil) (.plain rfl rfl) ⟨?_, rfl⟩
    simp only [retV, Value.bool.injEq]
    rw [decide_eq_false (by unfold badEd; omega)]
theorem isEdge_ev {σ : Heap} {e : Ed} (hni : σ.all (fun o => !isIter o) = true) : Ev Try.prog 49 [e.val] σ (.bool (decide (¬ badEd e))) σ := Ev.nil (isEdge_ok e) rfl rfl hni
end Go.Proofs.Ytindbippegiopaa
namespace Go.Proofs.Ytindbippegiopaa
open Go Go.AH
attribute [local irreducible] WOps WCode WFree retQ thenQ blockQ scopeQ OpOk ACall RetRef roundA roundB
set_option maxRecDepth 100000
set_option maxHeartbeats 1000000
open Go.AH.Hone
theorem refBox_ok (l : List Sn) (c : Nat) (hN : l.length ≤ 1000000) :
    Ev Try.prog 20 [.slice (some ⟨0, 0, none⟩) l.length c] [.ro (stonesC l)] (.int .i64 (boxE l)) [.ro (stonesC l)] := by
  by_cases h0 : (l.length : Int) < 1
  · have e : boxE l = 6 := by unfold boxE; rw [if_pos (by omega)]
    rw [e]
    refine acall_intro 1 64 Try.func20 rfl rfl rfl rfl rfl ?_
    repeat' (first | (refine gU ?_; first | (refine gMove ?_; refine st (ok_move rfl) rfl rfl ?_) | (refine gAssign ?_; refine st (ok_assign rfl) rfl rfl ?_) | (refine gBin ?_; refine st (ok_bin rfl rfl rfl) rfl rfl ?_) | (refine gLen ?_; refine st (ok_len rfl) rfl rfl ?_) | (refine gPick ?_; refine st (ok_pickTA rfl rfl) rfl rfl ?_)) | (refine gG ?_; refine stSA rfl rfl ?_) | refine W_seq ?_ | refine W_region ?_ | refine st_nil ?_ | refine tq_n ?_ | refine tq_r ?_ | refine W_ret ?_ | refine W_condTA rfl ?_)
    exact ret0 (.tmp rfl .nil) (.plain rfl rfl) ⟨rfl, rfl⟩
  · by_cases h6 : (l.length : Int) > 6
    · have e : boxE l = 6 := by unfold boxE; rw [if_pos (by omega)]
      rw [e]
      refine acall_intro 1 64 Try.func20 rfl rfl rfl rfl rfl ?_
      repeat' (first | (refine gU ?_; first | (refine gMove ?_; refine st (ok_move rfl) rfl rfl ?_) | (refine gAssign ?_; refine st (ok_assign rfl) rfl rfl ?_) | (refine gBin ?_; refine st (ok_bin rfl rfl rfl) rfl rfl ?_) | (refine gLen ?_; refine st (ok_len rfl) rfl rfl ?_) | (refine gPick ?_; refine st (ok_pickFA rfl rfl) rfl rfl ?_)) | (refine gG ?_; first | (refine gMove ?_; refine stGA rfl (ok_move rfl) rfl rfl ?_) | (refine gBin ?_; refine stGA rfl (ok_bin rfl rfl rfl) rfl rfl ?_) | (refine gLen ?_; refine stGA rfl (ok_len rfl) rfl rfl ?_)) | refine W_seq ?_ | refine W_region ?_ | refine st_nil ?_ | refine tq_n ?_ | refine tq_r ?_ | refine W_ret ?_ | refine W_condTA rfl ?_)
      exact ret0 (.tmp rfl .nil) (.plain rfl rfl) ⟨rfl, rfl⟩
    · refine acall_intro 1 64 Try.func20 rfl rfl rfl rfl rfl ?_
      repeat' (first | (refine gU ?_; first | (refine gMove ?_; refine st (ok_move rfl) rfl rfl ?_) | (refine gAssign ?_; refine st (ok_assign rfl) rfl rfl ?_) | (refine gBin ?_; refine st (ok_bin rfl rfl rfl) rfl rfl ?_) | (refine gLen ?_; refine st (ok_len rfl) rfl rfl ?_) | (refine gPick ?_; refine st (ok_pickFA rfl rfl) rfl rfl ?_)) | (refine gG ?_; first | (refine gMove ?_; refine stGA rfl (ok_move rfl) rfl rfl ?_) | (refine gBin ?_; refine stGA rfl (ok_bin rfl rfl rfl) rfl rfl ?_) | (refine gLen ?_; refine stGA rfl (ok_len rfl) rfl rfl ?_)) | refine W_seq ?_ | refine W_region ?_ | refine st_nil ?_ | refine tq_n ?_ | refine W_skip ?_ | refine W_block ?_ | refine W_condFA rfl ?_)
      refine W_loopS (ι := Nat) (fun i => [(0, .slice (some ⟨0, 0, none⟩) l.length c), (3, .int .i64 (i : Int))])
        (fun _ => [.ro (stonesC l)]) (fun i => l.length - i) (fun i => i ≤ l.length ∧ ∀ j < i, ¬ badSn (gs l j)) 0 (by simp) (.same ⟨rfl, rfl, trivial⟩) ⟨by omega, fun j h => by omega⟩ ?_
      intro i ⟨hi', hall⟩
      by_cases hil : i < l.length
      · have hc1 : cellGet [.ro (stonesC l)] 0 (0 + i * 3 + 0) = some (.int .i64 (gs l i).g) := by simpa [cellGet, Sn.cells] using stonesC_at hil (k := 0) (by omega)
        have hc2 : cellGet [.ro (stonesC l)] 0 (0 + i * 3 + 1) = some (.int .i64 (gs l i).c) := by simpa [cellGet, Sn.cells] using stonesC_at hil (k := 1) (by omega)
        have hc3 : cellGet [.ro (stonesC l)] 0 (0 + i * 3 + 2) = some (.int .i64 (gs l i).b) := by simpa [cellGet, Sn.cells] using stonesC_at hil (k := 2) (by omega)
        by_cases hb : badSn (gs l i)
        · have e : boxE l = 3 := by unfold boxE; rw [if_neg (by omega), if_pos (by unfold badBox; exact someB_true hil hb)]
          rw [e]
          unfold badSn at hb
          repeat' (first | (refine gU ?_; first | (refine gMove ?_; refine st (ok_move rfl) rfl rfl ?_) | (refine gAssign ?_; refine st (ok_assign rfl) rfl rfl ?_) | (refine gFA ?_; refine st (ok_fieldAddr rfl) rfl rfl ?_) | (refine gLoad ?_; refine st (ok_load rfl (by exact hc1)) rfl rfl ?_) | (refine gBin ?_; refine st (ok_bin rfl rfl rfl) rfl rfl ?_) | (refine gLen ?_; refine st (ok_len rfl) rfl rfl ?_) | (refine gPick ?_; first | refine st (ok_pickTA rfl rfl) rfl rfl ?_ | refine st (ok_pickFA rfl rfl) rfl rfl ?_) | (refine gIA ?_; refine st (ok_idxSN rfl rfl (by omega)) rfl rfl ?_)) | (refine gG ?_; first | (refine gMove ?_; refine stGA rfl (ok_move rfl) rfl rfl ?_) | (refine gFA ?_; refine stGA rfl (ok_fieldAddr rfl) rfl rfl ?_) | (refine gLoad ?_; refine stGA rfl (ok_load rfl (by first | exact hc1 | exact hc2 | exact hc3)) rfl rfl ?_) | (refine gBin ?_; refine stGA rfl (ok_bin rfl rfl rfl) rfl rfl ?_) | (refine gIA ?_; refine stGA rfl (ok_idxSN rfl rfl (by omega)) rfl rfl ?_) | refine stSA rfl rfl ?_ | ((fail_if_success (refine stGkA rfl ?_)); (refine stGdD rfl ?_ ?_ <;> intro _))) | refine W_seq ?_ | refine W_region ?_ | refine st_nil ?_ | refine tq_n ?_ | refine tq_r ?_ | refine bq_r ?_ | refine W_skip ?_ | refine W_ret ?_ | refine W_block ?_ | refine W_condTA rfl ?_)
          all_goals exact ret0 (.tmp rfl .nil) (.plain rfl rfl) ⟨rfl, rfl⟩
        · have hb' := hb
          unfold badSn at hb'
          repeat' (first | (refine gU ?_; first | (refine gMove ?_; refine st (ok_move rfl) rfl rfl ?_) | (refine gAssign ?_; refine st (ok_assign rfl) rfl rfl ?_) | (refine gFA ?_; refine st (ok_fieldAddr rfl) rfl rfl ?_) | (refine gLoad ?_; refine st (ok_load rfl (by exact hc1)) rfl rfl ?_) | (refine gAdd ?_; refine st (ok_inc rfl rfl (by omega)) rfl rfl ?_) | (refine gBin ?_; refine st (ok_bin rfl rfl rfl) rfl rfl ?_) | (refine gLen ?_; refine st (ok_len rfl) rfl rfl ?_) | (refine gPick ?_; refine st (ok_pickFA rfl rfl) rfl rfl ?_) | (refine gIA ?_; refine st (ok_idxSN rfl rfl (by omega)) rfl rfl ?_)) | (refine gG ?_; first | (refine gMove ?_; refine stGA rfl (ok_move rfl) rfl rfl ?_) | (refine gFA ?_; refine stGA rfl (ok_fieldAddr rfl) rfl rfl ?_) | (refine gLoad ?_; refine stGA rfl (ok_load rfl (by first | exact hc1 | exact hc2 | exact hc3)) rfl rfl ?_) | (refine gBin ?_; refine stGA rfl (ok_bin rfl rfl rfl) rfl rfl ?_) | (refine gIA ?_; refine stGA rfl (ok_idxSN rfl rfl (by omega)) rfl rfl ?_)) | refine W_seq ?_ | refine W_region ?_ | refine st_nil ?_ | refine tq_n ?_ | refine bq_n ?_ | refine W_skip ?_ | refine W_block ?_ | refine W_condTA rfl ?_ | refine W_condFA rfl ?_)
          refine ⟨rfl, i + 1, ⟨by omega, fun j hj => ?_⟩, by omega, .same ⟨rfl, rfl, trivial⟩⟩
          by_cases hji : j = i
          · subst hji; assumption
          · exact hall j (by omega)
      · have e : boxE l = 0 := by unfold boxE; rw [if_neg (by omega), if_neg]; unfold badBox; rw [someB_false fun j hj => hall j (by omega)]; simp
        rw [e]
        repeat' (first | (refine gU ?_; first | (refine gMove ?_; refine st (ok_move rfl) rfl rfl ?_) | (refine gAssign ?_; refine st (ok_assign rfl) rfl rfl ?_) | (refine gBin ?_; refine st (ok_bin rfl rfl rfl) rfl rfl ?_) | (refine gLen ?_; refine st (ok_len rfl) rfl rfl ?_)) | refine W_seq ?_ | refine W_region ?_ | refine st_nil ?_ | refine tq_n ?_ | refine tq_e ?_ | refine bq_hit rfl ?_ | refine W_exit ?_ | refine W_ret ?_ | refine W_condFA rfl ?_)
        exact ret0 (.tmp rfl .nil) (.plain rfl rfl) ⟨rfl, rfl⟩
theorem refBox_ev {σ : Heap} {l : List Sn} {x c : Nat} (hx : arrAt σ x (stonesC l)) (hN : l.length ≤ 1000000) (hni : σ.all (fun o => !isIter o) = true) :
    Ev Try.prog 20 [.slice (some ⟨x, 0, none⟩) l.length c] σ (.int .i64 (boxE l)) σ :=
  Ev.arrs [stonesC l] [x] (refBox_ok l c hN) ⟨hx, trivial⟩ ⟨by simpa [bsR] using VQ.slice (q := true) (n := 1) (ρ := bsR [x]) 0 0 l.length c c (Nat.le_refl _) (by omega), trivial⟩ (by simp [stonesC_plain]) rfl hni
theorem refEdge_ok (e : Ed) : Ev Try.prog 45 [e.val] [] (.bool (decide (¬ badEd e))) [] := by
  by_cases h : badEd e
  · rw [decide_eq_false (fun hn => hn h)]
    unfold badEd at h
    refine acall_intro 0 21 Try.func45 rfl rfl rfl rfl rfl ?_
    repeat' (first | (refine gU ?_; first | (refine gMove ?_; refine st (ok_move rfl) rfl rfl ?_) | (refine gAssign ?_; refine st (ok_assign rfl) rfl rfl ?_) | (refine gFA ?_; refine st (ok_fieldAddr rfl) rfl rfl ?_) | (refine gLoad ?_; refine st (ok_load rfl (by rfl)) rfl rfl ?_) | (refine gBin ?_; refine st (ok_bin rfl rfl rfl) rfl rfl ?_) | (refine gPick ?_; first | refine st (ok_pickTA rfl rfl) rfl rfl ?_ | refine st (ok_pickFA rfl rfl) rfl rfl ?_) | (refine gBox ?_; refine st (ok_box rfl) rfl rfl ?_)) | (refine gG ?_; first | (refine gFA ?_; refine stGA rfl (ok_fieldAddr rfl) rfl rfl ?_) | (refine gLoad ?_; refine stGA rfl (ok_load rfl (by rfl)) rfl rfl ?_) | (refine gBin ?_; refine stGA rfl (ok_bin rfl rfl rfl) rfl rfl ?_) | refine stSA rfl rfl ?_ | ((fail_if_success (refine stGkA rfl ?_)); (refine stGdD rfl ?_ ?_ <;> intro _))) | refine W_seq ?_ | refine W_region ?_ | refine st_nil ?_ | refine tq_n ?_ | refine W_ret ?_)
    all_goals
      refine ret0 (.tmp rfl .nil) (.plain rfl rfl) ⟨?_, rfl⟩
      first | (simp only [retV, Value.bool.injEq]; done) | (simp only [retV, Value.bool.injEq, decide_eq_false_iff_not]; omega)
  · rw [decide_eq_true h]
    have h' := h
    unfold badEd at h'
    refine acall_intro 0 21 Try.func45 rfl rfl rfl rfl rfl ?_
    repeat' (first | (refine gU ?_; first | (refine gMove ?_; refine st (ok_move rfl) rfl rfl ?_) | (refine gAssign ?_; refine st (ok_assign rfl) rfl rfl ?_) | (refine gFA ?_; refine st (ok_fieldAddr rfl) rfl rfl ?_) | (refine gLoad ?_; refine st (ok_load rfl (by rfl)) rfl rfl ?_) | (refine gBin ?_; refine st (ok_bin rfl rfl rfl) rfl rfl ?_) | (refine gPick ?_; refine st (ok_pickTA rfl rfl) rfl rfl ?_) | (refine gBox ?_; refine st (ok_box rfl) rfl rfl ?_)) | (refine gG ?_; first | (refine gFA ?_; refine stGA rfl (ok_fieldAddr rfl) rfl rfl ?_) | (refine gLoad ?_; refine stGA rfl (ok_load rfl (by rfl)) rfl rfl ?_) | (refine gBin ?_; refine stGA rfl (ok_bin rfl rfl rfl) rfl rfl ?_)) | refine W_seq ?_ | refine W_region ?_ | refine st_nil ?_ | refine tq_n ?_ | refine W_ret ?_)
    refine ret0 (.tmp rfl .nil) (.plain rfl rfl) ⟨?_, rfl⟩
    simp only [retV, Value.bool.injEq, decide_eq_true_eq]
    omega
theorem refEdge_ev {σ : Heap} {e : Ed} (hni : σ.all (fun o => !isIter o) = true) : Ev Try.prog 45 [e.val] σ (.bool (decide (¬ badEd e))) σ := Ev.nil (refEdge_ok e) rfl rfl hni
def askE (l : List Sn) (e goal : Ed) : Int := if boxE l ≠ 0 then boxE l else if badEd e ∨ badEd goal then 2 else 0
theorem askE_zero {l : List Sn} {e goal : Ed} (h : askE l e goal = 0) : boxE l = 0 ∧ ¬ badEd e ∧ ¬ badEd goal := by
  unfold askE at h
  by_cases h1 : boxE l ≠ 0
  · rw [if_pos h1] at h; exact absurd h h1
  · rw [if_neg h1] at h
    by_cases h2 : badEd e ∨ badEd goal
    · rw [if_pos h2] at h; omega
    · exact ⟨Classical.byContradiction h1, fun g => h2 (.inl g), fun g => h2 (.inr g)⟩
theorem asked_ok (l : List Sn) (c : Nat) (e goal : Ed) (hN : l.length ≤ 1000000) :
    Ev Try.prog 52 [.slice (some ⟨0, 0, none⟩) l.length c, e.val, goal.val] [.ro (stonesC l)] (.int .i64 (askE l e goal)) [.ro (stonesC l)] := by
  unfold askE
  by_cases hb : boxE l = 0
  · rw [if_neg (by omega)]
    by_cases h1 : badEd e
    · rw [if_pos (.inl h1)]
      have h1' : ¬¬badEd e := fun h => h h1
      refine acall_intro 1 20 Try.func52 rfl rfl rfl rfl rfl ?_
      repeat' (first | (refine gU ?_; first | (refine gMove ?_; refine st (ok_move rfl) rfl rfl ?_) | (refine gAssign ?_; refine st (ok_assign rfl) rfl rfl ?_) | (refine gLoad ?_; refine st (ok_loadA rfl (by rfl)) rfl rfl ?_) | (refine gBin ?_; refine st (ok_bin rfl rfl rfl) rfl rfl ?_) | (refine gPick ?_; refine st (ok_pickTA rfl rfl) rfl rfl ?_) | (refine gNot ?_; refine st (ok_notD rfl) rfl rfl ?_) | (refine gCall ?_; refine st (ok_call rfl rfl rfl (by first | exact refBox_ev (by exact .inl rfl) (by assumption) rfl | exact refEdge_ev rfl)) rfl rfl ?_) | (refine gBox ?_; refine st (ok_box rfl) rfl rfl ?_)) | (refine gG ?_; refine stSA rfl rfl ?_) | refine W_seq ?_ | refine W_region ?_ | refine st_nil ?_ | refine tq_n ?_ | refine tq_r ?_ | refine W_skip ?_ | refine W_ret ?_ | refine W_condTA rfl ?_ | refine W_condFA rfl ?_)
      exact ret0 (.tmp rfl .nil) (.plain rfl rfl) ⟨rfl, rfl⟩
    · have h1' : ¬¬¬badEd e := fun h => h h1
      by_cases h2 : badEd goal
      · rw [if_pos (.inr h2)]
        have h2' : ¬¬badEd goal := fun h => h h2
        refine acall_intro 1 20 Try.func52 rfl rfl rfl rfl rfl ?_
        repeat' (first | (refine gU ?_; first | (refine gMove ?_; refine st (ok_move rfl) rfl rfl ?_) | (refine gAssign ?_; refine st (ok_assign rfl) rfl rfl ?_) | (refine gLoad ?_; refine st (ok_loadA rfl (by rfl)) rfl rfl ?_) | (refine gBin ?_; refine st (ok_bin rfl rfl rfl) rfl rfl ?_) | (refine gPick ?_; refine st (ok_pickFA rfl rfl) rfl rfl ?_) | (refine gNot ?_; refine st (ok_notD rfl) rfl rfl ?_) | (refine gCall ?_; refine st (ok_call rfl rfl rfl (by first | exact refBox_ev (by exact .inl rfl) (by assumption) rfl | exact refEdge_ev rfl)) rfl rfl ?_) | (refine gBox ?_; refine st (ok_box rfl) rfl rfl ?_)) | (refine gG ?_; first | (refine gLoad ?_; refine stGA rfl (ok_loadA rfl (by rfl)) rfl rfl ?_) | (refine gNot ?_; refine stGA rfl (ok_notD rfl) rfl rfl ?_) | (refine gCall ?_; refine stGA rfl (ok_call rfl rfl rfl (by exact refEdge_ev rfl)) rfl rfl ?_)) | refine W_seq ?_ | refine W_region ?_ | refine st_nil ?_ | refine tq_n ?_ | refine tq_r ?_ | refine W_skip ?_ | refine W_ret ?_ | refine W_condTA rfl ?_ | refine W_condFA rfl ?_)
        exact ret0 (.tmp rfl .nil) (.plain rfl rfl) ⟨rfl, rfl⟩
      · rw [if_neg (fun h => h.elim h1 h2)]
        have h2' : ¬¬¬badEd goal := fun h => h h2
        refine acall_intro 1 20 Try.func52 rfl rfl rfl rfl rfl ?_
        repeat' (first | (refine gU ?_; first | (refine gMove ?_; refine st (ok_move rfl) rfl rfl ?_) | (refine gAssign ?_; refine st (ok_assign rfl) rfl rfl ?_) | (refine gLoad ?_; refine st (ok_loadA rfl (by rfl)) rfl rfl ?_) | (refine gBin ?_; refine st (ok_bin rfl rfl rfl) rfl rfl ?_) | (refine gPick ?_; refine st (ok_pickFA rfl rfl) rfl rfl ?_) | (refine gNot ?_; refine st (ok_notD rfl) rfl rfl ?_) | (refine gCall ?_; refine st (ok_call rfl rfl rfl (by first | exact refBox_ev (by exact .inl rfl) (by assumption) rfl | exact refEdge_ev rfl)) rfl rfl ?_) | (refine gBox ?_; refine st (ok_box rfl) rfl rfl ?_)) | (refine gG ?_; first | (refine gLoad ?_; refine stGA rfl (ok_loadA rfl (by rfl)) rfl rfl ?_) | (refine gNot ?_; refine stGA rfl (ok_notD rfl) rfl rfl ?_) | (refine gCall ?_; refine stGA rfl (ok_call rfl rfl rfl (by exact refEdge_ev rfl)) rfl rfl ?_)) | refine W_seq ?_ | refine W_region ?_ | refine st_nil ?_ | refine tq_n ?_ | refine W_skip ?_ | refine W_ret ?_ | refine W_condFA rfl ?_)
        exact ret0 (.tmp rfl .nil) (.plain rfl rfl) ⟨rfl, rfl⟩
  · rw [if_pos hb]
    refine acall_intro 1 20 Try.func52 rfl rfl rfl rfl rfl ?_
    repeat' (first | (refine gU ?_; first | (refine gMove ?_; refine st (ok_move rfl) rfl rfl ?_) | (refine gAssign ?_; refine st (ok_assign rfl) rfl rfl ?_) | (refine gBin ?_; refine st (ok_bin rfl rfl rfl) rfl rfl ?_) | (refine gCall ?_; refine st (ok_call rfl rfl rfl (by exact refBox_ev (by exact .inl rfl) (by assumption) rfl)) rfl rfl ?_) | (refine gBox ?_; refine st (ok_box rfl) rfl rfl ?_)) | refine W_seq ?_ | refine W_region ?_ | refine st_nil ?_ | refine tq_n ?_ | refine tq_r ?_ | refine W_ret ?_ | refine W_condTA rfl ?_)
    exact ret0 (.tmp rfl .nil) (.plain rfl rfl) ⟨rfl, rfl⟩
theorem asked_ev {σ : Heap} {l : List Sn} {x c : Nat} {e goal : Ed} (hx : arrAt σ x (stonesC l)) (hN : l.length ≤ 1000000) (hni : σ.all (fun o => !isIter o) = true) :
    Ev Try.prog 52 [.slice (some ⟨x, 0, none⟩) l.length c, e.val, goal.val] σ (.int .i64 (askE l e goal)) σ :=
  Ev.arrs [stonesC l] [x] (asked_ok l c e goal hN) ⟨hx, trivial⟩ ⟨by simpa [bsR] using VQ.slice (q := true) (n := 1) (ρ := bsR [x]) 0 0 l.length c c (Nat.le_refl _) (by omega), vrel_plain _ rfl, vrel_plain _ rfl, trivial⟩ (by simp [stonesC_plain]) rfl hni
end Go.Proofs.Ytindbippegiopaa
namespace Go.AH.Hone
open Go Go.AH
def natsOf (ks : List Int) : List Nat := ks.map Int.toNat
theorem natsOf_drop {ks : List Int} {i : Nat} (h : i < ks.length) : (natsOf ks).drop i = (gi ks i).toNat :: (natsOf ks).drop (i + 1) := by
  rw [List.drop_eq_getElem_cons (by simpa [natsOf] using h)]
  simp [natsOf, gi, h]
theorem natsOf_end {ks : List Int} : (natsOf ks).drop ks.length = [] := by simp [natsOf]
def afterE (l : List Sn) (e : Ed) (ks : List Int) : Int × Ed :=
  if ks.length > 800 then (6, ⟨0, 0⟩) else if badIx 0 ((l.length : Int) - 1) ks ≥ 0 then (3, ⟨0, 0⟩) else match aftL l e (natsOf ks) with | some x => (0, x) | none => (16, ⟨0, 0⟩)
def afterT (r : Int × Ed) : Value := .tuple #[r.2.val, .int .i64 r.1]
theorem aftL_step {l : List Sn} {ks : List Int} {i : Nat} (h : i < ks.length) (x : Ed) : aftL l x ((natsOf ks).drop i) = if can (gs l (gi ks i).toNat) x then aftL l (aft (gs l (gi ks i).toNat) x) ((natsOf ks).drop (i + 1)) else none := by
  rw [natsOf_drop h]; rfl
end Go.AH.Hone
namespace Go.Proofs.Ytindbippegiopaa
open Go Go.AH
attribute [local irreducible] WOps WCode WFree retQ thenQ blockQ scopeQ OpOk ACall RetRef roundA roundB
set_option maxRecDepth 100000
set_option maxHeartbeats 1000000
open Go.AH.Hone
def afterV (l : List Sn) (e : Ed) (ks : List Int) : Int × Ed := if askE l e e ≠ 0 then (askE l e e, ⟨0, 0⟩) else afterE l e ks
theorem stroke_ev {σ : Heap} {s : Sn} {e : Ed} (hs : ¬ badSn s) (he : ¬ badEd e) (hni : σ.all (fun o => !isIter o) = true) : Ev Try.prog 51 [s.val, e.val] σ (strokeV s e e) σ :=
  Ev.nil (stroke_ok s e hs he) rfl (by unfold strokeV; split <;> rfl) hni
theorem refStroke_ev {σ : Heap} {s : Sn} {e : Ed} (hs : ¬ badSn s) (he : ¬ badEd e) (hni : σ.all (fun o => !isIter o) = true) : Ev Try.prog 61 [s.val, e.val] σ (strokeV s e ⟨0, 0⟩) σ :=
  Ev.nil (refStroke_ok s e hs he) rfl (by unfold strokeV; split <;> rfl) hni
theorem hc_after (l : List Sn) (ks : List Int) (x : Ed) : HClosed 4 [AObj.ro (stonesC l), .ro (ints ks), .rw x.cells, .rw [.int .i64 0, .int .i64 0]] :=
  ⟨plainL_closed (stonesC_plain l), plainL_closed (ints_plain ks), plainL_closed rfl, plainL_closed rfl, trivial⟩
theorem after_loop_facts {l : List Sn} {ks : List Int} {i : Nat} (hb : ¬ badIx 0 ((l.length : Int) - 1) ks ≥ 0) (hi : i < ks.length) : 0 ≤ gi ks i ∧ gi ks i < l.length := by
  apply Classical.byContradiction
  intro hn
  exact hb (badIx_iff.2 ⟨i, hi, by omega⟩)
end Go.Proofs.Ytindbippegiopaa
namespace Go.Proofs.Ytindbippegiopaa
open Go Go.AH
attribute [local irreducible] WOps WCode WFree retQ thenQ blockQ scopeQ OpOk ACall RetRef roundA roundB
set_option maxRecDepth 100000
set_option maxHeartbeats 1000000
open Go.AH.Hone
theorem after_ok (l : List Sn) (e : Ed) (ks : List Int) (c c2 : Nat) (hL : l.length ≤ 1000000) (hN : ks.length ≤ 1000000) :
    Ev Try.prog 17 [.slice (some ⟨0, 0, none⟩) l.length c, e.val, .slice (some ⟨1, 0, none⟩) ks.length c2] [.ro (stonesC l), .ro (ints ks)] (afterT (afterV l e ks)) [.ro (stonesC l), .ro (ints ks)] := by
  unfold afterV askE
  by_cases hb : boxE l = 0
  · rw [show (if boxE l ≠ 0 then boxE l else if badEd e ∨ badEd e then 2 else 0) = if badEd e then 2 else 0 from by rw [if_neg (by omega)]; by_cases h : badEd e <;> simp [h]]
    by_cases h1 : badEd e
    · have h1' : ¬¬badEd e := fun h => h h1
      simp only [if_pos h1]
      rw [if_pos (by omega)]
      refine acall_intro 2 58 Try.func17 rfl rfl rfl rfl rfl ?_
      repeat' (first | (refine gU ?_; first | (refine gMove ?_; refine st (ok_move rfl) rfl rfl ?_) | (refine gAssign ?_; refine st (ok_assign rfl) rfl rfl ?_) | (refine gLoad ?_; refine st (ok_loadA rfl (by rfl)) rfl rfl ?_) | (refine gBin ?_; refine st (ok_bin rfl rfl rfl) rfl rfl ?_) | (refine gNot ?_; refine st (ok_notD rfl) rfl rfl ?_) | (refine gBuild ?_; refine st (ok_build (by rfl) rfl (by rfl)) rfl rfl ?_) | (refine gCall ?_; refine st (ok_call rfl rfl rfl (by first | exact checkBox_ev (by exact .inl rfl) (by assumption) rfl | exact isEdge_ev rfl)) rfl rfl ?_) | (refine gBox ?_; refine st (ok_box rfl) rfl rfl ?_) | (refine gAlloc ?_; refine st (ok_alloc rfl) rfl rfl ?_) | (refine gStore ?_; refine stN (ok_store rfl rfl rfl rfl (by rfl)) rfl ?_)) | refine W_seq ?_ | refine W_region ?_ | refine st_nil ?_ | refine tq_n ?_ | refine tq_r ?_ | refine bq_r ?_ | refine W_skip ?_ | refine W_ret ?_ | refine W_block ?_ | refine W_condTA rfl ?_ | refine W_condFA rfl ?_)
      exact ret0 (.cellN inferInstance rfl rfl (.tmp rfl .nil)) (.plain rfl rfl) ⟨rfl, rfl⟩
    · have h1' : ¬¬¬badEd e := fun h => h h1
      simp only [if_neg h1]
      rw [if_neg (by omega)]
      obtain ⟨h3, h4, hl⟩ := boxE_zero hb
      unfold afterE
      by_cases h8 : (ks.length : Int) > 800
      · rw [if_pos (by omega)]
        refine acall_intro 2 58 Try.func17 rfl rfl rfl rfl rfl ?_
        repeat' (first | (refine gU ?_; first | (refine gMove ?_; refine st (ok_move rfl) rfl rfl ?_) | (refine gAssign ?_; refine st (ok_assign rfl) rfl rfl ?_) | (refine gLoad ?_; refine st (ok_loadA rfl (by rfl)) rfl rfl ?_) | (refine gBin ?_; refine st (ok_bin rfl rfl rfl) rfl rfl ?_) | (refine gLen ?_; refine st (ok_len rfl) rfl rfl ?_) | (refine gNot ?_; refine st (ok_notD rfl) rfl rfl ?_) | (refine gBuild ?_; refine st (ok_build (by rfl) rfl (by rfl)) rfl rfl ?_) | (refine gCall ?_; refine st (ok_call rfl rfl rfl (by first | exact checkBox_ev (by exact .inl rfl) (by assumption) rfl | exact isEdge_ev rfl)) rfl rfl ?_) | (refine gBox ?_; refine st (ok_box rfl) rfl rfl ?_) | (refine gAlloc ?_; refine st (ok_alloc rfl) rfl rfl ?_) | (refine gStore ?_; refine stN (ok_store rfl rfl rfl rfl (by rfl)) rfl ?_)) | refine W_seq ?_ | refine W_region ?_ | refine st_nil ?_ | refine tq_n ?_ | refine tq_r ?_ | refine bq_r ?_ | refine W_skip ?_ | refine W_ret ?_ | refine W_block ?_ | refine W_condTA rfl ?_ | refine W_condFA rfl ?_)
        exact ret0 (.cellN inferInstance rfl rfl (.tmp rfl .nil)) (.plain rfl rfl) ⟨rfl, rfl⟩
      · rw [if_neg (by omega)]
        by_cases hbad : badIx 0 ((l.length : Int) - 1) ks ≥ 0
        · rw [if_pos hbad]
          refine acall_intro 2 58 Try.func17 rfl rfl rfl rfl rfl ?_
          repeat' (first | (refine gU ?_; first | (refine gMove ?_; refine st (ok_move rfl) rfl rfl ?_) | (refine gAssign ?_; refine st (ok_assign rfl) rfl rfl ?_) | (refine gLoad ?_; refine st (ok_loadA rfl (by rfl)) rfl rfl ?_) | (refine gSub ?_; refine st (ok_sub rfl rfl (by omega) (by omega)) rfl rfl ?_) | (refine gBin ?_; refine st (ok_bin rfl rfl rfl) rfl rfl ?_) | (refine gLen ?_; refine st (ok_len rfl) rfl rfl ?_) | (refine gNot ?_; refine st (ok_notD rfl) rfl rfl ?_) | (refine gBuild ?_; refine st (ok_build (by rfl) rfl (by rfl)) rfl rfl ?_) | (refine gCall ?_; refine st (ok_call rfl rfl rfl (by first | exact checkBox_ev (by exact .inl rfl) (by assumption) rfl | exact isEdge_ev rfl | exact within_ev (by exact .inl rfl) (by omega) rfl)) rfl rfl ?_) | (refine gBox ?_; refine st (ok_box rfl) rfl rfl ?_) | (refine gAlloc ?_; refine st (ok_alloc rfl) rfl rfl ?_) | (refine gStore ?_; refine stN (ok_store rfl rfl rfl rfl (by rfl)) rfl ?_)) | refine W_seq ?_ | refine W_region ?_ | refine st_nil ?_ | refine tq_n ?_ | refine tq_r ?_ | refine bq_r ?_ | refine W_skip ?_ | refine W_ret ?_ | refine W_block ?_ | refine W_condTA rfl ?_ | refine W_condFA rfl ?_)
          exact ret0 (.cellN inferInstance rfl rfl (.tmp rfl .nil)) (.plain rfl rfl) ⟨rfl, rfl⟩
        · rw [if_neg hbad]
          refine acall_intro 2 58 Try.func17 rfl rfl rfl rfl rfl ?_
          repeat' (first | (refine gU ?_; first | (refine gMove ?_; refine st (ok_move rfl) rfl rfl ?_) | (refine gAssign ?_; refine st (ok_assign rfl) rfl rfl ?_) | (refine gLoad ?_; refine st (ok_loadA rfl (by rfl)) rfl rfl ?_) | (refine gSub ?_; refine st (ok_sub rfl rfl (by omega) (by omega)) rfl rfl ?_) | (refine gBin ?_; refine st (ok_bin rfl rfl rfl) rfl rfl ?_) | (refine gLen ?_; refine st (ok_len rfl) rfl rfl ?_) | (refine gNot ?_; refine st (ok_notD rfl) rfl rfl ?_) | (refine gCall ?_; refine st (ok_call rfl rfl rfl (by first | exact checkBox_ev (by exact .inl rfl) (by assumption) rfl | exact isEdge_ev rfl | exact within_ev (by exact .inl rfl) (by omega) rfl)) rfl rfl ?_) | (refine gBox ?_; refine st (ok_box rfl) rfl rfl ?_) | (refine gAlloc ?_; refine st (ok_alloc rfl) rfl rfl ?_)) | refine W_seq ?_ | refine W_region ?_ | refine st_nil ?_ | refine tq_n ?_ | refine bq_n ?_ | refine W_skip ?_ | refine W_block ?_ | refine W_condFA rfl ?_)
          refine W_loopS (ι := Nat × Ed) (fun i => [(0, .slice (some ⟨0, 0, none⟩) l.length c), (4, .pointer (some ⟨2, 0, none⟩)), (6, .pointer (some ⟨3, 0, none⟩)), (37, .slice (some ⟨1, 0, none⟩) ks.length c2), (38, .int .i64 (ks.length : Int)), (39, .int .i64 (i.1 : Int))])
            (fun i => [.ro (stonesC l), .ro (ints ks), .rw i.2.cells, .rw [.int .i64 0, .int .i64 0]]) (fun i => ks.length - i.1) (fun i => i.1 ≤ ks.length ∧ ¬ badEd i.2 ∧ aftL l e (natsOf ks) = aftL l i.2 ((natsOf ks).drop i.1)) (0, e) (by simp) (.same ⟨rfl, rfl, rfl, rfl, rfl, rfl, trivial⟩) ⟨by simp, h1, by simp⟩ ?_
          rintro ⟨i, x⟩ ⟨hi, hx, ha⟩
          simp only at hi hx ha
          by_cases hil : i < ks.length
          · obtain ⟨g1, g2⟩ := after_loop_facts hbad hil
            have hc1 : cellGet [.ro (stonesC l), .ro (ints ks), .rw x.cells, .rw [.int .i64 0, .int .i64 0]] 1 i = some (.int .i64 (gi ks i)) := by simpa [cellGet] using ints_get hil
            have hc2 := stone_cells (σ := [.ro (stonesC l), .ro (ints ks), .rw x.cells, .rw [.int .i64 0, .int .i64 0]]) (x := 0) (l := l) (i := (gi ks i).toNat) (.inl rfl) (by omega)
            have hst := stroke_ev (σ := [.ro (stonesC l), .ro (ints ks), .rw x.cells, .rw [.int .i64 0, .int .i64 0]]) (hl _ (by omega : (gi ks i).toNat < l.length)) hx rfl
            rw [aftL_step hil] at ha
            have hok := aft_ok (hl _ (by omega : (gi ks i).toNat < l.length)) hx
            generalize gs l (gi ks i).toNat = s at *
            unfold strokeV at hst
            by_cases hcn : x.b + s.b ≤ 6
            · rw [if_neg (by omega)] at hst
              rw [if_pos (show can s x from hcn)] at ha
              repeat' (first | (refine gU ?_; first | (refine gMove ?_; refine st (ok_move rfl) rfl rfl ?_) | (refine gAssign ?_; refine st (ok_assign rfl) rfl rfl ?_) | (refine gLoad ?_; first | refine st (ok_load rfl (by exact hc1)) rfl rfl ?_ | refine st (ok_loadA rfl (by rfl)) rfl rfl ?_) | (refine gAdd ?_; refine st (ok_inc rfl rfl (by omega)) rfl rfl ?_) | (refine gBin ?_; refine st (ok_bin rfl rfl rfl) rfl rfl ?_) | (refine gNot ?_; refine st (ok_not' rfl) rfl rfl ?_) | (refine gExtract ?_; refine st (ok_extract rfl rfl) rfl rfl ?_) | (refine gIA ?_; refine st (ok_idxN rfl rfl (by omega)) rfl rfl ?_) | (refine gStore ?_; refine stN (ok_store rfl rfl rfl rfl (by rfl)) rfl ?_)) | (refine fU ?_; first | (refine fMove ?_; refine frA (ok_move rfl) rfl ?_) | (refine fLoad ?_; refine frA (ok_loadA rfl (by first | rfl | exact hc2)) rfl ?_) | (refine fExtract ?_; refine frA (ok_extract rfl rfl) rfl ?_) | (refine fIA ?_; refine frA (ok_idx rfl rfl (by omega) (by omega)) rfl ?_) | (refine fCall ?_; refine frA (ok_call rfl rfl rfl (by exact hst)) rfl ?_) | (refine fAlloc ?_; refine fr1 (ok_alloc rfl) rfl rfl rfl ?_)) | (refine fr_stop ⟨by kernel_rfl, ?_⟩) | refine W_seq ?_ | refine W_region ?_ | refine Late.W_regionE 8 51 (id := 13) (by kernel_rfl) rfl ?_ | refine Late.split ?_ rfl rfl rfl rfl ?_ | refine st_nil ?_ | refine tq_n ?_ | refine bq_n ?_ | refine W_skip ?_ | refine W_block ?_ | refine W_condTA rfl ?_ | refine W_condFA rfl ?_)
              all_goals exact ⟨rfl, (i + 1, aft s x), ⟨by simp only; omega, hok hcn, ha⟩, by simp only; omega, StRef.drop [.ro (stonesC l), .ro (ints ks), .rw (aft s x).cells, .rw [.int .i64 0, .int .i64 0]] [_] (by simp) (hc_after l ks _) (by (repeat' (first | exact trivial | exact ⟨rfl, rfl, rfl⟩ | exact ⟨rfl, closed_slice rfl, rfl⟩ | refine ⟨?_, ?_⟩)))⟩
            · rw [if_pos (by omega)] at hst
              rw [if_neg (show ¬ can s x from hcn)] at ha
              rw [ha]
              repeat' (first | (refine gU ?_; first | (refine gMove ?_; refine st (ok_move rfl) rfl rfl ?_) | (refine gAssign ?_; refine st (ok_assign rfl) rfl rfl ?_) | (refine gLoad ?_; refine st (ok_load rfl (by exact hc1)) rfl rfl ?_) | (refine gBin ?_; refine st (ok_bin rfl rfl rfl) rfl rfl ?_) | (refine gNot ?_; refine st (ok_not' rfl) rfl rfl ?_) | (refine gExtract ?_; refine st (ok_extract rfl rfl) rfl rfl ?_) | (refine gIA ?_; refine st (ok_idxN rfl rfl (by omega)) rfl rfl ?_) | (refine gBuild ?_; refine st (ok_build (by rfl) rfl (by rfl)) rfl rfl ?_) | (refine gStore ?_; refine stN (ok_store rfl rfl rfl rfl (by rfl)) rfl ?_)) | (refine fU ?_; first | (refine fMove ?_; refine frA (ok_move rfl) rfl ?_) | (refine fLoad ?_; refine frA (ok_loadA rfl (by first | rfl | exact hc2)) rfl ?_) | (refine fExtract ?_; refine frA (ok_extract rfl rfl) rfl ?_) | (refine fIA ?_; refine frA (ok_idx rfl rfl (by omega) (by omega)) rfl ?_) | (refine fCall ?_; refine frA (ok_call rfl rfl rfl (by exact hst)) rfl ?_) | (refine fAlloc ?_; refine fr1 (ok_alloc rfl) rfl rfl rfl ?_)) | (refine fr_stop ⟨by kernel_rfl, ?_⟩) | refine W_seq ?_ | refine W_region ?_ | refine Late.W_regionE 8 51 (id := 13) (by kernel_rfl) rfl ?_ | refine Late.split ?_ rfl rfl rfl rfl ?_ | refine st_nil ?_ | refine tq_n ?_ | refine tq_r ?_ | refine bq_r ?_ | refine W_skip ?_ | refine W_ret ?_ | refine W_block ?_ | refine W_condTA rfl ?_)
              all_goals exact ret0 (.cellN inferInstance rfl rfl (.tmp rfl .nil)) (.plain rfl rfl) ⟨rfl, rfl⟩
          · obtain rfl : i = ks.length := by omega
            rw [natsOf_end] at ha
            rw [ha]
            repeat' (first | (refine gU ?_; first | (refine gAssign ?_; refine st (ok_assign rfl) rfl rfl ?_) | (refine gLoad ?_; refine st (ok_loadA rfl (by rfl)) rfl rfl ?_) | (refine gBin ?_; refine st (ok_bin rfl rfl rfl) rfl rfl ?_) | (refine gStore ?_; refine stN (ok_store rfl rfl rfl rfl (by rfl)) rfl ?_)) | refine W_seq ?_ | refine W_region ?_ | refine st_nil ?_ | refine tq_n ?_ | refine tq_e ?_ | refine bq_hit rfl ?_ | refine W_exit ?_ | refine W_ret ?_ | refine W_condFA rfl ?_)
            exact ret0 (.cellN inferInstance rfl rfl (.tmp rfl .nil)) (.plain rfl rfl) ⟨rfl, rfl⟩
  · rw [if_pos hb, if_pos hb]
    refine acall_intro 2 58 Try.func17 rfl rfl rfl rfl rfl ?_
    repeat' (first | (refine gU ?_; first | (refine gMove ?_; refine st (ok_move rfl) rfl rfl ?_) | (refine gAssign ?_; refine st (ok_assign rfl) rfl rfl ?_) | (refine gBin ?_; refine st (ok_bin rfl rfl rfl) rfl rfl ?_) | (refine gBuild ?_; refine st (ok_build (by rfl) rfl (by rfl)) rfl rfl ?_) | (refine gCall ?_; refine st (ok_call rfl rfl rfl (by exact checkBox_ev (by exact .inl rfl) (by assumption) rfl)) rfl rfl ?_) | (refine gBox ?_; refine st (ok_box rfl) rfl rfl ?_) | (refine gAlloc ?_; refine st (ok_alloc rfl) rfl rfl ?_) | (refine gStore ?_; refine stN (ok_store rfl rfl rfl rfl (by rfl)) rfl ?_)) | refine W_seq ?_ | refine W_region ?_ | refine st_nil ?_ | refine tq_n ?_ | refine tq_r ?_ | refine W_ret ?_ | refine W_condTA rfl ?_)
    exact ret0 (.cellN inferInstance rfl rfl (.tmp rfl .nil)) (.plain rfl rfl) ⟨rfl, rfl⟩
end Go.Proofs.Ytindbippegiopaa
namespace Go.AH.Hone
open Go Go.AH
def benchC (goal : Ed) (sv rv : Value) : List Value := [.int .i64 goal.d, .int .i64 goal.b, sv, rv]
def rowV (f : Nat → Int) : Value := .agg #[.int .i64 (f 0), .int .i64 (f 1), .int .i64 (f 2), .int .i64 (f 3), .int .i64 (f 4), .int .i64 (f 5), .int .i64 (f 6)]
def outF (l : List Sn) (f : Nat → Int) (b k : Nat) (j : Nat) : Int := if j < b then moreF l f j else if j = b then moreK l f b k else f j
theorem rowC_congr {f g : Nat → Int} (h : ∀ j < 7, f j = g j) : rowC f = rowC g := by
  simp only [rowC, h 0 (by omega), h 1 (by omega), h 2 (by omega), h 3 (by omega), h 4 (by omega), h 5 (by omega), h 6 (by omega)]
theorem outF_next (l : List Sn) (f : Nat → Int) (b j : Nat) : outF l f b l.length j = outF l f (b + 1) 0 j := by
  unfold outF
  by_cases h1 : j < b
  · rw [if_pos h1, if_pos (by omega)]
  · rw [if_neg h1]
    by_cases h2 : j = b
    · subst h2; rw [if_pos rfl, if_pos (by omega)]; rfl
    · rw [if_neg h2, if_neg (by omega)]
      by_cases h3 : j = b + 1
      · subst h3; rw [if_pos rfl]; rfl
      · rw [if_neg h3]
theorem rowC_set {f : Nat → Int} {v : Int} : ∀ {b : Nat}, b < 7 → splice (rowC f) b [.int .i64 v] = rowC (setF f b v)
  | 0, _ => rfl | 1, _ => rfl | 2, _ => rfl | 3, _ => rfl | 4, _ => rfl | 5, _ => rfl | 6, _ => rfl
theorem outF_set {l : List Sn} {f : Nat → Int} {b k : Nat} {v : Int} (h : v = moreK l f b (k + 1)) (j : Nat) : setF (outF l f b k) b v j = outF l f b (k + 1) j := by
  unfold setF outF
  by_cases hj : j = b
  · subst hj; simp [h]
  · simp [hj]
end Go.AH.Hone
namespace Go.Proofs.Ytindbippegiopaa
open Go Go.AH
attribute [local irreducible] WOps WCode WFree retQ thenQ blockQ scopeQ OpOk ACall RetRef roundA roundB
set_option maxRecDepth 100000
set_option maxHeartbeats 1000000
open Go.AH.Hone
theorem hc_more (l : List Sn) (goal : Ed) (c R C : Nat) (rc : List Value) (hrc : plainL rc = true) (f g : Nat → Int) : HClosed 6 [AObj.ro (benchC goal (.slice (some ⟨1, 0, none⟩) l.length c) (.slice (some ⟨2, 0, none⟩) R C)), .ro (stonesC l), .ro rc, .rw (rowC f), .rw (rowC fun _ => 0), .rw (rowC g)] :=
  ⟨by
    have h := slice_closed (n := 6) (i := 1) (l := l.length) (c := c) (by omega)
    have h' := slice_closed (n := 6) (i := 2) (l := R) (c := C) (by omega)
    exact ⟨by simp [benchC, closedL, closed, h.1, h'.1], by simp [benchC, okL, okV, h.2, h'.2]⟩, plainL_closed (stonesC_plain l), plainL_closed hrc, plainL_closed rfl, plainL_closed rfl, plainL_closed rfl, trivial⟩
theorem more_ok (l : List Sn) (goal : Ed) (c R C : Nat) (rc : List Value) (hrc : plainL rc = true) (f : Nat → Int) (hf : ∀ j < 7, -1 ≤ f j ∧ f j ≤ 100) (hl : ∀ i < l.length, ¬ badSn (gs l i)) (hN : l.length ≤ 1000000) :
    Ev Try.prog 81 [.pointer (some ⟨0, 0, none⟩), rowV f] [.ro (benchC goal (.slice (some ⟨1, 0, none⟩) l.length c) (.slice (some ⟨2, 0, none⟩) R C)), .ro (stonesC l), .ro rc] (rowV (moreF l f)) [.ro (benchC goal (.slice (some ⟨1, 0, none⟩) l.length c) (.slice (some ⟨2, 0, none⟩) R C)), .ro (stonesC l), .ro rc] := by
  refine acall_intro 3 52 Try.func81 rfl rfl rfl rfl rfl ?_
  repeat' (first | (refine gU ?_; first | (refine gMove ?_; refine st (ok_move rfl) rfl rfl ?_) | (refine gLoad ?_; refine st (ok_loadA rfl (by rfl)) rfl rfl ?_) | (refine gBox ?_; refine st (ok_box rfl) rfl rfl ?_) | (refine gAlloc ?_; refine st (ok_alloc rfl) rfl rfl ?_) | (refine gStore ?_; refine stN (ok_store rfl rfl rfl rfl (by rfl)) rfl ?_)) | refine W_seq ?_ | refine W_region ?_ | refine st_nil ?_ | refine tq_n ?_ | refine W_block ?_)
  refine W_loopS (ι := Nat) (fun b => [(0, .pointer (some ⟨0, 0, none⟩)), (3, .pointer (some ⟨3, 0, none⟩)), (4, .pointer (some ⟨4, 0, none⟩)), (5, .pointer (some ⟨5, 0, none⟩)), (12, .int .i64 (b : Int))])
    (fun b => [.ro (benchC goal (.slice (some ⟨1, 0, none⟩) l.length c) (.slice (some ⟨2, 0, none⟩) R C)), .ro (stonesC l), .ro rc, .rw (rowC f), .rw (rowC fun _ => 0), .rw (rowC (outF l f b 0))]) (fun b => 7 - b) (fun b => b ≤ 7) 0 (by simp) (.same ⟨rfl, rfl, rfl, rfl, rfl, trivial⟩) (by omega) ?_
  intro b hb
  by_cases hb7 : b < 7
  · have hb7' : (b : Int) < 7 := by omega
    repeat' (first | (refine gU ?_; first | (refine gMove ?_; refine st (ok_move rfl) rfl rfl ?_) | (refine gAssign ?_; refine st (ok_assign rfl) rfl rfl ?_) | (refine gFA ?_; refine st (ok_fieldAddr rfl) rfl rfl ?_) | (refine gLoad ?_; refine st (ok_load rfl (by rfl)) rfl rfl ?_) | (refine gBin ?_; refine st (ok_bin rfl rfl rfl) rfl rfl ?_) | (refine gLen ?_; refine st (ok_len rfl) rfl rfl ?_) | (refine gNil ?_; refine st (ok_nilP rfl) rfl rfl ?_)) | refine W_seq ?_ | refine W_region ?_ | refine st_nil ?_ | refine tq_n ?_ | refine W_skip ?_ | refine W_block ?_ | refine W_condTA rfl ?_)
    refine W_loopS (ι := Nat) (fun k => [(0, .pointer (some ⟨0, 0, none⟩)), (3, .pointer (some ⟨3, 0, none⟩)), (4, .pointer (some ⟨4, 0, none⟩)), (5, .pointer (some ⟨5, 0, none⟩)), (6, .int .i64 (b : Int)), (12, .int .i64 (b : Int)), (18, .slice (some ⟨1, 0, none⟩) l.length c), (19, .int .i64 (l.length : Int)), (20, .int .i64 (k : Int))])
      (fun k => [.ro (benchC goal (.slice (some ⟨1, 0, none⟩) l.length c) (.slice (some ⟨2, 0, none⟩) R C)), .ro (stonesC l), .ro rc, .rw (rowC f), .rw (rowC fun _ => 0), .rw (rowC (outF l f b k))]) (fun k => l.length - k) (fun k => k ≤ l.length) 0 (by simp) (.same ⟨rfl, rfl, rfl, rfl, rfl, rfl, rfl, rfl, rfl, trivial⟩) (by omega) ?_
    intro k hk
    by_cases hkl : k < l.length
    · have hc1 := fun σ' : Heap => stone_cells (σ := .ro (benchC goal (.slice (some ⟨1, 0, none⟩) l.length c) (.slice (some ⟨2, 0, none⟩) R C)) :: .ro (stonesC l) :: σ') (x := 1) (l := l) (i := k) (.inl rfl) hkl
      have hs := hl k hkl
      have hm : moreK l f b (k + 1) = if (b : Int) + (gs l k).b ≤ 6 ∧ (gs l k).g ≤ f (max 0 ((b : Int) + (gs l k).b)).toNat then max (moreK l f b k) (min 100 (f (max 0 ((b : Int) + (gs l k).b)).toNat + (gs l k).c)) else moreK l f b k := rfl
      have hstay := fun h : moreK l f b (k + 1) = moreK l f b k => rowC_congr (f := outF l f b k) (g := outF l f b (k + 1)) fun j _ => by unfold outF; rw [h]
      generalize gs l k = s at *
      have hs' := hs
      unfold badSn at hs'
      replace hc1 := hc1 [.ro rc, .rw (rowC f), .rw (rowC fun _ => 0), .rw (rowC (outF l f b k))]
      by_cases h6 : (b : Int) + s.b > 6
      · have e := hstay (by rw [hm, if_neg (by omega)])
        repeat' (first | (refine gU ?_; first | (refine gMove ?_; refine st (ok_move rfl) rfl rfl ?_) | (refine gAssign ?_; refine st (ok_assign rfl) rfl rfl ?_) | (refine gFA ?_; refine st (ok_fieldAddr rfl) rfl rfl ?_) | (refine gLoad ?_; first | refine st (ok_load rfl (by rfl)) rfl rfl ?_ | refine st (ok_loadA rfl (by exact hc1)) rfl rfl ?_) | (refine gAdd ?_; first | refine st (ok_inc rfl rfl (by omega)) rfl rfl ?_ | refine st (ok_add rfl rfl (by omega) (by omega)) rfl rfl ?_) | (refine gBin ?_; refine st (ok_bin rfl rfl rfl) rfl rfl ?_) | (refine gIA ?_; refine st (ok_idxSN rfl rfl (by omega)) rfl rfl ?_) | (refine gAlloc ?_; refine st (ok_alloc rfl) rfl rfl ?_) | (refine gStore ?_; refine stN (ok_store rfl rfl rfl rfl (by rfl)) rfl ?_)) | refine W_seq ?_ | refine W_region ?_ | refine st_nil ?_ | refine tq_n ?_ | refine tq_e ?_ | refine bq_hit rfl ?_ | refine W_skip ?_ | refine W_exit ?_ | refine W_block ?_ | refine W_condTA rfl ?_)
        refine ⟨rfl, k + 1, by omega, by omega, ?_⟩
        simp only [← e]
        exact StRef.drop [.ro (benchC goal (.slice (some ⟨1, 0, none⟩) l.length c) (.slice (some ⟨2, 0, none⟩) R C)), .ro (stonesC l), .ro rc, .rw (rowC f), .rw (rowC fun _ => 0), .rw (rowC (outF l f b k))] [_] (by simp) (hc_more l goal c R C rc hrc _ _) (by (repeat' (first | exact trivial | exact ⟨rfl, rfl, rfl⟩ | exact ⟨rfl, closed_slice rfl, rfl⟩ | refine ⟨?_, ?_⟩)))
      · have hx : (max 0 ((b : Int) + s.b)).toNat < 7 := by omega
        have hfx := hf _ hx
        have hc2 : ∀ σ' : Heap, cellGet (.ro (benchC goal (.slice (some ⟨1, 0, none⟩) l.length c) (.slice (some ⟨2, 0, none⟩) R C)) :: .ro (stonesC l) :: .ro rc :: .rw (rowC f) :: σ') 3 (0 + (max 0 ((b : Int) + s.b)).toNat * 1) = some (.int .i64 (f (max 0 ((b : Int) + s.b)).toNat)) := fun σ' => by
          rw [Nat.zero_add, Nat.mul_one]; simpa [cellGet] using rowC_get hx
        replace hc2 := hc2 [.rw (rowC fun _ => 0), .rw (rowC (outF l f b k)), .rw s.cells]
        generalize f (max 0 ((b : Int) + s.b)).toNat = deep at *
        by_cases hg : s.g ≤ deep
        · rw [if_pos ⟨by omega, hg⟩] at hm
          have hc3 : cellGet [.ro (benchC goal (.slice (some ⟨1, 0, none⟩) l.length c) (.slice (some ⟨2, 0, none⟩) R C)), .ro (stonesC l), .ro rc, .rw (rowC f), .rw (rowC fun _ => 0), .rw (rowC (outF l f b k)), .rw s.cells] 5 (0 + b * 1) = some (.int .i64 (moreK l f b k)) := by
            rw [Nat.zero_add, Nat.mul_one]
            have := rowC_get (f := outF l f b k) hb7
            rw [show outF l f b k b = moreK l f b k from by simp [outF]] at this
            simpa [cellGet] using this
          have hput := putRw (σ := [.ro (benchC goal (.slice (some ⟨1, 0, none⟩) l.length c) (.slice (some ⟨2, 0, none⟩) R C)), .ro (stonesC l), .ro rc, .rw (rowC f), .rw (rowC fun _ => 0), .rw (rowC (outF l f b k)), .rw s.cells]) (b := 5) (o := 0 + b * 1) (cs' := rowC (outF l f b (k + 1))) (vs := [.int .i64 (max (moreK l f b k) (min 100 (deep + s.c)))]) rfl (by simp only [rowC, List.length_cons, List.length_nil]; omega) (by simp [rowC]) (by rw [Nat.zero_add, Nat.mul_one]; exact (rowC_set hb7).trans (rowC_congr fun j _ => outF_set hm.symm j))
          repeat' (first | (refine gU ?_; first | (refine gMove ?_; refine st (ok_move rfl) rfl rfl ?_) | (refine gAssign ?_; refine st (ok_assign rfl) rfl rfl ?_) | (refine gFA ?_; refine st (ok_fieldAddr rfl) rfl rfl ?_) | (refine gLoad ?_; first | refine st (ok_load rfl (by first | rfl | exact hc2)) rfl rfl ?_ | refine st (ok_loadA rfl (by exact hc1)) rfl rfl ?_) | (refine gAdd ?_; first | refine st (ok_inc rfl rfl (by omega)) rfl rfl ?_ | refine st (ok_add rfl rfl (by omega) (by omega)) rfl rfl ?_) | (refine gBin ?_; refine st (ok_bin rfl rfl rfl) rfl rfl ?_) | (refine gIA ?_; first | refine st (ok_idxSN rfl rfl (by omega)) rfl rfl ?_ | refine st (ok_idxA rfl rfl (by omega) (by omega)) rfl rfl ?_) | (refine gMax ?_; refine st (ok_max rfl rfl) rfl rfl ?_) | (refine gAlloc ?_; refine st (ok_alloc rfl) rfl rfl ?_) | (refine gStore ?_; refine stN (ok_store rfl rfl rfl rfl (by first | exact hput | rfl)) rfl ?_)) | (refine fU ?_; first | (refine fMove ?_; refine frA (ok_move rfl) rfl ?_) | (refine fFA ?_; refine frA (ok_fieldAddr rfl) rfl ?_) | (refine fLoad ?_; refine frA (ok_load rfl (by first | rfl | exact hc3)) rfl ?_) | (refine fAdd ?_; refine frA (ok_add rfl rfl (by omega) (by omega)) rfl ?_) | (refine fIA ?_; refine frA (ok_idxAN rfl rfl (by omega)) rfl ?_) | (refine fMax ?_; refine frA (ok_max rfl rfl) rfl ?_) | (refine fMin ?_; refine frA (ok_min rfl rfl) rfl ?_)) | (refine fr_stop ⟨by kernel_rfl, ?_⟩) | refine W_seq ?_ | refine W_region ?_ | refine W_regionD (by kernel_rfl) rfl ?_ | refine st_nil ?_ | refine tq_n ?_ | refine bq_n ?_ | refine W_skip ?_ | refine W_block ?_ | refine W_condTA rfl ?_ | refine W_condFA rfl ?_)
          exact ⟨rfl, k + 1, by omega, by omega, StRef.drop [.ro (benchC goal (.slice (some ⟨1, 0, none⟩) l.length c) (.slice (some ⟨2, 0, none⟩) R C)), .ro (stonesC l), .ro rc, .rw (rowC f), .rw (rowC fun _ => 0), .rw (rowC (outF l f b (k + 1)))] [.rw s.cells] (by simp) (hc_more l goal c R C rc hrc _ _) (by (repeat' (first | exact trivial | exact ⟨rfl, rfl, rfl⟩ | exact ⟨rfl, closed_slice rfl, rfl⟩ | refine ⟨?_, ?_⟩)))⟩
        · have e := hstay (by rw [hm, if_neg (by omega)])
          repeat' (first | (refine gU ?_; first | (refine gMove ?_; refine st (ok_move rfl) rfl rfl ?_) | (refine gAssign ?_; refine st (ok_assign rfl) rfl rfl ?_) | (refine gFA ?_; refine st (ok_fieldAddr rfl) rfl rfl ?_) | (refine gLoad ?_; first | refine st (ok_load rfl (by first | rfl | exact hc2)) rfl rfl ?_ | refine st (ok_loadA rfl (by exact hc1)) rfl rfl ?_) | (refine gAdd ?_; first | refine st (ok_inc rfl rfl (by omega)) rfl rfl ?_ | refine st (ok_add rfl rfl (by omega) (by omega)) rfl rfl ?_) | (refine gBin ?_; refine st (ok_bin rfl rfl rfl) rfl rfl ?_) | (refine gIA ?_; first | refine st (ok_idxSN rfl rfl (by omega)) rfl rfl ?_ | refine st (ok_idxA rfl rfl (by omega) (by omega)) rfl rfl ?_) | (refine gMax ?_; refine st (ok_max rfl rfl) rfl rfl ?_) | (refine gAlloc ?_; refine st (ok_alloc rfl) rfl rfl ?_) | (refine gStore ?_; refine stN (ok_store rfl rfl rfl rfl (by rfl)) rfl ?_)) | refine W_seq ?_ | refine W_region ?_ | refine st_nil ?_ | refine tq_n ?_ | refine bq_n ?_ | refine W_skip ?_ | refine W_block ?_ | refine W_condTA rfl ?_ | refine W_condFA rfl ?_)
          refine ⟨rfl, k + 1, by omega, by omega, ?_⟩
          simp only [← e]
          exact StRef.drop [.ro (benchC goal (.slice (some ⟨1, 0, none⟩) l.length c) (.slice (some ⟨2, 0, none⟩) R C)), .ro (stonesC l), .ro rc, .rw (rowC f), .rw (rowC fun _ => 0), .rw (rowC (outF l f b k))] [_] (by simp) (hc_more l goal c R C rc hrc _ _) (by (repeat' (first | exact trivial | exact ⟨rfl, rfl, rfl⟩ | exact ⟨rfl, closed_slice rfl, rfl⟩ | refine ⟨?_, ?_⟩)))
    · obtain rfl : k = l.length := by omega
      have e := rowC_congr (f := outF l f b l.length) (g := outF l f (b + 1) 0) fun j _ => outF_next l f b j
      repeat' (first | (refine gU ?_; first | (refine gMove ?_; refine st (ok_move rfl) rfl rfl ?_) | (refine gAdd ?_; refine st (ok_inc rfl rfl (by omega)) rfl rfl ?_) | (refine gBin ?_; refine st (ok_bin rfl rfl rfl) rfl rfl ?_)) | refine W_seq ?_ | refine W_region ?_ | refine st_nil ?_ | refine tq_n ?_ | refine tq_e ?_ | refine bq_n ?_ | refine bq_hit rfl ?_ | refine W_exit ?_ | refine W_condFA rfl ?_)
      refine ⟨rfl, b + 1, by omega, by omega, ?_⟩
      simp only [← e]
      exact .same ⟨rfl, rfl, rfl, rfl, rfl, trivial⟩
  · obtain rfl : b = 7 := by omega
    have e : rowC (outF l f 7 0) = rowC (moreF l f) := rowC_congr fun j hj => by unfold outF; rw [if_pos hj]
    simp only [e]
    repeat' (first | (refine gU ?_; first | (refine gLoad ?_; refine st (ok_loadA rfl (by rfl)) rfl rfl ?_) | (refine gBin ?_; refine st (ok_bin rfl rfl rfl) rfl rfl ?_) | (refine gStore ?_; refine stN (ok_store rfl rfl rfl rfl (by rfl)) rfl ?_)) | refine W_seq ?_ | refine W_region ?_ | refine st_nil ?_ | refine tq_n ?_ | refine tq_e ?_ | refine bq_hit rfl ?_ | refine W_exit ?_ | refine W_ret ?_ | refine W_condFA rfl ?_)
    exact ret0 (.cellN inferInstance rfl rfl .nil) (.plain rfl rfl) ⟨rfl, rfl⟩
end Go.Proofs.Ytindbippegiopaa
namespace Go.AH.Hone
open Go Go.AH
def rowsC (l : List Sn) (goal : Ed) : Nat → List Value
  | 0 => []
  | n + 1 => rowsC l goal n ++ rowC (rowN l goal n)
theorem rowsC_len (l : List Sn) (goal : Ed) : ∀ n, (rowsC l goal n).length = n * 7
  | 0 => rfl
  | n + 1 => by rw [rowsC, List.length_append, rowsC_len l goal n]; simp [rowC]; omega
theorem rowsC_plain (l : List Sn) (goal : Ed) : ∀ n, plainL (rowsC l goal n) = true
  | 0 => rfl
  | n + 1 => by rw [rowsC, plainL_append, rowsC_plain l goal n]; rfl
theorem rowA_at (f : Nat → Int) : IntsAt f 7 (rowC f).toArray := fun i hi => rowC_get hi
def frstF (goal : Ed) (b j : Nat) : Int := if j < b then first goal j else 0
theorem bench_ren {goal : Ed} {sv rv : Value} {r : Rho} : renL r (benchC goal sv rv) = benchC goal (ren r sv) (ren r rv) := by simp [benchC, renL, ren]
theorem osub_bench {σ : Heap} {n m i j p q k : Nat} {π : Rho} {goal : Ed} {sv : Value} (hi : π i = ⟨p, 0, 0⟩) (h : σ[p]? = some (.rw (benchC goal sv (slvV j 7 k)))) (hπ : ∀ i < m, π i = ⟨i, 0, 0⟩) (hmn : m ≤ n) (hs : closed m sv = true) (hs' : okV sv = true) (hq : q < n) (hj : π q = ⟨j, 0, 0⟩) :
    OSub σ n π (π i) (.rw (benchC goal sv (slvV q 7 k))) := by
  refine .inr ⟨by rw [hi], benchC goal sv (slvV j 7 k), .inl (by rw [hi]; exact h), Nat.le_refl _, fun a ha ha' => ?_⟩
  have ha4 : a < 4 := by simpa [benchC] using ha
  match a, ha4 with
  | 0, _ => exact .int _ _
  | 1, _ => exact .int _ _
  | 2, _ => exact vsub_refl hπ hmn sv hs hs'
  | 3, _ => exact vsub_slvV hq hj
theorem osub_benchR {σ : Heap} {n m i j p q k : Nat} {π : Rho} {goal : Ed} {sv : Value} (hi : π i = ⟨p, 0, 0⟩) (h : σ[p]? = some (.rw (benchC goal sv (slvV j 7 k)))) (hπ : ∀ i < m, π i = ⟨i, 0, 0⟩) (hmn : m ≤ n) (hs : closed m sv = true) (hs' : okV sv = true) (hq : q < n) (hj : π q = ⟨j, 0, 0⟩) :
    OSub σ n π (π i) (.rw (benchC goal sv (.slice (some ⟨q, 0, none⟩) k k))) := by
  refine .inr ⟨by rw [hi], benchC goal sv (slvV j 7 k), .inl (by rw [hi]; exact h), Nat.le_refl _, fun a ha ha' => ?_⟩
  have ha4 : a < 4 := by simpa [benchC] using ha
  match a, ha4 with
  | 0, _ => exact .int _ _
  | 1, _ => exact .int _ _
  | 2, _ => exact vsub_refl hπ hmn sv hs hs'
  | 3, _ => exact vsub_slvR hq hj
theorem er_ptr {n : Nat} {π : Rho} {e : Env} {t i j o : Nat} (h : Env.get e t = some (.pointer (some ⟨j, o, none⟩))) (hi : i < n) (hj : π i = ⟨j, 0, 0⟩) : ∃ u, Env.get e t = some u ∧ VSub n π (.pointer (some ⟨i, o, none⟩)) u :=
  ⟨_, h, by simpa [hj] using VQ.ptr (q := true) (n := n) (ρ := π) i o hi⟩
end Go.AH.Hone
namespace Go.Proofs.Ytindbippegiopaa
open Go Go.AH
attribute [local irreducible] WOps WCode WFree retQ thenQ blockQ scopeQ OpOk ACall RetRef roundA roundB
set_option maxRecDepth 100000
set_option maxHeartbeats 1000000
open Go.AH.Hone
theorem more_ev {σ : Heap} {l : List Sn} {goal : Ed} {p x y c R : Nat} {sv rv : Value} {rc : List Value} {f : Nat → Int} (hp : arrAt σ p (benchC goal sv rv)) (hx : arrAt σ x (stonesC l)) (hy : arrAt σ y rc) (hsv : sv = .slice (some ⟨x, 0, none⟩) l.length c) (hrv : rv = slvV y 7 R ∨ rv = .slice (some ⟨y, 0, none⟩) R R) (hrc : plainL rc = true) (hf : ∀ j < 7, -1 ≤ f j ∧ f j ≤ 100) (hl : ∀ i < l.length, ¬ badSn (gs l i)) (hN : l.length ≤ 1000000) (hni : σ.all (fun o => !isIter o) = true) :
    Ev Try.prog 81 [.pointer (some ⟨p, 0, none⟩), rowV f] σ (rowV (moreF l f)) σ := by
  subst hsv
  refine Ev.arrsP [benchC goal (.slice (some ⟨1, 0, none⟩) l.length c) (.slice (some ⟨2, 0, none⟩) R R), stonesC l, rc] [(p, benchC goal (.slice (some ⟨x, 0, none⟩) l.length c) rv), (x, stonesC l), (y, rc)] (more_ok l goal c R R rc hrc f hf hl hN)
    ⟨⟨hp, rfl, fun a ha ha' => ?_⟩, ⟨hx, rfl, fun a ha ha' => vrel_plainL _ (stonesC_plain l) a ha⟩, ⟨hy, rfl, fun a ha ha' => vrel_plainL _ hrc a ha⟩, trivial⟩ ⟨by simpa [bsR] using VQ.ptr (q := true) (n := 3) (ρ := bsR [p, x, y]) 0 0 (by omega), vrel_plain _ rfl, trivial⟩ rfl hni
  have ha4 : a < 4 := by simpa [benchC] using ha
  match a, ha4 with
  | 0, _ => exact .int _ _
  | 1, _ => exact .int _ _
  | 2, _ => exact (by simpa [bsR] using VQ.slice (q := true) (n := 3) (ρ := bsR [p, x, y]) 1 0 l.length c c (Nat.le_refl _) (by omega) : VSub 3 (bsR [p, x, y]) (.slice (some ⟨1, 0, none⟩) l.length c) (.slice (some ⟨x, 0, none⟩) l.length c))
  | 3, _ =>
    rcases hrv with h | h
    · subst h; exact vsub_slvR (by simp) (by simp [bsR])
    · subst h; exact (by simpa [bsR] using VQ.slice (q := true) (n := 3) (ρ := bsR [p, x, y]) 2 0 R R R (Nat.le_refl _) (by omega) : VSub 3 (bsR [p, x, y]) (.slice (some ⟨2, 0, none⟩) R R) (.slice (some ⟨y, 0, none⟩) R R))
theorem hc_nb (l : List Sn) (goal : Ed) : HClosed 2 [AObj.ro (stonesC l), .rw goal.cells] := ⟨plainL_closed (stonesC_plain l), plainL_closed rfl, trivial⟩
theorem newBench_ok (l : List Sn) (goal : Ed) (c : Nat) (hg : ¬ badEd goal) (hl : ∀ i < l.length, ¬ badSn (gs l i)) (hN : l.length ≤ 1000000) :
    Ev Try.prog 69 [.slice (some ⟨0, 0, none⟩) l.length c, goal.val] [.ro (stonesC l)] (.pointer (some ⟨1, 0, none⟩)) [.ro (stonesC l), .rw (benchC goal (.slice (some ⟨0, 0, none⟩) l.length c) (.slice (some ⟨2, 0, none⟩) (lastN l goal + 1) (lastN l goal + 1))), .rw (rowsC l goal (lastN l goal + 1))] := by
  obtain ⟨hs1, hs2, hs3⟩ := lastN_is (l := l) hg
  have hrb := fun n b => rowN_bounds (l := l) hg n b
  have hg' := hg
  unfold badEd at hg'
  refine acall_intro 1 52 Try.func69 rfl rfl rfl rfl rfl ?_
  repeat' (first | (refine gU ?_; first | (refine gMove ?_; refine st (ok_move rfl) rfl rfl ?_) | (refine gAssign ?_; refine st (ok_assign rfl) rfl rfl ?_) | (refine gLoad ?_; refine st (ok_loadA rfl (by rfl)) rfl rfl ?_) | (refine gBuild ?_; refine st (ok_build (by rfl) rfl (by rfl)) rfl rfl ?_) | (refine gSlice ?_; refine st (ok_sliceA rfl) rfl rfl ?_) | (refine gBox ?_; refine st (ok_box rfl) rfl rfl ?_) | (refine gAlloc ?_; refine st (ok_alloc rfl) rfl rfl ?_) | (refine gClear ?_; refine stN (ok_clear (by rfl) (by rfl) rfl (by omega) (by rfl) (by rfl)) rfl ?_)) | refine W_seq ?_ | refine W_region ?_ | refine st_nil ?_ | refine tq_n ?_ | refine W_block ?_)
  refine W_loopS (ι := Nat) (fun b => [(0, .slice (some ⟨0, 0, none⟩) l.length c), (3, .pointer (some ⟨1, 0, none⟩)), (5, .pointer (some ⟨2, 0, none⟩)), (6, .pointer (some ⟨3, 0, none⟩)), (14, .int .i64 (b : Int))])
    (fun b => [.ro (stonesC l), .rw goal.cells, .rw (benchC goal (.slice (some ⟨0, 0, none⟩) l.length c) (.slice none 0 0)), .rw (rowC (frstF goal b))]) (fun b => 7 - b) (fun b => b ≤ 7) 0 (by simp) (.same ⟨rfl, rfl, rfl, rfl, rfl, trivial⟩) (by omega) ?_
  intro b hb
  by_cases hb7 : b < 7
  · have hb7' : (b : Int) < 7 := by omega
    have hput := putRw (σ := [.ro (stonesC l), .rw goal.cells, .rw (benchC goal (.slice (some ⟨0, 0, none⟩) l.length c) (.slice none 0 0)), .rw (rowC (frstF goal b))]) (b := 3) (o := 0 + b * 1) (cs' := rowC (setF (frstF goal b) b (-1))) (vs := [.int .i64 (-1)]) rfl (by simp only [rowC, List.length_cons, List.length_nil]; omega) (by simp [rowC]) (by rw [Nat.zero_add, Nat.mul_one]; exact rowC_set hb7)
    by_cases hbb : (b : Int) ≤ goal.b
    · have hput2 := putRw (σ := [.ro (stonesC l), .rw goal.cells, .rw (benchC goal (.slice (some ⟨0, 0, none⟩) l.length c) (.slice none 0 0)), .rw (rowC (setF (frstF goal b) b (-1)))]) (b := 3) (o := 0 + b * 1) (cs' := rowC (frstF goal (b + 1))) (vs := [.int .i64 goal.d]) rfl (by simp only [rowC, List.length_cons, List.length_nil]; omega) (by simp [rowC]) (by
        rw [Nat.zero_add, Nat.mul_one]
        refine (rowC_set hb7).trans (rowC_congr fun j _ => ?_)
        unfold setF frstF
        by_cases hj : j = b
        · subst hj; rw [if_pos rfl, if_pos (by omega)]; unfold first; rw [if_pos hbb]
        · rw [if_neg hj, if_neg hj]
          by_cases hjb : j < b
          · rw [if_pos hjb, if_pos (by omega)]
          · rw [if_neg hjb, if_neg (by omega)])
      repeat' (first | (refine gU ?_; first | (refine gMove ?_; refine st (ok_move rfl) rfl rfl ?_) | (refine gAssign ?_; refine st (ok_assign rfl) rfl rfl ?_) | (refine gFA ?_; refine st (ok_fieldAddr rfl) rfl rfl ?_) | (refine gLoad ?_; refine st (ok_load rfl (by rfl)) rfl rfl ?_) | (refine gAdd ?_; refine st (ok_inc rfl rfl (by omega)) rfl rfl ?_) | (refine gBin ?_; refine st (ok_bin rfl rfl rfl) rfl rfl ?_) | (refine gNil ?_; refine st (ok_nilP rfl) rfl rfl ?_) | (refine gIA ?_; refine st (ok_idxAN rfl rfl (by omega)) rfl rfl ?_) | (refine gStore ?_; refine stN (ok_store rfl rfl rfl rfl (by first | exact hput | exact hput2)) rfl ?_)) | refine W_seq ?_ | refine W_region ?_ | refine st_nil ?_ | refine tq_n ?_ | refine bq_n ?_ | refine W_skip ?_ | refine W_block ?_ | refine W_condTA rfl ?_)
      exact ⟨rfl, b + 1, by omega, by omega, .same ⟨rfl, rfl, rfl, rfl, rfl, trivial⟩⟩
    · have e : rowC (setF (frstF goal b) b (-1)) = rowC (frstF goal (b + 1)) := rowC_congr fun j _ => by
        unfold setF frstF
        by_cases hj : j = b
        · subst hj; rw [if_pos rfl, if_pos (by omega)]; unfold first; rw [if_neg hbb]
        · rw [if_neg hj]
          by_cases hjb : j < b
          · rw [if_pos hjb, if_pos (by omega)]
          · rw [if_neg hjb, if_neg (by omega)]
      rw [e] at hput
      repeat' (first | (refine gU ?_; first | (refine gMove ?_; refine st (ok_move rfl) rfl rfl ?_) | (refine gAssign ?_; refine st (ok_assign rfl) rfl rfl ?_) | (refine gFA ?_; refine st (ok_fieldAddr rfl) rfl rfl ?_) | (refine gLoad ?_; refine st (ok_load rfl (by rfl)) rfl rfl ?_) | (refine gAdd ?_; refine st (ok_inc rfl rfl (by omega)) rfl rfl ?_) | (refine gBin ?_; refine st (ok_bin rfl rfl rfl) rfl rfl ?_) | (refine gNil ?_; refine st (ok_nilP rfl) rfl rfl ?_) | (refine gIA ?_; refine st (ok_idxAN rfl rfl (by omega)) rfl rfl ?_) | (refine gStore ?_; refine stN (ok_store rfl rfl rfl rfl (by exact hput)) rfl ?_)) | refine W_seq ?_ | refine W_region ?_ | refine st_nil ?_ | refine tq_n ?_ | refine bq_n ?_ | refine W_skip ?_ | refine W_block ?_ | refine W_condTA rfl ?_ | refine W_condFA rfl ?_)
      exact ⟨rfl, b + 1, by omega, by omega, .same ⟨rfl, rfl, rfl, rfl, rfl, trivial⟩⟩
  · obtain rfl : b = 7 := by omega
    have e : rowC (frstF goal 7) = rowC (rowN l goal 0) := rowC_congr fun j hj => by unfold frstF; rw [if_pos hj]; rfl
    rw [e]
    repeat' (first | (refine gU ?_; (refine gBin ?_; refine st (ok_bin rfl rfl rfl) rfl rfl ?_)) | refine W_seq ?_ | refine W_region ?_ | refine st_nil ?_ | refine tq_n ?_ | refine tq_e ?_ | refine bq_hit rfl ?_ | refine W_exit ?_ | refine W_block ?_ | refine W_condFA rfl ?_)
    refine W_loopS (ι := Nat) (fun n => [(0, .slice (some ⟨0, 0, none⟩) l.length c), (3, .pointer (some ⟨1, 0, none⟩)), (5, .pointer (some ⟨2, 0, none⟩)), (6, .pointer (some ⟨3, 0, none⟩))])
      (fun n => [.ro (stonesC l), .rw goal.cells, .rw (benchC goal (.slice (some ⟨0, 0, none⟩) l.length c) (slvV 4 7 n)), .rw (rowC (rowN l goal n)), .gr (rowsC l goal n) 78]) (fun n => lastN l goal - n) (fun n => n ≤ lastN l goal) 0 (by simp) ?_ (by omega) ?_
    · exact StRef.src [.ro (stonesC l), .rw goal.cells] [.rw (benchC goal (.slice (some ⟨0, 0, none⟩) l.length c) (slvV 4 7 0)), .rw (rowC (rowN l goal 0)), .gr [] 78] [2, 3, 4] (by simp) rfl (hc_nb l goal) rfl rfl ⟨osub_bench (p := 2) (j := 4) (m := 2) rfl rfl (fun i hi => srcR_lt hi) (by simp) (slice_closed (by omega)).1 (slice_closed (n := 1) (by omega)).2 (by simp) rfl, osub_rwp (j := 3) rfl (.inl rfl) rfl, osub_gr0, trivial⟩ (by (repeat' (first | exact trivial | refine ⟨er_closed (m := 2) rfl (fun i hi => srcR_lt hi) (by simp) (by first | rfl | exact closed_slice rfl) rfl, ?_⟩ | refine ⟨er_ptr rfl (by simp) rfl, ?_⟩)))
    · intro n hn
      have hrl := rowsC_len l goal n
      have hone : cellsAt [.ro (stonesC l), .rw goal.cells, .rw (benchC goal (.slice (some ⟨0, 0, none⟩) l.length c) (slvV 4 7 n)), .rw (rowC (rowN l goal n)), .gr (rowsC l goal n) 78, .rw (rowC (rowN l goal n))] 5 0 (1 * 7) = some (rowC (rowN l goal n)) := rfl
      have hmore := more_ev (σ := [.ro (stonesC l), .rw goal.cells, .rw (benchC goal (.slice (some ⟨0, 0, none⟩) l.length c) (slvV 6 7 (n + 1))), .rw (rowC (rowN l goal n)), .dead, .rw (rowC (rowN l goal n)), .gr (rowsC l goal (n + 1)) 78]) (l := l) (goal := goal) (p := 2) (x := 0) (y := 6) (c := c) (R := n + 1) (f := rowN l goal n) (.inr (.inl rfl)) (.inl rfl) (.inr (.inr ⟨_, rfl⟩)) rfl (.inl rfl) (rowsC_plain l goal (n + 1)) (fun j _ => hrb n j) hl hN rfl
      by_cases hlast : n = lastN l goal
      · have hq : ∀ i ∈ List.range 7, moreF l (rowN l goal n) i = rowN l goal n i := fun i hi => by rw [hlast]; exact (hs1 i (List.mem_range.1 hi)).symm
        repeat' (first | (refine gU ?_; first | refine st (ok_eqArrI rfl rfl rfl rfl rfl (rowA_at _) (rowA_at _)) rfl rfl ?_ | (refine gMove ?_; refine st (ok_move rfl) rfl rfl ?_) | (refine gAssign ?_; refine st (ok_assign rfl) rfl rfl ?_) | (refine gFA ?_; refine st (ok_fieldAddr rfl) rfl rfl ?_) | (refine gLoad ?_; refine st (ok_loadA rfl (by rfl)) rfl rfl ?_) | (refine gNil ?_; refine st (ok_nilP rfl) rfl rfl ?_) | (refine gCall ?_; refine st (ok_call rfl rfl rfl (by exact hmore)) rfl rfl ?_) | (refine gAlloc ?_; refine st (ok_alloc rfl) rfl rfl ?_) | (refine gApp ?_; refine st (ok_appendV (by rfl) (by rfl) rfl (by rfl) (by exact hrl) rfl (by rfl) (by omega) (by rfl) (by omega) (by omega)) rfl rfl ?_) | (refine gStore ?_; refine stN (ok_store rfl rfl rfl rfl (by rfl)) rfl ?_)) | (refine fU ?_; first | (refine fMove ?_; refine frA (ok_move rfl) rfl ?_) | (refine fFA ?_; refine frA (ok_fieldAddr rfl) rfl ?_) | (refine fLoad ?_; first | refine frA (ok_load rfl (by rfl)) rfl ?_ | refine frA (ok_loadA rfl (by rfl)) rfl ?_) | (refine fNil ?_; refine frA (ok_nilP rfl) rfl ?_) | (refine fBuildS ?_; refine frN (ok_buildS (by rfl) (by rfl) (by rfl) (by rfl) rfl (by rfl)) nok_slice rfl rfl rfl ?_)) | (refine fr_stop ⟨by kernel_rfl, ?_⟩) | refine W_seq ?_ | refine W_region ?_ | refine Late.W_regionE 0 34 (id := 11) (by kernel_rfl) rfl ?_ | refine Late.split ?_ rfl rfl rfl rfl ?_ | refine st_nil ?_ | refine tq_n ?_ | refine tq_r ?_ | refine bq_r ?_ | refine W_ret ?_ | refine W_block ?_ | refine W_condTA rfl ?_)
        all_goals rw [← hlast]
        all_goals exact ret0 (.tmp rfl .nil) (RetRef.src [.rw (benchC goal (.slice (some ⟨0, 0, none⟩) l.length c) (.slice (some ⟨2, 0, none⟩) (n + 1) (n + 1))), .rw (rowsC l goal (n + 1))] [2, 6] rfl rfl rfl ⟨osub_benchR (p := 2) (j := 6) (m := 1) rfl rfl (fun i hi => srcR_lt hi) (by simp) (slice_closed (by omega)).1 (slice_closed (n := 1) (by omega)).2 (by simp) rfl, osub_rwp (j := 6) rfl (.inr ⟨_, rfl⟩) (rowsC_plain _ _ _), trivial⟩ (VQ.ptr (q := true) (n := 3) (ρ := srcR 1 [2, 6]) 1 0 (by omega))) ⟨rfl, rfl⟩
      · have hq : ¬ ∀ i ∈ List.range 7, moreF l (rowN l goal n) i = rowN l goal n i := fun h => hs3 n (by omega) fun i hi => (h i (List.mem_range.2 hi)).symm
        repeat' (first | (refine gU ?_; first | refine st (ok_eqArrI rfl rfl rfl rfl rfl (rowA_at _) (rowA_at _)) rfl rfl ?_ | (refine gMove ?_; refine st (ok_move rfl) rfl rfl ?_) | (refine gFA ?_; refine st (ok_fieldAddr rfl) rfl rfl ?_) | (refine gLoad ?_; refine st (ok_loadA rfl (by rfl)) rfl rfl ?_) | (refine gNil ?_; refine st (ok_nilP rfl) rfl rfl ?_) | (refine gCall ?_; refine st (ok_call rfl rfl rfl (by exact hmore)) rfl rfl ?_) | (refine gAlloc ?_; refine st (ok_alloc rfl) rfl rfl ?_) | (refine gApp ?_; refine st (ok_appendV (by rfl) (by rfl) rfl (by rfl) (by exact hrl) rfl (by rfl) (by omega) (by rfl) (by omega) (by omega)) rfl rfl ?_) | (refine gStore ?_; refine stN (ok_store rfl rfl rfl rfl (by rfl)) rfl ?_)) | (refine fU ?_; first | (refine fMove ?_; refine frA (ok_move rfl) rfl ?_) | (refine fFA ?_; refine frA (ok_fieldAddr rfl) rfl ?_) | (refine fLoad ?_; first | refine frA (ok_load rfl (by rfl)) rfl ?_ | refine frA (ok_loadA rfl (by rfl)) rfl ?_) | (refine fNil ?_; refine frA (ok_nilP rfl) rfl ?_) | (refine fBuildS ?_; refine frN (ok_buildS (by rfl) (by rfl) (by rfl) (by rfl) rfl (by rfl)) nok_slice rfl rfl rfl ?_)) | (refine fr_stop ⟨by kernel_rfl, ?_⟩) | refine W_seq ?_ | refine W_region ?_ | refine Late.W_regionE 0 34 (id := 11) (by kernel_rfl) rfl ?_ | refine Late.split ?_ rfl rfl rfl rfl ?_ | refine st_nil ?_ | refine tq_n ?_ | refine bq_n ?_ | refine W_skip ?_ | refine W_block ?_ | refine W_condFA rfl ?_)
        all_goals exact ⟨rfl, n + 1, by omega, by omega, StRef.src [.ro (stonesC l), .rw goal.cells] [.rw (benchC goal (.slice (some ⟨0, 0, none⟩) l.length c) (slvV 4 7 (n + 1))), .rw (rowC (rowN l goal (n + 1))), .gr (rowsC l goal (n + 1)) 78] [2, 3, 6] (by simp) rfl (hc_nb l goal) rfl rfl ⟨osub_bench (p := 2) (j := 6) (m := 2) rfl rfl (fun i hi => srcR_lt hi) (by simp) (slice_closed (by omega)).1 (slice_closed (n := 1) (by omega)).2 (by simp) rfl, osub_rwp (j := 3) rfl (.inl rfl) rfl, osub_gr (j := 6) rfl rfl (rowsC_plain _ _ _), trivial⟩ (by (repeat' (first | exact trivial | refine ⟨er_closed (m := 2) rfl (fun i hi => srcR_lt hi) (by simp) (by first | rfl | exact closed_slice rfl) rfl, ?_⟩ | refine ⟨er_ptr rfl (by simp) rfl, ?_⟩)))⟩
theorem newBench_ev {σ : Heap} {l : List Sn} {goal : Ed} {x c : Nat} (hx : arrAt σ x (stonesC l)) (hg : ¬ badEd goal) (hl : ∀ i < l.length, ¬ badSn (gs l i)) (hN : l.length ≤ 1000000) (hni : σ.all (fun o => !isIter o) = true) :
    Ev Try.prog 69 [.slice (some ⟨x, 0, none⟩) l.length c, goal.val] σ (.pointer (some ⟨σ.length, 0, none⟩)) (σ ++ [.rw (benchC goal (.slice (some ⟨x, 0, none⟩) l.length c) (.slice (some ⟨σ.length + 1, 0, none⟩) (lastN l goal + 1) (lastN l goal + 1))), .rw (rowsC l goal (lastN l goal + 1))]) := by
  refine Ev.arrsN [stonesC l] [x] (newBench_ok l goal c hg hl hN) ⟨hx, trivial⟩ ⟨by simpa [bsR] using VQ.slice (q := true) (n := 1) (ρ := bsR [x]) 0 0 l.length c c (Nat.le_refl _) (by omega), vrel_plain _ rfl, trivial⟩ (by simp [stonesC_plain]) rfl ?_ ?_ hni
  · simp [ren, shf]
  · simp only [List.map_cons, List.map_nil, renO, bench_ren, renL_plain _ (rowsC_plain l goal _)]
    simp [ren, shf, bsR]
end Go.Proofs.Ytindbippegiopaa
namespace Go.AH.Hone
open Go Go.AH
theorem osub_benchS {σ : Heap} {n m i j p q k : Nat} {π : Rho} {goal : Ed} {sv : Value} (hi : π i = ⟨p, 0, 0⟩) (h : σ[p]? = some (.rw (benchC goal sv (.slice (some ⟨j, 0, none⟩) k k)))) (hπ : ∀ i < m, π i = ⟨i, 0, 0⟩) (hmn : m ≤ n) (hs : closed m sv = true) (hs' : okV sv = true) (hq : q < n) (hj : π q = ⟨j, 0, 0⟩) :
    OSub σ n π (π i) (.rw (benchC goal sv (.slice (some ⟨q, 0, none⟩) k k))) := by
  refine .inr ⟨by rw [hi], benchC goal sv (.slice (some ⟨j, 0, none⟩) k k), .inl (by rw [hi]; exact h), Nat.le_refl _, fun a ha ha' => ?_⟩
  have ha4 : a < 4 := by simpa [benchC] using ha
  match a, ha4 with
  | 0, _ => exact .int _ _
  | 1, _ => exact .int _ _
  | 2, _ => exact vsub_refl hπ hmn sv hs hs'
  | 3, _ => exact vsub_sl hq hj (Nat.le_refl _)
theorem rowsC_split (l : List Sn) (goal : Ed) : ∀ (n i : Nat), i < n → ∃ r, (rowsC l goal n).drop (i * 7) = rowC (rowN l goal i) ++ r
  | 0, _, h => by omega
  | n + 1, i, h => by
    by_cases hin : i = n
    · subst hin
      refine ⟨[], ?_⟩
      rw [rowsC, List.drop_append_of_le_length (by rw [rowsC_len]; exact Nat.le_refl _), List.drop_of_length_le (by rw [rowsC_len]; exact Nat.le_refl _)]
      simp
    · obtain ⟨r, hr⟩ := rowsC_split l goal n i (by omega)
      refine ⟨r ++ rowC (rowN l goal n), ?_⟩
      rw [rowsC, List.drop_append_of_le_length (by rw [rowsC_len]; omega), hr, List.append_assoc]
theorem row_cells {σ : Heap} {l : List Sn} {goal : Ed} {y n i : Nat} (hy : arrAt σ y (rowsC l goal n)) (hi : i < n) : cellsAt σ y (0 + i * 7) 7 = some (rowC (rowN l goal i)) := by
  have hl := rowsC_len l goal n
  obtain ⟨r, hr⟩ := rowsC_split l goal n i hi
  have ht : ((rowsC l goal n).drop (i * 7)).take 7 = rowC (rowN l goal i) := by rw [hr]; simp [rowC]
  rcases hy with h | h | ⟨t, h⟩ <;> simp only [cellsAt, h] <;> rw [show Nat.ble (0 + i * 7 + 7) (rowsC l goal n).length = true from Nat.ble_eq.mpr (by omega), Nat.zero_add, ht] <;> rfl
structure BAt (σ : Heap) (p x y : Nat) (l : List Sn) (goal : Ed) (c : Nat) : Prop where
  b : arrAt σ p (benchC goal (.slice (some ⟨x, 0, none⟩) l.length c) (.slice (some ⟨y, 0, none⟩) (lastN l goal + 1) (lastN l goal + 1)))
  s : arrAt σ x (stonesC l)
  r : arrAt σ y (rowsC l goal (lastN l goal + 1))
def coversP (goal : Ed) (f : Nat → Int) : Prop := ∀ b < 7, first goal b ≤ f b
instance (goal : Ed) (f : Nat → Int) : Decidable (coversP goal f) := by unfold coversP; infer_instance
def bCss (l : List Sn) (goal : Ed) (c : Nat) : List (List Value) := [benchC goal (.slice (some ⟨1, 0, none⟩) l.length c) (.slice (some ⟨2, 0, none⟩) (lastN l goal + 1) (lastN l goal + 1)), stonesC l, rowsC l goal (lastN l goal + 1)]
def bBs (p x y : Nat) (l : List Sn) (goal : Ed) (c : Nat) : List (Nat × List Value) := [(p, benchC goal (.slice (some ⟨x, 0, none⟩) l.length c) (.slice (some ⟨y, 0, none⟩) (lastN l goal + 1) (lastN l goal + 1))), (x, stonesC l), (y, rowsC l goal (lastN l goal + 1))]
theorem BAt.cells {σ : Heap} {p x y c : Nat} {l : List Sn} {goal : Ed} (h : BAt σ p x y l goal c) {bs : List (Nat × List Value)} {rest : List (List Value)} (hr : ArrsR σ (bCss l goal c ++ rest).length (bsR ((bBs p x y l goal c ++ bs).map (·.1))) rest bs) :
    ArrsR σ (bCss l goal c ++ rest).length (bsR ((bBs p x y l goal c ++ bs).map (·.1))) (bCss l goal c ++ rest) (bBs p x y l goal c ++ bs) := by
  refine ⟨⟨h.b, rfl, fun a ha ha' => ?_⟩, ⟨h.s, rfl, fun a ha ha' => vrel_plainL _ (stonesC_plain l) a ha⟩, ⟨h.r, rfl, fun a ha ha' => vrel_plainL _ (rowsC_plain _ _ _) a ha⟩, hr⟩
  have ha4 : a < 4 := by simpa [benchC] using ha
  match a, ha4 with
  | 0, _ => exact .int _ _
  | 1, _ => exact .int _ _
  | 2, _ => exact vsub_sl (i := 1) (j := x) (by simp [bCss]) rfl (Nat.le_refl _)
  | 3, _ => exact vsub_sl (i := 2) (j := y) (by simp [bCss]) rfl (Nat.le_refl _)
theorem BAt.ev {P : Program} {fn : FuncId} {args1 args : List Value} {v : Value} {σ : Heap} {p x y c : Nat} {l : List Sn} {goal : Ed} (hb : BAt σ p x y l goal c) (h : Ev P fn args1 [.ro (benchC goal (.slice (some ⟨1, 0, none⟩) l.length c) (.slice (some ⟨2, 0, none⟩) (lastN l goal + 1) (lastN l goal + 1))), .ro (stonesC l), .ro (rowsC l goal (lastN l goal + 1))] v [.ro (benchC goal (.slice (some ⟨1, 0, none⟩) l.length c) (.slice (some ⟨2, 0, none⟩) (lastN l goal + 1) (lastN l goal + 1))), .ro (stonesC l), .ro (rowsC l goal (lastN l goal + 1))]) (ha : AS 3 (bsR [p, x, y]) args1 args) (hv : plain v = true) (hni : σ.all (fun o => !isIter o) = true) : Ev P fn args σ v σ :=
  Ev.arrsP (bCss l goal c ++ []) (bBs p x y l goal c ++ []) h (hb.cells trivial) ha hv hni
end Go.AH.Hone
namespace Go.Proofs.Ytindbippegiopaa
open Go Go.AH
attribute [local irreducible] WOps WCode WFree retQ thenQ blockQ scopeQ OpOk ACall RetRef roundA roundB
set_option maxRecDepth 100000
set_option maxHeartbeats 1000000
open Go.AH.Hone
theorem open_ok (l : List Sn) (e goal : Ed) (c : Nat) (h : askE l e goal = 0) (hN : l.length ≤ 1000000) :
    Ev Try.prog 56 [.slice (some ⟨0, 0, none⟩) l.length c, e.val, goal.val] [.ro (stonesC l)] (.tuple #[.pointer (some ⟨1, 0, none⟩), .int .i64 0]) [.ro (stonesC l), .rw (benchC goal (.slice (some ⟨0, 0, none⟩) l.length c) (.slice (some ⟨2, 0, none⟩) (lastN l goal + 1) (lastN l goal + 1))), .rw (rowsC l goal (lastN l goal + 1))] := by
  obtain ⟨h1, h2, h3⟩ := askE_zero h
  obtain ⟨_, _, hl⟩ := boxE_zero h1
  have h2' : ¬¬¬badEd e := fun h => h h2
  have h3' : ¬¬¬badEd goal := fun h => h h3
  have hnb := newBench_ev (σ := [.ro (stonesC l), .rw e.cells, .rw goal.cells]) (x := 0) (c := c) (.inl rfl) h3 hl hN rfl
  refine acall_intro 1 25 Try.func56 rfl rfl rfl rfl rfl ?_
  repeat' (first | (refine gU ?_; first | (refine gMove ?_; refine st (ok_move rfl) rfl rfl ?_) | (refine gAssign ?_; refine st (ok_assign rfl) rfl rfl ?_) | (refine gLoad ?_; refine st (ok_loadA rfl (by rfl)) rfl rfl ?_) | (refine gBin ?_; refine st (ok_bin rfl rfl rfl) rfl rfl ?_) | (refine gPick ?_; refine st (ok_pickFA rfl rfl) rfl rfl ?_) | (refine gNot ?_; refine st (ok_notD rfl) rfl rfl ?_) | (refine gCall ?_; refine st (ok_call rfl rfl rfl (by first | exact checkBox_ev (by exact .inl rfl) (by assumption) rfl | exact isEdge_ev rfl | exact hnb)) rfl rfl ?_) | (refine gBox ?_; refine st (ok_box rfl) rfl rfl ?_)) | (refine gG ?_; first | (refine gLoad ?_; refine stGA rfl (ok_loadA rfl (by rfl)) rfl rfl ?_) | (refine gNot ?_; refine stGA rfl (ok_notD rfl) rfl rfl ?_) | (refine gCall ?_; refine stGA rfl (ok_call rfl rfl rfl (by exact isEdge_ev rfl)) rfl rfl ?_)) | refine W_seq ?_ | refine W_region ?_ | refine st_nil ?_ | refine tq_n ?_ | refine W_skip ?_ | refine W_ret ?_ | refine W_condFA rfl ?_)
  refine ret0 (v2 := .tuple #[.pointer (some ⟨1, 0, none⟩), .int .i64 0]) (.tmp rfl (.tmp rfl .nil)) (RetRef.src [.rw (benchC goal (.slice (some ⟨0, 0, none⟩) l.length c) (.slice (some ⟨2, 0, none⟩) (lastN l goal + 1) (lastN l goal + 1))), .rw (rowsC l goal (lastN l goal + 1))] [3, 4] rfl rfl rfl ⟨osub_benchS (p := 3) (j := 4) (m := 1) rfl rfl (fun i hi => srcR_lt hi) (by simp) (slice_closed (by omega)).1 (slice_closed (n := 1) (by omega)).2 (by simp) rfl, osub_rwp (j := 4) rfl (.inl rfl) (rowsC_plain _ _ _), trivial⟩ (.tuple _ _ rfl fun i hi _ => ?_)) ⟨rfl, rfl⟩
  match i, hi with
  | 0, _ => exact VQ.ptr (q := true) (n := 3) (ρ := srcR 1 [3, 4]) 1 0 (by omega)
  | 1, _ => exact .int _ _
theorem open_bad (l : List Sn) (e goal : Ed) (c : Nat) (h : askE l e goal ≠ 0) (hN : l.length ≤ 1000000) :
    Ev Try.prog 56 [.slice (some ⟨0, 0, none⟩) l.length c, e.val, goal.val] [.ro (stonesC l)] (.tuple #[.pointer none, .int .i64 (askE l e goal)]) [.ro (stonesC l)] := by
  unfold askE at h ⊢
  by_cases hb : boxE l = 0
  · rw [if_neg (by omega)] at h ⊢
    by_cases h1 : badEd e
    · rw [if_pos (.inl h1)]
      have h1' : ¬¬badEd e := fun h => h h1
      refine acall_intro 1 25 Try.func56 rfl rfl rfl rfl rfl ?_
      repeat' (first | (refine gU ?_; first | (refine gMove ?_; refine st (ok_move rfl) rfl rfl ?_) | (refine gAssign ?_; refine st (ok_assign rfl) rfl rfl ?_) | (refine gLoad ?_; refine st (ok_loadA rfl (by rfl)) rfl rfl ?_) | (refine gBin ?_; refine st (ok_bin rfl rfl rfl) rfl rfl ?_) | (refine gPick ?_; refine st (ok_pickTA rfl rfl) rfl rfl ?_) | (refine gNot ?_; refine st (ok_notD rfl) rfl rfl ?_) | (refine gCall ?_; refine st (ok_call rfl rfl rfl (by first | exact checkBox_ev (by exact .inl rfl) (by assumption) rfl | exact isEdge_ev rfl)) rfl rfl ?_) | (refine gBox ?_; refine st (ok_box rfl) rfl rfl ?_)) | (refine gG ?_; refine stSA rfl rfl ?_) | refine W_seq ?_ | refine W_region ?_ | refine st_nil ?_ | refine tq_n ?_ | refine tq_r ?_ | refine W_skip ?_ | refine W_ret ?_ | refine W_condTA rfl ?_ | refine W_condFA rfl ?_)
      exact ret0 (.tmp rfl (.tmp rfl .nil)) (.plain rfl rfl) ⟨rfl, rfl⟩
    · have h1' : ¬¬¬badEd e := fun h => h h1
      by_cases h2 : badEd goal
      · rw [if_pos (.inr h2)]
        have h2' : ¬¬badEd goal := fun h => h h2
        refine acall_intro 1 25 Try.func56 rfl rfl rfl rfl rfl ?_
        repeat' (first | (refine gU ?_; first | (refine gMove ?_; refine st (ok_move rfl) rfl rfl ?_) | (refine gAssign ?_; refine st (ok_assign rfl) rfl rfl ?_) | (refine gLoad ?_; refine st (ok_loadA rfl (by rfl)) rfl rfl ?_) | (refine gBin ?_; refine st (ok_bin rfl rfl rfl) rfl rfl ?_) | (refine gPick ?_; refine st (ok_pickFA rfl rfl) rfl rfl ?_) | (refine gNot ?_; refine st (ok_notD rfl) rfl rfl ?_) | (refine gCall ?_; refine st (ok_call rfl rfl rfl (by first | exact checkBox_ev (by exact .inl rfl) (by assumption) rfl | exact isEdge_ev rfl)) rfl rfl ?_) | (refine gBox ?_; refine st (ok_box rfl) rfl rfl ?_)) | (refine gG ?_; first | (refine gLoad ?_; refine stGA rfl (ok_loadA rfl (by rfl)) rfl rfl ?_) | (refine gNot ?_; refine stGA rfl (ok_notD rfl) rfl rfl ?_) | (refine gCall ?_; refine stGA rfl (ok_call rfl rfl rfl (by exact isEdge_ev rfl)) rfl rfl ?_)) | refine W_seq ?_ | refine W_region ?_ | refine st_nil ?_ | refine tq_n ?_ | refine tq_r ?_ | refine W_skip ?_ | refine W_ret ?_ | refine W_condTA rfl ?_ | refine W_condFA rfl ?_)
        exact ret0 (.tmp rfl (.tmp rfl .nil)) (.plain rfl rfl) ⟨rfl, rfl⟩
      · rw [if_neg (fun h => h.elim h1 h2)] at h
        exact absurd rfl h
  · rw [if_pos hb]
    refine acall_intro 1 25 Try.func56 rfl rfl rfl rfl rfl ?_
    repeat' (first | (refine gU ?_; first | (refine gMove ?_; refine st (ok_move rfl) rfl rfl ?_) | (refine gAssign ?_; refine st (ok_assign rfl) rfl rfl ?_) | (refine gBin ?_; refine st (ok_bin rfl rfl rfl) rfl rfl ?_) | (refine gCall ?_; refine st (ok_call rfl rfl rfl (by exact checkBox_ev (by exact .inl rfl) (by assumption) rfl)) rfl rfl ?_) | (refine gBox ?_; refine st (ok_box rfl) rfl rfl ?_)) | refine W_seq ?_ | refine W_region ?_ | refine st_nil ?_ | refine tq_n ?_ | refine tq_r ?_ | refine W_ret ?_ | refine W_condTA rfl ?_)
    exact ret0 (.tmp rfl (.tmp rfl .nil)) (.plain rfl rfl) ⟨rfl, rfl⟩
theorem open_evOk {σ : Heap} {l : List Sn} {e goal : Ed} {x c : Nat} (hx : arrAt σ x (stonesC l)) (h : askE l e goal = 0) (hN : l.length ≤ 1000000) (hni : σ.all (fun o => !isIter o) = true) :
    Ev Try.prog 56 [.slice (some ⟨x, 0, none⟩) l.length c, e.val, goal.val] σ (.tuple #[.pointer (some ⟨σ.length, 0, none⟩), .int .i64 0]) (σ ++ [.rw (benchC goal (.slice (some ⟨x, 0, none⟩) l.length c) (.slice (some ⟨σ.length + 1, 0, none⟩) (lastN l goal + 1) (lastN l goal + 1))), .rw (rowsC l goal (lastN l goal + 1))]) := by
  refine Ev.arrsN [stonesC l] [x] (open_ok l e goal c h hN) ⟨hx, trivial⟩ ⟨by simpa [bsR] using VQ.slice (q := true) (n := 1) (ρ := bsR [x]) 0 0 l.length c c (Nat.le_refl _) (by omega), vrel_plain _ rfl, vrel_plain _ rfl, trivial⟩ (by simp [stonesC_plain]) rfl ?_ ?_ hni
  · simp [ren, renA, renL, shf]
  · simp only [List.map_cons, List.map_nil, renO, bench_ren, renL_plain _ (rowsC_plain l goal _)]
    simp [ren, shf, bsR]
theorem open_evBad {σ : Heap} {l : List Sn} {e goal : Ed} {x c : Nat} (hx : arrAt σ x (stonesC l)) (h : askE l e goal ≠ 0) (hN : l.length ≤ 1000000) (hni : σ.all (fun o => !isIter o) = true) :
    Ev Try.prog 56 [.slice (some ⟨x, 0, none⟩) l.length c, e.val, goal.val] σ (.tuple #[.pointer none, .int .i64 (askE l e goal)]) σ :=
  Ev.arrs [stonesC l] [x] (open_bad l e goal c h hN) ⟨hx, trivial⟩ ⟨by simpa [bsR] using VQ.slice (q := true) (n := 1) (ρ := bsR [x]) 0 0 l.length c c (Nat.le_refl _) (by omega), vrel_plain _ rfl, vrel_plain _ rfl, trivial⟩ (by simp [stonesC_plain]) rfl hni
theorem has_ok (f : Nat → Int) (e : Ed) (he : ¬ badEd e) : Ev Try.prog 59 [rowV f, e.val] [] (.bool (decide (inR f e))) [] := by
  unfold badEd at he
  have hc1 : cellGet [.rw (rowC f), .rw e.cells] 0 (0 + e.b.toNat * 1) = some (.int .i64 (f e.b.toNat)) := by
    rw [Nat.zero_add, Nat.mul_one]; simpa [cellGet] using rowC_get (by omega)
  refine acall_intro 0 12 Try.func59 rfl rfl rfl rfl rfl ?_
  repeat' (first | (refine gU ?_; first | (refine gAssign ?_; refine st (ok_assign rfl) rfl rfl ?_) | (refine gBox ?_; refine st (ok_box rfl) rfl rfl ?_)) | (refine fU ?_; first | (refine fAssign ?_; refine frA (ok_assign rfl) rfl ?_) | (refine fFA ?_; refine frA (ok_fieldAddr rfl) rfl ?_) | (refine fLoad ?_; refine frA (ok_load rfl (by first | rfl | exact hc1)) rfl ?_) | (refine fBin ?_; refine frA (ok_bin rfl rfl rfl) rfl ?_) | (refine fIA ?_; refine frA (ok_idxA rfl rfl (by omega) (by omega)) rfl ?_)) | (refine fr_stop ⟨by kernel_rfl, ?_⟩) | refine W_seq ?_ | refine W_region ?_ | refine W_regionD (by kernel_rfl) rfl ?_ | refine st_nil ?_ | refine tq_n ?_ | refine W_ret ?_)
  exact ret0 (.tmp rfl .nil) (.plain rfl rfl) ⟨rfl, rfl⟩
theorem has_ev {σ : Heap} {f : Nat → Int} {e : Ed} (he : ¬ badEd e) (hni : σ.all (fun o => !isIter o) = true) : Ev Try.prog 59 [rowV f, e.val] σ (.bool (decide (inR f e))) σ := Ev.nil (has_ok f e he) rfl rfl hni
theorem hc_Be (l : List Sn) (goal : Ed) (c : Nat) (e : Ed) : HClosed 4 [.ro (benchC goal (.slice (some ⟨1, 0, none⟩) l.length c) (.slice (some ⟨2, 0, none⟩) (lastN l goal + 1) (lastN l goal + 1))), .ro (stonesC l), .ro (rowsC l goal (lastN l goal + 1)), .rw e.cells] := by
  have h := slice_closed (n := 4) (i := 1) (l := l.length) (c := c) (by omega)
  have h' := slice_closed (n := 4) (i := 2) (l := lastN l goal + 1) (c := lastN l goal + 1) (by omega)
  exact ⟨⟨by simp [benchC, closedL, closed, h.1, h'.1], by simp [benchC, okL, okV, h.2, h'.2]⟩, plainL_closed (stonesC_plain l), plainL_closed (rowsC_plain _ _ _), plainL_closed rfl, trivial⟩
theorem needs_ok (l : List Sn) (e goal : Ed) (c : Nat) (he : ¬ badEd e) (hg : ¬ badEd goal) (hl : ∀ i < l.length, ¬ badSn (gs l i)) :
    Ev Try.prog 57 [.pointer (some ⟨0, 0, none⟩), e.val] [.ro (benchC goal (.slice (some ⟨1, 0, none⟩) l.length c) (.slice (some ⟨2, 0, none⟩) (lastN l goal + 1) (lastN l goal + 1))), .ro (stonesC l), .ro (rowsC l goal (lastN l goal + 1))] (.int .i64 (needsV l goal e)) [.ro (benchC goal (.slice (some ⟨1, 0, none⟩) l.length c) (.slice (some ⟨2, 0, none⟩) (lastN l goal + 1) (lastN l goal + 1))), .ro (stonesC l), .ro (rowsC l goal (lastN l goal + 1))] := by
  have hlast := (lastN_is (l := l) hg).2.1
  refine acall_intro 3 22 Try.func57 rfl rfl rfl rfl rfl ?_
  repeat' (first | (refine gU ?_; first | (refine gMove ?_; refine st (ok_move rfl) rfl rfl ?_) | (refine gAssign ?_; refine st (ok_assign rfl) rfl rfl ?_) | (refine gFA ?_; refine st (ok_fieldAddr rfl) rfl rfl ?_) | (refine gLoad ?_; refine st (ok_load rfl (by rfl)) rfl rfl ?_) | (refine gLen ?_; refine st (ok_len rfl) rfl rfl ?_) | (refine gNil ?_; refine st (ok_nilP rfl) rfl rfl ?_) | (refine gBox ?_; refine st (ok_box rfl) rfl rfl ?_)) | refine W_seq ?_ | refine W_region ?_ | refine st_nil ?_ | refine tq_n ?_ | refine W_block ?_)
  refine W_loopS (ι := Nat) (fun i => [(0, .pointer (some ⟨0, 0, none⟩)), (3, .pointer (some ⟨3, 0, none⟩)), (10, .slice (some ⟨2, 0, none⟩) (lastN l goal + 1) (lastN l goal + 1)), (11, .int .i64 ((lastN l goal + 1 : Nat) : Int)), (12, .int .i64 (i : Int))])
    (fun _ => [.ro (benchC goal (.slice (some ⟨1, 0, none⟩) l.length c) (.slice (some ⟨2, 0, none⟩) (lastN l goal + 1) (lastN l goal + 1))), .ro (stonesC l), .ro (rowsC l goal (lastN l goal + 1)), .rw e.cells]) (fun i => lastN l goal + 1 - i) (fun i => i ≤ lastN l goal + 1 ∧ ∀ j < i, ¬ inR (rowN l goal j) e) 0 (by simp) (.same ⟨rfl, rfl, rfl, rfl, rfl, trivial⟩) ⟨by omega, fun j h => by omega⟩ ?_
  intro i ⟨hi, hall⟩
  by_cases hil : i < lastN l goal + 1
  · have hil' : (i : Int) < ((lastN l goal + 1 : Nat) : Int) := by omega
    have hc1 : cellsAt [.ro (benchC goal (.slice (some ⟨1, 0, none⟩) l.length c) (.slice (some ⟨2, 0, none⟩) (lastN l goal + 1) (lastN l goal + 1))), .ro (stonesC l), .ro (rowsC l goal (lastN l goal + 1)), .rw e.cells] 2 (0 + i * 7) 7 = some (rowC (rowN l goal i)) := row_cells (.inl rfl) hil
    have hhas := has_ev (σ := [.ro (benchC goal (.slice (some ⟨1, 0, none⟩) l.length c) (.slice (some ⟨2, 0, none⟩) (lastN l goal + 1) (lastN l goal + 1))), .ro (stonesC l), .ro (rowsC l goal (lastN l goal + 1)), .rw e.cells, .rw (rowC (rowN l goal i))]) (f := rowN l goal i) he rfl
    by_cases hin : inR (rowN l goal i) e
    · have e1 : needsV l goal e = i := by
        have h1 := (needsV_iff hl hg he i).1 hin
        by_cases h0 : i = 0
        · omega
        · have h2 := mt (needsV_iff hl hg he (i - 1)).2 (hall (i - 1) (by omega)); omega
      rw [e1]
      repeat' (first | (refine gU ?_; first | (refine gMove ?_; refine st (ok_move rfl) rfl rfl ?_) | (refine gAssign ?_; refine st (ok_assign rfl) rfl rfl ?_) | (refine gLoad ?_; refine st (ok_loadA rfl (by first | rfl | exact hc1)) rfl rfl ?_) | (refine gBin ?_; refine st (ok_bin rfl rfl rfl) rfl rfl ?_) | (refine gIA ?_; refine st (ok_idxSN rfl rfl (by omega)) rfl rfl ?_) | (refine gCall ?_; refine st (ok_call rfl rfl rfl (by exact hhas)) rfl rfl ?_) | (refine gAlloc ?_; refine st (ok_alloc rfl) rfl rfl ?_) | (refine gStore ?_; refine stN (ok_store rfl rfl rfl rfl (by rfl)) rfl ?_)) | refine W_seq ?_ | refine W_region ?_ | refine st_nil ?_ | refine tq_n ?_ | refine tq_r ?_ | refine bq_r ?_ | refine W_skip ?_ | refine W_ret ?_ | refine W_block ?_ | refine W_condTA rfl ?_)
      exact ret0 (.tmp rfl .nil) (.plain rfl rfl) ⟨rfl, rfl⟩
    · repeat' (first | (refine gU ?_; first | (refine gMove ?_; refine st (ok_move rfl) rfl rfl ?_) | (refine gAssign ?_; refine st (ok_assign rfl) rfl rfl ?_) | (refine gLoad ?_; refine st (ok_loadA rfl (by first | rfl | exact hc1)) rfl rfl ?_) | (refine gAdd ?_; refine st (ok_inc rfl rfl (by omega)) rfl rfl ?_) | (refine gBin ?_; refine st (ok_bin rfl rfl rfl) rfl rfl ?_) | (refine gIA ?_; refine st (ok_idxSN rfl rfl (by omega)) rfl rfl ?_) | (refine gCall ?_; refine st (ok_call rfl rfl rfl (by exact hhas)) rfl rfl ?_) | (refine gAlloc ?_; refine st (ok_alloc rfl) rfl rfl ?_) | (refine gStore ?_; refine stN (ok_store rfl rfl rfl rfl (by rfl)) rfl ?_)) | refine W_seq ?_ | refine W_region ?_ | refine st_nil ?_ | refine tq_n ?_ | refine bq_n ?_ | refine W_skip ?_ | refine W_block ?_ | refine W_condTA rfl ?_ | refine W_condFA rfl ?_)
      refine ⟨rfl, i + 1, ⟨by omega, fun j hj => ?_⟩, by omega, StRef.drop [.ro (benchC goal (.slice (some ⟨1, 0, none⟩) l.length c) (.slice (some ⟨2, 0, none⟩) (lastN l goal + 1) (lastN l goal + 1))), .ro (stonesC l), .ro (rowsC l goal (lastN l goal + 1)), .rw e.cells] [_] (by simp) (hc_Be l goal c e) (by (repeat' (first | exact trivial | exact ⟨rfl, rfl, rfl⟩ | refine ⟨?_, ?_⟩)))⟩
      by_cases hji : j = i
      · subst hji; exact hin
      · exact hall j (by omega)
  · have e1 : needsV l goal e = -1 := by
      unfold needsV
      rcases needsK_is (l := l) (goal := goal) (e := e) (lastN l goal + 1) with ⟨h, _⟩ | ⟨n, hn, _, h, _⟩
      · exact h
      · exact absurd h (hall n (by omega))
    have hil' : ¬ (i : Int) < ((lastN l goal + 1 : Nat) : Int) := by omega
    rw [e1]
    repeat' (first | (refine gU ?_; first | (refine gAssign ?_; refine st (ok_assign rfl) rfl rfl ?_) | (refine gBin ?_; refine st (ok_bin rfl rfl rfl) rfl rfl ?_)) | refine W_seq ?_ | refine W_region ?_ | refine st_nil ?_ | refine tq_n ?_ | refine tq_e ?_ | refine bq_hit rfl ?_ | refine W_exit ?_ | refine W_ret ?_ | refine W_condFA rfl ?_)
    exact ret0 (.tmp rfl .nil) (.plain rfl rfl) ⟨rfl, rfl⟩
theorem needs_ev {σ : Heap} {l : List Sn} {e goal : Ed} {p x y c : Nat} (hb : BAt σ p x y l goal c) (he : ¬ badEd e) (hg : ¬ badEd goal) (hl : ∀ i < l.length, ¬ badSn (gs l i)) (hni : σ.all (fun o => !isIter o) = true) :
    Ev Try.prog 57 [.pointer (some ⟨p, 0, none⟩), e.val] σ (.int .i64 (needsV l goal e)) σ :=
  hb.ev (needs_ok l e goal c he hg hl) ⟨VQ.ptr (q := true) (n := 3) (ρ := bsR [p, x, y]) 0 0 (by omega), vrel_plain _ rfl, trivial⟩ rfl hni
theorem covers_ok (l : List Sn) (goal : Ed) (c : Nat) (f : Nat → Int) (hlast : lastN l goal ≤ 707) :
    Ev Try.prog 65 [.pointer (some ⟨0, 0, none⟩), rowV f] [.ro (benchC goal (.slice (some ⟨1, 0, none⟩) l.length c) (.slice (some ⟨2, 0, none⟩) (lastN l goal + 1) (lastN l goal + 1))), .ro (stonesC l), .ro (rowsC l goal (lastN l goal + 1))] (.bool (decide (coversP goal f))) [.ro (benchC goal (.slice (some ⟨1, 0, none⟩) l.length c) (.slice (some ⟨2, 0, none⟩) (lastN l goal + 1) (lastN l goal + 1))), .ro (stonesC l), .ro (rowsC l goal (lastN l goal + 1))] := by
  have hc1 : cellsAt [.ro (benchC goal (.slice (some ⟨1, 0, none⟩) l.length c) (.slice (some ⟨2, 0, none⟩) (lastN l goal + 1) (lastN l goal + 1))), .ro (stonesC l), .ro (rowsC l goal (lastN l goal + 1)), .rw (rowC f)] 2 0 7 = some (rowC (first goal)) := row_cells (l := l) (goal := goal) (y := 2) (n := lastN l goal + 1) (i := 0) (.inl rfl) (by omega)
  refine acall_intro 3 24 Try.func65 rfl rfl rfl rfl rfl ?_
  repeat' (first | (refine gU ?_; first | (refine gMove ?_; refine st (ok_move rfl) rfl rfl ?_) | (refine gAssign ?_; refine st (ok_assign rfl) rfl rfl ?_) | (refine gFA ?_; refine st (ok_fieldAddr rfl) rfl rfl ?_) | (refine gLoad ?_; first | refine st (ok_load rfl (by rfl)) rfl rfl ?_ | refine st (ok_loadA rfl (by exact hc1)) rfl rfl ?_) | (refine gNil ?_; refine st (ok_nilP rfl) rfl rfl ?_) | (refine gIA ?_; refine st (ok_idx rfl rfl (by omega) (by omega)) rfl rfl ?_) | (refine gBox ?_; refine st (ok_box rfl) rfl rfl ?_) | (refine gAlloc ?_; refine st (ok_alloc rfl) rfl rfl ?_) | (refine gStore ?_; refine stN (ok_store rfl rfl rfl rfl (by rfl)) rfl ?_)) | refine W_seq ?_ | refine W_region ?_ | refine st_nil ?_ | refine tq_n ?_ | refine W_block ?_)
  refine W_loopS (ι := Nat) (fun i => [(0, .pointer (some ⟨0, 0, none⟩)), (3, .pointer (some ⟨3, 0, none⟩)), (5, .pointer (some ⟨4, 0, none⟩)), (13, .int .i64 (i : Int))])
    (fun _ => [.ro (benchC goal (.slice (some ⟨1, 0, none⟩) l.length c) (.slice (some ⟨2, 0, none⟩) (lastN l goal + 1) (lastN l goal + 1))), .ro (stonesC l), .ro (rowsC l goal (lastN l goal + 1)), .rw (rowC f), .rw (rowC (first goal))]) (fun i => 7 - i) (fun i => i ≤ 7 ∧ ∀ j < i, first goal j ≤ f j) 0 (by simp) (.same ⟨rfl, rfl, rfl, rfl, trivial⟩) ⟨by omega, fun j h => by omega⟩ ?_
  clear hc1
  intro i ⟨hi, hall⟩
  by_cases hi7 : i < 7
  · have hi7' : (i : Int) < 7 := by omega
    have hc1 : cellGet [.ro (benchC goal (.slice (some ⟨1, 0, none⟩) l.length c) (.slice (some ⟨2, 0, none⟩) (lastN l goal + 1) (lastN l goal + 1))), .ro (stonesC l), .ro (rowsC l goal (lastN l goal + 1)), .rw (rowC f), .rw (rowC (first goal))] 3 (0 + i * 1) = some (.int .i64 (f i)) := by rw [Nat.zero_add, Nat.mul_one]; simpa [cellGet] using rowC_get hi7
    have hc2 : cellGet [.ro (benchC goal (.slice (some ⟨1, 0, none⟩) l.length c) (.slice (some ⟨2, 0, none⟩) (lastN l goal + 1) (lastN l goal + 1))), .ro (stonesC l), .ro (rowsC l goal (lastN l goal + 1)), .rw (rowC f), .rw (rowC (first goal))] 4 (0 + i * 1) = some (.int .i64 (first goal i)) := by rw [Nat.zero_add, Nat.mul_one]; simpa [cellGet] using rowC_get hi7
    by_cases hlt : f i < first goal i
    · rw [decide_eq_false (fun h => by have := h i hi7; omega)]
      repeat' (first | (refine gU ?_; first | (refine gMove ?_; refine st (ok_move rfl) rfl rfl ?_) | (refine gAssign ?_; refine st (ok_assign rfl) rfl rfl ?_) | (refine gBin ?_; refine st (ok_bin rfl rfl rfl) rfl rfl ?_)) | (refine fU ?_; first | (refine fMove ?_; refine frA (ok_move rfl) rfl ?_) | (refine fLoad ?_; refine frA (ok_load rfl (by first | exact hc1 | exact hc2)) rfl ?_) | (refine fBin ?_; refine frA (ok_bin rfl rfl rfl) rfl ?_) | (refine fIA ?_; refine frA (ok_idxAN rfl rfl (by omega)) rfl ?_)) | (refine fr_stop ⟨by kernel_rfl, ?_⟩) | refine W_seq ?_ | refine W_region ?_ | refine W_regionD (by kernel_rfl) rfl ?_ | refine st_nil ?_ | refine tq_n ?_ | refine tq_r ?_ | refine bq_r ?_ | refine W_skip ?_ | refine W_ret ?_ | refine W_block ?_ | refine W_condTA rfl ?_)
      exact ret0 (.tmp rfl .nil) (.plain rfl rfl) ⟨rfl, rfl⟩
    · repeat' (first | (refine gU ?_; first | (refine gMove ?_; refine st (ok_move rfl) rfl rfl ?_) | (refine gAssign ?_; refine st (ok_assign rfl) rfl rfl ?_) | (refine gAdd ?_; refine st (ok_inc rfl rfl (by omega)) rfl rfl ?_) | (refine gBin ?_; refine st (ok_bin rfl rfl rfl) rfl rfl ?_)) | (refine fU ?_; first | (refine fMove ?_; refine frA (ok_move rfl) rfl ?_) | (refine fLoad ?_; refine frA (ok_load rfl (by first | exact hc1 | exact hc2)) rfl ?_) | (refine fBin ?_; refine frA (ok_bin rfl rfl rfl) rfl ?_) | (refine fIA ?_; refine frA (ok_idxAN rfl rfl (by omega)) rfl ?_)) | (refine fr_stop ⟨by kernel_rfl, ?_⟩) | refine W_seq ?_ | refine W_region ?_ | refine W_regionD (by kernel_rfl) rfl ?_ | refine st_nil ?_ | refine tq_n ?_ | refine bq_n ?_ | refine W_skip ?_ | refine W_block ?_ | refine W_condTA rfl ?_ | refine W_condFA rfl ?_)
      refine ⟨rfl, i + 1, ⟨by omega, fun j hj => ?_⟩, by omega, .same ⟨rfl, rfl, rfl, rfl, trivial⟩⟩
      by_cases hji : j = i
      · subst hji; omega
      · exact hall j (by omega)
  · obtain rfl : i = 7 := by omega
    rw [decide_eq_true (show coversP goal f from hall)]
    repeat' (first | (refine gU ?_; first | (refine gAssign ?_; refine st (ok_assign rfl) rfl rfl ?_) | (refine gBin ?_; refine st (ok_bin rfl rfl rfl) rfl rfl ?_)) | refine W_seq ?_ | refine W_region ?_ | refine st_nil ?_ | refine tq_n ?_ | refine tq_e ?_ | refine bq_hit rfl ?_ | refine W_exit ?_ | refine W_ret ?_ | refine W_condFA rfl ?_)
    exact ret0 (.tmp rfl .nil) (.plain rfl rfl) ⟨rfl, rfl⟩
theorem covers_ev {σ : Heap} {l : List Sn} {goal : Ed} {p x y c : Nat} {f : Nat → Int} (hb : BAt σ p x y l goal c) (hg : ¬ badEd goal) (hni : σ.all (fun o => !isIter o) = true) :
    Ev Try.prog 65 [.pointer (some ⟨p, 0, none⟩), rowV f] σ (.bool (decide (coversP goal f))) σ :=
  hb.ev (covers_ok l goal c f (lastN_is hg).2.1) ⟨VQ.ptr (q := true) (n := 3) (ρ := bsR [p, x, y]) 0 0 (by omega), vrel_plain _ rfl, trivial⟩ rfl hni
end Go.Proofs.Ytindbippegiopaa
namespace Go.AH.Hone
open Go Go.AH
theorem BAt.evN {P : Program} {fn : FuncId} {args1 args : List Value} {v v1 : Value} {news news' : Heap} {σ : Heap} {p x y c : Nat} {l : List Sn} {goal : Ed} (hb : BAt σ p x y l goal c) (h : Ev P fn args1 [.ro (benchC goal (.slice (some ⟨1, 0, none⟩) l.length c) (.slice (some ⟨2, 0, none⟩) (lastN l goal + 1) (lastN l goal + 1))), .ro (stonesC l), .ro (rowsC l goal (lastN l goal + 1))] v1 ([.ro (benchC goal (.slice (some ⟨1, 0, none⟩) l.length c) (.slice (some ⟨2, 0, none⟩) (lastN l goal + 1) (lastN l goal + 1))), .ro (stonesC l), .ro (rowsC l goal (lastN l goal + 1))] ++ news)) (ha : AS 3 (bsR [p, x, y]) args1 args) (hm : news.all isMem = true)
    (hv : ren (shf 3 σ.length (bsR [p, x, y])) v1 = v) (hn : news.map (renO (shf 3 σ.length (bsR [p, x, y]))) = news') (hni : σ.all (fun o => !isIter o) = true) : Ev P fn args σ v (σ ++ news') :=
  Ev.arrsR (bCss l goal c ++ []) (bBs p x y l goal c ++ []) h (hb.cells trivial) ha hm hv hn hni
def lvP (l : List Sn) (f g : Nat → Int) : Prop := ∀ b < 7, f b + 1 ≤ 100 → ∀ i < l.length, can (gs l i) ⟨f b + 1, b⟩ → ¬ inR g (aft (gs l i) ⟨f b + 1, b⟩)
instance (l : List Sn) (f g : Nat → Int) : Decidable (lvP l f g) := by unfold lvP; infer_instance
end Go.AH.Hone
namespace Go.Proofs.Ytindbippegiopaa
open Go Go.AH
attribute [local irreducible] WOps WCode WFree retQ thenQ blockQ scopeQ OpOk ACall RetRef roundA roundB
set_option maxRecDepth 100000
set_option maxHeartbeats 1000000
open Go.AH.Hone
theorem strokes_ok (l : List Sn) (goal e : Ed) (c : Nat) : Ev Try.prog 58 [.pointer (some ⟨0, 0, none⟩), e.val] [.ro (benchC goal (.slice (some ⟨1, 0, none⟩) l.length c) (.slice (some ⟨2, 0, none⟩) (lastN l goal + 1) (lastN l goal + 1))), .ro (stonesC l), .ro (rowsC l goal (lastN l goal + 1))] (.func (.func 78) #[] #[.pointer (some ⟨3, 0, none⟩), .pointer (some ⟨4, 0, none⟩)]) [.ro (benchC goal (.slice (some ⟨1, 0, none⟩) l.length c) (.slice (some ⟨2, 0, none⟩) (lastN l goal + 1) (lastN l goal + 1))), .ro (stonesC l), .ro (rowsC l goal (lastN l goal + 1)), .rw [.pointer (some ⟨0, 0, none⟩)], .rw e.cells] := by
  refine acall_intro 3 6 Try.func58 rfl rfl rfl rfl rfl ?_
  repeat' (first | (refine gU ?_; first | (refine gAssign ?_; refine st (ok_assign rfl) rfl rfl ?_) | (refine gMkF ?_; refine st (ok_makeFunc rfl rfl) rfl rfl ?_) | (refine gBox ?_; refine st (ok_box rfl) rfl rfl ?_)) | refine W_seq ?_ | refine W_region ?_ | refine st_nil ?_ | refine tq_n ?_ | refine W_ret ?_)
  exact ret0 (.tmp rfl .nil) .all ⟨rfl, rfl⟩
theorem strokes_ev {σ : Heap} {l : List Sn} {e goal : Ed} {p x y c : Nat} (hb : BAt σ p x y l goal c) (hni : σ.all (fun o => !isIter o) = true) :
    Ev Try.prog 58 [.pointer (some ⟨p, 0, none⟩), e.val] σ (.func (.func 78) #[] #[.pointer (some ⟨σ.length, 0, none⟩), .pointer (some ⟨σ.length + 1, 0, none⟩)]) (σ ++ [.rw [.pointer (some ⟨p, 0, none⟩)], .rw e.cells]) :=
  hb.evN (news := [.rw [.pointer (some ⟨0, 0, none⟩)], .rw e.cells]) (strokes_ok l goal e c) ⟨VQ.ptr (q := true) (n := 3) (ρ := bsR [p, x, y]) 0 0 (by omega), vrel_plain _ rfl, trivial⟩ rfl (by simp [ren, renA, renL, shf]) (by simp [renO, renL, ren, shf, bsR, Ed.cells]) hni
theorem hc_lv (l : List Sn) (goal : Ed) (c : Nat) (f g : Nat → Int) : HClosed 6 [.ro (benchC goal (.slice (some ⟨1, 0, none⟩) l.length c) (.slice (some ⟨2, 0, none⟩) (lastN l goal + 1) (lastN l goal + 1))), .ro (stonesC l), .ro (rowsC l goal (lastN l goal + 1)), .rw (rowC f), .rw (rowC g), .rw [.bool true]] := by
  have h := slice_closed (n := 6) (i := 1) (l := l.length) (c := c) (by omega)
  have h' := slice_closed (n := 6) (i := 2) (l := lastN l goal + 1) (c := lastN l goal + 1) (by omega)
  exact ⟨⟨by simp [benchC, closedL, closed, h.1, h'.1], by simp [benchC, okL, okV, h.2, h'.2]⟩, plainL_closed (stonesC_plain l), plainL_closed (rowsC_plain _ _ _), plainL_closed rfl, plainL_closed rfl, plainL_closed rfl, trivial⟩
theorem hc_lv2 (l : List Sn) (goal e : Ed) (c : Nat) (f g : Nat → Int) (L : AObj) (hL : oclosed 11 L) : HClosed 11 [.ro (benchC goal (.slice (some ⟨1, 0, none⟩) l.length c) (.slice (some ⟨2, 0, none⟩) (lastN l goal + 1) (lastN l goal + 1))), .ro (stonesC l), .ro (rowsC l goal (lastN l goal + 1)), .rw (rowC f), .rw (rowC g), .rw [.bool true], .rw e.cells, .rw [.pointer (some ⟨0, 0, none⟩)], .rw e.cells, .dfr, L] := by
  have h := slice_closed (n := 11) (i := 1) (l := l.length) (c := c) (by omega)
  have h' := slice_closed (n := 11) (i := 2) (l := lastN l goal + 1) (c := lastN l goal + 1) (by omega)
  exact ⟨⟨by simp [benchC, closedL, closed, h.1, h'.1], by simp [benchC, okL, okV, h.2, h'.2]⟩, plainL_closed (stonesC_plain l), plainL_closed (rowsC_plain _ _ _), plainL_closed rfl, plainL_closed rfl, plainL_closed rfl, plainL_closed rfl, ⟨rfl, rfl⟩, plainL_closed rfl, trivial, hL, trivial⟩
theorem leaves_ok (l : List Sn) (goal : Ed) (c : Nat) (f g : Nat → Int) (hf : ∀ b < 7, -1 ≤ f b ∧ f b ≤ 100) (hl : ∀ i < l.length, ¬ badSn (gs l i)) (hN : l.length ≤ 1000000) :
    Ev Try.prog 66 [.pointer (some ⟨0, 0, none⟩), rowV f, rowV g] [.ro (benchC goal (.slice (some ⟨1, 0, none⟩) l.length c) (.slice (some ⟨2, 0, none⟩) (lastN l goal + 1) (lastN l goal + 1))), .ro (stonesC l), .ro (rowsC l goal (lastN l goal + 1))] (.bool (decide (lvP l f g))) [.ro (benchC goal (.slice (some ⟨1, 0, none⟩) l.length c) (.slice (some ⟨2, 0, none⟩) (lastN l goal + 1) (lastN l goal + 1))), .ro (stonesC l), .ro (rowsC l goal (lastN l goal + 1))] := by
  refine acall_intro 3 34 Try.func66 rfl rfl rfl rfl rfl ?_
  repeat' (first | (refine gU ?_; first | (refine gMove ?_; refine st (ok_move rfl) rfl rfl ?_) | (refine gAssign ?_; refine st (ok_assign rfl) rfl rfl ?_) | (refine gBox ?_; refine st (ok_box rfl) rfl rfl ?_) | (refine gAlloc ?_; refine st (ok_alloc rfl) rfl rfl ?_) | (refine gStore ?_; refine stN (ok_store rfl rfl rfl rfl (by rfl)) rfl ?_)) | refine W_seq ?_ | refine W_region ?_ | refine st_nil ?_ | refine tq_n ?_ | refine W_block ?_ | refine W_scope ?_ | refine W_label ?_)
  refine Tail.W_loopD (ι := Nat) (fun b => [(0, .pointer (some ⟨0, 0, none⟩)), (4, .pointer (some ⟨3, 0, none⟩)), (5, .pointer (some ⟨4, 0, none⟩)), (7, .pointer (some ⟨5, 0, none⟩)), (12, .int .i64 (b : Int))])
    (fun b => [.ro (benchC goal (.slice (some ⟨1, 0, none⟩) l.length c) (.slice (some ⟨2, 0, none⟩) (lastN l goal + 1) (lastN l goal + 1))), .ro (stonesC l), .ro (rowsC l goal (lastN l goal + 1)), .rw (rowC f), .rw (rowC g), .rw [.bool true]]) (fun b => 7 - b) (fun b => b ≤ 7 ∧ ∀ b' < b, f b' + 1 ≤ 100 → ∀ i < l.length, can (gs l i) ⟨f b' + 1, b'⟩ → ¬ inR g (aft (gs l i) ⟨f b' + 1, b'⟩)) 0 rfl (by (repeat' (first | exact Tail.tail_ret rfl | refine Tail.tail_then ?_ ?_ | refine Tail.tail_block ?_ | refine Tail.tail_scope ?_ | refine Tail.W_tail rfl ?_))) (fun _ => by simp) (fun _ _ => hc_lv l goal c f g) (.of (.same ⟨rfl, rfl, rfl, rfl, rfl, trivial⟩) (by simp)) ⟨by omega, fun b hb => by omega⟩ ?_
  rintro b ⟨hb, hall⟩
  by_cases hb7 : b < 7
  · have hb7' : (b : Int) < 7 := by omega
    have hc1 : cellGet [.ro (benchC goal (.slice (some ⟨1, 0, none⟩) l.length c) (.slice (some ⟨2, 0, none⟩) (lastN l goal + 1) (lastN l goal + 1))), .ro (stonesC l), .ro (rowsC l goal (lastN l goal + 1)), .rw (rowC f), .rw (rowC g), .rw [.bool true]] 3 (0 + b * 1) = some (.int .i64 (f b)) := by rw [Nat.zero_add, Nat.mul_one]; simpa [cellGet] using rowC_get hb7
    have hfb := hf b hb7
    by_cases h100 : f b + 1 > 100
    · repeat' (first | (refine gU ?_; first | (refine gMove ?_; refine st (ok_move rfl) rfl rfl ?_) | (refine gAssign ?_; refine st (ok_assign rfl) rfl rfl ?_) | (refine gFA ?_; refine st (ok_fieldAddr rfl) rfl rfl ?_) | (refine gLoad ?_; refine st (ok_load rfl (by first | rfl | exact hc1)) rfl rfl ?_) | (refine gAdd ?_; first | refine st (ok_inc rfl rfl (by omega)) rfl rfl ?_ | refine st (ok_add rfl rfl (by omega) (by omega)) rfl rfl ?_) | (refine gBin ?_; refine st (ok_bin rfl rfl rfl) rfl rfl ?_) | (refine gIA ?_; refine st (ok_idxAN rfl rfl (by omega)) rfl rfl ?_) | (refine gBuild ?_; refine st (ok_build (by rfl) rfl (by rfl)) rfl rfl ?_) | (refine gAlloc ?_; refine st (ok_alloc rfl) rfl rfl ?_) | (refine gStore ?_; refine stN (ok_store rfl rfl rfl rfl (by rfl)) rfl ?_)) | refine W_seq ?_ | refine W_region ?_ | refine st_nil ?_ | refine tq_n ?_ | refine tq_e ?_ | refine bq_hit rfl ?_ | refine W_skip ?_ | refine W_exit ?_ | refine W_block ?_ | refine W_condTA rfl ?_)
      refine ⟨b + 1, ⟨⟨by omega, fun b' hb' h1 => ?_⟩, by omega⟩, .of (StRef.drop [.ro (benchC goal (.slice (some ⟨1, 0, none⟩) l.length c) (.slice (some ⟨2, 0, none⟩) (lastN l goal + 1) (lastN l goal + 1))), .ro (stonesC l), .ro (rowsC l goal (lastN l goal + 1)), .rw (rowC f), .rw (rowC g), .rw [.bool true]] [_] (by simp) (hc_lv l goal c f g) (by (repeat' (first | exact trivial | exact ⟨rfl, rfl, rfl⟩ | refine ⟨?_, ?_⟩)))) (by simp)⟩
      by_cases hbb : b' = b
      · subst hbb; omega
      · exact hall b' (by omega) h1
    · have hst := strokes_ev (σ := [.ro (benchC goal (.slice (some ⟨1, 0, none⟩) l.length c) (.slice (some ⟨2, 0, none⟩) (lastN l goal + 1) (lastN l goal + 1))), .ro (stonesC l), .ro (rowsC l goal (lastN l goal + 1)), .rw (rowC f), .rw (rowC g), .rw [.bool true], .rw (Ed.cells ⟨f b + 1, b⟩)]) (l := l) (goal := goal) (e := ⟨f b + 1, b⟩) (p := 0) (x := 1) (y := 2) (c := c) ⟨.inl rfl, .inl rfl, .inl rfl⟩ rfl
      have he : ¬ badEd ⟨f b + 1, b⟩ := by unfold badEd; simp only; omega
      repeat' (first | (refine gU ?_; first | (refine gMove ?_; refine st (ok_move rfl) rfl rfl ?_) | (refine gAssign ?_; refine st (ok_assign rfl) rfl rfl ?_) | (refine gFA ?_; refine st (ok_fieldAddr rfl) rfl rfl ?_) | (refine gLoad ?_; first | refine st (ok_load rfl (by first | rfl | exact hc1)) rfl rfl ?_ | refine st (ok_loadA rfl (by rfl)) rfl rfl ?_) | (refine gAdd ?_; refine st (ok_add rfl rfl (by omega) (by omega)) rfl rfl ?_) | (refine gBin ?_; refine st (ok_bin rfl rfl rfl) rfl rfl ?_) | (refine gIA ?_; refine st (ok_idxAN rfl rfl (by omega)) rfl rfl ?_) | (refine gBuild ?_; refine st (ok_build (by rfl) rfl (by rfl)) rfl rfl ?_) | (refine gCall ?_; refine st (ok_call rfl rfl rfl (by exact hst)) rfl rfl ?_) | (refine gAlloc ?_; refine st (ok_alloc rfl) rfl rfl ?_) | (refine gStore ?_; refine stN (ok_store rfl rfl rfl rfl (by rfl)) rfl ?_)) | refine W_seq ?_ | refine W_region ?_ | refine st_nil ?_ | refine tq_n ?_ | refine W_skip ?_ | refine W_block ?_ | refine W_condTA rfl ?_ | refine W_condFA rfl ?_)
      refine W_st (by simp) (.same (e2 := [(0, .pointer (some ⟨0, 0, none⟩)), (4, .pointer (some ⟨3, 0, none⟩)), (5, .pointer (some ⟨4, 0, none⟩)), (7, .pointer (some ⟨5, 0, none⟩)), (12, .int .i64 (b : Int)), (26, .func (.func 78) #[] #[.pointer (some ⟨7, 0, none⟩), .pointer (some ⟨8, 0, none⟩)])]) ⟨rfl, rfl, rfl, rfl, rfl, rfl, trivial⟩) ?_
      refine W_rangeFuncL (p := []) (q := [.pointer (some ⟨7, 0, none⟩), .pointer (some ⟨8, 0, none⟩)]) rfl fun L hL => ?_
      have hLc : oclosed 11 L := by
        rw [hL]
        exact env_closed fun p hp => by
          simp only [List.mem_cons, List.not_mem_nil, or_false] at hp
          rcases hp with rfl | rfl | rfl | rfl | rfl | rfl <;> exact ⟨rfl, rfl⟩
      have hLi : isIter L = false := by rw [hL]; rfl
      refine acall_intro 11 33 Try.func78 rfl rfl rfl rfl rfl ?_
      repeat' (first | (refine gU ?_; first | (refine gMove ?_; refine st (ok_move rfl) rfl rfl ?_) | (refine gFA ?_; refine st (ok_fieldAddr rfl) rfl rfl ?_) | (refine gLoad ?_; refine st (ok_load rfl (by rfl)) rfl rfl ?_) | (refine gLen ?_; refine st (ok_len rfl) rfl rfl ?_) | (refine gNil ?_; refine st (ok_nilP rfl) rfl rfl ?_)) | refine W_seq ?_ | refine W_region ?_ | refine st_nil ?_ | refine tq_n ?_ | refine W_block ?_)
      refine W_loopS (ι := Nat) (fun k => [(0, .func (.yield 10) #[] #[]), (1, .pointer (some ⟨7, 0, none⟩)), (2, .pointer (some ⟨8, 0, none⟩)), (11, .slice (some ⟨1, 0, none⟩) l.length c), (12, .int .i64 (l.length : Int)), (13, .int .i64 (k : Int))])
        (fun _ => [.ro (benchC goal (.slice (some ⟨1, 0, none⟩) l.length c) (.slice (some ⟨2, 0, none⟩) (lastN l goal + 1) (lastN l goal + 1))), .ro (stonesC l), .ro (rowsC l goal (lastN l goal + 1)), .rw (rowC f), .rw (rowC g), .rw [.bool true], .rw (Ed.cells ⟨f b + 1, b⟩), .rw [.pointer (some ⟨0, 0, none⟩)], .rw (Ed.cells ⟨f b + 1, b⟩), .dfr, L]) (fun k => l.length - k)
        (fun k => k ≤ l.length ∧ ∀ i < k, can (gs l i) ⟨f b + 1, b⟩ → ¬ inR g (aft (gs l i) ⟨f b + 1, b⟩)) 0 (by simp) (.same ⟨rfl, rfl, rfl, rfl, rfl, rfl, trivial⟩) ⟨by omega, fun i hi => by omega⟩ ?_
      rintro k ⟨hk, hno⟩
      clear hst hc1
      by_cases hkl : k < l.length
      · have hc1 := stone_cells (σ := [.ro (benchC goal (.slice (some ⟨1, 0, none⟩) l.length c) (.slice (some ⟨2, 0, none⟩) (lastN l goal + 1) (lastN l goal + 1))), .ro (stonesC l), .ro (rowsC l goal (lastN l goal + 1)), .rw (rowC f), .rw (rowC g), .rw [.bool true], .rw (Ed.cells ⟨f b + 1, b⟩), .rw [.pointer (some ⟨0, 0, none⟩)], .rw (Ed.cells ⟨f b + 1, b⟩), .dfr, L]) (x := 1) (l := l) (i := k) (.inl rfl) hkl
        have hsk := stroke_ev (σ := [.ro (benchC goal (.slice (some ⟨1, 0, none⟩) l.length c) (.slice (some ⟨2, 0, none⟩) (lastN l goal + 1) (lastN l goal + 1))), .ro (stonesC l), .ro (rowsC l goal (lastN l goal + 1)), .rw (rowC f), .rw (rowC g), .rw [.bool true], .rw (Ed.cells ⟨f b + 1, b⟩), .rw [.pointer (some ⟨0, 0, none⟩)], .rw (Ed.cells ⟨f b + 1, b⟩), .dfr, L, .rw (gs l k).cells]) (hl k hkl) he (by rw [hL]; rfl)
        have hok := aft_ok (hl k hkl) he
        have hbreak : can (gs l k) ⟨f b + 1, b⟩ → inR g (aft (gs l k) ⟨f b + 1, b⟩) → ¬ lvP l f g := fun h1 h2 h => h b hb7 (by omega) k hkl h1 h2
        have hnext : (can (gs l k) ⟨f b + 1, b⟩ → ¬ inR g (aft (gs l k) ⟨f b + 1, b⟩)) → ∀ i < k + 1, can (gs l i) ⟨f b + 1, b⟩ → ¬ inR g (aft (gs l i) ⟨f b + 1, b⟩) := fun h i hi => by
          by_cases hik : i = k
          · subst hik; exact h
          · exact hno i (by omega)
        replace hno := Hide.mk hno
        generalize gs l k = s at hc1 hsk hok hbreak hnext
        generalize (⟨f b + 1, b⟩ : Ed) = e at *
        unfold strokeV at hsk
        by_cases hcn : e.b + s.b ≤ 6
        · rw [if_neg (by omega)] at hsk
          have hcn' : can s e := hcn
          replace hbreak := hbreak hcn'
          replace hok := hok hcn'
          by_cases hin : inR g (aft s e)
          · repeat' (first | (refine gU ?_; first | (refine gMove ?_; refine st (ok_move rfl) rfl rfl ?_) | (refine gAssign ?_; refine st (ok_assign rfl) rfl rfl ?_) | (refine gLoad ?_; refine st (ok_loadA rfl (by first | rfl | exact hc1)) rfl rfl ?_) | (refine gBin ?_; refine st (ok_bin rfl rfl rfl) rfl rfl ?_) | (refine gExtract ?_; refine st (ok_extract rfl rfl) rfl rfl ?_) | (refine gIA ?_; refine st (ok_idxSN rfl rfl (by omega)) rfl rfl ?_) | (refine gCall ?_; refine st (ok_call rfl rfl rfl (by exact hsk)) rfl rfl ?_) | (refine gAlloc ?_; refine st (ok_alloc rfl) rfl rfl ?_) | (refine gStore ?_; refine stN (ok_store rfl rfl rfl rfl (by rfl)) rfl ?_)) | (refine gG ?_; first | (refine gMove ?_; refine stGA rfl (ok_move rfl) rfl rfl ?_) | (refine gLoad ?_; refine stGA rfl (ok_loadA rfl (by rfl)) rfl rfl ?_)) | refine W_seq ?_ | refine W_region ?_ | refine st_nil ?_ | refine tq_n ?_ | refine W_skip ?_ | refine W_block ?_ | refine W_condTA rfl ?_)
            refine st_yieldG (l := 10) rfl rfl (by rw [hL]; rfl) rfl rfl rfl (fun _ _ _ _ he => wanted_rel (b := true) rfl he) ?_
            repeat' (first | (refine gU ?_; first | (refine gAlloc ?_; refine st (ok_alloc rfl) rfl rfl ?_) | (refine gStore ?_; refine stN (ok_store rfl rfl rfl rfl (by rfl)) rfl ?_)) | refine W_region ?_ | refine st_nil ?_)
            refine roundA_n (by rw [hL]; rfl) ?_
            repeat' (first | (refine gU ?_; first | (refine gLoad ?_; refine st (ok_loadA rfl (by rfl)) rfl rfl ?_) | (refine gCall ?_; refine st (ok_call rfl rfl rfl (by exact has_ev hok (by rfl))) rfl rfl ?_) | (refine gStore ?_; refine stN (ok_store rfl rfl rfl rfl (by rfl)) rfl ?_)) | refine W_seq ?_ | refine W_region ?_ | refine st_nil ?_ | refine tq_n ?_ | refine bq_miss rfl ?_ | refine W_exit ?_ | refine W_block ?_ | refine W_condTA rfl ?_)
            refine roundB_e rfl rfl ?_
            repeat' (first | (refine gU ?_; (refine gPick ?_; refine st (ok_pickTA rfl rfl) rfl rfl ?_)) | (refine gG ?_; (refine gNot ?_; refine stGA rfl (ok_not' rfl) rfl rfl ?_)) | refine st_nil ?_ | refine tq_n ?_ | refine tq_r ?_ | refine bq_r ?_ | refine W_ret ?_ | refine W_condTA rfl ?_)
            refine ret0 .nil .all ⟨_, _, _, _, _, _, _, rfl, by simp, ?_⟩
            dsimp only
            repeat' (first | (refine gU ?_; first | (refine gAssign ?_; refine st (ok_assign rfl) rfl rfl ?_) | (refine gLoad ?_; refine st (ok_load rfl (by rfl)) rfl rfl ?_)) | refine W_seq ?_ | refine W_region ?_ | refine st_nil ?_ | refine tq_n ?_ | refine tq_e ?_ | refine bq_hit rfl ?_ | refine bq_miss rfl ?_ | refine W_exit ?_ | refine W_ret ?_ | refine sq_r ?_)
            rw [decide_eq_false (hbreak hin)]
            exact ret1 rfl (.tmp rfl .nil) (.plain rfl rfl) ⟨rfl, rfl⟩
          · repeat' (first | (refine gU ?_; first | (refine gMove ?_; refine st (ok_move rfl) rfl rfl ?_) | (refine gAssign ?_; refine st (ok_assign rfl) rfl rfl ?_) | (refine gLoad ?_; refine st (ok_loadA rfl (by first | rfl | exact hc1)) rfl rfl ?_) | (refine gBin ?_; refine st (ok_bin rfl rfl rfl) rfl rfl ?_) | (refine gExtract ?_; refine st (ok_extract rfl rfl) rfl rfl ?_) | (refine gIA ?_; refine st (ok_idxSN rfl rfl (by omega)) rfl rfl ?_) | (refine gCall ?_; refine st (ok_call rfl rfl rfl (by exact hsk)) rfl rfl ?_) | (refine gAlloc ?_; refine st (ok_alloc rfl) rfl rfl ?_) | (refine gStore ?_; refine stN (ok_store rfl rfl rfl rfl (by rfl)) rfl ?_)) | (refine gG ?_; first | (refine gMove ?_; refine stGA rfl (ok_move rfl) rfl rfl ?_) | (refine gLoad ?_; refine stGA rfl (ok_loadA rfl (by rfl)) rfl rfl ?_)) | refine W_seq ?_ | refine W_region ?_ | refine st_nil ?_ | refine tq_n ?_ | refine W_skip ?_ | refine W_block ?_ | refine W_condTA rfl ?_)
            refine st_yieldG (l := 10) rfl rfl (by rw [hL]; rfl) rfl rfl rfl (fun _ _ _ _ he => wanted_rel (b := true) rfl he) ?_
            repeat' (first | (refine gU ?_; first | (refine gAlloc ?_; refine st (ok_alloc rfl) rfl rfl ?_) | (refine gStore ?_; refine stN (ok_store rfl rfl rfl rfl (by rfl)) rfl ?_)) | refine W_region ?_ | refine st_nil ?_)
            refine roundA_n (by rw [hL]; rfl) ?_
            repeat' (first | (refine gU ?_; first | (refine gLoad ?_; refine st (ok_loadA rfl (by rfl)) rfl rfl ?_) | (refine gCall ?_; refine st (ok_call rfl rfl rfl (by exact has_ev hok (by rfl))) rfl rfl ?_)) | refine W_seq ?_ | refine W_region ?_ | refine st_nil ?_ | refine tq_n ?_ | refine bq_n ?_ | refine W_skip ?_ | refine W_block ?_ | refine W_condFA rfl ?_)
            refine roundB_n rfl rfl ?_
            repeat' (first | (refine gU ?_; first | (refine gMove ?_; refine st (ok_move rfl) rfl rfl ?_) | (refine gAdd ?_; refine st (ok_inc rfl rfl (by omega)) rfl rfl ?_) | (refine gPick ?_; refine st (ok_pickTA rfl rfl) rfl rfl ?_)) | (refine gG ?_; (refine gNot ?_; refine stGA rfl (ok_not' rfl) rfl rfl ?_)) | refine W_region ?_ | refine st_nil ?_ | refine tq_n ?_ | refine bq_n ?_ | refine W_skip ?_ | refine W_condFA rfl ?_)
            refine ⟨rfl, k + 1, ⟨by omega, hnext fun _ => hin⟩, by omega, ?_⟩
            rw [hL]
            exact StRef.drop [.ro (benchC goal (.slice (some ⟨1, 0, none⟩) l.length c) (.slice (some ⟨2, 0, none⟩) (lastN l goal + 1) (lastN l goal + 1))), .ro (stonesC l), .ro (rowsC l goal (lastN l goal + 1)), .rw (rowC f), .rw (rowC g), .rw [.bool true], .rw e.cells, .rw [.pointer (some ⟨0, 0, none⟩)], .rw e.cells, .dfr, _] [_, _, _] (by simp) (hc_lv2 l goal e c f g _ (by have := hLc; rw [hL] at this; exact this)) (by (repeat' (first | exact trivial | exact ⟨rfl, rfl, rfl⟩ | exact ⟨rfl, closed_slice rfl, rfl⟩ | refine ⟨?_, ?_⟩)))
        · rw [if_pos (by omega)] at hsk
          repeat' (first | (refine gU ?_; first | (refine gMove ?_; refine st (ok_move rfl) rfl rfl ?_) | (refine gAssign ?_; refine st (ok_assign rfl) rfl rfl ?_) | (refine gLoad ?_; refine st (ok_loadA rfl (by first | rfl | exact hc1)) rfl rfl ?_) | (refine gAdd ?_; refine st (ok_inc rfl rfl (by omega)) rfl rfl ?_) | (refine gBin ?_; refine st (ok_bin rfl rfl rfl) rfl rfl ?_) | (refine gPick ?_; refine st (ok_pickFA rfl rfl) rfl rfl ?_) | (refine gExtract ?_; refine st (ok_extract rfl rfl) rfl rfl ?_) | (refine gIA ?_; refine st (ok_idxSN rfl rfl (by omega)) rfl rfl ?_) | (refine gCall ?_; refine st (ok_call rfl rfl rfl (by exact hsk)) rfl rfl ?_) | (refine gAlloc ?_; refine st (ok_alloc rfl) rfl rfl ?_) | (refine gStore ?_; refine stN (ok_store rfl rfl rfl rfl (by rfl)) rfl ?_)) | (refine gG ?_; refine stSA rfl rfl ?_) | refine W_seq ?_ | refine W_region ?_ | refine st_nil ?_ | refine tq_n ?_ | refine bq_n ?_ | refine W_skip ?_ | refine W_block ?_ | refine W_condTA rfl ?_ | refine W_condFA rfl ?_)
          exact ⟨rfl, k + 1, ⟨by omega, hnext fun h => absurd h hcn⟩, by omega, StRef.drop [.ro (benchC goal (.slice (some ⟨1, 0, none⟩) l.length c) (.slice (some ⟨2, 0, none⟩) (lastN l goal + 1) (lastN l goal + 1))), .ro (stonesC l), .ro (rowsC l goal (lastN l goal + 1)), .rw (rowC f), .rw (rowC g), .rw [.bool true], .rw e.cells, .rw [.pointer (some ⟨0, 0, none⟩)], .rw e.cells, .dfr, L] [_, _] (by simp) (hc_lv2 l goal e c f g L hLc) (by (repeat' (first | exact trivial | exact ⟨rfl, rfl, rfl⟩ | exact ⟨rfl, closed_slice rfl, rfl⟩ | refine ⟨?_, ?_⟩)))⟩
      · obtain rfl : k = l.length := by omega
        repeat' (first | (refine gU ?_; (refine gBin ?_; refine st (ok_bin rfl rfl rfl) rfl rfl ?_)) | refine W_seq ?_ | refine W_region ?_ | refine st_nil ?_ | refine tq_n ?_ | refine tq_e ?_ | refine bq_hit rfl ?_ | refine W_exit ?_ | refine W_condFA rfl ?_)
        refine retN .nil .all ⟨_, _, _, _, _, _, _, by rw [hL]; rfl, by simp, ?_⟩
        dsimp only
        repeat' (first | (refine gU ?_; first | (refine gMove ?_; refine st (ok_move rfl) rfl rfl ?_) | (refine gAdd ?_; refine st (ok_inc rfl rfl (by omega)) rfl rfl ?_)) | refine W_region ?_ | refine st_nil ?_ | refine tq_n ?_ | refine bq_n ?_)
        refine ⟨b + 1, ⟨⟨by omega, fun b' hb' h1 => ?_⟩, by omega⟩, Tail.StRefD.src [.ro (benchC goal (.slice (some ⟨1, 0, none⟩) l.length c) (.slice (some ⟨2, 0, none⟩) (lastN l goal + 1) (lastN l goal + 1))), .ro (stonesC l), .ro (rowsC l goal (lastN l goal + 1)), .rw (rowC f), .rw (rowC g), .rw [.bool true]] [] [] 9 (by simp) rfl (hc_lv l goal c f g) rfl rfl rfl trivial (by (repeat' (first | exact trivial | refine ⟨er_plain rfl rfl, ?_⟩ | refine ⟨er_closed (m := 6) rfl (fun i hi => srcR_lt hi) (by simp) (by rfl) rfl, ?_⟩)))⟩
        by_cases hbb : b' = b
        · subst hbb; exact hno
        · exact hall b' (by omega) h1
  · obtain rfl : b = 7 := by omega
    rw [decide_eq_true (show lvP l f g from hall)]
    repeat' (first | (refine gU ?_; first | (refine gAssign ?_; refine st (ok_assign rfl) rfl rfl ?_) | (refine gLoad ?_; refine st (ok_load rfl (by rfl)) rfl rfl ?_) | (refine gBin ?_; refine st (ok_bin rfl rfl rfl) rfl rfl ?_)) | refine W_seq ?_ | refine W_region ?_ | refine st_nil ?_ | refine tq_n ?_ | refine tq_e ?_ | refine bq_hit rfl ?_ | refine W_exit ?_ | refine W_ret ?_ | refine sq_r ?_ | refine W_condFA rfl ?_)
    exact ret0 (.tmp rfl .nil) (.plain rfl rfl) ⟨rfl, rfl⟩
theorem leaves_ev {σ : Heap} {l : List Sn} {goal : Ed} {p x y c : Nat} {f g : Nat → Int} (hb : BAt σ p x y l goal c) (hf : ∀ b < 7, -1 ≤ f b ∧ f b ≤ 100) (hl : ∀ i < l.length, ¬ badSn (gs l i)) (hN : l.length ≤ 1000000) (hni : σ.all (fun o => !isIter o) = true) :
    Ev Try.prog 66 [.pointer (some ⟨p, 0, none⟩), rowV f, rowV g] σ (.bool (decide (lvP l f g))) σ :=
  hb.ev (leaves_ok l goal c f g hf hl hN) ⟨VQ.ptr (q := true) (n := 3) (ρ := bsR [p, x, y]) 0 0 (by omega), vrel_plain _ rfl, vrel_plain _ rfl, trivial⟩ rfl hni
end Go.Proofs.Ytindbippegiopaa
namespace Go.AH
open Go
section
variable {P : Program} {n0 N : Nat} {K : Env → List Nat → Heap → Prop} {e : Env} {mk : List Nat} {σ : Heap} {all : List Oper} {listed : List Bool} {fuel : Nat}
theorem wa_pureA (i : Nat) {d : Nat} {op : Op} {ty : TypeId} {pos : String} {after : Array Edge} {v : Value} (hi : all[i]? = some ⟨some d, op, ty, pos, after, none⟩) (hd : Nat.blt d N = true)
    (h : WAny P n0 N all fuel (listed.set i true) K ((d, v) :: e) mk σ) (hr : pureAt all listed i = true := by decide +kernel)
    (hp : PuOk P op ty e v := by first | exact pu_move rfl | exact pu_assign rfl | exact pu_inc rfl rfl (by omega) | exact pu_add rfl rfl (by omega) (by omega) | exact pu_extract rfl rfl | exact pu_sliceH rfl rfl (by omega) | exact pu_sliceL rfl rfl (by omega) (by omega) | exact pu_bin rfl rfl rfl) : WAny P n0 N all (fuel + 1) listed K e mk σ := wa_pure i hr hi hp hd h
theorem wa_oneA (i : Nat) {o : Oper} (hi : all[i]? = some o) (h : WOps P n0 N none all [o] (fun e' mk' σ' => WAny P n0 N all fuel (listed.set i true) K e' mk' σ') e mk σ) (hr : oneAt all listed i = true := by decide +kernel) : WAny P n0 N all (fuel + 1) listed K e mk σ := wa_one i hr hi h
theorem wa_doneA (h : K e mk σ) (hr : noneAt all listed = true := by decide +kernel) : WAny P n0 N all fuel listed K e mk σ := wa_done hr h
end
section
variable {P : Program} {N : Nat} {rd : Option Nat} {e : Env} {σ0 : Heap} {news : List (Nat × Heap)} {K : Env → List (Nat × Heap) → List Oper → Prop} {k : Nat} {all rest : List Oper} {d : Nat} {op : Op} {ty : TypeId} {pos : String} {after : Array Edge} {v : Value}
end
structure Stop (p : Prop) : Prop where
  out : p
section
variable {P : Program} {n0 N : Nat} {rd : Option Nat} {Q : Post} {e : Env} {mk : List Nat} {σ : Heap}
theorem W_cut {c : Code} (e2 : Env) (σ2 : Heap) (hs : σ = σ2) (he : EnvSub e e2) (h : WCode P n0 N rd c Q e2 mk σ2) : WCode P n0 N rd c Q e mk σ := by
  subst hs
  intro G w0 ρ0 A w hi
  obtain ⟨h0, ρ, ha, hs, hr⟩ := hi
  exact h G w0 ρ0 A w ⟨h0, ρ, ha, hs, ⟨hr.tmps.1, fun t v hv => hr.tmps.2 t v (envSub_mem he _ (env_mem hv))⟩, hr.mks, hr.mkb⟩
end
end Go.AH
namespace Go.AH.Hone
open Go Go.AH
def zs (l : List Nat) : List Int := l.map Int.ofNat
theorem zs_len (l : List Nat) : (zs l).length = l.length := by simp [zs]
theorem zs_app (l : List Nat) (i : Nat) : zs (l ++ [i]) = zs l ++ [(i : Int)] := by simp [zs]
end Go.AH.Hone
namespace Go.Proofs.Ytindbippegiopaa
open Go Go.AH
attribute [local irreducible] WOps WCode WFree retQ thenQ blockQ scopeQ OpOk ACall RetRef roundA roundB
set_option maxRecDepth 100000
set_option maxHeartbeats 1000000
open Go.AH.Hone
def bestE (l : List Sn) (e goal : Ed) : Int := if askE l e goal ≠ 0 then askE l e goal else if needsV l goal e < 0 then 13 else 0
def bestL (l : List Sn) (e goal : Ed) : List Int := if bestE l e goal ≠ 0 then [] else zs (bestS l goal (needsV l goal e).toNat e)
theorem hc_st (l : List Sn) : HClosed 1 [AObj.ro (stonesC l)] := ⟨plainL_closed (stonesC_plain l), trivial⟩
theorem hc_best (l : List Sn) (goal x : Ed) (c n : Nat) (own : List Nat) : HClosed 9 [.ro (stonesC l), .rw x.cells, .rw goal.cells, .rw (benchC goal (.slice (some ⟨0, 0, none⟩) l.length c) (.slice (some ⟨4, 0, none⟩) (lastN l goal + 1) (lastN l goal + 1))), .rw (rowsC l goal (lastN l goal + 1)), .rw [.pointer (some ⟨3, 0, none⟩)], .rw [.int .i64 ((n : Nat) : Int)], .rw [slvV 8 1 own.length], .gr (ints (zs own)) 3] := by
  have h := slice_closed (n := 9) (i := 0) (l := l.length) (c := c) (by omega)
  have h' := slice_closed (n := 9) (i := 4) (l := lastN l goal + 1) (c := lastN l goal + 1) (by omega)
  exact ⟨plainL_closed (stonesC_plain l), plainL_closed rfl, plainL_closed rfl, ⟨by simp [benchC, closedL, closed, h.1, h'.1], by simp [benchC, okL, okV, h.2, h'.2]⟩, plainL_closed (rowsC_plain _ _ _), ⟨rfl, rfl⟩, plainL_closed rfl, ⟨by simp [closedL, closed_slvV], by simp [okL, okV_slv]⟩, plainL_closed (ints_plain _), trivial⟩
theorem hc_best2 (l : List Sn) (goal x : Ed) (c n : Nat) (own : List Nat) (L : AObj) (hL : oclosed 13 L) : HClosed 13 [.ro (stonesC l), .rw x.cells, .rw goal.cells, .rw (benchC goal (.slice (some ⟨0, 0, none⟩) l.length c) (.slice (some ⟨4, 0, none⟩) (lastN l goal + 1) (lastN l goal + 1))), .rw (rowsC l goal (lastN l goal + 1)), .rw [.pointer (some ⟨3, 0, none⟩)], .rw [.int .i64 ((n : Nat) : Int)], .rw [slvV 8 1 own.length], .gr (ints (zs own)) 3, .rw [.pointer (some ⟨3, 0, none⟩)], .rw x.cells, .dfr, L] := by
  have h := slice_closed (n := 13) (i := 0) (l := l.length) (c := c) (by omega)
  have h' := slice_closed (n := 13) (i := 4) (l := lastN l goal + 1) (c := lastN l goal + 1) (by omega)
  exact ⟨plainL_closed (stonesC_plain l), plainL_closed rfl, plainL_closed rfl, ⟨by simp [benchC, closedL, closed, h.1, h'.1], by simp [benchC, okL, okV, h.2, h'.2]⟩, plainL_closed (rowsC_plain _ _ _), ⟨rfl, rfl⟩, plainL_closed rfl, ⟨by simp [closedL, closed_slvV], by simp [okL, okV_slv]⟩, plainL_closed (ints_plain _), ⟨rfl, rfl⟩, plainL_closed rfl, trivial, hL, trivial⟩
theorem best_subs {σ : Heap} {m : Nat} {l : List Sn} {goal x : Ed} {c n : Nat} {own : List Nat} {j : Nat} {tl : List Nat} (h1 : σ[1]? = some (.rw x.cells)) (h2 : σ[2]? = some (.rw goal.cells)) (h3 : σ[3]? = some (.rw (benchC goal (.slice (some ⟨0, 0, none⟩) l.length c) (.slice (some ⟨4, 0, none⟩) (lastN l goal + 1) (lastN l goal + 1))))) (h4 : σ[4]? = some (.rw (rowsC l goal (lastN l goal + 1)))) (h5 : σ[5]? = some (.rw [.pointer (some ⟨3, 0, none⟩)]))
    (h6 : σ[6]? = some (.rw [.int .i64 (n : Int)])) (h7 : σ[7]? = some (.rw [slvV j 1 own.length])) (hm : 9 ≤ m) (h8 : OSub σ m (srcR 1 ([1, 2, 3, 4, 5, 6, 7, j] ++ tl)) (srcR 1 ([1, 2, 3, 4, 5, 6, 7, j] ++ tl) 8) (.gr (ints (zs own)) 3)) :
    OSubs σ m (srcR 1 ([1, 2, 3, 4, 5, 6, 7, j] ++ tl)) 1 [.rw x.cells, .rw goal.cells, .rw (benchC goal (.slice (some ⟨0, 0, none⟩) l.length c) (.slice (some ⟨4, 0, none⟩) (lastN l goal + 1) (lastN l goal + 1))), .rw (rowsC l goal (lastN l goal + 1)), .rw [.pointer (some ⟨3, 0, none⟩)], .rw [.int .i64 (n : Int)], .rw [slvV 8 1 own.length], .gr (ints (zs own)) 3] := by
  refine ⟨osub_rwp (j := 1) rfl (.inl h1) rfl, osub_rwp (j := 2) rfl (.inl h2) rfl, osub_benchS (p := 3) (j := 4) (m := 1) rfl h3 (fun i hi => srcR_lt hi) (by omega) (slice_closed (by omega)).1 (slice_closed (n := 1) (by omega)).2 (by omega) rfl, osub_rwp (j := 4) rfl (.inl h4) (rowsC_plain _ _ _), ?_, osub_rwp (j := 6) rfl (.inl h6) rfl, osub_slvC (j := j) rfl h7 (by omega) rfl, h8, trivial⟩
  refine .inr ⟨rfl, _, .inl h5, Nat.le_refl _, fun a ha ha' => ?_⟩
  have : a = 0 := by simpa using ha
  subst this
  exact VQ.ptr (q := true) (n := m) (ρ := srcR 1 ([1, 2, 3, 4, 5, 6, 7, j] ++ tl)) 3 0 (by omega)
theorem best_bad (l : List Sn) (e goal : Ed) (c : Nat) (hN : l.length ≤ 1000000) (h : bestE l e goal ≠ 0) :
    Ev Try.prog 21 [.slice (some ⟨0, 0, none⟩) l.length c, e.val, goal.val] [.ro (stonesC l)] (.tuple #[.slice (some ⟨1, 0, none⟩) 0 0, .int .i64 (bestE l e goal)]) [.ro (stonesC l), .rw []] := by
  unfold bestE at h ⊢
  by_cases ha : askE l e goal = 0
  · rw [if_neg (by omega)] at h ⊢
    have hn : needsV l goal e < 0 := by
      apply Classical.byContradiction; intro hn
      rw [if_neg hn] at h; exact h rfl
    rw [if_pos hn]
    obtain ⟨g1, g2, g3⟩ := askE_zero ha
    obtain ⟨_, _, hl⟩ := boxE_zero g1
    have hopen := open_evOk (σ := [.ro (stonesC l), .rw e.cells, .rw goal.cells]) (l := l) (e := e) (goal := goal) (x := 0) (c := c) (.inl rfl) ha hN rfl
    have hneeds := needs_ev (σ := [.ro (stonesC l), .rw e.cells, .rw goal.cells, .rw (benchC goal (.slice (some ⟨0, 0, none⟩) l.length c) (.slice (some ⟨4, 0, none⟩) (lastN l goal + 1) (lastN l goal + 1))), .rw (rowsC l goal (lastN l goal + 1)), .rw [.pointer (some ⟨3, 0, none⟩)]]) (l := l) (e := e) (goal := goal) (p := 3) (x := 0) (y := 4) (c := c) ⟨.inr (.inl rfl), .inl rfl, .inr (.inl rfl)⟩ g2 g3 hl rfl
    refine acall_intro 1 66 Try.func21 rfl rfl rfl rfl rfl ?_
    repeat' (first | (refine gU ?_; first | (refine gMove ?_; refine st (ok_move rfl) rfl rfl ?_) | (refine gAssign ?_; refine st (ok_assign rfl) rfl rfl ?_) | (refine gLoad ?_; first | refine st (ok_load rfl (by rfl)) rfl rfl ?_ | refine st (ok_loadA rfl (by rfl)) rfl rfl ?_) | (refine gBin ?_; refine st (ok_bin rfl rfl rfl) rfl rfl ?_) | (refine gExtract ?_; refine st (ok_extract rfl rfl) rfl rfl ?_) | (refine gCall ?_; refine st (ok_call rfl rfl rfl (by first | exact hopen | exact hneeds)) rfl rfl ?_) | (refine gBox ?_; refine st (ok_box rfl) rfl rfl ?_) | (refine gAlloc ?_; refine st (ok_alloc rfl) rfl rfl ?_) | (refine gStore ?_; refine stN (ok_store rfl rfl rfl rfl (by rfl)) rfl ?_)) | refine W_seq ?_ | refine W_region ?_ | refine st_nil ?_ | refine tq_n ?_ | refine tq_r ?_ | refine W_skip ?_ | refine W_ret ?_ | refine W_condTA rfl ?_ | refine W_condFA rfl ?_)
    exact ret0 (.tmp rfl (.tmp rfl .nil)) (retNil rfl rfl) ⟨rfl, rfl⟩
  · rw [if_pos ha]
    have hopen := open_evBad (σ := [.ro (stonesC l), .rw e.cells, .rw goal.cells]) (l := l) (e := e) (goal := goal) (x := 0) (c := c) (.inl rfl) ha hN rfl
    refine acall_intro 1 66 Try.func21 rfl rfl rfl rfl rfl ?_
    repeat' (first | (refine gU ?_; first | (refine gMove ?_; refine st (ok_move rfl) rfl rfl ?_) | (refine gAssign ?_; refine st (ok_assign rfl) rfl rfl ?_) | (refine gLoad ?_; refine st (ok_loadA rfl (by rfl)) rfl rfl ?_) | (refine gBin ?_; refine st (ok_bin rfl rfl rfl) rfl rfl ?_) | (refine gExtract ?_; refine st (ok_extract rfl rfl) rfl rfl ?_) | (refine gCall ?_; refine st (ok_call rfl rfl rfl (by exact hopen)) rfl rfl ?_) | (refine gBox ?_; refine st (ok_box rfl) rfl rfl ?_) | (refine gAlloc ?_; refine st (ok_alloc rfl) rfl rfl ?_) | (refine gStore ?_; refine stN (ok_store rfl rfl rfl rfl (by rfl)) rfl ?_)) | refine W_seq ?_ | refine W_region ?_ | refine st_nil ?_ | refine tq_n ?_ | refine tq_r ?_ | refine W_ret ?_ | refine W_condTA rfl ?_)
    exact ret0 (.tmp rfl (.tmp rfl .nil)) (retNil rfl rfl) ⟨rfl, rfl⟩
theorem best_run (l : List Sn) (e goal : Ed) (c N : Nat) (hL : l.length ≤ 1000000) (ha : askE l e goal = 0) (hN : needsV l goal e = (N : Int)) :
    Ev Try.prog 21 [.slice (some ⟨0, 0, none⟩) l.length c, e.val, goal.val] [.ro (stonesC l)] (.tuple #[.slice (some ⟨1, 0, none⟩) N N, .int .i64 0]) [.ro (stonesC l), .rw (ints (zs (bestS l goal N e)))] := by
  obtain ⟨g1, g2, g3⟩ := askE_zero ha
  obtain ⟨_, _, hl⟩ := boxE_zero g1
  have hN707 := needs_le (l := l) (goal := goal) (e := e) g3
  have hlast := (lastN_is (l := l) g3).2.1
  have hopen := open_evOk (σ := [.ro (stonesC l), .rw e.cells, .rw goal.cells]) (l := l) (e := e) (goal := goal) (x := 0) (c := c) (.inl rfl) ha hL rfl
  have hneeds := needs_ev (σ := [.ro (stonesC l), .rw e.cells, .rw goal.cells, .rw (benchC goal (.slice (some ⟨0, 0, none⟩) l.length c) (.slice (some ⟨4, 0, none⟩) (lastN l goal + 1) (lastN l goal + 1))), .rw (rowsC l goal (lastN l goal + 1)), .rw [.pointer (some ⟨3, 0, none⟩)]]) (l := l) (e := e) (goal := goal) (p := 3) (x := 0) (y := 4) (c := c) ⟨.inr (.inl rfl), .inl rfl, .inr (.inl rfl)⟩ g2 g3 hl rfl
  rw [hN] at hneeds
  refine acall_intro 1 66 Try.func21 rfl rfl rfl rfl rfl ?_
  repeat' (first | (refine gU ?_; first | (refine gMove ?_; refine st (ok_move rfl) rfl rfl ?_) | (refine gAssign ?_; refine st (ok_assign rfl) rfl rfl ?_) | (refine gLoad ?_; first | refine st (ok_load rfl (by rfl)) rfl rfl ?_ | refine st (ok_loadA rfl (by rfl)) rfl rfl ?_) | (refine gBin ?_; refine st (ok_bin rfl rfl rfl) rfl rfl ?_) | (refine gExtract ?_; refine st (ok_extract rfl rfl) rfl rfl ?_) | (refine gCall ?_; refine st (ok_call rfl rfl rfl (by first | exact hopen | exact hneeds)) rfl rfl ?_) | (refine gBox ?_; refine st (ok_box rfl) rfl rfl ?_) | (refine gAlloc ?_; refine st (ok_alloc rfl) rfl rfl ?_) | (refine gStore ?_; refine stN (ok_store rfl rfl rfl rfl (by rfl)) rfl ?_)) | refine W_seq ?_ | refine W_region ?_ | refine st_nil ?_ | refine tq_n ?_ | refine W_skip ?_ | refine W_block ?_ | refine W_condFA rfl ?_)
  refine Tail.W_loopD (ι := Nat × Ed × List Nat) (fun q => [(4, .pointer (some ⟨1, 0, none⟩)), (5, .pointer (some ⟨2, 0, none⟩)), (8, .pointer (some ⟨5, 0, none⟩)), (10, .pointer (some ⟨6, 0, none⟩)), (11, .pointer (some ⟨7, 0, none⟩))])
    (fun q => [.ro (stonesC l), .rw q.2.1.cells, .rw goal.cells, .rw (benchC goal (.slice (some ⟨0, 0, none⟩) l.length c) (.slice (some ⟨4, 0, none⟩) (lastN l goal + 1) (lastN l goal + 1))), .rw (rowsC l goal (lastN l goal + 1)), .rw [.pointer (some ⟨3, 0, none⟩)], .rw [.int .i64 (q.1 : Int)], .rw [slvV 8 1 q.2.2.length], .gr (ints (zs q.2.2)) 3]) (fun q => q.1) (fun q => ¬ badEd q.2.1 ∧ needsV l goal q.2.1 = (q.1 : Int) ∧ q.2.2 ++ bestS l goal q.1 q.2.1 = bestS l goal N e) (N, e, []) rfl (by (repeat' (first | exact Tail.tail_ret rfl | refine Tail.tail_then ?_ ?_ | refine Tail.tail_block ?_ | refine Tail.W_tail rfl ?_))) (fun _ => by simp) (fun q _ => hc_best l goal q.2.1 c q.1 q.2.2)
    (.of (StRef.src [.ro (stonesC l)] [.rw e.cells, .rw goal.cells, .rw (benchC goal (.slice (some ⟨0, 0, none⟩) l.length c) (.slice (some ⟨4, 0, none⟩) (lastN l goal + 1) (lastN l goal + 1))), .rw (rowsC l goal (lastN l goal + 1)), .rw [.pointer (some ⟨3, 0, none⟩)], .rw [.int .i64 (N : Int)], .rw [slvV 8 1 0], .gr [] 3] [1, 2, 3, 4, 5, 6, 7, 8] (by simp) rfl (hc_st l) rfl rfl (best_subs (own := []) (j := 8) (tl := []) rfl rfl rfl rfl rfl rfl rfl (by simp) osub_gr0) (by (repeat' (first | exact trivial | refine ⟨er_ptr rfl (by simp) rfl, ?_⟩)))) (by simp)) ⟨g2, hN, rfl⟩ ?_
  rintro ⟨n, x, own⟩ ⟨hx, hnx, hown⟩
  dsimp only at hx hnx hown ⊢
  clear hopen hneeds
  have hlen : (ints (zs own)).length = own.length * 1 := by simp [ints, zs]
  have hol : own.length + n = N := by
    have := congrArg List.length hown
    rw [List.length_append, bestS_len, bestS_len] at this
    exact this
  cases n with
  | zero =>
    have hown' : own = bestS l goal N e := by simpa [bestS] using hown
    have hcs : cellsAt [.ro (stonesC l), .rw x.cells, .rw goal.cells, .rw (benchC goal (.slice (some ⟨0, 0, none⟩) l.length c) (.slice (some ⟨4, 0, none⟩) (lastN l goal + 1) (lastN l goal + 1))), .rw (rowsC l goal (lastN l goal + 1)), .rw [.pointer (some ⟨3, 0, none⟩)], .rw [.int .i64 ((0 : Nat) : Int)], .rw [slvV 8 1 own.length], .gr (ints (zs own)) 3, .rw (zcells (vcells (Value.int .i64 0)) own.length)] 8 0 (own.length * 1) = some (ints (zs own)) := by
      rw [← hlen]; exact cellsAt_arr (.inr (.inr ⟨_, rfl⟩))
    have hone := ints_cell1 (zs own)
    have hoN : own.length = N := by omega
    rw [← hown', ← hoN]
    by_cases h0 : own.length = 0
    · obtain rfl : own = [] := List.eq_nil_of_length_eq_zero h0
      repeat' (first | (refine gU ?_; first | (refine gMove ?_; refine st (ok_move rfl) rfl rfl ?_) | (refine gAssign ?_; refine st (ok_assign rfl) rfl rfl ?_) | (refine gLoad ?_; refine st (ok_load rfl (by rfl)) rfl rfl ?_) | (refine gBin ?_; refine st (ok_bin rfl rfl rfl) rfl rfl ?_) | (refine gLen ?_; refine st (ok_len rfl) rfl rfl ?_) | (refine gMakeS ?_; refine st (ok_makeS (by rfl) (by rfl) rfl rfl (by omega) (by omega) (by omega)) rfl rfl ?_) | (refine gCopy ?_; refine st (ok_copy0 rfl rfl rfl) rfl rfl ?_)) | refine W_seq ?_ | refine W_region ?_ | refine st_nil ?_ | refine tq_n ?_ | refine tq_e ?_ | refine bq_hit rfl ?_ | refine W_exit ?_ | refine W_ret ?_ | refine W_condFA rfl ?_)
      exact ret0 (.tmp rfl (.tmp rfl .nil)) (retSl' (j := 9) (cs := []) rfl rfl (.inl rfl) rfl rfl (Nat.le_refl _)) ⟨rfl, rfl⟩
    · have hput := putRw (σ := [.ro (stonesC l), .rw x.cells, .rw goal.cells, .rw (benchC goal (.slice (some ⟨0, 0, none⟩) l.length c) (.slice (some ⟨4, 0, none⟩) (lastN l goal + 1) (lastN l goal + 1))), .rw (rowsC l goal (lastN l goal + 1)), .rw [.pointer (some ⟨3, 0, none⟩)], .rw [.int .i64 ((0 : Nat) : Int)], .rw [slvV 8 1 own.length], .gr (ints (zs own)) 3, .rw (zcells (vcells (Value.int .i64 0)) own.length)]) (b := 9) (o := 0) (cs' := ints (zs own)) (vs := ints (zs own)) rfl (by rw [zc_ints]; simp [ints, zs]) (by rw [zc_ints]; simp [ints]; omega) (by
        rw [zc_ints]; simp [splice, ints, zs])
      repeat' (first | (refine gU ?_; first | (refine gMove ?_; refine st (ok_move rfl) rfl rfl ?_) | (refine gAssign ?_; refine st (ok_assign rfl) rfl rfl ?_) | (refine gLoad ?_; refine st (ok_load rfl (by rfl)) rfl rfl ?_) | (refine gBin ?_; refine st (ok_bin rfl rfl rfl) rfl rfl ?_) | (refine gLen ?_; refine st (ok_lenV rfl) rfl rfl ?_) | (refine gMakeS ?_; refine st (ok_makeS (by rfl) (by rfl) rfl rfl (by omega) (by omega) (by omega)) rfl rfl ?_) | (refine gCopy ?_; refine st (ok_copyV rfl rfl (by omega) (by exact hcs) (by exact hone) (by assumption)) rfl rfl ?_)) | refine W_seq ?_ | refine W_region ?_ | refine st_nil ?_ | refine tq_n ?_ | refine tq_e ?_ | refine bq_hit rfl ?_ | refine W_exit ?_ | refine W_ret ?_ | refine W_condFA rfl ?_)
      exact ret0 (.tmp rfl (.tmp rfl .nil)) (retSl' (j := 9) rfl (ints_plain _) (.inl rfl) rfl rfl (Nat.le_refl _)) ⟨rfl, rfl⟩
  | succ n =>
    obtain ⟨i0, hi0, hp1, hp2, hp3, hp4⟩ := best_pick hl g3 hx (n := n) (by simpa using hnx)
    have hb : bestS l goal (n + 1) x = i0 :: bestS l goal n (aft (gs l i0) x) := by simp only [bestS, hp1, Int.toNat_natCast]
    rw [hb] at hown
    have hin := (needs_first hl g3 hx (by simpa using hnx) hi0 hp2).2 hp3
    have hnot : ∀ j < i0, can (gs l j) x → ¬ inR (rowN l goal n) (aft (gs l j) x) := fun j hj hc hi => hp4 j hj hc ((needs_first hl g3 hx (by simpa using hnx) (by omega) hc).1 hi)
    have hnl : n < lastN l goal + 1 := by
      have := needsV_iff hl g3 hx (lastN l goal)
      have hr := needsK_is (l := l) (goal := goal) (e := x) (lastN l goal + 1)
      unfold needsV at hnx
      rcases hr with ⟨h, _⟩ | ⟨m, hm, h, _⟩ <;> omega
    have hst := strokes_ev (σ := [.ro (stonesC l), .rw x.cells, .rw goal.cells, .rw (benchC goal (.slice (some ⟨0, 0, none⟩) l.length c) (.slice (some ⟨4, 0, none⟩) (lastN l goal + 1) (lastN l goal + 1))), .rw (rowsC l goal (lastN l goal + 1)), .rw [.pointer (some ⟨3, 0, none⟩)], .rw [.int .i64 ((n + 1 : Nat) : Int)], .rw [slvV 8 1 own.length], .gr (ints (zs own)) 3]) (l := l) (goal := goal) (e := x) (p := 3) (x := 0) (y := 4) (c := c) ⟨.inr (.inl rfl), .inl rfl, .inr (.inl rfl)⟩ rfl
    have hn0 : ((n + 1 : Nat) : Int) > 0 := by omega
    repeat' (first | (refine gU ?_; first | (refine gLoad ?_; first | refine st (ok_load rfl (by rfl)) rfl rfl ?_ | refine st (ok_loadA rfl (by rfl)) rfl rfl ?_) | (refine gBin ?_; refine st (ok_bin rfl rfl rfl) rfl rfl ?_) | (refine gCall ?_; refine st (ok_call rfl rfl rfl (by exact hst)) rfl rfl ?_)) | refine W_seq ?_ | refine W_region ?_ | refine st_nil ?_ | refine tq_n ?_ | refine W_skip ?_ | refine W_block ?_ | refine W_condTA rfl ?_)
    refine W_st (by simp) (.same (e2 := [(4, .pointer (some ⟨1, 0, none⟩)), (5, .pointer (some ⟨2, 0, none⟩)), (8, .pointer (some ⟨5, 0, none⟩)), (10, .pointer (some ⟨6, 0, none⟩)), (11, .pointer (some ⟨7, 0, none⟩)), (36, .func (.func 78) #[] #[.pointer (some ⟨9, 0, none⟩), .pointer (some ⟨10, 0, none⟩)])]) ⟨rfl, rfl, rfl, rfl, rfl, rfl, trivial⟩) ?_
    refine W_rangeFuncL (p := []) (q := [.pointer (some ⟨9, 0, none⟩), .pointer (some ⟨10, 0, none⟩)]) rfl fun L hL => ?_
    have hLc : oclosed 13 L := by
      rw [hL]
      exact env_closed fun p hp => by
        simp only [List.mem_cons, List.not_mem_nil, or_false] at hp
        rcases hp with rfl | rfl | rfl | rfl | rfl | rfl <;> exact ⟨rfl, rfl⟩
    refine acall_intro 13 33 Try.func78 rfl rfl rfl rfl rfl ?_
    repeat' (first | (refine gU ?_; first | (refine gMove ?_; refine st (ok_move rfl) rfl rfl ?_) | (refine gFA ?_; refine st (ok_fieldAddr rfl) rfl rfl ?_) | (refine gLoad ?_; refine st (ok_load rfl (by rfl)) rfl rfl ?_) | (refine gLen ?_; refine st (ok_len rfl) rfl rfl ?_) | (refine gNil ?_; refine st (ok_nilP rfl) rfl rfl ?_)) | refine W_seq ?_ | refine W_region ?_ | refine st_nil ?_ | refine tq_n ?_ | refine W_block ?_)
    refine W_loopS (ι := Nat) (fun k => [(0, .func (.yield 12) #[] #[]), (1, .pointer (some ⟨9, 0, none⟩)), (2, .pointer (some ⟨10, 0, none⟩)), (11, .slice (some ⟨0, 0, none⟩) l.length c), (12, .int .i64 (l.length : Int)), (13, .int .i64 (k : Int))])
      (fun _ => [.ro (stonesC l), .rw x.cells, .rw goal.cells, .rw (benchC goal (.slice (some ⟨0, 0, none⟩) l.length c) (.slice (some ⟨4, 0, none⟩) (lastN l goal + 1) (lastN l goal + 1))), .rw (rowsC l goal (lastN l goal + 1)), .rw [.pointer (some ⟨3, 0, none⟩)], .rw [.int .i64 ((n + 1 : Nat) : Int)], .rw [slvV 8 1 own.length], .gr (ints (zs own)) 3, .rw [.pointer (some ⟨3, 0, none⟩)], .rw x.cells, .dfr, L]) (fun k => l.length - k)
      (fun k => k ≤ i0) 0 (by simp) (.same ⟨rfl, rfl, rfl, rfl, rfl, rfl, trivial⟩) (by omega) ?_
    rintro k hk
    clear hst
    have hkl : k < l.length := by omega
    have hc1 := stone_cells (σ := [.ro (stonesC l), .rw x.cells, .rw goal.cells, .rw (benchC goal (.slice (some ⟨0, 0, none⟩) l.length c) (.slice (some ⟨4, 0, none⟩) (lastN l goal + 1) (lastN l goal + 1))), .rw (rowsC l goal (lastN l goal + 1)), .rw [.pointer (some ⟨3, 0, none⟩)], .rw [.int .i64 ((n + 1 : Nat) : Int)], .rw [slvV 8 1 own.length], .gr (ints (zs own)) 3, .rw [.pointer (some ⟨3, 0, none⟩)], .rw x.cells, .dfr, L]) (x := 0) (l := l) (i := k) (.inl rfl) hkl
    have hsk := stroke_ev (σ := [.ro (stonesC l), .rw x.cells, .rw goal.cells, .rw (benchC goal (.slice (some ⟨0, 0, none⟩) l.length c) (.slice (some ⟨4, 0, none⟩) (lastN l goal + 1) (lastN l goal + 1))), .rw (rowsC l goal (lastN l goal + 1)), .rw [.pointer (some ⟨3, 0, none⟩)], .rw [.int .i64 ((n + 1 : Nat) : Int)], .rw [slvV 8 1 own.length], .gr (ints (zs own)) 3, .rw [.pointer (some ⟨3, 0, none⟩)], .rw x.cells, .dfr, L, .rw (gs l k).cells]) (hl k hkl) hx (by rw [hL]; rfl)
    have hok := aft_ok (hl k hkl) hx
    have hrow := fun σ' : Heap => row_cells (σ := .ro (stonesC l) :: .rw x.cells :: .rw goal.cells :: .rw (benchC goal (.slice (some ⟨0, 0, none⟩) l.length c) (.slice (some ⟨4, 0, none⟩) (lastN l goal + 1) (lastN l goal + 1))) :: .rw (rowsC l goal (lastN l goal + 1)) :: σ') (l := l) (goal := goal) (y := 4) (n := lastN l goal + 1) (i := n) (.inr (.inl rfl)) hnl
    have hnn : (((n + 1 : Nat) : Int) - 1).toNat = n := by omega
    have hc2 : ∀ σ' : Heap, cellsAt (.ro (stonesC l) :: .rw x.cells :: .rw goal.cells :: .rw (benchC goal (.slice (some ⟨0, 0, none⟩) l.length c) (.slice (some ⟨4, 0, none⟩) (lastN l goal + 1) (lastN l goal + 1))) :: .rw (rowsC l goal (lastN l goal + 1)) :: σ') 4 (0 + (((n + 1 : Nat) : Int) - 1).toNat * 7) 7 = some (rowC (rowN l goal n)) := fun σ' => by rw [hnn]; exact hrow σ'
    unfold strokeV at hsk
    by_cases hki : k = i0
    · subst hki
      generalize gs l k = s at *
      have hcn : s.b + x.b ≤ 6 := by have : x.b + s.b ≤ 6 := hp2; omega
      rw [if_neg (by omega)] at hsk
      replace hok := hok hp2
      repeat' (first | (refine gU ?_; first | (refine gMove ?_; refine st (ok_move rfl) rfl rfl ?_) | (refine gAssign ?_; refine st (ok_assign rfl) rfl rfl ?_) | (refine gLoad ?_; refine st (ok_loadA rfl (by first | rfl | exact hc1)) rfl rfl ?_) | (refine gBin ?_; refine st (ok_bin rfl rfl rfl) rfl rfl ?_) | (refine gExtract ?_; refine st (ok_extract rfl rfl) rfl rfl ?_) | (refine gIA ?_; refine st (ok_idxSN rfl rfl (by omega)) rfl rfl ?_) | (refine gCall ?_; refine st (ok_call rfl rfl rfl (by exact hsk)) rfl rfl ?_) | (refine gAlloc ?_; refine st (ok_alloc rfl) rfl rfl ?_) | (refine gStore ?_; refine stN (ok_store rfl rfl rfl rfl (by rfl)) rfl ?_)) | (refine gG ?_; first | (refine gMove ?_; refine stGA rfl (ok_move rfl) rfl rfl ?_) | (refine gLoad ?_; refine stGA rfl (ok_loadA rfl (by rfl)) rfl rfl ?_)) | refine W_seq ?_ | refine W_region ?_ | refine st_nil ?_ | refine tq_n ?_ | refine W_skip ?_ | refine W_block ?_ | refine W_condTA rfl ?_)
      refine st_yieldG (l := 12) rfl rfl (by rw [hL]; rfl) rfl rfl rfl (fun _ _ _ _ he => wanted_rel (b := true) rfl he) ?_
      repeat' (first | (refine gU ?_; first | (refine gAssign ?_; refine st (ok_assign rfl) rfl rfl ?_) | (refine gAlloc ?_; refine st (ok_alloc rfl) rfl rfl ?_) | (refine gStore ?_; refine stN (ok_store rfl rfl rfl rfl (by rfl)) rfl ?_)) | refine W_seq ?_ | refine W_region ?_ | refine st_nil ?_ | refine tq_n ?_)
      refine roundA_n (by rw [hL]; rfl) ?_
      repeat' (first | (refine gU ?_; first | (refine gMove ?_; refine st (ok_move rfl) rfl rfl ?_) | (refine gLoad ?_; first | refine st (ok_load rfl (by rfl)) rfl rfl ?_ | refine st (ok_loadA rfl (by rfl)) rfl rfl ?_) | (refine gLen ?_; refine st (ok_lenV rfl) rfl rfl ?_) | (refine gSlice ?_; refine st (ok_slice3V rfl rfl rfl) rfl rfl ?_) | (refine gBuildS ?_; refine st (ok_buildS (by rfl) (by rfl) (by rfl) (by rfl) rfl (by rfl)) rfl rfl ?_) | (refine gApp ?_; refine st (ok_appendV (by rfl) (by rfl) rfl (by rfl) (by exact hlen) rfl (by rfl) (by omega) (by rfl) (by omega) (by omega)) rfl rfl ?_) | (refine gStore ?_; refine stN (ok_store rfl rfl rfl rfl (by rfl)) rfl ?_)) | (refine fU ?_; first | (refine fFA ?_; refine frA (ok_fieldAddr rfl) rfl ?_) | (refine fLoad ?_; first | refine frA (ok_load rfl (by rfl)) rfl ?_ | refine frA (ok_loadA rfl (by first | rfl | exact hc2 _)) rfl ?_) | (refine fSub ?_; refine frA (ok_sub rfl rfl (by omega) (by omega)) rfl ?_) | (refine fNil ?_; refine frA (ok_nilP rfl) rfl ?_) | (refine fIA ?_; refine frA (ok_idx rfl rfl (by omega) (by omega)) rfl ?_) | (refine fCall ?_; refine frA (ok_call rfl rfl rfl (by exact has_ev hok (by rfl))) rfl ?_)) | (refine fr_stop ⟨by kernel_rfl, ?_⟩) | refine W_seq ?_ | refine W_region ?_ | refine W_regionD (by kernel_rfl) rfl ?_ | refine st_nil ?_ | refine tq_n ?_ | refine bq_miss rfl ?_ | refine W_exit ?_ | refine W_block ?_ | refine W_condTA rfl ?_)
      refine roundB_e rfl rfl ?_
      repeat' (first | (refine gU ?_; (refine gPick ?_; refine st (ok_pickTA rfl rfl) rfl rfl ?_)) | (refine gG ?_; (refine gNot ?_; refine stGA rfl (ok_not' rfl) rfl rfl ?_)) | refine st_nil ?_ | refine tq_n ?_ | refine tq_r ?_ | refine bq_r ?_ | refine W_ret ?_ | refine W_condTA rfl ?_)
      refine ret0 .nil .all ⟨_, _, _, _, _, _, _, rfl, by simp, ?_⟩
      dsimp only
      refine W_cut [(4, .pointer (some ⟨1, 0, none⟩)), (5, .pointer (some ⟨2, 0, none⟩)), (8, .pointer (some ⟨5, 0, none⟩)), (10, .pointer (some ⟨6, 0, none⟩)), (11, .pointer (some ⟨7, 0, none⟩))]
        [.ro (stonesC l), .rw (aft s x).cells, .rw goal.cells, .rw (benchC goal (.slice (some ⟨0, 0, none⟩) l.length c) (.slice (some ⟨4, 0, none⟩) (lastN l goal + 1) (lastN l goal + 1))), .rw (rowsC l goal (lastN l goal + 1)), .rw [.pointer (some ⟨3, 0, none⟩)], .rw [.int .i64 ((n + 1 : Nat) : Int)], .rw [slvV 17 1 (own.length + 1)], .dead, .rw [.pointer (some ⟨3, 0, none⟩)], .rw x.cells, .dfr, .dead, .rw s.cells, .rw (aft s x).cells, .rw (aft s x).cells, .rw [.int .i64 (k : Int)], .gr (ints (zs own) ++ [.int .i64 (k : Int)]) 3] (by kernel_rfl) ⟨rfl, rfl, rfl, rfl, rfl, trivial⟩ ?_
      repeat' (first | (refine gU ?_; first | (refine gLoad ?_; refine st (ok_load rfl (by rfl)) rfl rfl ?_) | (refine gSub ?_; refine st (ok_sub rfl rfl (by omega) (by omega)) rfl rfl ?_) | (refine gStore ?_; refine stN (ok_store rfl rfl rfl rfl (by rfl)) rfl ?_)) | refine W_region ?_ | refine st_nil ?_ | refine tq_n ?_ | refine bq_n ?_ | refine bq_hit rfl ?_ | refine W_exit ?_)
      have hol2 : (own ++ [k]).length = own.length + 1 := by simp
      refine ⟨(n, aft s x, own ++ [k]), ⟨⟨hok, hp3, by rw [← hown]; simp⟩, by simp⟩, Tail.StRefD.src [.ro (stonesC l)] [.rw (aft s x).cells, .rw goal.cells, .rw (benchC goal (.slice (some ⟨0, 0, none⟩) l.length c) (.slice (some ⟨4, 0, none⟩) (lastN l goal + 1) (lastN l goal + 1))), .rw (rowsC l goal (lastN l goal + 1)), .rw [.pointer (some ⟨3, 0, none⟩)], .rw [.int .i64 (n : Int)], .rw [slvV 8 1 (own ++ [k]).length], .gr (ints (zs (own ++ [k]))) 3] [1, 2, 3, 4, 5, 6, 7, 17] 11 (by simp) rfl (hc_st l) rfl rfl rfl (best_subs (own := own ++ [k]) (j := 17) (tl := [11]) rfl rfl rfl rfl rfl (by simp; rfl) (by rw [hol2]; rfl) (by simp) (osub_gr rfl (by rw [zs_app, ints_app]; rfl) (ints_plain _))) (by (repeat' (first | exact trivial | refine ⟨er_ptr rfl (by simp) rfl, ?_⟩)))⟩
    · replace hnot := hnot k (by omega)
      generalize gs l k = s at *
      by_cases hcn : x.b + s.b ≤ 6
      · rw [if_neg (by omega)] at hsk
        replace hok := hok hcn
        replace hnot := hnot hcn
        repeat' (first | (refine gU ?_; first | (refine gMove ?_; refine st (ok_move rfl) rfl rfl ?_) | (refine gAssign ?_; refine st (ok_assign rfl) rfl rfl ?_) | (refine gLoad ?_; refine st (ok_loadA rfl (by first | rfl | exact hc1)) rfl rfl ?_) | (refine gBin ?_; refine st (ok_bin rfl rfl rfl) rfl rfl ?_) | (refine gExtract ?_; refine st (ok_extract rfl rfl) rfl rfl ?_) | (refine gIA ?_; refine st (ok_idxSN rfl rfl (by omega)) rfl rfl ?_) | (refine gCall ?_; refine st (ok_call rfl rfl rfl (by exact hsk)) rfl rfl ?_) | (refine gAlloc ?_; refine st (ok_alloc rfl) rfl rfl ?_) | (refine gStore ?_; refine stN (ok_store rfl rfl rfl rfl (by rfl)) rfl ?_)) | (refine gG ?_; first | (refine gMove ?_; refine stGA rfl (ok_move rfl) rfl rfl ?_) | (refine gLoad ?_; refine stGA rfl (ok_loadA rfl (by rfl)) rfl rfl ?_)) | refine W_seq ?_ | refine W_region ?_ | refine st_nil ?_ | refine tq_n ?_ | refine W_skip ?_ | refine W_block ?_ | refine W_condTA rfl ?_)
        refine st_yieldG (l := 12) rfl rfl (by rw [hL]; rfl) rfl rfl rfl (fun _ _ _ _ he => wanted_rel (b := true) rfl he) ?_
        repeat' (first | (refine gU ?_; first | (refine gAssign ?_; refine st (ok_assign rfl) rfl rfl ?_) | (refine gAlloc ?_; refine st (ok_alloc rfl) rfl rfl ?_) | (refine gStore ?_; refine stN (ok_store rfl rfl rfl rfl (by rfl)) rfl ?_)) | refine W_seq ?_ | refine W_region ?_ | refine st_nil ?_ | refine tq_n ?_)
        refine roundA_n (by rw [hL]; rfl) ?_
        repeat' (first | (refine fU ?_; first | (refine fFA ?_; refine frA (ok_fieldAddr rfl) rfl ?_) | (refine fLoad ?_; first | refine frA (ok_load rfl (by rfl)) rfl ?_ | refine frA (ok_loadA rfl (by first | rfl | exact hc2 _)) rfl ?_) | (refine fSub ?_; refine frA (ok_sub rfl rfl (by omega) (by omega)) rfl ?_) | (refine fNil ?_; refine frA (ok_nilP rfl) rfl ?_) | (refine fIA ?_; refine frA (ok_idx rfl rfl (by omega) (by omega)) rfl ?_) | (refine fCall ?_; refine frA (ok_call rfl rfl rfl (by exact has_ev hok (by rfl))) rfl ?_)) | (refine fr_stop ⟨by kernel_rfl, ?_⟩) | refine W_seq ?_ | refine W_regionD (by kernel_rfl) rfl ?_ | refine st_nil ?_ | refine tq_n ?_ | refine bq_n ?_ | refine W_skip ?_ | refine W_block ?_ | refine W_condFA rfl ?_)
        refine roundB_n rfl rfl ?_
        repeat' (first | (refine gU ?_; first | (refine gMove ?_; refine st (ok_move rfl) rfl rfl ?_) | (refine gAdd ?_; refine st (ok_inc rfl rfl (by omega)) rfl rfl ?_) | (refine gPick ?_; refine st (ok_pickTA rfl rfl) rfl rfl ?_)) | (refine gG ?_; (refine gNot ?_; refine stGA rfl (ok_not' rfl) rfl rfl ?_)) | refine W_region ?_ | refine st_nil ?_ | refine tq_n ?_ | refine bq_n ?_ | refine W_skip ?_ | refine W_condFA rfl ?_)
        refine ⟨rfl, k + 1, by omega, by omega, ?_⟩
        rw [hL]
        exact StRef.drop [.ro (stonesC l), .rw x.cells, .rw goal.cells, .rw (benchC goal (.slice (some ⟨0, 0, none⟩) l.length c) (.slice (some ⟨4, 0, none⟩) (lastN l goal + 1) (lastN l goal + 1))), .rw (rowsC l goal (lastN l goal + 1)), .rw [.pointer (some ⟨3, 0, none⟩)], .rw [.int .i64 ((n + 1 : Nat) : Int)], .rw [slvV 8 1 own.length], .gr (ints (zs own)) 3, .rw [.pointer (some ⟨3, 0, none⟩)], .rw x.cells, .dfr, _] [_, _, _] (by simp) (hc_best2 l goal x c (n + 1) own _ (by have := hLc; rw [hL] at this; exact this)) (by (repeat' (first | exact trivial | exact ⟨rfl, rfl, rfl⟩ | exact ⟨rfl, closed_slice rfl, rfl⟩ | refine ⟨?_, ?_⟩)))
      · rw [if_pos (by omega)] at hsk
        repeat' (first | (refine gU ?_; first | (refine gMove ?_; refine st (ok_move rfl) rfl rfl ?_) | (refine gAssign ?_; refine st (ok_assign rfl) rfl rfl ?_) | (refine gLoad ?_; refine st (ok_loadA rfl (by first | rfl | exact hc1)) rfl rfl ?_) | (refine gAdd ?_; refine st (ok_inc rfl rfl (by omega)) rfl rfl ?_) | (refine gBin ?_; refine st (ok_bin rfl rfl rfl) rfl rfl ?_) | (refine gPick ?_; refine st (ok_pickFA rfl rfl) rfl rfl ?_) | (refine gExtract ?_; refine st (ok_extract rfl rfl) rfl rfl ?_) | (refine gIA ?_; refine st (ok_idxSN rfl rfl (by omega)) rfl rfl ?_) | (refine gCall ?_; refine st (ok_call rfl rfl rfl (by exact hsk)) rfl rfl ?_) | (refine gAlloc ?_; refine st (ok_alloc rfl) rfl rfl ?_) | (refine gStore ?_; refine stN (ok_store rfl rfl rfl rfl (by rfl)) rfl ?_)) | (refine gG ?_; refine stSA rfl rfl ?_) | refine W_seq ?_ | refine W_region ?_ | refine st_nil ?_ | refine tq_n ?_ | refine bq_n ?_ | refine W_skip ?_ | refine W_block ?_ | refine W_condTA rfl ?_ | refine W_condFA rfl ?_)
        exact ⟨rfl, k + 1, by omega, by omega, StRef.drop [.ro (stonesC l), .rw x.cells, .rw goal.cells, .rw (benchC goal (.slice (some ⟨0, 0, none⟩) l.length c) (.slice (some ⟨4, 0, none⟩) (lastN l goal + 1) (lastN l goal + 1))), .rw (rowsC l goal (lastN l goal + 1)), .rw [.pointer (some ⟨3, 0, none⟩)], .rw [.int .i64 ((n + 1 : Nat) : Int)], .rw [slvV 8 1 own.length], .gr (ints (zs own)) 3, .rw [.pointer (some ⟨3, 0, none⟩)], .rw x.cells, .dfr, L] [_, _] (by simp) (hc_best2 l goal x c (n + 1) own L hLc) (by (repeat' (first | exact trivial | exact ⟨rfl, rfl, rfl⟩ | exact ⟨rfl, closed_slice rfl, rfl⟩ | refine ⟨?_, ?_⟩)))⟩
theorem bestE_zero {l : List Sn} {e goal : Ed} (h : bestE l e goal = 0) : askE l e goal = 0 ∧ 0 ≤ needsV l goal e := by
  unfold bestE at h
  by_cases ha : askE l e goal ≠ 0
  · rw [if_pos ha] at h; exact absurd h ha
  · rw [if_neg ha] at h
    by_cases hn : needsV l goal e < 0
    · rw [if_pos hn] at h; cases h
    · exact ⟨by omega, by omega⟩
theorem best_ok (l : List Sn) (e goal : Ed) (c : Nat) (hL : l.length ≤ 1000000) :
    Ev Try.prog 21 [.slice (some ⟨0, 0, none⟩) l.length c, e.val, goal.val] [.ro (stonesC l)] (.tuple #[.slice (some ⟨1, 0, none⟩) (bestL l e goal).length (bestL l e goal).length, .int .i64 (bestE l e goal)]) [.ro (stonesC l), .rw (ints (bestL l e goal))] := by
  unfold bestL
  by_cases h : bestE l e goal = 0
  · obtain ⟨ha, hn⟩ := bestE_zero h
    rw [if_neg (by omega), h]
    have := best_run l e goal c (needsV l goal e).toNat hL ha (by omega)
    simpa [zs_len, bestS_len] using this
  · rw [if_pos h]; exact best_bad l e goal c hL h
theorem best_ev {σ : Heap} {l : List Sn} {e goal : Ed} {x c : Nat} (hx : arrAt σ x (stonesC l)) (hL : l.length ≤ 1000000) (hni : σ.all (fun o => !isIter o) = true) :
    Ev Try.prog 21 [.slice (some ⟨x, 0, none⟩) l.length c, e.val, goal.val] σ (.tuple #[.slice (some ⟨σ.length, 0, none⟩) (bestL l e goal).length (bestL l e goal).length, .int .i64 (bestE l e goal)]) (σ ++ [.rw (ints (bestL l e goal))]) := by
  refine Ev.arrsN [stonesC l] [x] (best_ok l e goal c hL) ⟨hx, trivial⟩ ⟨by simpa [bsR] using VQ.slice (q := true) (n := 1) (ρ := bsR [x]) 0 0 l.length c c (Nat.le_refl _) (by omega), vrel_plain _ rfl, vrel_plain _ rfl, trivial⟩ (by simp [stonesC_plain]) rfl ?_ ?_ hni
  · simp [ren, renA, renL, shf]
  · simp only [List.map_cons, List.map_nil, renO, renL_plain _ (ints_plain _)]
end Go.Proofs.Ytindbippegiopaa
