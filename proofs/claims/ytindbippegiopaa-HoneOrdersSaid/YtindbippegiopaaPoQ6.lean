/- The arguments of a law of hones, read as stones and edges. -/
import Derived.Test.YtindbippegiopaaPoQ5
import Derived.Test.YtindbippegiopaaPoMM
import Derived.OpenShut
import Derived.Test.YtindbippegiopaaPoQ2
import Derived.Deep.Slices
namespace Go.AH.Hone
open Go Go.AH Go.Proofs.Ytindbippegiopaa
section
variable {l : List Sn} {goal e : Ed}
end
end Go.AH.Hone
namespace Go.AH.Hone
open Go Go.AH Go.Proofs.Ytindbippegiopaa
theorem rotv {x t n : Nat} (hx : x < n) : (x + t) % n = if x + t % n < n then x + t % n else x + t % n - n := by
  have hr := Nat.mod_lt t (show 0 < n by omega)
  rw [Nat.add_mod, Nat.mod_eq_of_lt hx]
  by_cases h : x + t % n < n
  · rw [if_pos h]; exact Nat.mod_eq_of_lt h
  · rw [if_neg h, Nat.mod_eq_sub_mod (by omega)]; exact Nat.mod_eq_of_lt (by omega)
theorem rot_lt {x t n : Nat} (hx : x < n) : (x + t) % n < n := Nat.mod_lt _ (by omega)
theorem rot_inj {x y t n : Nat} (hx : x < n) (hy : y < n) (h : (x + t) % n = (y + t) % n) : x = y := by
  have hr := Nat.mod_lt t (show 0 < n by omega)
  rw [rotv hx, rotv hy] at h
  split at h <;> split at h <;> omega
theorem rot_surj {t n i : Nat} (hi : i < n) : ∃ j < n, (j + t) % n = i := by
  have hr := Nat.mod_lt t (show 0 < n by omega)
  by_cases h : t % n ≤ i
  · refine ⟨i - t % n, by omega, ?_⟩
    rw [rotv (by omega), if_pos (by omega)]; omega
  · refine ⟨i + n - t % n, by omega, ?_⟩
    rw [rotv (by omega), if_neg (by omega)]; omega
noncomputable def cnt (p : Nat → Prop) : Nat → Nat
  | 0 => 0
  | k + 1 => haveI := Classical.propDecidable (p k); cnt p k + if p k then 1 else 0
theorem cnt_congr {p q : Nat → Prop} : ∀ {k : Nat}, (∀ i < k, p i ↔ q i) → cnt p k = cnt q k
  | 0, _ => rfl
  | k + 1, h => by
    simp only [cnt]
    rw [cnt_congr (k := k) fun i hi => h i (by omega)]
    by_cases hp : p k
    · rw [if_pos hp, if_pos ((h k (by omega)).1 hp)]
    · rw [if_neg hp, if_neg (fun hq => hp ((h k (by omega)).2 hq))]
theorem cnt_shift (p : Nat → Prop) : ∀ k, cnt p (k + 1) = cnt (fun i => p (i + 1)) k + cnt p 1
  | 0 => by simp only [cnt, Nat.zero_add]
  | k + 1 => by
    have h := cnt_shift p k
    have e1 : cnt p (k + 1 + 1) = cnt p (k + 1) + (haveI := Classical.propDecidable (p (k + 1)); if p (k + 1) then 1 else 0) := rfl
    have e2 : cnt (fun i => p (i + 1)) (k + 1) = cnt (fun i => p (i + 1)) k + (haveI := Classical.propDecidable (p (k + 1)); if p (k + 1) then 1 else 0) := rfl
    rw [e1, e2, h]; omega
theorem cnt_one (q : Nat → Prop) (n : Nat) : cnt (fun i => q ((i + 1) % n)) n = cnt q n := by
  cases n with
  | zero => rfl
  | succ m =>
    rw [cnt_shift q m]
    have e1 : cnt (fun i => q ((i + 1) % (m + 1))) (m + 1) = cnt (fun i => q ((i + 1) % (m + 1))) m + (haveI := Classical.propDecidable (q ((m + 1) % (m + 1))); if q ((m + 1) % (m + 1)) then 1 else 0) := rfl
    rw [e1, cnt_congr (q := fun i => q (i + 1)) fun i hi => by rw [Nat.mod_eq_of_lt (by omega)]]
    have e2 : cnt q 1 = 0 + (haveI := Classical.propDecidable (q 0); if q 0 then 1 else 0) := rfl
    rw [e2, Nat.zero_add]
    by_cases h : q 0
    · rw [if_pos (by rwa [Nat.mod_self]), if_pos h]
    · rw [if_neg (by rwa [Nat.mod_self]), if_neg h]
theorem cnt_rot (n : Nat) : ∀ (t : Nat) (p : Nat → Prop), cnt (fun i => p ((i + t) % n)) n = cnt p n
  | 0, p => cnt_congr fun i hi => by rw [Nat.add_zero, Nat.mod_eq_of_lt hi]
  | t + 1, p => by
    have h := cnt_one (fun j => p ((j + t) % n)) n
    rw [cnt_rot n t p] at h
    rw [← h]
    refine cnt_congr fun i _ => ?_
    show p ((i + (t + 1)) % n) ↔ p (((i + 1) % n + t) % n)
    rw [Nat.mod_add_mod, show i + 1 + t = i + (t + 1) by omega]
def rotK (l : List Sn) (t : Nat) : Nat → List Sn
  | 0 => []
  | k + 1 => rotK l t k ++ [gs l ((k + t) % l.length)]
theorem rotK_len (l : List Sn) (t : Nat) : ∀ k, (rotK l t k).length = k
  | 0 => rfl
  | k + 1 => by rw [rotK, List.length_append, rotK_len l t k]; rfl
theorem rotK_gs {l : List Sn} {t : Nat} : ∀ {k i : Nat}, i < k → gs (rotK l t k) i = gs l ((i + t) % l.length)
  | 0, i, h => by omega
  | k + 1, i, h => by
    have hl := rotK_len l t k
    by_cases hi : i < k
    · rw [← rotK_gs (k := k) hi]
      simp only [gs, List.getD_eq_getElem?_getD, rotK]; rw [List.getElem?_append_left (by omega)]
    · obtain rfl : i = k := by omega
      have : (rotK l t i ++ [gs l ((i + t) % l.length)])[i]? = some (gs l ((i + t) % l.length)) := by
        rw [List.getElem?_append_right (by omega), hl, Nat.sub_self]; rfl
      show ((rotK l t (i + 1)).getD i _) = _
      rw [List.getD_eq_getElem?_getD, rotK, this]; rfl
theorem spareK_cnt (l : List Sn) (e goal : Ed) : ∀ k, (spareK l e goal k).length = cnt (fun i => needsV (wout l i) goal e = needsV l goal e) k
  | 0 => rfl
  | k + 1 => by
    simp only [spareK, cnt]
    rw [← spareK_cnt l e goal k]
    by_cases h : needsV (wout l k) goal e = needsV l goal e
    · rw [if_pos h, if_pos h]; simp
    · rw [if_neg h, if_neg h]; simp
theorem endsK_cnt (l : List Sn) (e goal : Ed) : ∀ k, (endsK l e goal k).length = cnt (fun i => endsP l goal e i) k
  | 0 => rfl
  | k + 1 => by
    simp only [cnt]
    rw [← endsK_cnt l e goal k]
    by_cases h : endsP l goal e k
    · rw [endsK_pos h, if_pos h]; simp
    · rw [endsK_neg h, if_neg h]; simp
theorem endsK_iff (l : List Sn) (e goal : Ed) (i : Nat) : ∀ n, (i : Int) ∈ endsK l e goal n ↔ i < n ∧ endsP l goal e i
  | 0 => by simp [endsK]
  | n + 1 => by
    have ih := endsK_iff l e goal i n
    by_cases h : endsP l goal e n
    · rw [endsK_pos h]
      simp only [List.mem_append, List.mem_singleton, ih]
      constructor
      · rintro (⟨h1, h2⟩ | h1)
        · exact ⟨by omega, h2⟩
        · obtain rfl : i = n := by omega
          exact ⟨by omega, h⟩
      · rintro ⟨h1, h2⟩
        by_cases hi : i = n
        · exact .inr (by omega)
        · exact .inl ⟨by omega, h2⟩
    · rw [endsK_neg h, ih]
      constructor
      · rintro ⟨h1, h2⟩; exact ⟨by omega, h2⟩
      · rintro ⟨h1, h2⟩
        refine ⟨?_, h2⟩
        apply Classical.byContradiction
        intro hi
        obtain rfl : i = n := by omega
        exact h h2
theorem wout_has {l : List Sn} {i c : Nat} (hi : i < l.length) (hc : c < l.length) (hne : c ≠ i) : ∃ b < (wout l i).length, gs (wout l i) b = gs l c := by
  rw [wout_len hi]
  by_cases h : c < i
  · exact ⟨c, by omega, by rw [wout_get hi, if_pos h]⟩
  · refine ⟨c - 1, by omega, ?_⟩
    rw [wout_get hi, if_neg (by omega), show c - 1 + 1 = c by omega]
theorem wout_from {l : List Sn} {i b : Nat} (hi : i < l.length) (hb : b < (wout l i).length) : ∃ c < l.length, c ≠ i ∧ gs (wout l i) b = gs l c := by
  rw [wout_len hi] at hb
  by_cases h : b < i
  · exact ⟨b, by omega, by omega, by rw [wout_get hi, if_pos h]⟩
  · exact ⟨b + 1, by omega, by omega, by rw [wout_get hi, if_neg h]⟩
theorem on_box {l l' : List Sn} {goal e x : Ed} (hl : ∀ i < l.length, ¬ badSn (gs l i)) (hn : ∀ x, ¬ badEd x → needsV l goal x = needsV l' goal x) (h1 : ∀ i < l.length, ∃ j < l'.length, gs l' j = gs l i) (he : ¬ badEd e) (h : On l goal e x) : On l' goal e x := by
  induction h with
  | start => exact .start
  | step hx hi hc h0 hn2 ih =>
    obtain ⟨j, hj, e1⟩ := h1 _ hi
    have hox := hx.ok hl he
    have hoa := aft_ok (hl _ hi) hox hc
    rw [hn _ hoa] at h0 hn2
    rw [hn _ hox] at hn2
    rw [← e1] at hc h0 hn2 ⊢
    exact .step ih hj hc h0 hn2
theorem rot_to {l : List Sn} {t : Nat} : ∀ i < l.length, ∃ j < (rotK l t l.length).length, gs (rotK l t l.length) j = gs l i := fun i hi => by
  obtain ⟨j, hj, e1⟩ := rot_surj (t := t) hi
  exact ⟨j, by rw [rotK_len]; exact hj, by rw [rotK_gs hj, e1]⟩
theorem rot_back {l : List Sn} {t : Nat} : ∀ j < (rotK l t l.length).length, ∃ i < l.length, gs l i = gs (rotK l t l.length) j := fun j hj => by
  rw [rotK_len] at hj
  exact ⟨(j + t) % l.length, rot_lt hj, (rotK_gs hj).symm⟩
section
variable {l : List Sn} {goal e : Ed} {t : Nat} (ha : askE l e goal = 0)
include ha
theorem rot_ok : ∀ i < (rotK l t l.length).length, ¬ badSn (gs (rotK l t l.length) i) := fun i hi => by
  obtain ⟨g1, g2, g3⟩ := askE_zero ha
  obtain ⟨_, _, hl⟩ := boxE_zero g1
  rw [rotK_len] at hi
  rw [rotK_gs hi]; exact hl _ (rot_lt hi)
theorem rot_needs {x : Ed} (hx : ¬ badEd x) : needsV l goal x = needsV (rotK l t l.length) goal x := by
  obtain ⟨g1, g2, g3⟩ := askE_zero ha
  obtain ⟨_, _, hl⟩ := boxE_zero g1
  exact needs_same hl (rot_ok ha) g3 hx rot_to rot_back
theorem rot_rows (n : Nat) : rowL (rowN l goal n) = rowL (rowN (rotK l t l.length) goal n) := by
  obtain ⟨g1, g2, g3⟩ := askE_zero ha
  obtain ⟨_, _, hl⟩ := boxE_zero g1
  exact rowL_congr fun b hb => rowN_same hl (rot_ok ha) g3 rot_to rot_back n b hb
theorem rot_wout {i : Nat} (hi : i < l.length) : needsV (wout (rotK l t l.length) i) goal e = needsV (wout l ((i + t) % l.length)) goal e := by
  obtain ⟨g1, g2, g3⟩ := askE_zero ha
  obtain ⟨_, _, hl⟩ := boxE_zero g1
  have hs := rot_lt (t := t) hi
  have hi' : i < (rotK l t l.length).length := by rw [rotK_len]; exact hi
  refine (needs_same (wout_ok hl hs) (wout_ok (rot_ok ha) hi') g3 g2 (fun a ha2 => ?_) (fun b hb => ?_)).symm
  · obtain ⟨c, hc, hne, e1⟩ := wout_from hs ha2
    obtain ⟨j, hj, e2⟩ := rot_surj (t := t) hc
    obtain ⟨b, hb, e3⟩ := wout_has (l := rotK l t l.length) hi' (show j < (rotK l t l.length).length by rw [rotK_len]; exact hj) (fun h => hne (by rw [← e2, h]))
    exact ⟨b, hb, by rw [e3, e1, rotK_gs hj, e2]⟩
  · obtain ⟨c, hc, hne, e1⟩ := wout_from hi' hb
    rw [rotK_len] at hc
    obtain ⟨a, ha2, e3⟩ := wout_has hs (rot_lt (t := t) hc) (fun h => hne (rot_inj hc hi h))
    exact ⟨a, ha2, by rw [e3, e1, rotK_gs hc]⟩
theorem rot_ends {i : Nat} (hi : i < l.length) : endsP (rotK l t l.length) goal e i ↔ endsP l goal e ((i + t) % l.length) := by
  obtain ⟨g1, g2, g3⟩ := askE_zero ha
  obtain ⟨_, _, hl⟩ := boxE_zero g1
  have hn := fun x hx => rot_needs (t := t) ha (x := x) hx
  have hs := rot_lt (t := t) hi
  unfold endsP
  rw [rotK_gs hi]
  constructor
  · rintro ⟨x, hx, hc, h1, h2⟩
    have hx' := on_box (rot_ok ha) (fun x hx => (hn x hx).symm) rot_back g2 hx
    have hok := hx'.ok hl g2
    exact ⟨x, hx', hc, by rw [hn x hok]; exact h1, by rw [hn _ (aft_ok (hl _ hs) hok hc)]; exact h2⟩
  · rintro ⟨x, hx, hc, h1, h2⟩
    have hok := hx.ok hl g2
    exact ⟨x, on_box hl hn rot_to g2 hx, hc, by rw [← hn x hok]; exact h1, by rw [← hn _ (aft_ok (hl _ hs) hok hc)]; exact h2⟩
end
end Go.AH.Hone
namespace Go.Proofs.Ytindbippegiopaa
open Go Go.AH Go.AH.Hone
theorem fewV_ev {σ : Heap} {l : List Sn} {e goal : Ed} {x n : Nat} (hn : l.length = n) (hx : arrAt σ x (stonesC l)) (hN : n ≤ 1000000) (ha : askE l e goal = 0) (hni : σ.all (fun o => !isIter o) = true) :
    Ev Try.prog 44 [slvV x 3 n, e.val, goal.val] σ (.tuple #[.int .i64 (fwV l e goal), .bool true]) σ := by
  subst hn
  exact Ev.arrs [stonesC l] [x] (fewest44_ok l e goal l.length hN ha) ⟨hx, trivial⟩ ⟨vsub_slvR (by simp) (by simp [bsR]), vrel_plain _ rfl, vrel_plain _ rfl, trivial⟩ (by simp [stonesC_plain]) rfl hni
theorem rowsV_ev {σ : Heap} {l : List Sn} {e goal : Ed} {x n : Nat} (hn : l.length = n) (hx : arrAt σ x (stonesC l)) (hL : n ≤ 1000000) (hni : σ.all (fun o => !isIter o) = true) :
    Ev Try.prog 25 [slvV x 3 n, e.val, goal.val] σ (.tuple #[.slice (some ⟨σ.length, 0, none⟩) (rowsN l e goal (bestE l e goal)) (rowsN l e goal (bestE l e goal)), .int .i64 (bestE l e goal)]) (σ ++ ([.rw (slC (σ.length + 1) 7 (rowsN l e goal (bestE l e goal)))] ++ rowsO (fun j => rowL (rowN l goal j)) (rowsN l e goal (bestE l e goal)))) := by
  subst hn
  refine Ev.arrsN [stonesC l] [x] (rows_ok l e goal l.length hL) ⟨hx, trivial⟩ ⟨vsub_slvR (by simp) (by simp [bsR]), vrel_plain _ rfl, vrel_plain _ rfl, trivial⟩ (by simp [stonesC_plain]) (by rw [List.all_append, rowsO_mem]; rfl) ?_ ?_ hni
  · simp [ren, renA, renL, shf]
  · rw [List.map_append, rowsO_ren]
    simp only [List.map_cons, List.map_nil, renO, List.length_cons, List.length_nil]
    rw [slC_ren]
theorem lastV_ev {σ : Heap} {l : List Sn} {goal : Ed} {x n : Nat} (hn : l.length = n) (hx : arrAt σ x (stonesC l)) (hN : n ≤ 1000000) (hni : σ.all (fun o => !isIter o) = true) :
    Ev Try.prog 32 [slvV x 3 n, goal.val] σ (.tuple #[.slice (some ⟨σ.length, 0, none⟩) (lastL l goal).length (lastL l goal).length, .int .i64 (askE l goal goal)]) (σ ++ [.rw (ints (lastL l goal))]) := by
  subst hn
  refine Ev.arrsN [stonesC l] [x] (last_ok l goal l.length hN) ⟨hx, trivial⟩ ⟨vsub_slvR (by simp) (by simp [bsR]), vrel_plain _ rfl, trivial⟩ (by simp [stonesC_plain]) rfl ?_ ?_ hni
  · simp [ren, renA, renL, shf]
  · simp only [List.map_cons, List.map_nil, renO, renL_plain _ (ints_plain _)]
theorem spareV_ev {σ : Heap} {l : List Sn} {e goal : Ed} {x n : Nat} (hn : l.length = n) (hx : arrAt σ x (stonesC l)) (hL : n ≤ 1000000) (hni : σ.all (fun o => !isIter o) = true) :
    Ev Try.prog 36 [slvV x 3 n, e.val, goal.val] σ (.tuple #[.slice (some ⟨σ.length, 0, none⟩) (spareL l e goal).length (spareL l e goal).length, .int .i64 (bestE l e goal)]) (σ ++ [.rw (ints (spareL l e goal))]) := by
  subst hn
  refine Ev.arrsN [stonesC l] [x] (spare_ok l e goal l.length hL) ⟨hx, trivial⟩ ⟨vsub_slvR (by simp) (by simp [bsR]), vrel_plain _ rfl, vrel_plain _ rfl, trivial⟩ (by simp [stonesC_plain]) rfl ?_ ?_ hni
  · simp [ren, renA, renL, shf]
  · simp only [List.map_cons, List.map_nil, renO, renL_plain _ (ints_plain _)]
theorem endsV_ev {σ : Heap} {l : List Sn} {e goal : Ed} {x n : Nat} (hn : l.length = n) (hx : arrAt σ x (stonesC l)) (hL : n ≤ 1000000) (hni : σ.all (fun o => !isIter o) = true) :
    Ev Try.prog 38 [slvV x 3 n, e.val, goal.val] σ (.tuple #[.slice (some ⟨σ.length, 0, none⟩) (endsL l e goal).length (endsL l e goal).length, .int .i64 (bestE l e goal)]) (σ ++ [.rw (ints (endsL l e goal))]) := by
  subst hn
  refine Ev.arrsN [stonesC l] [x] (rimEnds_ok l e goal l.length hL) ⟨hx, trivial⟩ ⟨vsub_slvR (by simp) (by simp [bsR]), vrel_plain _ rfl, vrel_plain _ rfl, trivial⟩ (by simp [stonesC_plain]) rfl ?_ ?_ hni
  · simp [ren, renA, renL, shf]
  · simp only [List.map_cons, List.map_nil, renO, renL_plain _ (ints_plain _)]
theorem rot_ask {l : List Sn} {e goal : Ed} (t : Nat) (ha : askE l e goal = 0) : askE (rotK l t l.length) e goal = 0 := by
  obtain ⟨g1, g2, g3⟩ := askE_zero ha
  obtain ⟨hs1, hs2⟩ := ask_small ha
  have hb : boxE (rotK l t l.length) = 0 := boxE_good (by rw [rotK_len]; exact hs1) (by rw [rotK_len]; exact hs2) (rot_ok ha)
  unfold askE; rw [if_neg (by omega), if_neg (fun h => h.elim g2 g3)]
theorem rot_need {l : List Sn} {e goal : Ed} (t : Nat) (ha : askE l e goal = 0) : needsV (rotK l t l.length) goal e = needsV l goal e := (rot_needs ha (askE_zero ha).2.1).symm
theorem rot_bestE {l : List Sn} {e goal : Ed} (t : Nat) (ha : askE l e goal = 0) : bestE (rotK l t l.length) e goal = bestE l e goal := by
  unfold bestE; rw [rot_ask t ha, ha, rot_need t ha]
theorem rot_rowsN {l : List Sn} {e goal : Ed} (t : Nat) (ha : askE l e goal = 0) (f : Int) : rowsN (rotK l t l.length) e goal f = rowsN l e goal f := by
  unfold rowsN; rw [rot_need t ha]
theorem rot_rowF {l : List Sn} {e goal : Ed} (t : Nat) (ha : askE l e goal = 0) : (fun j => rowL (rowN (rotK l t l.length) goal j)) = fun j => rowL (rowN l goal j) := funext fun j => (rot_rows ha j).symm
theorem rot_fw {l : List Sn} {e goal : Ed} (t : Nat) (ha : askE l e goal = 0) : fwV (rotK l t l.length) e goal = fwV l e goal := by
  unfold fwV; rw [rot_need t ha]
theorem rot_last {l : List Sn} {e goal : Ed} (t : Nat) (ha : askE l e goal = 0) : lastL (rotK l t l.length) goal = lastL l goal := by
  obtain ⟨g1, g2, g3⟩ := askE_zero ha
  obtain ⟨_, _, hl⟩ := boxE_zero g1
  have h1 := ask_goal ha
  have h2 := ask_goal (rot_ask t ha)
  unfold lastL
  rw [if_neg (by omega), if_neg (by omega)]
  refine rowL_congr fun b hb => ?_
  refine row_ext (fun b _ => rowN_bounds g3 _ b) (fun b _ => rowN_bounds g3 _ b) (fun x hx => ?_) b hb
  rw [needs_last (rot_ok ha) g3 hx, needs_last hl g3 hx, rot_needs (t := t) ha hx]
theorem rot_spare {l : List Sn} {e goal : Ed} (t : Nat) (ha : askE l e goal = 0) : (spareL (rotK l t l.length) e goal).length = (spareL l e goal).length ∧ ∀ i < l.length, (i : Int) ∈ spareL (rotK l t l.length) e goal ↔ (((i + t) % l.length : Nat) : Int) ∈ spareL l e goal := by
  unfold spareL
  rw [rot_bestE t ha]
  by_cases h : bestE l e goal = 0
  · rw [if_neg (by omega), if_neg (by omega), rotK_len]
    refine ⟨?_, fun i hi => ?_⟩
    · rw [spareK_cnt, spareK_cnt, ← cnt_rot l.length t (fun i => needsV (wout l i) goal e = needsV l goal e)]
      exact cnt_congr fun i hi => by rw [rot_wout ha hi, rot_need t ha]
    · rw [spareK_mem, spareK_mem, rot_wout ha hi, rot_need t ha]
      exact ⟨fun h => ⟨rot_lt hi, h.2⟩, fun h => ⟨hi, h.2⟩⟩
  · rw [if_pos h, if_pos h]; simp
theorem rot_endsL {l : List Sn} {e goal : Ed} (t : Nat) (ha : askE l e goal = 0) : (endsL (rotK l t l.length) e goal).length = (endsL l e goal).length ∧ ∀ i < l.length, (i : Int) ∈ endsL (rotK l t l.length) e goal ↔ (((i + t) % l.length : Nat) : Int) ∈ endsL l e goal := by
  unfold endsL
  rw [rot_bestE t ha]
  by_cases h : bestE l e goal = 0
  · rw [if_neg (by omega), if_neg (by omega), rotK_len]
    refine ⟨?_, fun i hi => ?_⟩
    · rw [endsK_cnt, endsK_cnt, ← cnt_rot l.length t (fun i => endsP l goal e i)]
      exact cnt_congr fun i hi => rot_ends ha hi
    · rw [endsK_iff, endsK_iff, rot_ends ha hi]
      exact ⟨fun h => ⟨rot_lt hi, h.2⟩, fun h => ⟨hi, h.2⟩⟩
  · rw [if_pos h, if_pos h]; simp
theorem stonesC_app1 (l : List Sn) (s : Sn) : stonesC (l ++ [s]) = stonesC l ++ s.cells := by simp [stonesC]
end Go.Proofs.Ytindbippegiopaa
namespace Go.AH.Hone
open Go Go.AH
theorem all_more {σ : Heap} {cs : List Value} (h : σ.all (fun o => !isIter o) = true) : (σ ++ [AObj.rw cs]).all (fun o => !isIter o) = true := by
  rw [List.all_append, h]; rfl
theorem at_mid {σ τ : Heap} {o : AObj} : (σ ++ [o] ++ τ)[σ.length]? = some o := by
  rw [List.append_assoc, List.getElem?_append_right (Nat.le_refl _), Nat.sub_self]; rfl
end Go.AH.Hone
namespace Go.Proofs.Ytindbippegiopaa
open Go Go.AH
attribute [local irreducible] WOps WCode WFree retQ thenQ blockQ scopeQ OpOk ACall RetRef roundA roundB
set_option maxRecDepth 100000
set_option maxHeartbeats 1000000
open Go.AH.Hone
theorem hc_ord (l : List Sn) (e goal : Ed) : HClosed 3 [.ro (stonesC l), .rw e.cells, .rw goal.cells] := ⟨plainL_closed (stonesC_plain l), plainL_closed rfl, plainL_closed rfl, trivial⟩
theorem honeOrders_law (l : List Sn) (e goal : Ed) (t c : Nat) (hN : l.length ≤ 9223372036854775807) (ht : t ≤ 255) :
    Ev Try.prog 13 [.slice (some ⟨0, 0, none⟩) l.length c, e.val, goal.val, .int .u8 (t : Int)] [.ro (stonesC l)] (.bool true) [.ro (stonesC l)] := by
  have hfine := fine_ev (σ := [.ro (stonesC l), .rw e.cells, .rw goal.cells]) (l := l) (e := e) (goal := goal) (x := 0) (c := c) (.inl rfl) hN rfl
  by_cases ha : askE l e goal = 0
  · obtain ⟨g1, g2, g3⟩ := askE_zero ha
    obtain ⟨hs1, hs2⟩ := ask_small ha
    refine acall_intro 1 216 Try.func13 rfl rfl rfl rfl rfl ?_
    repeat' (first | (refine gU ?_; first | (refine gMove ?_; refine st (ok_move rfl) rfl rfl ?_) | (refine gAssign ?_; refine st (ok_assign rfl) rfl rfl ?_) | (refine gLoad ?_; refine st (ok_loadA rfl (by rfl)) rfl rfl ?_) | (refine gNot ?_; refine st (ok_notD rfl) rfl rfl ?_) | (refine gCall ?_; refine st (ok_call rfl rfl rfl (by exact hfine)) rfl rfl ?_) | (refine gBox ?_; refine st (ok_box rfl) rfl rfl ?_)) | refine W_seq ?_ | refine W_region ?_ | refine st_nil ?_ | refine tq_n ?_ | refine W_skip ?_ | refine W_block ?_ | refine W_condFA rfl ?_)
    refine W_loopS (ι := Nat) (fun i => [(0, .slice (some ⟨0, 0, none⟩) l.length c), (3, .int .u8 (t : Int)), (5, .pointer (some ⟨1, 0, none⟩)), (6, .pointer (some ⟨2, 0, none⟩)), (9, slvV 3 3 i), (10, .int .i64 (i : Int))]) (fun i => [.ro (stonesC l), .rw e.cells, .rw goal.cells, .gr (stonesC (rotK l t i)) 54]) (fun i => l.length - i) (fun i => i ≤ l.length) 0 (by simp)
      (StRef.src [.ro (stonesC l), .rw e.cells, .rw goal.cells] [.gr [] 54] [3] (by simp) rfl (hc_ord l e goal) rfl rfl ⟨osub_gr0, trivial⟩ (by (repeat' (first | exact trivial | refine ⟨er_plain rfl rfl, ?_⟩ | refine ⟨er_closed (m := 3) rfl (fun i hi => srcR_lt hi) (by simp) (by first | rfl | exact closed_slice rfl) rfl, ?_⟩)))) (by omega) ?_
    clear hfine
    intro i hi
    by_cases hil : i < l.length
    · have hil' : (i : Int) < (l.length : Int) := by omega
      have hlen : (stonesC (rotK l t i)).length = i * 3 := by rw [stonesC_len, rotK_len]; omega
      have hm : (i + t) % l.length < l.length := rot_lt hil
      have hmi : ((i : Int) + (t : Int)).tmod (l.length : Int) = (((i + t) % l.length : Nat) : Int) := rfl
      have hc1 : cellsAt [.ro (stonesC l), .rw e.cells, .rw goal.cells, .gr (stonesC (rotK l t i)) 54] 0 (0 + (((i : Int) + (t : Int)).tmod (l.length : Int)).toNat * 3) 3 = some (gs l ((i + t) % l.length)).cells := by
        rw [hmi, Int.toNat_natCast]; exact stone_cells (.inl rfl) hm
      repeat' (first | (refine gU ?_; first | (refine gMove ?_; refine st (ok_move rfl) rfl rfl ?_) | (refine gAssign ?_; refine st (ok_assign rfl) rfl rfl ?_) | (refine gLoad ?_; refine st (ok_loadA rfl (by exact hc1)) rfl rfl ?_) | (refine gAdd ?_; first | refine st (ok_inc rfl rfl (by omega)) rfl rfl ?_ | refine st (ok_add rfl rfl (by omega) (by omega)) rfl rfl ?_) | (refine gBin ?_; first | refine st (ok_bin rfl rfl rfl) rfl rfl ?_ | refine st (ok_rem rfl rfl (by omega)) rfl rfl ?_) | (refine gLen ?_; refine st (ok_len rfl) rfl rfl ?_) | (refine gIA ?_; refine st (ok_idxSN rfl rfl (by omega)) rfl rfl ?_) | (refine gConv ?_; refine st (ok_convK rfl (by omega) (by omega)) rfl rfl ?_) | (refine gBuildS ?_; refine st (ok_buildS (by rfl) (by rfl) (by rfl) (by rfl) rfl (by rfl)) rfl rfl ?_) | (refine gApp ?_; refine st (ok_appendV (by rfl) (by rfl) rfl (by rfl) (by exact hlen) rfl (by rfl) (by omega) (by rfl) (by omega) (by omega)) rfl rfl ?_)) | refine W_seq ?_ | refine W_region ?_ | refine st_nil ?_ | refine tq_n ?_ | refine bq_n ?_ | refine W_skip ?_ | refine W_block ?_ | refine W_condTA rfl ?_)
      exact ⟨rfl, i + 1, by omega, by omega, StRef.src [.ro (stonesC l), .rw e.cells, .rw goal.cells] [.gr (stonesC (rotK l t (i + 1))) 54] [5] (by simp) rfl (hc_ord l e goal) rfl rfl ⟨osub_gr rfl (by rw [rotK, stonesC_app1]; rfl) (stonesC_plain _), trivial⟩ (by (repeat' (first | exact trivial | refine ⟨er_plain rfl rfl, ?_⟩ | refine ⟨er_closed (m := 3) rfl (fun i hi => srcR_lt hi) (by simp) (by first | rfl | exact closed_slice rfl) rfl, ?_⟩ | refine ⟨er_slvV rfl (by simp) rfl, ?_⟩)))⟩
    · obtain rfl : i = l.length := by omega
      have hXl := rotK_len l t l.length
      have xE := rot_bestE t ha
      have xA := rot_ask t ha
      have xN := fun f => rot_rowsN t ha f
      have xF := rot_rowF t ha
      have xW := rot_fw t ha
      have xL := rot_last t ha
      obtain ⟨sp1, sp2⟩ := rot_spare t ha
      obtain ⟨en1, en2⟩ := rot_endsL t ha
      generalize rotK l t l.length = X at *
      have hf1 := fewest44_ev (σ := ([.ro (stonesC l), .rw e.cells, .rw goal.cells, AObj.gr (stonesC X) 54] : Heap)) (l := l) (e := e) (goal := goal) (x := 0) (c := c) (.inl rfl) (by omega) ha rfl
      have hf2 := fewV_ev (σ := ([.ro (stonesC l), .rw e.cells, .rw goal.cells, AObj.gr (stonesC X) 54] : Heap)) (l := X) (e := e) (goal := goal) (x := 3) hXl (.inr (.inr ⟨_, rfl⟩)) (by omega) xA rfl
      rw [xW] at hf2
      have hR1 := rows_ev (σ := ([.ro (stonesC l), .rw e.cells, .rw goal.cells, AObj.gr (stonesC X) 54] : Heap)) (l := l) (e := e) (goal := goal) (x := 0) (c := c) (.inl rfl) (by omega) rfl
      have hn := rowsN_le (l := l) (e := e) (goal := goal)
      have hR2 := fun (n : Nat) h => rowsV_ev (σ := (([.ro (stonesC l), .rw e.cells, .rw goal.cells, AObj.gr (stonesC X) 54] : Heap) ++ ([AObj.rw (slC (4 + 1) 7 n)] ++ rowsO (fun j => rowL (rowN l goal j)) n))) (l := X) (e := e) (goal := goal) (x := 3) hXl (.inr (.inr ⟨_, rfl⟩)) (by omega) h
      replace hR2 := hR2 (rowsN l e goal (bestE l e goal)) (all_ni rfl)
      rw [xE, xN, xF] at hR2
      obtain ⟨n, hnn⟩ : ∃ n, rowsN l e goal (bestE l e goal) = n := ⟨_, rfl⟩
      rw [hnn] at hR1 hR2 hn
      obtain ⟨f, hf⟩ : ∃ f, bestE l e goal = f := ⟨_, rfl⟩
      rw [hf] at hR1 hR2 xE
      have hw2 : ((([.ro (stonesC l), .rw e.cells, .rw goal.cells, AObj.gr (stonesC X) 54] : Heap) ++ ([AObj.rw (slC (4 + 1) 7 n)] ++ rowsO (fun j => rowL (rowN l goal j)) n)) ++ ([AObj.rw (slC ((([.ro (stonesC l), .rw e.cells, .rw goal.cells, AObj.gr (stonesC X) 54] : Heap) ++ ([AObj.rw (slC (4 + 1) 7 n)] ++ rowsO (fun j => rowL (rowN l goal j)) n)).length + 1) 7 n)] ++ rowsO (fun j => rowL (rowN l goal j)) n)).all (fun o => !isIter o) = true := all_ni (all_ni rfl)
      have hLl := lastL_le l goal
      have hL1 := last_ev (σ := ((([.ro (stonesC l), .rw e.cells, .rw goal.cells, AObj.gr (stonesC X) 54] : Heap) ++ ([AObj.rw (slC (4 + 1) 7 n)] ++ rowsO (fun j => rowL (rowN l goal j)) n)) ++ ([AObj.rw (slC ((([.ro (stonesC l), .rw e.cells, .rw goal.cells, AObj.gr (stonesC X) 54] : Heap) ++ ([AObj.rw (slC (4 + 1) 7 n)] ++ rowsO (fun j => rowL (rowN l goal j)) n)).length + 1) 7 n)] ++ rowsO (fun j => rowL (rowN l goal j)) n))) (l := l) (goal := goal) (x := 0) (c := c) (.inl rfl) (by omega) hw2
      have hL2 := lastV_ev (σ := ((([.ro (stonesC l), .rw e.cells, .rw goal.cells, AObj.gr (stonesC X) 54] : Heap) ++ ([AObj.rw (slC (4 + 1) 7 n)] ++ rowsO (fun j => rowL (rowN l goal j)) n)) ++ ([AObj.rw (slC ((([.ro (stonesC l), .rw e.cells, .rw goal.cells, AObj.gr (stonesC X) 54] : Heap) ++ ([AObj.rw (slC (4 + 1) 7 n)] ++ rowsO (fun j => rowL (rowN l goal j)) n)).length + 1) 7 n)] ++ rowsO (fun j => rowL (rowN l goal j)) n)) ++ [AObj.rw (ints (lastL l goal))]) (l := X) (goal := goal) (x := 3) hXl (.inr (.inr ⟨_, rfl⟩)) (by omega) (all_more hw2)
      rw [ask_goal ha] at hL1
      rw [ask_goal xA, xL] at hL2
      generalize lastL l goal = L at *
      have hw4 := all_more (cs := ints L) (all_more (cs := ints L) hw2)
      have hS1 := spare_ev (σ := (((([.ro (stonesC l), .rw e.cells, .rw goal.cells, AObj.gr (stonesC X) 54] : Heap) ++ ([AObj.rw (slC (4 + 1) 7 n)] ++ rowsO (fun j => rowL (rowN l goal j)) n)) ++ ([AObj.rw (slC ((([.ro (stonesC l), .rw e.cells, .rw goal.cells, AObj.gr (stonesC X) 54] : Heap) ++ ([AObj.rw (slC (4 + 1) 7 n)] ++ rowsO (fun j => rowL (rowN l goal j)) n)).length + 1) 7 n)] ++ rowsO (fun j => rowL (rowN l goal j)) n)) ++ [AObj.rw (ints L)] ++ [AObj.rw (ints L)])) (l := l) (e := e) (goal := goal) (x := 0) (c := c) (.inl rfl) (by omega) hw4
      rw [hf] at hS1
      have hPl := spareL_le l e goal
      have hUl := endsL_le l e goal
      generalize spareL l e goal = P at *
      have hw5 := all_more (cs := ints P) hw4
      have hS2 := spareV_ev (σ := (((([.ro (stonesC l), .rw e.cells, .rw goal.cells, AObj.gr (stonesC X) 54] : Heap) ++ ([AObj.rw (slC (4 + 1) 7 n)] ++ rowsO (fun j => rowL (rowN l goal j)) n)) ++ ([AObj.rw (slC ((([.ro (stonesC l), .rw e.cells, .rw goal.cells, AObj.gr (stonesC X) 54] : Heap) ++ ([AObj.rw (slC (4 + 1) 7 n)] ++ rowsO (fun j => rowL (rowN l goal j)) n)).length + 1) 7 n)] ++ rowsO (fun j => rowL (rowN l goal j)) n)) ++ [AObj.rw (ints L)] ++ [AObj.rw (ints L)]) ++ [AObj.rw (ints P)]) (l := X) (e := e) (goal := goal) (x := 3) hXl (.inr (.inr ⟨_, rfl⟩)) (by omega) hw5
      rw [xE] at hS2
      generalize spareL X e goal = Q at *
      have hw6 := all_more (cs := ints Q) hw5
      have hE1 := ends_ev (σ := (((([.ro (stonesC l), .rw e.cells, .rw goal.cells, AObj.gr (stonesC X) 54] : Heap) ++ ([AObj.rw (slC (4 + 1) 7 n)] ++ rowsO (fun j => rowL (rowN l goal j)) n)) ++ ([AObj.rw (slC ((([.ro (stonesC l), .rw e.cells, .rw goal.cells, AObj.gr (stonesC X) 54] : Heap) ++ ([AObj.rw (slC (4 + 1) 7 n)] ++ rowsO (fun j => rowL (rowN l goal j)) n)).length + 1) 7 n)] ++ rowsO (fun j => rowL (rowN l goal j)) n)) ++ [AObj.rw (ints L)] ++ [AObj.rw (ints L)]) ++ [AObj.rw (ints P)] ++ [AObj.rw (ints Q)]) (l := l) (e := e) (goal := goal) (x := 0) (c := c) (.inl rfl) (by omega) hw6
      rw [hf] at hE1
      generalize endsL l e goal = U at *
      have hw7 := all_more (cs := ints U) hw6
      have hE2 := endsV_ev (σ := (((([.ro (stonesC l), .rw e.cells, .rw goal.cells, AObj.gr (stonesC X) 54] : Heap) ++ ([AObj.rw (slC (4 + 1) 7 n)] ++ rowsO (fun j => rowL (rowN l goal j)) n)) ++ ([AObj.rw (slC ((([.ro (stonesC l), .rw e.cells, .rw goal.cells, AObj.gr (stonesC X) 54] : Heap) ++ ([AObj.rw (slC (4 + 1) 7 n)] ++ rowsO (fun j => rowL (rowN l goal j)) n)).length + 1) 7 n)] ++ rowsO (fun j => rowL (rowN l goal j)) n)) ++ [AObj.rw (ints L)] ++ [AObj.rw (ints L)]) ++ [AObj.rw (ints P)] ++ [AObj.rw (ints Q)] ++ [AObj.rw (ints U)]) (l := X) (e := e) (goal := goal) (x := 3) hXl (.inr (.inr ⟨_, rfl⟩)) (by omega) hw7
      rw [xE] at hE2
      generalize endsL X e goal = V at *
      have hw8 := all_more (cs := ints V) hw7
      have hli := lists_ev (σ := ((((([.ro (stonesC l), .rw e.cells, .rw goal.cells, AObj.gr (stonesC X) 54] : Heap) ++ ([AObj.rw (slC (4 + 1) 7 n)] ++ rowsO (fun j => rowL (rowN l goal j)) n)) ++ ([AObj.rw (slC ((([.ro (stonesC l), .rw e.cells, .rw goal.cells, AObj.gr (stonesC X) 54] : Heap) ++ ([AObj.rw (slC (4 + 1) 7 n)] ++ rowsO (fun j => rowL (rowN l goal j)) n)).length + 1) 7 n)] ++ rowsO (fun j => rowL (rowN l goal j)) n)) ++ [AObj.rw (ints L)] ++ [AObj.rw (ints L)]) ++ [AObj.rw (ints P)] ++ [AObj.rw (ints Q)] ++ [AObj.rw (ints U)] ++ [AObj.rw (ints V)])) (qs := rowsL l goal n) (n := n) (x := 4) (y := (([.ro (stonesC l), .rw e.cells, .rw goal.cells, AObj.gr (stonesC X) 54] : Heap) ++ ([AObj.rw (slC (4 + 1) 7 n)] ++ rowsO (fun j => rowL (rowN l goal j)) n)).length) (c := n) (c2 := n) (rowsL_len l goal n)
        (by rw [List.append_assoc, List.append_assoc, List.append_assoc, List.append_assoc, List.append_assoc, List.append_assoc]; exact rows_own (σ := ([.ro (stonesC l), .rw e.cells, .rw goal.cells, AObj.gr (stonesC X) 54] : Heap)))
        (by rw [List.append_assoc, List.append_assoc, List.append_assoc, List.append_assoc, List.append_assoc]; exact rows_own (σ := (([.ro (stonesC l), .rw e.cells, .rw goal.cells, AObj.gr (stonesC X) 54] : Heap) ++ ([AObj.rw (slC (4 + 1) 7 n)] ++ rowsO (fun j => rowL (rowN l goal j)) n)))) (by omega) (fun i hi => by rw [rowsL_gq hi]; simp [rowL]) hw8
      have hin := ints_ev (σ := ((((([.ro (stonesC l), .rw e.cells, .rw goal.cells, AObj.gr (stonesC X) 54] : Heap) ++ ([AObj.rw (slC (4 + 1) 7 n)] ++ rowsO (fun j => rowL (rowN l goal j)) n)) ++ ([AObj.rw (slC ((([.ro (stonesC l), .rw e.cells, .rw goal.cells, AObj.gr (stonesC X) 54] : Heap) ++ ([AObj.rw (slC (4 + 1) 7 n)] ++ rowsO (fun j => rowL (rowN l goal j)) n)).length + 1) 7 n)] ++ rowsO (fun j => rowL (rowN l goal j)) n)) ++ [AObj.rw (ints L)] ++ [AObj.rw (ints L)]) ++ [AObj.rw (ints P)] ++ [AObj.rw (ints Q)] ++ [AObj.rw (ints U)] ++ [AObj.rw (ints V)])) (q := L) (n := L.length) (x := ((([.ro (stonesC l), .rw e.cells, .rw goal.cells, AObj.gr (stonesC X) 54] : Heap) ++ ([AObj.rw (slC (4 + 1) 7 n)] ++ rowsO (fun j => rowL (rowN l goal j)) n)) ++ ([AObj.rw (slC ((([.ro (stonesC l), .rw e.cells, .rw goal.cells, AObj.gr (stonesC X) 54] : Heap) ++ ([AObj.rw (slC (4 + 1) 7 n)] ++ rowsO (fun j => rowL (rowN l goal j)) n)).length + 1) 7 n)] ++ rowsO (fun j => rowL (rowN l goal j)) n)).length) (y := (((([.ro (stonesC l), .rw e.cells, .rw goal.cells, AObj.gr (stonesC X) 54] : Heap) ++ ([AObj.rw (slC (4 + 1) 7 n)] ++ rowsO (fun j => rowL (rowN l goal j)) n)) ++ ([AObj.rw (slC ((([.ro (stonesC l), .rw e.cells, .rw goal.cells, AObj.gr (stonesC X) 54] : Heap) ++ ([AObj.rw (slC (4 + 1) 7 n)] ++ rowsO (fun j => rowL (rowN l goal j)) n)).length + 1) 7 n)] ++ rowsO (fun j => rowL (rowN l goal j)) n)) ++ [AObj.rw (ints L)]).length) (c := L.length) (c2 := L.length) rfl
        (.inr (.inl (by rw [List.append_assoc, List.append_assoc, List.append_assoc, List.append_assoc]; exact at_mid))) (.inr (.inl (by rw [List.append_assoc, List.append_assoc, List.append_assoc]; exact at_mid))) (by omega) hw8
      have hi1 := fun m => in_ev (σ := ((((([.ro (stonesC l), .rw e.cells, .rw goal.cells, AObj.gr (stonesC X) 54] : Heap) ++ ([AObj.rw (slC (4 + 1) 7 n)] ++ rowsO (fun j => rowL (rowN l goal j)) n)) ++ ([AObj.rw (slC ((([.ro (stonesC l), .rw e.cells, .rw goal.cells, AObj.gr (stonesC X) 54] : Heap) ++ ([AObj.rw (slC (4 + 1) 7 n)] ++ rowsO (fun j => rowL (rowN l goal j)) n)).length + 1) 7 n)] ++ rowsO (fun j => rowL (rowN l goal j)) n)) ++ [AObj.rw (ints L)] ++ [AObj.rw (ints L)]) ++ [AObj.rw (ints P)] ++ [AObj.rw (ints Q)] ++ [AObj.rw (ints U)] ++ [AObj.rw (ints V)])) (q := Q) (n := m) (x := ((((([.ro (stonesC l), .rw e.cells, .rw goal.cells, AObj.gr (stonesC X) 54] : Heap) ++ ([AObj.rw (slC (4 + 1) 7 n)] ++ rowsO (fun j => rowL (rowN l goal j)) n)) ++ ([AObj.rw (slC ((([.ro (stonesC l), .rw e.cells, .rw goal.cells, AObj.gr (stonesC X) 54] : Heap) ++ ([AObj.rw (slC (4 + 1) 7 n)] ++ rowsO (fun j => rowL (rowN l goal j)) n)).length + 1) 7 n)] ++ rowsO (fun j => rowL (rowN l goal j)) n)) ++ [AObj.rw (ints L)] ++ [AObj.rw (ints L)]) ++ [AObj.rw (ints P)]).length) (c := Q.length) (.inr (.inl (by rw [List.append_assoc]; exact at_mid))) (by omega) hw8
      have hi2 := fun m => in_ev (σ := ((((([.ro (stonesC l), .rw e.cells, .rw goal.cells, AObj.gr (stonesC X) 54] : Heap) ++ ([AObj.rw (slC (4 + 1) 7 n)] ++ rowsO (fun j => rowL (rowN l goal j)) n)) ++ ([AObj.rw (slC ((([.ro (stonesC l), .rw e.cells, .rw goal.cells, AObj.gr (stonesC X) 54] : Heap) ++ ([AObj.rw (slC (4 + 1) 7 n)] ++ rowsO (fun j => rowL (rowN l goal j)) n)).length + 1) 7 n)] ++ rowsO (fun j => rowL (rowN l goal j)) n)) ++ [AObj.rw (ints L)] ++ [AObj.rw (ints L)]) ++ [AObj.rw (ints P)] ++ [AObj.rw (ints Q)] ++ [AObj.rw (ints U)] ++ [AObj.rw (ints V)])) (q := P) (n := m) (x := (((([.ro (stonesC l), .rw e.cells, .rw goal.cells, AObj.gr (stonesC X) 54] : Heap) ++ ([AObj.rw (slC (4 + 1) 7 n)] ++ rowsO (fun j => rowL (rowN l goal j)) n)) ++ ([AObj.rw (slC ((([.ro (stonesC l), .rw e.cells, .rw goal.cells, AObj.gr (stonesC X) 54] : Heap) ++ ([AObj.rw (slC (4 + 1) 7 n)] ++ rowsO (fun j => rowL (rowN l goal j)) n)).length + 1) 7 n)] ++ rowsO (fun j => rowL (rowN l goal j)) n)) ++ [AObj.rw (ints L)] ++ [AObj.rw (ints L)]).length) (c := P.length) (.inr (.inl (by rw [List.append_assoc, List.append_assoc]; exact at_mid))) (by omega) hw8
      have hi3 := fun m => in_ev (σ := ((((([.ro (stonesC l), .rw e.cells, .rw goal.cells, AObj.gr (stonesC X) 54] : Heap) ++ ([AObj.rw (slC (4 + 1) 7 n)] ++ rowsO (fun j => rowL (rowN l goal j)) n)) ++ ([AObj.rw (slC ((([.ro (stonesC l), .rw e.cells, .rw goal.cells, AObj.gr (stonesC X) 54] : Heap) ++ ([AObj.rw (slC (4 + 1) 7 n)] ++ rowsO (fun j => rowL (rowN l goal j)) n)).length + 1) 7 n)] ++ rowsO (fun j => rowL (rowN l goal j)) n)) ++ [AObj.rw (ints L)] ++ [AObj.rw (ints L)]) ++ [AObj.rw (ints P)] ++ [AObj.rw (ints Q)] ++ [AObj.rw (ints U)] ++ [AObj.rw (ints V)])) (q := V) (n := m) (x := ((((([.ro (stonesC l), .rw e.cells, .rw goal.cells, AObj.gr (stonesC X) 54] : Heap) ++ ([AObj.rw (slC (4 + 1) 7 n)] ++ rowsO (fun j => rowL (rowN l goal j)) n)) ++ ([AObj.rw (slC ((([.ro (stonesC l), .rw e.cells, .rw goal.cells, AObj.gr (stonesC X) 54] : Heap) ++ ([AObj.rw (slC (4 + 1) 7 n)] ++ rowsO (fun j => rowL (rowN l goal j)) n)).length + 1) 7 n)] ++ rowsO (fun j => rowL (rowN l goal j)) n)) ++ [AObj.rw (ints L)] ++ [AObj.rw (ints L)]) ++ [AObj.rw (ints P)] ++ [AObj.rw (ints Q)] ++ [AObj.rw (ints U)]).length) (c := V.length) (.inr (.inl get_last)) (by omega) hw8
      have hi4 := fun m => in_ev (σ := ((((([.ro (stonesC l), .rw e.cells, .rw goal.cells, AObj.gr (stonesC X) 54] : Heap) ++ ([AObj.rw (slC (4 + 1) 7 n)] ++ rowsO (fun j => rowL (rowN l goal j)) n)) ++ ([AObj.rw (slC ((([.ro (stonesC l), .rw e.cells, .rw goal.cells, AObj.gr (stonesC X) 54] : Heap) ++ ([AObj.rw (slC (4 + 1) 7 n)] ++ rowsO (fun j => rowL (rowN l goal j)) n)).length + 1) 7 n)] ++ rowsO (fun j => rowL (rowN l goal j)) n)) ++ [AObj.rw (ints L)] ++ [AObj.rw (ints L)]) ++ [AObj.rw (ints P)] ++ [AObj.rw (ints Q)] ++ [AObj.rw (ints U)] ++ [AObj.rw (ints V)])) (q := U) (n := m) (x := ((((([.ro (stonesC l), .rw e.cells, .rw goal.cells, AObj.gr (stonesC X) 54] : Heap) ++ ([AObj.rw (slC (4 + 1) 7 n)] ++ rowsO (fun j => rowL (rowN l goal j)) n)) ++ ([AObj.rw (slC ((([.ro (stonesC l), .rw e.cells, .rw goal.cells, AObj.gr (stonesC X) 54] : Heap) ++ ([AObj.rw (slC (4 + 1) 7 n)] ++ rowsO (fun j => rowL (rowN l goal j)) n)).length + 1) 7 n)] ++ rowsO (fun j => rowL (rowN l goal j)) n)) ++ [AObj.rw (ints L)] ++ [AObj.rw (ints L)]) ++ [AObj.rw (ints P)] ++ [AObj.rw (ints Q)]).length) (c := U.length) (.inr (.inl at_mid)) (by omega) hw8
      have hW := works_ev hw8
      repeat' (first | (refine gU ?_; first | (refine gMove ?_; refine st (ok_move rfl) rfl rfl ?_) | (refine gAssign ?_; refine st (ok_assign rfl) rfl rfl ?_) | (refine gLoad ?_; refine st (ok_loadA rfl (by rfl)) rfl rfl ?_) | (refine gBin ?_; refine st (ok_bin rfl rfl rfl) rfl rfl ?_) | (refine gLen ?_; refine st (ok_len rfl) rfl rfl ?_) | (refine gPick ?_; refine st (ok_pickFA rfl rfl) rfl rfl ?_) | (refine gNot ?_; refine st (ok_not' rfl) rfl rfl ?_) | (refine gExtract ?_; refine st (ok_extract rfl rfl) rfl rfl ?_) | (refine gCall ?_; refine st (ok_call rfl rfl rfl (by first | exact hf1 | exact hf2 | exact hR1 | exact hR2 | exact hL1 | exact hL2 | exact hS1 | exact hS2 | exact hE1 | exact hE2)) rfl rfl ?_)) | (refine gG ?_; first | (refine gMove ?_; refine stGA rfl (ok_move rfl) rfl rfl ?_) | (refine gBin ?_; refine stGA rfl (ok_bin rfl rfl rfl) rfl rfl ?_) | (refine gLen ?_; refine stGA rfl (ok_len rfl) rfl rfl ?_) | (refine gNot ?_; refine stGA rfl (ok_not' rfl) rfl rfl ?_) | (refine gCall ?_; refine stGA rfl (ok_call rfl rfl rfl (by first | exact hli | exact hin)) rfl rfl ?_)) | refine W_seq ?_ | refine W_region ?_ | refine st_nil ?_ | refine tq_n ?_ | refine tq_e ?_ | refine bq_hit rfl ?_ | refine W_skip ?_ | refine W_exit ?_ | refine W_block ?_ | refine W_condFA rfl ?_)
      refine W_loopS (ι := Nat) (fun j => [(0, .slice (some ⟨0, 0, none⟩) l.length c), (3, .int .u8 (t : Int)), (9, slvV 3 3 l.length), (23, .slice (some ⟨(((([.ro (stonesC l), .rw e.cells, .rw goal.cells, AObj.gr (stonesC X) 54] : Heap) ++ ([AObj.rw (slC (4 + 1) 7 n)] ++ rowsO (fun j => rowL (rowN l goal j)) n)) ++ ([AObj.rw (slC ((([.ro (stonesC l), .rw e.cells, .rw goal.cells, AObj.gr (stonesC X) 54] : Heap) ++ ([AObj.rw (slC (4 + 1) 7 n)] ++ rowsO (fun j => rowL (rowN l goal j)) n)).length + 1) 7 n)] ++ rowsO (fun j => rowL (rowN l goal j)) n)) ++ [AObj.rw (ints L)] ++ [AObj.rw (ints L)]).length, 0, none⟩) P.length P.length), (25, .slice (some ⟨((((([.ro (stonesC l), .rw e.cells, .rw goal.cells, AObj.gr (stonesC X) 54] : Heap) ++ ([AObj.rw (slC (4 + 1) 7 n)] ++ rowsO (fun j => rowL (rowN l goal j)) n)) ++ ([AObj.rw (slC ((([.ro (stonesC l), .rw e.cells, .rw goal.cells, AObj.gr (stonesC X) 54] : Heap) ++ ([AObj.rw (slC (4 + 1) 7 n)] ++ rowsO (fun j => rowL (rowN l goal j)) n)).length + 1) 7 n)] ++ rowsO (fun j => rowL (rowN l goal j)) n)) ++ [AObj.rw (ints L)] ++ [AObj.rw (ints L)]) ++ [AObj.rw (ints P)]).length, 0, none⟩) Q.length Q.length), (27, .slice (some ⟨((((([.ro (stonesC l), .rw e.cells, .rw goal.cells, AObj.gr (stonesC X) 54] : Heap) ++ ([AObj.rw (slC (4 + 1) 7 n)] ++ rowsO (fun j => rowL (rowN l goal j)) n)) ++ ([AObj.rw (slC ((([.ro (stonesC l), .rw e.cells, .rw goal.cells, AObj.gr (stonesC X) 54] : Heap) ++ ([AObj.rw (slC (4 + 1) 7 n)] ++ rowsO (fun j => rowL (rowN l goal j)) n)).length + 1) 7 n)] ++ rowsO (fun j => rowL (rowN l goal j)) n)) ++ [AObj.rw (ints L)] ++ [AObj.rw (ints L)]) ++ [AObj.rw (ints P)] ++ [AObj.rw (ints Q)]).length, 0, none⟩) U.length U.length), (29, .slice (some ⟨((((([.ro (stonesC l), .rw e.cells, .rw goal.cells, AObj.gr (stonesC X) 54] : Heap) ++ ([AObj.rw (slC (4 + 1) 7 n)] ++ rowsO (fun j => rowL (rowN l goal j)) n)) ++ ([AObj.rw (slC ((([.ro (stonesC l), .rw e.cells, .rw goal.cells, AObj.gr (stonesC X) 54] : Heap) ++ ([AObj.rw (slC (4 + 1) 7 n)] ++ rowsO (fun j => rowL (rowN l goal j)) n)).length + 1) 7 n)] ++ rowsO (fun j => rowL (rowN l goal j)) n)) ++ [AObj.rw (ints L)] ++ [AObj.rw (ints L)]) ++ [AObj.rw (ints P)] ++ [AObj.rw (ints Q)] ++ [AObj.rw (ints U)]).length, 0, none⟩) V.length V.length), (31, .int .i64 (j : Int))])
        (fun _ => ((((([.ro (stonesC l), .rw e.cells, .rw goal.cells, AObj.gr (stonesC X) 54] : Heap) ++ ([AObj.rw (slC (4 + 1) 7 n)] ++ rowsO (fun j => rowL (rowN l goal j)) n)) ++ ([AObj.rw (slC ((([.ro (stonesC l), .rw e.cells, .rw goal.cells, AObj.gr (stonesC X) 54] : Heap) ++ ([AObj.rw (slC (4 + 1) 7 n)] ++ rowsO (fun j => rowL (rowN l goal j)) n)).length + 1) 7 n)] ++ rowsO (fun j => rowL (rowN l goal j)) n)) ++ [AObj.rw (ints L)] ++ [AObj.rw (ints L)]) ++ [AObj.rw (ints P)] ++ [AObj.rw (ints Q)] ++ [AObj.rw (ints U)] ++ [AObj.rw (ints V)])) (fun j => l.length - j) (fun j => j ≤ l.length) 0 (by simp) (.same ⟨rfl, rfl, rfl, rfl, rfl, rfl, rfl, rfl, trivial⟩) (by omega) ?_
      clear hf1 hf2 hR1 hR2 hL1 hL2 hS1 hS2 hE1 hE2 hli hin
      intro j hj
      by_cases hjl : j < l.length
      · have hjl' : (j : Int) < (l.length : Int) := by omega
        have hi1 := hi1 (j : Int)
        have hi2 := hi2 (((j : Int) + (t : Int)).tmod (l.length : Int))
        have hi3 := hi3 (j : Int)
        have hi4 := hi4 (((j : Int) + (t : Int)).tmod (l.length : Int))
        have q1 : decide ((j : Int) ∈ Q) = decide (((j : Int) + (t : Int)).tmod (l.length : Int) ∈ P) := decide_eq_decide.mpr (sp2 j hjl)
        have q2 : decide ((j : Int) ∈ V) = decide (((j : Int) + (t : Int)).tmod (l.length : Int) ∈ U) := decide_eq_decide.mpr (en2 j hjl)
        rw [q1] at hi1
        rw [q2] at hi3
        clear q1 q2
        generalize decide (((j : Int) + (t : Int)).tmod (l.length : Int) ∈ P) = b1 at *
        generalize decide (((j : Int) + (t : Int)).tmod (l.length : Int) ∈ U) = b2 at *
        repeat' (first | (refine gU ?_; first | refine st (ok_neqB0 Try.underlying4 rfl rfl rfl) rfl rfl ?_ | (refine gMove ?_; refine st (ok_move rfl) rfl rfl ?_) | (refine gAssign ?_; refine st (ok_assign rfl) rfl rfl ?_) | (refine gAdd ?_; first | refine st (ok_inc rfl rfl (by omega)) rfl rfl ?_ | refine st (ok_add rfl rfl (by omega) (by omega)) rfl rfl ?_) | (refine gBin ?_; first | refine st (ok_bin rfl rfl rfl) rfl rfl ?_ | refine st (ok_rem rfl rfl (by omega)) rfl rfl ?_) | (refine gLen ?_; first | refine st (ok_len rfl) rfl rfl ?_ | refine st (ok_lenV rfl) rfl rfl ?_) | (refine gPick ?_; refine st (ok_pickFA rfl rfl) rfl rfl ?_) | (refine gConv ?_; refine st (ok_convK rfl (by omega) (by omega)) rfl rfl ?_) | (refine gCall ?_; refine st (ok_call rfl rfl rfl (by first | exact hi1 | exact hi2)) rfl rfl ?_)) | (refine gG ?_; first | refine stGA rfl (ok_neqB0 Try.underlying4 rfl rfl rfl) rfl rfl ?_ | (refine gMove ?_; refine stGA rfl (ok_move rfl) rfl rfl ?_) | (refine gCall ?_; refine stGA rfl (ok_call rfl rfl rfl (by first | exact hi3 | exact hi4)) rfl rfl ?_)) | refine W_seq ?_ | refine W_region ?_ | refine st_nil ?_ | refine tq_n ?_ | refine bq_n ?_ | refine W_skip ?_ | refine W_block ?_ | refine W_condTA rfl ?_ | refine W_condFA rfl ?_)
        exact ⟨rfl, j + 1, by omega, by omega, .same ⟨rfl, rfl, rfl, rfl, rfl, rfl, rfl, rfl, trivial⟩⟩
      · obtain rfl : j = l.length := by omega
        repeat' (first | (refine gU ?_; first | (refine gMove ?_; refine st (ok_move rfl) rfl rfl ?_) | (refine gAssign ?_; refine st (ok_assign rfl) rfl rfl ?_) | (refine gBin ?_; refine st (ok_bin rfl rfl rfl) rfl rfl ?_) | (refine gLen ?_; refine st (ok_lenV rfl) rfl rfl ?_) | (refine gCall ?_; refine st (ok_call rfl rfl rfl (by exact hW)) rfl rfl ?_)) | refine W_seq ?_ | refine W_region ?_ | refine st_nil ?_ | refine tq_n ?_ | refine tq_e ?_ | refine bq_hit rfl ?_ | refine W_exit ?_ | refine W_ret ?_ | refine W_condFA rfl ?_)
        exact ret0 (.tmp rfl .nil) (.plain rfl rfl) ⟨rfl, rfl⟩
  · refine acall_intro 1 216 Try.func13 rfl rfl rfl rfl rfl ?_
    repeat' (first | (refine gU ?_; first | (refine gMove ?_; refine st (ok_move rfl) rfl rfl ?_) | (refine gAssign ?_; refine st (ok_assign rfl) rfl rfl ?_) | (refine gLoad ?_; refine st (ok_loadA rfl (by rfl)) rfl rfl ?_) | (refine gNot ?_; refine st (ok_notD rfl) rfl rfl ?_) | (refine gCall ?_; refine st (ok_call rfl rfl rfl (by first | exact hfine | exact works_ev rfl)) rfl rfl ?_) | (refine gBox ?_; refine st (ok_box rfl) rfl rfl ?_)) | refine W_seq ?_ | refine W_region ?_ | refine st_nil ?_ | refine tq_n ?_ | refine tq_r ?_ | refine W_ret ?_ | refine W_condTA rfl ?_)
    all_goals exact ret0 (.tmp rfl .nil) (.plain rfl rfl) ⟨rfl, rfl⟩
theorem honeOrders_lawI (l : List Sn) (e goal : Ed) (t : Int) (c : Nat) (hN : l.length ≤ 9223372036854775807) (ht : 0 ≤ t ∧ t ≤ 255) :
    Ev Try.prog 13 [.slice (some ⟨0, 0, none⟩) l.length c, e.val, goal.val, .int .u8 t] [.ro (stonesC l)] (.bool true) [.ro (stonesC l)] := by
  have h := honeOrders_law l e goal t.toNat c hN (by omega)
  rwa [show ((t.toNat : Nat) : Int) = t by omega] at h
end Go.Proofs.Ytindbippegiopaa
namespace Go.AH
open Go Go.RowKit Go.WideShapes Go.ChangeShapes
section
variable {H : Type} {enc : TypeId × Value → H} {P : Program} {W : World}
theorem wf64 {n : Int} (h : (Lit.int .i64 n).wf = true) : -9223372036854775808 ≤ n ∧ n ≤ 9223372036854775807 := by
  simp only [Lit.wf, Bool.and_eq_true, decide_eq_true_eq] at h
  exact h
def cellsI (l : List Int) : List Value := l.map (.int .i64)
structure SlArg (W : World) (v : Value) (n size : Nat) (cs : List Value) (pl : Pl) : Prop where
  len : n ≤ 9223372036854775807
  rel : ∀ (m : Nat) (ρ : Rho) (i : Nat), i < m → ρ i = pl → VRel m ρ (.slice (some ⟨i, 0, none⟩) n n) v
  sz : cs.length = n * size
  cells : cs ≠ [] → pl.b < W.heap.size ∧ ∀ (k : Nat) (h : k < cs.length), W.cell? ⟨pl.b, pl.o + k, none⟩ = some cs[k]
theorem cell_lt {w : World} {a : Addr} {v : Value} (h : w.cell? a = some v) : a.block < w.heap.size ∧ a.spot = none := by
  unfold World.cell? at h
  split at h
  · rename_i hb
    refine ⟨(Array.getElem?_eq_some_iff.1 hb).1, ?_⟩
    split at h
    · cases h
    · rename_i hs; simpa using hs
  · cases h
theorem SlArg.hro {v : Value} {n size : Nat} {cs : List Value} {pl : Pl} (h : SlArg W v n size cs pl) (hp : plainL cs = true) (ρ : Rho) (i m : Nat) (hρ : ρ i = pl) (hne : cs ≠ []) :
    (ρ i).b < W.heap.size ∧ ∀ (k : Nat) (hk : k < cs.length), ∃ v', W.cell? ⟨(ρ i).b, (ρ i).o + k, none⟩ = some v' ∧ VRel m ρ cs[k] v' := by
  rw [hρ]
  obtain ⟨h1, h2⟩ := h.cells hne
  exact ⟨h1, fun k hk => ⟨_, h2 k hk, vrel_plainL cs hp k hk⟩⟩
end
end Go.AH
namespace Go.AH
open Go Go.RowKit Go.WideShapes Go.ChangeShapes
section
variable {H : Type} {enc : TypeId × Value → H} {P : Program} {w : World} {base : Nat} {spare : Nat → Bool} {held : Bool}
theorem trodAll_n4 {t t' t'' t3 : TypeId} {args : Array Value} {ds : List (DataW H)} {ps : List MemPlace} (h : DataW.TrodAll enc P w base spare held [t, t', t'', t3] args.toList ds ps) :
    ∃ v v' v'' v3 d d' d'' d3 p p' p'' p3, args = #[v, v', v'', v3] ∧ ds = [d, d', d'', d3] ∧ ps = p ++ p' ++ p'' ++ p3 ∧ DataW.Trod enc P w base spare held t v d p ∧ DataW.Trod enc P w base spare held t' v' d' p' ∧ DataW.Trod enc P w base spare held t'' v'' d'' p'' ∧ DataW.Trod enc P w base spare held t3 v3 d3 p3 := by
  obtain ⟨v, vs, d, ds', p, q, hargs, rfl, rfl, hd, hrest⟩ := trodAll_cons h
  obtain ⟨v', vs', d', ds'', p', q', rfl, rfl, rfl, hd', hrest'⟩ := trodAll_cons hrest
  obtain ⟨v'', vs'', d'', ds''', p'', q'', rfl, rfl, rfl, hd'', hrest''⟩ := trodAll_cons hrest'
  obtain ⟨v3, vs3, d3, ds3, p3, q3, rfl, rfl, rfl, hd3, hrest3⟩ := trodAll_cons hrest''
  obtain ⟨rfl, rfl, rfl⟩ := trodAll_nil hrest3
  exact ⟨v, v', v'', v3, d, d', d'', d3, p, p', p'', p3, by cases args; simp_all, rfl, by simp, hd, hd', hd'', hd3⟩
theorem trodAll_mkn4 {t t' t'' t3 : TypeId} {v v' v'' v3 : Value} {d d' d'' d3 : DataW H} {p p' p'' p3 : List MemPlace} (h : DataW.Trod enc P w base spare held t v d p) (h' : DataW.Trod enc P w base spare held t' v' d' p')
    (h'' : DataW.Trod enc P w base spare held t'' v'' d'' p'') (h3 : DataW.Trod enc P w base spare held t3 v3 d3 p3) : DataW.TrodAll enc P w base spare held [t, t', t'', t3] [v, v', v'', v3] [d, d', d'', d3] (p ++ (p' ++ (p'' ++ p3))) := ⟨p, p' ++ (p'' ++ p3), h, trodAll_mk3 h' h'' h3, rfl⟩
end
section
variable {H : Type} {enc : TypeId × Value → H} {P : Program} {W : World}
theorem read_u8 {b0 : Nat} {t : TypeId} {v : Value} {d : DataW H} {p : List MemPlace} (ht : P.underlying t = some (.int .u8)) (hval : Value.okWide P W .any b0 t v)
    (h : DataW.Trod enc P W 0 (fun _ => true) true t v d p) : ∃ n : Int, v = .int .u8 n ∧ 0 ≤ n ∧ n ≤ 255 := by
  obtain ⟨n, rfl, _, _, wn⟩ := open_int ht hval h
  simp only [Lit.wf, Bool.and_eq_true, decide_eq_true_eq] at wn
  exact ⟨n, rfl, wn⟩
end
end Go.AH
namespace Go.AH
open Go Go.RowKit Go.WideShapes Go.ChangeShapes
section
variable {H : Type} {enc : TypeId × Value → H} {P : Program} {w : World} {base : Nat} {spare : Nat → Bool} {held : Bool}
end
end Go.AH
namespace Go.AH
open Go Go.RowKit Go.WideShapes Go.ChangeShapes
section
variable {H : Type} {enc : TypeId × Value → H} {P : Program} {w : World} {base : Nat} {spare : Nat → Bool} {held : Bool}
end
section
variable {H : Type} {enc : TypeId × Value → H} {P : Program} {W : World}
end
end Go.AH
namespace Go.Proofs.Ytindbippegiopaa
open Go Go.AH Go.RowKit Go.WideShapes Go.ChangeShapes Go.AH.Hone
def inI (n : Int) : Prop := -9223372036854775808 ≤ n ∧ n ≤ 9223372036854775807
def inSn (s : Sn) : Prop := inI s.g ∧ inI s.c ∧ inI s.b
def inEd (e : Ed) : Prop := inI e.d ∧ inI e.b
theorem listS_of {Q : Nat → Sn → Prop} {n : Nat} (h : ∀ i < n, ∃ p, Q i p) : ∃ l : List Sn, l.length = n ∧ ∀ i < n, Q i (gs l i) := by
  induction n with
  | zero => exact ⟨[], rfl, fun i hi => by omega⟩
  | succ n ih =>
    obtain ⟨l, h1, h2⟩ := ih fun i hi => h i (by omega)
    obtain ⟨p, hp⟩ := h n (by omega)
    refine ⟨l ++ [p], by simp [h1], fun i hi => ?_⟩
    by_cases hin : i < n
    · have : gs (l ++ [p]) i = gs l i := by simp only [gs, List.getD_eq_getElem?_getD]; rw [List.getElem?_append_left (by omega)]
      rw [this]; exact h2 i hin
    · obtain rfl : i = n := by omega
      have : gs (l ++ [p]) i = p := by simp only [gs, List.getD_eq_getElem?_getD]; rw [List.getElem?_append_right (by omega), h1, Nat.sub_self]; rfl
      rw [this]; exact hp
theorem add_cell {b o k : Nat} : (⟨b, o, none⟩ : Addr).add k = ⟨b, o + k, none⟩ := by
  unfold Addr.add
  split
  · rename_i h; subst h; rfl
  · rfl
theorem stonesC_get {l : List Sn} {i j : Nat} (hi : i < l.length) (hj : j < 3) : (stonesC l)[i * 3 + j]? = (gs l i).cells[j]? := by
  obtain ⟨r, hr⟩ := stonesC_drop hi
  have : (stonesC l)[i * 3 + j]? = ((stonesC l).drop (i * 3))[j]? := by rw [List.getElem?_drop]
  rw [this, hr, List.getElem?_append_left (by simpa [Sn.cells] using hj)]
set_option maxRecDepth 100000 in
theorem read_edge {b0 : Nat} {H : Type} {enc : TypeId × Value → H} {W : World} {v : Value} {d : DataW H} {p : List MemPlace} (hval : Value.okWide Try.prog W .any b0 24 v) (h : DataW.Trod enc Try.prog W 0 (fun _ => true) true 24 v d p) :
    ∃ e : Ed, v = e.val ∧ inEd e := by
  obtain ⟨cs, rfl, hsz⟩ := okWide_struct Try.underlying24 hval
  have k25 : Try.prog.cellsOf 24 = 2 := by kernel_rfl
  have hsz5 : cs.size = 2 := hsz.trans k25
  obtain ⟨l⟩ := cs
  match l, hsz5 with
  | [c0, c1], _ =>
    obtain ⟨fuel, hf⟩ := h
    obtain ⟨xs, n, _, _, _, hlen, hg⟩ := DataW.trod_struct Try.underlying24 hf
    match xs, hlen with
    | [y0, y1], _ =>
      have k3 : Try.prog.cellsOf 3 = 1 := by kernel_rfl
      have g0 := hg 0 _ rfl
      have g1 := hg 1 _ rfl
      simp only [Value.cells, k3, List.drop_succ_cons, List.drop_zero, List.take_succ_cons, List.take_zero, List.getElem?_cons_zero, List.getElem?_cons_succ] at g0 g1
      obtain ⟨n0, e0, _, w0⟩ := DataW.trod_int Try.underlying3 g0
      obtain ⟨n1, e1, _, w1⟩ := DataW.trod_int Try.underlying3 g1
      cases e0; cases e1
      exact ⟨⟨n0, n1⟩, rfl, wf64 w0, wf64 w1⟩
set_option maxRecDepth 100000 in
theorem read_stones {H : Type} {enc : TypeId × Value → H} {W : World} {b0 : Nat} {v : Value} {d : DataW H} {p : List MemPlace} (hval : Value.okWide Try.prog W .any b0 22 v) (h : DataW.Trod enc Try.prog W 0 (fun _ => true) true 22 v d p) :
    ∃ (l : List Sn) (pl : Pl), SlArg W v l.length 3 (stonesC l) pl ∧ ∀ i < l.length, inSn (gs l i) := by
  obtain ⟨a0, len, cap, rfl⟩ := okWide_slice Try.underlying22 hval
  obtain ⟨fuel, hf⟩ := h
  have k54 : Try.prog.cellsOf 54 = 3 := by kernel_rfl
  have k3 : Try.prog.cellsOf 3 = 1 := by kernel_rfl
  have hempty : ∃ (l : List Sn) (pl : Pl), SlArg W (.slice a0 0 cap) l.length 3 (stonesC l) pl ∧ ∀ i < l.length, inSn (gs l i) :=
    ⟨[], ⟨0, 0, 0⟩, ⟨by simp, fun m ρ i hi hρ => .emptySlice _ _ _ _, rfl, fun h => absurd rfl h⟩, fun n hn => by simp at hn⟩
  rcases Deep.open_slice Try.underlying22 hf with ⟨hcs, -⟩ | ⟨a, len', cap', m, n, D, Pl, hcs, -, hl, hm, hmm, -, hi⟩
  · have hcs' : Value.slice a0 len cap = Value.slice none 0 0 := by simpa [Value.cells] using hcs
    cases hcs'
    exact hempty
  · have hcs' : Value.slice a0 len cap = Value.slice (some a) len' cap' := by simpa [Value.cells] using hcs
    cases hcs'
    simp only [if_true] at hmm
    by_cases h0 : len = 0
    · subst h0; exact hempty
    · have each : ∀ i < len, ∃ q : Sn, (W.cell? (a.add (i * 3)) = some (.int .i64 q.g) ∧ W.cell? ((a.add (i * 3)).add 1) = some (.int .i64 q.c) ∧ W.cell? ((a.add (i * 3)).add 2) = some (.int .i64 q.b)) ∧ inSn q := fun i hil => by
        obtain ⟨cs, hc, ht⟩ := hi i (by omega)
        rw [k54] at hc
        obtain ⟨_, hcl, hat⟩ := World.cells?_some hc
        match cs, hcl with
        | [c0, c1, c2], _ =>
          obtain ⟨zs, m', _, _, _, hlen2, hg2⟩ := DataW.trod_struct Try.underlying54 ht
          match zs, hlen2 with
          | [z0, z1, z2], _ =>
            have q0 := hg2 0 _ rfl
            have q1 := hg2 1 _ rfl
            have q2 := hg2 2 _ rfl
            simp only [k3, List.drop_succ_cons, List.drop_zero, List.take_succ_cons, List.take_zero, List.getElem?_cons_zero, List.getElem?_cons_succ] at q0 q1 q2
            obtain ⟨n0, e0, _, w0⟩ := DataW.trod_int Try.underlying3 q0
            obtain ⟨n1, e1, _, w1⟩ := DataW.trod_int Try.underlying3 q1
            obtain ⟨n2, e2, _, w2⟩ := DataW.trod_int Try.underlying3 q2
            cases e0; cases e1; cases e2
            have g0 := hat 0 (by omega)
            have g1 := hat 1 (by omega)
            have g2 := hat 2 (by omega)
            have ha : (a.add (i * 3)).add 0 = a.add (i * 3) := by simp [Addr.add]
            rw [ha] at g0
            exact ⟨⟨n0, n1, n2⟩, ⟨by simpa using g0, by simpa using g1, by simpa using g2⟩, wf64 w0, wf64 w1, wf64 w2⟩
      obtain ⟨l, hll, hq⟩ := listS_of each
      have h1 := (hq 0 (by omega)).1.1
      have ha : a.add (0 * 3) = a := by simp [Addr.add]
      rw [ha] at h1
      obtain ⟨hb, hs⟩ := cell_lt h1
      obtain ⟨b, o, sp⟩ := a
      simp only at hb hs
      subst hs
      have hm' : len ≤ 9223372036854775807 := by unfold maxLen at hm; omega
      have hlen := stonesC_len l
      refine ⟨l, ⟨b, o, 0⟩, ⟨by omega, fun m ρ i hi hρ => ?_, by omega, fun _ => ⟨hb, fun k hk => ?_⟩⟩, fun i hil => (hq i (by omega)).2⟩
      · rw [hll]
        have := VQ.slice (q := false) (n := m) (ρ := ρ) i 0 len len cap hl hi
        rw [hρ] at this
        simpa using this
      · obtain ⟨g0, g1, g2⟩ := (hq (k / 3) (by omega)).1
        simp only [add_cell] at g0 g1 g2
        have h3 := List.getElem?_eq_getElem (l := stonesC l) (i := k) hk
        have hg := stonesC_get (l := l) (i := k / 3) (j := k % 3) (by omega) (by omega)
        rw [show k / 3 * 3 + k % 3 = k by omega, h3] at hg
        rcases (show k % 3 = 0 ∨ k % 3 = 1 ∨ k % 3 = 2 by omega) with h2 | h2 | h2
        · rw [h2] at hg
          rw [show o + k = o + k / 3 * 3 by omega, g0]; exact hg.symm
        · rw [h2] at hg
          rw [show o + k = o + k / 3 * 3 + 1 by omega, g1]; exact hg.symm
        · rw [h2] at hg
          rw [show o + k = o + k / 3 * 3 + 2 by omega, g2]; exact hg.symm
end Go.Proofs.Ytindbippegiopaa
