/- What plan and Plan of the reference, and Plan of rim do. Conditions: stand in each theorem. -/
import Derived.Test.YtgfnogdecggkkaaKeMU
namespace Go.AH
open Go
theorem osub_rwp {σ : Heap} {n j k : Nat} {π : Rho} {cs : List Value} (hk : π k = ⟨j, 0, 0⟩) (h : σ[j]? = some (.rw cs) ∨ ∃ t, σ[j]? = some (.gr cs t)) (hp : plainL cs = true) : OSub σ n π (π k) (.rw cs) :=
  .inr ⟨by rw [hk], cs, by rw [hk]; exact h, Nat.le_refl _, fun i hi _ => vrel_plainL cs hp i hi⟩
theorem srcR_at {n j : Nat} : srcR n [j] n = ⟨j, 0, 0⟩ := by simp [srcR]
theorem retSl' {σin σ : Heap} {cs : List Value} {n j c : Nat} {v : Value} (hσ : σ.take σin.length = σin) (hp : plainL cs = true) (hg : σ[j]? = some (.rw cs) ∨ ∃ t, σ[j]? = some (.gr cs t)) (hj : Nat.ble σin.length j = true) (hv : plain v = true) (hc : n ≤ c) :
    RetRef σin σ (.tuple #[.slice (some ⟨j, 0, none⟩) n c, v]) (.tuple #[.slice (some ⟨σin.length, 0, none⟩) n n, v]) (σin ++ [.rw cs]) := by
  refine RetRef.src [.rw cs] [j] hσ rfl (by simp [distinctFrom, hj]) ⟨osub_rwp srcR_at hg hp, trivial⟩ ?_
  refine .tuple _ _ rfl fun i hi _ => ?_
  match i, hi with
  | 0, _ => exact vsub_sl (by simp) srcR_at hc
  | 1, _ => exact vrel_plain _ hv
theorem retNil {σin σ : Heap} {v : Value} (hσ : σ.take σin.length = σin) (hv : plain v = true) :
    RetRef σin σ (.tuple #[.slice none 0 0, v]) (.tuple #[.slice (some ⟨σin.length, 0, none⟩) 0 0, v]) (σin ++ [.rw []]) := by
  refine RetRef.src [.rw []] [σin.length] hσ rfl (by simp [distinctFrom]) ⟨.inl rfl, trivial⟩ ?_
  refine .tuple _ _ rfl fun i hi _ => ?_
  match i, hi with
  | 0, _ => exact .emptySlice _ _ _ _
  | 1, _ => exact vrel_plain _ hv
end Go.AH
namespace Go.Proofs.Ytgfnogdecggkkaa
open Go Go.AH
attribute [local irreducible] WOps WCode WFree retQ thenQ blockQ OpOk ACall RetRef roundA roundB
set_option maxRecDepth 100000
set_option maxHeartbeats 1000000
theorem bestF_congr {F F' : Nat → Int × Int} {x : Int} : ∀ {n : Nat}, (∀ i < n, ((F i).1 ≤ x ∧ x ≤ (F i).2 → F' i = F i) ∧ ((F' i).1 ≤ x ∧ x ≤ (F' i).2 → F i = F' i)) → bestF F x n = bestF F' x n ∧ (0 ≤ bestF F x n → F (bestF F x n).toNat = F' (bestF F x n).toNat)
  | 0, _ => ⟨rfl, fun h => by simp [bestF] at h⟩
  | n + 1, h => by
    obtain ⟨e1, e2⟩ := bestF_congr (F := F) (F' := F') (x := x) (n := n) fun i hi => h i (by omega)
    obtain ⟨h1, h2⟩ := h n (by omega)
    have hb := bestF_in F x n
    simp only [bestF]
    rw [← e1]
    generalize bestF F x n = b at e1 e2 hb ⊢
    by_cases hn : (F n).1 ≤ x ∧ x ≤ (F n).2
    · have e3 := h1 hn
      rw [e3]
      by_cases hb0 : b < 0
      · rw [if_pos ⟨hn, .inl hb0⟩, if_pos ⟨hn, .inl hb0⟩]
        exact ⟨rfl, fun _ => by rw [Int.toNat_natCast]; exact e3.symm⟩
      · rw [e2 (by omega)]
        by_cases hlt : (F n).1 < (F' b.toNat).1
        · rw [if_pos ⟨hn, .inr hlt⟩]
          exact ⟨rfl, fun _ => by rw [Int.toNat_natCast]; exact e3.symm⟩
        · rw [if_neg fun hc => hc.2.elim hb0 hlt]
          exact ⟨rfl, fun _ => e2 (by omega)⟩
    · have hn' : ¬ ((F' n).1 ≤ x ∧ x ≤ (F' n).2) := fun hc => hn (by rw [h2 hc]; exact hc)
      rw [if_neg fun hc => hn hc.1, if_neg fun hc => hn' hc.1]
      exact ⟨rfl, e2⟩
theorem grd_congr {F F' : Nat → Int × Int} {n : Nat} {to : Int} (h : ∀ x, to ≤ x → ∀ i < n, ((F i).1 ≤ x ∧ x ≤ (F i).2 → F' i = F i) ∧ ((F' i).1 ≤ x ∧ x ≤ (F' i).2 → F i = F' i)) : ∀ (k : Nat) (x : Int), grd F n to k x = grd F' n to k x
  | 0, x => rfl
  | k + 1, x => by
    simp only [grd]
    by_cases hx : x < to
    · rw [if_pos (.inl hx), if_pos (.inl hx)]
    · obtain ⟨e1, e2⟩ := bestF_congr (h x (by omega))
      rw [← e1]
      by_cases hb : bestF F x n < 0
      · rw [if_pos (.inr hb), if_pos (.inr hb)]
      · rw [if_neg (by omega), if_neg (by omega), e2 (by omega), grd_congr h k]
theorem plan_same {s : St} {l : List Int} {from_ to : Int} : planS (maskF (spanAt s l) fun _ => 0) l.length from_ to = planS (sp s l) l.length from_ to := by
  refine grd_congr (fun x hx i hi => ⟨fun h => ?_, fun h => ?_⟩) _ _
  · have hm : maskF (spanAt s l) (fun _ => 0) i = spanAt s l i := if_pos rfl
    rw [hm] at h ⊢
    exact (at_hold hi h).symm
  · have hm : maskF (spanAt s l) (fun _ => 0) i = spanAt s l i := if_pos rfl
    rw [hm]
    exact sp_hold hi h
def planIf (P : List (Int × Int) × Int) (to : Int) : List (Int × Int) := if P.2 < to then P.1 else []
theorem rplan_ev {σ : Heap} {s : St} {l : List Int} {c : Nat} {f : Nat → Int × Int} {g : Nat → Int} {from_ to : Int} {t r : Nat} (htt : arrAt σ t (ints l)) (hrr : arrAt σ r (rackC s (rkV l t c) f g)) (h12 : l.length ≤ 12) (hs : 1 ≤ s.short) (hto : s.short ≤ to) (hf1 : s.short - 1 ≤ from_) (hf2 : from_ ≤ 100000)
    (hsp : ∀ i < l.length, f i = nw ∨ s.short ≤ (f i).1) (hni : σ.all (fun o => !isIter o) = true) :
    Ev Try.prog 61 [.pointer (some ⟨r, 0, none⟩), .int .i64 from_, .int .i64 to] σ
      (.tuple #[.slice (some ⟨σ.length, 0, none⟩) (planS (maskF f g) l.length from_ to).1.length (planS (maskF f g) l.length from_ to).1.length, .bool (decide ((planS (maskF f g) l.length from_ to).2 < to))])
      (σ ++ [.rw (runsC (planS (maskF f g) l.length from_ to).1)]) := by
  refine Ev.arrsR (news := [.rw (runsC (planS (maskF f g) l.length from_ to).1)]) [ints l, rackC s (rkV l 0 c) f g] [(t, ints l), (r, rackC s (rkV l t c) f g)] (rplan_ok s l c f g from_ to h12 hs hto hf1 hf2 hsp)
    ⟨⟨htt, CellsSub.plain (ints_plain l)⟩, ⟨hrr, rack_sub (by simpa [bsR, rkV] using VQ.slice (q := true) (n := 2) (ρ := bsR [t, r]) 0 0 l.length c c (Nat.le_refl _) (by omega))⟩, trivial⟩
    ⟨by simpa [bsR] using VQ.ptr (q := true) (n := 2) (ρ := bsR [t, r]) 1 0 (by omega), .int _ _, .int _ _, trivial⟩ rfl ?_ ?_ hni
  · simp [ren, renA, renL, shf]
  · simp only [List.map_cons, List.map_nil, renO, renL_plain _ (runs_plain _)]
end Go.Proofs.Ytgfnogdecggkkaa
namespace Go.Proofs.Ytgfnogdecggkkaa
open Go Go.AH
attribute [local irreducible] WOps WCode WFree retQ thenQ blockQ OpOk ACall RetRef roundA roundB
set_option maxRecDepth 100000
set_option maxHeartbeats 1000000
def planE (s : St) (l : List Int) : Int := if checkS s l ≠ 0 then checkS s l else if (planS (sp s l) l.length s.long s.short).2 < s.short then 0 else 19
def planR (s : St) (l : List Int) : List (Int × Int) := if checkS s l ≠ 0 then [] else planIf (planS (sp s l) l.length s.long s.short) s.short
theorem spanAt_lo {s : St} {l : List Int} : ∀ i < l.length, spanAt s l i = nw ∨ s.short ≤ (spanAt s l i).1 := fun i hi => by
  rcases spanAt_in (s := s) i hi with h | h
  · exact .inl h
  · exact .inr h.1
theorem rimPlanS_ok (s : St) (l : List Int) (c : Nat) (hN : l.length ≤ 1000000) (hr : -9223372036854775808 ≤ s.short ∧ s.short ≤ 9223372036854775807) :
    Ev Try.prog 28 [s.val, .slice (some ⟨0, 0, none⟩) l.length c] [.ro (ints l)] (.tuple #[.slice (some ⟨1, 0, none⟩) (planR s l).length (planR s l).length, .int .i64 (planE s l)]) [.ro (ints l), .rw (runsC (planR s l))] := by
  unfold planE planR
  by_cases h : checkS s l = 0
  · obtain ⟨h12, h1, hs, ht⟩ := checkS_zero h
    have hs1 : 1 ≤ s.short := by unfold badStone at hs; omega
    have hs2 : s.short ≤ s.long := by unfold badStone at hs; omega
    have hs3 : s.long ≤ 100000 := by unfold badStone at hs; omega
    rw [if_neg (by omega), if_neg (by omega)]
    have hplan := rplan_ev (σ := [.ro (ints l), .rw s.cells, .rw (rackC s (.slice (some ⟨0, 0, none⟩) l.length c) (spanAt s l) fun _ => 0)]) (s := s) (l := l) (c := c) (f := spanAt s l) (g := fun _ => 0) (from_ := s.long) (to := s.short) (t := 0) (r := 2) (.inl rfl) (.inr (.inl rfl)) h12 hs1 (Int.le_refl _) (by omega) hs3 spanAt_lo rfl
    rw [plan_same] at hplan
    generalize planS (sp s l) l.length s.long s.short = P at hplan ⊢
    refine acall_intro 1 31 Try.func28 rfl rfl rfl rfl rfl ?_
    repeat' (first | (refine gU ?_; first | (refine gMove ?_; first | refine st (ok_move rfl) rfl rfl ?_) | (refine gAssign ?_; first | refine st (ok_assign rfl) rfl rfl ?_) | (refine gFA ?_; first | refine st (ok_fieldAddr rfl) rfl rfl ?_) | (refine gLoad ?_; first | refine st (ok_load rfl (by first | rfl | assumption)) rfl rfl ?_ | refine st (ok_loadA rfl (by first | rfl | assumption)) rfl rfl ?_) | (refine gBin ?_; first | refine st (ok_bin rfl rfl rfl) rfl rfl ?_ | refine st (ok_neq2 rfl rfl) rfl rfl ?_) | (refine gNot ?_; first | refine st (ok_notD rfl) rfl rfl ?_ | refine st (ok_not' rfl) rfl rfl ?_) | (refine gExtract ?_; first | refine st (ok_extract rfl rfl) rfl rfl ?_) | (refine gCall ?_; first | refine st (ok_call rfl rfl rfl (by first | exact open_evBad (by first | exact .inl rfl | exact .inr (.inl rfl) | exact .inr (.inr ⟨_, rfl⟩) | assumption) (by assumption) (by assumption) (by assumption) rfl | exact open_evOk (by first | exact .inl rfl | exact .inr (.inl rfl) | exact .inr (.inr ⟨_, rfl⟩) | assumption) (by assumption) (by assumption) rfl | exact refCheckStone_ev (by first | exact .inl rfl | exact .inr (.inl rfl) | exact .inr (.inr ⟨_, rfl⟩) | assumption) rfl | exact hplan)) rfl rfl ?_) | (refine gBox ?_; first | refine st (ok_box rfl) rfl rfl ?_)) | refine W_seq ?_ | refine W_region ?_ | refine st_nil ?_ | refine tq_n ?_ | refine tq_r ?_ | refine tq_e ?_ | refine bq_n ?_ | refine bq_r ?_ | refine bq_hit rfl ?_ | refine bq_miss rfl ?_ | refine W_skip ?_ | refine W_exit ?_ | refine W_ret ?_ | refine W_block ?_ | refine W_condTA rfl ?_ | refine W_condFA rfl ?_ | (refine W_condD rfl ?_ ?_ <;> intro _) | (refine W_cond rfl ?_ ?_ <;> intro _))
    · rename_i hq
      refine ret0 (.tmp rfl (.tmp rfl .nil)) (retNil rfl rfl) ⟨?_, ?_⟩
      · unfold planIf; rw [if_neg (by omega), if_neg (by omega)]; rfl
      · unfold planIf; rw [if_neg (by omega)]; rfl
    · rename_i hq
      refine ret0 (.tmp rfl (.tmp rfl .nil)) (retSl' (j := 3) rfl (runs_plain P.1) (.inl rfl) rfl rfl (Nat.le_refl _)) ⟨?_, ?_⟩
      · unfold planIf; rw [if_pos (by omega), if_pos (by omega)]; rfl
      · unfold planIf; rw [if_pos (by omega)]; rfl
  · have h' : checkS s l ≠ 0 := h
    rw [if_pos h', if_pos h']
    refine acall_intro 1 31 Try.func28 rfl rfl rfl rfl rfl ?_
    repeat' (first | (refine gU ?_; first | (refine gMove ?_; first | refine st (ok_move rfl) rfl rfl ?_) | (refine gAssign ?_; first | refine st (ok_assign rfl) rfl rfl ?_) | (refine gFA ?_; first | refine st (ok_fieldAddr rfl) rfl rfl ?_) | (refine gLoad ?_; first | refine st (ok_load rfl (by first | rfl | assumption)) rfl rfl ?_ | refine st (ok_loadA rfl (by first | rfl | assumption)) rfl rfl ?_) | (refine gBin ?_; first | refine st (ok_bin rfl rfl rfl) rfl rfl ?_ | refine st (ok_neq2 rfl rfl) rfl rfl ?_) | (refine gNot ?_; first | refine st (ok_notD rfl) rfl rfl ?_ | refine st (ok_not' rfl) rfl rfl ?_) | (refine gExtract ?_; first | refine st (ok_extract rfl rfl) rfl rfl ?_) | (refine gCall ?_; first | refine st (ok_call rfl rfl rfl (by first | exact open_evBad (by first | exact .inl rfl | exact .inr (.inl rfl) | exact .inr (.inr ⟨_, rfl⟩) | assumption) (by assumption) (by assumption) (by assumption) rfl | exact open_evOk (by first | exact .inl rfl | exact .inr (.inl rfl) | exact .inr (.inr ⟨_, rfl⟩) | assumption) (by assumption) (by assumption) rfl | exact refCheckStone_ev (by first | exact .inl rfl | exact .inr (.inl rfl) | exact .inr (.inr ⟨_, rfl⟩) | assumption) rfl | exact hplan)) rfl rfl ?_) | (refine gBox ?_; first | refine st (ok_box rfl) rfl rfl ?_)) | refine W_seq ?_ | refine W_region ?_ | refine st_nil ?_ | refine tq_n ?_ | refine tq_r ?_ | refine tq_e ?_ | refine bq_n ?_ | refine bq_r ?_ | refine bq_hit rfl ?_ | refine bq_miss rfl ?_ | refine W_skip ?_ | refine W_exit ?_ | refine W_ret ?_ | refine W_block ?_ | refine W_condTA rfl ?_ | refine W_condFA rfl ?_ | (refine W_condD rfl ?_ ?_ <;> intro _) | (refine W_cond rfl ?_ ?_ <;> intro _))
    exact ret0 (.tmp rfl (.tmp rfl .nil)) (retNil rfl rfl) ⟨rfl, rfl⟩
theorem rimPlanS_ev {σ : Heap} {s : St} {l : List Int} {a c : Nat} (hx : arrAt σ a (ints l)) (hN : l.length ≤ 1000000) (hr : -9223372036854775808 ≤ s.short ∧ s.short ≤ 9223372036854775807) (hni : σ.all (fun o => !isIter o) = true) :
    Ev Try.prog 28 [s.val, .slice (some ⟨a, 0, none⟩) l.length c] σ (.tuple #[.slice (some ⟨σ.length, 0, none⟩) (planR s l).length (planR s l).length, .int .i64 (planE s l)]) (σ ++ [.rw (runsC (planR s l))]) := by
  refine Ev.arrsN [ints l] [a] (news := [.rw (runsC (planR s l))]) (rimPlanS_ok s l c hN hr) ⟨hx, trivial⟩ ⟨vrel_plain _ rfl, by simpa [bsR] using VQ.slice (q := true) (n := 1) (ρ := bsR [a]) 0 0 l.length c c (Nat.le_refl _) (by omega), trivial⟩ (by simp [ints_plain]) rfl ?_ ?_ hni
  · simp [ren, renA, renL, shf]
  · simp only [List.map_cons, List.map_nil, renO, renL_plain _ (runs_plain _)]
end Go.Proofs.Ytgfnogdecggkkaa
