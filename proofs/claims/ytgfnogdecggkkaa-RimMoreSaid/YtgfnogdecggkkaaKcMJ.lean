/- The oracle of the runs, and calls at given numbers, run by the kernel. Conditions: none. -/
import Derived.Test.YtgfnogdecggkkaaKcMI
import Derived.Test.YtgfnogdecggkkaaKcMX
import Derived.Test.YtgfnogdecggkkaaKcMT
namespace Go.AH
open Go
def ivAt (cs : List Value) (k : Nat) : Int := match (cs[k]?).bind asInt with | some x => x.2 | none => 0
def gapF (cs : List Value) : Nat → Int × Int := fun k => bif Nat.blt k 12 then (ivAt cs (6 + 2 * k), ivAt cs (7 + 2 * k)) else nw
def gapCond (s : St) (n : Nat) (f : Nat → Int × Int) : Bool :=
  Nat.ble n 12 && decide (1 ≤ s.short) && decide (s.short ≤ s.long) && decide (s.long ≤ 100000) &&
    (List.range n).all (fun i => decide (f i = nw) || (decide (s.short ≤ (f i).1) && decide ((f i).1 ≤ (f i).2) && decide ((f i).2 ≤ s.long))) &&
    (List.range 12).all (fun i => Nat.blt i n || decide (f i = nw))
def gapRun (σ : Heap) (cs : List Value) (t n c : Nat) (tcs : List Value) (s : St) (l : List Int) : Res :=
  onlyIf (eqVL (rackC s (.slice (some ⟨t, 0, none⟩) l.length c) (gapF cs) (fun k => ivAt cs (30 + k))) cs && eqVL (ints l) tcs && Nat.beq l.length n && gapCond s l.length (gapF cs) && σ.all (fun o => !isIter o))
    (some (.int .i64 (gapS (gapF cs) l.length s.short s.long), σ, σ.length))
def gapOrc2 (σ : Heap) (cs : List Value) (q : Nat × Nat × Nat × Nat) : Res :=
  ((σ[q.1]?).bind cellsArr).bind fun tcs => forceL (tcs.map fun v => match asInt v with | some x => x.2 | none => 0) (gapRun σ cs q.1 q.2.2.1 q.2.2.2 tcs ⟨ivAt cs 0, ivAt cs 1, ivAt cs 2, ivAt cs 3, ivAt cs 4⟩)
def gapOrc (σ : Heap) : List Value → Res
  | [v] => (asPtr v).bind fun p => onlyIf (Nat.beq p.2 0) (((σ[p.1]?).bind cellsArr).bind fun cs => ((cs[5]?).bind asSl).bind (gapOrc2 σ cs))
  | _ => none
theorem cellsArr_at {σ : Heap} {b : Nat} {cs : List Value} (h : (σ[b]?).bind cellsArr = some cs) : arrAt σ b cs := by
  obtain ⟨o, h3, h4⟩ := Option.bind_eq_some_iff.1 h
  unfold cellsArr at h4
  split at h4
  · cases h4; exact .inl h3
  · cases h4; exact .inr (.inl h3)
  · cases h4; exact .inr (.inr ⟨_, h3⟩)
  · cases h4
end Go.AH
namespace Go.Proofs.Ytgfnogdecggkkaa
open Go Go.AH
attribute [local irreducible] WOps WCode WFree retQ thenQ blockQ OpOk ACall RetRef roundA roundB
set_option maxRecDepth 100000
set_option maxHeartbeats 1000000
theorem gap_ev {σ : Heap} {s : St} {l : List Int} {c : Nat} {f : Nat → Int × Int} {g : Nat → Int} {t r : Nat} (hn : l.length ≤ 12) (h1 : 1 ≤ s.short) (h2 : s.short ≤ s.long) (h3 : s.long ≤ 100000)
    (hf : ∀ i < l.length, f i = nw ∨ (s.short ≤ (f i).1 ∧ (f i).1 ≤ (f i).2 ∧ (f i).2 ≤ s.long)) (hf' : ∀ i, l.length ≤ i → f i = nw) (ht : arrAt σ t (ints l)) (hr : arrAt σ r (rackC s (rkV l t c) f g))
    (hni : σ.all (fun o => !isIter o) = true) : Ev Try.prog 52 [.pointer (some ⟨r, 0, none⟩)] σ (.int .i64 (gapS f l.length s.short s.long)) σ := by
  exact Ev.arrsP [ints l, rackC s (rkV l 0 c) f g] [(t, ints l), (r, rackC s (rkV l t c) f g)] (gap_ok s l c f g hn h1 h2 h3 hf hf')
    ⟨⟨ht, CellsSub.plain (ints_plain l)⟩, ⟨hr, rack_sub (by simpa [bsR, rkV] using VQ.slice (q := true) (n := 2) (ρ := bsR [t, r]) 0 0 l.length c c (Nat.le_refl _) (by omega))⟩, trivial⟩
    ⟨by simpa [bsR] using VQ.ptr (q := true) (n := 2) (ρ := bsR [t, r]) 1 0 (by omega), trivial⟩ rfl hni
def orc : CallF := fun f args σ => bif Nat.beq f 52 then gapOrc σ args else none
theorem orc_ok : CallOk Try.prog orc := by
  intro f args σ r h
  unfold orc at h
  cases hf : Nat.beq f 52 with
  | false => rw [hf] at h; cases h
  | true =>
    rw [hf] at h
    simp only [cond_true] at h
    have hfe := Nat.eq_of_beq_eq_true hf
    subst hfe
    unfold gapOrc at h
    split at h
    · rename_i v
      simp only [Option.bind_eq_some_iff, onlyIf_iff, gapOrc2, forceL_eq, gapRun, Bool.and_eq_true] at h
      obtain ⟨p, g1, g2, cs, g3, q, ⟨w, g4, g5⟩, tcs, g6, ⟨⟨⟨⟨g7, g8⟩, g9⟩, g10⟩, g11⟩, g12⟩ := h
      cases g12
      have e2 := Nat.eq_of_beq_eq_true g2
      obtain ⟨p1, p2⟩ := p
      simp only at e2 g3
      subst e2
      rw [asPtr_eq g1]
      have ha := cellsArr_at (Option.bind_eq_some_iff.2 g3)
      have hb := cellsArr_at (Option.bind_eq_some_iff.2 g6)
      rw [← eqVL_eq g7] at ha
      rw [← eqVL_eq g8] at hb
      simp only [gapCond, Bool.and_eq_true, decide_eq_true_eq, List.all_eq_true, List.mem_range, Bool.or_eq_true] at g10
      obtain ⟨⟨⟨⟨⟨c1, c2⟩, c3⟩, c4⟩, c5⟩, c6⟩ := g10
      refine ⟨gap_ev (Nat.le_of_ble_eq_true c1) c2 c3 c4 (fun i hi => ?_) (fun i hi => ?_) hb ha g11, Keep.refl⟩
      · rcases c5 i hi with h | ⟨⟨h1, h2⟩, h3⟩
        · exact .inl h
        · exact .inr ⟨h1, h2, h3⟩
      · by_cases h12 : i < 12
        · rcases c6 i h12 with h | h
          · have := Nat.blt_eq.mp h; omega
          · exact h
        · unfold gapF
          rw [show Nat.blt i 12 = false from by
            cases hb : Nat.blt i 12 with
            | false => rfl
            | true => exact absurd (Nat.blt_eq.mp hb) h12]
          rfl
    · cases h
theorem mixed : Try.prog.follows .mixedOrders = true := by kernel_rfl
end Go.Proofs.Ytgfnogdecggkkaa
namespace Go.Proofs.Ytgfnogdecggkkaa
open Go Go.AH
def stn : Value := .agg #[.int .i64 3000, .int .i64 1500, .int .i64 10, .int .i64 540000, .int .i64 720000]
def pul : List Value := [.int .i64 200, .int .i64 250, .int .i64 260, .int .i64 300, .int .i64 390]
def pul2 : List Value := [.int .i64 200, .int .i64 250, .int .i64 260, .int .i64 300, .int .i64 400]
def s5 : Value := .slice (some ⟨0, 0, none⟩) 5 5
def knA0 : Known := ⟨18, [stn, s5, .int .i64 0], [pul], .tuple #[.agg #[.int .i64 2710, .int .i64 3000], .int .i64 0], []⟩
theorem knA0_ok : KnownOk Try.prog knA0 := ⟨ev_run (orc := orc) tabOk orc_ok mixed (n := 200) (lo := 1) (by kernel_rfl), by kernel_rfl, by kernel_rfl⟩
def knA1 : Known := ⟨18, [stn, s5, .int .i64 1], [pul], .tuple #[.agg #[.int .i64 2170, .int .i64 2870], .int .i64 0], []⟩
theorem knA1_ok : KnownOk Try.prog knA1 := ⟨ev_run (orc := orc) tabOk orc_ok mixed (n := 200) (lo := 1) (by kernel_rfl), by kernel_rfl, by kernel_rfl⟩
def knA2 : Known := ⟨18, [stn, s5, .int .i64 2], [pul], .tuple #[.agg #[.int .i64 2087, .int .i64 2759], .int .i64 0], []⟩
theorem knA2_ok : KnownOk Try.prog knA2 := ⟨ev_run (orc := orc) tabOk orc_ok mixed (n := 200) (lo := 1) (by kernel_rfl), by kernel_rfl, by kernel_rfl⟩
def knA3 : Known := ⟨18, [stn, s5, .int .i64 3], [pul], .tuple #[.agg #[.int .i64 1810, .int .i64 2390], .int .i64 0], []⟩
theorem knA3_ok : KnownOk Try.prog knA3 := ⟨ev_run (orc := orc) tabOk orc_ok mixed (n := 200) (lo := 1) (by kernel_rfl), by kernel_rfl, by kernel_rfl⟩
def knA4 : Known := ⟨18, [stn, s5, .int .i64 4], [pul], .tuple #[.agg #[.int .i64 1500, .int .i64 1836], .int .i64 0], []⟩
theorem knA4_ok : KnownOk Try.prog knA4 := ⟨ev_run (orc := orc) tabOk orc_ok mixed (n := 200) (lo := 1) (by kernel_rfl), by kernel_rfl, by kernel_rfl⟩
def knG1 : Known := ⟨20, [stn, s5], [pul], .tuple #[.int .i64 0, .int .i64 5], []⟩
theorem knG1_ok : KnownOk Try.prog knG1 := ⟨ev_run (orc := orc) tabOk orc_ok mixed (n := 200) (lo := 1) (by kernel_rfl), by kernel_rfl, by kernel_rfl⟩
def knG2 : Known := ⟨20, [stn, s5], [pul2], .tuple #[.int .i64 1809, .int .i64 0], []⟩
theorem knG2_ok : KnownOk Try.prog knG2 := ⟨ev_run (orc := orc) tabOk orc_ok mixed (n := 200) (lo := 1) (by kernel_rfl), by kernel_rfl, by kernel_rfl⟩
end Go.Proofs.Ytgfnogdecggkkaa
