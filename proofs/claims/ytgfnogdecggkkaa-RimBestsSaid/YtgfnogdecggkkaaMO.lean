/- The own function of RimStones, and how arguments of a law are read. Conditions: stand in each theorem. -/
import Derived.Test.YtgfnogdecggkkaaMN
import Derived.Test.YtgfnogdecggkkaaML
import Derived.Test.YtgfnogdecggkkaaMM
namespace Go.Proofs.Ytgfnogdecggkkaa
open Go Go.AH
attribute [local irreducible] WOps WCode WFree retQ thenQ blockQ OpOk ACall RetRef roundA roundB
set_option maxRecDepth 100000
set_option maxHeartbeats 1000000
theorem many_ok (l : List Int) (c : Nat) (hN : l.length ≤ 9223372036854775807) : Ev Try.prog 16 [.slice (some ⟨0, 0, none⟩) l.length c] [.ro (ints l)] (.bool (decide ((l.length : Int) > 20))) [.ro (ints l)] := by
  refine acall_intro 1 6 Try.func16 rfl rfl rfl rfl rfl ?_
  repeat' (first | (refine gU ?_; first | (refine gMove ?_; first | refine st (ok_move rfl) rfl rfl ?_) | (refine gAssign ?_; first | refine st (ok_assign rfl) rfl rfl ?_) | (refine gBin ?_; first | refine st (ok_bin rfl rfl rfl) rfl rfl ?_) | (refine gLen ?_; first | refine st (ok_len rfl) rfl rfl ?_ | refine st (ok_lenV rfl) rfl rfl ?_)) | refine W_seq ?_ | refine W_region ?_ | refine st_nil ?_ | refine tq_n ?_ | refine tq_r ?_ | refine tq_e ?_ | refine bq_n ?_ | refine bq_r ?_ | refine bq_hit rfl ?_ | refine bq_miss rfl ?_ | refine W_skip ?_ | refine W_exit ?_ | refine W_ret ?_ | refine W_block ?_ | refine W_condT rfl (by first | rfl | exact dtrue (by assumption) | exact dfalse (by assumption) | assumption | exact dtrue (by omega) | exact dfalse (by omega)) ?_ | refine W_condF rfl (by first | rfl | exact dtrue (by assumption) | exact dfalse (by assumption) | assumption | exact dtrue (by omega) | exact dfalse (by omega)) ?_ | (refine W_condD rfl ?_ ?_ <;> intro _) | (refine W_cond rfl ?_ ?_ <;> intro _))
  refine ret0 (.tmp rfl .nil) (.plain rfl rfl) ⟨rfl, rfl⟩
theorem many_ev {σ : Heap} {l : List Int} {x c : Nat} (hx : arrAt σ x (ints l)) (hN : l.length ≤ 9223372036854775807) (hni : σ.all (fun o => !isIter o) = true) :
    Ev Try.prog 16 [.slice (some ⟨x, 0, none⟩) l.length c] σ (.bool (decide ((l.length : Int) > 20))) σ :=
  Ev.arrs [ints l] [x] (many_ok l c hN) ⟨hx, trivial⟩ ⟨by simpa [bsR] using VQ.slice (q := true) (n := 1) (ρ := bsR [x]) 0 0 l.length c c (Nat.le_refl _) (by omega), trivial⟩ (by simp [ints_plain]) rfl hni
theorem works_ev {σ : Heap} (hni : σ.all (fun o => !isIter o) = true) : Ev Try.prog 17 [] σ (.bool true) σ := Ev.nil knW_ok.1 rfl rfl hni
end Go.Proofs.Ytgfnogdecggkkaa
namespace Go.AH
open Go Go.RowKit Go.WideShapes Go.ChangeShapes
section
variable {H : Type} {enc : TypeId × Value → H} {P : Program} {W : World}
theorem wf64 {n : Int} (h : (Lit.int .i64 n).wf = true) : -9223372036854775808 ≤ n ∧ n ≤ 9223372036854775807 := by
  simp only [Lit.wf, Bool.and_eq_true, decide_eq_true_eq] at h
  exact h
def cellsI (l : List Int) : List Value := l.map (.int .i64)
structure SlArg (W : World) (v : Value) (n size : Nat) (cs : List Value) (pl : Pl) : Prop where
  len : n ≤ 9223372036854775807
  rel : ∀ (m : Nat) (ρ : Rho) (i : Nat), i < m → ρ i = pl → VRel m ρ (.slice (some ⟨i, 0, none⟩) n n) v
  sz : cs.length = n * size
  cells : cs ≠ [] → pl.b < W.heap.size ∧ ∀ (k : Nat) (h : k < cs.length), W.cell? ⟨pl.b, pl.o + k, none⟩ = some cs[k]
theorem cell_lt {w : World} {a : Addr} {v : Value} (h : w.cell? a = some v) : a.block < w.heap.size ∧ a.spot = none := by
  unfold World.cell? at h
  split at h
  · rename_i hb
    refine ⟨(Array.getElem?_eq_some_iff.1 hb).1, ?_⟩
    split at h
    · cases h
    · rename_i hs; simpa using hs
  · cases h
theorem read_ints {b0 : Nat} {t e : TypeId} {v : Value} {d : DataW H} {p : List MemPlace} (ht : P.underlying t = some (.slice e)) (he : P.underlying e = some (.int .i64)) (hc : P.cellsOf e = 1) (hval : Value.okWide P W .any b0 t v)
    (h : DataW.Trod enc P W 0 (fun _ => true) true t v d p) : ∃ (l : List Int) (pl : Pl), SlArg W v l.length 1 (cellsI l) pl ∧ ∀ n ∈ l, -9223372036854775808 ≤ n ∧ n ≤ 9223372036854775807 := by
  obtain ⟨a0, len, cap, rfl⟩ := okWide_slice ht hval
  obtain ⟨fuel, hf⟩ := h
  rcases open_ints ht he hc hf with ⟨hcs, -⟩ | ⟨a, len', cap', zs, hcs, -, hl, hm, hz, -, hcell, hwf⟩
  · have hcs' : Value.slice a0 len cap = Value.slice none 0 0 := by simpa [Value.cells] using hcs
    cases hcs'
    exact ⟨[], ⟨0, 0, 0⟩, ⟨by simp, fun m ρ i hi hρ => .emptySlice _ _ _ _, rfl, fun h => absurd rfl h⟩, fun n hn => by simp at hn⟩
  · have hcs' : Value.slice a0 len cap = Value.slice (some a) len' cap' := by simpa [Value.cells] using hcs
    cases hcs'
    simp only [if_true] at hz
    have hlz : (zs.take len).length = len := by rw [List.length_take]; omega
    have hm' : len ≤ 9223372036854775807 := by unfold maxLen at hm; omega
    by_cases h0 : len = 0
    · subst h0
      exact ⟨[], ⟨0, 0, 0⟩, ⟨by simp, fun m ρ i hi hρ => .emptySlice _ _ _ _, rfl, fun h => absurd rfl h⟩, fun n hn => by simp at hn⟩
    · have h1 := hcell 0 (by omega)
      have ha : a.add 0 = a := by simp [Addr.add]
      rw [ha] at h1
      obtain ⟨hb, hs⟩ := cell_lt h1
      obtain ⟨b, o, sp⟩ := a
      simp only at hb hs
      subst hs
      refine ⟨zs.take len, ⟨b, o, 0⟩, ⟨by omega, fun m ρ i hi hρ => ?_, by simp [cellsI], fun _ => ⟨hb, fun k hk => ?_⟩⟩, fun n hn => wf64 (hwf n (List.mem_of_mem_take hn))⟩
      · rw [hlz]
        have := VQ.slice (q := false) (n := m) (ρ := ρ) i 0 len len cap hl hi
        rw [hρ] at this
        simpa using this
      · have hk' : k < len := by
          simp only [cellsI, List.length_map] at hk
          omega
        have h2 := hcell k (by omega)
        have hk2 : zs.getD k 0 = (zs.take len)[k]'(by omega) := by
          rw [List.getElem_take, List.getD_eq_getElem?_getD, List.getElem?_eq_getElem (by omega)]; rfl
        have ha2 : (⟨b, o, none⟩ : Addr).add k = ⟨b, o + k, none⟩ := by
          unfold Addr.add
          split
          · rename_i h; subst h; rfl
          · rfl
        rw [ha2, hk2] at h2
        simpa [cellsI] using h2
theorem SlArg.hro {v : Value} {n size : Nat} {cs : List Value} {pl : Pl} (h : SlArg W v n size cs pl) (hp : plainL cs = true) (ρ : Rho) (i m : Nat) (hρ : ρ i = pl) (hne : cs ≠ []) :
    (ρ i).b < W.heap.size ∧ ∀ (k : Nat) (hk : k < cs.length), ∃ v', W.cell? ⟨(ρ i).b, (ρ i).o + k, none⟩ = some v' ∧ VRel m ρ cs[k] v' := by
  rw [hρ]
  obtain ⟨h1, h2⟩ := h.cells hne
  exact ⟨h1, fun k hk => ⟨_, h2 k hk, vrel_plainL cs hp k hk⟩⟩
theorem read_int {b0 : Nat} {t : TypeId} {v : Value} {d : DataW H} {p : List MemPlace} (ht : P.underlying t = some (.int .i64)) (hval : Value.okWide P W .any b0 t v)
    (h : DataW.Trod enc P W 0 (fun _ => true) true t v d p) : ∃ n : Int, v = .int .i64 n ∧ -9223372036854775808 ≤ n ∧ n ≤ 9223372036854775807 := by
  obtain ⟨n, rfl, _, _, wn⟩ := open_int ht hval h
  exact ⟨n, rfl, wf64 wn⟩
end
end Go.AH
namespace Go.Proofs.Ytgfnogdecggkkaa
open Go Go.AH Go.RowKit Go.WideShapes Go.ChangeShapes
set_option maxRecDepth 100000 in
theorem read_stone {b0 : Nat} {H : Type} {enc : TypeId × Value → H} {W : World} {v : Value} {d : DataW H} {p : List MemPlace} (hval : Value.okWide Try.prog W .any b0 25 v) (h : DataW.Trod enc Try.prog W 0 (fun _ => true) true 25 v d p) :
    ∃ s : St, v = s.val ∧ (-9223372036854775808 ≤ s.long ∧ s.long ≤ 9223372036854775807) ∧ (-9223372036854775808 ≤ s.short ∧ s.short ≤ 9223372036854775807) ∧ (-9223372036854775808 ≤ s.off ∧ s.off ≤ 9223372036854775807) ∧ (-9223372036854775808 ≤ s.lo ∧ s.lo ≤ 9223372036854775807) ∧ (-9223372036854775808 ≤ s.hi ∧ s.hi ≤ 9223372036854775807) := by
  obtain ⟨cs, rfl, hsz⟩ := okWide_struct Try.underlying25 hval
  have k25 : Try.prog.cellsOf 25 = 5 := by kernel_rfl
  have hsz5 : cs.size = 5 := hsz.trans k25
  obtain ⟨l⟩ := cs
  match l, hsz5 with
  | [c0, c1, c2, c3, c4], _ =>
    obtain ⟨fuel, hf⟩ := h
    obtain ⟨xs, n, _, _, _, hlen, hg⟩ := DataW.trod_struct Try.underlying25 hf
    match xs, hlen with
    | [y0, y1, y2, y3], _ =>
      have k2 : Try.prog.cellsOf 2 = 1 := by kernel_rfl
      have k23 : Try.prog.cellsOf 23 = 2 := by kernel_rfl
      have g0 := hg 0 _ rfl
      have g1 := hg 1 _ rfl
      have g2 := hg 2 _ rfl
      have g3 := hg 3 _ rfl
      simp only [Value.cells, k2, k23, List.drop_succ_cons, List.drop_zero, List.take_succ_cons, List.take_zero, List.getElem?_cons_zero, List.getElem?_cons_succ] at g0 g1 g2 g3
      obtain ⟨n0, e0, _, w0⟩ := DataW.trod_int Try.underlying2 g0
      obtain ⟨n1, e1, _, w1⟩ := DataW.trod_int Try.underlying2 g1
      obtain ⟨n2, e2, _, w2⟩ := DataW.trod_int Try.underlying2 g2
      obtain ⟨zs, m, _, _, _, hlen2, hg2⟩ := DataW.trod_struct Try.underlying23 g3
      match zs, hlen2 with
      | [z0, z1], _ =>
        have q0 := hg2 0 _ rfl
        have q1 := hg2 1 _ rfl
        simp only [k2, List.drop_succ_cons, List.drop_zero, List.take_succ_cons, List.take_zero, List.getElem?_cons_zero, List.getElem?_cons_succ] at q0 q1
        obtain ⟨n3, e3, _, w3⟩ := DataW.trod_int Try.underlying2 q0
        obtain ⟨n4, e4, _, w4⟩ := DataW.trod_int Try.underlying2 q1
        cases e0; cases e1; cases e2; cases e3; cases e4
        exact ⟨⟨n0, n1, n2, n3, n4⟩, rfl, wf64 w0, wf64 w1, wf64 w2, wf64 w3, wf64 w4⟩
end Go.Proofs.Ytgfnogdecggkkaa
