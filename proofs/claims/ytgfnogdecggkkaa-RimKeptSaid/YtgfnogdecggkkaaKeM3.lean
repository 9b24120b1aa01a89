/- How arguments of a law are read. Conditions: stand in each theorem. -/
import Derived.Test.YtgfnogdecggkkaaKeMM
import Derived.Test.YtgfnogdecggkkaaKeMN
import Derived.Test.YtgfnogdecggkkaaKeMS
import Derived.Deep.Slices
namespace Go.AH
open Go Go.RowKit Go.WideShapes Go.ChangeShapes
section
variable {H : Type} {enc : TypeId × Value → H} {P : Program} {W : World}
theorem wf64 {n : Int} (h : (Lit.int .i64 n).wf = true) : -9223372036854775808 ≤ n ∧ n ≤ 9223372036854775807 := by
  simp only [Lit.wf, Bool.and_eq_true, decide_eq_true_eq] at h
  exact h
def cellsI (l : List Int) : List Value := l.map (.int .i64)
structure SlArg (W : World) (v : Value) (n size : Nat) (cs : List Value) (pl : Pl) : Prop where
  len : n ≤ 9223372036854775807
  rel : ∀ (m : Nat) (ρ : Rho) (i : Nat), i < m → ρ i = pl → VRel m ρ (.slice (some ⟨i, 0, none⟩) n n) v
  sz : cs.length = n * size
  cells : cs ≠ [] → pl.b < W.heap.size ∧ ∀ (k : Nat) (h : k < cs.length), W.cell? ⟨pl.b, pl.o + k, none⟩ = some cs[k]
theorem cell_lt {w : World} {a : Addr} {v : Value} (h : w.cell? a = some v) : a.block < w.heap.size ∧ a.spot = none := by
  unfold World.cell? at h
  split at h
  · rename_i hb
    refine ⟨(Array.getElem?_eq_some_iff.1 hb).1, ?_⟩
    split at h
    · cases h
    · rename_i hs; simpa using hs
  · cases h
theorem read_ints {b0 : Nat} {t e : TypeId} {v : Value} {d : DataW H} {p : List MemPlace} (ht : P.underlying t = some (.slice e)) (he : P.underlying e = some (.int .i64)) (hc : P.cellsOf e = 1) (hval : Value.okWide P W .any b0 t v)
    (h : DataW.Trod enc P W 0 (fun _ => true) true t v d p) : ∃ (l : List Int) (pl : Pl), SlArg W v l.length 1 (cellsI l) pl ∧ ∀ n ∈ l, -9223372036854775808 ≤ n ∧ n ≤ 9223372036854775807 := by
  obtain ⟨a0, len, cap, rfl⟩ := okWide_slice ht hval
  obtain ⟨fuel, hf⟩ := h
  rcases open_ints ht he hc hf with ⟨hcs, -⟩ | ⟨a, len', cap', zs, hcs, -, hl, hm, hz, -, hcell, hwf⟩
  · have hcs' : Value.slice a0 len cap = Value.slice none 0 0 := by simpa [Value.cells] using hcs
    cases hcs'
    exact ⟨[], ⟨0, 0, 0⟩, ⟨by simp, fun m ρ i hi hρ => .emptySlice _ _ _ _, rfl, fun h => absurd rfl h⟩, fun n hn => by simp at hn⟩
  · have hcs' : Value.slice a0 len cap = Value.slice (some a) len' cap' := by simpa [Value.cells] using hcs
    cases hcs'
    simp only [if_true] at hz
    have hlz : (zs.take len).length = len := by rw [List.length_take]; omega
    have hm' : len ≤ 9223372036854775807 := by unfold maxLen at hm; omega
    by_cases h0 : len = 0
    · subst h0
      exact ⟨[], ⟨0, 0, 0⟩, ⟨by simp, fun m ρ i hi hρ => .emptySlice _ _ _ _, rfl, fun h => absurd rfl h⟩, fun n hn => by simp at hn⟩
    · have h1 := hcell 0 (by omega)
      have ha : a.add 0 = a := by simp [Addr.add]
      rw [ha] at h1
      obtain ⟨hb, hs⟩ := cell_lt h1
      obtain ⟨b, o, sp⟩ := a
      simp only at hb hs
      subst hs
      refine ⟨zs.take len, ⟨b, o, 0⟩, ⟨by omega, fun m ρ i hi hρ => ?_, by simp [cellsI], fun _ => ⟨hb, fun k hk => ?_⟩⟩, fun n hn => wf64 (hwf n (List.mem_of_mem_take hn))⟩
      · rw [hlz]
        have := VQ.slice (q := false) (n := m) (ρ := ρ) i 0 len len cap hl hi
        rw [hρ] at this
        simpa using this
      · have hk' : k < len := by
          simp only [cellsI, List.length_map] at hk
          omega
        have h2 := hcell k (by omega)
        have hk2 : zs.getD k 0 = (zs.take len)[k]'(by omega) := by
          rw [List.getElem_take, List.getD_eq_getElem?_getD, List.getElem?_eq_getElem (by omega)]; rfl
        have ha2 : (⟨b, o, none⟩ : Addr).add k = ⟨b, o + k, none⟩ := by
          unfold Addr.add
          split
          · rename_i h; subst h; rfl
          · rfl
        rw [ha2, hk2] at h2
        simpa [cellsI] using h2
theorem SlArg.hro {v : Value} {n size : Nat} {cs : List Value} {pl : Pl} (h : SlArg W v n size cs pl) (hp : plainL cs = true) (ρ : Rho) (i m : Nat) (hρ : ρ i = pl) (hne : cs ≠ []) :
    (ρ i).b < W.heap.size ∧ ∀ (k : Nat) (hk : k < cs.length), ∃ v', W.cell? ⟨(ρ i).b, (ρ i).o + k, none⟩ = some v' ∧ VRel m ρ cs[k] v' := by
  rw [hρ]
  obtain ⟨h1, h2⟩ := h.cells hne
  exact ⟨h1, fun k hk => ⟨_, h2 k hk, vrel_plainL cs hp k hk⟩⟩
end
end Go.AH
namespace Go.Proofs.Ytgfnogdecggkkaa
open Go Go.AH Go.RowKit Go.WideShapes Go.ChangeShapes
set_option maxRecDepth 100000 in
theorem read_stone {b0 : Nat} {H : Type} {enc : TypeId × Value → H} {W : World} {v : Value} {d : DataW H} {p : List MemPlace} (hval : Value.okWide Try.prog W .any b0 25 v) (h : DataW.Trod enc Try.prog W 0 (fun _ => true) true 25 v d p) :
    ∃ s : St, v = s.val ∧ (-9223372036854775808 ≤ s.long ∧ s.long ≤ 9223372036854775807) ∧ (-9223372036854775808 ≤ s.short ∧ s.short ≤ 9223372036854775807) ∧ (-9223372036854775808 ≤ s.off ∧ s.off ≤ 9223372036854775807) ∧ (-9223372036854775808 ≤ s.lo ∧ s.lo ≤ 9223372036854775807) ∧ (-9223372036854775808 ≤ s.hi ∧ s.hi ≤ 9223372036854775807) := by
  obtain ⟨cs, rfl, hsz⟩ := okWide_struct Try.underlying25 hval
  have k25 : Try.prog.cellsOf 25 = 5 := by kernel_rfl
  have hsz5 : cs.size = 5 := hsz.trans k25
  obtain ⟨l⟩ := cs
  match l, hsz5 with
  | [c0, c1, c2, c3, c4], _ =>
    obtain ⟨fuel, hf⟩ := h
    obtain ⟨xs, n, _, _, _, hlen, hg⟩ := DataW.trod_struct Try.underlying25 hf
    match xs, hlen with
    | [y0, y1, y2, y3], _ =>
      have k2 : Try.prog.cellsOf 2 = 1 := by kernel_rfl
      have k23 : Try.prog.cellsOf 23 = 2 := by kernel_rfl
      have g0 := hg 0 _ rfl
      have g1 := hg 1 _ rfl
      have g2 := hg 2 _ rfl
      have g3 := hg 3 _ rfl
      simp only [Value.cells, k2, k23, List.drop_succ_cons, List.drop_zero, List.take_succ_cons, List.take_zero, List.getElem?_cons_zero, List.getElem?_cons_succ] at g0 g1 g2 g3
      obtain ⟨n0, e0, _, w0⟩ := DataW.trod_int Try.underlying2 g0
      obtain ⟨n1, e1, _, w1⟩ := DataW.trod_int Try.underlying2 g1
      obtain ⟨n2, e2, _, w2⟩ := DataW.trod_int Try.underlying2 g2
      obtain ⟨zs, m, _, _, _, hlen2, hg2⟩ := DataW.trod_struct Try.underlying23 g3
      match zs, hlen2 with
      | [z0, z1], _ =>
        have q0 := hg2 0 _ rfl
        have q1 := hg2 1 _ rfl
        simp only [k2, List.drop_succ_cons, List.drop_zero, List.take_succ_cons, List.take_zero, List.getElem?_cons_zero, List.getElem?_cons_succ] at q0 q1
        obtain ⟨n3, e3, _, w3⟩ := DataW.trod_int Try.underlying2 q0
        obtain ⟨n4, e4, _, w4⟩ := DataW.trod_int Try.underlying2 q1
        cases e0; cases e1; cases e2; cases e3; cases e4
        exact ⟨⟨n0, n1, n2, n3, n4⟩, rfl, wf64 w0, wf64 w1, wf64 w2, wf64 w3, wf64 w4⟩
end Go.Proofs.Ytgfnogdecggkkaa
namespace Go.Proofs.Ytgfnogdecggkkaa
open Go Go.AH Go.RowKit Go.WideShapes Go.ChangeShapes
theorem list_of {Q : Nat → Int × Int → Prop} {n : Nat} (h : ∀ i < n, ∃ p, Q i p) : ∃ l : List (Int × Int), l.length = n ∧ ∀ i < n, Q i (gp l i) := by
  induction n with
  | zero => exact ⟨[], rfl, fun i hi => by omega⟩
  | succ n ih =>
    obtain ⟨l, h1, h2⟩ := ih fun i hi => h i (by omega)
    obtain ⟨p, hp⟩ := h n (by omega)
    refine ⟨l ++ [p], by simp [h1], fun i hi => ?_⟩
    by_cases hin : i < n
    · have : gp (l ++ [p]) i = gp l i := by simp only [gp, List.getD_eq_getElem?_getD]; rw [List.getElem?_append_left (by omega)]
      rw [this]; exact h2 i hin
    · obtain rfl : i = n := by omega
      have : gp (l ++ [p]) i = p := by simp only [gp, List.getD_eq_getElem?_getD]; rw [List.getElem?_append_right (by omega), h1, Nat.sub_self]; rfl
      rw [this]; exact hp
theorem add_cell {b o k : Nat} : (⟨b, o, none⟩ : Addr).add k = ⟨b, o + k, none⟩ := by
  unfold Addr.add
  split
  · rename_i h; subst h; rfl
  · rfl
set_option maxRecDepth 100000 in
theorem read_runs {H : Type} {enc : TypeId × Value → H} {W : World} {b0 : Nat} {v : Value} {d : DataW H} {p : List MemPlace} (hval : Value.okWide Try.prog W .any b0 36 v) (h : DataW.Trod enc Try.prog W 0 (fun _ => true) true 36 v d p) :
    ∃ (l : List (Int × Int)) (pl : Pl), SlArg W v l.length 2 (runsC l) pl ∧ ∀ i < l.length, (-9223372036854775808 ≤ (gp l i).1 ∧ (gp l i).1 ≤ 9223372036854775807) ∧ -9223372036854775808 ≤ (gp l i).2 ∧ (gp l i).2 ≤ 9223372036854775807 := by
  obtain ⟨a0, len, cap, rfl⟩ := okWide_slice Try.underlying36 hval
  obtain ⟨fuel, hf⟩ := h
  have k59 : Try.prog.cellsOf 59 = 2 := by kernel_rfl
  have k2 : Try.prog.cellsOf 2 = 1 := by kernel_rfl
  have k3 : Try.prog.cellsOf 3 = 1 := by kernel_rfl
  have hempty : ∃ (l : List (Int × Int)) (pl : Pl), SlArg W (.slice a0 0 cap) l.length 2 (runsC l) pl ∧ ∀ i < l.length, (-9223372036854775808 ≤ (gp l i).1 ∧ (gp l i).1 ≤ 9223372036854775807) ∧ -9223372036854775808 ≤ (gp l i).2 ∧ (gp l i).2 ≤ 9223372036854775807 :=
    ⟨[], ⟨0, 0, 0⟩, ⟨by simp, fun m ρ i hi hρ => .emptySlice _ _ _ _, rfl, fun h => absurd rfl h⟩, fun n hn => by simp at hn⟩
  rcases Deep.open_slice Try.underlying36 hf with ⟨hcs, -⟩ | ⟨a, len', cap', m, n, D, Pl, hcs, -, hl, hm, hmm, -, hi⟩
  · have hcs' : Value.slice a0 len cap = Value.slice none 0 0 := by simpa [Value.cells] using hcs
    cases hcs'
    exact hempty
  · have hcs' : Value.slice a0 len cap = Value.slice (some a) len' cap' := by simpa [Value.cells] using hcs
    cases hcs'
    simp only [if_true] at hmm
    by_cases h0 : len = 0
    · subst h0; exact hempty
    · have each : ∀ i < len, ∃ q : Int × Int, (W.cell? (a.add (i * 2)) = some (.int .i64 q.1) ∧ W.cell? ((a.add (i * 2)).add 1) = some (.int .i64 q.2)) ∧ (-9223372036854775808 ≤ q.1 ∧ q.1 ≤ 9223372036854775807) ∧ -9223372036854775808 ≤ q.2 ∧ q.2 ≤ 9223372036854775807 := fun i hil => by
        obtain ⟨cs, hc, ht⟩ := hi i (by omega)
        rw [k59] at hc
        obtain ⟨_, hcl, hat⟩ := World.cells?_some hc
        match cs, hcl with
        | [c0, c1], _ =>
          obtain ⟨zs, m', _, _, _, hlen2, hg2⟩ := DataW.trod_struct Try.underlying59 ht
          match zs, hlen2 with
          | [z0, z1], _ =>
            have q0 := hg2 0 _ rfl
            have q1 := hg2 1 _ rfl
            simp only [k2, k3, List.drop_succ_cons, List.drop_zero, List.take_succ_cons, List.take_zero, List.getElem?_cons_zero, List.getElem?_cons_succ] at q0 q1
            obtain ⟨n3, e3, _, w3⟩ := DataW.trod_int Try.underlying2 q0
            obtain ⟨n4, e4, _, w4⟩ := DataW.trod_int Try.underlying3 q1
            cases e3; cases e4
            have g0 := hat 0 (by omega)
            have g1 := hat 1 (by omega)
            have ha : (a.add (i * 2)).add 0 = a.add (i * 2) := by simp [Addr.add]
            rw [ha] at g0
            exact ⟨(n3, n4), ⟨by simpa using g0, by simpa using g1⟩, wf64 w3, wf64 w4⟩
      obtain ⟨l, hll, hq⟩ := list_of each
      have h1 := (hq 0 (by omega)).1.1
      have ha : a.add (0 * 2) = a := by simp [Addr.add]
      rw [ha] at h1
      obtain ⟨hb, hs⟩ := cell_lt h1
      obtain ⟨b, o, sp⟩ := a
      simp only at hb hs
      subst hs
      have hm' : len ≤ 9223372036854775807 := by unfold maxLen at hm; omega
      refine ⟨l, ⟨b, o, 0⟩, ⟨by omega, fun m ρ i hi hρ => ?_, runs_len l, fun _ => ⟨hb, fun k hk => ?_⟩⟩, fun i hil => (hq i (by omega)).2⟩
      · rw [hll]
        have := VQ.slice (q := false) (n := m) (ρ := ρ) i 0 len len cap hl hi
        rw [hρ] at this
        simpa using this
      · rw [runs_len] at hk
        obtain ⟨g1, g2⟩ := (hq (k / 2) (by omega)).1
        simp only [add_cell] at g1 g2
        rcases Nat.mod_two_eq_zero_or_one k with h2 | h2
        · have ek : k / 2 * 2 = k := by omega
          have := runs_get1 (pl := l) (i := k / 2) (by omega)
          rw [ek] at this g1
          have h3 := List.getElem?_eq_getElem (l := runsC l) (i := k) (by rw [runs_len]; omega)
          rw [h3] at this
          rw [g1, ← Option.some.inj this]
        · have ek : k / 2 * 2 + 1 = k := by omega
          have := runs_get2 (pl := l) (i := k / 2) (by omega)
          rw [ek] at this
          have h3 := List.getElem?_eq_getElem (l := runsC l) (i := k) (by rw [runs_len]; omega)
          rw [h3] at this
          rw [show o + k = o + k / 2 * 2 + 1 from by omega, g2, ← Option.some.inj this]
end Go.Proofs.Ytgfnogdecggkkaa
namespace Go.AH
open Go Go.RowKit Go.WideShapes Go.ChangeShapes
section
variable {H : Type} {enc : TypeId × Value → H} {P : Program} {w : World} {base : Nat} {spare : Nat → Bool} {held : Bool}
theorem trodAll_mkn4 {t t' t'' t3 : TypeId} {v v' v'' v3 : Value} {d d' d'' d3 : DataW H} {p p' p'' p3 : List MemPlace} (h : DataW.Trod enc P w base spare held t v d p) (h' : DataW.Trod enc P w base spare held t' v' d' p')
    (h'' : DataW.Trod enc P w base spare held t'' v'' d'' p'') (h3 : DataW.Trod enc P w base spare held t3 v3 d3 p3) : DataW.TrodAll enc P w base spare held [t, t', t'', t3] [v, v', v'', v3] [d, d', d'', d3] (p ++ (p' ++ (p'' ++ p3))) := ⟨p, p' ++ (p'' ++ p3), h, trodAll_mk3 h' h'' h3, rfl⟩
end
section
variable {H : Type} {enc : TypeId × Value → H} {P : Program} {W : World}
theorem read_u32 {b0 : Nat} {t : TypeId} {v : Value} {d : DataW H} {p : List MemPlace} (ht : P.underlying t = some (.int .u32)) (hval : Value.okWide P W .any b0 t v)
    (h : DataW.Trod enc P W 0 (fun _ => true) true t v d p) : ∃ n : Int, v = .int .u32 n ∧ 0 ≤ n ∧ n ≤ 4294967295 := by
  obtain ⟨n, rfl, _, _, wn⟩ := open_int ht hval h
  simp only [Lit.wf, Bool.and_eq_true, decide_eq_true_eq] at wn
  exact ⟨n, rfl, wn⟩
end
end Go.AH
namespace Go.AH
open Go Go.RowKit Go.WideShapes Go.ChangeShapes
section
variable {H : Type} {enc : TypeId × Value → H} {P : Program} {w : World} {base : Nat} {spare : Nat → Bool} {held : Bool}
theorem trodAll_n5 {t0 t1 t2 t3 t4 : TypeId} {args : Array Value} {ds : List (DataW H)} {ps : List MemPlace} (h : DataW.TrodAll enc P w base spare held [t0, t1, t2, t3, t4] args.toList ds ps) :
    ∃ v0 v1 v2 v3 v4 d0 d1 d2 d3 d4 p0 p1 p2 p3 p4, args = #[v0, v1, v2, v3, v4] ∧ ds = [d0, d1, d2, d3, d4] ∧ ps = p0 ++ p1 ++ p2 ++ p3 ++ p4 ∧ DataW.Trod enc P w base spare held t0 v0 d0 p0 ∧ DataW.Trod enc P w base spare held t1 v1 d1 p1 ∧ DataW.Trod enc P w base spare held t2 v2 d2 p2 ∧
      DataW.Trod enc P w base spare held t3 v3 d3 p3 ∧ DataW.Trod enc P w base spare held t4 v4 d4 p4 := by
  obtain ⟨v, vs, d, ds', p, q, hargs, rfl, rfl, hd, hrest⟩ := trodAll_cons h
  obtain ⟨v', vs', d', ds'', p', q', rfl, rfl, rfl, hd', hrest'⟩ := trodAll_cons hrest
  obtain ⟨v'', vs'', d'', ds''', p'', q'', rfl, rfl, rfl, hd'', hrest''⟩ := trodAll_cons hrest'
  obtain ⟨v3, vs3, d3, ds3, p3, q3, rfl, rfl, rfl, hd3, hrest3⟩ := trodAll_cons hrest''
  obtain ⟨v4, vs4, d4, ds4, p4, q4, rfl, rfl, rfl, hd4, hrest4⟩ := trodAll_cons hrest3
  obtain ⟨rfl, rfl, rfl⟩ := trodAll_nil hrest4
  exact ⟨v, v', v'', v3, v4, d, d', d'', d3, d4, p, p', p'', p3, p4, by cases args; simp_all, rfl, by simp, hd, hd', hd'', hd3, hd4⟩
theorem trodAll_mkn5 {t t' t'' t3 t4 : TypeId} {v v' v'' v3 v4 : Value} {d d' d'' d3 d4 : DataW H} {p p' p'' p3 p4 : List MemPlace} (h : DataW.Trod enc P w base spare held t v d p) (h' : DataW.Trod enc P w base spare held t' v' d' p')
    (h'' : DataW.Trod enc P w base spare held t'' v'' d'' p'') (h3 : DataW.Trod enc P w base spare held t3 v3 d3 p3) (h4 : DataW.Trod enc P w base spare held t4 v4 d4 p4) : DataW.TrodAll enc P w base spare held [t, t', t'', t3, t4] [v, v', v'', v3, v4] [d, d', d'', d3, d4] (p ++ (p' ++ (p'' ++ (p3 ++ p4)))) := ⟨p, p' ++ (p'' ++ (p3 ++ p4)), h, trodAll_mkn4 h' h'' h3 h4, rfl⟩
end
end Go.AH
