/- The arguments of a law of hones that are lists of rows; calls that are handed such a list. -/
import Derived.Test.YtindbippegiopaaPsQ5
import Derived.OpenShut
import Derived.Test.YtindbippegiopaaPsQ2
import Derived.Deep.Slices
namespace Go.AH
open Go Go.RowKit Go.WideShapes Go.ChangeShapes
section
variable {H : Type} {enc : TypeId × Value → H} {P : Program} {w : World} {base : Nat} {spare : Nat → Bool} {held : Bool}
theorem trodAll_n5 {t0 t1 t2 t3 t4 : TypeId} {args : Array Value} {ds : List (DataW H)} {ps : List MemPlace} (h : DataW.TrodAll enc P w base spare held [t0, t1, t2, t3, t4] args.toList ds ps) :
    ∃ v0 v1 v2 v3 v4 d0 d1 d2 d3 d4 p0 p1 p2 p3 p4, args = #[v0, v1, v2, v3, v4] ∧ ds = [d0, d1, d2, d3, d4] ∧ ps = p0 ++ p1 ++ p2 ++ p3 ++ p4 ∧ DataW.Trod enc P w base spare held t0 v0 d0 p0 ∧ DataW.Trod enc P w base spare held t1 v1 d1 p1 ∧ DataW.Trod enc P w base spare held t2 v2 d2 p2 ∧
      DataW.Trod enc P w base spare held t3 v3 d3 p3 ∧ DataW.Trod enc P w base spare held t4 v4 d4 p4 := by
  obtain ⟨v, vs, d, ds', p, q, hargs, rfl, rfl, hd, hrest⟩ := trodAll_cons h
  obtain ⟨v', vs', d', ds'', p', q', rfl, rfl, rfl, hd', hrest'⟩ := trodAll_cons hrest
  obtain ⟨v'', vs'', d'', ds''', p'', q'', rfl, rfl, rfl, hd'', hrest''⟩ := trodAll_cons hrest'
  obtain ⟨v3, vs3, d3, ds3, p3, q3, rfl, rfl, rfl, hd3, hrest3⟩ := trodAll_cons hrest''
  obtain ⟨v4, vs4, d4, ds4, p4, q4, rfl, rfl, rfl, hd4, hrest4⟩ := trodAll_cons hrest3
  obtain ⟨rfl, rfl, rfl⟩ := trodAll_nil hrest4
  exact ⟨v, v', v'', v3, v4, d, d', d'', d3, d4, p, p', p'', p3, p4, by cases args; simp_all, rfl, by simp, hd, hd', hd'', hd3, hd4⟩
theorem trodAll_mkn5 {t t' t'' t3 t4 : TypeId} {v v' v'' v3 v4 : Value} {d d' d'' d3 d4 : DataW H} {p p' p'' p3 p4 : List MemPlace} (h : DataW.Trod enc P w base spare held t v d p) (h' : DataW.Trod enc P w base spare held t' v' d' p')
    (h'' : DataW.Trod enc P w base spare held t'' v'' d'' p'') (h3 : DataW.Trod enc P w base spare held t3 v3 d3 p3) (h4 : DataW.Trod enc P w base spare held t4 v4 d4 p4) : DataW.TrodAll enc P w base spare held [t, t', t'', t3, t4] [v, v', v'', v3, v4] [d, d', d'', d3, d4] (p ++ (p' ++ (p'' ++ (p3 ++ p4)))) := ⟨p, p' ++ (p'' ++ (p3 ++ p4)), h, trodAll_mkn4 h' h'' h3 h4, rfl⟩
end
end Go.AH
namespace Go.AH
open Go Go.RowKit Go.WideShapes Go.ChangeShapes
section
variable {H : Type} {enc : TypeId × Value → H} {P : Program} {w : World} {base : Nat} {spare : Nat → Bool} {held : Bool}
end
section
variable {H : Type} {enc : TypeId × Value → H} {P : Program} {W : World}
end
end Go.AH
namespace Go.Proofs.Ytindbippegiopaa
open Go Go.AH Go.RowKit Go.WideShapes Go.ChangeShapes Go.AH.Hone
def inI (n : Int) : Prop := -9223372036854775808 ≤ n ∧ n ≤ 9223372036854775807
def inSn (s : Sn) : Prop := inI s.g ∧ inI s.c ∧ inI s.b
def inEd (e : Ed) : Prop := inI e.d ∧ inI e.b
theorem listS_of {Q : Nat → Sn → Prop} {n : Nat} (h : ∀ i < n, ∃ p, Q i p) : ∃ l : List Sn, l.length = n ∧ ∀ i < n, Q i (gs l i) := by
  induction n with
  | zero => exact ⟨[], rfl, fun i hi => by omega⟩
  | succ n ih =>
    obtain ⟨l, h1, h2⟩ := ih fun i hi => h i (by omega)
    obtain ⟨p, hp⟩ := h n (by omega)
    refine ⟨l ++ [p], by simp [h1], fun i hi => ?_⟩
    by_cases hin : i < n
    · have : gs (l ++ [p]) i = gs l i := by simp only [gs, List.getD_eq_getElem?_getD]; rw [List.getElem?_append_left (by omega)]
      rw [this]; exact h2 i hin
    · obtain rfl : i = n := by omega
      have : gs (l ++ [p]) i = p := by simp only [gs, List.getD_eq_getElem?_getD]; rw [List.getElem?_append_right (by omega), h1, Nat.sub_self]; rfl
      rw [this]; exact hp
theorem add_cell {b o k : Nat} : (⟨b, o, none⟩ : Addr).add k = ⟨b, o + k, none⟩ := by
  unfold Addr.add
  split
  · rename_i h; subst h; rfl
  · rfl
theorem stonesC_get {l : List Sn} {i j : Nat} (hi : i < l.length) (hj : j < 3) : (stonesC l)[i * 3 + j]? = (gs l i).cells[j]? := by
  obtain ⟨r, hr⟩ := stonesC_drop hi
  have : (stonesC l)[i * 3 + j]? = ((stonesC l).drop (i * 3))[j]? := by rw [List.getElem?_drop]
  rw [this, hr, List.getElem?_append_left (by simpa [Sn.cells] using hj)]
set_option maxRecDepth 100000 in
theorem read_edge {b0 : Nat} {H : Type} {enc : TypeId × Value → H} {W : World} {v : Value} {d : DataW H} {p : List MemPlace} (hval : Value.okWide Try.prog W .any b0 24 v) (h : DataW.Trod enc Try.prog W 0 (fun _ => true) true 24 v d p) :
    ∃ e : Ed, v = e.val ∧ inEd e := by
  obtain ⟨cs, rfl, hsz⟩ := okWide_struct Try.underlying24 hval
  have k25 : Try.prog.cellsOf 24 = 2 := by kernel_rfl
  have hsz5 : cs.size = 2 := hsz.trans k25
  obtain ⟨l⟩ := cs
  match l, hsz5 with
  | [c0, c1], _ =>
    obtain ⟨fuel, hf⟩ := h
    obtain ⟨xs, n, _, _, _, hlen, hg⟩ := DataW.trod_struct Try.underlying24 hf
    match xs, hlen with
    | [y0, y1], _ =>
      have k3 : Try.prog.cellsOf 3 = 1 := by kernel_rfl
      have g0 := hg 0 _ rfl
      have g1 := hg 1 _ rfl
      simp only [Value.cells, k3, List.drop_succ_cons, List.drop_zero, List.take_succ_cons, List.take_zero, List.getElem?_cons_zero, List.getElem?_cons_succ] at g0 g1
      obtain ⟨n0, e0, _, w0⟩ := DataW.trod_int Try.underlying3 g0
      obtain ⟨n1, e1, _, w1⟩ := DataW.trod_int Try.underlying3 g1
      cases e0; cases e1
      exact ⟨⟨n0, n1⟩, rfl, wf64 w0, wf64 w1⟩
set_option maxRecDepth 100000 in
theorem read_stones {H : Type} {enc : TypeId × Value → H} {W : World} {b0 : Nat} {v : Value} {d : DataW H} {p : List MemPlace} (hval : Value.okWide Try.prog W .any b0 22 v) (h : DataW.Trod enc Try.prog W 0 (fun _ => true) true 22 v d p) :
    ∃ (l : List Sn) (pl : Pl), SlArg W v l.length 3 (stonesC l) pl ∧ ∀ i < l.length, inSn (gs l i) := by
  obtain ⟨a0, len, cap, rfl⟩ := okWide_slice Try.underlying22 hval
  obtain ⟨fuel, hf⟩ := h
  have k54 : Try.prog.cellsOf 54 = 3 := by kernel_rfl
  have k3 : Try.prog.cellsOf 3 = 1 := by kernel_rfl
  have hempty : ∃ (l : List Sn) (pl : Pl), SlArg W (.slice a0 0 cap) l.length 3 (stonesC l) pl ∧ ∀ i < l.length, inSn (gs l i) :=
    ⟨[], ⟨0, 0, 0⟩, ⟨by simp, fun m ρ i hi hρ => .emptySlice _ _ _ _, rfl, fun h => absurd rfl h⟩, fun n hn => by simp at hn⟩
  rcases Deep.open_slice Try.underlying22 hf with ⟨hcs, -⟩ | ⟨a, len', cap', m, n, D, Pl, hcs, -, hl, hm, hmm, -, hi⟩
  · have hcs' : Value.slice a0 len cap = Value.slice none 0 0 := by simpa [Value.cells] using hcs
    cases hcs'
    exact hempty
  · have hcs' : Value.slice a0 len cap = Value.slice (some a) len' cap' := by simpa [Value.cells] using hcs
    cases hcs'
    simp only [if_true] at hmm
    by_cases h0 : len = 0
    · subst h0; exact hempty
    · have each : ∀ i < len, ∃ q : Sn, (W.cell? (a.add (i * 3)) = some (.int .i64 q.g) ∧ W.cell? ((a.add (i * 3)).add 1) = some (.int .i64 q.c) ∧ W.cell? ((a.add (i * 3)).add 2) = some (.int .i64 q.b)) ∧ inSn q := fun i hil => by
        obtain ⟨cs, hc, ht⟩ := hi i (by omega)
        rw [k54] at hc
        obtain ⟨_, hcl, hat⟩ := World.cells?_some hc
        match cs, hcl with
        | [c0, c1, c2], _ =>
          obtain ⟨zs, m', _, _, _, hlen2, hg2⟩ := DataW.trod_struct Try.underlying54 ht
          match zs, hlen2 with
          | [z0, z1, z2], _ =>
            have q0 := hg2 0 _ rfl
            have q1 := hg2 1 _ rfl
            have q2 := hg2 2 _ rfl
            simp only [k3, List.drop_succ_cons, List.drop_zero, List.take_succ_cons, List.take_zero, List.getElem?_cons_zero, List.getElem?_cons_succ] at q0 q1 q2
            obtain ⟨n0, e0, _, w0⟩ := DataW.trod_int Try.underlying3 q0
            obtain ⟨n1, e1, _, w1⟩ := DataW.trod_int Try.underlying3 q1
            obtain ⟨n2, e2, _, w2⟩ := DataW.trod_int Try.underlying3 q2
            cases e0; cases e1; cases e2
            have g0 := hat 0 (by omega)
            have g1 := hat 1 (by omega)
            have g2 := hat 2 (by omega)
            have ha : (a.add (i * 3)).add 0 = a.add (i * 3) := by simp [Addr.add]
            rw [ha] at g0
            exact ⟨⟨n0, n1, n2⟩, ⟨by simpa using g0, by simpa using g1, by simpa using g2⟩, wf64 w0, wf64 w1, wf64 w2⟩
      obtain ⟨l, hll, hq⟩ := listS_of each
      have h1 := (hq 0 (by omega)).1.1
      have ha : a.add (0 * 3) = a := by simp [Addr.add]
      rw [ha] at h1
      obtain ⟨hb, hs⟩ := cell_lt h1
      obtain ⟨b, o, sp⟩ := a
      simp only at hb hs
      subst hs
      have hm' : len ≤ 9223372036854775807 := by unfold maxLen at hm; omega
      have hlen := stonesC_len l
      refine ⟨l, ⟨b, o, 0⟩, ⟨by omega, fun m ρ i hi hρ => ?_, by omega, fun _ => ⟨hb, fun k hk => ?_⟩⟩, fun i hil => (hq i (by omega)).2⟩
      · rw [hll]
        have := VQ.slice (q := false) (n := m) (ρ := ρ) i 0 len len cap hl hi
        rw [hρ] at this
        simpa using this
      · obtain ⟨g0, g1, g2⟩ := (hq (k / 3) (by omega)).1
        simp only [add_cell] at g0 g1 g2
        have h3 := List.getElem?_eq_getElem (l := stonesC l) (i := k) hk
        have hg := stonesC_get (l := l) (i := k / 3) (j := k % 3) (by omega) (by omega)
        rw [show k / 3 * 3 + k % 3 = k by omega, h3] at hg
        rcases (show k % 3 = 0 ∨ k % 3 = 1 ∨ k % 3 = 2 by omega) with h2 | h2 | h2
        · rw [h2] at hg
          rw [show o + k = o + k / 3 * 3 by omega, g0]; exact hg.symm
        · rw [h2] at hg
          rw [show o + k = o + k / 3 * 3 + 1 by omega, g1]; exact hg.symm
        · rw [h2] at hg
          rw [show o + k = o + k / 3 * 3 + 2 by omega, g2]; exact hg.symm
end Go.Proofs.Ytindbippegiopaa
namespace Go.AH
open Go Go.RowKit Go.WideShapes Go.ChangeShapes
theorem calls_lawD {P : Program} {f : FuncId} {args : List Value} {σ : Heap} {ρ : Rho} {ar : Array Value} {w : World} (h : ACall P f args σ fun v _ => v = .bool true)
    (hro : ∀ i o, σ[i]? = some o → (∃ cs, o = .ro cs ∧ (cs ≠ [] → (ρ i).b < w.heap.size ∧ ∀ (k : Nat) (h : k < cs.length), ∃ v', w.cell? ⟨(ρ i).b, (ρ i).o + k, none⟩ = some v' ∧ VRel σ.length ρ cs[k] v')) ∨
      ∃ qs, o = .deep qs [] ∧ (qs ≠ [] → (ρ i).b < w.heap.size ∧ ∀ (k : Nat) (h : k < qs.length), ∃ v', w.cell? ⟨(ρ i).b, (ρ i).o + k, none⟩ = some v' ∧ FRow (fun b => b < w.heap.size) w qs[k] v'))
    (ha : ARel σ.length ρ args.toArray ar) : Calls P f ar w fun e w' => e = .returned (.bool true) ∧ Below w.heap.size w w' := by
  have hs : Sim (fun b => b < w.heap.size) w ρ σ w := by
    refine ⟨rfl, rfl, rfl, Nat.le_refl _, fun b hb => ⟨hb, rfl⟩, fun i o hi => ?_, fun i j oi oj hi hj hoi hoj _ => ?_⟩
    · rcases hro i o hi with ⟨cs, rfl, hc⟩ | ⟨qs, rfl, hc⟩
      · exact fun hne => hc hne
      · exact ⟨fun hne => hc hne, fun x hx => by simp at hx⟩
    · rcases hro i oi hi with ⟨cs, rfl, _⟩ | ⟨qs, rfl, _⟩
      · exact hoi.elim
      · exact hoi.elim
  refine Calls.mono (callsIn_wide.1 (h _ w ρ ar w hs ha)) ?_
  rintro e w' ⟨ρ', vr, v, σ', rfl, rfl, hv, hl, hag, hs'⟩
  exact ⟨by rw [vrel_plain_eq hv rfl], hs'.os, hs'.tape, hs'.output, hs'.size, fun k hk => (hs'.fgn k hk).2⟩
section
variable {H : Type} {enc : TypeId × Value → H} {P : Program} {W : World}
theorem row_ints {t e : TypeId} {v : Value} {fuel : Nat} {x : DataW H × List MemPlace} (ht : P.underlying t = some (.slice e)) (he : P.underlying e = some (.int .i64)) (hc : P.cellsOf e = 1)
    (hf : DataW.trod enc P W 0 (fun _ => true) true fuel t [v] = some x) : ∃ l : List Int, FRow (fun b => b < W.heap.size) W (ints l) v := by
  rcases open_ints ht he hc hf with ⟨hcs, -⟩ | ⟨a, len, cap, zs, hcs, -, hl, hm, hz, -, hcell, hwf⟩
  · cases hcs
    exact ⟨[], none, 0, rfl, by simp [ints], fun h => absurd rfl h⟩
  · cases hcs
    simp only [if_true] at hz
    have hlz : (zs.take len).length = len := by rw [List.length_take]; omega
    have hli : (ints (zs.take len)).length = len := by rw [ints_length, hlz]
    refine ⟨zs.take len, some a, cap, by rw [hli], by rw [hli]; exact hl, fun hne => ?_⟩
    have h0 : len ≠ 0 := fun h => hne (by subst h; rfl)
    have h1 := hcell 0 (by omega)
    have ha : a.add 0 = a := by simp [Addr.add]
    rw [ha] at h1
    obtain ⟨hb, hs⟩ := cell_lt h1
    obtain ⟨b, o, sp⟩ := a
    simp only at hb hs
    subst hs
    refine ⟨b, o, rfl, hb, fun k hk => ?_⟩
    have hk' : k < len := by omega
    have h2 := hcell k (by omega)
    have hk2 : zs.getD k 0 = (zs.take len)[k]'(by omega) := by
      rw [List.getElem_take, List.getD_eq_getElem?_getD, List.getElem?_eq_getElem (by omega)]; rfl
    have ha2 : (⟨b, o, none⟩ : Addr).add k = ⟨b, o + k, none⟩ := by
      unfold Addr.add
      split
      · rename_i h; subst h; rfl
      · rfl
    rw [ha2, hk2] at h2
    simpa [ints] using h2
end
end Go.AH
namespace Go.Proofs.Ytindbippegiopaa
open Go Go.AH Go.RowKit Go.WideShapes Go.ChangeShapes Go.AH.Hone
theorem listQ_of {Q : Nat → List Int → Prop} {n : Nat} (h : ∀ i < n, ∃ p, Q i p) : ∃ l : List (List Int), l.length = n ∧ ∀ i < n, Q i (gq l i) := by
  induction n with
  | zero => exact ⟨[], rfl, fun i hi => by omega⟩
  | succ n ih =>
    obtain ⟨l, h1, h2⟩ := ih fun i hi => h i (by omega)
    obtain ⟨p, hp⟩ := h n (by omega)
    refine ⟨l ++ [p], by simp [h1], fun i hi => ?_⟩
    by_cases hin : i < n
    · have : gq (l ++ [p]) i = gq l i := by simp only [gq, List.getD_eq_getElem?_getD]; rw [List.getElem?_append_left (by omega)]
      rw [this]; exact h2 i hin
    · obtain rfl : i = n := by omega
      have : gq (l ++ [p]) i = p := by simp only [gq, List.getD_eq_getElem?_getD]; rw [List.getElem?_append_right (by omega), h1, Nat.sub_self]; rfl
      rw [this]; exact hp
structure DpArg (W : World) (v : Value) (qs : List (List Int)) (pl : Pl) : Prop where
  len : qs.length ≤ 9223372036854775807
  rel : ∀ (m : Nat) (ρ : Rho) (i : Nat), i < m → ρ i = pl → VRel m ρ (.slice (some ⟨i, 0, none⟩) qs.length qs.length) v
  cells : rowsQ qs ≠ [] → pl.b < W.heap.size ∧ ∀ (k : Nat) (h : k < (rowsQ qs).length), ∃ v', W.cell? ⟨pl.b, pl.o + k, none⟩ = some v' ∧ FRow (fun b => b < W.heap.size) W (rowsQ qs)[k] v'
set_option maxRecDepth 100000 in
theorem read_rows {H : Type} {enc : TypeId × Value → H} {W : World} {b0 : Nat} {v : Value} {d : DataW H} {p : List MemPlace} (hval : Value.okWide Try.prog W .any b0 37 v) (h : DataW.Trod enc Try.prog W 0 (fun _ => true) true 37 v d p) :
    ∃ (qs : List (List Int)) (pl : Pl), DpArg W v qs pl := by
  obtain ⟨a0, len, cap, rfl⟩ := okWide_slice Try.underlying37 hval
  obtain ⟨fuel, hf⟩ := h
  have k25 : Try.prog.cellsOf 25 = 1 := by kernel_rfl
  have hempty : ∃ (qs : List (List Int)) (pl : Pl), DpArg W (.slice a0 0 cap) qs pl :=
    ⟨[], ⟨0, 0, 0⟩, ⟨by simp, fun m ρ i hi hρ => .emptySlice _ _ _ _, fun h => absurd rfl h⟩⟩
  rcases Deep.open_slice1 Try.underlying37 k25 hf with ⟨hcs, -⟩ | ⟨a, len', cap', m, n, V, D, Pl, hcs, -, hl, hm, hmm, -, hi⟩
  · have hcs' : Value.slice a0 len cap = Value.slice none 0 0 := by simpa [Value.cells] using hcs
    cases hcs'
    exact hempty
  · have hcs' : Value.slice a0 len cap = Value.slice (some a) len' cap' := by simpa [Value.cells] using hcs
    cases hcs'
    simp only [if_true] at hmm
    by_cases h0 : len = 0
    · subst h0; exact hempty
    · have each : ∀ i < len, ∃ q : List Int, W.cell? (a.add i) = some (V i) ∧ FRow (fun b => b < W.heap.size) W (ints q) (V i) := fun i hil => by
        obtain ⟨h1, h2⟩ := hi i (by omega)
        obtain ⟨q, hq⟩ := row_ints Try.underlying25 Try.underlying3 (by kernel_rfl) h2
        exact ⟨q, h1, hq⟩
      obtain ⟨qs, hll, hq⟩ := listQ_of each
      have h1 := (hq 0 (by omega)).1
      have ha : a.add 0 = a := by simp [Addr.add]
      rw [ha] at h1
      obtain ⟨hb, hs⟩ := cell_lt h1
      obtain ⟨b, o, sp⟩ := a
      simp only at hb hs
      subst hs
      have hm' : len ≤ 9223372036854775807 := by unfold maxLen at hm; omega
      refine ⟨qs, ⟨b, o, 0⟩, ⟨by omega, fun m ρ i hi hρ => ?_, fun _ => ⟨hb, fun k hk => ?_⟩⟩⟩
      · rw [hll]
        have := VQ.slice (q := false) (n := m) (ρ := ρ) i 0 len len cap hl hi
        rw [hρ] at this
        simpa using this
      · have hk' : k < len := by rw [rowsQ_len] at hk; omega
        obtain ⟨h2, h3⟩ := hq k hk'
        have ha2 : (⟨b, o, none⟩ : Addr).add k = ⟨b, o + k, none⟩ := add_cell
        rw [ha2] at h2
        have he := rowsQ_get (qs := qs) (i := k) (by omega)
        rw [List.getElem?_eq_getElem hk] at he
        rw [Option.some.inj he]
        exact ⟨_, h2, h3⟩
end Go.Proofs.Ytindbippegiopaa
