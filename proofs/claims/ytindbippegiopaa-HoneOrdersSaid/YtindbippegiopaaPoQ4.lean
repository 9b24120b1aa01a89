/- Hones, plainly: the last row, rows that prove that an edge cannot reach a goal, strokes that reach it. -/
import Derived.Test.YtindbippegiopaaPoQ3
import Derived.Test.YtindbippegiopaaPoQ1
import Derived.Test.YtindbippegiopaaPoMJ
namespace Go.AH.Hone
open Go Go.AH
def genL (N : Nat) (f : Nat → Int) : List Int := (List.range N).map f
attribute [local irreducible] genL
noncomputable def onM (l : List Sn) (goal e : Ed) (n : Int) (i s : Nat) : List Int := genL 707 (ind (PE l goal e n i s))
noncomputable def enM (l : List Sn) (goal e : Ed) (n : Int) (i s : Nat) : List Int := genL l.length (ind (QE l goal e n i s))
noncomputable def en0 (l : List Sn) (goal e : Ed) (n : Int) : List Int := genL l.length (ind fun k => n = 0 ∧ endsP l goal e k)
end Go.AH.Hone
namespace Go.Proofs.Ytindbippegiopaa
open Go Go.AH
attribute [local irreducible] WOps WCode WFree retQ thenQ blockQ scopeQ OpOk ACall RetRef roundA roundB
set_option maxRecDepth 100000
set_option maxHeartbeats 1000000
open Go.AH.Hone
attribute [local irreducible] Go.AH.Hone.tabL Go.AH.Hone.needsL Go.AH.Hone.genL Go.AH.Hone.onM Go.AH.Hone.enM Go.AH.Hone.en0
noncomputable def endsL (l : List Sn) (e goal : Ed) : List Int := haveI := Classical.propDecidable; if bestE l e goal ≠ 0 then [] else endsK l e goal l.length
end Go.Proofs.Ytindbippegiopaa
namespace Go.AH.Hone
open Go Go.AH
def keyE (x : Ed) : Int × Int := (x.d, x.b)
theorem keyE_inj {x y : Ed} (h : keyE x = keyE y) : x = y := by cases x; cases y; simp only [keyE, Prod.mk.injEq] at h; rw [h.1, h.2]
structure MIs (m : KMap) (p : Ed → Int → Prop) : Prop where
  nd : (keys m).Nodup
  all : ∀ (x : Ed) (v : Value), (keyE x, v) ∈ m ↔ ∃ n, v = .int .i64 n ∧ p x n
section
variable {m : KMap} {p q : Ed → Int → Prop}
theorem MIs.mem (h : MIs m p) {r : (Int × Int) × Value} (hr : r ∈ m) : ∃ x n, r = (keyE x, .int .i64 n) ∧ p x n := by
  obtain ⟨⟨d, b⟩, v⟩ := r
  obtain ⟨n, rfl, hp⟩ := (h.all ⟨d, b⟩ v).1 hr
  exact ⟨⟨d, b⟩, n, rfl, hp⟩
theorem MIs.plain (h : MIs m p) : ∀ r ∈ m, plain r.2 = true := fun r hr => by obtain ⟨x, n, rfl, _⟩ := h.mem hr; rfl
theorem MIs.get (h : MIs m p) {x : Ed} {n : Int} (hp : p x n) : mapGet m (keyE x) = some (.int .i64 n) := get_mem h.nd ((h.all x _).2 ⟨n, rfl, hp⟩)
theorem MIs.congr (h : MIs m p) (hpq : ∀ x n, p x n ↔ q x n) : MIs m q := ⟨h.nd, fun x v => (h.all x v).trans (by simp only [hpq])⟩
theorem MIs.nil (hp : ∀ x n, ¬ p x n) : MIs [] p := ⟨List.nodup_nil, fun x v => by simp; intro n _; exact hp x n⟩
theorem MIs.len (h : MIs m p) (hp : ∀ x n, ¬ p x n) : m = [] := by
  cases m with
  | nil => rfl
  | cons r m => obtain ⟨x, n, _, h2⟩ := h.mem (r := r) (by simp); exact absurd h2 (hp x n)
theorem MIs.pos (h : MIs m p) {x : Ed} {n : Int} (hp : p x n) : 0 < m.length := by
  have := (h.all x _).2 ⟨n, rfl, hp⟩
  exact List.length_pos_of_mem this
theorem MIs.up (h : MIs m p) (x : Ed) (n : Int) : MIs (mapUp m (keyE x) (.int .i64 n)) (fun y k => (y = x ∧ k = n) ∨ (y ≠ x ∧ p y k)) := by
  refine ⟨keys_up_nodup h.nd, fun y v => ?_⟩
  rw [mem_up h.nd]
  constructor
  · rintro (h1 | ⟨h1, h2⟩)
    · simp only [Prod.mk.injEq] at h1
      exact ⟨n, h1.2, .inl ⟨keyE_inj h1.1, rfl⟩⟩
    · obtain ⟨k, h3, h4⟩ := (h.all y v).1 h2
      exact ⟨k, h3, .inr ⟨fun he => h1 (by rw [he]), h4⟩⟩
  · rintro ⟨k, rfl, ⟨rfl, rfl⟩ | ⟨h1, h2⟩⟩
    · exact .inl rfl
    · exact .inr ⟨fun he => h1 (keyE_inj he), (h.all y _).2 ⟨k, rfl, h2⟩⟩
theorem MIs.del (h : MIs m p) (x : Ed) : MIs (mapDel m (keyE x)) (fun y k => y ≠ x ∧ p y k) := by
  refine ⟨keys_del_nodup h.nd, fun y v => ?_⟩
  rw [mem_del h.nd]
  constructor
  · rintro ⟨h1, h2⟩
    obtain ⟨k, h3, h4⟩ := (h.all y v).1 h2
    exact ⟨k, h3, fun he => h1 (by rw [he]), h4⟩
  · rintro ⟨k, rfl, h1, h2⟩
    exact ⟨fun he => h1 (keyE_inj he), (h.all y _).2 ⟨k, rfl, h2⟩⟩
end
def al (A : List Ed) (i : Nat) : Ed := A.getD i ⟨0, 0⟩
def AtL (l : List Sn) (goal e : Ed) (n : Int) (x : Ed) : Prop := On l goal e x ∧ needsV l goal x = n
structure LvIs (l : List Sn) (goal e : Ed) (n : Int) (A : List Ed) : Prop where
  nd : A.Nodup
  mem : ∀ x, x ∈ A ↔ AtL l goal e n x
def RE (l : List Sn) (goal : Ed) (A : List Ed) (n : Int) (j s : Nat) (x : Ed) : Prop := 0 < n ∧ needsV l goal x = n - 1 ∧ ∃ i s', i < A.length ∧ s' < l.length ∧ (i < j ∨ i = j ∧ s' < s) ∧ can (gs l s') (al A i) ∧ aft (gs l s') (al A i) = x
def MP (l : List Sn) (goal : Ed) (A : List Ed) (n : Int) (j' j s : Nat) (x : Ed) (k : Int) : Prop := (k = n ∧ ∃ i, j' ≤ i ∧ i < A.length ∧ al A i = x) ∨ (k = n - 1 ∧ RE l goal A n j s x)
def MO (l : List Sn) (goal e : Ed) (t : Nat) (x : Ed) (k : Int) : Prop := k = (t : Int) - 1 ∧ 0 ≤ k ∧ AtL l goal e k x
def KE (l : List Sn) (goal e : Ed) (A : List Ed) (n : Int) (j s k : Nat) : Prop := k < l.length ∧ ((n = 0 ∧ endsP l goal e k) ∨ (n = 1 ∧ ∃ i, i < A.length ∧ (i < j ∨ i = j ∧ k < s) ∧ can (gs l k) (al A i) ∧ needsV l goal (aft (gs l k) (al A i)) = 0))
def KO (l : List Sn) (goal e : Ed) (t k : Nat) : Prop := k < l.length ∧ t ≤ 1 ∧ endsP l goal e k
section
variable {l : List Sn} {goal e : Ed} {A : List Ed} {n : Int}
theorem al_mem {i : Nat} (h : i < A.length) : al A i ∈ A := by
  unfold al; rw [List.getD_eq_getElem?_getD, List.getElem?_eq_getElem h]; exact List.getElem_mem h
theorem al_of {x : Ed} (h : x ∈ A) : ∃ i, i < A.length ∧ al A i = x := by
  obtain ⟨i, hi, rfl⟩ := List.getElem_of_mem h
  exact ⟨i, hi, by unfold al; rw [List.getD_eq_getElem?_getD, List.getElem?_eq_getElem hi]; rfl⟩
theorem al_inj (h : A.Nodup) {i j : Nat} (hi : i < A.length) (hj : j < A.length) (he : al A i = al A j) : i = j := by
  unfold al at he
  rw [List.getD_eq_getElem?_getD, List.getD_eq_getElem?_getD, List.getElem?_eq_getElem hi, List.getElem?_eq_getElem hj] at he
  have h' := List.pairwise_iff_getElem.1 h
  rcases Nat.lt_trichotomy i j with hab | hab | hab
  · exact absurd he (h' i j hi hj hab)
  · exact hab
  · exact absurd he.symm (h' j i hj hi hab)
theorem MO_first (he : 0 ≤ needsV l goal e) {x : Ed} {k : Int} : MO l goal e ((needsV l goal e).toNat + 1) x k ↔ x = e ∧ k = needsV l goal e := by
  constructor
  · rintro ⟨h1, h2, h3, h4⟩
    rcases h3.top with h | h
    · exact ⟨h, by omega⟩
    · omega
  · rintro ⟨rfl, rfl⟩
    exact ⟨by omega, he, .start, rfl⟩
theorem MP_start (hA : LvIs l goal e n A) {t : Nat} (ht : (t : Int) = n + 1) (hn : 0 ≤ n) {x : Ed} {k : Int} : MO l goal e t x k ↔ MP l goal A n 0 0 0 x k := by
  constructor
  · rintro ⟨h1, h2, h3⟩
    have hk : k = n := by omega
    subst hk
    obtain ⟨i, hi, rfl⟩ := al_of ((hA.mem x).2 h3)
    exact .inl ⟨rfl, i, Nat.zero_le _, hi, rfl⟩
  · rintro (⟨rfl, i, _, hi, rfl⟩ | ⟨_, _, _, i, s', _, _, h, _⟩)
    · exact ⟨by omega, hn, (hA.mem _).1 (al_mem hi)⟩
    · omega
theorem MP_del (hA : LvIs l goal e n A) {j : Nat} (hj : j < A.length) {x : Ed} {k : Int} : (x ≠ al A j ∧ MP l goal A n j j 0 x k) ↔ MP l goal A n (j + 1) j 0 x k := by
  have haj := (hA.mem _).1 (al_mem hj)
  constructor
  · rintro ⟨h0, ⟨rfl, i, h1, h2, rfl⟩ | h⟩
    · exact .inl ⟨rfl, i, by by_cases hij : i = j; subst hij; exact absurd rfl h0; omega, h2, rfl⟩
    · exact .inr h
  · rintro (⟨rfl, i, h1, h2, rfl⟩ | ⟨h1, h2⟩)
    · exact ⟨fun he => by have := al_inj hA.nd h2 hj he; omega, .inl ⟨rfl, i, by omega, h2, rfl⟩⟩
    · exact ⟨fun he => by subst he; have := h2.2.1; have := haj.2; omega, .inr ⟨h1, h2⟩⟩
theorem RE_succ {j s : Nat} (hj : j < A.length) (hs : s < l.length) {x : Ed} : RE l goal A n j (s + 1) x ↔ RE l goal A n j s x ∨ (0 < n ∧ needsV l goal x = n - 1 ∧ can (gs l s) (al A j) ∧ aft (gs l s) (al A j) = x) := by
  constructor
  · rintro ⟨h1, h2, i, s', h3, h4, h5, h6, h7⟩
    by_cases hc : i = j ∧ s' = s
    · obtain ⟨rfl, rfl⟩ := hc; exact .inr ⟨h1, h2, h6, h7⟩
    · exact .inl ⟨h1, h2, i, s', h3, h4, by omega, h6, h7⟩
  · rintro (⟨h1, h2, i, s', h3, h4, h5, h6, h7⟩ | ⟨h1, h2, h3, h4⟩)
    · exact ⟨h1, h2, i, s', h3, h4, by omega, h6, h7⟩
    · exact ⟨h1, h2, j, s, hj, hs, by omega, h3, h4⟩
theorem MP_up (hA : LvIs l goal e n A) {j s : Nat} (hj : j < A.length) (hs : s < l.length) (hn : 0 < n) (hc : can (gs l s) (al A j)) (hx : needsV l goal (aft (gs l s) (al A j)) = n - 1) {x : Ed} {k : Int} :
    ((x = aft (gs l s) (al A j) ∧ k = n - 1) ∨ (x ≠ aft (gs l s) (al A j) ∧ MP l goal A n (j + 1) j s x k)) ↔ MP l goal A n (j + 1) j (s + 1) x k := by
  unfold MP
  rw [RE_succ hj hs]
  constructor
  · rintro (⟨rfl, rfl⟩ | ⟨h0, h | ⟨h1, h2⟩⟩)
    · exact .inr ⟨rfl, .inr ⟨hn, hx, hc, rfl⟩⟩
    · exact .inl h
    · exact .inr ⟨h1, .inl h2⟩
  · rintro (⟨rfl, i, h1, h2, rfl⟩ | ⟨h1, h2 | ⟨_, _, _, rfl⟩⟩)
    · refine .inr ⟨fun he => ?_, .inl ⟨rfl, i, h1, h2, rfl⟩⟩
      have := ((hA.mem _).1 (al_mem h2)).2
      rw [he] at this; omega
    · by_cases he : x = aft (gs l s) (al A j)
      · exact .inl ⟨he, h1⟩
      · exact .inr ⟨he, .inr ⟨h1, h2⟩⟩
    · exact .inl ⟨rfl, h1⟩
theorem MP_no {j s : Nat} (hj : j < A.length) (hs : s < l.length) (h : ¬ (0 < n ∧ can (gs l s) (al A j) ∧ needsV l goal (aft (gs l s) (al A j)) = n - 1)) {x : Ed} {k : Int} : MP l goal A n (j + 1) j s x k ↔ MP l goal A n (j + 1) j (s + 1) x k := by
  unfold MP
  rw [RE_succ hj hs]
  constructor
  · rintro (h1 | ⟨h1, h2⟩)
    · exact .inl h1
    · exact .inr ⟨h1, .inl h2⟩
  · rintro (h1 | ⟨h1, h2 | ⟨h3, h4, h5, rfl⟩⟩)
    · exact .inl h1
    · exact .inr ⟨h1, h2⟩
    · exact absurd ⟨h3, h5, h4⟩ h
theorem MP_next {j : Nat} {x : Ed} {k : Int} : MP l goal A n (j + 1) j l.length x k ↔ MP l goal A n (j + 1) (j + 1) 0 x k := by
  unfold MP RE
  refine or_congr Iff.rfl (and_congr Iff.rfl (and_congr Iff.rfl (and_congr Iff.rfl ⟨?_, ?_⟩)))
  · rintro ⟨i, s', h3, h4, h5, h6⟩; exact ⟨i, s', h3, h4, by omega, h6⟩
  · rintro ⟨i, s', h3, h4, h5, h6⟩; exact ⟨i, s', h3, h4, by omega, h6⟩
theorem MP_end (hA : LvIs l goal e n A) {t : Nat} (ht : (t : Int) = n) (hne : n ≤ needsV l goal e) {x : Ed} {k : Int} : MP l goal A n A.length A.length 0 x k ↔ MO l goal e t x k := by
  constructor
  · rintro (⟨_, i, h1, h2, _⟩ | ⟨rfl, h1, h2, i, s', h3, h4, _, h6, rfl⟩)
    · omega
    · obtain ⟨a1, a2⟩ := (hA.mem _).1 (al_mem h3)
      exact ⟨by omega, by omega, .step a1 h4 h6 (by omega) (by omega), h2⟩
  · rintro ⟨h1, h2, h3, h4⟩
    obtain ⟨y, i, g1, g2, g3, g4, g5⟩ := h3.inv (by omega)
    obtain ⟨i', hi', rfl⟩ := al_of ((hA.mem y).2 ⟨g1, by omega⟩)
    exact .inr ⟨by omega, by omega, by omega, i', i, hi', g2, .inl hi', g3, g4⟩
theorem KE_first {t k : Nat} (ht : (t : Int) = n + 1) (hn : 0 ≤ n) : KO l goal e t k ↔ KE l goal e A n 0 0 k := by
  constructor
  · rintro ⟨h1, h2, h3⟩; exact ⟨h1, .inl ⟨by omega, h3⟩⟩
  · rintro ⟨h1, ⟨h2, h3⟩ | ⟨h2, i, _, h, _⟩⟩
    · exact ⟨h1, by omega, h3⟩
    · omega
theorem KE_set {j s k : Nat} (hj : j < A.length) (hs : s < l.length) (hn : n = 1) (hc : can (gs l s) (al A j)) (hx : needsV l goal (aft (gs l s) (al A j)) = 0) : KE l goal e A n j (s + 1) k ↔ KE l goal e A n j s k ∨ k = s := by
  constructor
  · rintro ⟨h1, h | ⟨h2, i, h3, h4, h5⟩⟩
    · exact .inl ⟨h1, .inl h⟩
    · by_cases hcc : i = j ∧ k = s
      · exact .inr hcc.2
      · exact .inl ⟨h1, .inr ⟨h2, i, h3, by omega, h5⟩⟩
  · rintro (⟨h1, h | ⟨h2, i, h3, h4, h5⟩⟩ | rfl)
    · exact ⟨h1, .inl h⟩
    · exact ⟨h1, .inr ⟨h2, i, h3, by omega, h5⟩⟩
    · exact ⟨hs, .inr ⟨hn, j, hj, by omega, hc, hx⟩⟩
theorem KE_no {j s k : Nat} (h : n = 1 → ¬ (can (gs l s) (al A j) ∧ needsV l goal (aft (gs l s) (al A j)) = n - 1)) : KE l goal e A n j s k ↔ KE l goal e A n j (s + 1) k := by
  constructor
  · rintro ⟨h1, h | ⟨h2, i, h3, h4, h5⟩⟩
    · exact ⟨h1, .inl h⟩
    · exact ⟨h1, .inr ⟨h2, i, h3, by omega, h5⟩⟩
  · rintro ⟨h1, h' | ⟨h2, i, h3, h4, h5⟩⟩
    · exact ⟨h1, .inl h'⟩
    · by_cases hcc : i = j ∧ k = s
      · obtain ⟨rfl, rfl⟩ := hcc
        exact absurd ⟨h5.1, by omega⟩ (h h2)
      · exact ⟨h1, .inr ⟨h2, i, h3, by omega, h5⟩⟩
theorem KE_next {j k : Nat} : KE l goal e A n j l.length k ↔ KE l goal e A n (j + 1) 0 k := by
  constructor
  · rintro ⟨h1, h | ⟨h2, i, h3, h4, h5⟩⟩
    · exact ⟨h1, .inl h⟩
    · exact ⟨h1, .inr ⟨h2, i, h3, by omega, h5⟩⟩
  · rintro ⟨h1, h | ⟨h2, i, h3, h4, h5⟩⟩
    · exact ⟨h1, .inl h⟩
    · exact ⟨h1, .inr ⟨h2, i, h3, by omega, h5⟩⟩
theorem KE_end (hA : LvIs l goal e n A) {t k : Nat} (ht : (t : Int) = n) (hn : 0 ≤ n) : KE l goal e A n A.length 0 k ↔ KO l goal e t k := by
  constructor
  · rintro ⟨h1, ⟨h2, h3⟩ | ⟨h2, i, h3, _, h5, h6⟩⟩
    · exact ⟨h1, by omega, h3⟩
    · obtain ⟨a1, a2⟩ := (hA.mem _).1 (al_mem h3)
      exact ⟨h1, by omega, _, a1, h5, by omega, h6⟩
  · rintro ⟨h1, h2, h3⟩
    by_cases h0 : n = 0
    · exact ⟨h1, .inl ⟨h0, h3⟩⟩
    · obtain ⟨x, g1, g2, g3, g4⟩ := h3
      obtain ⟨i, hi, rfl⟩ := al_of ((hA.mem x).2 ⟨g1, by omega⟩)
      exact ⟨h1, .inr ⟨by omega, i, hi, .inl hi, g2, g4⟩⟩
theorem KO_start (hl : ∀ i < l.length, ¬ badSn (gs l i)) (hg : ¬ badEd goal) (he : ¬ badEd e) {k : Nat} (h0 : 0 ≤ needsV l goal e) : ¬ KO l goal e ((needsV l goal e).toNat + 1) k := fun ⟨_, h2, h3⟩ => ends_none hl hg he (by omega) k h3
end
end Go.AH.Hone
namespace Go.AH
open Go
theorem ok_idxSV {P : Program} {rd : Option Nat} {ty : TypeId} {e : Env} {σ : Heap} {x y : Operand} {t el size bytes i n sz : Nat} {agg : Bool} {z : Value} {kd : IntKind} {k : Nat} [ha : Sl P t el] [ht : Ty P el size agg z bytes] (h : evalO e x = some (slvV i sz n)) (hy : evalO e y = some (.int kd (k : Nat)))
    (h1 : k < n) : OpOk P rd (.indexAddr t x y) ty e σ (.pointer (some ⟨i, k * size, none⟩)) σ := by
  obtain ⟨n, rfl⟩ : ∃ m, n = m + 1 := ⟨n - 1, by omega⟩
  have := ok_idxG (P := P) (rd := rd) (ty := ty) (σ := σ) (t := t) (ha := ha) (ht := ht) (sz := sz) (i := i) (n := n + 1) (c := n + 1) h hy (by omega) (by omega)
  simpa using this
end Go.AH
namespace Go.AH.Hone
open Go Go.AH
def gv (n : Int) : Nat → Int | 0 => 0 | _ + 1 => n
theorem gv_max {n : Int} (h : 0 ≤ n) : ∀ k, max (gv n k) n = n
  | 0 => by simp only [gv]; omega
  | _ + 1 => by simp only [gv]; omega
theorem gv_pos {n : Int} : ∀ {k : Nat}, 0 < k → gv n k = n
  | _ + 1, _ => rfl
def edsC (A : List Ed) : List Value := A.flatMap Ed.cells
theorem edsC_len (A : List Ed) : (edsC A).length = A.length * 2 := by
  induction A with
  | nil => rfl
  | cons x A ih => simp only [edsC, List.flatMap_cons, List.length_append, List.length_cons] at ih ⊢; rw [ih]; simp only [Ed.cells, List.length_cons, List.length_nil]; omega
theorem edsC_plain (A : List Ed) : plainL (edsC A) = true := by
  induction A with
  | nil => rfl
  | cons x A ih => simp only [edsC, List.flatMap_cons]; exact ih
theorem edsC_app (A : List Ed) (x : Ed) : edsC (A ++ [x]) = edsC A ++ x.cells := by simp [edsC]
theorem edsC_get : ∀ {A : List Ed} {i : Nat}, i < A.length → (edsC A).drop (i * 2) = (al A i).cells ++ edsC (A.drop (i + 1))
  | [], i, h => by simp at h
  | x :: A, 0, _ => rfl
  | x :: A, i + 1, h => by
    have ih := edsC_get (A := A) (i := i) (by simpa using h)
    have e : (edsC (x :: A)).drop ((i + 1) * 2) = (edsC A).drop (i * 2) := by
      rw [show (i + 1) * 2 = 2 + i * 2 by omega, ← List.drop_drop]; rfl
    rw [e, ih]; rfl
theorem al_cells {σ : Heap} {x i : Nat} {A : List Ed} (hx : arrAt σ x (edsC A)) (hi : i < A.length) : cellsAt σ x (i * 2) 2 = some (al A i).cells := by
  have h1 := edsC_len A
  have h2 := edsC_get hi
  have h3 : ((edsC A).drop (i * 2)).take 2 = (al A i).cells := by rw [h2]; rfl
  have h4 : Nat.ble (i * 2 + 2) (edsC A).length = true := Nat.ble_eq_true_of_le (by omega)
  rcases hx with h | h | ⟨t, h⟩ <;> simp only [cellsAt, h, h4, cond_true, h3] <;> rfl
end Go.AH.Hone
namespace Go.Proofs.Ytindbippegiopaa
open Go Go.AH
attribute [local irreducible] WOps WCode WFree retQ thenQ blockQ scopeQ OpOk ACall RetRef roundA roundB
set_option maxRecDepth 100000
set_option maxHeartbeats 1000000
open Go.AH.Hone
instance : Mp Try.prog 104 24 3 := ⟨by kernel_rfl⟩
theorem ends1_ev {l : List Sn} {goal e : Ed} {c : Nat} {m : KMap} {cs : List Value} {x : Ed} {n : Int} {X Y Z : AObj} (hget : mapGet m (keyE x) = some (.int .i64 n)) :
    Ev Try.prog 83 [x.val, .pointer (some ⟨5, 0, none⟩)] [.ro (benchC goal (.slice (some ⟨1, 0, none⟩) l.length c) (.slice (some ⟨2, 0, none⟩) (lastN l goal + 1) (lastN l goal + 1))), .ro (stonesC l), .ro (rowsC l goal (lastN l goal + 1)), .rw e.cells, mapO m, .rw [.map (some 4)], .rw [.func (.func 57) #[.pointer (some ⟨0, 0, none⟩)] #[]], .rw cs, X, Y, Z] (.int .i64 n) [.ro (benchC goal (.slice (some ⟨1, 0, none⟩) l.length c) (.slice (some ⟨2, 0, none⟩) (lastN l goal + 1) (lastN l goal + 1))), .ro (stonesC l), .ro (rowsC l goal (lastN l goal + 1)), .rw e.cells, mapO m, .rw [.map (some 4)], .rw [.func (.func 57) #[.pointer (some ⟨0, 0, none⟩)] #[]], .rw cs, X, Y, Z] := by
  refine acall_intro 11 7 Try.func83 rfl rfl rfl rfl rfl ?_
  repeat' (first | (refine gU ?_; first | refine st (ok_lookup (i := 4) rfl rfl (k := keyE x) rfl hget) rfl rfl ?_ | (refine gAssign ?_; refine st (ok_assign rfl) rfl rfl ?_) | (refine gLoad ?_; first | refine st (ok_load rfl (by rfl)) rfl rfl ?_ | refine st (ok_loadA rfl (by rfl)) rfl rfl ?_) | (refine gBox ?_; refine st (ok_box rfl) rfl rfl ?_)) | refine W_seq ?_ | refine W_region ?_ | refine st_nil ?_ | refine tq_n ?_ | refine W_ret ?_)
  exact ret0 (.tmp rfl .nil) (.plain rfl rfl) ⟨rfl, rfl⟩
theorem hc_gr (l : List Sn) (goal e : Ed) (c : Nat) (m : KMap) (hm : ∀ q ∈ m, plain q.2 = true) (cs : List Value) (hcs : plainL cs = true) (X : AObj) (hX : oclosed 10 X) (A : List Ed) : HClosed 10 [.ro (benchC goal (.slice (some ⟨1, 0, none⟩) l.length c) (.slice (some ⟨2, 0, none⟩) (lastN l goal + 1) (lastN l goal + 1))), .ro (stonesC l), .ro (rowsC l goal (lastN l goal + 1)), .rw e.cells, mapO m, .rw [.map (some 4)], .rw [.func (.func 57) #[.pointer (some ⟨0, 0, none⟩)] #[]], .rw cs, X, .gr (edsC A) 24] := by
  have h := slice_closed (n := 10) (i := 1) (l := l.length) (c := c) (by omega)
  have h' := slice_closed (n := 10) (i := 2) (l := lastN l goal + 1) (c := lastN l goal + 1) (by omega)
  exact ⟨⟨by simp [benchC, closedL, closed, h.1, h'.1], by simp [benchC, okL, okV, h.2, h'.2]⟩, plainL_closed (stonesC_plain l), plainL_closed (rowsC_plain _ _ _), plainL_closed rfl, map_oclosed hm, ⟨rfl, rfl⟩, ⟨rfl, rfl⟩, plainL_closed hcs, hX, plainL_closed (edsC_plain A), trivial⟩
theorem greatest_ev {l : List Sn} {goal e : Ed} {c : Nat} {m : KMap} {cs : List Value} {A : List Ed} {n : Int} {X : AObj} (hA : 0 < A.length) (hn : 0 ≤ n) (hAl : A.length ≤ 1000000) (hm : ∀ q ∈ m, plain q.2 = true) (hcs : plainL cs = true) (hX : oclosed 10 X) (hget : ∀ x ∈ A, mapGet m (keyE x) = some (.int .i64 n)) :
    Ev Try.prog 82 [slvV 9 2 A.length, .func (.func 83) #[] #[.pointer (some ⟨5, 0, none⟩)]] [.ro (benchC goal (.slice (some ⟨1, 0, none⟩) l.length c) (.slice (some ⟨2, 0, none⟩) (lastN l goal + 1) (lastN l goal + 1))), .ro (stonesC l), .ro (rowsC l goal (lastN l goal + 1)), .rw e.cells, mapO m, .rw [.map (some 4)], .rw [.func (.func 57) #[.pointer (some ⟨0, 0, none⟩)] #[]], .rw cs, X, .gr (edsC A) 24] (.int .i64 n) [.ro (benchC goal (.slice (some ⟨1, 0, none⟩) l.length c) (.slice (some ⟨2, 0, none⟩) (lastN l goal + 1) (lastN l goal + 1))), .ro (stonesC l), .ro (rowsC l goal (lastN l goal + 1)), .rw e.cells, mapO m, .rw [.map (some 4)], .rw [.func (.func 57) #[.pointer (some ⟨0, 0, none⟩)] #[]], .rw cs, X, .gr (edsC A) 24] := by
  refine acall_intro 10 21 Try.func82 rfl rfl rfl rfl rfl ?_
  repeat' (first | (refine gU ?_; first | (refine gMove ?_; refine st (ok_move rfl) rfl rfl ?_) | (refine gAssign ?_; refine st (ok_assign rfl) rfl rfl ?_) | (refine gLen ?_; refine st (ok_lenV rfl) rfl rfl ?_)) | refine W_seq ?_ | refine W_region ?_ | refine st_nil ?_ | refine tq_n ?_ | refine W_block ?_)
  refine W_loopS (ι := Nat) (fun k => [(1, .func (.func 83) #[] #[.pointer (some ⟨5, 0, none⟩)]), (5, .int .i64 (gv n k)), (8, slvV 9 2 A.length), (9, .int .i64 (A.length : Int)), (10, .int .i64 (k : Int))])
    (fun _ => [.ro (benchC goal (.slice (some ⟨1, 0, none⟩) l.length c) (.slice (some ⟨2, 0, none⟩) (lastN l goal + 1) (lastN l goal + 1))), .ro (stonesC l), .ro (rowsC l goal (lastN l goal + 1)), .rw e.cells, mapO m, .rw [.map (some 4)], .rw [.func (.func 57) #[.pointer (some ⟨0, 0, none⟩)] #[]], .rw cs, X, .gr (edsC A) 24]) (fun k => A.length - k) (fun k => k ≤ A.length) 0 (by simp) (.same ⟨rfl, rfl, rfl, rfl, rfl, trivial⟩) (by omega) ?_
  intro k hk
  by_cases hkA : k < A.length
  · have hkA' : (k : Int) < (A.length : Int) := by omega
    have hc1 := al_cells (σ := [.ro (benchC goal (.slice (some ⟨1, 0, none⟩) l.length c) (.slice (some ⟨2, 0, none⟩) (lastN l goal + 1) (lastN l goal + 1))), .ro (stonesC l), .ro (rowsC l goal (lastN l goal + 1)), .rw e.cells, mapO m, .rw [.map (some 4)], .rw [.func (.func 57) #[.pointer (some ⟨0, 0, none⟩)] #[]], .rw cs, X, .gr (edsC A) 24]) (x := 9) (A := A) (i := k) (.inr (.inr ⟨24, rfl⟩)) hkA
    have hend := ends1_ev (l := l) (goal := goal) (e := e) (c := c) (cs := cs) (X := X) (Y := .gr (edsC A) 24) (Z := .rw (al A k).cells) (hget _ (al_mem hkA))
    have hmax := gv_max hn k
    repeat' (first | (refine gU ?_; first | refine st (ok_max rfl rfl) rfl rfl ?_ | refine st (ok_idxSV rfl rfl (by omega)) rfl rfl ?_ | (refine gMove ?_; refine st (ok_move rfl) rfl rfl ?_) | (refine gAssign ?_; refine st (ok_assign rfl) rfl rfl ?_) | (refine gLoad ?_; refine st (ok_loadA rfl (by first | rfl | exact hc1)) rfl rfl ?_) | (refine gAdd ?_; refine st (ok_inc rfl rfl (by omega)) rfl rfl ?_) | (refine gBin ?_; refine st (ok_bin rfl rfl rfl) rfl rfl ?_) | (refine gCall ?_; refine st (ok_call rfl rfl rfl (by exact hend)) rfl rfl ?_) | (refine gAlloc ?_; refine st (ok_alloc rfl) rfl rfl ?_) | (refine gStore ?_; refine stN (ok_store rfl rfl rfl rfl (by rfl)) rfl ?_)) | refine W_seq ?_ | refine W_region ?_ | refine st_nil ?_ | refine tq_n ?_ | refine bq_n ?_ | refine W_skip ?_ | refine W_block ?_ | refine W_condTA rfl ?_)
    refine ⟨rfl, k + 1, by omega, by omega, ?_⟩
    rw [hmax]
    exact StRef.drop [.ro (benchC goal (.slice (some ⟨1, 0, none⟩) l.length c) (.slice (some ⟨2, 0, none⟩) (lastN l goal + 1) (lastN l goal + 1))), .ro (stonesC l), .ro (rowsC l goal (lastN l goal + 1)), .rw e.cells, mapO m, .rw [.map (some 4)], .rw [.func (.func 57) #[.pointer (some ⟨0, 0, none⟩)] #[]], .rw cs, X, .gr (edsC A) 24] [_] (by simp) (hc_gr l goal e c m hm cs hcs X hX A) (by (repeat' (first | exact trivial | exact ⟨rfl, rfl, rfl⟩ | exact ⟨rfl, closed_slvV rfl, okV_slv⟩ | refine ⟨?_, ?_⟩)))
  · obtain rfl : k = A.length := by omega
    rw [gv_pos hA]
    repeat' (first | (refine gU ?_; first | (refine gMove ?_; refine st (ok_move rfl) rfl rfl ?_) | (refine gAssign ?_; refine st (ok_assign rfl) rfl rfl ?_) | (refine gBin ?_; refine st (ok_bin rfl rfl rfl) rfl rfl ?_)) | refine W_seq ?_ | refine W_region ?_ | refine st_nil ?_ | refine tq_n ?_ | refine tq_e ?_ | refine bq_hit rfl ?_ | refine W_exit ?_ | refine W_ret ?_ | refine W_condFA rfl ?_)
    exact ret0 (.tmp rfl .nil) (.plain rfl rfl) ⟨rfl, rfl⟩
end Go.Proofs.Ytindbippegiopaa
namespace Go.AH.Hone
open Go Go.AH
def tab73 : List (List Bool × List Nat) := [([false, false, false, false, false, false, false, false, false], [0, 1, 2, 3, 7]), ([true, false, false, false, false, false, false, false, false], [1, 2, 3, 7]), ([true, true, false, false, false, false, false, false, false], [2, 3, 7]), ([true, true, true, false, false, false, false, false, false], [3, 7]), ([true, true, true, true, false, false, false, false, false], [4, 7]), ([true, true, true, true, true, false, false, false, false], [5, 7]), ([true, true, true, true, true, true, false, false, false], [6, 7]), ([true, true, true, true, true, true, true, false, false], [7]), ([true, true, true, true, true, true, true, true, false], [8]), ([true, true, true, true, true, true, true, true, true], []), ([true, true, true, true, true, true, false, true, false], [6]), ([true, true, true, true, true, false, false, true, false], [5]), ([true, true, true, true, false, false, false, true, false], [4]), ([true, true, true, false, false, false, false, true, false], [3]), ([true, true, false, true, false, false, false, false, false], [2, 7]), ([true, true, false, true, false, false, false, true, false], [2]), ([true, true, false, false, false, false, false, true, false], [2, 3]), ([true, false, true, false, false, false, false, false, false], [1, 3, 7]), ([true, false, true, true, false, false, false, false, false], [1, 4, 7]), ([true, false, true, true, true, false, false, false, false], [1, 7]), ([true, false, true, true, true, false, false, true, false], [1]), ([true, false, true, true, false, false, false, true, false], [1, 4]), ([true, false, true, false, false, false, false, true, false], [1, 3]), ([true, false, false, true, false, false, false, false, false], [1, 2, 7]), ([true, false, false, true, false, false, false, true, false], [1, 2]), ([true, false, false, false, false, false, false, true, false], [1, 2, 3]), ([false, true, false, false, false, false, false, false, false], [0, 2, 3, 7]), ([false, true, true, false, false, false, false, false, false], [0, 3, 7]), ([false, true, true, true, false, false, false, false, false], [0, 4, 7]), ([false, true, true, true, true, false, false, false, false], [0, 7]), ([false, true, true, true, true, false, false, true, false], [0]), ([false, true, true, true, false, false, false, true, false], [0, 4]), ([false, true, true, false, false, false, false, true, false], [0, 3]), ([false, true, false, true, false, false, false, false, false], [0, 2, 7]), ([false, true, false, true, false, false, false, true, false], [0, 2]), ([false, true, false, false, false, false, false, true, false], [0, 2, 3]), ([false, false, true, false, false, false, false, false, false], [0, 1, 3, 7]), ([false, false, true, true, false, false, false, false, false], [0, 1, 4, 7]), ([false, false, true, true, true, false, false, false, false], [0, 1, 7]), ([false, false, true, true, true, false, false, true, false], [0, 1]), ([false, false, true, true, false, false, false, true, false], [0, 1, 4]), ([false, false, true, false, false, false, false, true, false], [0, 1, 3]), ([false, false, false, true, false, false, false, false, false], [0, 1, 2, 7]), ([false, false, false, true, false, false, false, true, false], [0, 1, 2]), ([false, false, false, false, false, false, false, true, false], [0, 1, 2, 3])]
def E73 (e : Ed) (n : Int) (L : List Bool) : Env := (0, .pointer (some ⟨0, 0, none⟩)) :: (3, .pointer (some ⟨3, 0, none⟩)) :: selE L [(19, .map (some 4)), (20, e.val), (21, .pointer (some ⟨0, 0, none⟩)), (22, e.val), (23, .int .i64 n), (0, .pointer (some ⟨0, 0, none⟩)), (24, .map (some 4)), (5, .pointer (some ⟨5, 0, none⟩)), (0, .pointer (some ⟨0, 0, none⟩))]
def m73 (e : Ed) (n : Int) : List Bool → KMap
  | [_, _, _, _, _, true, _, _, _] => mapUp [] (keyE e) (.int .i64 n)
  | _ => []
def c73 : List Bool → Value
  | [_, _, _, _, _, _, _, _, true] => .map (some 4)
  | _ => .map none
def S73 (e : Ed) (n : Int) (B : Heap) (L : List Bool) : Heap := B ++ [(match L with | true :: _ => mapO (m73 e n L) | _ => .dead), (match L with | [_, _, _, _, _, _, _, true, _] => .rw [c73 L] | _ => .dead)]
def sixC (f : Nat → Int) : List Value := [.int .i64 (f 0), .int .i64 (f 1), .int .i64 (f 2), .int .i64 (f 3), .int .i64 (f 4), .int .i64 (f 5)]
theorem sixC_get {f : Nat → Int} : ∀ {b : Nat}, b < 6 → (sixC f)[b]? = some (.int .i64 (f b))
  | 0, _ => rfl | 1, _ => rfl | 2, _ => rfl | 3, _ => rfl | 4, _ => rfl | 5, _ => rfl
theorem sixC_set {f : Nat → Int} {v : Int} : ∀ {b : Nat}, b < 6 → splice (sixC f) b [.int .i64 v] = sixC (setF f b v)
  | 0, _ => rfl | 1, _ => rfl | 2, _ => rfl | 3, _ => rfl | 4, _ => rfl | 5, _ => rfl
theorem sixC_congr {f g : Nat → Int} (h : ∀ i < 6, f i = g i) : sixC f = sixC g := by
  simp only [sixC, h 0 (by omega), h 1 (by omega), h 2 (by omega), h 3 (by omega), h 4 (by omega), h 5 (by omega)]
noncomputable def koC (l : List Sn) (goal e : Ed) (t : Nat) : List Value := sixC (ind (KO l goal e t))
theorem koC_start {l : List Sn} {goal e : Ed} (hl : ∀ i < l.length, ¬ badSn (gs l i)) (hg : ¬ badEd goal) (he : ¬ badEd e) (h0 : 0 ≤ needsV l goal e) : sixC (fun _ => 0) = koC l goal e ((needsV l goal e).toNat + 1) :=
  sixC_congr fun i _ => (ind_neg (KO_start hl hg he h0)).symm
theorem koC_cells {l : List Sn} {goal e : Ed} {t : Nat} {A B C D F G H : AObj} {σ : Heap} : cellsAt (A :: B :: C :: D :: F :: G :: H :: .rw (koC l goal e t) :: σ) 7 0 6 = some (koC l goal e t) := rfl
theorem lv_some {l : List Sn} {goal e : Ed} (hl : ∀ i < l.length, ¬ badSn (gs l i)) (hg : ¬ badEd goal) (he : ¬ badEd e) : ∀ d : Nat, (d : Int) ≤ needsV l goal e → ∃ x, ¬ badEd x ∧ AtL l goal e (needsV l goal e - d) x
  | 0, _ => ⟨e, he, .start, by simp⟩
  | d + 1, h => by
    obtain ⟨x, h1, h2, h3⟩ := lv_some hl hg he d (by omega)
    obtain ⟨i, hi, hc, hn⟩ := needs_down hl hg h1 (n := (needsV l goal e - (d + 1)).toNat) (by omega)
    exact ⟨_, aft_ok (hl i hi) h1 hc, .step h2 hi hc (by omega) (by omega), by omega⟩
noncomputable def keC (l : List Sn) (goal e : Ed) (A : List Ed) (n : Int) (j s : Nat) : List Value := sixC (ind (KE l goal e A n j s))
theorem keC_first {l : List Sn} {goal e : Ed} {A : List Ed} {t : Nat} : koC l goal e (t + 1) = keC l goal e A t 0 0 := sixC_congr fun i _ => ind_congr (KE_first (by omega) (by omega))
theorem keC_end {l : List Sn} {goal e : Ed} {A : List Ed} {t : Nat} (h : LvIs l goal e t A) : keC l goal e A t A.length 0 = koC l goal e t := sixC_congr fun i _ => ind_congr (KE_end h rfl (by omega))
theorem keC_next {l : List Sn} {goal e : Ed} {A : List Ed} {n : Int} {j : Nat} : keC l goal e A n j l.length = keC l goal e A n (j + 1) 0 := sixC_congr fun i _ => ind_congr KE_next
theorem keC_no {l : List Sn} {goal e : Ed} {A : List Ed} {n : Int} {j s : Nat} (h : n = 1 → ¬ (can (gs l s) (al A j) ∧ needsV l goal (aft (gs l s) (al A j)) = n - 1)) : keC l goal e A n j s = keC l goal e A n j (s + 1) := sixC_congr fun i _ => ind_congr (KE_no h)
theorem keC_plain (l : List Sn) (goal e : Ed) (A : List Ed) (n : Int) (j s : Nat) : plainL (keC l goal e A n j s) = true := rfl
theorem keC_put {l : List Sn} {goal e : Ed} {A : List Ed} {n : Int} {j s : Nat} {σ : Heap} (hσ : σ[7]? = some (.rw (keC l goal e A n j s))) (hl6 : l.length ≤ 6) (hj : j < A.length) (hs : s < l.length) (hn : n = 1) (hc : can (gs l s) (al A j)) (hx : needsV l goal (aft (gs l s) (al A j)) = 0) :
    putCells σ 7 (0 + s * 1) [.int .i64 1] = some (σ.set 7 (.rw (keC l goal e A n j (s + 1)))) := by
  refine putRw hσ (by simp only [keC, sixC, List.length_cons, List.length_nil]; omega) (by simp [keC, sixC]) ?_
  rw [Nat.zero_add, Nat.mul_one]
  exact (sixC_set (by omega)).trans (sixC_congr fun i _ => ind_set (KE_set hj hs hn hc hx))
theorem koC_plain (l : List Sn) (goal e : Ed) (t : Nat) : plainL (koC l goal e t) = true := rfl
theorem koC_get {l : List Sn} {goal e : Ed} {t b : Nat} (h : b < 6) : (koC l goal e t)[b]? = some (.int .i64 (ind (KO l goal e t) b)) := sixC_get h
theorem endsK_ko {l : List Sn} {goal e : Ed} {k : Nat} (h : KO l goal e 0 k) : endsK l e goal (min (k + 1) l.length) = endsK l e goal (min k l.length) ++ [(k : Int)] := by
  rw [show min (k + 1) l.length = k + 1 by have := h.1; omega, show min k l.length = k by have := h.1; omega]
  exact endsK_pos h.2.2
theorem endsK_no {l : List Sn} {goal e : Ed} {k : Nat} (h : ¬ KO l goal e 0 k) : endsK l e goal (min (k + 1) l.length) = endsK l e goal (min k l.length) := by
  by_cases hk : k < l.length
  · rw [show min (k + 1) l.length = k + 1 by omega, show min k l.length = k by omega]
    exact endsK_neg fun he => h ⟨hk, by omega, he⟩
  · rw [show min (k + 1) l.length = l.length by omega, show min k l.length = l.length by omega]
theorem m73_is {l : List Sn} {goal e : Ed} (h0 : 0 ≤ needsV l goal e) : MIs (mapUp [] (keyE e) (.int .i64 (needsV l goal e))) (MO l goal e ((needsV l goal e).toNat + 1)) := by
  have := (MIs.nil (p := fun _ _ => False) (fun _ _ h => h)).up e (needsV l goal e)
  refine this.congr fun x k => ?_
  rw [MO_first h0]; simp
theorem m73_plain {e : Ed} {n : Int} {L : List Bool} : ∀ q ∈ m73 e n L, plain q.2 = true := by
  unfold m73
  split
  · intro q hq
    rw [mem_up (l := []) List.nodup_nil] at hq
    rcases hq with rfl | ⟨_, hq⟩
    · rfl
    · simp at hq
  · intro q hq; simp at hq
theorem retSl1 {σin σ : Heap} {cs : List Value} {n j sz : Nat} (hσ : σ.take σin.length = σin) (hp : plainL cs = true) (hg : σ[j]? = some (.rw cs) ∨ ∃ t, σ[j]? = some (.gr cs t)) (hj : Nat.ble σin.length j = true) :
    RetRef σin σ (slvV j sz n) (.slice (some ⟨σin.length, 0, none⟩) n n) (σin ++ [.rw cs]) :=
  RetRef.src [.rw cs] [j] hσ rfl (by simp [distinctFrom, hj]) ⟨osub_rwp srcR_at hg hp, trivial⟩ (vsub_slvR (by simp) srcR_at)
theorem nodup_le : ∀ (n : Nat) (L : List Nat), L.Nodup → (∀ x ∈ L, x < n) → L.length ≤ n
  | 0, L, _, h => by cases L with | nil => simp | cons x L => have := h x (by simp); omega
  | n + 1, L, hd, h => by
    have := nodup_le n (L.erase n) (hd.erase n) (fun x hx => by
      have h1 := h x (List.mem_of_mem_erase hx)
      have h2 : x ≠ n := fun he => by subst he; exact (List.Nodup.not_mem_erase hd) hx
      omega)
    by_cases hn : n ∈ L
    · rw [List.length_erase_of_mem hn] at this; omega
    · rw [List.erase_of_not_mem hn] at this; omega
theorem eds_len {l : List Sn} {goal e : Ed} {n : Int} {A : List Ed} (hl : ∀ i < l.length, ¬ badSn (gs l i)) (he : ¬ badEd e) (hnd : A.Nodup) (h : ∀ x ∈ A, AtL l goal e n x) : A.length ≤ 707 := by
  have := nodup_le 707 (A.map ixE) (List.pairwise_map.2 (List.Pairwise.imp_of_mem (fun {x y} hx hy hne hxy => hne (by
    rw [← (edI_ix ((h x hx).1.ok hl he)).1, ← (edI_ix ((h y hy).1.ok hl he)).1, hxy])) hnd)) (fun i hi => by
    obtain ⟨x, hx, rfl⟩ := List.mem_map.1 hi
    exact (edI_ix ((h x hx).1.ok hl he)).2)
  simpa using this
theorem osub_dead {σ : Heap} {n : Nat} {π : Rho} {p : Pl} : OSub σ n π p .dead := trivial
end Go.AH.Hone
namespace Go.Proofs.Ytindbippegiopaa
open Go Go.AH
attribute [local irreducible] WOps WCode WFree retQ thenQ blockQ scopeQ OpOk ACall RetRef roundA roundB
set_option maxRecDepth 100000
set_option maxHeartbeats 1000000
open Go.AH.Hone
theorem hc_e4 (l : List Sn) (goal e : Ed) (c : Nat) : HClosed 4 [.ro (benchC goal (.slice (some ⟨1, 0, none⟩) l.length c) (.slice (some ⟨2, 0, none⟩) (lastN l goal + 1) (lastN l goal + 1))), .ro (stonesC l), .ro (rowsC l goal (lastN l goal + 1)), .rw e.cells] := by
  have h := slice_closed (n := 4) (i := 1) (l := l.length) (c := c) (by omega)
  have h' := slice_closed (n := 4) (i := 2) (l := lastN l goal + 1) (c := lastN l goal + 1) (by omega)
  exact ⟨⟨by simp [benchC, closedL, closed, h.1, h'.1], by simp [benchC, okL, okV, h.2, h'.2]⟩, plainL_closed (stonesC_plain l), plainL_closed (rowsC_plain _ _ _), plainL_closed rfl, trivial⟩
theorem hc_e8 (l : List Sn) (goal e : Ed) (c : Nat) (m : KMap) (hm : ∀ q ∈ m, plain q.2 = true) (cs : List Value) (hcs : plainL cs = true) : HClosed 8 [.ro (benchC goal (.slice (some ⟨1, 0, none⟩) l.length c) (.slice (some ⟨2, 0, none⟩) (lastN l goal + 1) (lastN l goal + 1))), .ro (stonesC l), .ro (rowsC l goal (lastN l goal + 1)), .rw e.cells, mapO m, .rw [.map (some 4)], .rw [.func (.func 57) #[.pointer (some ⟨0, 0, none⟩)] #[]], .rw cs] := by
  have h := slice_closed (n := 8) (i := 1) (l := l.length) (c := c) (by omega)
  have h' := slice_closed (n := 8) (i := 2) (l := lastN l goal + 1) (c := lastN l goal + 1) (by omega)
  exact ⟨⟨by simp [benchC, closedL, closed, h.1, h'.1], by simp [benchC, okL, okV, h.2, h'.2]⟩, plainL_closed (stonesC_plain l), plainL_closed (rowsC_plain _ _ _), plainL_closed rfl, map_oclosed hm, ⟨rfl, rfl⟩, ⟨rfl, rfl⟩, plainL_closed hcs, trivial⟩
theorem hc_e9 (l : List Sn) (goal e : Ed) (c : Nat) (m : KMap) (hm : ∀ q ∈ m, plain q.2 = true) (cs : List Value) (hcs : plainL cs = true) (seen : List Value) : HClosed 9 [.ro (benchC goal (.slice (some ⟨1, 0, none⟩) l.length c) (.slice (some ⟨2, 0, none⟩) (lastN l goal + 1) (lastN l goal + 1))), .ro (stonesC l), .ro (rowsC l goal (lastN l goal + 1)), .rw e.cells, mapO m, .rw [.map (some 4)], .rw [.func (.func 57) #[.pointer (some ⟨0, 0, none⟩)] #[]], .rw cs, .iter 4 seen] := by
  have h := slice_closed (n := 9) (i := 1) (l := l.length) (c := c) (by omega)
  have h' := slice_closed (n := 9) (i := 2) (l := lastN l goal + 1) (c := lastN l goal + 1) (by omega)
  exact ⟨⟨by simp [benchC, closedL, closed, h.1, h'.1], by simp [benchC, okL, okV, h.2, h'.2]⟩, plainL_closed (stonesC_plain l), plainL_closed (rowsC_plain _ _ _), plainL_closed rfl, map_oclosed hm, ⟨rfl, rfl⟩, ⟨rfl, rfl⟩, plainL_closed hcs, (by show (4 : Nat) < 9; omega), trivial⟩
theorem hc_f9 (l : List Sn) (goal e : Ed) (c : Nat) (m : KMap) (hm : ∀ q ∈ m, plain q.2 = true) (cs : List Value) (hcs : plainL cs = true) (A : List Ed) : HClosed 9 [.ro (benchC goal (.slice (some ⟨1, 0, none⟩) l.length c) (.slice (some ⟨2, 0, none⟩) (lastN l goal + 1) (lastN l goal + 1))), .ro (stonesC l), .ro (rowsC l goal (lastN l goal + 1)), .rw e.cells, mapO m, .rw [.map (some 4)], .rw [.func (.func 57) #[.pointer (some ⟨0, 0, none⟩)] #[]], .rw cs, .gr (edsC A) 24] := by
  have h := slice_closed (n := 9) (i := 1) (l := l.length) (c := c) (by omega)
  have h' := slice_closed (n := 9) (i := 2) (l := lastN l goal + 1) (c := lastN l goal + 1) (by omega)
  exact ⟨⟨by simp [benchC, closedL, closed, h.1, h'.1], by simp [benchC, okL, okV, h.2, h'.2]⟩, plainL_closed (stonesC_plain l), plainL_closed (rowsC_plain _ _ _), plainL_closed rfl, map_oclosed hm, ⟨rfl, rfl⟩, ⟨rfl, rfl⟩, plainL_closed hcs, plainL_closed (edsC_plain A), trivial⟩
theorem hc_g15 (l : List Sn) (goal e : Ed) (c : Nat) (m : KMap) (hm : ∀ q ∈ m, plain q.2 = true) (cs : List Value) (hcs : plainL cs = true) (A : List Ed) (x : Ed) (t : Nat) (L : AObj) (hL : oclosed 15 L) : HClosed 15 [.ro (benchC goal (.slice (some ⟨1, 0, none⟩) l.length c) (.slice (some ⟨2, 0, none⟩) (lastN l goal + 1) (lastN l goal + 1))), .ro (stonesC l), .ro (rowsC l goal (lastN l goal + 1)), .rw e.cells, mapO m, .rw [.map (some 4)], .rw [.func (.func 57) #[.pointer (some ⟨0, 0, none⟩)] #[]], .rw cs, .gr (edsC A) 24, .rw x.cells, .rw [.int .i64 (t : Int)], .rw [.pointer (some ⟨0, 0, none⟩)], .rw x.cells, .dfr, L] := by
  have h := slice_closed (n := 15) (i := 1) (l := l.length) (c := c) (by omega)
  have h' := slice_closed (n := 15) (i := 2) (l := lastN l goal + 1) (c := lastN l goal + 1) (by omega)
  exact ⟨⟨by simp [benchC, closedL, closed, h.1, h'.1], by simp [benchC, okL, okV, h.2, h'.2]⟩, plainL_closed (stonesC_plain l), plainL_closed (rowsC_plain _ _ _), plainL_closed rfl, map_oclosed hm, ⟨rfl, rfl⟩, ⟨rfl, rfl⟩, plainL_closed hcs, plainL_closed (edsC_plain A), plainL_closed rfl, plainL_closed rfl, ⟨rfl, rfl⟩, plainL_closed rfl, trivial, hL, trivial⟩
attribute [local irreducible] Go.AH.Hone.koC Go.AH.Hone.keC
theorem ends_ok (l : List Sn) (goal e : Ed) (c : Nat) (hbe : ¬ badEd e) (hbg : ¬ badEd goal) (hl6 : l.length ≤ 6) (hl : ∀ i < l.length, ¬ badSn (gs l i)) (h0 : 0 ≤ needsV l goal e) :
    Ev Try.prog 73 [.pointer (some ⟨0, 0, none⟩), e.val] [.ro (benchC goal (.slice (some ⟨1, 0, none⟩) l.length c) (.slice (some ⟨2, 0, none⟩) (lastN l goal + 1) (lastN l goal + 1))), .ro (stonesC l), .ro (rowsC l goal (lastN l goal + 1))] (.slice (some ⟨3, 0, none⟩) (endsK l e goal l.length).length (endsK l e goal l.length).length) [.ro (benchC goal (.slice (some ⟨1, 0, none⟩) l.length c) (.slice (some ⟨2, 0, none⟩) (lastN l goal + 1) (lastN l goal + 1))), .ro (stonesC l), .ro (rowsC l goal (lastN l goal + 1)), .rw (ints (endsK l e goal l.length))] := by
  have hN707 := needs_le (l := l) (goal := goal) (e := e) hbg
  refine acall_intro 3 99 Try.func73 rfl rfl rfl rfl rfl ?_
  refine W_seq ?_
  refine W_region ?_
  refine st (ok_box rfl) rfl rfl ?_
  refine st (ok_assign rfl) rfl rfl ?_
  refine st_nil ?_
  refine tq_n ?_
  refine W_seq ?_
  refine W_regionT (E73 e (needsV l goal e)) (S73 e (needsV l goal e) [.ro (benchC goal (.slice (some ⟨1, 0, none⟩) l.length c) (.slice (some ⟨2, 0, none⟩) (lastN l goal + 1) (lastN l goal + 1))), .ro (stonesC l), .ro (rowsC l goal (lastN l goal + 1)), .rw e.cells]) tab73 (List.replicate 9 true) (by kernel_rfl) (by simp) (by decide +kernel) (by decide +kernel) (by decide +kernel) (by decide +kernel) ?_ ?_ ?_
  · exact StRef.src [.ro (benchC goal (.slice (some ⟨1, 0, none⟩) l.length c) (.slice (some ⟨2, 0, none⟩) (lastN l goal + 1) (lastN l goal + 1))), .ro (stonesC l), .ro (rowsC l goal (lastN l goal + 1)), .rw e.cells] _ [4, 5] (by simp) rfl (hc_e4 l goal e c) rfl rfl ⟨(by exact osub_dead), (by exact osub_dead), trivial⟩ (by (repeat' (first | exact trivial | refine ⟨er_closed (m := 4) rfl (fun i hi => srcR_lt hi) (by simp) (by rfl) rfl, ?_⟩)))
  · unfold tab73
    repeat' (first | exact True.intro | refine And.intro ?_ ?_)
    all_goals (refine ⟨_, rfl, ?_⟩)
    all_goals first
      | (refine st ok_makeMap rfl rfl ?_
         refine st_nil ?_
         exact ⟨rfl, StRef.src [.ro (benchC goal (.slice (some ⟨1, 0, none⟩) l.length c) (.slice (some ⟨2, 0, none⟩) (lastN l goal + 1) (lastN l goal + 1))), .ro (stonesC l), .ro (rowsC l goal (lastN l goal + 1)), .rw e.cells] _ [6, 5] (by simp) rfl (hc_e4 l goal e c) rfl rfl ⟨(by exact osub_map (j := 6) rfl rfl m73_plain), (by first | exact osub_dead | exact osub_rwp (j := 5) rfl (.inl rfl) rfl), trivial⟩ (by (repeat' (first | exact trivial | refine ⟨er_plain rfl rfl, ?_⟩ | refine ⟨er_closed (m := 4) rfl (fun i hi => srcR_lt hi) (by simp) (by rfl) rfl, ?_⟩ | refine ⟨er_map rfl (by simp) rfl, ?_⟩ | refine ⟨er_ptr rfl (by simp) rfl, ?_⟩)))⟩)
      | (refine stN (ok_insert (i := 4) (l := []) (k := keyE e) (v := .int .i64 (needsV l goal e)) rfl rfl rfl rfl rfl) rfl ?_
         refine st_nil ?_
         exact ⟨rfl, .same (by repeat' (first | exact trivial | refine ⟨rfl, ?_⟩))⟩)
      | (refine st (ok_alloc rfl) rfl rfl ?_
         refine st_nil ?_
         exact ⟨rfl, StRef.src [.ro (benchC goal (.slice (some ⟨1, 0, none⟩) l.length c) (.slice (some ⟨2, 0, none⟩) (lastN l goal + 1) (lastN l goal + 1))), .ro (stonesC l), .ro (rowsC l goal (lastN l goal + 1)), .rw e.cells] _ [4, 6] (by simp) rfl (hc_e4 l goal e c) rfl rfl ⟨(by first | exact osub_dead | exact osub_map (j := 4) rfl rfl m73_plain), (by exact osub_rwp (j := 6) rfl (.inl rfl) rfl), trivial⟩ (by (repeat' (first | exact trivial | refine ⟨er_plain rfl rfl, ?_⟩ | refine ⟨er_closed (m := 4) rfl (fun i hi => srcR_lt hi) (by simp) (by rfl) rfl, ?_⟩ | refine ⟨er_map rfl (by simp) rfl, ?_⟩ | refine ⟨er_ptr rfl (by simp) rfl, ?_⟩)))⟩)
      | (repeat' (first | (refine gU ?_; first | (refine gMove ?_; refine st (ok_move rfl) rfl rfl ?_) | (refine gLoad ?_; refine st (ok_loadA rfl (by rfl)) rfl rfl ?_) | (refine gCall ?_; refine st (ok_call rfl rfl rfl (by exact needs_ev ⟨.inl rfl, .inl rfl, .inl rfl⟩ hbe hbg hl rfl)) rfl rfl ?_) | (refine gStore ?_; refine stN (ok_store rfl rfl rfl rfl (by rfl)) rfl ?_)) | refine st_nil ?_)
         exact ⟨rfl, .same (by repeat' (first | exact trivial | refine ⟨rfl, ?_⟩))⟩)
  · refine tq_n ?_
    refine W_cut [(0, .pointer (some ⟨0, 0, none⟩)), (5, .pointer (some ⟨5, 0, none⟩))] [.ro (benchC goal (.slice (some ⟨1, 0, none⟩) l.length c) (.slice (some ⟨2, 0, none⟩) (lastN l goal + 1) (lastN l goal + 1))), .ro (stonesC l), .ro (rowsC l goal (lastN l goal + 1)), .rw e.cells, mapO (mapUp [] (keyE e) (.int .i64 (needsV l goal e))), .rw [.map (some 4)]] rfl (by repeat' (first | exact trivial | refine ⟨rfl, ?_⟩)) ?_
    have hm0 := m73_is h0
    generalize mapUp [] (keyE e) (.int .i64 (needsV l goal e)) = m0 at *
    repeat' (first | (refine gU ?_; first | (refine gMove ?_; refine st (ok_move rfl) rfl rfl ?_) | (refine gMkF ?_; refine st (ok_makeFunc rfl rfl) rfl rfl ?_) | (refine gAlloc ?_; refine st (ok_alloc rfl) rfl rfl ?_) | (refine gStore ?_; refine stN (ok_store rfl rfl rfl rfl (by rfl)) rfl ?_)) | refine W_seq ?_ | refine W_region ?_ | refine st_nil ?_ | refine tq_n ?_ | refine W_block ?_)
    refine Tail.W_loopD (ι := Nat × KMap) (fun q => [(0, .pointer (some ⟨0, 0, none⟩)), (5, .pointer (some ⟨5, 0, none⟩)), (6, .pointer (some ⟨6, 0, none⟩)), (7, .pointer (some ⟨7, 0, none⟩))])
      (fun q => [.ro (benchC goal (.slice (some ⟨1, 0, none⟩) l.length c) (.slice (some ⟨2, 0, none⟩) (lastN l goal + 1) (lastN l goal + 1))), .ro (stonesC l), .ro (rowsC l goal (lastN l goal + 1)), .rw e.cells, mapO q.2, .rw [.map (some 4)], .rw [.func (.func 57) #[.pointer (some ⟨0, 0, none⟩)] #[]], .rw (koC l goal e q.1)]) (fun q => q.1) (fun q => (q.1 : Int) ≤ needsV l goal e + 1 ∧ MIs q.2 (MO l goal e q.1)) ((needsV l goal e).toNat + 1, m0) rfl (by (repeat' (first | exact Tail.tail_ret rfl | refine Tail.tail_then ?_ ?_ | refine Tail.tail_block ?_ | refine Tail.W_tail rfl ?_))) (fun _ => by simp) (fun q hq => hc_e8 l goal e c q.2 hq.2.plain _ (koC_plain l goal e q.1))
      (.of ?_ (by simp)) ⟨by simp only; omega, hm0⟩ ?_
    · rw [← koC_start hl hbg hbe h0]
      exact .same ⟨rfl, rfl, rfl, rfl, trivial⟩
    · clear hm0 m0
      rintro ⟨t, m⟩ ⟨ht, hm⟩
      dsimp only at ht hm ⊢
      cases t with
      | zero =>
        obtain rfl := hm.len (fun x n h => by have := h.1; have := h.2.1; omega)
        have hc1 := fun σ' : Heap => koC_cells (l := l) (goal := goal) (e := e) (t := 0) (A := .ro (benchC goal (.slice (some ⟨1, 0, none⟩) l.length c) (.slice (some ⟨2, 0, none⟩) (lastN l goal + 1) (lastN l goal + 1)))) (B := .ro (stonesC l)) (C := .ro (rowsC l goal (lastN l goal + 1))) (D := .rw e.cells) (F := mapO []) (G := .rw [.map (some 4)]) (H := .rw [.func (.func 57) #[.pointer (some ⟨0, 0, none⟩)] #[]]) (σ := σ')
        replace hc1 := hc1 []
        repeat' (first | (refine gU ?_; first | refine st (ok_lenMap (i := 4) rfl rfl) rfl rfl ?_ | refine st (ok_loadA rfl hc1) rfl rfl ?_ | (refine gMove ?_; refine st (ok_move rfl) rfl rfl ?_) | (refine gAssign ?_; refine st (ok_assign rfl) rfl rfl ?_) | (refine gLoad ?_; refine st (ok_load rfl (by rfl)) rfl rfl ?_) | (refine gBin ?_; refine st (ok_bin rfl rfl rfl) rfl rfl ?_)) | refine W_seq ?_ | refine W_region ?_ | refine st_nil ?_ | refine tq_n ?_ | refine tq_e ?_ | refine bq_hit rfl ?_ | refine W_exit ?_ | refine W_block ?_ | refine W_condFA rfl ?_)
        refine W_loopS (ι := Nat) (fun k => [(16, slvV 8 1 (endsK l e goal (min k l.length)).length), (86, .agg (koC l goal e 0).toArray), (87, .int .i64 (k : Int))])
          (fun k => [.ro (benchC goal (.slice (some ⟨1, 0, none⟩) l.length c) (.slice (some ⟨2, 0, none⟩) (lastN l goal + 1) (lastN l goal + 1))), .ro (stonesC l), .ro (rowsC l goal (lastN l goal + 1)), .rw e.cells, mapO [], .rw [.map (some 4)], .rw [.func (.func 57) #[.pointer (some ⟨0, 0, none⟩)] #[]], .rw (koC l goal e 0), .gr (ints (endsK l e goal (min k l.length))) 3]) (fun k => 6 - k) (fun k => k ≤ 6) 0 (by simp) (StRef.src [.ro (benchC goal (.slice (some ⟨1, 0, none⟩) l.length c) (.slice (some ⟨2, 0, none⟩) (lastN l goal + 1) (lastN l goal + 1))), .ro (stonesC l), .ro (rowsC l goal (lastN l goal + 1)), .rw e.cells, mapO [], .rw [.map (some 4)], .rw [.func (.func 57) #[.pointer (some ⟨0, 0, none⟩)] #[]], .rw (koC l goal e 0)] [.gr [] 3] [8] (by simp) rfl (hc_e8 l goal e c [] (by simp) _ (koC_plain l goal e 0)) rfl rfl ⟨osub_gr0, trivial⟩ (by (repeat' (first | exact trivial | refine ⟨er_plain rfl rfl, ?_⟩ | refine ⟨er_plain rfl (koC_plain l goal e 0), ?_⟩)))) (by omega) ?_
        intro k hk
        clear hc1
        have hkl := endsK_len l e goal (min k l.length)
        have hil2 : (ints (endsK l e goal (min k l.length))).length = (endsK l e goal (min k l.length)).length * 1 := by simp [ints]
        by_cases hk6 : k < 6
        · have hc2 : (koC l goal e 0).toArray.toList[((k : Int)).toNat * 1]? = some (.int .i64 (ind (KO l goal e 0) k)) := by
            simpa using koC_get (l := l) (goal := goal) (e := e) (t := 0) hk6
          have hk6' : (k : Int) < 6 := by omega
          by_cases hq : KO l goal e 0 k
          · rw [ind_pos hq] at hc2
            have hs := endsK_ko hq
            generalize endsK l e goal (min k l.length) = KL at *
            have hlen : (endsK l e goal (min (k + 1) l.length)).length = KL.length + 1 := by rw [hs]; simp
            have hcs : ints (endsK l e goal (min (k + 1) l.length)) = ints KL ++ [.int .i64 (k : Int)] := by rw [hs, ints_app]
            repeat' (first | (refine gU ?_; first | refine st (ok_index1 rfl rfl (by omega) (by omega) hc2) rfl rfl ?_ | (refine gMove ?_; refine st (ok_move rfl) rfl rfl ?_) | (refine gAssign ?_; refine st (ok_assign rfl) rfl rfl ?_) | (refine gAdd ?_; refine st (ok_inc rfl rfl (by omega)) rfl rfl ?_) | (refine gBin ?_; refine st (ok_bin rfl rfl rfl) rfl rfl ?_) | (refine gBuildS ?_; refine st (ok_buildS (by rfl) (by rfl) (by rfl) (by rfl) rfl (by rfl)) rfl rfl ?_) | (refine gApp ?_; refine st (ok_appendV (by rfl) (by rfl) rfl (by rfl) (by exact hil2) rfl (by rfl) (by omega) (by rfl) (by omega) (by omega)) rfl rfl ?_)) | refine W_seq ?_ | refine W_region ?_ | refine st_nil ?_ | refine tq_n ?_ | refine bq_n ?_ | refine W_skip ?_ | refine W_block ?_ | refine W_condTA rfl ?_)
            exact ⟨rfl, k + 1, by omega, by omega, StRef.src [.ro (benchC goal (.slice (some ⟨1, 0, none⟩) l.length c) (.slice (some ⟨2, 0, none⟩) (lastN l goal + 1) (lastN l goal + 1))), .ro (stonesC l), .ro (rowsC l goal (lastN l goal + 1)), .rw e.cells, mapO [], .rw [.map (some 4)], .rw [.func (.func 57) #[.pointer (some ⟨0, 0, none⟩)] #[]], .rw (koC l goal e 0)] [.gr (ints (endsK l e goal (min (k + 1) l.length))) 3] [10] (by simp) rfl (hc_e8 l goal e c [] (by simp) _ (koC_plain l goal e 0)) rfl rfl ⟨osub_gr rfl (by rw [hcs]; rfl) (ints_plain _), trivial⟩ (by (repeat' (first | exact trivial | refine ⟨er_plain rfl rfl, ?_⟩ | refine ⟨er_plain rfl (koC_plain l goal e 0), ?_⟩ | refine ⟨er_slvV (by rw [hlen]; rfl) (by simp) rfl, ?_⟩)))⟩
          · rw [ind_neg hq] at hc2
            have hs := endsK_no hq
            repeat' (first | (refine gU ?_; first | refine st (ok_index1 rfl rfl (by omega) (by omega) hc2) rfl rfl ?_ | (refine gMove ?_; refine st (ok_move rfl) rfl rfl ?_) | (refine gAssign ?_; refine st (ok_assign rfl) rfl rfl ?_) | (refine gAdd ?_; refine st (ok_inc rfl rfl (by omega)) rfl rfl ?_) | (refine gBin ?_; refine st (ok_bin rfl rfl rfl) rfl rfl ?_)) | refine W_seq ?_ | refine W_region ?_ | refine st_nil ?_ | refine tq_n ?_ | refine bq_n ?_ | refine W_skip ?_ | refine W_block ?_ | refine W_condTA rfl ?_ | refine W_condFA rfl ?_)
            refine ⟨rfl, k + 1, by omega, by omega, ?_⟩
            rw [hs]
            exact .same ⟨rfl, rfl, rfl, trivial⟩
        · obtain rfl : k = 6 := by omega
          rw [show min 6 l.length = l.length by omega] at *
          generalize endsK l e goal l.length = KL at *
          repeat' (first | (refine gU ?_; first | (refine gMove ?_; refine st (ok_move rfl) rfl rfl ?_) | (refine gAssign ?_; refine st (ok_assign rfl) rfl rfl ?_) | (refine gBin ?_; refine st (ok_bin rfl rfl rfl) rfl rfl ?_)) | refine W_seq ?_ | refine W_region ?_ | refine st_nil ?_ | refine tq_n ?_ | refine tq_e ?_ | refine bq_hit rfl ?_ | refine W_exit ?_ | refine W_ret ?_ | refine W_condFA rfl ?_)
          exact ret0 (.tmp rfl .nil) (retSl1 (j := 8) rfl (ints_plain KL) (.inr ⟨3, rfl⟩) rfl) ⟨rfl, rfl⟩
      | succ t =>
        obtain ⟨x0, hx0, hx0'⟩ := lv_some (e := e) (goal := goal) hl hbg hbe (needsV l goal e - t).toNat (by omega)
        rw [show needsV l goal e - ((needsV l goal e - t).toNat : Int) = (t : Int) by omega] at hx0'
        have hmo : ∀ x, AtL l goal e t x → MO l goal e (t + 1) x t := fun x h => ⟨by omega, by omega, h⟩
        have hpos := hm.pos (hmo _ hx0')
        have hpos' : (m.length : Int) > 0 := by omega
        repeat' (first | (refine gU ?_; first | refine st (ok_lenMap (i := 4) rfl rfl) rfl rfl ?_ | refine st (ok_range (i := 4) rfl rfl) rfl rfl ?_ | (refine gAssign ?_; refine st (ok_assign rfl) rfl rfl ?_) | (refine gLoad ?_; refine st (ok_load rfl (by rfl)) rfl rfl ?_) | (refine gBin ?_; refine st (ok_bin rfl rfl rfl) rfl rfl ?_)) | refine W_seq ?_ | refine W_region ?_ | refine st_nil ?_ | refine tq_n ?_ | refine W_skip ?_ | refine W_block ?_ | refine W_condTA rfl ?_)
        refine W_loopS (ι := List Ed) (fun A => [(0, .pointer (some ⟨0, 0, none⟩)), (5, .pointer (some ⟨5, 0, none⟩)), (6, .pointer (some ⟨6, 0, none⟩)), (7, .pointer (some ⟨7, 0, none⟩)), (8, slvV 9 2 A.length), (31, .pointer (some ⟨8, 0, none⟩))])
          (fun A => [.ro (benchC goal (.slice (some ⟨1, 0, none⟩) l.length c) (.slice (some ⟨2, 0, none⟩) (lastN l goal + 1) (lastN l goal + 1))), .ro (stonesC l), .ro (rowsC l goal (lastN l goal + 1)), .rw e.cells, mapO m, .rw [.map (some 4)], .rw [.func (.func 57) #[.pointer (some ⟨0, 0, none⟩)] #[]], .rw (koC l goal e (t + 1)), .iter 4 ((A.map keyE).map kv), .gr (edsC A) 24]) (fun A => left m (A.map keyE)) (fun A => A.Nodup ∧ ∀ x ∈ A, AtL l goal e t x) [] (by simp) (StRef.src [.ro (benchC goal (.slice (some ⟨1, 0, none⟩) l.length c) (.slice (some ⟨2, 0, none⟩) (lastN l goal + 1) (lastN l goal + 1))), .ro (stonesC l), .ro (rowsC l goal (lastN l goal + 1)), .rw e.cells, mapO m, .rw [.map (some 4)], .rw [.func (.func 57) #[.pointer (some ⟨0, 0, none⟩)] #[]], .rw (koC l goal e (t + 1)), .iter 4 []] [.gr [] 24] [9] (by simp) rfl (hc_e9 l goal e c m hm.plain _ (koC_plain l goal e _) _) rfl rfl ⟨osub_gr0, trivial⟩ (by (repeat' (first | exact trivial | refine ⟨er_plain rfl rfl, ?_⟩ | refine ⟨er_ptr rfl (by simp) rfl, ?_⟩)))) ⟨List.nodup_nil, by simp⟩ ?_
        rintro A ⟨hnd, hAt⟩
        have hAlen := eds_len hl hbe hnd hAt
        repeat' (first | refine W_seq ?_ | refine W_region ?_)
        refine st_next (i := 4) (l := m) (seen := A.map keyE) rfl rfl rfl rfl rfl hm.nd (fun hall => ?_) (fun q hq hns => ?_)
        · have hLv : LvIs l goal e t A := ⟨hnd, fun x => ⟨hAt x, fun hx => by
            have := hall _ ((hm.all x _).2 ⟨_, rfl, hmo x hx⟩)
            obtain ⟨y, hy, hyx⟩ := List.mem_map.1 this
            rwa [← keyE_inj hyx]⟩⟩
          have hApos : 0 < A.length := List.length_pos_of_mem ((hLv.mem _).2 hx0')
          have hgr := greatest_ev (l := l) (goal := goal) (e := e) (c := c) (m := m) (cs := koC l goal e (t + 1)) (A := A) (n := (t : Int)) (X := .iter 4 ((A.map keyE).map kv)) hApos (by omega) (by omega) hm.plain (koC_plain l goal e _) (by show (4 : Nat) < 10; omega) (fun x hx => hm.get (hmo x (hAt x hx)))
          repeat' (first | (refine gU ?_; first | (refine gMove ?_; refine st (ok_move rfl) rfl rfl ?_) | (refine gAssign ?_; refine st (ok_assign rfl) rfl rfl ?_) | (refine gLen ?_; refine st (ok_lenV rfl) rfl rfl ?_) | (refine gExtract ?_; refine st (ok_extract rfl rfl) rfl rfl ?_) | (refine gMkF ?_; refine st (ok_makeFunc rfl rfl) rfl rfl ?_) | (refine gCall ?_; refine st (ok_call rfl rfl rfl (by exact hgr)) rfl rfl ?_)) | refine W_seq ?_ | refine W_region ?_ | refine st_nil ?_ | refine tq_n ?_ | refine tq_e ?_ | refine bq_hit rfl ?_ | refine W_exit ?_ | refine W_block ?_ | refine W_condFA rfl ?_)
          clear hgr
          rw [keC_first (A := A)]
          refine Tail.W_loopD (ι := Nat × KMap) (fun q => [(0, .pointer (some ⟨0, 0, none⟩)), (5, .pointer (some ⟨5, 0, none⟩)), (6, .pointer (some ⟨6, 0, none⟩)), (7, .pointer (some ⟨7, 0, none⟩)), (10, .int .i64 (t : Int)), (43, slvV 8 2 A.length), (44, .int .i64 (A.length : Int)), (45, .int .i64 (q.1 : Int))])
            (fun q => [.ro (benchC goal (.slice (some ⟨1, 0, none⟩) l.length c) (.slice (some ⟨2, 0, none⟩) (lastN l goal + 1) (lastN l goal + 1))), .ro (stonesC l), .ro (rowsC l goal (lastN l goal + 1)), .rw e.cells, mapO q.2, .rw [.map (some 4)], .rw [.func (.func 57) #[.pointer (some ⟨0, 0, none⟩)] #[]], .rw (keC l goal e A t q.1 0), .gr (edsC A) 24]) (fun q => A.length - q.1) (fun q => q.1 ≤ A.length ∧ MIs q.2 (MP l goal A t q.1 q.1 0)) (0, m) rfl (by (repeat' (first | exact Tail.tail_ret rfl | exact Tail.tail_loopD | refine Tail.tail_then ?_ ?_ | refine Tail.tail_block ?_ | refine Tail.W_tail rfl ?_))) (fun _ => by simp) (fun q hq => hc_f9 l goal e c q.2 hq.2.plain _ (keC_plain l goal e A t q.1 0) A)
            (.of (StRef.src [.ro (benchC goal (.slice (some ⟨1, 0, none⟩) l.length c) (.slice (some ⟨2, 0, none⟩) (lastN l goal + 1) (lastN l goal + 1))), .ro (stonesC l), .ro (rowsC l goal (lastN l goal + 1)), .rw e.cells, mapO m, .rw [.map (some 4)], .rw [.func (.func 57) #[.pointer (some ⟨0, 0, none⟩)] #[]], .rw (keC l goal e A t 0 0)] [.gr (edsC A) 24] [9] (by simp) rfl (hc_e8 l goal e c m hm.plain _ (keC_plain l goal e A t 0 0)) rfl rfl ⟨osub_gr rfl rfl (edsC_plain A), trivial⟩ (by (repeat' (first | exact trivial | refine ⟨er_plain rfl rfl, ?_⟩ | refine ⟨er_slvV rfl (by simp) rfl, ?_⟩ | refine ⟨er_ptr rfl (by simp) rfl, ?_⟩)))) (by simp)) ⟨Nat.zero_le _, hm.congr fun x k => MP_start hLv (by omega) (by omega)⟩ ?_
          clear hm hpos hpos' hmo hall m
          rintro ⟨j, m⟩ ⟨hj, hm⟩
          dsimp only at hj hm ⊢
          by_cases hjA : j < A.length
          · have hjA' : (j : Int) < (A.length : Int) := by omega
            have hc1 := al_cells (σ := [.ro (benchC goal (.slice (some ⟨1, 0, none⟩) l.length c) (.slice (some ⟨2, 0, none⟩) (lastN l goal + 1) (lastN l goal + 1))), .ro (stonesC l), .ro (rowsC l goal (lastN l goal + 1)), .rw e.cells, mapO m, .rw [.map (some 4)], .rw [.func (.func 57) #[.pointer (some ⟨0, 0, none⟩)] #[]], .rw (keC l goal e A t j 0), .gr (edsC A) 24]) (x := 8) (A := A) (i := j) (.inr (.inr ⟨24, rfl⟩)) hjA
            have hget : mapGet m (keyE (al A j)) = some (.int .i64 (t : Int)) := hm.get (.inl ⟨rfl, j, Nat.le_refl _, hjA, rfl⟩)
            have hbx : ¬ badEd (al A j) := ((hLv.mem _).1 (al_mem hjA)).1.ok hl hbe
            have hdel := (hm.del (al A j)).congr fun x k => MP_del hLv hjA
            have hneed : needsV l goal (al A j) = (t : Int) := ((hLv.mem _).1 (al_mem hjA)).2
            repeat' (first | (refine gU ?_; first | refine st (ok_idxSV rfl rfl (by omega)) rfl rfl ?_ | refine st (ok_loadA rfl hc1) rfl rfl ?_ | refine st (ok_lookup (i := 4) rfl rfl (k := keyE (al A j)) rfl hget) rfl rfl ?_ | (refine gMove ?_; refine st (ok_move rfl) rfl rfl ?_) | (refine gLoad ?_; first | refine st (ok_load rfl (by rfl)) rfl rfl ?_ | refine st (ok_loadA rfl (by rfl)) rfl rfl ?_) | (refine gBin ?_; refine st (ok_bin rfl rfl rfl) rfl rfl ?_) | (refine gAlloc ?_; refine st (ok_alloc rfl) rfl rfl ?_) | (refine gStore ?_; refine stN (ok_store rfl rfl rfl rfl (by rfl)) rfl ?_)) | refine W_seq ?_ | refine W_region ?_ | refine st_nil ?_ | refine tq_n ?_ | refine W_skip ?_ | refine W_block ?_ | refine W_condTA rfl ?_ | refine W_condFA rfl ?_)
            refine stN (ok_delete (i := 4) (l := m) (k := keyE (al A j)) rfl rfl rfl) rfl ?_
            generalize mapDel m (keyE (al A j)) = md at *
            have hst := strokes_ev (σ := [.ro (benchC goal (.slice (some ⟨1, 0, none⟩) l.length c) (.slice (some ⟨2, 0, none⟩) (lastN l goal + 1) (lastN l goal + 1))), .ro (stonesC l), .ro (rowsC l goal (lastN l goal + 1)), .rw e.cells, mapO md, .rw [.map (some 4)], .rw [.func (.func 57) #[.pointer (some ⟨0, 0, none⟩)] #[]], .rw (keC l goal e A t j 0), .gr (edsC A) 24, .rw (al A j).cells, .rw [.int .i64 (t : Int)]]) (l := l) (goal := goal) (e := al A j) (p := 0) (x := 1) (y := 2) (c := c) ⟨.inl rfl, .inl rfl, .inl rfl⟩ rfl
            repeat' (first | (refine gU ?_; first | (refine gMove ?_; refine st (ok_move rfl) rfl rfl ?_) | (refine gLoad ?_; refine st (ok_loadA rfl (by rfl)) rfl rfl ?_) | (refine gCall ?_; refine st (ok_call rfl rfl rfl (by exact hst)) rfl rfl ?_)) | refine W_seq ?_ | refine W_region ?_ | refine st_nil ?_ | refine tq_n ?_ | refine W_block ?_)
            refine W_st (by simp) (.same (e2 := [(0, .pointer (some ⟨0, 0, none⟩)), (5, .pointer (some ⟨5, 0, none⟩)), (6, .pointer (some ⟨6, 0, none⟩)), (7, .pointer (some ⟨7, 0, none⟩)), (10, .int .i64 (t : Int)), (43, slvV 8 2 A.length), (44, .int .i64 (A.length : Int)), (45, .int .i64 (j : Int)), (12, .pointer (some ⟨9, 0, none⟩)), (13, .pointer (some ⟨10, 0, none⟩)), (59, .func (.func 78) #[] #[.pointer (some ⟨11, 0, none⟩), .pointer (some ⟨12, 0, none⟩)])]) (by repeat' (first | exact trivial | refine ⟨rfl, ?_⟩))) ?_
            refine W_rangeFuncL (p := []) (q := [.pointer (some ⟨11, 0, none⟩), .pointer (some ⟨12, 0, none⟩)]) rfl fun L hL => ?_
            have hLc : oclosed 15 L := by
              rw [hL]
              exact env_closed fun p hp => by
                simp only [List.mem_cons, List.not_mem_nil, or_false] at hp
                rcases hp with rfl | rfl | rfl | rfl | rfl | rfl | rfl | rfl | rfl | rfl | rfl <;> first | exact ⟨rfl, rfl⟩ | exact ⟨closed_slvV rfl, okV_slv⟩
            have hLi : isIter L = false := by rw [hL]; rfl
            refine acall_intro 15 33 Try.func78 rfl rfl rfl rfl rfl ?_
            repeat' (first | (refine gU ?_; first | (refine gMove ?_; refine st (ok_move rfl) rfl rfl ?_) | (refine gFA ?_; refine st (ok_fieldAddr rfl) rfl rfl ?_) | (refine gLoad ?_; refine st (ok_load rfl (by rfl)) rfl rfl ?_) | (refine gLen ?_; refine st (ok_len rfl) rfl rfl ?_) | (refine gNil ?_; refine st (ok_nilP rfl) rfl rfl ?_)) | refine W_seq ?_ | refine W_region ?_ | refine st_nil ?_ | refine tq_n ?_ | refine W_block ?_)
            refine W_loopS (ι := Nat × KMap) (fun q => [(0, .func (.yield 14) #[] #[]), (1, .pointer (some ⟨11, 0, none⟩)), (2, .pointer (some ⟨12, 0, none⟩)), (11, .slice (some ⟨1, 0, none⟩) l.length c), (12, .int .i64 (l.length : Int)), (13, .int .i64 (q.1 : Int))])
              (fun q => [.ro (benchC goal (.slice (some ⟨1, 0, none⟩) l.length c) (.slice (some ⟨2, 0, none⟩) (lastN l goal + 1) (lastN l goal + 1))), .ro (stonesC l), .ro (rowsC l goal (lastN l goal + 1)), .rw e.cells, mapO q.2, .rw [.map (some 4)], .rw [.func (.func 57) #[.pointer (some ⟨0, 0, none⟩)] #[]], .rw (keC l goal e A t j q.1), .gr (edsC A) 24, .rw (al A j).cells, .rw [.int .i64 (t : Int)], .rw [.pointer (some ⟨0, 0, none⟩)], .rw (al A j).cells, .dfr, L]) (fun q => l.length - q.1) (fun q => q.1 ≤ l.length ∧ MIs q.2 (MP l goal A t (j + 1) j q.1)) (0, md) (by simp) (.same ⟨rfl, rfl, rfl, rfl, rfl, rfl, trivial⟩) ⟨Nat.zero_le _, hdel⟩ ?_
            clear hst hc1 hdel hget hm
            rintro ⟨k, m⟩ ⟨hk, hm⟩
            dsimp only at hk hm ⊢
            by_cases hkl : k < l.length
            · have hc1 := stone_cells (σ := [.ro (benchC goal (.slice (some ⟨1, 0, none⟩) l.length c) (.slice (some ⟨2, 0, none⟩) (lastN l goal + 1) (lastN l goal + 1))), .ro (stonesC l), .ro (rowsC l goal (lastN l goal + 1)), .rw e.cells, mapO m, .rw [.map (some 4)], .rw [.func (.func 57) #[.pointer (some ⟨0, 0, none⟩)] #[]], .rw (keC l goal e A t j k), .gr (edsC A) 24, .rw (al A j).cells, .rw [.int .i64 (t : Int)], .rw [.pointer (some ⟨0, 0, none⟩)], .rw (al A j).cells, .dfr, L]) (x := 1) (l := l) (i := k) (.inl rfl) hkl
              have hsk := stroke_ev (σ := [.ro (benchC goal (.slice (some ⟨1, 0, none⟩) l.length c) (.slice (some ⟨2, 0, none⟩) (lastN l goal + 1) (lastN l goal + 1))), .ro (stonesC l), .ro (rowsC l goal (lastN l goal + 1)), .rw e.cells, mapO m, .rw [.map (some 4)], .rw [.func (.func 57) #[.pointer (some ⟨0, 0, none⟩)] #[]], .rw (keC l goal e A t j k), .gr (edsC A) 24, .rw (al A j).cells, .rw [.int .i64 (t : Int)], .rw [.pointer (some ⟨0, 0, none⟩)], .rw (al A j).cells, .dfr, L, .rw (gs l k).cells]) (hl k hkl) hbx (by rw [hL]; rfl)
              have hMPno := fun h (x : Ed) (n : Int) => MP_no (l := l) (goal := goal) (A := A) (n := (t : Int)) (j := j) (s := k) hjA hkl h (x := x) (k := n)
              have hKno := keC_no (l := l) (goal := goal) (e := e) (A := A) (n := (t : Int)) (j := j) (s := k)
              have hMPup := fun hn hc hx (x : Ed) (n : Int) => MP_up hLv (j := j) (s := k) hjA hkl hn hc hx (x := x) (k := n)
              have hput' := fun (σ : Heap) (hσ : σ[7]? = some (.rw (keC l goal e A t j k))) hn hc hx => keC_put (σ := σ) hσ hl6 hjA hkl hn hc hx
              have hok := aft_ok (hl k hkl) hbx
              generalize gs l k = s at hc1 hsk hMPno hKno hMPup hput' hok
              unfold strokeV at hsk
              by_cases hcn : (al A j).b + s.b ≤ 6
              · rw [if_neg (by omega)] at hsk
                replace hok := hok hcn
                have hcn' : can s (al A j) := hcn
                obtain ⟨y, hy⟩ : ∃ y, aft s (al A j) = y := ⟨_, rfl⟩
                rw [hy] at hsk hok hMPno hKno hMPup hput'
                by_cases ht0 : (t : Int) > 0
                · by_cases hne : y.d = (al A j).d ∧ y.b = (al A j).b
                  · have hyx : y = al A j := by cases y; simp only at hne; rw [hne.1, hne.2]
                    have hH : ¬ (0 < (t : Int) ∧ can s (al A j) ∧ needsV l goal y = (t : Int) - 1) := fun h => by rw [hyx] at h; omega
                    have hne' : ¬ ¬ (y.d = (al A j).d ∧ y.b = (al A j).b) := fun h => h hne
                    rw [hKno (fun h hh => hH ⟨by omega, hcn', hh.2⟩)] at hsk hc1 ⊢
                    have hm2 := hm.congr (hMPno hH)
                    repeat' (first | (refine gU ?_; first | refine st (ok_loadA rfl hc1) rfl rfl ?_ | (refine gMove ?_; refine st (ok_move rfl) rfl rfl ?_) | (refine gAssign ?_; refine st (ok_assign rfl) rfl rfl ?_) | (refine gLoad ?_; refine st (ok_loadA rfl (by rfl)) rfl rfl ?_) | (refine gBin ?_; refine st (ok_bin rfl rfl rfl) rfl rfl ?_) | (refine gExtract ?_; refine st (ok_extract rfl rfl) rfl rfl ?_) | (refine gIA ?_; refine st (ok_idxSN rfl rfl (by omega)) rfl rfl ?_) | (refine gCall ?_; refine st (ok_call rfl rfl rfl (by exact hsk)) rfl rfl ?_) | (refine gAlloc ?_; refine st (ok_alloc rfl) rfl rfl ?_) | (refine gStore ?_; refine stN (ok_store rfl rfl rfl rfl (by rfl)) rfl ?_)) | (refine gG ?_; first | (refine gMove ?_; refine stGA rfl (ok_move rfl) rfl rfl ?_) | (refine gLoad ?_; refine stGA rfl (ok_loadA rfl (by rfl)) rfl rfl ?_)) | refine W_seq ?_ | refine W_region ?_ | refine st_nil ?_ | refine tq_n ?_ | refine W_skip ?_ | refine W_block ?_ | refine W_condTA rfl ?_)
                    refine st_yieldG (l := 14) rfl rfl (by rw [hL]; rfl) rfl rfl rfl (fun _ _ _ _ he => wanted_rel (b := true) rfl he) ?_
                    repeat' (first | (refine gU ?_; first | (refine gAssign ?_; refine st (ok_assign rfl) rfl rfl ?_) | (refine gAlloc ?_; refine st (ok_alloc rfl) rfl rfl ?_) | (refine gStore ?_; refine stN (ok_store rfl rfl rfl rfl (by rfl)) rfl ?_)) | refine W_seq ?_ | refine W_region ?_ | refine st_nil ?_ | refine tq_n ?_)
                    refine roundA_n (by rw [hL]; rfl) ?_
                    repeat' (first | (refine fU ?_; first | (refine fMove ?_; refine frA (ok_move rfl) rfl ?_) | (refine fLoad ?_; refine frA (ok_load rfl (by rfl)) rfl ?_) | (refine fBin ?_; refine frA (ok_bin rfl rfl rfl) rfl ?_) | (refine fPick ?_; first | refine frA (ok_pickTA rfl rfl) rfl ?_ | refine frA (ok_pickFA rfl rfl) rfl ?_)) | (refine fG ?_; first | (refine fLoad ?_; refine frGA rfl (ok_loadA rfl (by rfl)) rfl ?_) | (refine fBin ?_; refine frGA rfl (ok_neq2 rfl rfl) rfl ?_) | refine frSA rfl rfl ?_) | (refine fr_stop ⟨by kernel_rfl, ?_⟩) | refine W_seq ?_ | refine W_regionD (by kernel_rfl) rfl ?_ | refine st_nil ?_ | refine tq_n ?_ | refine bq_n ?_ | refine W_skip ?_ | refine W_block ?_ | refine W_condFA rfl ?_)
                    refine roundB_n rfl rfl ?_
                    repeat' (first | (refine gU ?_; first | (refine gMove ?_; refine st (ok_move rfl) rfl rfl ?_) | (refine gAdd ?_; refine st (ok_inc rfl rfl (by omega)) rfl rfl ?_) | (refine gPick ?_; refine st (ok_pickTA rfl rfl) rfl rfl ?_)) | (refine gG ?_; (refine gNot ?_; refine stGA rfl (ok_not' rfl) rfl rfl ?_)) | refine W_region ?_ | refine st_nil ?_ | refine tq_n ?_ | refine bq_n ?_ | refine W_skip ?_ | refine W_condFA rfl ?_)
                    refine ⟨rfl, (k + 1, m), ⟨by simp only; omega, hm2⟩, by simp only; omega, ?_⟩
                    rw [hL]
                    exact StRef.drop [.ro (benchC goal (.slice (some ⟨1, 0, none⟩) l.length c) (.slice (some ⟨2, 0, none⟩) (lastN l goal + 1) (lastN l goal + 1))), .ro (stonesC l), .ro (rowsC l goal (lastN l goal + 1)), .rw e.cells, mapO m, .rw [.map (some 4)], .rw [.func (.func 57) #[.pointer (some ⟨0, 0, none⟩)] #[]], .rw (keC l goal e A t j (k + 1)), .gr (edsC A) 24, .rw (al A j).cells, .rw [.int .i64 (t : Int)], .rw [.pointer (some ⟨0, 0, none⟩)], .rw (al A j).cells, .dfr, _] [_, _, _] (by simp) (hc_g15 l goal e c m hm2.plain _ (keC_plain l goal e A t j (k + 1)) A (al A j) t _ (by have := hLc; rw [hL] at this; exact this)) (by (repeat' (first | exact trivial | exact ⟨rfl, rfl, rfl⟩ | exact ⟨rfl, closed_slice rfl, rfl⟩ | refine ⟨?_, ?_⟩)))
                  · by_cases hq : needsV l goal y = (t : Int) - 1
                    · have hneedy : needsV l goal y = (t : Int) - 1 := hq
                      have hm2 : MIs (mapUp m (keyE y) (.int .i64 ((t : Int) - 1))) (MP l goal A (t : Int) (j + 1) j (k + 1)) := (hm.up y ((t : Int) - 1)).congr (hMPup ht0 hcn' hneedy)
                      by_cases ht1 : (t : Int) = 1
                      · have hput := fun (σ : Heap) hσ => hput' σ hσ ht1 hcn' (by omega)
                        repeat' (first | (refine gU ?_; first | refine st (ok_loadA rfl hc1) rfl rfl ?_ | (refine gMove ?_; refine st (ok_move rfl) rfl rfl ?_) | (refine gAssign ?_; refine st (ok_assign rfl) rfl rfl ?_) | (refine gLoad ?_; refine st (ok_loadA rfl (by rfl)) rfl rfl ?_) | (refine gBin ?_; refine st (ok_bin rfl rfl rfl) rfl rfl ?_) | (refine gExtract ?_; refine st (ok_extract rfl rfl) rfl rfl ?_) | (refine gIA ?_; refine st (ok_idxSN rfl rfl (by omega)) rfl rfl ?_) | (refine gCall ?_; refine st (ok_call rfl rfl rfl (by exact hsk)) rfl rfl ?_) | (refine gAlloc ?_; refine st (ok_alloc rfl) rfl rfl ?_) | (refine gStore ?_; refine stN (ok_store rfl rfl rfl rfl (by rfl)) rfl ?_)) | (refine gG ?_; first | (refine gMove ?_; refine stGA rfl (ok_move rfl) rfl rfl ?_) | (refine gLoad ?_; refine stGA rfl (ok_loadA rfl (by rfl)) rfl rfl ?_)) | refine W_seq ?_ | refine W_region ?_ | refine st_nil ?_ | refine tq_n ?_ | refine W_skip ?_ | refine W_block ?_ | refine W_condTA rfl ?_)
                        refine st_yieldG (l := 14) rfl rfl (by rw [hL]; rfl) rfl rfl rfl (fun _ _ _ _ he => wanted_rel (b := true) rfl he) ?_
                        repeat' (first | (refine gU ?_; first | (refine gAssign ?_; refine st (ok_assign rfl) rfl rfl ?_) | (refine gAlloc ?_; refine st (ok_alloc rfl) rfl rfl ?_) | (refine gStore ?_; refine stN (ok_store rfl rfl rfl rfl (by rfl)) rfl ?_)) | refine W_seq ?_ | refine W_region ?_ | refine st_nil ?_ | refine tq_n ?_)
                        refine roundA_n (by rw [hL]; rfl) ?_
                        repeat' (first | (refine gU ?_; first | (refine gLoad ?_; first | refine st (ok_load rfl (by rfl)) rfl rfl ?_ | refine st (ok_loadA rfl (by rfl)) rfl rfl ?_) | (refine gSub ?_; refine st (ok_sub rfl rfl (by omega) (by omega)) rfl rfl ?_)) | (refine fU ?_; first | (refine fMove ?_; refine frA (ok_move rfl) rfl ?_) | (refine fLoad ?_; refine frA (ok_load rfl (by rfl)) rfl ?_) | (refine fBin ?_; refine frA (ok_bin rfl rfl rfl) rfl ?_) | (refine fPick ?_; refine frA (ok_pickTA rfl rfl) rfl ?_)) | (refine fG ?_; first | (refine fLoad ?_; first | refine frGA rfl (ok_load rfl (by rfl)) rfl ?_ | refine frGA rfl (ok_loadA rfl (by rfl)) rfl ?_) | (refine fSub ?_; refine frGA rfl (ok_sub rfl rfl (by omega) (by omega)) rfl ?_) | (refine fBin ?_; first | refine frGA rfl (ok_bin rfl rfl rfl) rfl ?_ | refine frGA rfl (ok_neq2 rfl rfl) rfl ?_) | (refine fCall ?_; refine frGA rfl (ok_call rfl rfl rfl (by exact needs_ev ⟨.inl rfl, .inl rfl, .inl rfl⟩ hok hbg hl (by rfl))) rfl ?_)) | (refine fr_stop ⟨by kernel_rfl, ?_⟩) | refine W_seq ?_ | refine W_region ?_ | refine W_regionD (by kernel_rfl) rfl ?_ | refine st_nil ?_ | refine tq_n ?_ | refine W_block ?_ | refine W_condTA rfl ?_)
                        refine stN (ok_mapUpdate (i := 4) (l := m) (k := keyE y) (v := .int .i64 ((t : Int) - 1)) rfl rfl rfl rfl (by rw [hL]; rfl)) rfl ?_
                        generalize mapUp m (keyE y) (.int .i64 ((t : Int) - 1)) = m2 at *
                        repeat' (first | (refine gU ?_; first | (refine gMove ?_; refine st (ok_move rfl) rfl rfl ?_) | (refine gLoad ?_; refine st (ok_load rfl (by rfl)) rfl rfl ?_) | (refine gBin ?_; refine st (ok_bin rfl rfl rfl) rfl rfl ?_) | (refine gIA ?_; refine st (ok_idxAN rfl rfl (by omega)) rfl rfl ?_) | (refine gStore ?_; refine stN (ok_store rfl rfl rfl rfl (by exact hput _ rfl)) rfl ?_)) | refine W_seq ?_ | refine W_region ?_ | refine st_nil ?_ | refine tq_n ?_ | refine bq_n ?_ | refine W_condTA rfl ?_)
                        refine roundB_n rfl rfl ?_
                        repeat' (first | (refine gU ?_; first | (refine gMove ?_; refine st (ok_move rfl) rfl rfl ?_) | (refine gAdd ?_; refine st (ok_inc rfl rfl (by omega)) rfl rfl ?_) | (refine gPick ?_; refine st (ok_pickTA rfl rfl) rfl rfl ?_)) | (refine gG ?_; (refine gNot ?_; refine stGA rfl (ok_not' rfl) rfl rfl ?_)) | refine W_region ?_ | refine st_nil ?_ | refine tq_n ?_ | refine bq_n ?_ | refine W_skip ?_ | refine W_condFA rfl ?_)
                        refine ⟨rfl, (k + 1, m2), ⟨by simp only; omega, hm2⟩, by simp only; omega, ?_⟩
                        rw [hL]
                        exact StRef.drop [.ro (benchC goal (.slice (some ⟨1, 0, none⟩) l.length c) (.slice (some ⟨2, 0, none⟩) (lastN l goal + 1) (lastN l goal + 1))), .ro (stonesC l), .ro (rowsC l goal (lastN l goal + 1)), .rw e.cells, mapO m2, .rw [.map (some 4)], .rw [.func (.func 57) #[.pointer (some ⟨0, 0, none⟩)] #[]], .rw (keC l goal e A t j (k + 1)), .gr (edsC A) 24, .rw (al A j).cells, .rw [.int .i64 (t : Int)], .rw [.pointer (some ⟨0, 0, none⟩)], .rw (al A j).cells, .dfr, _] [_, _, _] (by simp) (hc_g15 l goal e c m2 hm2.plain _ (keC_plain l goal e A t j (k + 1)) A (al A j) t _ (by have := hLc; rw [hL] at this; exact this)) (by (repeat' (first | exact trivial | exact ⟨rfl, rfl, rfl⟩ | exact ⟨rfl, closed_slice rfl, rfl⟩ | refine ⟨?_, ?_⟩)))
                      · rw [hKno (fun h => absurd h ht1)] at hsk hc1 ⊢
                        repeat' (first | (refine gU ?_; first | refine st (ok_loadA rfl hc1) rfl rfl ?_ | (refine gMove ?_; refine st (ok_move rfl) rfl rfl ?_) | (refine gAssign ?_; refine st (ok_assign rfl) rfl rfl ?_) | (refine gLoad ?_; refine st (ok_loadA rfl (by rfl)) rfl rfl ?_) | (refine gBin ?_; refine st (ok_bin rfl rfl rfl) rfl rfl ?_) | (refine gExtract ?_; refine st (ok_extract rfl rfl) rfl rfl ?_) | (refine gIA ?_; refine st (ok_idxSN rfl rfl (by omega)) rfl rfl ?_) | (refine gCall ?_; refine st (ok_call rfl rfl rfl (by exact hsk)) rfl rfl ?_) | (refine gAlloc ?_; refine st (ok_alloc rfl) rfl rfl ?_) | (refine gStore ?_; refine stN (ok_store rfl rfl rfl rfl (by rfl)) rfl ?_)) | (refine gG ?_; first | (refine gMove ?_; refine stGA rfl (ok_move rfl) rfl rfl ?_) | (refine gLoad ?_; refine stGA rfl (ok_loadA rfl (by rfl)) rfl rfl ?_)) | refine W_seq ?_ | refine W_region ?_ | refine st_nil ?_ | refine tq_n ?_ | refine W_skip ?_ | refine W_block ?_ | refine W_condTA rfl ?_)
                        refine st_yieldG (l := 14) rfl rfl (by rw [hL]; rfl) rfl rfl rfl (fun _ _ _ _ he => wanted_rel (b := true) rfl he) ?_
                        repeat' (first | (refine gU ?_; first | (refine gAssign ?_; refine st (ok_assign rfl) rfl rfl ?_) | (refine gAlloc ?_; refine st (ok_alloc rfl) rfl rfl ?_) | (refine gStore ?_; refine stN (ok_store rfl rfl rfl rfl (by rfl)) rfl ?_)) | refine W_seq ?_ | refine W_region ?_ | refine st_nil ?_ | refine tq_n ?_)
                        refine roundA_n (by rw [hL]; rfl) ?_
                        repeat' (first | (refine gU ?_; first | (refine gLoad ?_; first | refine st (ok_load rfl (by rfl)) rfl rfl ?_ | refine st (ok_loadA rfl (by rfl)) rfl rfl ?_) | (refine gSub ?_; refine st (ok_sub rfl rfl (by omega) (by omega)) rfl rfl ?_)) | (refine fU ?_; first | (refine fMove ?_; refine frA (ok_move rfl) rfl ?_) | (refine fLoad ?_; refine frA (ok_load rfl (by rfl)) rfl ?_) | (refine fBin ?_; refine frA (ok_bin rfl rfl rfl) rfl ?_) | (refine fPick ?_; refine frA (ok_pickTA rfl rfl) rfl ?_)) | (refine fG ?_; first | (refine fLoad ?_; first | refine frGA rfl (ok_load rfl (by rfl)) rfl ?_ | refine frGA rfl (ok_loadA rfl (by rfl)) rfl ?_) | (refine fSub ?_; refine frGA rfl (ok_sub rfl rfl (by omega) (by omega)) rfl ?_) | (refine fBin ?_; first | refine frGA rfl (ok_bin rfl rfl rfl) rfl ?_ | refine frGA rfl (ok_neq2 rfl rfl) rfl ?_) | (refine fCall ?_; refine frGA rfl (ok_call rfl rfl rfl (by exact needs_ev ⟨.inl rfl, .inl rfl, .inl rfl⟩ hok hbg hl (by rfl))) rfl ?_)) | (refine fr_stop ⟨by kernel_rfl, ?_⟩) | refine W_seq ?_ | refine W_region ?_ | refine W_regionD (by kernel_rfl) rfl ?_ | refine st_nil ?_ | refine tq_n ?_ | refine W_block ?_ | refine W_condTA rfl ?_)
                        refine stN (ok_mapUpdate (i := 4) (l := m) (k := keyE y) (v := .int .i64 ((t : Int) - 1)) rfl rfl rfl rfl (by rw [hL]; rfl)) rfl ?_
                        generalize mapUp m (keyE y) (.int .i64 ((t : Int) - 1)) = m2 at *
                        repeat' (first | (refine gU ?_; first | (refine gLoad ?_; refine st (ok_load rfl (by rfl)) rfl rfl ?_) | (refine gBin ?_; refine st (ok_bin rfl rfl rfl) rfl rfl ?_)) | refine W_seq ?_ | refine W_region ?_ | refine st_nil ?_ | refine tq_n ?_ | refine bq_n ?_ | refine W_skip ?_ | refine W_condFA rfl ?_)
                        refine roundB_n rfl rfl ?_
                        repeat' (first | (refine gU ?_; first | (refine gMove ?_; refine st (ok_move rfl) rfl rfl ?_) | (refine gAdd ?_; refine st (ok_inc rfl rfl (by omega)) rfl rfl ?_) | (refine gPick ?_; refine st (ok_pickTA rfl rfl) rfl rfl ?_)) | (refine gG ?_; (refine gNot ?_; refine stGA rfl (ok_not' rfl) rfl rfl ?_)) | refine W_region ?_ | refine st_nil ?_ | refine tq_n ?_ | refine bq_n ?_ | refine W_skip ?_ | refine W_condFA rfl ?_)
                        refine ⟨rfl, (k + 1, m2), ⟨by simp only; omega, hm2⟩, by simp only; omega, ?_⟩
                        rw [hL]
                        exact StRef.drop [.ro (benchC goal (.slice (some ⟨1, 0, none⟩) l.length c) (.slice (some ⟨2, 0, none⟩) (lastN l goal + 1) (lastN l goal + 1))), .ro (stonesC l), .ro (rowsC l goal (lastN l goal + 1)), .rw e.cells, mapO m2, .rw [.map (some 4)], .rw [.func (.func 57) #[.pointer (some ⟨0, 0, none⟩)] #[]], .rw (keC l goal e A t j (k + 1)), .gr (edsC A) 24, .rw (al A j).cells, .rw [.int .i64 (t : Int)], .rw [.pointer (some ⟨0, 0, none⟩)], .rw (al A j).cells, .dfr, _] [_, _, _] (by simp) (hc_g15 l goal e c m2 hm2.plain _ (keC_plain l goal e A t j (k + 1)) A (al A j) t _ (by have := hLc; rw [hL] at this; exact this)) (by (repeat' (first | exact trivial | exact ⟨rfl, rfl, rfl⟩ | exact ⟨rfl, closed_slice rfl, rfl⟩ | refine ⟨?_, ?_⟩)))
                    · have hH : ¬ (0 < (t : Int) ∧ can s (al A j) ∧ needsV l goal y = (t : Int) - 1) := fun h => hq h.2.2
                      rw [hKno (fun h hh => hH ⟨by omega, hcn', hh.2⟩)] at hsk hc1 ⊢
                      have hm2 := hm.congr (hMPno hH)
                      repeat' (first | (refine gU ?_; first | refine st (ok_loadA rfl hc1) rfl rfl ?_ | (refine gMove ?_; refine st (ok_move rfl) rfl rfl ?_) | (refine gAssign ?_; refine st (ok_assign rfl) rfl rfl ?_) | (refine gLoad ?_; refine st (ok_loadA rfl (by rfl)) rfl rfl ?_) | (refine gBin ?_; refine st (ok_bin rfl rfl rfl) rfl rfl ?_) | (refine gExtract ?_; refine st (ok_extract rfl rfl) rfl rfl ?_) | (refine gIA ?_; refine st (ok_idxSN rfl rfl (by omega)) rfl rfl ?_) | (refine gCall ?_; refine st (ok_call rfl rfl rfl (by exact hsk)) rfl rfl ?_) | (refine gAlloc ?_; refine st (ok_alloc rfl) rfl rfl ?_) | (refine gStore ?_; refine stN (ok_store rfl rfl rfl rfl (by rfl)) rfl ?_)) | (refine gG ?_; first | (refine gMove ?_; refine stGA rfl (ok_move rfl) rfl rfl ?_) | (refine gLoad ?_; refine stGA rfl (ok_loadA rfl (by rfl)) rfl rfl ?_)) | refine W_seq ?_ | refine W_region ?_ | refine st_nil ?_ | refine tq_n ?_ | refine W_skip ?_ | refine W_block ?_ | refine W_condTA rfl ?_)
                      refine st_yieldG (l := 14) rfl rfl (by rw [hL]; rfl) rfl rfl rfl (fun _ _ _ _ he => wanted_rel (b := true) rfl he) ?_
                      repeat' (first | (refine gU ?_; first | (refine gAssign ?_; refine st (ok_assign rfl) rfl rfl ?_) | (refine gAlloc ?_; refine st (ok_alloc rfl) rfl rfl ?_) | (refine gStore ?_; refine stN (ok_store rfl rfl rfl rfl (by rfl)) rfl ?_)) | refine W_seq ?_ | refine W_region ?_ | refine st_nil ?_ | refine tq_n ?_)
                      refine roundA_n (by rw [hL]; rfl) ?_
                      repeat' (first | (refine fU ?_; first | (refine fMove ?_; refine frA (ok_move rfl) rfl ?_) | (refine fLoad ?_; refine frA (ok_load rfl (by rfl)) rfl ?_) | (refine fBin ?_; refine frA (ok_bin rfl rfl rfl) rfl ?_) | (refine fPick ?_; refine frA (ok_pickTA rfl rfl) rfl ?_)) | (refine fG ?_; first | (refine fLoad ?_; first | refine frGA rfl (ok_load rfl (by rfl)) rfl ?_ | refine frGA rfl (ok_loadA rfl (by rfl)) rfl ?_) | (refine fSub ?_; refine frGA rfl (ok_sub rfl rfl (by omega) (by omega)) rfl ?_) | (refine fBin ?_; first | refine frGA rfl (ok_bin rfl rfl rfl) rfl ?_ | refine frGA rfl (ok_neq2 rfl rfl) rfl ?_) | (refine fCall ?_; refine frGA rfl (ok_call rfl rfl rfl (by exact needs_ev ⟨.inl rfl, .inl rfl, .inl rfl⟩ hok hbg hl (by rfl))) rfl ?_)) | (refine fr_stop ⟨by kernel_rfl, ?_⟩) | refine W_seq ?_ | refine W_regionD (by kernel_rfl) rfl ?_ | refine st_nil ?_ | refine tq_n ?_ | refine bq_n ?_ | refine W_skip ?_ | refine W_block ?_ | refine W_condFA rfl ?_)
                      refine roundB_n rfl rfl ?_
                      repeat' (first | (refine gU ?_; first | (refine gMove ?_; refine st (ok_move rfl) rfl rfl ?_) | (refine gAdd ?_; refine st (ok_inc rfl rfl (by omega)) rfl rfl ?_) | (refine gPick ?_; refine st (ok_pickTA rfl rfl) rfl rfl ?_)) | (refine gG ?_; (refine gNot ?_; refine stGA rfl (ok_not' rfl) rfl rfl ?_)) | refine W_region ?_ | refine st_nil ?_ | refine tq_n ?_ | refine bq_n ?_ | refine W_skip ?_ | refine W_condFA rfl ?_)
                      refine ⟨rfl, (k + 1, m), ⟨by simp only; omega, hm2⟩, by simp only; omega, ?_⟩
                      rw [hL]
                      exact StRef.drop [.ro (benchC goal (.slice (some ⟨1, 0, none⟩) l.length c) (.slice (some ⟨2, 0, none⟩) (lastN l goal + 1) (lastN l goal + 1))), .ro (stonesC l), .ro (rowsC l goal (lastN l goal + 1)), .rw e.cells, mapO m, .rw [.map (some 4)], .rw [.func (.func 57) #[.pointer (some ⟨0, 0, none⟩)] #[]], .rw (keC l goal e A t j (k + 1)), .gr (edsC A) 24, .rw (al A j).cells, .rw [.int .i64 (t : Int)], .rw [.pointer (some ⟨0, 0, none⟩)], .rw (al A j).cells, .dfr, _] [_, _, _] (by simp) (hc_g15 l goal e c m hm2.plain _ (keC_plain l goal e A t j (k + 1)) A (al A j) t _ (by have := hLc; rw [hL] at this; exact this)) (by (repeat' (first | exact trivial | exact ⟨rfl, rfl, rfl⟩ | exact ⟨rfl, closed_slice rfl, rfl⟩ | refine ⟨?_, ?_⟩)))
                · have hH : ¬ (0 < (t : Int) ∧ can s (al A j) ∧ needsV l goal y = (t : Int) - 1) := fun h => ht0 h.1
                  rw [hKno (fun h => by omega)] at hsk hc1 ⊢
                  have hm2 := hm.congr (hMPno hH)
                  repeat' (first | (refine gU ?_; first | refine st (ok_loadA rfl hc1) rfl rfl ?_ | (refine gMove ?_; refine st (ok_move rfl) rfl rfl ?_) | (refine gAssign ?_; refine st (ok_assign rfl) rfl rfl ?_) | (refine gLoad ?_; refine st (ok_loadA rfl (by rfl)) rfl rfl ?_) | (refine gBin ?_; refine st (ok_bin rfl rfl rfl) rfl rfl ?_) | (refine gExtract ?_; refine st (ok_extract rfl rfl) rfl rfl ?_) | (refine gIA ?_; refine st (ok_idxSN rfl rfl (by omega)) rfl rfl ?_) | (refine gCall ?_; refine st (ok_call rfl rfl rfl (by exact hsk)) rfl rfl ?_) | (refine gAlloc ?_; refine st (ok_alloc rfl) rfl rfl ?_) | (refine gStore ?_; refine stN (ok_store rfl rfl rfl rfl (by rfl)) rfl ?_)) | (refine gG ?_; first | (refine gMove ?_; refine stGA rfl (ok_move rfl) rfl rfl ?_) | (refine gLoad ?_; refine stGA rfl (ok_loadA rfl (by rfl)) rfl rfl ?_)) | refine W_seq ?_ | refine W_region ?_ | refine st_nil ?_ | refine tq_n ?_ | refine W_skip ?_ | refine W_block ?_ | refine W_condTA rfl ?_)
                  refine st_yieldG (l := 14) rfl rfl (by rw [hL]; rfl) rfl rfl rfl (fun _ _ _ _ he => wanted_rel (b := true) rfl he) ?_
                  repeat' (first | (refine gU ?_; first | (refine gAssign ?_; refine st (ok_assign rfl) rfl rfl ?_) | (refine gAlloc ?_; refine st (ok_alloc rfl) rfl rfl ?_) | (refine gStore ?_; refine stN (ok_store rfl rfl rfl rfl (by rfl)) rfl ?_)) | refine W_seq ?_ | refine W_region ?_ | refine st_nil ?_ | refine tq_n ?_)
                  refine roundA_n (by rw [hL]; rfl) ?_
                  repeat' (first | (refine fU ?_; first | (refine fMove ?_; refine frA (ok_move rfl) rfl ?_) | (refine fLoad ?_; refine frA (ok_load rfl (by rfl)) rfl ?_) | (refine fBin ?_; refine frA (ok_bin rfl rfl rfl) rfl ?_) | (refine fPick ?_; refine frA (ok_pickFA rfl rfl) rfl ?_)) | (refine fG ?_; refine frSA rfl rfl ?_) | (refine fr_stop ⟨by kernel_rfl, ?_⟩) | refine W_seq ?_ | refine W_regionD (by kernel_rfl) rfl ?_ | refine st_nil ?_ | refine tq_n ?_ | refine bq_n ?_ | refine W_skip ?_ | refine W_block ?_ | refine W_condFA rfl ?_)
                  refine roundB_n rfl rfl ?_
                  repeat' (first | (refine gU ?_; first | (refine gMove ?_; refine st (ok_move rfl) rfl rfl ?_) | (refine gAdd ?_; refine st (ok_inc rfl rfl (by omega)) rfl rfl ?_) | (refine gPick ?_; refine st (ok_pickTA rfl rfl) rfl rfl ?_)) | (refine gG ?_; (refine gNot ?_; refine stGA rfl (ok_not' rfl) rfl rfl ?_)) | refine W_region ?_ | refine st_nil ?_ | refine tq_n ?_ | refine bq_n ?_ | refine W_skip ?_ | refine W_condFA rfl ?_)
                  refine ⟨rfl, (k + 1, m), ⟨by simp only; omega, hm2⟩, by simp only; omega, ?_⟩
                  rw [hL]
                  exact StRef.drop [.ro (benchC goal (.slice (some ⟨1, 0, none⟩) l.length c) (.slice (some ⟨2, 0, none⟩) (lastN l goal + 1) (lastN l goal + 1))), .ro (stonesC l), .ro (rowsC l goal (lastN l goal + 1)), .rw e.cells, mapO m, .rw [.map (some 4)], .rw [.func (.func 57) #[.pointer (some ⟨0, 0, none⟩)] #[]], .rw (keC l goal e A t j (k + 1)), .gr (edsC A) 24, .rw (al A j).cells, .rw [.int .i64 (t : Int)], .rw [.pointer (some ⟨0, 0, none⟩)], .rw (al A j).cells, .dfr, _] [_, _, _] (by simp) (hc_g15 l goal e c m hm2.plain _ (keC_plain l goal e A t j (k + 1)) A (al A j) t _ (by have := hLc; rw [hL] at this; exact this)) (by (repeat' (first | exact trivial | exact ⟨rfl, rfl, rfl⟩ | exact ⟨rfl, closed_slice rfl, rfl⟩ | refine ⟨?_, ?_⟩)))
              · rw [if_pos (by omega)] at hsk
                have hH : ¬ (0 < (t : Int) ∧ can s (al A j) ∧ needsV l goal (aft s (al A j)) = (t : Int) - 1) := fun h => hcn h.2.1
                rw [hKno (fun _ h => hcn h.1)] at hsk hc1 ⊢
                have hm2 := hm.congr (hMPno hH)
                repeat' (first | (refine gU ?_; first | refine st (ok_loadA rfl hc1) rfl rfl ?_ | (refine gMove ?_; refine st (ok_move rfl) rfl rfl ?_) | (refine gAssign ?_; refine st (ok_assign rfl) rfl rfl ?_) | (refine gLoad ?_; refine st (ok_loadA rfl (by rfl)) rfl rfl ?_) | (refine gAdd ?_; refine st (ok_inc rfl rfl (by omega)) rfl rfl ?_) | (refine gBin ?_; refine st (ok_bin rfl rfl rfl) rfl rfl ?_) | (refine gPick ?_; refine st (ok_pickFA rfl rfl) rfl rfl ?_) | (refine gExtract ?_; refine st (ok_extract rfl rfl) rfl rfl ?_) | (refine gIA ?_; refine st (ok_idxSN rfl rfl (by omega)) rfl rfl ?_) | (refine gCall ?_; refine st (ok_call rfl rfl rfl (by exact hsk)) rfl rfl ?_) | (refine gAlloc ?_; refine st (ok_alloc rfl) rfl rfl ?_) | (refine gStore ?_; refine stN (ok_store rfl rfl rfl rfl (by rfl)) rfl ?_)) | (refine gG ?_; refine stSA rfl rfl ?_) | refine W_seq ?_ | refine W_region ?_ | refine st_nil ?_ | refine tq_n ?_ | refine bq_n ?_ | refine W_skip ?_ | refine W_block ?_ | refine W_condTA rfl ?_ | refine W_condFA rfl ?_)
                exact ⟨rfl, (k + 1, m), ⟨by simp only; omega, hm2⟩, by simp only; omega, StRef.drop [.ro (benchC goal (.slice (some ⟨1, 0, none⟩) l.length c) (.slice (some ⟨2, 0, none⟩) (lastN l goal + 1) (lastN l goal + 1))), .ro (stonesC l), .ro (rowsC l goal (lastN l goal + 1)), .rw e.cells, mapO m, .rw [.map (some 4)], .rw [.func (.func 57) #[.pointer (some ⟨0, 0, none⟩)] #[]], .rw (keC l goal e A t j (k + 1)), .gr (edsC A) 24, .rw (al A j).cells, .rw [.int .i64 (t : Int)], .rw [.pointer (some ⟨0, 0, none⟩)], .rw (al A j).cells, .dfr, L] [_, _] (by simp) (hc_g15 l goal e c m hm.plain _ (keC_plain l goal e A t j (k + 1)) A (al A j) t L hLc) (by (repeat' (first | exact trivial | exact ⟨rfl, rfl, rfl⟩ | exact ⟨rfl, closed_slice rfl, rfl⟩ | refine ⟨?_, ?_⟩)))⟩
            · obtain rfl : k = l.length := by omega
              rw [keC_next]
              repeat' (first | (refine gU ?_; (refine gBin ?_; refine st (ok_bin rfl rfl rfl) rfl rfl ?_)) | refine W_seq ?_ | refine W_region ?_ | refine st_nil ?_ | refine tq_n ?_ | refine tq_e ?_ | refine bq_hit rfl ?_ | refine W_exit ?_ | refine W_condFA rfl ?_)
              refine retN .nil .all ⟨_, _, _, _, _, _, _, by rw [hL]; rfl, by simp, ?_⟩
              dsimp only
              repeat' (first | (refine gU ?_; first | (refine gMove ?_; refine st (ok_move rfl) rfl rfl ?_) | (refine gAdd ?_; refine st (ok_inc rfl rfl (by omega)) rfl rfl ?_)) | refine W_region ?_ | refine st_nil ?_ | refine tq_n ?_ | refine bq_n ?_)
              refine ⟨(j + 1, m), ⟨⟨by simp only; omega, hm.congr fun x k => MP_next⟩, by simp only; omega⟩, Tail.StRefD.src [.ro (benchC goal (.slice (some ⟨1, 0, none⟩) l.length c) (.slice (some ⟨2, 0, none⟩) (lastN l goal + 1) (lastN l goal + 1))), .ro (stonesC l), .ro (rowsC l goal (lastN l goal + 1)), .rw e.cells, mapO m, .rw [.map (some 4)], .rw [.func (.func 57) #[.pointer (some ⟨0, 0, none⟩)] #[]], .rw (keC l goal e A t (j + 1) 0), .gr (edsC A) 24] [] [] 13 (by simp) rfl (hc_f9 l goal e c m hm.plain _ (keC_plain l goal e A t (j + 1) 0) A) rfl rfl rfl trivial (by (repeat' (first | exact trivial | refine ⟨er_plain rfl rfl, ?_⟩ | refine ⟨er_slvV rfl (by simp) rfl, ?_⟩ | refine ⟨er_ptr rfl (by simp) rfl, ?_⟩)))⟩
          · obtain rfl : j = A.length := by omega
            rw [keC_end hLv]
            repeat' (first | (refine gU ?_; (refine gBin ?_; refine st (ok_bin rfl rfl rfl) rfl rfl ?_)) | refine W_seq ?_ | refine W_region ?_ | refine st_nil ?_ | refine tq_n ?_ | refine tq_e ?_ | refine bq_n ?_ | refine bq_hit rfl ?_ | refine W_exit ?_ | refine W_condFA rfl ?_)
            exact ⟨(t, m), ⟨⟨by simp only; omega, hm.congr fun x k => MP_end hLv rfl (by omega)⟩, by simp only; omega⟩, .of (StRef.drop [.ro (benchC goal (.slice (some ⟨1, 0, none⟩) l.length c) (.slice (some ⟨2, 0, none⟩) (lastN l goal + 1) (lastN l goal + 1))), .ro (stonesC l), .ro (rowsC l goal (lastN l goal + 1)), .rw e.cells, mapO m, .rw [.map (some 4)], .rw [.func (.func 57) #[.pointer (some ⟨0, 0, none⟩)] #[]], .rw (koC l goal e t)] [_] (by simp) (hc_e8 l goal e c m hm.plain _ (koC_plain l goal e t)) (by (repeat' (first | exact trivial | exact ⟨rfl, rfl, rfl⟩ | refine ⟨?_, ?_⟩)))) (by simp)⟩
        · obtain ⟨x, n, rfl, hxn⟩ := hm.mem hq
          have hn : n = (t : Int) := by have := hxn.1; omega
          subst hn
          have hil2 := edsC_len A
          have hlen : (A ++ [x]).length = A.length + 1 := by simp
          have hmap : (A.map keyE ++ [keyE x]).map kv = ((A ++ [x]).map keyE).map kv := by simp
          repeat' (first | (refine gU ?_; (refine gExtract ?_; refine st (ok_extract rfl rfl) rfl rfl ?_)) | refine W_seq ?_ | refine W_region ?_ | refine st_nil ?_ | refine tq_n ?_ | refine W_skip ?_ | refine W_block ?_ | refine W_condTA rfl ?_)
          refine st (ok_entry (i := 4) (l := m) (seen := A.map keyE) (k := keyE x) (v := .int .i64 (t : Int)) rfl rfl rfl hq) rfl rfl ?_
          repeat' (first | (refine gU ?_; first | (refine gMove ?_; refine st (ok_move rfl) rfl rfl ?_) | (refine gAssign ?_; refine st (ok_assign rfl) rfl rfl ?_) | (refine gLoad ?_; refine st (ok_loadA rfl (by rfl)) rfl rfl ?_) | (refine gExtract ?_; refine st (ok_extract rfl rfl) rfl rfl ?_) | (refine gAlloc ?_; refine st (ok_alloc rfl) rfl rfl ?_) | (refine gBuildS ?_; refine st (ok_buildS (by rfl) (by rfl) (by rfl) (by rfl) rfl (by rfl)) rfl rfl ?_) | (refine gApp ?_; refine st (ok_appendV (by rfl) (by rfl) rfl (by rfl) (by exact hil2) rfl (by rfl) (by omega) (by rfl) (by omega) (by omega)) rfl rfl ?_) | (refine gStore ?_; refine stN (ok_store rfl rfl rfl rfl (by rfl)) rfl ?_)) | refine W_region ?_ | refine st_nil ?_ | refine tq_n ?_ | refine bq_n ?_)
          refine ⟨rfl, A ++ [x], ⟨List.nodup_append.2 ⟨hnd, by simp, fun a ha b hb hab => ?_⟩, fun y hy => ?_⟩, ?_, ?_⟩
          · rw [List.mem_singleton] at hb
            subst hb; subst hab
            exact hns (List.mem_map.2 ⟨_, ha, rfl⟩)
          · rcases List.mem_append.1 hy with hy | hy
            · exact hAt y hy
            · rw [List.mem_singleton] at hy; subst hy; exact hxn.2.2
          · rw [List.map_append]; exact left_lt (List.Sublist.refl _) (mem_key hq) hns
          · rw [← hmap]
            exact StRef.src [.ro (benchC goal (.slice (some ⟨1, 0, none⟩) l.length c) (.slice (some ⟨2, 0, none⟩) (lastN l goal + 1) (lastN l goal + 1))), .ro (stonesC l), .ro (rowsC l goal (lastN l goal + 1)), .rw e.cells, mapO m, .rw [.map (some 4)], .rw [.func (.func 57) #[.pointer (some ⟨0, 0, none⟩)] #[]], .rw (koC l goal e (t + 1)), .iter 4 ((A.map keyE ++ [keyE x]).map kv)] [.gr (edsC (A ++ [x])) 24] [12] (by simp) rfl (hc_e9 l goal e c m hm.plain _ (koC_plain l goal e _) _) rfl rfl ⟨osub_gr rfl (by rw [edsC_app]; rfl) (edsC_plain _), trivial⟩ (by (repeat' (first | exact trivial | refine ⟨er_slvV (by rw [hlen]; rfl) (by simp) rfl, ?_⟩ | refine ⟨er_ptr rfl (by simp) rfl, ?_⟩)))
end Go.Proofs.Ytindbippegiopaa
namespace Go.Proofs.Ytindbippegiopaa
open Go Go.AH
attribute [local irreducible] WOps WCode WFree retQ thenQ blockQ scopeQ OpOk ACall RetRef roundA roundB
set_option maxRecDepth 100000
set_option maxHeartbeats 1000000
open Go.AH.Hone
theorem ends73_ev {σ : Heap} {l : List Sn} {goal e : Ed} {p x y c : Nat} (hb : BAt σ p x y l goal c) (hbe : ¬ badEd e) (hbg : ¬ badEd goal) (hl6 : l.length ≤ 6) (hl : ∀ i < l.length, ¬ badSn (gs l i)) (h0 : 0 ≤ needsV l goal e) (hni : σ.all (fun o => !isIter o) = true) :
    Ev Try.prog 73 [.pointer (some ⟨p, 0, none⟩), e.val] σ (.slice (some ⟨σ.length, 0, none⟩) (endsK l e goal l.length).length (endsK l e goal l.length).length) (σ ++ [.rw (ints (endsK l e goal l.length))]) := by
  refine Ev.arrsR (news := [.rw (ints (endsK l e goal l.length))]) (bCss l goal c ++ []) (bBs p x y l goal c ++ []) (ends_ok l goal e c hbe hbg hl6 hl h0) (hb.cells trivial) (show AS 3 (bsR [p, x, y]) [.pointer (some ⟨0, 0, none⟩), e.val] [.pointer (some ⟨p, 0, none⟩), e.val] from ⟨VQ.ptr (q := true) (n := 3) (ρ := bsR [p, x, y]) 0 0 (by omega), vrel_plain _ rfl, trivial⟩) rfl ?_ ?_ hni
  · simp [ren, shf, bCss]
  · simp only [List.map_cons, List.map_nil, renO, renL_plain _ (ints_plain _)]
theorem rimEnds_ok (l : List Sn) (e goal : Ed) (c : Nat) (hN : l.length ≤ 1000000) :
    Ev Try.prog 38 [.slice (some ⟨0, 0, none⟩) l.length c, e.val, goal.val] [.ro (stonesC l)] (.tuple #[.slice (some ⟨1, 0, none⟩) (endsL l e goal).length (endsL l e goal).length, .int .i64 (bestE l e goal)]) [.ro (stonesC l), .rw (ints (endsL l e goal))] := by
  unfold endsL
  by_cases h : bestE l e goal = 0
  · rw [if_neg (by omega), h]
    obtain ⟨ha, hn⟩ := bestE_zero h
    obtain ⟨g1, g2, g3⟩ := askE_zero ha
    obtain ⟨b1, b2, hl⟩ := boxE_zero g1
    have hopen := open_evOk (σ := [.ro (stonesC l), .rw e.cells, .rw goal.cells]) (l := l) (e := e) (goal := goal) (x := 0) (c := c) (.inl rfl) ha hN rfl
    have hneeds := needs_ev (σ := [.ro (stonesC l), .rw e.cells, .rw goal.cells, .rw (benchC goal (.slice (some ⟨0, 0, none⟩) l.length c) (.slice (some ⟨4, 0, none⟩) (lastN l goal + 1) (lastN l goal + 1))), .rw (rowsC l goal (lastN l goal + 1))]) (l := l) (e := e) (goal := goal) (p := 3) (x := 0) (y := 4) (c := c) ⟨.inr (.inl rfl), .inl rfl, .inr (.inl rfl)⟩ g2 g3 hl rfl
    have hends := ends73_ev (σ := [.ro (stonesC l), .rw e.cells, .rw goal.cells, .rw (benchC goal (.slice (some ⟨0, 0, none⟩) l.length c) (.slice (some ⟨4, 0, none⟩) (lastN l goal + 1) (lastN l goal + 1))), .rw (rowsC l goal (lastN l goal + 1))]) (l := l) (e := e) (goal := goal) (p := 3) (x := 0) (y := 4) (c := c) ⟨.inr (.inl rfl), .inl rfl, .inr (.inl rfl)⟩ g2 g3 b2 hl hn rfl
    refine acall_intro 1 27 Try.func38 rfl rfl rfl rfl rfl ?_
    repeat' (first | (refine gU ?_; first | (refine gMove ?_; refine st (ok_move rfl) rfl rfl ?_) | (refine gAssign ?_; refine st (ok_assign rfl) rfl rfl ?_) | (refine gLoad ?_; refine st (ok_loadA rfl (by rfl)) rfl rfl ?_) | (refine gBin ?_; refine st (ok_bin rfl rfl rfl) rfl rfl ?_) | (refine gExtract ?_; refine st (ok_extract rfl rfl) rfl rfl ?_) | (refine gCall ?_; refine st (ok_call rfl rfl rfl (by first | exact hopen | exact hneeds | exact hends)) rfl rfl ?_) | (refine gBox ?_; refine st (ok_box rfl) rfl rfl ?_)) | refine W_seq ?_ | refine W_region ?_ | refine st_nil ?_ | refine tq_n ?_ | refine W_skip ?_ | refine W_ret ?_ | refine W_condFA rfl ?_)
    exact ret0 (.tmp rfl (.tmp rfl .nil)) (retSl' (j := 5) rfl (ints_plain (endsK l e goal l.length)) (.inl rfl) rfl rfl (Nat.le_refl _)) ⟨rfl, rfl⟩
  · rw [if_pos h]
    unfold bestE at h ⊢
    by_cases ha : askE l e goal = 0
    · rw [if_neg (by omega)] at h ⊢
      have hn : needsV l goal e < 0 := by
        apply Classical.byContradiction
        intro hn
        rw [if_neg hn] at h; exact h rfl
      rw [if_pos hn]
      obtain ⟨g1, g2, g3⟩ := askE_zero ha
      obtain ⟨b1, b2, hl⟩ := boxE_zero g1
      have hopen := open_evOk (σ := [.ro (stonesC l), .rw e.cells, .rw goal.cells]) (l := l) (e := e) (goal := goal) (x := 0) (c := c) (.inl rfl) ha hN rfl
      have hneeds := needs_ev (σ := [.ro (stonesC l), .rw e.cells, .rw goal.cells, .rw (benchC goal (.slice (some ⟨0, 0, none⟩) l.length c) (.slice (some ⟨4, 0, none⟩) (lastN l goal + 1) (lastN l goal + 1))), .rw (rowsC l goal (lastN l goal + 1))]) (l := l) (e := e) (goal := goal) (p := 3) (x := 0) (y := 4) (c := c) ⟨.inr (.inl rfl), .inl rfl, .inr (.inl rfl)⟩ g2 g3 hl rfl
      refine acall_intro 1 27 Try.func38 rfl rfl rfl rfl rfl ?_
      repeat' (first | (refine gU ?_; first | (refine gMove ?_; refine st (ok_move rfl) rfl rfl ?_) | (refine gAssign ?_; refine st (ok_assign rfl) rfl rfl ?_) | (refine gLoad ?_; refine st (ok_loadA rfl (by rfl)) rfl rfl ?_) | (refine gBin ?_; refine st (ok_bin rfl rfl rfl) rfl rfl ?_) | (refine gExtract ?_; refine st (ok_extract rfl rfl) rfl rfl ?_) | (refine gCall ?_; refine st (ok_call rfl rfl rfl (by first | exact hopen | exact hneeds)) rfl rfl ?_) | (refine gBox ?_; refine st (ok_box rfl) rfl rfl ?_)) | refine W_seq ?_ | refine W_region ?_ | refine st_nil ?_ | refine tq_n ?_ | refine tq_r ?_ | refine W_skip ?_ | refine W_ret ?_ | refine W_condTA rfl ?_ | refine W_condFA rfl ?_)
      exact ret0 (.tmp rfl (.tmp rfl .nil)) (retNil rfl rfl) ⟨rfl, rfl⟩
    · rw [if_pos ha]
      have hopen := open_evBad (σ := [.ro (stonesC l), .rw e.cells, .rw goal.cells]) (l := l) (e := e) (goal := goal) (x := 0) (c := c) (.inl rfl) ha hN rfl
      refine acall_intro 1 27 Try.func38 rfl rfl rfl rfl rfl ?_
      repeat' (first | (refine gU ?_; first | (refine gMove ?_; refine st (ok_move rfl) rfl rfl ?_) | (refine gAssign ?_; refine st (ok_assign rfl) rfl rfl ?_) | (refine gLoad ?_; refine st (ok_loadA rfl (by rfl)) rfl rfl ?_) | (refine gBin ?_; refine st (ok_bin rfl rfl rfl) rfl rfl ?_) | (refine gExtract ?_; refine st (ok_extract rfl rfl) rfl rfl ?_) | (refine gCall ?_; refine st (ok_call rfl rfl rfl (by exact hopen)) rfl rfl ?_) | (refine gBox ?_; refine st (ok_box rfl) rfl rfl ?_)) | refine W_seq ?_ | refine W_region ?_ | refine st_nil ?_ | refine tq_n ?_ | refine tq_r ?_ | refine W_ret ?_ | refine W_condTA rfl ?_)
      exact ret0 (.tmp rfl (.tmp rfl .nil)) (retNil rfl rfl) ⟨rfl, rfl⟩
theorem ends_ev {σ : Heap} {l : List Sn} {e goal : Ed} {x c : Nat} (hx : arrAt σ x (stonesC l)) (hL : l.length ≤ 1000000) (hni : σ.all (fun o => !isIter o) = true) :
    Ev Try.prog 38 [.slice (some ⟨x, 0, none⟩) l.length c, e.val, goal.val] σ (.tuple #[.slice (some ⟨σ.length, 0, none⟩) (endsL l e goal).length (endsL l e goal).length, .int .i64 (bestE l e goal)]) (σ ++ [.rw (ints (endsL l e goal))]) := by
  refine Ev.arrsN [stonesC l] [x] (rimEnds_ok l e goal c hL) ⟨hx, trivial⟩ ⟨by simpa [bsR] using VQ.slice (q := true) (n := 1) (ρ := bsR [x]) 0 0 l.length c c (Nat.le_refl _) (by omega), vrel_plain _ rfl, vrel_plain _ rfl, trivial⟩ (by simp [stonesC_plain]) rfl ?_ ?_ hni
  · simp [ren, renA, renL, shf]
  · simp only [List.map_cons, List.map_nil, renO, renL_plain _ (ints_plain _)]
end Go.Proofs.Ytindbippegiopaa
namespace Go.AH.Hone
open Go Go.AH
deriving instance DecidableEq for Ed
def all7 (p : Nat → Bool) : Bool := (List.range 7).all p
theorem all7_is {p : Nat → Bool} (h : all7 p = true) : ∀ b < 7, p b = true := fun b hb => List.all_eq_true.1 h b (List.mem_range.2 hb)
def rowStep (l : List Sn) (r : List Int) : List Int := [moreK l (gi r) 0 l.length, moreK l (gi r) 1 l.length, moreK l (gi r) 2 l.length, moreK l (gi r) 3 l.length, moreK l (gi r) 4 l.length, moreK l (gi r) 5 l.length, moreK l (gi r) 6 l.length]
theorem rowStep_get {l : List Sn} {r : List Int} : ∀ {b : Nat}, b < 7 → gi (rowStep l r) b = moreF l (gi r) b
  | 0, _ => rfl | 1, _ => rfl | 2, _ => rfl | 3, _ => rfl | 4, _ => rfl | 5, _ => rfl | 6, _ => rfl
def chainB (l : List Sn) : List Int → List (List Int) → Bool
  | _, [] => true
  | r, r' :: t => decide (rowStep l r = r') && chainB l r' t
def tabB (l : List Sn) (goal : Ed) : List (List Int) → Bool
  | [] => true
  | r :: t => all7 (fun b => decide (gi r b = first goal b)) && chainB l r t
def TabIs (l : List Sn) (goal : Ed) (T : List (List Int)) : Prop := ∀ k < T.length, ∀ b < 7, rowN l goal k b = gi (T.getD k []) b
theorem chain_is {l : List Sn} {goal : Ed} (hl : ∀ i < l.length, ¬ badSn (gs l i)) : ∀ {t : List (List Int)} {r : List Int} {n : Nat}, (∀ b < 7, rowN l goal n b = gi r b) → chainB l r t = true → ∀ k < t.length + 1, ∀ b < 7, rowN l goal (n + k) b = gi ((r :: t).getD k []) b
  | t, r, n, h0, _, 0, _, b, hb => h0 b hb
  | [], r, n, _, _, k + 1, hk, b, hb => by simp at hk
  | r' :: t, r, n, h0, h, k + 1, hk, b, hb => by
    simp only [chainB, Bool.and_eq_true, decide_eq_true_eq] at h
    have ih := chain_is hl (t := t) (r := r') (n := n + 1) (fun b hb => by
      rw [← h.1, rowStep_get hb]
      exact moreK_congr hl (fun b hb => h0 b hb) hb l.length (Nat.le_refl _)) h.2 k (by simpa using hk) b hb
    rw [show n + (k + 1) = n + 1 + k by omega, ih]; rfl
theorem tab_is {l : List Sn} {goal : Ed} {T : List (List Int)} (hl : ∀ i < l.length, ¬ badSn (gs l i)) (h : tabB l goal T = true) : TabIs l goal T := by
  cases T with
  | nil => intro k hk; simp at hk
  | cons r t =>
    simp only [tabB, Bool.and_eq_true] at h
    intro k hk b hb
    have := chain_is hl (n := 0) (fun b hb => (of_decide_eq_true (all7_is h.1 b hb)).symm) h.2 k (by simpa using hk) b hb
    rwa [Nat.zero_add] at this
def lastB (T : List (List Int)) (L : Nat) : Bool := decide (L + 2 ≤ T.length) && all7 (fun b => decide (gi (T.getD L []) b = gi (T.getD (L + 1) []) b)) && (List.range L).all fun m => !(all7 fun b => decide (gi (T.getD m []) b = gi (T.getD (m + 1) []) b))
section
variable {l : List Sn} {goal : Ed} {T : List (List Int)} {L : Nat}
theorem last_is (hg : ¬ badEd goal) (hT : TabIs l goal T) (h : lastB T L = true) : lastN l goal = L := by
  simp only [lastB, Bool.and_eq_true, decide_eq_true_eq] at h
  obtain ⟨⟨h1, h2⟩, h3⟩ := h
  replace h2 := fun b hb => of_decide_eq_true (all7_is h2 b hb)
  replace h3 : ∀ m < L, ¬ sameR (gi (T.getD m [])) (gi (T.getD (m + 1) [])) := fun m hm hs => by
    have := List.all_eq_true.1 h3 m (List.mem_range.2 hm)
    simp only [Bool.not_eq_true'] at this
    have h' : all7 (fun b => decide (gi (T.getD m []) b = gi (T.getD (m + 1) []) b)) = true := List.all_eq_true.2 fun b hb => decide_eq_true (hs b (List.mem_range.1 hb))
    rw [h'] at this; cases this
  obtain ⟨g1, _, g3⟩ := lastN_is (l := l) hg
  rcases Nat.lt_trichotomy (lastN l goal) L with hlt | heq | hgt
  · exfalso
    exact h3 _ hlt fun b hb => by rw [← hT _ (by omega) b hb, ← hT _ (by omega) b hb]; exact g1 b hb
  · exact heq
  · exfalso
    exact g3 L hgt fun b hb => by rw [hT _ (by omega) b hb, hT _ (by omega) b hb]; exact h2 b hb
def needsT (T : List (List Int)) (e : Ed) : Nat → Int
  | 0 => -1
  | k + 1 => if 0 ≤ needsT T e k then needsT T e k else if e.d ≤ gi (T.getD k []) e.b.toNat then k else -1
theorem needsT_is (hT : TabIs l goal T) {e : Ed} (he : ¬ badEd e) : ∀ k ≤ T.length, needsK l goal e k = needsT T e k
  | 0, _ => rfl
  | k + 1, hk => by
    have ih := needsT_is hT he k (by omega)
    simp only [needsK, needsT, ih]
    have hb : e.b.toNat < 7 := by unfold badEd at he; omega
    by_cases h0 : 0 ≤ needsT T e k
    · rw [if_pos h0, if_pos h0]
    · rw [if_neg h0, if_neg h0]
      have hi : inR (rowN l goal k) e ↔ e.d ≤ gi (T.getD k []) e.b.toNat := by unfold inR; rw [hT k (by omega) _ hb]
      by_cases h1 : inR (rowN l goal k) e
      · rw [if_pos h1, if_pos (hi.1 h1)]
      · rw [if_neg h1, if_neg fun h => h1 (hi.2 h)]
theorem needsV_is (hg : ¬ badEd goal) (hT : TabIs l goal T) (h : lastB T L = true) {e : Ed} (he : ¬ badEd e) : needsV l goal e = needsT T e (L + 1) := by
  unfold needsV
  rw [last_is hg hT h]
  simp only [lastB, Bool.and_eq_true, decide_eq_true_eq] at h
  exact needsT_is hT he _ (by omega)
def bestB (l : List Sn) (T : List (List Int)) : Nat → Ed → List Nat → Bool
  | 0, _, p => p.isEmpty
  | _ + 1, _, [] => false
  | n + 1, e, i :: p => decide (¬ badEd e) && decide (i < l.length) && decide (can (gs l i) e) && decide (pickF (fun i => can (gs l i) e ∧ (aft (gs l i) e).d ≤ gi (T.getD n []) (aft (gs l i) e).b.toNat) l.length = (i : Int)) && bestB l T n (aft (gs l i) e) p
theorem bestS_is (hl : ∀ i < l.length, ¬ badSn (gs l i)) (hT : TabIs l goal T) : ∀ (n : Nat) (e : Ed) (p : List Nat), n ≤ T.length → bestB l T n e p = true → bestS l goal n e = p
  | 0, e, p, _, h => by simp only [bestB, List.isEmpty_iff] at h; subst h; rfl
  | n + 1, e, [], _, h => by simp [bestB] at h
  | n + 1, e, i :: p, hn, h => by
    simp only [bestB, Bool.and_eq_true, decide_eq_true_eq] at h
    obtain ⟨⟨⟨⟨he, hi⟩, hc⟩, hp⟩, h⟩ := h
    have e1 : pickF (fun i => can (gs l i) e ∧ inR (rowN l goal n) (aft (gs l i) e)) l.length = (i : Int) := by
      rw [← hp]
      refine pickF_congr _ fun k hk => and_congr_right fun hck => ?_
      have ha := aft_ok (hl k hk) he hck
      unfold inR
      rw [hT n (by omega) _ (by unfold badEd at ha; omega)]
    simp only [bestS, e1, Int.toNat_natCast]
    rw [bestS_is hl hT n _ p (by omega) h]
def onB (l : List Sn) (T : List (List Int)) (L : Nat) (e : Ed) (S : List Ed) : Bool :=
  decide (e ∈ S) && S.all fun x => decide (¬ badEd x) && (List.range l.length).all fun i => !(decide (can (gs l i) x)) || !(decide (0 ≤ needsT T (aft (gs l i) x) (L + 1))) || !(decide (needsT T x (L + 1) = needsT T (aft (gs l i) x) (L + 1) + 1)) || decide (aft (gs l i) x ∈ S)
theorem on_is (hl : ∀ i < l.length, ¬ badSn (gs l i)) (hg : ¬ badEd goal) (hT : TabIs l goal T) (hL : lastB T L = true) {e : Ed} {S : List Ed} (h : onB l T L e S = true) {x : Ed} (hx : On l goal e x) : x ∈ S ∧ ¬ badEd x := by
  simp only [onB, Bool.and_eq_true, decide_eq_true_eq, List.all_eq_true] at h
  obtain ⟨h0, h1⟩ := h
  induction hx with
  | start => exact ⟨h0, (h1 _ h0).1⟩
  | @step x i _ hi hc hn0 hn ih =>
    obtain ⟨h2, h3⟩ := h1 x ih.1
    have ha := aft_ok (hl i hi) h2 hc
    rw [needsV_is hg hT hL ha] at hn0 hn
    rw [needsV_is hg hT hL h2] at hn
    have := h3 i (by simpa using hi)
    simp only [hc, hn0, hn, decide_true, Bool.not_true, Bool.false_or, decide_eq_true_eq] at this
    exact ⟨this, ha⟩
def noEndB (l : List Sn) (T : List (List Int)) (L : Nat) (S : List Ed) (i : Nat) : Bool := S.all fun x => !(decide (can (gs l i) x) && decide (needsT T x (L + 1) = 1) && decide (needsT T (aft (gs l i) x) (L + 1) = 0))
theorem noEnd_is (hl : ∀ i < l.length, ¬ badSn (gs l i)) (hg : ¬ badEd goal) (hT : TabIs l goal T) (hL : lastB T L = true) {e : Ed} {S : List Ed} (h : onB l T L e S = true) {i : Nat} (hi : i < l.length) (h2 : noEndB l T L S i = true) : ¬ endsP l goal e i := by
  rintro ⟨x, hx, hc, h3, h4⟩
  obtain ⟨g1, g2⟩ := on_is hl hg hT hL h hx
  have ha := aft_ok (hl i hi) g2 hc
  rw [needsV_is hg hT hL g2] at h3
  rw [needsV_is hg hT hL ha] at h4
  have := List.all_eq_true.1 h2 x g1
  simp [hc, h3, h4] at this
end
def box3 : List Sn := [⟨20, 15, 2⟩, ⟨5, 4, 1⟩, ⟨0, 1, -3⟩]
def box2 : List Sn := [⟨20, 15, 2⟩, ⟨5, 4, 1⟩]
def ed40 : Ed := ⟨40, 0⟩
def ed4 : Ed := ⟨4, 0⟩
def tab3 : List (List Int) := [[4, -1, -1, -1, -1, -1, -1], [5, 5, 5, 5, -1, -1, -1], [9, 9, 9, 6, 6, 6, 6], [13, 13, 10, 10, 10, 10, 7], [17, 14, 14, 14, 14, 11, 11], [18, 18, 18, 18, 15, 15, 15], [22, 22, 22, 19, 19, 19, 19], [37, 26, 23, 23, 23, 23, 20], [38, 38, 38, 38, 35, 24, 24], [53, 53, 50, 39, 39, 39, 39], [65, 54, 54, 54, 54, 51, 40], [69, 69, 69, 66, 55, 55, 55], [84, 81, 70, 70, 70, 70, 67], [85, 85, 85, 85, 82, 71, 71], [100, 100, 97, 86, 86, 86, 86], [100, 100, 100, 100, 100, 98, 87], [100, 100, 100, 100, 100, 100, 100], [100, 100, 100, 100, 100, 100, 100]]
def tab2 : List (List Int) := [[4, -1, -1, -1, -1, -1, -1], [4, -1, -1, -1, -1, -1, -1]]
def tabB0 : List (List Int) := [[4, -1, -1, -1, -1, -1, -1], [5, 5, 5, 5, -1, -1, -1], [9, 9, 9, 6, 6, 6, 6], [13, 13, 10, 10, 10, 10, 7], [17, 14, 14, 14, 14, 11, 11], [18, 18, 18, 18, 15, 15, 15], [22, 22, 22, 19, 19, 19, 19], [26, 26, 23, 23, 23, 23, 20], [30, 27, 27, 27, 27, 24, 24], [31, 31, 31, 31, 28, 28, 28], [35, 35, 35, 32, 32, 32, 32], [39, 39, 36, 36, 36, 36, 33], [43, 40, 40, 40, 40, 37, 37], [44, 44, 44, 44, 41, 41, 41], [48, 48, 48, 45, 45, 45, 45], [52, 52, 49, 49, 49, 49, 46], [56, 53, 53, 53, 53, 50, 50], [57, 57, 57, 57, 54, 54, 54], [61, 61, 61, 58, 58, 58, 58], [65, 65, 62, 62, 62, 62, 59], [69, 66, 66, 66, 66, 63, 63], [70, 70, 70, 70, 67, 67, 67], [74, 74, 74, 71, 71, 71, 71], [78, 78, 75, 75, 75, 75, 72], [82, 79, 79, 79, 79, 76, 76], [83, 83, 83, 83, 80, 80, 80], [87, 87, 87, 84, 84, 84, 84], [91, 91, 88, 88, 88, 88, 85], [95, 92, 92, 92, 92, 89, 89], [96, 96, 96, 96, 93, 93, 93], [100, 100, 100, 97, 97, 97, 97], [100, 100, 100, 100, 100, 100, 98], [100, 100, 100, 100, 100, 100, 100], [100, 100, 100, 100, 100, 100, 100]]
def tabC0 : List (List Int) := [[4, -1, -1, -1, -1, -1, -1], [5, 5, 5, 5, -1, -1, -1], [6, 6, 6, 6, 6, 6, 6], [7, 7, 7, 7, 7, 7, 7], [8, 8, 8, 8, 8, 8, 8], [9, 9, 9, 9, 9, 9, 9], [10, 10, 10, 10, 10, 10, 10], [11, 11, 11, 11, 11, 11, 11], [12, 12, 12, 12, 12, 12, 12], [13, 13, 13, 13, 13, 13, 13], [14, 14, 14, 14, 14, 14, 14], [15, 15, 15, 15, 15, 15, 15], [16, 16, 16, 16, 16, 16, 16], [17, 17, 17, 17, 17, 17, 17], [18, 18, 18, 18, 18, 18, 18], [19, 19, 19, 19, 19, 19, 19], [20, 20, 20, 20, 20, 20, 20], [35, 35, 35, 35, 35, 21, 21], [50, 50, 50, 36, 36, 36, 36], [65, 51, 51, 51, 51, 51, 37], [66, 66, 66, 66, 52, 52, 52], [81, 81, 67, 67, 67, 67, 67], [82, 82, 82, 82, 82, 68, 68], [97, 97, 97, 83, 83, 83, 83], [100, 98, 98, 98, 98, 98, 84], [100, 100, 100, 100, 99, 99, 99], [100, 100, 100, 100, 100, 100, 100], [100, 100, 100, 100, 100, 100, 100]]
def on40 : List Ed := [⟨40, 0⟩, ⟨25, 2⟩, ⟨36, 1⟩, ⟨20, 4⟩, ⟨21, 3⟩, ⟨24, 0⟩, ⟨35, 0⟩, ⟨16, 5⟩, ⟨19, 1⟩, ⟨17, 4⟩, ⟨20, 0⟩, ⟨20, 2⟩, ⟨20, 1⟩, ⟨12, 6⟩, ⟨15, 2⟩, ⟨18, 0⟩, ⟨13, 5⟩, ⟨16, 1⟩, ⟨16, 3⟩, ⟨16, 2⟩, ⟨11, 3⟩, ⟨14, 0⟩, ⟨14, 1⟩, ⟨17, 0⟩, ⟨9, 6⟩, ⟨12, 2⟩, ⟨15, 0⟩, ⟨12, 4⟩, ⟨12, 3⟩, ⟨7, 4⟩, ⟨10, 0⟩, ⟨10, 1⟩, ⟨13, 0⟩, ⟨10, 2⟩, ⟨13, 1⟩, ⟨8, 3⟩, ⟨11, 0⟩, ⟨11, 1⟩, ⟨8, 5⟩, ⟨8, 4⟩, ⟨5, 5⟩, ⟨6, 1⟩, ⟨9, 0⟩, ⟨6, 2⟩, ⟨9, 1⟩, ⟨6, 3⟩, ⟨9, 2⟩, ⟨5, 4⟩, ⟨7, 0⟩, ⟨7, 1⟩, ⟨7, 2⟩, ⟨5, 6⟩, ⟨4, 2⟩, ⟨5, 2⟩, ⟨5, 0⟩, ⟨5, 1⟩, ⟨5, 3⟩, ⟨4, 1⟩, ⟨4, 3⟩, ⟨3, 0⟩, ⟨4, 0⟩]
theorem ok_box3 : ∀ i < box3.length, ¬ badSn (gs box3 i) := by decide +kernel
theorem ok_box2 : ∀ i < box2.length, ¬ badSn (gs box2 i) := by decide +kernel
theorem ok40 : ¬ badEd ed40 := by decide +kernel
theorem ok4 : ¬ badEd ed4 := by decide +kernel
theorem tab3_is : TabIs box3 ed4 tab3 := tab_is ok_box3 (by decide +kernel)
theorem tab3_last : lastB tab3 16 = true := by decide +kernel
theorem tab2_is : TabIs box2 ed4 tab2 := tab_is ok_box2 (by decide +kernel)
theorem tab2_last : lastB tab2 0 = true := by decide +kernel
theorem tabB_is : TabIs (wout box3 0) ed4 tabB0 := tab_is (wout_ok ok_box3 (by decide)) (by decide +kernel)
theorem tabB_last : lastB tabB0 32 = true := by decide +kernel
theorem tabC_is : TabIs (wout box3 1) ed4 tabC0 := tab_is (wout_ok ok_box3 (by decide)) (by decide +kernel)
theorem tabC_last : lastB tabC0 26 = true := by decide +kernel
theorem last3 : lastN box3 ed4 = 16 := last_is ok4 tab3_is tab3_last
theorem last2 : lastN box2 ed4 = 0 := last_is ok4 tab2_is tab2_last
theorem needs3 : needsV box3 ed4 ed40 = 9 := (needsV_is ok4 tab3_is tab3_last ok40).trans (by decide +kernel)
theorem needs2 : needsV box2 ed4 ed40 = -1 := (needsV_is ok4 tab2_is tab2_last ok40).trans (by decide +kernel)
theorem needsA : needsV (wout box3 2) ed4 ed40 = -1 := needs2
theorem needsB : needsV (wout box3 0) ed4 ed40 = 12 := (needsV_is ok4 tabB_is tabB_last ok40).trans (by decide +kernel)
theorem needsC : needsV (wout box3 1) ed4 ed40 = 18 := (needsV_is ok4 tabC_is tabC_last ok40).trans (by decide +kernel)
theorem best3 : bestS box3 ed4 9 ed40 = [0, 0, 1, 1, 2, 1, 1, 2, 2] := bestS_is ok_box3 tab3_is _ _ _ (by decide) (by decide +kernel)
theorem row3 {k : Nat} (hk : k < 18) {b : Nat} (hb : b < 7) : rowN box3 ed4 k b = gi (tab3.getD k []) b := tab3_is k hk b hb
theorem on3 : onB box3 tab3 16 ed40 on40 = true := by decide +kernel
theorem end2 : endsP box3 ed4 ed40 2 := by
  obtain ⟨i, _, h2, h3⟩ := best_ends ok_box3 ok4 8 ed40 ok40 (by rw [needs3]; rfl)
  rw [best3] at h2
  have : (2 : Nat) = i := by simpa using h2
  rw [this]; exact h3
theorem ends3 : endsK box3 ed40 ed4 3 = [2] := by
  rw [endsK_pos end2, endsK_neg (noEnd_is ok_box3 ok4 tab3_is tab3_last on3 (by decide) (by decide +kernel)), endsK_neg (noEnd_is ok_box3 ok4 tab3_is tab3_last on3 (by decide) (by decide +kernel))]
  rfl
end Go.AH.Hone
namespace Go.AH.Hone
open Go Go.AH
def sv3 : Value := .slice (some ⟨0, 0, none⟩) 3 3
def rw0 : List Int := [4, -1, -1, -1, -1, -1, -1]
def rw1 : List Int := [5, 5, 5, 5, -1, -1, -1]
def rws3 : List Value := tab3L.flatMap ints where tab3L := tab3.take 17
theorem rowC_gi : ∀ {q : List Int}, q.length = 7 → rowC (gi q) = ints q
  | [_, _, _, _, _, _, _], _ => rfl
theorem tab3_len : ∀ n < 18, (tab3.getD n []).length = 7 := by decide +kernel
theorem rows3_is : rowsC box3 ed4 17 = rws3 := by
  have h : ∀ n ≤ 17, rowsC box3 ed4 n = (tab3.take n).flatMap ints := by
    intro n
    induction n with
    | zero => intro _; rfl
    | succ n ih =>
      intro hn
      have e1 : (tab3.take (n + 1)).flatMap ints = (tab3.take n).flatMap ints ++ ints (tab3.getD n []) := by
        have hlen : n < tab3.length := by have : tab3.length = 18 := rfl; omega
        rw [List.take_succ_eq_append_getElem hlen, List.flatMap_append]
        simp [List.getD_eq_getElem?_getD, hlen]
      rw [rowsC, ih (by omega), e1]
      congr 1
      have e2 : rowC (rowN box3 ed4 n) = rowC (gi (tab3.getD n [])) := rowC_congr fun j hj => row3 (by omega) hj
      rw [e2]
      exact rowC_gi (tab3_len _ (by omega))
  exact h 17 (Nat.le_refl _)
def lvOrc2 (σ : Heap) (cs bs rs : List Value) (x : Nat × Nat × Nat × Nat) (y : Nat × Nat × Nat × Nat) (r q : List Value) : Res :=
  onlyIf (eqVL (benchC ed4 (.slice (some ⟨x.1, 0, none⟩) 3 x.2.2.2) (.slice (some ⟨y.1, 0, none⟩) 17 17)) cs && eqVL (stonesC box3) bs && eqVL rws3 rs && eqVL (ints rw0) q && σ.all (fun o => !isIter o))
    (bif eqVL (ints rw1) r then some (.bool true, σ, σ.length) else bif eqVL (ints rw0) r then some (.bool false, σ, σ.length) else none)
def lvOrc1 (σ : Heap) (v u w : Value) : Res :=
  (asPtr v).bind fun p => onlyIf (Nat.beq p.2 0) (((σ[p.1]?).bind cellsArr).bind fun cs => ((cs[2]?).bind asSl).bind fun x => ((cs[3]?).bind asSl).bind fun y => ((σ[x.1]?).bind cellsArr).bind fun bs => ((σ[y.1]?).bind cellsArr).bind fun rs => (asAgg u).bind fun r => (asAgg w).bind fun q => lvOrc2 σ cs bs rs x y r q)
def lvOrc (σ : Heap) : List Value → Res
  | [v, u, w] => lvOrc1 σ v u w
  | _ => none
theorem cellsArr_at {σ : Heap} {b : Nat} {cs : List Value} (h : (σ[b]?).bind cellsArr = some cs) : arrAt σ b cs := by
  obtain ⟨o, h3, h4⟩ := Option.bind_eq_some_iff.1 h
  unfold cellsArr at h4
  split at h4
  · cases h4; exact .inl h3
  · cases h4; exact .inr (.inl h3)
  · cases h4; exact .inr (.inr ⟨_, h3⟩)
  · cases h4
end Go.AH.Hone
namespace Go.Proofs.Ytindbippegiopaa
open Go Go.AH
attribute [local irreducible] WOps WCode WFree retQ thenQ blockQ scopeQ OpOk ACall RetRef roundA roundB
set_option maxRecDepth 100000
set_option maxHeartbeats 1000000
open Go.AH.Hone
def orcL : CallF := fun f args σ => bif Nat.beq f 66 then lvOrc σ args else none
theorem orcL_ok : CallOk Try.prog orcL := by
  intro f args σ r h
  unfold orcL at h
  cases hf : Nat.beq f 66 with
  | false => rw [hf] at h; cases h
  | true =>
    rw [hf] at h
    simp only [cond_true] at h
    have hfe := Nat.eq_of_beq_eq_true hf
    subst hfe
    unfold lvOrc at h
    split at h
    · rename_i v u w
      simp only [lvOrc1, Option.bind_eq_some_iff, onlyIf_iff] at h
      obtain ⟨p, g1, g2, cs, g3, x, ⟨x', g4, g5⟩, y, ⟨y', g6, g7⟩, bs, g8, rs, g9, r1, g10, q, g11, h⟩ := h
      simp only [lvOrc2, onlyIf_iff, Bool.and_eq_true] at h
      obtain ⟨⟨⟨⟨⟨c1, c2⟩, c3⟩, c4⟩, c5⟩, h⟩ := h
      have e2 := Nat.eq_of_beq_eq_true g2
      obtain ⟨p1, p2⟩ := p
      simp only at e2 g3
      subst e2
      have ha := cellsArr_at (Option.bind_eq_some_iff.2 g3)
      have hb := cellsArr_at (Option.bind_eq_some_iff.2 g8)
      have hc := cellsArr_at (Option.bind_eq_some_iff.2 g9)
      rw [← eqVL_eq c1] at ha
      rw [← eqVL_eq c2] at hb
      rw [← eqVL_eq c3] at hc
      have hBA : BAt σ p1 x.1 y.1 box3 ed4 x.2.2.2 := ⟨by rw [last3]; exact ha, hb, by rw [last3, rows3_is]; exact hc⟩
      rw [asPtr_eq g1, asAgg_eq g10, asAgg_eq g11, ← eqVL_eq c4]
      cases hr : eqVL (ints rw1) r1 with
      | true =>
        rw [hr] at h
        simp only [cond_true] at h
        cases h
        rw [← eqVL_eq hr]
        have := leaves_ev (f := gi rw1) (g := gi rw0) hBA (by decide +kernel) ok_box3 (by decide) c5
        rw [show decide (lvP box3 (gi rw1) (gi rw0)) = true by decide +kernel] at this
        exact ⟨this, Keep.refl⟩
      | false =>
        rw [hr] at h
        simp only [cond_false] at h
        cases hr0 : eqVL (ints rw0) r1 with
        | true =>
          rw [hr0] at h
          simp only [cond_true] at h
          cases h
          rw [← eqVL_eq hr0]
          have := leaves_ev (f := gi rw0) (g := gi rw0) hBA (by decide +kernel) ok_box3 (by decide) c5
          rw [show decide (lvP box3 (gi rw0) (gi rw0)) = false by decide +kernel] at this
          exact ⟨this, Keep.refl⟩
        | false => rw [hr0] at h; cases h
    · cases h
end Go.Proofs.Ytindbippegiopaa
namespace Go.Proofs.Ytindbippegiopaa
open Go Go.AH
attribute [local irreducible] WOps WCode WFree retQ thenQ blockQ scopeQ OpOk ACall RetRef roundA roundB
set_option maxRecDepth 100000
set_option maxHeartbeats 1000000
open Go.AH.Hone
def tup2 (n : Nat) (l : List Int) (f : Int) : Value := .tuple #[.slice (some ⟨n, 0, none⟩) l.length l.length, .int .i64 f]
def kAfter (ks : List Int) (r : Int × Ed) : Known := ⟨17, [sv3, ed40.val, .slice (some ⟨1, 0, none⟩) ks.length ks.length], [stonesC box3, ints ks], afterT r, []⟩
theorem kAfter_ok {ks : List Int} {r : Int × Ed} (h : afterV box3 ed40 ks = r) (hN : ks.length ≤ 1000000) : KnownOk Try.prog (kAfter ks r) :=
  ⟨by subst h; exact after_ok box3 ed40 ks 3 ks.length (by decide) hN, by simp [kAfter, stonesC_plain, ints_plain], rfl⟩
def kBest : Known := ⟨21, [sv3, ed40.val, ed4.val], [stonesC box3], tup2 1 [0, 0, 1, 1, 2, 1, 1, 2, 2] 0, [.rw (ints [0, 0, 1, 1, 2, 1, 1, 2, 2])]⟩
theorem ask3 : askE box3 ed40 ed4 = 0 := by decide +kernel
theorem bestE3 : bestE box3 ed40 ed4 = 0 := by unfold bestE; rw [needs3, ask3]; rfl
theorem bestL3 : bestL box3 ed40 ed4 = [0, 0, 1, 1, 2, 1, 1, 2, 2] := by
  unfold bestL; rw [bestE3, needs3]
  show zs (bestS box3 ed4 9 ed40) = _
  rw [best3]; rfl
theorem kBest_ok : KnownOk Try.prog kBest := ⟨by have := best_ok box3 ed40 ed4 3 (by decide); rw [bestE3, bestL3] at this; exact this, by kernel_rfl, by kernel_rfl⟩
def kFar (k : Int) (q : List Int) : Known := ⟨30, [sv3, ed4.val, .int .i64 k], [stonesC box3], tup2 1 q 0, [.rw (ints q)]⟩
theorem kFar_ok {k : Int} {q : List Int} (h : farL box3 ed4 k = q) (he : farE box3 ed4 k = 0) : KnownOk Try.prog (kFar k q) := ⟨by have := far_ok box3 ed4 k 3 (by decide); rw [h, he] at this; exact this, by simp [kFar, stonesC_plain], rfl⟩
def kOpen : Known := ⟨56, [sv3, ed40.val, ed4.val], [stonesC box3], .tuple #[.pointer (some ⟨1, 0, none⟩), .int .i64 0], [.rw (benchC ed4 (.slice (some ⟨0, 0, none⟩) 3 3) (.slice (some ⟨2, 0, none⟩) 17 17)), .rw rws3]⟩
theorem kOpen_ok : KnownOk Try.prog kOpen := ⟨by have := open_ok box3 ed40 ed4 3 ask3 (by decide); rw [last3, rows3_is] at this; exact this, by kernel_rfl, by kernel_rfl⟩
def kSpare : Known := ⟨36, [sv3, ed40.val, ed4.val], [stonesC box3], tup2 1 [] 0, [.rw []]⟩
theorem spare3 : spareL box3 ed40 ed4 = [] := by
  unfold spareL
  rw [if_neg (by rw [bestE3]; simp)]
  have e0 : spareK box3 ed40 ed4 1 = [] := by simp only [spareK]; rw [if_neg (by rw [needsB, needs3]; decide)]
  have e1 : spareK box3 ed40 ed4 2 = [] := by rw [spareK, if_neg (by rw [needsC, needs3]; decide), e0]
  have e2 : spareK box3 ed40 ed4 3 = [] := by rw [spareK, if_neg (by rw [needsA, needs3]; decide), e1]
  exact e2
theorem kSpare_ok : KnownOk Try.prog kSpare := ⟨by have := spare_ok box3 ed40 ed4 3 (by decide); rw [spare3, bestE3] at this; exact this, by kernel_rfl, by kernel_rfl⟩
def kEnds : Known := ⟨38, [sv3, ed40.val, ed4.val], [stonesC box3], tup2 1 [2] 0, [.rw (ints [2])]⟩
theorem endsL3 : endsL box3 ed40 ed4 = [2] := by
  unfold endsL
  rw [if_neg (by rw [bestE3]; simp)]
  exact ends3
theorem kEnds_ok : KnownOk Try.prog kEnds := ⟨by have := rimEnds_ok box3 ed40 ed4 3 (by decide); rw [endsL3, bestE3] at this; exact this, by kernel_rfl, by kernel_rfl⟩
def sv2 : Value := .slice (some ⟨0, 0, none⟩) 2 3
theorem vs1 : VSub 1 (psR [(0, 0)]) (.slice (some ⟨0, 0, none⟩) 2 3) (.slice (some ⟨0, 0, none⟩) 2 3) := by simpa [psR] using VQ.slice (q := true) (n := 1) (ρ := psR [(0, 0)]) 0 0 2 3 3 (Nat.le_refl _) (by omega)
theorem vs2 : VSub 2 (psR [(0, 0), (1, 0)]) (.slice (some ⟨0, 0, none⟩) 2 3) (.slice (some ⟨0, 0, none⟩) 2 3) := by simpa [psR] using VQ.slice (q := true) (n := 2) (ρ := psR [(0, 0), (1, 0)]) 0 0 2 3 3 (Nat.le_refl _) (by omega)
theorem vs3 : VSub 2 (psR [(0, 0), (1, 0)]) (.slice (some ⟨1, 0, none⟩) 7 7) (.slice (some ⟨1, 0, none⟩) 7 7) := by simpa [psR] using VQ.slice (q := true) (n := 2) (ρ := psR [(0, 0), (1, 0)]) 1 0 7 7 7 (Nat.le_refl _) (by omega)
theorem two_part : PartsAt [.ro (stonesC box3)] [stonesC box2] [(0, 0)] := ⟨⟨stonesC box3, .inl rfl, rfl, by decide⟩, trivial⟩
def kLast : Known := ⟨32, [sv2, ed4.val], [stonesC box3], tup2 1 rw0 0, [.rw (ints rw0)]⟩
theorem ask2 : askE box2 ed40 ed4 = 0 := by decide +kernel
theorem ask2' : askE box2 ed4 ed4 = 0 := by decide +kernel
theorem lastL2 : lastL box2 ed4 = rw0 := by
  unfold lastL; rw [ask2', last2]; rfl
theorem kLast_ok : KnownOk Try.prog kLast := ⟨by
  have := last_ok box2 ed4 3 (by decide)
  rw [lastL2, ask2'] at this
  exact Ev.partsN (σ := [.ro (stonesC box3)]) (news := [.rw (ints rw0)]) [stonesC box2] [(0, 0)] this two_part ⟨vs1, vrel_plain _ rfl, trivial⟩ (by kernel_rfl) (by kernel_rfl) (by kernel_rfl) (by kernel_rfl) (by kernel_rfl), by kernel_rfl, by kernel_rfl⟩
def kNever : Known := ⟨34, [sv2, ed40.val, ed4.val, .slice (some ⟨1, 0, none⟩) 7 7], [stonesC box3, ints rw0], .int .i64 0, []⟩
theorem never2 : neverE box2 ed40 ed4 rw0 = 0 := by decide +kernel
theorem kNever_ok : KnownOk Try.prog kNever := ⟨by
  have := never_ok box2 ed40 ed4 rw0 3 7 (by decide) (by decide)
  rw [never2] at this
  exact Ev.parts (σ := [.ro (stonesC box3), .ro (ints rw0)]) [stonesC box2, ints rw0] [(0, 0), (1, 0)] this ⟨⟨stonesC box3, .inl rfl, rfl, by decide⟩, prtAt_arr (.inl rfl), trivial⟩ ⟨vs2, vrel_plain _ rfl, vrel_plain _ rfl, vs3, trivial⟩ (by kernel_rfl) rfl rfl, by kernel_rfl, by kernel_rfl⟩
def kBest2 : Known := ⟨21, [sv2, ed40.val, ed4.val], [stonesC box3], tup2 1 [] 13, [.rw []]⟩
theorem bestE2 : bestE box2 ed40 ed4 = 13 := by unfold bestE; rw [needs2, ask2]; rfl
theorem bestL2 : bestL box2 ed40 ed4 = [] := by unfold bestL; rw [bestE2]; rfl
theorem kBest2_ok : KnownOk Try.prog kBest2 := ⟨by
  have := best_ok box2 ed40 ed4 3 (by decide)
  rw [bestE2, bestL2] at this
  exact Ev.partsN (σ := [.ro (stonesC box3)]) (news := [.rw []]) [stonesC box2] [(0, 0)] this two_part ⟨vs1, vrel_plain _ rfl, vrel_plain _ rfl, trivial⟩ (by kernel_rfl) (by kernel_rfl) (by kernel_rfl) (by kernel_rfl) (by kernel_rfl), by kernel_rfl, by kernel_rfl⟩
def sv7 (i : Nat) : Value := .slice (some ⟨i, 0, none⟩) 7 7
def kToRow (q : List Int) : Known := ⟨64, [sv7 0], [ints q], .tuple #[rowV (gi q), .bool true], []⟩
theorem kToRow_ok {q : List Int} (h7 : q.length = 7) (h : isRowP q) : KnownOk Try.prog (kToRow q) := ⟨by
  have := toRow_ok q 7 (by omega)
  rw [(rowOf_good h).1, h7, decide_eq_true h] at this; exact this, by simp [kToRow, ints_plain], rfl⟩
def kClone (q : List Int) : Known := ⟨62, [sv7 0], [ints q], sv7 1, [.rw (ints q)]⟩
theorem kClone_ok {q : List Int} (h7 : q.length = 7) : KnownOk Try.prog (kClone q) := ⟨by
  have := clone_ok q 7 (by omega) (by omega)
  rw [h7] at this; exact this, by simp [kClone, ints_plain], rfl⟩
def kLv (p q : List Int) : Known := ⟨68, [sv3, sv7 1, sv7 2], [stonesC box3, ints p, ints q], .bool true, []⟩
theorem kLv_ok {p q : List Int} (hp : p.length = 7) (hq : q.length = 7) (hb : all7 (fun b => decide (-1 ≤ gi p b)) = true) (h : lvP box3 (gi p) (gi q)) : KnownOk Try.prog (kLv p q) := ⟨by
  have := refLeaves_ok box3 p q 3 7 7 ok_box3 (by decide) hp hq (fun b hb' => of_decide_eq_true (all7_is hb b hb'))
  rw [hp, hq, decide_eq_true h] at this; exact this, by simp [kLv, stonesC_plain, ints_plain], rfl⟩
theorem leaves3 : ∀ k < 17, lvP box3 (gi (tab3.getD (k + 1) [])) (gi (tab3.getD k [])) := by decide +kernel
def rowT (k : Nat) : List Int := tab3.getD k []
def ksW : List Known := [kAfter [0, 0, 1] (0, ⟨16, 5⟩), kAfter [0, 0, 0, 0] (16, ⟨0, 0⟩), kBest, kFar 2 [9, 9, 9, 6, 6, 6, 6], kOpen, kSpare, kEnds, kLast, kNever, kBest2, kToRow rw0, kToRow rw1] ++ (List.range 9).map (fun k => kClone (rowT k)) ++ (List.range 9).map (fun k => kLv (rowT (k + 1)) (rowT k))
theorem ksW_ok : ∀ k ∈ ksW, KnownOk Try.prog k := by
  intro k hk
  simp only [ksW, List.mem_append, List.mem_cons, List.not_mem_nil, or_false, List.mem_map, List.mem_range] at hk
  rcases hk with (hk | ⟨i, hi, rfl⟩) | ⟨i, hi, rfl⟩
  · rcases hk with rfl | rfl | rfl | rfl | rfl | rfl | rfl | rfl | rfl | rfl | rfl | rfl
    · exact kAfter_ok (by decide +kernel) (by decide)
    · exact kAfter_ok (by decide +kernel) (by decide)
    · exact kBest_ok
    · exact kFar_ok (by decide +kernel) (by decide +kernel)
    · exact kOpen_ok
    · exact kSpare_ok
    · exact kEnds_ok
    · exact kLast_ok
    · exact kNever_ok
    · exact kBest2_ok
    · exact kToRow_ok rfl (by decide +kernel)
    · exact kToRow_ok rfl (by decide +kernel)
  · exact kClone_ok (tab3_len i (by omega))
  · exact kLv_ok (tab3_len _ (by omega)) (tab3_len _ (by omega)) (List.all_eq_true.2 fun b hb => decide_eq_true (by
      have h1 := row3 (k := i + 1) (by omega) (List.mem_range.1 hb)
      have h2 := (rowN_bounds (l := box3) ok4 (i + 1) b).1
      unfold rowT; omega)) (leaves3 i (by omega))
end Go.Proofs.Ytindbippegiopaa
namespace Go.Proofs.Ytindbippegiopaa
open Go Go.AH
def knW : Known := ⟨16, [], [], .bool true, []⟩
theorem knW_ok : KnownOk Try.prog knW := ⟨ev_run (orc := orcOr orcL (knowns ksW)) tabOk (orcOr_ok orcL_ok (knowns_ok ksW_ok)) mixed (n := 400) (lo := 0) (by kernel_rfl), by kernel_rfl, by kernel_rfl⟩
end Go.Proofs.Ytindbippegiopaa
namespace Go.Proofs.Ytindbippegiopaa
open Go Go.AH
attribute [local irreducible] WOps WCode WFree retQ thenQ blockQ scopeQ OpOk ACall RetRef roundA roundB
set_option maxRecDepth 100000
set_option maxHeartbeats 1000000
open Go.AH.Hone
def kBestG : Known := ⟨21, [sv3, ed4.val, ed40.val], [stonesC box3], tup2 1 [] 0, [.rw (ints [])]⟩
def ksR : List Known := [kAfter [0, 0] (0, ⟨20, 4⟩), kAfter [0, 0, 1, 1, 2, 1, 1, 2, 2] (0, ⟨3, 0⟩), kFar 0 rw0, kFar 1 rw1, kBestG, knW]
def knR : Known := ⟨14, [], [], .bool true, []⟩
end Go.Proofs.Ytindbippegiopaa
namespace Go.Proofs.Ytindbippegiopaa
open Go Go.AH
attribute [local irreducible] WOps WCode WFree retQ thenQ blockQ scopeQ OpOk ACall RetRef roundA roundB
set_option maxRecDepth 100000
set_option maxHeartbeats 1000000
open Go.AH.Hone
theorem works_ev {σ : Heap} (hni : σ.all (fun o => !isIter o) = true) : Ev Try.prog 16 [] σ (.bool true) σ := Ev.nil knW_ok.1 rfl rfl hni
theorem great_ok (l : List Sn) (c : Nat) (_hN : l.length ≤ 9223372036854775807) : Ev Try.prog 15 [.slice (some ⟨0, 0, none⟩) l.length c] [.ro (stonesC l)] (.bool (decide ((l.length : Int) > 10))) [.ro (stonesC l)] := by
  refine acall_intro 1 6 Try.func15 rfl rfl rfl rfl rfl ?_
  repeat' (first | (refine gU ?_; first | (refine gMove ?_; refine st (ok_move rfl) rfl rfl ?_) | (refine gAssign ?_; refine st (ok_assign rfl) rfl rfl ?_) | (refine gBin ?_; refine st (ok_bin rfl rfl rfl) rfl rfl ?_) | (refine gLen ?_; refine st (ok_len rfl) rfl rfl ?_)) | refine W_seq ?_ | refine W_region ?_ | refine st_nil ?_ | refine tq_n ?_ | refine W_ret ?_)
  refine ret0 (.tmp rfl .nil) (.plain rfl rfl) ⟨rfl, rfl⟩
theorem great_ev {σ : Heap} {l : List Sn} {x c : Nat} (hx : arrAt σ x (stonesC l)) (hN : l.length ≤ 9223372036854775807) (hni : σ.all (fun o => !isIter o) = true) :
    Ev Try.prog 15 [.slice (some ⟨x, 0, none⟩) l.length c] σ (.bool (decide ((l.length : Int) > 10))) σ :=
  Ev.arrs [stonesC l] [x] (great_ok l c hN) ⟨hx, trivial⟩ ⟨by simpa [bsR] using VQ.slice (q := true) (n := 1) (ρ := bsR [x]) 0 0 l.length c c (Nat.le_refl _) (by omega), trivial⟩ (by simp [stonesC_plain]) rfl hni
theorem ints_ok (q : List Int) (c c2 : Nat) (hN : q.length ≤ 200000) : Ev Try.prog 23 [.slice (some ⟨0, 0, none⟩) q.length c, .slice (some ⟨1, 0, none⟩) q.length c2] [.ro (ints q), .ro (ints q)] (.bool true) [.ro (ints q), .ro (ints q)] := by
  refine acall_intro 2 26 Try.func23 rfl rfl rfl rfl rfl ?_
  repeat' (first | (refine gU ?_; first | (refine gMove ?_; refine st (ok_move rfl) rfl rfl ?_) | (refine gAssign ?_; refine st (ok_assign rfl) rfl rfl ?_) | (refine gBin ?_; refine st (ok_bin rfl rfl rfl) rfl rfl ?_) | (refine gLen ?_; refine st (ok_len rfl) rfl rfl ?_)) | refine W_seq ?_ | refine W_region ?_ | refine st_nil ?_ | refine tq_n ?_ | refine W_skip ?_ | refine W_block ?_ | refine W_condFA rfl ?_)
  refine W_loopS (ι := Nat) (fun i => [(0, .slice (some ⟨0, 0, none⟩) q.length c), (1, .slice (some ⟨1, 0, none⟩) q.length c2), (5, .int .i64 (i : Int))])
    (fun _ => [.ro (ints q), .ro (ints q)]) (fun i => q.length - i) (fun i => i ≤ q.length) 0 (by simp) (.same ⟨rfl, rfl, rfl, trivial⟩) (by omega) ?_
  rintro i hi
  by_cases hil : i < q.length
  · have hc2 : cellGet [.ro (ints q), .ro (ints q)] 0 i = some (.int .i64 (gi q i)) := ints_get hil
    have hc3 : cellGet [.ro (ints q), .ro (ints q)] 1 i = some (.int .i64 (gi q i)) := ints_get hil
    repeat' (first | (refine gU ?_; first | (refine gMove ?_; refine st (ok_move rfl) rfl rfl ?_) | (refine gAssign ?_; refine st (ok_assign rfl) rfl rfl ?_) | (refine gAdd ?_; refine st (ok_inc rfl rfl (by omega)) rfl rfl ?_) | (refine gBin ?_; refine st (ok_bin rfl rfl rfl) rfl rfl ?_) | (refine gLen ?_; refine st (ok_len rfl) rfl rfl ?_)) | (refine fU ?_; first | (refine fMove ?_; refine frA (ok_move rfl) rfl ?_) | (refine fLoad ?_; refine frA (ok_load rfl (by assumption)) rfl ?_) | (refine fBin ?_; refine frA (ok_bin rfl rfl rfl) rfl ?_) | (refine fIA ?_; refine frA (ok_idxN rfl rfl (by omega)) rfl ?_)) | (refine fr_stop ⟨by kernel_rfl, ?_⟩) | refine W_seq ?_ | refine W_region ?_ | refine W_regionD (by kernel_rfl) rfl ?_ | refine st_nil ?_ | refine tq_n ?_ | refine bq_n ?_ | refine W_skip ?_ | refine W_block ?_ | refine W_condTA rfl ?_ | refine W_condFA rfl ?_)
    exact ⟨rfl, i + 1, by omega, by omega, .same ⟨rfl, rfl, rfl, trivial⟩⟩
  · repeat' (first | (refine gU ?_; first | (refine gMove ?_; refine st (ok_move rfl) rfl rfl ?_) | (refine gAssign ?_; refine st (ok_assign rfl) rfl rfl ?_) | (refine gBin ?_; refine st (ok_bin rfl rfl rfl) rfl rfl ?_) | (refine gLen ?_; refine st (ok_len rfl) rfl rfl ?_)) | refine W_seq ?_ | refine W_region ?_ | refine st_nil ?_ | refine tq_n ?_ | refine tq_e ?_ | refine bq_hit rfl ?_ | refine W_exit ?_ | refine W_ret ?_ | refine W_condFA rfl ?_)
    exact ret0 (.tmp rfl .nil) (.plain rfl rfl) ⟨rfl, rfl⟩
theorem intsP_ev {σ : Heap} {q : List Int} {n x y o o2 c c2 : Nat} (hn : q.length = n) (hx : prtAt σ (x, o) (ints q)) (hy : prtAt σ (y, o2) (ints q)) (hN : n ≤ 200000) (hni : σ.all (fun o => !isIter o) = true) :
    Ev Try.prog 23 [.slice (some ⟨x, o, none⟩) n c, .slice (some ⟨y, o2, none⟩) n c2] σ (.bool true) σ := by
  subst hn
  exact Ev.parts [ints q, ints q] [(x, o), (y, o2)] (ints_ok q c c2 hN) ⟨hx, hy, trivial⟩
    ⟨by simpa [psR] using VQ.slice (q := true) (n := 2) (ρ := psR [(x, o), (y, o2)]) 0 0 q.length c c (Nat.le_refl _) (by omega), by simpa [psR] using VQ.slice (q := true) (n := 2) (ρ := psR [(x, o), (y, o2)]) 1 0 q.length c2 c2 (Nat.le_refl _) (by omega), trivial⟩ (by simp [ints_plain]) rfl hni
theorem ints_ev {σ : Heap} {q : List Int} {n x y c c2 : Nat} (hn : q.length = n) (hx : arrAt σ x (ints q)) (hy : arrAt σ y (ints q)) (hN : n ≤ 200000) (hni : σ.all (fun o => !isIter o) = true) :
    Ev Try.prog 23 [.slice (some ⟨x, 0, none⟩) n c, .slice (some ⟨y, 0, none⟩) n c2] σ (.bool true) σ := intsP_ev hn (prtAt_arr hx) (prtAt_arr hy) hN hni
theorem fine_ok (l : List Sn) (e goal : Ed) (c : Nat) (hN : l.length ≤ 9223372036854775807) : Ev Try.prog 40 [.slice (some ⟨0, 0, none⟩) l.length c, e.val, goal.val] [.ro (stonesC l)] (.bool (decide (askE l e goal = 0))) [.ro (stonesC l)] := by
  have h10 : (l.length : Int) > 10 → askE l e goal ≠ 0 := fun h => by
    unfold askE boxE; rw [if_pos (show l.length = 0 ∨ l.length > 6 by omega)]; simp
  have hgr := great_ev (σ := [.ro (stonesC l), .rw e.cells, .rw goal.cells]) (l := l) (x := 0) (c := c) (.inl rfl) hN rfl
  by_cases hm : (l.length : Int) > 10
  · have h0 := h10 hm
    refine acall_intro 1 17 Try.func40 rfl rfl rfl rfl rfl ?_
    repeat' (first | (refine gU ?_; first | (refine gMove ?_; refine st (ok_move rfl) rfl rfl ?_) | (refine gAssign ?_; refine st (ok_assign rfl) rfl rfl ?_) | (refine gPick ?_; refine st (ok_pickFA rfl rfl) rfl rfl ?_) | (refine gNot ?_; refine st (ok_notD rfl) rfl rfl ?_) | (refine gCall ?_; refine st (ok_call rfl rfl rfl (by exact hgr)) rfl rfl ?_) | (refine gBox ?_; refine st (ok_box rfl) rfl rfl ?_)) | (refine gG ?_; refine stSA rfl rfl ?_) | refine W_seq ?_ | refine W_region ?_ | refine st_nil ?_ | refine tq_n ?_ | refine W_ret ?_)
    refine ret0 (.tmp rfl .nil) (.plain rfl rfl) ⟨?_, rfl⟩
    rw [decide_eq_false h0]; rfl
  · have hN' : l.length ≤ 1000000 := by omega
    refine acall_intro 1 17 Try.func40 rfl rfl rfl rfl rfl ?_
    repeat' (first | (refine gU ?_; first | (refine gMove ?_; refine st (ok_move rfl) rfl rfl ?_) | (refine gAssign ?_; refine st (ok_assign rfl) rfl rfl ?_) | (refine gPick ?_; refine st (ok_pickTA rfl rfl) rfl rfl ?_) | (refine gNot ?_; refine st (ok_notD rfl) rfl rfl ?_) | (refine gCall ?_; refine st (ok_call rfl rfl rfl (by exact hgr)) rfl rfl ?_) | (refine gBox ?_; refine st (ok_box rfl) rfl rfl ?_)) | (refine gG ?_; first | (refine gMove ?_; refine stGA rfl (ok_move rfl) rfl rfl ?_) | (refine gLoad ?_; refine stGA rfl (ok_loadA rfl (by rfl)) rfl rfl ?_) | (refine gBin ?_; refine stGA rfl (ok_bin rfl rfl rfl) rfl rfl ?_) | (refine gCall ?_; refine stGA rfl (ok_call rfl rfl rfl (by exact asked_ev (by exact .inl rfl) (by assumption) rfl)) rfl rfl ?_)) | refine W_seq ?_ | refine W_region ?_ | refine st_nil ?_ | refine tq_n ?_ | refine W_ret ?_)
    refine ret0 (.tmp rfl .nil) (.plain rfl rfl) ⟨rfl, rfl⟩
theorem fine_ev {σ : Heap} {l : List Sn} {e goal : Ed} {x c : Nat} (hx : arrAt σ x (stonesC l)) (hN : l.length ≤ 9223372036854775807) (hni : σ.all (fun o => !isIter o) = true) :
    Ev Try.prog 40 [.slice (some ⟨x, 0, none⟩) l.length c, e.val, goal.val] σ (.bool (decide (askE l e goal = 0))) σ :=
  Ev.arrs [stonesC l] [x] (fine_ok l e goal c hN) ⟨hx, trivial⟩ ⟨by simpa [bsR] using VQ.slice (q := true) (n := 1) (ρ := bsR [x]) 0 0 l.length c c (Nat.le_refl _) (by omega), vrel_plain _ rfl, vrel_plain _ rfl, trivial⟩ (by simp [stonesC_plain]) rfl hni
def fwV (l : List Sn) (e goal : Ed) : Int := if needsV l goal e < 0 then 1000 else needsV l goal e
theorem bestL_len {l : List Sn} {e goal : Ed} (h : bestE l e goal = 0) : (bestL l e goal).length = (needsV l goal e).toNat := by
  unfold bestL; rw [if_neg (by omega), zs_len, bestS_len]
theorem fewest44_ok (l : List Sn) (e goal : Ed) (c : Nat) (hN : l.length ≤ 1000000) (ha : askE l e goal = 0) : Ev Try.prog 44 [.slice (some ⟨0, 0, none⟩) l.length c, e.val, goal.val] [.ro (stonesC l)] (.tuple #[.int .i64 (fwV l e goal), .bool true]) [.ro (stonesC l)] := by
  have hg : ¬ badEd goal := (askE_zero ha).2.2
  have hbest := best_ev (σ := [.ro (stonesC l), .rw e.cells, .rw goal.cells]) (l := l) (e := e) (goal := goal) (x := 0) (c := c) (.inl rfl) hN rfl
  have hn7 := needs_le (l := l) (goal := goal) (e := e) hg
  by_cases hn : needsV l goal e < 0
  · have hE : bestE l e goal = 13 := by unfold bestE; rw [if_neg (by omega), if_pos hn]
    have hL : bestL l e goal = [] := by unfold bestL; rw [hE]; rfl
    rw [hE, hL] at hbest
    have hv : fwV l e goal = 1000 := if_pos hn
    rw [hv]
    refine acall_intro 1 26 Try.func44 rfl rfl rfl rfl rfl ?_
    repeat' (first | (refine gU ?_; first | (refine gMove ?_; refine st (ok_move rfl) rfl rfl ?_) | (refine gAssign ?_; refine st (ok_assign rfl) rfl rfl ?_) | (refine gLoad ?_; refine st (ok_loadA rfl (by rfl)) rfl rfl ?_) | (refine gBin ?_; refine st (ok_bin rfl rfl rfl) rfl rfl ?_) | (refine gLen ?_; refine st (ok_len rfl) rfl rfl ?_) | (refine gExtract ?_; refine st (ok_extract rfl rfl) rfl rfl ?_) | (refine gCall ?_; refine st (ok_call rfl rfl rfl (by exact hbest)) rfl rfl ?_) | (refine gBox ?_; refine st (ok_box rfl) rfl rfl ?_)) | refine W_seq ?_ | refine W_region ?_ | refine st_nil ?_ | refine tq_n ?_ | refine tq_r ?_ | refine W_ret ?_ | refine W_condTA rfl ?_)
    refine ret0 (.tmp rfl (.tmp rfl .nil)) (.plain rfl rfl) ⟨rfl, rfl⟩
  · have hE : bestE l e goal = 0 := by unfold bestE; rw [if_neg (by omega), if_neg hn]
    have hlen := bestL_len hE
    rw [hE] at hbest
    have hv : fwV l e goal = ((bestL l e goal).length : Int) := by unfold fwV; rw [if_neg hn, hlen]; omega
    rw [hv]
    generalize bestL l e goal = B at *
    refine acall_intro 1 26 Try.func44 rfl rfl rfl rfl rfl ?_
    repeat' (first | (refine gU ?_; first | (refine gMove ?_; refine st (ok_move rfl) rfl rfl ?_) | (refine gAssign ?_; refine st (ok_assign rfl) rfl rfl ?_) | (refine gLoad ?_; refine st (ok_loadA rfl (by rfl)) rfl rfl ?_) | (refine gBin ?_; refine st (ok_bin rfl rfl rfl) rfl rfl ?_) | (refine gLen ?_; refine st (ok_len rfl) rfl rfl ?_) | (refine gExtract ?_; refine st (ok_extract rfl rfl) rfl rfl ?_) | (refine gCall ?_; refine st (ok_call rfl rfl rfl (by exact hbest)) rfl rfl ?_) | (refine gBox ?_; refine st (ok_box rfl) rfl rfl ?_)) | refine W_seq ?_ | refine W_region ?_ | refine st_nil ?_ | refine tq_n ?_ | refine W_skip ?_ | refine W_ret ?_ | refine W_condFA rfl ?_)
    refine ret0 (.tmp rfl (.tmp rfl .nil)) (.plain rfl rfl) ⟨rfl, rfl⟩
theorem fewest44_ev {σ : Heap} {l : List Sn} {e goal : Ed} {x c : Nat} (hx : arrAt σ x (stonesC l)) (hN : l.length ≤ 1000000) (ha : askE l e goal = 0) (hni : σ.all (fun o => !isIter o) = true) :
    Ev Try.prog 44 [.slice (some ⟨x, 0, none⟩) l.length c, e.val, goal.val] σ (.tuple #[.int .i64 (fwV l e goal), .bool true]) σ :=
  Ev.arrs [stonesC l] [x] (fewest44_ok l e goal c hN ha) ⟨hx, trivial⟩ ⟨by simpa [bsR] using VQ.slice (q := true) (n := 1) (ρ := bsR [x]) 0 0 l.length c c (Nat.le_refl _) (by omega), vrel_plain _ rfl, vrel_plain _ rfl, trivial⟩ (by simp [stonesC_plain]) rfl hni
end Go.Proofs.Ytindbippegiopaa
namespace Go.Proofs.Ytindbippegiopaa
open Go Go.AH
attribute [local irreducible] WOps WCode WFree retQ thenQ blockQ scopeQ OpOk ACall RetRef roundA roundB
set_option maxRecDepth 100000
set_option maxHeartbeats 1000000
open Go.AH.Hone
theorem spareL_le (l : List Sn) (e goal : Ed) : (spareL l e goal).length ≤ l.length := by
  unfold spareL
  by_cases h : bestE l e goal = 0
  · rw [if_neg (by omega)]; exact spareK_len l e goal _
  · rw [if_pos h]; simp
theorem endsL_le (l : List Sn) (e goal : Ed) : (endsL l e goal).length ≤ l.length := by
  unfold endsL
  by_cases h : bestE l e goal = 0
  · rw [if_neg (by omega)]; exact endsK_len l e goal _
  · rw [if_pos h]; simp
end Go.Proofs.Ytindbippegiopaa
namespace Go.Proofs.Ytindbippegiopaa
open Go Go.AH
attribute [local irreducible] WOps WCode WFree retQ thenQ blockQ scopeQ OpOk ACall RetRef roundA roundB
set_option maxRecDepth 100000
set_option maxHeartbeats 1000000
open Go.AH.Hone
theorem lastL_le (l : List Sn) (goal : Ed) : (lastL l goal).length ≤ 200000 := by
  unfold lastL; split <;> simp [rowL]
end Go.Proofs.Ytindbippegiopaa
namespace Go.AH.Hone
open Go Go.AH Go.Proofs.Ytindbippegiopaa
section
variable {l : List Sn} {goal e : Ed}
theorem needs_last (hl : ∀ i < l.length, ¬ badSn (gs l i)) (hg : ¬ badEd goal) (he : ¬ badEd e) : inR (rowN l goal (lastN l goal)) e ↔ 0 ≤ needsV l goal e := by
  rw [needsV_iff hl hg he]
  refine ⟨fun h => h.1, fun h => ⟨h, ?_⟩⟩
  unfold needsV at *
  rcases needsK_is (l := l) (goal := goal) (e := e) (lastN l goal + 1) with ⟨h1, _⟩ | ⟨n, hn, h1, _⟩ <;> omega
end
end Go.AH.Hone
namespace Go.Proofs.Ytindbippegiopaa
open Go Go.AH Go.AH.Hone
end Go.Proofs.Ytindbippegiopaa
