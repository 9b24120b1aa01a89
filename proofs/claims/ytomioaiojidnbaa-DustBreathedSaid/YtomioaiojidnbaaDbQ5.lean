/- The argument of a law that is a list of small numbers. -/
import Derived.Test.YtomioaiojidnbaaDbQ4
import Derived.Test.YtomioaiojidnbaaDbMM
import Derived.OpenShut
import Derived.Test.YtomioaiojidnbaaDbQ1
import Derived.Deep.Slices
namespace Go.AH.Dust
open Go Go.AH
def smB (S : Shp) (n : Int) : Nat → Bool
  | 0 => false
  | k + 1 => smB S n k || decide ((gf S.f k).1 = n)
open Classical in
noncomputable def endV (S : Shp) : Bool := decide (endB S)
end Go.AH.Dust
namespace Go.Proofs.Ytomioaiojidnbaa
open Go Go.AH
attribute [local irreducible] WOps WCode WFree retQ thenQ blockQ scopeQ OpOk ACall RetRef roundA roundB
set_option maxRecDepth 100000
set_option maxHeartbeats 1000000
open Go.AH.Dust
end Go.Proofs.Ytomioaiojidnbaa
namespace Go.AH.Dust
open Go Go.AH
theorem clock0 {S : Shp} (h0 : shopE S = 0) {h : Int} (h1 : 1 ≤ h) (h2 : h ≤ 24) : clockE S h = 0 := by
  unfold clockE; rw [if_neg (fun x => x h0), if_neg (by omega)]
theorem winE_refW {S : Shp} {h : Int} (hc : clockE S h = 0) : winE S h = 0 ↔ 0 ≤ refW S (h.toNat - 1) := by
  rw [winE_eq, if_neg (fun x => x hc)]
  by_cases hr : refW S (h.toNat - 1) < 0
  · rw [if_pos hr]; omega
  · rw [if_neg hr]; omega
end Go.AH.Dust
namespace Go.Proofs.Ytomioaiojidnbaa
open Go Go.AH
attribute [local irreducible] WOps WCode WFree retQ thenQ blockQ scopeQ OpOk ACall RetRef roundA roundB
set_option maxRecDepth 100000
set_option maxHeartbeats 1000000
open Go.AH.Dust
theorem fine39_ok (S : Shp) (hS : S.fit) : Ev Try.prog 39 [shV 0 1 2 S] S.hp (.bool (decide (shopE S = 0))) S.hp := by
  have hfi := great_ev (σ := [.ro (ints S.d), .ro (pc S.f), .ro (ints S.s), .rw (shL 0 1 2 S)]) (S := S) (x := 0) (y := 1) (z := 2) ⟨.inl rfl, .inl rfl, .inl rfl⟩ shS_self hS rfl
  have hA := refShop_ev (σ := [.ro (ints S.d), .ro (pc S.f), .ro (ints S.s), .rw (shL 0 1 2 S)]) (S := S) (x := 0) (y := 1) (z := 2) ⟨.inl rfl, .inl rfl, .inl rfl⟩ shS_self hS rfl
  by_cases hm : (S.d.length : Int) > 15 ∨ (S.f.length : Int) > 70 ∨ (S.s.length : Int) > 15
  · have h0 : ¬ shopE S = 0 := fun h => by
      have := (shopE_zero h).n10; have := (shopE_zero h).f60; have := (shopE_zero h).s10; omega
    rw [decide_eq_false h0]
    refine acall_intro 3 11 Try.func39 rfl rfl rfl rfl rfl ?_
    repeat' (first | (refine gU ?_; first | (refine gMove ?_; refine st (ok_move rfl) rfl rfl ?_) | (refine gAssign ?_; refine st (ok_assign rfl) rfl rfl ?_) | (refine gLoad ?_; refine st (ok_loadA rfl (by rfl)) rfl rfl ?_) | (refine gPick ?_; refine st (ok_pickFA rfl rfl) rfl rfl ?_) | (refine gNot ?_; refine st (ok_notD rfl) rfl rfl ?_) | (refine gCall ?_; refine st (ok_call rfl rfl rfl (by exact hfi)) rfl rfl ?_) | (refine gBox ?_; refine st (ok_box rfl) rfl rfl ?_)) | (refine gG ?_; refine stSA rfl rfl ?_) | refine W_seq ?_ | refine W_region ?_ | refine st_nil ?_ | refine tq_n ?_ | refine W_ret ?_)
    all_goals exact ret0 (.tmp rfl .nil) (.plain rfl rfl) ⟨rfl, rfl⟩
  · generalize shopE S = E at *
    refine acall_intro 3 11 Try.func39 rfl rfl rfl rfl rfl ?_
    repeat' (first | (refine gU ?_; first | (refine gMove ?_; refine st (ok_move rfl) rfl rfl ?_) | (refine gAssign ?_; refine st (ok_assign rfl) rfl rfl ?_) | (refine gLoad ?_; refine st (ok_loadA rfl (by rfl)) rfl rfl ?_) | (refine gPick ?_; refine st (ok_pickTA rfl rfl) rfl rfl ?_) | (refine gNot ?_; refine st (ok_notD rfl) rfl rfl ?_) | (refine gCall ?_; refine st (ok_call rfl rfl rfl (by exact hfi)) rfl rfl ?_) | (refine gBox ?_; refine st (ok_box rfl) rfl rfl ?_)) | (refine gG ?_; first | (refine gLoad ?_; refine stGA rfl (ok_loadA rfl (by rfl)) rfl rfl ?_) | (refine gBin ?_; refine stGA rfl (ok_bin rfl rfl rfl) rfl rfl ?_) | (refine gCall ?_; refine stGA rfl (ok_call rfl rfl rfl (by exact hA)) rfl rfl ?_)) | refine W_seq ?_ | refine W_region ?_ | refine st_nil ?_ | refine tq_n ?_ | refine W_ret ?_)
    all_goals exact ret0 (.tmp rfl .nil) (.plain rfl rfl) ⟨rfl, rfl⟩
theorem fine39_ev {σ : Heap} {S : Shp} {x y z : Nat} {v : Value} (hs : SAt σ x y z S) (hv : ShS x y z S v) (hS : S.fit) (hni : σ.all (fun o => !isIter o) = true) :
    Ev Try.prog 39 [v] σ (.bool (decide (shopE S = 0))) σ := Ev.arrs S.css [x, y, z] (fine39_ok S hS) hs.arrs ⟨hv, trivial⟩ S.css_plain rfl hni
end Go.Proofs.Ytomioaiojidnbaa
namespace Go.Proofs.Ytomioaiojidnbaa
open Go Go.AH Go.AH.Dust
end Go.Proofs.Ytomioaiojidnbaa
namespace Go.AH.Dust
open Go Go.AH
def prt (p : List Int) (i k : Nat) : List Int := (p.drop i).take k
theorem prt_len {p : List Int} {i k : Nat} (h : i + k ≤ p.length) : (prt p i k).length = k := by unfold prt; rw [List.length_take, List.length_drop]; omega
theorem prt_gi {p : List Int} {i k j : Nat} (hj : j < k) : gi (prt p i k) j = gi p (i + j) := by
  unfold prt gi
  simp only [List.getD_eq_getElem?_getD]
  rw [List.getElem?_take_of_lt hj, List.getElem?_drop]
theorem sum_most {S : Shp} (hS : S.ok) : ∀ (H : Nat) (l : List Int), l.length = H + 1 → okW S l → chain S l → 0 ≤ sumK S l (H + 1) ∧ sumK S l (H + 1) ≤ most S H (gi l 0).toNat
  | 0, l, hl, hw, _ => by
    have hw0 := hw 0 (by omega)
    have := hS.d (gi l 0).toNat (by omega)
    simp only [sumK, most]; omega
  | H + 1, l, hl, hw, hc => by
    match l, hl with
    | a :: r, hl =>
    have hr : r.length = H + 1 := by simpa using hl
    have hwr : okW S r := fun i hi => by have := hw (i + 1) (by simpa using hi); rwa [gi_succ] at this
    have hcr : chain S r := fun i hi h0 => by
      have := hc (i + 1) (by simpa using hi) (by omega)
      rw [gi_succ] at this
      obtain ⟨j, rfl⟩ : ∃ j, i = j + 1 := ⟨i - 1, by omega⟩
      rw [show j + 1 + 1 - 1 = j + 1 by omega, gi_succ] at this
      rwa [show j + 1 - 1 = j by omega]
    obtain ⟨i1, i2⟩ := sum_most hS H r hr hwr hcr
    rw [sumK_cons]
    have hwa : isW S a := hw 0 (by simp)
    have hd := hS.d a.toNat (by have := hwa.1; have := hwa.2; omega)
    have hp : (a, gi r 0) ∈ S.f := by
      have := hc 1 (by simp; omega) (by omega)
      rw [gi_succ] at this; exact this
    obtain ⟨j, hj, hg⟩ := mem_gf.1 hp
    have hge := mostF_ge (S := S) (m := most S H) (i := a.toNat) (k := S.f.length) hj (by rw [hg]; have := hwa.1; simp only; omega) (by rw [hg]; simp only; omega)
    rw [hg] at hge
    simp only at hge
    have e : gi (a :: r) 0 = a := rfl
    rw [e]
    simp only [most]
    omega
theorem part_ok {S : Shp} {p : List Int} {i k : Nat} (h : i + k ≤ p.length) (hw : okW S p) (hc : chain S p) : okW S (prt p i k) ∧ chain S (prt p i k) := by
  have hl := prt_len h
  refine ⟨fun j hj => ?_, fun j hj h0 => ?_⟩
  · rw [prt_gi (by omega)]; exact hw _ (by omega)
  · rw [prt_gi (by omega), prt_gi (by omega), show i + (j - 1) = i + j - 1 by omega]; exact hc _ (by omega) (by omega)
theorem chain_rch {S : Shp} {p : List Int} (h0 : gi p 0 ∈ S.s) (hc : chain S p) : ∀ i, i < p.length → Rch S (gi p i)
  | 0, _ => .first h0
  | i + 1, h => .next (chain_rch h0 hc i (by omega)) (by have := hc (i + 1) h (by omega); rwa [Nat.add_sub_cancel] at this)
theorem mem_beg {S : Shp} {h lim : Int} (hc : clockE S h = 0) {n : Nat} (hn : n < S.d.length) (hr : rB S n = true) (h1 : 0 ≤ most S (h.toNat - 1) n) (h2 : lim < most S (h.toNat - 1) n) : (n : Int) ∈ begL S h lim := by
  obtain ⟨h0, _, _⟩ := clockE_zero hc
  unfold begL
  rw [if_pos hc, List.mem_filter]
  obtain ⟨i, i1, i2⟩ := reachL_mem h0 hn hr
  refine ⟨mem_gi.2 ⟨i, i1, i2⟩, ?_⟩
  simp only [overB, Bool.and_eq_true, decide_eq_true_eq, Int.toNat_natCast]
  omega
theorem beg_mem {S : Shp} {h lim n : Int} (hn : n ∈ begL S h lim) : clockE S h = 0 ∧ ∃ m : Nat, n = m ∧ m < S.d.length ∧ rB S m = true ∧ 0 ≤ most S (h.toNat - 1) m ∧ lim < most S (h.toNat - 1) m := by
  unfold begL at hn
  by_cases hc : clockE S h = 0
  · rw [if_pos hc, List.mem_filter] at hn
    obtain ⟨a, b⟩ := hn
    obtain ⟨i, i1, i2⟩ := mem_gi.1 a
    obtain ⟨m, m1, m2, m3⟩ := reachL_at (clockE_zero hc).1 i1
    rw [i2] at m1
    subst m1
    simp only [overB, Bool.and_eq_true, decide_eq_true_eq, Int.toNat_natCast] at b
    exact ⟨hc, m, rfl, m2, m3, by omega, by omega⟩
  · rw [if_neg hc] at hn; simp at hn
theorem plan_part {S : Shp} {p : List Int} (hp : planE S p = 0) {h : Int} (h1 : 1 ≤ h) (h24 : h ≤ 24) {i : Nat} (hi : i + h.toNat ≤ p.length) (lim : Int) :
    runE S (prt p i h.toNat) = 0 ∧ winE S h = 0 ∧ runV S (prt p i h.toNat) ≤ winV S h ∧ (lim < runV S (prt p i h.toNat) → gi p i ∈ begL S h lim) := by
  have h0 : shopE S = 0 := Classical.byContradiction fun hn => by unfold planE at hp; rw [if_neg hn] at hp; exact hn hp
  have hS := shopE_zero h0
  unfold planE at hp
  rw [if_pos h0] at hp
  obtain ⟨p1, p2, p3, p4, p5⟩ := rowE_zero hp
  have hfst : gi p 0 ∈ S.s := of_decide_eq_true p4
  have hc := clock0 h0 h1 h24
  obtain ⟨q1, q2⟩ := part_ok hi p3 p5
  have hl := prt_len hi
  have hr := chain_rch hfst p5 i (by omega)
  have hwi := p3 i (by omega)
  have hw1 := hwi.1
  have hw2 := hwi.2
  have hg0 : gi (prt p i h.toNat) 0 = gi p i := by rw [prt_gi (by omega)]; rfl
  have hrb : rB S (gi p i).toNat = true := by rw [rB_iff, show (((gi p i).toNat : Nat) : Int) = gi p i by omega]; exact hr
  have hE : rowE S (gRun S) (prt p i h.toNat) = 0 := by
    unfold rowE
    rw [if_neg (by omega), if_neg (fun hn => hn q1), if_pos ⟨by rw [hg0]; exact hrb, q2⟩]
  have hV : rowV S (gRun S) (prt p i h.toNat) = sumK S (prt p i h.toNat) h.toNat := by unfold rowV; rw [if_pos hE, hl]
  obtain ⟨m1, m2⟩ := sum_most hS (h.toNat - 1) _ (by omega) q1 q2
  rw [hg0, show h.toNat - 1 + 1 = h.toNat by omega] at m2
  rw [show h.toNat - 1 + 1 = h.toNat by omega] at m1
  have hge := refW_ge (H := h.toNat - 1) (show (gi p i).toNat < S.d.length by omega) hrb
  have hwe : winE S h = 0 := (winE_refW hc).2 (by omega)
  refine ⟨by unfold runE; rw [if_pos h0]; exact hE, hwe, ?_, fun hlim => ?_⟩
  · unfold runV; rw [if_pos h0, hV, (win_run hwe).2.2.2.1]; omega
  · unfold runV at hlim
    rw [if_pos h0, hV] at hlim
    have := mem_beg (lim := lim) hc (show (gi p i).toNat < S.d.length by omega) hrb (by omega) (by omega)
    rwa [show (((gi p i).toNat : Nat) : Int) = gi p i by omega] at this
theorem beg_win {S : Shp} {h lim : Int} (hE : winE S h = 0) : (begL S h lim).length = 0 ↔ winV S h ≤ lim := by
  obtain ⟨_, _, _, r4, hc⟩ := win_run hE
  rw [r4]
  have hz := (winE_refW hc).1 hE
  constructor
  · intro hl
    refine Classical.byContradiction fun hn => ?_
    obtain ⟨i, i1, i2, i3⟩ := refW_at hz
    have := mem_beg (lim := lim) hc i1 i2 (by omega) (by omega)
    rw [List.eq_nil_of_length_eq_zero hl] at this
    simp at this
  · intro hle
    refine Classical.byContradiction fun hn => ?_
    obtain ⟨_, m, _, m2, m3, m4, m5⟩ := beg_mem (S := S) (h := h) (lim := lim) (n := gi (begL S h lim) 0) (mem_gi.2 ⟨0, by omega, rfl⟩)
    have := refW_ge (H := h.toNat - 1) m2 m3
    omega
theorem win_none {S : Shp} {h lim : Int} (hc : clockE S h = 0) (hE : winE S h ≠ 0) : winE S h = 5 ∧ begL S h lim = [] := by
  have e := winE_eq (S := S) (h := h)
  rw [if_neg (fun x => x hc)] at e
  have hz : refW S (h.toNat - 1) < 0 := Classical.byContradiction fun hn => hE (by rw [e, if_neg hn])
  refine ⟨by rw [e, if_pos hz], List.eq_nil_of_length_eq_zero (Classical.byContradiction fun hn => ?_)⟩
  obtain ⟨_, m, _, m2, m3, m4, m5⟩ := beg_mem (S := S) (h := h) (lim := lim) (n := gi (begL S h lim) 0) (mem_gi.2 ⟨0, by omega, rfl⟩)
  have := refW_ge (H := h.toNat - 1) m2 m3
  omega
def canL (S : Shp) (n : Int) : Nat → List Int
  | 0 => []
  | k + 1 => if (gf S.f k).1 = n then canL S n k ++ [(gf S.f k).2] else canL S n k
theorem canL_mem {S : Shp} {n m : Int} : ∀ {k : Nat}, k ≤ S.f.length → m ∈ canL S n k → (n, m) ∈ S.f
  | 0, _, h => by simp [canL] at h
  | k + 1, hk, h => by
    unfold canL at h
    split at h
    · rename_i he
      rcases List.mem_append.1 h with h | h
      · exact canL_mem (by omega) h
      · rw [List.mem_singleton] at h
        exact mem_gf.2 ⟨k, by omega, Prod.ext he h.symm⟩
    · exact canL_mem (by omega) h
theorem canL_len {S : Shp} {n : Int} : ∀ {k : Nat}, (canL S n k).length ≤ k
  | 0 => by simp [canL]
  | k + 1 => by
    have ih := canL_len (S := S) (n := n) (k := k)
    unfold canL
    split
    · rw [List.length_append, List.length_singleton]; omega
    · omega
def plnS (S : Shp) (by_ : List Int) : Nat → List Int × Bool
  | 0 => ([gi S.s ((gi by_ 0).toNat % S.s.length)], true)
  | i + 1 => if (plnS S by_ i).2 = true then
      if (canL S (gi (plnS S by_ i).1 i) S.f.length).length = 0 then ((plnS S by_ i).1, false)
      else ((plnS S by_ i).1 ++ [gi (canL S (gi (plnS S by_ i).1 i) S.f.length) ((gi by_ (i + 1)).toNat % (canL S (gi (plnS S by_ i).1 i) S.f.length).length)], true)
    else plnS S by_ i
def planL (S : Shp) (by_ : List Int) : List Int := (plnS S by_ (min by_.length 100 - 1)).1
theorem plnS_stop {S : Shp} {by_ : List Int} {i : Nat} (h : (plnS S by_ i).2 = false) : ∀ k, plnS S by_ (i + k) = plnS S by_ i
  | 0 => rfl
  | k + 1 => by
    have ih := plnS_stop h k
    rw [← Nat.add_assoc, plnS, ih, if_neg (by rw [h]; simp)]
theorem gi_app_lt {l : List Int} {a : Int} {j : Nat} (h : j < l.length) : gi (l ++ [a]) j = gi l j := by
  unfold gi; simp only [List.getD_eq_getElem?_getD]; rw [List.getElem?_append_left h]
theorem gi_app_eq {l : List Int} {a : Int} : gi (l ++ [a]) l.length = a := by
  unfold gi; simp [List.getD_eq_getElem?_getD]
theorem plnS_ok {S : Shp} (hS : S.ok) (by_ : List Int) : ∀ i, 1 ≤ (plnS S by_ i).1.length ∧ (plnS S by_ i).1.length ≤ i + 1 ∧ ((plnS S by_ i).2 = true → (plnS S by_ i).1.length = i + 1) ∧ okW S (plnS S by_ i).1 ∧ gi (plnS S by_ i).1 0 ∈ S.s ∧ chain S (plnS S by_ i).1
  | 0 => by
    have hs0 := hS.s0
    have hlt : (gi by_ 0).toNat % S.s.length < S.s.length := Nat.mod_lt _ (by omega)
    have hm : gi S.s ((gi by_ 0).toNat % S.s.length) ∈ S.s := mem_gi.2 ⟨_, hlt, rfl⟩
    have hw := ok_fst hS hm
    refine ⟨by simp [plnS], by simp [plnS], fun _ => by simp [plnS], fun i hi => ?_, hm, fun i hi h0 => ?_⟩
    · have : i = 0 := by simp [plnS] at hi; omega
      subst this; exact hw
    · simp [plnS] at hi; omega
  | i + 1 => by
    obtain ⟨a, b, c, d, e, f⟩ := plnS_ok hS by_ i
    unfold plnS
    split
    · rename_i ht
      have hl := c ht
      split
      · dsimp only
        exact ⟨a, by omega, fun h => (by cases h), d, e, f⟩
      · rename_i hcn
        generalize (plnS S by_ i).1 = l at *
        have hlt : (gi by_ (i + 1)).toNat % (canL S (gi l i) S.f.length).length < (canL S (gi l i) S.f.length).length := Nat.mod_lt _ (by omega)
        have hm := canL_mem (Nat.le_refl _) (mem_gi.2 ⟨_, hlt, rfl⟩ : gi (canL S (gi l i) S.f.length) ((gi by_ (i + 1)).toNat % (canL S (gi l i) S.f.length).length) ∈ canL S (gi l i) S.f.length)
        generalize gi (canL S (gi l i) S.f.length) ((gi by_ (i + 1)).toNat % (canL S (gi l i) S.f.length).length) = w at *
        have hw := (ok_pair hS hm).2
        refine ⟨by simp, by simp; omega, fun _ => by simp; omega, fun j hj => ?_, by rw [gi_app_lt (by omega)]; exact e, fun j hj h0 => ?_⟩
        · simp only [List.length_append, List.length_singleton] at hj
          by_cases hjl : j < l.length
          · rw [gi_app_lt hjl]; exact d j hjl
          · obtain rfl : j = l.length := by omega
            rw [gi_app_eq]; exact hw
        · simp only [List.length_append, List.length_singleton] at hj
          by_cases hjl : j < l.length
          · rw [gi_app_lt hjl, gi_app_lt (by omega)]; exact f j hjl h0
          · obtain rfl : j = l.length := by omega
            rw [gi_app_eq, gi_app_lt (by omega), hl, show i + 1 - 1 = i by omega]; exact hm
    · rename_i ht
      exact ⟨a, by omega, fun h => absurd h ht, d, e, f⟩
theorem planL_ok {S : Shp} (h0 : shopE S = 0) (by_ : List Int) : planE S (planL S by_) = 0 ∧ 1 ≤ (planL S by_).length ∧ (planL S by_).length ≤ 100 := by
  obtain ⟨a, b, _, d, e, f⟩ := plnS_ok (shopE_zero h0) by_ (min by_.length 100 - 1)
  have hl : (plnS S by_ (min by_.length 100 - 1)).1.length ≤ 100 := by omega
  unfold planL
  refine ⟨?_, a, hl⟩
  unfold planE rowE
  rw [if_pos h0, if_neg (by omega), if_neg (fun hn => hn d), if_pos ⟨by unfold gPlan; exact decide_eq_true e, f⟩]
end Go.AH.Dust
namespace Go.AH.Dust
open Go Go.AH
def u8s (l : List Int) : List Value := l.map (.int .u8)
theorem u8s_get {l : List Int} {i : Nat} (h : i < l.length) : (u8s l)[i]? = some (.int .u8 (gi l i)) := by
  simp [u8s, gi, List.getD_eq_getElem?_getD, List.getElem?_eq_getElem h]
theorem u8s_plain (l : List Int) : plainL (u8s l) = true := plainL_map _ (fun _ => rfl) l
theorem hc_p5 (S : Shp) (B : List Int) {n : Nat} (hn : 3 ≤ n) : HClosed n [.ro (ints S.d), .ro (pc S.f), .ro (ints S.s), .ro (u8s B), .rw (shL 0 1 2 S)] :=
  ⟨plainL_closed (ints_plain _), plainL_closed (pc_plain _), plainL_closed (ints_plain _), plainL_closed (u8s_plain _), shL_closed (by omega) (by omega) (by omega), trivial⟩
theorem hc_p6 (S : Shp) (B : List Int) (l : List Int) : HClosed 6 [.ro (ints S.d), .ro (pc S.f), .ro (ints S.s), .ro (u8s B), .rw (shL 0 1 2 S), .gr (ints l) 3] :=
  ⟨plainL_closed (ints_plain _), plainL_closed (pc_plain _), plainL_closed (ints_plain _), plainL_closed (u8s_plain _), shL_closed (by omega) (by omega) (by omega), plainL_closed (ints_plain _), trivial⟩
theorem tmod_nat {x : Int} {n : Nat} (hx : 0 ≤ x) : x.tmod (n : Int) = ((x.toNat % n : Nat) : Int) := by
  obtain ⟨m, rfl⟩ : ∃ m : Nat, x = (m : Int) := ⟨x.toNat, by omega⟩
  rfl
end Go.AH.Dust
namespace Go.Proofs.Ytomioaiojidnbaa
open Go Go.AH
attribute [local irreducible] WOps WCode WFree retQ thenQ blockQ scopeQ OpOk ACall RetRef roundA roundB
set_option maxRecDepth 100000
set_option maxHeartbeats 1000000
open Go.AH.Dust
theorem plan40_ok (S : Shp) (hS : S.ok) (B : List Int) (hB : ∀ b ∈ B, 0 ≤ b ∧ b ≤ 255) (hN : B.length ≤ 9223372036854775807) :
    Ev Try.prog 40 [shV 0 1 2 S, sl 3 B.length] [.ro (ints S.d), .ro (pc S.f), .ro (ints S.s), .ro (u8s B)] (sl 4 (planL S B).length) [.ro (ints S.d), .ro (pc S.f), .ro (ints S.s), .ro (u8s B), .rw (ints (planL S B))] := by
  have n10 := hS.n10
  have f60 := hS.f60
  have s0 := hS.s0
  have s10 := hS.s10
  have hgb : ∀ i, 0 ≤ gi B i ∧ gi B i ≤ 255 := fun i => by
    by_cases hi : i < B.length
    · exact hB _ (mem_gi.2 ⟨i, hi, rfl⟩)
    · have : gi B i = 0 := by unfold gi; rw [List.getD_eq_getElem?_getD, List.getElem?_eq_none (by omega)]; rfl
      omega
  have hF1 : B.length = 0 → gi B 0 = 0 := fun h => by unfold gi; rw [List.getD_eq_getElem?_getD, List.getElem?_eq_none (by omega)]; rfl
  have hb0 := hgb 0
  have ht := tmod_nat (x := gi B 0) (n := S.s.length) hb0.1
  have hlt : (gi B 0).toNat % S.s.length < S.s.length := Nat.mod_lt _ (by omega)
  have hx0 : 0 ≤ (gi B 0).tmod (S.s.length : Int) ∧ (gi B 0).tmod (S.s.length : Int) < S.s.length := by rw [ht]; omega
  have hc2 : cellGet [.ro (ints S.d), .ro (pc S.f), .ro (ints S.s), .ro (u8s B), .rw (shL 0 1 2 S)] 2 (0 + ((gi B 0).tmod (S.s.length : Int)).toNat * 1) = some (.int .i64 (gi S.s ((gi B 0).toNat % S.s.length))) := by
    rw [ht, Int.toNat_natCast, Nat.zero_add, Nat.mul_one]; exact ints_get hlt
  have hp0 : plnS S B 0 = ([gi S.s ((gi B 0).toNat % S.s.length)], true) := rfl
  have hs9 : (S.s.length : Int) ≠ 0 := by omega
  clear ht hlt
  generalize gi S.s ((gi B 0).toNat % S.s.length) = w0 at *
  refine acall_intro 4 84 Try.func40 rfl rfl rfl rfl rfl ?_
  repeat' (first | (refine gU ?_; first | (refine gMove ?_; refine st (ok_move rfl) rfl rfl ?_) | (refine gAssign ?_; refine st (ok_assign rfl) rfl rfl ?_) | (refine gBin ?_; refine st (ok_bin rfl rfl rfl) rfl rfl ?_) | (refine gLen ?_; refine st (ok_len rfl) rfl rfl ?_) | (refine gBox ?_; refine st (ok_box rfl) rfl rfl ?_)) | refine W_seq ?_ | refine W_region ?_ | refine st_nil ?_ | refine tq_n ?_ | refine W_stopC (t := 12) ?_)
  refine ⟨W_condM rfl [(1, sl 3 B.length), (2, .pointer (some ⟨4, 0, none⟩)), (5, .int .i64 (gi B 0))] [.ro (ints S.d), .ro (pc S.f), .ro (ints S.s), .ro (u8s B), .rw (shL 0 1 2 S)] (fun e' he => ?_) (fun hx => ?_) (fun hx => ?_)⟩
  rotate_left
  · have hx := of_decide_eq_true hx
    have hc1 : cellGet [.ro (ints S.d), .ro (pc S.f), .ro (ints S.s), .ro (u8s B), .rw (shL 0 1 2 S)] 3 (0 + Int.toNat 0 * 1) = some (.int .u8 (gi B 0)) := u8s_get (by omega)
    repeat' (first | (refine gU ?_; first | (refine gMove ?_; refine st (ok_move rfl) rfl rfl ?_) | (refine gAssign ?_; refine st (ok_assign rfl) rfl rfl ?_) | (refine gLoad ?_; refine st (ok_load rfl (by exact hc1)) rfl rfl ?_) | (refine gIA ?_; refine st (ok_idx rfl rfl (by omega) (by omega)) rfl rfl ?_) | (refine gConv ?_; refine st (ok_convK rfl (by omega) (by omega)) rfl rfl ?_)) | refine W_region ?_ | refine st_nil ?_)
    exact ⟨rfl, rfl, rfl, rfl, rfl, rfl, trivial⟩
  · have hx := of_decide_eq_false hx
    rw [hF1 (by omega)]
    repeat' (refine W_skip ?_)
    exact ⟨rfl, rfl, rfl, rfl, rfl, rfl, trivial⟩
  refine tq_n ?_
  refine W_cut [(1, sl 3 B.length), (2, .pointer (some ⟨4, 0, none⟩)), (5, .int .i64 (gi B 0))] [.ro (ints S.d), .ro (pc S.f), .ro (ints S.s), .ro (u8s B), .rw (shL 0 1 2 S)] rfl he ?_
  repeat' (first | (refine gU ?_; first | refine st (ok_buildSG (σ := [.ro (ints S.d), .ro (pc S.f), .ro (ints S.s), .ro (u8s B), .rw (shL 0 1 2 S)]) (by rfl) (by rfl) (by rfl) (by rfl) rfl (by rfl)) rfl rfl ?_ | (refine gAssign ?_; refine st (ok_assign rfl) rfl rfl ?_)) | (refine fU ?_; first | (refine fMove ?_; refine frA (ok_move rfl) rfl ?_) | (refine fFA ?_; refine frA (ok_fieldAddr rfl) rfl ?_) | (refine fLoad ?_; refine frA (ok_load rfl (by first | rfl | exact hc2)) rfl ?_) | (refine fBin ?_; refine frA (ok_rem rfl rfl (by omega)) rfl ?_) | (refine fLen ?_; refine frA (ok_len rfl) rfl ?_) | (refine fIA ?_; refine frA (ok_idx rfl rfl (by omega) (by omega)) rfl ?_)) | (refine fr_stop ⟨by kernel_rfl, ?_⟩) | refine W_seq ?_ | refine W_region ?_ | refine W_regionD (by kernel_rfl) rfl ?_ | refine st_nil ?_ | refine tq_n ?_ | refine W_block ?_)
  refine W_loopS (ι := Nat) (fun i => [(1, sl 3 B.length), (2, .pointer (some ⟨4, 0, none⟩)), (6, slvV 5 1 (plnS S B i).1.length), (7, .int .i64 ((i + 1 : Nat) : Int))])
    (fun i => [.ro (ints S.d), .ro (pc S.f), .ro (ints S.s), .ro (u8s B), .rw (shL 0 1 2 S), .gr (ints (plnS S B i).1) 3]) (fun i => B.length - i) (fun i => (plnS S B i).2 = true ∧ i ≤ min B.length 100 - 1) 0 (by simp)
    (StRef.src [.ro (ints S.d), .ro (pc S.f), .ro (ints S.s), .ro (u8s B), .rw (shL 0 1 2 S)] [.gr (ints (plnS S B 0).1) 3] [5] (by simp) rfl (hc_p5 S B (by simp)) rfl rfl ⟨osub_gr rfl (by rw [hp0]; rfl) (ints_plain _), trivial⟩ (by rw [hp0]; (repeat' (first | exact trivial | refine ⟨er_plain rfl rfl, ?_⟩ | refine ⟨er_closed (m := 5) rfl (fun i hi => srcR_lt hi) (by simp) (by first | rfl | exact closed_slice rfl) rfl, ?_⟩ | refine ⟨er_slvV rfl (by simp) rfl, ?_⟩)))) ⟨by rw [hp0], Nat.zero_le _⟩ ?_
  clear hF1 hc2 hx0 hp0 hb0 he e' hs9 w0
  rintro i ⟨ht, him⟩
  obtain ⟨_, _, hlen0, hok, _, _⟩ := plnS_ok hS B i
  have hl := hlen0 ht
  clear hlen0
  have hwi := hok i (by omega)
  have hil2 : (ints (plnS S B i).1).length = (i + 1) * 1 := by simp [ints]; omega
  have hnx : plnS S B (i + 1) = if (canL S (gi (plnS S B i).1 i) S.f.length).length = 0 then ((plnS S B i).1, false)
      else ((plnS S B i).1 ++ [gi (canL S (gi (plnS S B i).1 i) S.f.length) ((gi B (i + 1)).toNat % (canL S (gi (plnS S B i).1 i) S.f.length).length)], true) := by
    rw [plnS, if_pos ht]
  have hend : ¬ (i + 1 < B.length ∧ i + 1 < 100) → planL S B = (plnS S B i).1 := fun h => by
    unfold planL; rw [show min B.length 100 - 1 = i by omega]
  have hstop : (i + 1 < B.length ∧ i + 1 < 100) → (plnS S B (i + 1)).2 = false → planL S B = (plnS S B (i + 1)).1 := fun h h2 => by
    unfold planL
    rw [show min B.length 100 - 1 = i + 1 + (min B.length 100 - 1 - (i + 1)) by omega, plnS_stop h2]
  have hb1 := hgb (i + 1)
  generalize hL : (plnS S B i).1 = L at *
  rw [hl]
  by_cases h1 : ((i + 1 : Nat) : Int) < B.length
  · by_cases h2 : ((i + 1 : Nat) : Int) < 100
    · have hst := hstop ⟨by omega, by omega⟩
      clear hend hstop
      repeat' (first | (refine gU ?_; first | (refine gMove ?_; refine st (ok_move rfl) rfl rfl ?_) | (refine gAssign ?_; refine st (ok_assign rfl) rfl rfl ?_) | (refine gBin ?_; refine st (ok_bin rfl rfl rfl) rfl rfl ?_) | (refine gLen ?_; refine st (ok_len rfl) rfl rfl ?_) | (refine gPick ?_; refine st (ok_pickTA rfl rfl) rfl rfl ?_)) | (refine gG ?_; first | (refine gMove ?_; refine stGA rfl (ok_move rfl) rfl rfl ?_) | (refine gBin ?_; refine stGA rfl (ok_bin rfl rfl rfl) rfl rfl ?_)) | refine W_seq ?_ | refine W_region ?_ | refine st_nil ?_ | refine tq_n ?_ | refine W_skip ?_ | refine W_block ?_ | refine W_condTA rfl ?_)
      refine W_loopS (ι := Nat) (fun k => [(1, sl 3 B.length), (2, .pointer (some ⟨4, 0, none⟩)), (6, slvV 5 1 (i + 1)), (7, .int .i64 ((i + 1 : Nat) : Int)), (8, slvV 6 1 (canL S (gi L i) k).length), (9, .int .i64 (k : Int))])
        (fun k => [.ro (ints S.d), .ro (pc S.f), .ro (ints S.s), .ro (u8s B), .rw (shL 0 1 2 S), .gr (ints L) 3, .gr (ints (canL S (gi L i) k)) 3]) (fun k => S.f.length - k) (fun k => k ≤ S.f.length) 0 (by simp)
        (StRef.src [.ro (ints S.d), .ro (pc S.f), .ro (ints S.s), .ro (u8s B), .rw (shL 0 1 2 S), .gr (ints L) 3] [.gr [] 3] [6] (by simp) rfl (hc_p6 S B L) rfl rfl ⟨osub_gr0, trivial⟩ (by (repeat' (first | exact trivial | refine ⟨er_plain rfl rfl, ?_⟩ | refine ⟨er_closed (m := 6) rfl (fun i hi => srcR_lt hi) (by simp) (by first | rfl | exact closed_slice rfl) (by rfl), ?_⟩)))) (Nat.zero_le _) ?_
      intro k hk
      by_cases hkl : k < S.f.length
      · have ei : (((i + 1 : Nat) : Int) - 1).toNat = i := by omega
        have hc1 : ∀ r, cellGet [.ro (ints S.d), .ro (pc S.f), .ro (ints S.s), .ro (u8s B), .rw (shL 0 1 2 S), .gr (ints L) 3, .gr r 3] 1 (0 + k * 2 + 0 * 1) = some (.int .i64 (gf S.f k).1) := fun r => pc_get0 (.inl rfl) hkl
        have hc5 : cellGet [.ro (ints S.d), .ro (pc S.f), .ro (ints S.s), .ro (u8s B), .rw (shL 0 1 2 S), .gr (ints L) 3, .gr (ints (canL S (gi L i) k)) 3] 1 (0 + k * 2 + 1 * 1) = some (.int .i64 (gf S.f k).2) := pc_get1 (.inl rfl) hkl
        have hc2 : ∀ r, cellGet [.ro (ints S.d), .ro (pc S.f), .ro (ints S.s), .ro (u8s B), .rw (shL 0 1 2 S), .gr (ints L) 3, .gr r 3] 5 ((((i + 1 : Nat) : Int) - 1).toNat * 1) = some (.int .i64 (gi L i)) := fun r => by
          rw [ei, Nat.mul_one]; exact ints_get (by omega)
        have hcn : canL S (gi L i) (k + 1) = if (gf S.f k).1 = gi L i then canL S (gi L i) k ++ [(gf S.f k).2] else canL S (gi L i) k := rfl
        have hil3 : (ints (canL S (gi L i) k)).length = (canL S (gi L i) k).length * 1 := by simp [ints]
        have hkc := canL_len (S := S) (n := gi L i) (k := k)
        replace hc1 := hc1 (ints (canL S (gi L i) k))
        replace hc2 := hc2 (ints (canL S (gi L i) k))
        by_cases he : (gf S.f k).1 = gi L i
        · rw [if_pos he] at hcn
          have hlen : (canL S (gi L i) (k + 1)).length = (canL S (gi L i) k).length + 1 := by rw [hcn]; simp
          have hcs : ints (canL S (gi L i) (k + 1)) = ints (canL S (gi L i) k) ++ [.int .i64 (gf S.f k).2] := by rw [hcn, ints_app]
          generalize canL S (gi L i) k = C at *
          generalize gi L i = n at *
          generalize (gf S.f k).1 = a at *
          generalize (gf S.f k).2 = b at *
          repeat' (first | (refine gU ?_; first | (refine gMove ?_; refine st (ok_move rfl) rfl rfl ?_) | (refine gAssign ?_; refine st (ok_assign rfl) rfl rfl ?_) | (refine gFA ?_; refine st (ok_fieldAddr rfl) rfl rfl ?_) | (refine gLoad ?_; refine st (ok_load rfl (by first | rfl | exact hc5)) rfl rfl ?_) | (refine gAdd ?_; refine st (ok_inc rfl rfl (by omega)) rfl rfl ?_) | (refine gBin ?_; refine st (ok_bin rfl rfl rfl) rfl rfl ?_) | (refine gLen ?_; refine st (ok_len rfl) rfl rfl ?_) | (refine gIA ?_; first | refine st (ok_idxSN rfl rfl (by omega)) rfl rfl ?_ | refine st (ok_idxA rfl rfl (by omega) (by omega)) rfl rfl ?_) | (refine gBuildS ?_; refine st (ok_buildS (by rfl) (by rfl) (by rfl) (by rfl) rfl (by rfl)) rfl rfl ?_) | (refine gApp ?_; refine st (ok_appendV (by rfl) (by rfl) rfl (by rfl) (by exact hil3) rfl (by rfl) (by omega) (by rfl) (by omega) (by omega)) rfl rfl ?_)) | (refine fU ?_; first | (refine fMove ?_; refine frA (ok_move rfl) rfl ?_) | (refine fFA ?_; refine frA (ok_fieldAddr rfl) rfl ?_) | (refine fLoad ?_; refine frA (ok_load rfl (by first | rfl | exact hc1 | exact hc2)) rfl ?_) | (refine fSub ?_; refine frA (ok_sub rfl rfl (by omega) (by omega)) rfl ?_) | (refine fBin ?_; refine frA (ok_bin rfl rfl rfl) rfl ?_) | (refine fIA ?_; first | refine frA (ok_idxSN rfl rfl (by omega)) rfl ?_ | refine frA (ok_idxG rfl rfl (by omega) (by omega)) rfl ?_ | refine frA (ok_idxA rfl rfl (by omega) (by omega)) rfl ?_)) | (refine fr_stop ⟨by kernel_rfl, ?_⟩) | refine W_seq ?_ | refine W_region ?_ | refine W_regionD (by kernel_rfl) rfl ?_ | refine st_nil ?_ | refine tq_n ?_ | refine bq_n ?_ | refine W_skip ?_ | refine W_block ?_ | refine W_condTA rfl ?_)
          exact ⟨rfl, k + 1, by omega, by omega, StRef.src [.ro (ints S.d), .ro (pc S.f), .ro (ints S.s), .ro (u8s B), .rw (shL 0 1 2 S), .gr (ints L) 3] [.gr (ints (canL S n (k + 1))) 3] [8] (by simp) rfl (hc_p6 S B L) rfl rfl ⟨osub_gr rfl (by rw [hcs]; rfl) (ints_plain _), trivial⟩ (by (repeat' (first | exact trivial | refine ⟨er_plain rfl rfl, ?_⟩ | refine ⟨er_closed (m := 6) rfl (fun i hi => srcR_lt hi) (by simp) (by first | rfl | exact closed_slice rfl) (by rfl), ?_⟩ | refine ⟨er_slvV (by rw [hlen]; rfl) (by simp) rfl, ?_⟩)))⟩
        · rw [if_neg he] at hcn
          generalize hC : canL S (gi L i) k = C at *
          generalize gi L i = n at *
          generalize (gf S.f k).1 = a at *
          repeat' (first | (refine gU ?_; first | (refine gMove ?_; refine st (ok_move rfl) rfl rfl ?_) | (refine gAssign ?_; refine st (ok_assign rfl) rfl rfl ?_) | (refine gFA ?_; refine st (ok_fieldAddr rfl) rfl rfl ?_) | (refine gLoad ?_; refine st (ok_load rfl (by rfl)) rfl rfl ?_) | (refine gAdd ?_; refine st (ok_inc rfl rfl (by omega)) rfl rfl ?_) | (refine gBin ?_; refine st (ok_bin rfl rfl rfl) rfl rfl ?_) | (refine gLen ?_; refine st (ok_len rfl) rfl rfl ?_)) | (refine fU ?_; first | (refine fMove ?_; refine frA (ok_move rfl) rfl ?_) | (refine fFA ?_; refine frA (ok_fieldAddr rfl) rfl ?_) | (refine fLoad ?_; refine frA (ok_load rfl (by first | rfl | exact hc1 | exact hc2)) rfl ?_) | (refine fSub ?_; refine frA (ok_sub rfl rfl (by omega) (by omega)) rfl ?_) | (refine fBin ?_; refine frA (ok_bin rfl rfl rfl) rfl ?_) | (refine fIA ?_; first | refine frA (ok_idxSN rfl rfl (by omega)) rfl ?_ | refine frA (ok_idxG rfl rfl (by omega) (by omega)) rfl ?_ | refine frA (ok_idxA rfl rfl (by omega) (by omega)) rfl ?_)) | (refine fr_stop ⟨by kernel_rfl, ?_⟩) | refine W_seq ?_ | refine W_region ?_ | refine W_regionD (by kernel_rfl) rfl ?_ | refine st_nil ?_ | refine tq_n ?_ | refine bq_n ?_ | refine W_skip ?_ | refine W_block ?_ | refine W_condTA rfl ?_ | refine W_condFA rfl ?_)
          refine ⟨rfl, k + 1, by omega, by omega, ?_⟩
          rw [hcn]
          exact .same ⟨rfl, rfl, rfl, rfl, rfl, rfl, trivial⟩
      · obtain rfl : k = S.f.length := by omega
        have hkc := canL_len (S := S) (n := gi L i) (k := S.f.length)
        generalize canL S (gi L i) S.f.length = C at *
        by_cases hC : (C.length : Int) = 0
        · rw [if_pos (by omega)] at hnx
          rw [hst (by rw [hnx]), hnx]
          clear hst hnx
          repeat' (first | (refine gU ?_; first | (refine gMove ?_; refine st (ok_move rfl) rfl rfl ?_) | (refine gAssign ?_; refine st (ok_assign rfl) rfl rfl ?_) | (refine gFA ?_; refine st (ok_fieldAddr rfl) rfl rfl ?_) | (refine gLoad ?_; refine st (ok_load rfl (by rfl)) rfl rfl ?_) | (refine gBin ?_; refine st (ok_bin rfl rfl rfl) rfl rfl ?_) | (refine gLen ?_; first | refine st (ok_len rfl) rfl rfl ?_ | refine st (ok_lenV rfl) rfl rfl ?_)) | refine W_seq ?_ | refine W_region ?_ | refine st_nil ?_ | refine tq_n ?_ | refine tq_r ?_ | refine tq_e ?_ | refine bq_r ?_ | refine bq_hit rfl ?_ | refine W_exit ?_ | refine W_ret ?_ | refine W_condTA rfl ?_ | refine W_condFA rfl ?_)
          exact ret0 (.tmp rfl .nil) (retOne (n := i + 1) (j := 5) (sz := 1) rfl (ints_plain _) (.inr ⟨3, rfl⟩) rfl) ⟨by rw [hl]; rfl, rfl⟩
        · rw [if_neg (by omega)] at hnx
          clear hst
          have hb9 := tmod_nat (x := gi B (i + 1)) (n := C.length) hb1.1
          have hlt : (gi B (i + 1)).toNat % C.length < C.length := Nat.mod_lt _ (by omega)
          have hx0 : 0 ≤ (gi B (i + 1)).tmod (C.length : Int) ∧ (gi B (i + 1)).tmod (C.length : Int) < C.length := by rw [hb9]; omega
          have hc2 : cellGet [.ro (ints S.d), .ro (pc S.f), .ro (ints S.s), .ro (u8s B), .rw (shL 0 1 2 S), .gr (ints L) 3, .gr (ints C) 3] 6 (((gi B (i + 1)).tmod (C.length : Int)).toNat * 1) = some (.int .i64 (gi C ((gi B (i + 1)).toNat % C.length))) := by
            rw [hb9, Int.toNat_natCast, Nat.mul_one]; exact ints_get hlt
          have hc1 : cellGet [.ro (ints S.d), .ro (pc S.f), .ro (ints S.s), .ro (u8s B), .rw (shL 0 1 2 S), .gr (ints L) 3, .gr (ints C) 3] 3 (i + 1) = some (.int .u8 (gi B (i + 1))) := u8s_get (by omega)
          have hc3 : cellGet [.ro (ints S.d), .ro (pc S.f), .ro (ints S.s), .ro (u8s B), .rw (shL 0 1 2 S), .gr (ints L) 3, .gr (ints C) 3] 3 (0 + (i + 1) * 1) = some (.int .u8 (gi B (i + 1))) := by rw [Nat.zero_add, Nat.mul_one]; exact hc1
          have hl2 : (plnS S B (i + 1)).2 = true := by rw [hnx]
          have hnx1 : (plnS S B (i + 1)).1 = L ++ [gi C ((gi B (i + 1)).toNat % C.length)] := by rw [hnx]
          have hlen : (plnS S B (i + 1)).1.length = i + 1 + 1 := by rw [hnx1]; simp [hl]
          have hcs : ints (plnS S B (i + 1)).1 = ints L ++ [.int .i64 (gi C ((gi B (i + 1)).toNat % C.length))] := by rw [hnx1, ints_app]
          clear hnx hnx1 hb9 hlt
          generalize gi C ((gi B (i + 1)).toNat % C.length) = w at *
          repeat' (first | (refine gU ?_; first | refine st (ok_idxVI rfl rfl (by omega) (by omega)) rfl rfl ?_ | (refine gMove ?_; refine st (ok_move rfl) rfl rfl ?_) | (refine gAssign ?_; refine st (ok_assign rfl) rfl rfl ?_) | (refine gFA ?_; refine st (ok_fieldAddr rfl) rfl rfl ?_) | (refine gLoad ?_; refine st (ok_load rfl (by first | rfl | exact hc1 | exact hc2)) rfl rfl ?_) | (refine gAdd ?_; refine st (ok_inc rfl rfl (by omega)) rfl rfl ?_) | (refine gBin ?_; first | refine st (ok_bin rfl rfl rfl) rfl rfl ?_ | refine st (ok_rem rfl rfl (by omega)) rfl rfl ?_) | (refine gLen ?_; first | refine st (ok_len rfl) rfl rfl ?_ | refine st (ok_lenV rfl) rfl rfl ?_) | (refine gIA ?_; refine st (ok_idxN rfl rfl (by omega)) rfl rfl ?_) | (refine gConv ?_; refine st (ok_convK rfl (by omega) (by omega)) rfl rfl ?_) | (refine gBuildS ?_; refine st (ok_buildS (by rfl) (by rfl) (by rfl) (by rfl) rfl (by rfl)) rfl rfl ?_) | (refine gApp ?_; refine st (ok_appendV (by rfl) (by rfl) rfl (by rfl) (by exact hil2) rfl (by rfl) (by omega) (by rfl) (by omega) (by omega)) rfl rfl ?_)) | refine W_seq ?_ | refine W_region ?_ | refine st_nil ?_ | refine tq_n ?_ | refine tq_e ?_ | refine bq_n ?_ | refine bq_hit rfl ?_ | refine W_skip ?_ | refine W_exit ?_ | refine W_condFA rfl ?_)
          exact ⟨rfl, i + 1, ⟨hl2, by omega⟩, by omega, StRef.src [.ro (ints S.d), .ro (pc S.f), .ro (ints S.s), .ro (u8s B), .rw (shL 0 1 2 S)] [.gr (ints (plnS S B (i + 1)).1) 3] [8] (by simp) rfl (hc_p5 S B (by simp)) rfl rfl ⟨osub_gr rfl (by rw [hcs]; rfl) (ints_plain _), trivial⟩ (by (repeat' (first | exact trivial | refine ⟨er_plain rfl rfl, ?_⟩ | refine ⟨er_closed (m := 5) rfl (fun i hi => srcR_lt hi) (by simp) (by first | rfl | exact closed_slice rfl) rfl, ?_⟩ | refine ⟨er_slvV (by rw [hlen]; rfl) (by simp) rfl, ?_⟩)))⟩
    · rw [hend (by omega)]
      clear hend hstop hnx
      repeat' (first | (refine gU ?_; first | (refine gMove ?_; refine st (ok_move rfl) rfl rfl ?_) | (refine gAssign ?_; refine st (ok_assign rfl) rfl rfl ?_) | (refine gBin ?_; refine st (ok_bin rfl rfl rfl) rfl rfl ?_) | (refine gLen ?_; refine st (ok_len rfl) rfl rfl ?_) | (refine gPick ?_; refine st (ok_pickTA rfl rfl) rfl rfl ?_)) | (refine gG ?_; first | (refine gMove ?_; refine stGA rfl (ok_move rfl) rfl rfl ?_) | (refine gBin ?_; refine stGA rfl (ok_bin rfl rfl rfl) rfl rfl ?_)) | refine W_seq ?_ | refine W_region ?_ | refine st_nil ?_ | refine tq_n ?_ | refine tq_e ?_ | refine bq_hit rfl ?_ | refine W_exit ?_ | refine W_ret ?_ | refine W_condFA rfl ?_)
      exact ret0 (.tmp rfl .nil) (retOne (n := i + 1) (j := 5) (sz := 1) rfl (ints_plain _) (.inr ⟨3, rfl⟩) rfl) ⟨by rw [hl]; rfl, rfl⟩
  · rw [hend (by omega)]
    clear hend hstop hnx
    repeat' (first | (refine gU ?_; first | (refine gMove ?_; refine st (ok_move rfl) rfl rfl ?_) | (refine gAssign ?_; refine st (ok_assign rfl) rfl rfl ?_) | (refine gBin ?_; refine st (ok_bin rfl rfl rfl) rfl rfl ?_) | (refine gLen ?_; refine st (ok_len rfl) rfl rfl ?_) | (refine gPick ?_; refine st (ok_pickFA rfl rfl) rfl rfl ?_)) | (refine gG ?_; refine stSA rfl rfl ?_) | refine W_seq ?_ | refine W_region ?_ | refine st_nil ?_ | refine tq_n ?_ | refine tq_e ?_ | refine bq_hit rfl ?_ | refine W_exit ?_ | refine W_ret ?_ | refine W_condFA rfl ?_)
    exact ret0 (.tmp rfl .nil) (retOne (n := i + 1) (j := 5) (sz := 1) rfl (ints_plain _) (.inr ⟨3, rfl⟩) rfl) ⟨by rw [hl]; rfl, rfl⟩
theorem plan40_ev {σ : Heap} {S : Shp} {B : List Int} {x y z w : Nat} {v u : Value} (h : SAt σ x y z S) (hv : ShS x y z S v) (hl : arrAt σ w (u8s B)) (hu : LS w B.length u) (hS : S.ok) (hB : ∀ b ∈ B, 0 ≤ b ∧ b ≤ 255) (hN : B.length ≤ 9223372036854775807) (hni : σ.all (fun o => !isIter o) = true) :
    Ev Try.prog 40 [v, u] σ (sl σ.length (planL S B).length) (σ ++ [.rw (ints (planL S B))]) := by
  refine Ev.arrsN (S.css ++ [u8s B]) [x, y, z, w] (plan40_ok S hS B hB hN) ⟨h.1, h.2.1, h.2.2, hl, trivial⟩ ⟨shS_mono (r := [w]) hv, hu 4 3 _ (by omega) rfl, trivial⟩ (by simp [ints_plain, pc_plain, u8s_plain]) rfl ?_ ?_ hni
  · simp [ren, shf]
  · simp only [List.map_cons, List.map_nil, renO, renL_plain _ (ints_plain _)]
end Go.Proofs.Ytomioaiojidnbaa
namespace Go.AH.Dust
open Go Go.AH
theorem shS_parts {x y z w o : Nat} {S : Shp} {v : Value} (h : ShS x y z S v) : VSub 4 (psR [(x, 0), (y, 0), (z, 0), (w, o)]) (shV 0 1 2 S) v := by
  refine VQ.mono h (by omega) fun i hi => ?_
  match i, hi with
  | 0, _ => rfl
  | 1, _ => rfl
  | 2, _ => rfl
theorem PS.four {x y z w o k : Nat} {v : Value} (h : PS w o k v) : VSub 4 (psR [(x, 0), (y, 0), (z, 0), (w, o)]) (sl 3 k) v := by
  unfold PS at h
  cases h with
  | emptySlice i o a c => exact .emptySlice _ _ _ _
  | slice i o l c c' hc hi => exact (VQ.slice (q := true) (n := 4) (ρ := psR [(x, 0), (y, 0), (z, 0), (w, _)]) 3 0 k k c' hc (by omega))
  | sliceG i o l c c' sz hc hi hq => exact (VQ.sliceG (q := true) (n := 4) (ρ := psR [(x, 0), (y, 0), (z, 0), (w, _)]) 3 0 k k c' sz hc (by omega) hq)
theorem ok_neqBF {P : Program} {rd : Option Nat} {ty : TypeId} {e : Env} {σ : Heap} {x y : Operand} {p q : Bool} {t t' : TypeId} (ht : P.underlying t = some .bool) (hx : evalO e x = some (.bool p)) (hy : evalO e y = some (.bool q)) (h : p = q) :
    OpOk P rd (.binOp .neq t x y t') ty e σ (.bool false) σ :=
  ok_plain (by simp) rfl fun o ho _ A hA w => by
    have h1 := hA x (by simp [Op.operands]) _ hx rfl
    have h2 := hA y (by simp [Op.operands]) _ hy rfl
    have h3 : (eqGuard .neq t x y (.bool p) (.bool q)).run P w = .ok () w := by unfold eqGuard; split <;> rfl
    have h5 : ∀ d, (Op.equalIn (d + 1) t (.bool p) (.bool q)).run P w = .ok (p == q) w := fun d => by simp [Op.equalIn, underlying, ht]
    have h4 : (Op.equal t (.bool p) (.bool q)).run P w = .ok (p == q) w := h5 9999
    subst h
    simp [execOp, ho, h1, h2, h3, binOp, h4]
theorem prt_at {σ : Heap} {w i k : Nat} {p : List Int} (hp : arrAt σ w (ints p)) (h : i + k ≤ p.length) : prtAt σ (w, i) (ints (prt p i k)) := by
  have hl := prt_len h
  refine ⟨ints p, hp, ?_, by simp [ints]; omega⟩
  rw [ints_length, hl]
  simp [ints, prt, List.map_take, List.map_drop]
end Go.AH.Dust
namespace Go.Proofs.Ytomioaiojidnbaa
open Go Go.AH
attribute [local irreducible] WOps WCode WFree retQ thenQ blockQ scopeQ OpOk ACall RetRef roundA roundB
set_option maxRecDepth 100000
set_option maxHeartbeats 1000000
open Go.AH.Dust
theorem runP_ev {σ : Heap} {S : Shp} {l : List Int} {x y z w o : Nat} {v u : Value} (h : SAt σ x y z S) (hv : ShS x y z S v) (hl : prtAt σ (w, o) (ints l)) (hu : PS w o l.length u) (hS : S.fit) (hN : l.length ≤ 9223372036854775807) (hni : σ.all (fun o => !isIter o) = true) :
    Ev Try.prog 19 [v, u] σ (.tuple #[.int .i64 (runV S l), .int .i64 (runE S l)]) σ := by
  refine Ev.parts (S.css ++ [ints l]) [(x, 0), (y, 0), (z, 0), (w, o)] (run_ok S hS l hN) ⟨prtAt_arr h.1, prtAt_arr h.2.1, prtAt_arr h.2.2, hl, trivial⟩ ⟨shS_parts hv, ?_, trivial⟩ (css_plain1 S l) rfl hni
  exact hu.four
theorem db_over (hwo : ∀ σ : Heap, σ.all (fun o => !isIter o) = true → Ev Try.prog 14 [] σ (.bool true) σ) (S : Shp) (B P W M : List Int) (g p : Nat) (pv wv lim : Int)
    (hgp : 1 + ((p : Nat) : Int).tmod 24 = (g : Int)) (hp1 : 0 ≤ ((p : Nat) : Int).tmod 24 ∧ ((p : Nat) : Int).tmod 24 < 24) (hp : p ≤ 255) (h1 : 1 ≤ g) (h24 : g ≤ 24) (hb1 : ¬ (B.length : Int) > 100) (pl1 : 1 ≤ P.length) (pl2 : P.length ≤ 100)
    (hfi : Ev Try.prog 39 [shV 0 1 2 S] [.ro (ints S.d), .ro (pc S.f), .ro (ints S.s), .ro (u8s B), .rw (shL 0 1 2 S)] (.bool true) [.ro (ints S.d), .ro (pc S.f), .ro (ints S.s), .ro (u8s B), .rw (shL 0 1 2 S)])
    (hA : Ev Try.prog 40 [shV 0 1 2 S, sl 3 B.length] [.ro (ints S.d), .ro (pc S.f), .ro (ints S.s), .ro (u8s B), .rw (shL 0 1 2 S)] (sl 5 P.length) [.ro (ints S.d), .ro (pc S.f), .ro (ints S.s), .ro (u8s B), .rw (shL 0 1 2 S), .rw (ints P)])
    (hB : Ev Try.prog 17 [shV 0 1 2 S, sl 5 P.length] [.ro (ints S.d), .ro (pc S.f), .ro (ints S.s), .ro (u8s B), .rw (shL 0 1 2 S), .rw (ints P)] (.tuple #[.int .i64 pv, .int .i64 0]) [.ro (ints S.d), .ro (pc S.f), .ro (ints S.s), .ro (u8s B), .rw (shL 0 1 2 S), .rw (ints P)])
    (hC : Ev Try.prog 18 [shV 0 1 2 S, sl 5 P.length] [.ro (ints S.d), .ro (pc S.f), .ro (ints S.s), .ro (u8s B), .rw (shL 0 1 2 S), .rw (ints P)] (.tuple #[.int .i64 pv, .int .i64 0]) [.ro (ints S.d), .ro (pc S.f), .ro (ints S.s), .ro (u8s B), .rw (shL 0 1 2 S), .rw (ints P)])
    (hD : Ev Try.prog 24 [shV 0 1 2 S, .int .i64 (g : Int)] [.ro (ints S.d), .ro (pc S.f), .ro (ints S.s), .ro (u8s B), .rw (shL 0 1 2 S), .rw (ints P)] (.tuple #[.int .i64 wv, sl 6 W.length, .int .i64 0]) [.ro (ints S.d), .ro (pc S.f), .ro (ints S.s), .ro (u8s B), .rw (shL 0 1 2 S), .rw (ints P), .rw (ints W)])
    (hE : Ev Try.prog 33 [shV 0 1 2 S, .int .i64 (g : Int), .int .i64 lim] [.ro (ints S.d), .ro (pc S.f), .ro (ints S.s), .ro (u8s B), .rw (shL 0 1 2 S), .rw (ints P), .rw (ints W)] (.int .i64 23) [.ro (ints S.d), .ro (pc S.f), .ro (ints S.s), .ro (u8s B), .rw (shL 0 1 2 S), .rw (ints P), .rw (ints W)])
    (hF : Ev Try.prog 31 [shV 0 1 2 S, .int .i64 (g : Int), .int .i64 lim] [.ro (ints S.d), .ro (pc S.f), .ro (ints S.s), .ro (u8s B), .rw (shL 0 1 2 S), .rw (ints P), .rw (ints W)] (.tuple #[sl 7 M.length, .int .i64 0]) [.ro (ints S.d), .ro (pc S.f), .ro (ints S.s), .ro (u8s B), .rw (shL 0 1 2 S), .rw (ints P), .rw (ints W), .rw (ints M)])
    (hG : Ev Try.prog 19 [shV 0 1 2 S, sl 6 W.length] [.ro (ints S.d), .ro (pc S.f), .ro (ints S.s), .ro (u8s B), .rw (shL 0 1 2 S), .rw (ints P), .rw (ints W), .rw (ints M)] (.tuple #[.int .i64 wv, .int .i64 0]) [.ro (ints S.d), .ro (pc S.f), .ro (ints S.s), .ro (u8s B), .rw (shL 0 1 2 S), .rw (ints P), .rw (ints W), .rw (ints M)])
    (hK : Ev Try.prog 20 [shV 0 1 2 S, sl 6 W.length] [.ro (ints S.d), .ro (pc S.f), .ro (ints S.s), .ro (u8s B), .rw (shL 0 1 2 S), .rw (ints P), .rw (ints W), .rw (ints M)] (.tuple #[.int .i64 wv, .int .i64 0]) [.ro (ints S.d), .ro (pc S.f), .ro (ints S.s), .ro (u8s B), .rw (shL 0 1 2 S), .rw (ints P), .rw (ints W), .rw (ints M)]) (hwl : W.length = g)
    (hrun : ∀ i, i + g ≤ P.length → ∃ n, n ≤ wv ∧ (lim < n → gi P i ∈ M) ∧ Ev Try.prog 19 [shV 0 1 2 S, .slice (some ⟨5, 0 + i * 1, none⟩) (i + g - i) (P.length - i)] [.ro (ints S.d), .ro (pc S.f), .ro (ints S.s), .ro (u8s B), .rw (shL 0 1 2 S), .rw (ints P), .rw (ints W), .rw (ints M)] (.tuple #[.int .i64 n, .int .i64 0]) [.ro (ints S.d), .ro (pc S.f), .ro (ints S.s), .ro (u8s B), .rw (shL 0 1 2 S), .rw (ints P), .rw (ints W), .rw (ints M)])
    (hlm : ¬ wv ≤ lim) (hM0 : ¬ (M.length : Int) = 0) (hMl : M.length ≤ 200000) :
    Ev Try.prog 8 [shV 0 1 2 S, sl 3 B.length, .int .u8 p, .int .i64 lim] [.ro (ints S.d), .ro (pc S.f), .ro (ints S.s), .ro (u8s B)] (.bool true) [.ro (ints S.d), .ro (pc S.f), .ro (ints S.s), .ro (u8s B)] := by
  refine acall_intro 4 220 Try.func8 rfl rfl rfl rfl rfl ?_
  repeat' (first | (refine gU ?_; first | (refine gMove ?_; refine st (ok_move rfl) rfl rfl ?_) | (refine gAssign ?_; refine st (ok_assign rfl) rfl rfl ?_) | (refine gLoad ?_; refine st (ok_loadA rfl (by rfl)) rfl rfl ?_) | (refine gAdd ?_; refine st (ok_add rfl rfl (by omega) (by omega)) rfl rfl ?_) | (refine gBin ?_; refine st (ok_rem rfl rfl (by omega)) rfl rfl ?_) | (refine gPick ?_; refine st (ok_pickFA rfl rfl) rfl rfl ?_) | (refine gNot ?_; refine st (ok_not' rfl) rfl rfl ?_) | (refine gExtract ?_; refine st (ok_extract rfl rfl) rfl rfl ?_) | (refine gConv ?_; refine st (ok_convK rfl (by omega) (by omega)) rfl rfl ?_) | (refine gCall ?_; refine st (ok_call rfl rfl rfl (by first | exact hfi | exact hA | exact hB | exact hC)) rfl rfl ?_) | (refine gBox ?_; refine st (ok_box rfl) rfl rfl ?_)) | (refine gG ?_; first | (refine gMove ?_; refine stGA rfl (ok_move rfl) rfl rfl ?_) | (refine gBin ?_; refine stGA rfl (ok_bin rfl rfl rfl) rfl rfl ?_) | (refine gLen ?_; refine stGA rfl (ok_len rfl) rfl rfl ?_)) | refine W_seq ?_ | refine W_region ?_ | refine st_nil ?_ | refine tq_n ?_ | refine W_skip ?_ | refine W_condFA rfl ?_)
  simp only [hgp]
  clear hgp hp1
  repeat' (first | (refine gU ?_; first | (refine gMove ?_; refine st (ok_move rfl) rfl rfl ?_) | (refine gAssign ?_; refine st (ok_assign rfl) rfl rfl ?_) | (refine gLoad ?_; refine st (ok_loadA rfl (by rfl)) rfl rfl ?_) | (refine gBin ?_; refine st (ok_bin rfl rfl rfl) rfl rfl ?_) | (refine gPick ?_; refine st (ok_pickFA rfl rfl) rfl rfl ?_) | (refine gExtract ?_; refine st (ok_extract rfl rfl) rfl rfl ?_) | (refine gCall ?_; refine st (ok_call rfl rfl rfl (by first | exact hD | exact hE | exact hF)) rfl rfl ?_)) | (refine gG ?_; first | (refine gMove ?_; refine stGA rfl (ok_move rfl) rfl rfl ?_) | (refine gBin ?_; first | refine stGA rfl (ok_neqBF (t := 4) Try.underlying4 rfl rfl (by exact decide_eq_decide.2 (by omega))) rfl rfl ?_ | refine stGA rfl (ok_bin rfl rfl rfl) rfl rfl ?_) | (refine gLen ?_; refine stGA rfl (ok_len rfl) rfl rfl ?_) | (refine gPick ?_; first | refine stGA rfl (ok_pickTA rfl rfl) rfl rfl ?_ | refine stGA rfl (ok_pickFA rfl rfl) rfl rfl ?_) | refine stSU rfl rfl ?_ | refine stSA rfl rfl ?_) | refine W_seq ?_ | refine W_region ?_ | refine st_nil ?_ | refine tq_n ?_ | refine W_skip ?_ | refine W_block ?_ | refine W_condFA rfl ?_)
  refine W_loopS (ι := Nat) (fun i => [(3, .int .i64 lim), (4, .pointer (some ⟨4, 0, none⟩)), (9, .int .i64 (g : Int)), (10, sl 5 P.length), (15, .int .i64 wv), (16, sl 6 W.length), (17, .int .i64 0), (18, .int .i64 23), (19, sl 7 M.length), (21, .int .i64 (i : Int))])
    (fun _ => [.ro (ints S.d), .ro (pc S.f), .ro (ints S.s), .ro (u8s B), .rw (shL 0 1 2 S), .rw (ints P), .rw (ints W), .rw (ints M)]) (fun i => P.length - i) (fun i => i ≤ P.length) 0 (by simp) (.same ⟨rfl, rfl, rfl, rfl, rfl, rfl, rfl, rfl, rfl, rfl, trivial⟩) (Nat.zero_le _) ?_
  clear hA hB hC hD hE hF
  intro i hi
  by_cases hil : (i : Int) + (g : Int) ≤ P.length
  · clear hG hK hwo
    have hih : i + g ≤ P.length := by omega
    obtain ⟨n, q3, q4, hR⟩ := hrun i hih
    have hc1 : cellGet [.ro (ints S.d), .ro (pc S.f), .ro (ints S.s), .ro (u8s B), .rw (shL 0 1 2 S), .rw (ints P), .rw (ints W), .rw (ints M)] 5 i = some (.int .i64 (gi P i)) := ints_get (by omega)
    have hc2 : cellGet [.ro (ints S.d), .ro (pc S.f), .ro (ints S.s), .ro (u8s B), .rw (shL 0 1 2 S), .rw (ints P), .rw (ints W), .rw (ints M)] 5 (0 + i * 1) = some (.int .i64 (gi P i)) := by rw [Nat.zero_add, Nat.mul_one]; exact hc1
    clear hrun
    by_cases hn : n > lim
    · have hj : Ev Try.prog 41 [sl 7 M.length, .int .i64 (gi P i)] [.ro (ints S.d), .ro (pc S.f), .ro (ints S.s), .ro (u8s B), .rw (shL 0 1 2 S), .rw (ints P), .rw (ints W), .rw (ints M)] (.bool true) [.ro (ints S.d), .ro (pc S.f), .ro (ints S.s), .ro (u8s B), .rw (shL 0 1 2 S), .rw (ints P), .rw (ints W), .rw (ints M)] := by
        have := in41_ev (σ := [.ro (ints S.d), .ro (pc S.f), .ro (ints S.s), .ro (u8s B), .rw (shL 0 1 2 S), .rw (ints P), .rw (ints W), .rw (ints M)]) (l := M) (p := gi P i) (x := 7) (o := 0) (prtAt_arr (.inr (.inl rfl))) ps_self (by omega) rfl
        rwa [decide_eq_true (q4 hn)] at this
      clear q4
      repeat' (first | (refine gU ?_; first | (refine gMove ?_; refine st (ok_move rfl) rfl rfl ?_) | (refine gAssign ?_; refine st (ok_assign rfl) rfl rfl ?_) | (refine gAdd ?_; first | refine st (ok_inc rfl rfl (by omega)) rfl rfl ?_ | refine st (ok_add rfl rfl (by omega) (by omega)) rfl rfl ?_) | (refine gBin ?_; refine st (ok_bin rfl rfl rfl) rfl rfl ?_) | (refine gLen ?_; refine st (ok_len rfl) rfl rfl ?_) | (refine gPick ?_; refine st (ok_pickFA rfl rfl) rfl rfl ?_)) | (refine gG ?_; first | (refine gMove ?_; refine stGA rfl (ok_move rfl) rfl rfl ?_) | (refine gLoad ?_; refine stGA rfl (ok_load rfl (by exact hc1)) rfl rfl ?_) | (refine gBin ?_; refine stGA rfl (ok_bin rfl rfl rfl) rfl rfl ?_) | (refine gPick ?_; first | refine stGA rfl (ok_pickTA rfl rfl) rfl rfl ?_ | refine stGA rfl (ok_pickFA rfl rfl) rfl rfl ?_) | (refine gNot ?_; refine stGA rfl (ok_not' rfl) rfl rfl ?_) | (refine gIA ?_; refine stGA rfl (ok_idxN rfl rfl (by omega)) rfl rfl ?_) | (refine gCall ?_; refine stGA rfl (ok_call rfl rfl rfl (by exact hj)) rfl rfl ?_) | refine stSA rfl rfl ?_) | (refine fU ?_; first | refine frA (ok_call rfl rfl rfl hR) rfl ?_ | refine frA (ok_sliceLH (l := i) (h := i + g) rfl rfl rfl (by omega) (by omega)) rfl ?_ | (refine fMove ?_; refine frA (ok_move rfl) rfl ?_) | (refine fAssign ?_; refine frA (ok_assign rfl) rfl ?_) | (refine fLoad ?_; refine frA (ok_loadA rfl (by rfl)) rfl ?_) | (refine fAdd ?_; refine frA (ok_add rfl rfl (by omega) (by omega)) rfl ?_) | (refine fExtract ?_; refine frA (ok_extract rfl rfl) rfl ?_)) | (refine fr_stop ⟨by kernel_rfl, ?_⟩) | refine W_seq ?_ | refine W_region ?_ | refine W_regionD (by kernel_rfl) rfl ?_ | refine st_nil ?_ | refine tq_n ?_ | refine bq_n ?_ | refine W_skip ?_ | refine W_block ?_ | refine W_condTA rfl ?_ | refine W_condFA rfl ?_)
      exact ⟨rfl, i + 1, by omega, by omega, .same ⟨rfl, rfl, rfl, rfl, rfl, rfl, rfl, rfl, rfl, rfl, trivial⟩⟩
    · clear q4
      repeat' (first | (refine gU ?_; first | (refine gMove ?_; refine st (ok_move rfl) rfl rfl ?_) | (refine gAssign ?_; refine st (ok_assign rfl) rfl rfl ?_) | (refine gAdd ?_; first | refine st (ok_inc rfl rfl (by omega)) rfl rfl ?_ | refine st (ok_add rfl rfl (by omega) (by omega)) rfl rfl ?_) | (refine gBin ?_; refine st (ok_bin rfl rfl rfl) rfl rfl ?_) | (refine gLen ?_; refine st (ok_len rfl) rfl rfl ?_) | (refine gPick ?_; refine st (ok_pickFA rfl rfl) rfl rfl ?_)) | (refine gG ?_; first | (refine gMove ?_; refine stGA rfl (ok_move rfl) rfl rfl ?_) | (refine gBin ?_; refine stGA rfl (ok_bin rfl rfl rfl) rfl rfl ?_) | (refine gPick ?_; refine stGA rfl (ok_pickFA rfl rfl) rfl rfl ?_) | refine stSA rfl rfl ?_) | (refine fU ?_; first | refine frA (ok_call rfl rfl rfl hR) rfl ?_ | refine frA (ok_sliceLH (l := i) (h := i + g) rfl rfl rfl (by omega) (by omega)) rfl ?_ | (refine fMove ?_; refine frA (ok_move rfl) rfl ?_) | (refine fAssign ?_; refine frA (ok_assign rfl) rfl ?_) | (refine fLoad ?_; refine frA (ok_loadA rfl (by rfl)) rfl ?_) | (refine fAdd ?_; refine frA (ok_add rfl rfl (by omega) (by omega)) rfl ?_) | (refine fExtract ?_; refine frA (ok_extract rfl rfl) rfl ?_)) | (refine fr_stop ⟨by kernel_rfl, ?_⟩) | refine W_seq ?_ | refine W_region ?_ | refine W_regionD (by kernel_rfl) rfl ?_ | refine st_nil ?_ | refine tq_n ?_ | refine bq_n ?_ | refine W_skip ?_ | refine W_block ?_ | refine W_condTA rfl ?_ | refine W_condFA rfl ?_)
      exact ⟨rfl, i + 1, by omega, by omega, .same ⟨rfl, rfl, rfl, rfl, rfl, rfl, rfl, rfl, rfl, rfl, trivial⟩⟩
  · clear hrun
    repeat' (first | (refine gU ?_; first | (refine gMove ?_; refine st (ok_move rfl) rfl rfl ?_) | (refine gAssign ?_; refine st (ok_assign rfl) rfl rfl ?_) | (refine gLoad ?_; refine st (ok_loadA rfl (by rfl)) rfl rfl ?_) | (refine gAdd ?_; refine st (ok_add rfl rfl (by omega) (by omega)) rfl rfl ?_) | (refine gBin ?_; refine st (ok_bin rfl rfl rfl) rfl rfl ?_) | (refine gLen ?_; refine st (ok_len rfl) rfl rfl ?_) | (refine gPick ?_; refine st (ok_pickTA rfl rfl) rfl rfl ?_) | (refine gExtract ?_; refine st (ok_extract rfl rfl) rfl rfl ?_) | (refine gCall ?_; refine st (ok_call rfl rfl rfl (by first | exact hG | exact hK)) rfl rfl ?_)) | (refine gG ?_; first | (refine gMove ?_; refine stGA rfl (ok_move rfl) rfl rfl ?_) | (refine gBin ?_; first | refine stGA rfl (ok_eqBT (t := 4) Try.underlying4 rfl rfl (by exact decide_eq_decide.2 (by omega))) rfl rfl ?_ | refine stGA rfl (ok_bin rfl rfl rfl) rfl rfl ?_) | (refine gLen ?_; refine stGA rfl (ok_len rfl) rfl rfl ?_) | (refine gCall ?_; refine stGA rfl (ok_call rfl rfl rfl (by exact hwo _ rfl)) rfl rfl ?_)) | refine W_seq ?_ | refine W_region ?_ | refine st_nil ?_ | refine tq_n ?_ | refine tq_e ?_ | refine bq_hit rfl ?_ | refine W_skip ?_ | refine W_exit ?_ | refine W_ret ?_ | refine W_condFA rfl ?_)
    exact ret0 (.tmp rfl .nil) (.plain rfl rfl) ⟨rfl, rfl⟩
theorem db_safe (hwo : ∀ σ : Heap, σ.all (fun o => !isIter o) = true → Ev Try.prog 14 [] σ (.bool true) σ) (S : Shp) (B P W M : List Int) (g p : Nat) (pv wv lim : Int)
    (hgp : 1 + ((p : Nat) : Int).tmod 24 = (g : Int)) (hp1 : 0 ≤ ((p : Nat) : Int).tmod 24 ∧ ((p : Nat) : Int).tmod 24 < 24) (hp : p ≤ 255) (h1 : 1 ≤ g) (h24 : g ≤ 24) (hb1 : ¬ (B.length : Int) > 100) (pl1 : 1 ≤ P.length) (pl2 : P.length ≤ 100)
    (hfi : Ev Try.prog 39 [shV 0 1 2 S] [.ro (ints S.d), .ro (pc S.f), .ro (ints S.s), .ro (u8s B), .rw (shL 0 1 2 S)] (.bool true) [.ro (ints S.d), .ro (pc S.f), .ro (ints S.s), .ro (u8s B), .rw (shL 0 1 2 S)])
    (hA : Ev Try.prog 40 [shV 0 1 2 S, sl 3 B.length] [.ro (ints S.d), .ro (pc S.f), .ro (ints S.s), .ro (u8s B), .rw (shL 0 1 2 S)] (sl 5 P.length) [.ro (ints S.d), .ro (pc S.f), .ro (ints S.s), .ro (u8s B), .rw (shL 0 1 2 S), .rw (ints P)])
    (hB : Ev Try.prog 17 [shV 0 1 2 S, sl 5 P.length] [.ro (ints S.d), .ro (pc S.f), .ro (ints S.s), .ro (u8s B), .rw (shL 0 1 2 S), .rw (ints P)] (.tuple #[.int .i64 pv, .int .i64 0]) [.ro (ints S.d), .ro (pc S.f), .ro (ints S.s), .ro (u8s B), .rw (shL 0 1 2 S), .rw (ints P)])
    (hC : Ev Try.prog 18 [shV 0 1 2 S, sl 5 P.length] [.ro (ints S.d), .ro (pc S.f), .ro (ints S.s), .ro (u8s B), .rw (shL 0 1 2 S), .rw (ints P)] (.tuple #[.int .i64 pv, .int .i64 0]) [.ro (ints S.d), .ro (pc S.f), .ro (ints S.s), .ro (u8s B), .rw (shL 0 1 2 S), .rw (ints P)])
    (hD : Ev Try.prog 24 [shV 0 1 2 S, .int .i64 (g : Int)] [.ro (ints S.d), .ro (pc S.f), .ro (ints S.s), .ro (u8s B), .rw (shL 0 1 2 S), .rw (ints P)] (.tuple #[.int .i64 wv, sl 6 W.length, .int .i64 0]) [.ro (ints S.d), .ro (pc S.f), .ro (ints S.s), .ro (u8s B), .rw (shL 0 1 2 S), .rw (ints P), .rw (ints W)])
    (hE : Ev Try.prog 33 [shV 0 1 2 S, .int .i64 (g : Int), .int .i64 lim] [.ro (ints S.d), .ro (pc S.f), .ro (ints S.s), .ro (u8s B), .rw (shL 0 1 2 S), .rw (ints P), .rw (ints W)] (.int .i64 0) [.ro (ints S.d), .ro (pc S.f), .ro (ints S.s), .ro (u8s B), .rw (shL 0 1 2 S), .rw (ints P), .rw (ints W)])
    (hF : Ev Try.prog 31 [shV 0 1 2 S, .int .i64 (g : Int), .int .i64 lim] [.ro (ints S.d), .ro (pc S.f), .ro (ints S.s), .ro (u8s B), .rw (shL 0 1 2 S), .rw (ints P), .rw (ints W)] (.tuple #[sl 7 M.length, .int .i64 0]) [.ro (ints S.d), .ro (pc S.f), .ro (ints S.s), .ro (u8s B), .rw (shL 0 1 2 S), .rw (ints P), .rw (ints W), .rw (ints M)])
    (hG : Ev Try.prog 19 [shV 0 1 2 S, sl 6 W.length] [.ro (ints S.d), .ro (pc S.f), .ro (ints S.s), .ro (u8s B), .rw (shL 0 1 2 S), .rw (ints P), .rw (ints W), .rw (ints M)] (.tuple #[.int .i64 wv, .int .i64 0]) [.ro (ints S.d), .ro (pc S.f), .ro (ints S.s), .ro (u8s B), .rw (shL 0 1 2 S), .rw (ints P), .rw (ints W), .rw (ints M)])
    (hK : Ev Try.prog 20 [shV 0 1 2 S, sl 6 W.length] [.ro (ints S.d), .ro (pc S.f), .ro (ints S.s), .ro (u8s B), .rw (shL 0 1 2 S), .rw (ints P), .rw (ints W), .rw (ints M)] (.tuple #[.int .i64 wv, .int .i64 0]) [.ro (ints S.d), .ro (pc S.f), .ro (ints S.s), .ro (u8s B), .rw (shL 0 1 2 S), .rw (ints P), .rw (ints W), .rw (ints M)]) (hwl : W.length = g)
    (hrun : ∀ i, i + g ≤ P.length → ∃ n, n ≤ wv ∧ (lim < n → gi P i ∈ M) ∧ Ev Try.prog 19 [shV 0 1 2 S, .slice (some ⟨5, 0 + i * 1, none⟩) (i + g - i) (P.length - i)] [.ro (ints S.d), .ro (pc S.f), .ro (ints S.s), .ro (u8s B), .rw (shL 0 1 2 S), .rw (ints P), .rw (ints W), .rw (ints M)] (.tuple #[.int .i64 n, .int .i64 0]) [.ro (ints S.d), .ro (pc S.f), .ro (ints S.s), .ro (u8s B), .rw (shL 0 1 2 S), .rw (ints P), .rw (ints W), .rw (ints M)])
    (hlm : wv ≤ lim) (hM0 : (M.length : Int) = 0) :
    Ev Try.prog 8 [shV 0 1 2 S, sl 3 B.length, .int .u8 p, .int .i64 lim] [.ro (ints S.d), .ro (pc S.f), .ro (ints S.s), .ro (u8s B)] (.bool true) [.ro (ints S.d), .ro (pc S.f), .ro (ints S.s), .ro (u8s B)] := by
  refine acall_intro 4 220 Try.func8 rfl rfl rfl rfl rfl ?_
  repeat' (first | (refine gU ?_; first | (refine gMove ?_; refine st (ok_move rfl) rfl rfl ?_) | (refine gAssign ?_; refine st (ok_assign rfl) rfl rfl ?_) | (refine gLoad ?_; refine st (ok_loadA rfl (by rfl)) rfl rfl ?_) | (refine gAdd ?_; refine st (ok_add rfl rfl (by omega) (by omega)) rfl rfl ?_) | (refine gBin ?_; refine st (ok_rem rfl rfl (by omega)) rfl rfl ?_) | (refine gPick ?_; refine st (ok_pickFA rfl rfl) rfl rfl ?_) | (refine gNot ?_; refine st (ok_not' rfl) rfl rfl ?_) | (refine gExtract ?_; refine st (ok_extract rfl rfl) rfl rfl ?_) | (refine gConv ?_; refine st (ok_convK rfl (by omega) (by omega)) rfl rfl ?_) | (refine gCall ?_; refine st (ok_call rfl rfl rfl (by first | exact hfi | exact hA | exact hB | exact hC)) rfl rfl ?_) | (refine gBox ?_; refine st (ok_box rfl) rfl rfl ?_)) | (refine gG ?_; first | (refine gMove ?_; refine stGA rfl (ok_move rfl) rfl rfl ?_) | (refine gBin ?_; refine stGA rfl (ok_bin rfl rfl rfl) rfl rfl ?_) | (refine gLen ?_; refine stGA rfl (ok_len rfl) rfl rfl ?_)) | refine W_seq ?_ | refine W_region ?_ | refine st_nil ?_ | refine tq_n ?_ | refine W_skip ?_ | refine W_condFA rfl ?_)
  simp only [hgp]
  clear hgp hp1
  repeat' (first | (refine gU ?_; first | (refine gMove ?_; refine st (ok_move rfl) rfl rfl ?_) | (refine gAssign ?_; refine st (ok_assign rfl) rfl rfl ?_) | (refine gLoad ?_; refine st (ok_loadA rfl (by rfl)) rfl rfl ?_) | (refine gBin ?_; refine st (ok_bin rfl rfl rfl) rfl rfl ?_) | (refine gPick ?_; refine st (ok_pickFA rfl rfl) rfl rfl ?_) | (refine gExtract ?_; refine st (ok_extract rfl rfl) rfl rfl ?_) | (refine gCall ?_; refine st (ok_call rfl rfl rfl (by first | exact hD | exact hE | exact hF)) rfl rfl ?_)) | (refine gG ?_; first | (refine gMove ?_; refine stGA rfl (ok_move rfl) rfl rfl ?_) | (refine gBin ?_; first | refine stGA rfl (ok_neqBF (t := 4) Try.underlying4 rfl rfl (by exact decide_eq_decide.2 (by omega))) rfl rfl ?_ | refine stGA rfl (ok_bin rfl rfl rfl) rfl rfl ?_) | (refine gLen ?_; refine stGA rfl (ok_len rfl) rfl rfl ?_) | (refine gPick ?_; refine stGA rfl (ok_pickFA rfl rfl) rfl rfl ?_) | refine stSU rfl rfl ?_ | refine stSA rfl rfl ?_) | refine W_seq ?_ | refine W_region ?_ | refine st_nil ?_ | refine tq_n ?_ | refine W_skip ?_ | refine W_block ?_ | refine W_condFA rfl ?_)
  refine W_loopS (ι := Nat) (fun i => [(3, .int .i64 lim), (4, .pointer (some ⟨4, 0, none⟩)), (9, .int .i64 (g : Int)), (10, sl 5 P.length), (15, .int .i64 wv), (16, sl 6 W.length), (17, .int .i64 0), (18, .int .i64 0), (19, sl 7 M.length), (21, .int .i64 (i : Int))])
    (fun _ => [.ro (ints S.d), .ro (pc S.f), .ro (ints S.s), .ro (u8s B), .rw (shL 0 1 2 S), .rw (ints P), .rw (ints W), .rw (ints M)]) (fun i => P.length - i) (fun i => i ≤ P.length) 0 (by simp) (.same ⟨rfl, rfl, rfl, rfl, rfl, rfl, rfl, rfl, rfl, rfl, trivial⟩) (Nat.zero_le _) ?_
  clear hA hB hC hD hE hF
  intro i hi
  by_cases hil : (i : Int) + (g : Int) ≤ P.length
  · clear hG hK hwo
    have hih : i + g ≤ P.length := by omega
    obtain ⟨n, q3, q4, hR⟩ := hrun i hih
    have hc1 : cellGet [.ro (ints S.d), .ro (pc S.f), .ro (ints S.s), .ro (u8s B), .rw (shL 0 1 2 S), .rw (ints P), .rw (ints W), .rw (ints M)] 5 i = some (.int .i64 (gi P i)) := ints_get (by omega)
    have hc2 : cellGet [.ro (ints S.d), .ro (pc S.f), .ro (ints S.s), .ro (u8s B), .rw (shL 0 1 2 S), .rw (ints P), .rw (ints W), .rw (ints M)] 5 (0 + i * 1) = some (.int .i64 (gi P i)) := by rw [Nat.zero_add, Nat.mul_one]; exact hc1
    clear hrun
    have hn : ¬ n > lim := by omega
    clear q4
    repeat' (first | (refine gU ?_; first | (refine gMove ?_; refine st (ok_move rfl) rfl rfl ?_) | (refine gAssign ?_; refine st (ok_assign rfl) rfl rfl ?_) | (refine gAdd ?_; first | refine st (ok_inc rfl rfl (by omega)) rfl rfl ?_ | refine st (ok_add rfl rfl (by omega) (by omega)) rfl rfl ?_) | (refine gBin ?_; refine st (ok_bin rfl rfl rfl) rfl rfl ?_) | (refine gLen ?_; refine st (ok_len rfl) rfl rfl ?_) | (refine gPick ?_; refine st (ok_pickFA rfl rfl) rfl rfl ?_)) | (refine gG ?_; first | (refine gMove ?_; refine stGA rfl (ok_move rfl) rfl rfl ?_) | (refine gBin ?_; refine stGA rfl (ok_bin rfl rfl rfl) rfl rfl ?_) | (refine gPick ?_; first | refine stGA rfl (ok_pickTA rfl rfl) rfl rfl ?_ | refine stGA rfl (ok_pickFA rfl rfl) rfl rfl ?_) | refine stSA rfl rfl ?_) | (refine fU ?_; first | refine frA (ok_call rfl rfl rfl hR) rfl ?_ | refine frA (ok_sliceLH (l := i) (h := i + g) rfl rfl rfl (by omega) (by omega)) rfl ?_ | (refine fMove ?_; refine frA (ok_move rfl) rfl ?_) | (refine fAssign ?_; refine frA (ok_assign rfl) rfl ?_) | (refine fLoad ?_; refine frA (ok_loadA rfl (by rfl)) rfl ?_) | (refine fAdd ?_; refine frA (ok_add rfl rfl (by omega) (by omega)) rfl ?_) | (refine fExtract ?_; refine frA (ok_extract rfl rfl) rfl ?_)) | (refine fr_stop ⟨by kernel_rfl, ?_⟩) | refine W_seq ?_ | refine W_region ?_ | refine W_regionD (by kernel_rfl) rfl ?_ | refine st_nil ?_ | refine tq_n ?_ | refine bq_n ?_ | refine W_skip ?_ | refine W_block ?_ | refine W_condTA rfl ?_ | refine W_condFA rfl ?_)
    exact ⟨rfl, i + 1, by omega, by omega, .same ⟨rfl, rfl, rfl, rfl, rfl, rfl, rfl, rfl, rfl, rfl, trivial⟩⟩
  · clear hrun
    repeat' (first | (refine gU ?_; first | (refine gMove ?_; refine st (ok_move rfl) rfl rfl ?_) | (refine gAssign ?_; refine st (ok_assign rfl) rfl rfl ?_) | (refine gLoad ?_; refine st (ok_loadA rfl (by rfl)) rfl rfl ?_) | (refine gAdd ?_; refine st (ok_add rfl rfl (by omega) (by omega)) rfl rfl ?_) | (refine gBin ?_; refine st (ok_bin rfl rfl rfl) rfl rfl ?_) | (refine gLen ?_; refine st (ok_len rfl) rfl rfl ?_) | (refine gPick ?_; refine st (ok_pickTA rfl rfl) rfl rfl ?_) | (refine gExtract ?_; refine st (ok_extract rfl rfl) rfl rfl ?_) | (refine gCall ?_; refine st (ok_call rfl rfl rfl (by first | exact hG | exact hK)) rfl rfl ?_)) | (refine gG ?_; first | (refine gMove ?_; refine stGA rfl (ok_move rfl) rfl rfl ?_) | (refine gBin ?_; first | refine stGA rfl (ok_eqBT (t := 4) Try.underlying4 rfl rfl (by exact decide_eq_decide.2 (by omega))) rfl rfl ?_ | refine stGA rfl (ok_bin rfl rfl rfl) rfl rfl ?_) | (refine gLen ?_; refine stGA rfl (ok_len rfl) rfl rfl ?_) | (refine gCall ?_; refine stGA rfl (ok_call rfl rfl rfl (by exact hwo _ rfl)) rfl rfl ?_)) | refine W_seq ?_ | refine W_region ?_ | refine st_nil ?_ | refine tq_n ?_ | refine tq_e ?_ | refine bq_hit rfl ?_ | refine W_skip ?_ | refine W_exit ?_ | refine W_ret ?_ | refine W_condFA rfl ?_)
    exact ret0 (.tmp rfl .nil) (.plain rfl rfl) ⟨rfl, rfl⟩
theorem db_none (hwo : ∀ σ : Heap, σ.all (fun o => !isIter o) = true → Ev Try.prog 14 [] σ (.bool true) σ) (S : Shp) (B P W M : List Int) (g p : Nat) (pv wv lim : Int)
    (hgp : 1 + ((p : Nat) : Int).tmod 24 = (g : Int)) (hp1 : 0 ≤ ((p : Nat) : Int).tmod 24 ∧ ((p : Nat) : Int).tmod 24 < 24) (hp : p ≤ 255) (h1 : 1 ≤ g) (h24 : g ≤ 24) (hb1 : ¬ (B.length : Int) > 100) (pl1 : 1 ≤ P.length) (pl2 : P.length ≤ 100)
    (hfi : Ev Try.prog 39 [shV 0 1 2 S] [.ro (ints S.d), .ro (pc S.f), .ro (ints S.s), .ro (u8s B), .rw (shL 0 1 2 S)] (.bool true) [.ro (ints S.d), .ro (pc S.f), .ro (ints S.s), .ro (u8s B), .rw (shL 0 1 2 S)])
    (hA : Ev Try.prog 40 [shV 0 1 2 S, sl 3 B.length] [.ro (ints S.d), .ro (pc S.f), .ro (ints S.s), .ro (u8s B), .rw (shL 0 1 2 S)] (sl 5 P.length) [.ro (ints S.d), .ro (pc S.f), .ro (ints S.s), .ro (u8s B), .rw (shL 0 1 2 S), .rw (ints P)])
    (hB : Ev Try.prog 17 [shV 0 1 2 S, sl 5 P.length] [.ro (ints S.d), .ro (pc S.f), .ro (ints S.s), .ro (u8s B), .rw (shL 0 1 2 S), .rw (ints P)] (.tuple #[.int .i64 pv, .int .i64 0]) [.ro (ints S.d), .ro (pc S.f), .ro (ints S.s), .ro (u8s B), .rw (shL 0 1 2 S), .rw (ints P)])
    (hC : Ev Try.prog 18 [shV 0 1 2 S, sl 5 P.length] [.ro (ints S.d), .ro (pc S.f), .ro (ints S.s), .ro (u8s B), .rw (shL 0 1 2 S), .rw (ints P)] (.tuple #[.int .i64 pv, .int .i64 0]) [.ro (ints S.d), .ro (pc S.f), .ro (ints S.s), .ro (u8s B), .rw (shL 0 1 2 S), .rw (ints P)])
    (hD : Ev Try.prog 24 [shV 0 1 2 S, .int .i64 (g : Int)] [.ro (ints S.d), .ro (pc S.f), .ro (ints S.s), .ro (u8s B), .rw (shL 0 1 2 S), .rw (ints P)] (.tuple #[.int .i64 wv, sl 6 W.length, .int .i64 5]) [.ro (ints S.d), .ro (pc S.f), .ro (ints S.s), .ro (u8s B), .rw (shL 0 1 2 S), .rw (ints P), .rw (ints W)])
    (hE : Ev Try.prog 33 [shV 0 1 2 S, .int .i64 (g : Int), .int .i64 lim] [.ro (ints S.d), .ro (pc S.f), .ro (ints S.s), .ro (u8s B), .rw (shL 0 1 2 S), .rw (ints P), .rw (ints W)] (.int .i64 0) [.ro (ints S.d), .ro (pc S.f), .ro (ints S.s), .ro (u8s B), .rw (shL 0 1 2 S), .rw (ints P), .rw (ints W)])
    (hF : Ev Try.prog 31 [shV 0 1 2 S, .int .i64 (g : Int), .int .i64 lim] [.ro (ints S.d), .ro (pc S.f), .ro (ints S.s), .ro (u8s B), .rw (shL 0 1 2 S), .rw (ints P), .rw (ints W)] (.tuple #[sl 7 M.length, .int .i64 0]) [.ro (ints S.d), .ro (pc S.f), .ro (ints S.s), .ro (u8s B), .rw (shL 0 1 2 S), .rw (ints P), .rw (ints W), .rw (ints M)])
    (hPh : ¬ (P.length : Int) ≥ (g : Int)) (hM0 : (M.length : Int) = 0) :
    Ev Try.prog 8 [shV 0 1 2 S, sl 3 B.length, .int .u8 p, .int .i64 lim] [.ro (ints S.d), .ro (pc S.f), .ro (ints S.s), .ro (u8s B)] (.bool true) [.ro (ints S.d), .ro (pc S.f), .ro (ints S.s), .ro (u8s B)] := by
  refine acall_intro 4 220 Try.func8 rfl rfl rfl rfl rfl ?_
  repeat' (first | (refine gU ?_; first | (refine gMove ?_; refine st (ok_move rfl) rfl rfl ?_) | (refine gAssign ?_; refine st (ok_assign rfl) rfl rfl ?_) | (refine gLoad ?_; refine st (ok_loadA rfl (by rfl)) rfl rfl ?_) | (refine gAdd ?_; refine st (ok_add rfl rfl (by omega) (by omega)) rfl rfl ?_) | (refine gBin ?_; refine st (ok_rem rfl rfl (by omega)) rfl rfl ?_) | (refine gPick ?_; refine st (ok_pickFA rfl rfl) rfl rfl ?_) | (refine gNot ?_; refine st (ok_not' rfl) rfl rfl ?_) | (refine gExtract ?_; refine st (ok_extract rfl rfl) rfl rfl ?_) | (refine gConv ?_; refine st (ok_convK rfl (by omega) (by omega)) rfl rfl ?_) | (refine gCall ?_; refine st (ok_call rfl rfl rfl (by first | exact hfi | exact hA | exact hB | exact hC)) rfl rfl ?_) | (refine gBox ?_; refine st (ok_box rfl) rfl rfl ?_)) | (refine gG ?_; first | (refine gMove ?_; refine stGA rfl (ok_move rfl) rfl rfl ?_) | (refine gBin ?_; refine stGA rfl (ok_bin rfl rfl rfl) rfl rfl ?_) | (refine gLen ?_; refine stGA rfl (ok_len rfl) rfl rfl ?_)) | refine W_seq ?_ | refine W_region ?_ | refine st_nil ?_ | refine tq_n ?_ | refine W_skip ?_ | refine W_condFA rfl ?_)
  simp only [hgp]
  clear hgp hp1
  repeat' (first | (refine gU ?_; first | (refine gMove ?_; refine st (ok_move rfl) rfl rfl ?_) | (refine gAssign ?_; refine st (ok_assign rfl) rfl rfl ?_) | (refine gLoad ?_; refine st (ok_loadA rfl (by rfl)) rfl rfl ?_) | (refine gBin ?_; refine st (ok_bin rfl rfl rfl) rfl rfl ?_) | (refine gPick ?_; refine st (ok_pickFA rfl rfl) rfl rfl ?_) | (refine gExtract ?_; refine st (ok_extract rfl rfl) rfl rfl ?_) | (refine gCall ?_; refine st (ok_call rfl rfl rfl (by first | exact hD | exact hE | exact hF)) rfl rfl ?_)) | (refine gG ?_; first | (refine gMove ?_; refine stGA rfl (ok_move rfl) rfl rfl ?_) | (refine gBin ?_; first | refine stGA rfl (ok_neqBF (t := 4) Try.underlying4 rfl rfl (by exact decide_eq_decide.2 (by omega))) rfl rfl ?_ | refine stGA rfl (ok_bin rfl rfl rfl) rfl rfl ?_) | (refine gLen ?_; refine stGA rfl (ok_len rfl) rfl rfl ?_) | (refine gPick ?_; first | refine stGA rfl (ok_pickTA rfl rfl) rfl rfl ?_ | refine stGA rfl (ok_pickFA rfl rfl) rfl rfl ?_) | refine stSA rfl rfl ?_) | refine W_seq ?_ | refine W_region ?_ | refine st_nil ?_ | refine tq_n ?_ | refine W_skip ?_ | refine W_block ?_ | refine W_condFA rfl ?_)
  refine W_loopS (ι := Nat) (fun i => [(3, .int .i64 lim), (4, .pointer (some ⟨4, 0, none⟩)), (9, .int .i64 (g : Int)), (10, sl 5 P.length), (15, .int .i64 wv), (16, sl 6 W.length), (17, .int .i64 5), (18, .int .i64 0), (19, sl 7 M.length), (21, .int .i64 (i : Int))])
    (fun _ => [.ro (ints S.d), .ro (pc S.f), .ro (ints S.s), .ro (u8s B), .rw (shL 0 1 2 S), .rw (ints P), .rw (ints W), .rw (ints M)]) (fun i => P.length - i) (fun i => i ≤ P.length) 0 (by simp) (.same ⟨rfl, rfl, rfl, rfl, rfl, rfl, rfl, rfl, rfl, rfl, trivial⟩) (Nat.zero_le _) ?_
  clear hA hB hC hD hE hF
  intro i hi
  have hih : ¬ (i : Int) + (g : Int) ≤ P.length := by omega
  repeat' (first | (refine gU ?_; first | (refine gMove ?_; refine st (ok_move rfl) rfl rfl ?_) | (refine gAssign ?_; refine st (ok_assign rfl) rfl rfl ?_) | (refine gAdd ?_; refine st (ok_add rfl rfl (by omega) (by omega)) rfl rfl ?_) | (refine gBin ?_; refine st (ok_bin rfl rfl rfl) rfl rfl ?_) | (refine gLen ?_; refine st (ok_len rfl) rfl rfl ?_) | (refine gCall ?_; refine st (ok_call rfl rfl rfl (by exact hwo _ rfl)) rfl rfl ?_)) | refine W_seq ?_ | refine W_region ?_ | refine st_nil ?_ | refine tq_n ?_ | refine tq_r ?_ | refine tq_e ?_ | refine bq_hit rfl ?_ | refine W_exit ?_ | refine W_ret ?_ | refine W_condTA rfl ?_ | refine W_condFA rfl ?_)
  exact ret0 (.tmp rfl .nil) (.plain rfl rfl) ⟨rfl, rfl⟩
theorem dustBreathed_own (hwo : ∀ σ : Heap, σ.all (fun o => !isIter o) = true → Ev Try.prog 14 [] σ (.bool true) σ) (S : Shp) (hS : S.fit) (B : List Int) (hBb : ∀ b ∈ B, 0 ≤ b ∧ b ≤ 255) (hN : B.length ≤ 9223372036854775807) (p : Nat) (hp : p ≤ 255) (lim : Int) :
    Ev Try.prog 8 [shV 0 1 2 S, sl 3 B.length, .int .u8 p, .int .i64 lim] [.ro (ints S.d), .ro (pc S.f), .ro (ints S.s), .ro (u8s B)] (.bool true) [.ro (ints S.d), .ro (pc S.f), .ro (ints S.s), .ro (u8s B)] := by
  have hfi := fine39_ev (σ := [.ro (ints S.d), .ro (pc S.f), .ro (ints S.s), .ro (u8s B), .rw (shL 0 1 2 S)]) (S := S) (x := 0) (y := 1) (z := 2) ⟨.inl rfl, .inl rfl, .inl rfl⟩ shS_self hS rfl
  by_cases h0 : shopE S = 0
  · rw [decide_eq_true h0] at hfi
    by_cases hb1 : (B.length : Int) > 100
    · refine acall_intro 4 220 Try.func8 rfl rfl rfl rfl rfl ?_
      repeat' (first | (refine gU ?_; first | (refine gMove ?_; refine st (ok_move rfl) rfl rfl ?_) | (refine gAssign ?_; refine st (ok_assign rfl) rfl rfl ?_) | (refine gLoad ?_; refine st (ok_loadA rfl (by rfl)) rfl rfl ?_) | (refine gPick ?_; refine st (ok_pickFA rfl rfl) rfl rfl ?_) | (refine gNot ?_; refine st (ok_not' rfl) rfl rfl ?_) | (refine gCall ?_; refine st (ok_call rfl rfl rfl (by first | exact hfi | exact hwo _ rfl)) rfl rfl ?_) | (refine gBox ?_; refine st (ok_box rfl) rfl rfl ?_)) | (refine gG ?_; first | (refine gMove ?_; refine stGA rfl (ok_move rfl) rfl rfl ?_) | (refine gBin ?_; refine stGA rfl (ok_bin rfl rfl rfl) rfl rfl ?_) | (refine gLen ?_; refine stGA rfl (ok_len rfl) rfl rfl ?_)) | refine W_seq ?_ | refine W_region ?_ | refine st_nil ?_ | refine tq_n ?_ | refine tq_r ?_ | refine W_ret ?_ | refine W_condTA rfl ?_)
      all_goals exact ret0 (.tmp rfl .nil) (.plain rfl rfl) ⟨rfl, rfl⟩
    have e1 : ((p : Nat) : Int).tmod 24 = ((p % 24 : Nat) : Int) := rfl
    have hp1 : 0 ≤ ((p : Nat) : Int).tmod 24 ∧ ((p : Nat) : Int).tmod 24 < 24 := by rw [e1]; omega
    have hA := plan40_ev (σ := [.ro (ints S.d), .ro (pc S.f), .ro (ints S.s), .ro (u8s B), .rw (shL 0 1 2 S)]) (S := S) (B := B) (x := 0) (y := 1) (z := 2) (w := 3) ⟨.inl rfl, .inl rfl, .inl rfl⟩ shS_self (.inl rfl) ls_self (shopE_zero h0) hBb hN rfl
    obtain ⟨pE, pl1, pl2⟩ := planL_ok h0 B
    generalize planL S B = P at *
    obtain ⟨g, hgp⟩ : ∃ g : Nat, 1 + ((p : Nat) : Int).tmod 24 = (g : Int) := ⟨1 + p % 24, by rw [e1]; omega⟩
    have h1 : 1 ≤ g := by omega
    have h24 : g ≤ 24 := by omega
    have hB := plan_ev (σ := [.ro (ints S.d), .ro (pc S.f), .ro (ints S.s), .ro (u8s B), .rw (shL 0 1 2 S), .rw (ints P)]) (S := S) (l := P) (x := 0) (y := 1) (z := 2) (w := 5) ⟨.inl rfl, .inl rfl, .inl rfl⟩ shS_self (.inr (.inl rfl)) ls_self hS (by omega) rfl
    have hC := refPlan_ev (σ := [.ro (ints S.d), .ro (pc S.f), .ro (ints S.s), .ro (u8s B), .rw (shL 0 1 2 S), .rw (ints P)]) (S := S) (l := P) (x := 0) (y := 1) (z := 2) (w := 5) ⟨.inl rfl, .inl rfl, .inl rfl⟩ shS_self (.inr (.inl rfl)) ls_self hS (by omega) rfl
    have hD := window_ev (σ := [.ro (ints S.d), .ro (pc S.f), .ro (ints S.s), .ro (u8s B), .rw (shL 0 1 2 S), .rw (ints P)]) (S := S) (h := (g : Int)) (x := 0) (y := 1) (z := 2) ⟨.inl rfl, .inl rfl, .inl rfl⟩ shS_self hS rfl
    have hE := safe33_ev (σ := [.ro (ints S.d), .ro (pc S.f), .ro (ints S.s), .ro (u8s B), .rw (shL 0 1 2 S), .rw (ints P), .rw (ints (winL S (g : Int)))]) (S := S) (h := (g : Int)) (lim := lim) (x := 0) (y := 1) (z := 2) ⟨.inl rfl, .inl rfl, .inl rfl⟩ shS_self hS rfl
    have hF := begins31_ev (σ := [.ro (ints S.d), .ro (pc S.f), .ro (ints S.s), .ro (u8s B), .rw (shL 0 1 2 S), .rw (ints P), .rw (ints (winL S (g : Int)))]) (S := S) (h := (g : Int)) (lim := lim) (x := 0) (y := 1) (z := 2) ⟨.inl rfl, .inl rfl, .inl rfl⟩ shS_self hS rfl
    have hcl := clock0 h0 (show (1 : Int) ≤ (g : Int) by omega) (by omega)
    have hpart := fun i (hi : i + g ≤ P.length) => plan_part pE (show (1 : Int) ≤ (g : Int) by omega) (by omega) (by rw [Int.toNat_natCast]; exact hi) lim
    simp only [Int.toNat_natCast] at hpart
    have hMl := begL_le (S := S) (h := (g : Int)) (lim := lim)
    have hsf : safeE S (g : Int) lim = if (begL S (g : Int) lim).length > 0 then 23 else 0 := by unfold safeE; rw [if_neg (fun x => x hcl)]
    rw [hcl] at hF
    rw [pE] at hB hC
    rw [hsf] at hE
    clear hsf
    by_cases hwe : winE S (g : Int) = 0
    · have hG := run_ev (σ := [.ro (ints S.d), .ro (pc S.f), .ro (ints S.s), .ro (u8s B), .rw (shL 0 1 2 S), .rw (ints P), .rw (ints (winL S (g : Int))), .rw (ints (begL S (g : Int) lim))]) (S := S) (l := winL S (g : Int)) (x := 0) (y := 1) (z := 2) (w := 6) ⟨.inl rfl, .inl rfl, .inl rfl⟩ shS_self (.inr (.inl rfl)) ls_self hS
      have hK := refRun_ev (σ := [.ro (ints S.d), .ro (pc S.f), .ro (ints S.s), .ro (u8s B), .rw (shL 0 1 2 S), .rw (ints P), .rw (ints (winL S (g : Int))), .rw (ints (begL S (g : Int) lim))]) (S := S) (l := winL S (g : Int)) (x := 0) (y := 1) (z := 2) (w := 6) ⟨.inl rfl, .inl rfl, .inl rfl⟩ shS_self (.inr (.inl rfl)) ls_self hS
      obtain ⟨r1, r2, r3, r4, r5⟩ := win_run hwe
      replace hG := hG (by omega) rfl
      replace hK := hK (by omega) rfl
      rw [r1, r2] at hG hK
      have hbw := beg_win (S := S) (h := (g : Int)) (lim := lim) hwe
      rw [hwe] at hD
      have hrun : ∀ i, i + g ≤ P.length → ∃ n, n ≤ winV S (g : Int) ∧ (lim < n → gi P i ∈ begL S (g : Int) lim) ∧ Ev Try.prog 19 [shV 0 1 2 S, .slice (some ⟨5, 0 + i * 1, none⟩) (i + g - i) (P.length - i)] [.ro (ints S.d), .ro (pc S.f), .ro (ints S.s), .ro (u8s B), .rw (shL 0 1 2 S), .rw (ints P), .rw (ints (winL S (g : Int))), .rw (ints (begL S (g : Int) lim))] (.tuple #[.int .i64 n, .int .i64 0]) [.ro (ints S.d), .ro (pc S.f), .ro (ints S.s), .ro (u8s B), .rw (shL 0 1 2 S), .rw (ints P), .rw (ints (winL S (g : Int))), .rw (ints (begL S (g : Int) lim))] := fun i hi => by
        obtain ⟨q1, q2, q3, q4⟩ := hpart i hi
        have := runP_ev (σ := [.ro (ints S.d), .ro (pc S.f), .ro (ints S.s), .ro (u8s B), .rw (shL 0 1 2 S), .rw (ints P), .rw (ints (winL S (g : Int))), .rw (ints (begL S (g : Int) lim))]) (S := S) (l := prt P i g) (x := 0) (y := 1) (z := 2) (w := 5) (o := i) (v := shV 0 1 2 S) (u := .slice (some ⟨5, 0 + i * 1, none⟩) (i + g - i) (P.length - i)) ⟨.inl rfl, .inl rfl, .inl rfl⟩ shS_self (prt_at (.inr (.inl rfl)) hi) (by rw [prt_len hi, Nat.zero_add, Nat.mul_one, Nat.add_sub_cancel_left]; exact ps_sl (by omega)) hS (by rw [prt_len hi]; omega) rfl
        rw [q1] at this
        exact ⟨_, q3, q4, this⟩
      by_cases hM : (begL S (g : Int) lim).length > 0
      · rw [if_pos hM] at hE
        exact db_over hwo S B P _ _ g p _ _ lim hgp hp1 hp h1 h24 hb1 pl1 pl2 hfi hA hB hC hD hE hF hG hK (by omega) hrun (fun hle => by have := hbw.2 hle; omega) (by omega) hMl
      · rw [if_neg hM] at hE
        exact db_safe hwo S B P _ _ g p _ _ lim hgp hp1 hp h1 h24 hb1 pl1 pl2 hfi hA hB hC hD hE hF hG hK (by omega) hrun (hbw.1 (by omega)) (by omega)
    · obtain ⟨w1, w2⟩ := win_none (S := S) (h := (g : Int)) (lim := lim) hcl hwe
      rw [w1] at hD
      rw [if_neg (by rw [w2]; simp)] at hE
      exact db_none hwo S B P _ _ g p _ _ lim hgp hp1 hp h1 h24 hb1 pl1 pl2 hfi hA hB hC hD hE hF (fun hge => hwe (hpart 0 (by omega)).2.1) (by rw [w2]; rfl)
  · rw [decide_eq_false h0] at hfi
    refine acall_intro 4 220 Try.func8 rfl rfl rfl rfl rfl ?_
    repeat' (first | (refine gU ?_; first | (refine gMove ?_; refine st (ok_move rfl) rfl rfl ?_) | (refine gAssign ?_; refine st (ok_assign rfl) rfl rfl ?_) | (refine gLoad ?_; refine st (ok_loadA rfl (by rfl)) rfl rfl ?_) | (refine gPick ?_; refine st (ok_pickTA rfl rfl) rfl rfl ?_) | (refine gNot ?_; refine st (ok_not' rfl) rfl rfl ?_) | (refine gCall ?_; refine st (ok_call rfl rfl rfl (by first | exact hfi | exact hwo _ rfl)) rfl rfl ?_) | (refine gBox ?_; refine st (ok_box rfl) rfl rfl ?_)) | (refine gG ?_; refine stSA rfl rfl ?_) | refine W_seq ?_ | refine W_region ?_ | refine st_nil ?_ | refine tq_n ?_ | refine tq_r ?_ | refine W_ret ?_ | refine W_condTA rfl ?_)
    all_goals exact ret0 (.tmp rfl .nil) (.plain rfl rfl) ⟨rfl, rfl⟩
theorem dustBreathed_law (S : Shp) (hS : S.fit) (B : List Int) (hB : ∀ b ∈ B, 0 ≤ b ∧ b ≤ 255) (hN : B.length ≤ 9223372036854775807) (p : Int) (hp0 : 0 ≤ p) (hp : p ≤ 255) (lim : Int) :
    Ev Try.prog 8 [shV 0 1 2 S, sl 3 B.length, .int .u8 p, .int .i64 lim] [.ro (ints S.d), .ro (pc S.f), .ro (ints S.s), .ro (u8s B)] (.bool true) [.ro (ints S.d), .ro (pc S.f), .ro (ints S.s), .ro (u8s B)] := by
  obtain ⟨a, rfl⟩ : ∃ a : Nat, p = (a : Int) := ⟨p.toNat, by omega⟩
  exact dustBreathed_own (fun _ h => works_ev h) S hS B hB hN a (by omega) lim
end Go.Proofs.Ytomioaiojidnbaa
namespace Go.AH
open Go Go.RowKit Go.WideShapes Go.ChangeShapes
section
variable {H : Type} {enc : TypeId × Value → H} {P : Program} {W : World}
theorem wf64 {n : Int} (h : (Lit.int .i64 n).wf = true) : -9223372036854775808 ≤ n ∧ n ≤ 9223372036854775807 := by
  simp only [Lit.wf, Bool.and_eq_true, decide_eq_true_eq] at h
  exact h
def cellsI (l : List Int) : List Value := l.map (.int .i64)
structure SlArg (W : World) (v : Value) (n size : Nat) (cs : List Value) (pl : Pl) : Prop where
  len : n ≤ 9223372036854775807
  rel : ∀ (m : Nat) (ρ : Rho) (i : Nat), i < m → ρ i = pl → VRel m ρ (.slice (some ⟨i, 0, none⟩) n n) v
  sz : cs.length = n * size
  cells : cs ≠ [] → pl.b < W.heap.size ∧ ∀ (k : Nat) (h : k < cs.length), W.cell? ⟨pl.b, pl.o + k, none⟩ = some cs[k]
theorem cell_lt {w : World} {a : Addr} {v : Value} (h : w.cell? a = some v) : a.block < w.heap.size ∧ a.spot = none := by
  unfold World.cell? at h
  split at h
  · rename_i hb
    refine ⟨(Array.getElem?_eq_some_iff.1 hb).1, ?_⟩
    split at h
    · cases h
    · rename_i hs; simpa using hs
  · cases h
theorem SlArg.hro {v : Value} {n size : Nat} {cs : List Value} {pl : Pl} (h : SlArg W v n size cs pl) (hp : plainL cs = true) (ρ : Rho) (i m : Nat) (hρ : ρ i = pl) (hne : cs ≠ []) :
    (ρ i).b < W.heap.size ∧ ∀ (k : Nat) (hk : k < cs.length), ∃ v', W.cell? ⟨(ρ i).b, (ρ i).o + k, none⟩ = some v' ∧ VRel m ρ cs[k] v' := by
  rw [hρ]
  obtain ⟨h1, h2⟩ := h.cells hne
  exact ⟨h1, fun k hk => ⟨_, h2 k hk, vrel_plainL cs hp k hk⟩⟩
theorem read_int {b0 : Nat} {t : TypeId} {v : Value} {d : DataW H} {p : List MemPlace} (ht : P.underlying t = some (.int .i64)) (hval : Value.okWide P W .any b0 t v)
    (h : DataW.Trod enc P W 0 (fun _ => true) true t v d p) : ∃ n : Int, v = .int .i64 n ∧ -9223372036854775808 ≤ n ∧ n ≤ 9223372036854775807 := by
  obtain ⟨n, rfl, _, _, wn⟩ := open_int ht hval h
  exact ⟨n, rfl, wf64 wn⟩
end
end Go.AH
namespace Go.AH
open Go Go.RowKit Go.WideShapes Go.ChangeShapes
section
variable {H : Type} {enc : TypeId × Value → H} {P : Program} {w : World} {base : Nat} {spare : Nat → Bool} {held : Bool}
theorem trodAll_n4 {t t' t'' t3 : TypeId} {args : Array Value} {ds : List (DataW H)} {ps : List MemPlace} (h : DataW.TrodAll enc P w base spare held [t, t', t'', t3] args.toList ds ps) :
    ∃ v v' v'' v3 d d' d'' d3 p p' p'' p3, args = #[v, v', v'', v3] ∧ ds = [d, d', d'', d3] ∧ ps = p ++ p' ++ p'' ++ p3 ∧ DataW.Trod enc P w base spare held t v d p ∧ DataW.Trod enc P w base spare held t' v' d' p' ∧ DataW.Trod enc P w base spare held t'' v'' d'' p'' ∧ DataW.Trod enc P w base spare held t3 v3 d3 p3 := by
  obtain ⟨v, vs, d, ds', p, q, hargs, rfl, rfl, hd, hrest⟩ := trodAll_cons h
  obtain ⟨v', vs', d', ds'', p', q', rfl, rfl, rfl, hd', hrest'⟩ := trodAll_cons hrest
  obtain ⟨v'', vs'', d'', ds''', p'', q'', rfl, rfl, rfl, hd'', hrest''⟩ := trodAll_cons hrest'
  obtain ⟨v3, vs3, d3, ds3, p3, q3, rfl, rfl, rfl, hd3, hrest3⟩ := trodAll_cons hrest''
  obtain ⟨rfl, rfl, rfl⟩ := trodAll_nil hrest3
  exact ⟨v, v', v'', v3, d, d', d'', d3, p, p', p'', p3, by cases args; simp_all, rfl, by simp, hd, hd', hd'', hd3⟩
theorem trodAll_mkn4 {t t' t'' t3 : TypeId} {v v' v'' v3 : Value} {d d' d'' d3 : DataW H} {p p' p'' p3 : List MemPlace} (h : DataW.Trod enc P w base spare held t v d p) (h' : DataW.Trod enc P w base spare held t' v' d' p')
    (h'' : DataW.Trod enc P w base spare held t'' v'' d'' p'') (h3 : DataW.Trod enc P w base spare held t3 v3 d3 p3) : DataW.TrodAll enc P w base spare held [t, t', t'', t3] [v, v', v'', v3] [d, d', d'', d3] (p ++ (p' ++ (p'' ++ p3))) := ⟨p, p' ++ (p'' ++ p3), h, trodAll_mk3 h' h'' h3, rfl⟩
end
section
variable {H : Type} {enc : TypeId × Value → H} {P : Program} {W : World}
theorem read_u8 {b0 : Nat} {t : TypeId} {v : Value} {d : DataW H} {p : List MemPlace} (ht : P.underlying t = some (.int .u8)) (hval : Value.okWide P W .any b0 t v)
    (h : DataW.Trod enc P W 0 (fun _ => true) true t v d p) : ∃ n : Int, v = .int .u8 n ∧ 0 ≤ n ∧ n ≤ 255 := by
  obtain ⟨n, rfl, _, _, wn⟩ := open_int ht hval h
  simp only [Lit.wf, Bool.and_eq_true, decide_eq_true_eq] at wn
  exact ⟨n, rfl, wn⟩
end
end Go.AH
namespace Go.AH
open Go Go.RowKit Go.WideShapes Go.ChangeShapes
section
variable {H : Type} {enc : TypeId × Value → H} {P : Program} {w : World} {base : Nat} {spare : Nat → Bool} {held : Bool}
end
end Go.AH
namespace Go.AH
open Go Go.RowKit Go.WideShapes Go.ChangeShapes
section
variable {H : Type} {enc : TypeId × Value → H} {P : Program} {w : World} {base : Nat} {spare : Nat → Bool} {held : Bool}
end
section
variable {H : Type} {enc : TypeId × Value → H} {P : Program} {W : World}
end
end Go.AH
namespace Go.Proofs.Ytomioaiojidnbaa
open Go Go.AH Go.RowKit Go.WideShapes Go.ChangeShapes Go.AH.Dust
theorem add_cell {b o k : Nat} : (⟨b, o, none⟩ : Addr).add k = ⟨b, o + k, none⟩ := by
  unfold Addr.add
  split
  · rename_i h; subst h; rfl
  · rfl
theorem listP_of {Q : Nat → Int × Int → Prop} {n : Nat} (h : ∀ i < n, ∃ p, Q i p) : ∃ l : List (Int × Int), l.length = n ∧ ∀ i < n, Q i (gf l i) := by
  induction n with
  | zero => exact ⟨[], rfl, fun i hi => by omega⟩
  | succ n ih =>
    obtain ⟨l, h1, h2⟩ := ih fun i hi => h i (by omega)
    obtain ⟨p, hp⟩ := h n (by omega)
    refine ⟨l ++ [p], by simp [h1], fun i hi => ?_⟩
    by_cases hin : i < n
    · have : gf (l ++ [p]) i = gf l i := by simp only [gf, List.getD_eq_getElem?_getD]; rw [List.getElem?_append_left (by omega)]
      rw [this]; exact h2 i hin
    · obtain rfl : i = n := by omega
      have : gf (l ++ [p]) i = p := by simp only [gf, List.getD_eq_getElem?_getD]; rw [List.getElem?_append_right (by omega), h1, Nat.sub_self]; rfl
      rw [this]; exact hp
section
variable {H : Type} {enc : TypeId × Value → H} {P : Program} {W : World}
theorem readF_ints {t e : TypeId} {v : Value} {fuel : Nat} {x : DataW H × List MemPlace} (ht : P.underlying t = some (.slice e)) (he : P.underlying e = some (.int .i64)) (hc : P.cellsOf e = 1)
    (hf : DataW.trod enc P W 0 (fun _ => true) true fuel t [v] = some x) : ∃ (l : List Int) (pl : Pl), SlArg W v l.length 1 (ints l) pl := by
  rcases open_ints ht he hc hf with ⟨hcs, -⟩ | ⟨a, len, cap, zs, hcs, -, hl, hm, hz, -, hcell, hwf⟩
  · cases hcs
    exact ⟨[], ⟨0, 0, 0⟩, ⟨by simp, fun m ρ i hi hρ => .emptySlice _ _ _ _, rfl, fun h => absurd rfl h⟩⟩
  · cases hcs
    simp only [if_true] at hz
    have hlz : (zs.take len).length = len := by rw [List.length_take]; omega
    have hm' : len ≤ 9223372036854775807 := by unfold maxLen at hm; omega
    by_cases h0 : len = 0
    · subst h0
      exact ⟨[], ⟨0, 0, 0⟩, ⟨by simp, fun m ρ i hi hρ => .emptySlice _ _ _ _, rfl, fun h => absurd rfl h⟩⟩
    · have h1 := hcell 0 (by omega)
      have ha : a.add 0 = a := by simp [Addr.add]
      rw [ha] at h1
      obtain ⟨hb, hs⟩ := cell_lt h1
      obtain ⟨b, o, sp⟩ := a
      simp only at hb hs
      subst hs
      refine ⟨zs.take len, ⟨b, o, 0⟩, ⟨by omega, fun m ρ i hi hρ => ?_, by simp [ints], fun _ => ⟨hb, fun k hk => ?_⟩⟩⟩
      · rw [hlz]
        have := VQ.slice (q := false) (n := m) (ρ := ρ) i 0 len len cap hl hi
        rw [hρ] at this
        simpa using this
      · have hk' : k < len := by
          simp only [ints, List.length_map] at hk
          omega
        have h2 := hcell k (by omega)
        have hk2 : zs.getD k 0 = (zs.take len)[k]'(by omega) := by
          rw [List.getElem_take, List.getD_eq_getElem?_getD, List.getElem?_eq_getElem (by omega)]; rfl
        rw [add_cell, hk2] at h2
        simpa [ints] using h2
theorem readF_pairs {t e f : TypeId} {v : Value} {fuel : Nat} {x : DataW H × List MemPlace} (ht : P.underlying t = some (.slice e)) (he : P.underlying e = some (.array 2 f)) (hf0 : P.underlying f = some (.int .i64)) (hce : P.cellsOf e = 2) (hcf : P.cellsOf f = 1)
    (hf : DataW.trod enc P W 0 (fun _ => true) true fuel t [v] = some x) : ∃ (l : List (Int × Int)) (pl : Pl), SlArg W v l.length 2 (pc l) pl := by
  have hempty : ∀ (a0 : Option Addr) (cap : Nat), ∃ (l : List (Int × Int)) (pl : Pl), SlArg W (.slice a0 0 cap) l.length 2 (pc l) pl := fun a0 cap =>
    ⟨[], ⟨0, 0, 0⟩, ⟨by simp, fun m ρ i hi hρ => .emptySlice _ _ _ _, rfl, fun h => absurd rfl h⟩⟩
  rcases Deep.open_slice ht hf with ⟨hcs, -⟩ | ⟨a, len, cap, m, n, D, Pl, hcs, -, hl, hm, hmm, -, hi⟩
  · cases hcs; exact hempty _ _
  · cases hcs
    simp only [if_true] at hmm
    by_cases h0 : len = 0
    · subst h0; exact hempty _ _
    · have each : ∀ i < len, ∃ q : Int × Int, W.cell? (a.add (i * 2)) = some (.int .i64 q.1) ∧ W.cell? ((a.add (i * 2)).add 1) = some (.int .i64 q.2) := fun i hil => by
        obtain ⟨cs, hc, htr⟩ := hi i (by omega)
        rw [hce] at hc
        obtain ⟨_, hcl, hat⟩ := World.cells?_some hc
        match cs, hcl with
        | [c0, c1], _ =>
          obtain ⟨zs, m', _, _, _, hlen2, hg2⟩ := DataW.trod_array he htr
          match zs, hlen2 with
          | [z0, z1], _ =>
            have q0 := hg2 0 (by omega)
            have q1 := hg2 1 (by omega)
            simp only [hcf, List.getElem?_cons_zero, List.getElem?_cons_succ] at q0 q1
            obtain ⟨n0, e0, _, w0⟩ := DataW.trod_int hf0 q0
            obtain ⟨n1, e1, _, w1⟩ := DataW.trod_int hf0 q1
            cases e0; cases e1
            have g0 := hat 0 (by omega)
            have g1 := hat 1 (by omega)
            have ha : (a.add (i * 2)).add 0 = a.add (i * 2) := by simp [Addr.add]
            rw [ha] at g0
            exact ⟨(n0, n1), by simpa using g0, by simpa using g1⟩
      obtain ⟨l, hll, hq⟩ := listP_of each
      have h1 := (hq 0 (by omega)).1
      have ha : a.add (0 * 2) = a := by simp [Addr.add]
      rw [ha] at h1
      obtain ⟨hb, hs⟩ := cell_lt h1
      obtain ⟨b, o, sp⟩ := a
      simp only at hb hs
      subst hs
      have hm' : len ≤ 9223372036854775807 := by unfold maxLen at hm; omega
      have hlen := pc_len l
      refine ⟨l, ⟨b, o, 0⟩, ⟨by omega, fun m ρ i hi hρ => ?_, by omega, fun _ => ⟨hb, fun k hk => ?_⟩⟩⟩
      · rw [hll]
        have := VQ.slice (q := false) (n := m) (ρ := ρ) i 0 len len cap hl hi
        rw [hρ] at this
        simpa using this
      · obtain ⟨g0, g1⟩ := hq (k / 2) (by omega)
        simp only [add_cell] at g0 g1
        have h3 := List.getElem?_eq_getElem (l := pc l) (i := k) hk
        rcases (show k % 2 = 0 ∨ k % 2 = 1 by omega) with h2 | h2
        · have hg := pc_at0 (f := l) (i := k / 2) (by omega)
          rw [show k / 2 * 2 = k by omega, h3] at hg
          rw [show o + k = o + k / 2 * 2 by omega, g0]; exact hg.symm
        · have hg := pc_at1 (f := l) (i := k / 2) (by omega)
          rw [show k / 2 * 2 + 1 = k by omega, h3] at hg
          rw [show o + k = o + k / 2 * 2 + 1 by omega, g1]; exact hg.symm
end
structure ShArg (W : World) (v : Value) (S : Shp) (a b c : Pl) : Prop where
  fit : S.fit
  rel : ∀ (m : Nat) (ρ : Rho) (i j k : Nat), i < m → j < m → k < m → ρ i = a → ρ j = b → ρ k = c → VRel m ρ (shV i j k S) v
  d : ∀ (ρ : Rho) (i m : Nat), ρ i = a → ints S.d ≠ [] → (ρ i).b < W.heap.size ∧ ∀ (k : Nat) (hk : k < (ints S.d).length), ∃ v', W.cell? ⟨(ρ i).b, (ρ i).o + k, none⟩ = some v' ∧ VRel m ρ (ints S.d)[k] v'
  f : ∀ (ρ : Rho) (i m : Nat), ρ i = b → pc S.f ≠ [] → (ρ i).b < W.heap.size ∧ ∀ (k : Nat) (hk : k < (pc S.f).length), ∃ v', W.cell? ⟨(ρ i).b, (ρ i).o + k, none⟩ = some v' ∧ VRel m ρ (pc S.f)[k] v'
  s : ∀ (ρ : Rho) (i m : Nat), ρ i = c → ints S.s ≠ [] → (ρ i).b < W.heap.size ∧ ∀ (k : Nat) (hk : k < (ints S.s).length), ∃ v', W.cell? ⟨(ρ i).b, (ρ i).o + k, none⟩ = some v' ∧ VRel m ρ (ints S.s)[k] v'
set_option maxRecDepth 100000 in
theorem read_shop {H : Type} {enc : TypeId × Value → H} {W : World} {b0 : Nat} {v : Value} {d : DataW H} {p : List MemPlace} (hval : Value.okWide Try.prog W .any b0 26 v) (h : DataW.Trod enc Try.prog W 0 (fun _ => true) true 26 v d p) :
    ∃ (S : Shp) (a b c : Pl), ShArg W v S a b c := by
  obtain ⟨cs, rfl, hsz⟩ := okWide_struct Try.underlying26 hval
  have k26 : Try.prog.cellsOf 26 = 3 := by kernel_rfl
  have hsz3 : cs.size = 3 := hsz.trans k26
  obtain ⟨l⟩ := cs
  match l, hsz3 with
  | [c0, c1, c2], _ =>
    obtain ⟨fuel, hf⟩ := h
    obtain ⟨xs, n, _, _, _, hlen, hg⟩ := DataW.trod_struct Try.underlying26 hf
    match xs, hlen with
    | [y0, y1, y2], _ =>
      have k70 : Try.prog.cellsOf 70 = 2 := by kernel_rfl
      have k3 : Try.prog.cellsOf 3 = 1 := by kernel_rfl
      have k2 : Try.prog.cellsOf 2 = 1 := by kernel_rfl
      have g0 := hg 0 _ rfl
      have g1 := hg 1 _ rfl
      have g2 := hg 2 _ rfl
      simp only [Value.cells, List.getElem?_cons_zero, List.getElem?_cons_succ] at g0 g1 g2
      obtain ⟨sd, a, hd⟩ := readF_ints Try.underlying22 Try.underlying2 k2 g0
      obtain ⟨sf, b, hf'⟩ := readF_pairs Try.underlying23 Try.underlying70 Try.underlying3 k70 k3 g1
      obtain ⟨ss, c, hs⟩ := readF_ints Try.underlying24 Try.underlying3 k3 g2
      refine ⟨⟨sd, sf, ss⟩, a, b, c, ⟨hd.len, hf'.len, hs.len⟩, fun m ρ i j k hi hj hk h1 h2 h3 => ?_, fun ρ i m hi hne => hd.hro (ints_plain sd) ρ i m hi hne, fun ρ i m hi hne => hf'.hro (pc_plain sf) ρ i m hi hne, fun ρ i m hi hne => hs.hro (ints_plain ss) ρ i m hi hne⟩
      refine .agg _ _ rfl fun r hr _ => ?_
      match r, hr with
      | 0, _ => exact hd.rel m ρ i hi h1
      | 1, _ => exact hf'.rel m ρ j hj h2
      | 2, _ => exact hs.rel m ρ k hk h3
end Go.Proofs.Ytomioaiojidnbaa
namespace Go.AH
open Go Go.RowKit Go.WideShapes Go.ChangeShapes Go.AH.Dust
section
variable {H : Type} {enc : TypeId × Value → H} {P : Program} {W : World}
theorem read_u8s {b0 : Nat} {t e : TypeId} {v : Value} {d : DataW H} {p : List MemPlace} (ht : P.underlying t = some (.slice e)) (he : P.underlying e = some (.int .u8)) (hc : P.cellsOf e = 1) (hval : Value.okWide P W .any b0 t v)
    (h : DataW.Trod enc P W 0 (fun _ => true) true t v d p) : ∃ (l : List Int) (pl : Pl), SlArg W v l.length 1 (u8s l) pl ∧ ∀ n ∈ l, 0 ≤ n ∧ n ≤ 255 := by
  obtain ⟨a0, len, cap, rfl⟩ := okWide_slice ht hval
  obtain ⟨fuel, hf⟩ := h
  rcases open_ints ht he hc hf with ⟨hcs, -⟩ | ⟨a, len', cap', zs, hcs, -, hl, hm, hz, -, hcell, hwf⟩
  · have hcs' : Value.slice a0 len cap = Value.slice none 0 0 := by simpa [Value.cells] using hcs
    cases hcs'
    exact ⟨[], ⟨0, 0, 0⟩, ⟨by simp, fun m ρ i hi hρ => .emptySlice _ _ _ _, rfl, fun h => absurd rfl h⟩, fun n hn => by simp at hn⟩
  · have hcs' : Value.slice a0 len cap = Value.slice (some a) len' cap' := by simpa [Value.cells] using hcs
    cases hcs'
    simp only [if_true] at hz
    have hlz : (zs.take len).length = len := by rw [List.length_take]; omega
    have hm' : len ≤ 9223372036854775807 := by unfold maxLen at hm; omega
    by_cases h0 : len = 0
    · subst h0
      exact ⟨[], ⟨0, 0, 0⟩, ⟨by simp, fun m ρ i hi hρ => .emptySlice _ _ _ _, rfl, fun h => absurd rfl h⟩, fun n hn => by simp at hn⟩
    · have h1 := hcell 0 (by omega)
      have ha : a.add 0 = a := by simp [Addr.add]
      rw [ha] at h1
      obtain ⟨hb, hs⟩ := cell_lt h1
      obtain ⟨b, o, sp⟩ := a
      simp only at hb hs
      subst hs
      refine ⟨zs.take len, ⟨b, o, 0⟩, ⟨by omega, fun m ρ i hi hρ => ?_, by simp [u8s], fun _ => ⟨hb, fun k hk => ?_⟩⟩, fun n hn => by have := hwf n (List.mem_of_mem_take hn); simp only [Lit.wf, Bool.and_eq_true, decide_eq_true_eq] at this; exact this⟩
      · rw [hlz]
        have := VQ.slice (q := false) (n := m) (ρ := ρ) i 0 len len cap hl hi
        rw [hρ] at this
        simpa using this
      · have hk' : k < len := by
          simp only [u8s, List.length_map] at hk
          omega
        have h2 := hcell k (by omega)
        have hk2 : zs.getD k 0 = (zs.take len)[k]'(by omega) := by
          rw [List.getElem_take, List.getD_eq_getElem?_getD, List.getElem?_eq_getElem (by omega)]; rfl
        have ha2 : (⟨b, o, none⟩ : Addr).add k = ⟨b, o + k, none⟩ := by
          unfold Addr.add
          split
          · rename_i h; subst h; rfl
          · rfl
        rw [ha2, hk2] at h2
        simpa [u8s] using h2
end
end Go.AH
