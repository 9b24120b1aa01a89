/- More arguments of a law: four of them; small numbers. -/
import Derived.Test.YtindbippegiopaaPsQ4
import Derived.Test.YtindbippegiopaaPsQ1
import Derived.Test.YtindbippegiopaaPsQ3
import Derived.Test.YtindbippegiopaaPsMM
namespace Go.Proofs.Ytindbippegiopaa
open Go Go.AH
attribute [local irreducible] WOps WCode WFree retQ thenQ blockQ scopeQ OpOk ACall RetRef roundA roundB
set_option maxRecDepth 100000
set_option maxHeartbeats 1000000
open Go.AH.Hone
theorem ask_edge {l : List Sn} {e goal : Ed} (ha : askE l e goal = 0) : askE l e e = 0 := by
  obtain ⟨g1, g2, g3⟩ := askE_zero ha
  unfold askE; rw [if_neg (by omega), if_neg (fun h => h.elim g2 g2)]
theorem ask_small {l : List Sn} {e goal : Ed} (ha : askE l e goal = 0) : 1 ≤ l.length ∧ l.length ≤ 6 := by
  obtain ⟨g1, _, _⟩ := askE_zero ha
  obtain ⟨h1, h2, _⟩ := boxE_zero g1
  exact ⟨h1, h2⟩
end Go.Proofs.Ytindbippegiopaa
namespace Go.AH
open Go
end Go.AH
namespace Go.AH.Hone
open Go Go.AH Go.Proofs.Ytindbippegiopaa
section
variable {l : List Sn} {goal e : Ed}
theorem natsOf_zs (p : List Nat) : natsOf (zs p) = p := by
  simp only [natsOf, zs, List.map_map]
  conv => rhs; rw [← List.map_id p]
  exact List.map_congr_left fun x _ => by simp
theorem gi_zs {p : List Nat} {i : Nat} (h : i < p.length) : gi (zs p) i = (p[i] : Int) := by simp [gi, zs, h]
theorem after_list {p : List Nat} {x : Ed} (ha : askE l e e = 0) (h8 : p.length ≤ 800) (hp : ∀ i ∈ p, i < l.length) (h : aftL l e p = some x) : afterV l e (zs p) = (0, x) := by
  unfold afterV
  rw [if_neg (by omega)]
  unfold afterE
  rw [if_neg (by rw [zs_len]; omega), if_neg, natsOf_zs, h]
  intro hb
  obtain ⟨i, hi, h1⟩ := badIx_iff.1 hb
  rw [zs_len] at hi
  rw [gi_zs hi] at h1
  have := hp _ (List.getElem_mem hi)
  omega
end
end Go.AH.Hone
namespace Go.Proofs.Ytindbippegiopaa
open Go Go.AH
attribute [local irreducible] WOps WCode WFree retQ thenQ blockQ scopeQ OpOk ACall RetRef roundA roundB
set_option maxRecDepth 100000
set_option maxHeartbeats 1000000
open Go.AH.Hone
end Go.Proofs.Ytindbippegiopaa
namespace Go.AH
open Go
theorem sim_open {G : Nat → Prop} {w0 w : World} {ρ : Rho} {σ : Heap} (hs : Sim G w0 ρ σ w) {j k : Nat} {qs : List (List Value)} {sp : List (Nat × Value)} {q : List Value} (hj : σ[j]? = some (.deep qs sp)) (hk : qs[k]? = some q) (hp : plainL q = true) :
    ∃ ρ' : Rho, (∀ i < σ.length, ρ' i = ρ i) ∧ Sim G w0 ρ' (σ.set j (.deep qs ((k, .slice (some ⟨σ.length, 0, none⟩) q.length q.length) :: sp)) ++ [.ro q]) w := by
  obtain ⟨hkl, hkq⟩ := List.getElem?_eq_some_iff.1 hk
  have hold := hs.obj j _ hj
  obtain ⟨g1, g2⟩ := hold.1 (List.ne_nil_of_length_pos (by omega))
  obtain ⟨v', g3, a, cap, g4, g5, g6⟩ := g2 k hkl
  rw [hkq] at g4 g5 g6
  subst g4
  have hjl := idx_lt hj
  obtain ⟨pl, hpl, hro⟩ : ∃ pl : Pl, (q ≠ [] → a = some ⟨pl.b, pl.o, none⟩) ∧ (q ≠ [] → G pl.b ∧ ∀ (m : Nat) (h : m < q.length), w.cell? ⟨pl.b, pl.o + m, none⟩ = some q[m]) := by
    by_cases hq : q = []
    · exact ⟨⟨0, 0, 0⟩, fun h => absurd hq h, fun h => absurd hq h⟩
    · obtain ⟨b, o, h1, h2, h3⟩ := g6 hq
      exact ⟨⟨b, o, 0⟩, fun _ => h1, fun _ => ⟨h2, h3⟩⟩
  refine ⟨fun i => if i = σ.length then pl else ρ i, fun i hi => if_neg (by omega), hs.os, hs.tape, hs.output, hs.size, hs.fgn, fun i x hx => ?_, fun i i' oi oi' hi hi' hoi hoi' hii => ?_⟩
  · have hlt : ∀ m < σ.length, (fun i => if i = σ.length then pl else ρ i) m = ρ m := fun m hm => if_neg (by omega)
    simp only [List.length_append, List.length_set, List.length_cons, List.length_nil]
    rcases getElem?_snoc hx with hx | ⟨rfl, rfl⟩
    · have hil := idx_lt hx
      rw [List.length_set] at hil
      rw [if_neg (show ¬ i = σ.length by omega)]
      rcases getElem?_set' hx with ⟨rfl, rfl⟩ | ⟨_, hx⟩
      · refine ⟨fun hq => hold.1 hq, fun y hy => ?_⟩
        rcases List.mem_cons.1 hy with rfl | hy
        · refine ⟨g1, _, g3, ?_⟩
          by_cases hq : q = []
          · subst hq; exact .emptySlice _ _ _ _
          · rw [hpl hq]
            have := VQ.slice (q := false) (n := σ.length + (0 + 1)) (ρ := fun i => if i = σ.length then pl else ρ i) σ.length 0 q.length q.length cap g5 (by omega)
            simpa using this
        · obtain ⟨h1, v2, h2, h3⟩ := hold.2 y hy
          exact ⟨h1, v2, h2, h3.mono (by omega) hlt⟩
      · exact orel_mono (hs.obj i x hx) (by omega) hlt (fun _ h => h) (fun _ _ _ _ h => h) (fun _ _ _ h => h)
    · simp only [List.length_set, if_pos]
      intro hq
      obtain ⟨h1, h2⟩ := hro hq
      exact ⟨h1, fun m hm => ⟨_, h2 m hm, vrel_plainL q hp m hm⟩⟩
  · have hown : ∀ (m : Nat) (o : AObj), (σ.set j (.deep qs ((k, .slice (some ⟨σ.length, 0, none⟩) q.length q.length) :: sp)) ++ [.ro q])[m]? = some o → o.owned → σ[m]? = some o ∧ m < σ.length := by
      intro m o hm ho
      rcases getElem?_snoc hm with hm | ⟨_, rfl⟩
      · rcases getElem?_set' hm with ⟨_, rfl⟩ | ⟨_, hm⟩
        · exact ho.elim
        · exact ⟨hm, idx_lt hm⟩
      · exact ho.elim
    obtain ⟨h1, h2⟩ := hown i oi hi hoi
    obtain ⟨h3, h4⟩ := hown i' oi' hi' hoi'
    rw [if_neg (by omega), if_neg (by omega)] at hii
    exact hs.inj i i' oi oi' h1 h3 hoi hoi' hii
theorem osub_shut {σ : Heap} {n j : Nat} {π : Rho} {p : Pl} {o : AObj} {qs : List (List Value)} {sp : List (Nat × Value)} (hj : σ[j]? = some (.deep qs sp)) (h : OSub (σ.set j (.deep qs [])) n π p o) : OSub σ n π p o := by
  have g : ∀ (i : Nat) (x : AObj), (σ.set j (.deep qs []))[i]? = some x → (∀ q s, x ≠ .deep q s) → σ[i]? = some x := fun i x hx hne => by
    rcases getElem?_set' hx with ⟨_, rfl⟩ | ⟨_, hx⟩
    · exact absurd rfl (hne _ _)
    · exact hx
  have gd : ∀ (i : Nat) (q : List (List Value)) (s : List (Nat × Value)), (σ.set j (.deep qs []))[i]? = some (.deep q s) → ∃ s', σ[i]? = some (.deep q s') ∧ ∀ x ∈ s, x ∈ s' := fun i q s hx => by
    rcases getElem?_set' hx with ⟨rfl, he⟩ | ⟨_, hx⟩
    · cases he; exact ⟨sp, hj, fun x hx => by simp at hx⟩
    · exact ⟨s, hx, fun _ h => h⟩
  have n1 : ∀ {cs : List Value}, ∀ q s, AObj.ro cs ≠ .deep q s := fun q s h => by cases h
  cases o with
  | dead => trivial
  | ro cs => exact h.imp id fun ⟨c, h1, h2⟩ => ⟨c, g _ _ h1 (fun _ _ h => by cases h), h2⟩
  | rw cs => exact h.imp id fun ⟨h0, c, h1, h2⟩ => ⟨h0, c, h1.imp (fun h => g _ _ h (fun _ _ h => by cases h)) fun ⟨t, ht⟩ => ⟨t, g _ _ ht (fun _ _ h => by cases h)⟩, h2⟩
  | gr cs t => exact h.imp id fun ⟨h0, c, h1, h2⟩ => ⟨h0, c, g _ _ h1 (fun _ _ h => by cases h), h2⟩
  | dfr => exact g _ _ h (fun _ _ h => by cases h)
  | loop st pend N e params assign body => obtain ⟨e1, h1, h2⟩ := h; exact ⟨e1, g _ _ h1 (fun _ _ h => by cases h), h2⟩
  | map es => obtain ⟨es', h1, h2⟩ := h; exact ⟨es', g _ _ h1 (fun _ _ h => by cases h), h2⟩
  | iter m seen => exact ⟨h.1, g _ _ h.2.1 (fun _ _ h => by cases h), h.2.2⟩
  | deep q2 s2 =>
    obtain ⟨h0, h1, h2⟩ := h
    refine ⟨h0, h1.imp id fun ⟨s, h3⟩ => (gd _ _ _ h3).imp fun s' h4 => h4.1, fun x hx => ?_⟩
    obtain ⟨q3, s3, h3, v, h4, h5⟩ := h2 x hx
    obtain ⟨s', h6, h7⟩ := gd _ _ _ h3
    exact ⟨q3, s', h6, v, h7 _ h4, h5⟩
theorem href_shut {n0 j : Nat} {π : Rho} {σ σ2 : Heap} {qs : List (List Value)} {sp : List (Nat × Value)} (hj : σ[j]? = some (.deep qs sp)) (h : HRef n0 π (σ.set j (.deep qs [])) σ2) : HRef n0 π σ σ2 :=
  ⟨h.le, h.id, fun i o hi => osub_shut hj (h.obj i o hi), h.inj⟩
theorem StRef.srcD {n0 j : Nat} {σ : Heap} {e e2 : Env} {qs : List (List Value)} {sp : List (Nat × Value)} (hj : σ[j]? = some (.deep qs sp)) (σ0 news : Heap) (l : List Nat) (hn0 : n0 ≤ σ0.length) (hσ : (σ.set j (.deep qs [])).take σ0.length = σ0) (hcl : HClosed σ0.length σ0) (hl : l.length = news.length) (hd : distinctFrom σ0.length l = true)
    (ho : OSubs (σ.set j (.deep qs [])) (σ0.length + news.length) (srcR σ0.length l) σ0.length news) (he : EnvRen (σ0.length + news.length) (srcR σ0.length l) e e2) : StRef n0 σ (σ0 ++ news) e e2 :=
  .inr fun _ => ⟨_, href_shut hj (href_src l hn0 hσ hcl hl hd ho), by rw [List.length_append]; exact envRen_ref he⟩
theorem StRef.dropD {n0 j : Nat} {σ : Heap} {e e2 : Env} {qs : List (List Value)} {sp : List (Nat × Value)} (hj : σ[j]? = some (.deep qs sp)) (σ0 : Heap) (hn0 : n0 ≤ σ0.length) (hσ : (σ.set j (.deep qs [])).take σ0.length = σ0) (hcl : HClosed σ0.length σ0) (he : EnvC σ0.length e e2) : StRef n0 σ σ0 e e2 := by
  have hr : ∀ e2 : Env, EnvC σ0.length e e2 → EnvRen (σ0.length + 0) (srcR σ0.length []) e e2 := by
    intro e2
    induction e2 with
    | nil => intro _; trivial
    | cons p r ih =>
      intro h
      exact ⟨er_closed h.1.1 (fun i hi => srcR_lt hi) (Nat.le_refl _) h.1.2.1 h.1.2.2, ih h.2⟩
  have := StRef.srcD (n0 := n0) (e := e) (e2 := e2) hj σ0 [] [] hn0 hσ hcl rfl rfl trivial (hr e2 he)
  simpa using this
theorem RetRef.plainD {j : Nat} {σin σ : Heap} {v : Value} {qs : List (List Value)} {sp : List (Nat × Value)} (hj : σ[j]? = some (.deep qs sp)) (hσ : (σ.set j (.deep qs [])).take σin.length = σin) (hv : AH.plain v = true) : RetRef σin σ v v σin := by
  have hle : σin.length ≤ σ.length := by
    have := congrArg List.length hσ
    simp at this; omega
  refine .inr fun hcl => ⟨fun i => ⟨i, 0, 0⟩, ⟨Nat.le_refl _, fun _ _ => rfl, fun i o hi => ?_, fun i i' oi oi' _ _ _ _ h => h⟩, vrel_plain v hv⟩
  exact osub_shut hj (osub_refl (m := σin.length) (fun _ _ => rfl) (Nat.le_refl _) (idx_lt hi) (take_get hσ hi) (hcl i o hi))
section
variable {P : Program} {n0 N : Nat} {rd : Option Nat} {Q : Post} {e : Env} {mk : List Nat} {σ : Heap}
theorem W_open {c : Code} (j k : Nat) {qs : List (List Value)} {sp : List (Nat × Value)} {q : List Value} (hj : σ[j]? = some (.deep qs sp)) (hk : qs[k]? = some q) (hp : plainL q = true)
    (h : WCode P n0 N rd c Q e mk (σ.set j (.deep qs ((k, .slice (some ⟨σ.length, 0, none⟩) q.length q.length) :: sp)) ++ [.ro q])) : WCode P n0 N rd c Q e mk σ := by
  rintro G w0 ρ0 A w ⟨h0, ρ, hag, hs, her⟩
  obtain ⟨ρ', h1, h2⟩ := sim_open hs hj hk hp
  refine h G w0 ρ0 A w ⟨by simp; omega, ρ', fun i hi => (h1 i (by omega)).trans (hag i hi), h2, ?_⟩
  have := erel_mono (m := (σ.set j (.deep qs ((k, .slice (some ⟨σ.length, 0, none⟩) q.length q.length) :: sp)) ++ [AObj.ro q]).length) (ρ' := ρ') her (by simp) h1
  exact this
end
def ObjAt (σ : Heap) (p : Nat × Nat) : AObj → Prop
  | .ro cs => prtAt σ p cs ∧ plainL cs = true
  | .deep qs [] => p.1 < σ.length ∧ (qs = [] ∨ DeepIn σ ⟨p.1, p.2, 0⟩ qs)
  | _ => False
def ObjsAt (σ : Heap) : Heap → List (Nat × Nat) → Prop
  | [], [] => True
  | o :: os, b :: bs => ObjAt σ b o ∧ ObjsAt σ os bs
  | _, _ => False
theorem objsAt_get {σ : Heap} : ∀ {os : Heap} {bs : List (Nat × Nat)}, ObjsAt σ os bs → ∀ (k : Nat) (o : AObj), os[k]? = some o → ∃ b, bs[k]? = some b ∧ ObjAt σ b o
  | [], [], _, k, o, hk => by simp at hk
  | o0 :: os, b0 :: bs, h, k, o, hk => by
    cases k with
    | zero => simp at hk; subst hk; exact ⟨b0, rfl, h.1⟩
    | succ k => exact objsAt_get h.2 k o (by simpa using hk)
  | [], _ :: _, h, _, _, _ => h.elim
  | _ :: _, [], h, _, _, _ => h.elim
section
variable {P : Program} {σ : Heap} {f : FuncId}
theorem Ev.objsN {args1 args : List Value} {v1 v : Value} {news news' : Heap} (σ1 : Heap) (bs : List (Nat × Nat)) (h : Ev P f args1 σ1 v1 (σ1 ++ news)) (hb : ObjsAt σ σ1 bs) (ha : AS σ1.length (psR bs) args1 args)
    (hm : news.all isMem = true) (hv : ren (shf σ1.length σ.length (psR bs)) v1 = v) (hn : news.map (renO (shf σ1.length σ.length (psR bs))) = news') (hni : σ.all (fun o => !isIter o) = true) : Ev P f args σ v (σ ++ news') := by
  obtain ⟨h1, h2⟩ := as_get ha
  subst hv hn
  refine ACall.frame (π := psR bs) h (fun k o hk => ?_) (fun k hk => ?_) hni h1 (by simpa using h2) ?_
  · obtain ⟨b, g1, g2⟩ := objsAt_get hb k o hk
    unfold ObjAt at g2
    split at g2
    · rename_i cs
      refine .inl ⟨cs, rfl, .inr ⟨cs, ?_, fun j hj _ => vrel_plainL cs g2.2 j hj⟩⟩
      simp only [psR, g1]
      exact cellsAt_prt g2.1
    · rename_i qs
      refine .inr ⟨qs, rfl, ?_⟩
      simp only [psR, g1]
      exact g2.2
    · exact g2.elim
  · obtain ⟨b, g1, g2⟩ := objsAt_get hb k σ1[k] (by simp)
    simp only [psR, g1]
    unfold ObjAt at g2
    split at g2
    · obtain ⟨⟨all, g2, _⟩, _⟩ := g2
      rcases g2 with g2 | g2 | ⟨t, g2⟩ <;> exact idx_lt g2
    · exact g2.1
    · exact g2.elim
  · rintro v2 s1 ⟨rfl, rfl⟩
    exact ⟨news, rfl, hm, rfl, rfl⟩
theorem Ev.objs {args1 args : List Value} {v : Value} (σ1 : Heap) (bs : List (Nat × Nat)) (h : Ev P f args1 σ1 v σ1) (hb : ObjsAt σ σ1 bs) (ha : AS σ1.length (psR bs) args1 args) (hv : plain v = true) (hni : σ.all (fun o => !isIter o) = true) : Ev P f args σ v σ := by
  have := Ev.objsN (news := []) (news' := []) σ1 bs (by simpa using h) hb ha rfl (ren_plain v hv) rfl hni
  simpa using this
end
end Go.AH
namespace Go.AH.Hone
open Go Go.AH
def gq (qs : List (List Int)) (i : Nat) : List Int := qs.getD i []
def rowsQ (qs : List (List Int)) : List (List Value) := qs.map ints
theorem rowsQ_get {qs : List (List Int)} {i : Nat} (h : i < qs.length) : (rowsQ qs)[i]? = some (ints (gq qs i)) := by simp [rowsQ, gq, h]
theorem rowsQ_len (qs : List (List Int)) : (rowsQ qs).length = qs.length := by simp [rowsQ]
theorem hc_deep1 (Q : List (List Value)) : HClosed 1 [.deep Q []] := ⟨fun x hx => by simp at hx, trivial⟩
def longP (qs : List (List Int)) : Prop := (qs.length > 60 ∧ qs.length ≤ 800) ∨ qs.length > 810 ∨ ∃ i < qs.length, (gq qs i).length > 10
end Go.AH.Hone
namespace Go.Proofs.Ytindbippegiopaa
open Go Go.AH
attribute [local irreducible] WOps WCode WFree retQ thenQ blockQ scopeQ OpOk ACall RetRef roundA roundB
set_option maxRecDepth 100000
set_option maxHeartbeats 1000000
open Go.AH.Hone
theorem long_ok (qs : List (List Int)) (c : Nat) (hN : qs.length ≤ 9223372036854775807) (b : Bool) (hb : b = true ↔ longP qs) : Ev Try.prog 24 [.slice (some ⟨0, 0, none⟩) qs.length c] [.deep (rowsQ qs) []] (.bool b) [.deep (rowsQ qs) []] := by
  unfold longP at hb
  by_cases h1 : (qs.length > 60 ∧ qs.length ≤ 800) ∨ qs.length > 810
  · obtain rfl : b = true := hb.2 (by rcases h1 with h | h; exact .inl h; exact .inr (.inl h))
    refine acall_intro 1 29 Try.func24 rfl rfl rfl rfl rfl ?_
    by_cases h6 : (qs.length : Int) > 60
    · by_cases h8 : (qs.length : Int) ≤ 800
      · repeat' (first | (refine gU ?_; first | (refine gMove ?_; refine st (ok_move rfl) rfl rfl ?_) | (refine gAssign ?_; refine st (ok_assign rfl) rfl rfl ?_) | (refine gBin ?_; refine st (ok_bin rfl rfl rfl) rfl rfl ?_) | (refine gLen ?_; refine st (ok_len rfl) rfl rfl ?_) | (refine gPick ?_; refine st (ok_pickTA rfl rfl) rfl rfl ?_)) | (refine gG ?_; first | (refine gMove ?_; refine stGA rfl (ok_move rfl) rfl rfl ?_) | (refine gBin ?_; refine stGA rfl (ok_bin rfl rfl rfl) rfl rfl ?_) | (refine gLen ?_; refine stGA rfl (ok_len rfl) rfl rfl ?_) | refine stSA rfl rfl ?_) | refine W_seq ?_ | refine W_region ?_ | refine st_nil ?_ | refine tq_n ?_ | refine tq_r ?_ | refine W_ret ?_ | refine W_condTA rfl ?_)
        exact ret0 (.tmp rfl .nil) (.plain rfl rfl) ⟨rfl, rfl⟩
      · have h9 : (qs.length : Int) > 810 := by omega
        repeat' (first | (refine gU ?_; first | (refine gMove ?_; refine st (ok_move rfl) rfl rfl ?_) | (refine gAssign ?_; refine st (ok_assign rfl) rfl rfl ?_) | (refine gBin ?_; refine st (ok_bin rfl rfl rfl) rfl rfl ?_) | (refine gLen ?_; refine st (ok_len rfl) rfl rfl ?_) | (refine gPick ?_; first | refine st (ok_pickTA rfl rfl) rfl rfl ?_ | refine st (ok_pickFA rfl rfl) rfl rfl ?_)) | (refine gG ?_; first | (refine gMove ?_; refine stGA rfl (ok_move rfl) rfl rfl ?_) | (refine gBin ?_; refine stGA rfl (ok_bin rfl rfl rfl) rfl rfl ?_) | (refine gLen ?_; refine stGA rfl (ok_len rfl) rfl rfl ?_)) | refine W_seq ?_ | refine W_region ?_ | refine st_nil ?_ | refine tq_n ?_ | refine tq_r ?_ | refine W_ret ?_ | refine W_condTA rfl ?_)
        exact ret0 (.tmp rfl .nil) (.plain rfl rfl) ⟨rfl, rfl⟩
    · exact absurd h1 (by omega)
  · refine acall_intro 1 29 Try.func24 rfl rfl rfl rfl rfl ?_
    have h8 : ¬ (qs.length : Int) > 810 := by omega
    have h9 : (qs.length : Int) > 60 → ¬ (qs.length : Int) ≤ 800 := by omega
    repeat' (first | (refine gU ?_; first | (refine gMove ?_; refine st (ok_move rfl) rfl rfl ?_) | (refine gAssign ?_; refine st (ok_assign rfl) rfl rfl ?_) | (refine gBin ?_; refine st (ok_bin rfl rfl rfl) rfl rfl ?_) | (refine gLen ?_; refine st (ok_len rfl) rfl rfl ?_) | (refine gPick ?_; first | refine st (ok_pickTA rfl rfl) rfl rfl ?_ | refine st (ok_pickFA rfl rfl) rfl rfl ?_)) | (refine gG ?_; first | (refine gMove ?_; refine stGA rfl (ok_move rfl) rfl rfl ?_) | (refine gBin ?_; refine stGA rfl (ok_bin rfl rfl rfl) rfl rfl ?_) | (refine gLen ?_; refine stGA rfl (ok_len rfl) rfl rfl ?_) | refine stSA rfl rfl ?_ | ((fail_if_success (refine stGkA rfl ?_)); (refine stGdD rfl ?_ ?_ <;> intro _))) | refine W_seq ?_ | refine W_region ?_ | refine st_nil ?_ | refine tq_n ?_ | refine W_skip ?_ | refine W_block ?_ | refine W_condFA rfl ?_)
    all_goals
      refine W_loopS (ι := Nat) (fun i => [(0, .slice (some ⟨0, 0, none⟩) qs.length c), (3, .int .i64 (i : Int))]) (fun _ => [.deep (rowsQ qs) []]) (fun i => qs.length - i) (fun i => i ≤ qs.length ∧ ∀ j < i, ¬ (gq qs j).length > 10) 0 (by simp) (.same ⟨rfl, rfl, trivial⟩) ⟨by omega, fun j hj => by omega⟩ ?_
      rintro i ⟨hi, hall⟩
      by_cases hil : i < qs.length
      · refine W_open 0 i rfl (rowsQ_get hil) (ints_plain _) ?_
        rw [ints_length]
        have hc1 : cellGet [.deep (rowsQ qs) [(i, .slice (some ⟨1, 0, none⟩) (gq qs i).length (gq qs i).length)], .ro (ints (gq qs i))] 0 i = some (.slice (some ⟨1, 0, none⟩) (gq qs i).length (gq qs i).length) := by simp [cellGet, spGet]
        by_cases hq : ((gq qs i).length : Int) > 10
        · obtain rfl : b = true := hb.2 (.inr (.inr ⟨i, hil, by omega⟩))
          generalize gq qs i = q at *
          repeat' (first | (refine gU ?_; first | (refine gMove ?_; refine st (ok_move rfl) rfl rfl ?_) | (refine gAssign ?_; refine st (ok_assign rfl) rfl rfl ?_) | (refine gLoad ?_; refine st (ok_load rfl (by exact hc1)) rfl rfl ?_) | (refine gBin ?_; refine st (ok_bin rfl rfl rfl) rfl rfl ?_) | (refine gLen ?_; refine st (ok_len rfl) rfl rfl ?_) | (refine gIA ?_; refine st (ok_idxN rfl rfl (by omega)) rfl rfl ?_)) | refine W_seq ?_ | refine W_region ?_ | refine st_nil ?_ | refine tq_n ?_ | refine tq_r ?_ | refine bq_r ?_ | refine W_skip ?_ | refine W_ret ?_ | refine W_block ?_ | refine W_condTA rfl ?_)
          exact ret0 (.tmp rfl .nil) (.plainD (j := 0) rfl rfl rfl) ⟨rfl, rfl⟩
        · have hq' : ¬ (gq qs i).length > 10 := by omega
          have hall2 : ∀ j < i + 1, ¬ (gq qs j).length > 10 := fun j hj => by
            by_cases hji : j = i
            · subst hji; exact hq'
            · exact hall j (by omega)
          generalize gq qs i = q at *
          repeat' (first | (refine gU ?_; first | (refine gMove ?_; refine st (ok_move rfl) rfl rfl ?_) | (refine gAssign ?_; refine st (ok_assign rfl) rfl rfl ?_) | (refine gLoad ?_; refine st (ok_load rfl (by exact hc1)) rfl rfl ?_) | (refine gAdd ?_; refine st (ok_inc rfl rfl (by omega)) rfl rfl ?_) | (refine gBin ?_; refine st (ok_bin rfl rfl rfl) rfl rfl ?_) | (refine gLen ?_; refine st (ok_len rfl) rfl rfl ?_) | (refine gIA ?_; refine st (ok_idxN rfl rfl (by omega)) rfl rfl ?_)) | refine W_seq ?_ | refine W_region ?_ | refine st_nil ?_ | refine tq_n ?_ | refine bq_n ?_ | refine W_skip ?_ | refine W_block ?_ | refine W_condTA rfl ?_ | refine W_condFA rfl ?_)
          exact ⟨rfl, i + 1, ⟨by omega, hall2⟩, by omega, .dropD (j := 0) rfl [.deep (rowsQ qs) []] (by simp) rfl (hc_deep1 _) (by (repeat' (first | exact trivial | exact ⟨rfl, rfl, rfl⟩ | exact ⟨rfl, closed_slice rfl, rfl⟩ | refine ⟨?_, ?_⟩)))⟩
      · obtain rfl : i = qs.length := by omega
        obtain rfl : b = false := by
          cases b with
          | false => rfl
          | true =>
            rcases hb.1 rfl with h | h | ⟨j, h2, h3⟩
            · exact absurd (.inl h) h1
            · exact absurd (.inr h) h1
            · exact absurd h3 (hall j h2)
        repeat' (first | (refine gU ?_; first | (refine gMove ?_; refine st (ok_move rfl) rfl rfl ?_) | (refine gAssign ?_; refine st (ok_assign rfl) rfl rfl ?_) | (refine gBin ?_; refine st (ok_bin rfl rfl rfl) rfl rfl ?_) | (refine gLen ?_; refine st (ok_len rfl) rfl rfl ?_)) | refine W_seq ?_ | refine W_region ?_ | refine st_nil ?_ | refine tq_n ?_ | refine tq_e ?_ | refine bq_hit rfl ?_ | refine W_exit ?_ | refine W_ret ?_ | refine W_condFA rfl ?_)
        exact ret0 (.tmp rfl .nil) (.plain rfl rfl) ⟨rfl, rfl⟩
theorem long_ev {σ : Heap} {qs : List (List Int)} {x c : Nat} (hx : ObjAt σ (x, 0) (.deep (rowsQ qs) [])) (hN : qs.length ≤ 9223372036854775807) (b : Bool) (hb : b = true ↔ longP qs) (hni : σ.all (fun o => !isIter o) = true) :
    Ev Try.prog 24 [.slice (some ⟨x, 0, none⟩) qs.length c] σ (.bool b) σ :=
  Ev.objs [.deep (rowsQ qs) []] [(x, 0)] (long_ok qs c hN b hb) ⟨hx, trivial⟩ ⟨by simpa [psR] using VQ.slice (q := true) (n := 1) (ρ := psR [(x, 0)]) 0 0 qs.length c c (Nat.le_refl _) (by omega), trivial⟩ rfl hni
end Go.Proofs.Ytindbippegiopaa
namespace Go.AH
open Go
theorem ok_idxSVI {P : Program} {rd : Option Nat} {ty : TypeId} {e : Env} {σ : Heap} {x y : Operand} {t el size bytes i n sz : Nat} {agg : Bool} {z : Value} {kd : IntKind} {j : Int} [ha : Sl P t el] [ht : Ty P el size agg z bytes] (h : evalO e x = some (slvV i sz n)) (hy : evalO e y = some (.int kd j))
    (h0 : 0 ≤ j) (h1 : j < n) : OpOk P rd (.indexAddr t x y) ty e σ (.pointer (some ⟨i, j.toNat * size, none⟩)) σ := by
  have hj : ((j.toNat : Nat) : Int) = j := by omega
  exact ok_idxSV (k := j.toNat) h (by rw [hj]; exact hy) (by omega)
end Go.AH
namespace Go.AH.Hone
open Go Go.AH
def badQ (l : List Sn) (e goal : Ed) (qs : List (List Int)) (n : Nat) : Prop := (n = 0 ∧ ¬ coversP goal (gi (gq qs 0))) ∨ (0 < n ∧ ¬ lvP l (gi (gq qs n)) (gi (gq qs (n - 1)))) ∨ inR (gi (gq qs n)) e
def rowsF (qs : List (List Int)) : Nat → List Value
  | 0 => []
  | i + 1 => rowsF qs i ++ ints (gq qs i)
theorem rowsF_len {qs : List (List Int)} : ∀ {i : Nat}, (∀ j < i, (gq qs j).length = 7) → (rowsF qs i).length = i * 7
  | 0, _ => rfl
  | i + 1, h => by rw [rowsF, List.length_append, rowsF_len fun j hj => h j (by omega), ints_length, h i (by omega)]; omega
theorem rowsF_plain (qs : List (List Int)) : ∀ i, plainL (rowsF qs i) = true
  | 0 => rfl
  | i + 1 => by rw [rowsF, plainL_append, rowsF_plain qs i, ints_plain]; rfl
theorem rowsF_get {qs : List (List Int)} : ∀ {i : Nat}, (∀ j < i, (gq qs j).length = 7) → ∀ {k : Nat}, k < i → ((rowsF qs i).drop (k * 7)).take 7 = ints (gq qs k)
  | 0, _, k, hk => by omega
  | i + 1, h, k, hk => by
    have hl := rowsF_len (qs := qs) (i := i) fun j hj => h j (by omega)
    by_cases hki : k = i
    · subst hki
      rw [rowsF, ← hl, List.drop_left, List.take_of_length_le (by rw [ints_length, h k (by omega)]; omega)]
    · have ih := rowsF_get (qs := qs) (i := i) (fun j hj => h j (by omega)) (k := k) (by omega)
      rw [rowsF, List.drop_append_of_le_length (by omega), List.take_append_of_le_length (by rw [List.length_drop]; omega), ih]
theorem rowC_gi' : ∀ {q : List Int}, q.length = 7 → rowC (gi q) = ints q
  | [_, _, _, _, _, _, _], _ => rfl
theorem rowsF_cells {σ : Heap} {x i k : Nat} {qs : List (List Int)} {t : TypeId} (hx : σ[x]? = some (.gr (rowsF qs i) t)) (h : ∀ j < i, (gq qs j).length = 7) (hk : k < i) : cellsAt σ x (k * 7) 7 = some (rowC (gi (gq qs k))) := by
  have hl := rowsF_len h
  have hb : Nat.ble (k * 7 + 7) (rowsF qs i).length = true := Nat.ble_eq_true_of_le (by omega)
  simp only [cellsAt, hx, hb, cond_true, rowsF_get h hk, rowC_gi' (h k hk)]
end Go.AH.Hone
namespace Go.Proofs.Ytindbippegiopaa
open Go Go.AH
attribute [local irreducible] WOps WCode WFree retQ thenQ blockQ scopeQ OpOk ACall RetRef roundA roundB
set_option maxRecDepth 100000
set_option maxHeartbeats 1000000
open Go.AH.Hone
open Classical in
noncomputable def chkE (l : List Sn) (e goal : Ed) (qs : List (List Int)) : Int :=
  if askE l e goal ≠ 0 then askE l e goal else if qs.length > 800 then 6 else if ∃ i < qs.length, ¬ isRowP (gq qs i) then 3 else if ∃ n < qs.length, badQ l e goal qs n then 14 else 0
theorem chk_ask {l : List Sn} {e goal : Ed} {qs : List (List Int)} (h : askE l e goal ≠ 0) : chkE l e goal qs = askE l e goal := by unfold chkE; rw [if_pos h]
theorem chk_6 {l : List Sn} {e goal : Ed} {qs : List (List Int)} (h : askE l e goal = 0) (h8 : qs.length > 800) : chkE l e goal qs = 6 := by unfold chkE; rw [if_neg (by omega), if_pos h8]
theorem chk_3 {l : List Sn} {e goal : Ed} {qs : List (List Int)} (h : askE l e goal = 0) (h8 : ¬ qs.length > 800) {i : Nat} (hi : i < qs.length) (hr : ¬ isRowP (gq qs i)) : chkE l e goal qs = 3 := by unfold chkE; rw [if_neg (by omega), if_neg h8, if_pos ⟨i, hi, hr⟩]
theorem chk_14 {l : List Sn} {e goal : Ed} {qs : List (List Int)} (h : askE l e goal = 0) (h8 : ¬ qs.length > 800) (hr : ∀ i < qs.length, isRowP (gq qs i)) {n : Nat} (hn : n < qs.length) (hb : badQ l e goal qs n) : chkE l e goal qs = 14 := by
  unfold chkE; rw [if_neg (by omega), if_neg h8, if_neg (fun ⟨i, hi, h⟩ => h (hr i hi)), if_pos ⟨n, hn, hb⟩]
theorem chk_0 {l : List Sn} {e goal : Ed} {qs : List (List Int)} (h : askE l e goal = 0) (h8 : ¬ qs.length > 800) (hr : ∀ i < qs.length, isRowP (gq qs i)) (hb : ∀ n < qs.length, ¬ badQ l e goal qs n) : chkE l e goal qs = 0 := by
  unfold chkE; rw [if_neg (by omega), if_neg h8, if_neg (fun ⟨i, hi, h⟩ => h (hr i hi)), if_neg (fun ⟨i, hi, h⟩ => hb i hi h)]
theorem hc_q6 (l : List Sn) (e goal : Ed) (qs : List (List Int)) (c : Nat) : HClosed 6 [.ro (stonesC l), .deep (rowsQ qs) [], .rw e.cells, .rw goal.cells, .rw (benchC goal (.slice (some ⟨0, 0, none⟩) l.length c) (.slice (some ⟨5, 0, none⟩) (lastN l goal + 1) (lastN l goal + 1))), .rw (rowsC l goal (lastN l goal + 1))] := by
  have h := slice_closed (n := 6) (i := 0) (l := l.length) (c := c) (by omega)
  have h' := slice_closed (n := 6) (i := 5) (l := lastN l goal + 1) (c := lastN l goal + 1) (by omega)
  exact ⟨plainL_closed (stonesC_plain l), fun x hx => by simp at hx, plainL_closed rfl, plainL_closed rfl, ⟨by simp [benchC, closedL, closed, h.1, h'.1], by simp [benchC, okL, okV, h.2, h'.2]⟩, plainL_closed (rowsC_plain _ _ _), trivial⟩
theorem hc_q7 (l : List Sn) (e goal : Ed) (qs : List (List Int)) (c : Nat) (cs : List Value) (hcs : plainL cs = true) : HClosed 7 [.ro (stonesC l), .deep (rowsQ qs) [], .rw e.cells, .rw goal.cells, .rw (benchC goal (.slice (some ⟨0, 0, none⟩) l.length c) (.slice (some ⟨5, 0, none⟩) (lastN l goal + 1) (lastN l goal + 1))), .rw (rowsC l goal (lastN l goal + 1)), .gr cs 78] := by
  have h := slice_closed (n := 7) (i := 0) (l := l.length) (c := c) (by omega)
  have h' := slice_closed (n := 7) (i := 5) (l := lastN l goal + 1) (c := lastN l goal + 1) (by omega)
  exact ⟨plainL_closed (stonesC_plain l), fun x hx => by simp at hx, plainL_closed rfl, plainL_closed rfl, ⟨by simp [benchC, closedL, closed, h.1, h'.1], by simp [benchC, okL, okV, h.2, h'.2]⟩, plainL_closed (rowsC_plain _ _ _), plainL_closed hcs, trivial⟩
theorem rimChk_ok (l : List Sn) (e goal : Ed) (qs : List (List Int)) (c c2 : Nat) (hN : l.length ≤ 1000000) (hM : qs.length ≤ 9223372036854775807) (hQ : ∀ i < qs.length, (gq qs i).length ≤ 1000000) :
    Ev Try.prog 28 [.slice (some ⟨0, 0, none⟩) l.length c, e.val, goal.val, .slice (some ⟨1, 0, none⟩) qs.length c2] [.ro (stonesC l), .deep (rowsQ qs) []] (.int .i64 (chkE l e goal qs)) [.ro (stonesC l), .deep (rowsQ qs) []] := by
  by_cases ha : askE l e goal = 0
  · obtain ⟨g1, g2, g3⟩ := askE_zero ha
    obtain ⟨_, _, hl⟩ := boxE_zero g1
    have hopen := open_evOk (σ := [.ro (stonesC l), .deep (rowsQ qs) [], .rw e.cells, .rw goal.cells]) (l := l) (e := e) (goal := goal) (x := 0) (c := c) (.inl rfl) ha hN rfl
    by_cases h8 : (qs.length : Int) > 800
    · rw [chk_6 ha (by omega)]
      refine acall_intro 2 87 Try.func28 rfl rfl rfl rfl rfl ?_
      repeat' (first | (refine gU ?_; first | (refine gMove ?_; refine st (ok_move rfl) rfl rfl ?_) | (refine gAssign ?_; refine st (ok_assign rfl) rfl rfl ?_) | (refine gLoad ?_; refine st (ok_loadA rfl (by rfl)) rfl rfl ?_) | (refine gBin ?_; refine st (ok_bin rfl rfl rfl) rfl rfl ?_) | (refine gLen ?_; refine st (ok_len rfl) rfl rfl ?_) | (refine gExtract ?_; refine st (ok_extract rfl rfl) rfl rfl ?_) | (refine gCall ?_; refine st (ok_call rfl rfl rfl (by exact hopen)) rfl rfl ?_) | (refine gBox ?_; refine st (ok_box rfl) rfl rfl ?_)) | refine W_seq ?_ | refine W_region ?_ | refine st_nil ?_ | refine tq_n ?_ | refine tq_r ?_ | refine bq_r ?_ | refine W_ret ?_ | refine W_block ?_ | refine W_condTA rfl ?_ | refine W_condFA rfl ?_)
      exact ret0 (.tmp rfl .nil) (.plain rfl rfl) ⟨rfl, rfl⟩
    · have h8' : ¬ qs.length > 800 := by omega
      refine acall_intro 2 87 Try.func28 rfl rfl rfl rfl rfl ?_
      repeat' (first | (refine gU ?_; first | (refine gMove ?_; refine st (ok_move rfl) rfl rfl ?_) | (refine gAssign ?_; refine st (ok_assign rfl) rfl rfl ?_) | (refine gLoad ?_; refine st (ok_loadA rfl (by rfl)) rfl rfl ?_) | (refine gBin ?_; refine st (ok_bin rfl rfl rfl) rfl rfl ?_) | (refine gLen ?_; refine st (ok_len rfl) rfl rfl ?_) | (refine gExtract ?_; refine st (ok_extract rfl rfl) rfl rfl ?_) | (refine gCall ?_; refine st (ok_call rfl rfl rfl (by exact hopen)) rfl rfl ?_) | (refine gBox ?_; refine st (ok_box rfl) rfl rfl ?_)) | refine W_seq ?_ | refine W_region ?_ | refine st_nil ?_ | refine tq_n ?_ | refine bq_n ?_ | refine W_skip ?_ | refine W_block ?_ | refine W_condFA rfl ?_)
      refine W_loopS (ι := Nat) (fun i => [(3, .slice (some ⟨1, 0, none⟩) qs.length c2), (5, .pointer (some ⟨2, 0, none⟩)), (9, .pointer (some ⟨4, 0, none⟩)), (33, .slice (some ⟨1, 0, none⟩) qs.length c2), (34, .int .i64 (qs.length : Int)), (11, slvV 6 7 i), (35, .int .i64 (i : Int))]) (fun i => [.ro (stonesC l), .deep (rowsQ qs) [], .rw e.cells, .rw goal.cells, .rw (benchC goal (.slice (some ⟨0, 0, none⟩) l.length c) (.slice (some ⟨5, 0, none⟩) (lastN l goal + 1) (lastN l goal + 1))), .rw (rowsC l goal (lastN l goal + 1)), .gr (rowsF qs i) 78]) (fun i => qs.length - i) (fun i => i ≤ qs.length ∧ ∀ j < i, isRowP (gq qs j)) 0 (by simp)
        (StRef.src [.ro (stonesC l), .deep (rowsQ qs) [], .rw e.cells, .rw goal.cells, .rw (benchC goal (.slice (some ⟨0, 0, none⟩) l.length c) (.slice (some ⟨5, 0, none⟩) (lastN l goal + 1) (lastN l goal + 1))), .rw (rowsC l goal (lastN l goal + 1))] [.gr [] 78] [6] (by simp) rfl (hc_q6 l e goal qs c) rfl rfl ⟨osub_gr0, trivial⟩ (by (repeat' (first | exact trivial | refine ⟨er_plain rfl rfl, ?_⟩ | refine ⟨er_closed (m := 6) rfl (fun i hi => srcR_lt hi) (by simp) (by first | rfl | exact closed_slice rfl) rfl, ?_⟩)))) ⟨by omega, fun j hj => by omega⟩ ?_
      clear hopen
      rintro i ⟨hi, hrow⟩
      have h7 : ∀ j < i, (gq qs j).length = 7 := fun j hj => (hrow j hj).1
      have hil2 := rowsF_len h7
      by_cases hil : i < qs.length
      · have hil' : (i : Int) < (qs.length : Int) := by omega
        refine W_open 1 i rfl (rowsQ_get hil) (ints_plain _) ?_
        rw [ints_length]
        refine W_cut [(3, .slice (some ⟨1, 0, none⟩) qs.length c2), (5, .pointer (some ⟨2, 0, none⟩)), (9, .pointer (some ⟨4, 0, none⟩)), (33, .slice (some ⟨1, 0, none⟩) qs.length c2), (34, .int .i64 (qs.length : Int)), (11, slvV 6 7 i), (35, .int .i64 (i : Int))] [.ro (stonesC l), .deep (rowsQ qs) [(i, .slice (some ⟨7, 0, none⟩) (gq qs i).length (gq qs i).length)], .rw e.cells, .rw goal.cells, .rw (benchC goal (.slice (some ⟨0, 0, none⟩) l.length c) (.slice (some ⟨5, 0, none⟩) (lastN l goal + 1) (lastN l goal + 1))), .rw (rowsC l goal (lastN l goal + 1)), .gr (rowsF qs i) 78, .ro (ints (gq qs i))] rfl ⟨rfl, rfl, rfl, rfl, rfl, rfl, rfl, trivial⟩ ?_
        have hc1 : cellGet [.ro (stonesC l), .deep (rowsQ qs) [(i, .slice (some ⟨7, 0, none⟩) (gq qs i).length (gq qs i).length)], .rw e.cells, .rw goal.cells, .rw (benchC goal (.slice (some ⟨0, 0, none⟩) l.length c) (.slice (some ⟨5, 0, none⟩) (lastN l goal + 1) (lastN l goal + 1))), .rw (rowsC l goal (lastN l goal + 1)), .gr (rowsF qs i) 78, .ro (ints (gq qs i))] 1 i = some (.slice (some ⟨7, 0, none⟩) (gq qs i).length (gq qs i).length) := by simp [cellGet, spGet]
        have htr := toRow_ev (σ := [.ro (stonesC l), .deep (rowsQ qs) [(i, .slice (some ⟨7, 0, none⟩) (gq qs i).length (gq qs i).length)], .rw e.cells, .rw goal.cells, .rw (benchC goal (.slice (some ⟨0, 0, none⟩) l.length c) (.slice (some ⟨5, 0, none⟩) (lastN l goal + 1) (lastN l goal + 1))), .rw (rowsC l goal (lastN l goal + 1)), .gr (rowsF qs i) 78, .ro (ints (gq qs i))]) (q := gq qs i) (x := 7) (c := (gq qs i).length) (.inl rfl) (hQ i hil) rfl
        by_cases hr : isRowP (gq qs i)
        · rw [decide_eq_true hr, (rowOf_good hr).1] at htr
          have hrow2 : ∀ j < i + 1, isRowP (gq qs j) := fun j hj => by
            by_cases hji : j = i
            · subst hji; exact hr
            · exact hrow j (by omega)
          have hrc : rowC (gi (gq qs i)) = ints (gq qs i) := rowC_gi' hr.1
          have hF : rowsF qs (i + 1) = rowsF qs i ++ rowC (gi (gq qs i)) := by rw [hrc]; rfl
          have hlen : i + 1 = i + 1 := rfl
          repeat' (first | (refine gU ?_; first | (refine gMove ?_; refine st (ok_move rfl) rfl rfl ?_) | (refine gAssign ?_; refine st (ok_assign rfl) rfl rfl ?_) | (refine gLoad ?_; first | refine st (ok_load rfl (by exact hc1)) rfl rfl ?_ | refine st (ok_loadA rfl (by rfl)) rfl rfl ?_) | (refine gAdd ?_; refine st (ok_inc rfl rfl (by omega)) rfl rfl ?_) | (refine gBin ?_; refine st (ok_bin rfl rfl rfl) rfl rfl ?_) | (refine gNot ?_; refine st (ok_not' rfl) rfl rfl ?_) | (refine gExtract ?_; refine st (ok_extract rfl rfl) rfl rfl ?_) | (refine gIA ?_; refine st (ok_idxN rfl rfl (by omega)) rfl rfl ?_) | (refine gCall ?_; refine st (ok_call rfl rfl rfl (by exact htr)) rfl rfl ?_) | (refine gAlloc ?_; refine st (ok_alloc rfl) rfl rfl ?_) | (refine gBuildS ?_; refine st (ok_buildS (by rfl) (by rfl) (by rfl) (by rfl) rfl (by rfl)) rfl rfl ?_) | (refine gApp ?_; refine st (ok_appendV (by rfl) (by rfl) rfl (by rfl) (by exact hil2) rfl (by rfl) (by omega) (by rfl) (by omega) (by omega)) rfl rfl ?_) | (refine gStore ?_; refine stN (ok_store rfl rfl rfl rfl (by rfl)) rfl ?_)) | refine W_seq ?_ | refine W_region ?_ | refine st_nil ?_ | refine tq_n ?_ | refine bq_n ?_ | refine W_skip ?_ | refine W_block ?_ | refine W_condTA rfl ?_ | refine W_condFA rfl ?_)
          exact ⟨rfl, i + 1, ⟨by omega, hrow2⟩, by omega, .srcD (j := 1) rfl [.ro (stonesC l), .deep (rowsQ qs) [], .rw e.cells, .rw goal.cells, .rw (benchC goal (.slice (some ⟨0, 0, none⟩) l.length c) (.slice (some ⟨5, 0, none⟩) (lastN l goal + 1) (lastN l goal + 1))), .rw (rowsC l goal (lastN l goal + 1))] [.gr (rowsF qs (i + 1)) 78] [10] (by simp) rfl (hc_q6 l e goal qs c) rfl rfl ⟨osub_gr rfl (by rw [hF]; rfl) (rowsF_plain _ _), trivial⟩ (by (repeat' (first | exact trivial | refine ⟨er_plain rfl rfl, ?_⟩ | refine ⟨er_closed (m := 6) rfl (fun i hi => srcR_lt hi) (by simp) (by first | rfl | exact closed_slice rfl) rfl, ?_⟩ | refine ⟨er_slvV rfl (by simp) rfl, ?_⟩)))⟩
        · rw [decide_eq_false hr] at htr
          rw [chk_3 ha h8' hil hr]
          repeat' (first | (refine gU ?_; first | (refine gMove ?_; refine st (ok_move rfl) rfl rfl ?_) | (refine gAssign ?_; refine st (ok_assign rfl) rfl rfl ?_) | (refine gLoad ?_; refine st (ok_load rfl (by exact hc1)) rfl rfl ?_) | (refine gBin ?_; refine st (ok_bin rfl rfl rfl) rfl rfl ?_) | (refine gNot ?_; refine st (ok_not' rfl) rfl rfl ?_) | (refine gExtract ?_; refine st (ok_extract rfl rfl) rfl rfl ?_) | (refine gIA ?_; refine st (ok_idxN rfl rfl (by omega)) rfl rfl ?_) | (refine gCall ?_; refine st (ok_call rfl rfl rfl (by exact htr)) rfl rfl ?_) | (refine gAlloc ?_; refine st (ok_alloc rfl) rfl rfl ?_) | (refine gStore ?_; refine stN (ok_store rfl rfl rfl rfl (by rfl)) rfl ?_)) | refine W_seq ?_ | refine W_region ?_ | refine st_nil ?_ | refine tq_n ?_ | refine tq_r ?_ | refine bq_r ?_ | refine W_skip ?_ | refine W_ret ?_ | refine W_block ?_ | refine W_condTA rfl ?_)
          exact ret0 (.tmp rfl .nil) (.plainD (j := 1) rfl rfl rfl) ⟨rfl, rfl⟩
      · obtain rfl : i = qs.length := by omega
        have h7' : ∀ i < qs.length, ∀ b < 7, -1 ≤ gi (gq qs i) b ∧ gi (gq qs i) b ≤ 100 := fun i hi => (rowOf_good (hrow i hi)).2
        have h7g : ∀ j < qs.length, (gq qs j).length = 7 := h7
        repeat' (first | (refine gU ?_; first | (refine gMove ?_; refine st (ok_move rfl) rfl rfl ?_) | (refine gBin ?_; refine st (ok_bin rfl rfl rfl) rfl rfl ?_) | (refine gLen ?_; refine st (ok_lenV rfl) rfl rfl ?_)) | refine W_seq ?_ | refine W_region ?_ | refine st_nil ?_ | refine tq_n ?_ | refine tq_e ?_ | refine bq_hit rfl ?_ | refine W_exit ?_ | refine W_block ?_ | refine W_condFA rfl ?_)
        refine W_loopS (ι := Nat) (fun i => [(5, .pointer (some ⟨2, 0, none⟩)), (9, .pointer (some ⟨4, 0, none⟩)), (11, slvV 6 7 qs.length), (51, slvV 6 7 qs.length), (52, .int .i64 (qs.length : Int)), (53, .int .i64 (i : Int))]) (fun _ => [.ro (stonesC l), .deep (rowsQ qs) [], .rw e.cells, .rw goal.cells, .rw (benchC goal (.slice (some ⟨0, 0, none⟩) l.length c) (.slice (some ⟨5, 0, none⟩) (lastN l goal + 1) (lastN l goal + 1))), .rw (rowsC l goal (lastN l goal + 1)), .gr (rowsF qs qs.length) 78]) (fun i => qs.length - i) (fun i => i ≤ qs.length ∧ ∀ j < i, ¬ badQ l e goal qs j) 0 (by simp) (.same ⟨rfl, rfl, rfl, rfl, rfl, rfl, trivial⟩) ⟨by omega, fun j hj => by omega⟩ ?_
        clear hil hi
        rintro i ⟨hi, hnb⟩
        by_cases hil : i < qs.length
        · have hil' : (i : Int) < (qs.length : Int) := by omega
          have hb := h7' i hil
          have hc1 : cellsAt [.ro (stonesC l), .deep (rowsQ qs) [], .rw e.cells, .rw goal.cells, .rw (benchC goal (.slice (some ⟨0, 0, none⟩) l.length c) (.slice (some ⟨5, 0, none⟩) (lastN l goal + 1) (lastN l goal + 1))), .rw (rowsC l goal (lastN l goal + 1)), .gr (rowsF qs qs.length) 78] 6 (i * 7) 7 = some (rowC (gi (gq qs i))) := rowsF_cells rfl h7g hil
          have hcov := covers_ev (σ := [.ro (stonesC l), .deep (rowsQ qs) [], .rw e.cells, .rw goal.cells, .rw (benchC goal (.slice (some ⟨0, 0, none⟩) l.length c) (.slice (some ⟨5, 0, none⟩) (lastN l goal + 1) (lastN l goal + 1))), .rw (rowsC l goal (lastN l goal + 1)), .gr (rowsF qs qs.length) 78, .rw (rowC (gi (gq qs i)))]) (l := l) (goal := goal) (p := 4) (x := 0) (y := 5) (c := c) (f := gi (gq qs i)) ⟨.inr (.inl rfl), .inl rfl, .inr (.inl rfl)⟩ g3 rfl
          have hnext : ¬ badQ l e goal qs i → ∀ j < i + 1, ¬ badQ l e goal qs j := fun h j hj => by
            by_cases hji : j = i
            · subst hji; exact h
            · exact hnb j (by omega)
          by_cases hin : inR (gi (gq qs i)) e
          · have hbad : badQ l e goal qs i := .inr (.inr hin)
            rw [chk_14 ha h8' hrow hil hbad]
            by_cases hi0 : i = 0
            · subst hi0
              generalize gi (gq qs 0) = f at *
              by_cases hcv : coversP goal f
              · have hcv' : ¬ ¬ coversP goal f := fun h => h hcv
                repeat' (first | (refine gU ?_; first | refine st (ok_idxSVI rfl rfl (by omega) (by omega)) rfl rfl ?_ | (refine gMove ?_; refine st (ok_move rfl) rfl rfl ?_) | (refine gAssign ?_; refine st (ok_assign rfl) rfl rfl ?_) | (refine gLoad ?_; refine st (ok_loadA rfl (by exact hc1)) rfl rfl ?_) | (refine gBin ?_; refine st (ok_bin rfl rfl rfl) rfl rfl ?_) | (refine gAlloc ?_; refine st (ok_alloc rfl) rfl rfl ?_) | (refine gStore ?_; refine stN (ok_store rfl rfl rfl rfl (by rfl)) rfl ?_)) | (refine fU ?_; first | (refine fMove ?_; refine frA (ok_move rfl) rfl ?_) | (refine fBin ?_; refine frA (ok_bin rfl rfl rfl) rfl ?_) | (refine fPick ?_; first | refine frA (ok_pickTA rfl rfl) rfl ?_ | refine frA (ok_pickFA rfl rfl) rfl ?_)) | (refine fG ?_; first | (refine fMove ?_; refine frGA rfl (ok_move rfl) rfl ?_) | (refine fLoad ?_; refine frGA rfl (ok_loadA rfl (by rfl)) rfl ?_) | (refine fBin ?_; refine frGA rfl (ok_bin rfl rfl rfl) rfl ?_) | (refine fPick ?_; refine frGA rfl (ok_pickFA rfl rfl) rfl ?_) | (refine fNot ?_; refine frGA rfl (ok_notD rfl) rfl ?_) | (refine fCall ?_; refine frGA rfl (ok_call rfl rfl rfl (by first | exact hcov | exact has_ev g2 rfl)) rfl ?_) | refine frSA rfl rfl ?_) | (refine fr_stop ⟨by kernel_rfl, ?_⟩) | refine W_seq ?_ | refine W_region ?_ | refine W_regionD (by kernel_rfl) rfl ?_ | refine st_nil ?_ | refine tq_n ?_ | refine tq_r ?_ | refine bq_r ?_ | refine W_skip ?_ | refine W_ret ?_ | refine W_block ?_ | refine W_condTA rfl ?_)
                exact ret0 (.tmp rfl .nil) (.plain rfl rfl) ⟨rfl, rfl⟩
              · repeat' (first | (refine gU ?_; first | refine st (ok_idxSVI rfl rfl (by omega) (by omega)) rfl rfl ?_ | (refine gMove ?_; refine st (ok_move rfl) rfl rfl ?_) | (refine gAssign ?_; refine st (ok_assign rfl) rfl rfl ?_) | (refine gLoad ?_; refine st (ok_loadA rfl (by exact hc1)) rfl rfl ?_) | (refine gBin ?_; refine st (ok_bin rfl rfl rfl) rfl rfl ?_) | (refine gAlloc ?_; refine st (ok_alloc rfl) rfl rfl ?_) | (refine gStore ?_; refine stN (ok_store rfl rfl rfl rfl (by rfl)) rfl ?_)) | (refine fU ?_; first | (refine fMove ?_; refine frA (ok_move rfl) rfl ?_) | (refine fBin ?_; refine frA (ok_bin rfl rfl rfl) rfl ?_) | (refine fPick ?_; refine frA (ok_pickTA rfl rfl) rfl ?_)) | (refine fG ?_; first | (refine fMove ?_; refine frGA rfl (ok_move rfl) rfl ?_) | (refine fLoad ?_; refine frGA rfl (ok_loadA rfl (by rfl)) rfl ?_) | (refine fNot ?_; refine frGA rfl (ok_notD rfl) rfl ?_) | (refine fCall ?_; refine frGA rfl (ok_call rfl rfl rfl (by exact hcov)) rfl ?_) | refine frSU rfl rfl ?_ | refine frSA rfl rfl ?_) | (refine fr_stop ⟨by kernel_rfl, ?_⟩) | refine W_seq ?_ | refine W_region ?_ | refine W_regionD (by kernel_rfl) rfl ?_ | refine st_nil ?_ | refine tq_n ?_ | refine tq_r ?_ | refine bq_r ?_ | refine W_skip ?_ | refine W_ret ?_ | refine W_block ?_ | refine W_condTA rfl ?_)
                exact ret0 (.tmp rfl .nil) (.plain rfl rfl) ⟨rfl, rfl⟩
            · have hc2 : cellsAt [.ro (stonesC l), .deep (rowsQ qs) [], .rw e.cells, .rw goal.cells, .rw (benchC goal (.slice (some ⟨0, 0, none⟩) l.length c) (.slice (some ⟨5, 0, none⟩) (lastN l goal + 1) (lastN l goal + 1))), .rw (rowsC l goal (lastN l goal + 1)), .gr (rowsF qs qs.length) 78, .rw (rowC (gi (gq qs i)))] 6 (((i : Int) - 1).toNat * 7) 7 = some (rowC (gi (gq qs (i - 1)))) := by
                rw [show ((i : Int) - 1).toNat = i - 1 by omega]; exact rowsF_cells rfl h7g (by omega)
              have hlv := leaves_ev (σ := [.ro (stonesC l), .deep (rowsQ qs) [], .rw e.cells, .rw goal.cells, .rw (benchC goal (.slice (some ⟨0, 0, none⟩) l.length c) (.slice (some ⟨5, 0, none⟩) (lastN l goal + 1) (lastN l goal + 1))), .rw (rowsC l goal (lastN l goal + 1)), .gr (rowsF qs qs.length) 78, .rw (rowC (gi (gq qs i)))]) (l := l) (goal := goal) (p := 4) (x := 0) (y := 5) (c := c) (f := gi (gq qs i)) (g := gi (gq qs (i - 1))) ⟨.inr (.inl rfl), .inl rfl, .inr (.inl rfl)⟩ hb hl hN rfl
              generalize gi (gq qs i) = f at *
              generalize gi (gq qs (i - 1)) = g at *
              by_cases hlp : lvP l f g
              · have hlp' : ¬ ¬ lvP l f g := fun h => h hlp
                repeat' (first | (refine gU ?_; first | refine st (ok_idxSVI rfl rfl (by omega) (by omega)) rfl rfl ?_ | (refine gMove ?_; refine st (ok_move rfl) rfl rfl ?_) | (refine gAssign ?_; refine st (ok_assign rfl) rfl rfl ?_) | (refine gLoad ?_; refine st (ok_loadA rfl (by exact hc1)) rfl rfl ?_) | (refine gBin ?_; refine st (ok_bin rfl rfl rfl) rfl rfl ?_) | (refine gAlloc ?_; refine st (ok_alloc rfl) rfl rfl ?_) | (refine gStore ?_; refine stN (ok_store rfl rfl rfl rfl (by rfl)) rfl ?_)) | (refine fU ?_; first | (refine fMove ?_; refine frA (ok_move rfl) rfl ?_) | (refine fBin ?_; refine frA (ok_bin rfl rfl rfl) rfl ?_) | (refine fPick ?_; refine frA (ok_pickFA rfl rfl) rfl ?_)) | (refine fG ?_; first | refine frGA rfl (ok_idxSVI rfl rfl (by omega) (by omega)) rfl ?_ | (refine fMove ?_; refine frGA rfl (ok_move rfl) rfl ?_) | (refine fLoad ?_; refine frGA rfl (ok_loadA rfl (by first | rfl | exact hc2)) rfl ?_) | (refine fSub ?_; refine frGA rfl (ok_sub rfl rfl (by omega) (by omega)) rfl ?_) | (refine fBin ?_; refine frGA rfl (ok_bin rfl rfl rfl) rfl ?_) | (refine fPick ?_; refine frGA rfl (ok_pickTA rfl rfl) rfl ?_) | (refine fNot ?_; refine frGA rfl (ok_notD rfl) rfl ?_) | (refine fCall ?_; refine frGA rfl (ok_call rfl rfl rfl (by first | exact hlv | exact has_ev g2 rfl)) rfl ?_) | refine frSA rfl rfl ?_) | (refine fr_stop ⟨by kernel_rfl, ?_⟩) | refine W_seq ?_ | refine W_region ?_ | refine W_regionD (by kernel_rfl) rfl ?_ | refine st_nil ?_ | refine tq_n ?_ | refine tq_r ?_ | refine bq_r ?_ | refine W_skip ?_ | refine W_ret ?_ | refine W_block ?_ | refine W_condTA rfl ?_)
                exact ret0 (.tmp rfl .nil) (.plain rfl rfl) ⟨rfl, rfl⟩
              · repeat' (first | (refine gU ?_; first | refine st (ok_idxSVI rfl rfl (by omega) (by omega)) rfl rfl ?_ | (refine gMove ?_; refine st (ok_move rfl) rfl rfl ?_) | (refine gAssign ?_; refine st (ok_assign rfl) rfl rfl ?_) | (refine gLoad ?_; refine st (ok_loadA rfl (by exact hc1)) rfl rfl ?_) | (refine gBin ?_; refine st (ok_bin rfl rfl rfl) rfl rfl ?_) | (refine gAlloc ?_; refine st (ok_alloc rfl) rfl rfl ?_) | (refine gStore ?_; refine stN (ok_store rfl rfl rfl rfl (by rfl)) rfl ?_)) | (refine fU ?_; first | (refine fMove ?_; refine frA (ok_move rfl) rfl ?_) | (refine fBin ?_; refine frA (ok_bin rfl rfl rfl) rfl ?_) | (refine fPick ?_; first | refine frA (ok_pickTA rfl rfl) rfl ?_ | refine frA (ok_pickFA rfl rfl) rfl ?_)) | (refine fG ?_; first | refine frGA rfl (ok_idxSVI rfl rfl (by omega) (by omega)) rfl ?_ | (refine fMove ?_; refine frGA rfl (ok_move rfl) rfl ?_) | (refine fLoad ?_; refine frGA rfl (ok_loadA rfl (by first | rfl | exact hc2)) rfl ?_) | (refine fSub ?_; refine frGA rfl (ok_sub rfl rfl (by omega) (by omega)) rfl ?_) | (refine fBin ?_; refine frGA rfl (ok_bin rfl rfl rfl) rfl ?_) | (refine fPick ?_; refine frGA rfl (ok_pickTA rfl rfl) rfl ?_) | (refine fNot ?_; refine frGA rfl (ok_notD rfl) rfl ?_) | (refine fCall ?_; refine frGA rfl (ok_call rfl rfl rfl (by exact hlv)) rfl ?_) | refine frSA rfl rfl ?_) | (refine fr_stop ⟨by kernel_rfl, ?_⟩) | refine W_seq ?_ | refine W_region ?_ | refine W_regionD (by kernel_rfl) rfl ?_ | refine st_nil ?_ | refine tq_n ?_ | refine tq_r ?_ | refine bq_r ?_ | refine W_skip ?_ | refine W_ret ?_ | refine W_block ?_ | refine W_condTA rfl ?_)
                exact ret0 (.tmp rfl .nil) (.plain rfl rfl) ⟨rfl, rfl⟩
          · by_cases hi0 : i = 0
            · subst hi0
              by_cases hcv : coversP goal (gi (gq qs 0))
              · have hcv' : ¬ ¬ coversP goal (gi (gq qs 0)) := fun h => h hcv
                have hnx := hnext (by rintro (⟨_, h⟩ | ⟨h, _⟩ | h); exact h hcv; omega; exact hin h)
                clear hnext
                generalize gi (gq qs 0) = f at *
                repeat' (first | (refine gU ?_; first | refine st (ok_idxSVI rfl rfl (by omega) (by omega)) rfl rfl ?_ | (refine gMove ?_; refine st (ok_move rfl) rfl rfl ?_) | (refine gAssign ?_; refine st (ok_assign rfl) rfl rfl ?_) | (refine gLoad ?_; refine st (ok_loadA rfl (by exact hc1)) rfl rfl ?_) | (refine gAdd ?_; refine st (ok_inc rfl rfl (by omega)) rfl rfl ?_) | (refine gBin ?_; refine st (ok_bin rfl rfl rfl) rfl rfl ?_) | (refine gAlloc ?_; refine st (ok_alloc rfl) rfl rfl ?_) | (refine gStore ?_; refine stN (ok_store rfl rfl rfl rfl (by rfl)) rfl ?_)) | (refine fU ?_; first | (refine fMove ?_; refine frA (ok_move rfl) rfl ?_) | (refine fBin ?_; refine frA (ok_bin rfl rfl rfl) rfl ?_) | (refine fPick ?_; first | refine frA (ok_pickTA rfl rfl) rfl ?_ | refine frA (ok_pickFA rfl rfl) rfl ?_)) | (refine fG ?_; first | (refine fMove ?_; refine frGA rfl (ok_move rfl) rfl ?_) | (refine fLoad ?_; refine frGA rfl (ok_loadA rfl (by rfl)) rfl ?_) | (refine fBin ?_; refine frGA rfl (ok_bin rfl rfl rfl) rfl ?_) | (refine fPick ?_; refine frGA rfl (ok_pickFA rfl rfl) rfl ?_) | (refine fNot ?_; refine frGA rfl (ok_notD rfl) rfl ?_) | (refine fCall ?_; refine frGA rfl (ok_call rfl rfl rfl (by first | exact hcov | exact has_ev g2 rfl)) rfl ?_) | refine frSA rfl rfl ?_) | (refine fr_stop ⟨by kernel_rfl, ?_⟩) | refine W_seq ?_ | refine W_region ?_ | refine W_regionD (by kernel_rfl) rfl ?_ | refine st_nil ?_ | refine tq_n ?_ | refine bq_n ?_ | refine W_skip ?_ | refine W_block ?_ | refine W_condTA rfl ?_ | refine W_condFA rfl ?_)
                exact ⟨rfl, 1, ⟨by omega, hnx⟩, by omega, StRef.drop [.ro (stonesC l), .deep (rowsQ qs) [], .rw e.cells, .rw goal.cells, .rw (benchC goal (.slice (some ⟨0, 0, none⟩) l.length c) (.slice (some ⟨5, 0, none⟩) (lastN l goal + 1) (lastN l goal + 1))), .rw (rowsC l goal (lastN l goal + 1)), .gr (rowsF qs qs.length) 78] [_] (by simp) (hc_q7 l e goal qs c _ (rowsF_plain _ _)) (by (repeat' (first | exact trivial | exact ⟨rfl, rfl, rfl⟩ | exact ⟨rfl, closed_slvV rfl, okV_slv⟩ | refine ⟨?_, ?_⟩)))⟩
              · rw [chk_14 ha h8' hrow hil (.inl ⟨rfl, hcv⟩)]
                clear hnext
                generalize gi (gq qs 0) = f at *
                repeat' (first | (refine gU ?_; first | refine st (ok_idxSVI rfl rfl (by omega) (by omega)) rfl rfl ?_ | (refine gMove ?_; refine st (ok_move rfl) rfl rfl ?_) | (refine gAssign ?_; refine st (ok_assign rfl) rfl rfl ?_) | (refine gLoad ?_; refine st (ok_loadA rfl (by exact hc1)) rfl rfl ?_) | (refine gBin ?_; refine st (ok_bin rfl rfl rfl) rfl rfl ?_) | (refine gAlloc ?_; refine st (ok_alloc rfl) rfl rfl ?_) | (refine gStore ?_; refine stN (ok_store rfl rfl rfl rfl (by rfl)) rfl ?_)) | (refine fU ?_; first | (refine fMove ?_; refine frA (ok_move rfl) rfl ?_) | (refine fBin ?_; refine frA (ok_bin rfl rfl rfl) rfl ?_) | (refine fPick ?_; refine frA (ok_pickTA rfl rfl) rfl ?_)) | (refine fG ?_; first | (refine fMove ?_; refine frGA rfl (ok_move rfl) rfl ?_) | (refine fLoad ?_; refine frGA rfl (ok_loadA rfl (by rfl)) rfl ?_) | (refine fNot ?_; refine frGA rfl (ok_notD rfl) rfl ?_) | (refine fCall ?_; refine frGA rfl (ok_call rfl rfl rfl (by exact hcov)) rfl ?_) | refine frSU rfl rfl ?_ | refine frSA rfl rfl ?_) | (refine fr_stop ⟨by kernel_rfl, ?_⟩) | refine W_seq ?_ | refine W_region ?_ | refine W_regionD (by kernel_rfl) rfl ?_ | refine st_nil ?_ | refine tq_n ?_ | refine tq_r ?_ | refine bq_r ?_ | refine W_skip ?_ | refine W_ret ?_ | refine W_block ?_ | refine W_condTA rfl ?_)
                exact ret0 (.tmp rfl .nil) (.plain rfl rfl) ⟨rfl, rfl⟩
            · have hc2 : cellsAt [.ro (stonesC l), .deep (rowsQ qs) [], .rw e.cells, .rw goal.cells, .rw (benchC goal (.slice (some ⟨0, 0, none⟩) l.length c) (.slice (some ⟨5, 0, none⟩) (lastN l goal + 1) (lastN l goal + 1))), .rw (rowsC l goal (lastN l goal + 1)), .gr (rowsF qs qs.length) 78, .rw (rowC (gi (gq qs i)))] 6 (((i : Int) - 1).toNat * 7) 7 = some (rowC (gi (gq qs (i - 1)))) := by
                rw [show ((i : Int) - 1).toNat = i - 1 by omega]; exact rowsF_cells rfl h7g (by omega)
              have hlv := leaves_ev (σ := [.ro (stonesC l), .deep (rowsQ qs) [], .rw e.cells, .rw goal.cells, .rw (benchC goal (.slice (some ⟨0, 0, none⟩) l.length c) (.slice (some ⟨5, 0, none⟩) (lastN l goal + 1) (lastN l goal + 1))), .rw (rowsC l goal (lastN l goal + 1)), .gr (rowsF qs qs.length) 78, .rw (rowC (gi (gq qs i)))]) (l := l) (goal := goal) (p := 4) (x := 0) (y := 5) (c := c) (f := gi (gq qs i)) (g := gi (gq qs (i - 1))) ⟨.inr (.inl rfl), .inl rfl, .inr (.inl rfl)⟩ hb hl hN rfl
              by_cases hlp : lvP l (gi (gq qs i)) (gi (gq qs (i - 1)))
              · have hnx := hnext (by rintro (⟨h, _⟩ | ⟨_, h⟩ | h); exact hi0 h; exact h hlp; exact hin h)
                have hlp' : ¬ ¬ lvP l (gi (gq qs i)) (gi (gq qs (i - 1))) := fun h => h hlp
                clear hnext
                generalize gi (gq qs i) = f at *
                generalize gi (gq qs (i - 1)) = g at *
                repeat' (first | (refine gU ?_; first | refine st (ok_idxSVI rfl rfl (by omega) (by omega)) rfl rfl ?_ | (refine gMove ?_; refine st (ok_move rfl) rfl rfl ?_) | (refine gAssign ?_; refine st (ok_assign rfl) rfl rfl ?_) | (refine gLoad ?_; refine st (ok_loadA rfl (by exact hc1)) rfl rfl ?_) | (refine gAdd ?_; refine st (ok_inc rfl rfl (by omega)) rfl rfl ?_) | (refine gBin ?_; refine st (ok_bin rfl rfl rfl) rfl rfl ?_) | (refine gAlloc ?_; refine st (ok_alloc rfl) rfl rfl ?_) | (refine gStore ?_; refine stN (ok_store rfl rfl rfl rfl (by rfl)) rfl ?_)) | (refine fU ?_; first | (refine fMove ?_; refine frA (ok_move rfl) rfl ?_) | (refine fBin ?_; refine frA (ok_bin rfl rfl rfl) rfl ?_) | (refine fPick ?_; refine frA (ok_pickFA rfl rfl) rfl ?_)) | (refine fG ?_; first | refine frGA rfl (ok_idxSVI rfl rfl (by omega) (by omega)) rfl ?_ | (refine fMove ?_; refine frGA rfl (ok_move rfl) rfl ?_) | (refine fLoad ?_; refine frGA rfl (ok_loadA rfl (by first | rfl | exact hc2)) rfl ?_) | (refine fSub ?_; refine frGA rfl (ok_sub rfl rfl (by omega) (by omega)) rfl ?_) | (refine fBin ?_; refine frGA rfl (ok_bin rfl rfl rfl) rfl ?_) | (refine fPick ?_; refine frGA rfl (ok_pickTA rfl rfl) rfl ?_) | (refine fNot ?_; refine frGA rfl (ok_notD rfl) rfl ?_) | (refine fCall ?_; refine frGA rfl (ok_call rfl rfl rfl (by first | exact hlv | exact has_ev g2 rfl)) rfl ?_) | refine frSA rfl rfl ?_) | (refine fr_stop ⟨by kernel_rfl, ?_⟩) | refine W_seq ?_ | refine W_region ?_ | refine W_regionD (by kernel_rfl) rfl ?_ | refine st_nil ?_ | refine tq_n ?_ | refine bq_n ?_ | refine W_skip ?_ | refine W_block ?_ | refine W_condTA rfl ?_ | refine W_condFA rfl ?_)
                exact ⟨rfl, i + 1, ⟨by omega, hnx⟩, by omega, StRef.drop [.ro (stonesC l), .deep (rowsQ qs) [], .rw e.cells, .rw goal.cells, .rw (benchC goal (.slice (some ⟨0, 0, none⟩) l.length c) (.slice (some ⟨5, 0, none⟩) (lastN l goal + 1) (lastN l goal + 1))), .rw (rowsC l goal (lastN l goal + 1)), .gr (rowsF qs qs.length) 78] [_] (by simp) (hc_q7 l e goal qs c _ (rowsF_plain _ _)) (by (repeat' (first | exact trivial | exact ⟨rfl, rfl, rfl⟩ | exact ⟨rfl, closed_slvV rfl, okV_slv⟩ | refine ⟨?_, ?_⟩)))⟩
              · rw [chk_14 ha h8' hrow hil (.inr (.inl ⟨by omega, hlp⟩))]
                clear hnext
                generalize gi (gq qs i) = f at *
                generalize gi (gq qs (i - 1)) = g at *
                repeat' (first | (refine gU ?_; first | refine st (ok_idxSVI rfl rfl (by omega) (by omega)) rfl rfl ?_ | (refine gMove ?_; refine st (ok_move rfl) rfl rfl ?_) | (refine gAssign ?_; refine st (ok_assign rfl) rfl rfl ?_) | (refine gLoad ?_; refine st (ok_loadA rfl (by exact hc1)) rfl rfl ?_) | (refine gBin ?_; refine st (ok_bin rfl rfl rfl) rfl rfl ?_) | (refine gAlloc ?_; refine st (ok_alloc rfl) rfl rfl ?_) | (refine gStore ?_; refine stN (ok_store rfl rfl rfl rfl (by rfl)) rfl ?_)) | (refine fU ?_; first | (refine fMove ?_; refine frA (ok_move rfl) rfl ?_) | (refine fBin ?_; refine frA (ok_bin rfl rfl rfl) rfl ?_) | (refine fPick ?_; first | refine frA (ok_pickTA rfl rfl) rfl ?_ | refine frA (ok_pickFA rfl rfl) rfl ?_)) | (refine fG ?_; first | refine frGA rfl (ok_idxSVI rfl rfl (by omega) (by omega)) rfl ?_ | (refine fMove ?_; refine frGA rfl (ok_move rfl) rfl ?_) | (refine fLoad ?_; refine frGA rfl (ok_loadA rfl (by first | rfl | exact hc2)) rfl ?_) | (refine fSub ?_; refine frGA rfl (ok_sub rfl rfl (by omega) (by omega)) rfl ?_) | (refine fBin ?_; refine frGA rfl (ok_bin rfl rfl rfl) rfl ?_) | (refine fPick ?_; refine frGA rfl (ok_pickTA rfl rfl) rfl ?_) | (refine fNot ?_; refine frGA rfl (ok_notD rfl) rfl ?_) | (refine fCall ?_; refine frGA rfl (ok_call rfl rfl rfl (by exact hlv)) rfl ?_) | refine frSA rfl rfl ?_) | (refine fr_stop ⟨by kernel_rfl, ?_⟩) | refine W_seq ?_ | refine W_region ?_ | refine W_regionD (by kernel_rfl) rfl ?_ | refine st_nil ?_ | refine tq_n ?_ | refine tq_r ?_ | refine bq_r ?_ | refine W_skip ?_ | refine W_ret ?_ | refine W_block ?_ | refine W_condTA rfl ?_)
                exact ret0 (.tmp rfl .nil) (.plain rfl rfl) ⟨rfl, rfl⟩
        · obtain rfl : i = qs.length := by omega
          rw [chk_0 ha h8' hrow hnb]
          repeat' (first | (refine gU ?_; first | (refine gAssign ?_; refine st (ok_assign rfl) rfl rfl ?_) | (refine gBin ?_; refine st (ok_bin rfl rfl rfl) rfl rfl ?_)) | refine W_seq ?_ | refine W_region ?_ | refine st_nil ?_ | refine tq_n ?_ | refine tq_e ?_ | refine bq_hit rfl ?_ | refine W_exit ?_ | refine W_ret ?_ | refine W_condFA rfl ?_)
          exact ret0 (.tmp rfl .nil) (.plain rfl rfl) ⟨rfl, rfl⟩
  · rw [chk_ask ha]
    have hopen := open_evBad (σ := [.ro (stonesC l), .deep (rowsQ qs) [], .rw e.cells, .rw goal.cells]) (l := l) (e := e) (goal := goal) (x := 0) (c := c) (.inl rfl) ha hN rfl
    refine acall_intro 2 87 Try.func28 rfl rfl rfl rfl rfl ?_
    repeat' (first | (refine gU ?_; first | (refine gMove ?_; refine st (ok_move rfl) rfl rfl ?_) | (refine gAssign ?_; refine st (ok_assign rfl) rfl rfl ?_) | (refine gLoad ?_; refine st (ok_loadA rfl (by rfl)) rfl rfl ?_) | (refine gBin ?_; refine st (ok_bin rfl rfl rfl) rfl rfl ?_) | (refine gExtract ?_; refine st (ok_extract rfl rfl) rfl rfl ?_) | (refine gCall ?_; refine st (ok_call rfl rfl rfl (by exact hopen)) rfl rfl ?_) | (refine gBox ?_; refine st (ok_box rfl) rfl rfl ?_)) | refine W_seq ?_ | refine W_region ?_ | refine st_nil ?_ | refine tq_n ?_ | refine tq_r ?_ | refine bq_r ?_ | refine W_ret ?_ | refine W_block ?_ | refine W_condTA rfl ?_)
    exact ret0 (.tmp rfl .nil) (.plain rfl rfl) ⟨rfl, rfl⟩
end Go.Proofs.Ytindbippegiopaa
namespace Go.Proofs.Ytindbippegiopaa
open Go Go.AH
attribute [local irreducible] WOps WCode WFree retQ thenQ blockQ scopeQ OpOk ACall RetRef roundA roundB
set_option maxRecDepth 100000
set_option maxHeartbeats 1000000
open Go.AH.Hone
theorem hc_r4 (l : List Sn) (e goal : Ed) (qs : List (List Int)) : HClosed 4 [.ro (stonesC l), .deep (rowsQ qs) [], .rw e.cells, .rw goal.cells] := ⟨plainL_closed (stonesC_plain l), fun x hx => by simp at hx, plainL_closed rfl, plainL_closed rfl, trivial⟩
theorem refChk_ok (l : List Sn) (e goal : Ed) (qs : List (List Int)) (c c2 : Nat) (hN : l.length ≤ 1000000) (hM : qs.length ≤ 9223372036854775807) (hQ : ∀ i < qs.length, (gq qs i).length ≤ 1000000) :
    Ev Try.prog 29 [.slice (some ⟨0, 0, none⟩) l.length c, e.val, goal.val, .slice (some ⟨1, 0, none⟩) qs.length c2] [.ro (stonesC l), .deep (rowsQ qs) []] (.int .i64 (chkE l e goal qs)) [.ro (stonesC l), .deep (rowsQ qs) []] := by
  have hask := asked_ev (σ := [.ro (stonesC l), .deep (rowsQ qs) [], .rw e.cells, .rw goal.cells]) (l := l) (e := e) (goal := goal) (x := 0) (c := c) (.inl rfl) hN rfl
  by_cases ha : askE l e goal = 0
  · obtain ⟨g1, g2, g3⟩ := askE_zero ha
    obtain ⟨_, _, hl⟩ := boxE_zero g1
    have hbe : 0 ≤ e.b ∧ e.b ≤ 6 := by unfold badEd at g2; omega
    rw [ha] at hask
    by_cases h8 : (qs.length : Int) > 800
    · rw [chk_6 ha (by omega)]
      refine acall_intro 2 82 Try.func29 rfl rfl rfl rfl rfl ?_
      repeat' (first | (refine gU ?_; first | (refine gMove ?_; refine st (ok_move rfl) rfl rfl ?_) | (refine gAssign ?_; refine st (ok_assign rfl) rfl rfl ?_) | (refine gLoad ?_; refine st (ok_loadA rfl (by rfl)) rfl rfl ?_) | (refine gBin ?_; refine st (ok_bin rfl rfl rfl) rfl rfl ?_) | (refine gLen ?_; refine st (ok_len rfl) rfl rfl ?_) | (refine gCall ?_; refine st (ok_call rfl rfl rfl (by exact hask)) rfl rfl ?_) | (refine gBox ?_; refine st (ok_box rfl) rfl rfl ?_)) | refine W_seq ?_ | refine W_region ?_ | refine st_nil ?_ | refine tq_n ?_ | refine tq_r ?_ | refine W_skip ?_ | refine W_ret ?_ | refine W_condTA rfl ?_ | refine W_condFA rfl ?_)
      exact ret0 (.tmp rfl .nil) (.plain rfl rfl) ⟨rfl, rfl⟩
    · have h8' : ¬ qs.length > 800 := by omega
      refine acall_intro 2 82 Try.func29 rfl rfl rfl rfl rfl ?_
      repeat' (first | (refine gU ?_; first | (refine gMove ?_; refine st (ok_move rfl) rfl rfl ?_) | (refine gAssign ?_; refine st (ok_assign rfl) rfl rfl ?_) | (refine gLoad ?_; refine st (ok_loadA rfl (by rfl)) rfl rfl ?_) | (refine gBin ?_; refine st (ok_bin rfl rfl rfl) rfl rfl ?_) | (refine gLen ?_; refine st (ok_len rfl) rfl rfl ?_) | (refine gCall ?_; refine st (ok_call rfl rfl rfl (by exact hask)) rfl rfl ?_) | (refine gBox ?_; refine st (ok_box rfl) rfl rfl ?_)) | refine W_seq ?_ | refine W_region ?_ | refine st_nil ?_ | refine tq_n ?_ | refine W_skip ?_ | refine W_block ?_ | refine W_condFA rfl ?_)
      refine W_loopS (ι := Nat) (fun i => [(0, .slice (some ⟨0, 0, none⟩) l.length c), (3, .slice (some ⟨1, 0, none⟩) qs.length c2), (5, .pointer (some ⟨2, 0, none⟩)), (6, .pointer (some ⟨3, 0, none⟩)), (9, .int .i64 (i : Int))]) (fun i => [.ro (stonesC l), .deep (rowsQ qs) [], .rw e.cells, .rw goal.cells]) (fun i => qs.length - i) (fun i => i ≤ qs.length ∧ ∀ j < i, isRowP (gq qs j)) 0 (by simp) (.same ⟨rfl, rfl, rfl, rfl, rfl, trivial⟩) ⟨by omega, fun j hj => by omega⟩ ?_
      clear hask
      rintro i ⟨hi, hrow⟩
      by_cases hil : i < qs.length
      · have hil' : (i : Int) < (qs.length : Int) := by omega
        refine W_open 1 i rfl (rowsQ_get hil) (ints_plain _) ?_
        rw [ints_length]
        refine W_cut [(0, .slice (some ⟨0, 0, none⟩) l.length c), (3, .slice (some ⟨1, 0, none⟩) qs.length c2), (5, .pointer (some ⟨2, 0, none⟩)), (6, .pointer (some ⟨3, 0, none⟩)), (9, .int .i64 (i : Int))] [.ro (stonesC l), .deep (rowsQ qs) [(i, .slice (some ⟨4, 0, none⟩) (gq qs i).length (gq qs i).length)], .rw e.cells, .rw goal.cells, .ro (ints (gq qs i))] rfl ⟨rfl, rfl, rfl, rfl, rfl, trivial⟩ ?_
        have hc1 : cellGet [.ro (stonesC l), .deep (rowsQ qs) [(i, .slice (some ⟨4, 0, none⟩) (gq qs i).length (gq qs i).length)], .rw e.cells, .rw goal.cells, .ro (ints (gq qs i))] 1 i = some (.slice (some ⟨4, 0, none⟩) (gq qs i).length (gq qs i).length) := by simp [cellGet, spGet]
        have hrow1 := isRow_ev (σ := [.ro (stonesC l), .deep (rowsQ qs) [(i, .slice (some ⟨4, 0, none⟩) (gq qs i).length (gq qs i).length)], .rw e.cells, .rw goal.cells, .ro (ints (gq qs i))]) (q := gq qs i) (n := (gq qs i).length) (x := 4) (c := (gq qs i).length) rfl (.inl rfl) (hQ i hil) rfl
        by_cases hr : isRowP (gq qs i)
        · rw [decide_eq_true hr] at hrow1
          have hrow2 : ∀ j < i + 1, isRowP (gq qs j) := fun j hj => by
            by_cases hji : j = i
            · subst hji; exact hr
            · exact hrow j (by omega)
          repeat' (first | (refine gU ?_; first | (refine gMove ?_; refine st (ok_move rfl) rfl rfl ?_) | (refine gAssign ?_; refine st (ok_assign rfl) rfl rfl ?_) | (refine gLoad ?_; refine st (ok_load rfl (by exact hc1)) rfl rfl ?_) | (refine gAdd ?_; refine st (ok_inc rfl rfl (by omega)) rfl rfl ?_) | (refine gBin ?_; refine st (ok_bin rfl rfl rfl) rfl rfl ?_) | (refine gLen ?_; refine st (ok_len rfl) rfl rfl ?_) | (refine gNot ?_; refine st (ok_not' rfl) rfl rfl ?_) | (refine gIA ?_; refine st (ok_idxN rfl rfl (by omega)) rfl rfl ?_) | (refine gCall ?_; refine st (ok_call rfl rfl rfl (by exact hrow1)) rfl rfl ?_)) | refine W_seq ?_ | refine W_region ?_ | refine st_nil ?_ | refine tq_n ?_ | refine bq_n ?_ | refine W_skip ?_ | refine W_block ?_ | refine W_condTA rfl ?_ | refine W_condFA rfl ?_)
          exact ⟨rfl, i + 1, ⟨by omega, hrow2⟩, by omega, .dropD (j := 1) rfl [.ro (stonesC l), .deep (rowsQ qs) [], .rw e.cells, .rw goal.cells] (by simp) rfl (hc_r4 l e goal qs) (by (repeat' (first | exact trivial | exact ⟨rfl, rfl, rfl⟩ | exact ⟨rfl, closed_slice rfl, rfl⟩ | refine ⟨?_, ?_⟩)))⟩
        · rw [decide_eq_false hr] at hrow1
          rw [chk_3 ha h8' hil hr]
          repeat' (first | (refine gU ?_; first | (refine gMove ?_; refine st (ok_move rfl) rfl rfl ?_) | (refine gAssign ?_; refine st (ok_assign rfl) rfl rfl ?_) | (refine gLoad ?_; refine st (ok_load rfl (by exact hc1)) rfl rfl ?_) | (refine gBin ?_; refine st (ok_bin rfl rfl rfl) rfl rfl ?_) | (refine gLen ?_; refine st (ok_len rfl) rfl rfl ?_) | (refine gNot ?_; refine st (ok_not' rfl) rfl rfl ?_) | (refine gIA ?_; refine st (ok_idxN rfl rfl (by omega)) rfl rfl ?_) | (refine gCall ?_; refine st (ok_call rfl rfl rfl (by exact hrow1)) rfl rfl ?_)) | refine W_seq ?_ | refine W_region ?_ | refine st_nil ?_ | refine tq_n ?_ | refine tq_r ?_ | refine bq_r ?_ | refine W_skip ?_ | refine W_ret ?_ | refine W_block ?_ | refine W_condTA rfl ?_)
          exact ret0 (.tmp rfl .nil) (.plainD (j := 1) rfl rfl rfl) ⟨rfl, rfl⟩
      · obtain rfl : i = qs.length := by omega
        have h7 : ∀ j < qs.length, (gq qs j).length = 7 := fun j hj => (hrow j hj).1
        have hbd : ∀ i < qs.length, ∀ b < 7, -1 ≤ gi (gq qs i) b := fun i hi b hb => ((rowOf_good (hrow i hi)).2 b hb).1
        repeat' (first | (refine gU ?_; first | (refine gMove ?_; refine st (ok_move rfl) rfl rfl ?_) | (refine gAssign ?_; refine st (ok_assign rfl) rfl rfl ?_) | (refine gBin ?_; refine st (ok_bin rfl rfl rfl) rfl rfl ?_) | (refine gLen ?_; refine st (ok_len rfl) rfl rfl ?_)) | refine W_seq ?_ | refine W_region ?_ | refine st_nil ?_ | refine tq_n ?_ | refine tq_e ?_ | refine bq_hit rfl ?_ | refine W_exit ?_ | refine W_block ?_ | refine W_condFA rfl ?_)
        refine W_loopS (ι := Nat) (fun i => [(0, .slice (some ⟨0, 0, none⟩) l.length c), (3, .slice (some ⟨1, 0, none⟩) qs.length c2), (5, .pointer (some ⟨2, 0, none⟩)), (6, .pointer (some ⟨3, 0, none⟩)), (10, .int .i64 (i : Int))]) (fun _ => [.ro (stonesC l), .deep (rowsQ qs) [], .rw e.cells, .rw goal.cells]) (fun i => qs.length - i) (fun i => i ≤ qs.length ∧ ∀ j < i, ¬ badQ l e goal qs j) 0 (by simp) (.same ⟨rfl, rfl, rfl, rfl, rfl, trivial⟩) ⟨by omega, fun j hj => by omega⟩ ?_
        clear hil hi
        rintro i ⟨hi, hnb⟩
        by_cases hil : i < qs.length
        · have hil' : (i : Int) < (qs.length : Int) := by omega
          have hb := hbd i hil
          have hq7 := h7 i hil
          have hnext : ¬ badQ l e goal qs i → ∀ j < i + 1, ¬ badQ l e goal qs j := fun h j hj => by
            by_cases hji : j = i
            · subst hji; exact h
            · exact hnb j (by omega)
          have hcell : ∀ σ : Heap, cellGet (.ro (stonesC l) :: .deep (rowsQ qs) [] :: .rw e.cells :: .rw goal.cells :: .ro (ints (gq qs i)) :: σ) 4 (0 + e.b.toNat * 1) = some (.int .i64 (gi (gq qs i) e.b.toNat)) := fun σ => by
            have h1 := ints_get (l := gq qs i) (i := e.b.toNat) (by omega)
            rw [Nat.zero_add, Nat.mul_one]; exact h1
          refine W_open 1 i rfl (rowsQ_get hil) (ints_plain _) ?_
          rw [ints_length, hq7]
          by_cases hi0 : i = 0
          · subst hi0
            have hb14 : inR (gi (gq qs 0)) e → chkE l e goal qs = 14 := fun h => chk_14 ha h8' hrow hil (.inr (.inr h))
            have hb14' : ¬ coversP goal (gi (gq qs 0)) → chkE l e goal qs = 14 := fun h => chk_14 ha h8' hrow hil (.inl ⟨rfl, h⟩)
            have hnx : coversP goal (gi (gq qs 0)) → ¬ inR (gi (gq qs 0)) e → ∀ j < 0 + 1, ¬ badQ l e goal qs j := fun h1 h2 => hnext (by rintro (⟨_, h⟩ | ⟨h, _⟩ | h); exact h h1; omega; exact h2 h)
            clear hnext
            generalize gq qs 0 = q at *
            refine W_cut [(0, .slice (some ⟨0, 0, none⟩) l.length c), (3, .slice (some ⟨1, 0, none⟩) qs.length c2), (5, .pointer (some ⟨2, 0, none⟩)), (6, .pointer (some ⟨3, 0, none⟩)), (10, .int .i64 ((0 : Nat) : Int))] [.ro (stonesC l), .deep (rowsQ qs) [(0, .slice (some ⟨4, 0, none⟩) 7 7)], .rw e.cells, .rw goal.cells, .ro (ints q)] rfl ⟨rfl, rfl, rfl, rfl, rfl, trivial⟩ ?_
            have hc1 : cellGet [.ro (stonesC l), .deep (rowsQ qs) [(0, .slice (some ⟨4, 0, none⟩) 7 7)], .rw e.cells, .rw goal.cells, .ro (ints q)] 1 0 = some (.slice (some ⟨4, 0, none⟩) 7 7) := by simp [cellGet, spGet]
            have hc2 : cellGet [.ro (stonesC l), .deep (rowsQ qs) [(0, .slice (some ⟨4, 0, none⟩) 7 7)], .rw e.cells, .rw goal.cells, .ro (ints q)] 4 (0 + e.b.toNat * 1) = some (.int .i64 (gi q e.b.toNat)) := hcell []
            have hhol := holds_ev (σ := [.ro (stonesC l), .deep (rowsQ qs) [(0, .slice (some ⟨4, 0, none⟩) 7 7)], .rw e.cells, .rw goal.cells, .ro (ints q)]) (goal := goal) (q := q) (n := 7) (x := 4) (c := 7) hq7 (.inl rfl) g3 rfl hb rfl
            by_cases hcv : coversP goal (gi q)
            · have hcv' : ¬ ¬ coversP goal (gi q) := fun h => h hcv
              by_cases hin : inR (gi q) e
              · have hin' : e.d ≤ gi q e.b.toNat := hin
                rw [hb14 hin]
                repeat' (first | (refine gU ?_; first | (refine gMove ?_; refine st (ok_move rfl) rfl rfl ?_) | (refine gAssign ?_; refine st (ok_assign rfl) rfl rfl ?_) | (refine gBin ?_; refine st (ok_bin rfl rfl rfl) rfl rfl ?_) | (refine gLen ?_; refine st (ok_len rfl) rfl rfl ?_)) | (refine fU ?_; first | (refine fMove ?_; refine frA (ok_move rfl) rfl ?_) | (refine fBin ?_; refine frA (ok_bin rfl rfl rfl) rfl ?_) | (refine fPick ?_; first | refine frA (ok_pickTA rfl rfl) rfl ?_ | refine frA (ok_pickFA rfl rfl) rfl ?_)) | (refine fG ?_; first | (refine fMove ?_; refine frGA rfl (ok_move rfl) rfl ?_) | (refine fFA ?_; refine frGA rfl (ok_fieldAddr rfl) rfl ?_) | (refine fLoad ?_; first | refine frGA rfl (ok_load rfl (by first | rfl | exact hc1 | exact hc2)) rfl ?_ | refine frGA rfl (ok_loadA rfl (by rfl)) rfl ?_) | (refine fBin ?_; refine frGA rfl (ok_bin rfl rfl rfl) rfl ?_) | (refine fPick ?_; refine frGA rfl (ok_pickFA rfl rfl) rfl ?_) | (refine fNot ?_; refine frGA rfl (ok_notD rfl) rfl ?_) | (refine fIA ?_; first | refine frGA rfl (ok_idxN rfl rfl (by omega)) rfl ?_ | refine frGA rfl (ok_idx rfl rfl (by omega) (by omega)) rfl ?_) | (refine fCall ?_; refine frGA rfl (ok_call rfl rfl rfl (by exact hhol)) rfl ?_) | refine frSA rfl rfl ?_) | (refine fr_stop ⟨by kernel_rfl, ?_⟩) | refine W_seq ?_ | refine W_region ?_ | refine W_regionD (by kernel_rfl) rfl ?_ | refine st_nil ?_ | refine tq_n ?_ | refine tq_r ?_ | refine bq_r ?_ | refine W_skip ?_ | refine W_ret ?_ | refine W_block ?_ | refine W_condTA rfl ?_)
                exact ret0 (.tmp rfl .nil) (.plainD (j := 1) rfl rfl rfl) ⟨rfl, rfl⟩
              · have hin' : ¬ e.d ≤ gi q e.b.toNat := hin
                have hnx := hnx hcv hin
                repeat' (first | (refine gU ?_; first | (refine gMove ?_; refine st (ok_move rfl) rfl rfl ?_) | (refine gAssign ?_; refine st (ok_assign rfl) rfl rfl ?_) | (refine gAdd ?_; refine st (ok_inc rfl rfl (by omega)) rfl rfl ?_) | (refine gBin ?_; refine st (ok_bin rfl rfl rfl) rfl rfl ?_) | (refine gLen ?_; refine st (ok_len rfl) rfl rfl ?_)) | (refine fU ?_; first | (refine fMove ?_; refine frA (ok_move rfl) rfl ?_) | (refine fBin ?_; refine frA (ok_bin rfl rfl rfl) rfl ?_) | (refine fPick ?_; first | refine frA (ok_pickTA rfl rfl) rfl ?_ | refine frA (ok_pickFA rfl rfl) rfl ?_)) | (refine fG ?_; first | (refine fMove ?_; refine frGA rfl (ok_move rfl) rfl ?_) | (refine fFA ?_; refine frGA rfl (ok_fieldAddr rfl) rfl ?_) | (refine fLoad ?_; first | refine frGA rfl (ok_load rfl (by first | rfl | exact hc1 | exact hc2)) rfl ?_ | refine frGA rfl (ok_loadA rfl (by rfl)) rfl ?_) | (refine fBin ?_; refine frGA rfl (ok_bin rfl rfl rfl) rfl ?_) | (refine fPick ?_; refine frGA rfl (ok_pickFA rfl rfl) rfl ?_) | (refine fNot ?_; refine frGA rfl (ok_notD rfl) rfl ?_) | (refine fIA ?_; first | refine frGA rfl (ok_idxN rfl rfl (by omega)) rfl ?_ | refine frGA rfl (ok_idx rfl rfl (by omega) (by omega)) rfl ?_) | (refine fCall ?_; refine frGA rfl (ok_call rfl rfl rfl (by exact hhol)) rfl ?_) | refine frSA rfl rfl ?_) | (refine fr_stop ⟨by kernel_rfl, ?_⟩) | refine W_seq ?_ | refine W_region ?_ | refine W_regionD (by kernel_rfl) rfl ?_ | refine st_nil ?_ | refine tq_n ?_ | refine bq_n ?_ | refine W_skip ?_ | refine W_block ?_ | refine W_condTA rfl ?_ | refine W_condFA rfl ?_)
                exact ⟨rfl, 1, ⟨by omega, hnx⟩, by omega, .dropD (j := 1) rfl [.ro (stonesC l), .deep (rowsQ qs) [], .rw e.cells, .rw goal.cells] (by simp) rfl (hc_r4 l e goal qs) (by (repeat' (first | exact trivial | exact ⟨rfl, rfl, rfl⟩ | exact ⟨rfl, closed_slice rfl, rfl⟩ | refine ⟨?_, ?_⟩)))⟩
            · rw [hb14' hcv]
              repeat' (first | (refine gU ?_; first | (refine gMove ?_; refine st (ok_move rfl) rfl rfl ?_) | (refine gAssign ?_; refine st (ok_assign rfl) rfl rfl ?_) | (refine gBin ?_; refine st (ok_bin rfl rfl rfl) rfl rfl ?_) | (refine gLen ?_; refine st (ok_len rfl) rfl rfl ?_)) | (refine fU ?_; first | (refine fMove ?_; refine frA (ok_move rfl) rfl ?_) | (refine fBin ?_; refine frA (ok_bin rfl rfl rfl) rfl ?_) | (refine fPick ?_; refine frA (ok_pickTA rfl rfl) rfl ?_)) | (refine fG ?_; first | (refine fMove ?_; refine frGA rfl (ok_move rfl) rfl ?_) | (refine fLoad ?_; first | refine frGA rfl (ok_load rfl (by first | rfl | exact hc1)) rfl ?_ | refine frGA rfl (ok_loadA rfl (by rfl)) rfl ?_) | (refine fNot ?_; refine frGA rfl (ok_notD rfl) rfl ?_) | (refine fIA ?_; refine frGA rfl (ok_idxN rfl rfl (by omega)) rfl ?_) | (refine fCall ?_; refine frGA rfl (ok_call rfl rfl rfl (by exact hhol)) rfl ?_) | refine frSU rfl rfl ?_ | refine frSA rfl rfl ?_) | (refine fr_stop ⟨by kernel_rfl, ?_⟩) | refine W_seq ?_ | refine W_region ?_ | refine W_regionD (by kernel_rfl) rfl ?_ | refine st_nil ?_ | refine tq_n ?_ | refine tq_r ?_ | refine bq_r ?_ | refine W_skip ?_ | refine W_ret ?_ | refine W_block ?_ | refine W_condTA rfl ?_)
              exact ret0 (.tmp rfl .nil) (.plainD (j := 1) rfl rfl rfl) ⟨rfl, rfl⟩
          · have hp7 := h7 (i - 1) (by omega)
            refine W_open 1 (i - 1) rfl (rowsQ_get (show i - 1 < qs.length by omega)) (ints_plain _) ?_
            rw [ints_length, hp7]
            have hb14 : inR (gi (gq qs i)) e → chkE l e goal qs = 14 := fun h => chk_14 ha h8' hrow hil (.inr (.inr h))
            have hb14' : ¬ lvP l (gi (gq qs i)) (gi (gq qs (i - 1))) → chkE l e goal qs = 14 := fun h => chk_14 ha h8' hrow hil (.inr (.inl ⟨by omega, h⟩))
            have hnx : lvP l (gi (gq qs i)) (gi (gq qs (i - 1))) → ¬ inR (gi (gq qs i)) e → ∀ j < i + 1, ¬ badQ l e goal qs j := fun h1 h2 => hnext (by rintro (⟨h, _⟩ | ⟨_, h⟩ | h); exact hi0 h; exact h h1; exact h2 h)
            clear hnext
            generalize gq qs i = q at *
            generalize gq qs (i - 1) = p at *
            refine W_cut [(0, .slice (some ⟨0, 0, none⟩) l.length c), (3, .slice (some ⟨1, 0, none⟩) qs.length c2), (5, .pointer (some ⟨2, 0, none⟩)), (6, .pointer (some ⟨3, 0, none⟩)), (10, .int .i64 (i : Int))] [.ro (stonesC l), .deep (rowsQ qs) [(i - 1, .slice (some ⟨5, 0, none⟩) 7 7), (i, .slice (some ⟨4, 0, none⟩) 7 7)], .rw e.cells, .rw goal.cells, .ro (ints q), .ro (ints p)] rfl ⟨rfl, rfl, rfl, rfl, rfl, trivial⟩ ?_
            have hc1 : cellGet [.ro (stonesC l), .deep (rowsQ qs) [(i - 1, .slice (some ⟨5, 0, none⟩) 7 7), (i, .slice (some ⟨4, 0, none⟩) 7 7)], .rw e.cells, .rw goal.cells, .ro (ints q), .ro (ints p)] 1 i = some (.slice (some ⟨4, 0, none⟩) 7 7) := by
              have hne : Nat.beq (i - 1) i = false := beq_ne (by omega)
              simp [cellGet, spGet, hne]
            have hc2 : cellGet [.ro (stonesC l), .deep (rowsQ qs) [(i - 1, .slice (some ⟨5, 0, none⟩) 7 7), (i, .slice (some ⟨4, 0, none⟩) 7 7)], .rw e.cells, .rw goal.cells, .ro (ints q), .ro (ints p)] 1 (0 + ((i : Int) - 1).toNat * 1) = some (.slice (some ⟨5, 0, none⟩) 7 7) := by
              rw [show 0 + ((i : Int) - 1).toNat * 1 = i - 1 by omega]
              simp [cellGet, spGet]
            have hc3 : cellGet [.ro (stonesC l), .deep (rowsQ qs) [(i - 1, .slice (some ⟨5, 0, none⟩) 7 7), (i, .slice (some ⟨4, 0, none⟩) 7 7)], .rw e.cells, .rw goal.cells, .ro (ints q), .ro (ints p)] 4 (0 + e.b.toNat * 1) = some (.int .i64 (gi q e.b.toNat)) := hcell [.ro (ints p)]
            have hlv := refLeaves_ev (σ := [.ro (stonesC l), .deep (rowsQ qs) [(i - 1, .slice (some ⟨5, 0, none⟩) 7 7), (i, .slice (some ⟨4, 0, none⟩) 7 7)], .rw e.cells, .rw goal.cells, .ro (ints q), .ro (ints p)]) (l := l) (p := q) (q := p) (n := 7) (m := 7) (x := 0) (y := 4) (z := 5) (c := c) (c2 := 7) (c3 := 7) hq7 hp7 (.inl rfl) (.inl rfl) (.inl rfl) hl hN rfl rfl hb rfl
            by_cases hlp : lvP l (gi q) (gi p)
            · have hlp' : ¬ ¬ lvP l (gi q) (gi p) := fun h => h hlp
              by_cases hin : inR (gi q) e
              · have hin' : e.d ≤ gi q e.b.toNat := hin
                rw [hb14 hin]
                repeat' (first | (refine gU ?_; first | (refine gMove ?_; refine st (ok_move rfl) rfl rfl ?_) | (refine gAssign ?_; refine st (ok_assign rfl) rfl rfl ?_) | (refine gBin ?_; refine st (ok_bin rfl rfl rfl) rfl rfl ?_) | (refine gLen ?_; refine st (ok_len rfl) rfl rfl ?_)) | (refine fU ?_; first | (refine fMove ?_; refine frA (ok_move rfl) rfl ?_) | (refine fBin ?_; refine frA (ok_bin rfl rfl rfl) rfl ?_) | (refine fPick ?_; refine frA (ok_pickFA rfl rfl) rfl ?_)) | (refine fG ?_; first | (refine fMove ?_; refine frGA rfl (ok_move rfl) rfl ?_) | (refine fFA ?_; refine frGA rfl (ok_fieldAddr rfl) rfl ?_) | (refine fLoad ?_; refine frGA rfl (ok_load rfl (by first | rfl | exact hc1 | exact hc2 | exact hc3)) rfl ?_) | (refine fSub ?_; refine frGA rfl (ok_sub rfl rfl (by omega) (by omega)) rfl ?_) | (refine fBin ?_; refine frGA rfl (ok_bin rfl rfl rfl) rfl ?_) | (refine fPick ?_; refine frGA rfl (ok_pickTA rfl rfl) rfl ?_) | (refine fNot ?_; refine frGA rfl (ok_notD rfl) rfl ?_) | (refine fIA ?_; first | refine frGA rfl (ok_idxN rfl rfl (by omega)) rfl ?_ | refine frGA rfl (ok_idx rfl rfl (by omega) (by omega)) rfl ?_) | (refine fCall ?_; refine frGA rfl (ok_call rfl rfl rfl (by exact hlv)) rfl ?_) | refine frSA rfl rfl ?_) | (refine fr_stop ⟨by kernel_rfl, ?_⟩) | refine W_seq ?_ | refine W_region ?_ | refine W_regionD (by kernel_rfl) rfl ?_ | refine st_nil ?_ | refine tq_n ?_ | refine tq_r ?_ | refine bq_r ?_ | refine W_skip ?_ | refine W_ret ?_ | refine W_block ?_ | refine W_condTA rfl ?_)
                exact ret0 (.tmp rfl .nil) (.plainD (j := 1) rfl rfl rfl) ⟨rfl, rfl⟩
              · have hin' : ¬ e.d ≤ gi q e.b.toNat := hin
                have hnx := hnx hlp hin
                repeat' (first | (refine gU ?_; first | (refine gMove ?_; refine st (ok_move rfl) rfl rfl ?_) | (refine gAssign ?_; refine st (ok_assign rfl) rfl rfl ?_) | (refine gAdd ?_; refine st (ok_inc rfl rfl (by omega)) rfl rfl ?_) | (refine gBin ?_; refine st (ok_bin rfl rfl rfl) rfl rfl ?_) | (refine gLen ?_; refine st (ok_len rfl) rfl rfl ?_)) | (refine fU ?_; first | (refine fMove ?_; refine frA (ok_move rfl) rfl ?_) | (refine fBin ?_; refine frA (ok_bin rfl rfl rfl) rfl ?_) | (refine fPick ?_; refine frA (ok_pickFA rfl rfl) rfl ?_)) | (refine fG ?_; first | (refine fMove ?_; refine frGA rfl (ok_move rfl) rfl ?_) | (refine fFA ?_; refine frGA rfl (ok_fieldAddr rfl) rfl ?_) | (refine fLoad ?_; refine frGA rfl (ok_load rfl (by first | rfl | exact hc1 | exact hc2 | exact hc3)) rfl ?_) | (refine fSub ?_; refine frGA rfl (ok_sub rfl rfl (by omega) (by omega)) rfl ?_) | (refine fBin ?_; refine frGA rfl (ok_bin rfl rfl rfl) rfl ?_) | (refine fPick ?_; refine frGA rfl (ok_pickTA rfl rfl) rfl ?_) | (refine fNot ?_; refine frGA rfl (ok_notD rfl) rfl ?_) | (refine fIA ?_; first | refine frGA rfl (ok_idxN rfl rfl (by omega)) rfl ?_ | refine frGA rfl (ok_idx rfl rfl (by omega) (by omega)) rfl ?_) | (refine fCall ?_; refine frGA rfl (ok_call rfl rfl rfl (by exact hlv)) rfl ?_) | refine frSA rfl rfl ?_) | (refine fr_stop ⟨by kernel_rfl, ?_⟩) | refine W_seq ?_ | refine W_region ?_ | refine W_regionD (by kernel_rfl) rfl ?_ | refine st_nil ?_ | refine tq_n ?_ | refine bq_n ?_ | refine W_skip ?_ | refine W_block ?_ | refine W_condTA rfl ?_ | refine W_condFA rfl ?_)
                exact ⟨rfl, i + 1, ⟨by omega, hnx⟩, by omega, .dropD (j := 1) rfl [.ro (stonesC l), .deep (rowsQ qs) [], .rw e.cells, .rw goal.cells] (by simp) rfl (hc_r4 l e goal qs) (by (repeat' (first | exact trivial | exact ⟨rfl, rfl, rfl⟩ | exact ⟨rfl, closed_slice rfl, rfl⟩ | refine ⟨?_, ?_⟩)))⟩
            · rw [hb14' hlp]
              repeat' (first | (refine gU ?_; first | (refine gMove ?_; refine st (ok_move rfl) rfl rfl ?_) | (refine gAssign ?_; refine st (ok_assign rfl) rfl rfl ?_) | (refine gBin ?_; refine st (ok_bin rfl rfl rfl) rfl rfl ?_) | (refine gLen ?_; refine st (ok_len rfl) rfl rfl ?_)) | (refine fU ?_; first | (refine fMove ?_; refine frA (ok_move rfl) rfl ?_) | (refine fBin ?_; refine frA (ok_bin rfl rfl rfl) rfl ?_) | (refine fPick ?_; first | refine frA (ok_pickTA rfl rfl) rfl ?_ | refine frA (ok_pickFA rfl rfl) rfl ?_)) | (refine fG ?_; first | (refine fMove ?_; refine frGA rfl (ok_move rfl) rfl ?_) | (refine fLoad ?_; refine frGA rfl (ok_load rfl (by first | exact hc1 | exact hc2)) rfl ?_) | (refine fSub ?_; refine frGA rfl (ok_sub rfl rfl (by omega) (by omega)) rfl ?_) | (refine fBin ?_; refine frGA rfl (ok_bin rfl rfl rfl) rfl ?_) | (refine fPick ?_; refine frGA rfl (ok_pickTA rfl rfl) rfl ?_) | (refine fNot ?_; refine frGA rfl (ok_notD rfl) rfl ?_) | (refine fIA ?_; first | refine frGA rfl (ok_idxN rfl rfl (by omega)) rfl ?_ | refine frGA rfl (ok_idx rfl rfl (by omega) (by omega)) rfl ?_) | (refine fCall ?_; refine frGA rfl (ok_call rfl rfl rfl (by exact hlv)) rfl ?_) | refine frSA rfl rfl ?_) | (refine fr_stop ⟨by kernel_rfl, ?_⟩) | refine W_seq ?_ | refine W_region ?_ | refine W_regionD (by kernel_rfl) rfl ?_ | refine st_nil ?_ | refine tq_n ?_ | refine tq_r ?_ | refine bq_r ?_ | refine W_skip ?_ | refine W_ret ?_ | refine W_block ?_ | refine W_condTA rfl ?_)
              exact ret0 (.tmp rfl .nil) (.plainD (j := 1) rfl rfl rfl) ⟨rfl, rfl⟩
        · obtain rfl : i = qs.length := by omega
          rw [chk_0 ha h8' hrow hnb]
          repeat' (first | (refine gU ?_; first | (refine gMove ?_; refine st (ok_move rfl) rfl rfl ?_) | (refine gAssign ?_; refine st (ok_assign rfl) rfl rfl ?_) | (refine gBin ?_; refine st (ok_bin rfl rfl rfl) rfl rfl ?_) | (refine gLen ?_; refine st (ok_len rfl) rfl rfl ?_)) | refine W_seq ?_ | refine W_region ?_ | refine st_nil ?_ | refine tq_n ?_ | refine tq_e ?_ | refine bq_hit rfl ?_ | refine W_exit ?_ | refine W_ret ?_ | refine W_condFA rfl ?_)
          exact ret0 (.tmp rfl .nil) (.plain rfl rfl) ⟨rfl, rfl⟩
  · rw [chk_ask ha]
    refine acall_intro 2 82 Try.func29 rfl rfl rfl rfl rfl ?_
    repeat' (first | (refine gU ?_; first | (refine gMove ?_; refine st (ok_move rfl) rfl rfl ?_) | (refine gAssign ?_; refine st (ok_assign rfl) rfl rfl ?_) | (refine gLoad ?_; refine st (ok_loadA rfl (by rfl)) rfl rfl ?_) | (refine gBin ?_; refine st (ok_bin rfl rfl rfl) rfl rfl ?_) | (refine gCall ?_; refine st (ok_call rfl rfl rfl (by exact hask)) rfl rfl ?_) | (refine gBox ?_; refine st (ok_box rfl) rfl rfl ?_)) | refine W_seq ?_ | refine W_region ?_ | refine st_nil ?_ | refine tq_n ?_ | refine tq_r ?_ | refine W_ret ?_ | refine W_condTA rfl ?_)
    exact ret0 (.tmp rfl .nil) (.plain rfl rfl) ⟨rfl, rfl⟩
end Go.Proofs.Ytindbippegiopaa
namespace Go.AH
open Go
def rowsO (R : Nat → List Int) : Nat → Heap
  | 0 => []
  | k + 1 => rowsO R k ++ [.rw (ints (R k))]
theorem rowsO_len (R : Nat → List Int) : ∀ k, (rowsO R k).length = k
  | 0 => rfl
  | k + 1 => by rw [rowsO, List.length_append, rowsO_len R k]; rfl
theorem rowsO_get {R : Nat → List Int} : ∀ {k j : Nat}, j < k → (rowsO R k)[j]? = some (.rw (ints (R j)))
  | 0, j, h => by omega
  | k + 1, j, h => by
    have hl := rowsO_len R k
    rw [rowsO]
    by_cases hj : j < k
    · rw [List.getElem?_append_left (by omega)]; exact rowsO_get hj
    · obtain rfl : j = k := by omega
      rw [List.getElem?_append_right (by omega), hl, Nat.sub_self]; rfl
theorem rowsO_none {R : Nat → List Int} {k j : Nat} (h : k ≤ j) : (rowsO R k)[j]? = none := List.getElem?_eq_none (by rw [rowsO_len]; exact h)
def slC (b w : Nat) : Nat → List Value
  | 0 => []
  | k + 1 => slC b w k ++ [.slice (some ⟨b + k, 0, none⟩) w w]
theorem slC_len (b w : Nat) : ∀ k, (slC b w k).length = k
  | 0 => rfl
  | k + 1 => by rw [slC, List.length_append, slC_len b w k]; rfl
theorem slC_get {b w : Nat} : ∀ {k j : Nat}, j < k → (slC b w k)[j]? = some (.slice (some ⟨b + j, 0, none⟩) w w)
  | 0, j, h => by omega
  | k + 1, j, h => by
    have hl := slC_len b w k
    rw [slC]
    by_cases hj : j < k
    · rw [List.getElem?_append_left (by omega)]; exact slC_get hj
    · obtain rfl : j = k := by omega
      rw [List.getElem?_append_right (by omega), hl, Nat.sub_self]; rfl
theorem slC_get' {b w k j : Nat} (h : j < (slC b w k).length) : (slC b w k)[j] = .slice (some ⟨b + j, 0, none⟩) w w := by
  have hl := slC_len b w k
  have := slC_get (b := b) (w := w) (k := k) (j := j) (by omega)
  rw [List.getElem?_eq_getElem h] at this
  exact Option.some.inj this
theorem get_last {σ : Heap} {o : AObj} : (σ ++ [o])[σ.length]? = some o := by simp
theorem put_last {σ : Heap} {cs vs : List Value} (h : vs.length ≤ cs.length) (h0 : 0 < cs.length) : putCells (σ ++ [.rw cs]) σ.length 0 vs = some (σ ++ [.rw (splice cs 0 vs)]) := by
  unfold putCells
  rw [get_last]
  simp only [Nat.zero_add]
  rw [show Nat.ble vs.length cs.length = true from Nat.ble_eq_true_of_le h, show Nat.blt 0 cs.length = true from Nat.blt_eq.mpr h0]
  simp
theorem cells_last {σ : Heap} {cs : List Value} {n : Nat} (h : cs.length = n) : cellsAt (σ ++ [.rw cs]) σ.length 0 n = some cs := by
  unfold cellsAt
  rw [get_last]
  simp only [Nat.zero_add, ← h, List.drop_zero, List.take_length, show Nat.ble cs.length cs.length = true from Nat.ble_eq_true_of_le (Nat.le_refl _), cond_true]
theorem arr_last {σ : Heap} {cs : List Value} : arrAt (σ ++ [.rw cs]) σ.length cs := .inr (.inl get_last)
def rowPi (m k g x : Nat) : Rho := fun i => if i < m then ⟨i, 0, 0⟩ else if i = m then ⟨g, 0, 0⟩ else if i = m + 1 + k then ⟨x, 0, 0⟩ else ⟨i, 0, 0⟩
theorem rowPi_lt {m k g x i : Nat} (h : i < m) : rowPi m k g x i = ⟨i, 0, 0⟩ := by simp [rowPi, h]
theorem rowPi_m {m k g x : Nat} : rowPi m k g x m = ⟨g, 0, 0⟩ := by simp [rowPi]
theorem rowPi_mid {m k g x j : Nat} (h : j < k) : rowPi m k g x (m + 1 + j) = ⟨m + 1 + j, 0, 0⟩ := by
  unfold rowPi; rw [if_neg (by omega), if_neg (by omega), if_neg (by omega)]
theorem rowPi_k {m k g x : Nat} : rowPi m k g x (m + 1 + k) = ⟨x, 0, 0⟩ := by
  unfold rowPi; rw [if_neg (by omega), if_neg (by omega), if_pos rfl]
theorem StRef.row {n0 m k g x w : Nat} {H K : Heap} {t : TypeId} {R : Nat → List Int} {e e2 : Env} (hm : K.length = m) (hn0 : n0 ≤ m) (hK : H.take m = K) (hcl : HClosed m K) (hg : H[g]? = some (.gr (slC (m + 1) w k ++ [.slice (some ⟨x, 0, none⟩) w w]) t)) (hrow : ∀ j < k, H[m + 1 + j]? = some (.rw (ints (R j))))
    (hx : H[x]? = some (.rw (ints (R k)))) (hxg : m + 1 + k ≤ x ∧ m + 1 + k ≤ g ∧ x ≠ g) (he : EnvRen (m + 1 + (k + 1)) (rowPi m k g x) e e2) : StRef n0 H (K ++ [.gr (slC (m + 1) w (k + 1)) t] ++ rowsO R (k + 1)) e e2 := by
  refine .inr fun _ => ⟨rowPi m k g x, ?_, ?_⟩
  · have hlen : (K ++ [AObj.gr (slC (m + 1) w (k + 1)) t] ++ rowsO R (k + 1)).length = m + 1 + (k + 1) := by simp [rowsO_len, hm]; omega
    have get : ∀ (i : Nat) (o : AObj), (K ++ [AObj.gr (slC (m + 1) w (k + 1)) t] ++ rowsO R (k + 1))[i]? = some o → (i < m ∧ K[i]? = some o) ∨ (i = m ∧ o = .gr (slC (m + 1) w (k + 1)) t) ∨ ∃ j, j < k + 1 ∧ i = m + 1 + j ∧ o = .rw (ints (R j)) := by
      intro i o hi
      by_cases h1 : i < m
      · rw [List.getElem?_append_left (by simp; omega), List.getElem?_append_left (by omega)] at hi; exact .inl ⟨h1, hi⟩
      · by_cases h2 : i = m
        · subst h2
          rw [List.getElem?_append_left (by simp; omega), List.getElem?_append_right (by omega), hm, Nat.sub_self] at hi
          simp only [List.getElem?_cons_zero, Option.some.injEq] at hi
          exact .inr (.inl ⟨rfl, hi.symm⟩)
        · rw [List.getElem?_append_right (by simp; omega)] at hi
          simp only [List.length_append, List.length_cons, List.length_nil, hm] at hi
          by_cases h3 : i - (m + (0 + 1)) < k + 1
          · rw [rowsO_get h3] at hi
            cases hi
            exact .inr (.inr ⟨i - (m + (0 + 1)), h3, by omega, rfl⟩)
          · rw [rowsO_none (by omega)] at hi; cases hi
    refine ⟨by rw [hlen]; omega, fun i hi => rowPi_lt (by omega), fun i o hi => ?_, fun i j oi oj hi hj _ _ hij => ?_⟩
    · rw [hlen]
      rcases get i o hi with ⟨h1, h2⟩ | ⟨rfl, rfl⟩ | ⟨j, h1, rfl, rfl⟩
      · exact osub_refl (fun i hi => rowPi_lt hi) (by omega) h1 (by
          have h3 := h2
          rw [← hK, List.getElem?_take, if_pos h1] at h3; exact h3) (hclosed_get hcl i o h2)
      · refine .inr ⟨by rw [rowPi_m], _, by rw [rowPi_m]; exact hg, by simp [slC], fun a ha ha' => ?_⟩
        rw [slC_get' ha]
        have hal : a < k + 1 := by rw [slC_len] at ha; exact ha
        have hsl := slC_len (i + 1) w k
        by_cases hak : a < k
        · rw [List.getElem_append_left (by omega), slC_get' (by omega)]
          have := VQ.slice (q := true) (n := i + 1 + (k + 1)) (ρ := rowPi i k g x) (i + 1 + a) 0 w w w (Nat.le_refl _) (by omega)
          rw [rowPi_mid hak] at this
          simpa using this
        · obtain rfl : a = k := by omega
          rw [List.getElem_append_right (by omega)]
          have := VQ.slice (q := true) (n := i + 1 + (a + 1)) (ρ := rowPi i a g x) (i + 1 + a) 0 w w w (Nat.le_refl _) (by omega)
          rw [rowPi_k] at this
          simpa [hsl] using this
      · by_cases hjk : j < k
        · rw [rowPi_mid hjk]
          exact .inr ⟨rfl, _, .inl (hrow j hjk), Nat.le_refl _, fun a ha _ => vrel_plainL _ (ints_plain (R j)) a ha⟩
        · obtain rfl : j = k := by omega
          rw [rowPi_k]
          exact .inr ⟨rfl, _, .inl hx, Nat.le_refl _, fun a ha _ => vrel_plainL _ (ints_plain (R j)) a ha⟩
    · have pl : ∀ (i : Nat) (o : AObj), (K ++ [AObj.gr (slC (m + 1) w (k + 1)) t] ++ rowsO R (k + 1))[i]? = some o → (i < m ∧ (rowPi m k g x i).b = i) ∨ (i = m ∧ (rowPi m k g x i).b = g) ∨ (m < i ∧ i < m + 1 + k ∧ (rowPi m k g x i).b = i) ∨ (i = m + 1 + k ∧ (rowPi m k g x i).b = x) := by
        intro i o hi
        rcases get i o hi with ⟨h1, _⟩ | ⟨rfl, _⟩ | ⟨j, h1, rfl, _⟩
        · exact .inl ⟨h1, by rw [rowPi_lt h1]⟩
        · exact .inr (.inl ⟨rfl, by rw [rowPi_m]⟩)
        · by_cases hjk : j < k
          · exact .inr (.inr (.inl ⟨by omega, by omega, by rw [rowPi_mid hjk]⟩))
          · obtain rfl : j = k := by omega
            exact .inr (.inr (.inr ⟨rfl, by rw [rowPi_k]⟩))
      have h1 := pl i oi hi
      have h2 := pl j oj hj
      omega
  · rw [show (K ++ [AObj.gr (slC (m + 1) w (k + 1)) t] ++ rowsO R (k + 1)).length = m + 1 + (k + 1) by simp [rowsO_len, hm]; omega]
    exact envRen_ref he
def retPi (a m : Nat) : Rho := fun i => if i < a then ⟨i, 0, 0⟩ else ⟨m + (i - a), 0, 0⟩
theorem RetRef.rows {m n w : Nat} {σin K : Heap} {t : TypeId} {R : Nat → List Int} {f : Value} (hm : K.length = m) (hin : K.take σin.length = σin) (hle : σin.length ≤ m) (hf : AH.plain f = true) :
    RetRef σin (K ++ [.gr (slC (m + 1) w n) t] ++ rowsO R n) (.tuple #[slvV m 1 n, f]) (.tuple #[.slice (some ⟨σin.length, 0, none⟩) n n, f]) (σin ++ ([.rw (slC (σin.length + 1) w n)] ++ rowsO R n)) := by
  refine .inr fun hcl => ⟨retPi σin.length m, ?_, ?_⟩
  · have hlt : ∀ i < σin.length, retPi σin.length m i = ⟨i, 0, 0⟩ := fun i hi => if_pos hi
    have hge : ∀ j, retPi σin.length m (σin.length + j) = ⟨m + j, 0, 0⟩ := fun j => by
      unfold retPi; rw [if_neg (by omega), show σin.length + j - σin.length = j by omega]
    have hlen : (σin ++ ([AObj.rw (slC (σin.length + 1) w n)] ++ rowsO R n)).length = σin.length + 1 + n := by simp [rowsO_len]; omega
    have get : ∀ (i : Nat) (o : AObj), (σin ++ ([AObj.rw (slC (σin.length + 1) w n)] ++ rowsO R n))[i]? = some o → (i < σin.length ∧ σin[i]? = some o) ∨ (i = σin.length + 0 ∧ o = .rw (slC (σin.length + 1) w n)) ∨ ∃ j, j < n ∧ i = σin.length + (1 + j) ∧ o = .rw (ints (R j)) := by
      intro i o hi
      by_cases h1 : i < σin.length
      · rw [List.getElem?_append_left h1] at hi; exact .inl ⟨h1, hi⟩
      · rw [List.getElem?_append_right (by omega)] at hi
        by_cases h2 : i = σin.length
        · subst h2
          rw [Nat.sub_self] at hi
          simp only [List.cons_append, List.nil_append, List.getElem?_cons_zero, Option.some.injEq] at hi
          exact .inr (.inl ⟨rfl, hi.symm⟩)
        · rw [List.getElem?_append_right (by simp; omega)] at hi
          simp only [List.length_cons, List.length_nil] at hi
          by_cases h3 : i - σin.length - (0 + 1) < n
          · rw [rowsO_get h3] at hi
            cases hi
            exact .inr (.inr ⟨i - σin.length - (0 + 1), h3, by omega, rfl⟩)
          · rw [rowsO_none (by omega)] at hi; cases hi
    have atK : ∀ i, i < m → (K ++ [AObj.gr (slC (m + 1) w n) t] ++ rowsO R n)[i]? = K[i]? := fun i hi => by
      rw [List.getElem?_append_left (by simp; omega), List.getElem?_append_left (by omega)]
    have atM : (K ++ [AObj.gr (slC (m + 1) w n) t] ++ rowsO R n)[m + 0]? = some (.gr (slC (m + 1) w n) t) := by
      rw [List.getElem?_append_left (by simp; omega), List.getElem?_append_right (by omega), hm]; simp
    have atR : ∀ j < n, (K ++ [AObj.gr (slC (m + 1) w n) t] ++ rowsO R n)[m + (1 + j)]? = some (.rw (ints (R j))) := fun j hj => by
      rw [List.getElem?_append_right (by simp; omega)]
      simp only [List.length_append, List.length_cons, List.length_nil, hm]
      rw [show m + (1 + j) - (m + (0 + 1)) = j by omega]
      exact rowsO_get hj
    refine ⟨by rw [hlen]; omega, hlt, fun i o hi => ?_, fun i j oi oj hi hj _ _ hij => ?_⟩
    · rw [hlen]
      rcases get i o hi with ⟨h1, h2⟩ | ⟨rfl, rfl⟩ | ⟨j, h1, rfl, rfl⟩
      · refine osub_refl hlt (by omega) h1 ?_ (hcl i o h2)
        rw [atK i (by omega)]
        have h3 := h2
        rw [← hin, List.getElem?_take, if_pos h1] at h3; exact h3
      · rw [hge]
        refine .inr ⟨rfl, _, .inr ⟨t, atM⟩, by simp [slC_len], fun a ha ha' => ?_⟩
        rw [slC_get' ha, slC_get' ha']
        have := VQ.slice (q := true) (n := σin.length + 1 + n) (ρ := retPi σin.length m) (σin.length + 1 + a) 0 w w w (Nat.le_refl _) (by rw [slC_len] at ha; omega)
        rw [show σin.length + 1 + a = σin.length + (1 + a) by omega, hge] at this
        simpa [Nat.add_assoc] using this
      · rw [hge]
        exact .inr ⟨rfl, _, .inl (atR j h1), Nat.le_refl _, fun a ha _ => vrel_plainL _ (ints_plain (R j)) a ha⟩
    · have pl : ∀ (i : Nat) (o : AObj), (σin ++ ([AObj.rw (slC (σin.length + 1) w n)] ++ rowsO R n))[i]? = some o → (i < σin.length ∧ (retPi σin.length m i).b = i) ∨ (σin.length ≤ i ∧ (retPi σin.length m i).b = m + (i - σin.length)) := by
        intro i o _
        by_cases h1 : i < σin.length
        · exact .inl ⟨h1, by rw [hlt i h1]⟩
        · refine .inr ⟨by omega, ?_⟩
          unfold retPi; rw [if_neg h1]
      have h1 := pl i oi hi
      have h2 := pl j oj hj
      omega
  · have hlen : (σin ++ ([AObj.rw (slC (σin.length + 1) w n)] ++ rowsO R n)).length = σin.length + 1 + n := by simp [rowsO_len]; omega
    rw [hlen]
    refine .tuple _ _ rfl fun i hi _ => ?_
    match i, hi with
    | 0, _ =>
      show VSub _ _ (.slice (some ⟨σin.length, 0, none⟩) n n) (slvV m 1 n)
      cases n with
      | zero => exact .emptySlice _ _ _ _
      | succ n =>
        have := VQ.sliceG (q := true) (n := σin.length + 1 + (n + 1)) (ρ := retPi σin.length m) σin.length 0 (n + 1) (n + 1) (n + 1) 1 (Nat.le_refl _) (by omega) rfl
        have e0 : retPi σin.length m σin.length = ⟨m, 0, 0⟩ := by unfold retPi; rw [if_neg (by omega), Nat.sub_self]; rfl
        rw [e0] at this
        simpa [slvV] using this
    | 1, _ => exact vrel_plain _ hf
end Go.AH
namespace Go.AH.Hone
open Go Go.AH
theorem put_row {σ : Heap} {cs : List Value} {f : Nat → Int} (h : cs.length = 7) : putCells (σ ++ [.rw cs]) σ.length 0 (rowC f) = some (σ ++ [.rw (rowC f)]) := by
  rw [put_last (by rw [h]; exact Nat.le_refl 7) (by omega)]
  simp [splice, rowC, h]
theorem len1 {σ : Heap} {o : AObj} : (σ ++ [o]).length = σ.length + 1 := by simp
theorem round_at {σ : Heap} {A B C o : AObj} {g i : Nat} (hi : i < σ.length) (hg : i ≠ g) : ((σ ++ [A] ++ [B] ++ [C]).set g .dead ++ [o])[i]? = σ[i]? := by
  rw [List.getElem?_append_left (by simp; omega), List.getElem?_set_ne (by omega), List.append_assoc, List.append_assoc, List.getElem?_append_left hi]
theorem round_new {σ : Heap} {A B C o : AObj} {g : Nat} (hg : g < σ.length) : ((σ ++ [A] ++ [B] ++ [C]).set g .dead ++ [o])[σ.length + 1]? = some B := by
  rw [List.getElem?_append_left (by simp), List.getElem?_set_ne (by omega), List.append_assoc, List.append_assoc, List.getElem?_append_right (by omega)]
  simp
theorem set_last {σ : Heap} {A o : AObj} {i n : Nat} (h : σ.length = n) : (σ.set i A ++ [o])[n]? = some o := by
  subst h
  have := get_last (σ := σ.set i A) (o := o)
  rwa [List.length_set] at this
theorem rowsO_ni (R : Nat → List Int) : ∀ k, (rowsO R k).all (fun o => !isIter o) = true
  | 0 => rfl
  | k + 1 => by rw [rowsO, List.all_append, rowsO_ni R k]; rfl
end Go.AH.Hone
namespace Go.Proofs.Ytindbippegiopaa
open Go Go.AH
attribute [local irreducible] WOps WCode WFree retQ thenQ blockQ scopeQ OpOk ACall RetRef roundA roundB
set_option maxRecDepth 100000
set_option maxHeartbeats 1000000
open Go.AH.Hone
theorem hc_rows (l : List Sn) (e goal : Ed) (c : Nat) : HClosed 5 [.ro (stonesC l), .rw e.cells, .rw goal.cells, .rw (benchC goal (.slice (some ⟨0, 0, none⟩) l.length c) (.slice (some ⟨4, 0, none⟩) (lastN l goal + 1) (lastN l goal + 1))), .rw (rowsC l goal (lastN l goal + 1))] := by
  have h := slice_closed (n := 5) (i := 0) (l := l.length) (c := c) (by omega)
  have h' := slice_closed (n := 5) (i := 4) (l := lastN l goal + 1) (c := lastN l goal + 1) (by omega)
  exact ⟨plainL_closed (stonesC_plain l), plainL_closed rfl, plainL_closed rfl, ⟨by simp [benchC, closedL, closed, h.1, h'.1], by simp [benchC, okL, okV, h.2, h'.2]⟩, plainL_closed (rowsC_plain _ _ _), trivial⟩
theorem rows_bad (l : List Sn) (e goal : Ed) (c : Nat) (hN : l.length ≤ 1000000) (h : bestE l e goal ≠ 0) :
    Ev Try.prog 25 [.slice (some ⟨0, 0, none⟩) l.length c, e.val, goal.val] [.ro (stonesC l)] (.tuple #[.slice (some ⟨1, 0, none⟩) 0 0, .int .i64 (bestE l e goal)]) [.ro (stonesC l), .rw []] := by
  unfold bestE at h ⊢
  by_cases ha : askE l e goal = 0
  · rw [if_neg (by omega)] at h ⊢
    have hn : needsV l goal e < 0 := by
      apply Classical.byContradiction; intro hn
      rw [if_neg hn] at h; exact h rfl
    rw [if_pos hn]
    obtain ⟨g1, g2, g3⟩ := askE_zero ha
    obtain ⟨_, _, hl⟩ := boxE_zero g1
    have hopen := open_evOk (σ := [.ro (stonesC l), .rw e.cells, .rw goal.cells]) (l := l) (e := e) (goal := goal) (x := 0) (c := c) (.inl rfl) ha hN rfl
    have hneeds := needs_ev (σ := [.ro (stonesC l), .rw e.cells, .rw goal.cells, .rw (benchC goal (.slice (some ⟨0, 0, none⟩) l.length c) (.slice (some ⟨4, 0, none⟩) (lastN l goal + 1) (lastN l goal + 1))), .rw (rowsC l goal (lastN l goal + 1))]) (l := l) (e := e) (goal := goal) (p := 3) (x := 0) (y := 4) (c := c) ⟨.inr (.inl rfl), .inl rfl, .inr (.inl rfl)⟩ g2 g3 hl rfl
    refine acall_intro 1 47 Try.func25 rfl rfl rfl rfl rfl ?_
    repeat' (first | (refine gU ?_; first | (refine gMove ?_; refine st (ok_move rfl) rfl rfl ?_) | (refine gAssign ?_; refine st (ok_assign rfl) rfl rfl ?_) | (refine gLoad ?_; refine st (ok_loadA rfl (by rfl)) rfl rfl ?_) | (refine gBin ?_; refine st (ok_bin rfl rfl rfl) rfl rfl ?_) | (refine gExtract ?_; refine st (ok_extract rfl rfl) rfl rfl ?_) | (refine gCall ?_; refine st (ok_call rfl rfl rfl (by first | exact hopen | exact hneeds)) rfl rfl ?_) | (refine gBox ?_; refine st (ok_box rfl) rfl rfl ?_)) | refine W_seq ?_ | refine W_region ?_ | refine st_nil ?_ | refine tq_n ?_ | refine tq_r ?_ | refine W_skip ?_ | refine W_ret ?_ | refine W_condTA rfl ?_ | refine W_condFA rfl ?_)
    exact ret0 (.tmp rfl (.tmp rfl .nil)) (retNil rfl rfl) ⟨rfl, rfl⟩
  · rw [if_pos ha]
    have hopen := open_evBad (σ := [.ro (stonesC l), .rw e.cells, .rw goal.cells]) (l := l) (e := e) (goal := goal) (x := 0) (c := c) (.inl rfl) ha hN rfl
    refine acall_intro 1 47 Try.func25 rfl rfl rfl rfl rfl ?_
    repeat' (first | (refine gU ?_; first | (refine gMove ?_; refine st (ok_move rfl) rfl rfl ?_) | (refine gAssign ?_; refine st (ok_assign rfl) rfl rfl ?_) | (refine gLoad ?_; refine st (ok_loadA rfl (by rfl)) rfl rfl ?_) | (refine gBin ?_; refine st (ok_bin rfl rfl rfl) rfl rfl ?_) | (refine gExtract ?_; refine st (ok_extract rfl rfl) rfl rfl ?_) | (refine gCall ?_; refine st (ok_call rfl rfl rfl (by exact hopen)) rfl rfl ?_) | (refine gBox ?_; refine st (ok_box rfl) rfl rfl ?_)) | refine W_seq ?_ | refine W_region ?_ | refine st_nil ?_ | refine tq_n ?_ | refine tq_r ?_ | refine W_ret ?_ | refine W_condTA rfl ?_)
    exact ret0 (.tmp rfl (.tmp rfl .nil)) (retNil rfl rfl) ⟨rfl, rfl⟩
theorem rows_run (l : List Sn) (e goal : Ed) (c n : Nat) (hL : l.length ≤ 1000000) (ha : askE l e goal = 0) (hN : needsV l goal e = (n : Int)) :
    Ev Try.prog 25 [.slice (some ⟨0, 0, none⟩) l.length c, e.val, goal.val] [.ro (stonesC l)] (.tuple #[.slice (some ⟨1, 0, none⟩) n n, .int .i64 0]) ([.ro (stonesC l)] ++ ([.rw (slC 2 7 n)] ++ rowsO (fun j => rowL (rowN l goal j)) n)) := by
  obtain ⟨g1, g2, g3⟩ := askE_zero ha
  obtain ⟨_, _, hl⟩ := boxE_zero g1
  have hN707 := needs_le (l := l) (goal := goal) (e := e) g3
  have hlast := (lastN_is (l := l) g3).2.1
  have hopen := open_evOk (σ := [.ro (stonesC l), .rw e.cells, .rw goal.cells]) (l := l) (e := e) (goal := goal) (x := 0) (c := c) (.inl rfl) ha hL rfl
  have hneeds := needs_ev (σ := [.ro (stonesC l), .rw e.cells, .rw goal.cells, .rw (benchC goal (.slice (some ⟨0, 0, none⟩) l.length c) (.slice (some ⟨4, 0, none⟩) (lastN l goal + 1) (lastN l goal + 1))), .rw (rowsC l goal (lastN l goal + 1))]) (l := l) (e := e) (goal := goal) (p := 3) (x := 0) (y := 4) (c := c) ⟨.inr (.inl rfl), .inl rfl, .inr (.inl rfl)⟩ g2 g3 hl rfl
  rw [hN] at hneeds
  have hnl : n ≤ lastN l goal + 1 := by
    have hr := needsK_is (l := l) (goal := goal) (e := e) (lastN l goal + 1)
    unfold needsV at hN
    rcases hr with ⟨h, _⟩ | ⟨m, hm, h, _⟩ <;> omega
  refine acall_intro 1 47 Try.func25 rfl rfl rfl rfl rfl ?_
  repeat' (first | (refine gU ?_; first | refine st (ok_sliceH rfl rfl hnl) rfl rfl ?_ | (refine gMove ?_; refine st (ok_move rfl) rfl rfl ?_) | (refine gAssign ?_; refine st (ok_assign rfl) rfl rfl ?_) | (refine gFA ?_; refine st (ok_fieldAddr rfl) rfl rfl ?_) | (refine gLoad ?_; first | refine st (ok_load rfl (by rfl)) rfl rfl ?_ | refine st (ok_loadA rfl (by rfl)) rfl rfl ?_) | (refine gBin ?_; refine st (ok_bin rfl rfl rfl) rfl rfl ?_) | (refine gLen ?_; refine st (ok_len rfl) rfl rfl ?_) | (refine gExtract ?_; refine st (ok_extract rfl rfl) rfl rfl ?_) | (refine gNil ?_; refine st (ok_nilP rfl) rfl rfl ?_) | (refine gCall ?_; refine st (ok_call rfl rfl rfl (by first | exact hopen | exact hneeds)) rfl rfl ?_) | (refine gBox ?_; refine st (ok_box rfl) rfl rfl ?_)) | refine W_seq ?_ | refine W_region ?_ | refine st_nil ?_ | refine tq_n ?_ | refine W_skip ?_ | refine W_block ?_ | refine W_condFA rfl ?_)
  refine W_loopS (ι := Nat) (fun k => [(11, slvV 5 1 k), (34, .slice (some ⟨4, 0, none⟩) n (lastN l goal + 1)), (35, .int .i64 (n : Int)), (36, .int .i64 (k : Int))]) (fun k => [.ro (stonesC l), .rw e.cells, .rw goal.cells, .rw (benchC goal (.slice (some ⟨0, 0, none⟩) l.length c) (.slice (some ⟨4, 0, none⟩) (lastN l goal + 1) (lastN l goal + 1))), .rw (rowsC l goal (lastN l goal + 1))] ++ [.gr (slC (5 + 1) 7 k) 25] ++ rowsO (fun j => rowL (rowN l goal j)) k) (fun k => n - k) (fun k => k ≤ n) 0 (by simp)
    (StRef.src [.ro (stonesC l), .rw e.cells, .rw goal.cells, .rw (benchC goal (.slice (some ⟨0, 0, none⟩) l.length c) (.slice (some ⟨4, 0, none⟩) (lastN l goal + 1) (lastN l goal + 1))), .rw (rowsC l goal (lastN l goal + 1))] [.gr [] 25] [5] (by simp) rfl (hc_rows l e goal c) rfl rfl ⟨osub_gr0, trivial⟩ (by exact ⟨er_nil rfl, er_closed (m := 5) rfl (fun i hi => srcR_lt hi) (by simp) (closed_slice rfl) rfl, er_plain rfl rfl, er_plain rfl rfl, trivial⟩)) (by omega) ?_
  clear hopen hneeds
  intro k hk
  by_cases hkn : k < n
  · have hkl : k < lastN l goal + 1 := by omega
    have hσ : ∃ σ : Heap, σ = [.ro (stonesC l), .rw e.cells, .rw goal.cells, .rw (benchC goal (.slice (some ⟨0, 0, none⟩) l.length c) (.slice (some ⟨4, 0, none⟩) (lastN l goal + 1) (lastN l goal + 1))), .rw (rowsC l goal (lastN l goal + 1))] ++ [.gr (slC (5 + 1) 7 k) 25] ++ rowsO (fun j => rowL (rowN l goal j)) k := ⟨_, rfl⟩
    obtain ⟨σ, hσ⟩ := hσ
    have hsl : σ.length = 6 + k := by rw [hσ]; simp [rowsO_len]; omega
    have hc1 : cellsAt σ 4 (0 + k * 7) 7 = some (rowC (rowN l goal k)) := row_cells (by rw [hσ]; exact .inr (.inl rfl)) hkl
    have hg5 : σ[5]? = some (.gr (slC (5 + 1) 7 k) 25) := by rw [hσ]; rfl
    have hni : σ.all (fun o => !isIter o) = true := by rw [hσ, List.all_append, rowsO_ni]; rfl
    have hlen : (slC (5 + 1) 7 k).length = k * 1 := by rw [slC_len]; omega
    have hclone := clone_ev (σ := σ ++ [.rw (rowC (rowN l goal k))]) (q := rowL (rowN l goal k)) (n := 7) (x := σ.length) (c := 7) rfl arr_last (by omega) (by omega) (by simp [hni]; rfl)
    have hgr : ∀ A B C : AObj, (σ ++ [A] ++ [B] ++ [C])[5]? = some (.gr (slC (5 + 1) 7 k) 25) := fun A B C => by
      rw [List.append_assoc, List.append_assoc, List.getElem?_append_left (by omega)]; exact hg5
    rw [← hσ]
    repeat' (first | (refine gU ?_; first | refine st (ok_appendV (t := 37) (by rfl) (by rfl) rfl (hgr _ _ _) hlen rfl (cells_last rfl) (by omega) rfl (by omega) (by omega)) rfl rfl ?_ | (refine gMove ?_; refine st (ok_move rfl) rfl rfl ?_) | (refine gAssign ?_; refine st (ok_assign rfl) rfl rfl ?_) | (refine gLoad ?_; refine st (ok_loadA rfl (by exact hc1)) rfl rfl ?_) | (refine gAdd ?_; refine st (ok_inc rfl rfl (by omega)) rfl rfl ?_) | (refine gBin ?_; refine st (ok_bin rfl rfl rfl) rfl rfl ?_) | (refine gIA ?_; refine st (ok_idxSN rfl rfl (by omega)) rfl rfl ?_) | (refine gSlice ?_; refine st (ok_sliceA rfl) rfl rfl ?_) | (refine gCall ?_; refine st (ok_call rfl rfl rfl (by exact hclone)) rfl rfl ?_) | (refine gAlloc ?_; refine st (ok_alloc rfl) rfl rfl ?_) | (refine gBuildS ?_; refine st (ok_buildS (by rfl) (by rfl) (by rfl) (by rfl) rfl (by rfl)) rfl rfl ?_) | (refine gStore ?_; refine stN (ok_store rfl rfl rfl rfl (by exact put_row rfl)) rfl ?_)) | refine W_seq ?_ | refine W_region ?_ | refine st_nil ?_ | refine tq_n ?_ | refine bq_n ?_ | refine W_skip ?_ | refine W_block ?_ | refine W_condTA rfl ?_)
    refine ⟨rfl, k + 1, by omega, by omega, ?_⟩
    simp only [len1]
    refine StRef.row (m := 5) (k := k) (g := σ.length + 1 + 1 + 1) (x := σ.length + 1) (w := 7) rfl (by omega) (by rw [hσ]; rfl) (hc_rows l e goal c) (set_last (by simp only [len1])) (fun j hj => ?_) (round_new (by omega)) ⟨by omega, by omega, by omega⟩
      (by exact ⟨er_slvV (i := 5) rfl (by omega) rowPi_m, er_closed (m := 5) rfl (fun i hi => rowPi_lt hi) (by omega) (closed_slice rfl) rfl, er_plain rfl rfl, er_plain rfl rfl, trivial⟩)
    rw [round_at (by omega) (by omega), hσ, List.getElem?_append_right (by simp)]
    simp only [List.length_append, List.length_cons, List.length_nil]
    rw [show 5 + 1 + j - (0 + 1 + 1 + 1 + 1 + 1 + (0 + 1)) = j by omega]
    exact rowsO_get hj
  · obtain rfl : k = n := by omega
    repeat' (first | (refine gU ?_; first | (refine gMove ?_; refine st (ok_move rfl) rfl rfl ?_) | (refine gAssign ?_; refine st (ok_assign rfl) rfl rfl ?_) | (refine gBin ?_; refine st (ok_bin rfl rfl rfl) rfl rfl ?_)) | refine W_seq ?_ | refine W_region ?_ | refine st_nil ?_ | refine tq_n ?_ | refine tq_e ?_ | refine bq_hit rfl ?_ | refine W_exit ?_ | refine W_ret ?_ | refine W_condFA rfl ?_)
    exact ret0 (.tmp rfl (.tmp rfl .nil)) (RetRef.rows (m := 5) rfl rfl (by simp) rfl) ⟨rfl, rfl⟩
end Go.Proofs.Ytindbippegiopaa
namespace Go.AH.Hone
open Go Go.AH
end Go.AH.Hone
namespace Go.Proofs.Ytindbippegiopaa
open Go Go.AH
attribute [local irreducible] WOps WCode WFree retQ thenQ blockQ scopeQ OpOk ACall RetRef roundA roundB
set_option maxRecDepth 100000
set_option maxHeartbeats 1000000
open Go.AH.Hone
end Go.Proofs.Ytindbippegiopaa
namespace Go.AH.Hone
open Go Go.AH
def rowsN (l : List Sn) (e goal : Ed) (f : Int) : Nat := if f = 0 then (needsV l goal e).toNat else 0
def rowsL (l : List Sn) (goal : Ed) (n : Nat) : List (List Int) := (List.range n).map fun j => rowL (rowN l goal j)
theorem rowsL_len (l : List Sn) (goal : Ed) (n : Nat) : (rowsL l goal n).length = n := by simp [rowsL]
theorem rowsL_gq {l : List Sn} {goal : Ed} {n j : Nat} (h : j < n) : gq (rowsL l goal n) j = rowL (rowN l goal j) := by simp [gq, rowsL, h]
theorem slC_ren {n1 m w : Nat} {π : Rho} : ∀ n, renL (shf n1 m π) (slC (n1 + 1) w n) = slC (m + 1) w n
  | 0 => rfl
  | n + 1 => by
    have h := slC_ren (n1 := n1) (m := m) (w := w) (π := π) n
    rw [renL_eq] at h ⊢
    rw [slC, List.map_append, h, slC]
    congr 1
    simp only [List.map_cons, List.map_nil, ren]
    rw [shf_ge (by omega)]
    simp only [List.cons.injEq, and_true, Value.slice.injEq, Option.some.injEq, Addr.mk.injEq]
    omega
theorem rowsO_ren (r : Rho) (R : Nat → List Int) : ∀ n, (rowsO R n).map (renO r) = rowsO R n
  | 0 => rfl
  | n + 1 => by
    rw [rowsO, List.map_append, rowsO_ren r R n]
    simp only [List.map_cons, List.map_nil, renO, renL_plain _ (ints_plain _)]
theorem rowsO_mem (R : Nat → List Int) : ∀ n, (rowsO R n).all isMem = true
  | 0 => rfl
  | n + 1 => by rw [rowsO, List.all_append, rowsO_mem R n]; rfl
theorem deep_own {σ : Heap} {m n : Nat} {l : List Sn} {goal : Ed} (h0 : σ[m]? = some (.rw (slC (m + 1) 7 n))) (hr : ∀ j < n, σ[m + 1 + j]? = some (.rw (ints (rowL (rowN l goal j))))) : ObjAt σ (m, 0) (.deep (rowsQ (rowsL l goal n)) []) := by
  refine ⟨idx_lt h0, .inr (.inr ⟨slC (m + 1) 7 n, ?_, fun k h h' => ?_⟩)⟩
  · have := cellsAt_arr (σ := σ) (b := m) (cs := slC (m + 1) 7 n) (.inr (.inl h0))
    rw [slC_len] at this
    rw [rowsQ_len, rowsL_len]; exact this
  · have hk : k < n := by rw [slC_len] at h'; exact h'
    have hq : (rowsQ (rowsL l goal n))[k] = ints (rowL (rowN l goal k)) := by
      have := rowsQ_get (qs := rowsL l goal n) (i := k) (by rw [rowsL_len]; exact hk)
      rw [List.getElem?_eq_getElem h, rowsL_gq hk] at this
      exact Option.some.inj this
    have hl : (ints (rowL (rowN l goal k))).length = 7 := by rw [ints_length]; rfl
    rw [hq]
    refine ⟨ints_plain _, m + 1 + k, 0, 7, by rw [slC_get' h', hl], by omega, .inr (cellsAt_arr (.inr (.inl (hr k hk))))⟩
end Go.AH.Hone
namespace Go.Proofs.Ytindbippegiopaa
open Go Go.AH
attribute [local irreducible] WOps WCode WFree retQ thenQ blockQ scopeQ OpOk ACall RetRef roundA roundB
set_option maxRecDepth 100000
set_option maxHeartbeats 1000000
open Go.AH.Hone
theorem rows_ok (l : List Sn) (e goal : Ed) (c : Nat) (hL : l.length ≤ 1000000) :
    Ev Try.prog 25 [.slice (some ⟨0, 0, none⟩) l.length c, e.val, goal.val] [.ro (stonesC l)] (.tuple #[.slice (some ⟨1, 0, none⟩) (rowsN l e goal (bestE l e goal)) (rowsN l e goal (bestE l e goal)), .int .i64 (bestE l e goal)]) ([.ro (stonesC l)] ++ ([.rw (slC 2 7 (rowsN l e goal (bestE l e goal)))] ++ rowsO (fun j => rowL (rowN l goal j)) (rowsN l e goal (bestE l e goal)))) := by
  by_cases h : bestE l e goal = 0
  · obtain ⟨ha, hn⟩ := bestE_zero h
    rw [h, show rowsN l e goal 0 = (needsV l goal e).toNat from if_pos rfl]
    exact rows_run l e goal c (needsV l goal e).toNat hL ha (by omega)
  · rw [show rowsN l e goal (bestE l e goal) = 0 from if_neg h]
    exact rows_bad l e goal c hL h
theorem rows_ev {σ : Heap} {l : List Sn} {e goal : Ed} {x c : Nat} (hx : arrAt σ x (stonesC l)) (hL : l.length ≤ 1000000) (hni : σ.all (fun o => !isIter o) = true) :
    Ev Try.prog 25 [.slice (some ⟨x, 0, none⟩) l.length c, e.val, goal.val] σ (.tuple #[.slice (some ⟨σ.length, 0, none⟩) (rowsN l e goal (bestE l e goal)) (rowsN l e goal (bestE l e goal)), .int .i64 (bestE l e goal)]) (σ ++ ([.rw (slC (σ.length + 1) 7 (rowsN l e goal (bestE l e goal)))] ++ rowsO (fun j => rowL (rowN l goal j)) (rowsN l e goal (bestE l e goal)))) := by
  refine Ev.arrsN [stonesC l] [x] (rows_ok l e goal c hL) ⟨hx, trivial⟩ ⟨by simpa [bsR] using VQ.slice (q := true) (n := 1) (ρ := bsR [x]) 0 0 l.length c c (Nat.le_refl _) (by omega), vrel_plain _ rfl, vrel_plain _ rfl, trivial⟩ (by simp [stonesC_plain]) (by rw [List.all_append, rowsO_mem]; rfl) ?_ ?_ hni
  · simp [ren, renA, renL, shf]
  · rw [List.map_append, rowsO_ren]
    simp only [List.map_cons, List.map_nil, renO, List.length_cons, List.length_nil]
    rw [slC_ren]
theorem rimChk_ev {σ : Heap} {l : List Sn} {e goal : Ed} {qs : List (List Int)} {x y c c2 : Nat} (hx : arrAt σ x (stonesC l)) (hy : ObjAt σ (y, 0) (.deep (rowsQ qs) [])) (hN : l.length ≤ 1000000) (hM : qs.length ≤ 9223372036854775807) (hQ : ∀ i < qs.length, (gq qs i).length ≤ 1000000) (hni : σ.all (fun o => !isIter o) = true) :
    Ev Try.prog 28 [.slice (some ⟨x, 0, none⟩) l.length c, e.val, goal.val, .slice (some ⟨y, 0, none⟩) qs.length c2] σ (.int .i64 (chkE l e goal qs)) σ :=
  Ev.objs [.ro (stonesC l), .deep (rowsQ qs) []] [(x, 0), (y, 0)] (rimChk_ok l e goal qs c c2 hN hM hQ) ⟨⟨prtAt_arr hx, stonesC_plain l⟩, hy, trivial⟩
    ⟨by simpa [psR] using VQ.slice (q := true) (n := 2) (ρ := psR [(x, 0), (y, 0)]) 0 0 l.length c c (Nat.le_refl _) (by omega), vrel_plain _ rfl, vrel_plain _ rfl, by simpa [psR] using VQ.slice (q := true) (n := 2) (ρ := psR [(x, 0), (y, 0)]) 1 0 qs.length c2 c2 (Nat.le_refl _) (by omega), trivial⟩ rfl hni
theorem refChk_ev {σ : Heap} {l : List Sn} {e goal : Ed} {qs : List (List Int)} {x y c c2 : Nat} (hx : arrAt σ x (stonesC l)) (hy : ObjAt σ (y, 0) (.deep (rowsQ qs) [])) (hN : l.length ≤ 1000000) (hM : qs.length ≤ 9223372036854775807) (hQ : ∀ i < qs.length, (gq qs i).length ≤ 1000000) (hni : σ.all (fun o => !isIter o) = true) :
    Ev Try.prog 29 [.slice (some ⟨x, 0, none⟩) l.length c, e.val, goal.val, .slice (some ⟨y, 0, none⟩) qs.length c2] σ (.int .i64 (chkE l e goal qs)) σ :=
  Ev.objs [.ro (stonesC l), .deep (rowsQ qs) []] [(x, 0), (y, 0)] (refChk_ok l e goal qs c c2 hN hM hQ) ⟨⟨prtAt_arr hx, stonesC_plain l⟩, hy, trivial⟩
    ⟨by simpa [psR] using VQ.slice (q := true) (n := 2) (ρ := psR [(x, 0), (y, 0)]) 0 0 l.length c c (Nat.le_refl _) (by omega), vrel_plain _ rfl, vrel_plain _ rfl, by simpa [psR] using VQ.slice (q := true) (n := 2) (ρ := psR [(x, 0), (y, 0)]) 1 0 qs.length c2 c2 (Nat.le_refl _) (by omega), trivial⟩ rfl hni
theorem deep_in {σ : Heap} {y : Nat} {qs : List (List Int)} (h : σ[y]? = some (.deep (rowsQ qs) [])) : ObjAt σ (y, 0) (.deep (rowsQ qs) []) := ⟨idx_lt h, .inr (.inl ⟨rfl, [], h⟩)⟩
end Go.Proofs.Ytindbippegiopaa
namespace Go.AH.Hone
open Go Go.AH
theorem rows_own {σ τ : Heap} {l : List Sn} {goal : Ed} {n : Nat} : ObjAt (σ ++ ([.rw (slC (σ.length + 1) 7 n)] ++ rowsO (fun j => rowL (rowN l goal j)) n) ++ τ) (σ.length, 0) (.deep (rowsQ (rowsL l goal n)) []) := by
  have hl := rowsO_len (fun j => rowL (rowN l goal j)) n
  refine deep_own ?_ fun j hj => ?_
  · rw [List.append_assoc, List.getElem?_append_right (Nat.le_refl _), Nat.sub_self]; rfl
  · rw [List.append_assoc, List.getElem?_append_right (by omega), show σ.length + 1 + j - σ.length = j + 1 by omega, List.append_assoc, List.singleton_append, List.getElem?_cons_succ, List.getElem?_append_left (by omega)]
    exact rowsO_get hj
theorem all_ni {σ : Heap} {R : Nat → List Int} {m n : Nat} (h : σ.all (fun o => !isIter o) = true) : (σ ++ ([AObj.rw (slC m 7 n)] ++ rowsO R n)).all (fun o => !isIter o) = true := by
  rw [List.all_append, h, List.all_append, rowsO_ni]; rfl
end Go.AH.Hone
namespace Go.Proofs.Ytindbippegiopaa
open Go Go.AH
attribute [local irreducible] WOps WCode WFree retQ thenQ blockQ scopeQ OpOk ACall RetRef roundA roundB
set_option maxRecDepth 100000
set_option maxHeartbeats 1000000
open Go.AH.Hone
end Go.Proofs.Ytindbippegiopaa
namespace Go.AH.Hone
open Go Go.AH Go.Proofs.Ytindbippegiopaa
section
variable {l : List Sn} {goal e : Ed}
theorem chk_own (ha : askE l e goal = 0) {n : Nat} (hn : needsV l goal e = (n : Int)) : chkE l e goal (rowsL l goal n) = 0 := by
  obtain ⟨g1, g2, g3⟩ := askE_zero ha
  obtain ⟨_, _, hl⟩ := boxE_zero g1
  have h7 := needs_le (l := l) (goal := goal) (e := e) g3
  refine chk_0 ha (by rw [rowsL_len]; omega) (fun i hi => ?_) (fun k hk h => ?_)
  · rw [rowsL_len] at hi
    rw [rowsL_gq hi]; exact rowL_isRow hl g3 i
  · rw [rowsL_len] at hk
    unfold badQ at h
    rw [rowsL_gq hk] at h
    rcases h with ⟨rfl, h⟩ | ⟨h0, h⟩ | h
    · rw [rowsL_gq hk] at h
      exact h (covers_row g3 0)
    · rw [rowsL_gq (by omega)] at h
      exact h (lvP_rows hl g3 fun x hx h => by rwa [show k - 1 + 1 = k by omega] at h)
    · have := (needsV_iff hl g3 g2 k).1 ((inR_rowL g2).1 h)
      omega
theorem chk_zero {qs : List (List Int)} (ha : askE l e goal = 0) (h : chkE l e goal qs = 0) : (∀ i < qs.length, isRowP (gq qs i)) ∧ ∀ n < qs.length, ¬ badQ l e goal qs n := by
  unfold chkE at h
  rw [if_neg (by omega)] at h
  by_cases h8 : qs.length > 800
  · rw [if_pos h8] at h; cases h
  · rw [if_neg h8] at h
    by_cases hr : ∃ i < qs.length, ¬ isRowP (gq qs i)
    · rw [if_pos hr] at h; cases h
    · rw [if_neg hr] at h
      by_cases hb : ∃ n < qs.length, badQ l e goal qs n
      · rw [if_pos hb] at h; cases h
      · exact ⟨fun i hi => Classical.byContradiction fun hn => hr ⟨i, hi, hn⟩, fun n hn hq => hb ⟨n, hn, hq⟩⟩
theorem chk_sound {qs : List (List Int)} (ha : askE l e goal = 0) (hn : 0 ≤ needsV l goal e) (h : chkE l e goal qs = 0) : (qs.length : Int) ≤ needsV l goal e := by
  obtain ⟨g1, g2, g3⟩ := askE_zero ha
  obtain ⟨_, _, hl⟩ := boxE_zero g1
  obtain ⟨hr, hb⟩ := chk_zero ha h
  apply Classical.byContradiction; intro hlt
  obtain ⟨m, hm⟩ : ∃ m : Nat, needsV l goal e = (m : Int) := ⟨(needsV l goal e).toNat, by omega⟩
  have hml : m < qs.length := by omega
  have hp := path_of_needs hl g3 m e g2 hm
  have hbd : ∀ i < qs.length, ∀ b < 7, -1 ≤ gi (gq qs i) b := fun i hi b hb => ((rowOf_good (hr i hi)).2 b hb).1
  have hc : coversP goal (gi (gq qs 0)) := Classical.byContradiction fun hc => hb 0 (by omega) (.inl ⟨rfl, hc⟩)
  have hv : ∀ n, n < m → leaves l (gi (gq qs (n + 1))) (gi (gq qs n)) := fun n hn => by
    refine (lvP_leaves (hbd (n + 1) (by omega))).1 (Classical.byContradiction fun hv => hb (n + 1) (by omega) (.inr (.inl ⟨by omega, ?_⟩)))
    rw [show n + 1 - 1 = n by omega]; exact hv
  exact hb m hml (.inr (.inr (rows_prove (R := fun n => gi (gq qs n)) (k := m) (fun x hx hk => keen_covers g3 (hbd 0 (by omega)) hc hx hk) hv hl m (Nat.le_refl _) e g2 hp)))
theorem best_reach (ha : askE l e goal = 0) (hn : 0 ≤ needsV l goal e) : ∃ c, afterV l e (bestL l e goal) = (0, c) ∧ keen c goal := by
  obtain ⟨g1, g2, g3⟩ := askE_zero ha
  obtain ⟨_, _, hl⟩ := boxE_zero g1
  have hE : bestE l e goal = 0 := by unfold bestE; rw [if_neg (by omega), if_neg (by omega)]
  obtain ⟨b1, e', b2, b3⟩ := best_after hl g3 (needsV l goal e).toNat e g2 (by omega)
  have h7 := needs_le (l := l) (goal := goal) (e := e) g3
  refine ⟨e', ?_, b3⟩
  unfold bestL
  rw [if_neg (by omega)]
  exact after_list (ask_edge ha) (by rw [bestS_len]; omega) b1 b2
end
end Go.AH.Hone
namespace Go.AH.Hone
open Go Go.AH
theorem cells_last2 {σ : Heap} {cs : List Value} {o : AObj} {n : Nat} (h : cs.length = n) : cellsAt (σ ++ [.rw cs] ++ [o]) σ.length 0 n = some cs := by
  have hg : (σ ++ [AObj.rw cs] ++ [o])[σ.length]? = some (.rw cs) := by
    rw [List.append_assoc, List.getElem?_append_right (Nat.le_refl _), Nat.sub_self]; rfl
  have := cellsAt_arr (σ := σ ++ [.rw cs] ++ [o]) (b := σ.length) (cs := cs) (.inr (.inl hg))
  rwa [h] at this
theorem put_ed {σ : Heap} {cs : List Value} {x : Ed} (h : cs.length = 2) : putCells (σ ++ [.rw cs]) σ.length 0 x.cells = some (σ ++ [.rw x.cells]) := by
  rw [put_last (by rw [h]; exact Nat.le_refl 2) (by omega)]
  simp [splice, Ed.cells, h]
theorem all_one {σ : Heap} {cs : List Value} (h : σ.all (fun o => !isIter o) = true) : (σ ++ [AObj.rw cs]).all (fun o => !isIter o) = true := by
  rw [List.all_append, h]; rfl
end Go.AH.Hone
namespace Go.Proofs.Ytindbippegiopaa
open Go Go.AH
attribute [local irreducible] WOps WCode WFree retQ thenQ blockQ scopeQ OpOk ACall RetRef roundA roundB
set_option maxRecDepth 100000
set_option maxHeartbeats 1000000
open Go.AH.Hone
theorem honeProved_law (l : List Sn) (e goal : Ed) (ks : List Int) (qs : List (List Int)) (c c2 c3 : Nat) (hN : l.length ≤ 9223372036854775807) (hM : ks.length ≤ 9223372036854775807) (hQ : qs.length ≤ 9223372036854775807) :
    Ev Try.prog 8 [.slice (some ⟨0, 0, none⟩) l.length c, e.val, goal.val, .slice (some ⟨1, 0, none⟩) ks.length c2, .slice (some ⟨2, 0, none⟩) qs.length c3] [.ro (stonesC l), .ro (ints ks), .deep (rowsQ qs) []] (.bool true) [.ro (stonesC l), .ro (ints ks), .deep (rowsQ qs) []] := by
  have hfine := fine_ev (σ := [.ro (stonesC l), .ro (ints ks), .deep (rowsQ qs) [], .rw e.cells, .rw goal.cells]) (l := l) (e := e) (goal := goal) (x := 0) (c := c) (.inl rfl) hN rfl
  by_cases ha : askE l e goal = 0
  · by_cases hk : (ks.length : Int) > 800
    · refine acall_intro 3 178 Try.func8 rfl rfl rfl rfl rfl ?_
      repeat' (first | (refine gU ?_; first | (refine gMove ?_; refine st (ok_move rfl) rfl rfl ?_) | (refine gAssign ?_; refine st (ok_assign rfl) rfl rfl ?_) | (refine gLoad ?_; refine st (ok_loadA rfl (by rfl)) rfl rfl ?_) | (refine gPick ?_; first | refine st (ok_pickTA rfl rfl) rfl rfl ?_ | refine st (ok_pickFA rfl rfl) rfl rfl ?_) | (refine gNot ?_; refine st (ok_notD rfl) rfl rfl ?_) | (refine gCall ?_; refine st (ok_call rfl rfl rfl (by first | exact hfine | exact works_ev rfl)) rfl rfl ?_) | (refine gBox ?_; refine st (ok_box rfl) rfl rfl ?_)) | (refine gG ?_; first | (refine gMove ?_; refine stGA rfl (ok_move rfl) rfl rfl ?_) | (refine gBin ?_; refine stGA rfl (ok_bin rfl rfl rfl) rfl rfl ?_) | (refine gLen ?_; refine stGA rfl (ok_len rfl) rfl rfl ?_) | refine stSA rfl rfl ?_) | refine W_seq ?_ | refine W_region ?_ | refine st_nil ?_ | refine tq_n ?_ | refine tq_r ?_ | refine W_ret ?_ | refine W_condTA rfl ?_)
      all_goals exact ret0 (.tmp rfl .nil) (.plain rfl rfl) ⟨rfl, rfl⟩
    · by_cases hlo : longP qs
      · have hlg := long_ev (σ := [.ro (stonesC l), .ro (ints ks), .deep (rowsQ qs) [], .rw e.cells, .rw goal.cells]) (qs := qs) (x := 2) (c := c3) (deep_in rfl) hQ true ⟨fun _ => hlo, fun _ => rfl⟩ rfl
        refine acall_intro 3 178 Try.func8 rfl rfl rfl rfl rfl ?_
        repeat' (first | (refine gU ?_; first | (refine gMove ?_; refine st (ok_move rfl) rfl rfl ?_) | (refine gAssign ?_; refine st (ok_assign rfl) rfl rfl ?_) | (refine gLoad ?_; refine st (ok_loadA rfl (by rfl)) rfl rfl ?_) | (refine gPick ?_; refine st (ok_pickFA rfl rfl) rfl rfl ?_) | (refine gNot ?_; refine st (ok_notD rfl) rfl rfl ?_) | (refine gCall ?_; refine st (ok_call rfl rfl rfl (by first | exact hfine | exact works_ev rfl)) rfl rfl ?_) | (refine gBox ?_; refine st (ok_box rfl) rfl rfl ?_)) | (refine gG ?_; first | (refine gMove ?_; refine stGA rfl (ok_move rfl) rfl rfl ?_) | (refine gBin ?_; refine stGA rfl (ok_bin rfl rfl rfl) rfl rfl ?_) | (refine gLen ?_; refine stGA rfl (ok_len rfl) rfl rfl ?_) | (refine gCall ?_; refine stGA rfl (ok_call rfl rfl rfl (by exact hlg)) rfl rfl ?_)) | refine W_seq ?_ | refine W_region ?_ | refine st_nil ?_ | refine tq_n ?_ | refine tq_r ?_ | refine W_ret ?_ | refine W_condTA rfl ?_)
        all_goals exact ret0 (.tmp rfl .nil) (.plain rfl rfl) ⟨rfl, rfl⟩
      · have hlg := long_ev (σ := [.ro (stonesC l), .ro (ints ks), .deep (rowsQ qs) [], .rw e.cells, .rw goal.cells]) (qs := qs) (x := 2) (c := c3) (deep_in rfl) hQ false ⟨fun h => absurd h (by decide), fun h => absurd h hlo⟩ rfl
        have hQL : ∀ i < qs.length, (gq qs i).length ≤ 1000000 := fun i hi => by
          apply Classical.byContradiction; intro h
          exact hlo (.inr (.inr ⟨i, hi, by omega⟩))
        obtain ⟨g1, g2, g3⟩ := askE_zero ha
        obtain ⟨hs1, hs2⟩ := ask_small ha
        obtain ⟨_, _, hl⟩ := boxE_zero g1
        have hB := best_ev (σ := [.ro (stonesC l), .ro (ints ks), .deep (rowsQ qs) [], .rw e.cells, .rw goal.cells]) (l := l) (e := e) (goal := goal) (x := 0) (c := c) (.inl rfl) (by omega) rfl
        have hR := fun B => rows_ev (σ := [.ro (stonesC l), .ro (ints ks), .deep (rowsQ qs) [], .rw e.cells, .rw goal.cells, .rw (ints B)]) (l := l) (e := e) (goal := goal) (x := 0) (c := c) (.inl rfl) (by omega) rfl
        replace hR := hR (bestL l e goal)
        by_cases hn : 0 ≤ needsV l goal e
        · obtain ⟨n, hnn⟩ : ∃ n : Nat, needsV l goal e = (n : Int) := ⟨(needsV l goal e).toNat, by omega⟩
          have h707 := needs_le (l := l) (goal := goal) (e := e) g3
          have hE : bestE l e goal = 0 := by unfold bestE; rw [if_neg (by omega), if_neg (by omega)]
          have hBl : (bestL l e goal).length = n := by rw [bestL_len hE]; omega
          have hRn : rowsN l e goal 0 = n := by unfold rowsN; rw [if_pos rfl]; omega
          rw [hE] at hB hR
          rw [hRn] at hR
          rw [hBl] at hB
          obtain ⟨y, hy1, hy2⟩ := best_reach ha hn
          have hno := fun h1 h2 => (after_needs (ks := ks) ha h1 h2).2
          rw [hnn] at hno
          have hg := chk_sound (qs := qs) ha hn
          rw [hnn] at hg
          have hown := chk_own ha hnn
          generalize bestL l e goal = B at *
          have hwr : (([.ro (stonesC l), .ro (ints ks), .deep (rowsQ qs) [], .rw e.cells, .rw goal.cells, .rw (ints B)] : Heap) ++ ([AObj.rw (slC (6 + 1) 7 n)] ++ rowsO (fun j => rowL (rowN l goal j)) n)).all (fun o => !isIter o) = true := all_ni rfl
          have hA := after_ev (σ := (([.ro (stonesC l), .ro (ints ks), .deep (rowsQ qs) [], .rw e.cells, .rw goal.cells, .rw (ints B)] : Heap) ++ ([AObj.rw (slC (6 + 1) 7 n)] ++ rowsO (fun j => rowL (rowN l goal j)) n))) (l := l) (e := e) (ks := ks) (x := 0) (y := 1) (c := c) (c2 := c2) (.inl rfl) (.inl rfl) (by omega) (by omega) hwr
          generalize afterV l e ks = r at *
          obtain ⟨f, x⟩ := r
          simp only at hno
          simp only [afterT] at hA
          have hw1 := all_one (cs := x.cells) hwr
          have hw2 := all_one (cs := y.cells) hw1
          have hw3 := all_one (cs := y.cells) hw2
          have hK := keen_ev (e := x) (goal := goal) hw1
          have hA2 := after_ev (σ := (([.ro (stonesC l), .ro (ints ks), .deep (rowsQ qs) [], .rw e.cells, .rw goal.cells, .rw (ints B)] : Heap) ++ ([AObj.rw (slC (6 + 1) 7 n)] ++ rowsO (fun j => rowL (rowN l goal j)) n)) ++ [.rw x.cells]) (l := l) (e := e) (ks := B) (x := 0) (y := 5) (c := c) (c2 := n) (.inl rfl) (.inr (.inl rfl)) (by omega) (by omega) hw1
          have hA3 := refAfter_ev (σ := (([.ro (stonesC l), .ro (ints ks), .deep (rowsQ qs) [], .rw e.cells, .rw goal.cells, .rw (ints B)] : Heap) ++ ([AObj.rw (slC (6 + 1) 7 n)] ++ rowsO (fun j => rowL (rowN l goal j)) n)) ++ [.rw x.cells] ++ [.rw y.cells]) (l := l) (e := e) (ks := B) (x := 0) (y := 5) (c := c) (c2 := n) (.inl rfl) (.inr (.inl rfl)) (by omega) (by omega) hw2
          rw [hy1, hBl] at hA2 hA3
          simp only [afterT] at hA2 hA3
          have hK2 := keen_ev (e := y) (goal := goal) hw3
          rw [decide_eq_true hy2] at hK2
          have hrow : ObjAt ((([.ro (stonesC l), .ro (ints ks), .deep (rowsQ qs) [], .rw e.cells, .rw goal.cells, .rw (ints B)] : Heap) ++ ([AObj.rw (slC (6 + 1) 7 n)] ++ rowsO (fun j => rowL (rowN l goal j)) n)) ++ [.rw x.cells] ++ [.rw y.cells] ++ [.rw y.cells]) (6, 0) (.deep (rowsQ (rowsL l goal n)) []) := by
            rw [List.append_assoc, List.append_assoc]; exact rows_own (σ := [.ro (stonesC l), .ro (ints ks), .deep (rowsQ qs) [], .rw e.cells, .rw goal.cells, .rw (ints B)])
          have hC1 := rimChk_ev (l := l) (e := e) (goal := goal) (x := 0) (c := c) (c2 := n) (.inl rfl) hrow (by omega) (by rw [rowsL_len]; omega) (fun i hi => by rw [rowsL_len] at hi; rw [rowsL_gq hi]; simp [rowL]) hw3
          have hC2 := refChk_ev (l := l) (e := e) (goal := goal) (x := 0) (c := c) (c2 := n) (.inl rfl) hrow (by omega) (by rw [rowsL_len]; omega) (fun i hi => by rw [rowsL_len] at hi; rw [rowsL_gq hi]; simp [rowL]) hw3
          rw [hown, rowsL_len] at hC1 hC2
          have hC3 := rimChk_ev (l := l) (e := e) (goal := goal) (qs := qs) (x := 0) (y := 2) (c := c) (c2 := c3) (.inl rfl) (deep_in rfl) (by omega) hQ hQL hw3
          have hW := works_ev hw3
          clear hown hrow
          generalize chkE l e goal qs = g at *
          refine acall_intro 3 178 Try.func8 rfl rfl rfl rfl rfl ?_
          by_cases hf : f = 0
          · subst hf
            by_cases hkx : keen x goal
            · have hkn := hno rfl hkx
              rw [decide_eq_true hkx] at hK
              by_cases hg0 : g = 0
              · have hgq := hg hg0
                subst hg0
                repeat' (first | (refine gU ?_; first | (refine gMove ?_; refine st (ok_move rfl) rfl rfl ?_) | (refine gAssign ?_; refine st (ok_assign rfl) rfl rfl ?_) | (refine gLoad ?_; refine st (ok_loadA rfl (by rfl)) rfl rfl ?_) | (refine gBin ?_; refine st (ok_bin rfl rfl rfl) rfl rfl ?_) | (refine gPick ?_; first | refine st (ok_pickTA rfl rfl) rfl rfl ?_ | refine st (ok_pickFA rfl rfl) rfl rfl ?_) | (refine gNot ?_; first | refine st (ok_notD rfl) rfl rfl ?_ | refine st (ok_not' rfl) rfl rfl ?_) | (refine gExtract ?_; refine st (ok_extract rfl rfl) rfl rfl ?_) | (refine gCall ?_; refine st (ok_call rfl rfl rfl (by first | exact hfine | exact hB | exact hR | exact hA | exact hA2 | exact hA3 | exact hC3)) rfl rfl ?_) | (refine gBox ?_; refine st (ok_box rfl) rfl rfl ?_) | (refine gAlloc ?_; refine st (ok_alloc rfl) rfl rfl ?_) | (refine gStore ?_; refine stN (ok_store rfl rfl rfl rfl (by exact put_ed rfl)) rfl ?_)) | (refine gG ?_; first | (refine gMove ?_; refine stGA rfl (ok_move rfl) rfl rfl ?_) | (refine gLoad ?_; refine stGA rfl (ok_loadA rfl (by first | rfl | exact cells_last rfl | exact cells_last2 rfl)) rfl rfl ?_) | (refine gBin ?_; first | refine stGA rfl (ok_bin rfl rfl rfl) rfl rfl ?_ | refine stGA rfl (ok_neq2 rfl rfl) rfl rfl ?_) | (refine gLen ?_; refine stGA rfl (ok_len rfl) rfl rfl ?_) | (refine gPick ?_; first | refine stGA rfl (ok_pickTA rfl rfl) rfl rfl ?_ | refine stGA rfl (ok_pickFA rfl rfl) rfl rfl ?_) | (refine gNot ?_; refine stGA rfl (ok_not' rfl) rfl rfl ?_) | (refine gCall ?_; refine stGA rfl (ok_call rfl rfl rfl (by first | exact hlg | exact hK | exact hK2 | exact hC1 | exact hC2 | exact hW)) rfl rfl ?_)) | refine W_seq ?_ | refine W_region ?_ | refine st_nil ?_ | refine tq_n ?_ | refine W_skip ?_ | refine W_ret ?_ | refine W_condFA rfl ?_)
                all_goals exact ret0 (.tmp rfl .nil) (.plain rfl rfl) ⟨rfl, rfl⟩
              · repeat' (first | (refine gU ?_; first | (refine gMove ?_; refine st (ok_move rfl) rfl rfl ?_) | (refine gAssign ?_; refine st (ok_assign rfl) rfl rfl ?_) | (refine gLoad ?_; refine st (ok_loadA rfl (by rfl)) rfl rfl ?_) | (refine gBin ?_; refine st (ok_bin rfl rfl rfl) rfl rfl ?_) | (refine gPick ?_; first | refine st (ok_pickTA rfl rfl) rfl rfl ?_ | refine st (ok_pickFA rfl rfl) rfl rfl ?_) | (refine gNot ?_; first | refine st (ok_notD rfl) rfl rfl ?_ | refine st (ok_not' rfl) rfl rfl ?_) | (refine gExtract ?_; refine st (ok_extract rfl rfl) rfl rfl ?_) | (refine gCall ?_; refine st (ok_call rfl rfl rfl (by first | exact hfine | exact hB | exact hR | exact hA | exact hA2 | exact hA3 | exact hC3)) rfl rfl ?_) | (refine gBox ?_; refine st (ok_box rfl) rfl rfl ?_) | (refine gAlloc ?_; refine st (ok_alloc rfl) rfl rfl ?_) | (refine gStore ?_; refine stN (ok_store rfl rfl rfl rfl (by exact put_ed rfl)) rfl ?_)) | (refine gG ?_; first | (refine gMove ?_; refine stGA rfl (ok_move rfl) rfl rfl ?_) | (refine gLoad ?_; refine stGA rfl (ok_loadA rfl (by first | rfl | exact cells_last rfl | exact cells_last2 rfl)) rfl rfl ?_) | (refine gBin ?_; first | refine stGA rfl (ok_bin rfl rfl rfl) rfl rfl ?_ | refine stGA rfl (ok_neq2 rfl rfl) rfl rfl ?_) | (refine gLen ?_; refine stGA rfl (ok_len rfl) rfl rfl ?_) | (refine gNot ?_; refine stGA rfl (ok_not' rfl) rfl rfl ?_) | (refine gCall ?_; refine stGA rfl (ok_call rfl rfl rfl (by first | exact hlg | exact hK | exact hK2 | exact hC1 | exact hC2 | exact hW)) rfl rfl ?_) | refine stSU rfl rfl ?_ | refine stSA rfl rfl ?_) | refine W_seq ?_ | refine W_region ?_ | refine st_nil ?_ | refine tq_n ?_ | refine W_skip ?_ | refine W_ret ?_ | refine W_condFA rfl ?_)
                all_goals exact ret0 (.tmp rfl .nil) (.plain rfl rfl) ⟨rfl, rfl⟩
            · rw [decide_eq_false hkx] at hK
              by_cases hg0 : g = 0
              · have hgq := hg hg0
                subst hg0
                repeat' (first | (refine gU ?_; first | (refine gMove ?_; refine st (ok_move rfl) rfl rfl ?_) | (refine gAssign ?_; refine st (ok_assign rfl) rfl rfl ?_) | (refine gLoad ?_; refine st (ok_loadA rfl (by rfl)) rfl rfl ?_) | (refine gBin ?_; refine st (ok_bin rfl rfl rfl) rfl rfl ?_) | (refine gPick ?_; first | refine st (ok_pickTA rfl rfl) rfl rfl ?_ | refine st (ok_pickFA rfl rfl) rfl rfl ?_) | (refine gNot ?_; first | refine st (ok_notD rfl) rfl rfl ?_ | refine st (ok_not' rfl) rfl rfl ?_) | (refine gExtract ?_; refine st (ok_extract rfl rfl) rfl rfl ?_) | (refine gCall ?_; refine st (ok_call rfl rfl rfl (by first | exact hfine | exact hB | exact hR | exact hA | exact hA2 | exact hA3 | exact hC3)) rfl rfl ?_) | (refine gBox ?_; refine st (ok_box rfl) rfl rfl ?_) | (refine gAlloc ?_; refine st (ok_alloc rfl) rfl rfl ?_) | (refine gStore ?_; refine stN (ok_store rfl rfl rfl rfl (by exact put_ed rfl)) rfl ?_)) | (refine gG ?_; first | (refine gMove ?_; refine stGA rfl (ok_move rfl) rfl rfl ?_) | (refine gLoad ?_; refine stGA rfl (ok_loadA rfl (by first | rfl | exact cells_last rfl | exact cells_last2 rfl)) rfl rfl ?_) | (refine gBin ?_; first | refine stGA rfl (ok_bin rfl rfl rfl) rfl rfl ?_ | refine stGA rfl (ok_neq2 rfl rfl) rfl rfl ?_) | (refine gLen ?_; refine stGA rfl (ok_len rfl) rfl rfl ?_) | (refine gPick ?_; refine stGA rfl (ok_pickFA rfl rfl) rfl rfl ?_) | (refine gNot ?_; refine stGA rfl (ok_not' rfl) rfl rfl ?_) | (refine gCall ?_; refine stGA rfl (ok_call rfl rfl rfl (by first | exact hlg | exact hK | exact hK2 | exact hC1 | exact hC2 | exact hW)) rfl rfl ?_) | refine stSA rfl rfl ?_) | refine W_seq ?_ | refine W_region ?_ | refine st_nil ?_ | refine tq_n ?_ | refine W_skip ?_ | refine W_ret ?_ | refine W_condFA rfl ?_)
                all_goals exact ret0 (.tmp rfl .nil) (.plain rfl rfl) ⟨rfl, rfl⟩
              · repeat' (first | (refine gU ?_; first | (refine gMove ?_; refine st (ok_move rfl) rfl rfl ?_) | (refine gAssign ?_; refine st (ok_assign rfl) rfl rfl ?_) | (refine gLoad ?_; refine st (ok_loadA rfl (by rfl)) rfl rfl ?_) | (refine gBin ?_; refine st (ok_bin rfl rfl rfl) rfl rfl ?_) | (refine gPick ?_; first | refine st (ok_pickTA rfl rfl) rfl rfl ?_ | refine st (ok_pickFA rfl rfl) rfl rfl ?_) | (refine gNot ?_; first | refine st (ok_notD rfl) rfl rfl ?_ | refine st (ok_not' rfl) rfl rfl ?_) | (refine gExtract ?_; refine st (ok_extract rfl rfl) rfl rfl ?_) | (refine gCall ?_; refine st (ok_call rfl rfl rfl (by first | exact hfine | exact hB | exact hR | exact hA | exact hA2 | exact hA3 | exact hC3)) rfl rfl ?_) | (refine gBox ?_; refine st (ok_box rfl) rfl rfl ?_) | (refine gAlloc ?_; refine st (ok_alloc rfl) rfl rfl ?_) | (refine gStore ?_; refine stN (ok_store rfl rfl rfl rfl (by exact put_ed rfl)) rfl ?_)) | (refine gG ?_; first | (refine gMove ?_; refine stGA rfl (ok_move rfl) rfl rfl ?_) | (refine gLoad ?_; refine stGA rfl (ok_loadA rfl (by first | rfl | exact cells_last rfl | exact cells_last2 rfl)) rfl rfl ?_) | (refine gBin ?_; first | refine stGA rfl (ok_bin rfl rfl rfl) rfl rfl ?_ | refine stGA rfl (ok_neq2 rfl rfl) rfl rfl ?_) | (refine gLen ?_; refine stGA rfl (ok_len rfl) rfl rfl ?_) | (refine gNot ?_; refine stGA rfl (ok_not' rfl) rfl rfl ?_) | (refine gCall ?_; refine stGA rfl (ok_call rfl rfl rfl (by first | exact hlg | exact hK | exact hK2 | exact hC1 | exact hC2 | exact hW)) rfl rfl ?_) | refine stSU rfl rfl ?_ | refine stSA rfl rfl ?_) | refine W_seq ?_ | refine W_region ?_ | refine st_nil ?_ | refine tq_n ?_ | refine W_skip ?_ | refine W_ret ?_ | refine W_condFA rfl ?_)
                all_goals exact ret0 (.tmp rfl .nil) (.plain rfl rfl) ⟨rfl, rfl⟩
          · by_cases hg0 : g = 0
            · have hgq := hg hg0
              subst hg0
              repeat' (first | (refine gU ?_; first | (refine gMove ?_; refine st (ok_move rfl) rfl rfl ?_) | (refine gAssign ?_; refine st (ok_assign rfl) rfl rfl ?_) | (refine gLoad ?_; refine st (ok_loadA rfl (by rfl)) rfl rfl ?_) | (refine gBin ?_; refine st (ok_bin rfl rfl rfl) rfl rfl ?_) | (refine gPick ?_; first | refine st (ok_pickTA rfl rfl) rfl rfl ?_ | refine st (ok_pickFA rfl rfl) rfl rfl ?_) | (refine gNot ?_; first | refine st (ok_notD rfl) rfl rfl ?_ | refine st (ok_not' rfl) rfl rfl ?_) | (refine gExtract ?_; refine st (ok_extract rfl rfl) rfl rfl ?_) | (refine gCall ?_; refine st (ok_call rfl rfl rfl (by first | exact hfine | exact hB | exact hR | exact hA | exact hA2 | exact hA3 | exact hC3)) rfl rfl ?_) | (refine gBox ?_; refine st (ok_box rfl) rfl rfl ?_) | (refine gAlloc ?_; refine st (ok_alloc rfl) rfl rfl ?_) | (refine gStore ?_; refine stN (ok_store rfl rfl rfl rfl (by exact put_ed rfl)) rfl ?_)) | (refine gG ?_; first | (refine gMove ?_; refine stGA rfl (ok_move rfl) rfl rfl ?_) | (refine gLoad ?_; refine stGA rfl (ok_loadA rfl (by first | rfl | exact cells_last rfl | exact cells_last2 rfl)) rfl rfl ?_) | (refine gBin ?_; first | refine stGA rfl (ok_bin rfl rfl rfl) rfl rfl ?_ | refine stGA rfl (ok_neq2 rfl rfl) rfl rfl ?_) | (refine gLen ?_; refine stGA rfl (ok_len rfl) rfl rfl ?_) | (refine gPick ?_; refine stGA rfl (ok_pickFA rfl rfl) rfl rfl ?_) | (refine gNot ?_; refine stGA rfl (ok_not' rfl) rfl rfl ?_) | (refine gCall ?_; refine stGA rfl (ok_call rfl rfl rfl (by first | exact hlg | exact hK2 | exact hC1 | exact hC2 | exact hW)) rfl rfl ?_) | refine stSA rfl rfl ?_) | refine W_seq ?_ | refine W_region ?_ | refine st_nil ?_ | refine tq_n ?_ | refine W_skip ?_ | refine W_ret ?_ | refine W_condFA rfl ?_)
              all_goals exact ret0 (.tmp rfl .nil) (.plain rfl rfl) ⟨rfl, rfl⟩
            · repeat' (first | (refine gU ?_; first | (refine gMove ?_; refine st (ok_move rfl) rfl rfl ?_) | (refine gAssign ?_; refine st (ok_assign rfl) rfl rfl ?_) | (refine gLoad ?_; refine st (ok_loadA rfl (by rfl)) rfl rfl ?_) | (refine gBin ?_; refine st (ok_bin rfl rfl rfl) rfl rfl ?_) | (refine gPick ?_; first | refine st (ok_pickTA rfl rfl) rfl rfl ?_ | refine st (ok_pickFA rfl rfl) rfl rfl ?_) | (refine gNot ?_; first | refine st (ok_notD rfl) rfl rfl ?_ | refine st (ok_not' rfl) rfl rfl ?_) | (refine gExtract ?_; refine st (ok_extract rfl rfl) rfl rfl ?_) | (refine gCall ?_; refine st (ok_call rfl rfl rfl (by first | exact hfine | exact hB | exact hR | exact hA | exact hA2 | exact hA3 | exact hC3)) rfl rfl ?_) | (refine gBox ?_; refine st (ok_box rfl) rfl rfl ?_) | (refine gAlloc ?_; refine st (ok_alloc rfl) rfl rfl ?_) | (refine gStore ?_; refine stN (ok_store rfl rfl rfl rfl (by exact put_ed rfl)) rfl ?_)) | (refine gG ?_; first | (refine gMove ?_; refine stGA rfl (ok_move rfl) rfl rfl ?_) | (refine gLoad ?_; refine stGA rfl (ok_loadA rfl (by first | rfl | exact cells_last rfl | exact cells_last2 rfl)) rfl rfl ?_) | (refine gBin ?_; first | refine stGA rfl (ok_bin rfl rfl rfl) rfl rfl ?_ | refine stGA rfl (ok_neq2 rfl rfl) rfl rfl ?_) | (refine gLen ?_; refine stGA rfl (ok_len rfl) rfl rfl ?_) | (refine gNot ?_; refine stGA rfl (ok_not' rfl) rfl rfl ?_) | (refine gCall ?_; refine stGA rfl (ok_call rfl rfl rfl (by first | exact hlg | exact hK2 | exact hC1 | exact hC2 | exact hW)) rfl rfl ?_) | refine stSU rfl rfl ?_ | refine stSA rfl rfl ?_) | refine W_seq ?_ | refine W_region ?_ | refine st_nil ?_ | refine tq_n ?_ | refine W_skip ?_ | refine W_ret ?_ | refine W_condFA rfl ?_)
              all_goals exact ret0 (.tmp rfl .nil) (.plain rfl rfl) ⟨rfl, rfl⟩
        · have hE : bestE l e goal = 13 := by unfold bestE; rw [if_neg (by omega), if_pos (by omega)]
          have hBn : bestL l e goal = [] := by unfold bestL; rw [hE]; rfl
          rw [hE, hBn] at hB hR
          rw [show rowsN l e goal 13 = 0 from rfl] at hR
          have hno := fun h1 h2 => hn (after_needs (ks := ks) ha h1 h2).1
          have hA := after_ev (σ := [.ro (stonesC l), .ro (ints ks), .deep (rowsQ qs) [], .rw e.cells, .rw goal.cells, .rw [], .rw []]) (l := l) (e := e) (ks := ks) (x := 0) (y := 1) (c := c) (c2 := c2) (.inl rfl) (.inl rfl) (by omega) (by omega) rfl
          generalize afterV l e ks = r at *
          obtain ⟨f, x⟩ := r
          simp only at hno
          simp only [afterT] at hA
          have hK := keen_ev (σ := [.ro (stonesC l), .ro (ints ks), .deep (rowsQ qs) [], .rw e.cells, .rw goal.cells, .rw [], .rw [], .rw x.cells]) (e := x) (goal := goal) rfl
          refine acall_intro 3 178 Try.func8 rfl rfl rfl rfl rfl ?_
          by_cases hf : f = 0
          · subst hf
            have hkx : ¬ keen x goal := fun h => hno rfl h
            rw [decide_eq_false hkx] at hK
            repeat' (first | (refine gU ?_; first | (refine gMove ?_; refine st (ok_move rfl) rfl rfl ?_) | (refine gAssign ?_; refine st (ok_assign rfl) rfl rfl ?_) | (refine gLoad ?_; refine st (ok_loadA rfl (by rfl)) rfl rfl ?_) | (refine gBin ?_; refine st (ok_bin rfl rfl rfl) rfl rfl ?_) | (refine gPick ?_; first | refine st (ok_pickTA rfl rfl) rfl rfl ?_ | refine st (ok_pickFA rfl rfl) rfl rfl ?_) | (refine gNot ?_; refine st (ok_notD rfl) rfl rfl ?_) | (refine gExtract ?_; refine st (ok_extract rfl rfl) rfl rfl ?_) | (refine gCall ?_; refine st (ok_call rfl rfl rfl (by first | exact hfine | exact hB | exact hR | exact hA)) rfl rfl ?_) | (refine gBox ?_; refine st (ok_box rfl) rfl rfl ?_) | (refine gAlloc ?_; refine st (ok_alloc rfl) rfl rfl ?_) | (refine gStore ?_; refine stN (ok_store rfl rfl rfl rfl (by rfl)) rfl ?_)) | (refine gG ?_; first | (refine gMove ?_; refine stGA rfl (ok_move rfl) rfl rfl ?_) | (refine gLoad ?_; refine stGA rfl (ok_loadA rfl (by rfl)) rfl rfl ?_) | (refine gBin ?_; refine stGA rfl (ok_bin rfl rfl rfl) rfl rfl ?_) | (refine gLen ?_; refine stGA rfl (ok_len rfl) rfl rfl ?_) | (refine gNot ?_; refine stGA rfl (ok_not' rfl) rfl rfl ?_) | (refine gCall ?_; refine stGA rfl (ok_call rfl rfl rfl (by first | exact hlg | exact works_ev rfl | exact hK)) rfl rfl ?_)) | refine W_seq ?_ | refine W_region ?_ | refine st_nil ?_ | refine tq_n ?_ | refine tq_r ?_ | refine W_skip ?_ | refine W_ret ?_ | refine W_condTA rfl ?_ | refine W_condFA rfl ?_)
            all_goals exact ret0 (.tmp rfl .nil) (.plain rfl rfl) ⟨rfl, rfl⟩
          · repeat' (first | (refine gU ?_; first | (refine gMove ?_; refine st (ok_move rfl) rfl rfl ?_) | (refine gAssign ?_; refine st (ok_assign rfl) rfl rfl ?_) | (refine gLoad ?_; refine st (ok_loadA rfl (by rfl)) rfl rfl ?_) | (refine gBin ?_; refine st (ok_bin rfl rfl rfl) rfl rfl ?_) | (refine gPick ?_; first | refine st (ok_pickTA rfl rfl) rfl rfl ?_ | refine st (ok_pickFA rfl rfl) rfl rfl ?_) | (refine gNot ?_; refine st (ok_notD rfl) rfl rfl ?_) | (refine gExtract ?_; refine st (ok_extract rfl rfl) rfl rfl ?_) | (refine gCall ?_; refine st (ok_call rfl rfl rfl (by first | exact hfine | exact hB | exact hR | exact hA)) rfl rfl ?_) | (refine gBox ?_; refine st (ok_box rfl) rfl rfl ?_) | (refine gAlloc ?_; refine st (ok_alloc rfl) rfl rfl ?_) | (refine gStore ?_; refine stN (ok_store rfl rfl rfl rfl (by rfl)) rfl ?_)) | (refine gG ?_; first | (refine gMove ?_; refine stGA rfl (ok_move rfl) rfl rfl ?_) | (refine gBin ?_; refine stGA rfl (ok_bin rfl rfl rfl) rfl rfl ?_) | (refine gLen ?_; refine stGA rfl (ok_len rfl) rfl rfl ?_) | (refine gNot ?_; refine stGA rfl (ok_not' rfl) rfl rfl ?_) | (refine gCall ?_; refine stGA rfl (ok_call rfl rfl rfl (by first | exact hlg | exact works_ev rfl)) rfl rfl ?_) | refine stSA rfl rfl ?_) | refine W_seq ?_ | refine W_region ?_ | refine st_nil ?_ | refine tq_n ?_ | refine tq_r ?_ | refine W_skip ?_ | refine W_ret ?_ | refine W_condTA rfl ?_ | refine W_condFA rfl ?_)
            all_goals exact ret0 (.tmp rfl .nil) (.plain rfl rfl) ⟨rfl, rfl⟩
  · refine acall_intro 3 178 Try.func8 rfl rfl rfl rfl rfl ?_
    repeat' (first | (refine gU ?_; first | (refine gMove ?_; refine st (ok_move rfl) rfl rfl ?_) | (refine gAssign ?_; refine st (ok_assign rfl) rfl rfl ?_) | (refine gLoad ?_; refine st (ok_loadA rfl (by rfl)) rfl rfl ?_) | (refine gPick ?_; refine st (ok_pickTA rfl rfl) rfl rfl ?_) | (refine gNot ?_; refine st (ok_notD rfl) rfl rfl ?_) | (refine gCall ?_; refine st (ok_call rfl rfl rfl (by first | exact hfine | exact works_ev rfl)) rfl rfl ?_) | (refine gBox ?_; refine st (ok_box rfl) rfl rfl ?_)) | (refine gG ?_; refine stSA rfl rfl ?_) | refine W_seq ?_ | refine W_region ?_ | refine st_nil ?_ | refine tq_n ?_ | refine tq_r ?_ | refine W_ret ?_ | refine W_condTA rfl ?_)
    all_goals exact ret0 (.tmp rfl .nil) (.plain rfl rfl) ⟨rfl, rfl⟩
end Go.Proofs.Ytindbippegiopaa
namespace Go.AH
open Go Go.RowKit Go.WideShapes Go.ChangeShapes
section
variable {H : Type} {enc : TypeId × Value → H} {P : Program} {W : World}
theorem wf64 {n : Int} (h : (Lit.int .i64 n).wf = true) : -9223372036854775808 ≤ n ∧ n ≤ 9223372036854775807 := by
  simp only [Lit.wf, Bool.and_eq_true, decide_eq_true_eq] at h
  exact h
def cellsI (l : List Int) : List Value := l.map (.int .i64)
structure SlArg (W : World) (v : Value) (n size : Nat) (cs : List Value) (pl : Pl) : Prop where
  len : n ≤ 9223372036854775807
  rel : ∀ (m : Nat) (ρ : Rho) (i : Nat), i < m → ρ i = pl → VRel m ρ (.slice (some ⟨i, 0, none⟩) n n) v
  sz : cs.length = n * size
  cells : cs ≠ [] → pl.b < W.heap.size ∧ ∀ (k : Nat) (h : k < cs.length), W.cell? ⟨pl.b, pl.o + k, none⟩ = some cs[k]
theorem cell_lt {w : World} {a : Addr} {v : Value} (h : w.cell? a = some v) : a.block < w.heap.size ∧ a.spot = none := by
  unfold World.cell? at h
  split at h
  · rename_i hb
    refine ⟨(Array.getElem?_eq_some_iff.1 hb).1, ?_⟩
    split at h
    · cases h
    · rename_i hs; simpa using hs
  · cases h
theorem read_ints {b0 : Nat} {t e : TypeId} {v : Value} {d : DataW H} {p : List MemPlace} (ht : P.underlying t = some (.slice e)) (he : P.underlying e = some (.int .i64)) (hc : P.cellsOf e = 1) (hval : Value.okWide P W .any b0 t v)
    (h : DataW.Trod enc P W 0 (fun _ => true) true t v d p) : ∃ (l : List Int) (pl : Pl), SlArg W v l.length 1 (cellsI l) pl ∧ ∀ n ∈ l, -9223372036854775808 ≤ n ∧ n ≤ 9223372036854775807 := by
  obtain ⟨a0, len, cap, rfl⟩ := okWide_slice ht hval
  obtain ⟨fuel, hf⟩ := h
  rcases open_ints ht he hc hf with ⟨hcs, -⟩ | ⟨a, len', cap', zs, hcs, -, hl, hm, hz, -, hcell, hwf⟩
  · have hcs' : Value.slice a0 len cap = Value.slice none 0 0 := by simpa [Value.cells] using hcs
    cases hcs'
    exact ⟨[], ⟨0, 0, 0⟩, ⟨by simp, fun m ρ i hi hρ => .emptySlice _ _ _ _, rfl, fun h => absurd rfl h⟩, fun n hn => by simp at hn⟩
  · have hcs' : Value.slice a0 len cap = Value.slice (some a) len' cap' := by simpa [Value.cells] using hcs
    cases hcs'
    simp only [if_true] at hz
    have hlz : (zs.take len).length = len := by rw [List.length_take]; omega
    have hm' : len ≤ 9223372036854775807 := by unfold maxLen at hm; omega
    by_cases h0 : len = 0
    · subst h0
      exact ⟨[], ⟨0, 0, 0⟩, ⟨by simp, fun m ρ i hi hρ => .emptySlice _ _ _ _, rfl, fun h => absurd rfl h⟩, fun n hn => by simp at hn⟩
    · have h1 := hcell 0 (by omega)
      have ha : a.add 0 = a := by simp [Addr.add]
      rw [ha] at h1
      obtain ⟨hb, hs⟩ := cell_lt h1
      obtain ⟨b, o, sp⟩ := a
      simp only at hb hs
      subst hs
      refine ⟨zs.take len, ⟨b, o, 0⟩, ⟨by omega, fun m ρ i hi hρ => ?_, by simp [cellsI], fun _ => ⟨hb, fun k hk => ?_⟩⟩, fun n hn => wf64 (hwf n (List.mem_of_mem_take hn))⟩
      · rw [hlz]
        have := VQ.slice (q := false) (n := m) (ρ := ρ) i 0 len len cap hl hi
        rw [hρ] at this
        simpa using this
      · have hk' : k < len := by
          simp only [cellsI, List.length_map] at hk
          omega
        have h2 := hcell k (by omega)
        have hk2 : zs.getD k 0 = (zs.take len)[k]'(by omega) := by
          rw [List.getElem_take, List.getD_eq_getElem?_getD, List.getElem?_eq_getElem (by omega)]; rfl
        have ha2 : (⟨b, o, none⟩ : Addr).add k = ⟨b, o + k, none⟩ := by
          unfold Addr.add
          split
          · rename_i h; subst h; rfl
          · rfl
        rw [ha2, hk2] at h2
        simpa [cellsI] using h2
theorem SlArg.hro {v : Value} {n size : Nat} {cs : List Value} {pl : Pl} (h : SlArg W v n size cs pl) (hp : plainL cs = true) (ρ : Rho) (i m : Nat) (hρ : ρ i = pl) (hne : cs ≠ []) :
    (ρ i).b < W.heap.size ∧ ∀ (k : Nat) (hk : k < cs.length), ∃ v', W.cell? ⟨(ρ i).b, (ρ i).o + k, none⟩ = some v' ∧ VRel m ρ cs[k] v' := by
  rw [hρ]
  obtain ⟨h1, h2⟩ := h.cells hne
  exact ⟨h1, fun k hk => ⟨_, h2 k hk, vrel_plainL cs hp k hk⟩⟩
end
end Go.AH
namespace Go.AH
open Go Go.RowKit Go.WideShapes Go.ChangeShapes
section
variable {H : Type} {enc : TypeId × Value → H} {P : Program} {w : World} {base : Nat} {spare : Nat → Bool} {held : Bool}
theorem trodAll_mkn4 {t t' t'' t3 : TypeId} {v v' v'' v3 : Value} {d d' d'' d3 : DataW H} {p p' p'' p3 : List MemPlace} (h : DataW.Trod enc P w base spare held t v d p) (h' : DataW.Trod enc P w base spare held t' v' d' p')
    (h'' : DataW.Trod enc P w base spare held t'' v'' d'' p'') (h3 : DataW.Trod enc P w base spare held t3 v3 d3 p3) : DataW.TrodAll enc P w base spare held [t, t', t'', t3] [v, v', v'', v3] [d, d', d'', d3] (p ++ (p' ++ (p'' ++ p3))) := ⟨p, p' ++ (p'' ++ p3), h, trodAll_mk3 h' h'' h3, rfl⟩
end
section
variable {H : Type} {enc : TypeId × Value → H} {P : Program} {W : World}
end
end Go.AH
