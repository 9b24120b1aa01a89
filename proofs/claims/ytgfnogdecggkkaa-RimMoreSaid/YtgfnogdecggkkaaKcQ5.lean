/- More arguments of a law: six of them; arrays of two or three small numbers. -/
import Derived.Test.YtgfnogdecggkkaaKcMJ
import Derived.Test.YtgfnogdecggkkaaKcQ4
import Derived.Test.YtgfnogdecggkkaaKcMM
import Derived.Test.YtgfnogdecggkkaaKcQ1
import Derived.OpenShut
namespace Go.AH.Chain
open Go Go.AH
def partC (ops : List Oper) (m : Nat) (o : Oper) (j mk : Nat) : Bool :=
  notDefer o && o.after.all (fun e => !Region.binds .any e || Nat.blt e.on j) &&
    (match o.guard with | some (g, _) => waits o g | none => true) &&
    ((List.range j).all fun i => mk.testBit i || (Nat.blt i m && (match ops[i]? with | some oi => oi.apart ops.toArray o | none => false))) &&
    (Nat.blt j m || (o.dst.isNone && o.guard.isNone))
def chkC (all : List Oper) (m : Nat) : List Oper → Nat → List Nat → Bool
  | [], _, _ => true
  | o :: rest, j, acc => forceN (maskOf acc o.after.toList) fun mk => partC all m o j mk && chkC all m rest (j + 1) (acc ++ [mk])
def drawC (ops : List Oper) (m : Nat) : Bool := chkC ops m ops 0 []
theorem chkC_get {all : List Oper} {m : Nat} : ∀ (rest : List Oper) (j : Nat) (acc : List Nat), rest = all.drop j → acc.length = j → j ≤ all.length → (∀ (k : Nat) (mk : Nat), acc[k]? = some mk → Good all k mk) → chkC all m rest j acc = true →
    ∀ (t : Nat) (o : Oper), rest[t]? = some o → ∃ mk, partC all m o (j + t) mk = true ∧ Good all (j + t) mk
  | [], _, _, _, _, _, _, _, t, o, h => by simp at h
  | x :: rest, j, acc, hr, hl, hj, hacc, hc, t, o, h => by
    have hx : all[j]? = some x := by
      have := congrArg (fun l : List Oper => l[0]?) hr
      simpa using this.symm
    have hr' : rest = all.drop (j + 1) := by
      have := congrArg List.tail hr
      simpa using this
    have hjl := (List.getElem?_eq_some_iff.1 hx).1
    simp only [chkC, forceN_eq, Bool.and_eq_true] at hc
    have hg := good_mask hx hacc (by omega)
    cases t with
    | zero => simp at h; subst h; exact ⟨_, hc.1, hg⟩
    | succ t =>
      have := chkC_get rest (j + 1) (acc ++ [maskOf acc x.after.toList]) hr' (by simp [hl]) (by omega) (fun k mk hk => by
        by_cases hkl : k < acc.length
        · rw [List.getElem?_append_left hkl] at hk; exact hacc k mk hk
        · rw [List.getElem?_append_right (by omega)] at hk
          have hk0 : k - acc.length = 0 := by
            have := (List.getElem?_eq_some_iff.1 hk).1
            simp at this; omega
          rw [hk0] at hk; simp at hk; subst hk
          rw [show k = j by omega]; exact hg) hc.2 t o (by simpa using h)
      rwa [show j + 1 + t = j + (t + 1) by omega] at this
section
variable {all : List Oper} {m : Nat}
theorem draw_all (h : drawC all m = true) {j : Nat} {o : Oper} (hj : all[j]? = some o) :
    (notDefer o = true ∧ (∀ e ∈ o.after, Region.binds .any e = true → e.on < j) ∧ (∀ g b, o.guard = some (g, b) → waits o g = true) ∧
    ∀ i oi, i < j → all[i]? = some oi → (∀ D : Nat → Prop, Closed all D → (∀ k, waits o k = true → D k) → D i) ∨ (i < m ∧ True ∧ oi.apart all.toArray o = true)) ∧ (m ≤ j → o.dst = none ∧ o.guard = none) := by
  obtain ⟨mk, this, hgood⟩ := chkC_get all 0 [] rfl rfl (by omega) (fun k mk hk => by simp at hk) h j o hj
  rw [Nat.zero_add] at this hgood
  unfold partC at this
  simp only [Bool.and_eq_true] at this
  obtain ⟨⟨⟨⟨h1, h2⟩, h3⟩, h4⟩, h5⟩ := this
  refine ⟨⟨h1, fun e he hb => ?_, fun g b hg => ?_, fun i oi hi hoi => ?_⟩, fun hm => ?_⟩
  · have := Array.all_eq_true_iff_forall_mem.1 h2 e he
    simp only [hb, Bool.not_true, Bool.false_or, Nat.blt_eq] at this; exact this
  · rw [hg] at h3; exact h3
  · have := List.all_eq_true.1 h4 i (by simpa using hi)
    simp only [hoi, Bool.or_eq_true, Bool.and_eq_true, Nat.blt_eq] at this
    rcases this with h | ⟨h5, h7⟩
    · exact .inl fun D hD hw => hgood D hD o hj hw i h
    · exact .inr ⟨h5, trivial, h7⟩
  · simp only [Bool.or_eq_true, Nat.blt_eq, Bool.and_eq_true, Option.isNone_iff_eq_none] at h5
    rcases h5 with h5 | h5
    · omega
    · exact h5
theorem draw_parts (h : drawC all m = true) {j : Nat} {o : Oper} (hj : all[j]? = some o) :
    notDefer o = true ∧ (∀ e ∈ o.after, Region.binds .any e = true → e.on < j) ∧ (∀ g b, o.guard = some (g, b) → waits o g = true) ∧
    ∀ i oi, i < j → all[i]? = some oi → (∀ D : Nat → Prop, Closed all D → (∀ k, waits o k = true → D k) → D i) ∨ (i < m ∧ True ∧ oi.apart all.toArray o = true) := (draw_all h hj).1
theorem waits_lt (h : drawC all m = true) {j i : Nat} {o : Oper} (hj : all[j]? = some o) (hw : waitsA o.after i = true) : i < j := by
  unfold waitsA at hw
  obtain ⟨e, he, hb⟩ := Array.any_eq_true'.1 hw
  simp only [Bool.and_eq_true] at hb
  rw [← Nat.eq_of_beq_eq_true hb.2]
  exact (draw_parts h hj).2.1 e he hb.1
end
section
variable {P : Program} {N : Nat} {rd : Option Nat} {e0 : Env} {mk : List Nat} {σ0 : Heap} {all : List Oper} {ts : List Tr} {n0 : Nat}
theorem dinv_sees {G : Nat → Prop} {w0 : World} {ρ0 ρ : Rho} {L : Nat → Bool} {A : Act} {w : World} (hd : DInv n0 N G w0 ρ0 e0 mk σ0 ts L A w ρ) (hall : ∀ (i : Nat) (hi : i < ts.length), all[i]? = some ts[i].o)
    (hchk : drawC all ts.length = true) {i : Nat} (hi : i < ts.length) (hLi : L i = false) (hw : ∀ j, waits ts[i].o j = true → L j = true) (hdc : Closed all fun k => L k = true)
    {t : Nat} (ht : t ∈ ts[i].o.looksAt all.toArray) {v : Value} (hv : Env.get (envAt (ts.take i) e0) t = some v) : ∃ v', A.tmps[t]? = some v' ∧ VRel (σ0.length + (nsOf (ts.take i)).length) ρ v v' := by
  have early : ∀ (j : Nat) (hj : j < i), (ts[j]'(by omega)).o.dst = some t → L j = true := by
    intro j hj hdst
    rcases (draw_parts hchk (hall i hi)).2.2.2 j _ hj (hall j (by omega)) with h | ⟨_, _, h⟩
    · exact h _ hdc hw
    · exact absurd ht ((Oper.apart_spec h).1 t hdst)
  have late : ∀ (j : Nat) (hj : j < ts.length), i < j → ts[j].o.dst = some t → L j = true → False := by
    intro j hj hij hdst hLj
    rcases (draw_parts hchk (hall j hj)).2.2.2 i _ hij (hall i hi) with h | ⟨_, _, h⟩
    · have := h _ hdc (hdc j _ (hall j hj) hLj)
      rw [hLi] at this; cases this
    · exact absurd ht ((Oper.apart_spec h).2.2 t hdst)
  rcases envAt_get _ _ _ _ hv with ⟨j, hj, h1, h2, h3⟩ | ⟨h1, h2⟩
  · have hji : j < i := by simp at hj; omega
    rw [List.getElem_take] at h1 h2
    obtain ⟨v', g1, g2⟩ := hd.new j (by omega) (early j hji h1) t h1 fun k hk hjk hLk hdk => by
      rcases Nat.lt_trichotomy k i with hlt | rfl | hgt
      · have := h3 k (by simp; omega) hjk
        rw [List.getElem_take] at this; exact this hdk
      · rw [hLi] at hLk; cases hLk
      · exact late k hk hgt hdk hLk
    refine ⟨v', g1, ?_⟩
    rw [← h2]
    have := nsOf_lt hji (Nat.le_of_lt hi)
    exact g2.mono (by omega) fun _ _ => rfl
  · obtain ⟨v', g1, g2⟩ := hd.old t v h1 fun k hk hLk hdk => by
      rcases Nat.lt_trichotomy k i with hlt | rfl | hgt
      · have := h2 k (by simp; omega)
        rw [List.getElem_take] at this; exact this hdk
      · rw [hLi] at hLk; cases hLk
      · exact late k hk hgt hdk hLk
    exact ⟨v', g1, g2.mono (by omega) fun _ _ => rfl⟩
theorem dinv_step {G : Nat → Prop} {w0 : World} {ρ0 ρ ρ' : Rho} {L : Nat → Bool} {A : Act} {w w' : World} (hd : DInv n0 N G w0 ρ0 e0 mk σ0 ts L A w ρ) (hall : ∀ (i : Nat) (hi : i < ts.length), all[i]? = some ts[i].o)
    (hchk : drawC all ts.length = true) (hn0 : n0 ≤ σ0.length) (hmk : ∀ i ∈ mk, i < σ0.length)
    (hns : ∀ (j : Nat) (hj : j < ts.length), newOk σ0.length ts[j].ns) (hnok : ∀ (j : Nat) (hj : j < ts.length) (i : Nat) (hi : i < j), (∃ D : Nat → Prop, Closed all D ∧ D j ∧ ¬ D i) → ∀ (m : Nat) (ρ ρ' : Rho) (v' : Value), VRel m ρ ts[j].v v' →
      (∀ q, q < σ0.length + (nsOf (ts.take i)).length ∨ σ0.length + (nsOf (ts.take i)).length + ts[i].ns.length ≤ q → ρ' q = ρ q) → VRel m ρ' ts[j].v v')
    {i : Nat} (hi : i < ts.length) (hLi : L i = false) (hdc : Closed all fun k => L k = true) (hdst : dstOk N ts[i].o = true)
    {v' : Value} (hag : ∀ k < σ0.length + (nsOf (ts.take i)).length, ρ' k = ρ k) (hv : VRel (σ0.length + ((nsOf (ts.take i)).length + ts[i].ns.length)) ρ' ts[i].v v')
    (hs' : Sim (oth G ρ σ0 ts L (waitsA ts[i].o.after)) w ρ' (σ0 ++ maskN (ts.take i) 0 (waitsA ts[i].o.after) ++ ts[i].ns) w') :
    DInv n0 N G w0 ρ0 e0 mk σ0 ts (setL L i) (A.put ts[i].o.dst v') w' (mixR ρ ρ' (σ0.length + (nsOf (ts.take i)).length) ts[i].ns.length) := by
  have mixlow : ∀ k < σ0.length + (nsOf (ts.take i)).length, mixR ρ ρ' (σ0.length + (nsOf (ts.take i)).length) ts[i].ns.length k = ρ k := fun k hk => by simp only [mixR]; rw [if_neg (by omega)]
  have mixown : ∀ k < σ0.length + ((nsOf (ts.take i)).length + ts[i].ns.length), mixR ρ ρ' (σ0.length + (nsOf (ts.take i)).length) ts[i].ns.length k = ρ' k := fun k hk => by
    simp only [mixR]; split
    · rfl
    · rw [hag k (by omega)]
  have mixhi : ∀ k, σ0.length + (nsOf (ts.take i)).length + ts[i].ns.length ≤ k → mixR ρ ρ' (σ0.length + (nsOf (ts.take i)).length) ts[i].ns.length k = ρ k := fun k hk => by simp only [mixR]; rw [if_neg (by omega)]
  have keep : ∀ t u, A.tmps[t]? = some u → ts[i].o.dst ≠ some t → (A.put ts[i].o.dst v').tmps[t]? = some u := by
    intro t u hu hne
    cases hdd : ts[i].o.dst with
    | none => simpa [Act.put] using hu
    | some d =>
      simp only [Act.put]
      rw [Array.getElem?_setIfInBounds_ne (fun hdt => hne (by rw [hdd, hdt]))]; exact hu
  refine ⟨fun k hk => (mixlow k (by omega)).trans (hd.ag k hk), sim_join hi hLi (fun j hj => waits_lt hchk (hall i hi) hj) hd.sim hns hag hs', ?_, ?_, fun t v ht hno => ?_, fun k hk hLk t hdk hno => ?_⟩
  · cases hdd : ts[i].o.dst <;> simp [Act.put, hd.sz]
  · have : (A.put ts[i].o.dst v').defers = A.defers := by cases ts[i].o.dst <;> rfl
    rw [this, hd.mks]
    exact List.map_congr_left fun k hk => by rw [mixlow k (by have := hmk k hk; omega)]
  · obtain ⟨u, g1, g2⟩ := hd.old t v ht fun k hk hLk => hno k hk (by simp only [setL]; split <;> simp [hLk])
    exact ⟨u, keep t u g1 (hno i hi (by simp [setL])), g2.mono (Nat.le_refl _) fun k hk => mixlow k (by omega)⟩
  · by_cases hki : k = i
    · subst hki
      refine ⟨v', ?_, hv.mono (by omega) mixown⟩
      simp only [hdk, dstOk, Nat.blt_eq] at hdst
      simp only [hdk, Act.put]
      rw [Array.getElem?_setIfInBounds_self_of_lt (by rw [hd.sz]; exact hdst)]
    · have hLk' : L k = true := by simpa [setL, hki] using hLk
      have hne : ts[i].o.dst ≠ some t := by
        intro hdi
        rcases Nat.lt_or_gt_of_ne hki with hlt | hgt
        · exact hno i hi hlt (by simp [setL]) hdi
        · rcases (draw_parts hchk (hall k hk)).2.2.2 i _ hgt (hall i hi) with h | ⟨_, _, h⟩
          · have := h _ hdc (hdc k _ (hall k hk) hLk')
            rw [hLi] at this; cases this
          · exact (Oper.apart_spec h).2.1 t hdi hdk
      obtain ⟨u, g1, g2⟩ := hd.new k hk hLk' t hdk fun j hj hkj hLj => hno j hj hkj (by simp only [setL]; split <;> simp [hLj])
      refine ⟨u, keep t u g1 hne, ?_⟩
      rcases Nat.lt_or_gt_of_ne hki with hlt | hgt
      · have := nsOf_lt hlt (Nat.le_of_lt hi)
        exact g2.mono (Nat.le_refl _) fun j hj => mixlow j (by omega)
      · have := nsOf_lt hgt (Nat.le_of_lt hk)
        exact hnok k hk i hgt ⟨fun q => L q = true, hdc, hLk', by simp [hLi]⟩ _ _ _ _ g2 fun j hj => by
          rcases hj with hj | hj
          · exact mixlow j hj
          · exact mixhi j hj
theorem nsOf_len : ∀ {ts ts' : List Tr}, ts.map (·.ns.length) = ts'.map (·.ns.length) → (nsOf ts).length = (nsOf ts').length := by
  intro ts ts' h
  have e : ∀ l : List Tr, (nsOf l).length = (l.map (·.ns.length)).sum := by
    intro l
    induction l with
    | nil => rfl
    | cons t l ih =>
      simp only [nsOf, List.map_cons, List.flatten_cons, List.length_append, List.sum_cons] at ih ⊢
      omega
  rw [e, e, h]
theorem nsOf_take {ts ts' : List Tr} (h : ts.map (·.ns.length) = ts'.map (·.ns.length)) (j : Nat) : (nsOf (ts.take j)).length = (nsOf (ts'.take j)).length :=
  nsOf_len (by rw [List.map_take, List.map_take, h])
theorem envAt_eq : ∀ {ts ts' : List Tr} {e : Env}, ts.map (fun t => (t.o.dst, t.v)) = ts'.map (fun t => (t.o.dst, t.v)) → envAt ts e = envAt ts' e
  | [], [], _, _ => rfl
  | [], _ :: _, _, h => by simp at h
  | _ :: _, [], _, h => by simp at h
  | t :: ts, t' :: ts', e, h => by
    simp only [List.map_cons, List.cons.injEq, Prod.mk.injEq] at h
    simp only [envAt, h.1.1, h.1.2]
    exact envAt_eq h.2
theorem maskN_eq : ∀ {ts ts' : List Tr} {k : Nat} {L : Nat → Bool}, ts.length = ts'.length → (∀ (j : Nat) (h : j < ts.length) (h' : j < ts'.length), (L (k + j) = true → ts[j].ns = ts'[j].ns) ∧ ts[j].ns.length = ts'[j].ns.length) → maskN ts k L = maskN ts' k L
  | [], [], _, _, _, _ => rfl
  | [], _ :: _, _, _, h, _ => by simp at h
  | _ :: _, [], _, _, h, _ => by simp at h
  | t :: ts, t' :: ts', k, L, h, hp => by
    have h0 := hp 0 (by simp) (by simp)
    simp only [Nat.add_zero, List.getElem_cons_zero] at h0
    have h1 := maskN_eq (ts := ts) (ts' := ts') (k := k + 1) (L := L) (by simpa using h) fun j hj hj' => by
      have := hp (j + 1) (by simpa using hj) (by simpa using hj')
      simpa [Nat.add_assoc, Nat.add_comm 1 j] using this
    simp only [maskN, h1]
    cases hL : L k with
    | true => rw [if_pos rfl, if_pos rfl, h0.1 hL]
    | false =>
      have e : hide t.ns = hide t'.ns := by
        apply List.ext_getElem
        · simp [hide_length, h0.2]
        · intro i g1 g2; simp [hide]
      simp [e]
theorem sim_join2 {G : Nat → Prop} {w0 w w' : World} {ρ ρ' : Rho} {ts' : List Tr} {L W : Nat → Bool} (hlt : ts'.length = ts.length) (hln : ts.map (·.ns.length) = ts'.map (·.ns.length))
    (heq : ∀ (j : Nat) (h : j < ts.length) (h' : j < ts'.length), W j = false → ts'[j].ns = ts[j].ns)
    (hs : Sim G w0 ρ (σ0 ++ maskN ts 0 L) w) (hns : ∀ (j : Nat) (hj : j < ts.length), newOk σ0.length ts[j].ns) (hns' : ∀ (j : Nat) (hj : j < ts'.length), newOk σ0.length ts'[j].ns)
    (hag : ∀ k < σ0.length + (nsOf ts).length, ρ' k = ρ k) (hs' : Sim (oth G ρ σ0 ts L W) w ρ' (σ0 ++ maskN ts' 0 W) w') : Sim G w0 ρ (σ0 ++ maskN ts' 0 L) w' := by
  have hl0 := nsOf_len hln
  have hlen : (σ0 ++ maskN ts' 0 W).length = σ0.length + (nsOf ts).length := by simp [maskN_length, hl0]
  have hnn : (σ0 ++ maskN ts' 0 L).length = σ0.length + (nsOf ts).length := by simp [maskN_length, hl0]
  have hnn0 : (σ0 ++ maskN ts 0 L).length = σ0.length + (nsOf ts).length := by simp [maskN_length]
  have cls : ∀ (id : Nat) (x : AObj), (σ0 ++ maskN ts' 0 L)[id]? = some x → x.owned ∨ (∃ cs, x = .ro cs ∧ cs ≠ []) →
      ((σ0 ++ maskN ts' 0 W)[id]? = some x ∧ (id < σ0.length ∨ ∃ cs, x = AObj.rw cs)) ∨
      (∃ (j : Nat) (hj : j < ts.length) (q : Nat), L j = true ∧ W j = false ∧ ts[j].ns[q]? = some x ∧ id = σ0.length + ((nsOf (ts.take j)).length + q)) := by
    intro id x hx hxo
    by_cases hlt2 : id < σ0.length
    · left
      rw [app_get_lt hlt2] at hx
      exact ⟨by rw [app_get_lt hlt2]; exact hx, .inl hlt2⟩
    · rw [List.getElem?_append_right (by omega)] at hx
      obtain ⟨j, hj, q, h1, h2, h3⟩ := maskN_inv ts' 0 L _ x hx
      rcases h3 with ⟨hLj, hxj⟩ | ⟨_, rfl⟩
      · simp only [Nat.zero_add] at hLj
        have hrw : ∃ cs, x = AObj.rw cs := let ⟨cs, h, _⟩ := hns' j hj x (List.mem_of_getElem? hxj); ⟨cs, h⟩
        cases hWj : W j with
        | false =>
          right
          have e := heq j (by omega) hj hWj
          rw [e] at hxj
          exact ⟨j, by omega, q, hLj, hWj, hxj, by rw [nsOf_take hln j]; omega⟩
        | true =>
          left
          have hm := maskN_get ts' 0 W j hj q x (by simpa using hWj) hxj
          have hid : id = σ0.length + ((nsOf (ts'.take j)).length + q) := by omega
          exact ⟨by rw [hid, app_get_ge]; exact hm, .inr hrw⟩
      · rcases hxo with hxo | ⟨cs, hcs, _⟩
        · exact hxo.elim
        · cases hcs
  have other : ∀ (j : Nat) (hj : j < ts.length) (q : Nat) (x : AObj), L j = true → ts[j].ns[q]? = some x → (σ0 ++ maskN ts 0 L)[σ0.length + ((nsOf (ts.take j)).length + q)]? = some x := by
    intro j hj q x hLj hxj
    rw [app_get_ge]; exact maskN_get ts 0 L j hj q x (by simpa using hLj) hxj
  refine ⟨hs'.os.trans hs.os, hs'.tape.trans hs.tape, hs'.output.trans hs.output, Nat.le_trans hs.size hs'.size, fun bb hb => ?_, fun id x hx => ?_, fun p q op oq hp hq hop hoq hpq => ?_⟩
  · obtain ⟨h1, h2⟩ := hs.fgn bb hb
    exact ⟨h1, ((hs'.fgn bb (.inl hb)).2).trans h2⟩
  · rw [hnn]
    have hidl := idx_lt hx
    rw [hnn] at hidl
    by_cases hxo : x.owned ∨ (∃ cs, x = .ro cs ∧ cs ≠ [])
    · rcases cls id x hx hxo with ⟨h1, h3⟩ | ⟨j, hj, q, hLj, hWj, hxj, rfl⟩
      · have hr := hs'.obj id x h1
        rw [hlen] at hr
        rw [hag id hidl] at hr
        have hc : oclosed (σ0.length + (nsOf ts).length) x := orel_closed hr
        refine orel_mono (orel_lower (G' := G) hr hc ?_ ?_) (Nat.le_refl _) (fun k hk => (hag k hk).symm) (fun _ h => h) (fun _ _ _ _ h => h)
        · intro hg
          rcases hg with hg | ⟨j, hj, q, y, hLj, hWj, hy, hyo, hbe⟩
          · exact hg
          · exfalso
            rcases hxo with hxo | ⟨cs, rfl, hcs⟩
            · exact (orel_block hr hxo).2 (.inr ⟨j, hj, q, y, hLj, hWj, hy, hyo, hbe⟩)
            · have hlt2 : id < σ0.length := by
                rcases h3 with h3 | ⟨cs', he⟩
                · exact h3
                · cases he
              have h0 : (σ0 ++ maskN ts 0 L)[id]? = some (.ro cs) := by rw [app_get_lt hlt2] at h1 ⊢; exact h1
              obtain ⟨hg, _⟩ := hs.obj id _ h0 hcs
              have hyo' := orel_block (hs.obj _ y (other j hj q y hLj hy)) hyo
              rw [hbe] at hyo'
              exact hyo'.2 hg
        · intro ho hg; exact (orel_block hr ho).2 (.inl hg)
      · have g1 := other j hj q x hLj hxj
        obtain ⟨cs, rfl, hcc, hok⟩ := hns j hj x (List.mem_of_getElem? hxj)
        have hr := hs.obj _ _ g1
        refine orel_mono (orel_lower (n := σ0.length) (G' := G) hr ⟨hcc, hok⟩ (fun h => h) (fun ho => (orel_block hr ho).2)) (by omega) (fun _ _ => rfl) ?_ (fun _ _ h => by cases h)
        intro y hy
        have ho : (AObj.rw cs).owned := by
          rcases hxo with hxo | ⟨_, hcs, _⟩
          · exact hxo
          · cases hcs
        rw [(hs'.fgn _ (.inr ⟨j, hj, q, _, hLj, hWj, hxj, ho, rfl⟩)).2]; exact hy
    · cases x with
      | dead => trivial
      | ro cs => intro hc; exact absurd (.inr ⟨cs, rfl, hc⟩) hxo
      | rw cs => intro hc; exact absurd (.inl hc) hxo
      | gr cs t => intro hc; exact absurd (.inl hc) hxo
      | _ => exact absurd (.inl trivial) hxo
  · have hpl := idx_lt hp
    have hql := idx_lt hq
    rw [hnn] at hpl hql
    rcases cls p op hp (.inl hop) with ⟨h1, _⟩ | ⟨j, hj, k, hLj, hWj, hxj, rfl⟩ <;> rcases cls q oq hq (.inl hoq) with ⟨g1, _⟩ | ⟨j', hj', k', hLj', hWj', hxj', rfl⟩
    · rw [← hag p hpl, ← hag q hql] at hpq
      exact hs'.inj p q op oq h1 g1 hop hoq hpq
    · rw [← hag p hpl] at hpq
      exact absurd (.inr ⟨j', hj', k', oq, hLj', hWj', hxj', hoq, hpq.symm⟩) (orel_block (hs'.obj p op h1) hop).2
    · rw [← hag q hql] at hpq
      exact absurd (.inr ⟨j, hj, k, op, hLj, hWj, hxj, hop, hpq⟩) (orel_block (hs'.obj q oq g1) hoq).2
    · exact hs.inj _ _ op oq (other j hj k op hLj hxj) (other j' hj' k' oq hLj' hxj') hop hoq hpq
def setNs (ts : List Tr) (j : Nat) (h : Heap) : List Tr := ts.modify j fun t => { t with ns := h }
theorem setNs_length (ts : List Tr) (j : Nat) (h : Heap) : (setNs ts j h).length = ts.length := by simp [setNs]
theorem setNs_get {ts : List Tr} {j : Nat} {h : Heap} {i : Nat} (hi : i < (setNs ts j h).length) (hi' : i < ts.length) : (setNs ts j h)[i] = if j = i then { ts[i] with ns := h } else ts[i] := by
  simp only [setNs, List.getElem_modify]
theorem setNs_map {α : Type} (f : Tr → α) {ts : List Tr} {j : Nat} {h : Heap} (hf : ∀ (hj : j < ts.length), f { ts[j] with ns := h } = f ts[j]) : (setNs ts j h).map f = ts.map f := by
  apply List.ext_getElem
  · simp [setNs_length]
  · intro i h1 h2
    have hi : i < ts.length := by simpa using h2
    rw [List.getElem_map, List.getElem_map, setNs_get (by simpa using h1) hi]
    split
    · rename_i e; subst e; exact hf hi
    · rfl
def ChainOk (P : Program) (rd : Option Nat) (all : List Oper) (e : Env) (σ0 : Heap) (m : Nat) (K : List Tr → Prop) : List Oper → List Tr → Prop
  | [], ts => K ts
  | o :: rest, ts => ∃ (j : Nat) (h : Heap) (v : Value), waitsA o.after j = true ∧ (∀ (i : Nat) (oi : Oper), i < m → all[i]? = some oi → waits oi j = true → waitsA o.after i = true) ∧ (∀ hj : j < ts.length, h.length = ts[j].ns.length) ∧ newOk σ0.length h ∧
      OpOk P rd o.op o.type e (σ0 ++ maskN ts 0 (waitsA o.after)) v (σ0 ++ maskN (setNs ts j h) 0 (waitsA o.after)) ∧ ChainOk P rd all e σ0 m K rest (setNs ts j h)
structure FOk (P : Program) (N : Nat) (rd : Option Nat) (all : List Oper) (e0 : Env) (σ0 : Heap) (ts : List Tr) (L : Nat → Bool) : Prop where
  all' : ∀ (i : Nat) (hi : i < ts.length), all[i]? = some ts[i].o
  dst : ∀ (i : Nat) (hi : i < ts.length), dstOk N ts[i].o = true
  want : ∀ (i : Nat) (hi : i < ts.length), wantedA all (envAt (ts.take i) e0) ts[i].o = some ts[i].run
  off : ∀ (i : Nat) (hi : i < ts.length), ts[i].run = false → ts[i].v = undef ∧ (L i = false → ts[i].ns = [])
  new : ∀ (i : Nat) (hi : i < ts.length), newOk σ0.length ts[i].ns
  nok : ∀ (j : Nat) (hj : j < ts.length) (i : Nat) (hi : i < j), (∃ D : Nat → Prop, Closed all D ∧ D j ∧ ¬ D i) → ∀ (m : Nat) (ρ ρ' : Rho) (v' : Value), VRel m ρ ts[j].v v' →
      (∀ q, q < σ0.length + (nsOf (ts.take i)).length ∨ σ0.length + (nsOf (ts.take i)).length + ts[i].ns.length ≤ q → ρ' q = ρ q) → VRel m ρ' ts[j].v v'
  run : ∀ (i : Nat) (hi : i < ts.length), L i = false → ts[i].run = true → OpOk P rd ts[i].o.op ts[i].o.type (envAt (ts.take i) e0) (σ0 ++ maskN (ts.take i) 0 (waitsA ts[i].o.after)) ts[i].v (σ0 ++ maskN (ts.take i) 0 (waitsA ts[i].o.after) ++ ts[i].ns)
theorem FOk.start (htr : TrOk P N rd all 0 ts e0 σ0 []) (hall : ∀ (i : Nat) (hi : i < ts.length), all[i]? = some ts[i].o) (L : Nat → Bool) : FOk P N rd all e0 σ0 ts L := by
  have hget := fun (j : Nat) (hj : j < ts.length) => trok_get ts e0 htr j hj
  refine ⟨hall, fun i hi => (hget i hi).1, fun i hi => (hget i hi).2.1, fun i hi h => ⟨((hget i hi).2.2.2.1 h).1, fun _ => ((hget i hi).2.2.2.1 h).2⟩, fun i hi => (hget i hi).2.2.2.2.1, fun j hj i hij hD m ρ ρ' v' hv hq => ?_, fun i hi _ h => (hget i hi).2.2.1 h⟩
  by_cases hne : ts[i].ns = []
  · exact hv.mono (Nat.le_refl _) fun q _ => hq q (by rw [hne]; simp; omega)
  · have hne' : ((ts.take j)[i]'(by simp; omega)).ns ≠ [] := by simpa using hne
    obtain ⟨n1, n2, e1, e2⟩ := newsAt_split (ts.take j) 0 [] i (by simp; omega) hne'
    rw [Nat.zero_add] at e1
    have e3 : flatN n1 = nsOf (ts.take i) := by
      rw [e2, List.take_take, Nat.min_eq_left (by omega)]; simp [flatN]
    refine (hget j hj).2.2.2.2.2 n1 i _ n2 e1 hD m ρ ρ' v' hv fun q hq' => hq q ?_
    rw [e3] at hq'
    simpa using hq'
theorem FOk.mono {L L' : Nat → Bool} (h : FOk P N rd all e0 σ0 ts L) (hL : ∀ i < ts.length, L i = true → L' i = true) : FOk P N rd all e0 σ0 ts L' := by
  have hf : ∀ i < ts.length, L' i = false → L i = false := fun i hi hh => by
    cases hc : L i with
    | false => rfl
    | true => rw [hL i hi hc] at hh; cases hh
  exact ⟨h.all', h.dst, h.want, fun i hi hr => ⟨(h.off i hi hr).1, fun hl => (h.off i hi hr).2 (hf i hi hl)⟩, h.new, h.nok, fun i hi hl hr => h.run i hi (hf i hi hl) hr⟩
theorem setNs_lens {j : Nat} {h : Heap} (hl : ∀ hj : j < ts.length, h.length = ts[j].ns.length) : ts.map (·.ns.length) = (setNs ts j h).map (·.ns.length) := (setNs_map _ (fun hj => by simpa using hl hj)).symm
theorem setNs_take (j i : Nat) (h : Heap) : (setNs ts j h).take i = setNs (ts.take i) j h := by
  apply List.ext_getElem
  · simp [setNs_length]
  · intro q h1 h2
    have hq : q < ts.length := by simp [setNs_length] at h1; omega
    have hqi : q < (ts.take i).length := by simpa [setNs_length] using h2
    rw [List.getElem_take, setNs_get (by rw [setNs_length]; exact hq) hq, setNs_get h2 hqi]
    simp only [List.getElem_take]
theorem FOk.set {L : Nat → Bool} {j : Nat} {h : Heap} (hf : FOk P N rd all e0 σ0 ts L) (hj : j < ts.length → L j = true) (hw : ∀ (i : Nat) (hi : i < ts.length), waits ts[i].o j = true → L i = true) (hl : ∀ hj : j < ts.length, h.length = ts[j].ns.length) (hn : newOk σ0.length h) : FOk P N rd all e0 σ0 (setNs ts j h) L := by
  have hlen := setNs_length ts j h
  have get : ∀ (i : Nat) (hi : i < (setNs ts j h).length) (hi' : i < ts.length), (setNs ts j h)[i].o = ts[i].o ∧ (setNs ts j h)[i].v = ts[i].v ∧ (setNs ts j h)[i].run = ts[i].run ∧ (i ≠ j → (setNs ts j h)[i].ns = ts[i].ns) := by
    intro i hi hi'
    rw [setNs_get hi hi']
    split
    · rename_i e; exact ⟨rfl, rfl, rfl, fun hne => absurd e.symm hne⟩
    · exact ⟨rfl, rfl, rfl, fun _ => rfl⟩
  have henv : ∀ i, envAt ((setNs ts j h).take i) e0 = envAt (ts.take i) e0 := fun i => by
    rw [setNs_take]; exact envAt_eq (setNs_map _ (fun _ => rfl))
  have hlens := setNs_lens (ts := ts) hl
  refine ⟨fun i hi => ?_, fun i hi => ?_, fun i hi => ?_, fun i hi hr => ?_, fun i hi => ?_, fun q hq i hi hD m ρ ρ' v' hv hr => ?_, fun i hi hL hr => ?_⟩
  · rw [(get i hi (by omega)).1]; exact hf.all' i (by omega)
  · rw [(get i hi (by omega)).1]; exact hf.dst i (by omega)
  · rw [(get i hi (by omega)).1, (get i hi (by omega)).2.2.1, henv]; exact hf.want i (by omega)
  · rw [(get i hi (by omega)).2.2.1] at hr
    rw [(get i hi (by omega)).2.1]
    refine ⟨(hf.off i (by omega) hr).1, fun hL => ?_⟩
    by_cases hij : i = j
    · subst hij; rw [hj (by omega)] at hL; cases hL
    · rw [(get i hi (by omega)).2.2.2 hij]; exact (hf.off i (by omega) hr).2 hL
  · by_cases hij : i = j
    · subst hij
      rw [setNs_get hi (by omega), if_pos rfl]; exact hn
    · rw [(get i hi (by omega)).2.2.2 hij]; exact hf.new i (by omega)
  · rw [(get q hq (by omega)).2.1] at hv ⊢
    refine hf.nok q (by omega) i hi hD m ρ ρ' v' hv fun k hk => hr k ?_
    rw [← nsOf_take hlens i]
    have e : (setNs ts j h)[i].ns.length = ts[i].ns.length := by
      have := congrArg (fun l : List Nat => l[i]?) hlens
      simp only [List.getElem?_map] at this
      rw [List.getElem?_eq_getElem (show i < ts.length by omega), List.getElem?_eq_getElem (show i < (setNs ts j h).length by omega)] at this
      simpa using this.symm
    rw [e]; exact hk
  · have hij : i ≠ j := fun e => by subst e; rw [hj (by omega)] at hL; cases hL
    obtain ⟨g1, g2, g3, g4⟩ := get i hi (by omega)
    rw [g3] at hr
    have hwi : waits ts[i].o j = false := by
      cases hc : waits ts[i].o j with
      | false => rfl
      | true => rw [hw i (by omega) hc] at hL; cases hL
    have em : maskN ((setNs ts j h).take i) 0 (waitsA ts[i].o.after) = maskN (ts.take i) 0 (waitsA ts[i].o.after) := by
      refine maskN_eq (by simp [hlen]) fun q h1 h2 => ?_
      have hq : q < ts.length := by simp at h2; omega
      have hq' : q < (setNs ts j h).length := by omega
      simp only [List.getElem_take, Nat.zero_add]
      by_cases hqj : q = j
      · subst hqj
        refine ⟨fun hc => ?_, ?_⟩
        · unfold waits at hwi; rw [hwi] at hc; cases hc
        · rw [setNs_get hq' hq, if_pos rfl]; exact hl hq
      · rw [(get q hq' hq).2.2.2 hqj]; exact ⟨fun _ => rfl, rfl⟩
    rw [g1, g2, g4 hij, henv, em]
    exact hf.run i (by omega) hL hr
theorem dinv_set {G : Nat → Prop} {w0 w w' : World} {ρ0 ρ : Rho} {L : Nat → Bool} {A : Act} {j : Nat} {h : Heap} (hd : DInv n0 N G w0 ρ0 e0 mk σ0 ts L A w ρ) (hl : ∀ hj : j < ts.length, h.length = ts[j].ns.length) (hs : Sim G w0 ρ (σ0 ++ maskN (setNs ts j h) 0 L) w') :
    DInv n0 N G w0 ρ0 e0 mk σ0 (setNs ts j h) L A w' ρ := by
  have hlen := setNs_length ts j h
  have hlens := setNs_lens (ts := ts) hl
  have geto : ∀ (i : Nat) (hi : i < (setNs ts j h).length) (hi' : i < ts.length), (setNs ts j h)[i].o = ts[i].o ∧ (setNs ts j h)[i].v = ts[i].v := by
    intro i hi hi'
    rw [setNs_get hi hi']
    split <;> exact ⟨rfl, rfl⟩
  refine ⟨hd.ag, hs, hd.sz, hd.mks, fun t v ht hno => hd.old t v ht fun k hk hL => ?_, fun k hk hL t ht hno => ?_⟩
  · rw [← (geto k (by omega) hk).1]; exact hno k (by omega) hL
  · rw [(geto k hk (by omega)).1] at ht
    obtain ⟨v', g1, g2⟩ := hd.new k (by omega) hL t ht fun q hq hkq hLq => by
      rw [← (geto q (by omega) hq).1]; exact hno q (by omega) hkq hLq
    refine ⟨v', g1, ?_⟩
    rw [(geto k hk (by omega)).2, ← nsOf_take hlens k]
    have e : (setNs ts j h)[k].ns.length = ts[k].ns.length := by
      have := congrArg (fun l : List Nat => l[k]?) hlens
      simp only [List.getElem?_map] at this
      rw [List.getElem?_eq_getElem (show k < ts.length by omega), List.getElem?_eq_getElem hk] at this
      simpa using this.symm
    rw [e]; exact g2
theorem chain_any {G : Nat → Prop} {w0 : World} {ρ0 : Rho} {Q' : Exit → Act → World → Prop} {m : Nat} {K : List Tr → Prop} (hrd : rdok rd n0 = true) (hchk : drawC all m = true) (hn0 : n0 ≤ σ0.length) (hmk : ∀ i ∈ mk, i < σ0.length)
    (hcl : ∀ (i : Nat) (o : AObj), σ0[i]? = some o → oclosed σ0.length o) (eF : Env)
    (hfin : ∀ (ts : List Tr) A w ρ, K ts → ts.length = m → envAt ts e0 = eF → DInv n0 N G w0 ρ0 e0 mk σ0 ts (fun _ => true) A w ρ → Q' .normal A w) :
    ∀ (fuel : Nat) (tl : List Oper) (ts : List Tr) (listed : Array Bool) (A : Act) (w : World) (ρ : Rho), ts.length = m → envAt ts e0 = eF → m + tl.length ≤ all.length → tl = all.drop (all.length - tl.length) → listed.size = all.length →
      (∀ i, m ≤ i → i < all.length → listed.getD i false = decide (i < all.length - tl.length)) → cnt all.length listed = fuel → Closed all (fun k => listed.getD k false = true) → FOk P N rd all e0 σ0 ts (fun k => listed.getD k false) →
      ChainOk P rd all eF σ0 m K tl ts → DInv n0 N G w0 ρ0 e0 mk σ0 ts (fun i => listed.getD i false) A w ρ → wpAnyIn (fen ρ0 rd) 0 P .any all.toArray Q' fuel listed A w := by
  intro fuel
  induction fuel with
  | zero =>
    intro tl ts listed A w ρ hts heF hle htl hsz hpat hcnt hdc hF hch hd
    have hno : ∀ i < all.length, listed.getD i false = true := by
      intro i hi
      unfold cnt at hcnt
      have := (List.countP_eq_zero.1 hcnt) i (by simpa using hi)
      simp only [Bool.not_eq_true', Bool.not_eq_false] at this
      rw [getD_lt (by omega) false true]; exact this
    cases tl with
    | cons o rest =>
      exfalso
      simp only [List.length_cons] at hle hpat
      have h1 := hpat (all.length - (rest.length + 1)) (by omega) (by omega)
      rw [hno _ (by omega)] at h1
      simp at h1
    | nil =>
      refine ⟨List.eq_nil_iff_forall_not_mem.2 fun i hi => ?_, hfin ts A w ρ hch hts heF (dinv_congr (fun k hk => ?_) hd)⟩
      · obtain ⟨h1, o, ho, _⟩ := mem_ready.1 hi
        rw [List.getElem?_toArray] at ho
        have hia := (List.getElem?_eq_some_iff.1 ho).1
        rw [getD_lt (by omega) true false, hno i hia] at h1; cases h1
      · simp only [List.length_nil] at hle
        exact hno k (by omega)
  | succ fuel ih =>
    intro tl ts listed A w ρ hts heF hle htl hsz hpat hcnt hdc hF hch hd
    have hchk' : drawC all ts.length = true := by rw [hts]; exact hchk
    refine ⟨fun hr => ?_, fun i hr => ?_⟩
    · exfalso
      have hex : ∃ i, i < all.length ∧ listed.getD i false = false := by
        apply Classical.byContradiction
        intro hn
        have : cnt all.length listed = 0 := by
          unfold cnt
          rw [List.countP_eq_zero]
          intro i hi
          have hi' : i < all.length := by simpa using hi
          have hl : listed.getD i false = true := by
            cases hc : listed.getD i false with
            | true => rfl
            | false => exact absurd ⟨i, hi', hc⟩ hn
          rw [getD_lt (by omega) true false, hl]; simp
        omega
      have least : ∃ i, (i < all.length ∧ listed.getD i false = false) ∧ ∀ k < i, listed.getD k false = true := by
        obtain ⟨i, hi⟩ := hex
        induction i using Nat.strongRecOn with
        | _ i ih2 =>
          by_cases hlow : ∃ k, k < i ∧ listed.getD k false = false
          · obtain ⟨k, hk, hkf⟩ := hlow; exact ih2 k hk ⟨by omega, hkf⟩
          · refine ⟨i, hi, fun k hk => ?_⟩
            cases hc : listed.getD k false with
            | true => rfl
            | false => exact absurd ⟨k, hk, hc⟩ hlow
      obtain ⟨i, ⟨hi, hif⟩, hlow⟩ := least
      have ho : all[i]? = some all[i] := List.getElem?_eq_getElem hi
      have : i ∈ Region.ready .any all.toArray listed := mem_ready.2 ⟨by rw [getD_lt (by omega) true false]; exact hif, all[i], by rw [List.getElem?_toArray]; exact ho,
        fun e he hb => hlow _ ((draw_parts hchk ho).2.1 e he hb)⟩
      rw [hr] at this; cases this
    · obtain ⟨hif, o, ho, _⟩ := mem_ready.1 hr
      rw [List.getElem?_toArray] at ho
      have hia : i < all.length := (List.getElem?_eq_some_iff.1 ho).1
      have hif' : listed.getD i false = false := by rw [getD_lt (by omega) false true]; exact hif
      have hclose : Closed all (fun k => (listed.setIfInBounds i true).getD k false = true) := by
        intro j o' hj hLj k hk
        show (listed.setIfInBounds i true).getD k false = true
        have hLj : (listed.setIfInBounds i true).getD j false = true := hLj
        rw [getD_set (by omega)] at hLj ⊢
        split
        · rfl
        · split at hLj
          · rename_i hji; subst hji
            rw [ho] at hj; cases hj
            exact waits_ready hr ho hk
          · exact hdc j o' hj hLj k hk
      rcases Nat.lt_or_ge i m with him0 | him0
      · have him : i < ts.length := by omega
        have hoi : o = ts[i].o := by have := hF.all' i him; rw [ho] at this; exact Option.some.inj this
        subst hoi
        have hw : ∀ j, waits ts[i].o j = true → listed.getD j false = true := fun j hj => waits_ready hr ho hj
        have hsees := fun {t : Nat} (ht : t ∈ ts[i].o.looksAt all.toArray) {v : Value} (hv : Env.get (envAt (ts.take i) e0) t = some v) =>
          dinv_sees hd hF.all' hchk' him hif' hw hdc ht hv
        have hwant : Region.wanted ts[i].o (yielded all.toArray A.tmps) = ts[i].run := by
          refine wanted_sees (hF.want i him) fun g want hg t ht v hv => ?_
          obtain ⟨v', g1, g2⟩ := hsees (t := t) (by
            unfold Oper.looksAt
            rw [hg]
            refine List.mem_append_right _ ?_
            simp only [List.getElem?_toArray]
            rw [ht]; simp) hv
          exact ⟨_, _, v', g1, g2⟩
        have hpart := sim_part (i := i) (W := waitsA ts[i].o.after) hd.sim hcl hF.new hw
        have after : ∀ (ρ' : Rho) (v' : Value) (w' : World), (∀ k < σ0.length + (nsOf (ts.take i)).length, ρ' k = ρ k) → VRel (σ0.length + ((nsOf (ts.take i)).length + ts[i].ns.length)) ρ' ts[i].v v' →
            Sim (oth G ρ σ0 ts (fun i => listed.getD i false) (waitsA ts[i].o.after)) w ρ' (σ0 ++ maskN (ts.take i) 0 (waitsA ts[i].o.after) ++ ts[i].ns) w' →
            wpAnyIn (fen ρ0 rd) 0 P .any all.toArray Q' fuel (listed.setIfInBounds i true) (A.put ts[i].o.dst v') w' := by
          intro ρ' v' w' ha hv hs'
          have hd' := dinv_step hd hF.all' hchk' hn0 hmk hF.new hF.nok him hif' hdc (hF.dst i him) ha hv hs'
          refine ih tl ts _ _ _ _ hts heF hle htl (by simpa using hsz) (fun k hk hka => ?_) ?_ hclose (hF.mono fun k hk hL => ?_) hch (dinv_congr (fun k hk => ?_) hd')
          · rw [getD_set (by omega), if_neg (by omega)]; exact hpat k hk hka
          · have := cnt_set hia hsz hif; omega
          · show (listed.setIfInBounds i true).getD k false = true
            rw [getD_set (by omega)]; split
            · rfl
            · exact hL
          · simp only [setL]; rw [getD_set (by omega)]
        unfold wpOpIn
        simp only [List.getElem?_toArray, ho]
        cases hrun : ts[i].run with
        | true =>
          rw [if_pos (by rw [hwant, hrun])]
          have hok := hF.run i him hif' hrun
          rw [← fen_congr (rd := rd) (ρ' := ρ) (ρ := ρ0) fun l hl => hd.ag l (rdok_lt hrd l hl)]
          refine hok ts[i].o rfl rfl (oth G ρ σ0 ts (fun i => listed.getD i false) (waitsA ts[i].o.after)) w ρ A w (fun l hl => by have := rdok_lt hrd l hl; simp; omega) hpart (fun x hx u hu => ?_) _ _ ?_
          · cases x with
            | tmp t =>
              obtain ⟨v', g1, g2⟩ := hsees (t := t) (List.mem_append_left _ (List.mem_filterMap.2 ⟨.tmp t, by simpa using hx, rfl⟩)) hu
              rw [List.length_append, maskN_length]
              simpa [Act.eval, g1] using g2
            | const c =>
              simp only [evalO] at hu
              cases hp : plain c <;> simp [hp] at hu
              subst hu; exact vrel_plain c hp
            | func f => simp only [evalO, Option.some.injEq] at hu; subst hu; exact .func f #[] #[] #[] #[] rfl rfl (fun i h => by simp at h) (fun i h => by simp at h)
            | global g => simp [evalO] at hu
          · intro ρ' v' w' hv hle ha hs'
            rw [fen_congr (rd := rd) (ρ' := ρ) (ρ := ρ0) fun l hl => hd.ag l (rdok_lt hrd l hl)]
            refine after ρ' v' w' (fun k hk => ha k (by rw [List.length_append, maskN_length]; exact hk)) ?_ hs'
            rw [List.length_append, List.length_append, maskN_length, Nat.add_assoc] at hv; exact hv
        | false =>
          rw [if_neg (by rw [hwant, hrun]; simp)]
          obtain ⟨g1, g2⟩ := hF.off i him hrun
          have g2 := g2 hif'
          refine ⟨fun f _ => fen_fn _ _ _, ?_⟩
          have := after ρ undef w (fun _ _ => rfl) (by rw [g1]; exact vrel_plain _ rfl) (by rw [g2]; simpa using hpart)
          exact this
      ·
        have hq : all.length - tl.length ≤ i := by
          have := hpat i him0 hia
          rw [hif'] at this
          have := of_decide_eq_false this.symm
          omega
        cases tl with
        | nil => simp only [List.length_nil] at hq; omega
        | cons o1 rest =>
          simp only [List.length_cons] at hle hpat hq htl
          have ho1 : all[all.length - (rest.length + 1)]? = some o1 := by
            have := congrArg (fun l : List Oper => l[0]?) htl
            simpa using this.symm
          have hrest : rest = all.drop (all.length - rest.length) := by
            have := congrArg List.tail htl
            simp only [List.tail_cons, List.tail_drop] at this
            rw [show all.length - rest.length = all.length - (rest.length + 1) + 1 by omega]; exact this
          have hiq : i = all.length - (rest.length + 1) := by
            apply Classical.byContradiction; intro hne
            rcases (draw_parts hchk ho).2.2.2 (all.length - (rest.length + 1)) o1 (by omega) ho1 with h' | ⟨h', _, _⟩
            · have := h' (fun k => listed.getD k false = true) hdc fun k hk => waits_ready hr ho hk
              have h2 := hpat (all.length - (rest.length + 1)) (by omega) (by omega)
              rw [show listed.getD (all.length - (rest.length + 1)) false = true from this] at h2
              simp at h2
            · omega
          have hoo : o = o1 := by rw [hiq, ho1] at ho; exact (Option.some.inj ho).symm
          subst hoo
          obtain ⟨hdst, hgd⟩ := (draw_all hchk ho).2 him0
          obtain ⟨j, h, v, hwj, hwi, hhl, hhn, hop, hch'⟩ := hch
          have hw : ∀ k, waits o k = true → listed.getD k false = true := fun k hk => waits_ready hr ho hk
          have hpart := sim_part (i := ts.length) (W := waitsA o.after) hd.sim hcl hF.new hw
          rw [List.take_length] at hpart
          have hF' := hF.set (j := j) (h := h) (fun _ => hw j hwj) (fun k hk hkw => hw k (hwi k _ (by omega) (hF.all' k hk) hkw)) hhl hhn
          have hsees : ∀ t ∈ o.looksAt all.toArray, ∀ u, Env.get eF t = some u → ∃ v', A.tmps[t]? = some v' ∧ VRel (σ0.length + (nsOf ts).length) ρ u v' := by
            intro t ht u hu
            rw [← heF] at hu
            have early : ∀ (k : Nat) (hk : k < ts.length), ts[k].o.dst = some t → listed.getD k false = true := by
              intro k hk hdk
              rcases (draw_parts hchk ho).2.2.2 k _ (by omega) (hF.all' k hk) with h' | ⟨_, _, h'⟩
              · exact h' (fun k => listed.getD k false = true) hdc fun k hk => waits_ready hr ho hk
              · exact absurd ht ((Oper.apart_spec h').1 t hdk)
            rcases envAt_get _ _ _ _ hu with ⟨k, hk, h1, h2, h3⟩ | ⟨h1, h2⟩
            · obtain ⟨v', g1, g2⟩ := hd.new k hk (early k hk h1) t h1 fun q hq hkq _ => h3 q hq hkq
              refine ⟨v', g1, ?_⟩
              rw [← h2]
              have := nsOf_le hk
              exact g2.mono (by omega) fun _ _ => rfl
            · obtain ⟨v', g1, g2⟩ := hd.old t u h1 fun k hk _ => h2 k hk
              exact ⟨v', g1, g2.mono (by omega) fun _ _ => rfl⟩
          unfold wpOpIn
          simp only [List.getElem?_toArray, ho]
          rw [if_pos (by simp [Region.wanted, hgd])]
          rw [← fen_congr (rd := rd) (ρ' := ρ) (ρ := ρ0) fun l hl => hd.ag l (rdok_lt hrd l hl)]
          refine hop o rfl rfl (oth G ρ σ0 ts (fun i => listed.getD i false) (waitsA o.after)) w ρ A w (fun l hl => by have := rdok_lt hrd l hl; simp; omega) hpart (fun x hx u hu => ?_) _ _ ?_
          · cases x with
            | tmp t =>
              obtain ⟨v', g1, g2⟩ := hsees t (List.mem_append_left _ (List.mem_filterMap.2 ⟨.tmp t, by simpa using hx, rfl⟩)) u hu
              rw [List.length_append, maskN_length]
              simpa [Act.eval, g1] using g2
            | const c =>
              simp only [evalO] at hu
              cases hp : plain c <;> simp [hp] at hu
              subst hu; exact vrel_plain c hp
            | func f => simp only [evalO, Option.some.injEq] at hu; subst hu; exact .func f #[] #[] #[] #[] rfl rfl (fun i h => by simp at h) (fun i h => by simp at h)
            | global g => simp [evalO] at hu
          · intro ρ' v' w' hv hle2 ha hs'
            rw [fen_congr (rd := rd) (ρ' := ρ) (ρ := ρ0) fun l hl => hd.ag l (rdok_lt hrd l hl)]
            have hlens := setNs_lens (ts := ts) hhl
            have hs2 := sim_join2 (setNs_length ts j h) hlens (fun k hk hk' hWk => by
              rw [setNs_get hk' hk]
              split
              · rename_i e; subst e; rw [hwj] at hWk; cases hWk
              · rfl) hd.sim hF.new hF'.new (fun k hk => ha k (by rw [List.length_append, maskN_length]; exact hk)) hs'
            have hd2 := dinv_set hd hhl hs2
            rw [hdst]
            refine ih rest (setNs ts j h) _ _ _ _ (by rw [setNs_length]; exact hts) ?_ (by omega) hrest (by simpa using hsz) (fun k hk hka => ?_) ?_ hclose (hF'.mono fun k hk hL => ?_) hch' (dinv_congr (fun k hk => ?_) hd2)
            · rw [← heF]; exact envAt_eq (setNs_map _ fun _ => rfl)
            · rw [getD_set (by omega)]
              split
              · rename_i e; subst e; symm; simp only [decide_eq_true_eq]; omega
              · rename_i e; rw [hpat k hk hka]; simp only [decide_eq_decide]; omega
            · have := cnt_set hia hsz hif; omega
            · show (listed.setIfInBounds i true).getD k false = true
              rw [getD_set (by omega)]; split
              · rfl
              · exact hL
            · rw [setNs_length] at hk
              rw [getD_set (by omega), if_neg (by omega)]
def setNw (news : List (Nat × Heap)) (j : Nat) (h : Heap) : List (Nat × Heap) := news.map fun p => bif Nat.beq p.1 j then (p.1, h) else p
theorem setNw_other {news : List (Nat × Heap)} {j : Nat} {h : Heap} (hn : ∀ p ∈ news, p.1 ≠ j) : setNw news j h = news := by
  unfold setNw
  conv => rhs; rw [← List.map_id news]
  exact List.map_congr_left fun p hp => by rw [beq_ne (hn p hp)]; rfl
theorem newsAt_app : ∀ (ts : List Tr) (k : Nat) (news : List (Nat × Heap)), newsAt k ts news = news ++ newsAt k ts []
  | [], _, _ => by simp [newsAt]
  | t :: ts, k, news => by
    simp only [newsAt]
    rw [newsAt_app ts (k + 1) (addN news k t.ns), newsAt_app ts (k + 1) (addN [] k t.ns), ← List.append_assoc]
    congr 1
    cases t.ns <;> simp [addN]
theorem newsAt_mem : ∀ (ts : List Tr) (k : Nat) (p : Nat × Heap), p ∈ newsAt k ts [] → ∃ (i : Nat) (hi : i < ts.length), p = (k + i, ts[i].ns)
  | [], _, p, h => by simp [newsAt] at h
  | t :: ts, k, p, h => by
    simp only [newsAt] at h
    rw [newsAt_app] at h
    rcases List.mem_append.1 h with h | h
    · refine ⟨0, by simp, ?_⟩
      cases hn : t.ns with
      | nil => rw [hn] at h; simp [addN] at h
      | cons x r => rw [hn] at h; simp [addN] at h; simp [h, hn]
    · obtain ⟨i, hi, e⟩ := newsAt_mem ts (k + 1) p h
      exact ⟨i + 1, by simpa using hi, by rw [e]; simp; omega⟩
theorem newsAt_set {h : Heap} (hne : h ≠ []) : ∀ (ts : List Tr) (k j : Nat), (∀ hj : j < ts.length, ts[j].ns ≠ []) → newsAt k (setNs ts j h) [] = setNw (newsAt k ts []) (k + j) h
  | [], k, j, _ => by simp [setNs, newsAt, setNw]
  | t :: ts, k, 0, hj => by
    have h0 : t.ns ≠ [] := hj (by simp)
    have hr : ∀ p ∈ newsAt (k + 1) ts [], p.1 ≠ k := fun p hp => by
      obtain ⟨i, _, e⟩ := newsAt_mem ts (k + 1) p hp
      rw [e]; simp only; omega
    simp only [setNs, List.modify_zero_cons, newsAt]
    rw [newsAt_app, newsAt_app ts (k + 1) (addN [] k t.ns)]
    simp only [Nat.add_zero]
    unfold setNw
    rw [List.map_append]
    have e := setNw_other (h := h) hr
    unfold setNw at e
    rw [e]
    congr 1
    cases ht : t.ns with
    | nil => exact absurd ht h0
    | cons x r =>
      cases h with
      | nil => exact absurd rfl hne
      | cons y q => simp [addN]
  | t :: ts, k, j + 1, hj => by
    have ih := newsAt_set hne ts (k + 1) j (fun hh => hj (Nat.succ_lt_succ hh))
    simp only [setNs, List.modify_succ_cons, newsAt]
    rw [newsAt_app, newsAt_app ts (k + 1) (addN [] k t.ns)]
    unfold setNs at ih
    rw [ih]
    unfold setNw
    rw [List.map_append, show k + 1 + j = k + (j + 1) by omega]
    congr 1
    cases ht : t.ns with
    | nil => simp [addN]
    | cons x r => simp [addN, beq_ne (show ¬ k = k + (j + 1) by omega)]
def WChain (P : Program) (rd : Option Nat) (all : List Oper) (e : Env) (σ0 : Heap) (m : Nat) (K : List (Nat × Heap) → Prop) : List Oper → List (Nat × Heap) → Prop
  | [], news => K news
  | o :: rest, news => ∃ (j : Nat) (h : Heap) (v : Value), waitsA o.after j = true ∧ ((List.range m).all fun i => match all[i]? with | some oi => !waits oi j || waitsA o.after i | none => true) = true ∧ (∃ old, (j, old) ∈ news ∧ old.length = h.length) ∧ h ≠ [] ∧ newOk σ0.length h ∧
      OpOk P rd o.op o.type e (σ0 ++ visN (waitsA o.after) news) v (σ0 ++ visN (waitsA o.after) (setNw news j h)) ∧ WChain P rd all e σ0 m K rest (setNw news j h)
theorem wchain_ok {e : Env} {m : Nat} {K : List (Nat × Heap) → Prop} : ∀ (tl : List Oper) (ts : List Tr), WChain P rd all e σ0 m K tl (newsAt 0 ts []) → ChainOk P rd all e σ0 m (fun ts' => K (newsAt 0 ts' [])) tl ts
  | [], _, h => h
  | o :: rest, ts, h => by
    obtain ⟨j, hp, v, h1, h2, ⟨old, h3, h4⟩, h5, h6, h7, h8⟩ := h
    obtain ⟨i, hi, ei⟩ := newsAt_mem ts 0 _ h3
    simp only [Prod.mk.injEq, Nat.zero_add] at ei
    obtain ⟨rfl, rfl⟩ := ei
    have hns : ts[j].ns ≠ [] := fun hc => by
      rw [hc] at h4
      exact h5 (List.eq_nil_of_length_eq_zero (by simpa using h4.symm))
    have e1 := newsAt_set h5 ts 0 j (fun _ => hns)
    rw [Nat.zero_add] at e1
    refine ⟨j, hp, v, h1, fun k ok hk hok hkw => ?_, fun _ => h4.symm, h6, ?_, wchain_ok rest _ (by rw [e1]; exact h8)⟩
    · have := List.all_eq_true.1 h2 k (by simpa using hk)
      simp only [hok, hkw, Bool.not_true, Bool.false_or] at this
      exact this
    · have a1 := visN_newsAt (waitsA o.after) ts 0 []
      have a2 := visN_newsAt (waitsA o.after) (setNs ts j hp) 0 []
      simp only [visN, List.map_nil, List.flatten_nil, List.nil_append] at a1 a2
      rw [e1] at a2
      rw [← a1, ← a2]
      exact h7
end
theorem W_regionC {P : Program} {n0 N : Nat} {rd : Option Nat} {Q : Post} {e : Env} {mk : List Nat} {σ : Heap} {id : Nat} {l : List Oper} (hm : P.follows .mixedOrders = true) (hrd : rdok rd n0 = true)
    (h : WFree P N rd l 0 l e σ [] (fun e' news tl => drawC l (l.length - tl.length) = true ∧ WChain P rd l e' σ (l.length - tl.length) (fun news' => Q .normal e' mk (σ ++ flatN news')) tl news)) : WCode P n0 N rd (.region id l.toArray true) Q e mk σ := by
  intro G w0 ρ0 A w hi
  obtain ⟨h0, ρ, ha, hs, he⟩ := hi
  refine wpIn_region_any hm ?_
  obtain ⟨ts, tl, hts, htr, hchk, hK⟩ := wfree_trace l 0 e σ [] _ h
  have hlen : ts.length + tl.length = l.length := by rw [← hts]; simp
  have hm2 : l.length - tl.length = ts.length := by omega
  rw [hm2] at hchk hK
  have hall : ∀ (i : Nat) (hi : i < ts.length), l[i]? = some ts[i].o := by
    intro i hi
    rw [← hts, List.getElem?_append_left (by simpa using hi)]; simp [hi]
  have hcl : ∀ (i : Nat) (o : AObj), σ[i]? = some o → oclosed σ.length o := fun i o hi => orel_closed (hs.obj i o hi)
  have hrep : ∀ i, (Array.replicate l.toArray.size false).getD i false = false := fun i => by
    simp only [Array.getD_eq_getD_getElem?, Array.getElem?_replicate]; split <;> rfl
  refine chain_any (e0 := e) (mk := mk) (σ0 := σ) (ρ0 := ρ0) (G := G) (w0 := w0) (N := N) (n0 := n0) (m := ts.length) (K := fun ts' => Q .normal (envAt ts e) mk (σ ++ flatN (newsAt 0 ts' []))) hrd hchk h0 he.mkb hcl (envAt ts e) ?_ _ tl ts _ _ _ ρ rfl rfl (by omega) ?_ (by simp) (fun i hi hia => ?_) ?_ ?_ (FOk.start htr hall _) (wchain_ok tl ts hK) ?_
  · intro ts' A' w' ρ' hk hl' heq hd'
    have hfl : flatN (newsAt 0 ts' []) = nsOf ts' := by
      have a1 := visN_newsAt (fun _ => true) ts' 0 []
      rw [maskN_true] at a1
      have a2 : visN (fun _ => true) (newsAt 0 ts' []) = flatN (newsAt 0 ts' []) := by simp [visN, flatN]
      simp only [visN, List.map_nil, List.flatten_nil, List.nil_append] at a1 a2
      rw [← a2, a1]
    rw [hfl] at hk
    have hsim := hd'.sim
    rw [maskN_true] at hsim
    refine ⟨envAt ts e, mk, σ ++ nsOf ts', hk, by simp; omega, ρ', fun i hi => hd'.ag i hi, hsim, ⟨hd'.sz, fun t v hv => ?_⟩, hd'.mks, fun i hi => by have := he.mkb i hi; simp; omega⟩
    rw [← heq] at hv
    rcases envAt_get ts' e t v hv with ⟨j, hj, h1, h2, h3⟩ | ⟨h1, h2⟩
    · obtain ⟨v', g1, g2⟩ := hd'.new j hj rfl t h1 fun k hk hjk _ => h3 k hk hjk
      refine ⟨v', g1, ?_⟩
      rw [← h2]
      have := nsOf_le hj
      exact g2.mono (by simp; omega) fun _ _ => rfl
    · obtain ⟨v', g1, g2⟩ := hd'.old t v h1 fun k hk _ => h2 k hk
      exact ⟨v', g1, g2.mono (by simp) fun _ _ => rfl⟩
  · have e1 : l.drop ts.length = tl := by rw [← hts, List.drop_append_of_le_length (by simp)]; simp
    rw [show l.length - tl.length = ts.length by omega, e1]
  · rw [hrep]; symm; simp only [decide_eq_false_iff_not]; omega
  · unfold cnt
    rw [List.countP_eq_length.2]
    · simp
    · intro i hi
      rw [getD_lt (d' := false) (by simpa using hi), hrep]; rfl
  · intro j o _ hL
    rw [hrep] at hL; cases hL
  · refine dinv_congr (L := fun _ => false) (fun k _ => (hrep k).symm) ⟨ha, ?_, he.tmps.1, he.mks, fun t v hv _ => ?_, fun k hk hL => by cases hL⟩
    · rw [maskN_false]
      exact sim_drawn (sim_hide hs _) rfl rfl rfl rfl
    · exact he.tmps.2 t v hv
def visM : List Bool → List (Nat × Heap) → Heap
  | b :: bs, p :: news => (bif b then p.2 else hide p.2) ++ visM bs news
  | _, _ => []
theorem visM_eq {L : Nat → Bool} : ∀ {mask : List Bool} {news : List (Nat × Heap)}, news.map (fun p => L p.1) = mask → visN L news = visM mask news
  | [], [], _ => rfl
  | [], _ :: _, h => by simp at h
  | _ :: _, [], h => by simp at h
  | b :: bs, p :: news, h => by
    simp only [List.map_cons, List.cons.injEq] at h
    have ih := visM_eq (L := L) h.2
    simp only [visN, List.map_cons, List.flatten_cons, visM] at ih ⊢
    rw [ih, h.1]
theorem setNw_map {L : Nat → Bool} {news : List (Nat × Heap)} {j : Nat} {h : Heap} : (setNw news j h).map (fun p => L p.1) = news.map (fun p => L p.1) := by
  unfold setNw
  rw [List.map_map]
  refine List.map_congr_left fun p _ => ?_
  simp only [Function.comp_apply]
  cases Nat.beq p.1 j <;> rfl
theorem wc_step {P : Program} {rd : Option Nat} {all : List Oper} {e : Env} {σ0 : Heap} {m : Nat} {K : List (Nat × Heap) → Prop} {rest : List Oper} {news : List (Nat × Heap)} {op : Op} {ty : TypeId} {pos : String} {after : Array Edge} {v : Value}
    (j : Nat) (mask : List Bool) (cs : List Value) (hmask : news.map (fun p => waitsA after p.1) = mask) (hj : waitsA after j = true) (hw : ((List.range m).all fun i => match all[i]? with | some oi => !waits oi j || waitsA after i | none => true) = true)
    (hold : (news.any fun p => Nat.beq p.1 j && Nat.beq p.2.length 1) = true) (hc : closedL σ0.length cs = true) (ho : okL cs = true)
    (h : OpOk P rd op ty e (σ0 ++ visM mask news) v (σ0 ++ visM mask (setNw news j [.rw cs]))) (hk : WChain P rd all e σ0 m K rest (setNw news j [.rw cs])) : WChain P rd all e σ0 m K (⟨none, op, ty, pos, after, none⟩ :: rest) news := by
  refine ⟨j, [.rw cs], v, hj, hw, ?_, by simp, fun x hx => ⟨cs, by simpa using hx, hc, ho⟩, ?_, hk⟩
  · obtain ⟨p, hp, hq⟩ := List.any_eq_true.1 hold
    simp only [Bool.and_eq_true] at hq
    refine ⟨p.2, ?_, by simpa using Nat.eq_of_beq_eq_true hq.2⟩
    rw [← Nat.eq_of_beq_eq_true hq.1]; exact hp
  · show OpOk P rd op ty e (σ0 ++ visN (waitsA after) news) v (σ0 ++ visN (waitsA after) (setNw news j [.rw cs]))
    rw [visM_eq hmask, visM_eq (setNw_map.trans hmask)]; exact h
theorem fr1A {P : Program} {N : Nat} {rd : Option Nat} {e : Env} {σ0 : Heap} {news : List (Nat × Heap)} {K : Env → List (Nat × Heap) → List Oper → Prop} {k : Nat} {all rest : List Oper} {d : Nat} {op : Op} {ty : TypeId} {pos : String} {after : Array Edge} {cs : List Value}
    (h : OpOk P rd op ty e (σ0 ++ visN (waitsA after) news) (.pointer (some ⟨(σ0 ++ visN (waitsA after) news).length, 0, none⟩)) (σ0 ++ visN (waitsA after) news ++ [.rw cs])) (hc : closedL σ0.length cs = true) (ho : okL cs = true) (hd : Nat.blt d N = true)
    (hk : WFree P N rd all (k + 1) rest ((d, .pointer (some ⟨σ0.length + (flatN news).length, 0, none⟩)) :: e) σ0 (addN news k [.rw cs]) K) :
    WFree P N rd all k (⟨some d, op, ty, pos, after, none⟩ :: rest) e σ0 news K := by
  refine fr1 h hc ho hd ?_
  rw [List.length_append, visN_length]; exact hk
theorem wc_nil {P : Program} {rd : Option Nat} {all : List Oper} {e : Env} {σ0 : Heap} {m : Nat} {K : List (Nat × Heap) → Prop} {news : List (Nat × Heap)} (h : K news) : WChain P rd all e σ0 m K [] news := h
end Go.AH.Chain
namespace Go.AH
open Go
section
variable {P : Program} {n0 N : Nat} {rd : Option Nat} {Q : Post} {e : Env} {mk : List Nat} {σ : Heap}
structure StopC (p : Prop) : Prop where
  out : p
theorem W_stopC {t : Tmp} {x y : Code} (h : StopC (WCode P n0 N rd (.cond (.tmp t) x y) Q e mk σ)) : WCode P n0 N rd (.cond (.tmp t) x y) Q e mk σ := h.out
theorem W_condM {c : Operand} {x y : Code} {b : Bool} (hc : evalO e c = some (.bool b)) (E2 : Env) (σ2 : Heap) (k : ∀ e', EnvSub e' E2 → Q .normal e' mk σ2)
    (h1 : b = true → WCode P n0 N rd x (fun ex e' mk' σ' => ex = .normal ∧ mk' = mk ∧ σ' = σ2 ∧ EnvSub e' E2) e mk σ) (h2 : b = false → WCode P n0 N rd y (fun ex e' mk' σ' => ex = .normal ∧ mk' = mk ∧ σ' = σ2 ∧ EnvSub e' E2) e mk σ) : WCode P n0 N rd (.cond c x y) Q e mk σ := by
  have key : ∀ ex e' mk' σ', (ex = Exit.normal ∧ mk' = mk ∧ σ' = σ2 ∧ EnvSub e' E2) → Q ex e' mk' σ' := by
    rintro ex e' mk' σ' ⟨rfl, rfl, rfl, he⟩; exact k e' he
  cases b with
  | true => exact W_condT hc rfl ((h1 rfl).mono key)
  | false => exact W_condF hc rfl ((h2 rfl).mono key)
end
end Go.AH
namespace Go.AH
open Go
theorem ok_eqBT {P : Program} {rd : Option Nat} {ty : TypeId} {e : Env} {σ : Heap} {x y : Operand} {p q : Bool} {t t' : TypeId} (ht : P.underlying t = some .bool) (hx : evalO e x = some (.bool p)) (hy : evalO e y = some (.bool q)) (h : p = q) :
    OpOk P rd (.binOp .eql t x y t') ty e σ (.bool true) σ :=
  ok_plain (by simp) rfl fun o ho _ A hA w => by
    have h1 := hA x (by simp [Op.operands]) _ hx rfl
    have h2 := hA y (by simp [Op.operands]) _ hy rfl
    have h3 : (eqGuard .eql t x y (.bool p) (.bool q)).run P w = .ok () w := by unfold eqGuard; split <;> rfl
    have h5 : ∀ d, (Op.equalIn (d + 1) t (.bool p) (.bool q)).run P w = .ok (p == q) w := fun d => by simp [Op.equalIn, underlying, ht]
    have h4 : (Op.equal t (.bool p) (.bool q)).run P w = .ok (p == q) w := h5 9999
    subst h
    simp [execOp, ho, h1, h2, h3, binOp, h4]
end Go.AH
namespace Go.Proofs.Ytgfnogdecggkkaa
open Go Go.AH
attribute [local irreducible] WOps WCode WFree retQ thenQ blockQ OpOk ACall RetRef roundA roundB
set_option maxRecDepth 100000
set_option maxHeartbeats 1000000
theorem more_bad (s : St) (l : List Int) (c : Nat) (more w0 w1 b0 b1 b2 n : Int) (hN : l.length ≤ 9223372036854775807) (h : ¬ checkS s l = 0) :
    Ev Try.prog 11 [s.val, .slice (some ⟨0, 0, none⟩) l.length c, .int .i64 more, .agg #[.int .u32 w0, .int .u32 w1], .agg #[.int .u16 b0, .int .u16 b1, .int .u16 b2], .int .u8 n] [.ro (ints l)] (.bool true) [.ro (ints l)] := by
  refine acall_intro 1 228 Try.func11 rfl rfl rfl rfl rfl ?_
  repeat' (first | (refine gU ?_; first | refine st (ok_eqBT Try.underlying4 rfl rfl (by exact decide_eq_decide.2 hiff)) rfl rfl ?_ | (refine gMove ?_; first | refine st (ok_move rfl) rfl rfl ?_) | (refine gAssign ?_; first | refine st (ok_assign rfl) rfl rfl ?_) | (refine gFA ?_; first | refine st (ok_fieldAddr rfl) rfl rfl ?_) | (refine gLoad ?_; first | refine st (ok_load rfl (by first | rfl | exact hgk _ hilK | assumption)) rfl rfl ?_ | refine st (ok_loadA rfl (by first | rfl | exact hgk _ hilK | assumption)) rfl rfl ?_) | (refine gAdd ?_; first | refine st (ok_inc rfl rfl (by omega)) rfl rfl ?_ | refine st (ok_add rfl rfl (by omega) (by omega)) rfl rfl ?_ | refine st (ok_bin rfl rfl rfl) rfl rfl ?_) | (refine gSub ?_; first | refine st (ok_sub rfl rfl (by omega) (by omega)) rfl rfl ?_ | refine st (ok_bin rfl rfl rfl) rfl rfl ?_) | (refine gBin ?_; first | refine st (ok_bin rfl rfl rfl) rfl rfl ?_ | refine st (ok_rem rfl rfl (by omega)) rfl rfl ?_ | refine st (ok_eq2 rfl rfl) rfl rfl ?_ | refine st (ok_neq2 rfl rfl) rfl rfl ?_) | (refine gLen ?_; first | refine st (ok_len rfl) rfl rfl ?_ | refine st (ok_lenV rfl) rfl rfl ?_) | (refine gPick ?_; first | refine st (ok_pickTA rfl rfl) rfl rfl ?_ | refine st (ok_pickFA rfl rfl) rfl rfl ?_) | (refine gNot ?_; first | refine st (ok_notD rfl) rfl rfl ?_ | refine st (ok_not' rfl) rfl rfl ?_) | (refine gExtract ?_; first | refine st (ok_extract rfl rfl) rfl rfl ?_) | (refine gIA ?_; first | refine st (ok_idxN rfl rfl (by omega)) rfl rfl ?_ | refine st (ok_idxSN rfl rfl (by omega)) rfl rfl ?_ | refine st (ok_idxAN rfl rfl (by omega)) rfl rfl ?_ | refine st (ok_idx rfl rfl (by omega) (by omega)) rfl rfl ?_ | refine st (ok_idxG rfl rfl (by omega) (by omega)) rfl rfl ?_ | refine st (ok_idxA rfl rfl (by omega) (by omega)) rfl rfl ?_) | (refine gMax ?_; first | refine st (ok_max rfl rfl) rfl rfl ?_) | (refine gMin ?_; first | refine st (ok_min rfl rfl) rfl rfl ?_) | (refine gConv ?_; first | refine st (ok_conv64 rfl (by omega) (by omega)) rfl rfl ?_ | refine st (ok_convK rfl (by omega) (by omega)) rfl rfl ?_) | (refine gCall ?_; first | refine st (ok_call rfl rfl rfl (by first | exact fine_ev (by first | exact .inl rfl | exact .inr (.inl rfl) | exact .inr (.inr ⟨_, rfl⟩) | assumption) (by assumption) rfl | exact hfX | exact works_ev rfl | exact hc0 | exact hcA | exact hcB | exact hcC | exact hcD | exact hcX | exact hki | exact hwo | exact hcW | exact Ev.nil (rg_ok _ _) rfl rfl rfl)) rfl rfl ?_) | (refine gBox ?_; first | refine st (ok_box rfl) rfl rfl ?_) | (refine gAlloc ?_; first | refine st (ok_alloc rfl) rfl rfl ?_) | (refine gBuildS ?_; first | refine st (ok_buildS (by rfl) (by rfl) (by rfl) (by rfl) rfl (by rfl)) rfl rfl ?_ | refine st (ok_buildS0) rfl rfl ?_) | (refine gApp ?_; first | refine st (ok_appendV (by rfl) (by rfl) rfl (by rfl) (by first | rfl | exact hlen1 | assumption) rfl (by first | rfl | exact hA _ | assumption) (by omega) (by first | rfl | assumption) (by omega) (by omega)) rfl rfl ?_ | refine st (ok_appendIn rfl rfl (by omega) (by omega) (by first | rfl | exact hA _ | assumption) (by first | rfl | assumption) (by first | rfl | assumption | exact hp1 (by omega) | exact hp2 (by omega))) rfl rfl ?_ | refine st (ok_app0 rfl (by first | rfl | exact slOk_slvV _ _ _) rfl (by omega)) rfl rfl ?_ | refine st (ok_appendE (by rfl) rfl rfl (by first | rfl | exact hA _ | assumption) (by omega) (by omega) (by omega)) rfl rfl ?_) | (refine gStore ?_; refine stN (ok_store rfl rfl rfl rfl (by first | rfl | assumption | exact hp1 (by omega) | exact hp2 (by omega))) rfl ?_)) | (refine gG ?_; first | refine stGA rfl (ok_eqBT Try.underlying4 rfl rfl (by exact decide_eq_decide.2 hiff)) rfl rfl ?_ | (refine gMove ?_; first | refine stGA rfl (ok_move rfl) rfl rfl ?_) | (refine gLoad ?_; first | refine stGA rfl (ok_load rfl (by first | rfl | exact hgk _ hilK | assumption)) rfl rfl ?_ | refine stGA rfl (ok_loadA rfl (by first | rfl | exact hgk _ hilK | assumption)) rfl rfl ?_) | (refine gBin ?_; first | refine stGA rfl (ok_bin rfl rfl rfl) rfl rfl ?_ | refine stGA rfl (ok_eq2 rfl rfl) rfl rfl ?_ | refine stGA rfl (ok_neq2 rfl rfl) rfl rfl ?_) | (refine gLen ?_; first | refine stGA rfl (ok_len rfl) rfl rfl ?_ | refine stGA rfl (ok_lenV rfl) rfl rfl ?_) | (refine gIA ?_; first | refine stGA rfl (ok_idxN rfl rfl (by omega)) rfl rfl ?_ | refine stGA rfl (ok_idxSN rfl rfl (by omega)) rfl rfl ?_ | refine stGA rfl (ok_idxAN rfl rfl (by omega)) rfl rfl ?_ | refine stGA rfl (ok_idx rfl rfl (by omega) (by omega)) rfl rfl ?_ | refine stGA rfl (ok_idxG rfl rfl (by omega) (by omega)) rfl rfl ?_ | refine stGA rfl (ok_idxA rfl rfl (by omega) (by omega)) rfl rfl ?_) | (refine gCall ?_; first | refine stGA rfl (ok_call rfl rfl rfl (by first | exact fine_ev (by first | exact .inl rfl | exact .inr (.inl rfl) | exact .inr (.inr ⟨_, rfl⟩) | assumption) (by assumption) rfl | exact hfX | exact works_ev rfl | exact hc0 | exact hcA | exact hcB | exact hcC | exact hcD | exact hcX | exact hki | exact hwo | exact hcW | exact Ev.nil (rg_ok _ _) rfl rfl rfl)) rfl rfl ?_) | refine stSU rfl rfl ?_ | refine stSA rfl rfl ?_ | ((fail_if_success (refine stGkA rfl ?_)); first | (refine stGdD rfl ?_ ?_ <;> intro _) | (refine stGd rfl ?_ ?_ <;> intro _))) | (refine fU ?_; first | (refine fLoad ?_; first | refine frA (ok_load rfl (by first | rfl | exact hgk _ hilK | assumption)) rfl ?_ | refine frA (ok_loadA rfl (by first | rfl | exact hgk _ hilK | assumption)) rfl ?_) | (refine fAlloc ?_; first | refine Chain.fr1A (ok_alloc rfl) rfl rfl rfl ?_)) | (refine fr_stop ⟨by kernel_rfl, ?_⟩) | refine W_seq ?_ | refine W_stop (id := 6) ?_ | refine W_stop (id := 19) ?_ | refine W_stop (id := 29) ?_ | refine W_region ?_ | refine Chain.W_regionC (id := 5) (by kernel_rfl) rfl ?_ | refine W_regionD (by kernel_rfl) rfl ?_ | refine st_nil ?_ | refine Chain.wc_nil ?_ | refine Chain.wc_step 4 [true, true, true, true] s.cells (by kernel_rfl) (by kernel_rfl) (by kernel_rfl) (by kernel_rfl) rfl rfl (ok_store rfl rfl rfl rfl rfl) ?_ | refine Chain.wc_step 5 [true, true, true, true] s.cells (by kernel_rfl) (by kernel_rfl) (by kernel_rfl) (by kernel_rfl) rfl rfl (ok_store rfl rfl rfl rfl rfl) ?_ | refine Chain.wc_step 6 [true, true, true, true] s.cells (by kernel_rfl) (by kernel_rfl) (by kernel_rfl) (by kernel_rfl) rfl rfl (ok_store rfl rfl rfl rfl rfl) ?_ | refine Chain.wc_step 7 [true, true, true, true] s.cells (by kernel_rfl) (by kernel_rfl) (by kernel_rfl) (by kernel_rfl) rfl rfl (ok_store rfl rfl rfl rfl rfl) ?_ | refine tq_n ?_ | refine tq_r ?_ | refine tq_e ?_ | refine bq_n ?_ | refine bq_r ?_ | refine bq_hit rfl ?_ | refine bq_miss rfl ?_ | refine W_skip ?_ | refine W_exit ?_ | refine W_ret ?_ | refine W_block ?_ | refine W_stopC (t := 128) ?_ | refine W_condTA rfl ?_ | refine W_condFA rfl ?_ | (refine W_condD rfl ?_ ?_ <;> intro _) | (refine W_cond rfl ?_ ?_ <;> intro _))
  all_goals (first | exact ret0 (.tmp rfl .nil) (.plain rfl rfl) ⟨rfl, rfl⟩ | exact absurd h (by omega))
theorem more_ok (s : St) (l : List Int) (c : Nat) (more w0 w1 b0 b1 b2 n : Int) (hr : -9223372036854775808 ≤ s.short ∧ s.short ≤ 9223372036854775807) (hc : l.length ≤ c) (hw0 : 0 ≤ w0 ∧ w0 ≤ 4294967295) (hw1 : 0 ≤ w1 ∧ w1 ≤ 4294967295)
    (hb0 : 0 ≤ b0 ∧ b0 ≤ 65535) (hb1 : 0 ≤ b1 ∧ b1 ≤ 65535) (hb2 : 0 ≤ b2 ∧ b2 ≤ 65535) (hn : 0 ≤ n ∧ n ≤ 255) (h : checkS s l = 0) :
    Ev Try.prog 11 [s.val, .slice (some ⟨0, 0, none⟩) l.length c, .int .i64 more, .agg #[.int .u32 w0, .int .u32 w1], .agg #[.int .u16 b0, .int .u16 b1, .int .u16 b2], .int .u8 n] [.ro (ints l)] (.bool true) [.ro (ints l)] := by
  obtain ⟨h12, h1, hs, ht⟩ := checkS_zero h
  have hs' := hs
  unfold badStone at hs'
  have hN : l.length ≤ 9223372036854775807 := by omega
  have hN' : l.length ≤ 1000000 := by omega
  have hA : ∀ σ' : Heap, cellsAt (.ro (ints l) :: σ') 0 0 (l.length * 1) = some (ints l) := fun σ' => by
    rw [cells_part (l := l) (a := 0) (σ := σ') (by omega)]; simp
  have hlen1 : (ints l).length = l.length * 1 := by simp [ints]
  refine acall_intro 1 228 Try.func11 rfl rfl rfl rfl rfl ?_
  have hc0 := count2_ev (σ := [.ro (ints l), .rw s.cells, .rw [.int .u32 w0, .int .u32 w1], .rw [.int .u16 b0, .int .u16 b1, .int .u16 b2]]) (s := s) (l := l) (a := 0) (c := c) (.inl rfl) hN' hr h rfl
  obtain ⟨ca, na⟩ := wide_more (a := w0) (b := w1) h hw0.1 hw1.1
  obtain ⟨cb, nb⟩ := off_more (a := b0) h hb0.1
  obtain ⟨cc, nc⟩ := short_more (a := b1) h hb1.1
  obtain ⟨cd, nd⟩ := long_more (a := b2) h hb2.1
  have hcA := count2_ev (σ := [.ro (ints l), .rw s.cells, .rw [.int .u32 w0, .int .u32 w1], .rw [.int .u16 b0, .int .u16 b1, .int .u16 b2], .dead, .dead, .rw [.int .i64 more], .gr (ints l ++ [.int .i64 more]) 2, .rw (wideS s w0 w1).cells, .rw (offS s b0).cells, .rw (shortS s b1).cells, .rw (longS s b2).cells, .rw ((wideS s w0 w1).cells ++ (offS s b0).cells ++ (shortS s b1).cells ++ (longS s b2).cells)]) (s := wideS s w0 w1) (l := l) (a := 0) (c := c) (.inl rfl) hN' hr ca rfl
  have hcB := count2_ev (σ := [.ro (ints l), .rw s.cells, .rw [.int .u32 w0, .int .u32 w1], .rw [.int .u16 b0, .int .u16 b1, .int .u16 b2], .dead, .dead, .rw [.int .i64 more], .gr (ints l ++ [.int .i64 more]) 2, .rw (wideS s w0 w1).cells, .rw (offS s b0).cells, .rw (shortS s b1).cells, .rw (longS s b2).cells, .rw ((wideS s w0 w1).cells ++ (offS s b0).cells ++ (shortS s b1).cells ++ (longS s b2).cells)]) (s := offS s b0) (l := l) (a := 0) (c := c) (.inl rfl) hN' hr cb rfl
  have hcC := count2_ev (σ := [.ro (ints l), .rw s.cells, .rw [.int .u32 w0, .int .u32 w1], .rw [.int .u16 b0, .int .u16 b1, .int .u16 b2], .dead, .dead, .rw [.int .i64 more], .gr (ints l ++ [.int .i64 more]) 2, .rw (wideS s w0 w1).cells, .rw (offS s b0).cells, .rw (shortS s b1).cells, .rw (longS s b2).cells, .rw ((wideS s w0 w1).cells ++ (offS s b0).cells ++ (shortS s b1).cells ++ (longS s b2).cells)]) (s := shortS s b1) (l := l) (a := 0) (c := c) (.inl rfl) hN' (by unfold shortS; simp only; omega) cc rfl
  have hcD := count2_ev (σ := [.ro (ints l), .rw s.cells, .rw [.int .u32 w0, .int .u32 w1], .rw [.int .u16 b0, .int .u16 b1, .int .u16 b2], .dead, .dead, .rw [.int .i64 more], .gr (ints l ++ [.int .i64 more]) 2, .rw (wideS s w0 w1).cells, .rw (offS s b0).cells, .rw (shortS s b1).cells, .rw (longS s b2).cells, .rw ((wideS s w0 w1).cells ++ (offS s b0).cells ++ (shortS s b1).cells ++ (longS s b2).cells)]) (s := longS s b2) (l := l) (a := 0) (c := c) (.inl rfl) hN' hr cd rfl
  have hxl : (l ++ [more]).length = l.length + 1 := by simp
  have hN1 : l.length + 1 ≤ 9223372036854775807 := by omega
  have hN2 : (l ++ [more]).length ≤ 1000000 := by omega
  have harX : arrAt [.ro (ints l), .rw s.cells, .rw [.int .u32 w0, .int .u32 w1], .rw [.int .u16 b0, .int .u16 b1, .int .u16 b2], .dead, .dead, .rw [.int .i64 more], .gr (ints l ++ [.int .i64 more]) 2, .rw (wideS s w0 w1).cells, .rw (offS s b0).cells, .rw (shortS s b1).cells, .rw (longS s b2).cells, .rw ((wideS s w0 w1).cells ++ (offS s b0).cells ++ (shortS s b1).cells ++ (longS s b2).cells)] 7 (ints (l ++ [more])) := .inr (.inr ⟨2, by rw [ints_app]; rfl⟩)
  have hfX := fineV_ev (σ := [.ro (ints l), .rw s.cells, .rw [.int .u32 w0, .int .u32 w1], .rw [.int .u16 b0, .int .u16 b1, .int .u16 b2], .dead, .dead, .rw [.int .i64 more], .gr (ints l ++ [.int .i64 more]) 2, .rw (wideS s w0 w1).cells, .rw (offS s b0).cells, .rw (shortS s b1).cells, .rw (longS s b2).cells, .rw ((wideS s w0 w1).cells ++ (offS s b0).cells ++ (shortS s b1).cells ++ (longS s b2).cells)]) (s := s) (l := l ++ [more]) (x := 7) (n := l.length + 1) harX hxl hN1 rfl
  have hcX := fun hx => countV_ev (σ := [.ro (ints l), .rw s.cells, .rw [.int .u32 w0, .int .u32 w1], .rw [.int .u16 b0, .int .u16 b1, .int .u16 b2], .dead, .dead, .rw [.int .i64 more], .gr (ints l ++ [.int .i64 more]) 2, .rw (wideS s w0 w1).cells, .rw (offS s b0).cells, .rw (shortS s b1).cells, .rw (longS s b2).cells, .rw ((wideS s w0 w1).cells ++ (offS s b0).cells ++ (shortS s b1).cells ++ (longS s b2).cells)]) (s := s) (l := l ++ [more]) (a := 7) (n := l.length + 1) harX hxl hN2 hr hx rfl
  have nx := fun hx => snoc_more (s := s) (l := l) (a := more) h hx
  have hki := rimKinds_ev (σ := [.ro (ints l), .rw s.cells, .rw [.int .u32 w0, .int .u32 w1], .rw [.int .u16 b0, .int .u16 b1, .int .u16 b2], .dead, .dead, .rw [.int .i64 more], .gr (ints l ++ [.int .i64 more]) 2, .rw (wideS s w0 w1).cells, .rw (offS s b0).cells, .rw (shortS s b1).cells, .rw (longS s b2).cells, .rw ((wideS s w0 w1).cells ++ (offS s b0).cells ++ (shortS s b1).cells ++ (longS s b2).cells)]) (s := s) (l := l) (a := 0) (c := c) (.inl rfl) hN' hr rfl
  have hm1 : 0 ≤ n.tmod (l.length : Int) := Int.tmod_nonneg _ hn.1
  have hm2 : n.tmod (l.length : Int) < l.length := Int.tmod_lt_of_pos _ (by omega)
  obtain ⟨i, hi0⟩ : ∃ i : Nat, n.tmod (l.length : Int) = (i : Int) := ⟨(n.tmod (l.length : Int)).toNat, by omega⟩
  have hil : i < l.length := by omega
  have hwo := without_ev (σ := [.ro (ints l), .rw s.cells, .rw [.int .u32 w0, .int .u32 w1], .rw [.int .u16 b0, .int .u16 b1, .int .u16 b2], .dead, .dead, .rw [.int .i64 more], .gr (ints l ++ [.int .i64 more]) 2, .rw (wideS s w0 w1).cells, .rw (offS s b0).cells, .rw (shortS s b1).cells, .rw (longS s b2).cells, .rw ((wideS s w0 w1).cells ++ (offS s b0).cells ++ (shortS s b1).cells ++ (longS s b2).cells), .rw (ints (kindsR s l))]) (l := l) (a := 0) (c := c) (i := i) (.inl rfl) hil hc (by omega) rfl
  have hwl := without_len hil
  have hone := fun he h1 => kinds_one (s := s) (l := l) h he h1
  have hmany := fun he h2 => kinds_more (s := s) (l := l) (i := i) h he hil h2
  have hkl : planE s l = 0 → (kindsR s l).length = l.length := fun he => by unfold kindsR; rw [if_pos he, kindsL_len]
  have hk0 : planE s l = 19 → (kindsR s l).length = 0 := fun he => by unfold kindsR; rw [if_neg (by omega)]; rfl
  have hcW := fun h2 => count2_ev (σ := [.ro (ints l), .rw s.cells, .rw [.int .u32 w0, .int .u32 w1], .rw [.int .u16 b0, .int .u16 b1, .int .u16 b2], .dead, .dead, .rw [.int .i64 more], .gr (ints l ++ [.int .i64 more]) 2, .rw (wideS s w0 w1).cells, .rw (offS s b0).cells, .rw (shortS s b1).cells, .rw (longS s b2).cells, .rw ((wideS s w0 w1).cells ++ (offS s b0).cells ++ (shortS s b1).cells ++ (longS s b2).cells), .rw (ints (kindsR s l)), .rw (ints (without l i))]) (s := s) (l := without l i) (a := 14) (c := l.length - 1) (.inr (.inl rfl)) (by omega) hr (without_check h hil h2) rfl
  rw [hwl] at hcW
  have hcn : planE s l = 0 → cntV s l ≤ 12 := fun he => by
    unfold cntV; rw [if_pos he]
    have := (planR_best h he).len
    omega
  have hcg : planE s l = 19 → cntV s l = 1000 := fun he => by unfold cntV; rw [if_neg (by omega)]
  have h019 := planE_01 h
  have hcv := cntV_le h
  generalize cntV (wideS s w0 w1) l = vA at hcA na
  generalize cntV (offS s b0) l = vB at hcB nb
  generalize cntV (shortS s b1) l = vC at hcC nc
  generalize cntV (longS s b2) l = vD at hcD nd
  generalize cntV s (l ++ [more]) = vX at hcX nx
  generalize cntV s (without l i) = vW at hcW hmany
  generalize cntV s l = v0 at *
  have hgk : ∀ (σ' : Heap), i < (kindsR s l).length → cellGet ([.ro (ints l), .rw s.cells, .rw [.int .u32 w0, .int .u32 w1], .rw [.int .u16 b0, .int .u16 b1, .int .u16 b2], .dead, .dead, .rw [.int .i64 more], .gr (ints l ++ [.int .i64 more]) 2, .rw (wideS s w0 w1).cells, .rw (offS s b0).cells, .rw (shortS s b1).cells, .rw (longS s b2).cells, .rw ((wideS s w0 w1).cells ++ (offS s b0).cells ++ (shortS s b1).cells ++ (longS s b2).cells), .rw (ints (kindsR s l))] ++ σ') 13 i = some (.int .i64 (gi (kindsR s l) i)) := fun σ' hi => by
    simpa [cellGet] using ints_get hi
  generalize kindsR s l = K at *
  generalize planE s l = pe at *
  repeat' (first | (refine gU ?_; first | refine st (ok_eqBT Try.underlying4 rfl rfl (by exact decide_eq_decide.2 hiff)) rfl rfl ?_ | (refine gMove ?_; first | refine st (ok_move rfl) rfl rfl ?_) | (refine gAssign ?_; first | refine st (ok_assign rfl) rfl rfl ?_) | (refine gFA ?_; first | refine st (ok_fieldAddr rfl) rfl rfl ?_) | (refine gLoad ?_; first | refine st (ok_load rfl (by first | rfl | exact hgk _ hilK | assumption)) rfl rfl ?_ | refine st (ok_loadA rfl (by first | rfl | exact hgk _ hilK | assumption)) rfl rfl ?_) | (refine gAdd ?_; first | refine st (ok_inc rfl rfl (by omega)) rfl rfl ?_ | refine st (ok_add rfl rfl (by omega) (by omega)) rfl rfl ?_ | refine st (ok_bin rfl rfl rfl) rfl rfl ?_) | (refine gSub ?_; first | refine st (ok_sub rfl rfl (by omega) (by omega)) rfl rfl ?_ | refine st (ok_bin rfl rfl rfl) rfl rfl ?_) | (refine gBin ?_; first | refine st (ok_bin rfl rfl rfl) rfl rfl ?_ | refine st (ok_rem rfl rfl (by omega)) rfl rfl ?_ | refine st (ok_eq2 rfl rfl) rfl rfl ?_ | refine st (ok_neq2 rfl rfl) rfl rfl ?_) | (refine gLen ?_; first | refine st (ok_len rfl) rfl rfl ?_ | refine st (ok_lenV rfl) rfl rfl ?_) | (refine gPick ?_; first | refine st (ok_pickTA rfl rfl) rfl rfl ?_ | refine st (ok_pickFA rfl rfl) rfl rfl ?_) | (refine gNot ?_; first | refine st (ok_notD rfl) rfl rfl ?_ | refine st (ok_not' rfl) rfl rfl ?_) | (refine gExtract ?_; first | refine st (ok_extract rfl rfl) rfl rfl ?_) | (refine gIA ?_; first | refine st (ok_idxN rfl rfl (by omega)) rfl rfl ?_ | refine st (ok_idxSN rfl rfl (by omega)) rfl rfl ?_ | refine st (ok_idxAN rfl rfl (by omega)) rfl rfl ?_ | refine st (ok_idx rfl rfl (by omega) (by omega)) rfl rfl ?_ | refine st (ok_idxG rfl rfl (by omega) (by omega)) rfl rfl ?_ | refine st (ok_idxA rfl rfl (by omega) (by omega)) rfl rfl ?_) | (refine gMax ?_; first | refine st (ok_max rfl rfl) rfl rfl ?_) | (refine gMin ?_; first | refine st (ok_min rfl rfl) rfl rfl ?_) | (refine gConv ?_; first | refine st (ok_conv64 rfl (by omega) (by omega)) rfl rfl ?_ | refine st (ok_convK rfl (by omega) (by omega)) rfl rfl ?_) | (refine gCall ?_; first | refine st (ok_call rfl rfl rfl (by first | exact fine_ev (by first | exact .inl rfl | exact .inr (.inl rfl) | exact .inr (.inr ⟨_, rfl⟩) | assumption) (by assumption) rfl | exact hfX | exact works_ev rfl | exact hc0 | exact hcA | exact hcB | exact hcC | exact hcD | exact hcX | exact hki | exact hwo | exact hcW | exact Ev.nil (rg_ok _ _) rfl rfl rfl)) rfl rfl ?_) | (refine gBox ?_; first | refine st (ok_box rfl) rfl rfl ?_) | (refine gAlloc ?_; first | refine st (ok_alloc rfl) rfl rfl ?_) | (refine gBuildS ?_; first | refine st (ok_buildS (by rfl) (by rfl) (by rfl) (by rfl) rfl (by rfl)) rfl rfl ?_ | refine st (ok_buildS0) rfl rfl ?_) | (refine gApp ?_; first | refine st (ok_appendV (by rfl) (by rfl) rfl (by rfl) (by first | rfl | exact hlen1 | assumption) rfl (by first | rfl | exact hA _ | assumption) (by omega) (by first | rfl | assumption) (by omega) (by omega)) rfl rfl ?_ | refine st (ok_appendIn rfl rfl (by omega) (by omega) (by first | rfl | exact hA _ | assumption) (by first | rfl | assumption) (by first | rfl | assumption | exact hp1 (by omega) | exact hp2 (by omega))) rfl rfl ?_ | refine st (ok_app0 rfl (by first | rfl | exact slOk_slvV _ _ _) rfl (by omega)) rfl rfl ?_ | refine st (ok_appendE (by rfl) rfl rfl (by first | rfl | exact hA _ | assumption) (by omega) (by omega) (by omega)) rfl rfl ?_) | (refine gStore ?_; refine stN (ok_store rfl rfl rfl rfl (by first | rfl | assumption | exact hp1 (by omega) | exact hp2 (by omega))) rfl ?_)) | (refine gG ?_; first | refine stGA rfl (ok_eqBT Try.underlying4 rfl rfl (by exact decide_eq_decide.2 hiff)) rfl rfl ?_ | (refine gMove ?_; first | refine stGA rfl (ok_move rfl) rfl rfl ?_) | (refine gLoad ?_; first | refine stGA rfl (ok_load rfl (by first | rfl | exact hgk _ hilK | assumption)) rfl rfl ?_ | refine stGA rfl (ok_loadA rfl (by first | rfl | exact hgk _ hilK | assumption)) rfl rfl ?_) | (refine gBin ?_; first | refine stGA rfl (ok_bin rfl rfl rfl) rfl rfl ?_ | refine stGA rfl (ok_eq2 rfl rfl) rfl rfl ?_ | refine stGA rfl (ok_neq2 rfl rfl) rfl rfl ?_) | (refine gLen ?_; first | refine stGA rfl (ok_len rfl) rfl rfl ?_ | refine stGA rfl (ok_lenV rfl) rfl rfl ?_) | (refine gIA ?_; first | refine stGA rfl (ok_idxN rfl rfl (by omega)) rfl rfl ?_ | refine stGA rfl (ok_idxSN rfl rfl (by omega)) rfl rfl ?_ | refine stGA rfl (ok_idxAN rfl rfl (by omega)) rfl rfl ?_ | refine stGA rfl (ok_idx rfl rfl (by omega) (by omega)) rfl rfl ?_ | refine stGA rfl (ok_idxG rfl rfl (by omega) (by omega)) rfl rfl ?_ | refine stGA rfl (ok_idxA rfl rfl (by omega) (by omega)) rfl rfl ?_) | (refine gCall ?_; first | refine stGA rfl (ok_call rfl rfl rfl (by first | exact fine_ev (by first | exact .inl rfl | exact .inr (.inl rfl) | exact .inr (.inr ⟨_, rfl⟩) | assumption) (by assumption) rfl | exact hfX | exact works_ev rfl | exact hc0 | exact hcA | exact hcB | exact hcC | exact hcD | exact hcX | exact hki | exact hwo | exact hcW | exact Ev.nil (rg_ok _ _) rfl rfl rfl)) rfl rfl ?_) | refine stSU rfl rfl ?_ | refine stSA rfl rfl ?_ | ((fail_if_success (refine stGkA rfl ?_)); first | (refine stGdD rfl ?_ ?_ <;> intro _) | (refine stGd rfl ?_ ?_ <;> intro _))) | (refine fU ?_; first | (refine fLoad ?_; first | refine frA (ok_load rfl (by first | rfl | exact hgk _ hilK | assumption)) rfl ?_ | refine frA (ok_loadA rfl (by first | rfl | exact hgk _ hilK | assumption)) rfl ?_) | (refine fAlloc ?_; first | refine Chain.fr1A (ok_alloc rfl) rfl rfl rfl ?_)) | (refine fr_stop ⟨by kernel_rfl, ?_⟩) | refine W_seq ?_ | refine W_stop (id := 6) ?_ | refine W_stop (id := 19) ?_ | refine W_stop (id := 29) ?_ | refine W_region ?_ | refine Chain.W_regionC (id := 5) (by kernel_rfl) rfl ?_ | refine W_regionD (by kernel_rfl) rfl ?_ | refine st_nil ?_ | refine Chain.wc_nil ?_ | refine Chain.wc_step 4 [true, true, true, true] s.cells (by kernel_rfl) (by kernel_rfl) (by kernel_rfl) (by kernel_rfl) rfl rfl (ok_store rfl rfl rfl rfl rfl) ?_ | refine Chain.wc_step 5 [true, true, true, true] s.cells (by kernel_rfl) (by kernel_rfl) (by kernel_rfl) (by kernel_rfl) rfl rfl (ok_store rfl rfl rfl rfl rfl) ?_ | refine Chain.wc_step 6 [true, true, true, true] s.cells (by kernel_rfl) (by kernel_rfl) (by kernel_rfl) (by kernel_rfl) rfl rfl (ok_store rfl rfl rfl rfl rfl) ?_ | refine Chain.wc_step 7 [true, true, true, true] s.cells (by kernel_rfl) (by kernel_rfl) (by kernel_rfl) (by kernel_rfl) rfl rfl (ok_store rfl rfl rfl rfl rfl) ?_ | refine tq_n ?_ | refine tq_r ?_ | refine tq_e ?_ | refine bq_n ?_ | refine bq_r ?_ | refine bq_hit rfl ?_ | refine bq_miss rfl ?_ | refine W_skip ?_ | refine W_exit ?_ | refine W_ret ?_ | refine W_block ?_ | refine W_stopC (t := 128) ?_ | refine W_condTA rfl ?_ | refine W_condFA rfl ?_ | (refine W_condD rfl ?_ ?_ <;> intro _) | (refine W_cond rfl ?_ ?_ <;> intro _))
  refine ⟨W_cut [(1, .slice (some ⟨0, 0, none⟩) l.length c), (5, .int .u8 n), (6, .pointer (some ⟨1, 0, none⟩)), (9, .pointer (some ⟨2, 0, none⟩)), (10, .pointer (some ⟨3, 0, none⟩)), (13, .int .i64 v0), (14, .bool true), (15, slvV 7 1 (l.length + 1)), (16, .pointer (some ⟨8, 0, none⟩)), (17, .pointer (some ⟨9, 0, none⟩)), (18, .pointer (some ⟨10, 0, none⟩)), (19, .pointer (some ⟨11, 0, none⟩))]
    [.ro (ints l), .rw s.cells, .rw [.int .u32 w0, .int .u32 w1], .rw [.int .u16 b0, .int .u16 b1, .int .u16 b2], .dead, .dead, .rw [.int .i64 more], .gr (ints l ++ [.int .i64 more]) 2, .rw s.cells, .rw s.cells, .rw s.cells, .rw s.cells] (by kernel_rfl)
    ⟨by kernel_rfl, by kernel_rfl, by kernel_rfl, by kernel_rfl, by kernel_rfl, by kernel_rfl, by kernel_rfl, by kernel_rfl, by kernel_rfl, by kernel_rfl, by kernel_rfl, by kernel_rfl, trivial⟩ ?_⟩
  apply W_region
  repeat' (first | (refine gU ?_; first | refine st (ok_eqBT Try.underlying4 rfl rfl (by exact decide_eq_decide.2 hiff)) rfl rfl ?_ | (refine gMove ?_; first | refine st (ok_move rfl) rfl rfl ?_) | (refine gAssign ?_; first | refine st (ok_assign rfl) rfl rfl ?_) | (refine gFA ?_; first | refine st (ok_fieldAddr rfl) rfl rfl ?_) | (refine gLoad ?_; first | refine st (ok_load rfl (by first | rfl | exact hgk _ hilK | assumption)) rfl rfl ?_ | refine st (ok_loadA rfl (by first | rfl | exact hgk _ hilK | assumption)) rfl rfl ?_) | (refine gAdd ?_; first | refine st (ok_inc rfl rfl (by omega)) rfl rfl ?_ | refine st (ok_add rfl rfl (by omega) (by omega)) rfl rfl ?_ | refine st (ok_bin rfl rfl rfl) rfl rfl ?_) | (refine gSub ?_; first | refine st (ok_sub rfl rfl (by omega) (by omega)) rfl rfl ?_ | refine st (ok_bin rfl rfl rfl) rfl rfl ?_) | (refine gBin ?_; first | refine st (ok_bin rfl rfl rfl) rfl rfl ?_ | refine st (ok_rem rfl rfl (by omega)) rfl rfl ?_ | refine st (ok_eq2 rfl rfl) rfl rfl ?_ | refine st (ok_neq2 rfl rfl) rfl rfl ?_) | (refine gLen ?_; first | refine st (ok_len rfl) rfl rfl ?_ | refine st (ok_lenV rfl) rfl rfl ?_) | (refine gPick ?_; first | refine st (ok_pickTA rfl rfl) rfl rfl ?_ | refine st (ok_pickFA rfl rfl) rfl rfl ?_) | (refine gNot ?_; first | refine st (ok_notD rfl) rfl rfl ?_ | refine st (ok_not' rfl) rfl rfl ?_) | (refine gExtract ?_; first | refine st (ok_extract rfl rfl) rfl rfl ?_) | (refine gIA ?_; first | refine st (ok_idxN rfl rfl (by omega)) rfl rfl ?_ | refine st (ok_idxSN rfl rfl (by omega)) rfl rfl ?_ | refine st (ok_idxAN rfl rfl (by omega)) rfl rfl ?_ | refine st (ok_idx rfl rfl (by omega) (by omega)) rfl rfl ?_ | refine st (ok_idxG rfl rfl (by omega) (by omega)) rfl rfl ?_ | refine st (ok_idxA rfl rfl (by omega) (by omega)) rfl rfl ?_) | (refine gMax ?_; first | refine st (ok_max rfl rfl) rfl rfl ?_) | (refine gMin ?_; first | refine st (ok_min rfl rfl) rfl rfl ?_) | (refine gConv ?_; first | refine st (ok_conv64 rfl (by omega) (by omega)) rfl rfl ?_ | refine st (ok_convK rfl (by omega) (by omega)) rfl rfl ?_) | (refine gCall ?_; first | refine st (ok_call rfl rfl rfl (by first | exact fine_ev (by first | exact .inl rfl | exact .inr (.inl rfl) | exact .inr (.inr ⟨_, rfl⟩) | assumption) (by assumption) rfl | exact hfX | exact works_ev rfl | exact hc0 | exact hcA | exact hcB | exact hcC | exact hcD | exact hcX | exact hki | exact hwo | exact hcW | exact Ev.nil (rg_ok _ _) rfl rfl rfl)) rfl rfl ?_) | (refine gBox ?_; first | refine st (ok_box rfl) rfl rfl ?_) | (refine gAlloc ?_; first | refine st (ok_alloc rfl) rfl rfl ?_) | (refine gBuildS ?_; first | refine st (ok_buildS (by rfl) (by rfl) (by rfl) (by rfl) rfl (by rfl)) rfl rfl ?_ | refine st (ok_buildS0) rfl rfl ?_) | (refine gApp ?_; first | refine st (ok_appendV (by rfl) (by rfl) rfl (by rfl) (by first | rfl | exact hlen1 | assumption) rfl (by first | rfl | exact hA _ | assumption) (by omega) (by first | rfl | assumption) (by omega) (by omega)) rfl rfl ?_ | refine st (ok_appendIn rfl rfl (by omega) (by omega) (by first | rfl | exact hA _ | assumption) (by first | rfl | assumption) (by first | rfl | assumption | exact hp1 (by omega) | exact hp2 (by omega))) rfl rfl ?_ | refine st (ok_app0 rfl (by first | rfl | exact slOk_slvV _ _ _) rfl (by omega)) rfl rfl ?_ | refine st (ok_appendE (by rfl) rfl rfl (by first | rfl | exact hA _ | assumption) (by omega) (by omega) (by omega)) rfl rfl ?_) | (refine gStore ?_; refine stN (ok_store rfl rfl rfl rfl (by first | rfl | assumption | exact hp1 (by omega) | exact hp2 (by omega))) rfl ?_)) | (refine gG ?_; first | refine stGA rfl (ok_eqBT Try.underlying4 rfl rfl (by exact decide_eq_decide.2 hiff)) rfl rfl ?_ | (refine gMove ?_; first | refine stGA rfl (ok_move rfl) rfl rfl ?_) | (refine gLoad ?_; first | refine stGA rfl (ok_load rfl (by first | rfl | exact hgk _ hilK | assumption)) rfl rfl ?_ | refine stGA rfl (ok_loadA rfl (by first | rfl | exact hgk _ hilK | assumption)) rfl rfl ?_) | (refine gBin ?_; first | refine stGA rfl (ok_bin rfl rfl rfl) rfl rfl ?_ | refine stGA rfl (ok_eq2 rfl rfl) rfl rfl ?_ | refine stGA rfl (ok_neq2 rfl rfl) rfl rfl ?_) | (refine gLen ?_; first | refine stGA rfl (ok_len rfl) rfl rfl ?_ | refine stGA rfl (ok_lenV rfl) rfl rfl ?_) | (refine gIA ?_; first | refine stGA rfl (ok_idxN rfl rfl (by omega)) rfl rfl ?_ | refine stGA rfl (ok_idxSN rfl rfl (by omega)) rfl rfl ?_ | refine stGA rfl (ok_idxAN rfl rfl (by omega)) rfl rfl ?_ | refine stGA rfl (ok_idx rfl rfl (by omega) (by omega)) rfl rfl ?_ | refine stGA rfl (ok_idxG rfl rfl (by omega) (by omega)) rfl rfl ?_ | refine stGA rfl (ok_idxA rfl rfl (by omega) (by omega)) rfl rfl ?_) | (refine gCall ?_; first | refine stGA rfl (ok_call rfl rfl rfl (by first | exact fine_ev (by first | exact .inl rfl | exact .inr (.inl rfl) | exact .inr (.inr ⟨_, rfl⟩) | assumption) (by assumption) rfl | exact hfX | exact works_ev rfl | exact hc0 | exact hcA | exact hcB | exact hcC | exact hcD | exact hcX | exact hki | exact hwo | exact hcW | exact Ev.nil (rg_ok _ _) rfl rfl rfl)) rfl rfl ?_) | refine stSU rfl rfl ?_ | refine stSA rfl rfl ?_ | ((fail_if_success (refine stGkA rfl ?_)); first | (refine stGdD rfl ?_ ?_ <;> intro _) | (refine stGd rfl ?_ ?_ <;> intro _))) | (refine fU ?_; first | (refine fLoad ?_; first | refine frA (ok_load rfl (by first | rfl | exact hgk _ hilK | assumption)) rfl ?_ | refine frA (ok_loadA rfl (by first | rfl | exact hgk _ hilK | assumption)) rfl ?_) | (refine fAlloc ?_; first | refine Chain.fr1A (ok_alloc rfl) rfl rfl rfl ?_)) | (refine fr_stop ⟨by kernel_rfl, ?_⟩) | refine W_seq ?_ | refine W_stop (id := 6) ?_ | refine W_stop (id := 19) ?_ | refine W_stop (id := 29) ?_ | refine W_region ?_ | refine Chain.W_regionC (id := 5) (by kernel_rfl) rfl ?_ | refine W_regionD (by kernel_rfl) rfl ?_ | refine st_nil ?_ | refine Chain.wc_nil ?_ | refine Chain.wc_step 4 [true, true, true, true] s.cells (by kernel_rfl) (by kernel_rfl) (by kernel_rfl) (by kernel_rfl) rfl rfl (ok_store rfl rfl rfl rfl rfl) ?_ | refine Chain.wc_step 5 [true, true, true, true] s.cells (by kernel_rfl) (by kernel_rfl) (by kernel_rfl) (by kernel_rfl) rfl rfl (ok_store rfl rfl rfl rfl rfl) ?_ | refine Chain.wc_step 6 [true, true, true, true] s.cells (by kernel_rfl) (by kernel_rfl) (by kernel_rfl) (by kernel_rfl) rfl rfl (ok_store rfl rfl rfl rfl rfl) ?_ | refine Chain.wc_step 7 [true, true, true, true] s.cells (by kernel_rfl) (by kernel_rfl) (by kernel_rfl) (by kernel_rfl) rfl rfl (ok_store rfl rfl rfl rfl rfl) ?_ | refine tq_n ?_ | refine tq_r ?_ | refine tq_e ?_ | refine bq_n ?_ | refine bq_r ?_ | refine bq_hit rfl ?_ | refine bq_miss rfl ?_ | refine W_skip ?_ | refine W_exit ?_ | refine W_ret ?_ | refine W_block ?_ | refine W_stopC (t := 128) ?_ | refine W_condTA rfl ?_ | refine W_condFA rfl ?_ | (refine W_condD rfl ?_ ?_ <;> intro _) | (refine W_cond rfl ?_ ?_ <;> intro _))
  refine W_cut [(1, .slice (some ⟨0, 0, none⟩) l.length c), (5, .int .u8 n), (6, .pointer (some ⟨1, 0, none⟩)), (13, .int .i64 v0), (15, slvV 7 1 (l.length + 1)), (20, .slice (some ⟨12, 0, none⟩) 4 4), (21, .int .i64 0)] [.ro (ints l), .rw s.cells, .rw [.int .u32 w0, .int .u32 w1], .rw [.int .u16 b0, .int .u16 b1, .int .u16 b2], .dead, .dead, .rw [.int .i64 more], .gr (ints l ++ [.int .i64 more]) 2, .rw (wideS s w0 w1).cells, .rw (offS s b0).cells, .rw (shortS s b1).cells, .rw (longS s b2).cells, .rw ((wideS s w0 w1).cells ++ (offS s b0).cells ++ (shortS s b1).cells ++ (longS s b2).cells)] (by kernel_rfl) ⟨by kernel_rfl, by kernel_rfl, by kernel_rfl, by kernel_rfl, by kernel_rfl, by kernel_rfl, by kernel_rfl, trivial⟩ ?_
  refine W_loopS (ι := Nat) (fun q => [(1, .slice (some ⟨0, 0, none⟩) l.length c), (5, .int .u8 n), (6, .pointer (some ⟨1, 0, none⟩)), (13, .int .i64 v0), (15, slvV 7 1 (l.length + 1)), (20, .slice (some ⟨12, 0, none⟩) 4 4), (21, .int .i64 (q : Int))])
    (fun _ => [.ro (ints l), .rw s.cells, .rw [.int .u32 w0, .int .u32 w1], .rw [.int .u16 b0, .int .u16 b1, .int .u16 b2], .dead, .dead, .rw [.int .i64 more], .gr (ints l ++ [.int .i64 more]) 2, .rw (wideS s w0 w1).cells, .rw (offS s b0).cells, .rw (shortS s b1).cells, .rw (longS s b2).cells, .rw ((wideS s w0 w1).cells ++ (offS s b0).cells ++ (shortS s b1).cells ++ (longS s b2).cells)]) (fun q => 4 - q) (fun q => q ≤ 4) 0 (by simp) (by exact .same ⟨rfl, rfl, rfl, rfl, rfl, rfl, rfl, trivial⟩) (by omega) ?_
  rintro q hq
  obtain rfl | rfl | rfl | rfl | rfl : q = 0 ∨ q = 1 ∨ q = 2 ∨ q = 3 ∨ q = 4 := by omega
  · repeat' (first | (refine gU ?_; first | refine st (ok_eqBT Try.underlying4 rfl rfl (by exact decide_eq_decide.2 hiff)) rfl rfl ?_ | (refine gMove ?_; first | refine st (ok_move rfl) rfl rfl ?_) | (refine gAssign ?_; first | refine st (ok_assign rfl) rfl rfl ?_) | (refine gFA ?_; first | refine st (ok_fieldAddr rfl) rfl rfl ?_) | (refine gLoad ?_; first | refine st (ok_load rfl (by first | rfl | exact hgk _ hilK | assumption)) rfl rfl ?_ | refine st (ok_loadA rfl (by first | rfl | exact hgk _ hilK | assumption)) rfl rfl ?_) | (refine gAdd ?_; first | refine st (ok_inc rfl rfl (by omega)) rfl rfl ?_ | refine st (ok_add rfl rfl (by omega) (by omega)) rfl rfl ?_ | refine st (ok_bin rfl rfl rfl) rfl rfl ?_) | (refine gSub ?_; first | refine st (ok_sub rfl rfl (by omega) (by omega)) rfl rfl ?_ | refine st (ok_bin rfl rfl rfl) rfl rfl ?_) | (refine gBin ?_; first | refine st (ok_bin rfl rfl rfl) rfl rfl ?_ | refine st (ok_rem rfl rfl (by omega)) rfl rfl ?_ | refine st (ok_eq2 rfl rfl) rfl rfl ?_ | refine st (ok_neq2 rfl rfl) rfl rfl ?_) | (refine gLen ?_; first | refine st (ok_len rfl) rfl rfl ?_ | refine st (ok_lenV rfl) rfl rfl ?_) | (refine gPick ?_; first | refine st (ok_pickTA rfl rfl) rfl rfl ?_ | refine st (ok_pickFA rfl rfl) rfl rfl ?_) | (refine gNot ?_; first | refine st (ok_notD rfl) rfl rfl ?_ | refine st (ok_not' rfl) rfl rfl ?_) | (refine gExtract ?_; first | refine st (ok_extract rfl rfl) rfl rfl ?_) | (refine gIA ?_; first | refine st (ok_idxN rfl rfl (by omega)) rfl rfl ?_ | refine st (ok_idxSN rfl rfl (by omega)) rfl rfl ?_ | refine st (ok_idxAN rfl rfl (by omega)) rfl rfl ?_ | refine st (ok_idx rfl rfl (by omega) (by omega)) rfl rfl ?_ | refine st (ok_idxG rfl rfl (by omega) (by omega)) rfl rfl ?_ | refine st (ok_idxA rfl rfl (by omega) (by omega)) rfl rfl ?_) | (refine gMax ?_; first | refine st (ok_max rfl rfl) rfl rfl ?_) | (refine gMin ?_; first | refine st (ok_min rfl rfl) rfl rfl ?_) | (refine gConv ?_; first | refine st (ok_conv64 rfl (by omega) (by omega)) rfl rfl ?_ | refine st (ok_convK rfl (by omega) (by omega)) rfl rfl ?_) | (refine gCall ?_; first | refine st (ok_call rfl rfl rfl (by first | exact fine_ev (by first | exact .inl rfl | exact .inr (.inl rfl) | exact .inr (.inr ⟨_, rfl⟩) | assumption) (by assumption) rfl | exact hfX | exact works_ev rfl | exact hc0 | exact hcA | exact hcB | exact hcC | exact hcD | exact hcX | exact hki | exact hwo | exact hcW | exact Ev.nil (rg_ok _ _) rfl rfl rfl)) rfl rfl ?_) | (refine gBox ?_; first | refine st (ok_box rfl) rfl rfl ?_) | (refine gAlloc ?_; first | refine st (ok_alloc rfl) rfl rfl ?_) | (refine gBuildS ?_; first | refine st (ok_buildS (by rfl) (by rfl) (by rfl) (by rfl) rfl (by rfl)) rfl rfl ?_ | refine st (ok_buildS0) rfl rfl ?_) | (refine gApp ?_; first | refine st (ok_appendV (by rfl) (by rfl) rfl (by rfl) (by first | rfl | exact hlen1 | assumption) rfl (by first | rfl | exact hA _ | assumption) (by omega) (by first | rfl | assumption) (by omega) (by omega)) rfl rfl ?_ | refine st (ok_appendIn rfl rfl (by omega) (by omega) (by first | rfl | exact hA _ | assumption) (by first | rfl | assumption) (by first | rfl | assumption | exact hp1 (by omega) | exact hp2 (by omega))) rfl rfl ?_ | refine st (ok_app0 rfl (by first | rfl | exact slOk_slvV _ _ _) rfl (by omega)) rfl rfl ?_ | refine st (ok_appendE (by rfl) rfl rfl (by first | rfl | exact hA _ | assumption) (by omega) (by omega) (by omega)) rfl rfl ?_) | (refine gStore ?_; refine stN (ok_store rfl rfl rfl rfl (by first | rfl | assumption | exact hp1 (by omega) | exact hp2 (by omega))) rfl ?_)) | (refine gG ?_; first | refine stGA rfl (ok_eqBT Try.underlying4 rfl rfl (by exact decide_eq_decide.2 hiff)) rfl rfl ?_ | (refine gMove ?_; first | refine stGA rfl (ok_move rfl) rfl rfl ?_) | (refine gLoad ?_; first | refine stGA rfl (ok_load rfl (by first | rfl | exact hgk _ hilK | assumption)) rfl rfl ?_ | refine stGA rfl (ok_loadA rfl (by first | rfl | exact hgk _ hilK | assumption)) rfl rfl ?_) | (refine gBin ?_; first | refine stGA rfl (ok_bin rfl rfl rfl) rfl rfl ?_ | refine stGA rfl (ok_eq2 rfl rfl) rfl rfl ?_ | refine stGA rfl (ok_neq2 rfl rfl) rfl rfl ?_) | (refine gLen ?_; first | refine stGA rfl (ok_len rfl) rfl rfl ?_ | refine stGA rfl (ok_lenV rfl) rfl rfl ?_) | (refine gIA ?_; first | refine stGA rfl (ok_idxN rfl rfl (by omega)) rfl rfl ?_ | refine stGA rfl (ok_idxSN rfl rfl (by omega)) rfl rfl ?_ | refine stGA rfl (ok_idxAN rfl rfl (by omega)) rfl rfl ?_ | refine stGA rfl (ok_idx rfl rfl (by omega) (by omega)) rfl rfl ?_ | refine stGA rfl (ok_idxG rfl rfl (by omega) (by omega)) rfl rfl ?_ | refine stGA rfl (ok_idxA rfl rfl (by omega) (by omega)) rfl rfl ?_) | (refine gCall ?_; first | refine stGA rfl (ok_call rfl rfl rfl (by first | exact fine_ev (by first | exact .inl rfl | exact .inr (.inl rfl) | exact .inr (.inr ⟨_, rfl⟩) | assumption) (by assumption) rfl | exact hfX | exact works_ev rfl | exact hc0 | exact hcA | exact hcB | exact hcC | exact hcD | exact hcX | exact hki | exact hwo | exact hcW | exact Ev.nil (rg_ok _ _) rfl rfl rfl)) rfl rfl ?_) | refine stSU rfl rfl ?_ | refine stSA rfl rfl ?_ | ((fail_if_success (refine stGkA rfl ?_)); first | (refine stGdD rfl ?_ ?_ <;> intro _) | (refine stGd rfl ?_ ?_ <;> intro _))) | (refine fU ?_; first | (refine fLoad ?_; first | refine frA (ok_load rfl (by first | rfl | exact hgk _ hilK | assumption)) rfl ?_ | refine frA (ok_loadA rfl (by first | rfl | exact hgk _ hilK | assumption)) rfl ?_) | (refine fAlloc ?_; first | refine Chain.fr1A (ok_alloc rfl) rfl rfl rfl ?_)) | (refine fr_stop ⟨by kernel_rfl, ?_⟩) | refine W_seq ?_ | refine W_stop (id := 6) ?_ | refine W_stop (id := 19) ?_ | refine W_stop (id := 29) ?_ | refine W_region ?_ | refine Chain.W_regionC (id := 5) (by kernel_rfl) rfl ?_ | refine W_regionD (by kernel_rfl) rfl ?_ | refine st_nil ?_ | refine Chain.wc_nil ?_ | refine Chain.wc_step 4 [true, true, true, true] s.cells (by kernel_rfl) (by kernel_rfl) (by kernel_rfl) (by kernel_rfl) rfl rfl (ok_store rfl rfl rfl rfl rfl) ?_ | refine Chain.wc_step 5 [true, true, true, true] s.cells (by kernel_rfl) (by kernel_rfl) (by kernel_rfl) (by kernel_rfl) rfl rfl (ok_store rfl rfl rfl rfl rfl) ?_ | refine Chain.wc_step 6 [true, true, true, true] s.cells (by kernel_rfl) (by kernel_rfl) (by kernel_rfl) (by kernel_rfl) rfl rfl (ok_store rfl rfl rfl rfl rfl) ?_ | refine Chain.wc_step 7 [true, true, true, true] s.cells (by kernel_rfl) (by kernel_rfl) (by kernel_rfl) (by kernel_rfl) rfl rfl (ok_store rfl rfl rfl rfl rfl) ?_ | refine tq_n ?_ | refine tq_r ?_ | refine tq_e ?_ | refine bq_n ?_ | refine bq_r ?_ | refine bq_hit rfl ?_ | refine bq_miss rfl ?_ | refine W_skip ?_ | refine W_exit ?_ | refine W_ret ?_ | refine W_block ?_ | refine W_stopC (t := 128) ?_ | refine W_condTA rfl ?_ | refine W_condFA rfl ?_ | (refine W_condD rfl ?_ ?_ <;> intro _) | (refine W_cond rfl ?_ ?_ <;> intro _))
    exact ⟨rfl, 1, by omega, by omega, by exact .same ⟨rfl, rfl, rfl, rfl, rfl, rfl, rfl, trivial⟩⟩
  · repeat' (first | (refine gU ?_; first | refine st (ok_eqBT Try.underlying4 rfl rfl (by exact decide_eq_decide.2 hiff)) rfl rfl ?_ | (refine gMove ?_; first | refine st (ok_move rfl) rfl rfl ?_) | (refine gAssign ?_; first | refine st (ok_assign rfl) rfl rfl ?_) | (refine gFA ?_; first | refine st (ok_fieldAddr rfl) rfl rfl ?_) | (refine gLoad ?_; first | refine st (ok_load rfl (by first | rfl | exact hgk _ hilK | assumption)) rfl rfl ?_ | refine st (ok_loadA rfl (by first | rfl | exact hgk _ hilK | assumption)) rfl rfl ?_) | (refine gAdd ?_; first | refine st (ok_inc rfl rfl (by omega)) rfl rfl ?_ | refine st (ok_add rfl rfl (by omega) (by omega)) rfl rfl ?_ | refine st (ok_bin rfl rfl rfl) rfl rfl ?_) | (refine gSub ?_; first | refine st (ok_sub rfl rfl (by omega) (by omega)) rfl rfl ?_ | refine st (ok_bin rfl rfl rfl) rfl rfl ?_) | (refine gBin ?_; first | refine st (ok_bin rfl rfl rfl) rfl rfl ?_ | refine st (ok_rem rfl rfl (by omega)) rfl rfl ?_ | refine st (ok_eq2 rfl rfl) rfl rfl ?_ | refine st (ok_neq2 rfl rfl) rfl rfl ?_) | (refine gLen ?_; first | refine st (ok_len rfl) rfl rfl ?_ | refine st (ok_lenV rfl) rfl rfl ?_) | (refine gPick ?_; first | refine st (ok_pickTA rfl rfl) rfl rfl ?_ | refine st (ok_pickFA rfl rfl) rfl rfl ?_) | (refine gNot ?_; first | refine st (ok_notD rfl) rfl rfl ?_ | refine st (ok_not' rfl) rfl rfl ?_) | (refine gExtract ?_; first | refine st (ok_extract rfl rfl) rfl rfl ?_) | (refine gIA ?_; first | refine st (ok_idxN rfl rfl (by omega)) rfl rfl ?_ | refine st (ok_idxSN rfl rfl (by omega)) rfl rfl ?_ | refine st (ok_idxAN rfl rfl (by omega)) rfl rfl ?_ | refine st (ok_idx rfl rfl (by omega) (by omega)) rfl rfl ?_ | refine st (ok_idxG rfl rfl (by omega) (by omega)) rfl rfl ?_ | refine st (ok_idxA rfl rfl (by omega) (by omega)) rfl rfl ?_) | (refine gMax ?_; first | refine st (ok_max rfl rfl) rfl rfl ?_) | (refine gMin ?_; first | refine st (ok_min rfl rfl) rfl rfl ?_) | (refine gConv ?_; first | refine st (ok_conv64 rfl (by omega) (by omega)) rfl rfl ?_ | refine st (ok_convK rfl (by omega) (by omega)) rfl rfl ?_) | (refine gCall ?_; first | refine st (ok_call rfl rfl rfl (by first | exact fine_ev (by first | exact .inl rfl | exact .inr (.inl rfl) | exact .inr (.inr ⟨_, rfl⟩) | assumption) (by assumption) rfl | exact hfX | exact works_ev rfl | exact hc0 | exact hcA | exact hcB | exact hcC | exact hcD | exact hcX | exact hki | exact hwo | exact hcW | exact Ev.nil (rg_ok _ _) rfl rfl rfl)) rfl rfl ?_) | (refine gBox ?_; first | refine st (ok_box rfl) rfl rfl ?_) | (refine gAlloc ?_; first | refine st (ok_alloc rfl) rfl rfl ?_) | (refine gBuildS ?_; first | refine st (ok_buildS (by rfl) (by rfl) (by rfl) (by rfl) rfl (by rfl)) rfl rfl ?_ | refine st (ok_buildS0) rfl rfl ?_) | (refine gApp ?_; first | refine st (ok_appendV (by rfl) (by rfl) rfl (by rfl) (by first | rfl | exact hlen1 | assumption) rfl (by first | rfl | exact hA _ | assumption) (by omega) (by first | rfl | assumption) (by omega) (by omega)) rfl rfl ?_ | refine st (ok_appendIn rfl rfl (by omega) (by omega) (by first | rfl | exact hA _ | assumption) (by first | rfl | assumption) (by first | rfl | assumption | exact hp1 (by omega) | exact hp2 (by omega))) rfl rfl ?_ | refine st (ok_app0 rfl (by first | rfl | exact slOk_slvV _ _ _) rfl (by omega)) rfl rfl ?_ | refine st (ok_appendE (by rfl) rfl rfl (by first | rfl | exact hA _ | assumption) (by omega) (by omega) (by omega)) rfl rfl ?_) | (refine gStore ?_; refine stN (ok_store rfl rfl rfl rfl (by first | rfl | assumption | exact hp1 (by omega) | exact hp2 (by omega))) rfl ?_)) | (refine gG ?_; first | refine stGA rfl (ok_eqBT Try.underlying4 rfl rfl (by exact decide_eq_decide.2 hiff)) rfl rfl ?_ | (refine gMove ?_; first | refine stGA rfl (ok_move rfl) rfl rfl ?_) | (refine gLoad ?_; first | refine stGA rfl (ok_load rfl (by first | rfl | exact hgk _ hilK | assumption)) rfl rfl ?_ | refine stGA rfl (ok_loadA rfl (by first | rfl | exact hgk _ hilK | assumption)) rfl rfl ?_) | (refine gBin ?_; first | refine stGA rfl (ok_bin rfl rfl rfl) rfl rfl ?_ | refine stGA rfl (ok_eq2 rfl rfl) rfl rfl ?_ | refine stGA rfl (ok_neq2 rfl rfl) rfl rfl ?_) | (refine gLen ?_; first | refine stGA rfl (ok_len rfl) rfl rfl ?_ | refine stGA rfl (ok_lenV rfl) rfl rfl ?_) | (refine gIA ?_; first | refine stGA rfl (ok_idxN rfl rfl (by omega)) rfl rfl ?_ | refine stGA rfl (ok_idxSN rfl rfl (by omega)) rfl rfl ?_ | refine stGA rfl (ok_idxAN rfl rfl (by omega)) rfl rfl ?_ | refine stGA rfl (ok_idx rfl rfl (by omega) (by omega)) rfl rfl ?_ | refine stGA rfl (ok_idxG rfl rfl (by omega) (by omega)) rfl rfl ?_ | refine stGA rfl (ok_idxA rfl rfl (by omega) (by omega)) rfl rfl ?_) | (refine gCall ?_; first | refine stGA rfl (ok_call rfl rfl rfl (by first | exact fine_ev (by first | exact .inl rfl | exact .inr (.inl rfl) | exact .inr (.inr ⟨_, rfl⟩) | assumption) (by assumption) rfl | exact hfX | exact works_ev rfl | exact hc0 | exact hcA | exact hcB | exact hcC | exact hcD | exact hcX | exact hki | exact hwo | exact hcW | exact Ev.nil (rg_ok _ _) rfl rfl rfl)) rfl rfl ?_) | refine stSU rfl rfl ?_ | refine stSA rfl rfl ?_ | ((fail_if_success (refine stGkA rfl ?_)); first | (refine stGdD rfl ?_ ?_ <;> intro _) | (refine stGd rfl ?_ ?_ <;> intro _))) | (refine fU ?_; first | (refine fLoad ?_; first | refine frA (ok_load rfl (by first | rfl | exact hgk _ hilK | assumption)) rfl ?_ | refine frA (ok_loadA rfl (by first | rfl | exact hgk _ hilK | assumption)) rfl ?_) | (refine fAlloc ?_; first | refine Chain.fr1A (ok_alloc rfl) rfl rfl rfl ?_)) | (refine fr_stop ⟨by kernel_rfl, ?_⟩) | refine W_seq ?_ | refine W_stop (id := 6) ?_ | refine W_stop (id := 19) ?_ | refine W_stop (id := 29) ?_ | refine W_region ?_ | refine Chain.W_regionC (id := 5) (by kernel_rfl) rfl ?_ | refine W_regionD (by kernel_rfl) rfl ?_ | refine st_nil ?_ | refine Chain.wc_nil ?_ | refine Chain.wc_step 4 [true, true, true, true] s.cells (by kernel_rfl) (by kernel_rfl) (by kernel_rfl) (by kernel_rfl) rfl rfl (ok_store rfl rfl rfl rfl rfl) ?_ | refine Chain.wc_step 5 [true, true, true, true] s.cells (by kernel_rfl) (by kernel_rfl) (by kernel_rfl) (by kernel_rfl) rfl rfl (ok_store rfl rfl rfl rfl rfl) ?_ | refine Chain.wc_step 6 [true, true, true, true] s.cells (by kernel_rfl) (by kernel_rfl) (by kernel_rfl) (by kernel_rfl) rfl rfl (ok_store rfl rfl rfl rfl rfl) ?_ | refine Chain.wc_step 7 [true, true, true, true] s.cells (by kernel_rfl) (by kernel_rfl) (by kernel_rfl) (by kernel_rfl) rfl rfl (ok_store rfl rfl rfl rfl rfl) ?_ | refine tq_n ?_ | refine tq_r ?_ | refine tq_e ?_ | refine bq_n ?_ | refine bq_r ?_ | refine bq_hit rfl ?_ | refine bq_miss rfl ?_ | refine W_skip ?_ | refine W_exit ?_ | refine W_ret ?_ | refine W_block ?_ | refine W_stopC (t := 128) ?_ | refine W_condTA rfl ?_ | refine W_condFA rfl ?_ | (refine W_condD rfl ?_ ?_ <;> intro _) | (refine W_cond rfl ?_ ?_ <;> intro _))
    exact ⟨rfl, 2, by omega, by omega, by exact .same ⟨rfl, rfl, rfl, rfl, rfl, rfl, rfl, trivial⟩⟩
  · repeat' (first | (refine gU ?_; first | refine st (ok_eqBT Try.underlying4 rfl rfl (by exact decide_eq_decide.2 hiff)) rfl rfl ?_ | (refine gMove ?_; first | refine st (ok_move rfl) rfl rfl ?_) | (refine gAssign ?_; first | refine st (ok_assign rfl) rfl rfl ?_) | (refine gFA ?_; first | refine st (ok_fieldAddr rfl) rfl rfl ?_) | (refine gLoad ?_; first | refine st (ok_load rfl (by first | rfl | exact hgk _ hilK | assumption)) rfl rfl ?_ | refine st (ok_loadA rfl (by first | rfl | exact hgk _ hilK | assumption)) rfl rfl ?_) | (refine gAdd ?_; first | refine st (ok_inc rfl rfl (by omega)) rfl rfl ?_ | refine st (ok_add rfl rfl (by omega) (by omega)) rfl rfl ?_ | refine st (ok_bin rfl rfl rfl) rfl rfl ?_) | (refine gSub ?_; first | refine st (ok_sub rfl rfl (by omega) (by omega)) rfl rfl ?_ | refine st (ok_bin rfl rfl rfl) rfl rfl ?_) | (refine gBin ?_; first | refine st (ok_bin rfl rfl rfl) rfl rfl ?_ | refine st (ok_rem rfl rfl (by omega)) rfl rfl ?_ | refine st (ok_eq2 rfl rfl) rfl rfl ?_ | refine st (ok_neq2 rfl rfl) rfl rfl ?_) | (refine gLen ?_; first | refine st (ok_len rfl) rfl rfl ?_ | refine st (ok_lenV rfl) rfl rfl ?_) | (refine gPick ?_; first | refine st (ok_pickTA rfl rfl) rfl rfl ?_ | refine st (ok_pickFA rfl rfl) rfl rfl ?_) | (refine gNot ?_; first | refine st (ok_notD rfl) rfl rfl ?_ | refine st (ok_not' rfl) rfl rfl ?_) | (refine gExtract ?_; first | refine st (ok_extract rfl rfl) rfl rfl ?_) | (refine gIA ?_; first | refine st (ok_idxN rfl rfl (by omega)) rfl rfl ?_ | refine st (ok_idxSN rfl rfl (by omega)) rfl rfl ?_ | refine st (ok_idxAN rfl rfl (by omega)) rfl rfl ?_ | refine st (ok_idx rfl rfl (by omega) (by omega)) rfl rfl ?_ | refine st (ok_idxG rfl rfl (by omega) (by omega)) rfl rfl ?_ | refine st (ok_idxA rfl rfl (by omega) (by omega)) rfl rfl ?_) | (refine gMax ?_; first | refine st (ok_max rfl rfl) rfl rfl ?_) | (refine gMin ?_; first | refine st (ok_min rfl rfl) rfl rfl ?_) | (refine gConv ?_; first | refine st (ok_conv64 rfl (by omega) (by omega)) rfl rfl ?_ | refine st (ok_convK rfl (by omega) (by omega)) rfl rfl ?_) | (refine gCall ?_; first | refine st (ok_call rfl rfl rfl (by first | exact fine_ev (by first | exact .inl rfl | exact .inr (.inl rfl) | exact .inr (.inr ⟨_, rfl⟩) | assumption) (by assumption) rfl | exact hfX | exact works_ev rfl | exact hc0 | exact hcA | exact hcB | exact hcC | exact hcD | exact hcX | exact hki | exact hwo | exact hcW | exact Ev.nil (rg_ok _ _) rfl rfl rfl)) rfl rfl ?_) | (refine gBox ?_; first | refine st (ok_box rfl) rfl rfl ?_) | (refine gAlloc ?_; first | refine st (ok_alloc rfl) rfl rfl ?_) | (refine gBuildS ?_; first | refine st (ok_buildS (by rfl) (by rfl) (by rfl) (by rfl) rfl (by rfl)) rfl rfl ?_ | refine st (ok_buildS0) rfl rfl ?_) | (refine gApp ?_; first | refine st (ok_appendV (by rfl) (by rfl) rfl (by rfl) (by first | rfl | exact hlen1 | assumption) rfl (by first | rfl | exact hA _ | assumption) (by omega) (by first | rfl | assumption) (by omega) (by omega)) rfl rfl ?_ | refine st (ok_appendIn rfl rfl (by omega) (by omega) (by first | rfl | exact hA _ | assumption) (by first | rfl | assumption) (by first | rfl | assumption | exact hp1 (by omega) | exact hp2 (by omega))) rfl rfl ?_ | refine st (ok_app0 rfl (by first | rfl | exact slOk_slvV _ _ _) rfl (by omega)) rfl rfl ?_ | refine st (ok_appendE (by rfl) rfl rfl (by first | rfl | exact hA _ | assumption) (by omega) (by omega) (by omega)) rfl rfl ?_) | (refine gStore ?_; refine stN (ok_store rfl rfl rfl rfl (by first | rfl | assumption | exact hp1 (by omega) | exact hp2 (by omega))) rfl ?_)) | (refine gG ?_; first | refine stGA rfl (ok_eqBT Try.underlying4 rfl rfl (by exact decide_eq_decide.2 hiff)) rfl rfl ?_ | (refine gMove ?_; first | refine stGA rfl (ok_move rfl) rfl rfl ?_) | (refine gLoad ?_; first | refine stGA rfl (ok_load rfl (by first | rfl | exact hgk _ hilK | assumption)) rfl rfl ?_ | refine stGA rfl (ok_loadA rfl (by first | rfl | exact hgk _ hilK | assumption)) rfl rfl ?_) | (refine gBin ?_; first | refine stGA rfl (ok_bin rfl rfl rfl) rfl rfl ?_ | refine stGA rfl (ok_eq2 rfl rfl) rfl rfl ?_ | refine stGA rfl (ok_neq2 rfl rfl) rfl rfl ?_) | (refine gLen ?_; first | refine stGA rfl (ok_len rfl) rfl rfl ?_ | refine stGA rfl (ok_lenV rfl) rfl rfl ?_) | (refine gIA ?_; first | refine stGA rfl (ok_idxN rfl rfl (by omega)) rfl rfl ?_ | refine stGA rfl (ok_idxSN rfl rfl (by omega)) rfl rfl ?_ | refine stGA rfl (ok_idxAN rfl rfl (by omega)) rfl rfl ?_ | refine stGA rfl (ok_idx rfl rfl (by omega) (by omega)) rfl rfl ?_ | refine stGA rfl (ok_idxG rfl rfl (by omega) (by omega)) rfl rfl ?_ | refine stGA rfl (ok_idxA rfl rfl (by omega) (by omega)) rfl rfl ?_) | (refine gCall ?_; first | refine stGA rfl (ok_call rfl rfl rfl (by first | exact fine_ev (by first | exact .inl rfl | exact .inr (.inl rfl) | exact .inr (.inr ⟨_, rfl⟩) | assumption) (by assumption) rfl | exact hfX | exact works_ev rfl | exact hc0 | exact hcA | exact hcB | exact hcC | exact hcD | exact hcX | exact hki | exact hwo | exact hcW | exact Ev.nil (rg_ok _ _) rfl rfl rfl)) rfl rfl ?_) | refine stSU rfl rfl ?_ | refine stSA rfl rfl ?_ | ((fail_if_success (refine stGkA rfl ?_)); first | (refine stGdD rfl ?_ ?_ <;> intro _) | (refine stGd rfl ?_ ?_ <;> intro _))) | (refine fU ?_; first | (refine fLoad ?_; first | refine frA (ok_load rfl (by first | rfl | exact hgk _ hilK | assumption)) rfl ?_ | refine frA (ok_loadA rfl (by first | rfl | exact hgk _ hilK | assumption)) rfl ?_) | (refine fAlloc ?_; first | refine Chain.fr1A (ok_alloc rfl) rfl rfl rfl ?_)) | (refine fr_stop ⟨by kernel_rfl, ?_⟩) | refine W_seq ?_ | refine W_stop (id := 6) ?_ | refine W_stop (id := 19) ?_ | refine W_stop (id := 29) ?_ | refine W_region ?_ | refine Chain.W_regionC (id := 5) (by kernel_rfl) rfl ?_ | refine W_regionD (by kernel_rfl) rfl ?_ | refine st_nil ?_ | refine Chain.wc_nil ?_ | refine Chain.wc_step 4 [true, true, true, true] s.cells (by kernel_rfl) (by kernel_rfl) (by kernel_rfl) (by kernel_rfl) rfl rfl (ok_store rfl rfl rfl rfl rfl) ?_ | refine Chain.wc_step 5 [true, true, true, true] s.cells (by kernel_rfl) (by kernel_rfl) (by kernel_rfl) (by kernel_rfl) rfl rfl (ok_store rfl rfl rfl rfl rfl) ?_ | refine Chain.wc_step 6 [true, true, true, true] s.cells (by kernel_rfl) (by kernel_rfl) (by kernel_rfl) (by kernel_rfl) rfl rfl (ok_store rfl rfl rfl rfl rfl) ?_ | refine Chain.wc_step 7 [true, true, true, true] s.cells (by kernel_rfl) (by kernel_rfl) (by kernel_rfl) (by kernel_rfl) rfl rfl (ok_store rfl rfl rfl rfl rfl) ?_ | refine tq_n ?_ | refine tq_r ?_ | refine tq_e ?_ | refine bq_n ?_ | refine bq_r ?_ | refine bq_hit rfl ?_ | refine bq_miss rfl ?_ | refine W_skip ?_ | refine W_exit ?_ | refine W_ret ?_ | refine W_block ?_ | refine W_stopC (t := 128) ?_ | refine W_condTA rfl ?_ | refine W_condFA rfl ?_ | (refine W_condD rfl ?_ ?_ <;> intro _) | (refine W_cond rfl ?_ ?_ <;> intro _))
    exact ⟨rfl, 3, by omega, by omega, by exact .same ⟨rfl, rfl, rfl, rfl, rfl, rfl, rfl, trivial⟩⟩
  · repeat' (first | (refine gU ?_; first | refine st (ok_eqBT Try.underlying4 rfl rfl (by exact decide_eq_decide.2 hiff)) rfl rfl ?_ | (refine gMove ?_; first | refine st (ok_move rfl) rfl rfl ?_) | (refine gAssign ?_; first | refine st (ok_assign rfl) rfl rfl ?_) | (refine gFA ?_; first | refine st (ok_fieldAddr rfl) rfl rfl ?_) | (refine gLoad ?_; first | refine st (ok_load rfl (by first | rfl | exact hgk _ hilK | assumption)) rfl rfl ?_ | refine st (ok_loadA rfl (by first | rfl | exact hgk _ hilK | assumption)) rfl rfl ?_) | (refine gAdd ?_; first | refine st (ok_inc rfl rfl (by omega)) rfl rfl ?_ | refine st (ok_add rfl rfl (by omega) (by omega)) rfl rfl ?_ | refine st (ok_bin rfl rfl rfl) rfl rfl ?_) | (refine gSub ?_; first | refine st (ok_sub rfl rfl (by omega) (by omega)) rfl rfl ?_ | refine st (ok_bin rfl rfl rfl) rfl rfl ?_) | (refine gBin ?_; first | refine st (ok_bin rfl rfl rfl) rfl rfl ?_ | refine st (ok_rem rfl rfl (by omega)) rfl rfl ?_ | refine st (ok_eq2 rfl rfl) rfl rfl ?_ | refine st (ok_neq2 rfl rfl) rfl rfl ?_) | (refine gLen ?_; first | refine st (ok_len rfl) rfl rfl ?_ | refine st (ok_lenV rfl) rfl rfl ?_) | (refine gPick ?_; first | refine st (ok_pickTA rfl rfl) rfl rfl ?_ | refine st (ok_pickFA rfl rfl) rfl rfl ?_) | (refine gNot ?_; first | refine st (ok_notD rfl) rfl rfl ?_ | refine st (ok_not' rfl) rfl rfl ?_) | (refine gExtract ?_; first | refine st (ok_extract rfl rfl) rfl rfl ?_) | (refine gIA ?_; first | refine st (ok_idxN rfl rfl (by omega)) rfl rfl ?_ | refine st (ok_idxSN rfl rfl (by omega)) rfl rfl ?_ | refine st (ok_idxAN rfl rfl (by omega)) rfl rfl ?_ | refine st (ok_idx rfl rfl (by omega) (by omega)) rfl rfl ?_ | refine st (ok_idxG rfl rfl (by omega) (by omega)) rfl rfl ?_ | refine st (ok_idxA rfl rfl (by omega) (by omega)) rfl rfl ?_) | (refine gMax ?_; first | refine st (ok_max rfl rfl) rfl rfl ?_) | (refine gMin ?_; first | refine st (ok_min rfl rfl) rfl rfl ?_) | (refine gConv ?_; first | refine st (ok_conv64 rfl (by omega) (by omega)) rfl rfl ?_ | refine st (ok_convK rfl (by omega) (by omega)) rfl rfl ?_) | (refine gCall ?_; first | refine st (ok_call rfl rfl rfl (by first | exact fine_ev (by first | exact .inl rfl | exact .inr (.inl rfl) | exact .inr (.inr ⟨_, rfl⟩) | assumption) (by assumption) rfl | exact hfX | exact works_ev rfl | exact hc0 | exact hcA | exact hcB | exact hcC | exact hcD | exact hcX | exact hki | exact hwo | exact hcW | exact Ev.nil (rg_ok _ _) rfl rfl rfl)) rfl rfl ?_) | (refine gBox ?_; first | refine st (ok_box rfl) rfl rfl ?_) | (refine gAlloc ?_; first | refine st (ok_alloc rfl) rfl rfl ?_) | (refine gBuildS ?_; first | refine st (ok_buildS (by rfl) (by rfl) (by rfl) (by rfl) rfl (by rfl)) rfl rfl ?_ | refine st (ok_buildS0) rfl rfl ?_) | (refine gApp ?_; first | refine st (ok_appendV (by rfl) (by rfl) rfl (by rfl) (by first | rfl | exact hlen1 | assumption) rfl (by first | rfl | exact hA _ | assumption) (by omega) (by first | rfl | assumption) (by omega) (by omega)) rfl rfl ?_ | refine st (ok_appendIn rfl rfl (by omega) (by omega) (by first | rfl | exact hA _ | assumption) (by first | rfl | assumption) (by first | rfl | assumption | exact hp1 (by omega) | exact hp2 (by omega))) rfl rfl ?_ | refine st (ok_app0 rfl (by first | rfl | exact slOk_slvV _ _ _) rfl (by omega)) rfl rfl ?_ | refine st (ok_appendE (by rfl) rfl rfl (by first | rfl | exact hA _ | assumption) (by omega) (by omega) (by omega)) rfl rfl ?_) | (refine gStore ?_; refine stN (ok_store rfl rfl rfl rfl (by first | rfl | assumption | exact hp1 (by omega) | exact hp2 (by omega))) rfl ?_)) | (refine gG ?_; first | refine stGA rfl (ok_eqBT Try.underlying4 rfl rfl (by exact decide_eq_decide.2 hiff)) rfl rfl ?_ | (refine gMove ?_; first | refine stGA rfl (ok_move rfl) rfl rfl ?_) | (refine gLoad ?_; first | refine stGA rfl (ok_load rfl (by first | rfl | exact hgk _ hilK | assumption)) rfl rfl ?_ | refine stGA rfl (ok_loadA rfl (by first | rfl | exact hgk _ hilK | assumption)) rfl rfl ?_) | (refine gBin ?_; first | refine stGA rfl (ok_bin rfl rfl rfl) rfl rfl ?_ | refine stGA rfl (ok_eq2 rfl rfl) rfl rfl ?_ | refine stGA rfl (ok_neq2 rfl rfl) rfl rfl ?_) | (refine gLen ?_; first | refine stGA rfl (ok_len rfl) rfl rfl ?_ | refine stGA rfl (ok_lenV rfl) rfl rfl ?_) | (refine gIA ?_; first | refine stGA rfl (ok_idxN rfl rfl (by omega)) rfl rfl ?_ | refine stGA rfl (ok_idxSN rfl rfl (by omega)) rfl rfl ?_ | refine stGA rfl (ok_idxAN rfl rfl (by omega)) rfl rfl ?_ | refine stGA rfl (ok_idx rfl rfl (by omega) (by omega)) rfl rfl ?_ | refine stGA rfl (ok_idxG rfl rfl (by omega) (by omega)) rfl rfl ?_ | refine stGA rfl (ok_idxA rfl rfl (by omega) (by omega)) rfl rfl ?_) | (refine gCall ?_; first | refine stGA rfl (ok_call rfl rfl rfl (by first | exact fine_ev (by first | exact .inl rfl | exact .inr (.inl rfl) | exact .inr (.inr ⟨_, rfl⟩) | assumption) (by assumption) rfl | exact hfX | exact works_ev rfl | exact hc0 | exact hcA | exact hcB | exact hcC | exact hcD | exact hcX | exact hki | exact hwo | exact hcW | exact Ev.nil (rg_ok _ _) rfl rfl rfl)) rfl rfl ?_) | refine stSU rfl rfl ?_ | refine stSA rfl rfl ?_ | ((fail_if_success (refine stGkA rfl ?_)); first | (refine stGdD rfl ?_ ?_ <;> intro _) | (refine stGd rfl ?_ ?_ <;> intro _))) | (refine fU ?_; first | (refine fLoad ?_; first | refine frA (ok_load rfl (by first | rfl | exact hgk _ hilK | assumption)) rfl ?_ | refine frA (ok_loadA rfl (by first | rfl | exact hgk _ hilK | assumption)) rfl ?_) | (refine fAlloc ?_; first | refine Chain.fr1A (ok_alloc rfl) rfl rfl rfl ?_)) | (refine fr_stop ⟨by kernel_rfl, ?_⟩) | refine W_seq ?_ | refine W_stop (id := 6) ?_ | refine W_stop (id := 19) ?_ | refine W_stop (id := 29) ?_ | refine W_region ?_ | refine Chain.W_regionC (id := 5) (by kernel_rfl) rfl ?_ | refine W_regionD (by kernel_rfl) rfl ?_ | refine st_nil ?_ | refine Chain.wc_nil ?_ | refine Chain.wc_step 4 [true, true, true, true] s.cells (by kernel_rfl) (by kernel_rfl) (by kernel_rfl) (by kernel_rfl) rfl rfl (ok_store rfl rfl rfl rfl rfl) ?_ | refine Chain.wc_step 5 [true, true, true, true] s.cells (by kernel_rfl) (by kernel_rfl) (by kernel_rfl) (by kernel_rfl) rfl rfl (ok_store rfl rfl rfl rfl rfl) ?_ | refine Chain.wc_step 6 [true, true, true, true] s.cells (by kernel_rfl) (by kernel_rfl) (by kernel_rfl) (by kernel_rfl) rfl rfl (ok_store rfl rfl rfl rfl rfl) ?_ | refine Chain.wc_step 7 [true, true, true, true] s.cells (by kernel_rfl) (by kernel_rfl) (by kernel_rfl) (by kernel_rfl) rfl rfl (ok_store rfl rfl rfl rfl rfl) ?_ | refine tq_n ?_ | refine tq_r ?_ | refine tq_e ?_ | refine bq_n ?_ | refine bq_r ?_ | refine bq_hit rfl ?_ | refine bq_miss rfl ?_ | refine W_skip ?_ | refine W_exit ?_ | refine W_ret ?_ | refine W_block ?_ | refine W_stopC (t := 128) ?_ | refine W_condTA rfl ?_ | refine W_condFA rfl ?_ | (refine W_condD rfl ?_ ?_ <;> intro _) | (refine W_cond rfl ?_ ?_ <;> intro _))
    exact ⟨rfl, 4, by omega, by omega, by exact .same ⟨rfl, rfl, rfl, rfl, rfl, rfl, rfl, trivial⟩⟩
  · clear hcA hcB hcC hcD hcv hc0 na nb nc nd ca cb cc cd hs hs' ht hw0 hw1 hb0 hb1 hb2 hA hlen1 hr
    repeat' (first | (refine gU ?_; first | refine st (ok_eqBT Try.underlying4 rfl rfl (by exact decide_eq_decide.2 hiff)) rfl rfl ?_ | (refine gMove ?_; first | refine st (ok_move rfl) rfl rfl ?_) | (refine gAssign ?_; first | refine st (ok_assign rfl) rfl rfl ?_) | (refine gFA ?_; first | refine st (ok_fieldAddr rfl) rfl rfl ?_) | (refine gLoad ?_; first | refine st (ok_load rfl (by first | rfl | exact hgk _ hilK | assumption)) rfl rfl ?_ | refine st (ok_loadA rfl (by first | rfl | exact hgk _ hilK | assumption)) rfl rfl ?_) | (refine gAdd ?_; first | refine st (ok_inc rfl rfl (by omega)) rfl rfl ?_ | refine st (ok_add rfl rfl (by omega) (by omega)) rfl rfl ?_ | refine st (ok_bin rfl rfl rfl) rfl rfl ?_) | (refine gSub ?_; first | refine st (ok_sub rfl rfl (by omega) (by omega)) rfl rfl ?_ | refine st (ok_bin rfl rfl rfl) rfl rfl ?_) | (refine gBin ?_; first | refine st (ok_bin rfl rfl rfl) rfl rfl ?_ | refine st (ok_rem rfl rfl (by omega)) rfl rfl ?_ | refine st (ok_eq2 rfl rfl) rfl rfl ?_ | refine st (ok_neq2 rfl rfl) rfl rfl ?_) | (refine gLen ?_; first | refine st (ok_len rfl) rfl rfl ?_ | refine st (ok_lenV rfl) rfl rfl ?_) | (refine gPick ?_; first | refine st (ok_pickTA rfl rfl) rfl rfl ?_ | refine st (ok_pickFA rfl rfl) rfl rfl ?_) | (refine gNot ?_; first | refine st (ok_notD rfl) rfl rfl ?_ | refine st (ok_not' rfl) rfl rfl ?_) | (refine gExtract ?_; first | refine st (ok_extract rfl rfl) rfl rfl ?_) | (refine gIA ?_; first | refine st (ok_idxN rfl rfl (by omega)) rfl rfl ?_ | refine st (ok_idxSN rfl rfl (by omega)) rfl rfl ?_ | refine st (ok_idxAN rfl rfl (by omega)) rfl rfl ?_ | refine st (ok_idx rfl rfl (by omega) (by omega)) rfl rfl ?_ | refine st (ok_idxG rfl rfl (by omega) (by omega)) rfl rfl ?_ | refine st (ok_idxA rfl rfl (by omega) (by omega)) rfl rfl ?_) | (refine gMax ?_; first | refine st (ok_max rfl rfl) rfl rfl ?_) | (refine gMin ?_; first | refine st (ok_min rfl rfl) rfl rfl ?_) | (refine gConv ?_; first | refine st (ok_conv64 rfl (by omega) (by omega)) rfl rfl ?_ | refine st (ok_convK rfl (by omega) (by omega)) rfl rfl ?_) | (refine gCall ?_; first | refine st (ok_call rfl rfl rfl (by first | exact fine_ev (by first | exact .inl rfl | exact .inr (.inl rfl) | exact .inr (.inr ⟨_, rfl⟩) | assumption) (by assumption) rfl | exact hfX | exact works_ev rfl | exact hc0 | exact hcA | exact hcB | exact hcC | exact hcD | exact hcX | exact hki | exact hwo | exact hcW | exact Ev.nil (rg_ok _ _) rfl rfl rfl)) rfl rfl ?_) | (refine gBox ?_; first | refine st (ok_box rfl) rfl rfl ?_) | (refine gAlloc ?_; first | refine st (ok_alloc rfl) rfl rfl ?_) | (refine gBuildS ?_; first | refine st (ok_buildS (by rfl) (by rfl) (by rfl) (by rfl) rfl (by rfl)) rfl rfl ?_ | refine st (ok_buildS0) rfl rfl ?_) | (refine gApp ?_; first | refine st (ok_appendV (by rfl) (by rfl) rfl (by rfl) (by first | rfl | exact hlen1 | assumption) rfl (by first | rfl | exact hA _ | assumption) (by omega) (by first | rfl | assumption) (by omega) (by omega)) rfl rfl ?_ | refine st (ok_appendIn rfl rfl (by omega) (by omega) (by first | rfl | exact hA _ | assumption) (by first | rfl | assumption) (by first | rfl | assumption | exact hp1 (by omega) | exact hp2 (by omega))) rfl rfl ?_ | refine st (ok_app0 rfl (by first | rfl | exact slOk_slvV _ _ _) rfl (by omega)) rfl rfl ?_ | refine st (ok_appendE (by rfl) rfl rfl (by first | rfl | exact hA _ | assumption) (by omega) (by omega) (by omega)) rfl rfl ?_) | (refine gStore ?_; refine stN (ok_store rfl rfl rfl rfl (by first | rfl | assumption | exact hp1 (by omega) | exact hp2 (by omega))) rfl ?_)) | (refine gG ?_; first | refine stGA rfl (ok_eqBT Try.underlying4 rfl rfl (by exact decide_eq_decide.2 hiff)) rfl rfl ?_ | (refine gMove ?_; first | refine stGA rfl (ok_move rfl) rfl rfl ?_) | (refine gLoad ?_; first | refine stGA rfl (ok_load rfl (by first | rfl | exact hgk _ hilK | assumption)) rfl rfl ?_ | refine stGA rfl (ok_loadA rfl (by first | rfl | exact hgk _ hilK | assumption)) rfl rfl ?_) | (refine gBin ?_; first | refine stGA rfl (ok_bin rfl rfl rfl) rfl rfl ?_ | refine stGA rfl (ok_eq2 rfl rfl) rfl rfl ?_ | refine stGA rfl (ok_neq2 rfl rfl) rfl rfl ?_) | (refine gLen ?_; first | refine stGA rfl (ok_len rfl) rfl rfl ?_ | refine stGA rfl (ok_lenV rfl) rfl rfl ?_) | (refine gIA ?_; first | refine stGA rfl (ok_idxN rfl rfl (by omega)) rfl rfl ?_ | refine stGA rfl (ok_idxSN rfl rfl (by omega)) rfl rfl ?_ | refine stGA rfl (ok_idxAN rfl rfl (by omega)) rfl rfl ?_ | refine stGA rfl (ok_idx rfl rfl (by omega) (by omega)) rfl rfl ?_ | refine stGA rfl (ok_idxG rfl rfl (by omega) (by omega)) rfl rfl ?_ | refine stGA rfl (ok_idxA rfl rfl (by omega) (by omega)) rfl rfl ?_) | (refine gCall ?_; first | refine stGA rfl (ok_call rfl rfl rfl (by first | exact fine_ev (by first | exact .inl rfl | exact .inr (.inl rfl) | exact .inr (.inr ⟨_, rfl⟩) | assumption) (by assumption) rfl | exact hfX | exact works_ev rfl | exact hc0 | exact hcA | exact hcB | exact hcC | exact hcD | exact hcX | exact hki | exact hwo | exact hcW | exact Ev.nil (rg_ok _ _) rfl rfl rfl)) rfl rfl ?_) | refine stSU rfl rfl ?_ | refine stSA rfl rfl ?_ | ((fail_if_success (refine stGkA rfl ?_)); first | (refine stGdD rfl ?_ ?_ <;> intro _) | (refine stGd rfl ?_ ?_ <;> intro _))) | (refine fU ?_; first | (refine fLoad ?_; first | refine frA (ok_load rfl (by first | rfl | exact hgk _ hilK | assumption)) rfl ?_ | refine frA (ok_loadA rfl (by first | rfl | exact hgk _ hilK | assumption)) rfl ?_) | (refine fAlloc ?_; first | refine Chain.fr1A (ok_alloc rfl) rfl rfl rfl ?_)) | (refine fr_stop ⟨by kernel_rfl, ?_⟩) | refine W_seq ?_ | refine W_stop (id := 6) ?_ | refine W_stop (id := 19) ?_ | refine W_stop (id := 29) ?_ | refine W_region ?_ | refine Chain.W_regionC (id := 5) (by kernel_rfl) rfl ?_ | refine W_regionD (by kernel_rfl) rfl ?_ | refine st_nil ?_ | refine Chain.wc_nil ?_ | refine Chain.wc_step 4 [true, true, true, true] s.cells (by kernel_rfl) (by kernel_rfl) (by kernel_rfl) (by kernel_rfl) rfl rfl (ok_store rfl rfl rfl rfl rfl) ?_ | refine Chain.wc_step 5 [true, true, true, true] s.cells (by kernel_rfl) (by kernel_rfl) (by kernel_rfl) (by kernel_rfl) rfl rfl (ok_store rfl rfl rfl rfl rfl) ?_ | refine Chain.wc_step 6 [true, true, true, true] s.cells (by kernel_rfl) (by kernel_rfl) (by kernel_rfl) (by kernel_rfl) rfl rfl (ok_store rfl rfl rfl rfl rfl) ?_ | refine Chain.wc_step 7 [true, true, true, true] s.cells (by kernel_rfl) (by kernel_rfl) (by kernel_rfl) (by kernel_rfl) rfl rfl (ok_store rfl rfl rfl rfl rfl) ?_ | refine tq_n ?_ | refine tq_r ?_ | refine tq_e ?_ | refine bq_n ?_ | refine bq_r ?_ | refine bq_hit rfl ?_ | refine bq_miss rfl ?_ | refine W_skip ?_ | refine W_exit ?_ | refine W_ret ?_ | refine W_block ?_ | refine W_stopC (t := 128) ?_ | refine W_condTA rfl ?_ | refine W_condFA rfl ?_ | (refine W_condD rfl ?_ ?_ <;> intro _) | (refine W_cond rfl ?_ ?_ <;> intro _))
    refine ⟨W_cut [(1, .slice (some ⟨0, 0, none⟩) l.length c), (5, .int .u8 n), (6, .pointer (some ⟨1, 0, none⟩)), (13, .int .i64 v0), (15, slvV 7 1 (l.length + 1))] [.ro (ints l), .rw s.cells, .rw [.int .u32 w0, .int .u32 w1], .rw [.int .u16 b0, .int .u16 b1, .int .u16 b2], .dead, .dead, .rw [.int .i64 more], .gr (ints l ++ [.int .i64 more]) 2, .rw (wideS s w0 w1).cells, .rw (offS s b0).cells, .rw (shortS s b1).cells, .rw (longS s b2).cells, .rw ((wideS s w0 w1).cells ++ (offS s b0).cells ++ (shortS s b1).cells ++ (longS s b2).cells)] (by kernel_rfl) ⟨by kernel_rfl, by kernel_rfl, by kernel_rfl, by kernel_rfl, by kernel_rfl, trivial⟩ ?_⟩
    apply W_region
    repeat' (first | (refine gU ?_; first | refine st (ok_eqBT Try.underlying4 rfl rfl (by exact decide_eq_decide.2 hiff)) rfl rfl ?_ | (refine gMove ?_; first | refine st (ok_move rfl) rfl rfl ?_) | (refine gAssign ?_; first | refine st (ok_assign rfl) rfl rfl ?_) | (refine gFA ?_; first | refine st (ok_fieldAddr rfl) rfl rfl ?_) | (refine gLoad ?_; first | refine st (ok_load rfl (by first | rfl | exact hgk _ hilK | assumption)) rfl rfl ?_ | refine st (ok_loadA rfl (by first | rfl | exact hgk _ hilK | assumption)) rfl rfl ?_) | (refine gAdd ?_; first | refine st (ok_inc rfl rfl (by omega)) rfl rfl ?_ | refine st (ok_add rfl rfl (by omega) (by omega)) rfl rfl ?_ | refine st (ok_bin rfl rfl rfl) rfl rfl ?_) | (refine gSub ?_; first | refine st (ok_sub rfl rfl (by omega) (by omega)) rfl rfl ?_ | refine st (ok_bin rfl rfl rfl) rfl rfl ?_) | (refine gBin ?_; first | refine st (ok_bin rfl rfl rfl) rfl rfl ?_ | refine st (ok_rem rfl rfl (by omega)) rfl rfl ?_ | refine st (ok_eq2 rfl rfl) rfl rfl ?_ | refine st (ok_neq2 rfl rfl) rfl rfl ?_) | (refine gLen ?_; first | refine st (ok_len rfl) rfl rfl ?_ | refine st (ok_lenV rfl) rfl rfl ?_) | (refine gPick ?_; first | refine st (ok_pickTA rfl rfl) rfl rfl ?_ | refine st (ok_pickFA rfl rfl) rfl rfl ?_) | (refine gNot ?_; first | refine st (ok_notD rfl) rfl rfl ?_ | refine st (ok_not' rfl) rfl rfl ?_) | (refine gExtract ?_; first | refine st (ok_extract rfl rfl) rfl rfl ?_) | (refine gIA ?_; first | refine st (ok_idxN rfl rfl (by omega)) rfl rfl ?_ | refine st (ok_idxSN rfl rfl (by omega)) rfl rfl ?_ | refine st (ok_idxAN rfl rfl (by omega)) rfl rfl ?_ | refine st (ok_idx rfl rfl (by omega) (by omega)) rfl rfl ?_ | refine st (ok_idxG rfl rfl (by omega) (by omega)) rfl rfl ?_ | refine st (ok_idxA rfl rfl (by omega) (by omega)) rfl rfl ?_) | (refine gMax ?_; first | refine st (ok_max rfl rfl) rfl rfl ?_) | (refine gMin ?_; first | refine st (ok_min rfl rfl) rfl rfl ?_) | (refine gConv ?_; first | refine st (ok_conv64 rfl (by omega) (by omega)) rfl rfl ?_ | refine st (ok_convK rfl (by omega) (by omega)) rfl rfl ?_) | (refine gCall ?_; first | refine st (ok_call rfl rfl rfl (by first | exact fine_ev (by first | exact .inl rfl | exact .inr (.inl rfl) | exact .inr (.inr ⟨_, rfl⟩) | assumption) (by assumption) rfl | exact hfX | exact works_ev rfl | exact hc0 | exact hcA | exact hcB | exact hcC | exact hcD | exact hcX | exact hki | exact hwo | exact hcW | exact Ev.nil (rg_ok _ _) rfl rfl rfl)) rfl rfl ?_) | (refine gBox ?_; first | refine st (ok_box rfl) rfl rfl ?_) | (refine gAlloc ?_; first | refine st (ok_alloc rfl) rfl rfl ?_) | (refine gBuildS ?_; first | refine st (ok_buildS (by rfl) (by rfl) (by rfl) (by rfl) rfl (by rfl)) rfl rfl ?_ | refine st (ok_buildS0) rfl rfl ?_) | (refine gApp ?_; first | refine st (ok_appendV (by rfl) (by rfl) rfl (by rfl) (by first | rfl | exact hlen1 | assumption) rfl (by first | rfl | exact hA _ | assumption) (by omega) (by first | rfl | assumption) (by omega) (by omega)) rfl rfl ?_ | refine st (ok_appendIn rfl rfl (by omega) (by omega) (by first | rfl | exact hA _ | assumption) (by first | rfl | assumption) (by first | rfl | assumption | exact hp1 (by omega) | exact hp2 (by omega))) rfl rfl ?_ | refine st (ok_app0 rfl (by first | rfl | exact slOk_slvV _ _ _) rfl (by omega)) rfl rfl ?_ | refine st (ok_appendE (by rfl) rfl rfl (by first | rfl | exact hA _ | assumption) (by omega) (by omega) (by omega)) rfl rfl ?_) | (refine gStore ?_; refine stN (ok_store rfl rfl rfl rfl (by first | rfl | assumption | exact hp1 (by omega) | exact hp2 (by omega))) rfl ?_)) | (refine gG ?_; first | refine stGA rfl (ok_eqBT Try.underlying4 rfl rfl (by exact decide_eq_decide.2 hiff)) rfl rfl ?_ | (refine gMove ?_; first | refine stGA rfl (ok_move rfl) rfl rfl ?_) | (refine gLoad ?_; first | refine stGA rfl (ok_load rfl (by first | rfl | exact hgk _ hilK | assumption)) rfl rfl ?_ | refine stGA rfl (ok_loadA rfl (by first | rfl | exact hgk _ hilK | assumption)) rfl rfl ?_) | (refine gBin ?_; first | refine stGA rfl (ok_bin rfl rfl rfl) rfl rfl ?_ | refine stGA rfl (ok_eq2 rfl rfl) rfl rfl ?_ | refine stGA rfl (ok_neq2 rfl rfl) rfl rfl ?_) | (refine gLen ?_; first | refine stGA rfl (ok_len rfl) rfl rfl ?_ | refine stGA rfl (ok_lenV rfl) rfl rfl ?_) | (refine gIA ?_; first | refine stGA rfl (ok_idxN rfl rfl (by omega)) rfl rfl ?_ | refine stGA rfl (ok_idxSN rfl rfl (by omega)) rfl rfl ?_ | refine stGA rfl (ok_idxAN rfl rfl (by omega)) rfl rfl ?_ | refine stGA rfl (ok_idx rfl rfl (by omega) (by omega)) rfl rfl ?_ | refine stGA rfl (ok_idxG rfl rfl (by omega) (by omega)) rfl rfl ?_ | refine stGA rfl (ok_idxA rfl rfl (by omega) (by omega)) rfl rfl ?_) | (refine gCall ?_; first | refine stGA rfl (ok_call rfl rfl rfl (by first | exact fine_ev (by first | exact .inl rfl | exact .inr (.inl rfl) | exact .inr (.inr ⟨_, rfl⟩) | assumption) (by assumption) rfl | exact hfX | exact works_ev rfl | exact hc0 | exact hcA | exact hcB | exact hcC | exact hcD | exact hcX | exact hki | exact hwo | exact hcW | exact Ev.nil (rg_ok _ _) rfl rfl rfl)) rfl rfl ?_) | refine stSU rfl rfl ?_ | refine stSA rfl rfl ?_ | ((fail_if_success (refine stGkA rfl ?_)); first | (refine stGdD rfl ?_ ?_ <;> intro _) | (refine stGd rfl ?_ ?_ <;> intro _))) | (refine fU ?_; first | (refine fLoad ?_; first | refine frA (ok_load rfl (by first | rfl | exact hgk _ hilK | assumption)) rfl ?_ | refine frA (ok_loadA rfl (by first | rfl | exact hgk _ hilK | assumption)) rfl ?_) | (refine fAlloc ?_; first | refine Chain.fr1A (ok_alloc rfl) rfl rfl rfl ?_)) | (refine fr_stop ⟨by kernel_rfl, ?_⟩) | refine W_seq ?_ | refine W_stop (id := 6) ?_ | refine W_stop (id := 19) ?_ | refine W_stop (id := 29) ?_ | refine W_region ?_ | refine Chain.W_regionC (id := 5) (by kernel_rfl) rfl ?_ | refine W_regionD (by kernel_rfl) rfl ?_ | refine st_nil ?_ | refine Chain.wc_nil ?_ | refine Chain.wc_step 4 [true, true, true, true] s.cells (by kernel_rfl) (by kernel_rfl) (by kernel_rfl) (by kernel_rfl) rfl rfl (ok_store rfl rfl rfl rfl rfl) ?_ | refine Chain.wc_step 5 [true, true, true, true] s.cells (by kernel_rfl) (by kernel_rfl) (by kernel_rfl) (by kernel_rfl) rfl rfl (ok_store rfl rfl rfl rfl rfl) ?_ | refine Chain.wc_step 6 [true, true, true, true] s.cells (by kernel_rfl) (by kernel_rfl) (by kernel_rfl) (by kernel_rfl) rfl rfl (ok_store rfl rfl rfl rfl rfl) ?_ | refine Chain.wc_step 7 [true, true, true, true] s.cells (by kernel_rfl) (by kernel_rfl) (by kernel_rfl) (by kernel_rfl) rfl rfl (ok_store rfl rfl rfl rfl rfl) ?_ | refine tq_n ?_ | refine tq_r ?_ | refine tq_e ?_ | refine bq_n ?_ | refine bq_r ?_ | refine bq_hit rfl ?_ | refine bq_miss rfl ?_ | refine W_skip ?_ | refine W_exit ?_ | refine W_ret ?_ | refine W_block ?_ | refine W_stopC (t := 128) ?_ | refine W_condTA rfl ?_ | refine W_condFA rfl ?_ | (refine W_condD rfl ?_ ?_ <;> intro _) | (refine W_cond rfl ?_ ?_ <;> intro _))
    refine ⟨W_condM rfl [(1, .slice (some ⟨0, 0, none⟩) l.length c), (5, .int .u8 n), (6, .pointer (some ⟨1, 0, none⟩)), (13, .int .i64 v0)] [.ro (ints l), .rw s.cells, .rw [.int .u32 w0, .int .u32 w1], .rw [.int .u16 b0, .int .u16 b1, .int .u16 b2], .dead, .dead, .rw [.int .i64 more], .gr (ints l ++ [.int .i64 more]) 2, .rw (wideS s w0 w1).cells, .rw (offS s b0).cells, .rw (shortS s b1).cells, .rw (longS s b2).cells, .rw ((wideS s w0 w1).cells ++ (offS s b0).cells ++ (shortS s b1).cells ++ (longS s b2).cells)] (fun e' he => ?_) (fun hx => ?_) (fun hx => ?_)⟩
    rotate_left
    · have hx := of_decide_eq_true hx
      have hcX := hcX hx
      have nx := nx hx
      clear hgk hki hwo hmany hcW hone hkl hk0 hcn hcg
      repeat' (first | (refine gU ?_; first | refine st (ok_eqBT Try.underlying4 rfl rfl (by exact decide_eq_decide.2 hiff)) rfl rfl ?_ | (refine gMove ?_; first | refine st (ok_move rfl) rfl rfl ?_) | (refine gAssign ?_; first | refine st (ok_assign rfl) rfl rfl ?_) | (refine gFA ?_; first | refine st (ok_fieldAddr rfl) rfl rfl ?_) | (refine gLoad ?_; first | refine st (ok_load rfl (by first | rfl | exact hgk _ hilK | assumption)) rfl rfl ?_ | refine st (ok_loadA rfl (by first | rfl | exact hgk _ hilK | assumption)) rfl rfl ?_) | (refine gAdd ?_; first | refine st (ok_inc rfl rfl (by omega)) rfl rfl ?_ | refine st (ok_add rfl rfl (by omega) (by omega)) rfl rfl ?_ | refine st (ok_bin rfl rfl rfl) rfl rfl ?_) | (refine gSub ?_; first | refine st (ok_sub rfl rfl (by omega) (by omega)) rfl rfl ?_ | refine st (ok_bin rfl rfl rfl) rfl rfl ?_) | (refine gBin ?_; first | refine st (ok_bin rfl rfl rfl) rfl rfl ?_ | refine st (ok_rem rfl rfl (by omega)) rfl rfl ?_ | refine st (ok_eq2 rfl rfl) rfl rfl ?_ | refine st (ok_neq2 rfl rfl) rfl rfl ?_) | (refine gLen ?_; first | refine st (ok_len rfl) rfl rfl ?_ | refine st (ok_lenV rfl) rfl rfl ?_) | (refine gPick ?_; first | refine st (ok_pickTA rfl rfl) rfl rfl ?_ | refine st (ok_pickFA rfl rfl) rfl rfl ?_) | (refine gNot ?_; first | refine st (ok_notD rfl) rfl rfl ?_ | refine st (ok_not' rfl) rfl rfl ?_) | (refine gExtract ?_; first | refine st (ok_extract rfl rfl) rfl rfl ?_) | (refine gIA ?_; first | refine st (ok_idxN rfl rfl (by omega)) rfl rfl ?_ | refine st (ok_idxSN rfl rfl (by omega)) rfl rfl ?_ | refine st (ok_idxAN rfl rfl (by omega)) rfl rfl ?_ | refine st (ok_idx rfl rfl (by omega) (by omega)) rfl rfl ?_ | refine st (ok_idxG rfl rfl (by omega) (by omega)) rfl rfl ?_ | refine st (ok_idxA rfl rfl (by omega) (by omega)) rfl rfl ?_) | (refine gMax ?_; first | refine st (ok_max rfl rfl) rfl rfl ?_) | (refine gMin ?_; first | refine st (ok_min rfl rfl) rfl rfl ?_) | (refine gConv ?_; first | refine st (ok_conv64 rfl (by omega) (by omega)) rfl rfl ?_ | refine st (ok_convK rfl (by omega) (by omega)) rfl rfl ?_) | (refine gCall ?_; first | refine st (ok_call rfl rfl rfl (by first | exact fine_ev (by first | exact .inl rfl | exact .inr (.inl rfl) | exact .inr (.inr ⟨_, rfl⟩) | assumption) (by assumption) rfl | exact hfX | exact works_ev rfl | exact hc0 | exact hcA | exact hcB | exact hcC | exact hcD | exact hcX | exact hki | exact hwo | exact hcW | exact Ev.nil (rg_ok _ _) rfl rfl rfl)) rfl rfl ?_) | (refine gBox ?_; first | refine st (ok_box rfl) rfl rfl ?_) | (refine gAlloc ?_; first | refine st (ok_alloc rfl) rfl rfl ?_) | (refine gBuildS ?_; first | refine st (ok_buildS (by rfl) (by rfl) (by rfl) (by rfl) rfl (by rfl)) rfl rfl ?_ | refine st (ok_buildS0) rfl rfl ?_) | (refine gApp ?_; first | refine st (ok_appendV (by rfl) (by rfl) rfl (by rfl) (by first | rfl | exact hlen1 | assumption) rfl (by first | rfl | exact hA _ | assumption) (by omega) (by first | rfl | assumption) (by omega) (by omega)) rfl rfl ?_ | refine st (ok_appendIn rfl rfl (by omega) (by omega) (by first | rfl | exact hA _ | assumption) (by first | rfl | assumption) (by first | rfl | assumption | exact hp1 (by omega) | exact hp2 (by omega))) rfl rfl ?_ | refine st (ok_app0 rfl (by first | rfl | exact slOk_slvV _ _ _) rfl (by omega)) rfl rfl ?_ | refine st (ok_appendE (by rfl) rfl rfl (by first | rfl | exact hA _ | assumption) (by omega) (by omega) (by omega)) rfl rfl ?_) | (refine gStore ?_; refine stN (ok_store rfl rfl rfl rfl (by first | rfl | assumption | exact hp1 (by omega) | exact hp2 (by omega))) rfl ?_)) | (refine gG ?_; first | refine stGA rfl (ok_eqBT Try.underlying4 rfl rfl (by exact decide_eq_decide.2 hiff)) rfl rfl ?_ | (refine gMove ?_; first | refine stGA rfl (ok_move rfl) rfl rfl ?_) | (refine gLoad ?_; first | refine stGA rfl (ok_load rfl (by first | rfl | exact hgk _ hilK | assumption)) rfl rfl ?_ | refine stGA rfl (ok_loadA rfl (by first | rfl | exact hgk _ hilK | assumption)) rfl rfl ?_) | (refine gBin ?_; first | refine stGA rfl (ok_bin rfl rfl rfl) rfl rfl ?_ | refine stGA rfl (ok_eq2 rfl rfl) rfl rfl ?_ | refine stGA rfl (ok_neq2 rfl rfl) rfl rfl ?_) | (refine gLen ?_; first | refine stGA rfl (ok_len rfl) rfl rfl ?_ | refine stGA rfl (ok_lenV rfl) rfl rfl ?_) | (refine gIA ?_; first | refine stGA rfl (ok_idxN rfl rfl (by omega)) rfl rfl ?_ | refine stGA rfl (ok_idxSN rfl rfl (by omega)) rfl rfl ?_ | refine stGA rfl (ok_idxAN rfl rfl (by omega)) rfl rfl ?_ | refine stGA rfl (ok_idx rfl rfl (by omega) (by omega)) rfl rfl ?_ | refine stGA rfl (ok_idxG rfl rfl (by omega) (by omega)) rfl rfl ?_ | refine stGA rfl (ok_idxA rfl rfl (by omega) (by omega)) rfl rfl ?_) | (refine gCall ?_; first | refine stGA rfl (ok_call rfl rfl rfl (by first | exact fine_ev (by first | exact .inl rfl | exact .inr (.inl rfl) | exact .inr (.inr ⟨_, rfl⟩) | assumption) (by assumption) rfl | exact hfX | exact works_ev rfl | exact hc0 | exact hcA | exact hcB | exact hcC | exact hcD | exact hcX | exact hki | exact hwo | exact hcW | exact Ev.nil (rg_ok _ _) rfl rfl rfl)) rfl rfl ?_) | refine stSU rfl rfl ?_ | refine stSA rfl rfl ?_ | ((fail_if_success (refine stGkA rfl ?_)); first | (refine stGdD rfl ?_ ?_ <;> intro _) | (refine stGd rfl ?_ ?_ <;> intro _))) | (refine fU ?_; first | (refine fLoad ?_; first | refine frA (ok_load rfl (by first | rfl | exact hgk _ hilK | assumption)) rfl ?_ | refine frA (ok_loadA rfl (by first | rfl | exact hgk _ hilK | assumption)) rfl ?_) | (refine fAlloc ?_; first | refine Chain.fr1A (ok_alloc rfl) rfl rfl rfl ?_)) | (refine fr_stop ⟨by kernel_rfl, ?_⟩) | refine W_seq ?_ | refine W_stop (id := 6) ?_ | refine W_stop (id := 19) ?_ | refine W_stop (id := 29) ?_ | refine W_region ?_ | refine Chain.W_regionC (id := 5) (by kernel_rfl) rfl ?_ | refine W_regionD (by kernel_rfl) rfl ?_ | refine st_nil ?_ | refine Chain.wc_nil ?_ | refine Chain.wc_step 4 [true, true, true, true] s.cells (by kernel_rfl) (by kernel_rfl) (by kernel_rfl) (by kernel_rfl) rfl rfl (ok_store rfl rfl rfl rfl rfl) ?_ | refine Chain.wc_step 5 [true, true, true, true] s.cells (by kernel_rfl) (by kernel_rfl) (by kernel_rfl) (by kernel_rfl) rfl rfl (ok_store rfl rfl rfl rfl rfl) ?_ | refine Chain.wc_step 6 [true, true, true, true] s.cells (by kernel_rfl) (by kernel_rfl) (by kernel_rfl) (by kernel_rfl) rfl rfl (ok_store rfl rfl rfl rfl rfl) ?_ | refine Chain.wc_step 7 [true, true, true, true] s.cells (by kernel_rfl) (by kernel_rfl) (by kernel_rfl) (by kernel_rfl) rfl rfl (ok_store rfl rfl rfl rfl rfl) ?_ | refine tq_n ?_ | refine tq_r ?_ | refine tq_e ?_ | refine bq_n ?_ | refine bq_r ?_ | refine bq_hit rfl ?_ | refine bq_miss rfl ?_ | refine W_skip ?_ | refine W_exit ?_ | refine W_ret ?_ | refine W_block ?_ | refine W_stopC (t := 128) ?_ | refine W_condTA rfl ?_ | refine W_condFA rfl ?_ | (refine W_condD rfl ?_ ?_ <;> intro _) | (refine W_cond rfl ?_ ?_ <;> intro _))
      exact ⟨rfl, rfl, rfl, by kernel_rfl, by kernel_rfl, by kernel_rfl, by kernel_rfl, trivial⟩
    · clear hgk hki hwo hmany hcW hone hkl hk0 hcn hcg
      repeat' (first | (refine gU ?_; first | refine st (ok_eqBT Try.underlying4 rfl rfl (by exact decide_eq_decide.2 hiff)) rfl rfl ?_ | (refine gMove ?_; first | refine st (ok_move rfl) rfl rfl ?_) | (refine gAssign ?_; first | refine st (ok_assign rfl) rfl rfl ?_) | (refine gFA ?_; first | refine st (ok_fieldAddr rfl) rfl rfl ?_) | (refine gLoad ?_; first | refine st (ok_load rfl (by first | rfl | exact hgk _ hilK | assumption)) rfl rfl ?_ | refine st (ok_loadA rfl (by first | rfl | exact hgk _ hilK | assumption)) rfl rfl ?_) | (refine gAdd ?_; first | refine st (ok_inc rfl rfl (by omega)) rfl rfl ?_ | refine st (ok_add rfl rfl (by omega) (by omega)) rfl rfl ?_ | refine st (ok_bin rfl rfl rfl) rfl rfl ?_) | (refine gSub ?_; first | refine st (ok_sub rfl rfl (by omega) (by omega)) rfl rfl ?_ | refine st (ok_bin rfl rfl rfl) rfl rfl ?_) | (refine gBin ?_; first | refine st (ok_bin rfl rfl rfl) rfl rfl ?_ | refine st (ok_rem rfl rfl (by omega)) rfl rfl ?_ | refine st (ok_eq2 rfl rfl) rfl rfl ?_ | refine st (ok_neq2 rfl rfl) rfl rfl ?_) | (refine gLen ?_; first | refine st (ok_len rfl) rfl rfl ?_ | refine st (ok_lenV rfl) rfl rfl ?_) | (refine gPick ?_; first | refine st (ok_pickTA rfl rfl) rfl rfl ?_ | refine st (ok_pickFA rfl rfl) rfl rfl ?_) | (refine gNot ?_; first | refine st (ok_notD rfl) rfl rfl ?_ | refine st (ok_not' rfl) rfl rfl ?_) | (refine gExtract ?_; first | refine st (ok_extract rfl rfl) rfl rfl ?_) | (refine gIA ?_; first | refine st (ok_idxN rfl rfl (by omega)) rfl rfl ?_ | refine st (ok_idxSN rfl rfl (by omega)) rfl rfl ?_ | refine st (ok_idxAN rfl rfl (by omega)) rfl rfl ?_ | refine st (ok_idx rfl rfl (by omega) (by omega)) rfl rfl ?_ | refine st (ok_idxG rfl rfl (by omega) (by omega)) rfl rfl ?_ | refine st (ok_idxA rfl rfl (by omega) (by omega)) rfl rfl ?_) | (refine gMax ?_; first | refine st (ok_max rfl rfl) rfl rfl ?_) | (refine gMin ?_; first | refine st (ok_min rfl rfl) rfl rfl ?_) | (refine gConv ?_; first | refine st (ok_conv64 rfl (by omega) (by omega)) rfl rfl ?_ | refine st (ok_convK rfl (by omega) (by omega)) rfl rfl ?_) | (refine gCall ?_; first | refine st (ok_call rfl rfl rfl (by first | exact fine_ev (by first | exact .inl rfl | exact .inr (.inl rfl) | exact .inr (.inr ⟨_, rfl⟩) | assumption) (by assumption) rfl | exact hfX | exact works_ev rfl | exact hc0 | exact hcA | exact hcB | exact hcC | exact hcD | exact hcX | exact hki | exact hwo | exact hcW | exact Ev.nil (rg_ok _ _) rfl rfl rfl)) rfl rfl ?_) | (refine gBox ?_; first | refine st (ok_box rfl) rfl rfl ?_) | (refine gAlloc ?_; first | refine st (ok_alloc rfl) rfl rfl ?_) | (refine gBuildS ?_; first | refine st (ok_buildS (by rfl) (by rfl) (by rfl) (by rfl) rfl (by rfl)) rfl rfl ?_ | refine st (ok_buildS0) rfl rfl ?_) | (refine gApp ?_; first | refine st (ok_appendV (by rfl) (by rfl) rfl (by rfl) (by first | rfl | exact hlen1 | assumption) rfl (by first | rfl | exact hA _ | assumption) (by omega) (by first | rfl | assumption) (by omega) (by omega)) rfl rfl ?_ | refine st (ok_appendIn rfl rfl (by omega) (by omega) (by first | rfl | exact hA _ | assumption) (by first | rfl | assumption) (by first | rfl | assumption | exact hp1 (by omega) | exact hp2 (by omega))) rfl rfl ?_ | refine st (ok_app0 rfl (by first | rfl | exact slOk_slvV _ _ _) rfl (by omega)) rfl rfl ?_ | refine st (ok_appendE (by rfl) rfl rfl (by first | rfl | exact hA _ | assumption) (by omega) (by omega) (by omega)) rfl rfl ?_) | (refine gStore ?_; refine stN (ok_store rfl rfl rfl rfl (by first | rfl | assumption | exact hp1 (by omega) | exact hp2 (by omega))) rfl ?_)) | (refine gG ?_; first | refine stGA rfl (ok_eqBT Try.underlying4 rfl rfl (by exact decide_eq_decide.2 hiff)) rfl rfl ?_ | (refine gMove ?_; first | refine stGA rfl (ok_move rfl) rfl rfl ?_) | (refine gLoad ?_; first | refine stGA rfl (ok_load rfl (by first | rfl | exact hgk _ hilK | assumption)) rfl rfl ?_ | refine stGA rfl (ok_loadA rfl (by first | rfl | exact hgk _ hilK | assumption)) rfl rfl ?_) | (refine gBin ?_; first | refine stGA rfl (ok_bin rfl rfl rfl) rfl rfl ?_ | refine stGA rfl (ok_eq2 rfl rfl) rfl rfl ?_ | refine stGA rfl (ok_neq2 rfl rfl) rfl rfl ?_) | (refine gLen ?_; first | refine stGA rfl (ok_len rfl) rfl rfl ?_ | refine stGA rfl (ok_lenV rfl) rfl rfl ?_) | (refine gIA ?_; first | refine stGA rfl (ok_idxN rfl rfl (by omega)) rfl rfl ?_ | refine stGA rfl (ok_idxSN rfl rfl (by omega)) rfl rfl ?_ | refine stGA rfl (ok_idxAN rfl rfl (by omega)) rfl rfl ?_ | refine stGA rfl (ok_idx rfl rfl (by omega) (by omega)) rfl rfl ?_ | refine stGA rfl (ok_idxG rfl rfl (by omega) (by omega)) rfl rfl ?_ | refine stGA rfl (ok_idxA rfl rfl (by omega) (by omega)) rfl rfl ?_) | (refine gCall ?_; first | refine stGA rfl (ok_call rfl rfl rfl (by first | exact fine_ev (by first | exact .inl rfl | exact .inr (.inl rfl) | exact .inr (.inr ⟨_, rfl⟩) | assumption) (by assumption) rfl | exact hfX | exact works_ev rfl | exact hc0 | exact hcA | exact hcB | exact hcC | exact hcD | exact hcX | exact hki | exact hwo | exact hcW | exact Ev.nil (rg_ok _ _) rfl rfl rfl)) rfl rfl ?_) | refine stSU rfl rfl ?_ | refine stSA rfl rfl ?_ | ((fail_if_success (refine stGkA rfl ?_)); first | (refine stGdD rfl ?_ ?_ <;> intro _) | (refine stGd rfl ?_ ?_ <;> intro _))) | (refine fU ?_; first | (refine fLoad ?_; first | refine frA (ok_load rfl (by first | rfl | exact hgk _ hilK | assumption)) rfl ?_ | refine frA (ok_loadA rfl (by first | rfl | exact hgk _ hilK | assumption)) rfl ?_) | (refine fAlloc ?_; first | refine Chain.fr1A (ok_alloc rfl) rfl rfl rfl ?_)) | (refine fr_stop ⟨by kernel_rfl, ?_⟩) | refine W_seq ?_ | refine W_stop (id := 6) ?_ | refine W_stop (id := 19) ?_ | refine W_stop (id := 29) ?_ | refine W_region ?_ | refine Chain.W_regionC (id := 5) (by kernel_rfl) rfl ?_ | refine W_regionD (by kernel_rfl) rfl ?_ | refine st_nil ?_ | refine Chain.wc_nil ?_ | refine Chain.wc_step 4 [true, true, true, true] s.cells (by kernel_rfl) (by kernel_rfl) (by kernel_rfl) (by kernel_rfl) rfl rfl (ok_store rfl rfl rfl rfl rfl) ?_ | refine Chain.wc_step 5 [true, true, true, true] s.cells (by kernel_rfl) (by kernel_rfl) (by kernel_rfl) (by kernel_rfl) rfl rfl (ok_store rfl rfl rfl rfl rfl) ?_ | refine Chain.wc_step 6 [true, true, true, true] s.cells (by kernel_rfl) (by kernel_rfl) (by kernel_rfl) (by kernel_rfl) rfl rfl (ok_store rfl rfl rfl rfl rfl) ?_ | refine Chain.wc_step 7 [true, true, true, true] s.cells (by kernel_rfl) (by kernel_rfl) (by kernel_rfl) (by kernel_rfl) rfl rfl (ok_store rfl rfl rfl rfl rfl) ?_ | refine tq_n ?_ | refine tq_r ?_ | refine tq_e ?_ | refine bq_n ?_ | refine bq_r ?_ | refine bq_hit rfl ?_ | refine bq_miss rfl ?_ | refine W_skip ?_ | refine W_exit ?_ | refine W_ret ?_ | refine W_block ?_ | refine W_stopC (t := 128) ?_ | refine W_condTA rfl ?_ | refine W_condFA rfl ?_ | (refine W_condD rfl ?_ ?_ <;> intro _) | (refine W_cond rfl ?_ ?_ <;> intro _))
      exact ⟨rfl, rfl, rfl, by kernel_rfl, by kernel_rfl, by kernel_rfl, by kernel_rfl, trivial⟩
    · clear hcX nx hfX harX hxl hN1 hN2
      refine tq_n ?_
      refine W_cut [(1, .slice (some ⟨0, 0, none⟩) l.length c), (5, .int .u8 n), (6, .pointer (some ⟨1, 0, none⟩)), (13, .int .i64 v0)] [.ro (ints l), .rw s.cells, .rw [.int .u32 w0, .int .u32 w1], .rw [.int .u16 b0, .int .u16 b1, .int .u16 b2], .dead, .dead, .rw [.int .i64 more], .gr (ints l ++ [.int .i64 more]) 2, .rw (wideS s w0 w1).cells, .rw (offS s b0).cells, .rw (shortS s b1).cells, .rw (longS s b2).cells, .rw ((wideS s w0 w1).cells ++ (offS s b0).cells ++ (shortS s b1).cells ++ (longS s b2).cells)] rfl he ?_
      rcases h019 with hp0 | hp19
      · subst hp0
        have hKl := hkl rfl
        have h12' := hcn rfl
        have hne : ¬ v0 = 1000 := by omega
        have hilK : i < K.length := by omega
        clear hcg hk0 hkl hcn
        repeat' (first | (refine gU ?_; first | refine st (ok_eqBT Try.underlying4 rfl rfl (by exact decide_eq_decide.2 hiff)) rfl rfl ?_ | (refine gMove ?_; first | refine st (ok_move rfl) rfl rfl ?_) | (refine gAssign ?_; first | refine st (ok_assign rfl) rfl rfl ?_) | (refine gFA ?_; first | refine st (ok_fieldAddr rfl) rfl rfl ?_) | (refine gLoad ?_; first | refine st (ok_load rfl (by first | rfl | exact hgk _ hilK | assumption)) rfl rfl ?_ | refine st (ok_loadA rfl (by first | rfl | exact hgk _ hilK | assumption)) rfl rfl ?_) | (refine gAdd ?_; first | refine st (ok_inc rfl rfl (by omega)) rfl rfl ?_ | refine st (ok_add rfl rfl (by omega) (by omega)) rfl rfl ?_ | refine st (ok_bin rfl rfl rfl) rfl rfl ?_) | (refine gSub ?_; first | refine st (ok_sub rfl rfl (by omega) (by omega)) rfl rfl ?_ | refine st (ok_bin rfl rfl rfl) rfl rfl ?_) | (refine gBin ?_; first | refine st (ok_bin rfl rfl rfl) rfl rfl ?_ | refine st (ok_rem rfl rfl (by omega)) rfl rfl ?_ | refine st (ok_eq2 rfl rfl) rfl rfl ?_ | refine st (ok_neq2 rfl rfl) rfl rfl ?_) | (refine gLen ?_; first | refine st (ok_len rfl) rfl rfl ?_ | refine st (ok_lenV rfl) rfl rfl ?_) | (refine gPick ?_; first | refine st (ok_pickTA rfl rfl) rfl rfl ?_ | refine st (ok_pickFA rfl rfl) rfl rfl ?_) | (refine gNot ?_; first | refine st (ok_notD rfl) rfl rfl ?_ | refine st (ok_not' rfl) rfl rfl ?_) | (refine gExtract ?_; first | refine st (ok_extract rfl rfl) rfl rfl ?_) | (refine gIA ?_; first | refine st (ok_idxN rfl rfl (by omega)) rfl rfl ?_ | refine st (ok_idxSN rfl rfl (by omega)) rfl rfl ?_ | refine st (ok_idxAN rfl rfl (by omega)) rfl rfl ?_ | refine st (ok_idx rfl rfl (by omega) (by omega)) rfl rfl ?_ | refine st (ok_idxG rfl rfl (by omega) (by omega)) rfl rfl ?_ | refine st (ok_idxA rfl rfl (by omega) (by omega)) rfl rfl ?_) | (refine gMax ?_; first | refine st (ok_max rfl rfl) rfl rfl ?_) | (refine gMin ?_; first | refine st (ok_min rfl rfl) rfl rfl ?_) | (refine gConv ?_; first | refine st (ok_conv64 rfl (by omega) (by omega)) rfl rfl ?_ | refine st (ok_convK rfl (by omega) (by omega)) rfl rfl ?_) | (refine gCall ?_; first | refine st (ok_call rfl rfl rfl (by first | exact fine_ev (by first | exact .inl rfl | exact .inr (.inl rfl) | exact .inr (.inr ⟨_, rfl⟩) | assumption) (by assumption) rfl | exact hfX | exact works_ev rfl | exact hc0 | exact hcA | exact hcB | exact hcC | exact hcD | exact hcX | exact hki | exact hwo | exact hcW | exact Ev.nil (rg_ok _ _) rfl rfl rfl)) rfl rfl ?_) | (refine gBox ?_; first | refine st (ok_box rfl) rfl rfl ?_) | (refine gAlloc ?_; first | refine st (ok_alloc rfl) rfl rfl ?_) | (refine gBuildS ?_; first | refine st (ok_buildS (by rfl) (by rfl) (by rfl) (by rfl) rfl (by rfl)) rfl rfl ?_ | refine st (ok_buildS0) rfl rfl ?_) | (refine gApp ?_; first | refine st (ok_appendV (by rfl) (by rfl) rfl (by rfl) (by first | rfl | exact hlen1 | assumption) rfl (by first | rfl | exact hA _ | assumption) (by omega) (by first | rfl | assumption) (by omega) (by omega)) rfl rfl ?_ | refine st (ok_appendIn rfl rfl (by omega) (by omega) (by first | rfl | exact hA _ | assumption) (by first | rfl | assumption) (by first | rfl | assumption | exact hp1 (by omega) | exact hp2 (by omega))) rfl rfl ?_ | refine st (ok_app0 rfl (by first | rfl | exact slOk_slvV _ _ _) rfl (by omega)) rfl rfl ?_ | refine st (ok_appendE (by rfl) rfl rfl (by first | rfl | exact hA _ | assumption) (by omega) (by omega) (by omega)) rfl rfl ?_) | (refine gStore ?_; refine stN (ok_store rfl rfl rfl rfl (by first | rfl | assumption | exact hp1 (by omega) | exact hp2 (by omega))) rfl ?_)) | (refine gG ?_; first | refine stGA rfl (ok_eqBT Try.underlying4 rfl rfl (by exact decide_eq_decide.2 hiff)) rfl rfl ?_ | (refine gMove ?_; first | refine stGA rfl (ok_move rfl) rfl rfl ?_) | (refine gLoad ?_; first | refine stGA rfl (ok_load rfl (by first | rfl | exact hgk _ hilK | assumption)) rfl rfl ?_ | refine stGA rfl (ok_loadA rfl (by first | rfl | exact hgk _ hilK | assumption)) rfl rfl ?_) | (refine gBin ?_; first | refine stGA rfl (ok_bin rfl rfl rfl) rfl rfl ?_ | refine stGA rfl (ok_eq2 rfl rfl) rfl rfl ?_ | refine stGA rfl (ok_neq2 rfl rfl) rfl rfl ?_) | (refine gLen ?_; first | refine stGA rfl (ok_len rfl) rfl rfl ?_ | refine stGA rfl (ok_lenV rfl) rfl rfl ?_) | (refine gIA ?_; first | refine stGA rfl (ok_idxN rfl rfl (by omega)) rfl rfl ?_ | refine stGA rfl (ok_idxSN rfl rfl (by omega)) rfl rfl ?_ | refine stGA rfl (ok_idxAN rfl rfl (by omega)) rfl rfl ?_ | refine stGA rfl (ok_idx rfl rfl (by omega) (by omega)) rfl rfl ?_ | refine stGA rfl (ok_idxG rfl rfl (by omega) (by omega)) rfl rfl ?_ | refine stGA rfl (ok_idxA rfl rfl (by omega) (by omega)) rfl rfl ?_) | (refine gCall ?_; first | refine stGA rfl (ok_call rfl rfl rfl (by first | exact fine_ev (by first | exact .inl rfl | exact .inr (.inl rfl) | exact .inr (.inr ⟨_, rfl⟩) | assumption) (by assumption) rfl | exact hfX | exact works_ev rfl | exact hc0 | exact hcA | exact hcB | exact hcC | exact hcD | exact hcX | exact hki | exact hwo | exact hcW | exact Ev.nil (rg_ok _ _) rfl rfl rfl)) rfl rfl ?_) | refine stSU rfl rfl ?_ | refine stSA rfl rfl ?_ | ((fail_if_success (refine stGkA rfl ?_)); first | (refine stGdD rfl ?_ ?_ <;> intro _) | (refine stGd rfl ?_ ?_ <;> intro _))) | (refine fU ?_; first | (refine fLoad ?_; first | refine frA (ok_load rfl (by first | rfl | exact hgk _ hilK | assumption)) rfl ?_ | refine frA (ok_loadA rfl (by first | rfl | exact hgk _ hilK | assumption)) rfl ?_) | (refine fAlloc ?_; first | refine Chain.fr1A (ok_alloc rfl) rfl rfl rfl ?_)) | (refine fr_stop ⟨by kernel_rfl, ?_⟩) | refine W_seq ?_ | refine W_stop (id := 6) ?_ | refine W_stop (id := 19) ?_ | refine W_stop (id := 29) ?_ | refine W_region ?_ | refine Chain.W_regionC (id := 5) (by kernel_rfl) rfl ?_ | refine W_regionD (by kernel_rfl) rfl ?_ | refine st_nil ?_ | refine Chain.wc_nil ?_ | refine Chain.wc_step 4 [true, true, true, true] s.cells (by kernel_rfl) (by kernel_rfl) (by kernel_rfl) (by kernel_rfl) rfl rfl (ok_store rfl rfl rfl rfl rfl) ?_ | refine Chain.wc_step 5 [true, true, true, true] s.cells (by kernel_rfl) (by kernel_rfl) (by kernel_rfl) (by kernel_rfl) rfl rfl (ok_store rfl rfl rfl rfl rfl) ?_ | refine Chain.wc_step 6 [true, true, true, true] s.cells (by kernel_rfl) (by kernel_rfl) (by kernel_rfl) (by kernel_rfl) rfl rfl (ok_store rfl rfl rfl rfl rfl) ?_ | refine Chain.wc_step 7 [true, true, true, true] s.cells (by kernel_rfl) (by kernel_rfl) (by kernel_rfl) (by kernel_rfl) rfl rfl (ok_store rfl rfl rfl rfl rfl) ?_ | refine tq_n ?_ | refine tq_r ?_ | refine tq_e ?_ | refine bq_n ?_ | refine bq_r ?_ | refine bq_hit rfl ?_ | refine bq_miss rfl ?_ | refine W_skip ?_ | refine W_exit ?_ | refine W_ret ?_ | refine W_block ?_ | refine W_stopC (t := 128) ?_ | refine W_condTA rfl ?_ | refine W_condFA rfl ?_ | (refine W_condD rfl ?_ ?_ <;> intro _) | (refine W_cond rfl ?_ ?_ <;> intro _))
        refine ⟨W_cut [(1, .slice (some ⟨0, 0, none⟩) l.length c), (6, .pointer (some ⟨1, 0, none⟩)), (13, .int .i64 v0), (26, .slice (some ⟨13, 0, none⟩) K.length K.length), (28, .int .i64 (n.tmod (l.length : Int)))] [.ro (ints l), .rw s.cells, .rw [.int .u32 w0, .int .u32 w1], .rw [.int .u16 b0, .int .u16 b1, .int .u16 b2], .dead, .dead, .rw [.int .i64 more], .gr (ints l ++ [.int .i64 more]) 2, .rw (wideS s w0 w1).cells, .rw (offS s b0).cells, .rw (shortS s b1).cells, .rw (longS s b2).cells, .rw ((wideS s w0 w1).cells ++ (offS s b0).cells ++ (shortS s b1).cells ++ (longS s b2).cells), .rw (ints K)] (by kernel_rfl) ⟨by kernel_rfl, by kernel_rfl, by kernel_rfl, by kernel_rfl, by kernel_rfl, trivial⟩ ?_⟩
        rw [hi0]
        clear hki hi0 hm1 hm2
        apply W_region
        by_cases h1l : l.length = 1
        · have hk2 := hone rfl h1l
          have i0 : i = 0 := by omega
          rw [← i0] at hk2
          clear hmany hcW hone
          repeat' (first | (refine gU ?_; first | refine st (ok_eqBT Try.underlying4 rfl rfl (by exact decide_eq_decide.2 hiff)) rfl rfl ?_ | (refine gMove ?_; first | refine st (ok_move rfl) rfl rfl ?_) | (refine gAssign ?_; first | refine st (ok_assign rfl) rfl rfl ?_) | (refine gFA ?_; first | refine st (ok_fieldAddr rfl) rfl rfl ?_) | (refine gLoad ?_; first | refine st (ok_load rfl (by first | rfl | exact hgk _ hilK | assumption)) rfl rfl ?_ | refine st (ok_loadA rfl (by first | rfl | exact hgk _ hilK | assumption)) rfl rfl ?_) | (refine gAdd ?_; first | refine st (ok_inc rfl rfl (by omega)) rfl rfl ?_ | refine st (ok_add rfl rfl (by omega) (by omega)) rfl rfl ?_ | refine st (ok_bin rfl rfl rfl) rfl rfl ?_) | (refine gSub ?_; first | refine st (ok_sub rfl rfl (by omega) (by omega)) rfl rfl ?_ | refine st (ok_bin rfl rfl rfl) rfl rfl ?_) | (refine gBin ?_; first | refine st (ok_bin rfl rfl rfl) rfl rfl ?_ | refine st (ok_rem rfl rfl (by omega)) rfl rfl ?_ | refine st (ok_eq2 rfl rfl) rfl rfl ?_ | refine st (ok_neq2 rfl rfl) rfl rfl ?_) | (refine gLen ?_; first | refine st (ok_len rfl) rfl rfl ?_ | refine st (ok_lenV rfl) rfl rfl ?_) | (refine gPick ?_; first | refine st (ok_pickTA rfl rfl) rfl rfl ?_ | refine st (ok_pickFA rfl rfl) rfl rfl ?_) | (refine gNot ?_; first | refine st (ok_notD rfl) rfl rfl ?_ | refine st (ok_not' rfl) rfl rfl ?_) | (refine gExtract ?_; first | refine st (ok_extract rfl rfl) rfl rfl ?_) | (refine gIA ?_; first | refine st (ok_idxN rfl rfl (by omega)) rfl rfl ?_ | refine st (ok_idxSN rfl rfl (by omega)) rfl rfl ?_ | refine st (ok_idxAN rfl rfl (by omega)) rfl rfl ?_ | refine st (ok_idx rfl rfl (by omega) (by omega)) rfl rfl ?_ | refine st (ok_idxG rfl rfl (by omega) (by omega)) rfl rfl ?_ | refine st (ok_idxA rfl rfl (by omega) (by omega)) rfl rfl ?_) | (refine gMax ?_; first | refine st (ok_max rfl rfl) rfl rfl ?_) | (refine gMin ?_; first | refine st (ok_min rfl rfl) rfl rfl ?_) | (refine gConv ?_; first | refine st (ok_conv64 rfl (by omega) (by omega)) rfl rfl ?_ | refine st (ok_convK rfl (by omega) (by omega)) rfl rfl ?_) | (refine gCall ?_; first | refine st (ok_call rfl rfl rfl (by first | exact fine_ev (by first | exact .inl rfl | exact .inr (.inl rfl) | exact .inr (.inr ⟨_, rfl⟩) | assumption) (by assumption) rfl | exact hfX | exact works_ev rfl | exact hc0 | exact hcA | exact hcB | exact hcC | exact hcD | exact hcX | exact hki | exact hwo | exact hcW | exact Ev.nil (rg_ok _ _) rfl rfl rfl)) rfl rfl ?_) | (refine gBox ?_; first | refine st (ok_box rfl) rfl rfl ?_) | (refine gAlloc ?_; first | refine st (ok_alloc rfl) rfl rfl ?_) | (refine gBuildS ?_; first | refine st (ok_buildS (by rfl) (by rfl) (by rfl) (by rfl) rfl (by rfl)) rfl rfl ?_ | refine st (ok_buildS0) rfl rfl ?_) | (refine gApp ?_; first | refine st (ok_appendV (by rfl) (by rfl) rfl (by rfl) (by first | rfl | exact hlen1 | assumption) rfl (by first | rfl | exact hA _ | assumption) (by omega) (by first | rfl | assumption) (by omega) (by omega)) rfl rfl ?_ | refine st (ok_appendIn rfl rfl (by omega) (by omega) (by first | rfl | exact hA _ | assumption) (by first | rfl | assumption) (by first | rfl | assumption | exact hp1 (by omega) | exact hp2 (by omega))) rfl rfl ?_ | refine st (ok_app0 rfl (by first | rfl | exact slOk_slvV _ _ _) rfl (by omega)) rfl rfl ?_ | refine st (ok_appendE (by rfl) rfl rfl (by first | rfl | exact hA _ | assumption) (by omega) (by omega) (by omega)) rfl rfl ?_) | (refine gStore ?_; refine stN (ok_store rfl rfl rfl rfl (by first | rfl | assumption | exact hp1 (by omega) | exact hp2 (by omega))) rfl ?_)) | (refine gG ?_; first | refine stGA rfl (ok_eqBT Try.underlying4 rfl rfl (by exact decide_eq_decide.2 hiff)) rfl rfl ?_ | (refine gMove ?_; first | refine stGA rfl (ok_move rfl) rfl rfl ?_) | (refine gLoad ?_; first | refine stGA rfl (ok_load rfl (by first | rfl | exact hgk _ hilK | assumption)) rfl rfl ?_ | refine stGA rfl (ok_loadA rfl (by first | rfl | exact hgk _ hilK | assumption)) rfl rfl ?_) | (refine gBin ?_; first | refine stGA rfl (ok_bin rfl rfl rfl) rfl rfl ?_ | refine stGA rfl (ok_eq2 rfl rfl) rfl rfl ?_ | refine stGA rfl (ok_neq2 rfl rfl) rfl rfl ?_) | (refine gLen ?_; first | refine stGA rfl (ok_len rfl) rfl rfl ?_ | refine stGA rfl (ok_lenV rfl) rfl rfl ?_) | (refine gIA ?_; first | refine stGA rfl (ok_idxN rfl rfl (by omega)) rfl rfl ?_ | refine stGA rfl (ok_idxSN rfl rfl (by omega)) rfl rfl ?_ | refine stGA rfl (ok_idxAN rfl rfl (by omega)) rfl rfl ?_ | refine stGA rfl (ok_idx rfl rfl (by omega) (by omega)) rfl rfl ?_ | refine stGA rfl (ok_idxG rfl rfl (by omega) (by omega)) rfl rfl ?_ | refine stGA rfl (ok_idxA rfl rfl (by omega) (by omega)) rfl rfl ?_) | (refine gCall ?_; first | refine stGA rfl (ok_call rfl rfl rfl (by first | exact fine_ev (by first | exact .inl rfl | exact .inr (.inl rfl) | exact .inr (.inr ⟨_, rfl⟩) | assumption) (by assumption) rfl | exact hfX | exact works_ev rfl | exact hc0 | exact hcA | exact hcB | exact hcC | exact hcD | exact hcX | exact hki | exact hwo | exact hcW | exact Ev.nil (rg_ok _ _) rfl rfl rfl)) rfl rfl ?_) | refine stSU rfl rfl ?_ | refine stSA rfl rfl ?_ | ((fail_if_success (refine stGkA rfl ?_)); first | (refine stGdD rfl ?_ ?_ <;> intro _) | (refine stGd rfl ?_ ?_ <;> intro _))) | (refine fU ?_; first | (refine fLoad ?_; first | refine frA (ok_load rfl (by first | rfl | exact hgk _ hilK | assumption)) rfl ?_ | refine frA (ok_loadA rfl (by first | rfl | exact hgk _ hilK | assumption)) rfl ?_) | (refine fAlloc ?_; first | refine Chain.fr1A (ok_alloc rfl) rfl rfl rfl ?_)) | (refine fr_stop ⟨by kernel_rfl, ?_⟩) | refine W_seq ?_ | refine W_stop (id := 6) ?_ | refine W_stop (id := 19) ?_ | refine W_stop (id := 29) ?_ | refine W_region ?_ | refine Chain.W_regionC (id := 5) (by kernel_rfl) rfl ?_ | refine W_regionD (by kernel_rfl) rfl ?_ | refine st_nil ?_ | refine Chain.wc_nil ?_ | refine Chain.wc_step 4 [true, true, true, true] s.cells (by kernel_rfl) (by kernel_rfl) (by kernel_rfl) (by kernel_rfl) rfl rfl (ok_store rfl rfl rfl rfl rfl) ?_ | refine Chain.wc_step 5 [true, true, true, true] s.cells (by kernel_rfl) (by kernel_rfl) (by kernel_rfl) (by kernel_rfl) rfl rfl (ok_store rfl rfl rfl rfl rfl) ?_ | refine Chain.wc_step 6 [true, true, true, true] s.cells (by kernel_rfl) (by kernel_rfl) (by kernel_rfl) (by kernel_rfl) rfl rfl (ok_store rfl rfl rfl rfl rfl) ?_ | refine Chain.wc_step 7 [true, true, true, true] s.cells (by kernel_rfl) (by kernel_rfl) (by kernel_rfl) (by kernel_rfl) rfl rfl (ok_store rfl rfl rfl rfl rfl) ?_ | refine tq_n ?_ | refine tq_r ?_ | refine tq_e ?_ | refine bq_n ?_ | refine bq_r ?_ | refine bq_hit rfl ?_ | refine bq_miss rfl ?_ | refine W_skip ?_ | refine W_exit ?_ | refine W_ret ?_ | refine W_block ?_ | refine W_stopC (t := 128) ?_ | refine W_condTA rfl ?_ | refine W_condFA rfl ?_ | (refine W_condD rfl ?_ ?_ <;> intro _) | (refine W_cond rfl ?_ ?_ <;> intro _))
          all_goals exact ret0 (.tmp rfl .nil) (.plain rfl rfl) ⟨rfl, rfl⟩
        · obtain ⟨hiff, hle, k1, k2⟩ := hmany rfl h1l
          have hcW := hcW h1l
          clear hmany hone
          repeat' (first | (refine gU ?_; first | refine st (ok_eqBT Try.underlying4 rfl rfl (by exact decide_eq_decide.2 hiff)) rfl rfl ?_ | (refine gMove ?_; first | refine st (ok_move rfl) rfl rfl ?_) | (refine gAssign ?_; first | refine st (ok_assign rfl) rfl rfl ?_) | (refine gFA ?_; first | refine st (ok_fieldAddr rfl) rfl rfl ?_) | (refine gLoad ?_; first | refine st (ok_load rfl (by first | rfl | exact hgk _ hilK | assumption)) rfl rfl ?_ | refine st (ok_loadA rfl (by first | rfl | exact hgk _ hilK | assumption)) rfl rfl ?_) | (refine gAdd ?_; first | refine st (ok_inc rfl rfl (by omega)) rfl rfl ?_ | refine st (ok_add rfl rfl (by omega) (by omega)) rfl rfl ?_ | refine st (ok_bin rfl rfl rfl) rfl rfl ?_) | (refine gSub ?_; first | refine st (ok_sub rfl rfl (by omega) (by omega)) rfl rfl ?_ | refine st (ok_bin rfl rfl rfl) rfl rfl ?_) | (refine gBin ?_; first | refine st (ok_bin rfl rfl rfl) rfl rfl ?_ | refine st (ok_rem rfl rfl (by omega)) rfl rfl ?_ | refine st (ok_eq2 rfl rfl) rfl rfl ?_ | refine st (ok_neq2 rfl rfl) rfl rfl ?_) | (refine gLen ?_; first | refine st (ok_len rfl) rfl rfl ?_ | refine st (ok_lenV rfl) rfl rfl ?_) | (refine gPick ?_; first | refine st (ok_pickTA rfl rfl) rfl rfl ?_ | refine st (ok_pickFA rfl rfl) rfl rfl ?_) | (refine gNot ?_; first | refine st (ok_notD rfl) rfl rfl ?_ | refine st (ok_not' rfl) rfl rfl ?_) | (refine gExtract ?_; first | refine st (ok_extract rfl rfl) rfl rfl ?_) | (refine gIA ?_; first | refine st (ok_idxN rfl rfl (by omega)) rfl rfl ?_ | refine st (ok_idxSN rfl rfl (by omega)) rfl rfl ?_ | refine st (ok_idxAN rfl rfl (by omega)) rfl rfl ?_ | refine st (ok_idx rfl rfl (by omega) (by omega)) rfl rfl ?_ | refine st (ok_idxG rfl rfl (by omega) (by omega)) rfl rfl ?_ | refine st (ok_idxA rfl rfl (by omega) (by omega)) rfl rfl ?_) | (refine gMax ?_; first | refine st (ok_max rfl rfl) rfl rfl ?_) | (refine gMin ?_; first | refine st (ok_min rfl rfl) rfl rfl ?_) | (refine gConv ?_; first | refine st (ok_conv64 rfl (by omega) (by omega)) rfl rfl ?_ | refine st (ok_convK rfl (by omega) (by omega)) rfl rfl ?_) | (refine gCall ?_; first | refine st (ok_call rfl rfl rfl (by first | exact fine_ev (by first | exact .inl rfl | exact .inr (.inl rfl) | exact .inr (.inr ⟨_, rfl⟩) | assumption) (by assumption) rfl | exact hfX | exact works_ev rfl | exact hc0 | exact hcA | exact hcB | exact hcC | exact hcD | exact hcX | exact hki | exact hwo | exact hcW | exact Ev.nil (rg_ok _ _) rfl rfl rfl)) rfl rfl ?_) | (refine gBox ?_; first | refine st (ok_box rfl) rfl rfl ?_) | (refine gAlloc ?_; first | refine st (ok_alloc rfl) rfl rfl ?_) | (refine gBuildS ?_; first | refine st (ok_buildS (by rfl) (by rfl) (by rfl) (by rfl) rfl (by rfl)) rfl rfl ?_ | refine st (ok_buildS0) rfl rfl ?_) | (refine gApp ?_; first | refine st (ok_appendV (by rfl) (by rfl) rfl (by rfl) (by first | rfl | exact hlen1 | assumption) rfl (by first | rfl | exact hA _ | assumption) (by omega) (by first | rfl | assumption) (by omega) (by omega)) rfl rfl ?_ | refine st (ok_appendIn rfl rfl (by omega) (by omega) (by first | rfl | exact hA _ | assumption) (by first | rfl | assumption) (by first | rfl | assumption | exact hp1 (by omega) | exact hp2 (by omega))) rfl rfl ?_ | refine st (ok_app0 rfl (by first | rfl | exact slOk_slvV _ _ _) rfl (by omega)) rfl rfl ?_ | refine st (ok_appendE (by rfl) rfl rfl (by first | rfl | exact hA _ | assumption) (by omega) (by omega) (by omega)) rfl rfl ?_) | (refine gStore ?_; refine stN (ok_store rfl rfl rfl rfl (by first | rfl | assumption | exact hp1 (by omega) | exact hp2 (by omega))) rfl ?_)) | (refine gG ?_; first | refine stGA rfl (ok_eqBT Try.underlying4 rfl rfl (by exact decide_eq_decide.2 hiff)) rfl rfl ?_ | (refine gMove ?_; first | refine stGA rfl (ok_move rfl) rfl rfl ?_) | (refine gLoad ?_; first | refine stGA rfl (ok_load rfl (by first | rfl | exact hgk _ hilK | assumption)) rfl rfl ?_ | refine stGA rfl (ok_loadA rfl (by first | rfl | exact hgk _ hilK | assumption)) rfl rfl ?_) | (refine gBin ?_; first | refine stGA rfl (ok_bin rfl rfl rfl) rfl rfl ?_ | refine stGA rfl (ok_eq2 rfl rfl) rfl rfl ?_ | refine stGA rfl (ok_neq2 rfl rfl) rfl rfl ?_) | (refine gLen ?_; first | refine stGA rfl (ok_len rfl) rfl rfl ?_ | refine stGA rfl (ok_lenV rfl) rfl rfl ?_) | (refine gIA ?_; first | refine stGA rfl (ok_idxN rfl rfl (by omega)) rfl rfl ?_ | refine stGA rfl (ok_idxSN rfl rfl (by omega)) rfl rfl ?_ | refine stGA rfl (ok_idxAN rfl rfl (by omega)) rfl rfl ?_ | refine stGA rfl (ok_idx rfl rfl (by omega) (by omega)) rfl rfl ?_ | refine stGA rfl (ok_idxG rfl rfl (by omega) (by omega)) rfl rfl ?_ | refine stGA rfl (ok_idxA rfl rfl (by omega) (by omega)) rfl rfl ?_) | (refine gCall ?_; first | refine stGA rfl (ok_call rfl rfl rfl (by first | exact fine_ev (by first | exact .inl rfl | exact .inr (.inl rfl) | exact .inr (.inr ⟨_, rfl⟩) | assumption) (by assumption) rfl | exact hfX | exact works_ev rfl | exact hc0 | exact hcA | exact hcB | exact hcC | exact hcD | exact hcX | exact hki | exact hwo | exact hcW | exact Ev.nil (rg_ok _ _) rfl rfl rfl)) rfl rfl ?_) | refine stSU rfl rfl ?_ | refine stSA rfl rfl ?_ | ((fail_if_success (refine stGkA rfl ?_)); first | (refine stGdD rfl ?_ ?_ <;> intro _) | (refine stGd rfl ?_ ?_ <;> intro _))) | (refine fU ?_; first | (refine fLoad ?_; first | refine frA (ok_load rfl (by first | rfl | exact hgk _ hilK | assumption)) rfl ?_ | refine frA (ok_loadA rfl (by first | rfl | exact hgk _ hilK | assumption)) rfl ?_) | (refine fAlloc ?_; first | refine Chain.fr1A (ok_alloc rfl) rfl rfl rfl ?_)) | (refine fr_stop ⟨by kernel_rfl, ?_⟩) | refine W_seq ?_ | refine W_stop (id := 6) ?_ | refine W_stop (id := 19) ?_ | refine W_stop (id := 29) ?_ | refine W_region ?_ | refine Chain.W_regionC (id := 5) (by kernel_rfl) rfl ?_ | refine W_regionD (by kernel_rfl) rfl ?_ | refine st_nil ?_ | refine Chain.wc_nil ?_ | refine Chain.wc_step 4 [true, true, true, true] s.cells (by kernel_rfl) (by kernel_rfl) (by kernel_rfl) (by kernel_rfl) rfl rfl (ok_store rfl rfl rfl rfl rfl) ?_ | refine Chain.wc_step 5 [true, true, true, true] s.cells (by kernel_rfl) (by kernel_rfl) (by kernel_rfl) (by kernel_rfl) rfl rfl (ok_store rfl rfl rfl rfl rfl) ?_ | refine Chain.wc_step 6 [true, true, true, true] s.cells (by kernel_rfl) (by kernel_rfl) (by kernel_rfl) (by kernel_rfl) rfl rfl (ok_store rfl rfl rfl rfl rfl) ?_ | refine Chain.wc_step 7 [true, true, true, true] s.cells (by kernel_rfl) (by kernel_rfl) (by kernel_rfl) (by kernel_rfl) rfl rfl (ok_store rfl rfl rfl rfl rfl) ?_ | refine tq_n ?_ | refine tq_r ?_ | refine tq_e ?_ | refine bq_n ?_ | refine bq_r ?_ | refine bq_hit rfl ?_ | refine bq_miss rfl ?_ | refine W_skip ?_ | refine W_exit ?_ | refine W_ret ?_ | refine W_block ?_ | refine W_stopC (t := 128) ?_ | refine W_condTA rfl ?_ | refine W_condFA rfl ?_ | (refine W_condD rfl ?_ ?_ <;> intro _) | (refine W_cond rfl ?_ ?_ <;> intro _))
          all_goals exact ret0 (.tmp rfl .nil) (.plain rfl rfl) ⟨rfl, rfl⟩
      · subst hp19
        have hK0 := hk0 rfl
        have hg := hcg rfl
        clear hmany hone hkl hcn hcW
        repeat' (first | (refine gU ?_; first | refine st (ok_eqBT Try.underlying4 rfl rfl (by exact decide_eq_decide.2 hiff)) rfl rfl ?_ | (refine gMove ?_; first | refine st (ok_move rfl) rfl rfl ?_) | (refine gAssign ?_; first | refine st (ok_assign rfl) rfl rfl ?_) | (refine gFA ?_; first | refine st (ok_fieldAddr rfl) rfl rfl ?_) | (refine gLoad ?_; first | refine st (ok_load rfl (by first | rfl | exact hgk _ hilK | assumption)) rfl rfl ?_ | refine st (ok_loadA rfl (by first | rfl | exact hgk _ hilK | assumption)) rfl rfl ?_) | (refine gAdd ?_; first | refine st (ok_inc rfl rfl (by omega)) rfl rfl ?_ | refine st (ok_add rfl rfl (by omega) (by omega)) rfl rfl ?_ | refine st (ok_bin rfl rfl rfl) rfl rfl ?_) | (refine gSub ?_; first | refine st (ok_sub rfl rfl (by omega) (by omega)) rfl rfl ?_ | refine st (ok_bin rfl rfl rfl) rfl rfl ?_) | (refine gBin ?_; first | refine st (ok_bin rfl rfl rfl) rfl rfl ?_ | refine st (ok_rem rfl rfl (by omega)) rfl rfl ?_ | refine st (ok_eq2 rfl rfl) rfl rfl ?_ | refine st (ok_neq2 rfl rfl) rfl rfl ?_) | (refine gLen ?_; first | refine st (ok_len rfl) rfl rfl ?_ | refine st (ok_lenV rfl) rfl rfl ?_) | (refine gPick ?_; first | refine st (ok_pickTA rfl rfl) rfl rfl ?_ | refine st (ok_pickFA rfl rfl) rfl rfl ?_) | (refine gNot ?_; first | refine st (ok_notD rfl) rfl rfl ?_ | refine st (ok_not' rfl) rfl rfl ?_) | (refine gExtract ?_; first | refine st (ok_extract rfl rfl) rfl rfl ?_) | (refine gIA ?_; first | refine st (ok_idxN rfl rfl (by omega)) rfl rfl ?_ | refine st (ok_idxSN rfl rfl (by omega)) rfl rfl ?_ | refine st (ok_idxAN rfl rfl (by omega)) rfl rfl ?_ | refine st (ok_idx rfl rfl (by omega) (by omega)) rfl rfl ?_ | refine st (ok_idxG rfl rfl (by omega) (by omega)) rfl rfl ?_ | refine st (ok_idxA rfl rfl (by omega) (by omega)) rfl rfl ?_) | (refine gMax ?_; first | refine st (ok_max rfl rfl) rfl rfl ?_) | (refine gMin ?_; first | refine st (ok_min rfl rfl) rfl rfl ?_) | (refine gConv ?_; first | refine st (ok_conv64 rfl (by omega) (by omega)) rfl rfl ?_ | refine st (ok_convK rfl (by omega) (by omega)) rfl rfl ?_) | (refine gCall ?_; first | refine st (ok_call rfl rfl rfl (by first | exact fine_ev (by first | exact .inl rfl | exact .inr (.inl rfl) | exact .inr (.inr ⟨_, rfl⟩) | assumption) (by assumption) rfl | exact hfX | exact works_ev rfl | exact hc0 | exact hcA | exact hcB | exact hcC | exact hcD | exact hcX | exact hki | exact hwo | exact hcW | exact Ev.nil (rg_ok _ _) rfl rfl rfl)) rfl rfl ?_) | (refine gBox ?_; first | refine st (ok_box rfl) rfl rfl ?_) | (refine gAlloc ?_; first | refine st (ok_alloc rfl) rfl rfl ?_) | (refine gBuildS ?_; first | refine st (ok_buildS (by rfl) (by rfl) (by rfl) (by rfl) rfl (by rfl)) rfl rfl ?_ | refine st (ok_buildS0) rfl rfl ?_) | (refine gApp ?_; first | refine st (ok_appendV (by rfl) (by rfl) rfl (by rfl) (by first | rfl | exact hlen1 | assumption) rfl (by first | rfl | exact hA _ | assumption) (by omega) (by first | rfl | assumption) (by omega) (by omega)) rfl rfl ?_ | refine st (ok_appendIn rfl rfl (by omega) (by omega) (by first | rfl | exact hA _ | assumption) (by first | rfl | assumption) (by first | rfl | assumption | exact hp1 (by omega) | exact hp2 (by omega))) rfl rfl ?_ | refine st (ok_app0 rfl (by first | rfl | exact slOk_slvV _ _ _) rfl (by omega)) rfl rfl ?_ | refine st (ok_appendE (by rfl) rfl rfl (by first | rfl | exact hA _ | assumption) (by omega) (by omega) (by omega)) rfl rfl ?_) | (refine gStore ?_; refine stN (ok_store rfl rfl rfl rfl (by first | rfl | assumption | exact hp1 (by omega) | exact hp2 (by omega))) rfl ?_)) | (refine gG ?_; first | refine stGA rfl (ok_eqBT Try.underlying4 rfl rfl (by exact decide_eq_decide.2 hiff)) rfl rfl ?_ | (refine gMove ?_; first | refine stGA rfl (ok_move rfl) rfl rfl ?_) | (refine gLoad ?_; first | refine stGA rfl (ok_load rfl (by first | rfl | exact hgk _ hilK | assumption)) rfl rfl ?_ | refine stGA rfl (ok_loadA rfl (by first | rfl | exact hgk _ hilK | assumption)) rfl rfl ?_) | (refine gBin ?_; first | refine stGA rfl (ok_bin rfl rfl rfl) rfl rfl ?_ | refine stGA rfl (ok_eq2 rfl rfl) rfl rfl ?_ | refine stGA rfl (ok_neq2 rfl rfl) rfl rfl ?_) | (refine gLen ?_; first | refine stGA rfl (ok_len rfl) rfl rfl ?_ | refine stGA rfl (ok_lenV rfl) rfl rfl ?_) | (refine gIA ?_; first | refine stGA rfl (ok_idxN rfl rfl (by omega)) rfl rfl ?_ | refine stGA rfl (ok_idxSN rfl rfl (by omega)) rfl rfl ?_ | refine stGA rfl (ok_idxAN rfl rfl (by omega)) rfl rfl ?_ | refine stGA rfl (ok_idx rfl rfl (by omega) (by omega)) rfl rfl ?_ | refine stGA rfl (ok_idxG rfl rfl (by omega) (by omega)) rfl rfl ?_ | refine stGA rfl (ok_idxA rfl rfl (by omega) (by omega)) rfl rfl ?_) | (refine gCall ?_; first | refine stGA rfl (ok_call rfl rfl rfl (by first | exact fine_ev (by first | exact .inl rfl | exact .inr (.inl rfl) | exact .inr (.inr ⟨_, rfl⟩) | assumption) (by assumption) rfl | exact hfX | exact works_ev rfl | exact hc0 | exact hcA | exact hcB | exact hcC | exact hcD | exact hcX | exact hki | exact hwo | exact hcW | exact Ev.nil (rg_ok _ _) rfl rfl rfl)) rfl rfl ?_) | refine stSU rfl rfl ?_ | refine stSA rfl rfl ?_ | ((fail_if_success (refine stGkA rfl ?_)); first | (refine stGdD rfl ?_ ?_ <;> intro _) | (refine stGd rfl ?_ ?_ <;> intro _))) | (refine fU ?_; first | (refine fLoad ?_; first | refine frA (ok_load rfl (by first | rfl | exact hgk _ hilK | assumption)) rfl ?_ | refine frA (ok_loadA rfl (by first | rfl | exact hgk _ hilK | assumption)) rfl ?_) | (refine fAlloc ?_; first | refine Chain.fr1A (ok_alloc rfl) rfl rfl rfl ?_)) | (refine fr_stop ⟨by kernel_rfl, ?_⟩) | refine W_seq ?_ | refine W_stop (id := 6) ?_ | refine W_stop (id := 19) ?_ | refine W_stop (id := 29) ?_ | refine W_region ?_ | refine Chain.W_regionC (id := 5) (by kernel_rfl) rfl ?_ | refine W_regionD (by kernel_rfl) rfl ?_ | refine st_nil ?_ | refine Chain.wc_nil ?_ | refine Chain.wc_step 4 [true, true, true, true] s.cells (by kernel_rfl) (by kernel_rfl) (by kernel_rfl) (by kernel_rfl) rfl rfl (ok_store rfl rfl rfl rfl rfl) ?_ | refine Chain.wc_step 5 [true, true, true, true] s.cells (by kernel_rfl) (by kernel_rfl) (by kernel_rfl) (by kernel_rfl) rfl rfl (ok_store rfl rfl rfl rfl rfl) ?_ | refine Chain.wc_step 6 [true, true, true, true] s.cells (by kernel_rfl) (by kernel_rfl) (by kernel_rfl) (by kernel_rfl) rfl rfl (ok_store rfl rfl rfl rfl rfl) ?_ | refine Chain.wc_step 7 [true, true, true, true] s.cells (by kernel_rfl) (by kernel_rfl) (by kernel_rfl) (by kernel_rfl) rfl rfl (ok_store rfl rfl rfl rfl rfl) ?_ | refine tq_n ?_ | refine tq_r ?_ | refine tq_e ?_ | refine bq_n ?_ | refine bq_r ?_ | refine bq_hit rfl ?_ | refine bq_miss rfl ?_ | refine W_skip ?_ | refine W_exit ?_ | refine W_ret ?_ | refine W_block ?_ | refine W_stopC (t := 128) ?_ | refine W_condTA rfl ?_ | refine W_condFA rfl ?_ | (refine W_condD rfl ?_ ?_ <;> intro _) | (refine W_cond rfl ?_ ?_ <;> intro _))
        all_goals exact ret0 (.tmp rfl .nil) (.plain rfl rfl) ⟨rfl, rfl⟩
theorem rimMore_law (s : St) (l : List Int) (c : Nat) (more w0 w1 b0 b1 b2 n : Int) (hr : -9223372036854775808 ≤ s.short ∧ s.short ≤ 9223372036854775807) (hN : l.length ≤ 9223372036854775807) (hc : l.length ≤ c) (hw0 : 0 ≤ w0 ∧ w0 ≤ 4294967295) (hw1 : 0 ≤ w1 ∧ w1 ≤ 4294967295)
    (hb0 : 0 ≤ b0 ∧ b0 ≤ 65535) (hb1 : 0 ≤ b1 ∧ b1 ≤ 65535) (hb2 : 0 ≤ b2 ∧ b2 ≤ 65535) (hn : 0 ≤ n ∧ n ≤ 255) :
    Ev Try.prog 11 [s.val, .slice (some ⟨0, 0, none⟩) l.length c, .int .i64 more, .agg #[.int .u32 w0, .int .u32 w1], .agg #[.int .u16 b0, .int .u16 b1, .int .u16 b2], .int .u8 n] [.ro (ints l)] (.bool true) [.ro (ints l)] := by
  by_cases h : checkS s l = 0
  · exact more_ok s l c more w0 w1 b0 b1 b2 n hr hc hw0 hw1 hb0 hb1 hb2 hn h
  · exact more_bad s l c more w0 w1 b0 b1 b2 n hN h
end Go.Proofs.Ytgfnogdecggkkaa
namespace Go.AH
open Go Go.RowKit Go.WideShapes Go.ChangeShapes
section
variable {H : Type} {enc : TypeId × Value → H} {P : Program} {W : World}
theorem wf64 {n : Int} (h : (Lit.int .i64 n).wf = true) : -9223372036854775808 ≤ n ∧ n ≤ 9223372036854775807 := by
  simp only [Lit.wf, Bool.and_eq_true, decide_eq_true_eq] at h
  exact h
def cellsI (l : List Int) : List Value := l.map (.int .i64)
structure SlArg (W : World) (v : Value) (n size : Nat) (cs : List Value) (pl : Pl) : Prop where
  len : n ≤ 9223372036854775807
  rel : ∀ (m : Nat) (ρ : Rho) (i : Nat), i < m → ρ i = pl → VRel m ρ (.slice (some ⟨i, 0, none⟩) n n) v
  sz : cs.length = n * size
  cells : cs ≠ [] → pl.b < W.heap.size ∧ ∀ (k : Nat) (h : k < cs.length), W.cell? ⟨pl.b, pl.o + k, none⟩ = some cs[k]
theorem cell_lt {w : World} {a : Addr} {v : Value} (h : w.cell? a = some v) : a.block < w.heap.size ∧ a.spot = none := by
  unfold World.cell? at h
  split at h
  · rename_i hb
    refine ⟨(Array.getElem?_eq_some_iff.1 hb).1, ?_⟩
    split at h
    · cases h
    · rename_i hs; simpa using hs
  · cases h
theorem read_ints {b0 : Nat} {t e : TypeId} {v : Value} {d : DataW H} {p : List MemPlace} (ht : P.underlying t = some (.slice e)) (he : P.underlying e = some (.int .i64)) (hc : P.cellsOf e = 1) (hval : Value.okWide P W .any b0 t v)
    (h : DataW.Trod enc P W 0 (fun _ => true) true t v d p) : ∃ (l : List Int) (pl : Pl), SlArg W v l.length 1 (cellsI l) pl ∧ ∀ n ∈ l, -9223372036854775808 ≤ n ∧ n ≤ 9223372036854775807 := by
  obtain ⟨a0, len, cap, rfl⟩ := okWide_slice ht hval
  obtain ⟨fuel, hf⟩ := h
  rcases open_ints ht he hc hf with ⟨hcs, -⟩ | ⟨a, len', cap', zs, hcs, -, hl, hm, hz, -, hcell, hwf⟩
  · have hcs' : Value.slice a0 len cap = Value.slice none 0 0 := by simpa [Value.cells] using hcs
    cases hcs'
    exact ⟨[], ⟨0, 0, 0⟩, ⟨by simp, fun m ρ i hi hρ => .emptySlice _ _ _ _, rfl, fun h => absurd rfl h⟩, fun n hn => by simp at hn⟩
  · have hcs' : Value.slice a0 len cap = Value.slice (some a) len' cap' := by simpa [Value.cells] using hcs
    cases hcs'
    simp only [if_true] at hz
    have hlz : (zs.take len).length = len := by rw [List.length_take]; omega
    have hm' : len ≤ 9223372036854775807 := by unfold maxLen at hm; omega
    by_cases h0 : len = 0
    · subst h0
      exact ⟨[], ⟨0, 0, 0⟩, ⟨by simp, fun m ρ i hi hρ => .emptySlice _ _ _ _, rfl, fun h => absurd rfl h⟩, fun n hn => by simp at hn⟩
    · have h1 := hcell 0 (by omega)
      have ha : a.add 0 = a := by simp [Addr.add]
      rw [ha] at h1
      obtain ⟨hb, hs⟩ := cell_lt h1
      obtain ⟨b, o, sp⟩ := a
      simp only at hb hs
      subst hs
      refine ⟨zs.take len, ⟨b, o, 0⟩, ⟨by omega, fun m ρ i hi hρ => ?_, by simp [cellsI], fun _ => ⟨hb, fun k hk => ?_⟩⟩, fun n hn => wf64 (hwf n (List.mem_of_mem_take hn))⟩
      · rw [hlz]
        have := VQ.slice (q := false) (n := m) (ρ := ρ) i 0 len len cap hl hi
        rw [hρ] at this
        simpa using this
      · have hk' : k < len := by
          simp only [cellsI, List.length_map] at hk
          omega
        have h2 := hcell k (by omega)
        have hk2 : zs.getD k 0 = (zs.take len)[k]'(by omega) := by
          rw [List.getElem_take, List.getD_eq_getElem?_getD, List.getElem?_eq_getElem (by omega)]; rfl
        have ha2 : (⟨b, o, none⟩ : Addr).add k = ⟨b, o + k, none⟩ := by
          unfold Addr.add
          split
          · rename_i h; subst h; rfl
          · rfl
        rw [ha2, hk2] at h2
        simpa [cellsI] using h2
theorem SlArg.hro {v : Value} {n size : Nat} {cs : List Value} {pl : Pl} (h : SlArg W v n size cs pl) (hp : plainL cs = true) (ρ : Rho) (i m : Nat) (hρ : ρ i = pl) (hne : cs ≠ []) :
    (ρ i).b < W.heap.size ∧ ∀ (k : Nat) (hk : k < cs.length), ∃ v', W.cell? ⟨(ρ i).b, (ρ i).o + k, none⟩ = some v' ∧ VRel m ρ cs[k] v' := by
  rw [hρ]
  obtain ⟨h1, h2⟩ := h.cells hne
  exact ⟨h1, fun k hk => ⟨_, h2 k hk, vrel_plainL cs hp k hk⟩⟩
theorem read_int {b0 : Nat} {t : TypeId} {v : Value} {d : DataW H} {p : List MemPlace} (ht : P.underlying t = some (.int .i64)) (hval : Value.okWide P W .any b0 t v)
    (h : DataW.Trod enc P W 0 (fun _ => true) true t v d p) : ∃ n : Int, v = .int .i64 n ∧ -9223372036854775808 ≤ n ∧ n ≤ 9223372036854775807 := by
  obtain ⟨n, rfl, _, _, wn⟩ := open_int ht hval h
  exact ⟨n, rfl, wf64 wn⟩
end
end Go.AH
namespace Go.Proofs.Ytgfnogdecggkkaa
open Go Go.AH Go.RowKit Go.WideShapes Go.ChangeShapes
set_option maxRecDepth 100000 in
theorem read_stone {b0 : Nat} {H : Type} {enc : TypeId × Value → H} {W : World} {v : Value} {d : DataW H} {p : List MemPlace} (hval : Value.okWide Try.prog W .any b0 25 v) (h : DataW.Trod enc Try.prog W 0 (fun _ => true) true 25 v d p) :
    ∃ s : St, v = s.val ∧ (-9223372036854775808 ≤ s.long ∧ s.long ≤ 9223372036854775807) ∧ (-9223372036854775808 ≤ s.short ∧ s.short ≤ 9223372036854775807) ∧ (-9223372036854775808 ≤ s.off ∧ s.off ≤ 9223372036854775807) ∧ (-9223372036854775808 ≤ s.lo ∧ s.lo ≤ 9223372036854775807) ∧ (-9223372036854775808 ≤ s.hi ∧ s.hi ≤ 9223372036854775807) := by
  obtain ⟨cs, rfl, hsz⟩ := okWide_struct Try.underlying25 hval
  have k25 : Try.prog.cellsOf 25 = 5 := by kernel_rfl
  have hsz5 : cs.size = 5 := hsz.trans k25
  obtain ⟨l⟩ := cs
  match l, hsz5 with
  | [c0, c1, c2, c3, c4], _ =>
    obtain ⟨fuel, hf⟩ := h
    obtain ⟨xs, n, _, _, _, hlen, hg⟩ := DataW.trod_struct Try.underlying25 hf
    match xs, hlen with
    | [y0, y1, y2, y3], _ =>
      have k2 : Try.prog.cellsOf 2 = 1 := by kernel_rfl
      have k23 : Try.prog.cellsOf 23 = 2 := by kernel_rfl
      have g0 := hg 0 _ rfl
      have g1 := hg 1 _ rfl
      have g2 := hg 2 _ rfl
      have g3 := hg 3 _ rfl
      simp only [Value.cells, List.getElem?_cons_zero, List.getElem?_cons_succ] at g0 g1 g2 g3
      obtain ⟨n0, e0, _, w0⟩ := DataW.trod_int Try.underlying2 g0
      obtain ⟨n1, e1, _, w1⟩ := DataW.trod_int Try.underlying2 g1
      obtain ⟨n2, e2, _, w2⟩ := DataW.trod_int Try.underlying2 g2
      obtain ⟨zs, m, _, _, _, hlen2, hg2⟩ := DataW.trod_struct Try.underlying23 g3
      match zs, hlen2 with
      | [z0, z1], _ =>
        have q0 := hg2 0 _ rfl
        have q1 := hg2 1 _ rfl
        simp only [List.getElem?_cons_zero, List.getElem?_cons_succ] at q0 q1
        obtain ⟨n3, e3, _, w3⟩ := DataW.trod_int Try.underlying2 q0
        obtain ⟨n4, e4, _, w4⟩ := DataW.trod_int Try.underlying2 q1
        cases e0; cases e1; cases e2; cases e3; cases e4
        exact ⟨⟨n0, n1, n2, n3, n4⟩, rfl, wf64 w0, wf64 w1, wf64 w2, wf64 w3, wf64 w4⟩
end Go.Proofs.Ytgfnogdecggkkaa
namespace Go.AH
open Go Go.RowKit Go.WideShapes Go.ChangeShapes
section
variable {H : Type} {enc : TypeId × Value → H} {P : Program} {w : World} {base : Nat} {spare : Nat → Bool} {held : Bool}
theorem trodAll_mkn4 {t t' t'' t3 : TypeId} {v v' v'' v3 : Value} {d d' d'' d3 : DataW H} {p p' p'' p3 : List MemPlace} (h : DataW.Trod enc P w base spare held t v d p) (h' : DataW.Trod enc P w base spare held t' v' d' p')
    (h'' : DataW.Trod enc P w base spare held t'' v'' d'' p'') (h3 : DataW.Trod enc P w base spare held t3 v3 d3 p3) : DataW.TrodAll enc P w base spare held [t, t', t'', t3] [v, v', v'', v3] [d, d', d'', d3] (p ++ (p' ++ (p'' ++ p3))) := ⟨p, p' ++ (p'' ++ p3), h, trodAll_mk3 h' h'' h3, rfl⟩
end
section
variable {H : Type} {enc : TypeId × Value → H} {P : Program} {W : World}
theorem read_u8 {b0 : Nat} {t : TypeId} {v : Value} {d : DataW H} {p : List MemPlace} (ht : P.underlying t = some (.int .u8)) (hval : Value.okWide P W .any b0 t v)
    (h : DataW.Trod enc P W 0 (fun _ => true) true t v d p) : ∃ n : Int, v = .int .u8 n ∧ 0 ≤ n ∧ n ≤ 255 := by
  obtain ⟨n, rfl, _, _, wn⟩ := open_int ht hval h
  simp only [Lit.wf, Bool.and_eq_true, decide_eq_true_eq] at wn
  exact ⟨n, rfl, wn⟩
end
end Go.AH
namespace Go.AH
open Go Go.RowKit Go.WideShapes Go.ChangeShapes
section
variable {H : Type} {enc : TypeId × Value → H} {P : Program} {w : World} {base : Nat} {spare : Nat → Bool} {held : Bool}
theorem trodAll_mkn5 {t t' t'' t3 t4 : TypeId} {v v' v'' v3 v4 : Value} {d d' d'' d3 d4 : DataW H} {p p' p'' p3 p4 : List MemPlace} (h : DataW.Trod enc P w base spare held t v d p) (h' : DataW.Trod enc P w base spare held t' v' d' p')
    (h'' : DataW.Trod enc P w base spare held t'' v'' d'' p'') (h3 : DataW.Trod enc P w base spare held t3 v3 d3 p3) (h4 : DataW.Trod enc P w base spare held t4 v4 d4 p4) : DataW.TrodAll enc P w base spare held [t, t', t'', t3, t4] [v, v', v'', v3, v4] [d, d', d'', d3, d4] (p ++ (p' ++ (p'' ++ (p3 ++ p4)))) := ⟨p, p' ++ (p'' ++ (p3 ++ p4)), h, trodAll_mkn4 h' h'' h3 h4, rfl⟩
end
end Go.AH
namespace Go.AH
open Go Go.RowKit Go.WideShapes Go.ChangeShapes
section
variable {H : Type} {enc : TypeId × Value → H} {P : Program} {w : World} {base : Nat} {spare : Nat → Bool} {held : Bool}
theorem trodAll_n6 {t0 t1 t2 t3 t4 t5 : TypeId} {args : Array Value} {ds : List (DataW H)} {ps : List MemPlace} (h : DataW.TrodAll enc P w base spare held [t0, t1, t2, t3, t4, t5] args.toList ds ps) :
    ∃ v0 v1 v2 v3 v4 v5 d0 d1 d2 d3 d4 d5 p0 p1 p2 p3 p4 p5, args = #[v0, v1, v2, v3, v4, v5] ∧ ds = [d0, d1, d2, d3, d4, d5] ∧ ps = p0 ++ p1 ++ p2 ++ p3 ++ p4 ++ p5 ∧ DataW.Trod enc P w base spare held t0 v0 d0 p0 ∧ DataW.Trod enc P w base spare held t1 v1 d1 p1 ∧ DataW.Trod enc P w base spare held t2 v2 d2 p2 ∧
      DataW.Trod enc P w base spare held t3 v3 d3 p3 ∧ DataW.Trod enc P w base spare held t4 v4 d4 p4 ∧ DataW.Trod enc P w base spare held t5 v5 d5 p5 := by
  obtain ⟨v, vs, d, ds', p, q, hargs, rfl, rfl, hd, hrest⟩ := trodAll_cons h
  obtain ⟨v', vs', d', ds'', p', q', rfl, rfl, rfl, hd', hrest'⟩ := trodAll_cons hrest
  obtain ⟨v'', vs'', d'', ds''', p'', q'', rfl, rfl, rfl, hd'', hrest''⟩ := trodAll_cons hrest'
  obtain ⟨v3, vs3, d3, ds3, p3, q3, rfl, rfl, rfl, hd3, hrest3⟩ := trodAll_cons hrest''
  obtain ⟨v4, vs4, d4, ds4, p4, q4, rfl, rfl, rfl, hd4, hrest4⟩ := trodAll_cons hrest3
  obtain ⟨v5, vs5, d5, ds5, p5, q5, rfl, rfl, rfl, hd5, hrest5⟩ := trodAll_cons hrest4
  obtain ⟨rfl, rfl, rfl⟩ := trodAll_nil hrest5
  exact ⟨v, v', v'', v3, v4, v5, d, d', d'', d3, d4, d5, p, p', p'', p3, p4, p5, by cases args; simp_all, rfl, by simp, hd, hd', hd'', hd3, hd4, hd5⟩
theorem trodAll_mkn6 {t t' t'' t3 t4 t5 : TypeId} {v v' v'' v3 v4 v5 : Value} {d d' d'' d3 d4 d5 : DataW H} {p p' p'' p3 p4 p5 : List MemPlace} (h : DataW.Trod enc P w base spare held t v d p) (h' : DataW.Trod enc P w base spare held t' v' d' p')
    (h'' : DataW.Trod enc P w base spare held t'' v'' d'' p'') (h3 : DataW.Trod enc P w base spare held t3 v3 d3 p3) (h4 : DataW.Trod enc P w base spare held t4 v4 d4 p4) (h5 : DataW.Trod enc P w base spare held t5 v5 d5 p5) :
    DataW.TrodAll enc P w base spare held [t, t', t'', t3, t4, t5] [v, v', v'', v3, v4, v5] [d, d', d'', d3, d4, d5] (p ++ (p' ++ (p'' ++ (p3 ++ (p4 ++ p5))))) := ⟨p, p' ++ (p'' ++ (p3 ++ (p4 ++ p5))), h, trodAll_mkn5 h' h'' h3 h4 h5, rfl⟩
end
section
variable {H : Type} {enc : TypeId × Value → H} {P : Program} {W : World}
theorem okWide_arr {n : Nat} {t e : TypeId} {b0 : Nat} {v : Value} (ht : P.underlying t = some (.array n e)) (h : Value.okWide P W .any b0 t v) : ∃ cs, v = .agg cs ∧ cs.size = P.cellsOf t := by
  simp only [Value.okWide, ht] at h
  obtain ⟨cs, h1, h2, _⟩ := h
  exact ⟨cs, h1, h2⟩
theorem read_arr2 {b0 : Nat} {t e : TypeId} {v : Value} {d : DataW H} {p : List MemPlace} {k : IntKind} (ht : P.underlying t = some (.array 2 e)) (he : P.underlying e = some (.int k)) (hct : P.cellsOf t = 2) (hce : P.cellsOf e = 1) (hval : Value.okWide P W .any b0 t v)
    (h : DataW.Trod enc P W 0 (fun _ => true) true t v d p) : ∃ x y : Int, v = .agg #[.int k x, .int k y] ∧ Lit.wf (.int k x) = true ∧ Lit.wf (.int k y) = true := by
  obtain ⟨cs, rfl, hsz⟩ := okWide_arr ht hval
  obtain ⟨l⟩ := cs
  have hsz2 : l.length = 2 := by rw [← hct, ← hsz]; rfl
  match l, hsz2 with
  | [c0, c1], _ =>
    obtain ⟨fuel, hf⟩ := h
    obtain ⟨xs, n, _, _, _, hlen, hg⟩ := DataW.trod_array ht hf
    match xs, hlen with
    | [y0, y1], _ =>
      have g0 := hg 0 (by omega)
      have g1 := hg 1 (by omega)
      simp only [hce, Value.cells, List.getElem?_cons_zero, List.getElem?_cons_succ] at g0 g1
      obtain ⟨n0, e0, _, w0⟩ := DataW.trod_int he g0
      obtain ⟨n1, e1, _, w1⟩ := DataW.trod_int he g1
      cases e0; cases e1
      exact ⟨n0, n1, rfl, w0, w1⟩
theorem read_arr3 {b0 : Nat} {t e : TypeId} {v : Value} {d : DataW H} {p : List MemPlace} {k : IntKind} (ht : P.underlying t = some (.array 3 e)) (he : P.underlying e = some (.int k)) (hct : P.cellsOf t = 3) (hce : P.cellsOf e = 1) (hval : Value.okWide P W .any b0 t v)
    (h : DataW.Trod enc P W 0 (fun _ => true) true t v d p) : ∃ x y z : Int, v = .agg #[.int k x, .int k y, .int k z] ∧ Lit.wf (.int k x) = true ∧ Lit.wf (.int k y) = true ∧ Lit.wf (.int k z) = true := by
  obtain ⟨cs, rfl, hsz⟩ := okWide_arr ht hval
  obtain ⟨l⟩ := cs
  have hsz2 : l.length = 3 := by rw [← hct, ← hsz]; rfl
  match l, hsz2 with
  | [c0, c1, c2], _ =>
    obtain ⟨fuel, hf⟩ := h
    obtain ⟨xs, n, _, _, _, hlen, hg⟩ := DataW.trod_array ht hf
    match xs, hlen with
    | [y0, y1, y2], _ =>
      have g0 := hg 0 (by omega)
      have g1 := hg 1 (by omega)
      have g2 := hg 2 (by omega)
      simp only [hce, Value.cells, List.getElem?_cons_zero, List.getElem?_cons_succ] at g0 g1 g2
      obtain ⟨n0, e0, _, w0⟩ := DataW.trod_int he g0
      obtain ⟨n1, e1, _, w1⟩ := DataW.trod_int he g1
      obtain ⟨n2, e2, _, w2⟩ := DataW.trod_int he g2
      cases e0; cases e1; cases e2
      exact ⟨n0, n1, n2, rfl, w0, w1, w2⟩
end
end Go.AH
