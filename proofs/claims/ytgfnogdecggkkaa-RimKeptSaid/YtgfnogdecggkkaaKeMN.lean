/- What Allowed and Gap of rim, and Between, best, Allowed and Gap of its reference do. Conditions: stand in each theorem. -/
import Derived.Test.YtgfnogdecggkkaaKeMJ
namespace Go.AH
open Go
theorem closed_slvV {n i sz k : Nat} (h : Nat.blt i n = true) : closed n (slvV i sz k) = true := by
  cases k <;> simp [slvV, closed, h]
section
variable {P : Program} {n0 N : Nat} {rd : Option Nat} {Q : Post} {e : Env} {mk : List Nat} {σ : Heap} {K : Env → List Nat → Heap → Prop} {all rest : List Oper}
theorem stGA {d : Nat} {op : Op} {ty : TypeId} {pos : String} {after : Array Edge} {v : Value} {σ' : Heap} {j : Nat} {b want : Bool} (hg : guardV all e j = some (.bool b))
    (h : OpOk P rd op ty e σ v σ') (hrd : rdok rd n0 = true) (hd : Nat.blt d N = true)
    (k : WOps P n0 N rd all rest K ((d, v) :: e) mk σ') (hb : b = want := by first | rfl | exact dtrue (by assumption) | exact dfalse (by assumption) | assumption | exact dtrue (by omega) | exact dfalse (by omega)) : WOps P n0 N rd all (⟨some d, op, ty, pos, after, some (j, want)⟩ :: rest) K e mk σ := stG hg hb h hrd hd k
theorem stSA {d : Nat} {op : Op} {ty : TypeId} {pos : String} {after : Array Edge} {j : Nat} {b want : Bool} (hg : guardV all e j = some (.bool b)) (hd : Nat.blt d N = true)
    (k : WOps P n0 N rd all rest K ((d, undef) :: e) mk σ) (hb : b = !want := by first | rfl | exact dtrue (by assumption) | exact dfalse (by assumption) | assumption | exact dtrue (by omega) | exact dfalse (by omega)) : WOps P n0 N rd all (⟨some d, op, ty, pos, after, some (j, want)⟩ :: rest) K e mk σ := stS hg hb hd k
theorem stGkA {d : Option Nat} {op : Op} {ty : TypeId} {pos : String} {after : Array Edge} {j : Nat} {b want : Bool} (hg : guardV all e j = some (.bool b)) (k : WOps P n0 N rd all (⟨d, op, ty, pos, after, some (j, want)⟩ :: rest) K e mk σ) (hb : b = want := by first | rfl | exact dtrue (by assumption) | exact dfalse (by assumption) | assumption | exact dtrue (by omega) | exact dfalse (by omega)) :
    WOps P n0 N rd all (⟨d, op, ty, pos, after, some (j, want)⟩ :: rest) K e mk σ := stGk hg hb k
theorem W_condTA {c : Operand} {x y : Code} {b : Bool} (hc : evalO e c = some (.bool b)) (h : WCode P n0 N rd x Q e mk σ) (hb : b = true := by first | rfl | exact dtrue (by assumption) | exact dfalse (by assumption) | assumption | exact dtrue (by omega) | exact dfalse (by omega)) : WCode P n0 N rd (.cond c x y) Q e mk σ := W_condT hc hb h
theorem W_condFA {c : Operand} {x y : Code} {b : Bool} (hc : evalO e c = some (.bool b)) (h : WCode P n0 N rd y Q e mk σ) (hb : b = false := by first | rfl | exact dtrue (by assumption) | exact dfalse (by assumption) | assumption | exact dtrue (by omega) | exact dfalse (by omega)) : WCode P n0 N rd (.cond c x y) Q e mk σ := W_condF hc hb h
end
section
variable {P : Program} {rd : Option Nat} {ty : TypeId} {e : Env} {σ : Heap} {a b c : Operand} {v : Value}
theorem ok_pickTA {t : Bool} (hc : evalO e c = some (.bool t)) (ha : evalO e a = some v) (ht : t = true := by first | rfl | exact dtrue (by assumption) | exact dfalse (by assumption) | assumption | exact dtrue (by omega) | exact dfalse (by omega)) : OpOk P rd (.pick c a b) ty e σ v σ := ok_pickT hc ht ha
theorem ok_pickFA {t : Bool} (hc : evalO e c = some (.bool t)) (hb : evalO e b = some v) (ht : t = false := by first | rfl | exact dtrue (by assumption) | exact dfalse (by assumption) | assumption | exact dtrue (by omega) | exact dfalse (by omega)) : OpOk P rd (.pick c a b) ty e σ v σ := ok_pickF hc ht hb
end
section
variable {P : Program} {N : Nat} {rd : Option Nat} {e : Env} {σ0 : Heap} {news : List (Nat × Heap)} {K : Env → List (Nat × Heap) → List Oper → Prop} {k : Nat} {all rest : List Oper} {d : Nat} {op : Op} {ty : TypeId} {pos : String} {after : Array Edge} {v : Value} {j : Nat} {b want : Bool}
theorem frA (h : OpOk P rd op ty e (σ0 ++ visN (waitsA after) news) v (σ0 ++ visN (waitsA after) news)) (hd : Nat.blt d N = true) (hk : WFree P N rd all (k + 1) rest ((d, v) :: e) σ0 news K) (hc : closed σ0.length v = true := by first | rfl | exact closed_slice rfl | exact closed_slvV rfl) :
    WFree P N rd all k (⟨some d, op, ty, pos, after, none⟩ :: rest) e σ0 news K := fr h hc hd hk
theorem frGA (hg : guardV all e j = some (.bool b)) (h : OpOk P rd op ty e (σ0 ++ visN (waitsA after) news) v (σ0 ++ visN (waitsA after) news)) (hd : Nat.blt d N = true) (hk : WFree P N rd all (k + 1) rest ((d, v) :: e) σ0 news K)
    (hb : b = want := by first | rfl | exact dtrue (by assumption) | exact dfalse (by assumption) | assumption | exact dtrue (by omega) | exact dfalse (by omega)) (hc : closed σ0.length v = true := by first | rfl | exact closed_slice rfl | exact closed_slvV rfl) : WFree P N rd all k (⟨some d, op, ty, pos, after, some (j, want)⟩ :: rest) e σ0 news K := frG hg hb h hc hd hk
theorem frSA (hg : guardV all e j = some (.bool b)) (hd : Nat.blt d N = true) (hk : WFree P N rd all (k + 1) rest ((d, undef) :: e) σ0 news K) (hb : b = !want := by first | rfl | exact dtrue (by assumption) | exact dfalse (by assumption) | assumption | exact dtrue (by omega) | exact dfalse (by omega)) :
    WFree P N rd all k (⟨some d, op, ty, pos, after, some (j, want)⟩ :: rest) e σ0 news K := frS hg hb hd hk
theorem frGkA {d : Option Nat} (hg : guardV all e j = some (.bool b)) (h : WFree P N rd all k (⟨d, op, ty, pos, after, some (j, want)⟩ :: rest) e σ0 news K) (hb : b = want := by first | rfl | exact dtrue (by assumption) | exact dfalse (by assumption) | assumption | exact dtrue (by omega) | exact dfalse (by omega)) :
    WFree P N rd all k (⟨d, op, ty, pos, after, some (j, want)⟩ :: rest) e σ0 news K := frGk hg hb h
end
end Go.AH
namespace Go.AH.Late
open Go Go.AH
def partOk (ops : List Oper) (m f : Nat) (o : Oper) (j mk : Nat) : Bool :=
  notDefer o && o.after.all (fun e => !Region.binds .any e || Nat.blt e.on j) &&
    (match o.guard with | some (g, _) => waits o g | none => true) &&
    (List.range j).all fun i => mk.testBit i || (Nat.blt i m && (match ops[i]? with | some oi => oi.apart ops.toArray o | none => false)) && (Nat.blt j m || (Nat.beq i f && Nat.beq j m))
def chkD (all : List Oper) (m f : Nat) : List Oper → Nat → List Nat → Bool
  | [], _, _ => true
  | o :: rest, j, acc => forceN (maskOf acc o.after.toList) fun mk => partOk all m f o j mk && chkD all m f rest (j + 1) (acc ++ [mk])
def drawOk (ops : List Oper) (m f : Nat) : Bool := chkD ops m f ops 0 []
theorem chkD_get {all : List Oper} {m f : Nat} : ∀ (rest : List Oper) (j : Nat) (acc : List Nat), rest = all.drop j → acc.length = j → j ≤ all.length → (∀ (k : Nat) (mk : Nat), acc[k]? = some mk → Good all k mk) → chkD all m f rest j acc = true →
    ∀ (t : Nat) (o : Oper), rest[t]? = some o → ∃ mk, partOk all m f o (j + t) mk = true ∧ Good all (j + t) mk
  | [], _, _, _, _, _, _, _, t, o, h => by simp at h
  | x :: rest, j, acc, hr, hl, hj, hacc, hc, t, o, h => by
    have hx : all[j]? = some x := by
      have := congrArg (fun l : List Oper => l[0]?) hr
      simpa using this.symm
    have hr' : rest = all.drop (j + 1) := by
      have := congrArg List.tail hr
      simpa using this
    have hjl := (List.getElem?_eq_some_iff.1 hx).1
    simp only [chkD, forceN_eq, Bool.and_eq_true] at hc
    have hg := good_mask hx hacc (by omega)
    cases t with
    | zero => simp at h; subst h; exact ⟨_, hc.1, hg⟩
    | succ t =>
      have := chkD_get rest (j + 1) (acc ++ [maskOf acc x.after.toList]) hr' (by simp [hl]) (by omega) (fun k mk hk => by
        by_cases hkl : k < acc.length
        · rw [List.getElem?_append_left hkl] at hk; exact hacc k mk hk
        · rw [List.getElem?_append_right (by omega)] at hk
          have hk0 : k - acc.length = 0 := by
            have := (List.getElem?_eq_some_iff.1 hk).1
            simp at this; omega
          rw [hk0] at hk; simp at hk; subst hk
          rw [show k = j by omega]; exact hg) hc.2 t o (by simpa using h)
      rwa [show j + 1 + t = j + (t + 1) by omega] at this
section
variable {all : List Oper} {m f : Nat}
theorem draw_parts (h : drawOk all m f = true) {j : Nat} {o : Oper} (hj : all[j]? = some o) :
    notDefer o = true ∧ (∀ e ∈ o.after, Region.binds .any e = true → e.on < j) ∧ (∀ g b, o.guard = some (g, b) → waits o g = true) ∧
    ∀ i oi, i < j → all[i]? = some oi → (∀ D : Nat → Prop, Closed all D → (∀ k, waits o k = true → D k) → D i) ∨ (i < m ∧ (j < m ∨ (i = f ∧ j = m)) ∧ oi.apart all.toArray o = true) := by
  obtain ⟨mk, this, hgood⟩ := chkD_get all 0 [] rfl rfl (by omega) (fun k mk hk => by simp at hk) h j o hj
  rw [Nat.zero_add] at this hgood
  unfold partOk at this
  simp only [Bool.and_eq_true] at this
  obtain ⟨⟨⟨h1, h2⟩, h3⟩, h4⟩ := this
  refine ⟨h1, fun e he hb => ?_, fun g b hg => ?_, fun i oi hi hoi => ?_⟩
  · have := Array.all_eq_true_iff_forall_mem.1 h2 e he
    simp only [hb, Bool.not_true, Bool.false_or, Nat.blt_eq] at this; exact this
  · rw [hg] at h3; exact h3
  · have := List.all_eq_true.1 h4 i (by simpa using hi)
    simp only [hoi, Bool.or_eq_true, Bool.and_eq_true, Nat.blt_eq, Nat.beq_eq] at this
    rcases this with h | ⟨⟨h5, h6⟩, h7⟩
    · exact .inl fun D hD hw => hgood D hD o hj hw i h
    · exact .inr ⟨h5, h7, h6⟩
theorem waits_lt (h : drawOk all m f = true) {j i : Nat} {o : Oper} (hj : all[j]? = some o) (hw : waitsA o.after i = true) : i < j := by
  unfold waitsA at hw
  obtain ⟨e, he, hb⟩ := Array.any_eq_true'.1 hw
  simp only [Bool.and_eq_true] at hb
  rw [← Nat.eq_of_beq_eq_true hb.2]
  exact (draw_parts h hj).2.1 e he hb.1
end
section
variable {P : Program} {N : Nat} {rd : Option Nat} {e0 : Env} {mk : List Nat} {σ0 : Heap} {all : List Oper} {ts : List Tr} {n0 : Nat}
theorem dinv_sees {G : Nat → Prop} {w0 : World} {ρ0 ρ : Rho} {f : Nat} {L : Nat → Bool} {A : Act} {w : World} (hd : DInv n0 N G w0 ρ0 e0 mk σ0 ts L A w ρ) (hall : ∀ (i : Nat) (hi : i < ts.length), all[i]? = some ts[i].o)
    (hchk : drawOk all ts.length f = true) {i : Nat} (hi : i < ts.length) (hLi : L i = false) (hw : ∀ j, waits ts[i].o j = true → L j = true) (hdc : Closed all fun k => L k = true)
    {t : Nat} (ht : t ∈ ts[i].o.looksAt all.toArray) {v : Value} (hv : Env.get (envAt (ts.take i) e0) t = some v) : ∃ v', A.tmps[t]? = some v' ∧ VRel (σ0.length + (nsOf (ts.take i)).length) ρ v v' := by
  have early : ∀ (j : Nat) (hj : j < i), (ts[j]'(by omega)).o.dst = some t → L j = true := by
    intro j hj hdst
    rcases (draw_parts hchk (hall i hi)).2.2.2 j _ hj (hall j (by omega)) with h | ⟨_, _, h⟩
    · exact h _ hdc hw
    · exact absurd ht ((Oper.apart_spec h).1 t hdst)
  have late : ∀ (j : Nat) (hj : j < ts.length), i < j → ts[j].o.dst = some t → L j = true → False := by
    intro j hj hij hdst hLj
    rcases (draw_parts hchk (hall j hj)).2.2.2 i _ hij (hall i hi) with h | ⟨_, _, h⟩
    · have := h _ hdc (hdc j _ (hall j hj) hLj)
      rw [hLi] at this; cases this
    · exact absurd ht ((Oper.apart_spec h).2.2 t hdst)
  rcases envAt_get _ _ _ _ hv with ⟨j, hj, h1, h2, h3⟩ | ⟨h1, h2⟩
  · have hji : j < i := by simp at hj; omega
    rw [List.getElem_take] at h1 h2
    obtain ⟨v', g1, g2⟩ := hd.new j (by omega) (early j hji h1) t h1 fun k hk hjk hLk hdk => by
      rcases Nat.lt_trichotomy k i with hlt | rfl | hgt
      · have := h3 k (by simp; omega) hjk
        rw [List.getElem_take] at this; exact this hdk
      · rw [hLi] at hLk; cases hLk
      · exact late k hk hgt hdk hLk
    refine ⟨v', g1, ?_⟩
    rw [← h2]
    have := nsOf_lt hji (Nat.le_of_lt hi)
    exact g2.mono (by omega) fun _ _ => rfl
  · obtain ⟨v', g1, g2⟩ := hd.old t v h1 fun k hk hLk hdk => by
      rcases Nat.lt_trichotomy k i with hlt | rfl | hgt
      · have := h2 k (by simp; omega)
        rw [List.getElem_take] at this; exact this hdk
      · rw [hLi] at hLk; cases hLk
      · exact late k hk hgt hdk hLk
    exact ⟨v', g1, g2.mono (by omega) fun _ _ => rfl⟩
theorem dinv_step {G : Nat → Prop} {w0 : World} {ρ0 ρ ρ' : Rho} {f : Nat} {L : Nat → Bool} {A : Act} {w w' : World} (hd : DInv n0 N G w0 ρ0 e0 mk σ0 ts L A w ρ) (hall : ∀ (i : Nat) (hi : i < ts.length), all[i]? = some ts[i].o)
    (hchk : drawOk all ts.length f = true) (hn0 : n0 ≤ σ0.length) (hmk : ∀ i ∈ mk, i < σ0.length)
    (hns : ∀ (j : Nat) (hj : j < ts.length), newOk σ0.length ts[j].ns) (hnok : ∀ (j : Nat) (hj : j < ts.length) (i : Nat) (hi : i < j), (∃ D : Nat → Prop, Closed all D ∧ D j ∧ ¬ D i) → ∀ (m : Nat) (ρ ρ' : Rho) (v' : Value), VRel m ρ ts[j].v v' →
      (∀ q, q < σ0.length + (nsOf (ts.take i)).length ∨ σ0.length + (nsOf (ts.take i)).length + ts[i].ns.length ≤ q → ρ' q = ρ q) → VRel m ρ' ts[j].v v')
    {i : Nat} (hi : i < ts.length) (hLi : L i = false) (hdc : Closed all fun k => L k = true) (hdst : dstOk N ts[i].o = true)
    {v' : Value} (hag : ∀ k < σ0.length + (nsOf (ts.take i)).length, ρ' k = ρ k) (hv : VRel (σ0.length + ((nsOf (ts.take i)).length + ts[i].ns.length)) ρ' ts[i].v v')
    (hs' : Sim (oth G ρ σ0 ts L (waitsA ts[i].o.after)) w ρ' (σ0 ++ maskN (ts.take i) 0 (waitsA ts[i].o.after) ++ ts[i].ns) w') :
    DInv n0 N G w0 ρ0 e0 mk σ0 ts (setL L i) (A.put ts[i].o.dst v') w' (mixR ρ ρ' (σ0.length + (nsOf (ts.take i)).length) ts[i].ns.length) := by
  have mixlow : ∀ k < σ0.length + (nsOf (ts.take i)).length, mixR ρ ρ' (σ0.length + (nsOf (ts.take i)).length) ts[i].ns.length k = ρ k := fun k hk => by simp only [mixR]; rw [if_neg (by omega)]
  have mixown : ∀ k < σ0.length + ((nsOf (ts.take i)).length + ts[i].ns.length), mixR ρ ρ' (σ0.length + (nsOf (ts.take i)).length) ts[i].ns.length k = ρ' k := fun k hk => by
    simp only [mixR]; split
    · rfl
    · rw [hag k (by omega)]
  have mixhi : ∀ k, σ0.length + (nsOf (ts.take i)).length + ts[i].ns.length ≤ k → mixR ρ ρ' (σ0.length + (nsOf (ts.take i)).length) ts[i].ns.length k = ρ k := fun k hk => by simp only [mixR]; rw [if_neg (by omega)]
  have keep : ∀ t u, A.tmps[t]? = some u → ts[i].o.dst ≠ some t → (A.put ts[i].o.dst v').tmps[t]? = some u := by
    intro t u hu hne
    cases hdd : ts[i].o.dst with
    | none => simpa [Act.put] using hu
    | some d =>
      simp only [Act.put]
      rw [Array.getElem?_setIfInBounds_ne (fun hdt => hne (by rw [hdd, hdt]))]; exact hu
  refine ⟨fun k hk => (mixlow k (by omega)).trans (hd.ag k hk), sim_join hi hLi (fun j hj => waits_lt hchk (hall i hi) hj) hd.sim hns hag hs', ?_, ?_, fun t v ht hno => ?_, fun k hk hLk t hdk hno => ?_⟩
  · cases hdd : ts[i].o.dst <;> simp [Act.put, hd.sz]
  · have : (A.put ts[i].o.dst v').defers = A.defers := by cases ts[i].o.dst <;> rfl
    rw [this, hd.mks]
    exact List.map_congr_left fun k hk => by rw [mixlow k (by have := hmk k hk; omega)]
  · obtain ⟨u, g1, g2⟩ := hd.old t v ht fun k hk hLk => hno k hk (by simp only [setL]; split <;> simp [hLk])
    exact ⟨u, keep t u g1 (hno i hi (by simp [setL])), g2.mono (Nat.le_refl _) fun k hk => mixlow k (by omega)⟩
  · by_cases hki : k = i
    · subst hki
      refine ⟨v', ?_, hv.mono (by omega) mixown⟩
      simp only [hdk, dstOk, Nat.blt_eq] at hdst
      simp only [hdk, Act.put]
      rw [Array.getElem?_setIfInBounds_self_of_lt (by rw [hd.sz]; exact hdst)]
    · have hLk' : L k = true := by simpa [setL, hki] using hLk
      have hne : ts[i].o.dst ≠ some t := by
        intro hdi
        rcases Nat.lt_or_gt_of_ne hki with hlt | hgt
        · exact hno i hi hlt (by simp [setL]) hdi
        · rcases (draw_parts hchk (hall k hk)).2.2.2 i _ hgt (hall i hi) with h | ⟨_, _, h⟩
          · have := h _ hdc (hdc k _ (hall k hk) hLk')
            rw [hLi] at this; cases this
          · exact (Oper.apart_spec h).2.1 t hdi hdk
      obtain ⟨u, g1, g2⟩ := hd.new k hk hLk' t hdk fun j hj hkj hLj => hno j hj hkj (by simp only [setL]; split <;> simp [hLj])
      refine ⟨u, keep t u g1 hne, ?_⟩
      rcases Nat.lt_or_gt_of_ne hki with hlt | hgt
      · have := nsOf_lt hlt (Nat.le_of_lt hi)
        exact g2.mono (Nat.le_refl _) fun j hj => mixlow j (by omega)
      · have := nsOf_lt hgt (Nat.le_of_lt hk)
        exact hnok k hk i hgt ⟨fun q => L q = true, hdc, hLk', by simp [hLi]⟩ _ _ _ _ g2 fun j hj => by
          rcases hj with hj | hj
          · exact mixlow j hj
          · exact mixhi j hj
theorem free_any {G : Nat → Prop} {w0 : World} {ρ0 : Rho} {f : Nat} {Q' : Exit → Act → World → Prop} (hrd : rdok rd n0 = true) (hall : ∀ (i : Nat) (hi : i < ts.length), all[i]? = some ts[i].o)
    (hchk : drawOk all ts.length f = true) (hn0 : n0 ≤ σ0.length) (hmk : ∀ i ∈ mk, i < σ0.length) (hcl : ∀ (i : Nat) (o : AObj), σ0[i]? = some o → oclosed σ0.length o) (htr : TrOk P N rd all 0 ts e0 σ0 [])
    (hfin : ∀ A w ρ fuel listed, listed.size = all.length → (∀ i < all.length, listed.getD i false = decide (i < ts.length)) → DInv n0 N G w0 ρ0 e0 mk σ0 ts (fun i => listed.getD i false) A w ρ →
      fuel = all.length - ts.length → wpAnyIn (fen ρ0 rd) 0 P .any all.toArray Q' fuel listed A w)
    (hlate : ∀ A w ρ fuel listed, listed.size = all.length → (∀ i, listed.getD i false = decide (i < ts.length ∧ i ≠ f)) → DInv n0 N G w0 ρ0 e0 mk σ0 ts (fun i => listed.getD i false) A w ρ → Closed all (fun k => listed.getD k false = true) →
      f < ts.length → ts.length < all.length → ts.length ∈ Region.ready .any all.toArray listed → fuel = all.length - ts.length → wpOpIn (fen ρ0 rd) 0 P all.toArray Q' ts.length (wpAnyIn (fen ρ0 rd) 0 P .any all.toArray Q' fuel (listed.setIfInBounds ts.length true)) A w)
    (hlen : ts.length ≤ all.length) : ∀ (fuel : Nat) (listed : Array Bool) (A : Act) (w : World) (ρ : Rho), listed.size = all.length → (∀ i, ts.length ≤ i → listed.getD i false = false) → cnt all.length listed = fuel →
    Closed all (fun k => listed.getD k false = true) →
    DInv n0 N G w0 ρ0 e0 mk σ0 ts (fun i => listed.getD i false) A w ρ → wpAnyIn (fen ρ0 rd) 0 P .any all.toArray Q' fuel listed A w := by
  intro fuel
  induction fuel with
  | zero =>
    intro listed A w ρ hsz hhi hcnt hdc hd
    have hno : ∀ i < all.length, listed.getD i false = true := by
      intro i hi
      unfold cnt at hcnt
      have := (List.countP_eq_zero.1 hcnt) i (by simpa using hi)
      simp only [Bool.not_eq_true', Bool.not_eq_false] at this
      rw [getD_lt (by omega) false true]; exact this
    have hm : ts.length = all.length := by
      rcases Nat.lt_or_ge ts.length all.length with h | h
      · have h1 := hno ts.length h
        rw [hhi ts.length (Nat.le_refl _)] at h1; cases h1
      · omega
    exact hfin A w ρ 0 listed hsz (fun i hi => by rw [hno i hi]; simp; omega) hd (by omega)
  | succ fuel ih =>
    intro listed A w ρ hsz hhi hcnt hdc hd
    by_cases hdone : ∀ i < ts.length, listed.getD i false = true
    · have hpat : ∀ i < all.length, listed.getD i false = decide (i < ts.length) := fun i hi => by
        by_cases him : i < ts.length
        · rw [hdone i him]; simp [him]
        · rw [hhi i (by omega)]; simp [him]
      refine hfin A w ρ (fuel + 1) listed hsz hpat hd ?_
      rw [← hcnt]
      exact cnt_tail hlen fun i hi => by rw [getD_lt (by omega) true false]; exact hpat i hi
    · refine ⟨fun hr => ?_, fun i hr => ?_⟩
      ·
        exfalso
        have hex : ∃ i, i < ts.length ∧ listed.getD i false = false := by
          simp only [Classical.not_forall] at hdone
          obtain ⟨i, hi, hn⟩ := hdone
          exact ⟨i, hi, by simpa using hn⟩
        have least : ∃ i, (i < ts.length ∧ listed.getD i false = false) ∧ ∀ k < i, listed.getD k false = true := by
          obtain ⟨i, hi⟩ := hex
          induction i using Nat.strongRecOn with
          | _ i ih2 =>
            by_cases hlow : ∃ k, k < i ∧ listed.getD k false = false
            · obtain ⟨k, hk, hkf⟩ := hlow; exact ih2 k hk ⟨by omega, hkf⟩
            · refine ⟨i, hi, fun k hk => ?_⟩
              cases hc : listed.getD k false with
              | true => rfl
              | false => exact absurd ⟨k, hk, hc⟩ hlow
        obtain ⟨i, ⟨hi, hif⟩, hlow⟩ := least
        have : i ∈ Region.ready .any all.toArray listed := mem_ready.2 ⟨by rw [getD_lt (by omega) true false]; exact hif, ts[i].o, by rw [List.getElem?_toArray]; exact hall i hi,
          fun e he hb => hlow _ ((draw_parts hchk (hall i hi)).2.1 e he hb)⟩
        rw [hr] at this; cases this
      · obtain ⟨hif, o, ho, _⟩ := mem_ready.1 hr
        rw [List.getElem?_toArray] at ho
        have hia : i < all.length := (List.getElem?_eq_some_iff.1 ho).1
        have hif' : listed.getD i false = false := by rw [getD_lt (by omega) false true]; exact hif
        rcases Nat.lt_or_ge i ts.length with him | him
        rotate_left
        · have hk1 : ∀ k < ts.length, listed.getD k false = true ∨ (k = f ∧ i = ts.length) := by
            intro k hk
            rcases (draw_parts hchk ho).2.2.2 k _ (by omega) (hall k hk) with h' | ⟨_, h', _⟩
            · exact .inl (h' (fun k => listed.getD k false = true) hdc fun k hk => waits_ready hr ho hk)
            · rcases h' with h' | h'
              · omega
              · exact .inr h'
          have hex : f < ts.length ∧ i = ts.length ∧ listed.getD f false = false := by
            apply Classical.byContradiction; intro hno
            apply hdone
            intro k hk
            rcases hk1 k hk with h | ⟨rfl, h⟩
            · exact h
            · cases hc : listed.getD k false with
              | true => rfl
              | false => exact absurd ⟨hk, h, hc⟩ hno
          obtain ⟨hf1, hf3, hf2⟩ := hex
          subst hf3
          refine hlate A w ρ fuel listed hsz (fun k => ?_) hd hdc hf1 hia hr ?_
          · by_cases hk : k < ts.length
            · rcases hk1 k hk with h | ⟨rfl, _⟩
              · rw [h]; symm; simp only [decide_eq_true_eq]; refine ⟨hk, fun hkf => ?_⟩; rw [hkf, hf2] at h; cases h
              · rw [hf2]; simp
            · rw [hhi k (by omega)]; simp; omega
          · have hc1 := cnt_set (n := all.length) (listed := listed) (i := f) (by omega) hsz (by rw [getD_lt (by omega) true false]; exact hf2)
            have hc2 := cnt_tail (listed := listed.setIfInBounds f true) hlen fun k hk => by
              rw [getD_lt (by simpa using by omega) true false, getD_set (by omega)]
              split
              · rename_i hkf; subst hkf; simp [hf1]
              · rename_i hkf
                by_cases hk2 : k < ts.length
                · rcases hk1 k hk2 with h | ⟨h, _⟩
                  · rw [h]; simp [hk2]
                  · exact absurd h hkf
                · rw [hhi k (by omega)]; simp [hk2]
            omega
        have hoi : o = ts[i].o := by have := hall i him; rw [ho] at this; exact Option.some.inj this
        subst hoi
        have hw : ∀ j, waits ts[i].o j = true → listed.getD j false = true := fun j hj => waits_ready hr ho hj
        have hget := fun (j : Nat) (hj : j < ts.length) => trok_get ts e0 htr j hj
        obtain ⟨h1, h2, h3, h4, h5, h6⟩ := hget i him
        have hns : ∀ (j : Nat) (hj : j < ts.length), newOk σ0.length ts[j].ns := fun j hj => (hget j hj).2.2.2.2.1
        have hnok : ∀ (j : Nat) (hj : j < ts.length) (i : Nat) (hi : i < j), (∃ D : Nat → Prop, Closed all D ∧ D j ∧ ¬ D i) → ∀ (m : Nat) (ρ ρ' : Rho) (v' : Value), VRel m ρ ts[j].v v' →
            (∀ q, q < σ0.length + (nsOf (ts.take i)).length ∨ σ0.length + (nsOf (ts.take i)).length + ts[i].ns.length ≤ q → ρ' q = ρ q) → VRel m ρ' ts[j].v v' := fun j hj i hij hD m ρ ρ' v' hv hq => by
          by_cases hne : ts[i].ns = []
          · exact hv.mono (Nat.le_refl _) fun q _ => hq q (by rw [hne]; simp; omega)
          · have hne' : ((ts.take j)[i]'(by simp; omega)).ns ≠ [] := by simpa using hne
            obtain ⟨n1, n2, e1, e2⟩ := newsAt_split (ts.take j) 0 [] i (by simp; omega) hne'
            rw [Nat.zero_add] at e1
            have e3 : flatN n1 = nsOf (ts.take i) := by
              rw [e2, List.take_take, Nat.min_eq_left (by omega)]; simp [flatN]
            refine (hget j hj).2.2.2.2.2 n1 i _ n2 e1 hD m ρ ρ' v' hv fun q hq' => hq q ?_
            rw [e3] at hq'
            simpa using hq'
        have hsees := fun {t : Nat} (ht : t ∈ ts[i].o.looksAt all.toArray) {v : Value} (hv : Env.get (envAt (ts.take i) e0) t = some v) =>
          dinv_sees hd hall hchk him hif' hw hdc ht hv
        have hwant : Region.wanted ts[i].o (yielded all.toArray A.tmps) = ts[i].run := by
          refine wanted_sees h2 fun g want hg t ht v hv => ?_
          obtain ⟨v', g1, g2⟩ := hsees (t := t) (by
            unfold Oper.looksAt
            rw [hg]
            refine List.mem_append_right _ ?_
            simp only [List.getElem?_toArray]
            rw [ht]; simp) hv
          exact ⟨_, _, v', g1, g2⟩
        have hpart := sim_part (i := i) (W := waitsA ts[i].o.after) hd.sim hcl hns hw
        have after : ∀ (ρ' : Rho) (v' : Value) (w' : World), (∀ k < σ0.length + (nsOf (ts.take i)).length, ρ' k = ρ k) → VRel (σ0.length + ((nsOf (ts.take i)).length + ts[i].ns.length)) ρ' ts[i].v v' →
            Sim (oth G ρ σ0 ts (fun i => listed.getD i false) (waitsA ts[i].o.after)) w ρ' (σ0 ++ maskN (ts.take i) 0 (waitsA ts[i].o.after) ++ ts[i].ns) w' →
            wpAnyIn (fen ρ0 rd) 0 P .any all.toArray Q' fuel (listed.setIfInBounds i true) (A.put ts[i].o.dst v') w' := by
          intro ρ' v' w' ha hv hs'
          have hd' := dinv_step hd hall hchk hn0 hmk hns hnok him hif' hdc h1 ha hv hs'
          refine ih _ _ _ _ (by simpa using hsz) (fun k hk => ?_) ?_ (fun j o' hj hLj k hk => ?_) (dinv_congr (fun k hk => ?_) hd')
          · rw [getD_set (by omega), if_neg (by omega)]; exact hhi k hk
          · have := cnt_set hia hsz hif; omega
          · show (listed.setIfInBounds i true).getD k false = true
            have hLj : (listed.setIfInBounds i true).getD j false = true := hLj
            rw [getD_set (by omega)] at hLj ⊢
            split
            · rfl
            · split at hLj
              · rename_i hji; subst hji
                rw [ho] at hj; cases hj
                exact hw k hk
              · exact hdc j o' hj hLj k hk
          · simp only [setL]; rw [getD_set (by omega)]
        unfold wpOpIn
        simp only [List.getElem?_toArray, ho]
        cases hrun : ts[i].run with
        | true =>
          rw [if_pos (by rw [hwant, hrun])]
          have hok := h3 hrun
          rw [← fen_congr (rd := rd) (ρ' := ρ) (ρ := ρ0) fun l hl => hd.ag l (rdok_lt hrd l hl)]
          refine hok ts[i].o rfl rfl (oth G ρ σ0 ts (fun i => listed.getD i false) (waitsA ts[i].o.after)) w ρ A w (fun l hl => by have := rdok_lt hrd l hl; simp; omega) hpart (fun x hx u hu => ?_) _ _ ?_
          · cases x with
            | tmp t =>
              obtain ⟨v', g1, g2⟩ := hsees (t := t) (List.mem_append_left _ (List.mem_filterMap.2 ⟨.tmp t, by simpa using hx, rfl⟩)) hu
              rw [List.length_append, maskN_length]
              simpa [Act.eval, g1] using g2
            | const c =>
              simp only [evalO] at hu
              cases hp : plain c <;> simp [hp] at hu
              subst hu; exact vrel_plain c hp
            | func f => simp only [evalO, Option.some.injEq] at hu; subst hu; exact .func f #[] #[] #[] #[] rfl rfl (fun i h => by simp at h) (fun i h => by simp at h)
            | global g => simp [evalO] at hu
          · intro ρ' v' w' hv hle ha hs'
            rw [fen_congr (rd := rd) (ρ' := ρ) (ρ := ρ0) fun l hl => hd.ag l (rdok_lt hrd l hl)]
            refine after ρ' v' w' (fun k hk => ha k (by rw [List.length_append, maskN_length]; exact hk)) ?_ hs'
            rw [List.length_append, List.length_append, maskN_length, Nat.add_assoc] at hv; exact hv
        | false =>
          rw [if_neg (by rw [hwant, hrun]; simp)]
          obtain ⟨g1, g2⟩ := h4 hrun
          refine ⟨fun f _ => fen_fn _ _ _, ?_⟩
          have := after ρ undef w (fun _ _ => rfl) (by rw [g1]; exact vrel_plain _ rfl) (by rw [g2]; simpa using hpart)
          exact this
theorem tail_any {F : Fence} (hF : ∀ f, F.fn f) {m f : Nat} {Q' : Exit → Act → World → Prop} (hchk : drawOk all m f = true) : ∀ (rest : List Oper) (k fuel : Nat) (listed : Array Bool) (A : Act) (w : World),
    m ≤ k → rest = all.drop k → fuel = all.length - k → listed.size = all.length → (∀ i < all.length, listed.getD i false = decide (i < k)) →
    wpL F 0 P all.toArray Q' rest A w → wpAnyIn F 0 P .any all.toArray Q' fuel listed A w
  | [], k, fuel, listed, A, w, hmk, hr, hf, hsz, hp, h => by
    have hk : all.length ≤ k := by
      have := congrArg List.length hr
      simp at this; omega
    refine wpAnyIn_done (List.eq_nil_iff_forall_not_mem.2 fun j hj => ?_) h fuel
    obtain ⟨h1, o, ho, _⟩ := mem_ready.1 hj
    rw [List.getElem?_toArray] at ho
    have hj' := (List.getElem?_eq_some_iff.1 ho).1
    have := hp j hj'
    rw [getD_lt (d' := true) (by omega), h1] at this
    simp at this; omega
  | o :: rest, k, fuel, listed, A, w, hmk, hr, hf, hsz, hp, h => by
    have hk : k < all.length := by
      rcases Nat.lt_or_ge k all.length with h | h
      · exact h
      · rw [List.drop_eq_nil_of_le h] at hr; cases hr
    have ho : all[k]? = some o := by
      have := congrArg (fun l : List Oper => l[0]?) hr
      simpa using this.symm
    have hr' : rest = all.drop (k + 1) := by
      have := congrArg List.tail hr
      simpa using this
    obtain ⟨fuel, rfl⟩ : ∃ f, fuel = f + 1 := ⟨fuel - 1, by omega⟩
    refine ⟨fun hn => ?_, fun j hj => ?_⟩
    · exfalso
      have : k ∈ Region.ready .any all.toArray listed := mem_ready.2 ⟨by rw [getD_lt (d' := false) (by omega), hp k hk]; simp, o, by rw [List.getElem?_toArray]; exact ho,
        fun e he hb => by have := (draw_parts hchk ho).2.1 e he hb; rw [hp _ (by omega)]; simpa using this⟩
      rw [hn] at this; cases this
    · obtain ⟨h1, oj, hoj, _⟩ := mem_ready.1 hj
      rw [List.getElem?_toArray] at hoj
      have hj' := (List.getElem?_eq_some_iff.1 hoj).1
      have hkj : ¬ j < k := by
        intro hlt
        have := hp j hj'
        rw [getD_lt (d' := true) (by omega), h1] at this
        simp at this; omega
      have hjk : j = k := by
        rcases Nat.lt_or_ge k j with hlt | hge
        · exfalso
          rcases (draw_parts hchk hoj).2.2.2 k _ hlt ho with h' | ⟨h', _, _⟩
          · have := h' (fun q => listed.getD q false = true) (fun q o' hq hLq i hi => by
              have h1 := waits_lt hchk hq hi
              have hq' := (List.getElem?_eq_some_iff.1 hq).1
              have h2 := hp q hq'
              rw [hLq] at h2
              have h3 : q < k := of_decide_eq_true h2.symm
              show listed.getD i false = true
              rw [hp i (by omega)]; simp; omega) fun q hq => waits_ready hj hoj hq
            simp only [hp k hk] at this; simp at this
          · omega
        · omega
      subst hjk
      have hnext : ∀ A w, wpL F 0 P all.toArray Q' rest A w → wpAnyIn F 0 P .any all.toArray Q' fuel (listed.setIfInBounds j true) A w := fun A w h =>
        tail_any hF hchk rest (j + 1) fuel _ A w (by omega) hr' (by omega) (by simpa using hsz) (fun i hi => by
          rw [getD_set (by omega)]
          split
          · rename_i hij; subst hij; simp
          · rename_i hij; rw [hp i hi]; simp only [decide_eq_decide]; omega) h
      unfold wpOpIn
      simp only [List.getElem?_toArray, ho]
      simp only [wpL] at h
      split
      · rename_i hw; rw [if_pos hw] at h
        exact Oper.wpIn_mono hnext h
      · rename_i hw; rw [if_neg hw] at h
        exact ⟨fun f _ => hF f, hnext _ _ h⟩
theorem late_any {F : Fence} (hF : ∀ f, F.fn f) {m f : Nat} {Q' : Exit → Act → World → Prop} (hchk : drawOk all m f = true) {o1 o2 : Oper} {t : List Oper} (h1 : all[m]? = some o1) (h2 : all[f]? = some o2) (ht : t = all.drop (m + 1)) (hf : f < m)
    {listed : Array Bool} (hsz : listed.size = all.length) (hp : ∀ i, listed.getD i false = decide (i < m ∧ i ≠ f)) (hdc : Closed all (fun k => listed.getD k false = true)) (hr : m ∈ Region.ready .any all.toArray listed) {fuel : Nat} (hfuel : fuel = all.length - m) {A : Act} {w : World}
    (h : wpL F 0 P all.toArray Q' (o1 :: o2 :: t) A w) : wpOpIn F 0 P all.toArray Q' m (wpAnyIn F 0 P .any all.toArray Q' fuel (listed.setIfInBounds m true)) A w := by
  have hm : m < all.length := (List.getElem?_eq_some_iff.1 h1).1
  obtain ⟨fuel, rfl⟩ : ∃ f, fuel = f + 1 := ⟨fuel - 1, by omega⟩
  have hget : ∀ i, (listed.setIfInBounds m true).getD i false = if i = m then true else decide (i < m ∧ i ≠ f) := fun i => by
    rw [getD_set (by omega), hp]
  have hnext : ∀ A w, wpL F 0 P all.toArray Q' (o2 :: t) A w → wpAnyIn F 0 P .any all.toArray Q' (fuel + 1) (listed.setIfInBounds m true) A w := by
    intro A w h
    refine ⟨fun hn => ?_, fun j hj => ?_⟩
    · exfalso
      have : f ∈ Region.ready .any all.toArray (listed.setIfInBounds m true) := mem_ready.2 ⟨by rw [getD_lt (d' := false) (by simp; omega), hget, if_neg (by omega)]; simp, o2, by rw [List.getElem?_toArray]; exact h2,
        fun e he hb => by have := (draw_parts hchk h2).2.1 e he hb; rw [hget]; split <;> simp <;> omega⟩
      rw [hn] at this; cases this
    · obtain ⟨g1, oj, hoj, _⟩ := mem_ready.1 hj
      rw [List.getElem?_toArray] at hoj
      have hj' := (List.getElem?_eq_some_iff.1 hoj).1
      have g2 : (listed.setIfInBounds m true).getD j false = false := by rw [getD_lt (by simp; omega) false true]; exact g1
      have hjf : j = f := by
        rw [hget] at g2
        split at g2
        · cases g2
        · rename_i hjm
          have g3 : ¬ (j < m ∧ j ≠ f) := of_decide_eq_false g2
          rcases Nat.lt_or_ge m j with hlt | hge
          · exfalso
            rcases (draw_parts hchk hoj).2.2.2 f _ (by omega) h2 with h' | ⟨_, h', _⟩
            · have := h' (fun q => (listed.setIfInBounds m true).getD q false = true) (fun q o' hq hLq i hi => by
                show (listed.setIfInBounds m true).getD i false = true
                have hLq : (listed.setIfInBounds m true).getD q false = true := hLq
                rw [getD_set (by omega)] at hLq ⊢
                split
                · rfl
                · split at hLq
                  · rename_i hqm; subst hqm
                    rw [h1] at hq; cases hq
                    exact waits_ready hr h1 hi
                  · exact hdc q o' hq hLq i hi) fun q hq => waits_ready hj hoj hq
              rw [hget, if_neg (by omega)] at this
              simp at this
            · omega
          · omega
      subst hjf
      have hnext2 : ∀ A w, wpL F 0 P all.toArray Q' t A w → wpAnyIn F 0 P .any all.toArray Q' fuel ((listed.setIfInBounds m true).setIfInBounds j true) A w := fun A w h =>
        tail_any hF hchk t (m + 1) fuel _ A w (by omega) ht (by omega) (by simpa using hsz) (fun i hi => by
          rw [getD_set (by simp; omega), hget]
          split
          · simp; omega
          · split
            · simp; omega
            · simp only [decide_eq_decide]; omega) h
      unfold wpOpIn
      simp only [List.getElem?_toArray, h2]
      simp only [wpL] at h
      split
      · rename_i hw; rw [if_pos hw] at h
        exact Oper.wpIn_mono hnext2 h
      · rename_i hw; rw [if_neg hw] at h
        exact ⟨fun f _ => hF f, hnext2 _ _ h⟩
  unfold wpOpIn
  simp only [List.getElem?_toArray, h1]
  simp only [wpL] at h
  split
  · rename_i hw; rw [if_pos hw] at h
    exact Oper.wpIn_mono hnext h
  · rename_i hw; rw [if_neg hw] at h
    exact ⟨fun f _ => hF f, hnext _ _ h⟩
theorem maskN_all {L : Nat → Bool} : ∀ (ts : List Tr) (k : Nat), (∀ (j : Nat) (hj : j < ts.length), L (k + j) = true ∨ ts[j].ns = []) → maskN ts k L = nsOf ts
  | [], _, _ => rfl
  | t :: ts, k, h => by
    have h1 := maskN_all (L := L) ts (k + 1) fun j hj => by have := h (j + 1) (by simpa using hj); simpa [Nat.add_assoc, Nat.add_comm 1 j] using this
    have h0 := h 0 (by simp)
    simp only [Nat.add_zero, List.getElem_cons_zero] at h0
    simp only [maskN, h1]
    rcases h0 with h0 | h0
    · simp [h0, nsOf]
    · simp [h0, nsOf, hide]
def dropE (d : Nat) : Env → Env
  | [] => []
  | (k, v) :: e => bif Nat.beq k d then dropE d e else (k, v) :: dropE d e
theorem dropE_get {d t : Nat} {v : Value} : ∀ {e : Env}, Env.get (dropE d e) t = some v → t ≠ d ∧ Env.get e t = some v
  | [], h => by simp [dropE, Env.get] at h
  | (k, u) :: e, h => by
    simp only [dropE] at h
    cases hk : Nat.beq k d with
    | true =>
      rw [hk] at h
      obtain ⟨h1, h2⟩ := dropE_get (e := e) h
      refine ⟨h1, ?_⟩
      have hkd := Nat.eq_of_beq_eq_true hk
      simp only [Env.get]
      rw [beq_ne (by omega)]
      exact h2
    | false =>
      rw [hk] at h
      simp only [cond_false, Env.get] at h ⊢
      cases hkt : Nat.beq k t with
      | true =>
        rw [hkt] at h
        have := Nat.eq_of_beq_eq_true hkt
        have := Nat.ne_of_beq_eq_false hk
        exact ⟨by omega, h⟩
      | false =>
        rw [hkt] at h
        exact dropE_get (e := e) h
end
theorem W_regionE {P : Program} {n0 N : Nat} {rd : Option Nat} {Q : Post} {e : Env} {mk : List Nat} {σ : Heap} {id : Nat} {l : List Oper} (f d : Nat) (hm : P.follows .mixedOrders = true) (hrd : rdok rd n0 = true)
    (h : WFree P N rd l 0 l e σ [] (fun e' news tl => drawOk l (l.length - tl.length) f = true ∧ (WOps P n0 N rd l tl (Q .normal) e' mk (σ ++ visN (fun _ => true) news) ∧
      ∃ o1 o2 t, tl = o1 :: t ∧ l[f]? = some o2 ∧ o2.dst = some d ∧ (news.all fun p => !Nat.beq p.1 f) = true ∧ WOps P n0 N rd l (o1 :: o2 :: t) (Q .normal) (dropE d e') mk (σ ++ visN (fun _ => true) news)))) : WCode P n0 N rd (.region id l.toArray true) Q e mk σ := by
  intro G w0 ρ0 A w hi
  obtain ⟨h0, ρ, ha, hs, he⟩ := hi
  refine wpIn_region_any hm ?_
  obtain ⟨ts, tl, hts, htr, hchk, hK, o1, o2, t, htl, ho2, hd2, hnw, hK2⟩ := wfree_trace l 0 e σ [] _ h
  obtain ⟨fr, hfr⟩ : ∃ fr, ts.map (·.o) = fr := ⟨_, rfl⟩
  rw [hfr] at hts
  have hl : l = fr ++ tl := hts.symm
  have hts := hfr
  have hfl : fr.length = l.length - tl.length := by rw [hl]; simp
  rw [visN_newsAt, maskN_true] at hK hK2
  simp only [visN, List.map_nil, List.flatten_nil, List.nil_append] at hK hK2
  have hlen : fr.length = ts.length := by rw [← hts]; simp
  rw [← hfl] at hchk
  have hall : ∀ (i : Nat) (hi : i < ts.length), l[i]? = some ts[i].o := by
    intro i hi
    rw [hl, List.getElem?_append_left (by omega), ← hts]; simp [hi]
  have hcl : ∀ (i : Nat) (o : AObj), σ[i]? = some o → oclosed σ.length o := fun i o hi => orel_closed (hs.obj i o hi)
  have hrep : ∀ i, (Array.replicate l.toArray.size false).getD i false = false := fun i => by
    simp only [Array.getD_eq_getD_getElem?, Array.getElem?_replicate]; split <;> rfl
  rw [hlen] at hchk
  refine free_any (e0 := e) (mk := mk) (σ0 := σ) (ρ0 := ρ0) (G := G) (w0 := w0) (N := N) (n0 := n0) (ts := ts) hrd hall hchk h0 he.mkb hcl htr ?_ (f := f) ?_ (by rw [hl]; simp; omega) _ _ _ _ ρ (by simp) (fun i _ => hrep i) ?_ ?_ ?_
  · intro A' w' ρ' fuel listed hsz hp hd hf
    refine tail_any (fen_fn ρ0 rd) hchk tl ts.length fuel listed A' w' (Nat.le_refl _) (by rw [hl, ← hlen]; simp) hf hsz hp ?_
    have hd' := dinv_congr (L' := fun _ => true) (fun k hk => by have := hp k (by rw [hl]; simp; omega); rw [this]; simpa using hk) hd
    have hsim := hd'.sim
    rw [maskN_true] at hsim
    refine hK G w0 ρ0 A' w' ⟨by simp; omega, ρ', fun i hi => hd'.ag i hi |>.trans rfl, hsim, ⟨hd'.sz, fun t v hv => ?_⟩, hd'.mks, fun i hi => by have := he.mkb i hi; simp; omega⟩ _ fun e' mk' σ' A' w' hk hi' => ⟨e', mk', σ', hk, hi'⟩
    rcases envAt_get ts e t v hv with ⟨j, hj, h1, h2, h3⟩ | ⟨h1, h2⟩
    · obtain ⟨v', g1, g2⟩ := hd'.new j hj rfl t h1 fun k hk hjk _ => h3 k hk hjk
      refine ⟨v', g1, ?_⟩
      rw [← h2]
      have := nsOf_le hj
      exact g2.mono (by simp; omega) fun _ _ => rfl
    · obtain ⟨v', g1, g2⟩ := hd'.old t v h1 fun k hk _ => h2 k hk
      exact ⟨v', g1, g2.mono (by simp) fun _ _ => rfl⟩
  · intro A' w' ρ' fuel listed hsz hp hd hdc hf1 hmlt hrdy hfuel
    have hnf : ts[f].ns = [] := by
      apply Classical.byContradiction; intro hne
      obtain ⟨n1, n2, e1, _⟩ := newsAt_split ts 0 [] f hf1 hne
      rw [e1] at hnw
      simp at hnw
    have hm1 : l[ts.length]? = some o1 := by rw [hl, htl, List.getElem?_append_right (by omega), hlen]; simp
    refine late_any (fen_fn ρ0 rd) hchk hm1 ho2 (t := t) (by
      have : l.drop fr.length = o1 :: t := by rw [hl, htl]; simp
      have h2 : l.drop (ts.length + 1) = (l.drop fr.length).drop 1 := by rw [List.drop_drop]; congr 1; omega
      rw [h2, this]; rfl) hf1 hsz hp hdc hrdy hfuel ?_
    have hd' := dinv_congr (L' := fun k => decide (k ≠ f)) (fun k hk => by rw [hp]; simp [hk]) hd
    have hsim := hd'.sim
    rw [maskN_all ts 0 fun j hj => by
      by_cases hjf : j = f
      · subst hjf; exact .inr hnf
      · exact .inl (by simp [hjf])] at hsim
    refine hK2 G w0 ρ0 A' w' ⟨by simp; omega, ρ', fun i hi => hd'.ag i hi |>.trans rfl, hsim, ⟨hd'.sz, fun t v hv => ?_⟩, hd'.mks, fun i hi => by have := he.mkb i hi; simp; omega⟩ _ fun e' mk' σ' A' w' hk hi' => ⟨e', mk', σ', hk, hi'⟩
    obtain ⟨htd, hv⟩ := dropE_get hv
    have hfd : ts[f].o.dst = some d := by
      have h1 := hall f hf1
      rw [ho2] at h1
      rw [← Option.some.inj h1]; exact hd2
    rcases envAt_get ts e t v hv with ⟨j, hj, h1, h2, h3⟩ | ⟨h1, h2⟩
    · have hjf : j ≠ f := by
        intro hjf; subst hjf
        rw [hfd] at h1
        exact htd (Option.some.inj h1).symm
      obtain ⟨v', g1, g2⟩ := hd'.new j hj (by simp [hjf]) t h1 fun k hk hjk _ => h3 k hk hjk
      refine ⟨v', g1, ?_⟩
      rw [← h2]
      have := nsOf_le hj
      exact g2.mono (by simp; omega) fun _ _ => rfl
    · obtain ⟨v', g1, g2⟩ := hd'.old t v h1 fun k hk _ => h2 k hk
      exact ⟨v', g1, g2.mono (by simp) fun _ _ => rfl⟩
  · unfold cnt
    rw [List.countP_eq_length.2]
    · simp
    · intro i hi
      rw [getD_lt (d' := false) (by simpa using hi), hrep]; rfl
  · intro j o _ hL
    rw [hrep] at hL; cases hL
  · refine dinv_congr (L := fun _ => false) (fun k _ => (hrep k).symm) ⟨ha, ?_, he.tmps.1, he.mks, fun t v hv _ => ?_, fun k hk hL => by cases hL⟩
    · rw [maskN_false]
      exact sim_drawn (sim_hide hs _) rfl rfl rfl rfl
    · exact he.tmps.2 t v hv
theorem split {P : Program} {n0 N : Nat} {rd : Option Nat} {l tl : List Oper} {K : Env → List Nat → Heap → Prop} {e' : Env} {mk : List Nat} {σ : Heap} {f d : Nat} {o1 o2 : Oper} {t : List Oper} {news : List (Nat × Heap)} (h1 : WOps P n0 N rd l tl K e' mk σ)
    (ht : tl = o1 :: t) (h2 : l[f]? = some o2) (hd : o2.dst = some d) (hn : (news.all fun p => !Nat.beq p.1 f) = true) (h3 : WOps P n0 N rd l (o1 :: o2 :: t) K (dropE d e') mk σ) :
    WOps P n0 N rd l tl K e' mk σ ∧ ∃ o1 o2 t, tl = o1 :: t ∧ l[f]? = some o2 ∧ o2.dst = some d ∧ (news.all fun p => !Nat.beq p.1 f) = true ∧ WOps P n0 N rd l (o1 :: o2 :: t) K (dropE d e') mk σ :=
  ⟨h1, o1, o2, t, ht, h2, hd, hn, h3⟩
end Go.AH.Late
namespace Go.Proofs.Ytgfnogdecggkkaa
open Go Go.AH
attribute [local irreducible] WOps WCode WFree retQ thenQ blockQ OpOk ACall RetRef roundA roundB
set_option maxRecDepth 100000
set_option maxHeartbeats 1000000
theorem open_evBad {σ : Heap} {s : St} {l : List Int} {x c : Nat} (hx : arrAt σ x (ints l)) (hN : l.length ≤ 1000000) (hr : -9223372036854775808 ≤ s.short ∧ s.short ≤ 9223372036854775807) (h : checkS s l ≠ 0) (hni : σ.all (fun o => !isIter o) = true) :
    Ev Try.prog 49 [s.val, .slice (some ⟨x, 0, none⟩) l.length c] σ (.tuple #[.pointer none, .int .i64 (checkS s l)]) σ :=
  Ev.arrs [ints l] [x] (open_bad s l c hN hr h) ⟨hx, trivial⟩ ⟨vrel_plain _ rfl, by simpa [bsR] using VQ.slice (q := true) (n := 1) (ρ := bsR [x]) 0 0 l.length c c (Nat.le_refl _) (by omega), trivial⟩ (by simp [ints_plain]) rfl hni
theorem open_evOk {σ : Heap} {s : St} {l : List Int} {x c : Nat} (hx : arrAt σ x (ints l)) (hr : -9223372036854775808 ≤ s.short ∧ s.short ≤ 9223372036854775807) (h : checkS s l = 0) (hni : σ.all (fun o => !isIter o) = true) :
    Ev Try.prog 49 [s.val, .slice (some ⟨x, 0, none⟩) l.length c] σ (.tuple #[.pointer (some ⟨σ.length, 0, none⟩), .int .i64 0]) (σ ++ [.rw (rackC s (.slice (some ⟨x, 0, none⟩) l.length c) (spanAt s l) fun _ => 0)]) := by
  refine Ev.arrsN [ints l] [x] (open_ok s l c hr h) ⟨hx, trivial⟩ ⟨vrel_plain _ rfl, by simpa [bsR] using VQ.slice (q := true) (n := 1) (ρ := bsR [x]) 0 0 l.length c c (Nat.le_refl _) (by omega), trivial⟩ (by simp [ints_plain]) rfl ?_ ?_ hni
  · simp [ren, renA, renL, shf]
  · simp only [List.map_cons, List.map_nil, renO, rack_ren]
    simp [ren, shf, bsR]
theorem rack_pairAt {σ : Heap} {s : St} {tv : Value} {f : Nat → Int × Int} {g : Nat → Int} {r i : Nat} (h : arrAt σ r (rackC s tv f g)) (hi : i < 12) : cellsAt σ r (6 + i * 2) 2 = some [.int .i64 (f i).1, .int .i64 (f i).2] := by
  have h2 := rack_pair (a := .ro []) (s := s) (tv := tv) (f := f) (g := g) (r := []) hi
  unfold cellsAt at h2 ⊢
  rcases h with h | h | ⟨t, h⟩ <;> rw [h] <;> exact h2
def pairV (p : Int × Int) : Value := .agg #[.int .i64 p.1, .int .i64 p.2]
theorem spanAt_in {s : St} {l : List Int} : ∀ i < l.length, spanAt s l i = nw ∨ (s.short ≤ (spanAt s l i).1 ∧ (spanAt s l i).1 ≤ (spanAt s l i).2 ∧ (spanAt s l i).2 ≤ s.long) := by
  intro i hi
  unfold spanAt
  rw [if_pos hi]
  unfold spanR
  split
  · rename_i h
    right
    unfold span at h ⊢
    simp only at h ⊢
    omega
  · exact .inl rfl
end Go.Proofs.Ytgfnogdecggkkaa
namespace Go.Proofs.Ytgfnogdecggkkaa
open Go Go.AH
attribute [local irreducible] WOps WCode WFree retQ thenQ blockQ OpOk ACall RetRef roundA roundB
set_option maxRecDepth 100000
set_option maxHeartbeats 1000000
structure Hide (p : Prop) : Prop where
  h : p
theorem turns_in {l : List Int} (ht : badTurns l = false) : ∀ i < l.length, 1 ≤ gi l i ∧ gi l i ≤ 10000 := fun i hi => by
  have : ¬ (gi l i < 1 ∨ gi l i > 10000) := fun hb => by rw [badTurns_iff.2 ⟨i, hi, hb⟩] at ht; cases ht
  omega
def bestF (f : Nat → Int × Int) (x : Int) : Nat → Int
  | 0 => -1
  | i + 1 => if ((f i).1 ≤ x ∧ x ≤ (f i).2) ∧ (bestF f x i < 0 ∨ (f i).1 < (f (bestF f x i).toNat).1) then (i : Int) else bestF f x i
theorem bestF_in (f : Nat → Int × Int) (x : Int) : ∀ i : Nat, -1 ≤ bestF f x i ∧ bestF f x i < i
  | 0 => by simp [bestF]
  | i + 1 => by
    have := bestF_in f x i
    simp only [bestF]
    split <;> omega
def sp (s : St) (l : List Int) (i : Nat) : Int × Int := span s (gi l i)
theorem bestF_is (f : Nat → Int × Int) (x : Int) : ∀ n : Nat, (bestF f x n = -1 ∧ ∀ i < n, ¬ ((f i).1 ≤ x ∧ x ≤ (f i).2)) ∨
    ∃ b < n, bestF f x n = (b : Int) ∧ (f b).1 ≤ x ∧ x ≤ (f b).2 ∧ ∀ i < n, (f i).1 ≤ x → x ≤ (f i).2 → (f b).1 ≤ (f i).1 ∧ (i < b → (f b).1 < (f i).1)
  | 0 => .inl ⟨rfl, fun i h => by omega⟩
  | n + 1 => by
    simp only [bestF]
    rcases bestF_is f x n with ⟨h1, h2⟩ | ⟨b, hb, h1, h2, h3, h4⟩
    · rw [h1]
      split
      · rename_i h
        refine .inr ⟨n, by omega, rfl, h.1.1, h.1.2, fun i hi a1 a2 => ?_⟩
        by_cases hin : i = n
        · subst hin; omega
        · exact absurd ⟨a1, a2⟩ (h2 i (by omega))
      · rename_i h
        refine .inl ⟨rfl, fun i hi hc => ?_⟩
        by_cases hin : i = n
        · subst hin; exact h ⟨hc, .inl (by omega)⟩
        · exact h2 i (by omega) hc
    · rw [h1]
      simp only [Int.toNat_natCast]
      split
      · rename_i h
        have hlt : (f n).1 < (f b).1 := by rcases h.2 with h | h <;> omega
        refine .inr ⟨n, by omega, rfl, h.1.1, h.1.2, fun i hi a1 a2 => ?_⟩
        by_cases hin : i = n
        · subst hin; omega
        · have := h4 i (by omega) a1 a2
          omega
      · rename_i h
        refine .inr ⟨b, by omega, rfl, h2, h3, fun i hi a1 a2 => ?_⟩
        by_cases hin : i = n
        · subst hin
          have : ¬ (f i).1 < (f b).1 := fun hq => h ⟨⟨a1, a2⟩, .inr hq⟩
          omega
        · exact h4 i (by omega) a1 a2
theorem sp_at {s : St} {l : List Int} {i : Nat} (hi : i < l.length) : spanAt s l i = spanR s (gi l i) := by unfold spanAt; rw [if_pos hi]
theorem sp_hold {s : St} {l : List Int} {i : Nat} {x : Int} (hi : i < l.length) (h : (sp s l i).1 ≤ x ∧ x ≤ (sp s l i).2) : spanAt s l i = sp s l i := by
  rw [sp_at hi]
  unfold spanR
  unfold sp at h ⊢
  rw [if_pos (by omega)]
theorem at_hold {s : St} {l : List Int} {i : Nat} {x : Int} (hi : i < l.length) (h : (spanAt s l i).1 ≤ x ∧ x ≤ (spanAt s l i).2) : spanAt s l i = sp s l i := by
  rw [sp_at hi] at h ⊢
  unfold spanR at h ⊢
  split at h
  · rename_i hq; rw [if_pos hq]; rfl
  · simp only at h; omega
end Go.Proofs.Ytgfnogdecggkkaa
