/- What CheckShop of the reference returns. -/
import Derived.Test.YtomioaiojidnbaaDtMJ
import Derived.Test.YtomioaiojidnbaaDtMC
namespace Go.AH.Chain
open Go Go.AH
def partC (ops:List Oper) (m:Nat) (o:Oper) (j mk:Nat):Bool :=
 notDefer o && o.after.all (fun e=>!Region.binds .any e || Nat.blt e.on j) &&
  (match o.guard with|some (g,_)=>waits o g|none=>true) &&
  ((List.range j).all fun i=>mk.testBit i || (Nat.blt i m && (match ops[i]? with|some oi=>oi.apart ops.toArray o|none=>false))) &&
  (Nat.blt j m || (o.dst.isNone && o.guard.isNone))
def chkC (all:List Oper) (m:Nat):List Oper→Nat→List Nat→Bool
 |[],_,_=>true
 |o::rest,j,acc=>forceN (maskOf acc o.after.toList) fun mk=>partC all m o j mk && chkC all m rest (j+1) (acc++[mk])
def drawC (ops:List Oper) (m:Nat):Bool:=chkC ops m ops 0 []
theorem chkC_get {all:List Oper} {m:Nat}:∀ (rest:List Oper) (j:Nat) (acc:List Nat),rest=all.drop j→acc.length=j→j≤all.length→(∀ (k:Nat) (mk:Nat),acc[k]?=some mk→Good all k mk)→chkC all m rest j acc=true →
  ∀ (t:Nat) (o:Oper),rest[t]?=some o→∃ mk,partC all m o (j+t) mk=true∧Good all (j+t) mk
 |[],_,_,_,_,_,_,_,t,o,h=>by simp at h
 |x::rest,j,acc,hr,hl,hj,hacc,hc,t,o,h=>by
  have hx:all[j]?=some x:=by
   have:=congrArg (fun l:List Oper=>l[0]?) hr
   simpa using this.symm
  have hr':rest=all.drop (j+1):=by
   have:=congrArg List.tail hr
   simpa using this
  have hjl:=(List.getElem?_eq_some_iff.1 hx).1
  simp only [chkC,forceN_eq,Bool.and_eq_true] at hc
  have hg:=good_mask hx hacc (by omega)
  cases t with
  |zero=>simp at h;subst h;exact ⟨_,hc.1,hg⟩
  |succ t =>
   have:=chkC_get rest (j+1) (acc++[maskOf acc x.after.toList]) hr' (by simp [hl]) (by omega) (fun k mk hk=>by
    by_cases hkl:k<acc.length
    ·rw [List.getElem?_append_left hkl] at hk;exact hacc k mk hk
    ·rw [List.getElem?_append_right (by omega)] at hk
     have hk0:k - acc.length=0:=by
      have:=(List.getElem?_eq_some_iff.1 hk).1
      simp at this;omega
     rw [hk0] at hk;simp at hk;subst hk
     rw [show k=j by omega];exact hg) hc.2 t o (by simpa using h)
   rwa [show j+1+t=j+(t+1) by omega] at this
section
variable {all:List Oper} {m:Nat}
theorem draw_all (h:drawC all m=true) {j:Nat} {o:Oper} (hj:all[j]?=some o) :
  (notDefer o=true∧(∀ e ∈ o.after,Region.binds .any e=true→e.on<j)∧(∀ g b,o.guard=some (g,b)→waits o g=true) ∧
  ∀ i oi,i<j→all[i]?=some oi→(∀ D:Nat→Prop,Closed all D→(∀ k,waits o k=true→D k)→D i)∨(i<m∧True∧oi.apart all.toArray o=true))∧(m≤j→o.dst=none∧o.guard=none):=by
 obtain ⟨mk,this,hgood⟩:=chkC_get all 0 [] rfl rfl (by omega) (fun k mk hk=>by simp at hk) h j o hj
 rw [Nat.zero_add] at this hgood
 unfold partC at this
 simp only [Bool.and_eq_true] at this
 obtain ⟨⟨⟨⟨h1,h2⟩,h3⟩,h4⟩,h5⟩:=this
 refine ⟨⟨h1,fun e he hb=>?_,fun g b hg=>?_,fun i oi hi hoi=>?_⟩,fun hm=>?_⟩
 ·have:=Array.all_eq_true_iff_forall_mem.1 h2 e he
  simp only [hb,Bool.not_true,Bool.false_or,Nat.blt_eq] at this;exact this
 ·rw [hg] at h3;exact h3
 ·have:=List.all_eq_true.1 h4 i (by simpa using hi)
  simp only [hoi,Bool.or_eq_true,Bool.and_eq_true,Nat.blt_eq] at this
  rcases this with h|⟨h5,h7⟩
  ·exact .inl fun D hD hw=>hgood D hD o hj hw i h
  ·exact .inr ⟨h5,trivial,h7⟩
 ·simp only [Bool.or_eq_true,Nat.blt_eq,Bool.and_eq_true,Option.isNone_iff_eq_none] at h5
  rcases h5 with h5|h5
  ·omega
  ·exact h5
theorem draw_parts (h:drawC all m=true) {j:Nat} {o:Oper} (hj:all[j]?=some o) :
  notDefer o=true∧(∀ e ∈ o.after,Region.binds .any e=true→e.on<j)∧(∀ g b,o.guard=some (g,b)→waits o g=true) ∧
  ∀ i oi,i<j→all[i]?=some oi→(∀ D:Nat→Prop,Closed all D→(∀ k,waits o k=true→D k)→D i)∨(i<m∧True∧oi.apart all.toArray o=true):=(draw_all h hj).1
theorem waits_lt (h:drawC all m=true) {j i:Nat} {o:Oper} (hj:all[j]?=some o) (hw:waitsA o.after i=true):i<j:=by
 unfold waitsA at hw
 obtain ⟨e,he,hb⟩:=Array.any_eq_true'.1 hw
 simp only [Bool.and_eq_true] at hb
 rw [← Nat.eq_of_beq_eq_true hb.2]
 exact (draw_parts h hj).2.1 e he hb.1
end
section
variable {P:Program} {N:Nat} {rd:Option Nat} {e0:Env} {mk:List Nat} {σ0:Heap} {all:List Oper} {ts:List Tr} {n0:Nat}
theorem dinv_sees {G:Nat→Prop} {w0:World} {ρ0 ρ:Rho} {L:Nat→Bool} {A:Act} {w:World} (hd:DInv n0 N G w0 ρ0 e0 mk σ0 ts L A w ρ) (hall:∀ (i:Nat) (hi:i<ts.length),all[i]?=some ts[i].o)
  (hchk:drawC all ts.length=true) {i:Nat} (hi:i<ts.length) (hLi:L i=false) (hw:∀ j,waits ts[i].o j=true→L j=true) (hdc:Closed all fun k=>L k=true)
  {t:Nat} (ht:t ∈ ts[i].o.looksAt all.toArray) {v:Value} (hv:Env.get (envAt (ts.take i) e0) t=some v):∃ v',A.tmps[t]?=some v'∧VRel (σ0.length+(nsOf (ts.take i)).length) ρ v v':=by
 have early:∀ (j:Nat) (hj:j<i),(ts[j]'(by omega)).o.dst=some t→L j=true:=by
  intro j hj hdst
  rcases (draw_parts hchk (hall i hi)).2.2.2 j _ hj (hall j (by omega)) with h|⟨_,_,h⟩
  ·exact h _ hdc hw
  ·exact absurd ht ((Oper.apart_spec h).1 t hdst)
 have late:∀ (j:Nat) (hj:j<ts.length),i<j→ts[j].o.dst=some t→L j=true→False:=by
  intro j hj hij hdst hLj
  rcases (draw_parts hchk (hall j hj)).2.2.2 i _ hij (hall i hi) with h|⟨_,_,h⟩
  ·have:=h _ hdc (hdc j _ (hall j hj) hLj)
   rw [hLi] at this;cases this
  ·exact absurd ht ((Oper.apart_spec h).2.2 t hdst)
 rcases envAt_get _ _ _ _ hv with ⟨j,hj,h1,h2,h3⟩|⟨h1,h2⟩
 ·have hji:j<i:=by simp at hj;omega
  rw [List.getElem_take] at h1 h2
  obtain ⟨v',g1,g2⟩:=hd.new j (by omega) (early j hji h1) t h1 fun k hk hjk hLk hdk=>by
   rcases Nat.lt_trichotomy k i with hlt|rfl|hgt
   ·have:=h3 k (by simp;omega) hjk
    rw [List.getElem_take] at this;exact this hdk
   ·rw [hLi] at hLk;cases hLk
   ·exact late k hk hgt hdk hLk
  refine ⟨v',g1,?_⟩
  rw [← h2]
  have:=nsOf_lt hji (Nat.le_of_lt hi)
  exact g2.mono (by omega) fun _ _=>rfl
 ·obtain ⟨v',g1,g2⟩:=hd.old t v h1 fun k hk hLk hdk=>by
   rcases Nat.lt_trichotomy k i with hlt|rfl|hgt
   ·have:=h2 k (by simp;omega)
    rw [List.getElem_take] at this;exact this hdk
   ·rw [hLi] at hLk;cases hLk
   ·exact late k hk hgt hdk hLk
  exact ⟨v',g1,g2.mono (by omega) fun _ _=>rfl⟩
theorem dinv_step {G:Nat→Prop} {w0:World} {ρ0 ρ ρ':Rho} {L:Nat→Bool} {A:Act} {w w':World} (hd:DInv n0 N G w0 ρ0 e0 mk σ0 ts L A w ρ) (hall:∀ (i:Nat) (hi:i<ts.length),all[i]?=some ts[i].o)
  (hchk:drawC all ts.length=true) (hn0:n0≤σ0.length) (hmk:∀ i ∈ mk,i < σ0.length)
  (hns:∀ (j:Nat) (hj:j<ts.length),newOk σ0.length ts[j].ns) (hnok:∀ (j:Nat) (hj:j<ts.length) (i:Nat) (hi:i<j),(∃ D:Nat→Prop,Closed all D∧D j∧¬ D i)→∀ (m:Nat) (ρ ρ':Rho) (v':Value),VRel m ρ ts[j].v v' →
   (∀ q,q < σ0.length+(nsOf (ts.take i)).length∨σ0.length+(nsOf (ts.take i)).length+ts[i].ns.length≤q→ρ' q=ρ q)→VRel m ρ' ts[j].v v')
  {i:Nat} (hi:i<ts.length) (hLi:L i=false) (hdc:Closed all fun k=>L k=true) (hdst:dstOk N ts[i].o=true)
  {v':Value} (hag:∀ k < σ0.length+(nsOf (ts.take i)).length,ρ' k=ρ k) (hv:VRel (σ0.length+((nsOf (ts.take i)).length+ts[i].ns.length)) ρ' ts[i].v v')
  (hs':Sim (oth G ρ σ0 ts L (waitsA ts[i].o.after)) w ρ' (σ0++maskN (ts.take i) 0 (waitsA ts[i].o.after)++ts[i].ns) w') :
  DInv n0 N G w0 ρ0 e0 mk σ0 ts (setL L i) (A.put ts[i].o.dst v') w' (mixR ρ ρ' (σ0.length+(nsOf (ts.take i)).length) ts[i].ns.length):=by
 have mixlow:∀ k < σ0.length+(nsOf (ts.take i)).length,mixR ρ ρ' (σ0.length+(nsOf (ts.take i)).length) ts[i].ns.length k=ρ k:=fun k hk=>by simp only [mixR];rw [if_neg (by omega)]
 have mixown:∀ k < σ0.length+((nsOf (ts.take i)).length+ts[i].ns.length),mixR ρ ρ' (σ0.length+(nsOf (ts.take i)).length) ts[i].ns.length k=ρ' k:=fun k hk=>by
  simp only [mixR];split
  ·rfl
  ·rw [hag k (by omega)]
 have mixhi:∀ k,σ0.length+(nsOf (ts.take i)).length+ts[i].ns.length≤k→mixR ρ ρ' (σ0.length+(nsOf (ts.take i)).length) ts[i].ns.length k=ρ k:=fun k hk=>by simp only [mixR];rw [if_neg (by omega)]
 have keep:∀ t u,A.tmps[t]?=some u→ts[i].o.dst ≠ some t→(A.put ts[i].o.dst v').tmps[t]?=some u:=by
  intro t u hu hne
  cases hdd:ts[i].o.dst with
  |none=>simpa [Act.put] using hu
  |some d =>
   simp only [Act.put]
   rw [Array.getElem?_setIfInBounds_ne (fun hdt=>hne (by rw [hdd,hdt]))];exact hu
 refine ⟨fun k hk=>(mixlow k (by omega)).trans (hd.ag k hk),sim_join hi hLi (fun j hj=>waits_lt hchk (hall i hi) hj) hd.sim hns hag hs',?_,?_,fun t v ht hno=>?_,fun k hk hLk t hdk hno=>?_⟩
 ·cases hdd:ts[i].o.dst <;> simp [Act.put,hd.sz]
 ·have:(A.put ts[i].o.dst v').defers=A.defers:=by cases ts[i].o.dst <;> rfl
  rw [this,hd.mks]
  congr 1
  exact List.map_congr_left fun k hk=>by rw [mixlow k (by have:=hmk k hk;omega)]
 ·obtain ⟨u,g1,g2⟩:=hd.old t v ht fun k hk hLk=>hno k hk (by simp only [setL];split <;> simp [hLk])
  exact ⟨u,keep t u g1 (hno i hi (by simp [setL])),g2.mono (Nat.le_refl _) fun k hk=>mixlow k (by omega)⟩
 ·by_cases hki:k=i
  ·subst hki
   refine ⟨v',?_,hv.mono (by omega) mixown⟩
   simp only [hdk,dstOk,Nat.blt_eq] at hdst
   simp only [hdk,Act.put]
   rw [Array.getElem?_setIfInBounds_self_of_lt (by rw [hd.sz];exact hdst)]
  ·have hLk':L k=true:=by simpa [setL,hki] using hLk
   have hne:ts[i].o.dst ≠ some t:=by
    intro hdi
    rcases Nat.lt_or_gt_of_ne hki with hlt|hgt
    ·exact hno i hi hlt (by simp [setL]) hdi
    ·rcases (draw_parts hchk (hall k hk)).2.2.2 i _ hgt (hall i hi) with h|⟨_,_,h⟩
     ·have:=h _ hdc (hdc k _ (hall k hk) hLk')
      rw [hLi] at this;cases this
     ·exact (Oper.apart_spec h).2.1 t hdi hdk
   obtain ⟨u,g1,g2⟩:=hd.new k hk hLk' t hdk fun j hj hkj hLj=>hno j hj hkj (by simp only [setL];split <;> simp [hLj])
   refine ⟨u,keep t u g1 hne,?_⟩
   rcases Nat.lt_or_gt_of_ne hki with hlt|hgt
   ·have:=nsOf_lt hlt (Nat.le_of_lt hi)
    exact g2.mono (Nat.le_refl _) fun j hj=>mixlow j (by omega)
   ·have:=nsOf_lt hgt (Nat.le_of_lt hk)
    exact hnok k hk i hgt ⟨fun q=>L q=true,hdc,hLk',by simp [hLi]⟩ _ _ _ _ g2 fun j hj=>by
     rcases hj with hj|hj
     ·exact mixlow j hj
     ·exact mixhi j hj
theorem nsOf_len:∀ {ts ts':List Tr},ts.map (·.ns.length)=ts'.map (·.ns.length)→(nsOf ts).length=(nsOf ts').length:=by
 intro ts ts' h
 have e:∀ l:List Tr,(nsOf l).length=(l.map (·.ns.length)).sum:=by
  intro l
  induction l with
  |nil=>rfl
  |cons t l ih =>
   simp only [nsOf,List.map_cons,List.flatten_cons,List.length_append,List.sum_cons] at ih ⊢
   omega
 rw [e,e,h]
theorem nsOf_take {ts ts':List Tr} (h:ts.map (·.ns.length)=ts'.map (·.ns.length)) (j:Nat):(nsOf (ts.take j)).length=(nsOf (ts'.take j)).length :=
 nsOf_len (by rw [List.map_take,List.map_take,h])
theorem envAt_eq:∀ {ts ts':List Tr} {e:Env},ts.map (fun t=>(t.o.dst,t.v))=ts'.map (fun t=>(t.o.dst,t.v))→envAt ts e=envAt ts' e
 |[],[],_,_=>rfl
 |[],_::_,_,h=>by simp at h
 |_::_,[],_,h=>by simp at h
 |t::ts,t'::ts',e,h=>by
  simp only [List.map_cons,List.cons.injEq,Prod.mk.injEq] at h
  simp only [envAt,h.1.1,h.1.2]
  exact envAt_eq h.2
theorem maskN_eq:∀ {ts ts':List Tr} {k:Nat} {L:Nat→Bool},ts.length=ts'.length→(∀ (j:Nat) (h:j<ts.length) (h':j<ts'.length),(L (k+j)=true→ts[j].ns=ts'[j].ns)∧ts[j].ns.length=ts'[j].ns.length)→maskN ts k L=maskN ts' k L
 |[],[],_,_,_,_=>rfl
 |[],_::_,_,_,h,_=>by simp at h
 |_::_,[],_,_,h,_=>by simp at h
 |t::ts,t'::ts',k,L,h,hp=>by
  have h0:=hp 0 (by simp) (by simp)
  simp only [Nat.add_zero,List.getElem_cons_zero] at h0
  have h1:=maskN_eq (ts:=ts) (ts':=ts') (k:=k+1) (L:=L) (by simpa using h) fun j hj hj'=>by
   have:=hp (j+1) (by simpa using hj) (by simpa using hj')
   simpa [Nat.add_assoc,Nat.add_comm 1 j] using this
  simp only [maskN,h1]
  cases hL:L k with
  |true=>rw [if_pos rfl,if_pos rfl,h0.1 hL]
  |false =>
   have e:hide t.ns=hide t'.ns:=by
    apply List.ext_getElem
    ·simp [hide_length,h0.2]
    ·intro i g1 g2;simp [hide]
   simp [e]
def setNs (ts:List Tr) (j:Nat) (h:Heap):List Tr:=ts.modify j fun t=>{ t with ns:=h }
theorem setNs_length (ts:List Tr) (j:Nat) (h:Heap):(setNs ts j h).length=ts.length:=by simp [setNs]
theorem setNs_get {ts:List Tr} {j:Nat} {h:Heap} {i:Nat} (hi:i<(setNs ts j h).length) (hi':i<ts.length):(setNs ts j h)[i]=if j=i then { ts[i] with ns:=h } else ts[i]:=by
 simp only [setNs,List.getElem_modify]
theorem setNs_map {α:Type} (f:Tr→α) {ts:List Tr} {j:Nat} {h:Heap} (hf:∀ (hj:j<ts.length),f { ts[j] with ns:=h }=f ts[j]):(setNs ts j h).map f=ts.map f:=by
 apply List.ext_getElem
 ·simp [setNs_length]
 ·intro i h1 h2
  have hi:i<ts.length:=by simpa using h2
  rw [List.getElem_map,List.getElem_map,setNs_get (by simpa using h1) hi]
  split
  ·rename_i e;subst e;exact hf hi
  ·rfl
def ChainOk (P:Program) (rd:Option Nat) (all:List Oper) (e:Env) (σ0:Heap) (m:Nat) (K:List Tr→Prop):List Oper→List Tr→Prop
 |[],ts=>K ts
 |o::rest,ts=>∃ (j:Nat) (h:Heap) (v:Value),waitsA o.after j=true∧(∀ (i:Nat) (oi:Oper),i<m→all[i]?=some oi→waits oi j=true→waitsA o.after i=true)∧(∀ hj:j<ts.length,h.length=ts[j].ns.length)∧newOk σ0.length h ∧
   OpOk P rd o.op o.type e (σ0++maskN ts 0 (waitsA o.after)) v (σ0++maskN (setNs ts j h) 0 (waitsA o.after))∧ChainOk P rd all e σ0 m K rest (setNs ts j h)
structure FOk (P:Program) (N:Nat) (rd:Option Nat) (all:List Oper) (e0:Env) (σ0:Heap) (ts:List Tr) (L:Nat→Bool):Prop where
 all':∀ (i:Nat) (hi:i<ts.length),all[i]?=some ts[i].o
 dst:∀ (i:Nat) (hi:i<ts.length),dstOk N ts[i].o=true
 want:∀ (i:Nat) (hi:i<ts.length),wantedA all (envAt (ts.take i) e0) ts[i].o=some ts[i].run
 off:∀ (i:Nat) (hi:i<ts.length),ts[i].run=false→ts[i].v=undef∧(L i=false→ts[i].ns=[])
 new:∀ (i:Nat) (hi:i<ts.length),newOk σ0.length ts[i].ns
 nok:∀ (j:Nat) (hj:j<ts.length) (i:Nat) (hi:i<j),(∃ D:Nat→Prop,Closed all D∧D j∧¬ D i)→∀ (m:Nat) (ρ ρ':Rho) (v':Value),VRel m ρ ts[j].v v' →
   (∀ q,q < σ0.length+(nsOf (ts.take i)).length∨σ0.length+(nsOf (ts.take i)).length+ts[i].ns.length≤q→ρ' q=ρ q)→VRel m ρ' ts[j].v v'
 run:∀ (i:Nat) (hi:i<ts.length),L i=false→ts[i].run=true→OpOk P rd ts[i].o.op ts[i].o.type (envAt (ts.take i) e0) (σ0++maskN (ts.take i) 0 (waitsA ts[i].o.after)) ts[i].v (σ0++maskN (ts.take i) 0 (waitsA ts[i].o.after)++ts[i].ns)
theorem FOk.start (htr:TrOk P N rd all 0 ts e0 σ0 []) (hall:∀ (i:Nat) (hi:i<ts.length),all[i]?=some ts[i].o) (L:Nat→Bool):FOk P N rd all e0 σ0 ts L:=by
 have hget:=fun (j:Nat) (hj:j<ts.length)=>trok_get ts e0 htr j hj
 refine ⟨hall,fun i hi=>(hget i hi).1,fun i hi=>(hget i hi).2.1,fun i hi h=>⟨((hget i hi).2.2.2.1 h).1,fun _=>((hget i hi).2.2.2.1 h).2⟩,fun i hi=>(hget i hi).2.2.2.2.1,fun j hj i hij hD m ρ ρ' v' hv hq=>?_,fun i hi _ h=>(hget i hi).2.2.1 h⟩
 by_cases hne:ts[i].ns=[]
 ·exact hv.mono (Nat.le_refl _) fun q _=>hq q (by rw [hne];simp;omega)
 ·have hne':((ts.take j)[i]'(by simp;omega)).ns ≠ []:=by simpa using hne
  obtain ⟨n1,n2,e1,e2⟩:=newsAt_split (ts.take j) 0 [] i (by simp;omega) hne'
  rw [Nat.zero_add] at e1
  have e3:flatN n1=nsOf (ts.take i):=by
   rw [e2,List.take_take,Nat.min_eq_left (by omega)];simp [flatN]
  refine (hget j hj).2.2.2.2.2 n1 i _ n2 e1 hD m ρ ρ' v' hv fun q hq'=>hq q ?_
  rw [e3] at hq'
  simpa using hq'
theorem FOk.mono {L L':Nat→Bool} (h:FOk P N rd all e0 σ0 ts L) (hL:∀ i<ts.length,L i=true→L' i=true):FOk P N rd all e0 σ0 ts L':=by
 have hf:∀ i<ts.length,L' i=false→L i=false:=fun i hi hh=>by
  cases hc:L i with
  |false=>rfl
  |true=>rw [hL i hi hc] at hh;cases hh
 exact ⟨h.all',h.dst,h.want,fun i hi hr=>⟨(h.off i hi hr).1,fun hl=>(h.off i hi hr).2 (hf i hi hl)⟩,h.new,h.nok,fun i hi hl hr=>h.run i hi (hf i hi hl) hr⟩
theorem setNs_lens {j:Nat} {h:Heap} (hl:∀ hj:j<ts.length,h.length=ts[j].ns.length):ts.map (·.ns.length)=(setNs ts j h).map (·.ns.length):=(setNs_map _ (fun hj=>by simpa using hl hj)).symm
theorem setNs_take (j i:Nat) (h:Heap):(setNs ts j h).take i=setNs (ts.take i) j h:=by
 apply List.ext_getElem
 ·simp [setNs_length]
 ·intro q h1 h2
  have hq:q<ts.length:=by simp [setNs_length] at h1;omega
  have hqi:q<(ts.take i).length:=by simpa [setNs_length] using h2
  rw [List.getElem_take,setNs_get (by rw [setNs_length];exact hq) hq,setNs_get h2 hqi]
  simp only [List.getElem_take]
theorem FOk.set {L:Nat→Bool} {j:Nat} {h:Heap} (hf:FOk P N rd all e0 σ0 ts L) (hj:j<ts.length→L j=true) (hw:∀ (i:Nat) (hi:i<ts.length),waits ts[i].o j=true→L i=true) (hl:∀ hj:j<ts.length,h.length=ts[j].ns.length) (hn:newOk σ0.length h):FOk P N rd all e0 σ0 (setNs ts j h) L:=by
 have hlen:=setNs_length ts j h
 have get:∀ (i:Nat) (hi:i<(setNs ts j h).length) (hi':i<ts.length),(setNs ts j h)[i].o=ts[i].o∧(setNs ts j h)[i].v=ts[i].v∧(setNs ts j h)[i].run=ts[i].run∧(i ≠ j→(setNs ts j h)[i].ns=ts[i].ns):=by
  intro i hi hi'
  rw [setNs_get hi hi']
  split
  ·rename_i e;exact ⟨rfl,rfl,rfl,fun hne=>absurd e.symm hne⟩
  ·exact ⟨rfl,rfl,rfl,fun _=>rfl⟩
 have henv:∀ i,envAt ((setNs ts j h).take i) e0=envAt (ts.take i) e0:=fun i=>by
  rw [setNs_take];exact envAt_eq (setNs_map _ (fun _=>rfl))
 have hlens:=setNs_lens (ts:=ts) hl
 refine ⟨fun i hi=>?_,fun i hi=>?_,fun i hi=>?_,fun i hi hr=>?_,fun i hi=>?_,fun q hq i hi hD m ρ ρ' v' hv hr=>?_,fun i hi hL hr=>?_⟩
 ·rw [(get i hi (by omega)).1];exact hf.all' i (by omega)
 ·rw [(get i hi (by omega)).1];exact hf.dst i (by omega)
 ·rw [(get i hi (by omega)).1,(get i hi (by omega)).2.2.1,henv];exact hf.want i (by omega)
 ·rw [(get i hi (by omega)).2.2.1] at hr
  rw [(get i hi (by omega)).2.1]
  refine ⟨(hf.off i (by omega) hr).1,fun hL=>?_⟩
  by_cases hij:i=j
  ·subst hij;rw [hj (by omega)] at hL;cases hL
  ·rw [(get i hi (by omega)).2.2.2 hij];exact (hf.off i (by omega) hr).2 hL
 ·by_cases hij:i=j
  ·subst hij
   rw [setNs_get hi (by omega),if_pos rfl];exact hn
  ·rw [(get i hi (by omega)).2.2.2 hij];exact hf.new i (by omega)
 ·rw [(get q hq (by omega)).2.1] at hv ⊢
  refine hf.nok q (by omega) i hi hD m ρ ρ' v' hv fun k hk=>hr k ?_
  rw [← nsOf_take hlens i]
  have e:(setNs ts j h)[i].ns.length=ts[i].ns.length:=by
   have:=congrArg (fun l:List Nat=>l[i]?) hlens
   simp only [List.getElem?_map] at this
   rw [List.getElem?_eq_getElem (show i<ts.length by omega),List.getElem?_eq_getElem (show i<(setNs ts j h).length by omega)] at this
   simpa using this.symm
  rw [e];exact hk
 ·have hij:i ≠ j:=fun e=>by subst e;rw [hj (by omega)] at hL;cases hL
  obtain ⟨g1,g2,g3,g4⟩:=get i hi (by omega)
  rw [g3] at hr
  have hwi:waits ts[i].o j=false:=by
   cases hc:waits ts[i].o j with
   |false=>rfl
   |true=>rw [hw i (by omega) hc] at hL;cases hL
  have em:maskN ((setNs ts j h).take i) 0 (waitsA ts[i].o.after)=maskN (ts.take i) 0 (waitsA ts[i].o.after):=by
   refine maskN_eq (by simp [hlen]) fun q h1 h2=>?_
   have hq:q<ts.length:=by simp at h2;omega
   have hq':q<(setNs ts j h).length:=by omega
   simp only [List.getElem_take,Nat.zero_add]
   by_cases hqj:q=j
   ·subst hqj
    refine ⟨fun hc=>?_,?_⟩
    ·unfold waits at hwi;rw [hwi] at hc;cases hc
    ·rw [setNs_get hq' hq,if_pos rfl];exact hl hq
   ·rw [(get q hq' hq).2.2.2 hqj];exact ⟨fun _=>rfl,rfl⟩
  rw [g1,g2,g4 hij,henv,em]
  exact hf.run i (by omega) hL hr
def setNw (news:List (Nat×Heap)) (j:Nat) (h:Heap):List (Nat×Heap):=news.map fun p=>bif Nat.beq p.1 j then (p.1,h) else p
def WChain (P:Program) (rd:Option Nat) (all:List Oper) (e:Env) (σ0:Heap) (m:Nat) (K:List (Nat×Heap)→Prop):List Oper→List (Nat×Heap)→Prop
 |[],news=>K news
 |o::rest,news=>∃ (j:Nat) (h:Heap) (v:Value),waitsA o.after j=true∧((List.range m).all fun i=>match all[i]? with|some oi=>!waits oi j || waitsA o.after i|none=>true)=true∧(∃ old,(j,old) ∈ news∧old.length=h.length)∧h ≠ []∧newOk σ0.length h ∧
   OpOk P rd o.op o.type e (σ0++visN (waitsA o.after) news) v (σ0++visN (waitsA o.after) (setNw news j h))∧WChain P rd all e σ0 m K rest (setNw news j h)
end
def visM:List Bool→List (Nat×Heap)→Heap
 |b::bs,p::news=>(bif b then p.2 else hide p.2)++visM bs news
 |_,_=>[]
end Go.AH.Chain
namespace Go.AH
open Go
section
variable {P:Program} {n0 N:Nat} {rd:Option Nat} {Q:Post} {e:Env} {mk:List Nat} {σ:Heap}
structure StopC (p:Prop):Prop where
 out:p
end
end Go.AH
namespace Go.AH
open Go
theorem closed_slvV {n i sz k:Nat} (h:Nat.blt i n=true):closed n (slvV i sz k)=true:=by
 cases k <;> simp [slvV,closed,h]
theorem closed_sh3 {n x y z a b c a' b' c':Nat} (hx:Nat.blt x n=true) (hy:Nat.blt y n=true) (hz:Nat.blt z n=true):closed n (.agg #[.slice (some ⟨x,0,none⟩) a a',.slice (some ⟨y,0,none⟩) b b',.slice (some ⟨z,0,none⟩) c c'])=true:=by
 have h1:=closed_slice (o:=0) (l:=a) (c:=a') hx
 have h2:=closed_slice (o:=0) (l:=b) (c:=b') hy
 have h3:=closed_slice (o:=0) (l:=c) (c:=c') hz
 simp [closed,closedA,closedL,h1,h2,h3]
section
variable {P:Program} {n0 N:Nat} {rd:Option Nat} {Q:Post} {e:Env} {mk:List Nat} {σ:Heap} {K:Env→List Nat→Heap→Prop} {all rest:List Oper}
theorem stGA {d:Nat} {op:Op} {ty:TypeId} {pos:String} {after:Array Edge} {v:Value} {σ':Heap} {j:Nat} {b want:Bool} (hg:guardV all e j=some (.bool b))
  (h:OpOk P rd op ty e σ v σ') (hrd:rdok rd n0=true) (hd:Nat.blt d N=true)
  (k:WOps P n0 N rd all rest K ((d,v)::e) mk σ') (hb:b=want:=by first|rfl|exact dtrue (by assumption)|exact dfalse (by assumption)|assumption|exact dtrue (by omega)|exact dfalse (by omega)):WOps P n0 N rd all (⟨some d,op,ty,pos,after,some (j,want)⟩::rest) K e mk σ:=stG hg hb h hrd hd k
theorem stSA {d:Nat} {op:Op} {ty:TypeId} {pos:String} {after:Array Edge} {j:Nat} {b want:Bool} (hg:guardV all e j=some (.bool b)) (hd:Nat.blt d N=true)
  (k:WOps P n0 N rd all rest K ((d,undef)::e) mk σ) (hb:b=!want:=by first|rfl|exact dtrue (by assumption)|exact dfalse (by assumption)|assumption|exact dtrue (by omega)|exact dfalse (by omega)):WOps P n0 N rd all (⟨some d,op,ty,pos,after,some (j,want)⟩::rest) K e mk σ:=stS hg hb hd k
theorem stGkA {d:Option Nat} {op:Op} {ty:TypeId} {pos:String} {after:Array Edge} {j:Nat} {b want:Bool} (hg:guardV all e j=some (.bool b)) (k:WOps P n0 N rd all (⟨d,op,ty,pos,after,some (j,want)⟩::rest) K e mk σ) (hb:b=want:=by first|rfl|exact dtrue (by assumption)|exact dfalse (by assumption)|assumption|exact dtrue (by omega)|exact dfalse (by omega)) :
  WOps P n0 N rd all (⟨d,op,ty,pos,after,some (j,want)⟩::rest) K e mk σ:=stGk hg hb k
theorem W_condTA {c:Operand} {x y:Code} {b:Bool} (hc:evalO e c=some (.bool b)) (h:WCode P n0 N rd x Q e mk σ) (hb:b=true:=by first|rfl|exact dtrue (by assumption)|exact dfalse (by assumption)|assumption|exact dtrue (by omega)|exact dfalse (by omega)):WCode P n0 N rd (.cond c x y) Q e mk σ:=W_condT hc hb h
theorem W_condFA {c:Operand} {x y:Code} {b:Bool} (hc:evalO e c=some (.bool b)) (h:WCode P n0 N rd y Q e mk σ) (hb:b=false:=by first|rfl|exact dtrue (by assumption)|exact dfalse (by assumption)|assumption|exact dtrue (by omega)|exact dfalse (by omega)):WCode P n0 N rd (.cond c x y) Q e mk σ:=W_condF hc hb h
end
section
variable {P:Program} {rd:Option Nat} {ty:TypeId} {e:Env} {σ:Heap} {a b c:Operand} {v:Value}
theorem ok_pickTA {t:Bool} (hc:evalO e c=some (.bool t)) (ha:evalO e a=some v) (ht:t=true:=by first|rfl|exact dtrue (by assumption)|exact dfalse (by assumption)|assumption|exact dtrue (by omega)|exact dfalse (by omega)):OpOk P rd (.pick c a b) ty e σ v σ:=ok_pickT hc ht ha
theorem ok_pickFA {t:Bool} (hc:evalO e c=some (.bool t)) (hb:evalO e b=some v) (ht:t=false:=by first|rfl|exact dtrue (by assumption)|exact dfalse (by assumption)|assumption|exact dtrue (by omega)|exact dfalse (by omega)):OpOk P rd (.pick c a b) ty e σ v σ:=ok_pickF hc ht hb
end
section
variable {P:Program} {N:Nat} {rd:Option Nat} {e:Env} {σ0:Heap} {news:List (Nat×Heap)} {K:Env→List (Nat×Heap)→List Oper→Prop} {k:Nat} {all rest:List Oper} {d:Nat} {op:Op} {ty:TypeId} {pos:String} {after:Array Edge} {v:Value} {j:Nat} {b want:Bool}
theorem frA (h:OpOk P rd op ty e (σ0++visN (waitsA after) news) v (σ0++visN (waitsA after) news)) (hd:Nat.blt d N=true) (hk:WFree P N rd all (k+1) rest ((d,v)::e) σ0 news K) (hc:closed σ0.length v=true:=by first|rfl|exact closed_slice rfl|exact closed_slvV rfl|exact closed_sh3 rfl rfl rfl) :
  WFree P N rd all k (⟨some d,op,ty,pos,after,none⟩::rest) e σ0 news K:=fr h hc hd hk
theorem frGA (hg:guardV all e j=some (.bool b)) (h:OpOk P rd op ty e (σ0++visN (waitsA after) news) v (σ0++visN (waitsA after) news)) (hd:Nat.blt d N=true) (hk:WFree P N rd all (k+1) rest ((d,v)::e) σ0 news K)
  (hb:b=want:=by first|rfl|exact dtrue (by assumption)|exact dfalse (by assumption)|assumption|exact dtrue (by omega)|exact dfalse (by omega)) (hc:closed σ0.length v=true:=by first|rfl|exact closed_slice rfl|exact closed_slvV rfl|exact closed_sh3 rfl rfl rfl):WFree P N rd all k (⟨some d,op,ty,pos,after,some (j,want)⟩::rest) e σ0 news K:=frG hg hb h hc hd hk
theorem frSA (hg:guardV all e j=some (.bool b)) (hd:Nat.blt d N=true) (hk:WFree P N rd all (k+1) rest ((d,undef)::e) σ0 news K) (hb:b=!want:=by first|rfl|exact dtrue (by assumption)|exact dfalse (by assumption)|assumption|exact dtrue (by omega)|exact dfalse (by omega)) :
  WFree P N rd all k (⟨some d,op,ty,pos,after,some (j,want)⟩::rest) e σ0 news K:=frS hg hb hd hk
end
end Go.AH
namespace Go.AH
open Go
section
variable {P:Program} {rd:Option Nat} {ty:TypeId} {e:Env} {σ:Heap} {x y:Operand}
end
section
variable {P:Program} {n0 N:Nat} {K:Env→List Nat→Heap→Prop} {e:Env} {mk:List Nat} {σ:Heap} {all:List Oper} {listed:List Bool} {fuel:Nat}
def twoAt (all:List Oper) (listed:List Bool) (i j:Nat):Bool:=match Region.ready .any all.toArray listed.toArray with|[a,b]=>Nat.beq a i && Nat.beq b j|_=>false
end
end Go.AH
namespace Go.AH.Late
open Go Go.AH
def partOk (ops:List Oper) (m f:Nat) (o:Oper) (j mk:Nat):Bool :=
 notDefer o && o.after.all (fun e=>!Region.binds .any e || Nat.blt e.on j) &&
  (match o.guard with|some (g,_)=>waits o g|none=>true) &&
  (List.range j).all fun i=>mk.testBit i || (Nat.blt i m && (match ops[i]? with|some oi=>oi.apart ops.toArray o|none=>false)) && (Nat.blt j m || (Nat.beq i f && Nat.beq j m))
def chkD (all:List Oper) (m f:Nat):List Oper→Nat→List Nat→Bool
 |[],_,_=>true
 |o::rest,j,acc=>forceN (maskOf acc o.after.toList) fun mk=>partOk all m f o j mk && chkD all m f rest (j+1) (acc++[mk])
def drawOk (ops:List Oper) (m f:Nat):Bool:=chkD ops m f ops 0 []
theorem chkD_get {all:List Oper} {m f:Nat}:∀ (rest:List Oper) (j:Nat) (acc:List Nat),rest=all.drop j→acc.length=j→j≤all.length→(∀ (k:Nat) (mk:Nat),acc[k]?=some mk→Good all k mk)→chkD all m f rest j acc=true →
  ∀ (t:Nat) (o:Oper),rest[t]?=some o→∃ mk,partOk all m f o (j+t) mk=true∧Good all (j+t) mk
 |[],_,_,_,_,_,_,_,t,o,h=>by simp at h
 |x::rest,j,acc,hr,hl,hj,hacc,hc,t,o,h=>by
  have hx:all[j]?=some x:=by
   have:=congrArg (fun l:List Oper=>l[0]?) hr
   simpa using this.symm
  have hr':rest=all.drop (j+1):=by
   have:=congrArg List.tail hr
   simpa using this
  have hjl:=(List.getElem?_eq_some_iff.1 hx).1
  simp only [chkD,forceN_eq,Bool.and_eq_true] at hc
  have hg:=good_mask hx hacc (by omega)
  cases t with
  |zero=>simp at h;subst h;exact ⟨_,hc.1,hg⟩
  |succ t =>
   have:=chkD_get rest (j+1) (acc++[maskOf acc x.after.toList]) hr' (by simp [hl]) (by omega) (fun k mk hk=>by
    by_cases hkl:k<acc.length
    ·rw [List.getElem?_append_left hkl] at hk;exact hacc k mk hk
    ·rw [List.getElem?_append_right (by omega)] at hk
     have hk0:k - acc.length=0:=by
      have:=(List.getElem?_eq_some_iff.1 hk).1
      simp at this;omega
     rw [hk0] at hk;simp at hk;subst hk
     rw [show k=j by omega];exact hg) hc.2 t o (by simpa using h)
   rwa [show j+1+t=j+(t+1) by omega] at this
section
variable {all:List Oper} {m f:Nat}
theorem draw_parts (h:drawOk all m f=true) {j:Nat} {o:Oper} (hj:all[j]?=some o) :
  notDefer o=true∧(∀ e ∈ o.after,Region.binds .any e=true→e.on<j)∧(∀ g b,o.guard=some (g,b)→waits o g=true) ∧
  ∀ i oi,i<j→all[i]?=some oi→(∀ D:Nat→Prop,Closed all D→(∀ k,waits o k=true→D k)→D i)∨(i<m∧(j<m∨(i=f∧j=m))∧oi.apart all.toArray o=true):=by
 obtain ⟨mk,this,hgood⟩:=chkD_get all 0 [] rfl rfl (by omega) (fun k mk hk=>by simp at hk) h j o hj
 rw [Nat.zero_add] at this hgood
 unfold partOk at this
 simp only [Bool.and_eq_true] at this
 obtain ⟨⟨⟨h1,h2⟩,h3⟩,h4⟩:=this
 refine ⟨h1,fun e he hb=>?_,fun g b hg=>?_,fun i oi hi hoi=>?_⟩
 ·have:=Array.all_eq_true_iff_forall_mem.1 h2 e he
  simp only [hb,Bool.not_true,Bool.false_or,Nat.blt_eq] at this;exact this
 ·rw [hg] at h3;exact h3
 ·have:=List.all_eq_true.1 h4 i (by simpa using hi)
  simp only [hoi,Bool.or_eq_true,Bool.and_eq_true,Nat.blt_eq,Nat.beq_eq] at this
  rcases this with h|⟨⟨h5,h6⟩,h7⟩
  ·exact .inl fun D hD hw=>hgood D hD o hj hw i h
  ·exact .inr ⟨h5,h7,h6⟩
theorem waits_lt (h:drawOk all m f=true) {j i:Nat} {o:Oper} (hj:all[j]?=some o) (hw:waitsA o.after i=true):i<j:=by
 unfold waitsA at hw
 obtain ⟨e,he,hb⟩:=Array.any_eq_true'.1 hw
 simp only [Bool.and_eq_true] at hb
 rw [← Nat.eq_of_beq_eq_true hb.2]
 exact (draw_parts h hj).2.1 e he hb.1
end
section
variable {P:Program} {N:Nat} {rd:Option Nat} {e0:Env} {mk:List Nat} {σ0:Heap} {all:List Oper} {ts:List Tr} {n0:Nat}
theorem dinv_sees {G:Nat→Prop} {w0:World} {ρ0 ρ:Rho} {f:Nat} {L:Nat→Bool} {A:Act} {w:World} (hd:DInv n0 N G w0 ρ0 e0 mk σ0 ts L A w ρ) (hall:∀ (i:Nat) (hi:i<ts.length),all[i]?=some ts[i].o)
  (hchk:drawOk all ts.length f=true) {i:Nat} (hi:i<ts.length) (hLi:L i=false) (hw:∀ j,waits ts[i].o j=true→L j=true) (hdc:Closed all fun k=>L k=true)
  {t:Nat} (ht:t ∈ ts[i].o.looksAt all.toArray) {v:Value} (hv:Env.get (envAt (ts.take i) e0) t=some v):∃ v',A.tmps[t]?=some v'∧VRel (σ0.length+(nsOf (ts.take i)).length) ρ v v':=by
 have early:∀ (j:Nat) (hj:j<i),(ts[j]'(by omega)).o.dst=some t→L j=true:=by
  intro j hj hdst
  rcases (draw_parts hchk (hall i hi)).2.2.2 j _ hj (hall j (by omega)) with h|⟨_,_,h⟩
  ·exact h _ hdc hw
  ·exact absurd ht ((Oper.apart_spec h).1 t hdst)
 have late:∀ (j:Nat) (hj:j<ts.length),i<j→ts[j].o.dst=some t→L j=true→False:=by
  intro j hj hij hdst hLj
  rcases (draw_parts hchk (hall j hj)).2.2.2 i _ hij (hall i hi) with h|⟨_,_,h⟩
  ·have:=h _ hdc (hdc j _ (hall j hj) hLj)
   rw [hLi] at this;cases this
  ·exact absurd ht ((Oper.apart_spec h).2.2 t hdst)
 rcases envAt_get _ _ _ _ hv with ⟨j,hj,h1,h2,h3⟩|⟨h1,h2⟩
 ·have hji:j<i:=by simp at hj;omega
  rw [List.getElem_take] at h1 h2
  obtain ⟨v',g1,g2⟩:=hd.new j (by omega) (early j hji h1) t h1 fun k hk hjk hLk hdk=>by
   rcases Nat.lt_trichotomy k i with hlt|rfl|hgt
   ·have:=h3 k (by simp;omega) hjk
    rw [List.getElem_take] at this;exact this hdk
   ·rw [hLi] at hLk;cases hLk
   ·exact late k hk hgt hdk hLk
  refine ⟨v',g1,?_⟩
  rw [← h2]
  have:=nsOf_lt hji (Nat.le_of_lt hi)
  exact g2.mono (by omega) fun _ _=>rfl
 ·obtain ⟨v',g1,g2⟩:=hd.old t v h1 fun k hk hLk hdk=>by
   rcases Nat.lt_trichotomy k i with hlt|rfl|hgt
   ·have:=h2 k (by simp;omega)
    rw [List.getElem_take] at this;exact this hdk
   ·rw [hLi] at hLk;cases hLk
   ·exact late k hk hgt hdk hLk
  exact ⟨v',g1,g2.mono (by omega) fun _ _=>rfl⟩
theorem dinv_step {G:Nat→Prop} {w0:World} {ρ0 ρ ρ':Rho} {f:Nat} {L:Nat→Bool} {A:Act} {w w':World} (hd:DInv n0 N G w0 ρ0 e0 mk σ0 ts L A w ρ) (hall:∀ (i:Nat) (hi:i<ts.length),all[i]?=some ts[i].o)
  (hchk:drawOk all ts.length f=true) (hn0:n0≤σ0.length) (hmk:∀ i ∈ mk,i < σ0.length)
  (hns:∀ (j:Nat) (hj:j<ts.length),newOk σ0.length ts[j].ns) (hnok:∀ (j:Nat) (hj:j<ts.length) (i:Nat) (hi:i<j),(∃ D:Nat→Prop,Closed all D∧D j∧¬ D i)→∀ (m:Nat) (ρ ρ':Rho) (v':Value),VRel m ρ ts[j].v v' →
   (∀ q,q < σ0.length+(nsOf (ts.take i)).length∨σ0.length+(nsOf (ts.take i)).length+ts[i].ns.length≤q→ρ' q=ρ q)→VRel m ρ' ts[j].v v')
  {i:Nat} (hi:i<ts.length) (hLi:L i=false) (hdc:Closed all fun k=>L k=true) (hdst:dstOk N ts[i].o=true)
  {v':Value} (hag:∀ k < σ0.length+(nsOf (ts.take i)).length,ρ' k=ρ k) (hv:VRel (σ0.length+((nsOf (ts.take i)).length+ts[i].ns.length)) ρ' ts[i].v v')
  (hs':Sim (oth G ρ σ0 ts L (waitsA ts[i].o.after)) w ρ' (σ0++maskN (ts.take i) 0 (waitsA ts[i].o.after)++ts[i].ns) w') :
  DInv n0 N G w0 ρ0 e0 mk σ0 ts (setL L i) (A.put ts[i].o.dst v') w' (mixR ρ ρ' (σ0.length+(nsOf (ts.take i)).length) ts[i].ns.length):=by
 have mixlow:∀ k < σ0.length+(nsOf (ts.take i)).length,mixR ρ ρ' (σ0.length+(nsOf (ts.take i)).length) ts[i].ns.length k=ρ k:=fun k hk=>by simp only [mixR];rw [if_neg (by omega)]
 have mixown:∀ k < σ0.length+((nsOf (ts.take i)).length+ts[i].ns.length),mixR ρ ρ' (σ0.length+(nsOf (ts.take i)).length) ts[i].ns.length k=ρ' k:=fun k hk=>by
  simp only [mixR];split
  ·rfl
  ·rw [hag k (by omega)]
 have mixhi:∀ k,σ0.length+(nsOf (ts.take i)).length+ts[i].ns.length≤k→mixR ρ ρ' (σ0.length+(nsOf (ts.take i)).length) ts[i].ns.length k=ρ k:=fun k hk=>by simp only [mixR];rw [if_neg (by omega)]
 have keep:∀ t u,A.tmps[t]?=some u→ts[i].o.dst ≠ some t→(A.put ts[i].o.dst v').tmps[t]?=some u:=by
  intro t u hu hne
  cases hdd:ts[i].o.dst with
  |none=>simpa [Act.put] using hu
  |some d =>
   simp only [Act.put]
   rw [Array.getElem?_setIfInBounds_ne (fun hdt=>hne (by rw [hdd,hdt]))];exact hu
 refine ⟨fun k hk=>(mixlow k (by omega)).trans (hd.ag k hk),sim_join hi hLi (fun j hj=>waits_lt hchk (hall i hi) hj) hd.sim hns hag hs',?_,?_,fun t v ht hno=>?_,fun k hk hLk t hdk hno=>?_⟩
 ·cases hdd:ts[i].o.dst <;> simp [Act.put,hd.sz]
 ·have:(A.put ts[i].o.dst v').defers=A.defers:=by cases ts[i].o.dst <;> rfl
  rw [this,hd.mks]
  congr 1
  exact List.map_congr_left fun k hk=>by rw [mixlow k (by have:=hmk k hk;omega)]
 ·obtain ⟨u,g1,g2⟩:=hd.old t v ht fun k hk hLk=>hno k hk (by simp only [setL];split <;> simp [hLk])
  exact ⟨u,keep t u g1 (hno i hi (by simp [setL])),g2.mono (Nat.le_refl _) fun k hk=>mixlow k (by omega)⟩
 ·by_cases hki:k=i
  ·subst hki
   refine ⟨v',?_,hv.mono (by omega) mixown⟩
   simp only [hdk,dstOk,Nat.blt_eq] at hdst
   simp only [hdk,Act.put]
   rw [Array.getElem?_setIfInBounds_self_of_lt (by rw [hd.sz];exact hdst)]
  ·have hLk':L k=true:=by simpa [setL,hki] using hLk
   have hne:ts[i].o.dst ≠ some t:=by
    intro hdi
    rcases Nat.lt_or_gt_of_ne hki with hlt|hgt
    ·exact hno i hi hlt (by simp [setL]) hdi
    ·rcases (draw_parts hchk (hall k hk)).2.2.2 i _ hgt (hall i hi) with h|⟨_,_,h⟩
     ·have:=h _ hdc (hdc k _ (hall k hk) hLk')
      rw [hLi] at this;cases this
     ·exact (Oper.apart_spec h).2.1 t hdi hdk
   obtain ⟨u,g1,g2⟩:=hd.new k hk hLk' t hdk fun j hj hkj hLj=>hno j hj hkj (by simp only [setL];split <;> simp [hLj])
   refine ⟨u,keep t u g1 hne,?_⟩
   rcases Nat.lt_or_gt_of_ne hki with hlt|hgt
   ·have:=nsOf_lt hlt (Nat.le_of_lt hi)
    exact g2.mono (Nat.le_refl _) fun j hj=>mixlow j (by omega)
   ·have:=nsOf_lt hgt (Nat.le_of_lt hk)
    exact hnok k hk i hgt ⟨fun q=>L q=true,hdc,hLk',by simp [hLi]⟩ _ _ _ _ g2 fun j hj=>by
     rcases hj with hj|hj
     ·exact mixlow j hj
     ·exact mixhi j hj
theorem free_any {G:Nat→Prop} {w0:World} {ρ0:Rho} {f:Nat} {Q':Exit→Act→World→Prop} (hrd:rdok rd n0=true) (hall:∀ (i:Nat) (hi:i<ts.length),all[i]?=some ts[i].o)
  (hchk:drawOk all ts.length f=true) (hn0:n0≤σ0.length) (hmk:∀ i ∈ mk,i < σ0.length) (hcl:∀ (i:Nat) (o:AObj),σ0[i]?=some o→oclosed σ0.length o) (htr:TrOk P N rd all 0 ts e0 σ0 [])
  (hfin:∀ A w ρ fuel listed,listed.size=all.length→(∀ i<all.length,listed.getD i false=decide (i<ts.length))→DInv n0 N G w0 ρ0 e0 mk σ0 ts (fun i=>listed.getD i false) A w ρ →
   fuel=all.length - ts.length→wpAnyIn (fen ρ0 rd) 0 P .any all.toArray Q' fuel listed A w)
  (hlate:∀ A w ρ fuel listed,listed.size=all.length→(∀ i,listed.getD i false=decide (i<ts.length∧i ≠ f))→DInv n0 N G w0 ρ0 e0 mk σ0 ts (fun i=>listed.getD i false) A w ρ→Closed all (fun k=>listed.getD k false=true) →
   f<ts.length→ts.length<all.length→ts.length ∈ Region.ready .any all.toArray listed→fuel=all.length - ts.length→wpOpIn (fen ρ0 rd) 0 P all.toArray Q' ts.length (wpAnyIn (fen ρ0 rd) 0 P .any all.toArray Q' fuel (listed.setIfInBounds ts.length true)) A w)
  (hlen:ts.length≤all.length):∀ (fuel:Nat) (listed:Array Bool) (A:Act) (w:World) (ρ:Rho),listed.size=all.length→(∀ i,ts.length≤i→listed.getD i false=false)→cnt all.length listed=fuel →
  Closed all (fun k=>listed.getD k false=true) →
  DInv n0 N G w0 ρ0 e0 mk σ0 ts (fun i=>listed.getD i false) A w ρ→wpAnyIn (fen ρ0 rd) 0 P .any all.toArray Q' fuel listed A w:=by
 intro fuel
 induction fuel with
 |zero =>
  intro listed A w ρ hsz hhi hcnt hdc hd
  have hno:∀ i<all.length,listed.getD i false=true:=by
   intro i hi
   unfold cnt at hcnt
   have:=(List.countP_eq_zero.1 hcnt) i (by simpa using hi)
   simp only [Bool.not_eq_true',Bool.not_eq_false] at this
   rw [getD_lt (by omega) false true];exact this
  have hm:ts.length=all.length:=by
   rcases Nat.lt_or_ge ts.length all.length with h|h
   ·have h1:=hno ts.length h
    rw [hhi ts.length (Nat.le_refl _)] at h1;cases h1
   ·omega
  exact hfin A w ρ 0 listed hsz (fun i hi=>by rw [hno i hi];simp;omega) hd (by omega)
 |succ fuel ih =>
  intro listed A w ρ hsz hhi hcnt hdc hd
  by_cases hdone:∀ i<ts.length,listed.getD i false=true
  ·have hpat:∀ i<all.length,listed.getD i false=decide (i<ts.length):=fun i hi=>by
    by_cases him:i<ts.length
    ·rw [hdone i him];simp [him]
    ·rw [hhi i (by omega)];simp [him]
   refine hfin A w ρ (fuel+1) listed hsz hpat hd ?_
   rw [← hcnt]
   exact cnt_tail hlen fun i hi=>by rw [getD_lt (by omega) true false];exact hpat i hi
  ·refine ⟨fun hr=>?_,fun i hr=>?_⟩
   ·
    exfalso
    have hex:∃ i,i<ts.length∧listed.getD i false=false:=by
     simp only [Classical.not_forall] at hdone
     obtain ⟨i,hi,hn⟩:=hdone
     exact ⟨i,hi,by simpa using hn⟩
    have least:∃ i,(i<ts.length∧listed.getD i false=false)∧∀ k<i,listed.getD k false=true:=by
     obtain ⟨i,hi⟩:=hex
     induction i using Nat.strongRecOn with
     |_ i ih2 =>
      by_cases hlow:∃ k,k<i∧listed.getD k false=false
      ·obtain ⟨k,hk,hkf⟩:=hlow;exact ih2 k hk ⟨by omega,hkf⟩
      ·refine ⟨i,hi,fun k hk=>?_⟩
       cases hc:listed.getD k false with
       |true=>rfl
       |false=>exact absurd ⟨k,hk,hc⟩ hlow
    obtain ⟨i,⟨hi,hif⟩,hlow⟩:=least
    have:i ∈ Region.ready .any all.toArray listed:=mem_ready.2 ⟨by rw [getD_lt (by omega) true false];exact hif,ts[i].o,by rw [List.getElem?_toArray];exact hall i hi,
     fun e he hb=>hlow _ ((draw_parts hchk (hall i hi)).2.1 e he hb)⟩
    rw [hr] at this;cases this
   ·obtain ⟨hif,o,ho,_⟩:=mem_ready.1 hr
    rw [List.getElem?_toArray] at ho
    have hia:i<all.length:=(List.getElem?_eq_some_iff.1 ho).1
    have hif':listed.getD i false=false:=by rw [getD_lt (by omega) false true];exact hif
    rcases Nat.lt_or_ge i ts.length with him|him
    rotate_left
    ·have hk1:∀ k<ts.length,listed.getD k false=true∨(k=f∧i=ts.length):=by
      intro k hk
      rcases (draw_parts hchk ho).2.2.2 k _ (by omega) (hall k hk) with h'|⟨_,h',_⟩
      ·exact .inl (h' (fun k=>listed.getD k false=true) hdc fun k hk=>waits_ready hr ho hk)
      ·rcases h' with h'|h'
       ·omega
       ·exact .inr h'
     have hex:f<ts.length∧i=ts.length∧listed.getD f false=false:=by
      apply Classical.byContradiction;intro hno
      apply hdone
      intro k hk
      rcases hk1 k hk with h|⟨rfl,h⟩
      ·exact h
      ·cases hc:listed.getD k false with
       |true=>rfl
       |false=>exact absurd ⟨hk,h,hc⟩ hno
     obtain ⟨hf1,hf3,hf2⟩:=hex
     subst hf3
     refine hlate A w ρ fuel listed hsz (fun k=>?_) hd hdc hf1 hia hr ?_
     ·by_cases hk:k<ts.length
      ·rcases hk1 k hk with h|⟨rfl,_⟩
       ·rw [h];symm;simp only [decide_eq_true_eq];refine ⟨hk,fun hkf=>?_⟩;rw [hkf,hf2] at h;cases h
       ·rw [hf2];simp
      ·rw [hhi k (by omega)];simp;omega
     ·have hc1:=cnt_set (n:=all.length) (listed:=listed) (i:=f) (by omega) hsz (by rw [getD_lt (by omega) true false];exact hf2)
      have hc2:=cnt_tail (listed:=listed.setIfInBounds f true) hlen fun k hk=>by
       rw [getD_lt (by simpa using by omega) true false,getD_set (by omega)]
       split
       ·rename_i hkf;subst hkf;simp [hf1]
       ·rename_i hkf
        by_cases hk2:k<ts.length
        ·rcases hk1 k hk2 with h|⟨h,_⟩
         ·rw [h];simp [hk2]
         ·exact absurd h hkf
        ·rw [hhi k (by omega)];simp [hk2]
      omega
    have hoi:o=ts[i].o:=by have:=hall i him;rw [ho] at this;exact Option.some.inj this
    subst hoi
    have hw:∀ j,waits ts[i].o j=true→listed.getD j false=true:=fun j hj=>waits_ready hr ho hj
    have hget:=fun (j:Nat) (hj:j<ts.length)=>trok_get ts e0 htr j hj
    obtain ⟨h1,h2,h3,h4,h5,h6⟩:=hget i him
    have hns:∀ (j:Nat) (hj:j<ts.length),newOk σ0.length ts[j].ns:=fun j hj=>(hget j hj).2.2.2.2.1
    have hnok:∀ (j:Nat) (hj:j<ts.length) (i:Nat) (hi:i<j),(∃ D:Nat→Prop,Closed all D∧D j∧¬ D i)→∀ (m:Nat) (ρ ρ':Rho) (v':Value),VRel m ρ ts[j].v v' →
      (∀ q,q < σ0.length+(nsOf (ts.take i)).length∨σ0.length+(nsOf (ts.take i)).length+ts[i].ns.length≤q→ρ' q=ρ q)→VRel m ρ' ts[j].v v':=fun j hj i hij hD m ρ ρ' v' hv hq=>by
     by_cases hne:ts[i].ns=[]
     ·exact hv.mono (Nat.le_refl _) fun q _=>hq q (by rw [hne];simp;omega)
     ·have hne':((ts.take j)[i]'(by simp;omega)).ns ≠ []:=by simpa using hne
      obtain ⟨n1,n2,e1,e2⟩:=newsAt_split (ts.take j) 0 [] i (by simp;omega) hne'
      rw [Nat.zero_add] at e1
      have e3:flatN n1=nsOf (ts.take i):=by
       rw [e2,List.take_take,Nat.min_eq_left (by omega)];simp [flatN]
      refine (hget j hj).2.2.2.2.2 n1 i _ n2 e1 hD m ρ ρ' v' hv fun q hq'=>hq q ?_
      rw [e3] at hq'
      simpa using hq'
    have hsees:=fun {t:Nat} (ht:t ∈ ts[i].o.looksAt all.toArray) {v:Value} (hv:Env.get (envAt (ts.take i) e0) t=some v) =>
     dinv_sees hd hall hchk him hif' hw hdc ht hv
    have hwant:Region.wanted ts[i].o (yielded all.toArray A.tmps)=ts[i].run:=by
     refine wanted_sees h2 fun g want hg t ht v hv=>?_
     obtain ⟨v',g1,g2⟩:=hsees (t:=t) (by
      unfold Oper.looksAt
      rw [hg]
      refine List.mem_append_right _ ?_
      simp only [List.getElem?_toArray]
      rw [ht];simp) hv
     exact ⟨_,_,v',g1,g2⟩
    have hpart:=sim_part (i:=i) (W:=waitsA ts[i].o.after) hd.sim hcl hns hw
    have after:∀ (ρ':Rho) (v':Value) (w':World),(∀ k < σ0.length+(nsOf (ts.take i)).length,ρ' k=ρ k)→VRel (σ0.length+((nsOf (ts.take i)).length+ts[i].ns.length)) ρ' ts[i].v v' →
      Sim (oth G ρ σ0 ts (fun i=>listed.getD i false) (waitsA ts[i].o.after)) w ρ' (σ0++maskN (ts.take i) 0 (waitsA ts[i].o.after)++ts[i].ns) w' →
      wpAnyIn (fen ρ0 rd) 0 P .any all.toArray Q' fuel (listed.setIfInBounds i true) (A.put ts[i].o.dst v') w':=by
     intro ρ' v' w' ha hv hs'
     have hd':=dinv_step hd hall hchk hn0 hmk hns hnok him hif' hdc h1 ha hv hs'
     refine ih _ _ _ _ (by simpa using hsz) (fun k hk=>?_) ?_ (fun j o' hj hLj k hk=>?_) (dinv_congr (fun k hk=>?_) hd')
     ·rw [getD_set (by omega),if_neg (by omega)];exact hhi k hk
     ·have:=cnt_set hia hsz hif;omega
     ·show (listed.setIfInBounds i true).getD k false=true
      have hLj:(listed.setIfInBounds i true).getD j false=true:=hLj
      rw [getD_set (by omega)] at hLj ⊢
      split
      ·rfl
      ·split at hLj
       ·rename_i hji;subst hji
        rw [ho] at hj;cases hj
        exact hw k hk
       ·exact hdc j o' hj hLj k hk
     ·simp only [setL];rw [getD_set (by omega)]
    unfold wpOpIn
    simp only [List.getElem?_toArray,ho]
    cases hrun:ts[i].run with
    |true =>
     rw [if_pos (by rw [hwant,hrun])]
     have hok:=h3 hrun
     rw [← fen_congr (rd:=rd) (ρ':=ρ) (ρ:=ρ0) fun l hl=>hd.ag l (rdok_lt hrd l hl)]
     refine hok ts[i].o rfl rfl (oth G ρ σ0 ts (fun i=>listed.getD i false) (waitsA ts[i].o.after)) w ρ A w (fun l hl=>by have:=rdok_lt hrd l hl;simp;omega) hpart (fun x hx u hu=>?_) _ _ ?_
     ·cases x with
      |tmp t =>
       obtain ⟨v',g1,g2⟩:=hsees (t:=t) (List.mem_append_left _ (List.mem_filterMap.2 ⟨.tmp t,by simpa using hx,rfl⟩)) hu
       rw [List.length_append,maskN_length]
       simpa [Act.eval,g1] using g2
      |const c =>
       simp only [evalO] at hu
       cases hp:plain c <;> simp [hp] at hu
       subst hu;exact vrel_plain c hp
      |func f=>simp only [evalO,Option.some.injEq] at hu;subst hu;exact .func f #[] #[] #[] #[] rfl rfl (fun i h=>by simp at h) (fun i h=>by simp at h)
      |global g=>simp [evalO] at hu
     ·intro ρ' v' w' hv hle ha hs'
      rw [fen_congr (rd:=rd) (ρ':=ρ) (ρ:=ρ0) fun l hl=>hd.ag l (rdok_lt hrd l hl)]
      refine after ρ' v' w' (fun k hk=>ha k (by rw [List.length_append,maskN_length];exact hk)) ?_ hs'
      rw [List.length_append,List.length_append,maskN_length,Nat.add_assoc] at hv;exact hv
    |false =>
     rw [if_neg (by rw [hwant,hrun];simp)]
     obtain ⟨g1,g2⟩:=h4 hrun
     refine ⟨fun f _=>fen_fn _ _ _,?_⟩
     have:=after ρ undef w (fun _ _=>rfl) (by rw [g1];exact vrel_plain _ rfl) (by rw [g2];simpa using hpart)
     exact this
theorem tail_any {F:Fence} (hF:∀ f,F.fn f) {m f:Nat} {Q':Exit→Act→World→Prop} (hchk:drawOk all m f=true):∀ (rest:List Oper) (k fuel:Nat) (listed:Array Bool) (A:Act) (w:World),
  m≤k→rest=all.drop k→fuel=all.length - k→listed.size=all.length→(∀ i<all.length,listed.getD i false=decide (i<k)) →
  wpL F 0 P all.toArray Q' rest A w→wpAnyIn F 0 P .any all.toArray Q' fuel listed A w
 |[],k,fuel,listed,A,w,hmk,hr,hf,hsz,hp,h=>by
  have hk:all.length≤k:=by
   have:=congrArg List.length hr
   simp at this;omega
  refine wpAnyIn_done (List.eq_nil_iff_forall_not_mem.2 fun j hj=>?_) h fuel
  obtain ⟨h1,o,ho,_⟩:=mem_ready.1 hj
  rw [List.getElem?_toArray] at ho
  have hj':=(List.getElem?_eq_some_iff.1 ho).1
  have:=hp j hj'
  rw [getD_lt (d':=true) (by omega),h1] at this
  simp at this;omega
 |o::rest,k,fuel,listed,A,w,hmk,hr,hf,hsz,hp,h=>by
  have hk:k<all.length:=by
   rcases Nat.lt_or_ge k all.length with h|h
   ·exact h
   ·rw [List.drop_eq_nil_of_le h] at hr;cases hr
  have ho:all[k]?=some o:=by
   have:=congrArg (fun l:List Oper=>l[0]?) hr
   simpa using this.symm
  have hr':rest=all.drop (k+1):=by
   have:=congrArg List.tail hr
   simpa using this
  obtain ⟨fuel,rfl⟩:∃ f,fuel=f+1:=⟨fuel - 1,by omega⟩
  refine ⟨fun hn=>?_,fun j hj=>?_⟩
  ·exfalso
   have:k ∈ Region.ready .any all.toArray listed:=mem_ready.2 ⟨by rw [getD_lt (d':=false) (by omega),hp k hk];simp,o,by rw [List.getElem?_toArray];exact ho,
    fun e he hb=>by have:=(draw_parts hchk ho).2.1 e he hb;rw [hp _ (by omega)];simpa using this⟩
   rw [hn] at this;cases this
  ·obtain ⟨h1,oj,hoj,_⟩:=mem_ready.1 hj
   rw [List.getElem?_toArray] at hoj
   have hj':=(List.getElem?_eq_some_iff.1 hoj).1
   have hkj:¬ j<k:=by
    intro hlt
    have:=hp j hj'
    rw [getD_lt (d':=true) (by omega),h1] at this
    simp at this;omega
   have hjk:j=k:=by
    rcases Nat.lt_or_ge k j with hlt|hge
    ·exfalso
     rcases (draw_parts hchk hoj).2.2.2 k _ hlt ho with h'|⟨h',_,_⟩
     ·have:=h' (fun q=>listed.getD q false=true) (fun q o' hq hLq i hi=>by
       have h1:=waits_lt hchk hq hi
       have hq':=(List.getElem?_eq_some_iff.1 hq).1
       have h2:=hp q hq'
       rw [hLq] at h2
       have h3:q<k:=of_decide_eq_true h2.symm
       show listed.getD i false=true
       rw [hp i (by omega)];simp;omega) fun q hq=>waits_ready hj hoj hq
      simp only [hp k hk] at this;simp at this
     ·omega
    ·omega
   subst hjk
   have hnext:∀ A w,wpL F 0 P all.toArray Q' rest A w→wpAnyIn F 0 P .any all.toArray Q' fuel (listed.setIfInBounds j true) A w:=fun A w h =>
    tail_any hF hchk rest (j+1) fuel _ A w (by omega) hr' (by omega) (by simpa using hsz) (fun i hi=>by
     rw [getD_set (by omega)]
     split
     ·rename_i hij;subst hij;simp
     ·rename_i hij;rw [hp i hi];simp only [decide_eq_decide];omega) h
   unfold wpOpIn
   simp only [List.getElem?_toArray,ho]
   simp only [wpL] at h
   split
   ·rename_i hw;rw [if_pos hw] at h
    exact Oper.wpIn_mono hnext h
   ·rename_i hw;rw [if_neg hw] at h
    exact ⟨fun f _=>hF f,hnext _ _ h⟩
def dropE (d:Nat):Env→Env
 |[]=>[]
 |(k,v)::e=>bif Nat.beq k d then dropE d e else (k,v)::dropE d e
end
theorem split {P:Program} {n0 N:Nat} {rd:Option Nat} {l tl:List Oper} {K:Env→List Nat→Heap→Prop} {e':Env} {mk:List Nat} {σ:Heap} {f d:Nat} {o1 o2:Oper} {t:List Oper} {news:List (Nat×Heap)} (h1:WOps P n0 N rd l tl K e' mk σ)
  (ht:tl=o1::t) (h2:l[f]?=some o2) (hd:o2.dst=some d) (hn:(news.all fun p=>!Nat.beq p.1 f)=true) (h3:WOps P n0 N rd l (o1::o2::t) K (dropE d e') mk σ) :
  WOps P n0 N rd l tl K e' mk σ∧∃ o1 o2 t,tl=o1::t∧l[f]?=some o2∧o2.dst=some d∧(news.all fun p=>!Nat.beq p.1 f)=true∧WOps P n0 N rd l (o1::o2::t) K (dropE d e') mk σ :=
 ⟨h1,o1,o2,t,ht,h2,hd,hn,h3⟩
end Go.AH.Late
namespace Go.AH
open Go
def ints (l:List Int):List Value:=l.map (.int .i64)
def gi (l:List Int) (i:Nat):Int:=l.getD i 0
theorem ints_get {l:List Int} {i:Nat} (h:i<l.length):(ints l)[i]?=some (.int .i64 (gi l i)):=by
 simp [ints,gi,h]
theorem ints_length (l:List Int):(ints l).length=l.length:=by simp [ints]
theorem ints_plain (l:List Int):plainL (ints l)=true:=plainL_map _ (fun _=>rfl) l
def badIx (lo hi:Int) (l:List Int):Int:=match (List.range l.length).find? (fun i=>decide (gi l i<lo∨gi l i > hi)) with|some i=>i|none=>-1
def allIn (lo hi:Int) (l:List Int):Bool:=decide (badIx lo hi l<0)
theorem badIx_some {lo hi:Int} {l:List Int} {i:Nat} (hi':i<l.length) (h:gi l i<lo∨gi l i > hi) (hall:∀ j<i,¬ (gi l j<lo∨gi l j > hi)):badIx lo hi l=i:=by
 have:(List.range l.length).find? (fun i=>decide (gi l i<lo∨gi l i > hi))=some i:=by
  rw [List.find?_range_eq_some]
  exact ⟨by simpa using h,by simpa using hi',fun j hj=>by simpa using hall j hj⟩
 simp only [badIx,this]
theorem badIx_none {lo hi:Int} {l:List Int} (hall:∀ j<l.length,¬ (gi l j<lo∨gi l j > hi)):badIx lo hi l=-1:=by
 have:(List.range l.length).find? (fun i=>decide (gi l i<lo∨gi l i > hi))=none:=by
  rw [List.find?_eq_none]
  intro j hj
  simpa using hall j (by simpa using hj)
 simp only [badIx,this]
theorem vsub_fn2 {n:Nat} {π:Rho} {f:FuncId} {a b a' b':Value} (h1:VSub n π a a') (h2:VSub n π b b'):VSub n π (.func (.func f) #[] #[a,b]) (.func (.func f) #[] #[a',b']):=by
 refine .func f _ _ _ _ rfl rfl (fun i h _=>by simp at h) (fun i h _=>?_)
 match i,h with
 |0,_=>exact h1
 |1,_=>exact h2
theorem badIx_iff {lo hi:Int} {l:List Int}:badIx lo hi l≥0↔∃ i<l.length,gi l i<lo∨gi l i > hi:=by
 constructor
 ·intro h
  refine Classical.byContradiction fun hn=>?_
  rw [badIx_none fun j hj hb=>hn ⟨j,hj,hb⟩] at h
  omega
 ·rintro ⟨i,hi',hb⟩
  unfold badIx
  split
  ·omega
  ·rename_i h
   rw [List.find?_eq_none] at h
   have:=h i (by simpa using hi')
   simp at this;omega
theorem slice_closed {n i l c:Nat} (h:i<n):closed n (.slice (some ⟨i,0,none⟩) l c)=true∧okV (.slice (some ⟨i,0,none⟩) l c)=true:=by
 have:=VQ.slice (q:=false) (n:=n) (ρ:=fun k=>⟨k,0,0⟩) i 0 l c c (Nat.le_refl _) h
 exact ⟨vq_closed this,vq_ok this⟩
theorem putRw {σ:Heap} {b o:Nat} {cs vs cs':List Value} (h:σ[b]?=some (.rw cs)) (hl:o+vs.length≤cs.length) (h0:0<cs.length) (he:splice cs o vs=cs'):putCells σ b o vs=some (σ.set b (.rw cs')):=by
 have e1:Nat.ble (o+vs.length) cs.length=true:=Nat.ble_eq_true_of_le hl
 have e2:Nat.blt 0 cs.length=true:=Nat.blt_eq.mpr h0
 simp only [putCells,h,e1,e2,Bool.and_self,cond_true,he]
def setF {α:Type} (f:Nat→α) (i:Nat) (a:α):Nat→α:=fun k=>if k=i then a else f k
def gn (l:List Nat) (i:Nat):Nat:=l.getD i 0
def nats (l:List Nat):List Value:=l.map fun (i:Nat)=>Value.int .i64 (Int.ofNat i)
structure Hide (p:Prop):Prop where
 h:p
def someB (n:Nat) (p:Nat→Prop) [DecidablePred p]:Bool:=(List.range n).any fun i=>decide (p i)
section
variable {n0:Nat} {σ:Heap} {e e2:Env}
theorem StRef.all (σ2:Heap) (m:Nat) (l:List Nat) (hm:n0≤m) (hl:σ2.length=m+l.length) (hd:distinctFrom m l=true) (ho:OSubs σ σ2.length (srcR m l) 0 σ2) (he:EnvRen σ2.length (srcR m l) e e2):StRef n0 σ σ2 e e2:=by
 refine .inr fun _=>⟨srcR m l,⟨by omega,fun i hi=>srcR_lt (by omega),fun i o2 hi=>?_,fun i j oi oj hi hj _ _ hij=>?_⟩,envRen_ref he⟩
 ·have:=osubs_get ho i o2 hi
  rwa [Nat.zero_add] at this
 ·simp only [distinctFrom,Bool.and_eq_true,List.all_eq_true,decide_eq_true_eq] at hd
  have h1:=idx_lt hi
  have h2:=idx_lt hj
  have ge:∀ q,¬ q<m→q < σ2.length→∃ h:q - m<l.length,(srcR m l q).b=l[q - m]∧m≤l[q - m]:=by
   intro q hq hq2
   have h:q - m<l.length:=by omega
   refine ⟨h,?_,Nat.le_of_ble_eq_true (hd.1 _ (List.getElem_mem h))⟩
   simp only [srcR]
   rw [if_neg hq,List.getElem?_eq_getElem h]
  by_cases hli:i<m <;> by_cases hlj:j<m
  ·rw [srcR_lt hli,srcR_lt hlj] at hij;exact hij
  ·obtain ⟨h,e1,e2⟩:=ge j hlj h2
   rw [srcR_lt hli,e1] at hij;simp only at hij;omega
  ·obtain ⟨h,e1,e2⟩:=ge i hli h1
   rw [srcR_lt hlj,e1] at hij;simp only at hij;omega
  ·obtain ⟨h,e1,e2⟩:=ge i hli h1
   obtain ⟨h',e1',e2'⟩:=ge j hlj h2
   rw [e1,e1'] at hij
   have:=(List.getElem_inj hd.2).1 hij
   omega
theorem osub_same {n m i:Nat} {l:List Nat} {o:AObj} (hi:i<m) (hmn:m≤n) (h:σ[i]?=some o) (hc:oclosed m o):OSub σ n (srcR m l) (srcR m l i) o :=
 osub_refl (fun _i hi=>srcR_lt hi) hmn hi h hc
theorem osub_slvC {n i j k sz q:Nat} {π:Rho} (hk:π i=⟨i,0,0⟩) (h:σ[i]?=some (.rw [slvV j sz k])) (hq:q<n) (hj:π q=⟨j,0,0⟩):OSub σ n π (π i) (.rw [slvV q sz k]):=by
 refine .inr ⟨by rw [hk],[slvV j sz k],.inl (by rw [hk];exact h),Nat.le_refl _,fun a ha ha'=>?_⟩
 have:a=0:=by simpa using ha
 subst this
 exact vsub_slvV hq hj
theorem W_rangeFuncL {P:Program} {N:Nat} {Q:Post} {mk:List Nat} {g:Operand} {ps:Array Tmp} {assign body:Code} {f:FuncId} {p q:List Value} [hc:GoFn P f] (hg:evalO e g=some (.func (.func f) p.toArray q.toArray))
  (hcall:∀ L,L=AObj.loop .ready none N e ps assign body→ACall P f (p++[.func (.yield (σ.length+1)) #[] #[]]++q) (σ++[.dfr,L]) (fun _ σ2=>afterRange P n0 N Q e (σ.length::mk) (σ.length+1) σ2)) :
  WCode P n0 N none (.rangeFunc g ps assign body) Q e mk σ:=W_rangeFunc hg (hcall _ rfl)
theorem roundA_n {P:Program} {n1 N' l:Nat} {body:Code} {QB:Post} {e1:Env} {mk1:List Nat} {σ1:Heap} {N2:Nat} {e2:Env} {ps2:Array Tmp} {as2 bd2:Code} {pend:Option Code} (h1:σ1[l]?=some (.loop .ready pend N2 e2 ps2 as2 bd2))
  (h2:WCode P n1 N' (some l) body QB e1 mk1 (σ1.set l (.loop .busy pend N2 e2 ps2 as2 bd2))):roundA P n1 N' l body QB .normal e1 mk1 σ1:=⟨_,_,_,_,_,_,h1,h2⟩
theorem roundB_n {P:Program} {n0 N:Nat} {all rest:List Oper} {K:Env→List Nat→Heap→Prop} {d l:Nat} {e e1:Env} {mk mk1:List Nat} {σ2:Heap} {o:AObj} (h1:σ2[l]?=some o) (h2:isLoop o=true) (h3:WOps P n0 N none all rest K ((d,.bool true)::e) mk (σ2.set l (loopSt .ready none o))) :
  roundB P n0 N all rest K d l e mk .normal e1 mk1 σ2:=⟨o,h1,h2,h3⟩
theorem ret1 {P:Program} {σin:Heap} {rv:List ResultVar} {R:Value→Heap→Prop} {vs:List Value} {v2:Value} {σ2:Heap} {m:Nat} (hd:σ[m]?=some .dfr) (hr:ResOk P e (σ.set m .dead) rv vs) (href:RetRef σin (σ.set m .dead) (retV vs) v2 σ2) (hR:R v2 σ2) :
  retQ P σin rv R .ret e [m] σ:=⟨by simp,fun i hi=>by rw [List.mem_singleton.1 hi];exact hd,vs,v2,σ2,hr,href,hR⟩
theorem env_closed {m:Nat}:∀ {e:Env},(∀ p ∈ e,closed m p.2=true∧okV p.2=true)→∀ t v,Env.get e t=some v→closed m v=true∧okV v=true:=fun h _t _v hv=>h _ (env_mem hv)
end
theorem osub_rwp {σ:Heap} {n j k:Nat} {π:Rho} {cs:List Value} (hk:π k=⟨j,0,0⟩) (h:σ[j]?=some (.rw cs)∨∃ t,σ[j]?=some (.gr cs t)) (hp:plainL cs=true):OSub σ n π (π k) (.rw cs) :=
 .inr ⟨by rw [hk],cs,by rw [hk];exact h,Nat.le_refl _,fun i hi _=>vrel_plainL cs hp i hi⟩
theorem srcR_at {n j:Nat}:srcR n [j] n=⟨j,0,0⟩:=by simp [srcR]
theorem retSl {σin σ:Heap} {cs:List Value} {n j sz:Nat} {v:Value} (hσ:σ.take σin.length=σin) (hp:plainL cs=true) (hg:σ[j]?=some (.rw cs)∨∃ t,σ[j]?=some (.gr cs t)) (hj:Nat.ble σin.length j=true) (hv:plain v=true) :
  RetRef σin σ (.tuple #[slvV j sz n,v]) (.tuple #[.slice (some ⟨σin.length,0,none⟩) n n,v]) (σin++[.rw cs]):=by
 refine RetRef.src [.rw cs] [j] hσ rfl (by simp [distinctFrom,hj]) ⟨osub_rwp srcR_at hg hp,trivial⟩ ?_
 refine .tuple _ _ rfl fun i hi _=>?_
 match i,hi with
 |0,_=>exact vsub_slvR (by simp) srcR_at
 |1,_=>exact vrel_plain _ hv
theorem retNil {σin σ:Heap} {v:Value} (hσ:σ.take σin.length=σin) (hv:plain v=true) :
  RetRef σin σ (.tuple #[.slice none 0 0,v]) (.tuple #[.slice (some ⟨σin.length,0,none⟩) 0 0,v]) (σin++[.rw []]):=by
 refine RetRef.src [.rw []] [σin.length] hσ rfl (by simp [distinctFrom]) ⟨.inl rfl,trivial⟩ ?_
 refine .tuple _ _ rfl fun i hi _=>?_
 match i,hi with
 |0,_=>exact .emptySlice _ _ _ _
 |1,_=>exact vrel_plain _ hv
theorem zc_ints:∀ n:Nat,zcells (vcells (Value.int .i64 0)) n=ints (List.replicate n 0)
 |0=>rfl
 |n+1=>by
  have:=zc_ints n
  simp only [zcells,this,List.replicate_succ,ints,List.map_cons]
  rfl
theorem retOne {σin σ:Heap} {cs:List Value} {n j sz:Nat} (hσ:σ.take σin.length=σin) (hp:plainL cs=true) (hg:σ[j]?=some (.rw cs)∨∃ t,σ[j]?=some (.gr cs t)) (hj:Nat.ble σin.length j=true) :
  RetRef σin σ (slvV j sz n) (.slice (some ⟨σin.length,0,none⟩) n n) (σin++[.rw cs]) :=
 RetRef.src [.rw cs] [j] hσ rfl (by simp [distinctFrom,hj]) ⟨osub_rwp srcR_at hg hp,trivial⟩ (vsub_slvR (by simp) srcR_at)
theorem ints_cell1 (l:List Int):(ints l).all (·.oneCell')=true:=by
 simp only [List.all_eq_true,ints,List.mem_map]
 rintro x ⟨y,_,rfl⟩
 rfl
theorem ints_app (a:List Int) (x:Int):ints (a++[x])=ints a++[.int .i64 x]:=by simp [ints]
theorem splice_ints {L:List Int} {i:Nat} {a:Int} (h:i<L.length):splice (ints L) (0+i*1) [.int .i64 a]=ints (L.set i a):=by
 unfold splice ints
 rw [List.set_eq_take_append_cons_drop,if_pos h]
 simp [List.map_take,List.map_drop]
theorem okV_slv {i sz k:Nat}:okV (slvV i sz k)=true:=by cases k <;> rfl
end Go.AH
namespace Go.AH.Dust
open Go Go.AH
structure Shp where
 d:List Int
 f:List (Int×Int)
 s:List Int
def gf (f:List (Int×Int)) (i:Nat):Int×Int:=f.getD i (0,0)
def pc:List (Int×Int)→List Value
 |[]=>[]
 |p::l=>.int .i64 p.1::.int .i64 p.2::pc l
theorem pc_len (f:List (Int×Int)):(pc f).length=2*f.length:=by
 induction f with
 |nil=>rfl
 |cons p f ih=>simp [pc,ih];omega
theorem pc_plain:∀ f,plainL (pc f)=true
 |[]=>rfl
 |p::f=>by simp [pc,plainL,plain,pc_plain f]
theorem pc_drop:∀ {f:List (Int×Int)} {i:Nat},i<f.length→(pc f).drop (i*2)=.int .i64 (gf f i).1::.int .i64 (gf f i).2::pc (f.drop (i+1))
 |p::f,0,_=>by simp [pc,gf]
 |p::f,i+1,h=>by
  have ih:=pc_drop (f:=f) (i:=i) (by simpa using h)
  rw [show (i+1)*2=i*2+2 by omega]
  simp only [pc,List.drop_succ_cons]
  rw [ih];simp [gf]
 |[],_,h=>by simp at h
theorem pc_at0 {f:List (Int×Int)} {i:Nat} (h:i<f.length):(pc f)[i*2]?=some (.int .i64 (gf f i).1):=by
 have:=pc_drop h
 have e:(pc f)[i*2]?=((pc f).drop (i*2))[0]?:=by rw [List.getElem?_drop];rfl
 rw [e,this];rfl
theorem pc_at1 {f:List (Int×Int)} {i:Nat} (h:i<f.length):(pc f)[i*2+1]?=some (.int .i64 (gf f i).2):=by
 have:=pc_drop h
 have e:(pc f)[i*2+1]?=((pc f).drop (i*2))[1]?:=by rw [List.getElem?_drop]
 rw [e,this];rfl
theorem pc_cells {σ:Heap} {f:List (Int×Int)} {x i:Nat} (hx:arrAt σ x (pc f)) (hi:i<f.length):cellsAt σ x (0+i*2) 2=some [.int .i64 (gf f i).1,.int .i64 (gf f i).2]:=by
 have hl:=pc_len f
 have ht:((pc f).drop (i*2)).take 2=[.int .i64 (gf f i).1,.int .i64 (gf f i).2]:=by rw [pc_drop hi];rfl
 rcases hx with h|h|⟨t,h⟩ <;> simp only [cellsAt,h] <;> rw [show Nat.ble (0+i*2+2) (pc f).length=true from Nat.ble_eq.mpr (by omega),Nat.zero_add,ht] <;> rfl
theorem pc_get0 {σ:Heap} {f:List (Int×Int)} {x i:Nat} (hx:arrAt σ x (pc f)) (hi:i<f.length):cellGet σ x (0+i*2+0*1)=some (.int .i64 (gf f i).1):=by
 rcases hx with h|h|⟨t,h⟩ <;> simp [cellGet,h,pc_at0 hi]
theorem pc_get1 {σ:Heap} {f:List (Int×Int)} {x i:Nat} (hx:arrAt σ x (pc f)) (hi:i<f.length):cellGet σ x (0+i*2+1*1)=some (.int .i64 (gf f i).2):=by
 rcases hx with h|h|⟨t,h⟩ <;> simp [cellGet,h,pc_at1 hi]
abbrev sl (x k:Nat):Value:=.slice (some ⟨x,0,none⟩) k k
abbrev shL (x y z:Nat) (S:Shp):List Value:=[sl x S.d.length,sl y S.f.length,sl z S.s.length]
abbrev shV (x y z:Nat) (S:Shp):Value:=.agg #[sl x S.d.length,sl y S.f.length,sl z S.s.length]
abbrev Shp.css (S:Shp):List (List Value):=[ints S.d,pc S.f,ints S.s]
abbrev Shp.hp (S:Shp):Heap:=[.ro (ints S.d),.ro (pc S.f),.ro (ints S.s)]
structure Shp.fit (S:Shp):Prop where
 d:S.d.length≤9223372036854775807
 f:S.f.length≤9223372036854775807
 s:S.s.length≤9223372036854775807
def SAt (σ:Heap) (x y z:Nat) (S:Shp):Prop:=arrAt σ x (ints S.d)∧arrAt σ y (pc S.f)∧arrAt σ z (ints S.s)
theorem SAt.arrs {σ:Heap} {x y z:Nat} {S:Shp} (h:SAt σ x y z S):ArrsAt σ S.css [x,y,z]:=⟨h.1,h.2.1,h.2.2,trivial⟩
theorem Shp.css_plain (S:Shp):S.css.all plainL=true:=by simp [ints_plain,pc_plain]
def ShS (x y z:Nat) (S:Shp) (v:Value):Prop:=VSub 3 (bsR [x,y,z]) (shV 0 1 2 S) v
theorem vsub_agg3 {n:Nat} {π:Rho} {a b c a' b' c':Value} (h1:VSub n π a a') (h2:VSub n π b b') (h3:VSub n π c c'):VSub n π (.agg #[a,b,c]) (.agg #[a',b',c']):=by
 refine .agg _ _ rfl fun i h _=>?_
 match i,h with
 |0,_=>exact h1
 |1,_=>exact h2
 |2,_=>exact h3
theorem shS_of {x y z:Nat} {S:Shp} {a b c:Value} (h1:VSub 3 (bsR [x,y,z]) (sl 0 S.d.length) a) (h2:VSub 3 (bsR [x,y,z]) (sl 1 S.f.length) b) (h3:VSub 3 (bsR [x,y,z]) (sl 2 S.s.length) c):ShS x y z S (.agg #[a,b,c]):=vsub_agg3 h1 h2 h3
theorem shS_self {x y z:Nat} {S:Shp}:ShS x y z S (shV x y z S):=shS_of (vsub_sl (by omega) rfl (Nat.le_refl _)) (vsub_sl (by omega) rfl (Nat.le_refl _)) (vsub_sl (by omega) rfl (Nat.le_refl _))
abbrev isW (S:Shp) (n:Int):Prop:=0≤n∧n<S.d.length
end Go.AH.Dust
namespace Go.Proofs.Ytomioaiojidnbaa
open Go Go.AH
attribute [local irreducible] WOps WCode WFree retQ thenQ blockQ scopeQ OpOk ACall RetRef roundA roundB
set_option maxRecDepth 100000
set_option maxHeartbeats 1000000
open Go.AH.Dust
theorem within1_ok (n lo hi:Int):Ev Try.prog 82 [.int .i64 n,.pointer (some ⟨0,0,none⟩),.pointer (some ⟨1,0,none⟩)] [.ro [.int .i64 lo],.ro [.int .i64 hi]] (.bool (decide (n<lo∨n > hi))) [.ro [.int .i64 lo],.ro [.int .i64 hi]]:=by
 refine acall_intro 2 13 Try.func82 rfl rfl rfl rfl rfl ?_
 repeat' (first|(refine gU ?_;first|(refine gMove ?_;first|refine st (ok_move rfl) rfl rfl ?_)|(refine gAssign ?_;first|refine st (ok_assign rfl) rfl rfl ?_)|(refine gLoad ?_;first|refine st (ok_load rfl (by first|rfl|assumption|exact hc1 (by omega)|exact hc2 (by omega))) rfl rfl ?_|refine st (ok_loadA rfl (by first|rfl|assumption|exact hc1 (by omega)|exact hc2 (by omega))) rfl rfl ?_)|(refine gBin ?_;first|refine st (ok_bin rfl rfl rfl) rfl rfl ?_)|(refine gPick ?_;first|refine st (ok_pickTA rfl rfl) rfl rfl ?_|refine st (ok_pickFA rfl rfl) rfl rfl ?_))|(refine gG ?_;first|(refine gMove ?_;first|refine stGA rfl (ok_move rfl) rfl rfl ?_)|(refine gLoad ?_;first|refine stGA rfl (ok_load rfl (by first|rfl|assumption|exact hc1 (by omega)|exact hc2 (by omega))) rfl rfl ?_|refine stGA rfl (ok_loadA rfl (by first|rfl|assumption|exact hc1 (by omega)|exact hc2 (by omega))) rfl rfl ?_)|(refine gBin ?_;first|refine stGA rfl (ok_bin rfl rfl rfl) rfl rfl ?_)|refine stSU rfl rfl ?_|refine stSA rfl rfl ?_|((fail_if_success (refine stGkA rfl ?_));first|(refine stGdD rfl ?_ ?_ <;> intro _)|(refine stGd rfl ?_ ?_ <;> intro _)))|refine W_seq ?_|refine W_region ?_|refine st_nil ?_|refine tq_n ?_|refine tq_r ?_|refine tq_e ?_|refine bq_n ?_|refine bq_r ?_|refine bq_hit rfl ?_|refine bq_miss rfl ?_|refine W_skip ?_|refine W_exit ?_|refine W_ret ?_|refine W_block ?_|refine W_scope ?_|refine W_label ?_|refine sq_n ?_|refine sq_r ?_|refine sq_e ?_|refine W_condTA rfl ?_|refine W_condFA rfl ?_|(refine W_condD rfl ?_ ?_ <;> intro _)|(refine W_cond rfl ?_ ?_ <;> intro _))
 all_goals
  refine ret0 (.tmp rfl .nil) (.plain rfl rfl) ⟨?_,rfl⟩
  simp only [retV,Value.bool.injEq]
  first|(simp;omega)|(simp_all;done)
theorem within1_ev {σ:Heap} {n lo hi:Int} {a b:Nat} (ha:arrAt σ a [.int .i64 lo]) (hb:arrAt σ b [.int .i64 hi]) (hni:σ.all (fun o=>!isIter o)=true) :
  Ev Try.prog 82 [.int .i64 n,.pointer (some ⟨a,0,none⟩),.pointer (some ⟨b,0,none⟩)] σ (.bool (decide (n<lo∨n > hi))) σ :=
 Ev.arrs [[.int .i64 lo],[.int .i64 hi]] [a,b] (within1_ok n lo hi) ⟨ha,hb,trivial⟩ ⟨.int _ _,by simpa [bsR] using VQ.ptr (q:=true) (n:=2) (ρ:=bsR [a,b]) 0 0 (by omega),by simpa [bsR] using VQ.ptr (q:=true) (n:=2) (ρ:=bsR [a,b]) 1 0 (by omega),trivial⟩ rfl rfl hni
theorem indexFunc_ok (l:List Int) (lo hi:Int) (c:Nat) (hN:l.length≤1000000) :
  Ev Try.prog 92 [.slice (some ⟨0,0,none⟩) l.length c,.func (.func 82) #[] #[.pointer (some ⟨1,0,none⟩),.pointer (some ⟨2,0,none⟩)]] [.ro (ints l),.ro [.int .i64 lo],.ro [.int .i64 hi]] (.int .i64 (badIx lo hi l)) [.ro (ints l),.ro [.int .i64 lo],.ro [.int .i64 hi]]:=by
 refine acall_intro 3 19 Try.func92 rfl rfl rfl rfl rfl ?_
 repeat' (first|(refine gU ?_;first|(refine gMove ?_;first|refine st (ok_move rfl) rfl rfl ?_)|(refine gAssign ?_;first|refine st (ok_assign rfl) rfl rfl ?_)|(refine gLoad ?_;first|refine st (ok_load rfl (by first|rfl|assumption|exact hc1 (by omega)|exact hc2 (by omega))) rfl rfl ?_|refine st (ok_loadA rfl (by first|rfl|assumption|exact hc1 (by omega)|exact hc2 (by omega))) rfl rfl ?_)|(refine gAdd ?_;first|refine st (ok_inc rfl rfl (by omega)) rfl rfl ?_|refine st (ok_add rfl rfl (by omega) (by omega)) rfl rfl ?_|refine st (ok_bin rfl rfl rfl) rfl rfl ?_)|(refine gBin ?_;first|refine st (ok_bin rfl rfl rfl) rfl rfl ?_)|(refine gLen ?_;first|refine st (ok_len rfl) rfl rfl ?_|refine st (ok_lenV rfl) rfl rfl ?_)|(refine gIA ?_;first|refine st (ok_idxN rfl rfl (by omega)) rfl rfl ?_|refine st (ok_idxSN rfl rfl (by omega)) rfl rfl ?_|refine st (ok_idxAN rfl rfl (by omega)) rfl rfl ?_|refine st (ok_idx rfl rfl (by omega) (by omega)) rfl rfl ?_|refine st (ok_idxG rfl rfl (by omega) (by omega)) rfl rfl ?_|refine st (ok_idxA rfl rfl (by omega) (by omega)) rfl rfl ?_)|(refine gCall ?_;first|refine st (ok_call rfl rfl rfl (by first|exact within1_ev (by first|exact .inl rfl|exact .inr (.inl rfl)|exact .inr (.inr ⟨_,rfl⟩)|assumption) (by first|exact .inl rfl|exact .inr (.inl rfl)|exact .inr (.inr ⟨_,rfl⟩)|assumption) rfl|exact indexFunc_ev (by first|exact .inl rfl|exact .inr (.inl rfl)|exact .inr (.inr ⟨_,rfl⟩)|assumption) (by first|exact .inl rfl|exact .inr (.inl rfl)|exact .inr (.inr ⟨_,rfl⟩)|assumption) (by first|exact .inl rfl|exact .inr (.inl rfl)|exact .inr (.inr ⟨_,rfl⟩)|assumption) (by omega) rfl|exact containsFunc_ev (by first|exact .inl rfl|exact .inr (.inl rfl)|exact .inr (.inr ⟨_,rfl⟩)|assumption) (by first|exact .inl rfl|exact .inr (.inl rfl)|exact .inr (.inr ⟨_,rfl⟩)|assumption) (by first|exact .inl rfl|exact .inr (.inl rfl)|exact .inr (.inr ⟨_,rfl⟩)|assumption) (by omega) rfl)) rfl rfl ?_))|refine W_seq ?_|refine W_region ?_|refine st_nil ?_|refine tq_n ?_|refine tq_r ?_|refine tq_e ?_|refine bq_n ?_|refine bq_r ?_|refine bq_hit rfl ?_|refine bq_miss rfl ?_|refine W_skip ?_|refine W_exit ?_|refine W_ret ?_|refine W_block ?_|refine W_scope ?_|refine W_label ?_|refine sq_n ?_|refine sq_r ?_|refine sq_e ?_|refine W_condTA rfl ?_|refine W_condFA rfl ?_|(refine W_condD rfl ?_ ?_ <;> intro _)|(refine W_cond rfl ?_ ?_ <;> intro _))
 refine W_loopS (ι:=Nat) (fun i=>[(0,.slice (some ⟨0,0,none⟩) l.length c),(1,.func (.func 82) #[] #[.pointer (some ⟨1,0,none⟩),.pointer (some ⟨2,0,none⟩)]),(7,.int .i64 (l.length:Int)),(8,.int .i64 (i:Int))])
  (fun _=>[.ro (ints l),.ro [.int .i64 lo],.ro [.int .i64 hi]]) (fun i=>l.length - i) (fun i=>i≤l.length∧∀ j<i,¬ (gi l j<lo∨gi l j > hi)) 0 (by simp) (.same ⟨rfl,rfl,rfl,rfl,trivial⟩) ⟨by omega,fun j h=>by omega⟩ ?_
 intro i ⟨hi',hall⟩
 have hc1:i<l.length→cellGet [.ro (ints l),.ro [.int .i64 lo],.ro [.int .i64 hi]] 0 i=some (.int .i64 (gi l i)):=fun h=>ints_get h
 repeat' (first|(refine gU ?_;first|(refine gMove ?_;first|refine st (ok_move rfl) rfl rfl ?_)|(refine gAssign ?_;first|refine st (ok_assign rfl) rfl rfl ?_)|(refine gLoad ?_;first|refine st (ok_load rfl (by first|rfl|assumption|exact hc1 (by omega)|exact hc2 (by omega))) rfl rfl ?_|refine st (ok_loadA rfl (by first|rfl|assumption|exact hc1 (by omega)|exact hc2 (by omega))) rfl rfl ?_)|(refine gAdd ?_;first|refine st (ok_inc rfl rfl (by omega)) rfl rfl ?_|refine st (ok_add rfl rfl (by omega) (by omega)) rfl rfl ?_|refine st (ok_bin rfl rfl rfl) rfl rfl ?_)|(refine gBin ?_;first|refine st (ok_bin rfl rfl rfl) rfl rfl ?_)|(refine gLen ?_;first|refine st (ok_len rfl) rfl rfl ?_|refine st (ok_lenV rfl) rfl rfl ?_)|(refine gIA ?_;first|refine st (ok_idxN rfl rfl (by omega)) rfl rfl ?_|refine st (ok_idxSN rfl rfl (by omega)) rfl rfl ?_|refine st (ok_idxAN rfl rfl (by omega)) rfl rfl ?_|refine st (ok_idx rfl rfl (by omega) (by omega)) rfl rfl ?_|refine st (ok_idxG rfl rfl (by omega) (by omega)) rfl rfl ?_|refine st (ok_idxA rfl rfl (by omega) (by omega)) rfl rfl ?_)|(refine gCall ?_;first|refine st (ok_call rfl rfl rfl (by first|exact within1_ev (by first|exact .inl rfl|exact .inr (.inl rfl)|exact .inr (.inr ⟨_,rfl⟩)|assumption) (by first|exact .inl rfl|exact .inr (.inl rfl)|exact .inr (.inr ⟨_,rfl⟩)|assumption) rfl|exact indexFunc_ev (by first|exact .inl rfl|exact .inr (.inl rfl)|exact .inr (.inr ⟨_,rfl⟩)|assumption) (by first|exact .inl rfl|exact .inr (.inl rfl)|exact .inr (.inr ⟨_,rfl⟩)|assumption) (by first|exact .inl rfl|exact .inr (.inl rfl)|exact .inr (.inr ⟨_,rfl⟩)|assumption) (by omega) rfl|exact containsFunc_ev (by first|exact .inl rfl|exact .inr (.inl rfl)|exact .inr (.inr ⟨_,rfl⟩)|assumption) (by first|exact .inl rfl|exact .inr (.inl rfl)|exact .inr (.inr ⟨_,rfl⟩)|assumption) (by first|exact .inl rfl|exact .inr (.inl rfl)|exact .inr (.inr ⟨_,rfl⟩)|assumption) (by omega) rfl)) rfl rfl ?_))|refine W_seq ?_|refine W_region ?_|refine st_nil ?_|refine tq_n ?_|refine tq_r ?_|refine tq_e ?_|refine bq_n ?_|refine bq_r ?_|refine bq_hit rfl ?_|refine bq_miss rfl ?_|refine W_skip ?_|refine W_exit ?_|refine W_ret ?_|refine W_block ?_|refine W_scope ?_|refine W_label ?_|refine sq_n ?_|refine sq_r ?_|refine sq_e ?_|refine W_condTA rfl ?_|refine W_condFA rfl ?_|(refine W_condD rfl ?_ ?_ <;> intro _)|(refine W_cond rfl ?_ ?_ <;> intro _))
 ·refine ret0 (.tmp rfl .nil) (.plain rfl rfl) ⟨?_,rfl⟩
  simp only [retV]
  rw [badIx_some (by omega) (by assumption) hall]
 ·refine ⟨rfl,i+1,⟨by omega,fun j hj=>?_⟩,by omega,.same ⟨rfl,rfl,rfl,rfl,trivial⟩⟩
  by_cases hji:j=i
  ·subst hji;assumption
  ·exact hall j (by omega)
 ·refine ret0 (.tmp rfl .nil) (.plain rfl rfl) ⟨?_,rfl⟩
  simp only [retV]
  rw [badIx_none fun j hj=>hall j (by omega)]
theorem indexFunc_ev {σ:Heap} {l:List Int} {lo hi:Int} {x a b c:Nat} (hx:arrAt σ x (ints l)) (ha:arrAt σ a [.int .i64 lo]) (hb:arrAt σ b [.int .i64 hi]) (hN:l.length≤1000000) (hni:σ.all (fun o=>!isIter o)=true) :
  Ev Try.prog 92 [.slice (some ⟨x,0,none⟩) l.length c,.func (.func 82) #[] #[.pointer (some ⟨a,0,none⟩),.pointer (some ⟨b,0,none⟩)]] σ (.int .i64 (badIx lo hi l)) σ :=
 Ev.arrs [ints l,[.int .i64 lo],[.int .i64 hi]] [x,a,b] (indexFunc_ok l lo hi c hN) ⟨hx,ha,hb,trivial⟩
  ⟨by simpa [bsR] using VQ.slice (q:=true) (n:=3) (ρ:=bsR [x,a,b]) 0 0 l.length c c (Nat.le_refl _) (by omega),
   vsub_fn2 (by simpa [bsR] using VQ.ptr (q:=true) (n:=3) (ρ:=bsR [x,a,b]) 1 0 (by omega)) (by simpa [bsR] using VQ.ptr (q:=true) (n:=3) (ρ:=bsR [x,a,b]) 2 0 (by omega)),trivial⟩ (by simp [ints_plain,plainL,plain]) rfl hni
theorem containsFunc_ok (l:List Int) (lo hi:Int) (c:Nat) (hN:l.length≤1000000) :
  Ev Try.prog 81 [.slice (some ⟨0,0,none⟩) l.length c,.func (.func 82) #[] #[.pointer (some ⟨1,0,none⟩),.pointer (some ⟨2,0,none⟩)]] [.ro (ints l),.ro [.int .i64 lo],.ro [.int .i64 hi]] (.bool (decide (badIx lo hi l≥0))) [.ro (ints l),.ro [.int .i64 lo],.ro [.int .i64 hi]]:=by
 refine acall_intro 3 9 Try.func81 rfl rfl rfl rfl rfl ?_
 repeat' (first|(refine gU ?_;first|(refine gMove ?_;first|refine st (ok_move rfl) rfl rfl ?_)|(refine gAssign ?_;first|refine st (ok_assign rfl) rfl rfl ?_)|(refine gBin ?_;first|refine st (ok_bin rfl rfl rfl) rfl rfl ?_)|(refine gCall ?_;first|refine st (ok_call rfl rfl rfl (by first|exact within1_ev (by first|exact .inl rfl|exact .inr (.inl rfl)|exact .inr (.inr ⟨_,rfl⟩)|assumption) (by first|exact .inl rfl|exact .inr (.inl rfl)|exact .inr (.inr ⟨_,rfl⟩)|assumption) rfl|exact indexFunc_ev (by first|exact .inl rfl|exact .inr (.inl rfl)|exact .inr (.inr ⟨_,rfl⟩)|assumption) (by first|exact .inl rfl|exact .inr (.inl rfl)|exact .inr (.inr ⟨_,rfl⟩)|assumption) (by first|exact .inl rfl|exact .inr (.inl rfl)|exact .inr (.inr ⟨_,rfl⟩)|assumption) (by omega) rfl|exact containsFunc_ev (by first|exact .inl rfl|exact .inr (.inl rfl)|exact .inr (.inr ⟨_,rfl⟩)|assumption) (by first|exact .inl rfl|exact .inr (.inl rfl)|exact .inr (.inr ⟨_,rfl⟩)|assumption) (by first|exact .inl rfl|exact .inr (.inl rfl)|exact .inr (.inr ⟨_,rfl⟩)|assumption) (by omega) rfl)) rfl rfl ?_))|refine W_seq ?_|refine W_region ?_|refine st_nil ?_|refine tq_n ?_|refine tq_r ?_|refine tq_e ?_|refine bq_n ?_|refine bq_r ?_|refine bq_hit rfl ?_|refine bq_miss rfl ?_|refine W_skip ?_|refine W_exit ?_|refine W_ret ?_|refine W_block ?_|refine W_scope ?_|refine W_label ?_|refine sq_n ?_|refine sq_r ?_|refine sq_e ?_|refine W_condTA rfl ?_|refine W_condFA rfl ?_|(refine W_condD rfl ?_ ?_ <;> intro _)|(refine W_cond rfl ?_ ?_ <;> intro _))
 refine ret0 (.tmp rfl .nil) (.plain rfl rfl) ⟨?_,rfl⟩
 rfl
theorem containsFunc_ev {σ:Heap} {l:List Int} {lo hi:Int} {x a b c:Nat} (hx:arrAt σ x (ints l)) (ha:arrAt σ a [.int .i64 lo]) (hb:arrAt σ b [.int .i64 hi]) (hN:l.length≤1000000) (hni:σ.all (fun o=>!isIter o)=true) :
  Ev Try.prog 81 [.slice (some ⟨x,0,none⟩) l.length c,.func (.func 82) #[] #[.pointer (some ⟨a,0,none⟩),.pointer (some ⟨b,0,none⟩)]] σ (.bool (decide (badIx lo hi l≥0))) σ :=
 Ev.arrs [ints l,[.int .i64 lo],[.int .i64 hi]] [x,a,b] (containsFunc_ok l lo hi c hN) ⟨hx,ha,hb,trivial⟩
  ⟨by simpa [bsR] using VQ.slice (q:=true) (n:=3) (ρ:=bsR [x,a,b]) 0 0 l.length c c (Nat.le_refl _) (by omega),
   vsub_fn2 (by simpa [bsR] using VQ.ptr (q:=true) (n:=3) (ρ:=bsR [x,a,b]) 1 0 (by omega)) (by simpa [bsR] using VQ.ptr (q:=true) (n:=3) (ρ:=bsR [x,a,b]) 2 0 (by omega)),trivial⟩ (by simp [ints_plain,plainL,plain]) rfl hni
theorem within_ok (l:List Int) (lo hi:Int) (c:Nat) (hN:l.length≤1000000) :
  Ev Try.prog 58 [.int .i64 lo,.int .i64 hi,.slice (some ⟨0,0,none⟩) l.length c] [.ro (ints l)] (.bool (decide (¬ (badIx lo hi l≥0)))) [.ro (ints l)]:=by
 refine acall_intro 1 11 Try.func58 rfl rfl rfl rfl rfl ?_
 repeat' (first|(refine gU ?_;first|(refine gMove ?_;first|refine st (ok_move rfl) rfl rfl ?_)|(refine gAssign ?_;first|refine st (ok_assign rfl) rfl rfl ?_)|(refine gNot ?_;first|refine st (ok_notD rfl) rfl rfl ?_|refine st (ok_not' rfl) rfl rfl ?_)|(refine gMkF ?_;first|refine st (ok_makeFunc rfl rfl) rfl rfl ?_)|(refine gCall ?_;first|refine st (ok_call rfl rfl rfl (by first|exact within1_ev (by first|exact .inl rfl|exact .inr (.inl rfl)|exact .inr (.inr ⟨_,rfl⟩)|assumption) (by first|exact .inl rfl|exact .inr (.inl rfl)|exact .inr (.inr ⟨_,rfl⟩)|assumption) rfl|exact indexFunc_ev (by first|exact .inl rfl|exact .inr (.inl rfl)|exact .inr (.inr ⟨_,rfl⟩)|assumption) (by first|exact .inl rfl|exact .inr (.inl rfl)|exact .inr (.inr ⟨_,rfl⟩)|assumption) (by first|exact .inl rfl|exact .inr (.inl rfl)|exact .inr (.inr ⟨_,rfl⟩)|assumption) (by omega) rfl|exact containsFunc_ev (by first|exact .inl rfl|exact .inr (.inl rfl)|exact .inr (.inr ⟨_,rfl⟩)|assumption) (by first|exact .inl rfl|exact .inr (.inl rfl)|exact .inr (.inr ⟨_,rfl⟩)|assumption) (by first|exact .inl rfl|exact .inr (.inl rfl)|exact .inr (.inr ⟨_,rfl⟩)|assumption) (by omega) rfl)) rfl rfl ?_)|(refine gBox ?_;first|refine st (ok_box rfl) rfl rfl ?_))|refine W_seq ?_|refine W_region ?_|refine st_nil ?_|refine tq_n ?_|refine tq_r ?_|refine tq_e ?_|refine bq_n ?_|refine bq_r ?_|refine bq_hit rfl ?_|refine bq_miss rfl ?_|refine W_skip ?_|refine W_exit ?_|refine W_ret ?_|refine W_block ?_|refine W_scope ?_|refine W_label ?_|refine sq_n ?_|refine sq_r ?_|refine sq_e ?_|refine W_condTA rfl ?_|refine W_condFA rfl ?_|(refine W_condD rfl ?_ ?_ <;> intro _)|(refine W_cond rfl ?_ ?_ <;> intro _))
 refine ret0 (.tmp rfl .nil) (.plain rfl rfl) ⟨?_,rfl⟩
 rfl
theorem within_ev {σ:Heap} {l:List Int} {lo hi:Int} {x c:Nat} (hx:arrAt σ x (ints l)) (hN:l.length≤1000000) (hni:σ.all (fun o=>!isIter o)=true) :
  Ev Try.prog 58 [.int .i64 lo,.int .i64 hi,.slice (some ⟨x,0,none⟩) l.length c] σ (.bool (decide (¬ (badIx lo hi l≥0)))) σ :=
 Ev.arrs [ints l] [x] (within_ok l lo hi c hN) ⟨hx,trivial⟩ ⟨.int _ _,.int _ _,by simpa [bsR] using VQ.slice (q:=true) (n:=1) (ρ:=bsR [x]) 0 0 l.length c c (Nat.le_refl _) (by omega),trivial⟩ (by simp [ints_plain]) rfl hni
end Go.Proofs.Ytomioaiojidnbaa
namespace Go.AH
open Go
def prtAt (σ:Heap) (p:Nat×Nat) (cs:List Value):Prop:=∃ all,arrAt σ p.1 all∧(all.drop p.2).take cs.length=cs∧p.2+cs.length≤all.length
theorem prtAt_arr {σ:Heap} {b:Nat} {cs:List Value} (h:arrAt σ b cs):prtAt σ (b,0) cs:=⟨cs,h,by simp,by simp⟩
theorem cellsAt_prt {σ:Heap} {p:Nat×Nat} {cs:List Value} (h:prtAt σ p cs):cellsAt σ p.1 p.2 cs.length=some cs:=by
 obtain ⟨all,h,h1,h2⟩:=h
 have e:(p.2+cs.length).ble all.length=true:=Nat.ble_eq_true_of_le h2
 rcases h with h|h|⟨t,h⟩ <;> simp [cellsAt,h,e,h1]
def PartsAt (σ:Heap):List (List Value)→List (Nat×Nat)→Prop
 |[],[]=>True
 |c::cs,b::bs=>prtAt σ b c∧PartsAt σ cs bs
 |_,_=>False
def psR (bs:List (Nat×Nat)):Rho:=fun k=>match bs[k]? with|some b=>⟨b.1,b.2,0⟩|none=>⟨k,0,0⟩
theorem partsAt_get {σ:Heap}:∀ {cs:List (List Value)} {bs:List (Nat×Nat)},PartsAt σ cs bs→∀ (k:Nat) (c:List Value),cs[k]?=some c→∃ b,bs[k]?=some b∧prtAt σ b c
 |[],[],_,k,c,hk=>by simp at hk
 |c0::cs,b0::bs,h,k,c,hk=>by
  cases k with
  |zero=>simp at hk;subst hk;exact ⟨b0,rfl,h.1⟩
  |succ k=>exact partsAt_get h.2 k c (by simpa using hk)
 |[],_::_,h,_,_,_=>h.elim
 |_::_,[],h,_,_,_=>h.elim
section
variable {P:Program} {σ:Heap} {f:FuncId}
theorem Ev.partsN {args1 args:List Value} {v1 v:Value} {news news':Heap} (css:List (List Value)) (bs:List (Nat×Nat)) (h:Ev P f args1 (css.map .ro) v1 (css.map .ro++news)) (hb:PartsAt σ css bs) (ha:AS css.length (psR bs) args1 args)
  (hpl:css.all plainL=true) (hm:news.all isMem=true) (hv:ren (shf css.length σ.length (psR bs)) v1=v) (hn:news.map (renO (shf css.length σ.length (psR bs)))=news') (hni:σ.all (fun o=>!isIter o)=true):Ev P f args σ v (σ++news'):=by
 obtain ⟨h1,h2⟩:=as_get ha
 subst hv hn
 refine ACall.frame (π:=psR bs) h (fun k o hk=>?_) (fun k hk=>?_) hni h1 (by simpa using h2) ?_
 ·rw [List.getElem?_map] at hk
  obtain ⟨c,hc,rfl⟩:=Option.map_eq_some_iff.1 hk
  obtain ⟨b,g1,g2⟩:=partsAt_get hb k c hc
  refine .inl ⟨c,rfl,.inr ⟨c,?_,fun j hj _=>vrel_plainL c (List.all_eq_true.1 hpl c (List.mem_of_getElem? hc)) j hj⟩⟩
  simp only [psR,g1]
  exact cellsAt_prt g2
 ·simp only [List.length_map] at hk
  obtain ⟨b,g1,g2⟩:=partsAt_get hb k css[k] (by simp [hk])
  simp only [psR,g1]
  obtain ⟨all,g2,_⟩:=g2
  rcases g2 with g2|g2|⟨t,g2⟩ <;> exact idx_lt g2
 ·rintro v2 s1 ⟨rfl,rfl⟩
  exact ⟨news,rfl,hm,by simp⟩
theorem Ev.parts {args1 args:List Value} {v:Value} (css:List (List Value)) (bs:List (Nat×Nat)) (h:Ev P f args1 (css.map .ro) v (css.map .ro)) (hb:PartsAt σ css bs) (ha:AS css.length (psR bs) args1 args)
  (hpl:css.all plainL=true) (hv:plain v=true) (hni:σ.all (fun o=>!isIter o)=true):Ev P f args σ v σ:=by
 have:=Ev.partsN (news:=[]) (news':=[]) css bs (by simpa using h) hb ha hpl rfl (ren_plain v hv) rfl hni
 simpa using this
end
end Go.AH
namespace Go.AH.Dust
open Go Go.AH
def ixP (q:Nat→Bool) (n:Nat):Int:=match (List.range n).find? q with|some i=>i|none=>-1
theorem ixP_some {q:Nat→Bool} {n i:Nat} (hi:i<n) (h:q i=true) (hall:∀ j<i,¬ q j=true):ixP q n=i:=by
 have:(List.range n).find? q=some i:=by
  rw [List.find?_range_eq_some]
  exact ⟨h,by simpa using hi,fun j hj=>by simpa using hall j hj⟩
 simp only [ixP,this]
theorem ixP_none {q:Nat→Bool} {n:Nat} (hall:∀ j<n,¬ q j=true):ixP q n=-1:=by
 have:(List.range n).find? q=none:=by
  rw [List.find?_eq_none]
  intro j hj
  simpa using hall j (by simpa using hj)
 simp only [ixP,this]
theorem ixP_iff {q:Nat→Bool} {n:Nat}:ixP q n≥0↔∃ i<n,q i=true:=by
 constructor
 ·intro h
  refine Classical.byContradiction fun hn=>?_
  rw [ixP_none fun j hj hb=>hn ⟨j,hj,hb⟩] at h
  omega
 ·rintro ⟨i,hi',hb⟩
  unfold ixP
  split
  ·omega
  ·rename_i h
   rw [List.find?_eq_none] at h
   exact absurd hb (h i (by simpa using hi'))
theorem mem_gf {f:List (Int×Int)} {p:Int×Int}:p ∈ f↔∃ i<f.length,gf f i=p:=by
 rw [List.mem_iff_getElem]
 constructor
 ·rintro ⟨i,hi,h⟩;exact ⟨i,hi,by simp [gf,hi,h]⟩
 ·rintro ⟨i,hi,h⟩;exact ⟨i,hi,by simpa [gf,hi] using h⟩
theorem mem_gi {l:List Int} {n:Int}:n ∈ l↔∃ i<l.length,gi l i=n:=by
 rw [List.mem_iff_getElem]
 constructor
 ·rintro ⟨i,hi,h⟩;exact ⟨i,hi,by simp [gi,hi,h]⟩
 ·rintro ⟨i,hi,h⟩;exact ⟨i,hi,by simpa [gi,hi] using h⟩
def pF (a b:Int) (i:Nat):Int:=if i=0 then a else b
theorem pA_at (a b:Int):IntsAt (pF a b) 2 [Value.int .i64 a,.int .i64 b].toArray:=by
 intro i hi
 rcases (show i=0∨i=1 by omega) with rfl|rfl <;> rfl
theorem pF_iff {a b c d:Int}:(∀ i ∈ List.range 2,pF a b i=pF c d i)↔(a,b)=(c,d):=by
 constructor
 ·intro h
  have h0:=h 0 (by simp)
  have h1:=h 1 (by simp)
  simp only [pF,if_true,Nat.one_ne_zero,if_false] at h0 h1
  rw [h0,h1]
 ·intro h i hi
  injection h with h1 h2
  rw [h1,h2]
abbrev pV (p:Int×Int):Value:=.agg #[.int .i64 p.1,.int .i64 p.2]
end Go.AH.Dust
namespace Go.Proofs.Ytomioaiojidnbaa
open Go Go.AH
attribute [local irreducible] WOps WCode WFree retQ thenQ blockQ scopeQ OpOk ACall RetRef roundA roundB
set_option maxRecDepth 100000
set_option maxHeartbeats 1000000
open Go.AH.Dust
theorem great_ok (S:Shp) (hS:S.fit):Ev Try.prog 13 [shV 0 1 2 S] S.hp (.bool (decide ((S.d.length:Int) > 15∨(S.f.length:Int) > 70∨(S.s.length:Int) > 15))) S.hp:=by
 have h1:=hS.d
 have h2:=hS.f
 have h3:=hS.s
 by_cases a:(S.d.length:Int) > 15
 ·refine acall_intro 3 19 Try.func13 rfl rfl rfl rfl rfl ?_
  repeat' (first|(refine gU ?_;first|(refine gMove ?_;refine st (ok_move rfl) rfl rfl ?_)|(refine gAssign ?_;refine st (ok_assign rfl) rfl rfl ?_)|(refine gFA ?_;refine st (ok_fieldAddr rfl) rfl rfl ?_)|(refine gLoad ?_;refine st (ok_load rfl (by rfl)) rfl rfl ?_)|(refine gBin ?_;refine st (ok_bin rfl rfl rfl) rfl rfl ?_)|(refine gLen ?_;refine st (ok_len rfl) rfl rfl ?_)|(refine gPick ?_;refine st (ok_pickTA rfl rfl) rfl rfl ?_)|(refine gBox ?_;refine st (ok_box rfl) rfl rfl ?_))|(refine gG ?_;refine stSA rfl rfl ?_)|refine W_seq ?_|refine W_region ?_|refine st_nil ?_|refine tq_n ?_|refine W_ret ?_)
  refine ret0 (.tmp rfl .nil) (.plain rfl rfl) ⟨?_,rfl⟩
  rw [decide_eq_true (.inl a)];rfl
 ·by_cases b:(S.f.length:Int) > 70
  ·refine acall_intro 3 19 Try.func13 rfl rfl rfl rfl rfl ?_
   repeat' (first|(refine gU ?_;first|(refine gMove ?_;refine st (ok_move rfl) rfl rfl ?_)|(refine gAssign ?_;refine st (ok_assign rfl) rfl rfl ?_)|(refine gFA ?_;refine st (ok_fieldAddr rfl) rfl rfl ?_)|(refine gLoad ?_;refine st (ok_load rfl (by rfl)) rfl rfl ?_)|(refine gBin ?_;refine st (ok_bin rfl rfl rfl) rfl rfl ?_)|(refine gLen ?_;refine st (ok_len rfl) rfl rfl ?_)|(refine gPick ?_;first|refine st (ok_pickTA rfl rfl) rfl rfl ?_|refine st (ok_pickFA rfl rfl) rfl rfl ?_)|(refine gBox ?_;refine st (ok_box rfl) rfl rfl ?_))|(refine gG ?_;first|(refine gFA ?_;refine stGA rfl (ok_fieldAddr rfl) rfl rfl ?_)|(refine gLoad ?_;refine stGA rfl (ok_load rfl (by rfl)) rfl rfl ?_)|(refine gBin ?_;refine stGA rfl (ok_bin rfl rfl rfl) rfl rfl ?_)|(refine gLen ?_;refine stGA rfl (ok_len rfl) rfl rfl ?_)|refine stSA rfl rfl ?_)|refine W_seq ?_|refine W_region ?_|refine st_nil ?_|refine tq_n ?_|refine W_ret ?_)
   refine ret0 (.tmp rfl .nil) (.plain rfl rfl) ⟨?_,rfl⟩
   rw [decide_eq_true (.inr (.inl b))];rfl
  ·refine acall_intro 3 19 Try.func13 rfl rfl rfl rfl rfl ?_
   repeat' (first|(refine gU ?_;first|(refine gMove ?_;refine st (ok_move rfl) rfl rfl ?_)|(refine gAssign ?_;refine st (ok_assign rfl) rfl rfl ?_)|(refine gFA ?_;refine st (ok_fieldAddr rfl) rfl rfl ?_)|(refine gLoad ?_;refine st (ok_load rfl (by rfl)) rfl rfl ?_)|(refine gBin ?_;refine st (ok_bin rfl rfl rfl) rfl rfl ?_)|(refine gLen ?_;refine st (ok_len rfl) rfl rfl ?_)|(refine gPick ?_;refine st (ok_pickFA rfl rfl) rfl rfl ?_)|(refine gBox ?_;refine st (ok_box rfl) rfl rfl ?_))|(refine gG ?_;first|(refine gFA ?_;refine stGA rfl (ok_fieldAddr rfl) rfl rfl ?_)|(refine gLoad ?_;refine stGA rfl (ok_load rfl (by rfl)) rfl rfl ?_)|(refine gBin ?_;refine stGA rfl (ok_bin rfl rfl rfl) rfl rfl ?_)|(refine gLen ?_;refine stGA rfl (ok_len rfl) rfl rfl ?_))|refine W_seq ?_|refine W_region ?_|refine st_nil ?_|refine tq_n ?_|refine W_ret ?_)
   refine ret0 (.tmp rfl .nil) (.plain rfl rfl) ⟨?_,rfl⟩
   simp only [retV,a,b,false_or]
theorem great_ev {σ:Heap} {S:Shp} {x y z:Nat} {v:Value} (h:SAt σ x y z S) (hv:ShS x y z S v) (hS:S.fit) (hni:σ.all (fun o=>!isIter o)=true) :
  Ev Try.prog 13 [v] σ (.bool (decide ((S.d.length:Int) > 15∨(S.f.length:Int) > 70∨(S.s.length:Int) > 15))) σ :=
 Ev.arrs S.css [x,y,z] (great_ok S hS) h.arrs ⟨hv,trivial⟩ S.css_plain rfl hni
theorem isWork_ok (S:Shp) (n:Int) (hS:S.fit):Ev Try.prog 60 [shV 0 1 2 S,.int .i64 n] S.hp (.bool (decide (isW S n))) S.hp:=by
 have h1:=hS.d
 by_cases a:n≥0
 ·refine acall_intro 3 14 Try.func60 rfl rfl rfl rfl rfl ?_
  repeat' (first|(refine gU ?_;first|(refine gMove ?_;refine st (ok_move rfl) rfl rfl ?_)|(refine gAssign ?_;refine st (ok_assign rfl) rfl rfl ?_)|(refine gBin ?_;refine st (ok_bin rfl rfl rfl) rfl rfl ?_)|(refine gPick ?_;refine st (ok_pickTA rfl rfl) rfl rfl ?_)|(refine gBox ?_;refine st (ok_box rfl) rfl rfl ?_))|(refine gG ?_;first|(refine gMove ?_;refine stGA rfl (ok_move rfl) rfl rfl ?_)|(refine gFA ?_;refine stGA rfl (ok_fieldAddr rfl) rfl rfl ?_)|(refine gLoad ?_;refine stGA rfl (ok_load rfl (by rfl)) rfl rfl ?_)|(refine gBin ?_;refine stGA rfl (ok_bin rfl rfl rfl) rfl rfl ?_)|(refine gLen ?_;refine stGA rfl (ok_len rfl) rfl rfl ?_))|refine W_seq ?_|refine W_region ?_|refine st_nil ?_|refine tq_n ?_|refine W_ret ?_)
  refine ret0 (.tmp rfl .nil) (.plain rfl rfl) ⟨?_,rfl⟩
  simp only [retV,Value.bool.injEq,decide_eq_decide];exact ⟨fun h=>⟨a,h⟩,fun h=>h.2⟩
 ·refine acall_intro 3 14 Try.func60 rfl rfl rfl rfl rfl ?_
  repeat' (first|(refine gU ?_;first|(refine gMove ?_;refine st (ok_move rfl) rfl rfl ?_)|(refine gAssign ?_;refine st (ok_assign rfl) rfl rfl ?_)|(refine gBin ?_;refine st (ok_bin rfl rfl rfl) rfl rfl ?_)|(refine gPick ?_;refine st (ok_pickFA rfl rfl) rfl rfl ?_)|(refine gBox ?_;refine st (ok_box rfl) rfl rfl ?_))|(refine gG ?_;refine stSA rfl rfl ?_)|refine W_seq ?_|refine W_region ?_|refine st_nil ?_|refine tq_n ?_|refine W_ret ?_)
  refine ret0 (.tmp rfl .nil) (.plain rfl rfl) ⟨?_,rfl⟩
  rw [decide_eq_false (by omega)];rfl
theorem isWork_ev {σ:Heap} {S:Shp} {n:Int} {x y z:Nat} {v:Value} (h:SAt σ x y z S) (hv:ShS x y z S v) (hS:S.fit) (hni:σ.all (fun o=>!isIter o)=true) :
  Ev Try.prog 60 [v,.int .i64 n] σ (.bool (decide (isW S n))) σ :=
 Ev.arrs S.css [x,y,z] (isWork_ok S n hS) h.arrs ⟨hv,.int _ _,trivial⟩ S.css_plain rfl hni
theorem index83_ok (f:List (Int×Int)) (p:Int×Int) (c:Nat) (hN:f.length≤9223372036854775807) :
  Ev Try.prog 83 [.slice (some ⟨0,0,none⟩) f.length c,pV p] [.ro (pc f)] (.int .i64 (ixP (fun i=>decide (p=gf f i)) f.length)) [.ro (pc f)]:=by
 refine acall_intro 1 19 Try.func83 rfl rfl rfl rfl rfl ?_
 repeat' (first|(refine gU ?_;first|(refine gMove ?_;refine st (ok_move rfl) rfl rfl ?_)|(refine gAssign ?_;refine st (ok_assign rfl) rfl rfl ?_)|(refine gLen ?_;refine st (ok_len rfl) rfl rfl ?_)|(refine gBox ?_;refine st (ok_box rfl) rfl rfl ?_))|refine W_seq ?_|refine W_region ?_|refine st_nil ?_|refine tq_n ?_|refine W_block ?_)
 refine W_loopS (ι:=Nat) (fun i=>[(0,.slice (some ⟨0,0,none⟩) f.length c),(3,.pointer (some ⟨1,0,none⟩)),(7,.int .i64 (f.length:Int)),(8,.int .i64 (i:Int))])
  (fun _=>[.ro (pc f),.rw [.int .i64 p.1,.int .i64 p.2]]) (fun i=>f.length - i) (fun i=>i≤f.length∧∀ j<i,¬ p=gf f j) 0 (by simp) (.same ⟨rfl,rfl,rfl,rfl,trivial⟩) ⟨by omega,fun j h=>by omega⟩ ?_
 intro i ⟨hi',hall⟩
 have hd1:i<f.length→cellsAt [.ro (pc f),.rw [.int .i64 p.1,.int .i64 p.2]] 0 (0+i*2) 2=some [.int .i64 (gf f i).1,.int .i64 (gf f i).2]:=fun h=>pc_cells (.inl rfl) h
 by_cases hil:i<f.length
 ·have hd2:=hd1 hil
  by_cases hq:p=gf f i
  ·have hq':∀ k ∈ List.range 2,pF p.1 p.2 k=pF (gf f i).1 (gf f i).2 k:=pF_iff.2 hq
   repeat' (first|(refine gU ?_;first|refine st (ok_eqArrI rfl rfl rfl rfl rfl (pA_at _ _) (pA_at _ _)) rfl rfl ?_|(refine gMove ?_;refine st (ok_move rfl) rfl rfl ?_)|(refine gAssign ?_;refine st (ok_assign rfl) rfl rfl ?_)|(refine gBin ?_;refine st (ok_bin rfl rfl rfl) rfl rfl ?_))|(refine fU ?_;first|(refine fMove ?_;refine frA (ok_move rfl) rfl ?_)|(refine fLoad ?_;refine frA (ok_loadA rfl (by first|rfl|assumption)) rfl ?_)|(refine fIA ?_;refine frA (ok_idxSN rfl rfl (by omega)) rfl ?_))|(refine fr_stop ⟨by kernel_rfl,?_⟩)|refine W_seq ?_|refine W_region ?_|refine W_regionD (by kernel_rfl) rfl ?_|refine st_nil ?_|refine tq_n ?_|refine tq_r ?_|refine bq_r ?_|refine W_skip ?_|refine W_ret ?_|refine W_block ?_|refine W_condTA rfl ?_)
   refine ret0 (.tmp rfl .nil) (.plain rfl rfl) ⟨?_,rfl⟩
   rw [ixP_some hil (decide_eq_true hq) fun j hj=>by simpa using hall j hj];rfl
  ·have hq':¬ ∀ k ∈ List.range 2,pF p.1 p.2 k=pF (gf f i).1 (gf f i).2 k:=fun h=>hq (pF_iff.1 h)
   repeat' (first|(refine gU ?_;first|refine st (ok_eqArrI rfl rfl rfl rfl rfl (pA_at _ _) (pA_at _ _)) rfl rfl ?_|(refine gMove ?_;refine st (ok_move rfl) rfl rfl ?_)|(refine gAssign ?_;refine st (ok_assign rfl) rfl rfl ?_)|(refine gAdd ?_;refine st (ok_inc rfl rfl (by omega)) rfl rfl ?_)|(refine gBin ?_;refine st (ok_bin rfl rfl rfl) rfl rfl ?_))|(refine fU ?_;first|(refine fMove ?_;refine frA (ok_move rfl) rfl ?_)|(refine fLoad ?_;refine frA (ok_loadA rfl (by first|rfl|assumption)) rfl ?_)|(refine fIA ?_;refine frA (ok_idxSN rfl rfl (by omega)) rfl ?_))|(refine fr_stop ⟨by kernel_rfl,?_⟩)|refine W_seq ?_|refine W_region ?_|refine W_regionD (by kernel_rfl) rfl ?_|refine st_nil ?_|refine tq_n ?_|refine bq_n ?_|refine W_skip ?_|refine W_block ?_|refine W_condTA rfl ?_|refine W_condFA rfl ?_)
   refine ⟨rfl,i+1,⟨by omega,fun j hj=>?_⟩,by omega,.same ⟨rfl,rfl,rfl,rfl,trivial⟩⟩
   by_cases hji:j=i
   ·subst hji;exact hq
   ·exact hall j (by omega)
 ·repeat' (first|(refine gU ?_;first|(refine gAssign ?_;refine st (ok_assign rfl) rfl rfl ?_)|(refine gBin ?_;refine st (ok_bin rfl rfl rfl) rfl rfl ?_))|refine W_seq ?_|refine W_region ?_|refine st_nil ?_|refine tq_n ?_|refine tq_e ?_|refine bq_hit rfl ?_|refine W_exit ?_|refine W_ret ?_|refine W_condFA rfl ?_)
  refine ret0 (.tmp rfl .nil) (.plain rfl rfl) ⟨?_,rfl⟩
  rw [ixP_none fun j hj=>by simpa using hall j (by omega)];rfl
theorem index83_ev {σ:Heap} {f:List (Int×Int)} {p:Int×Int} {x o c n:Nat} (hn:f.length=n) (hx:prtAt σ (x,o) (pc f)) (hN:f.length≤9223372036854775807) (hni:σ.all (fun o=>!isIter o)=true) :
  Ev Try.prog 83 [.slice (some ⟨x,o,none⟩) n c,pV p] σ (.int .i64 (ixP (fun i=>decide (p=gf f i)) n)) σ:=by
 subst hn
 exact Ev.parts [pc f] [(x,o)] (index83_ok f p c hN) ⟨hx,trivial⟩ ⟨by simpa [psR] using VQ.slice (q:=true) (n:=1) (ρ:=psR [(x,o)]) 0 0 f.length c c (Nat.le_refl _) (by omega),vrel_plain _ rfl,trivial⟩ (by simp [pc_plain]) rfl hni
theorem has59_ok (f:List (Int×Int)) (p:Int×Int) (c:Nat) (hN:f.length≤9223372036854775807) :
  Ev Try.prog 59 [.slice (some ⟨0,0,none⟩) f.length c,pV p] [.ro (pc f)] (.bool (decide (p ∈ f))) [.ro (pc f)]:=by
 refine acall_intro 1 9 Try.func59 rfl rfl rfl rfl rfl ?_
 repeat' (first|(refine gU ?_;first|(refine gMove ?_;refine st (ok_move rfl) rfl rfl ?_)|(refine gAssign ?_;refine st (ok_assign rfl) rfl rfl ?_)|(refine gLoad ?_;refine st (ok_loadA rfl (by rfl)) rfl rfl ?_)|(refine gBin ?_;refine st (ok_bin rfl rfl rfl) rfl rfl ?_)|(refine gCall ?_;refine st (ok_call rfl rfl rfl (by exact index83_ev rfl (by exact prtAt_arr (.inl rfl)) (by omega) rfl)) rfl rfl ?_)|(refine gBox ?_;refine st (ok_box rfl) rfl rfl ?_))|refine W_seq ?_|refine W_region ?_|refine st_nil ?_|refine tq_n ?_|refine W_ret ?_)
 refine ret0 (.tmp rfl .nil) (.plain rfl rfl) ⟨?_,rfl⟩
 simp only [retV,Value.bool.injEq,decide_eq_decide]
 rw [ixP_iff,mem_gf]
 simp only [decide_eq_true_eq]
 exact ⟨fun ⟨i,h1,h2⟩=>⟨i,h1,h2.symm⟩,fun ⟨i,h1,h2⟩=>⟨i,h1,h2.symm⟩⟩
theorem has59_ev {σ:Heap} {f:List (Int×Int)} {p:Int×Int} {x o c n:Nat} (hn:f.length=n) (hx:prtAt σ (x,o) (pc f)) (hN:f.length≤9223372036854775807) (hni:σ.all (fun o=>!isIter o)=true) :
  Ev Try.prog 59 [.slice (some ⟨x,o,none⟩) n c,pV p] σ (.bool (decide (p ∈ f))) σ:=by
 subst hn
 exact Ev.parts [pc f] [(x,o)] (has59_ok f p c hN) ⟨hx,trivial⟩ ⟨by simpa [psR] using VQ.slice (q:=true) (n:=1) (ρ:=psR [(x,o)]) 0 0 f.length c c (Nat.le_refl _) (by omega),vrel_plain _ rfl,trivial⟩ (by simp [pc_plain]) rfl hni
theorem index80_ok (l:List Int) (p:Int) (c:Nat) (hN:l.length≤9223372036854775807) :
  Ev Try.prog 80 [.slice (some ⟨0,0,none⟩) l.length c,.int .i64 p] [.ro (ints l)] (.int .i64 (ixP (fun i=>decide (gi l i=p)) l.length)) [.ro (ints l)]:=by
 refine acall_intro 1 19 Try.func80 rfl rfl rfl rfl rfl ?_
 repeat' (first|(refine gU ?_;first|(refine gMove ?_;refine st (ok_move rfl) rfl rfl ?_)|(refine gAssign ?_;refine st (ok_assign rfl) rfl rfl ?_)|(refine gLen ?_;refine st (ok_len rfl) rfl rfl ?_))|refine W_seq ?_|refine W_region ?_|refine st_nil ?_|refine tq_n ?_|refine W_block ?_)
 refine W_loopS (ι:=Nat) (fun i=>[(0,.slice (some ⟨0,0,none⟩) l.length c),(1,.int .i64 p),(7,.int .i64 (l.length:Int)),(8,.int .i64 (i:Int))])
  (fun _=>[.ro (ints l)]) (fun i=>l.length - i) (fun i=>i≤l.length∧∀ j<i,¬ gi l j=p) 0 (by simp) (.same ⟨rfl,rfl,rfl,rfl,trivial⟩) ⟨by omega,fun j h=>by omega⟩ ?_
 intro i ⟨hi',hall⟩
 have hc1:i<l.length→cellGet [.ro (ints l)] 0 i=some (.int .i64 (gi l i)):=fun h=>ints_get h
 by_cases hil:i<l.length
 ·by_cases hq:p=gi l i
  ·repeat' (first|(refine gU ?_;first|(refine gMove ?_;refine st (ok_move rfl) rfl rfl ?_)|(refine gAssign ?_;refine st (ok_assign rfl) rfl rfl ?_)|(refine gLoad ?_;refine st (ok_load rfl (by exact hc1 (by omega))) rfl rfl ?_)|(refine gBin ?_;refine st (ok_bin rfl rfl rfl) rfl rfl ?_)|(refine gIA ?_;refine st (ok_idxN rfl rfl (by omega)) rfl rfl ?_))|refine W_seq ?_|refine W_region ?_|refine st_nil ?_|refine tq_n ?_|refine tq_r ?_|refine bq_r ?_|refine W_skip ?_|refine W_ret ?_|refine W_block ?_|refine W_condTA rfl ?_)
   refine ret0 (.tmp rfl .nil) (.plain rfl rfl) ⟨?_,rfl⟩
   rw [ixP_some hil (decide_eq_true hq.symm) fun j hj=>by simpa using hall j hj];rfl
  ·repeat' (first|(refine gU ?_;first|(refine gMove ?_;refine st (ok_move rfl) rfl rfl ?_)|(refine gAssign ?_;refine st (ok_assign rfl) rfl rfl ?_)|(refine gLoad ?_;refine st (ok_load rfl (by exact hc1 (by omega))) rfl rfl ?_)|(refine gAdd ?_;refine st (ok_inc rfl rfl (by omega)) rfl rfl ?_)|(refine gBin ?_;refine st (ok_bin rfl rfl rfl) rfl rfl ?_)|(refine gIA ?_;refine st (ok_idxN rfl rfl (by omega)) rfl rfl ?_))|refine W_seq ?_|refine W_region ?_|refine st_nil ?_|refine tq_n ?_|refine bq_n ?_|refine W_skip ?_|refine W_block ?_|refine W_condTA rfl ?_|refine W_condFA rfl ?_)
   refine ⟨rfl,i+1,⟨by omega,fun j hj=>?_⟩,by omega,.same ⟨rfl,rfl,rfl,rfl,trivial⟩⟩
   by_cases hji:j=i
   ·subst hji;exact fun h=>hq h.symm
   ·exact hall j (by omega)
 ·repeat' (first|(refine gU ?_;first|(refine gAssign ?_;refine st (ok_assign rfl) rfl rfl ?_)|(refine gBin ?_;refine st (ok_bin rfl rfl rfl) rfl rfl ?_))|refine W_seq ?_|refine W_region ?_|refine st_nil ?_|refine tq_n ?_|refine tq_e ?_|refine bq_hit rfl ?_|refine W_exit ?_|refine W_ret ?_|refine W_condFA rfl ?_)
  refine ret0 (.tmp rfl .nil) (.plain rfl rfl) ⟨?_,rfl⟩
  rw [ixP_none fun j hj=>by simpa using hall j (by omega)];rfl
end Go.Proofs.Ytomioaiojidnbaa
namespace Go.AH.Dust
open Go Go.AH
def PS (x o k:Nat) (v:Value):Prop:=VSub 1 (psR [(x,o)]) (sl 0 k) v
theorem ps_sl {x o k c:Nat} (h:k≤c):PS x o k (.slice (some ⟨x,o,none⟩) k c):=by
 unfold PS;simpa [psR] using VQ.slice (q:=true) (n:=1) (ρ:=psR [(x,o)]) 0 0 k k c h (by omega)
theorem ps_self {x k:Nat}:PS x 0 k (sl x k):=ps_sl (Nat.le_refl _)
theorem ps_slv {x sz k:Nat}:PS x 0 k (slvV x sz k):=vsub_slvR (by omega) rfl
end Go.AH.Dust
namespace Go.Proofs.Ytomioaiojidnbaa
open Go Go.AH
attribute [local irreducible] WOps WCode WFree retQ thenQ blockQ scopeQ OpOk ACall RetRef roundA roundB
set_option maxRecDepth 100000
set_option maxHeartbeats 1000000
open Go.AH.Dust
theorem index80_ev {σ:Heap} {l:List Int} {p:Int} {x n:Nat} (hn:l.length=n) (hx:arrAt σ x (ints l)) (hN:n≤9223372036854775807) (hni:σ.all (fun o=>!isIter o)=true) :
  Ev Try.prog 80 [sl x n,.int .i64 p] σ (.int .i64 (ixP (fun i=>decide (gi l i=p)) n)) σ:=by
 subst hn
 exact Ev.parts [ints l] [(x,0)] (index80_ok l p _ hN) ⟨prtAt_arr hx,trivial⟩ ⟨ps_self,.int _ _,trivial⟩ (by simp [ints_plain]) rfl hni
theorem index80P_ev {σ:Heap} {l:List Int} {p:Int} {x o:Nat} {v:Value} (hx:prtAt σ (x,o) (ints l)) (hv:PS x o l.length v) (hN:l.length≤9223372036854775807) (hni:σ.all (fun o=>!isIter o)=true) :
  Ev Try.prog 80 [v,.int .i64 p] σ (.int .i64 (ixP (fun i=>decide (gi l i=p)) l.length)) σ :=
 Ev.parts [ints l] [(x,o)] (index80_ok l p _ hN) ⟨hx,trivial⟩ ⟨hv,.int _ _,trivial⟩ (by simp [ints_plain]) rfl hni
theorem has54_ok (l:List Int) (p:Int) (hN:l.length≤9223372036854775807):Ev Try.prog 54 [sl 0 l.length,.int .i64 p] [.ro (ints l)] (.bool (decide (p ∈ l))) [.ro (ints l)]:=by
 refine acall_intro 1 9 Try.func54 rfl rfl rfl rfl rfl ?_
 repeat' (first|(refine gU ?_;first|(refine gMove ?_;refine st (ok_move rfl) rfl rfl ?_)|(refine gAssign ?_;refine st (ok_assign rfl) rfl rfl ?_)|(refine gBin ?_;refine st (ok_bin rfl rfl rfl) rfl rfl ?_)|(refine gCall ?_;refine st (ok_call rfl rfl rfl (by exact index80_ev rfl (.inl rfl) (by omega) rfl)) rfl rfl ?_))|refine W_seq ?_|refine W_region ?_|refine st_nil ?_|refine tq_n ?_|refine W_ret ?_)
 refine ret0 (.tmp rfl .nil) (.plain rfl rfl) ⟨?_,rfl⟩
 simp only [retV,Value.bool.injEq,decide_eq_decide]
 rw [ixP_iff,mem_gi]
 simp only [decide_eq_true_eq]
theorem has54P_ev {σ:Heap} {l:List Int} {p:Int} {x o:Nat} {v:Value} (hx:prtAt σ (x,o) (ints l)) (hv:PS x o l.length v) (hN:l.length≤9223372036854775807) (hni:σ.all (fun o=>!isIter o)=true) :
  Ev Try.prog 54 [v,.int .i64 p] σ (.bool (decide (p ∈ l))) σ :=
 Ev.parts [ints l] [(x,o)] (has54_ok l p hN) ⟨hx,trivial⟩ ⟨hv,.int _ _,trivial⟩ (by simp [ints_plain]) rfl hni
theorem in51_ok (l:List Int) (p:Int) (hN:l.length≤9223372036854775807):Ev Try.prog 51 [sl 0 l.length,.int .i64 p] [.ro (ints l)] (.bool (decide (p ∈ l))) [.ro (ints l)]:=by
 refine acall_intro 1 18 Try.func51 rfl rfl rfl rfl rfl ?_
 repeat' (first|(refine gU ?_;(refine gAssign ?_;refine st (ok_assign rfl) rfl rfl ?_))|refine W_seq ?_|refine W_region ?_|refine st_nil ?_|refine tq_n ?_|refine W_block ?_)
 refine W_loopS (ι:=Nat) (fun i=>[(0,sl 0 l.length),(1,.int .i64 p),(5,.int .i64 (i:Int))])
  (fun _=>[.ro (ints l)]) (fun i=>l.length - i) (fun i=>i≤l.length∧∀ j<i,¬ gi l j=p) 0 (by simp) (.same ⟨rfl,rfl,rfl,trivial⟩) ⟨by omega,fun j h=>by omega⟩ ?_
 intro i ⟨hi',hall⟩
 have hc1:i<l.length→cellGet [.ro (ints l)] 0 i=some (.int .i64 (gi l i)):=fun h=>ints_get h
 by_cases hil:i<l.length
 ·by_cases hq:gi l i=p
  ·repeat' (first|(refine gU ?_;first|(refine gMove ?_;refine st (ok_move rfl) rfl rfl ?_)|(refine gAssign ?_;refine st (ok_assign rfl) rfl rfl ?_)|(refine gLoad ?_;refine st (ok_load rfl (by exact hc1 (by omega))) rfl rfl ?_)|(refine gBin ?_;refine st (ok_bin rfl rfl rfl) rfl rfl ?_)|(refine gLen ?_;refine st (ok_len rfl) rfl rfl ?_)|(refine gIA ?_;refine st (ok_idxN rfl rfl (by omega)) rfl rfl ?_))|refine W_seq ?_|refine W_region ?_|refine st_nil ?_|refine tq_n ?_|refine tq_r ?_|refine bq_r ?_|refine W_skip ?_|refine W_ret ?_|refine W_block ?_|refine W_condTA rfl ?_)
   refine ret0 (.tmp rfl .nil) (.plain rfl rfl) ⟨?_,rfl⟩
   rw [decide_eq_true (mem_gi.2 ⟨i,hil,hq⟩)];rfl
  ·repeat' (first|(refine gU ?_;first|(refine gMove ?_;refine st (ok_move rfl) rfl rfl ?_)|(refine gAssign ?_;refine st (ok_assign rfl) rfl rfl ?_)|(refine gLoad ?_;refine st (ok_load rfl (by exact hc1 (by omega))) rfl rfl ?_)|(refine gAdd ?_;refine st (ok_inc rfl rfl (by omega)) rfl rfl ?_)|(refine gBin ?_;refine st (ok_bin rfl rfl rfl) rfl rfl ?_)|(refine gLen ?_;refine st (ok_len rfl) rfl rfl ?_)|(refine gIA ?_;refine st (ok_idxN rfl rfl (by omega)) rfl rfl ?_))|refine W_seq ?_|refine W_region ?_|refine st_nil ?_|refine tq_n ?_|refine bq_n ?_|refine W_skip ?_|refine W_block ?_|refine W_condTA rfl ?_|refine W_condFA rfl ?_)
   refine ⟨rfl,i+1,⟨by omega,fun j hj=>?_⟩,by omega,.same ⟨rfl,rfl,rfl,trivial⟩⟩
   by_cases hji:j=i
   ·subst hji;exact hq
   ·exact hall j (by omega)
 ·repeat' (first|(refine gU ?_;first|(refine gMove ?_;refine st (ok_move rfl) rfl rfl ?_)|(refine gAssign ?_;refine st (ok_assign rfl) rfl rfl ?_)|(refine gBin ?_;refine st (ok_bin rfl rfl rfl) rfl rfl ?_)|(refine gLen ?_;refine st (ok_len rfl) rfl rfl ?_))|refine W_seq ?_|refine W_region ?_|refine st_nil ?_|refine tq_n ?_|refine tq_e ?_|refine bq_hit rfl ?_|refine W_exit ?_|refine W_ret ?_|refine W_condFA rfl ?_)
  refine ret0 (.tmp rfl .nil) (.plain rfl rfl) ⟨?_,rfl⟩
  rw [decide_eq_false fun h=>by obtain ⟨j,h1,h2⟩:=mem_gi.1 h;exact hall j (by omega) h2];rfl
theorem in51_ev {σ:Heap} {l:List Int} {p:Int} {x o:Nat} {v:Value} (hx:prtAt σ (x,o) (ints l)) (hv:PS x o l.length v) (hN:l.length≤9223372036854775807) (hni:σ.all (fun o=>!isIter o)=true) :
  Ev Try.prog 51 [v,.int .i64 p] σ (.bool (decide (p ∈ l))) σ :=
 Ev.parts [ints l] [(x,o)] (in51_ok l p hN) ⟨hx,trivial⟩ ⟨hv,.int _ _,trivial⟩ (by simp [ints_plain]) rfl hni
theorem work57r_ok (S:Shp) (n:Int) (hS:S.fit):Ev Try.prog 57 [.int .i64 n,.pointer (some ⟨3,0,none⟩)] [.ro (ints S.d),.ro (pc S.f),.ro (ints S.s),.ro (shL 0 1 2 S)] (.bool (decide (isW S n))) [.ro (ints S.d),.ro (pc S.f),.ro (ints S.s),.ro (shL 0 1 2 S)]:=by
 have h1:=hS.d
 by_cases a:n≥0
 ·refine acall_intro 4 13 Try.func57 rfl rfl rfl rfl rfl ?_
  repeat' (first|(refine gU ?_;first|(refine gMove ?_;refine st (ok_move rfl) rfl rfl ?_)|(refine gAssign ?_;refine st (ok_assign rfl) rfl rfl ?_)|(refine gBin ?_;refine st (ok_bin rfl rfl rfl) rfl rfl ?_)|(refine gPick ?_;refine st (ok_pickTA rfl rfl) rfl rfl ?_))|(refine gG ?_;first|(refine gMove ?_;refine stGA rfl (ok_move rfl) rfl rfl ?_)|(refine gFA ?_;refine stGA rfl (ok_fieldAddr rfl) rfl rfl ?_)|(refine gLoad ?_;refine stGA rfl (ok_load rfl (by rfl)) rfl rfl ?_)|(refine gBin ?_;refine stGA rfl (ok_bin rfl rfl rfl) rfl rfl ?_)|(refine gLen ?_;refine stGA rfl (ok_len rfl) rfl rfl ?_))|refine W_seq ?_|refine W_region ?_|refine st_nil ?_|refine tq_n ?_|refine W_ret ?_)
  refine ret0 (.tmp rfl .nil) (.plain rfl rfl) ⟨?_,rfl⟩
  simp only [retV,Value.bool.injEq,decide_eq_decide];exact ⟨fun h=>⟨a,h⟩,fun h=>h.2⟩
 ·refine acall_intro 4 13 Try.func57 rfl rfl rfl rfl rfl ?_
  repeat' (first|(refine gU ?_;first|(refine gMove ?_;refine st (ok_move rfl) rfl rfl ?_)|(refine gAssign ?_;refine st (ok_assign rfl) rfl rfl ?_)|(refine gBin ?_;refine st (ok_bin rfl rfl rfl) rfl rfl ?_)|(refine gPick ?_;refine st (ok_pickFA rfl rfl) rfl rfl ?_))|(refine gG ?_;refine stSA rfl rfl ?_)|refine W_seq ?_|refine W_region ?_|refine st_nil ?_|refine tq_n ?_|refine W_ret ?_)
  refine ret0 (.tmp rfl .nil) (.plain rfl rfl) ⟨?_,rfl⟩
  rw [decide_eq_false (by omega)];rfl
end Go.Proofs.Ytomioaiojidnbaa
namespace Go.AH.Dust
open Go Go.AH
abbrev okD (S:Shp):Prop:=∀ i,i<S.d.length→0≤gi S.d i∧gi S.d i≤1000
abbrev okP (S:Shp) (i:Nat):Prop:=isW S (gf S.f i).1∧isW S (gf S.f i).2∧∀ k,k<i→gf S.f k ≠ gf S.f i
abbrev okQ (S:Shp) (i:Nat):Prop:=isW S (gi S.s i)∧(i=0∨gi S.s (i - 1)<gi S.s i)
abbrev okF (S:Shp):Prop:=∀ i,i<S.f.length→okP S i
abbrev okS (S:Shp):Prop:=∀ i,i<S.s.length→okQ S i
def shopE (S:Shp):Int:=if S.d.length=0∨S.d.length > 10∨S.f.length > 60 then 6 else if ¬ okD S then 3 else if okF S∧okS S∧S.s.length ≠ 0 then 0 else 2
structure Shp.ok (S:Shp):Prop where
 n1:1≤S.d.length
 n10:S.d.length≤10
 f60:S.f.length≤60
 d:okD S
 f:okF S
 s:okS S
 s0:S.s.length ≠ 0
theorem shopE_zero {S:Shp} (h:shopE S=0):S.ok:=by
 unfold shopE at h
 by_cases h1:S.d.length=0∨S.d.length > 10∨S.f.length > 60
 ·rw [if_pos h1] at h;omega
 ·rw [if_neg h1] at h
  by_cases h2:okD S
  ·rw [if_neg (fun hn=>hn h2)] at h
   by_cases h3:okF S∧okS S∧S.s.length ≠ 0
   ·exact ⟨by omega,by omega,by omega,h2,h3.1,h3.2.1,h3.2.2⟩
   ·rw [if_neg h3] at h;omega
  ·rw [if_pos h2] at h;omega
theorem Shp.ok.zero {S:Shp} (h:S.ok):shopE S=0:=by
 have:=h.n1;have:=h.n10;have:=h.f60
 unfold shopE;rw [if_neg (by omega),if_neg (fun hn=>hn h.d),if_pos ⟨h.f,h.s,h.s0⟩]
theorem okS_lo {S:Shp} (h:okS S):∀ i,i<S.s.length→(i:Int)≤gi S.s i
 |0,hi=>(h 0 hi).1.1
 |i+1,hi=>by
  have h1:=okS_lo h i (by omega)
  have h2:=(h (i+1) hi).2
  simp only [Nat.add_sub_cancel] at h2
  omega
theorem Shp.ok.s10 {S:Shp} (h:S.ok):S.s.length≤S.d.length:=by
 have h0:=h.s0
 have h1:=okS_lo h.s (S.s.length - 1) (by omega)
 have h2:=(h.s (S.s.length - 1) (by omega)).1.2
 omega
theorem Shp.ok.fit {S:Shp} (h:S.ok):S.fit:=by
 have:=h.s10;have:=h.n10;have:=h.f60
 exact ⟨by omega,by omega,by omega⟩
end Go.AH.Dust
namespace Go.Proofs.Ytomioaiojidnbaa
open Go Go.AH
attribute [local irreducible] WOps WCode WFree retQ thenQ blockQ scopeQ OpOk ACall RetRef roundA roundB
set_option maxRecDepth 100000
set_option maxHeartbeats 1000000
open Go.AH.Dust
theorem refShop_ok (S:Shp) (hS:S.fit):Ev Try.prog 22 [shV 0 1 2 S] S.hp (.int .i64 (shopE S)) S.hp:=by
 have n1:=hS.d
 have n2:=hS.f
 have n3:=hS.s
 by_cases a1:(S.d.length:Int)<1
 ·have e:shopE S=6:=by unfold shopE;rw [if_pos (by omega)]
  rw [e]
  refine acall_intro 3 124 Try.func22 rfl rfl rfl rfl rfl ?_
  repeat' (first|(refine gU ?_;first|(refine gMove ?_;refine st (ok_move rfl) rfl rfl ?_)|(refine gAssign ?_;refine st (ok_assign rfl) rfl rfl ?_)|(refine gFA ?_;refine st (ok_fieldAddr rfl) rfl rfl ?_)|(refine gLoad ?_;refine st (ok_load rfl (by rfl)) rfl rfl ?_)|(refine gBin ?_;refine st (ok_bin rfl rfl rfl) rfl rfl ?_)|(refine gLen ?_;refine st (ok_len rfl) rfl rfl ?_)|(refine gPick ?_;refine st (ok_pickTA rfl rfl) rfl rfl ?_)|(refine gBox ?_;refine st (ok_box rfl) rfl rfl ?_))|(refine gG ?_;refine stSA rfl rfl ?_)|refine W_seq ?_|refine W_region ?_|refine st_nil ?_|refine tq_n ?_|refine tq_r ?_|refine W_ret ?_|refine W_condTA rfl ?_)
  exact ret0 (.tmp rfl .nil) (.plain rfl rfl) ⟨rfl,rfl⟩
 by_cases a2:(S.d.length:Int) > 10
 ·have e:shopE S=6:=by unfold shopE;rw [if_pos (by omega)]
  rw [e]
  refine acall_intro 3 124 Try.func22 rfl rfl rfl rfl rfl ?_
  repeat' (first|(refine gU ?_;first|(refine gMove ?_;refine st (ok_move rfl) rfl rfl ?_)|(refine gAssign ?_;refine st (ok_assign rfl) rfl rfl ?_)|(refine gFA ?_;refine st (ok_fieldAddr rfl) rfl rfl ?_)|(refine gLoad ?_;refine st (ok_load rfl (by rfl)) rfl rfl ?_)|(refine gBin ?_;refine st (ok_bin rfl rfl rfl) rfl rfl ?_)|(refine gLen ?_;refine st (ok_len rfl) rfl rfl ?_)|(refine gPick ?_;first|refine st (ok_pickTA rfl rfl) rfl rfl ?_|refine st (ok_pickFA rfl rfl) rfl rfl ?_)|(refine gBox ?_;refine st (ok_box rfl) rfl rfl ?_))|(refine gG ?_;first|(refine gFA ?_;refine stGA rfl (ok_fieldAddr rfl) rfl rfl ?_)|(refine gLoad ?_;refine stGA rfl (ok_load rfl (by rfl)) rfl rfl ?_)|(refine gBin ?_;refine stGA rfl (ok_bin rfl rfl rfl) rfl rfl ?_)|(refine gLen ?_;refine stGA rfl (ok_len rfl) rfl rfl ?_)|refine stSA rfl rfl ?_)|refine W_seq ?_|refine W_region ?_|refine st_nil ?_|refine tq_n ?_|refine tq_r ?_|refine W_ret ?_|refine W_condTA rfl ?_)
  exact ret0 (.tmp rfl .nil) (.plain rfl rfl) ⟨rfl,rfl⟩
 by_cases a3:(S.f.length:Int) > 60
 ·have e:shopE S=6:=by unfold shopE;rw [if_pos (by omega)]
  rw [e]
  refine acall_intro 3 124 Try.func22 rfl rfl rfl rfl rfl ?_
  repeat' (first|(refine gU ?_;first|(refine gMove ?_;refine st (ok_move rfl) rfl rfl ?_)|(refine gAssign ?_;refine st (ok_assign rfl) rfl rfl ?_)|(refine gFA ?_;refine st (ok_fieldAddr rfl) rfl rfl ?_)|(refine gLoad ?_;refine st (ok_load rfl (by rfl)) rfl rfl ?_)|(refine gBin ?_;refine st (ok_bin rfl rfl rfl) rfl rfl ?_)|(refine gLen ?_;refine st (ok_len rfl) rfl rfl ?_)|(refine gPick ?_;refine st (ok_pickFA rfl rfl) rfl rfl ?_)|(refine gBox ?_;refine st (ok_box rfl) rfl rfl ?_))|(refine gG ?_;first|(refine gFA ?_;refine stGA rfl (ok_fieldAddr rfl) rfl rfl ?_)|(refine gLoad ?_;refine stGA rfl (ok_load rfl (by rfl)) rfl rfl ?_)|(refine gBin ?_;refine stGA rfl (ok_bin rfl rfl rfl) rfl rfl ?_)|(refine gLen ?_;refine stGA rfl (ok_len rfl) rfl rfl ?_))|refine W_seq ?_|refine W_region ?_|refine st_nil ?_|refine tq_n ?_|refine tq_r ?_|refine W_ret ?_|refine W_condTA rfl ?_)
  exact ret0 (.tmp rfl .nil) (.plain rfl rfl) ⟨rfl,rfl⟩
 have e0:¬ (S.d.length=0∨S.d.length > 10∨S.f.length > 60):=by omega
 refine acall_intro 3 124 Try.func22 rfl rfl rfl rfl rfl ?_
 repeat' (first|(refine gU ?_;first|(refine gMove ?_;refine st (ok_move rfl) rfl rfl ?_)|(refine gAssign ?_;refine st (ok_assign rfl) rfl rfl ?_)|(refine gFA ?_;refine st (ok_fieldAddr rfl) rfl rfl ?_)|(refine gLoad ?_;refine st (ok_load rfl (by rfl)) rfl rfl ?_)|(refine gBin ?_;refine st (ok_bin rfl rfl rfl) rfl rfl ?_)|(refine gLen ?_;refine st (ok_len rfl) rfl rfl ?_)|(refine gPick ?_;refine st (ok_pickFA rfl rfl) rfl rfl ?_)|(refine gBox ?_;refine st (ok_box rfl) rfl rfl ?_))|(refine gG ?_;first|(refine gFA ?_;refine stGA rfl (ok_fieldAddr rfl) rfl rfl ?_)|(refine gLoad ?_;refine stGA rfl (ok_load rfl (by rfl)) rfl rfl ?_)|(refine gBin ?_;refine stGA rfl (ok_bin rfl rfl rfl) rfl rfl ?_)|(refine gLen ?_;refine stGA rfl (ok_len rfl) rfl rfl ?_))|refine W_seq ?_|refine W_region ?_|refine st_nil ?_|refine tq_n ?_|refine W_skip ?_|refine W_block ?_|refine W_condFA rfl ?_)
 refine W_loopS (ι:=Nat) (fun i=>[(1,.pointer (some ⟨3,0,none⟩)),(3,.int .i64 (i:Int))])
  (fun _=>[.ro (ints S.d),.ro (pc S.f),.ro (ints S.s),.rw (shL 0 1 2 S)]) (fun i=>S.d.length - i) (fun i=>i≤S.d.length∧∀ j,j<i→0≤gi S.d j∧gi S.d j≤1000) 0 (by simp) (.same ⟨rfl,rfl,trivial⟩) ⟨by omega,fun j h=>by omega⟩ ?_
 intro i ⟨hi',hall⟩
 by_cases hil:i<S.d.length
 ·have hcd:cellGet [.ro (ints S.d),.ro (pc S.f),.ro (ints S.s),.rw (shL 0 1 2 S)] 0 (0+i*1)=some (.int .i64 (gi S.d i)):=by rw [Nat.zero_add,Nat.mul_one];exact ints_get hil
  have hcd':cellGet [.ro (ints S.d),.ro (pc S.f),.ro (ints S.s),.rw (shL 0 1 2 S)] 0 i=some (.int .i64 (gi S.d i)):=ints_get hil
  by_cases b1:gi S.d i<0
  ·have e:shopE S=3:=by unfold shopE;rw [if_neg e0,if_pos (fun h=>by have:=h i hil;omega)]
   rw [e]
   repeat' (first|(refine gU ?_;first|(refine gMove ?_;refine st (ok_move rfl) rfl rfl ?_)|(refine gAssign ?_;refine st (ok_assign rfl) rfl rfl ?_)|(refine gFA ?_;refine st (ok_fieldAddr rfl) rfl rfl ?_)|(refine gLoad ?_;refine st (ok_load rfl (by first|rfl|assumption)) rfl rfl ?_)|(refine gBin ?_;refine st (ok_bin rfl rfl rfl) rfl rfl ?_)|(refine gLen ?_;refine st (ok_len rfl) rfl rfl ?_)|(refine gPick ?_;refine st (ok_pickTA rfl rfl) rfl rfl ?_)|(refine gIA ?_;refine st (ok_idxN rfl rfl (by omega)) rfl rfl ?_))|(refine gG ?_;refine stSA rfl rfl ?_)|refine W_seq ?_|refine W_region ?_|refine st_nil ?_|refine tq_n ?_|refine tq_r ?_|refine bq_r ?_|refine W_skip ?_|refine W_ret ?_|refine W_block ?_|refine W_condTA rfl ?_)
   exact ret0 (.tmp rfl .nil) (.plain rfl rfl) ⟨rfl,rfl⟩
  by_cases b2:gi S.d i > 1000
  ·have e:shopE S=3:=by unfold shopE;rw [if_neg e0,if_pos (fun h=>by have:=h i hil;omega)]
   rw [e]
   repeat' (first|(refine gU ?_;first|(refine gMove ?_;refine st (ok_move rfl) rfl rfl ?_)|(refine gAssign ?_;refine st (ok_assign rfl) rfl rfl ?_)|(refine gFA ?_;refine st (ok_fieldAddr rfl) rfl rfl ?_)|(refine gLoad ?_;refine st (ok_load rfl (by first|rfl|assumption)) rfl rfl ?_)|(refine gBin ?_;refine st (ok_bin rfl rfl rfl) rfl rfl ?_)|(refine gLen ?_;refine st (ok_len rfl) rfl rfl ?_)|(refine gPick ?_;refine st (ok_pickFA rfl rfl) rfl rfl ?_)|(refine gIA ?_;refine st (ok_idxN rfl rfl (by omega)) rfl rfl ?_))|(refine gG ?_;first|(refine gMove ?_;refine stGA rfl (ok_move rfl) rfl rfl ?_)|(refine gFA ?_;refine stGA rfl (ok_fieldAddr rfl) rfl rfl ?_)|(refine gLoad ?_;refine stGA rfl (ok_load rfl (by first|rfl|assumption)) rfl rfl ?_)|(refine gBin ?_;refine stGA rfl (ok_bin rfl rfl rfl) rfl rfl ?_)|(refine gIA ?_;refine stGA rfl (ok_idxN rfl rfl (by omega)) rfl rfl ?_))|refine W_seq ?_|refine W_region ?_|refine st_nil ?_|refine tq_n ?_|refine tq_r ?_|refine bq_r ?_|refine W_skip ?_|refine W_ret ?_|refine W_block ?_|refine W_condTA rfl ?_)
   exact ret0 (.tmp rfl .nil) (.plain rfl rfl) ⟨rfl,rfl⟩
  repeat' (first|(refine gU ?_;first|(refine gMove ?_;refine st (ok_move rfl) rfl rfl ?_)|(refine gAssign ?_;refine st (ok_assign rfl) rfl rfl ?_)|(refine gFA ?_;refine st (ok_fieldAddr rfl) rfl rfl ?_)|(refine gLoad ?_;refine st (ok_load rfl (by first|rfl|assumption)) rfl rfl ?_)|(refine gAdd ?_;refine st (ok_inc rfl rfl (by omega)) rfl rfl ?_)|(refine gBin ?_;refine st (ok_bin rfl rfl rfl) rfl rfl ?_)|(refine gLen ?_;refine st (ok_len rfl) rfl rfl ?_)|(refine gPick ?_;refine st (ok_pickFA rfl rfl) rfl rfl ?_)|(refine gIA ?_;refine st (ok_idxN rfl rfl (by omega)) rfl rfl ?_))|(refine gG ?_;first|(refine gMove ?_;refine stGA rfl (ok_move rfl) rfl rfl ?_)|(refine gFA ?_;refine stGA rfl (ok_fieldAddr rfl) rfl rfl ?_)|(refine gLoad ?_;refine stGA rfl (ok_load rfl (by first|rfl|assumption)) rfl rfl ?_)|(refine gBin ?_;refine stGA rfl (ok_bin rfl rfl rfl) rfl rfl ?_)|(refine gIA ?_;refine stGA rfl (ok_idxN rfl rfl (by omega)) rfl rfl ?_))|refine W_seq ?_|refine W_region ?_|refine st_nil ?_|refine tq_n ?_|refine bq_n ?_|refine W_skip ?_|refine W_block ?_|refine W_condTA rfl ?_|refine W_condFA rfl ?_)
  refine ⟨rfl,i+1,⟨by omega,fun j hj=>?_⟩,by omega,.same ⟨rfl,rfl,trivial⟩⟩
  by_cases hji:j=i
  ·subst hji;omega
  ·exact hall j (by omega)
 have hD:okD S:=fun j hj=>hall j (by omega)
 have e1:¬ ¬ okD S:=fun h=>h hD
 repeat' (first|(refine gU ?_;first|(refine gMove ?_;refine st (ok_move rfl) rfl rfl ?_)|(refine gAssign ?_;refine st (ok_assign rfl) rfl rfl ?_)|(refine gFA ?_;refine st (ok_fieldAddr rfl) rfl rfl ?_)|(refine gLoad ?_;refine st (ok_load rfl (by rfl)) rfl rfl ?_)|(refine gBin ?_;refine st (ok_bin rfl rfl rfl) rfl rfl ?_)|(refine gLen ?_;refine st (ok_len rfl) rfl rfl ?_))|refine W_seq ?_|refine W_region ?_|refine st_nil ?_|refine tq_n ?_|refine tq_e ?_|refine bq_hit rfl ?_|refine W_exit ?_|refine W_block ?_|refine W_condFA rfl ?_)
 refine W_loopS (ι:=Nat) (fun i=>[(1,.pointer (some ⟨3,0,none⟩)),(4,.int .i64 (i:Int))])
  (fun _=>[.ro (ints S.d),.ro (pc S.f),.ro (ints S.s),.rw (shL 0 1 2 S)]) (fun i=>S.f.length - i) (fun i=>i≤S.f.length∧∀ j,j<i→okP S j) 0 (by simp) (.same ⟨rfl,rfl,trivial⟩) ⟨by omega,fun j h=>by omega⟩ ?_
 clear hil hall hi' i
 intro i ⟨hi',hall⟩
 by_cases hil:i<S.f.length
 ·have hc1:cellGet [.ro (ints S.d),.ro (pc S.f),.ro (ints S.s),.rw (shL 0 1 2 S)] 1 (0+i*2+0*1)=some (.int .i64 (gf S.f i).1):=pc_get0 (.inl rfl) hil
  have hc2:cellGet [.ro (ints S.d),.ro (pc S.f),.ro (ints S.s),.rw (shL 0 1 2 S)] 1 (0+i*2+1*1)=some (.int .i64 (gf S.f i).2):=pc_get1 (.inl rfl) hil
  have hd2:cellsAt [.ro (ints S.d),.ro (pc S.f),.ro (ints S.s),.rw (shL 0 1 2 S)] 1 (0+i*2) 2=some [.int .i64 (gf S.f i).1,.int .i64 (gf S.f i).2]:=pc_cells (.inl rfl) hil
  by_cases b1:isW S (gf S.f i).1
  ·by_cases b2:isW S (gf S.f i).2
   ·repeat' (first|(refine gU ?_;first|(refine gMove ?_;refine st (ok_move rfl) rfl rfl ?_)|(refine gAssign ?_;refine st (ok_assign rfl) rfl rfl ?_)|(refine gFA ?_;refine st (ok_fieldAddr rfl) rfl rfl ?_)|(refine gLoad ?_;refine st (ok_load rfl (by rfl)) rfl rfl ?_)|(refine gBin ?_;refine st (ok_bin rfl rfl rfl) rfl rfl ?_)|(refine gLen ?_;refine st (ok_len rfl) rfl rfl ?_))|(refine fU ?_;first|(refine fMove ?_;refine frA (ok_move rfl) rfl ?_)|(refine fFA ?_;refine frA (ok_fieldAddr rfl) rfl ?_)|(refine fLoad ?_;first|refine frA (ok_load rfl (by first|rfl|assumption)) rfl ?_|refine frA (ok_loadA rfl (by rfl)) rfl ?_)|(refine fPick ?_;refine frA (ok_pickFA rfl rfl) rfl ?_)|(refine fNot ?_;refine frA (ok_notD rfl) rfl ?_)|(refine fIA ?_;first|refine frA (ok_idxSN rfl rfl (by omega)) rfl ?_|refine frA (ok_idxA rfl rfl (by omega) (by omega)) rfl ?_)|(refine fCall ?_;refine frA (ok_call rfl rfl rfl (by exact isWork_ev ⟨.inl rfl,.inl rfl,.inl rfl⟩ shS_self hS rfl)) rfl ?_))|(refine fG ?_;first|(refine fMove ?_;refine frGA rfl (ok_move rfl) rfl ?_)|(refine fFA ?_;refine frGA rfl (ok_fieldAddr rfl) rfl ?_)|(refine fLoad ?_;first|refine frGA rfl (ok_load rfl (by first|rfl|assumption)) rfl ?_|refine frGA rfl (ok_loadA rfl (by rfl)) rfl ?_)|(refine fNot ?_;refine frGA rfl (ok_notD rfl) rfl ?_)|(refine fIA ?_;first|refine frGA rfl (ok_idxSN rfl rfl (by omega)) rfl ?_|refine frGA rfl (ok_idxA rfl rfl (by omega) (by omega)) rfl ?_)|(refine fCall ?_;refine frGA rfl (ok_call rfl rfl rfl (by exact isWork_ev ⟨.inl rfl,.inl rfl,.inl rfl⟩ shS_self hS rfl)) rfl ?_))|(refine fr_stop ⟨by kernel_rfl,?_⟩)|refine W_seq ?_|refine W_region ?_|refine W_regionD (by kernel_rfl) rfl ?_|refine st_nil ?_|refine tq_n ?_|refine W_skip ?_|refine W_block ?_|refine W_condTA rfl ?_|refine W_condFA rfl ?_)
    refine W_loopS (ι:=Nat) (fun k=>[(1,.pointer (some ⟨3,0,none⟩)),(4,.int .i64 (i:Int)),(5,.int .i64 (k:Int))])
     (fun _=>[.ro (ints S.d),.ro (pc S.f),.ro (ints S.s),.rw (shL 0 1 2 S)]) (fun k=>i - k) (fun k=>k≤i∧∀ j,j<k→gf S.f j ≠ gf S.f i) 0 (by simp) (.same ⟨rfl,rfl,rfl,trivial⟩) ⟨by omega,fun j h=>by omega⟩ ?_
    intro k ⟨hk',hallk⟩
    by_cases hki:k<i
    ·have hki':(k:Int)<i:=by omega
     have hd3:cellsAt [.ro (ints S.d),.ro (pc S.f),.ro (ints S.s),.rw (shL 0 1 2 S)] 1 (0+k*2) 2=some [.int .i64 (gf S.f k).1,.int .i64 (gf S.f k).2]:=pc_cells (.inl rfl) (by omega)
     by_cases hq:gf S.f k=gf S.f i
     ·have hq':∀ q ∈ List.range 2,pF (gf S.f k).1 (gf S.f k).2 q=pF (gf S.f i).1 (gf S.f i).2 q:=pF_iff.2 hq
      have e:shopE S=2:=by unfold shopE;rw [if_neg e0,if_neg e1,if_neg (fun h=>(h.1 i hil).2.2 k hki hq)]
      rw [e]
      repeat' (first|(refine gU ?_;first|refine st (ok_eqArrI rfl rfl rfl rfl rfl (pA_at _ _) (pA_at _ _)) rfl rfl ?_|(refine gMove ?_;refine st (ok_move rfl) rfl rfl ?_)|(refine gAssign ?_;refine st (ok_assign rfl) rfl rfl ?_)|(refine gBin ?_;refine st (ok_bin rfl rfl rfl) rfl rfl ?_))|(refine fU ?_;first|(refine fMove ?_;refine frA (ok_move rfl) rfl ?_)|(refine fFA ?_;refine frA (ok_fieldAddr rfl) rfl ?_)|(refine fLoad ?_;first|refine frA (ok_load rfl (by rfl)) rfl ?_|refine frA (ok_loadA rfl (by assumption)) rfl ?_)|(refine fIA ?_;refine frA (ok_idxSN rfl rfl (by omega)) rfl ?_))|(refine fr_stop ⟨by kernel_rfl,?_⟩)|refine W_seq ?_|refine W_region ?_|refine W_regionD (by kernel_rfl) rfl ?_|refine st_nil ?_|refine tq_n ?_|refine tq_r ?_|refine bq_r ?_|refine W_skip ?_|refine W_ret ?_|refine W_block ?_|refine W_condTA rfl ?_)
      exact ret0 (.tmp rfl .nil) (.plain rfl rfl) ⟨rfl,rfl⟩
     ·have hq':¬ ∀ q ∈ List.range 2,pF (gf S.f k).1 (gf S.f k).2 q=pF (gf S.f i).1 (gf S.f i).2 q:=fun h=>hq (pF_iff.1 h)
      repeat' (first|(refine gU ?_;first|refine st (ok_eqArrI rfl rfl rfl rfl rfl (pA_at _ _) (pA_at _ _)) rfl rfl ?_|(refine gMove ?_;refine st (ok_move rfl) rfl rfl ?_)|(refine gAssign ?_;refine st (ok_assign rfl) rfl rfl ?_)|(refine gAdd ?_;refine st (ok_inc rfl rfl (by omega)) rfl rfl ?_)|(refine gBin ?_;refine st (ok_bin rfl rfl rfl) rfl rfl ?_))|(refine fU ?_;first|(refine fMove ?_;refine frA (ok_move rfl) rfl ?_)|(refine fFA ?_;refine frA (ok_fieldAddr rfl) rfl ?_)|(refine fLoad ?_;first|refine frA (ok_load rfl (by rfl)) rfl ?_|refine frA (ok_loadA rfl (by assumption)) rfl ?_)|(refine fIA ?_;refine frA (ok_idxSN rfl rfl (by omega)) rfl ?_))|(refine fr_stop ⟨by kernel_rfl,?_⟩)|refine W_seq ?_|refine W_region ?_|refine W_regionD (by kernel_rfl) rfl ?_|refine st_nil ?_|refine tq_n ?_|refine bq_n ?_|refine W_skip ?_|refine W_block ?_|refine W_condTA rfl ?_|refine W_condFA rfl ?_)
      refine ⟨rfl,k+1,⟨by omega,fun j hj=>?_⟩,by omega,.same ⟨rfl,rfl,rfl,trivial⟩⟩
      by_cases hji:j=k
      ·subst hji;exact hq
      ·exact hallk j (by omega)
    ·have hki':¬ (k:Int)<i:=by omega
     repeat' (first|(refine gU ?_;first|(refine gMove ?_;refine st (ok_move rfl) rfl rfl ?_)|(refine gAssign ?_;refine st (ok_assign rfl) rfl rfl ?_)|(refine gAdd ?_;refine st (ok_inc rfl rfl (by omega)) rfl rfl ?_)|(refine gBin ?_;refine st (ok_bin rfl rfl rfl) rfl rfl ?_))|refine W_seq ?_|refine W_region ?_|refine st_nil ?_|refine tq_n ?_|refine tq_e ?_|refine bq_n ?_|refine bq_hit rfl ?_|refine W_exit ?_|refine W_condFA rfl ?_)
     refine ⟨rfl,i+1,⟨by omega,fun j hj=>?_⟩,by omega,.same ⟨rfl,rfl,trivial⟩⟩
     by_cases hji:j=i
     ·subst hji;exact ⟨b1,b2,fun q hq=>hallk q (by omega)⟩
     ·exact hall j (by omega)
   ·have e:shopE S=2:=by unfold shopE;rw [if_neg e0,if_neg e1,if_neg (fun h=>b2 (h.1 i hil).2.1)]
    rw [e]
    repeat' (first|(refine gU ?_;first|(refine gMove ?_;refine st (ok_move rfl) rfl rfl ?_)|(refine gAssign ?_;refine st (ok_assign rfl) rfl rfl ?_)|(refine gFA ?_;refine st (ok_fieldAddr rfl) rfl rfl ?_)|(refine gLoad ?_;refine st (ok_load rfl (by rfl)) rfl rfl ?_)|(refine gBin ?_;refine st (ok_bin rfl rfl rfl) rfl rfl ?_)|(refine gLen ?_;refine st (ok_len rfl) rfl rfl ?_))|(refine fU ?_;first|(refine fMove ?_;refine frA (ok_move rfl) rfl ?_)|(refine fFA ?_;refine frA (ok_fieldAddr rfl) rfl ?_)|(refine fLoad ?_;first|refine frA (ok_load rfl (by first|rfl|assumption)) rfl ?_|refine frA (ok_loadA rfl (by rfl)) rfl ?_)|(refine fPick ?_;refine frA (ok_pickFA rfl rfl) rfl ?_)|(refine fNot ?_;refine frA (ok_notD rfl) rfl ?_)|(refine fIA ?_;first|refine frA (ok_idxSN rfl rfl (by omega)) rfl ?_|refine frA (ok_idxA rfl rfl (by omega) (by omega)) rfl ?_)|(refine fCall ?_;refine frA (ok_call rfl rfl rfl (by exact isWork_ev ⟨.inl rfl,.inl rfl,.inl rfl⟩ shS_self hS rfl)) rfl ?_))|(refine fG ?_;first|(refine fMove ?_;refine frGA rfl (ok_move rfl) rfl ?_)|(refine fFA ?_;refine frGA rfl (ok_fieldAddr rfl) rfl ?_)|(refine fLoad ?_;first|refine frGA rfl (ok_load rfl (by first|rfl|assumption)) rfl ?_|refine frGA rfl (ok_loadA rfl (by rfl)) rfl ?_)|(refine fNot ?_;refine frGA rfl (ok_notD rfl) rfl ?_)|(refine fIA ?_;first|refine frGA rfl (ok_idxSN rfl rfl (by omega)) rfl ?_|refine frGA rfl (ok_idxA rfl rfl (by omega) (by omega)) rfl ?_)|(refine fCall ?_;refine frGA rfl (ok_call rfl rfl rfl (by exact isWork_ev ⟨.inl rfl,.inl rfl,.inl rfl⟩ shS_self hS rfl)) rfl ?_))|(refine fr_stop ⟨by kernel_rfl,?_⟩)|refine W_seq ?_|refine W_region ?_|refine W_regionD (by kernel_rfl) rfl ?_|refine st_nil ?_|refine tq_n ?_|refine tq_r ?_|refine bq_r ?_|refine W_skip ?_|refine W_ret ?_|refine W_block ?_|refine W_condTA rfl ?_)
    exact ret0 (.tmp rfl .nil) (.plain rfl rfl) ⟨rfl,rfl⟩
  ·have e:shopE S=2:=by unfold shopE;rw [if_neg e0,if_neg e1,if_neg (fun h=>b1 (h.1 i hil).1)]
   rw [e]
   repeat' (first|(refine gU ?_;first|(refine gMove ?_;refine st (ok_move rfl) rfl rfl ?_)|(refine gAssign ?_;refine st (ok_assign rfl) rfl rfl ?_)|(refine gFA ?_;refine st (ok_fieldAddr rfl) rfl rfl ?_)|(refine gLoad ?_;refine st (ok_load rfl (by rfl)) rfl rfl ?_)|(refine gBin ?_;refine st (ok_bin rfl rfl rfl) rfl rfl ?_)|(refine gLen ?_;refine st (ok_len rfl) rfl rfl ?_))|(refine fU ?_;first|(refine fMove ?_;refine frA (ok_move rfl) rfl ?_)|(refine fFA ?_;refine frA (ok_fieldAddr rfl) rfl ?_)|(refine fLoad ?_;first|refine frA (ok_load rfl (by first|rfl|assumption)) rfl ?_|refine frA (ok_loadA rfl (by rfl)) rfl ?_)|(refine fPick ?_;refine frA (ok_pickTA rfl rfl) rfl ?_)|(refine fNot ?_;refine frA (ok_notD rfl) rfl ?_)|(refine fIA ?_;first|refine frA (ok_idxSN rfl rfl (by omega)) rfl ?_|refine frA (ok_idxA rfl rfl (by omega) (by omega)) rfl ?_)|(refine fCall ?_;refine frA (ok_call rfl rfl rfl (by exact isWork_ev ⟨.inl rfl,.inl rfl,.inl rfl⟩ shS_self hS rfl)) rfl ?_))|(refine fG ?_;refine frSA rfl rfl ?_)|(refine fr_stop ⟨by kernel_rfl,?_⟩)|refine W_seq ?_|refine W_region ?_|refine W_regionD (by kernel_rfl) rfl ?_|refine st_nil ?_|refine tq_n ?_|refine tq_r ?_|refine bq_r ?_|refine W_skip ?_|refine W_ret ?_|refine W_block ?_|refine W_condTA rfl ?_)
   exact ret0 (.tmp rfl .nil) (.plain rfl rfl) ⟨rfl,rfl⟩
 have hF:okF S:=fun j hj=>hall j (by omega)
 repeat' (first|(refine gU ?_;first|(refine gMove ?_;refine st (ok_move rfl) rfl rfl ?_)|(refine gAssign ?_;refine st (ok_assign rfl) rfl rfl ?_)|(refine gFA ?_;refine st (ok_fieldAddr rfl) rfl rfl ?_)|(refine gLoad ?_;refine st (ok_load rfl (by rfl)) rfl rfl ?_)|(refine gBin ?_;refine st (ok_bin rfl rfl rfl) rfl rfl ?_)|(refine gLen ?_;refine st (ok_len rfl) rfl rfl ?_))|refine W_seq ?_|refine W_region ?_|refine st_nil ?_|refine tq_n ?_|refine tq_e ?_|refine bq_hit rfl ?_|refine W_exit ?_|refine W_block ?_|refine W_condFA rfl ?_)
 refine W_loopS (ι:=Nat) (fun i=>[(1,.pointer (some ⟨3,0,none⟩)),(6,.int .i64 (i:Int))])
  (fun _=>[.ro (ints S.d),.ro (pc S.f),.ro (ints S.s),.rw (shL 0 1 2 S)]) (fun i=>S.s.length - i) (fun i=>i≤S.s.length∧∀ j,j<i→okQ S j) 0 (by simp) (.same ⟨rfl,rfl,trivial⟩) ⟨by omega,fun j h=>by omega⟩ ?_
 clear hil hall hi' i
 intro i ⟨hi',hall⟩
 by_cases hil:i<S.s.length
 ·have hc1:cellGet [.ro (ints S.d),.ro (pc S.f),.ro (ints S.s),.rw (shL 0 1 2 S)] 2 (0+i*1)=some (.int .i64 (gi S.s i)):=by rw [Nat.zero_add,Nat.mul_one];exact ints_get hil
  have hc2:cellGet [.ro (ints S.d),.ro (pc S.f),.ro (ints S.s),.rw (shL 0 1 2 S)] 2 i=some (.int .i64 (gi S.s i)):=ints_get hil
  by_cases b1:isW S (gi S.s i)
  ·by_cases b2:(i:Int) > 0
   ·have et:((i:Int) - 1).toNat=i - 1:=by omega
    have hc3:cellGet [.ro (ints S.d),.ro (pc S.f),.ro (ints S.s),.rw (shL 0 1 2 S)] 2 (0+((i:Int) - 1).toNat*1)=some (.int .i64 (gi S.s (i - 1))):=by rw [Nat.zero_add,Nat.mul_one,et];exact ints_get (by omega)
    have hc4:cellGet [.ro (ints S.d),.ro (pc S.f),.ro (ints S.s),.rw (shL 0 1 2 S)] 2 (i - 1)=some (.int .i64 (gi S.s (i - 1))):=ints_get (by omega)
    by_cases b3:gi S.s i≤gi S.s (i - 1)
    ·have e:shopE S=2:=by unfold shopE;rw [if_neg e0,if_neg e1,if_neg (fun h=>by have:=(h.2.1 i hil).2;omega)]
     rw [e]
     repeat' (first|(refine gU ?_;first|(refine gMove ?_;refine st (ok_move rfl) rfl rfl ?_)|(refine gAssign ?_;refine st (ok_assign rfl) rfl rfl ?_)|(refine gFA ?_;refine st (ok_fieldAddr rfl) rfl rfl ?_)|(refine gLoad ?_;refine st (ok_load rfl (by rfl)) rfl rfl ?_)|(refine gBin ?_;refine st (ok_bin rfl rfl rfl) rfl rfl ?_)|(refine gLen ?_;refine st (ok_len rfl) rfl rfl ?_))|(refine fU ?_;first|(refine fMove ?_;refine frA (ok_move rfl) rfl ?_)|(refine fFA ?_;refine frA (ok_fieldAddr rfl) rfl ?_)|(refine fLoad ?_;first|refine frA (ok_load rfl (by first|rfl|assumption)) rfl ?_|refine frA (ok_loadA rfl (by rfl)) rfl ?_)|(refine fPick ?_;refine frA (ok_pickFA rfl rfl) rfl ?_)|(refine fNot ?_;refine frA (ok_notD rfl) rfl ?_)|(refine fIA ?_;refine frA (ok_idxN rfl rfl (by omega)) rfl ?_)|(refine fCall ?_;refine frA (ok_call rfl rfl rfl (by exact isWork_ev ⟨.inl rfl,.inl rfl,.inl rfl⟩ shS_self hS rfl)) rfl ?_))|(refine fG ?_;first|(refine fMove ?_;refine frGA rfl (ok_move rfl) rfl ?_)|(refine fFA ?_;refine frGA rfl (ok_fieldAddr rfl) rfl ?_)|(refine fLoad ?_;refine frGA rfl (ok_load rfl (by first|rfl|assumption)) rfl ?_)|(refine fSub ?_;refine frGA rfl (ok_sub rfl rfl (by omega) (by omega)) rfl ?_)|(refine fBin ?_;refine frGA rfl (ok_bin rfl rfl rfl) rfl ?_)|(refine fPick ?_;refine frGA rfl (ok_pickTA rfl rfl) rfl ?_)|(refine fIA ?_;first|refine frGA rfl (ok_idxN rfl rfl (by omega)) rfl ?_|refine frGA rfl (ok_idx rfl rfl (by omega) (by omega)) rfl ?_))|(refine fr_stop ⟨by kernel_rfl,?_⟩)|refine W_seq ?_|refine W_region ?_|refine W_regionD (by kernel_rfl) rfl ?_|refine st_nil ?_|refine tq_n ?_|refine tq_r ?_|refine bq_r ?_|refine W_skip ?_|refine W_ret ?_|refine W_block ?_|refine W_condTA rfl ?_)
     exact ret0 (.tmp rfl .nil) (.plain rfl rfl) ⟨rfl,rfl⟩
    ·repeat' (first|(refine gU ?_;first|(refine gMove ?_;refine st (ok_move rfl) rfl rfl ?_)|(refine gAssign ?_;refine st (ok_assign rfl) rfl rfl ?_)|(refine gFA ?_;refine st (ok_fieldAddr rfl) rfl rfl ?_)|(refine gLoad ?_;refine st (ok_load rfl (by rfl)) rfl rfl ?_)|(refine gAdd ?_;refine st (ok_inc rfl rfl (by omega)) rfl rfl ?_)|(refine gBin ?_;refine st (ok_bin rfl rfl rfl) rfl rfl ?_)|(refine gLen ?_;refine st (ok_len rfl) rfl rfl ?_))|(refine fU ?_;first|(refine fMove ?_;refine frA (ok_move rfl) rfl ?_)|(refine fFA ?_;refine frA (ok_fieldAddr rfl) rfl ?_)|(refine fLoad ?_;first|refine frA (ok_load rfl (by first|rfl|assumption)) rfl ?_|refine frA (ok_loadA rfl (by rfl)) rfl ?_)|(refine fPick ?_;refine frA (ok_pickFA rfl rfl) rfl ?_)|(refine fNot ?_;refine frA (ok_notD rfl) rfl ?_)|(refine fIA ?_;refine frA (ok_idxN rfl rfl (by omega)) rfl ?_)|(refine fCall ?_;refine frA (ok_call rfl rfl rfl (by exact isWork_ev ⟨.inl rfl,.inl rfl,.inl rfl⟩ shS_self hS rfl)) rfl ?_))|(refine fG ?_;first|(refine fMove ?_;refine frGA rfl (ok_move rfl) rfl ?_)|(refine fFA ?_;refine frGA rfl (ok_fieldAddr rfl) rfl ?_)|(refine fLoad ?_;refine frGA rfl (ok_load rfl (by first|rfl|assumption)) rfl ?_)|(refine fSub ?_;refine frGA rfl (ok_sub rfl rfl (by omega) (by omega)) rfl ?_)|(refine fBin ?_;refine frGA rfl (ok_bin rfl rfl rfl) rfl ?_)|(refine fPick ?_;refine frGA rfl (ok_pickTA rfl rfl) rfl ?_)|(refine fIA ?_;first|refine frGA rfl (ok_idxN rfl rfl (by omega)) rfl ?_|refine frGA rfl (ok_idx rfl rfl (by omega) (by omega)) rfl ?_))|(refine fr_stop ⟨by kernel_rfl,?_⟩)|refine W_seq ?_|refine W_region ?_|refine W_regionD (by kernel_rfl) rfl ?_|refine st_nil ?_|refine tq_n ?_|refine bq_n ?_|refine W_skip ?_|refine W_block ?_|refine W_condTA rfl ?_|refine W_condFA rfl ?_)
     refine ⟨rfl,i+1,⟨by omega,fun j hj=>?_⟩,by omega,.same ⟨rfl,rfl,trivial⟩⟩
     by_cases hji:j=i
     ·subst hji;exact ⟨b1,.inr (by omega)⟩
     ·exact hall j (by omega)
   ·repeat' (first|(refine gU ?_;first|(refine gMove ?_;refine st (ok_move rfl) rfl rfl ?_)|(refine gAssign ?_;refine st (ok_assign rfl) rfl rfl ?_)|(refine gFA ?_;refine st (ok_fieldAddr rfl) rfl rfl ?_)|(refine gLoad ?_;refine st (ok_load rfl (by rfl)) rfl rfl ?_)|(refine gAdd ?_;refine st (ok_inc rfl rfl (by omega)) rfl rfl ?_)|(refine gBin ?_;refine st (ok_bin rfl rfl rfl) rfl rfl ?_)|(refine gLen ?_;refine st (ok_len rfl) rfl rfl ?_))|(refine fU ?_;first|(refine fMove ?_;refine frA (ok_move rfl) rfl ?_)|(refine fFA ?_;refine frA (ok_fieldAddr rfl) rfl ?_)|(refine fLoad ?_;first|refine frA (ok_load rfl (by first|rfl|assumption)) rfl ?_|refine frA (ok_loadA rfl (by rfl)) rfl ?_)|(refine fPick ?_;refine frA (ok_pickFA rfl rfl) rfl ?_)|(refine fNot ?_;refine frA (ok_notD rfl) rfl ?_)|(refine fIA ?_;refine frA (ok_idxN rfl rfl (by omega)) rfl ?_)|(refine fCall ?_;refine frA (ok_call rfl rfl rfl (by exact isWork_ev ⟨.inl rfl,.inl rfl,.inl rfl⟩ shS_self hS rfl)) rfl ?_))|(refine fG ?_;first|(refine fMove ?_;refine frGA rfl (ok_move rfl) rfl ?_)|(refine fBin ?_;refine frGA rfl (ok_bin rfl rfl rfl) rfl ?_)|(refine fPick ?_;refine frGA rfl (ok_pickFA rfl rfl) rfl ?_)|refine frSA rfl rfl ?_)|(refine fr_stop ⟨by kernel_rfl,?_⟩)|refine W_seq ?_|refine W_region ?_|refine W_regionD (by kernel_rfl) rfl ?_|refine st_nil ?_|refine tq_n ?_|refine bq_n ?_|refine W_skip ?_|refine W_block ?_|refine W_condTA rfl ?_|refine W_condFA rfl ?_)
    refine ⟨rfl,i+1,⟨by omega,fun j hj=>?_⟩,by omega,.same ⟨rfl,rfl,trivial⟩⟩
    by_cases hji:j=i
    ·subst hji;exact ⟨b1,.inl (by omega)⟩
    ·exact hall j (by omega)
  ·have e:shopE S=2:=by unfold shopE;rw [if_neg e0,if_neg e1,if_neg (fun h=>b1 (h.2.1 i hil).1)]
   rw [e]
   repeat' (first|(refine gU ?_;first|(refine gMove ?_;refine st (ok_move rfl) rfl rfl ?_)|(refine gAssign ?_;refine st (ok_assign rfl) rfl rfl ?_)|(refine gFA ?_;refine st (ok_fieldAddr rfl) rfl rfl ?_)|(refine gLoad ?_;refine st (ok_load rfl (by rfl)) rfl rfl ?_)|(refine gBin ?_;refine st (ok_bin rfl rfl rfl) rfl rfl ?_)|(refine gLen ?_;refine st (ok_len rfl) rfl rfl ?_))|(refine fU ?_;first|(refine fMove ?_;refine frA (ok_move rfl) rfl ?_)|(refine fFA ?_;refine frA (ok_fieldAddr rfl) rfl ?_)|(refine fLoad ?_;first|refine frA (ok_load rfl (by first|rfl|assumption)) rfl ?_|refine frA (ok_loadA rfl (by rfl)) rfl ?_)|(refine fPick ?_;refine frA (ok_pickTA rfl rfl) rfl ?_)|(refine fNot ?_;refine frA (ok_notD rfl) rfl ?_)|(refine fIA ?_;refine frA (ok_idxN rfl rfl (by omega)) rfl ?_)|(refine fCall ?_;refine frA (ok_call rfl rfl rfl (by exact isWork_ev ⟨.inl rfl,.inl rfl,.inl rfl⟩ shS_self hS rfl)) rfl ?_))|(refine fG ?_;first|refine frSU rfl rfl ?_|refine frSA rfl rfl ?_)|(refine fr_stop ⟨by kernel_rfl,?_⟩)|refine W_seq ?_|refine W_region ?_|refine W_regionD (by kernel_rfl) rfl ?_|refine st_nil ?_|refine tq_n ?_|refine tq_r ?_|refine bq_r ?_|refine W_skip ?_|refine W_ret ?_|refine W_block ?_|refine W_condTA rfl ?_)
   exact ret0 (.tmp rfl .nil) (.plain rfl rfl) ⟨rfl,rfl⟩
 have hQ:okS S:=fun j hj=>hall j (by omega)
 by_cases b:(S.s.length:Int)=0
 ·have e:shopE S=2:=by unfold shopE;rw [if_neg e0,if_neg e1,if_neg (fun h=>h.2.2 (by omega))]
  rw [e]
  repeat' (first|(refine gU ?_;first|(refine gMove ?_;refine st (ok_move rfl) rfl rfl ?_)|(refine gAssign ?_;refine st (ok_assign rfl) rfl rfl ?_)|(refine gFA ?_;refine st (ok_fieldAddr rfl) rfl rfl ?_)|(refine gLoad ?_;refine st (ok_load rfl (by rfl)) rfl rfl ?_)|(refine gBin ?_;refine st (ok_bin rfl rfl rfl) rfl rfl ?_)|(refine gLen ?_;refine st (ok_len rfl) rfl rfl ?_))|refine W_seq ?_|refine W_region ?_|refine st_nil ?_|refine tq_n ?_|refine tq_r ?_|refine tq_e ?_|refine bq_hit rfl ?_|refine W_exit ?_|refine W_ret ?_|refine W_condTA rfl ?_|refine W_condFA rfl ?_)
  exact ret0 (.tmp rfl .nil) (.plain rfl rfl) ⟨rfl,rfl⟩
 ·have e:shopE S=0:=by unfold shopE;rw [if_neg e0,if_neg e1,if_pos ⟨hF,hQ,by omega⟩]
  rw [e]
  repeat' (first|(refine gU ?_;first|(refine gMove ?_;refine st (ok_move rfl) rfl rfl ?_)|(refine gAssign ?_;refine st (ok_assign rfl) rfl rfl ?_)|(refine gFA ?_;refine st (ok_fieldAddr rfl) rfl rfl ?_)|(refine gLoad ?_;refine st (ok_load rfl (by rfl)) rfl rfl ?_)|(refine gBin ?_;refine st (ok_bin rfl rfl rfl) rfl rfl ?_)|(refine gLen ?_;refine st (ok_len rfl) rfl rfl ?_))|refine W_seq ?_|refine W_region ?_|refine st_nil ?_|refine tq_n ?_|refine tq_e ?_|refine bq_hit rfl ?_|refine W_skip ?_|refine W_exit ?_|refine W_ret ?_|refine W_condFA rfl ?_)
  exact ret0 (.tmp rfl .nil) (.plain rfl rfl) ⟨rfl,rfl⟩
theorem refShop_ev {σ:Heap} {S:Shp} {x y z:Nat} {v:Value} (h:SAt σ x y z S) (hv:ShS x y z S v) (hS:S.fit) (hni:σ.all (fun o=>!isIter o)=true) :
  Ev Try.prog 22 [v] σ (.int .i64 (shopE S)) σ:=Ev.arrs S.css [x,y,z] (refShop_ok S hS) h.arrs ⟨hv,trivial⟩ S.css_plain rfl hni
end Go.Proofs.Ytomioaiojidnbaa
