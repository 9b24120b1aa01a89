/- Rules for abstract heaps, second part: regions whose order is drawn, loops, panics, conversions, frames. Conditions: stand in each theorem. -/
import Derived.Test.YtomioaiojidnbaaDtMA
import Derived.Laws.Tables
import Derived.Laws.Slices
import Derived.Laws.Append
import Derived.ArgAppend
import Derived.Great.BuildSlice
import Derived.Laws.StructEq
namespace Go.AH
open Go
def waitsA (after:Array Edge) (i:Nat):Bool:=after.any fun e=>Region.binds .any e && Nat.beq e.on i
def waits (o:Oper) (i:Nat):Bool:=waitsA o.after i
def notDefer (o:Oper):Bool:=match o.op with|.defer _=>false|.select ..=>false|_=>true
def forceN {α:Type} (n:Nat) (f:Nat→α):α:=match n with|0=>f 0|k+1=>f (k+1)
theorem forceN_eq {α:Type} (n:Nat) (f:Nat→α):forceN n f=f n:=by cases n <;> rfl
def maskOf (acc:List Nat):List Edge→Nat
 |[]=>0
 |e::r=>bif Region.binds .any e then Nat.lor (Nat.lor (Nat.shiftLeft 1 e.on) (acc.getD e.on 0)) (maskOf acc r) else maskOf acc r
def partOk (ops:List Oper) (m:Nat) (o:Oper) (j mk:Nat):Bool :=
 notDefer o && o.after.all (fun e=>!Region.binds .any e || Nat.blt e.on j) &&
  (match o.guard with|some (g,_)=>waits o g|none=>true) &&
  (List.range j).all fun i=>mk.testBit i || (Nat.blt i m && (match ops[i]? with|some oi=>oi.apart ops.toArray o|none=>false)) && Nat.blt j m
def chkD (all:List Oper) (m:Nat):List Oper→Nat→List Nat→Bool
 |[],_,_=>true
 |o::rest,j,acc=>forceN (maskOf acc o.after.toList) fun mk=>partOk all m o j mk && chkD all m rest (j+1) (acc++[mk])
def drawOk (ops:List Oper) (m:Nat):Bool:=chkD ops m ops 0 []
def Closed (all:List Oper) (D:Nat→Prop):Prop:=∀ j o,all[j]?=some o→D j→∀ k,waits o k=true→D k
def Good (all:List Oper) (j mk:Nat):Prop:=∀ D:Nat→Prop,Closed all D→∀ o,all[j]?=some o→(∀ k,waits o k=true→D k)→∀ i,mk.testBit i=true→D i
theorem maskOf_bit {acc:List Nat} {i:Nat}:∀ {l:List Edge},(maskOf acc l).testBit i=true→∃ e ∈ l,Region.binds .any e=true∧(i=e.on∨(acc.getD e.on 0).testBit i=true)
 |[],h=>by simp [maskOf] at h
 |e::r,h=>by
  simp only [maskOf] at h
  cases hb:Region.binds .any e with
  |false =>
   rw [hb] at h
   obtain ⟨e',h1,h2⟩:=maskOf_bit (l:=r) h
   exact ⟨e',List.mem_cons_of_mem _ h1,h2⟩
  |true =>
   rw [hb] at h
   simp only [cond_true] at h
   have h':((1 <<< e.on ||| acc.getD e.on 0) ||| maskOf acc r).testBit i=true:=h
   simp only [Nat.testBit_or,Bool.or_eq_true] at h'
   rcases h' with (h'|h')|h'
   ·refine ⟨e,by simp,hb,.inl ?_⟩
    rw [Nat.one_shiftLeft,Nat.testBit_two_pow] at h'
    exact (of_decide_eq_true h').symm
   ·exact ⟨e,by simp,hb,.inr h'⟩
   ·obtain ⟨e',h1,h2⟩:=maskOf_bit (l:=r) h'
    exact ⟨e',List.mem_cons_of_mem _ h1,h2⟩
theorem good_mask {all:List Oper} {j:Nat} {acc:List Nat} {o:Oper} (ho:all[j]?=some o) (hacc:∀ (k:Nat) (mk:Nat),acc[k]?=some mk→Good all k mk) (hl:acc.length≤all.length):Good all j (maskOf acc o.after.toList):=by
 intro D hD o' ho' hw i hi
 rw [ho] at ho';cases ho'
 obtain ⟨e,h1,h2,h3⟩:=maskOf_bit hi
 have hwe:waits o e.on=true:=by
  unfold waits waitsA
  rw [Array.any_eq_true']
  exact ⟨e,by simpa using h1,by simp [h2]⟩
 have hde:=hw e.on hwe
 rcases h3 with rfl|h3
 ·exact hde
 ·cases hk:acc[e.on]? with
  |none=>rw [List.getD_eq_getElem?_getD,hk] at h3;simp at h3
  |some mk =>
   rw [List.getD_eq_getElem?_getD,hk] at h3
   have hlt:=(List.getElem?_eq_some_iff.1 hk).1
   exact hacc e.on mk hk D hD all[e.on] (by simp [show e.on<all.length by omega]) (hD e.on _ (by simp [show e.on<all.length by omega]) hde) i h3
theorem chkD_get {all:List Oper} {m:Nat}:∀ (rest:List Oper) (j:Nat) (acc:List Nat),rest=all.drop j→acc.length=j→j≤all.length→(∀ (k:Nat) (mk:Nat),acc[k]?=some mk→Good all k mk)→chkD all m rest j acc=true →
  ∀ (t:Nat) (o:Oper),rest[t]?=some o→∃ mk,partOk all m o (j+t) mk=true∧Good all (j+t) mk
 |[],_,_,_,_,_,_,_,t,o,h=>by simp at h
 |x::rest,j,acc,hr,hl,hj,hacc,hc,t,o,h=>by
  have hx:all[j]?=some x:=by
   have:=congrArg (fun l:List Oper=>l[0]?) hr
   simpa using this.symm
  have hr':rest=all.drop (j+1):=by
   have:=congrArg List.tail hr
   simpa using this
  have hjl:=(List.getElem?_eq_some_iff.1 hx).1
  simp only [chkD,forceN_eq,Bool.and_eq_true] at hc
  have hg:=good_mask hx hacc (by omega)
  cases t with
  |zero=>simp at h;subst h;exact ⟨_,hc.1,hg⟩
  |succ t =>
   have:=chkD_get rest (j+1) (acc++[maskOf acc x.after.toList]) hr' (by simp [hl]) (by omega) (fun k mk hk=>by
    by_cases hkl:k<acc.length
    ·rw [List.getElem?_append_left hkl] at hk;exact hacc k mk hk
    ·rw [List.getElem?_append_right (by omega)] at hk
     have hk0:k - acc.length=0:=by
      have:=(List.getElem?_eq_some_iff.1 hk).1
      simp at this;omega
     rw [hk0] at hk;simp at hk;subst hk
     rw [show k=j by omega];exact hg) hc.2 t o (by simpa using h)
   rwa [show j+1+t=j+(t+1) by omega] at this
def hide (l:Heap):Heap:=l.map fun _=>.dead
def putE (d:Option Tmp) (v:Value) (e:Env):Env:=match d with|some d=>(d,v)::e|none=>e
def wantedA (all:List Oper) (e:Env) (o:Oper):Option Bool :=
 match o.guard with
 |none=>some true
 |some (j,want)=>match guardV all e j with|some (.bool b)=>some (b == want)|some (.tuple ⟨[]⟩)=>some false|_=>none
def dstOk (N:Nat) (o:Oper):Bool:=match o.dst with|some d=>Nat.blt d N|none=>true
def Nok (n b:Nat) (v:Value):Prop:=∀ (k:Nat) (ρ ρ':Rho) (v':Value),VRel k ρ v v'→(∀ i,i<n∨b≤i→ρ' i=ρ i)→VRel k ρ' v v'
theorem nok_closed {n b:Nat} {v:Value} (h:closed n v=true):Nok n b v:=fun k ρ ρ' v' hv hρ=>by
 by_cases hk:n≤k
 ·exact (vq_lower hv h).mono hk fun i hi=>hρ i (.inl hi)
 ·exact hv.mono (Nat.le_refl _) fun i hi=>hρ i (.inl (by omega))
theorem nok_ptr {n b:Nat}:Nok n b (.pointer (some ⟨b,0,none⟩)):=fun k ρ ρ' v' hv hρ=>by
 obtain ⟨rfl,hi⟩:=ptr_inv hv
 rw [← hρ b (.inr (Nat.le_refl _))]
 exact .ptr _ _ hi
def newOk (n:Nat) (ns:Heap):Prop:=∀ x ∈ ns,∃ cs,x=AObj.rw cs∧closedL n cs=true∧okL cs=true
def flatN (news:List (Nat×Heap)):Heap:=(news.map (·.2)).flatten
def NokN (all:List Oper) (k n:Nat) (news:List (Nat×Heap)) (v:Value):Prop :=
 ∀ (n1:List (Nat×Heap)) (i:Nat) (h:Heap) (n2:List (Nat×Heap)),news=n1++(i,h)::n2→(∃ D:Nat→Prop,Closed all D∧D k∧¬ D i)→∀ (m:Nat) (ρ ρ':Rho) (v':Value),VRel m ρ v v' →
  (∀ q,q<n+(flatN n1).length∨n+(flatN n1).length+h.length≤q→ρ' q=ρ q)→VRel m ρ' v v'
theorem Nok.toN {all:List Oper} {k n b:Nat} {news:List (Nat×Heap)} {v:Value} (h:Nok n b v) (hb:b=n+(flatN news).length):NokN all k n news v:=by
 intro n1 i x n2 hn _ m ρ ρ' v' hv hρ
 refine h m ρ ρ' v' hv fun q hq=>hρ q ?_
 subst hn
 simp only [flatN,List.map_append,List.flatten_append,List.map_cons,List.flatten_cons,List.length_append] at hb ⊢
 omega
def visN (L:Nat→Bool) (news:List (Nat×Heap)):Heap:=(news.map fun p=>bif L p.1 then p.2 else hide p.2).flatten
def addN (news:List (Nat×Heap)) (k:Nat):Heap→List (Nat×Heap)
 |[]=>news
 |x::r=>news++[(k,x::r)]
theorem visN_length (L:Nat→Bool):∀ news:List (Nat×Heap),(visN L news).length=(flatN news).length
 |[]=>rfl
 |p::news=>by
  have:=visN_length L news
  simp only [visN,flatN,List.map_cons,List.flatten_cons,List.length_append] at this ⊢
  rw [this]
  cases L p.1 <;> simp [hide]
def WFree (P:Program) (N:Nat) (rd:Option Nat) (all:List Oper):Nat→List Oper→Env→Heap→List (Nat×Heap)→(Env→List (Nat×Heap)→List Oper→Prop)→Prop
 |_,[],e,_,news,K=>K e news []
 |k,o::rest,e,σ0,news,K=>K e news (o::rest)∨(dstOk N o=true ∧
  ((wantedA all e o=some true∧∃ v ns,OpOk P rd o.op o.type e (σ0++visN (waitsA o.after) news) v (σ0++visN (waitsA o.after) news++ns)∧newOk σ0.length ns∧NokN all k σ0.length news v ∧
    WFree P N rd all (k+1) rest (putE o.dst v e) σ0 (addN news k ns) K) ∨
   (wantedA all e o=some false∧WFree P N rd all (k+1) rest (putE o.dst undef e) σ0 news K)))
section
variable {P:Program} {n0 N:Nat} {rd:Option Nat} {Q:Post} {e:Env} {mk:List Nat} {σ0:Heap} {news:List (Nat×Heap)} {K:Env→List (Nat×Heap)→List Oper→Prop} {k:Nat} {all rest:List Oper}
 {d:Nat} {op:Op} {ty:TypeId} {pos:String} {after:Array Edge} {v:Value} {j:Nat} {b want:Bool}
theorem fr_stop (h:K e news rest):WFree P N rd all k rest e σ0 news K:=by
 cases rest with
 |nil=>exact h
 |cons o r=>exact .inl h
theorem fr (h:OpOk P rd op ty e (σ0++visN (waitsA after) news) v (σ0++visN (waitsA after) news)) (hc:closed σ0.length v=true) (hd:Nat.blt d N=true) (hk:WFree P N rd all (k+1) rest ((d,v)::e) σ0 news K) :
  WFree P N rd all k (⟨some d,op,ty,pos,after,none⟩::rest) e σ0 news K :=
 .inr ⟨hd,.inl ⟨rfl,v,[],by simpa using h,fun _ hx=>by simp at hx,(nok_closed (b:=σ0.length+(flatN news).length) hc).toN rfl,by simpa [putE,addN] using hk⟩⟩
theorem fr1 {cs:List Value} (h:OpOk P rd op ty e (σ0++visN (waitsA after) news) (.pointer (some ⟨(σ0++visN (waitsA after) news).length,0,none⟩)) (σ0++visN (waitsA after) news++[.rw cs])) (hc:closedL σ0.length cs=true) (ho:okL cs=true) (hd:Nat.blt d N=true)
  (hk:WFree P N rd all (k+1) rest ((d,.pointer (some ⟨(σ0++visN (waitsA after) news).length,0,none⟩))::e) σ0 (addN news k [.rw cs]) K) :
  WFree P N rd all k (⟨some d,op,ty,pos,after,none⟩::rest) e σ0 news K :=
 .inr ⟨hd,.inl ⟨rfl,_,[.rw cs],h,fun x hx=>⟨cs,by simpa using hx,hc,ho⟩,nok_ptr.toN (by rw [List.length_append,visN_length]),hk⟩⟩
theorem frN {cs:List Value} (h:OpOk P rd op ty e (σ0++visN (waitsA after) news) v (σ0++visN (waitsA after) news++[.rw cs])) (hv:Nok σ0.length (σ0++visN (waitsA after) news).length v) (hc:closedL σ0.length cs=true) (ho:okL cs=true) (hd:Nat.blt d N=true)
  (hk:WFree P N rd all (k+1) rest ((d,v)::e) σ0 (addN news k [.rw cs]) K):WFree P N rd all k (⟨some d,op,ty,pos,after,none⟩::rest) e σ0 news K :=
 .inr ⟨hd,.inl ⟨rfl,v,[.rw cs],h,fun x hx=>⟨cs,by simpa using hx,hc,ho⟩,hv.toN (by rw [List.length_append,visN_length]),hk⟩⟩
theorem wantedA_some (hg:guardV all e j=some (.bool b)):wantedA all e ⟨some d,op,ty,pos,after,some (j,want)⟩=some (b == want):=by simp only [wantedA,hg]
theorem frG (hg:guardV all e j=some (.bool b)) (hb:b=want) (h:OpOk P rd op ty e (σ0++visN (waitsA after) news) v (σ0++visN (waitsA after) news)) (hc:closed σ0.length v=true) (hd:Nat.blt d N=true) (hk:WFree P N rd all (k+1) rest ((d,v)::e) σ0 news K) :
  WFree P N rd all k (⟨some d,op,ty,pos,after,some (j,want)⟩::rest) e σ0 news K :=
 .inr ⟨hd,.inl ⟨by rw [wantedA_some hg,hb];simp,v,[],by simpa using h,fun _ hx=>by simp at hx,(nok_closed (b:=σ0.length+(flatN news).length) hc).toN rfl,by simpa [putE,addN] using hk⟩⟩
theorem frS (hg:guardV all e j=some (.bool b)) (hb:b=!want) (hd:Nat.blt d N=true) (hk:WFree P N rd all (k+1) rest ((d,undef)::e) σ0 news K) :
  WFree P N rd all k (⟨some d,op,ty,pos,after,some (j,want)⟩::rest) e σ0 news K :=
 .inr ⟨hd,.inr ⟨by rw [wantedA_some hg,hb];cases want <;> rfl,hk⟩⟩
structure Tr where
 o:Oper
 run:Bool
 v:Value
 ns:Heap
def TrOk (P:Program) (N:Nat) (rd:Option Nat) (all:List Oper):Nat→List Tr→Env→Heap→List (Nat×Heap)→Prop
 |_,[],_,_,_=>True
 |k,t::ts,e,σ0,news=>(dstOk N t.o=true∧wantedA all e t.o=some t.run ∧
  (t.run=true→OpOk P rd t.o.op t.o.type e (σ0++visN (waitsA t.o.after) news) t.v (σ0++visN (waitsA t.o.after) news++t.ns))∧(t.run=false→t.v=undef∧t.ns=[])∧newOk σ0.length t.ns∧NokN all k σ0.length news t.v) ∧
  TrOk P N rd all (k+1) ts (putE t.o.dst t.v e) σ0 (addN news k t.ns)
def envAt:List Tr→Env→Env
 |[],e=>e
 |t::ts,e=>envAt ts (putE t.o.dst t.v e)
def newsAt:Nat→List Tr→List (Nat×Heap)→List (Nat×Heap)
 |_,[],news=>news
 |k,t::ts,news=>newsAt (k+1) ts (addN news k t.ns)
def nsOf (ts:List Tr):Heap:=(ts.map (·.ns)).flatten
theorem wfree_trace:∀ (rest:List Oper) (k:Nat) (e:Env) (σ0:Heap) (news:List (Nat×Heap)) (K:Env→List (Nat×Heap)→List Oper→Prop),WFree P N rd all k rest e σ0 news K →
  ∃ (ts:List Tr) (tl:List Oper),ts.map (·.o)++tl=rest∧TrOk P N rd all k ts e σ0 news∧K (envAt ts e) (newsAt k ts news) tl
 |[],k,e,σ0,news,K,h=>⟨[],[],rfl,trivial,h⟩
 |o::rest,k,e,σ0,news,K,h=>by
  rcases h with h|⟨hd,h⟩
  ·exact ⟨[],o::rest,rfl,trivial,h⟩
  rcases h with ⟨hw,v,ns,h1,h2,h2',h3⟩|⟨hw,h3⟩
  ·obtain ⟨ts,tl,g1,g2,g3⟩:=wfree_trace rest _ _ _ _ _ h3
   exact ⟨⟨o,true,v,ns⟩::ts,tl,by simp [g1],⟨⟨hd,hw,fun _=>h1,fun h=>by simp at h,h2,h2'⟩,g2⟩,g3⟩
  ·obtain ⟨ts,tl,g1,g2,g3⟩:=wfree_trace rest _ _ _ _ _ h3
   exact ⟨⟨o,false,undef,[]⟩::ts,tl,by simp [g1],⟨⟨hd,hw,fun h=>by simp at h,fun _=>⟨rfl,rfl⟩,fun _ h=>by simp at h,(nok_closed (b:=σ0.length+(flatN news).length) rfl).toN rfl⟩,g2⟩,g3⟩
def maskN:List Tr→Nat→(Nat→Bool)→Heap
 |[],_,_=>[]
 |t::ts,k,L=>(if L k then t.ns else hide t.ns)++maskN ts (k+1) L
theorem visN_add (L:Nat→Bool) (news:List (Nat×Heap)) (k:Nat) (ns:Heap):visN L (addN news k ns)=visN L news++(if L k then ns else hide ns):=by
 cases ns with
 |nil=>simp [addN,hide]
 |cons x r=>cases hL:L k <;> simp [addN,visN,hL]
theorem visN_newsAt (L:Nat→Bool):∀ (ts:List Tr) (k:Nat) (news:List (Nat×Heap)),visN L (newsAt k ts news)=visN L news++maskN ts k L
 |[],_,_=>by simp [newsAt,maskN]
 |t::ts,k,news=>by simp only [newsAt,maskN];rw [visN_newsAt L ts,visN_add,List.append_assoc]
theorem trok_get':∀ (ts:List Tr) (k:Nat) (e:Env) (news:List (Nat×Heap)),TrOk P N rd all k ts e σ0 news→∀ (i:Nat) (hi:i<ts.length),
  dstOk N ts[i].o=true∧wantedA all (envAt (ts.take i) e) ts[i].o=some ts[i].run ∧
  (ts[i].run=true→OpOk P rd ts[i].o.op ts[i].o.type (envAt (ts.take i) e) (σ0++visN (waitsA ts[i].o.after) (newsAt k (ts.take i) news)) ts[i].v (σ0++visN (waitsA ts[i].o.after) (newsAt k (ts.take i) news)++ts[i].ns)) ∧
  (ts[i].run=false→ts[i].v=undef∧ts[i].ns=[])∧newOk σ0.length ts[i].ns∧NokN all (k+i) σ0.length (newsAt k (ts.take i) news) ts[i].v
 |[],_,_,_,_,i,hi=>by simp at hi
 |t::ts,k,e,news,⟨h1,h2⟩,i,hi=>by
  cases i with
  |zero=>simpa [newsAt,envAt] using h1
  |succ i=>simpa [newsAt,envAt,Nat.add_assoc,Nat.add_comm 1 i] using trok_get' ts _ _ _ h2 i (by simpa using hi)
theorem trok_get (ts:List Tr) (e:Env) (h:TrOk P N rd all 0 ts e σ0 []) (i:Nat) (hi:i<ts.length) :
  dstOk N ts[i].o=true∧wantedA all (envAt (ts.take i) e) ts[i].o=some ts[i].run ∧
  (ts[i].run=true→OpOk P rd ts[i].o.op ts[i].o.type (envAt (ts.take i) e) (σ0++maskN (ts.take i) 0 (waitsA ts[i].o.after)) ts[i].v (σ0++maskN (ts.take i) 0 (waitsA ts[i].o.after)++ts[i].ns)) ∧
  (ts[i].run=false→ts[i].v=undef∧ts[i].ns=[])∧newOk σ0.length ts[i].ns∧NokN all i σ0.length (newsAt 0 (ts.take i) []) ts[i].v:=by
 have:=trok_get' ts 0 e [] h i hi
 rw [visN_newsAt,Nat.zero_add] at this
 exact this
theorem flatN_add (news:List (Nat×Heap)) (k:Nat) (ns:Heap):flatN (addN news k ns)=flatN news++ns:=by
 cases ns <;> simp [addN,flatN]
theorem newsAt_pre:∀ (ts:List Tr) (k:Nat) (news:List (Nat×Heap)),∃ r,newsAt k ts news=news++r
 |[],_,news=>⟨[],by simp [newsAt]⟩
 |t::ts,k,news=>by
  obtain ⟨r,h⟩:=newsAt_pre ts (k+1) (addN news k t.ns)
  simp only [newsAt,h]
  cases hn:t.ns with
  |nil=>exact ⟨r,by simp [addN]⟩
  |cons x y=>exact ⟨(k,x::y)::r,by simp [addN]⟩
theorem newsAt_split:∀ (ts:List Tr) (k:Nat) (news:List (Nat×Heap)) (i:Nat) (hi:i<ts.length),ts[i].ns ≠ [] →
  ∃ n1 n2,newsAt k ts news=n1++(k+i,ts[i].ns)::n2∧flatN n1=flatN news++nsOf (ts.take i)
 |[],_,_,i,hi,_=>by simp at hi
 |t::ts,k,news,i,hi,hne=>by
  cases i with
  |zero =>
   simp only [List.getElem_cons_zero] at hne ⊢
   obtain ⟨r,h⟩:=newsAt_pre ts (k+1) (addN news k t.ns)
   refine ⟨news,r,?_,by simp [nsOf]⟩
   simp only [newsAt,h,Nat.add_zero]
   cases hn:t.ns with
   |nil=>exact absurd hn hne
   |cons x y=>simp [addN]
  |succ i =>
   simp only [List.getElem_cons_succ] at hne ⊢
   obtain ⟨n1,n2,h1,h2⟩:=newsAt_split ts (k+1) (addN news k t.ns) i (by simpa using hi) hne
   refine ⟨n1,n2,?_,?_⟩
   ·simp only [newsAt,h1];rw [show k+1+i=k+(i+1) by omega]
   ·rw [h2,flatN_add];simp [nsOf]
theorem envAt_get:∀ (ts:List Tr) (e:Env) (t:Nat) (v:Value),Env.get (envAt ts e) t=some v →
  (∃ (j:Nat) (hj:j<ts.length),ts[j].o.dst=some t∧ts[j].v=v∧∀ (k:Nat) (hk:k<ts.length),j<k→ts[k].o.dst ≠ some t) ∨
  (Env.get e t=some v∧∀ (k:Nat) (hk:k<ts.length),ts[k].o.dst ≠ some t)
 |[],e,t,v,h=>.inr ⟨h,fun k hk=>by simp at hk⟩
 |x::ts,e,t,v,h=>by
  rcases envAt_get ts _ t v h with ⟨j,hj,h1,h2,h3⟩|⟨h1,h2⟩
  ·refine .inl ⟨j+1,by simpa using hj,by simpa using h1,by simpa using h2,fun k hk hjk=>?_⟩
   cases k with
   |zero=>omega
   |succ k=>simpa using h3 k (by simpa using hk) (by omega)
  ·by_cases hx:x.o.dst=some t
   ·refine .inl ⟨0,by simp,hx,?_,fun k hk hjk=>?_⟩
    ·simp only [hx,putE,Env.get] at h1
     rw [show Nat.beq t t=true from Nat.beq_refl t] at h1
     simpa using h1
    ·cases k with
     |zero=>omega
     |succ k=>simpa using h2 k (by simpa using hk)
   ·refine .inr ⟨?_,fun k hk=>?_⟩
    ·cases hd:x.o.dst with
     |none=>simpa [putE,hd] using h1
     |some d =>
      simp only [putE,hd,Env.get] at h1
      rw [beq_ne (show ¬ d=t from fun hdt=>hx (by rw [hd,hdt]))] at h1
      exact h1
    ·cases k with
     |zero=>exact hx
     |succ k=>simpa using h2 k (by simpa using hk)
theorem hide_length (l:Heap):(hide l).length=l.length:=by simp [hide]
theorem maskN_length:∀ (ts:List Tr) (k:Nat) (L:Nat→Bool),(maskN ts k L).length=(nsOf ts).length
 |[],_,_=>rfl
 |t::ts,k,L=>by
  have:=maskN_length ts (k+1) L
  simp only [maskN,nsOf,List.map_cons,List.flatten_cons,List.length_append] at this ⊢
  split <;> simp [hide_length,this]
theorem maskN_inv:∀ (ts:List Tr) (k:Nat) (L:Nat→Bool) (id:Nat) (x:AObj),(maskN ts k L)[id]?=some x →
  ∃ (j:Nat) (hj:j<ts.length) (q:Nat),id=(nsOf (ts.take j)).length+q∧q<ts[j].ns.length∧((L (k+j)=true∧ts[j].ns[q]?=some x)∨(L (k+j)=false∧x=.dead))
 |[],_,_,_,_,h=>by simp [maskN] at h
 |t::ts,k,L,id,x,h=>by
  have hlen:(if L k then t.ns else hide t.ns).length=t.ns.length:=by split <;> simp [hide_length]
  simp only [maskN] at h
  by_cases hid:id<t.ns.length
  ·rw [List.getElem?_append_left (by rw [hlen];exact hid)] at h
   refine ⟨0,by simp,id,by simp [nsOf],hid,?_⟩
   cases hL:L k with
   |true=>rw [hL] at h;exact .inl ⟨rfl,by simpa using h⟩
   |false =>
    rw [hL] at h
    refine .inr ⟨rfl,?_⟩
    simp [hide,hid] at h;exact h.symm
  ·rw [List.getElem?_append_right (by rw [hlen];omega),hlen] at h
   obtain ⟨j,hj,q,h1,h2,h3⟩:=maskN_inv ts (k+1) L _ x h
   refine ⟨j+1,by simpa using hj,q,?_,by simpa using h2,?_⟩
   ·simp only [List.take_succ_cons,nsOf,List.map_cons,List.flatten_cons,List.length_append] at h1 ⊢;omega
   ·simpa [Nat.add_assoc,Nat.add_comm 1 j] using h3
theorem maskN_get:∀ (ts:List Tr) (k:Nat) (L:Nat→Bool) (j:Nat) (hj:j<ts.length) (q:Nat) (x:AObj),L (k+j)=true→ts[j].ns[q]?=some x →
  (maskN ts k L)[(nsOf (ts.take j)).length+q]?=some x
 |[],_,_,_,hj,_,_,_,_=>by simp at hj
 |t::ts,k,L,j,hj,q,x,hL,hx=>by
  have hlen:(if L k then t.ns else hide t.ns).length=t.ns.length:=by split <;> simp [hide_length]
  cases j with
  |zero =>
   simp only [maskN,List.take_zero,nsOf,List.map_nil,List.flatten_nil,List.length_nil,Nat.zero_add]
   simp only [Nat.add_zero] at hL
   simp only [List.getElem_cons_zero] at hx
   rw [List.getElem?_append_left (by rw [hlen];exact idx_lt hx),if_pos hL];exact hx
  |succ j =>
   have:=maskN_get ts (k+1) L j (by simpa using hj) q x (by rw [← hL];congr 1;omega) (by simpa using hx)
   simp only [maskN,List.take_succ_cons,nsOf,List.map_cons,List.flatten_cons,List.length_append] at this ⊢
   rw [List.getElem?_append_right (by rw [hlen];omega),hlen,show t.ns.length+((List.map (fun x=>x.ns) (List.take j ts)).flatten).length+q - t.ns.length=((List.map (fun x=>x.ns) (List.take j ts)).flatten).length+q from by omega]
   exact this
theorem orel_lower {G G':Nat→Prop} {n m:Nat} {ρ:Rho} {w:World} {p:Pl} {o:AObj} (h:ORel G m ρ w p o) (hc:oclosed n o) (hG1:G p.b→G' p.b) (hG2:o.owned→¬ G' p.b) (hdp:(∀ b,G b→G' b)∨∀ qs sp,o ≠ .deep qs sp):ORel G' n ρ w p o:=by
 cases o with
 |dead=>trivial
 |ro cs =>
  intro hne
  obtain ⟨h1,h2⟩:=h hne
  refine ⟨hG1 h1,fun k hk=>?_⟩
  obtain ⟨v',h3,h4⟩:=h2 k hk
  exact ⟨v',h3,vq_lower h4 ((closedL_iff _ _).1 hc.1 _ (List.getElem_mem hk))⟩
 |rw cs =>
  intro hne
  obtain ⟨h1,h2,rc,t,h3,h4,h5⟩:=h hne
  exact ⟨hG2 hne,h2,rc,t,h3,h4,fun k hk hk'=>vq_lower (h5 k hk hk') ((closedL_iff _ _).1 hc.1 _ (List.getElem_mem hk))⟩
 |gr cs t =>
  intro hne
  obtain ⟨h1,h2,rc,h3,h3',h4,h5⟩:=h hne
  exact ⟨hG2 hne,h2,rc,h3,h3',h4,fun k hk hk'=>vq_lower (h5 k hk hk') ((closedL_iff _ _).1 hc.1 _ (List.getElem_mem hk))⟩
 |dfr=>exact ⟨hG2 trivial,h.2⟩
 |loop st pend N e params assign body =>
  obtain ⟨h1,r,h2,h3,h4,h5,h6,h7,h8⟩:=h
  refine ⟨hG2 trivial,r,h2,h3,h4,h5,h6,h7,h8.1,fun t v hv=>?_⟩
  obtain ⟨v',g1,g2⟩:=h8.2 t v hv
  exact ⟨v',g1,vq_lower g2 (hc t v hv).1⟩
 |map es =>
  obtain ⟨h1,ents,clock,h2,h3,h4,h5⟩:=h
  exact ⟨hG2 trivial,ents,clock,h2,h3,fun i hi hi'=>⟨(h4 i hi hi').1,(h4 i hi hi').2.1,vq_lower (h4 i hi hi').2.2.1 (hc _ (List.getElem_mem hi)).1,(h4 i hi hi').2.2.2⟩,h5⟩
 |iter k seen =>
  obtain ⟨h1,h2,ents,clock,sb,h3,h4,h5⟩:=h
  exact ⟨hG2 trivial,hc,ents,clock,sb,h3,h4,h5⟩
 |deep qs sp =>
  have hG:=hdp.resolve_right fun h=>h qs sp rfl
  refine ⟨fun hq=>?_,fun x hx=>?_⟩
  ·obtain ⟨h1,h2⟩:=h.1 hq
   refine ⟨hG1 h1,fun k hk=>?_⟩
   obtain ⟨v',h3,h4⟩:=h2 k hk
   exact ⟨v',h3,frow_mono h4 hG (fun _ _ _ hy=>hy)⟩
  ·obtain ⟨h1,v',h3,h4⟩:=h.2 x hx
   exact ⟨hG1 h1,v',h3,vq_lower h4 (hc x hx).1⟩
theorem app_get_lt {σ0 x:Heap} {i:Nat} (h:i < σ0.length):(σ0++x)[i]?=σ0[i]?:=List.getElem?_append_left h
theorem app_get_ge {σ0 x:Heap} {i:Nat}:(σ0++x)[σ0.length+i]?=x[i]?:=by rw [List.getElem?_append_right (by omega)];congr 1;omega
def oth (G:Nat→Prop) (ρ:Rho) (σ0:Heap) (ts:List Tr) (L W:Nat→Bool):Nat→Prop :=
 fun b=>G b∨∃ (j:Nat) (hj:j<ts.length) (q:Nat) (x:AObj),L j=true∧W j=false∧ts[j].ns[q]?=some x∧x.owned∧(ρ (σ0.length+((nsOf (ts.take j)).length+q))).b=b
theorem nsOf_inj:∀ {ts:List Tr} {j j' q q':Nat} (hj:j<ts.length) (hj':j'<ts.length),q<ts[j].ns.length→q'<ts[j'].ns.length→(nsOf (ts.take j)).length+q=(nsOf (ts.take j')).length+q'→j=j'
 |[],j,j',q,q',hj,_,_,_,_=>by simp at hj
 |t::ts,j,j',q,q',hj,hj',hq,hq',h=>by
  cases j with
  |zero =>
   cases j' with
   |zero=>rfl
   |succ j' =>
    simp only [List.take_zero,List.take_succ_cons,nsOf,List.map_nil,List.map_cons,List.flatten_nil,List.flatten_cons,List.length_nil,List.length_append,List.getElem_cons_zero] at h hq
    omega
  |succ j =>
   cases j' with
   |zero =>
    simp only [List.take_zero,List.take_succ_cons,nsOf,List.map_nil,List.map_cons,List.flatten_nil,List.flatten_cons,List.length_nil,List.length_append,List.getElem_cons_zero] at h hq'
    omega
   |succ j' =>
    have:=nsOf_inj (ts:=ts) (j:=j) (j':=j') (q:=q) (q':=q') (by simpa using hj) (by simpa using hj') (by simpa using hq) (by simpa using hq') (by
     simp only [List.take_succ_cons,nsOf,List.map_cons,List.flatten_cons,List.length_append] at h ⊢
     omega)
    rw [this]
theorem sim_part {G:Nat→Prop} {w0 w:World} {ρ:Rho} {ts:List Tr} {L W:Nat→Bool} {i:Nat} (hs:Sim G w0 ρ (σ0++maskN ts 0 L) w) (hcl:∀ (i:Nat) (o:AObj),σ0[i]?=some o→oclosed σ0.length o)
  (hns:∀ (j:Nat) (hj:j<ts.length),newOk σ0.length ts[j].ns) (hW:∀ j,W j=true→L j=true) :
  Sim (oth G ρ σ0 ts L W) w ρ (σ0++maskN (ts.take i) 0 W) w:=by
 have low:∀ (k:Nat) (o:AObj),(σ0++maskN (ts.take i) 0 W)[k]?=some o→o=.dead∨((σ0++maskN ts 0 L)[k]?=some o∧(k < σ0.length∨∃ (j:Nat) (hj:j<ts.length) (q:Nat),W j=true∧ts[j].ns[q]?=some o∧k=σ0.length+((nsOf (ts.take j)).length+q))):=by
  intro k o hk
  by_cases hlt:k < σ0.length
  ·right
   rw [app_get_lt hlt] at hk ⊢
   exact ⟨hk,.inl hlt⟩
  ·rw [List.getElem?_append_right (by omega)] at hk
   obtain ⟨j,hj,q,h1,h2,h3⟩:=maskN_inv (ts.take i) 0 W _ o hk
   simp only [List.length_take] at hj
   have hjt:j<ts.length:=by omega
   simp only [List.getElem_take] at h2 h3
   rw [List.take_take,Nat.min_eq_left (by omega)] at h1
   rcases h3 with ⟨hWj,hx⟩|⟨_,rfl⟩
   ·right
    simp only [Nat.zero_add] at hWj
    have:=maskN_get ts 0 L j hjt q o (by simpa using hW j hWj) hx
    have hk':k=σ0.length+((nsOf (ts.take j)).length+q):=by omega
    exact ⟨by rw [hk',app_get_ge];exact this,.inr ⟨j,hjt,q,hWj,hx,hk'⟩⟩
   ·exact .inl rfl
 have noth:∀ (k:Nat) (o:AObj),(σ0++maskN ts 0 L)[k]?=some o→(k < σ0.length∨∃ (j:Nat) (hj:j<ts.length) (q:Nat),W j=true∧ts[j].ns[q]?=some o∧k=σ0.length+((nsOf (ts.take j)).length+q))→o.owned→¬ oth G ρ σ0 ts L W (ρ k).b:=by
  intro k o hk hwh ho hg
  rcases hg with hg|⟨j,hj,q,x,hL,hWj,hx,hxo,hb⟩
  ·exact (orel_block (hs.obj k o hk) ho).2 hg
  ·have:=maskN_get ts 0 L j hj q x (by simpa using hL) hx
   have hkk:=hs.inj _ _ x o (by rw [app_get_ge];exact this) hk hxo ho hb
   rcases hwh with hlt|⟨j',hj',q',hWj',hx',hk'⟩
   ·omega
   ·have:=nsOf_inj hj hj' (idx_lt hx) (idx_lt hx') (by omega)
    subst this
    rw [hWj] at hWj';cases hWj'
 refine ⟨rfl,rfl,rfl,Nat.le_refl _,fun b hb=>⟨?_,rfl⟩,fun k o hk=>?_,fun p q op oq hp hq hop hoq hpq=>?_⟩
 ·rcases hb with hb|⟨j,hj,q,x,hL,_,hx,ho,rfl⟩
  ·have:=(hs.fgn b hb).1;have:=hs.size;omega
  ·have:=maskN_get ts 0 L j hj q x (by simpa using hL) hx
   exact (orel_block (hs.obj _ x (by rw [app_get_ge];exact this)) ho).1
 ·rcases low k o hk with rfl|⟨h1,h2⟩
  ·trivial
  ·have hc:oclosed σ0.length o:=by
    rcases h2 with hlt|⟨j,hj,q,_,hx,_⟩
    ·rw [app_get_lt hlt] at h1;exact hcl k o h1
    ·obtain ⟨cs,rfl,h3,h4⟩:=hns j hj o (List.mem_of_getElem? hx)
     exact ⟨h3,h4⟩
   exact orel_mono (orel_lower (G':=oth G ρ σ0 ts L W) (hs.obj k o h1) hc .inl (noth k o h1 h2) (.inl fun _=>.inl)) (by simp) (fun _ _=>rfl) (fun _ h=>h) (fun _ _ _ _ h=>h) (fun _ _ _ h=>h)
 ·rcases low p op hp with rfl|⟨h1,_⟩
  ·exact hop.elim
  rcases low q oq hq with rfl|⟨h2,_⟩
  ·exact hoq.elim
  exact hs.inj p q op oq h1 h2 hop hoq hpq
def setL (L:Nat→Bool) (i:Nat):Nat→Bool:=fun j=>if j=i then true else L j
def mixR (ρ ρ':Rho) (b l:Nat):Rho:=fun id=>if b≤id∧id<b+l then ρ' id else ρ id
theorem nsOf_le {ts:List Tr} {i:Nat} (hi:i<ts.length):(nsOf (ts.take i)).length+ts[i].ns.length≤(nsOf ts).length:=by
 have e:ts.take i++ts[i]::ts.drop (i+1)=ts:=by rw [← List.drop_eq_getElem_cons hi,List.take_append_drop]
 have:(nsOf ts).length=(nsOf (ts.take i)).length+(ts[i].ns.length+(nsOf (ts.drop (i+1))).length):=by
  conv=>lhs;rw [← e]
  simp only [nsOf,List.map_append,List.map_cons,List.flatten_append,List.flatten_cons,List.length_append]
 omega
theorem nsOf_lt {ts:List Tr} {i j:Nat} (hij:i<j) (hj:j≤ts.length):(nsOf (ts.take i)).length+(ts[i]'(by omega)).ns.length≤(nsOf (ts.take j)).length:=by
 have h1:i<(ts.take j).length:=by simp;omega
 have:=nsOf_le (ts:=ts.take j) h1
 simpa [List.take_take,Nat.min_eq_left (Nat.le_of_lt hij)] using this
theorem sim_join {G:Nat→Prop} {w0 w w':World} {ρ ρ':Rho} {ts:List Tr} {L W:Nat→Bool} {i:Nat} (hi:i<ts.length) (hL:L i=false) (hW:∀ j,W j=true→j<i)
  (hs:Sim G w0 ρ (σ0++maskN ts 0 L) w) (hns:∀ (j:Nat) (hj:j<ts.length),newOk σ0.length ts[j].ns)
  (hag:∀ k < σ0.length+(nsOf (ts.take i)).length,ρ' k=ρ k) (hs':Sim (oth G ρ σ0 ts L W) w ρ' (σ0++maskN (ts.take i) 0 W++ts[i].ns) w') :
  Sim G w0 (mixR ρ ρ' (σ0.length+(nsOf (ts.take i)).length) ts[i].ns.length) (σ0++maskN ts 0 (setL L i)) w':=by
 let b:=σ0.length+(nsOf (ts.take i)).length
 have hlen:(σ0++maskN (ts.take i) 0 W++ts[i].ns).length=b+ts[i].ns.length:=by simp [maskN_length,b,Nat.add_assoc]
 have hle:=nsOf_le hi
 have hnn:(σ0++maskN ts 0 (setL L i)).length=σ0.length+(nsOf ts).length:=by simp [maskN_length]
 have mixlt:∀ k < σ0.length,mixR ρ ρ' b ts[i].ns.length k=ρ k:=fun k hk=>by simp only [mixR];rw [if_neg (by omega)]
 have mixlt':∀ k<b+ts[i].ns.length,mixR ρ ρ' b ts[i].ns.length k=ρ' k:=fun k hk=>by
  simp only [mixR];split
  ·rfl
  ·rw [hag k (by omega)]
 have cls:∀ (id:Nat) (x:AObj),(σ0++maskN ts 0 (setL L i))[id]?=some x→x.owned∨(∃ cs,x=.ro cs∧cs ≠ []) →
   ((σ0++maskN (ts.take i) 0 W++ts[i].ns)[id]?=some x∧id<b+ts[i].ns.length∧(id < σ0.length∨∃ cs,x=AObj.rw cs)) ∨
   (∃ (j:Nat) (hj:j<ts.length) (q:Nat),j ≠ i∧L j=true∧W j=false∧ts[j].ns[q]?=some x∧id=σ0.length+((nsOf (ts.take j)).length+q)):=by
  intro id x hx hxo
  by_cases hlt:id < σ0.length
  ·left
   rw [app_get_lt hlt] at hx
   exact ⟨by rw [List.append_assoc,app_get_lt hlt];exact hx,by omega,.inl hlt⟩
  ·rw [List.getElem?_append_right (by omega)] at hx
   obtain ⟨j,hj,q,h1,h2,h3⟩:=maskN_inv ts 0 (setL L i) _ x hx
   rcases h3 with ⟨hLj,hxj⟩|⟨_,rfl⟩
   ·simp only [Nat.zero_add,setL] at hLj
    have hrw:∃ cs,x=AObj.rw cs:=let ⟨cs,h,_⟩:=hns j hj x (List.mem_of_getElem? hxj);⟨cs,h⟩
    by_cases hji:j=i
    ·subst hji
     left
     have:id=(σ0++maskN (ts.take j) 0 W).length+q:=by simp [maskN_length];omega
     refine ⟨by rw [this,app_get_ge];exact hxj,by omega,.inr hrw⟩
    ·rw [if_neg hji] at hLj
     cases hWj:W j with
     |false=>exact .inr ⟨j,hj,q,hji,hLj,hWj,hxj,by omega⟩
     |true =>
      left
      have hlt:=hW j hWj
      have hjl:j<(ts.take i).length:=by simp;omega
      have hm:=maskN_get (ts.take i) 0 W j hjl q x (by simpa using hWj) (by simpa using hxj)
      rw [List.take_take,Nat.min_eq_left (by omega)] at hm
      have hid:id=σ0.length+((nsOf (ts.take j)).length+q):=by omega
      have hml:=(List.getElem?_eq_some_iff.1 hm).1
      rw [maskN_length] at hml
      refine ⟨by rw [List.append_assoc,hid,app_get_ge,List.getElem?_append_left (by rw [maskN_length];exact hml)];exact hm,by omega,.inr hrw⟩
   ·rcases hxo with hxo|⟨cs,hcs,_⟩
    ·exact hxo.elim
    ·cases hcs
 have other:∀ (j:Nat) (hj:j<ts.length) (q:Nat) (x:AObj),j ≠ i→L j=true→ts[j].ns[q]?=some x →
   (σ0++maskN ts 0 L)[σ0.length+((nsOf (ts.take j)).length+q)]?=some x∧mixR ρ ρ' b ts[i].ns.length (σ0.length+((nsOf (ts.take j)).length+q))=ρ (σ0.length+((nsOf (ts.take j)).length+q)):=by
  intro j hj q x hji hLj hxj
  refine ⟨by rw [app_get_ge];exact maskN_get ts 0 L j hj q x (by simpa using hLj) hxj,?_⟩
  have hq:=idx_lt hxj
  simp only [mixR]
  rw [if_neg ?_]
  intro hc
  rcases Nat.lt_or_gt_of_ne hji with hlt|hgt
  ·have:=nsOf_lt hlt (Nat.le_of_lt hi);omega
  ·have:=nsOf_lt hgt (Nat.le_of_lt hj);omega
 refine ⟨hs'.os.trans hs.os,hs'.tape.trans hs.tape,hs'.output.trans hs.output,Nat.le_trans hs.size hs'.size,fun bb hb=>?_,fun id x hx=>?_,fun p q op oq hp hq hop hoq hpq=>?_⟩
 ·obtain ⟨h1,h2⟩:=hs.fgn bb hb
  exact ⟨h1,((hs'.fgn bb (.inl hb)).2).trans h2⟩
 ·rw [hnn]
  by_cases hdp:∃ qs sp,x=.deep qs sp
  ·obtain ⟨qs,sp,rfl⟩:=hdp
   have hlt:id < σ0.length:=by
    apply Classical.byContradiction
    intro hlt
    rw [List.getElem?_append_right (by omega)] at hx
    obtain ⟨j,hj,q,h1,h2,h3⟩:=maskN_inv ts 0 (setL L i) _ _ hx
    rcases h3 with ⟨_,hxj⟩|⟨_,he⟩
    ·obtain ⟨cs,he,_⟩:=hns j hj _ (List.mem_of_getElem? hxj);cases he
    ·cases he
   rw [app_get_lt hlt] at hx
   have h0:(σ0++maskN ts 0 L)[id]?=some (.deep qs sp):=by rw [app_get_lt hlt];exact hx
   have h1:(σ0++maskN (ts.take i) 0 W++ts[i].ns)[id]?=some (.deep qs sp):=by rw [List.append_assoc,app_get_lt hlt];exact hx
   have hr:=hs.obj id _ h0
   have hr':=hs'.obj id _ h1
   rw [hlen] at hr'
   have hfor:∀ b,G b→∀ y,w.heap[b]?=some y→w'.heap[b]?=some y:=fun b hb y hy=>by rw [(hs'.fgn b (.inl hb)).2];exact hy
   have hpl:ρ' id=ρ id:=hag id (by omega)
   rw [mixlt' id (by omega)]
   refine ⟨fun hq=>?_,fun y hy=>?_⟩
   ·obtain ⟨g1,g2⟩:=hr.1 hq
    rw [hpl]
    refine ⟨g1,fun k hk=>?_⟩
    obtain ⟨v',g3,g4⟩:=g2 k hk
    exact ⟨v',cell_keep g3 (hfor _ g1),frow_mono g4 (fun _ h=>h) hfor⟩
   ·obtain ⟨g1,_⟩:=hr.2 y hy
    obtain ⟨_,v',g3,g4⟩:=hr'.2 y hy
    exact ⟨by rw [hpl];exact g1,v',g3,g4.mono (by omega) (fun k hk=>mixlt' k hk)⟩
  by_cases hxo:x.owned∨(∃ cs,x=.ro cs∧cs ≠ [])
  ·rcases cls id x hx hxo with ⟨h1,h2,h3⟩|⟨j,hj,q,hji,hLj,hWj,hxj,rfl⟩
   ·have hr:=hs'.obj id x h1
    rw [hlen] at hr
    rw [mixlt' id h2]
    have hc:oclosed (b+ts[i].ns.length) x:=orel_closed hr
    refine orel_mono (orel_lower (G':=G) hr hc ?_ ?_ (.inr fun qs sp he=>hdp ⟨qs,sp,he⟩)) (by omega) (fun k hk=>mixlt' k hk) (fun _ h=>h) (fun _ _ _ _ h=>h) (fun _ _ _ h=>h)
    ·intro hg
     rcases hg with hg|⟨j,hj,q,y,hLj,hWj,hy,hyo,hbe⟩
     ·exact hg
     ·exfalso
      rcases hxo with hxo|⟨cs,rfl,hcs⟩
      ·exact (orel_block hr hxo).2 (.inr ⟨j,hj,q,y,hLj,hWj,hy,hyo,hbe⟩)
      ·
       have hlt:id < σ0.length:=by
        rcases h3 with h3|⟨cs',he⟩
        ·exact h3
        ·cases he
       have h0:(σ0++maskN ts 0 L)[id]?=some (.ro cs):=by rw [List.append_assoc,app_get_lt hlt] at h1;rw [app_get_lt hlt];exact h1
       obtain ⟨hg,_⟩:=hs.obj id _ h0 hcs
       have hyo':=orel_block (hs.obj _ y (other j hj q y (fun hji=>by subst hji;rw [hL] at hLj;cases hLj) hLj hy).1) hyo
       rw [hbe,hag id (by omega)] at hyo'
       exact hyo'.2 hg
    ·intro ho hg;exact (orel_block hr ho).2 (.inl hg)
   ·obtain ⟨g1,g2⟩:=other j hj q x hji hLj hxj
    rw [g2]
    obtain ⟨cs,rfl,hcc,hok⟩:=hns j hj x (List.mem_of_getElem? hxj)
    have hr:=hs.obj _ _ g1
    refine orel_mono (orel_lower (n:=σ0.length) (G':=G) hr ⟨hcc,hok⟩ (fun h=>h) (fun ho=>(orel_block hr ho).2) (.inl fun _ h=>h)) (by omega) mixlt ?_ (fun _ _ h=>by cases h) (fun b hb y hy=>by rw [(hs'.fgn b (.inl hb)).2];exact hy)
    intro y hy
    have ho:(AObj.rw cs).owned:=by
     rcases hxo with hxo|⟨_,hcs,_⟩
     ·exact hxo
     ·cases hcs
    rw [(hs'.fgn _ (.inr ⟨j,hj,q,_,hLj,hWj,hxj,ho,rfl⟩)).2];exact hy
  ·cases x with
   |dead=>trivial
   |ro cs=>intro hc;exact absurd (.inr ⟨cs,rfl,hc⟩) hxo
   |rw cs=>intro hc;exact absurd (.inl hc) hxo
   |gr cs t=>intro hc;exact absurd (.inl hc) hxo
   |deep qs sp=>exact absurd ⟨qs,sp,rfl⟩ hdp
   |_=>exact absurd (.inl trivial) hxo
 ·rcases cls p op hp (.inl hop) with ⟨h1,h2,h3⟩|⟨j,hj,k,hji,hLj,hWj,hxj,rfl⟩ <;> rcases cls q oq hq (.inl hoq) with ⟨g1,g2,g3⟩|⟨j',hj',k',hji',hLj',hWj',hxj',rfl⟩
  ·rw [mixlt' p h2,mixlt' q g2] at hpq
   exact hs'.inj p q op oq h1 g1 hop hoq hpq
  ·obtain ⟨e1,e2⟩:=other j' hj' k' oq hji' hLj' hxj'
   rw [mixlt' p h2,e2] at hpq
   exact absurd (.inr ⟨j',hj',k',oq,hLj',hWj',hxj',hoq,hpq.symm⟩) (orel_block (hs'.obj p op h1) hop).2
  ·obtain ⟨e1,e2⟩:=other j hj k op hji hLj hxj
   rw [mixlt' q g2,e2] at hpq
   exact absurd (.inr ⟨j,hj,k,op,hLj,hWj,hxj,hop,hpq⟩) (orel_block (hs'.obj q oq g1) hoq).2
  ·obtain ⟨e1,e2⟩:=other j hj k op hji hLj hxj
   obtain ⟨e3,e4⟩:=other j' hj' k' oq hji' hLj' hxj'
   rw [e2,e4] at hpq
   exact hs.inj _ _ op oq e1 e3 hop hoq hpq
end
end Go.AH
namespace Go.AH
open Go
section
variable {all:List Oper} {m:Nat}
theorem draw_parts (h:drawOk all m=true) {j:Nat} {o:Oper} (hj:all[j]?=some o) :
  notDefer o=true∧(∀ e ∈ o.after,Region.binds .any e=true→e.on<j)∧(∀ g b,o.guard=some (g,b)→waits o g=true) ∧
  ∀ i oi,i<j→all[i]?=some oi→(∀ D:Nat→Prop,Closed all D→(∀ k,waits o k=true→D k)→D i)∨(i<m∧j<m∧oi.apart all.toArray o=true):=by
 obtain ⟨mk,this,hgood⟩:=chkD_get all 0 [] rfl rfl (by omega) (fun k mk hk=>by simp at hk) h j o hj
 rw [Nat.zero_add] at this hgood
 unfold partOk at this
 simp only [Bool.and_eq_true] at this
 obtain ⟨⟨⟨h1,h2⟩,h3⟩,h4⟩:=this
 refine ⟨h1,fun e he hb=>?_,fun g b hg=>?_,fun i oi hi hoi=>?_⟩
 ·have:=Array.all_eq_true_iff_forall_mem.1 h2 e he
  simp only [hb,Bool.not_true,Bool.false_or,Nat.blt_eq] at this;exact this
 ·rw [hg] at h3;exact h3
 ·have:=List.all_eq_true.1 h4 i (by simpa using hi)
  simp only [hoi,Bool.or_eq_true,Bool.and_eq_true,Nat.blt_eq] at this
  rcases this with h|⟨⟨h5,h6⟩,h7⟩
  ·exact .inl fun D hD hw=>hgood D hD o hj hw i h
  ·exact .inr ⟨h5,h7,h6⟩
theorem waits_lt (h:drawOk all m=true) {j i:Nat} {o:Oper} (hj:all[j]?=some o) (hw:waitsA o.after i=true):i<j:=by
 unfold waitsA at hw
 obtain ⟨e,he,hb⟩:=Array.any_eq_true'.1 hw
 simp only [Bool.and_eq_true] at hb
 rw [← Nat.eq_of_beq_eq_true hb.2]
 exact (draw_parts h hj).2.1 e he hb.1
theorem waits_ready {listed:Array Bool} {j i:Nat} {o:Oper} (hr:j ∈ Region.ready .any all.toArray listed) (ho:all[j]?=some o) (hw:waits o i=true):listed.getD i false=true:=by
 obtain ⟨_,o',ho',h⟩:=mem_ready.1 hr
 rw [List.getElem?_toArray,ho] at ho'
 cases ho'
 unfold waits waitsA at hw
 obtain ⟨e,he,hb⟩:=Array.any_eq_true'.1 hw
 simp only [Bool.and_eq_true] at hb
 rw [← Nat.eq_of_beq_eq_true hb.2]
 exact h e he hb.1
def cnt (n:Nat) (listed:Array Bool):Nat:=(List.range n).countP fun i=>!listed.getD i true
theorem countP_one {l:List Nat} (hn:l.Nodup) {p q:Nat→Bool} {i:Nat} (hi:i ∈ l) (hp:p i=true) (hq:q i=false) (hpq:∀ j,j ≠ i→q j=p j):l.countP p=l.countP q+1:=by
 induction l with
 |nil=>simp at hi
 |cons x l ih =>
  obtain ⟨hx,hn'⟩:=List.nodup_cons.1 hn
  by_cases hxi:x=i
  ·subst hxi
   rw [List.countP_cons_of_pos hp,List.countP_cons_of_neg (by simp [hq])]
   congr 1
   exact List.countP_congr fun j hj=>by rw [hpq j (fun hji=>hx (hji ▸ hj))]
  ·have hi':i ∈ l:=by
    rcases List.mem_cons.1 hi with h|h
    ·exact absurd h.symm hxi
    ·exact h
   have:=ih hn' hi'
   by_cases hpx:p x=true
   ·rw [List.countP_cons_of_pos hpx,List.countP_cons_of_pos (by rw [hpq x hxi];exact hpx)];omega
   ·rw [List.countP_cons_of_neg hpx,List.countP_cons_of_neg (by rw [hpq x hxi];exact hpx)];exact this
theorem cnt_set {n:Nat} {listed:Array Bool} {i:Nat} (hi:i<n) (hs:listed.size=n) (hf:listed.getD i true=false):cnt n listed=cnt n (listed.setIfInBounds i true)+1:=by
 refine countP_one List.nodup_range (i:=i) (by simpa using hi) (by simp only [hf];rfl) ?_ fun j hj=>?_
 ·have:(listed.setIfInBounds i true).getD i true=true:=by simp [hs,hi]
  simp only [this];rfl
 ·rw [getD_set_ne true (Ne.symm hj)]
theorem getD_lt {listed:Array Bool} {i:Nat} (h:i<listed.size) (d d':Bool):listed.getD i d=listed.getD i d':=by simp [h]
end
section
variable {P:Program} {N:Nat} {rd:Option Nat} {e0:Env} {mk:List Nat} {σ0:Heap} {all:List Oper} {ts:List Tr} {n0:Nat}
structure DInv (n0 N:Nat) (G:Nat→Prop) (w0:World) (ρ0:Rho) (e0:Env) (mk:List Nat) (σ0:Heap) (ts:List Tr) (L:Nat→Bool) (A:Act) (w:World) (ρ:Rho):Prop where
 ag:∀ i<n0,ρ i=ρ0 i
 sim:Sim G w0 ρ (σ0++maskN ts 0 L) w
 sz:A.tmps.size=N
 mks:A.defers=(mk.map fun i=>{ target:=.collected (ρ i).b,args:=#[] })++tlOf n0 ρ0
 old:∀ t v,Env.get e0 t=some v→(∀ (k:Nat) (hk:k<ts.length),L k=true→ts[k].o.dst ≠ some t)→∃ v',A.tmps[t]?=some v'∧VRel σ0.length ρ v v'
 new:∀ (k:Nat) (hk:k<ts.length),L k=true→∀ t,ts[k].o.dst=some t→(∀ (j:Nat) (hj:j<ts.length),k<j→L j=true→ts[j].o.dst ≠ some t) →
  ∃ v',A.tmps[t]?=some v'∧VRel (σ0.length+((nsOf (ts.take k)).length+ts[k].ns.length)) ρ ts[k].v v'
theorem dinv_sees {G:Nat→Prop} {w0:World} {ρ0 ρ:Rho} {L:Nat→Bool} {A:Act} {w:World} (hd:DInv n0 N G w0 ρ0 e0 mk σ0 ts L A w ρ) (hall:∀ (i:Nat) (hi:i<ts.length),all[i]?=some ts[i].o)
  (hchk:drawOk all ts.length=true) {i:Nat} (hi:i<ts.length) (hLi:L i=false) (hw:∀ j,waits ts[i].o j=true→L j=true) (hdc:Closed all fun k=>L k=true)
  {t:Nat} (ht:t ∈ ts[i].o.looksAt all.toArray) {v:Value} (hv:Env.get (envAt (ts.take i) e0) t=some v):∃ v',A.tmps[t]?=some v'∧VRel (σ0.length+(nsOf (ts.take i)).length) ρ v v':=by
 have early:∀ (j:Nat) (hj:j<i),(ts[j]'(by omega)).o.dst=some t→L j=true:=by
  intro j hj hdst
  rcases (draw_parts hchk (hall i hi)).2.2.2 j _ hj (hall j (by omega)) with h|⟨_,_,h⟩
  ·exact h _ hdc hw
  ·exact absurd ht ((Oper.apart_spec h).1 t hdst)
 have late:∀ (j:Nat) (hj:j<ts.length),i<j→ts[j].o.dst=some t→L j=true→False:=by
  intro j hj hij hdst hLj
  rcases (draw_parts hchk (hall j hj)).2.2.2 i _ hij (hall i hi) with h|⟨_,_,h⟩
  ·have:=h _ hdc (hdc j _ (hall j hj) hLj)
   rw [hLi] at this;cases this
  ·exact absurd ht ((Oper.apart_spec h).2.2 t hdst)
 rcases envAt_get _ _ _ _ hv with ⟨j,hj,h1,h2,h3⟩|⟨h1,h2⟩
 ·have hji:j<i:=by simp at hj;omega
  rw [List.getElem_take] at h1 h2
  obtain ⟨v',g1,g2⟩:=hd.new j (by omega) (early j hji h1) t h1 fun k hk hjk hLk hdk=>by
   rcases Nat.lt_trichotomy k i with hlt|rfl|hgt
   ·have:=h3 k (by simp;omega) hjk
    rw [List.getElem_take] at this;exact this hdk
   ·rw [hLi] at hLk;cases hLk
   ·exact late k hk hgt hdk hLk
  refine ⟨v',g1,?_⟩
  rw [← h2]
  have:=nsOf_lt hji (Nat.le_of_lt hi)
  exact g2.mono (by omega) fun _ _=>rfl
 ·obtain ⟨v',g1,g2⟩:=hd.old t v h1 fun k hk hLk hdk=>by
   rcases Nat.lt_trichotomy k i with hlt|rfl|hgt
   ·have:=h2 k (by simp;omega)
    rw [List.getElem_take] at this;exact this hdk
   ·rw [hLi] at hLk;cases hLk
   ·exact late k hk hgt hdk hLk
  exact ⟨v',g1,g2.mono (by omega) fun _ _=>rfl⟩
theorem dinv_step {G:Nat→Prop} {w0:World} {ρ0 ρ ρ':Rho} {L:Nat→Bool} {A:Act} {w w':World} (hd:DInv n0 N G w0 ρ0 e0 mk σ0 ts L A w ρ) (hall:∀ (i:Nat) (hi:i<ts.length),all[i]?=some ts[i].o)
  (hchk:drawOk all ts.length=true) (hn0:n0≤σ0.length) (hmk:∀ i ∈ mk,i < σ0.length)
  (hns:∀ (j:Nat) (hj:j<ts.length),newOk σ0.length ts[j].ns) (hnok:∀ (j:Nat) (hj:j<ts.length) (i:Nat) (hi:i<j),(∃ D:Nat→Prop,Closed all D∧D j∧¬ D i)→∀ (m:Nat) (ρ ρ':Rho) (v':Value),VRel m ρ ts[j].v v' →
   (∀ q,q < σ0.length+(nsOf (ts.take i)).length∨σ0.length+(nsOf (ts.take i)).length+ts[i].ns.length≤q→ρ' q=ρ q)→VRel m ρ' ts[j].v v')
  {i:Nat} (hi:i<ts.length) (hLi:L i=false) (hdc:Closed all fun k=>L k=true) (hdst:dstOk N ts[i].o=true)
  {v':Value} (hag:∀ k < σ0.length+(nsOf (ts.take i)).length,ρ' k=ρ k) (hv:VRel (σ0.length+((nsOf (ts.take i)).length+ts[i].ns.length)) ρ' ts[i].v v')
  (hs':Sim (oth G ρ σ0 ts L (waitsA ts[i].o.after)) w ρ' (σ0++maskN (ts.take i) 0 (waitsA ts[i].o.after)++ts[i].ns) w') :
  DInv n0 N G w0 ρ0 e0 mk σ0 ts (setL L i) (A.put ts[i].o.dst v') w' (mixR ρ ρ' (σ0.length+(nsOf (ts.take i)).length) ts[i].ns.length):=by
 have mixlow:∀ k < σ0.length+(nsOf (ts.take i)).length,mixR ρ ρ' (σ0.length+(nsOf (ts.take i)).length) ts[i].ns.length k=ρ k:=fun k hk=>by simp only [mixR];rw [if_neg (by omega)]
 have mixown:∀ k < σ0.length+((nsOf (ts.take i)).length+ts[i].ns.length),mixR ρ ρ' (σ0.length+(nsOf (ts.take i)).length) ts[i].ns.length k=ρ' k:=fun k hk=>by
  simp only [mixR];split
  ·rfl
  ·rw [hag k (by omega)]
 have mixhi:∀ k,σ0.length+(nsOf (ts.take i)).length+ts[i].ns.length≤k→mixR ρ ρ' (σ0.length+(nsOf (ts.take i)).length) ts[i].ns.length k=ρ k:=fun k hk=>by simp only [mixR];rw [if_neg (by omega)]
 have keep:∀ t u,A.tmps[t]?=some u→ts[i].o.dst ≠ some t→(A.put ts[i].o.dst v').tmps[t]?=some u:=by
  intro t u hu hne
  cases hdd:ts[i].o.dst with
  |none=>simpa [Act.put] using hu
  |some d =>
   simp only [Act.put]
   rw [Array.getElem?_setIfInBounds_ne (fun hdt=>hne (by rw [hdd,hdt]))];exact hu
 refine ⟨fun k hk=>(mixlow k (by omega)).trans (hd.ag k hk),sim_join hi hLi (fun j hj=>waits_lt hchk (hall i hi) hj) hd.sim hns hag hs',?_,?_,fun t v ht hno=>?_,fun k hk hLk t hdk hno=>?_⟩
 ·cases hdd:ts[i].o.dst <;> simp [Act.put,hd.sz]
 ·have:(A.put ts[i].o.dst v').defers=A.defers:=by cases ts[i].o.dst <;> rfl
  rw [this,hd.mks]
  congr 1
  exact List.map_congr_left fun k hk=>by rw [mixlow k (by have:=hmk k hk;omega)]
 ·obtain ⟨u,g1,g2⟩:=hd.old t v ht fun k hk hLk=>hno k hk (by simp only [setL];split <;> simp [hLk])
  exact ⟨u,keep t u g1 (hno i hi (by simp [setL])),g2.mono (Nat.le_refl _) fun k hk=>mixlow k (by omega)⟩
 ·by_cases hki:k=i
  ·subst hki
   refine ⟨v',?_,hv.mono (by omega) mixown⟩
   simp only [hdk,dstOk,Nat.blt_eq] at hdst
   simp only [hdk,Act.put]
   rw [Array.getElem?_setIfInBounds_self_of_lt (by rw [hd.sz];exact hdst)]
  ·have hLk':L k=true:=by simpa [setL,hki] using hLk
   have hne:ts[i].o.dst ≠ some t:=by
    intro hdi
    rcases Nat.lt_or_gt_of_ne hki with hlt|hgt
    ·exact hno i hi hlt (by simp [setL]) hdi
    ·rcases (draw_parts hchk (hall k hk)).2.2.2 i _ hgt (hall i hi) with h|⟨_,_,h⟩
     ·have:=h _ hdc (hdc k _ (hall k hk) hLk')
      rw [hLi] at this;cases this
     ·exact (Oper.apart_spec h).2.1 t hdi hdk
   obtain ⟨u,g1,g2⟩:=hd.new k hk hLk' t hdk fun j hj hkj hLj=>hno j hj hkj (by simp only [setL];split <;> simp [hLj])
   refine ⟨u,keep t u g1 hne,?_⟩
   rcases Nat.lt_or_gt_of_ne hki with hlt|hgt
   ·have:=nsOf_lt hlt (Nat.le_of_lt hi)
    exact g2.mono (Nat.le_refl _) fun j hj=>mixlow j (by omega)
   ·have:=nsOf_lt hgt (Nat.le_of_lt hk)
    exact hnok k hk i hgt ⟨fun q=>L q=true,hdc,hLk',by simp [hLi]⟩ _ _ _ _ g2 fun j hj=>by
     rcases hj with hj|hj
     ·exact mixlow j hj
     ·exact mixhi j hj
theorem wanted_sees {A:Act} {o:Oper} {e:Env} {b:Bool} (hw:wantedA all e o=some b) (hg:∀ g want,o.guard=some (g,want)→∀ t,((all[g]?).bind (·.dst))=some t→∀ v,Env.get e t=some v→∃ n ρ v',A.tmps[t]?=some v'∧VRel n ρ v v') :
  Region.wanted o (yielded all.toArray A.tmps)=b:=by
 unfold wantedA at hw
 cases hgd:o.guard with
 |none=>rw [hgd] at hw;simp at hw;subst hw;simp [Region.wanted,hgd]
 |some gw =>
  obtain ⟨g,want⟩:=gw
  rw [hgd] at hw
  simp only at hw
  cases hv:guardV all e g with
  |none=>simp [hv] at hw
  |some u =>
   rw [hv] at hw
   have key:∃ t,(all[g]?).bind (·.dst)=some t∧Env.get e t=some u:=by
    unfold guardV at hv
    cases ho:all[g]? with
    |none=>simp [ho] at hv
    |some og =>
     simp only [ho] at hv
     cases hd:og.dst with
     |none=>simp [hd] at hv
     |some t=>exact ⟨t,by simp [hd],by simpa [hd] using hv⟩
   obtain ⟨t,ht,hu⟩:=key
   obtain ⟨n,ρ,v',h1,h2⟩:=hg g want hgd t ht _ hu
   split at hw
   ·rename_i q hq
    cases hq
    rw [vrel_plain_eq h2 rfl] at h1
    simp only [Option.some.injEq] at hw
    subst hw
    simp [Region.wanted,hgd,yielded,ht,h1]
   ·rename_i hq
    cases hq
    rw [vrel_plain_eq h2 rfl] at h1
    simp only [Option.some.injEq] at hw
    subst hw
    simp [Region.wanted,hgd,yielded,ht,h1]
   ·cases hw
theorem maskN_congr {L L':Nat→Bool}:∀ (ts:List Tr) (k:Nat),(∀ j<ts.length,L (k+j)=L' (k+j))→maskN ts k L=maskN ts k L'
 |[],_,_=>rfl
 |t::ts,k,h=>by
  have h0:=h 0 (by simp)
  simp only [Nat.add_zero] at h0
  have h1:=maskN_congr (L:=L) (L':=L') ts (k+1) fun j hj=>by have:=h (j+1) (by simpa using hj);simpa [Nat.add_assoc,Nat.add_comm 1 j] using this
  simp only [maskN,h0,h1]
theorem dinv_congr {G:Nat→Prop} {w0:World} {ρ0 ρ:Rho} {L L':Nat→Bool} {A:Act} {w:World} (h:∀ k<ts.length,L k=L' k) (hd:DInv n0 N G w0 ρ0 e0 mk σ0 ts L A w ρ):DInv n0 N G w0 ρ0 e0 mk σ0 ts L' A w ρ :=
 ⟨hd.ag,by rw [← maskN_congr ts 0 (fun j hj=>by simpa using h j hj)];exact hd.sim,hd.sz,hd.mks,fun t v ht hno=>hd.old t v ht fun k hk hL=>hno k hk (by rw [← h k hk];exact hL),
  fun k hk hL t ht hno=>hd.new k hk (by rw [h k hk];exact hL) t ht fun j hj hkj hLj=>hno j hj hkj (by rw [← h j hj];exact hLj)⟩
theorem cnt_tail {n m:Nat} {listed:Array Bool} (_hm:m≤n) (h:∀ i<n,listed.getD i true=decide (i<m)):cnt n listed=n - m:=by
 unfold cnt
 have:∀ k≤n,(List.range k).countP (fun i=>!listed.getD i true)=k - m:=by
  intro k
  induction k with
  |zero=>intro _;simp
  |succ k ih =>
   intro hk
   rw [List.range_succ,List.countP_append,ih (by omega),List.countP_singleton,h k (by omega)]
   by_cases hkm:k<m <;> simp [hkm] <;> omega
 exact this n (Nat.le_refl _)
theorem getD_set {listed:Array Bool} {i j:Nat} (hi:i<listed.size):(listed.setIfInBounds i true).getD j false=if j=i then true else listed.getD j false:=by
 by_cases hj:j=i
 ·subst hj;simp [hi]
 ·rw [if_neg hj,getD_set_ne false (Ne.symm hj)]
theorem free_any {G:Nat→Prop} {w0:World} {ρ0:Rho} {Q':Exit→Act→World→Prop} (hrd:rdok rd n0=true) (hall:∀ (i:Nat) (hi:i<ts.length),all[i]?=some ts[i].o)
  (hchk:drawOk all ts.length=true) (hn0:n0≤σ0.length) (hmk:∀ i ∈ mk,i < σ0.length) (hcl:∀ (i:Nat) (o:AObj),σ0[i]?=some o→oclosed σ0.length o) (htr:TrOk P N rd all 0 ts e0 σ0 [])
  (hfin:∀ A w ρ fuel listed,listed.size=all.length→(∀ i<all.length,listed.getD i false=decide (i<ts.length))→DInv n0 N G w0 ρ0 e0 mk σ0 ts (fun i=>listed.getD i false) A w ρ →
   fuel=all.length - ts.length→wpAnyIn (fen ρ0 rd) 0 P .any all.toArray Q' fuel listed A w)
  (hlen:ts.length≤all.length):∀ (fuel:Nat) (listed:Array Bool) (A:Act) (w:World) (ρ:Rho),listed.size=all.length→(∀ i,ts.length≤i→listed.getD i false=false)→cnt all.length listed=fuel →
  Closed all (fun k=>listed.getD k false=true) →
  DInv n0 N G w0 ρ0 e0 mk σ0 ts (fun i=>listed.getD i false) A w ρ→wpAnyIn (fen ρ0 rd) 0 P .any all.toArray Q' fuel listed A w:=by
 intro fuel
 induction fuel with
 |zero =>
  intro listed A w ρ hsz hhi hcnt hdc hd
  have hno:∀ i<all.length,listed.getD i false=true:=by
   intro i hi
   unfold cnt at hcnt
   have:=(List.countP_eq_zero.1 hcnt) i (by simpa using hi)
   simp only [Bool.not_eq_true',Bool.not_eq_false] at this
   rw [getD_lt (by omega) false true];exact this
  have hm:ts.length=all.length:=by
   rcases Nat.lt_or_ge ts.length all.length with h|h
   ·have h1:=hno ts.length h
    rw [hhi ts.length (Nat.le_refl _)] at h1;cases h1
   ·omega
  exact hfin A w ρ 0 listed hsz (fun i hi=>by rw [hno i hi];simp;omega) hd (by omega)
 |succ fuel ih =>
  intro listed A w ρ hsz hhi hcnt hdc hd
  by_cases hdone:∀ i<ts.length,listed.getD i false=true
  ·have hpat:∀ i<all.length,listed.getD i false=decide (i<ts.length):=fun i hi=>by
    by_cases him:i<ts.length
    ·rw [hdone i him];simp [him]
    ·rw [hhi i (by omega)];simp [him]
   refine hfin A w ρ (fuel+1) listed hsz hpat hd ?_
   rw [← hcnt]
   exact cnt_tail hlen fun i hi=>by rw [getD_lt (by omega) true false];exact hpat i hi
  ·refine ⟨fun hr=>?_,fun i hr=>?_⟩
   ·
    exfalso
    have hex:∃ i,i<ts.length∧listed.getD i false=false:=by
     simp only [Classical.not_forall] at hdone
     obtain ⟨i,hi,hn⟩:=hdone
     exact ⟨i,hi,by simpa using hn⟩
    have least:∃ i,(i<ts.length∧listed.getD i false=false)∧∀ k<i,listed.getD k false=true:=by
     obtain ⟨i,hi⟩:=hex
     induction i using Nat.strongRecOn with
     |_ i ih2 =>
      by_cases hlow:∃ k,k<i∧listed.getD k false=false
      ·obtain ⟨k,hk,hkf⟩:=hlow;exact ih2 k hk ⟨by omega,hkf⟩
      ·refine ⟨i,hi,fun k hk=>?_⟩
       cases hc:listed.getD k false with
       |true=>rfl
       |false=>exact absurd ⟨k,hk,hc⟩ hlow
    obtain ⟨i,⟨hi,hif⟩,hlow⟩:=least
    have:i ∈ Region.ready .any all.toArray listed:=mem_ready.2 ⟨by rw [getD_lt (by omega) true false];exact hif,ts[i].o,by rw [List.getElem?_toArray];exact hall i hi,
     fun e he hb=>hlow _ ((draw_parts hchk (hall i hi)).2.1 e he hb)⟩
    rw [hr] at this;cases this
   ·obtain ⟨hif,o,ho,_⟩:=mem_ready.1 hr
    rw [List.getElem?_toArray] at ho
    have hia:i<all.length:=(List.getElem?_eq_some_iff.1 ho).1
    have hif':listed.getD i false=false:=by rw [getD_lt (by omega) false true];exact hif
    have him:i<ts.length:=by
     rcases Nat.lt_or_ge i ts.length with h|h
     ·exact h
     ·exfalso
      apply hdone
      intro k hk
      rcases (draw_parts hchk ho).2.2.2 k _ (by omega) (hall k hk) with h'|⟨_,h',_⟩
      ·exact h' (fun k=>listed.getD k false=true) hdc fun k hk=>waits_ready hr ho hk
      ·omega
    have hoi:o=ts[i].o:=by have:=hall i him;rw [ho] at this;exact Option.some.inj this
    subst hoi
    have hw:∀ j,waits ts[i].o j=true→listed.getD j false=true:=fun j hj=>waits_ready hr ho hj
    have hget:=fun (j:Nat) (hj:j<ts.length)=>trok_get ts e0 htr j hj
    obtain ⟨h1,h2,h3,h4,h5,h6⟩:=hget i him
    have hns:∀ (j:Nat) (hj:j<ts.length),newOk σ0.length ts[j].ns:=fun j hj=>(hget j hj).2.2.2.2.1
    have hnok:∀ (j:Nat) (hj:j<ts.length) (i:Nat) (hi:i<j),(∃ D:Nat→Prop,Closed all D∧D j∧¬ D i)→∀ (m:Nat) (ρ ρ':Rho) (v':Value),VRel m ρ ts[j].v v' →
      (∀ q,q < σ0.length+(nsOf (ts.take i)).length∨σ0.length+(nsOf (ts.take i)).length+ts[i].ns.length≤q→ρ' q=ρ q)→VRel m ρ' ts[j].v v':=fun j hj i hij hD m ρ ρ' v' hv hq=>by
     by_cases hne:ts[i].ns=[]
     ·exact hv.mono (Nat.le_refl _) fun q _=>hq q (by rw [hne];simp;omega)
     ·have hne':((ts.take j)[i]'(by simp;omega)).ns ≠ []:=by simpa using hne
      obtain ⟨n1,n2,e1,e2⟩:=newsAt_split (ts.take j) 0 [] i (by simp;omega) hne'
      rw [Nat.zero_add] at e1
      have e3:flatN n1=nsOf (ts.take i):=by
       rw [e2,List.take_take,Nat.min_eq_left (by omega)];simp [flatN]
      refine (hget j hj).2.2.2.2.2 n1 i _ n2 e1 hD m ρ ρ' v' hv fun q hq'=>hq q ?_
      rw [e3] at hq'
      simpa using hq'
    have hsees:=fun {t:Nat} (ht:t ∈ ts[i].o.looksAt all.toArray) {v:Value} (hv:Env.get (envAt (ts.take i) e0) t=some v) =>
     dinv_sees hd hall hchk him hif' hw hdc ht hv
    have hwant:Region.wanted ts[i].o (yielded all.toArray A.tmps)=ts[i].run:=by
     refine wanted_sees h2 fun g want hg t ht v hv=>?_
     obtain ⟨v',g1,g2⟩:=hsees (t:=t) (by
      unfold Oper.looksAt
      rw [hg]
      refine List.mem_append_right _ ?_
      simp only [List.getElem?_toArray]
      rw [ht];simp) hv
     exact ⟨_,_,v',g1,g2⟩
    have hpart:=sim_part (i:=i) (W:=waitsA ts[i].o.after) hd.sim hcl hns hw
    have after:∀ (ρ':Rho) (v':Value) (w':World),(∀ k < σ0.length+(nsOf (ts.take i)).length,ρ' k=ρ k)→VRel (σ0.length+((nsOf (ts.take i)).length+ts[i].ns.length)) ρ' ts[i].v v' →
      Sim (oth G ρ σ0 ts (fun i=>listed.getD i false) (waitsA ts[i].o.after)) w ρ' (σ0++maskN (ts.take i) 0 (waitsA ts[i].o.after)++ts[i].ns) w' →
      wpAnyIn (fen ρ0 rd) 0 P .any all.toArray Q' fuel (listed.setIfInBounds i true) (A.put ts[i].o.dst v') w':=by
     intro ρ' v' w' ha hv hs'
     have hd':=dinv_step hd hall hchk hn0 hmk hns hnok him hif' hdc h1 ha hv hs'
     refine ih _ _ _ _ (by simpa using hsz) (fun k hk=>?_) ?_ (fun j o' hj hLj k hk=>?_) (dinv_congr (fun k hk=>?_) hd')
     ·rw [getD_set (by omega),if_neg (by omega)];exact hhi k hk
     ·have:=cnt_set hia hsz hif;omega
     ·show (listed.setIfInBounds i true).getD k false=true
      have hLj:(listed.setIfInBounds i true).getD j false=true:=hLj
      rw [getD_set (by omega)] at hLj ⊢
      split
      ·rfl
      ·split at hLj
       ·rename_i hji;subst hji
        rw [ho] at hj;cases hj
        exact hw k hk
       ·exact hdc j o' hj hLj k hk
     ·simp only [setL];rw [getD_set (by omega)]
    unfold wpOpIn
    simp only [List.getElem?_toArray,ho]
    cases hrun:ts[i].run with
    |true =>
     rw [if_pos (by rw [hwant,hrun])]
     have hok:=h3 hrun
     rw [← fen_congr (rd:=rd) (ρ':=ρ) (ρ:=ρ0) fun l hl=>hd.ag l (rdok_lt hrd l hl)]
     refine hok ts[i].o rfl rfl (oth G ρ σ0 ts (fun i=>listed.getD i false) (waitsA ts[i].o.after)) w ρ A w (fun l hl=>by have:=rdok_lt hrd l hl;simp;omega) hpart (fun x hx u hu=>?_) _ _ ?_
     ·cases x with
      |tmp t =>
       obtain ⟨v',g1,g2⟩:=hsees (t:=t) (List.mem_append_left _ (List.mem_filterMap.2 ⟨.tmp t,by simpa using hx,rfl⟩)) hu
       rw [List.length_append,maskN_length]
       simpa [Act.eval,g1] using g2
      |const c =>
       simp only [evalO] at hu
       cases hp:plain c <;> simp [hp] at hu
       subst hu;exact vrel_plain c hp
      |func f=>simp only [evalO,Option.some.injEq] at hu;subst hu;exact .func f #[] #[] #[] #[] rfl rfl (fun i h=>by simp at h) (fun i h=>by simp at h)
      |global g=>simp [evalO] at hu
     ·intro ρ' v' w' hv hle ha hs'
      rw [fen_congr (rd:=rd) (ρ':=ρ) (ρ:=ρ0) fun l hl=>hd.ag l (rdok_lt hrd l hl)]
      refine after ρ' v' w' (fun k hk=>ha k (by rw [List.length_append,maskN_length];exact hk)) ?_ hs'
      rw [List.length_append,List.length_append,maskN_length,Nat.add_assoc] at hv;exact hv
    |false =>
     rw [if_neg (by rw [hwant,hrun];simp)]
     obtain ⟨g1,g2⟩:=h4 hrun
     refine ⟨fun f _=>fen_fn _ _ _,?_⟩
     have:=after ρ undef w (fun _ _=>rfl) (by rw [g1];exact vrel_plain _ rfl) (by rw [g2];simpa using hpart)
     exact this
theorem tail_any {F:Fence} (hF:∀ f,F.fn f) {m:Nat} {Q':Exit→Act→World→Prop} (hchk:drawOk all m=true):∀ (rest:List Oper) (k fuel:Nat) (listed:Array Bool) (A:Act) (w:World),
  m≤k→rest=all.drop k→fuel=all.length - k→listed.size=all.length→(∀ i<all.length,listed.getD i false=decide (i<k)) →
  wpL F 0 P all.toArray Q' rest A w→wpAnyIn F 0 P .any all.toArray Q' fuel listed A w
 |[],k,fuel,listed,A,w,hmk,hr,hf,hsz,hp,h=>by
  have hk:all.length≤k:=by
   have:=congrArg List.length hr
   simp at this;omega
  refine wpAnyIn_done (List.eq_nil_iff_forall_not_mem.2 fun j hj=>?_) h fuel
  obtain ⟨h1,o,ho,_⟩:=mem_ready.1 hj
  rw [List.getElem?_toArray] at ho
  have hj':=(List.getElem?_eq_some_iff.1 ho).1
  have:=hp j hj'
  rw [getD_lt (d':=true) (by omega),h1] at this
  simp at this;omega
 |o::rest,k,fuel,listed,A,w,hmk,hr,hf,hsz,hp,h=>by
  have hk:k<all.length:=by
   rcases Nat.lt_or_ge k all.length with h|h
   ·exact h
   ·rw [List.drop_eq_nil_of_le h] at hr;cases hr
  have ho:all[k]?=some o:=by
   have:=congrArg (fun l:List Oper=>l[0]?) hr
   simpa using this.symm
  have hr':rest=all.drop (k+1):=by
   have:=congrArg List.tail hr
   simpa using this
  obtain ⟨fuel,rfl⟩:∃ f,fuel=f+1:=⟨fuel - 1,by omega⟩
  refine ⟨fun hn=>?_,fun j hj=>?_⟩
  ·exfalso
   have:k ∈ Region.ready .any all.toArray listed:=mem_ready.2 ⟨by rw [getD_lt (d':=false) (by omega),hp k hk];simp,o,by rw [List.getElem?_toArray];exact ho,
    fun e he hb=>by have:=(draw_parts hchk ho).2.1 e he hb;rw [hp _ (by omega)];simpa using this⟩
   rw [hn] at this;cases this
  ·obtain ⟨h1,oj,hoj,_⟩:=mem_ready.1 hj
   rw [List.getElem?_toArray] at hoj
   have hj':=(List.getElem?_eq_some_iff.1 hoj).1
   have hkj:¬ j<k:=by
    intro hlt
    have:=hp j hj'
    rw [getD_lt (d':=true) (by omega),h1] at this
    simp at this;omega
   have hjk:j=k:=by
    rcases Nat.lt_or_ge k j with hlt|hge
    ·exfalso
     rcases (draw_parts hchk hoj).2.2.2 k _ hlt ho with h'|⟨h',_,_⟩
     ·have:=h' (fun q=>listed.getD q false=true) (fun q o' hq hLq i hi=>by
       have h1:=waits_lt hchk hq hi
       have hq':=(List.getElem?_eq_some_iff.1 hq).1
       have h2:=hp q hq'
       rw [hLq] at h2
       have h3:q<k:=of_decide_eq_true h2.symm
       show listed.getD i false=true
       rw [hp i (by omega)];simp;omega) fun q hq=>waits_ready hj hoj hq
      simp only [hp k hk] at this;simp at this
     ·omega
    ·omega
   subst hjk
   have hnext:∀ A w,wpL F 0 P all.toArray Q' rest A w→wpAnyIn F 0 P .any all.toArray Q' fuel (listed.setIfInBounds j true) A w:=fun A w h =>
    tail_any hF hchk rest (j+1) fuel _ A w (by omega) hr' (by omega) (by simpa using hsz) (fun i hi=>by
     rw [getD_set (by omega)]
     split
     ·rename_i hij;subst hij;simp
     ·rename_i hij;rw [hp i hi];simp only [decide_eq_decide];omega) h
   unfold wpOpIn
   simp only [List.getElem?_toArray,ho]
   simp only [wpL] at h
   split
   ·rename_i hw;rw [if_pos hw] at h
    exact Oper.wpIn_mono hnext h
   ·rename_i hw;rw [if_neg hw] at h
    exact ⟨fun f _=>hF f,hnext _ _ h⟩
theorem maskN_false:∀ (ts:List Tr) (k:Nat),maskN ts k (fun _=>false)=hide (nsOf ts)
 |[],_=>rfl
 |t::ts,k=>by
  have:=maskN_false ts (k+1)
  simp only [maskN,nsOf,List.map_cons,List.flatten_cons] at this ⊢
  rw [this];simp [hide]
theorem maskN_true:∀ (ts:List Tr) (k:Nat),maskN ts k (fun _=>true)=nsOf ts
 |[],_=>rfl
 |t::ts,k=>by
  have:=maskN_true ts (k+1)
  simp only [maskN,nsOf,List.map_cons,List.flatten_cons] at this ⊢
  rw [this];simp
theorem sim_hide {G:Nat→Prop} {w0 w:World} {ρ:Rho} (hs:Sim G w0 ρ σ0 w) (h:Heap):Sim G w0 ρ (σ0++hide h) w where
 os:=hs.os
 tape:=hs.tape
 output:=hs.output
 size:=hs.size
 fgn:=hs.fgn
 obj i o hi:=by
  by_cases hlt:i < σ0.length
  ·rw [app_get_lt hlt] at hi
   exact orel_mono (hs.obj i o hi) (by simp) (fun _ _=>rfl) (fun _ h=>h) (fun _ _ _ _ h=>h) (fun _ _ _ h=>h)
  ·rw [List.getElem?_append_right (by omega)] at hi
   simp only [hide,List.getElem?_map,Option.map_eq_some_iff] at hi
   obtain ⟨_,_,rfl⟩:=hi
   trivial
 inj i j oi oj hi hj hoi hoj hij:=by
  have low:∀ (k:Nat) (o:AObj),(σ0++hide h)[k]?=some o→o.owned→σ0[k]?=some o:=by
   intro k o hk ho
   by_cases hlt:k < σ0.length
   ·rw [app_get_lt hlt] at hk;exact hk
   ·rw [List.getElem?_append_right (by omega)] at hk
    simp only [hide,List.getElem?_map,Option.map_eq_some_iff] at hk
    obtain ⟨_,_,rfl⟩:=hk
    exact ho.elim
  exact hs.inj i j oi oj (low i oi hi hoi) (low j oj hj hoj) hoi hoj hij
theorem sim_drawn {G:Nat→Prop} {w0 w w':World} {ρ:Rho} {σ:Heap} (hs:Sim G w0 ρ σ w) (ho:w'.os=w.os) (ht:w'.tape=w.tape) (hu:w'.output=w.output) (hh:w'.heap=w.heap):Sim G w0 ρ σ w' where
 os:=ho.trans hs.os
 tape:=ht.trans hs.tape
 output:=hu.trans hs.output
 size:=by rw [hh];exact hs.size
 fgn:=by rw [hh];exact hs.fgn
 obj i o hi:=by
  cases w;cases w';simp only at hh ho ht hu;subst hh
  exact hs.obj i o hi
 inj:=hs.inj
end
end Go.AH
namespace Go.AH
open Go
theorem W_regionD {P:Program} {n0 N:Nat} {rd:Option Nat} {Q:Post} {e:Env} {mk:List Nat} {σ:Heap} {id:Nat} {l:List Oper} (hm:P.follows .mixedOrders=true) (hrd:rdok rd n0=true)
  (h:WFree P N rd l 0 l e σ [] (fun e' news tl=>drawOk l (l.length - tl.length)=true∧WOps P n0 N rd l tl (Q .normal) e' mk (σ++visN (fun _=>true) news))):WCode P n0 N rd (.region id l.toArray true) Q e mk σ:=by
 intro G w0 ρ0 A w hi
 obtain ⟨h0,ρ,ha,hs,he⟩:=hi
 refine wpIn_region_any hm ?_
 obtain ⟨ts,tl,hts,htr,hchk,hK⟩:=wfree_trace l 0 e σ [] _ h
 obtain ⟨fr,hfr⟩:∃ fr,ts.map (·.o)=fr:=⟨_,rfl⟩
 rw [hfr] at hts
 have hl:l=fr++tl:=hts.symm
 have hts:=hfr
 have hfl:fr.length=l.length - tl.length:=by rw [hl];simp
 rw [visN_newsAt,maskN_true] at hK
 simp only [visN,List.map_nil,List.flatten_nil,List.nil_append] at hK
 have hlen:fr.length=ts.length:=by rw [← hts];simp
 rw [← hfl] at hchk
 have hall:∀ (i:Nat) (hi:i<ts.length),l[i]?=some ts[i].o:=by
  intro i hi
  rw [hl,List.getElem?_append_left (by omega),← hts];simp [hi]
 have hcl:∀ (i:Nat) (o:AObj),σ[i]?=some o→oclosed σ.length o:=fun i o hi=>orel_closed (hs.obj i o hi)
 have hrep:∀ i,(Array.replicate l.toArray.size false).getD i false=false:=fun i=>by
  simp only [Array.getD_eq_getD_getElem?,Array.getElem?_replicate];split <;> rfl
 rw [hlen] at hchk
 refine free_any (e0:=e) (mk:=mk) (σ0:=σ) (ρ0:=ρ0) (G:=G) (w0:=w0) (N:=N) (n0:=n0) (ts:=ts) hrd hall hchk h0 he.mkb hcl htr ?_ (by rw [hl];simp;omega) _ _ _ _ ρ (by simp) (fun i _=>hrep i) ?_ ?_ ?_
 ·intro A' w' ρ' fuel listed hsz hp hd hf
  refine tail_any (fen_fn ρ0 rd) hchk tl ts.length fuel listed A' w' (Nat.le_refl _) (by rw [hl,← hlen];simp) hf hsz hp ?_
  have hd':=dinv_congr (L':=fun _=>true) (fun k hk=>by have:=hp k (by rw [hl];simp;omega);rw [this];simpa using hk) hd
  have hsim:=hd'.sim
  rw [maskN_true] at hsim
  refine hK G w0 ρ0 A' w' ⟨by simp;omega,ρ',fun i hi=>hd'.ag i hi |>.trans rfl,hsim,⟨hd'.sz,fun t v hv=>?_⟩,hd'.mks,fun i hi=>by have:=he.mkb i hi;simp;omega⟩ _ fun e' mk' σ' A' w' hk hi'=>⟨e',mk',σ',hk,hi'⟩
  rcases envAt_get ts e t v hv with ⟨j,hj,h1,h2,h3⟩|⟨h1,h2⟩
  ·obtain ⟨v',g1,g2⟩:=hd'.new j hj rfl t h1 fun k hk hjk _=>h3 k hk hjk
   refine ⟨v',g1,?_⟩
   rw [← h2]
   have:=nsOf_le hj
   exact g2.mono (by simp;omega) fun _ _=>rfl
  ·obtain ⟨v',g1,g2⟩:=hd'.old t v h1 fun k hk _=>h2 k hk
   exact ⟨v',g1,g2.mono (by simp) fun _ _=>rfl⟩
 ·unfold cnt
  rw [List.countP_eq_length.2]
  ·simp
  ·intro i hi
   rw [getD_lt (d':=false) (by simpa using hi),hrep];rfl
 ·intro j o _ hL
  rw [hrep] at hL;cases hL
 ·refine dinv_congr (L:=fun _=>false) (fun k _=>(hrep k).symm) ⟨ha,?_,he.tmps.1,he.mks,fun t v hv _=>?_,fun k hk hL=>by cases hL⟩
  ·rw [maskN_false]
   exact sim_drawn (sim_hide hs _) rfl rfl rfl rfl
  ·exact he.tmps.2 t v hv
section
variable {P:Program} {N:Nat} {rd:Option Nat} {e:Env} {σ0:Heap} {news:List (Nat×Heap)} {K:Env→List (Nat×Heap)→List Oper→Prop} {all rest:List Oper} {k:Nat} {d:Option Nat} {op:Op} {ty:TypeId} {pos:String} {after:Array Edge} {g:Option (Nat×Bool)}
theorem fU (h:WFree P N rd all k (⟨d,op,ty,pos,after,none⟩::rest) e σ0 news K):WFree P N rd all k (⟨d,op,ty,pos,after,none⟩::rest) e σ0 news K:=h
theorem fG {j:Nat} {b:Bool} (h:WFree P N rd all k (⟨d,op,ty,pos,after,some (j,b)⟩::rest) e σ0 news K):WFree P N rd all k (⟨d,op,ty,pos,after,some (j,b)⟩::rest) e σ0 news K:=h
theorem fMove {x:Operand} (h:WFree P N rd all k (⟨d,.move x,ty,pos,after,g⟩::rest) e σ0 news K):WFree P N rd all k (⟨d,.move x,ty,pos,after,g⟩::rest) e σ0 news K:=h
theorem fAssign {x:Operand} (h:WFree P N rd all k (⟨d,.assign x,ty,pos,after,g⟩::rest) e σ0 news K):WFree P N rd all k (⟨d,.assign x,ty,pos,after,g⟩::rest) e σ0 news K:=h
theorem fFA {t f:Nat} {x:Operand} (h:WFree P N rd all k (⟨d,.fieldAddr t x f,ty,pos,after,g⟩::rest) e σ0 news K):WFree P N rd all k (⟨d,.fieldAddr t x f,ty,pos,after,g⟩::rest) e σ0 news K:=h
theorem fLoad {t:Nat} {x:Operand} (h:WFree P N rd all k (⟨d,.load t x,ty,pos,after,g⟩::rest) e σ0 news K):WFree P N rd all k (⟨d,.load t x,ty,pos,after,g⟩::rest) e σ0 news K:=h
theorem fBin {o:BinOp} {t t':Nat} {x y:Operand} (h:WFree P N rd all k (⟨d,.binOp o t x y t',ty,pos,after,g⟩::rest) e σ0 news K):WFree P N rd all k (⟨d,.binOp o t x y t',ty,pos,after,g⟩::rest) e σ0 news K:=h
theorem fAdd {t t':Nat} {x y:Operand} (h:WFree P N rd all k (⟨d,.binOp .add t x y t',ty,pos,after,g⟩::rest) e σ0 news K):WFree P N rd all k (⟨d,.binOp .add t x y t',ty,pos,after,g⟩::rest) e σ0 news K:=h
theorem fSub {t t':Nat} {x y:Operand} (h:WFree P N rd all k (⟨d,.binOp .sub t x y t',ty,pos,after,g⟩::rest) e σ0 news K):WFree P N rd all k (⟨d,.binOp .sub t x y t',ty,pos,after,g⟩::rest) e σ0 news K:=h
theorem fMul {t t':Nat} {x y:Operand} (h:WFree P N rd all k (⟨d,.binOp .mul t x y t',ty,pos,after,g⟩::rest) e σ0 news K):WFree P N rd all k (⟨d,.binOp .mul t x y t',ty,pos,after,g⟩::rest) e σ0 news K:=h
theorem fNot {t:Nat} {x:Operand} (h:WFree P N rd all k (⟨d,.unOp .not t x,ty,pos,after,g⟩::rest) e σ0 news K):WFree P N rd all k (⟨d,.unOp .not t x,ty,pos,after,g⟩::rest) e σ0 news K:=h
theorem fPick {x y z:Operand} (h:WFree P N rd all k (⟨d,.pick x y z,ty,pos,after,g⟩::rest) e σ0 news K):WFree P N rd all k (⟨d,.pick x y z,ty,pos,after,g⟩::rest) e σ0 news K:=h
theorem fAlloc {t:Nat} (h:WFree P N rd all k (⟨d,.alloc t,ty,pos,after,g⟩::rest) e σ0 news K):WFree P N rd all k (⟨d,.alloc t,ty,pos,after,g⟩::rest) e σ0 news K:=h
theorem fNil {x:Operand} (h:WFree P N rd all k (⟨d,.nilCheck x,ty,pos,after,g⟩::rest) e σ0 news K):WFree P N rd all k (⟨d,.nilCheck x,ty,pos,after,g⟩::rest) e σ0 news K:=h
theorem fIA {t:Nat} {x y:Operand} (h:WFree P N rd all k (⟨d,.indexAddr t x y,ty,pos,after,g⟩::rest) e σ0 news K):WFree P N rd all k (⟨d,.indexAddr t x y,ty,pos,after,g⟩::rest) e σ0 news K:=h
theorem fLen {as:Array Operand} {ts:Array TypeId} (h:WFree P N rd all k (⟨d,.call { callee:=.builtin .len,args:=as,argTypes:=ts },ty,pos,after,g⟩::rest) e σ0 news K):WFree P N rd all k (⟨d,.call { callee:=.builtin .len,args:=as,argTypes:=ts },ty,pos,after,g⟩::rest) e σ0 news K:=h
theorem fMax {as:Array Operand} {ts:Array TypeId} (h:WFree P N rd all k (⟨d,.call { callee:=.builtin .max,args:=as,argTypes:=ts },ty,pos,after,g⟩::rest) e σ0 news K):WFree P N rd all k (⟨d,.call { callee:=.builtin .max,args:=as,argTypes:=ts },ty,pos,after,g⟩::rest) e σ0 news K:=h
theorem fCall {x:Operand} {as:Array Operand} {ts:Array TypeId} (h:WFree P N rd all k (⟨d,.call { callee:=.value x,args:=as,argTypes:=ts },ty,pos,after,g⟩::rest) e σ0 news K):WFree P N rd all k (⟨d,.call { callee:=.value x,args:=as,argTypes:=ts },ty,pos,after,g⟩::rest) e σ0 news K:=h
theorem fBuild {t:Nat} {ps:Array (Nat×Operand)} (h:WFree P N rd all k (⟨d,.build t ps,ty,pos,after,g⟩::rest) e σ0 news K):WFree P N rd all k (⟨d,.build t ps,ty,pos,after,g⟩::rest) e σ0 news K:=h
theorem fSlice {t:Nat} {x:Operand} {a b c:Option Operand} (h:WFree P N rd all k (⟨d,.slice t x a b c,ty,pos,after,g⟩::rest) e σ0 news K):WFree P N rd all k (⟨d,.slice t x a b c,ty,pos,after,g⟩::rest) e σ0 news K:=h
end
end Go.AH
namespace Go.AH
open Go
def fillA (place:Nat→Option (Nat×Nat)) (cs:List Value):List (Nat×Value)→Option (List Value)
 |[]=>some cs
 |(i,v)::rest=>match place i with
  |none=>none
  |some (off,size)=>bif Nat.beq (vcells v).length size && Nat.ble (off+(vcells v).length) cs.length then fillA place (splice cs off (vcells v)) rest else none
theorem foldl_set:∀ (l:List Value) (off k:Nat) (cs:Array Value),((l.zipIdx k).foldl (fun cs x=>cs.setIfInBounds (off+x.2) x.1) cs).size=cs.size ∧
  ∀ i,((l.zipIdx k).foldl (fun cs x=>cs.setIfInBounds (off+x.2) x.1) cs)[i]?=if off+k≤i∧i<off+k+l.length∧i<cs.size then l[i - (off+k)]? else cs[i]?
 |[],off,k,cs=>⟨rfl,fun i=>by rw [if_neg (by simp;omega)];rfl⟩
 |v::l,off,k,cs=>by
  obtain ⟨h1,h2⟩:=foldl_set l off (k+1) (cs.setIfInBounds (off+k) v)
  simp only [List.zipIdx_cons,List.foldl_cons]
  refine ⟨by rw [h1];simp,fun i=>?_⟩
  rw [h2 i]
  simp only [Array.size_setIfInBounds,List.length_cons]
  by_cases hi:i=off+k
  ·subst hi
   rw [if_neg (by omega)]
   by_cases hs:off+k<cs.size
   ·rw [if_pos (by omega),Array.getElem?_setIfInBounds_self_of_lt hs];simp
   ·rw [if_neg (by omega)];simp [hs]
  ·by_cases hc:off+(k+1)≤i∧i<off+(k+1)+l.length∧i<cs.size
   ·rw [if_pos hc,if_pos (by omega)]
    rw [show i - (off+k)=(i - (off+(k+1)))+1 from by omega];simp
   ·rw [if_neg hc,if_neg (by omega),Array.getElem?_setIfInBounds_ne (by omega)]
theorem set_splice {n:Nat} {ρ:Rho} {cs vs:List Value} {rc rs:Array Value} {off:Nat} (hle:off+vs.length≤cs.length) (h1:ARel n ρ cs.toArray rc) (h2:ARel n ρ vs.toArray rs) :
  ARel n ρ (splice cs off vs).toArray (rs.zipIdx.foldl (fun cs (x:Value×Nat)=>cs.setIfInBounds (off+x.2) x.1) rc):=by
 have e1:cs.length=rc.size:=by simpa using h1.1
 have e2:vs.length=rs.size:=by simpa using h2.1
 have ef:rs.zipIdx.foldl (fun cs (x:Value×Nat)=>cs.setIfInBounds (off+x.2) x.1) rc=(rs.toList.zipIdx 0).foldl (fun cs x=>cs.setIfInBounds (off+x.2) x.1) rc:=by
  rw [← Array.foldl_toList,Array.toList_zipIdx]
 rw [ef]
 obtain ⟨g1,g2⟩:=foldl_set rs.toList off 0 rc
 refine ⟨by rw [g1,← e1,List.size_toArray];exact splice_length hle,fun i hi hi'=>?_⟩
 simp only [List.size_toArray,splice_length hle] at hi
 have h3:=g2 i
 rw [Array.getElem?_eq_getElem hi'] at h3
 simp only [Nat.add_zero,Array.length_toList] at h3
 by_cases hc:off≤i∧i<off+rs.size∧i<rc.size
 ·rw [if_pos hc,Array.getElem?_toList,Array.getElem?_eq_getElem (by omega)] at h3
  rw [Option.some.inj h3]
  have:(splice cs off vs)[i]?=some (vs[i - off]'(by omega)):=by
   unfold splice
   rw [List.append_assoc,List.getElem?_append_right (by simp;omega),List.getElem?_append_left (by simp;omega)]
   simp only [List.length_take]
   rw [List.getElem?_eq_getElem (by omega)]
   congr 2;omega
  obtain ⟨_,h4⟩:=List.getElem?_eq_some_iff.1 this
  simp only [List.getElem_toArray,h4]
  exact h2.2 (i - off) (by simp;omega) (by omega)
 ·rw [if_neg hc,Array.getElem?_eq_getElem (by omega)] at h3
  rw [Option.some.inj h3]
  have:(splice cs off vs)[i]?=some (cs[i]'hi):=by
   unfold splice
   by_cases hio:i<off
   ·rw [List.append_assoc,List.getElem?_append_left (by simp;omega),List.getElem?_take_of_lt hio,List.getElem?_eq_getElem hi]
   ·rw [List.getElem?_append_right (by simp;omega)]
    simp only [List.length_append,List.length_take,List.getElem?_drop]
    rw [List.getElem?_eq_getElem (by omega)]
    congr 2;omega
  obtain ⟨_,h4⟩:=List.getElem?_eq_some_iff.1 this
  simp only [List.getElem_toArray,h4]
  exact h1.2 i (by simpa using hi) (by omega)
theorem fill_rel {n:Nat} {ρ:Rho} {place:Nat→Option (Nat×Nat)}:∀ (ps ps':List (Nat×Value)) (cs cs2:List Value) (rc:Array Value),ARel n ρ cs.toArray rc→ps.length=ps'.length →
  (∀ (k:Nat) (h:k<ps.length) (h':k<ps'.length),ps[k].1=ps'[k].1∧VRel n ρ ps[k].2 ps'[k].2)→fillA place cs ps=some cs2→∃ rc2,Instr.fill place rc ps'=some rc2∧ARel n ρ cs2.toArray rc2
 |[],[],cs,cs2,rc,h,_,_,hf=>⟨rc,rfl,by simp only [fillA,Option.some.injEq] at hf;subst hf;exact h⟩
 |[],_::_,_,_,_,_,hl,_,_=>by simp at hl
 |_::_,[],_,_,_,_,hl,_,_=>by simp at hl
 |(i,v)::ps,(i',v')::ps',cs,cs2,rc,h,hl,hp,hf=>by
  obtain ⟨hi,hv⟩:=hp 0 (by simp) (by simp)
  simp only [List.getElem_cons_zero] at hi hv
  subst hi
  simp only [fillA] at hf
  cases hpl:place i with
  |none=>simp [hpl] at hf
  |some os =>
   obtain ⟨off,size⟩:=os
   simp only [hpl] at hf
   cases hb:(Nat.beq (vcells v).length size && Nat.ble (off+(vcells v).length) cs.length) <;> simp only [hb,cond_true,cond_false,reduceCtorEq] at hf
   simp only [Bool.and_eq_true] at hb
   have hsz:=Nat.eq_of_beq_eq_true hb.1
   have hle:=Nat.le_of_ble_eq_true hb.2
   have hvc:=vcells_rel hv
   have e1:(vcells v).length=v'.cells.size:=by simpa using hvc.1
   have e2:cs.length=rc.size:=by simpa using h.1
   obtain ⟨rc2,g1,g2⟩:=fill_rel ps ps' _ cs2 _ (set_splice hle h hvc) (by simpa using hl) (fun k hk hk'=>hp (k+1) (by simpa using hk) (by simpa using hk')) hf
   refine ⟨rc2,?_,g2⟩
   simp only [Instr.fill,hpl]
   rw [if_neg (by simp;omega)]
   exact g1
def plsOf (P:Program) (t:TypeId):Option (Value×List (Nat×Nat)) :=
 match P.info? t,P.underlying t with
 |some it,some (.struct fields)=>match it.zero,fields.toList.mapM (fun f=>(P.info? f.type).map fun i=>(f.offset,i.size)) with
  |some z,some places=>some (z,places)
  |_,_=>none
 |_,_=>none
class Pls (P:Program) (t:TypeId) (z:outParam Value) (ps:outParam (List (Nat×Nat))):Prop where
 h:plsOf P t=some (z,ps)
theorem Pls.built {P:Program} {t:TypeId} {z:Value} {ps:List (Nat×Nat)} (h:Pls P t z ps) (parts:List (Nat×Value)):P.built t parts=Instr.fill (ps.toArray[·]?) z.cells parts:=by
 have:=h.h
 unfold plsOf at this
 unfold Program.built
 split at this
 ·rename_i it fields h1 h2
  split at this
  ·rename_i z' ps' h3 h4
   simp only [Option.some.injEq,Prod.mk.injEq] at this
   obtain ⟨rfl,rfl⟩:=this
   simp [h1,h2,h3,h4]
  ·simp at this
 ·simp at this
def evalP (e:Env):List (Nat×Operand)→Option (List (Nat×Value))
 |[]=>some []
 |(i,x)::l=>match evalO e x,evalP e l with
  |some v,some vs=>some ((i,v)::vs)
  |_,_=>none
theorem evalP_rel {n:Nat} {ρ:Rho} {A:Act} {e:Env}:∀ {l:List (Nat×Operand)} {vs:List (Nat×Value)},(∀ p ∈ l,∀ u,evalO e p.2=some u→VRel n ρ u (A.eval p.2))→evalP e l=some vs →
  vs.length=(l.map fun p=>(p.1,A.eval p.2)).length∧∀ (k:Nat) (h:k<vs.length) (h':k<(l.map fun p=>(p.1,A.eval p.2)).length),vs[k].1=(l.map fun p=>(p.1,A.eval p.2))[k].1∧VRel n ρ vs[k].2 (l.map fun p=>(p.1,A.eval p.2))[k].2
 |[],vs,_,h=>by simp only [evalP,Option.some.injEq] at h;subst h;exact ⟨rfl,fun k h=>by simp at h⟩
 |(i,x)::l,vs,hx,h=>by
  simp only [evalP] at h
  cases hv:evalO e x with
  |none=>simp [hv] at h
  |some v =>
   cases hvs:evalP e l with
   |none=>simp [hv,hvs] at h
   |some us =>
    simp only [hv,hvs,Option.some.injEq] at h
    subst h
    obtain ⟨g1,g2⟩:=evalP_rel (fun y hy=>hx y (by simp [hy])) hvs
    refine ⟨by simp at g1 ⊢;exact g1,fun k hk hk'=>?_⟩
    cases k with
    |zero=>exact ⟨rfl,hx (i,x) (by simp) v hv⟩
    |succ k=>exact g2 k (by simpa using hk) (by simpa using hk')
section ops
variable {P:Program} {rd:Option Nat} {ty:TypeId} {e:Env} {σ:Heap} {x y a b:Operand} {v u:Value}
theorem ok_build {t:TypeId} {z:Value} {pl:List (Nat×Nat)} {ps:List (Nat×Operand)} {vs:List (Nat×Value)} {cs:List Value} [ht:Pls P t z pl] (hz:plain z=true) (h:evalP e ps=some vs)
  (hf:fillA (pl.toArray[·]?) (vcells z) vs=some cs):OpOk P rd (.build t ps.toArray) ty e σ (.agg cs.toArray) σ :=
 opok_run (by simp) fun op ho _ G w0 ρ A w hs hx=>by
  obtain ⟨g1,g2⟩:=evalP_rel (A:=A) (n:=σ.length) (ρ:=ρ) (fun p hp u hu=>hx p.2 (by simp only [Op.operands];simp;exact ⟨p.1,hp⟩) u hu) h
  obtain ⟨rc,g3,g4⟩:=fill_rel vs _ _ _ _ (vcells_rel (vrel_plain (n:=σ.length) (ρ:=ρ) z hz)) g1 g2 hf
  refine ⟨ρ,.agg rc,w,.inl ?_,.agg _ _ g4.1 g4.2,Nat.le_refl _,fun _ _=>rfl,hs⟩
  have:=run_build (P:=P) w t (ps.toArray.map fun p=>(p.1,A.eval p.2)) rc (by rw [ht.built];simpa using g3)
  simp only [List.map_toArray] at this
  simp [execOp,ho,this]
theorem ok_buildAr {t k size bytes el esize ebytes:Nat} {eagg:Bool} {z ez:Value} {ps:List (Nat×Operand)} {vs:List (Nat×Value)} {cs:List Value} [ht:Ty P t size true z bytes] [ha:Ar P t k el] [he:Ty P el esize eagg ez ebytes] (hz:plain z=true) (h:evalP e ps=some vs)
  (hf:fillA (fun i=>some (i*esize,esize)) (vcells z) vs=some cs):OpOk P rd (.build t ps.toArray) ty e σ (.agg cs.toArray) σ :=
 opok_run (by simp) fun op ho _ G w0 ρ A w hs hx=>by
  obtain ⟨g1,g2⟩:=evalP_rel (A:=A) (n:=σ.length) (ρ:=ρ) (fun p hp u hu=>hx p.2 (by simp only [Op.operands];simp;exact ⟨p.1,hp⟩) u hu) h
  obtain ⟨rc,g3,g4⟩:=fill_rel vs _ _ _ _ (vcells_rel (vrel_plain (n:=σ.length) (ρ:=ρ) z hz)) g1 g2 hf
  refine ⟨ρ,.agg rc,w,.inl ?_,.agg _ _ g4.1 g4.2,Nat.le_refl _,fun _ _=>rfl,hs⟩
  obtain ⟨it,h1,h2,h3,_⟩:=ht.info
  obtain ⟨ie,q1,q2,q3,_⟩:=he.info
  have:=run_build (P:=P) w t (ps.toArray.map fun p=>(p.1,A.eval p.2)) rc (by simpa [Program.built,h1,ha.und,h3,q1,q2] using g3)
  simp only [List.map_toArray] at this
  simp [execOp,ho,this]
end ops
end Go.AH
namespace Go.AH
open Go
def zcells (zl:List Value):Nat→List Value
 |0=>[]
 |k+1=>zl++zcells zl k
theorem zcells_length (zl:List Value) (k:Nat):(zcells zl k).length=k*zl.length:=by
 induction k with
 |zero=>simp [zcells]
 |succ k ih=>simp [zcells,ih,Nat.succ_mul];omega
theorem zcells_get (zl:List Value):∀ (k i:Nat),i<k*zl.length→(zcells zl k)[i]?=zl[i % zl.length]?
 |0,i,h=>by simp at h
 |k+1,i,h=>by
  simp only [zcells]
  by_cases hi:i<zl.length
  ·rw [List.getElem?_append_left hi,Nat.mod_eq_of_lt hi]
  ·rw [List.getElem?_append_right (by omega),zcells_get zl k _ (by rw [Nat.succ_mul] at h;omega)]
   congr 1
   exact (Nat.mod_eq_sub_mod (by omega)).symm
theorem made_rel {n:Nat} {ρ:Rho} {z:Value} {size k:Nat} (hz:plain z=true) (hs:z.cells.size=size):ARel n ρ (zcells (vcells z) k).toArray (madeCells z.cells (k*size)):=by
 have hr:=vcells_rel (vrel_plain (q:=false) (n:=n) (ρ:=ρ) z hz)
 have hl:(vcells z).length=z.cells.size:=by simpa using hr.1
 subst hs
 refine ⟨by rw [size_madeCells,List.size_toArray,zcells_length,hl],fun i hi hi'=>?_⟩
 simp only [List.size_toArray,zcells_length] at hi
 have h0:0<z.cells.size:=by
  rcases Nat.eq_zero_or_pos z.cells.size with h|h
  ·rw [hl,h] at hi;omega
  ·exact h
 have hm:i % z.cells.size<z.cells.size:=Nat.mod_lt _ h0
 have h1:=zcells_get (vcells z) k i hi
 rw [hl,List.getElem?_eq_getElem (show i % z.cells.size<(vcells z).length by omega)] at h1
 obtain ⟨hlt,h2⟩:=List.getElem?_eq_some_iff.1 h1
 have h3:(madeCells z.cells (k*z.cells.size))[i]=z.cells[i % z.cells.size]:=by simp [madeCells,hm]
 rw [h3]
 simp only [List.getElem_toArray,h2]
 exact hr.2 _ (by simpa using (by omega:i % z.cells.size<(vcells z).length)) hm
def slvV (i sz n:Nat):Value:=match n with|0=>.slice none 0 0|n+1=>.slice (some ⟨i,0,some sz⟩) (n+1) (n+1)
section ops
variable {P:Program} {rd:Option Nat} {ty:TypeId} {e:Env} {σ:Heap} {x y a b:Operand} {v u:Value}
theorem slvV_inv {n:Nat} {ρ:Rho} {i sz k:Nat} {v':Value} (h:VRel n ρ (slvV i sz k) v') :
  (k=0∧v'=.slice none 0 0)∨(0<k∧i<n∧∃ c',k≤c'∧(ρ i).o+c'*sz≤(ρ i).s∧v'=.slice (some ⟨(ρ i).b,(ρ i).o,none⟩) k c'):=by
 cases k with
 |zero=>left;simp only [slvV] at h;cases h;exact ⟨rfl,rfl⟩
 |succ k =>
  right
  simp only [slvV] at h
  cases h with
  |gslice _ _ _ _ c' _ hc hs hi _=>exact ⟨by omega,hi,c',hc,by omega,by simp⟩
  |gsliceG _ _ _ _ _ _ _ _ hq=>simp at hq
theorem slvV_rel {n:Nat} {ρ:Rho} {i sz k c':Nat} (hk:0<k) (hi:i<n) (hc:k≤c') (hs:(ρ i).o+c'*sz≤(ρ i).s):VRel n ρ (slvV i sz k) (.slice (some ⟨(ρ i).b,(ρ i).o,none⟩) k c'):=by
 cases k with
 |zero=>omega
 |succ k =>
  have:=VQ.gslice (q:=false) (n:=n) (ρ:=ρ) i 0 (k+1) (k+1) c' sz hc (by omega) hi rfl
  simpa [slvV] using this
theorem ok_lenV {t el i sz n:Nat} [ha:Sl P t el] (h:evalO e x=some (slvV i sz n)) :
  OpOk P rd (.call { callee:=.builtin .len,args:=#[x],argTypes:=#[t] }) ty e σ (.int .i64 (n:Int)) σ:=by
 cases n with
 |zero=>exact ok_len (el:=el) h
 |succ n=>exact ok_len (el:=el) h
theorem sim_newArr {G:Nat→Prop} {w0 w:World} {ρ:Rho} (h:Sim G w0 ρ σ w) {cs:List Value} {rc:Array Value} (t:TypeId) (s:Nat) (hr:ARel σ.length ρ cs.toArray rc) :
  Sim G w0 (upd ρ σ.length w.heap.size s) (σ++[.rw cs]) (w.alloc (.cells rc t)) :=
 sim_alloc h _ _ s (by
  intro _
  exact ⟨fun hg=>by have h1:=(h.fgn _ hg).1;have:=h.size;simp only at h1;omega,rfl,rc,t,heap_alloc_self w _,by have:=hr.1;simp at this;omega,
   fun k hk hk'=>(hr.2 k (by simpa using hk) hk').mono (Nat.le_succ _) fun i hi=>upd_lt hi⟩)
theorem vrel_newS {ρ:Rho} {n B s l c:Nat}:VRel (n+1) (upd ρ n B s) (.slice (some ⟨n,0,none⟩) l c) (.slice (some ⟨B,0,none⟩) l c):=by
 have:=VQ.slice (q:=false) (n:=n+1) (ρ:=upd ρ n B s) n 0 l c c (Nat.le_refl _) (by omega)
 simpa [upd] using this
theorem ok_buildS {t el size bytes len:Nat} {agg:Bool} {z:Value} {ps:List (Nat×Operand)} {vs:List (Nat×Value)} {cs:List Value} [ha:Sl P t el] [ht:Ty P el size agg z bytes] (hz:plain z=true)
  (hsz:z.cells.size=size) (h0:Nat.blt 0 (len*size)=true) (h1:Nat.ble (len*size) 16777216=true) (h:evalP e ps=some vs) (hf:fillA (fun i=>some (i*size,size)) (zcells (vcells z) len) vs=some cs) :
  OpOk P rd (.buildSlice t len ps.toArray) ty e σ (.slice (some ⟨σ.length,0,none⟩) len len) (σ++[.rw cs]) :=
 opok_run (by simp) fun op ho _ G w0 ρ A w hs hx=>by
  obtain ⟨g1,g2⟩:=evalP_rel (A:=A) (n:=σ.length) (ρ:=ρ) (fun p hp u hu=>hx p.2 (by simp only [Op.operands];simp;exact ⟨p.1,hp⟩) u hu) h
  obtain ⟨ie,i1,i2,i3,_⟩:=ht.info
  obtain ⟨rc,g3,g4⟩:=fill_rel vs _ _ _ _ (made_rel (n:=σ.length) (ρ:=ρ) (k:=len) hz hsz) g1 g2 hf
  refine ⟨upd ρ σ.length w.heap.size,.slice (some ⟨w.heap.size,0,none⟩) len len,w.alloc (.cells rc el),.inl ?_,by rw [List.length_append];exact vrel_newS,by simp,fun i hi=>upd_lt hi,sim_newArr hs el 0 g4⟩
  have h0':=Nat.blt_eq.mp h0
  have h1':=Nat.le_of_ble_eq_true h1
  have:=run_buildSlice (P:=P) w t el len (ps.toArray.map fun p=>(p.1,A.eval p.2)) rc ie z ha.und i1 i3 (by rw [i2];omega) (by rw [i2];omega) (by
   rw [i2]
   have em:(Array.range (len*size)).map (z.cells[· % z.cells.size]!)=madeCells z.cells (len*size):=rfl
   rw [em];simpa using g3)
  simp only [List.map_toArray] at this
  simp [execOp,ho,this]
theorem ok_makeS {t el size bytes l c:Nat} {agg:Bool} {z:Value} {k1 k2:IntKind} [ha:Sl P t el] [ht:Ty P el size agg z bytes] (hz:plain z=true) (hsz:z.cells.size=size)
  (hx:evalO e x=some (.int k1 (l:Nat))) (hy:evalO e y=some (.int k2 (c:Nat))) (hlc:l≤c) (hb:bytes*c≤281474976710656) (hm:c≤9223372036854775807) :
  OpOk P rd (.makeSlice t x y) ty e σ (.slice (some ⟨σ.length,0,none⟩) l c) (σ++[.rw (zcells (vcells z) c)]) :=
 opok_run (by simp) fun op ho _ G w0 ρ A w hs hop=>by
  have h1:=vrel_plain_eq (hop x (by simp [Op.operands]) _ hx) rfl
  have h2:=vrel_plain_eq (hop y (by simp [Op.operands]) _ hy) rfl
  obtain ⟨ie,i1,i2,i3,i4⟩:=ht.info
  refine ⟨upd ρ σ.length w.heap.size,.slice (some ⟨w.heap.size,0,none⟩) l c,w.alloc (.cells (madeCells z.cells (c*size)) el),.inl ?_,by rw [List.length_append];exact vrel_newS,by simp,fun i hi=>upd_lt hi,sim_newArr hs el 0 (made_rel hz hsz)⟩
  have hb':(ie.bytes:Int)*(c:Int)≤281474976710656:=by rw [i4];omega
  have:=run_make (P:=P) w t el ie z ha.und i1 i3 k1 k2 l c (by omega) (by omega) hb' (by omega)
  simp only [Int.toNat_natCast,i2] at this
  simp [execOp,ho,h1,h2,this]
def movR (n i:Nat):Rho:=fun k=>if k=n then ⟨i,0,0⟩ else ⟨k,0,0⟩
theorem movR_lt {n i k:Nat} (h:k<n):movR n i k=⟨k,0,0⟩:=by simp only [movR];rw [if_neg (by omega)]
theorem movR_self {n i:Nat}:movR n i n=⟨i,0,0⟩:=by simp [movR]
theorem sim_move {G:Nat→Prop} {w0 w:World} {ρ:Rho} (hs:Sim G w0 ρ σ w) {i:Nat} {o:AObj} (hi:σ[i]?=some o) :
  Sim G w0 (comp ρ (movR σ.length i)) (σ.set i .dead++[o]) w:=by
 have hil:=idx_lt hi
 refine sim_ref (n0:=σ.length) ⟨by simp,fun k hk=>movR_lt hk,fun k o2 hk=>?_,fun j k oj ok hj hk hoj hok hjk=>?_⟩ hs
 ·rcases getElem?_snoc hk with hk|⟨rfl,rfl⟩
  ·rcases getElem?_set' hk with ⟨_,rfl⟩|⟨_,hk⟩
   ·trivial
   ·exact osub_refl (fun k hk=>movR_lt hk) (by simp) (idx_lt hk) hk (orel_closed (hs.obj _ _ hk))
  ·have:=osub_refl (n:=(σ.set i .dead++[o2]).length) (π:=movR σ.length i) (fun k hk=>movR_lt hk) (by simp) hil hi (orel_closed (hs.obj _ _ hi))
   rw [movR_lt hil] at this
   rw [List.length_set,movR_self];exact this
 ·have low:∀ (q:Nat) (oq:AObj),(σ.set i .dead++[o])[q]?=some oq→oq.owned→(q < σ.length∧q ≠ i)∨q=σ.length:=by
   intro q oq hq hoq
   rcases getElem?_snoc hq with hq|⟨h,_⟩
   ·rcases getElem?_set' hq with ⟨_,rfl⟩|⟨h1,h2⟩
    ·exact hoq.elim
    ·exact .inl ⟨idx_lt h2,h1⟩
   ·right;simpa using h
  rcases low j oj hj hoj with ⟨h1,h2⟩|rfl <;> rcases low k ok hk hok with ⟨h3,h4⟩|rfl
  ·rw [movR_lt h1,movR_lt h3] at hjk;exact hjk
  ·rw [movR_lt h1,movR_self] at hjk;exact absurd hjk h2
  ·rw [movR_lt h3,movR_self] at hjk;exact absurd hjk.symm h4
  ·rfl
theorem ok_appendV {t el size bytes i n j oj m c:Nat} {agg:Bool} {z:Value} {cs news:List Value} [ha:Sl P t el] [ht:Ty P el size agg z bytes] (hzs:z.cells.size=size) (h0:Nat.blt 0 size=true)
  (hx:evalO e x=some (slvV i size n)) (hi:σ[i]?=some (.gr cs el)) (hl:cs.length=n*size)
  (hy:evalO e y=some (.slice (some ⟨j,oj,none⟩) m c)) (hc:cellsAt σ j oj (m*size)=some news) (hm:0<m) (h1:news.all (·.oneCell')=true)
  (hb:n+m≤1000000) (hby:bytes≤1000000) :
  OpOk P rd (.call { callee:=.builtin .append,args:=#[x,y],argTypes:=#[t,t] }) ty e σ (slvV σ.length size (n+m)) (σ.set i .dead++[.gr (cs++news) el]) :=
 opok_run (by simp) fun op ho _ G w0 ρ A w hs hop=>by
  have hsz0:0<size:=Nat.blt_eq.mp h0
  have hxr:=slvV_inv (hop x (by simp [Op.operands,Call.operands]) _ hx)
  have hyr:=hop y (by simp [Op.operands,Call.operands]) _ hy
  obtain ⟨ie,i1,i2,i3,i4⟩:=ht.info
  have hil:=idx_lt hi
  obtain ⟨hnl,hnc⟩:=cellsAt_rel hs hc
  have hy':∃ c',A.eval y=.slice (some ⟨(ρ j).b,(ρ j).o+oj,none⟩) m c':=by
   generalize hr:A.eval y=r at hyr
   cases hyr with
   |emptySlice=>omega
   |slice _ _ _ _ c' _ _=>exact ⟨c',rfl⟩
   |sliceG _ _ _ _ _ _ _ _ hq=>simp at hq
  obtain ⟨c',hy'⟩:=hy'
  obtain ⟨rs,hrs,hrl,hrel⟩:∃ rs:List Value,(∀ (k:Nat) (u:Value),rs[k]?=some u→w.cell? ((⟨(ρ j).b,(ρ j).o+oj,none⟩:Addr).add k)=some u)∧rs.length=m*size∧ARel σ.length ρ news.toArray rs.toArray:=by
   have:∀ k≤news.length,∃ rs:List Value,rs.length=k∧∀ (q:Nat) (h1:q<rs.length) (h2:q<news.length),w.cell? ⟨(ρ j).b,(ρ j).o+oj+q,none⟩=some rs[q]∧VRel σ.length ρ news[q] rs[q]:=by
    intro k
    induction k with
    |zero=>intro _;exact ⟨[],rfl,fun q h1=>by simp at h1⟩
    |succ k ih =>
     intro hk
     obtain ⟨rs,e1,e2⟩:=ih (by omega)
     obtain ⟨v',e3,e4⟩:=hnc k (by omega)
     refine ⟨rs++[v'],by simp [e1],fun q h1 h2=>?_⟩
     by_cases hq:q<rs.length
     ·rw [List.getElem_append_left hq];exact e2 q hq h2
     ·have:q=k:=by simp at h1;omega
      subst this
      simp only [List.getElem_append_right (show rs.length≤q by omega),e1,Nat.sub_self,List.getElem_cons_zero]
      exact ⟨e3,e4⟩
   obtain ⟨rs,e1,e2⟩:=this news.length (Nat.le_refl _)
   refine ⟨rs,fun k u hu=>?_,by omega,by simp [e1],fun k hk hk'=>(e2 k (by simpa using hk') (by simpa using hk)).2⟩
   obtain ⟨hk,rfl⟩:=List.getElem?_eq_some_iff.1 hu
   rw [addr_add];exact (e2 k hk (by omega)).1
  have hone:∀ u ∈ rs,u.oneCell'=true:=by
   have:=arel_oneCell hrel h1
   simpa using this
  have hrun:∀ xv,A.eval x=xv→(execOp A.eval op).run P w=((Builtin.append_ #[t,t] op.type #[xv,.slice (some ⟨(ρ j).b,(ρ j).o+oj,none⟩) m c']).run P w).andThen fun v w=>.ok (.value v) w:=by
   intro xv hxv
   simp only [execOp,ho,resolve,invoke,builtin,Sem.run_bind,Sem.run_pure,Result.andThen_ok,List.map_toArray,List.map_cons,List.map_nil,hxv,hy']
  have hbytes:(n+m)*ie.bytes≤140737488355328:=by rw [i4];exact Nat.le_trans (Nat.mul_le_mul hb hby) (by decide)
  have hlen2:(cs++news).length=(n+m)*size:=by rw [List.length_append,hl,hnl,Nat.add_mul]
  have happ:∀ (rc0:List Value) (tail:Array Value),ARel σ.length ρ cs.toArray rc0.toArray→∀ (k:Nat) (h:k<(cs++news).length) (h':k<(rc0.toArray++rs.toArray++tail).size),VRel σ.length ρ (cs++news)[k] (rc0.toArray++rs.toArray++tail)[k]:=by
   intro rc0 tail hr0 k hk hk'
   have e0:cs.length=rc0.length:=by simpa using hr0.1
   have e1:news.length=rs.length:=by simpa using hrel.1
   have hk2:k<(rc0.toArray++rs.toArray).size:=by simp at hk ⊢;omega
   rw [Array.getElem_append_left hk2]
   have:=arel_append hr0 hrel
   exact this.2 k (by simpa using hk) hk2
  have grow:∀ (rc0:List Value) (old:Nat),ARel σ.length ρ cs.toArray rc0.toArray→∃ ρ',
    VRel (σ.set i AObj.dead++[AObj.gr (cs++news) el]).length ρ' (slvV σ.length size (n+m)) (.slice (some ⟨w.heap.size,0,none⟩) (n+m) (grownCap w (n+m) old el))∧(∀ k < σ.length,ρ' k=ρ k) ∧
    Sim G w0 ρ' (σ.set i .dead++[.gr (cs++news) el]) (w.drew.alloc (.cells (rc0.toArray++rs.toArray++Builtin.zeroCells z.cells (grownCap w (n+m) old el - (n+m))) el)):=by
   intro rc0 old hr0
   have e0:cs.length=rc0.length:=by simpa using hr0.1
   have hge:=grownCap_ge w (n+m) old el
   have hrs:(rc0.toArray++rs.toArray++Builtin.zeroCells z.cells (grownCap w (n+m) old el - (n+m))).size=grownCap w (n+m) old el*size:=by
    simp only [Array.size_append,List.size_toArray,size_zeroCells,hzs,← e0,hl,hrl,← Nat.add_mul]
    congr 1;omega
   have hs2:=sim_alloc (sim_kill (sim_drew hs) i) (.cells (rc0.toArray++rs.toArray++Builtin.zeroCells z.cells (grownCap w (n+m) old el - (n+m))) el) (.gr (cs++news) el) (grownCap w (n+m) old el*size) (by
    intro _
    refine ⟨fun hg=>by have h1:=(hs.fgn _ hg).1;have:=hs.size;simp only at h1;have e2:w.drew.heap.size=w.heap.size:=rfl;omega,rfl,_,heap_alloc_self w.drew _,hrs,?_,fun k hk hk'=>?_⟩
    ·rw [hrs,hlen2];exact Nat.mul_le_mul_right _ hge
    ·exact (happ rc0 _ hr0 k hk hk').mono (by simp) fun q hq=>upd_lt (by simpa using hq))
   simp only [List.length_set] at hs2
   refine ⟨_,?_,fun k hk=>upd_lt hk,hs2⟩
   have:=slvV_rel (n:=(σ.set i AObj.dead++[AObj.gr (cs++news) el]).length) (ρ:=upd ρ σ.length w.heap.size (grownCap w (n+m) old el*size)) (i:=σ.length) (sz:=size) (k:=n+m) (c':=grownCap w (n+m) old el) (by omega) (by simp) hge (by simp [upd])
   rw [upd_self] at this;exact this
  rcases hxr with ⟨rfl,hv⟩|⟨hn,_,cap,hcap,hcs,hv⟩
  ·have hcs:cs=[]:=List.eq_nil_of_length_eq_zero (by simpa using hl)
   subst hcs
   obtain ⟨ρ',g1,g2,g3⟩:=grow [] 0 ⟨rfl,fun k hk=>by simp at hk⟩
   refine ⟨ρ',_,_,.inl ?_,g1,by simp,g2,g3⟩
   rw [hrun _ hv]
   have:=run_append_nil (P:=P) w t op.type el ie z ha.und i1 i3 ⟨(ρ j).b,(ρ j).o+oj,none⟩ m c' rs (by rw [i2];exact hrl) hrs hm (by omega) (by simp only [Nat.zero_add] at hbytes;omega)
   rw [this];simp
  ·have hne:cs ≠ []:=fun hc=>by subst hc;have:=Nat.mul_pos hn hsz0;simp at hl;omega
   obtain ⟨g1,g2,rc,g3,g3',g4,g5⟩:=hs.obj i _ hi hne
   have hbo:=g2
   rw [hbo] at hcs hv
   rw [Nat.zero_add] at hcs
   by_cases hroom:n+m≤cap
   ·have hfit:n*size+rs.length≤rc.size:=by
     rw [hrl,g3',← Nat.add_mul]
     exact Nat.le_trans (Nat.mul_le_mul_right _ hroom) hcs
    have hr:=run_append_room (P:=P) w t op.type el ie ha.und i1 (ρ i).b n cap rc g3 ⟨(ρ j).b,(ρ j).o+oj,none⟩ m c' rs (by rw [i2];exact hrl) hrs hone hroom (by rw [i2];exact hfit)
    rw [i2] at hr
    have hs1:Sim G w0 ρ (σ.set i (.gr (cs++news) el)) (w.setRow (ρ i).b (rc.toList.take (n*size)++rs++rc.toList.drop (n*size+rs.length)).toArray):=by
     refine sim_upd hs hi hne (chg_setRow w _ _) ?_ ?_
     ·intro _
      refine ⟨g1,g2,_,setRow_heap w _ rc _ el (0,0) g3,by simp;omega,by simp;omega,fun k hk hk'=>?_⟩
      have hr0:ARel σ.length ρ cs.toArray (rc.toList.take (n*size)).toArray:=by
       refine ⟨by simp;omega,fun q hq hq'=>?_⟩
       simp only [List.getElem_toArray,List.getElem_take,Array.getElem_toList]
       exact g5 q (by simpa using hq) (by simp at hq';omega)
      have:=happ (rc.toList.take (n*size)) (rc.toList.drop (n*size+rs.length)).toArray hr0 k hk (by simpa using hk')
      simpa using this
     ·intro q k seen hj
      left
      intro hbk
      obtain ⟨_,_,ents,clock,sb,_,g6,_⟩:=hs.obj q _ hj
      rw [hbk,g3] at g6;simp at g6
    have hs2:=sim_move hs1 (i:=i) (by rw [List.getElem?_set_self hil])
    simp only [List.set_set,List.length_set] at hs2
    refine ⟨_,_,_,.inl (by rw [hrun _ hv,hr];rfl),?_,by simp,fun k hk=>?_,hs2⟩
    ·have:=slvV_rel (n:=(σ.set i AObj.dead++[AObj.gr (cs++news) el]).length) (ρ:=comp ρ (movR σ.length i)) (i:=σ.length) (sz:=size) (k:=n+m) (c':=cap) (by omega) (by simp) hroom (by simpa [comp,movR_self,hbo] using hcs)
     simpa [comp,movR_self,hbo] using this
    ·exact comp_id (movR_lt hk)
   ·have hr0:ARel σ.length ρ cs.toArray (rc.toList.take (n*size)).toArray:=by
     refine ⟨by simp;omega,fun q hq hq'=>?_⟩
     simp only [List.getElem_toArray,List.getElem_take,Array.getElem_toList]
     exact g5 q (by simpa using hq) (by simp at hq';omega)
    obtain ⟨ρ',k1,k2,k3⟩:=grow _ cap hr0
    refine ⟨ρ',_,_,.inl ?_,k1,by simp,k2,k3⟩
    rw [hrun _ hv]
    have:=run_append_grow (P:=P) w t op.type el ie z ha.und i1 i3 ⟨(ρ i).b,0,none⟩ n cap (rc.toList.take (n*size)) (by rw [i2];simp;omega) (fun q u hu=>by
     rw [addr_add,Nat.zero_add,cell_of_row w (ρ i).b q rc el (0,0) g3]
     rw [List.getElem?_take] at hu
     split at hu
     ·simpa using hu
     ·cases hu) ⟨(ρ j).b,(ρ j).o+oj,none⟩ m c' rs (by rw [i2];exact hrl) hrs (by omega) (by omega) (growslice_fits (by omega) hbytes)
    rw [this];simp
end ops
end Go.AH
namespace Go.AH
open Go
section ops
variable {P:Program} {rd:Option Nat} {ty:TypeId} {e:Env} {σ:Heap} {x y a b:Operand} {v u:Value}
theorem sl_elem {t el:TypeId} (h:Sl P t el):P.underlying t=some (.slice (P.elem t))∧P.elem t=el:=by
 have:=h.und
 simp [Program.elem,this]
theorem ar_elem {t el n:Nat} (h:Ar P t n el):P.underlying t=some (.array (P.arrayLen t) (P.elem t))∧P.elem t=el∧P.arrayLen t=n:=by
 have:=h.und
 simp [Program.elem,Program.arrayLen,this]
theorem ok_sliceH {t el size bytes i o n c h:Nat} {agg:Bool} {z:Value} {k:IntKind} [ha:Sl P t el] [ht:Ty P el size agg z bytes] (hx:evalO e x=some (.slice (some ⟨i,o,none⟩) n c)) (hy:evalO e y=some (.int k (h:Nat))) (hc:h≤c) :
  OpOk P rd (.slice t x none (some y) none) ty e σ (.slice (some ⟨i,o,none⟩) h c) σ :=
 opok_run (by simp) fun op ho _ G w0 ρ A w hs hop=>by
  have hv:=hop x (by simp [Op.operands]) _ hx
  have hi:=vrel_plain_eq (hop y (by simp [Op.operands]) _ hy) rfl
  obtain ⟨e1,e2⟩:=sl_elem ha
  generalize hr:A.eval x=r at hv
  cases hv with
  |emptySlice _ _ a' c' =>
   have h0:h=0:=by omega
   subst h0
   have:=run_slice_h (P:=P) w t a' 0 c' e1 k 0 (by omega) (by omega)
   refine ⟨ρ,sliced a' 0 0 c' size,w,.inl ?_,?_,Nat.le_refl _,fun _ _=>rfl,hs⟩
   ·simp only [Int.toNat_zero] at this
    simp [execOp,ho,hr,hi,run_sliceAt_slice _ _ _ _ _ _ e1,this,e2,ht.sizeOf]
   ·simp only [sliced];exact .emptySlice _ _ _ _
  |slice _ _ _ _ c' hcc hil =>
   have:=run_slice_h (P:=P) w t (some ⟨(ρ i).b,(ρ i).o+o,none⟩) n c' e1 k h (by omega) (by omega)
   simp only [Int.toNat_natCast] at this
   refine ⟨ρ,sliced (some ⟨(ρ i).b,(ρ i).o+o,none⟩) 0 h c' size,w,.inl ?_,?_,Nat.le_refl _,fun _ _=>rfl,hs⟩
   ·simp [execOp,ho,hr,hi,run_sliceAt_slice _ _ _ _ _ _ e1,this,e2,ht.sizeOf]
   ·have e3:sliced (some ⟨(ρ i).b,(ρ i).o+o,none⟩) 0 h c' size=.slice (some ⟨(ρ i).b,(ρ i).o+o,none⟩) h c':=by
     simp only [sliced];split <;> simp [addr_add]
    rw [e3];exact .slice _ _ _ _ _ hcc hil
  |sliceG _ _ _ _ _ _ _ _ hq=>simp at hq
theorem ok_sliceL {t el size bytes i o n c l:Nat} {agg:Bool} {z:Value} {k:IntKind} [ha:Sl P t el] [ht:Ty P el size agg z bytes] (hx:evalO e x=some (.slice (some ⟨i,o,none⟩) n c)) (hy:evalO e y=some (.int k (l:Nat))) (hc:l≤n) (hn:n≤c) :
  OpOk P rd (.slice t x (some y) none none) ty e σ (.slice (some ⟨i,o+l*size,none⟩) (n - l) (c - l)) σ :=
 opok_run (by simp) fun op ho _ G w0 ρ A w hs hop=>by
  have hv:=hop x (by simp [Op.operands]) _ hx
  have hi:=vrel_plain_eq (hop y (by simp [Op.operands]) _ hy) rfl
  obtain ⟨e1,e2⟩:=sl_elem ha
  generalize hr:A.eval x=r at hv
  cases hv with
  |emptySlice _ _ a' c' =>
   have h0:l=0:=by omega
   subst h0
   have:=run_slice_l (P:=P) w t a' 0 c' e1 k 0 (by omega) (by omega)
   refine ⟨ρ,sliced a' 0 0 c' size,w,.inl ?_,?_,Nat.le_refl _,fun _ _=>rfl,hs⟩
   ·simp only [Int.toNat_zero] at this
    simp [execOp,ho,hr,hi,run_sliceAt_slice _ _ _ _ _ _ e1,this,e2,ht.sizeOf]
   ·simp only [sliced];exact .emptySlice _ _ _ _
  |slice _ _ _ _ c' hcc hil =>
   have:=run_slice_l (P:=P) w t (some ⟨(ρ i).b,(ρ i).o+o,none⟩) n c' e1 k l (by omega) (by omega)
   simp only [Int.toNat_natCast] at this
   refine ⟨ρ,sliced (some ⟨(ρ i).b,(ρ i).o+o,none⟩) l n c' size,w,.inl ?_,?_,Nat.le_refl _,fun _ _=>rfl,hs⟩
   ·simp [execOp,ho,hr,hi,run_sliceAt_slice _ _ _ _ _ _ e1,this,e2,ht.sizeOf]
   ·simp only [sliced]
    by_cases hcl:c'=l
    ·have h1:n - l=0:=by omega
     have h2:c - l=0:=by omega
     rw [h1,h2];exact .emptySlice _ _ _ _
    ·rw [if_neg hcl]
     simp only [Option.map_some,addr_add]
     rw [Nat.add_assoc]
     exact .slice _ _ _ _ _ (by omega) hil
  |sliceG _ _ _ _ _ _ _ _ hq=>simp at hq
theorem ok_slice3V {t el size bytes i n:Nat} {agg:Bool} {z:Value} {k k':IntKind} [ha:Sl P t el] [ht:Ty P el size agg z bytes] (hx:evalO e x=some (slvV i size n)) (hy:evalO e y=some (.int k (n:Nat))) (hz:evalO e a=some (.int k' (n:Nat))) :
  OpOk P rd (.slice t x none (some y) (some a)) ty e σ (slvV i size n) σ :=
 opok_run (by simp) fun op ho _ G w0 ρ A w hs hop=>by
  have hv:=slvV_inv (hop x (by simp [Op.operands]) _ hx)
  have h1:=vrel_plain_eq (hop y (by simp [Op.operands]) _ hy) rfl
  have h2:=vrel_plain_eq (hop a (by simp [Op.operands]) _ hz) rfl
  obtain ⟨e1,e2⟩:=sl_elem ha
  rcases hv with ⟨rfl,hr⟩|⟨hn,hi,cap,hcap,hcs,hr⟩
  ·have:=run_slice_hm (P:=P) w t none 0 0 e1 k k' 0 0 (by omega) (by omega) (by omega)
   refine ⟨ρ,.slice none 0 0,w,.inl ?_,.nilSlice,Nat.le_refl _,fun _ _=>rfl,hs⟩
   simp only [Int.toNat_zero] at this
   simp only [Int.natCast_zero] at h1 h2
   simp [execOp,ho,hr,h1,h2,run_sliceAt_slice _ _ _ _ _ _ e1,this,e2,ht.sizeOf,sliced]
  ·have:=run_slice_hm (P:=P) w t (some ⟨(ρ i).b,(ρ i).o,none⟩) n cap e1 k k' n n (by omega) (by omega) (by omega)
   simp only [Int.toNat_natCast] at this
   refine ⟨ρ,.slice (some ⟨(ρ i).b,(ρ i).o,none⟩) n n,w,.inl ?_,slvV_rel hn hi (Nat.le_refl _) (Nat.le_trans (Nat.add_le_add_left (Nat.mul_le_mul_right _ hcap) _) hcs),Nat.le_refl _,fun _ _=>rfl,hs⟩
   have e3:sliced (some ⟨(ρ i).b,(ρ i).o,none⟩) 0 n n size=.slice (some ⟨(ρ i).b,(ρ i).o,none⟩) n n:=by simp only [sliced];split <;> simp [addr_add]
   simp [execOp,ho,hr,h1,h2,run_sliceAt_slice _ _ _ _ _ _ e1,this,e2,ht.sizeOf,e3]
theorem ok_sliceA {t el size bytes i o n:Nat} {agg:Bool} {z:Value} [ha:Ar P t n el] [ht:Ty P el size agg z bytes] (hx:evalO e x=some (.pointer (some ⟨i,o,none⟩))) :
  OpOk P rd (.slice t x none none none) ty e σ (.slice (some ⟨i,o,none⟩) n n) σ :=
 opok_run (by simp) fun op ho _ G w0 ρ A w hs hop=>by
  obtain ⟨hr,hi⟩:=ptr_inv (hop x (by simp [Op.operands]) _ hx)
  obtain ⟨e1,e2,e3⟩:=ar_elem ha
  have:=run_sliceAt_array_all (P:=P) w t ⟨(ρ i).b,(ρ i).o+o,none⟩ e1
  refine ⟨ρ,.slice (some ⟨(ρ i).b,(ρ i).o+o,none⟩) n n,w,.inl ?_,.slice _ _ _ _ _ (Nat.le_refl _) hi,Nat.le_refl _,fun _ _=>rfl,hs⟩
  have e4:slicedAt ⟨(ρ i).b,(ρ i).o+o,none⟩ 0 n n size=.slice (some ⟨(ρ i).b,(ρ i).o+o,none⟩) n n:=by simp only [slicedAt];split <;> simp [addr_add]
  simp [execOp,ho,hr,this,e2,e3,ht.sizeOf,e4]
theorem ok_sliceAH {t el size bytes i o n h:Nat} {agg:Bool} {z:Value} {k:IntKind} [ha:Ar P t n el] [ht:Ty P el size agg z bytes] (hx:evalO e x=some (.pointer (some ⟨i,o,none⟩))) (hy:evalO e y=some (.int k (h:Nat))) (hn:h≤n) :
  OpOk P rd (.slice t x none (some y) none) ty e σ (.slice (some ⟨i,o,none⟩) h n) σ :=
 opok_run (by simp) fun op ho _ G w0 ρ A w hs hop=>by
  obtain ⟨hr,hi⟩:=ptr_inv (hop x (by simp [Op.operands]) _ hx)
  have h1:=vrel_plain_eq (hop y (by simp [Op.operands]) _ hy) rfl
  obtain ⟨e1,e2,e3⟩:=ar_elem ha
  have:=run_sliceAt_array_h (P:=P) w t ⟨(ρ i).b,(ρ i).o+o,none⟩ e1 k h (by omega) (by omega)
  simp only [Int.toNat_natCast] at this
  refine ⟨ρ,.slice (some ⟨(ρ i).b,(ρ i).o+o,none⟩) h n,w,.inl ?_,.slice _ _ _ _ _ (Nat.le_refl _) hi,Nat.le_refl _,fun _ _=>rfl,hs⟩
  have e4:slicedAt ⟨(ρ i).b,(ρ i).o+o,none⟩ 0 h n size=.slice (some ⟨(ρ i).b,(ρ i).o+o,none⟩) h n:=by simp only [slicedAt];split <;> simp [addr_add]
  simp [execOp,ho,hr,h1,this,e2,e3,ht.sizeOf,e4]
theorem read_cells {G:Nat→Prop} {w0 w:World} {ρ:Rho} (hs:Sim G w0 ρ σ w) {j oj n:Nat} {news:List Value} (hc:cellsAt σ j oj n=some news) :
  ∃ rs:List Value,(∀ (k:Nat) (u:Value),rs[k]?=some u→w.cell? ((⟨(ρ j).b,(ρ j).o+oj,none⟩:Addr).add k)=some u)∧rs.length=n∧ARel σ.length ρ news.toArray rs.toArray:=by
 obtain ⟨hnl,hnc⟩:=cellsAt_rel hs hc
 have:∀ k≤news.length,∃ rs:List Value,rs.length=k∧∀ (q:Nat) (h1:q<rs.length) (h2:q<news.length),w.cell? ⟨(ρ j).b,(ρ j).o+oj+q,none⟩=some rs[q]∧VRel σ.length ρ news[q] rs[q]:=by
  intro k
  induction k with
  |zero=>intro _;exact ⟨[],rfl,fun q h1=>by simp at h1⟩
  |succ k ih =>
   intro hk
   obtain ⟨rs,e1,e2⟩:=ih (by omega)
   obtain ⟨v',e3,e4⟩:=hnc k (by omega)
   refine ⟨rs++[v'],by simp [e1],fun q h1 h2=>?_⟩
   by_cases hq:q<rs.length
   ·rw [List.getElem_append_left hq];exact e2 q hq h2
   ·have:q=k:=by simp at h1;omega
    subst this
    simp only [List.getElem_append_right (show rs.length≤q by omega),e1,Nat.sub_self,List.getElem_cons_zero]
    exact ⟨e3,e4⟩
 obtain ⟨rs,e1,e2⟩:=this news.length (Nat.le_refl _)
 refine ⟨rs,fun k u hu=>?_,by omega,by simp [e1],fun k hk hk'=>(e2 k (by simpa using hk') (by simpa using hk)).2⟩
 obtain ⟨hk,rfl⟩:=List.getElem?_eq_some_iff.1 hu
 rw [addr_add];exact (e2 k hk (by omega)).1
theorem ok_copy {t el size bytes i o j oj n c c2:Nat} {agg:Bool} {z:Value} {t2:TypeId} {news:List Value} {σ':Heap} [ha:Sl P t el] [ht:Ty P el size agg z bytes] (hx:evalO e x=some (.slice (some ⟨i,o,none⟩) n c))
  (hy:evalO e y=some (.slice (some ⟨j,oj,none⟩) n c2)) (hn:0<n) (hc:cellsAt σ j oj (n*size)=some news) (h1:news.all (·.oneCell')=true) (hp:putCells σ i o news=some σ') :
  OpOk P rd (.call { callee:=.builtin .copy,args:=#[x,y],argTypes:=#[t,t2] }) ty e σ (.int .i64 (n:Int)) σ' :=
 opok_run (by simp) fun op ho _ G w0 ρ A w hs hop=>by
  have hxr:=hop x (by simp [Op.operands,Call.operands]) _ hx
  have hyr:=hop y (by simp [Op.operands,Call.operands]) _ hy
  have hx':∃ c',A.eval x=.slice (some ⟨(ρ i).b,(ρ i).o+o,none⟩) n c':=by
   generalize hr:A.eval x=r at hxr
   cases hxr with
   |emptySlice=>omega
   |slice _ _ _ _ c' _ _=>exact ⟨c',rfl⟩
   |sliceG _ _ _ _ _ _ _ _ hq=>simp at hq
  have hy':∃ c',A.eval y=.slice (some ⟨(ρ j).b,(ρ j).o+oj,none⟩) n c':=by
   generalize hr:A.eval y=r at hyr
   cases hyr with
   |emptySlice=>omega
   |slice _ _ _ _ c' _ _=>exact ⟨c',rfl⟩
   |sliceG _ _ _ _ _ _ _ _ hq=>simp at hq
  obtain ⟨cx,hx'⟩:=hx'
  obtain ⟨cy,hy'⟩:=hy'
  obtain ⟨rs,hrs,hrl,hrel⟩:=read_cells hs hc
  obtain ⟨w',g1,g2,g3⟩:=run_put (P:=P) hs hp hrel (by have:=arel_oneCell hrel h1;simpa using this)
  have hf:=run_firstCells_some (P:=P) w size n ⟨(ρ j).b,(ρ j).o+oj,none⟩ n cy rs hrl hrs
  refine ⟨ρ,.int .i64 n,w',.inl ?_,.int _ _,by omega,fun _ _=>rfl,g2⟩
  simp [execOp,ho,resolve,invoke,builtin,hx',hy',Builtin.copy_,run_und ha.und,ht.sizeOf,Builtin.lenOf,hf,g1,goInt]
theorem ok_clear {t el size bytes i o n c:Nat} {agg:Bool} {z:Value} {σ':Heap} [ha:Sl P t el] [ht:Ty P el size agg z bytes] (hz:plain z=true) (hzs:z.cells.size=size) (hx:evalO e x=some (.slice (some ⟨i,o,none⟩) n c)) (hn:0<n)
  (h1:(zcells (vcells z) n).all (·.oneCell')=true) (hp:putCells σ i o (zcells (vcells z) n)=some σ') :
  OpOk P rd (.call { callee:=.builtin .clear,args:=#[x],argTypes:=#[t] }) ty e σ (.tuple #[]) σ' :=
 opok_run (by simp) fun op ho _ G w0 ρ A w hs hop=>by
  have hxr:=hop x (by simp [Op.operands,Call.operands]) _ hx
  have hx':∃ c',A.eval x=.slice (some ⟨(ρ i).b,(ρ i).o+o,none⟩) n c':=by
   generalize hr:A.eval x=r at hxr
   cases hxr with
   |emptySlice=>omega
   |slice _ _ _ _ c' _ _=>exact ⟨c',rfl⟩
   |sliceG _ _ _ _ _ _ _ _ hq=>simp at hq
  obtain ⟨cx,hx'⟩:=hx'
  have hrel:=made_rel (n:=σ.length) (ρ:=ρ) (k:=n) hz hzs
  have em:Builtin.zeroCells z.cells n=madeCells z.cells (n*size):=by subst hzs;rfl
  rw [← em] at hrel
  obtain ⟨w',g1,g2,g3⟩:=run_put (P:=P) hs hp (rs:=(Builtin.zeroCells z.cells n).toList) (by simpa using hrel) (by have:=arel_oneCell hrel h1;simpa using this)
  refine ⟨ρ,.tuple #[],w',.inl ?_,vrel_plain _ rfl,by omega,fun _ _=>rfl,g2⟩
  obtain ⟨m,rfl⟩:∃ m,n=m+1:=⟨n - 1,by omega⟩
  simp [execOp,ho,resolve,invoke,builtin,hx',Builtin.clear_,run_und ha.und,ht.zeroV,g1]
def eq2F (P:Program) (t:TypeId):List Field→Bool
 | [f, g] => !(f.name == "_") && !(g.name == "_") && Nat.beq f.offset 0 && Nat.beq g.offset 1 && (ikOf P f.type).isSome && (ikOf P g.type).isSome && !P.stoodInHeld t && !P.eqGuardType P.depth t
 |_=>false
def eq2Of (P:Program) (t:TypeId):Bool :=
 match P.underlying t with
 |some (.struct fs)=>eq2F P t fs.toList
 |_=>false
class Eq2 (P:Program) (t:TypeId):Prop where
 h:eq2Of P t=true
theorem ik_isAgg {t:TypeId} (h:(ikOf P t).isSome=true) {w:World}:(Go.isAgg t).run P w=.ok false w∧∃ k,P.underlying t=some (.int k):=by
 unfold ikOf at h
 split at h
 ·rename_i k hu;exact ⟨by simp [Go.isAgg,underlying,hu],k,hu⟩
 ·simp at h
theorem eq2_run {t:TypeId} (h:Eq2 P t) {k k':IntKind} {m n m' n':Int} {w:World} (d:Nat) :
  (Op.equalIn (d+2) t (.agg #[.int k m,.int k' n]) (.agg #[.int k m',.int k' n'])).run P w=.ok (decide (m=m'∧n=n')) w∧P.eqGuardType P.depth t=false:=by
 have:=h.h
 unfold eq2Of at this
 split at this
 ·rename_i fs hu
  unfold eq2F at this
  split at this
  case h_2=>simp at this
  rename_i f g hfg
  simp only [Bool.and_eq_true,Bool.not_eq_true'] at this
  obtain ⟨⟨⟨⟨⟨⟨⟨h1,h2⟩,h3⟩,h4⟩,h5⟩,h6⟩,h7⟩,h8⟩:=this
  refine ⟨?_,h8⟩
  have hf:P.fieldsOf t=fs:=by simp [Program.fieldsOf,hu]
  rw [run_equalIn_struct w (d+1) t _ _ (by rw [hf];exact hu) h7,hf,hfg]
  have e3:=Nat.eq_of_beq_eq_true h3
  have e4:=Nat.eq_of_beq_eq_true h4
  obtain ⟨a1,kf,u1⟩:=ik_isAgg h5 (w:=w)
  obtain ⟨a2,kg,u2⟩:=ik_isAgg h6 (w:=w)
  have n1 : f.name ≠ "_" := by simpa using h1
  have n2 : g.name ≠ "_" := by simpa using h2
  have p1:∀ x y:Value,(part f.type #[x,y] f.offset).run P w=.ok x w:=fun x y=>by simp [part,a1,e3]
  have p2:∀ x y:Value,(part g.type #[x,y] g.offset).run P w=.ok y w:=fun x y=>by simp [part,a2,e4]
  have q1:=run_equalIn_int w d f.type k kf m m' u1
  have q2:=run_equalIn_int w d g.type k' kg n n' u2
  simp only [Op.eqFields,n1,n2,ne_eq,not_false_eq_true,if_true,Sem.run_bind,p1,q1,Result.andThen_ok]
  by_cases hm:m=m' <;> by_cases hn:n=n' <;> simp [hm,hn,p2,run_equalIn_int w d g.type k' kg _ _ u2]
 ·simp at this
theorem ok_eq2 {t t':TypeId} {k k':IntKind} {m n m' n':Int} [h:Eq2 P t] (hx:evalO e x=some (.agg #[.int k m,.int k' n])) (hy:evalO e y=some (.agg #[.int k m',.int k' n'])) :
  OpOk P rd (.binOp .eql t x y t') ty e σ (.bool (decide (m=m'∧n=n'))) σ :=
 ok_plain (by simp) rfl fun o ho _ A hA w=>by
  have h1:=hA x (by simp [Op.operands]) _ hx rfl
  have h2:=hA y (by simp [Op.operands]) _ hy rfl
  obtain ⟨g1,g2⟩:=eq2_run h (k:=k) (k':=k') (m:=m) (n:=n) (m':=m') (n':=n') (w:=w) 9998
  simp [execOp,ho,h1,h2,run_eqGuard_agg _ _ _ _ _ _ _ g2,run_eql_struct,g1]
theorem ok_neq2 {t t':TypeId} {k k':IntKind} {m n m' n':Int} [h:Eq2 P t] (hx:evalO e x=some (.agg #[.int k m,.int k' n])) (hy:evalO e y=some (.agg #[.int k m',.int k' n'])) :
  OpOk P rd (.binOp .neq t x y t') ty e σ (.bool (decide (¬ (m=m'∧n=n')))) σ :=
 ok_plain (by simp) rfl fun o ho _ A hA w=>by
  have h1:=hA x (by simp [Op.operands]) _ hx rfl
  have h2:=hA y (by simp [Op.operands]) _ hy rfl
  obtain ⟨g1,g2⟩:=eq2_run h (k:=k) (k':=k') (m:=m) (n:=n) (m':=m') (n':=n') (w:=w) 9998
  simp [execOp,ho,h1,h2,run_eqGuard_agg _ _ _ _ _ _ _ g2,run_neq_struct,g1]
end ops
end Go.AH
