/- Lemmas. No conditions. -/
import Derived.Test.YtajpgeklmcjciaaGreatPyMA
import Derived.Laws.Tables
import Derived.Laws.Slices
import Derived.Laws.Append
import Derived.ArgAppend
import Derived.Great.BuildSlice
import Derived.Laws.StructEq
namespace Go.AH
open Go
def bV (after:Array Edge) (i:Nat):Bool:=after.any fun e=>Region.binds .any e && Nat.beq e.on i
def waits (o:Oper) (i:Nat):Bool:=bV o.after i
def vC (o:Oper):Bool:=match o.op with|.defer _=>false|.select ..=>false|_=>true
def Fj {α:Type} (n:Nat) (f:Nat->α):α:=match n with|0=>f 0|k+1=>f (k+1)
theorem xY {α:Type} (n:Nat) (f:Nat->α):Fj n f=f n:=by cases n <;> rfl
def ql (acc:List Nat):List Edge->Nat
 |[]=>0
 |e::r=>bif Region.binds .any e then Nat.lor (Nat.lor (Nat.shiftLeft 1 e.on) (acc.getD e.on 0)) (ql acc r) else ql acc r
def partOk (ops:List Oper) (m:Nat) (o:Oper) (j mk:Nat):Bool :=
 vC o && o.after.all (fun e=>!Region.binds .any e || Nat.blt e.on j) &&
  (match o.guard with|some (g,_)=>waits o g|none=>true) &&
  (List.range j).all fun i=>mk.testBit i || (Nat.blt i m && (match ops[i]? with|some oi=>oi.apart ops.toArray o|none=>false)) && Nat.blt j m
def chkD (all:List Oper) (m:Nat):List Oper->Nat->List Nat->Bool
 |[],_,_=>true
 |o::rest,j,acc=>Fj (ql acc o.after.toList) fun mk=>partOk all m o j mk && chkD all m rest (j+1) (acc++[mk])
def drawOk (ops:List Oper) (m:Nat):Bool:=chkD ops m ops 0 []
def Closed (all:List Oper) (D:Nat->Prop):Prop:=∀ j o,all[j]?=some o->D j->∀ k,waits o k=true->D k
def Good (all:List Oper) (j mk:Nat):Prop:=∀ D:Nat->Prop,Closed all D->∀ o,all[j]?=some o->(∀ k,waits o k=true->D k)->∀ i,mk.testBit i=true->D i
theorem CO {acc:List Nat} {i:Nat}:∀ {l:List Edge},(ql acc l).testBit i=true->∃ e ∈ l,Region.binds .any e=true/\(i=e.on\/(acc.getD e.on 0).testBit i=true)
 |[],h=>by simp [ql] at h
 |e::r,h=>by
  simp only [ql] at h
  cases hb:Region.binds .any e with
  |false =>
   rw [hb] at h
   obtain ⟨e',h1,h2⟩:=CO (l:=r) h
   exact ⟨e',dm _ h1,h2⟩
  |true =>
   rw [hb] at h
   simp only [cond_true] at h
   have h':((1 <<< e.on ||| acc.getD e.on 0) ||| ql acc r).testBit i=true:=h
   simp only [Nat.testBit_or,ee] at h'
   rcases h' with (h'|h')|h'
   ·refine ⟨e,by simp,hb,.inl ?_⟩
    rw [Nat.one_shiftLeft,Nat.testBit_two_pow] at h'
    exact (of_decide_eq_true h').symm
   ·exact ⟨e,by simp,hb,.inr h'⟩
   ·obtain ⟨e',h1,h2⟩:=CO (l:=r) h'
    exact ⟨e',dm _ h1,h2⟩
theorem Bd {all:List Oper} {j:Nat} {acc:List Nat} {o:Oper} (ho:all[j]?=some o) (hacc:∀ (k:Nat) (mk:Nat),acc[k]?=some mk->Good all k mk) (hl:acc.length<=all.length):Good all j (ql acc o.after.toList):=by
 intro D hD o' c hw i hi
 rw [ho] at c;cases c
 obtain ⟨e,h1,h2,h3⟩:=CO hi
 have d:waits o e.on=true:=by
  unfold waits bV
  rw [Array.any_eq_true']
  exact ⟨e,by simpa using h1,by simp [h2]⟩
 have a:=hw e.on d
 rcases h3 with rfl|h3
 ·exact a
 ·cases hk:acc[e.on]? with
  |none=>rw [cE,hk] at h3;simp at h3
  |some mk =>
   rw [cE,hk] at h3
   have hlt:=(List.getElem?_eq_some_iff.1 hk).1
   exact hacc e.on mk hk D hD all[e.on] (by simp [show e.on<all.length by omega]) (hD e.on _ (by simp [show e.on<all.length by omega]) a) i h3
theorem chkD_get {all:List Oper} {m:Nat}:∀ (rest:List Oper) (j:Nat) (acc:List Nat),rest=all.drop j->acc.length=j->j<=all.length->(∀ (k:Nat) (mk:Nat),acc[k]?=some mk->Good all k mk)->chkD all m rest j acc=true ->
  ∀ (t:Nat) (o:Oper),rest[t]?=some o->∃ mk,partOk all m o (j+t) mk=true/\Good all (j+t) mk
 |[],_,_,_,_,_,_,_,t,o,h=>by simp at h
 |x::rest,j,acc,hr,hl,hj,hacc,hc,t,o,h=>by
  have hx:all[j]?=some x:=by
   have:=congrArg (fun l:List Oper=>l[0]?) hr
   simpa using this.symm
  have c:rest=all.drop (j+1):=by
   have:=congrArg List.tail hr
   simpa using this
  have hjl:=(List.getElem?_eq_some_iff.1 hx).1
  simp only [chkD,xY,aE] at hc
  have hg:=Bd hx hacc oO
  cases t with
  |zero=>simp at h;subst h;exact ⟨_,hc.1,hg⟩
  |succ t =>
   have:=chkD_get rest (j+1) (acc++[ql acc x.after.toList]) c (by simp [hl]) oO (fun k mk hk=>by
    by_cases d:k<acc.length
    ·rw [bO d] at hk;exact hacc k mk hk
    ·rw [bE oO] at hk
     have a:k - acc.length=0:=by
      have:=(List.getElem?_eq_some_iff.1 hk).1
      simp at this;omega
     rw [a] at hk;simp at hk;subst hk
     rw [show k=j by omega];exact hg) hc.2 t o (oU h)
   rwa [show j+1+t=j+(t+1) by omega] at this
def hide (l:Heap):Heap:=l.map fun _=>.dead
def DU (d:Option Tmp) (v:Value) (e:Env):Env:=match d with|some d=>(d,v)::e|none=>e
def jX (all:List Oper) (e:Env) (o:Oper):Option Bool :=
 match o.guard with
 |none=>some true
 |some (j,want)=>match jM all e j with|some (.bool b)=>some (b == want)|some (.tuple ⟨[]⟩)=>some false|_=>none
def tH (N:Nat) (o:Oper):Bool:=match o.dst with|some d=>Nat.blt d N|none=>true
def Nok (n b:Nat) (v:Value):Prop:=∀ (k:Nat) (V ρ':Rho) (v':Value),gJ k V v v'->(∀ i,i<n\/b<=i->ρ' i=V i)->gJ k ρ' v v'
theorem CP {n b:Nat} {v:Value} (h:closed n v=true):Nok n b v:=fun k V ρ' v' hv hρ=>by
 by_cases hk:n<=k
 ·exact (uZ hv h).mono hk fun i hi=>hρ i (.inl hi)
 ·exact hv.mono (aD _) fun i hi=>hρ i (.inl oO)
theorem afa {n b:Nat}:Nok n b (.pointer (some ⟨b,0,none⟩)):=fun k V ρ' v' hv hρ=>by
 obtain ⟨rfl,hi⟩:=nV hv
 rw [<- hρ b (.inr (aD _))]
 exact .ptr _ _ hi
theorem xZ {n b l c:Nat}:Nok n b (.slice (some ⟨b,0,none⟩) l c):=fun k V ρ' v' hv hρ=>by
 have hb:=hρ b (.inr (aD _))
 cases hv with
 |emptySlice=>exact .emptySlice _ _ _ _
 |slice _ _ _ _ c' hc hi=>rw [<- hb];exact .slice _ _ _ _ _ hc hi
 |sliceG _ _ _ _ _ _ _ _ hq=>simp at hq
def rM (n:Nat) (ns:Heap):Prop:=∀ x ∈ ns,∃ cs,x=aC.rw cs/\dU n cs=true/\okL cs=true
def iI (news:List (Nat×Heap)):Heap:=(news.map (·.2)).flatten
def ZM (all:List Oper) (k n:Nat) (news:List (Nat×Heap)) (v:Value):Prop :=
 ∀ (n1:List (Nat×Heap)) (i:Nat) (h:Heap) (n2:List (Nat×Heap)),news=n1++(i,h)::n2->(∃ D:Nat->Prop,Closed all D/\D k/\¬ D i)->∀ (m:Nat) (V ρ':Rho) (v':Value),gJ m V v v' ->
  (∀ q,q<n+(iI n1).length\/n+(iI n1).length+h.length<=q->ρ' q=V q)->gJ m ρ' v v'
theorem Nok.toN {all:List Oper} {k n b:Nat} {news:List (Nat×Heap)} {v:Value} (h:Nok n b v) (hb:b=n+(iI news).length):ZM all k n news v:=by
 intro n1 i x n2 hn _ m V ρ' v' hv hρ
 refine h m V ρ' v' hv fun q hq=>hρ q ?_
 subst hn
 simp only [iI,eq,List.flatten_append,cG,ej,bA] at hb ⊢
 omega
def gV (L:Nat->Bool) (news:List (Nat×Heap)):Heap:=(news.map fun p=>bif L p.1 then p.2 else hide p.2).flatten
def addN (news:List (Nat×Heap)) (k:Nat):Heap->List (Nat×Heap)
 |[]=>news
 |x::r=>news++[(k,x::r)]
theorem qB (L:Nat->Bool):∀ news:List (Nat×Heap),(gV L news).length=(iI news).length
 |[]=>rfl
 |p::news=>by
  have:=qB L news
  simp only [gV,iI,cG,ej,bA] at this ⊢
  rw [this]
  cases L p.1 <;> simp [hide]
def bK (P:Program) (N:Nat) (rd:Option Nat) (all:List Oper):Nat->List Oper->Env->Heap->List (Nat×Heap)->(Env->List (Nat×Heap)->List Oper->Prop)->Prop
 |_,[],e,_,news,K=>K e news []
 |k,o::rest,e,σ0,news,K=>K e news (o::rest)\/(tH N o=true /\
  ((jX all e o=some true/\∃ v ns,bY P rd o.op o.type e (σ0++gV (bV o.after) news) v (σ0++gV (bV o.after) news++ns)/\rM σ0.length ns/\ZM all k σ0.length news v /\
    bK P N rd all (k+1) rest (DU o.dst v e) σ0 (addN news k ns) K) \/
   (jX all e o=some false/\bK P N rd all (k+1) rest (DU o.dst undef e) σ0 news K)))
section
variable {P:Program} {n0 N:Nat} {rd:Option Nat} {Q:Post} {e:Env} {mk:List Nat} {σ0:Heap} {news:List (Nat×Heap)} {K:Env->List (Nat×Heap)->List Oper->Prop} {k:Nat} {all rest:List Oper}
 {d:Nat} {op:Op} {ty:TypeId} {pos:String} {after:Array Edge} {v:Value} {j:Nat} {b want:Bool}
theorem fP (h:K e news rest):bK P N rd all k rest e σ0 news K:=by
 cases rest with
 |nil=>exact h
 |cons o r=>exact .inl h
theorem fr (h:bY P rd op ty e (σ0++gV (bV after) news) v (σ0++gV (bV after) news)) (hc:closed σ0.length v=true) (hd:Nat.blt d N=true) (hk:bK P N rd all (k+1) rest ((d,v)::e) σ0 news K) :
  bK P N rd all k (⟨some d,op,ty,pos,after,none⟩::rest) e σ0 news K :=
 .inr ⟨hd,.inl ⟨rfl,v,[],by simpa using h,fun _ hx=>by simp at hx,(CP (b:=σ0.length+(iI news).length) hc).toN rfl,by simpa [DU,addN] using hk⟩⟩
theorem fr1 {cs:List Value} (h:bY P rd op ty e (σ0++gV (bV after) news) (.pointer (some ⟨(σ0++gV (bV after) news).length,0,none⟩)) (σ0++gV (bV after) news++[.rw cs])) (hc:dU σ0.length cs=true) (ho:okL cs=true) (hd:Nat.blt d N=true)
  (hk:bK P N rd all (k+1) rest ((d,.pointer (some ⟨(σ0++gV (bV after) news).length,0,none⟩))::e) σ0 (addN news k [.rw cs]) K) :
  bK P N rd all k (⟨some d,op,ty,pos,after,none⟩::rest) e σ0 news K :=
 .inr ⟨hd,.inl ⟨rfl,_,[.rw cs],h,fun x hx=>⟨cs,by simpa using hx,hc,ho⟩,afa.toN (by rw [bA,qB]),hk⟩⟩
theorem frN {cs:List Value} (h:bY P rd op ty e (σ0++gV (bV after) news) v (σ0++gV (bV after) news++[.rw cs])) (hv:Nok σ0.length (σ0++gV (bV after) news).length v) (hc:dU σ0.length cs=true) (ho:okL cs=true) (hd:Nat.blt d N=true)
  (hk:bK P N rd all (k+1) rest ((d,v)::e) σ0 (addN news k [.rw cs]) K):bK P N rd all k (⟨some d,op,ty,pos,after,none⟩::rest) e σ0 news K :=
 .inr ⟨hd,.inl ⟨rfl,v,[.rw cs],h,fun x hx=>⟨cs,by simpa using hx,hc,ho⟩,hv.toN (by rw [bA,qB]),hk⟩⟩
theorem yU (hg:jM all e j=some (.bool b)):jX all e ⟨some d,op,ty,pos,after,some (j,want)⟩=some (b == want):=by simp only [jX,hg]
theorem frG (hg:jM all e j=some (.bool b)) (hb:b=want) (h:bY P rd op ty e (σ0++gV (bV after) news) v (σ0++gV (bV after) news)) (hc:closed σ0.length v=true) (hd:Nat.blt d N=true) (hk:bK P N rd all (k+1) rest ((d,v)::e) σ0 news K) :
  bK P N rd all k (⟨some d,op,ty,pos,after,some (j,want)⟩::rest) e σ0 news K :=
 .inr ⟨hd,.inl ⟨by rw [yU hg,hb];simp,v,[],by simpa using h,fun _ hx=>by simp at hx,(CP (b:=σ0.length+(iI news).length) hc).toN rfl,by simpa [DU,addN] using hk⟩⟩
theorem frS (hg:jM all e j=some (.bool b)) (hb:b=!want) (hd:Nat.blt d N=true) (hk:bK P N rd all (k+1) rest ((d,undef)::e) σ0 news K) :
  bK P N rd all k (⟨some d,op,ty,pos,after,some (j,want)⟩::rest) e σ0 news K :=
 .inr ⟨hd,.inr ⟨by rw [yU hg,hb];cases want <;> rfl,hk⟩⟩
theorem frGd (_hg:jM all e j=some (.bool b)) (h1:b=true->bK P N rd all k (⟨some d,op,ty,pos,after,some (j,want)⟩::rest) e σ0 news K)
  (h2:b=false->bK P N rd all k (⟨some d,op,ty,pos,after,some (j,want)⟩::rest) e σ0 news K):bK P N rd all k (⟨some d,op,ty,pos,after,some (j,want)⟩::rest) e σ0 news K:=by
 cases hb:b
 ·exact h2 hb
 ·exact h1 hb
theorem abP {p:Prop} [Decidable p] (hg:jM all e j=some (.bool (decide p))) (h1:p->bK P N rd all k (⟨some d,op,ty,pos,after,some (j,want)⟩::rest) e σ0 news K)
  (h2:¬ p->bK P N rd all k (⟨some d,op,ty,pos,after,some (j,want)⟩::rest) e σ0 news K):bK P N rd all k (⟨some d,op,ty,pos,after,some (j,want)⟩::rest) e σ0 news K :=
 frGd hg (fun h=>h1 (of_decide_eq_true h)) (fun h=>h2 (of_decide_eq_false h))
structure Tr where
 o:Oper
 run:Bool
 v:Value
 ns:Heap
def VF (P:Program) (N:Nat) (rd:Option Nat) (all:List Oper):Nat->List Tr->Env->Heap->List (Nat×Heap)->Prop
 |_,[],_,_,_=>True
 |k,t::ts,e,σ0,news=>(tH N t.o=true/\jX all e t.o=some t.run /\
  (t.run=true->bY P rd t.o.op t.o.type e (σ0++gV (bV t.o.after) news) t.v (σ0++gV (bV t.o.after) news++t.ns))/\(t.run=false->t.v=undef/\t.ns=[])/\rM σ0.length t.ns/\ZM all k σ0.length news t.v) /\
  VF P N rd all (k+1) ts (DU t.o.dst t.v e) σ0 (addN news k t.ns)
def l7:List Tr->Env->Env
 |[],e=>e
 |t::ts,e=>l7 ts (DU t.o.dst t.v e)
def iK:Nat->List Tr->List (Nat×Heap)->List (Nat×Heap)
 |_,[],news=>news
 |k,t::ts,news=>iK (k+1) ts (addN news k t.ns)
def eG (ts:List Tr):Heap:=(ts.map (·.ns)).flatten
theorem oz:∀ (rest:List Oper) (k:Nat) (e:Env) (σ0:Heap) (news:List (Nat×Heap)) (K:Env->List (Nat×Heap)->List Oper->Prop),bK P N rd all k rest e σ0 news K ->
  ∃ (ts:List Tr) (tl:List Oper),ts.map (·.o)++tl=rest/\VF P N rd all k ts e σ0 news/\K (l7 ts e) (iK k ts news) tl
 |[],k,e,σ0,news,K,h=>⟨[],[],rfl,trivial,h⟩
 |o::rest,k,e,σ0,news,K,h=>by
  rcases h with h|⟨hd,h⟩
  ·exact ⟨[],o::rest,rfl,trivial,h⟩
  rcases h with ⟨hw,v,ns,h1,h2,a,h3⟩|⟨hw,h3⟩
  ·obtain ⟨ts,tl,g1,g2,g3⟩:=oz rest _ _ _ _ _ h3
   exact ⟨⟨o,true,v,ns⟩::ts,tl,by simp [g1],⟨⟨hd,hw,fun _=>h1,fun h=>by simp at h,h2,a⟩,g2⟩,g3⟩
  ·obtain ⟨ts,tl,g1,g2,g3⟩:=oz rest _ _ _ _ _ h3
   exact ⟨⟨o,false,undef,[]⟩::ts,tl,by simp [g1],⟨⟨hd,hw,fun h=>by simp at h,fun _=>⟨rfl,rfl⟩,fun _ h=>by simp at h,(CP (b:=σ0.length+(iI news).length) rfl).toN rfl⟩,g2⟩,g3⟩
def maskN:List Tr->Nat->(Nat->Bool)->Heap
 |[],_,_=>[]
 |t::ts,k,L=>(if L k then t.ns else hide t.ns)++maskN ts (k+1) L
theorem abQ (L:Nat->Bool) (news:List (Nat×Heap)) (k:Nat) (ns:Heap):gV L (addN news k ns)=gV L news++(if L k then ns else hide ns):=by
 cases ns with
 |nil=>simp [addN,hide]
 |cons x r=>cases hL:L k <;> simp [addN,gV,hL]
theorem lq (L:Nat->Bool):∀ (ts:List Tr) (k:Nat) (news:List (Nat×Heap)),gV L (iK k ts news)=gV L news++maskN ts k L
 |[],_,_=>by simp [iK,maskN]
 |t::ts,k,news=>by simp only [iK,maskN];rw [lq L ts,abQ,cD]
theorem Nw:∀ (ts:List Tr) (k:Nat) (e:Env) (news:List (Nat×Heap)),VF P N rd all k ts e σ0 news->∀ (i:Nat) (hi:i<ts.length),
  tH N ts[i].o=true/\jX all (l7 (ts.take i) e) ts[i].o=some ts[i].run /\
  (ts[i].run=true->bY P rd ts[i].o.op ts[i].o.type (l7 (ts.take i) e) (σ0++gV (bV ts[i].o.after) (iK k (ts.take i) news)) ts[i].v (σ0++gV (bV ts[i].o.after) (iK k (ts.take i) news)++ts[i].ns)) /\
  (ts[i].run=false->ts[i].v=undef/\ts[i].ns=[])/\rM σ0.length ts[i].ns/\ZM all (k+i) σ0.length (iK k (ts.take i) news) ts[i].v
 |[],_,_,_,_,i,hi=>by simp at hi
 |t::ts,k,e,news,⟨h1,h2⟩,i,hi=>by
  cases i with
  |zero=>simpa [iK,l7] using h1
  |succ i=>simpa [iK,l7,cF,eW 1 i] using Nw ts _ _ _ h2 i (oU hi)
theorem Jy (ts:List Tr) (e:Env) (h:VF P N rd all 0 ts e σ0 []) (i:Nat) (hi:i<ts.length) :
  tH N ts[i].o=true/\jX all (l7 (ts.take i) e) ts[i].o=some ts[i].run /\
  (ts[i].run=true->bY P rd ts[i].o.op ts[i].o.type (l7 (ts.take i) e) (σ0++maskN (ts.take i) 0 (bV ts[i].o.after)) ts[i].v (σ0++maskN (ts.take i) 0 (bV ts[i].o.after)++ts[i].ns)) /\
  (ts[i].run=false->ts[i].v=undef/\ts[i].ns=[])/\rM σ0.length ts[i].ns/\ZM all i σ0.length (iK 0 (ts.take i) []) ts[i].v:=by
 have:=Nw ts 0 e [] h i hi
 rw [lq,aR] at this
 exact this
theorem ZN (news:List (Nat×Heap)) (k:Nat) (ns:Heap):iI (addN news k ns)=iI news++ns:=by
 cases ns <;> simp [addN,iI]
theorem Jz:∀ (ts:List Tr) (k:Nat) (news:List (Nat×Heap)),∃ r,iK k ts news=news++r
 |[],_,news=>⟨[],by simp [iK]⟩
 |t::ts,k,news=>by
  obtain ⟨r,h⟩:=Jz ts (k+1) (addN news k t.ns)
  simp only [iK,h]
  cases hn:t.ns with
  |nil=>exact ⟨r,by simp [addN]⟩
  |cons x y=>exact ⟨(k,x::y)::r,by simp [addN]⟩
theorem qU:∀ (ts:List Tr) (k:Nat) (news:List (Nat×Heap)) (i:Nat) (hi:i<ts.length),ts[i].ns ≠ [] ->
  ∃ n1 n2,iK k ts news=n1++(k+i,ts[i].ns)::n2/\iI n1=iI news++eG (ts.take i)
 |[],_,_,i,hi,_=>by simp at hi
 |t::ts,k,news,i,hi,hne=>by
  cases i with
  |zero =>
   simp only [dz] at hne ⊢
   obtain ⟨r,h⟩:=Jz ts (k+1) (addN news k t.ns)
   refine ⟨news,r,?_,by simp [eG]⟩
   simp only [iK,h,cV]
   cases hn:t.ns with
   |nil=>exact absurd hn hne
   |cons x y=>simp [addN]
  |succ i =>
   simp only [List.getElem_cons_succ] at hne ⊢
   obtain ⟨n1,n2,h1,h2⟩:=qU ts (k+1) (addN news k t.ns) i (oU hi) hne
   refine ⟨n1,n2,?_,?_⟩
   ·simp only [iK,h1];rw [show k+1+i=k+(i+1) by omega]
   ·rw [h2,ZN];simp [eG]
theorem l9:∀ (ts:List Tr) (e:Env) (t:Nat) (v:Value),Env.get (l7 ts e) t=some v ->
  (∃ (j:Nat) (hj:j<ts.length),ts[j].o.dst=some t/\ts[j].v=v/\∀ (k:Nat) (hk:k<ts.length),j<k->ts[k].o.dst ≠ some t) \/
  (Env.get e t=some v/\∀ (k:Nat) (hk:k<ts.length),ts[k].o.dst ≠ some t)
 |[],e,t,v,h=>.inr ⟨h,fun k hk=>by simp at hk⟩
 |x::ts,e,t,v,h=>by
  rcases l9 ts _ t v h with ⟨j,hj,h1,h2,h3⟩|⟨h1,h2⟩
  ·refine .inl ⟨j+1,by simpa using hj,by simpa using h1,by simpa using h2,fun k hk a=>?_⟩
   cases k with
   |zero=>omega
   |succ k=>simpa using h3 k (oU hk) oO
  ·by_cases hx:x.o.dst=some t
   ·refine .inl ⟨0,by simp,hx,?_,fun k hk a=>?_⟩
    ·simp only [hx,DU,Env.get] at h1
     rw [show Nat.beq t t=true from Nat.beq_refl t] at h1
     simpa using h1
    ·cases k with
     |zero=>omega
     |succ k=>simpa using h2 k (oU hk)
   ·refine .inr ⟨?_,fun k hk=>?_⟩
    ·cases hd:x.o.dst with
     |none=>simpa [DU,hd] using h1
     |some d =>
      simp only [DU,hd,Env.get] at h1
      rw [jA (show ¬ d=t from fun c=>hx (by rw [hd,c]))] at h1
      exact h1
    ·cases k with
     |zero=>exact hx
     |succ k=>simpa using h2 k (oU hk)
theorem wL (l:Heap):(hide l).length=l.length:=by simp [hide]
theorem fC:∀ (ts:List Tr) (k:Nat) (L:Nat->Bool),(maskN ts k L).length=(eG ts).length
 |[],_,_=>rfl
 |t::ts,k,L=>by
  have:=fC ts (k+1) L
  simp only [maskN,eG,cG,ej,bA] at this ⊢
  split <;> simp [wL,this]
theorem uP:∀ (ts:List Tr) (k:Nat) (L:Nat->Bool) (id:Nat) (x:aC),(maskN ts k L)[id]?=some x ->
  ∃ (j:Nat) (hj:j<ts.length) (q:Nat),id=(eG (ts.take j)).length+q/\q<ts[j].ns.length/\((L (k+j)=true/\ts[j].ns[q]?=some x)\/(L (k+j)=false/\x=.dead))
 |[],_,_,_,_,h=>by simp [maskN] at h
 |t::ts,k,L,id,x,h=>by
  have a:(if L k then t.ns else hide t.ns).length=t.ns.length:=by split <;> simp [wL]
  simp only [maskN] at h
  by_cases c:id<t.ns.length
  ·rw [bO (by rw [a];exact c)] at h
   refine ⟨0,by simp,id,by simp [eG],c,?_⟩
   cases hL:L k with
   |true=>rw [hL] at h;exact .inl ⟨rfl,by simpa using h⟩
   |false =>
    rw [hL] at h
    refine .inr ⟨rfl,?_⟩
    simp [hide,c] at h;exact h.symm
  ·rw [bE (by rw [a];omega),a] at h
   obtain ⟨j,hj,q,h1,h2,h3⟩:=uP ts (k+1) L _ x h
   refine ⟨j+1,by simpa using hj,q,?_,by simpa using h2,?_⟩
   ·simp only [List.take_succ_cons,eG,cG,ej,bA] at h1 ⊢;omega
   ·simpa [cF,eW 1 j] using h3
theorem qC:∀ (ts:List Tr) (k:Nat) (L:Nat->Bool) (j:Nat) (hj:j<ts.length) (q:Nat) (x:aC),L (k+j)=true->ts[j].ns[q]?=some x ->
  (maskN ts k L)[(eG (ts.take j)).length+q]?=some x
 |[],_,_,_,hj,_,_,_,_=>by simp at hj
 |t::ts,k,L,j,hj,q,x,hL,hx=>by
  have a:(if L k then t.ns else hide t.ns).length=t.ns.length:=by split <;> simp [wL]
  cases j with
  |zero =>
   simp only [maskN,List.take_zero,eG,cY,e7,dx,aR]
   simp only [cV] at hL
   simp only [dz] at hx
   rw [bO (by rw [a];exact aS hx),if_pos hL];exact hx
  |succ j =>
   have:=qC ts (k+1) L j (oU hj) q x (by rw [<- hL];congr 1;omega) (oU hx)
   simp only [maskN,List.take_succ_cons,eG,cG,ej,bA] at this ⊢
   rw [bE (by rw [a];omega),a,show t.ns.length+((List.map (fun x=>x.ns) (List.take j ts)).flatten).length+q - t.ns.length=((List.map (fun x=>x.ns) (List.take j ts)).flatten).length+q from by omega]
   exact this
theorem vG {G G':Nat->Prop} {n m:Nat} {V:Rho} {w:World} {p:Pl} {o:aC} (h:L8 G m V w p o) (hc:fV n o) (hG1:G p.b->G' p.b) (hG2:o.owned->¬ G' p.b) (hdp:(∀ b,G b->G' b)\/∀ qs sp,o ≠ .deep qs sp):L8 G' n V w p o:=by
 cases o with
 |dead=>trivial
 |ro cs =>
  intro c
  obtain ⟨h1,h2⟩:=h c
  refine ⟨hG1 h1,fun k hk=>?_⟩
  obtain ⟨v',h3,h4⟩:=h2 k hk
  exact ⟨v',h3,uZ h4 ((ou _ _).1 hc.1 _ (cP hk))⟩
 |rw cs =>
  intro c
  obtain ⟨h1,h2,rc,t,h3,h4,h5⟩:=h c
  exact ⟨hG2 c,h2,rc,t,h3,h4,fun k hk f=>uZ (h5 k hk f) ((ou _ _).1 hc.1 _ (cP hk))⟩
 |gr cs t =>
  intro c
  obtain ⟨h1,h2,rc,h3,g,h4,h5⟩:=h c
  exact ⟨hG2 c,h2,rc,h3,g,h4,fun k hk f=>uZ (h5 k hk f) ((ou _ _).1 hc.1 _ (cP hk))⟩
 |dfr=>exact ⟨hG2 trivial,h.2⟩
 |loop st pend N e params assign body =>
  obtain ⟨h1,r,h2,h3,h4,h5,h6,h7,h8⟩:=h
  refine ⟨hG2 trivial,r,h2,h3,h4,h5,h6,h7,h8.1,fun t v hv=>?_⟩
  obtain ⟨v',g1,g2⟩:=h8.2 t v hv
  exact ⟨v',g1,uZ g2 (hc t v hv).1⟩
 |map es =>
  obtain ⟨h1,ents,a,h2,h3,h4,h5⟩:=h
  exact ⟨hG2 trivial,ents,a,h2,h3,fun i hi d=>⟨(h4 i hi d).1,(h4 i hi d).2.1,uZ (h4 i hi d).2.2.1 (hc _ (cP hi)).1,(h4 i hi d).2.2.2⟩,h5⟩
 |iter k seen =>
  obtain ⟨h1,h2,ents,a,sb,h3,h4,h5⟩:=h
  exact ⟨hG2 trivial,hc,ents,a,sb,h3,h4,h5⟩
 |deep qs sp =>
  have hG:=hdp.resolve_right fun h=>h qs sp rfl
  refine ⟨fun hq=>?_,fun x hx=>?_⟩
  ·obtain ⟨h1,h2⟩:=h.1 hq
   refine ⟨hG1 h1,fun k hk=>?_⟩
   obtain ⟨v',h3,h4⟩:=h2 k hk
   exact ⟨v',h3,qy h4 hG (fun _ _ _ hy=>hy)⟩
  ·obtain ⟨h1,v',h3,h4⟩:=h.2 x hx
   exact ⟨hG1 h1,v',h3,uZ h4 (hc x hx).1⟩
theorem iL {σ0 x:Heap} {i:Nat} (h:i < σ0.length):(σ0++x)[i]?=σ0[i]?:=bO h
theorem oC {σ0 x:Heap} {i:Nat}:(σ0++x)[σ0.length+i]?=x[i]?:=by rw [bE oO];congr 1;omega
def oth (G:Nat->Prop) (V:Rho) (σ0:Heap) (ts:List Tr) (L W:Nat->Bool):Nat->Prop :=
 fun b=>G b\/∃ (j:Nat) (hj:j<ts.length) (q:Nat) (x:aC),L j=true/\W j=false/\ts[j].ns[q]?=some x/\x.owned/\(V (σ0.length+((eG (ts.take j)).length+q))).b=b
theorem Si:∀ {ts:List Tr} {j j' q q':Nat} (hj:j<ts.length) (hj':j'<ts.length),q<ts[j].ns.length->q'<ts[j'].ns.length->(eG (ts.take j)).length+q=(eG (ts.take j')).length+q'->j=j'
 |[],j,j',q,q',hj,_,_,_,_=>by simp at hj
 |t::ts,j,j',q,q',hj,hj',hq,hq',h=>by
  cases j with
  |zero =>
   cases j' with
   |zero=>rfl
   |succ j' =>
    simp only [List.take_zero,List.take_succ_cons,eG,cY,cG,e7,ej,dx,bA,dz] at h hq
    omega
  |succ j =>
   cases j' with
   |zero =>
    simp only [List.take_zero,List.take_succ_cons,eG,cY,cG,e7,ej,dx,bA,dz] at h hq'
    omega
   |succ j' =>
    have:=Si (ts:=ts) (j:=j) (j':=j') (q:=q) (q':=q') (oU hj) (oU hj') (oU hq) (oU hq') (by
     simp only [List.take_succ_cons,eG,cG,ej,bA] at h ⊢
     omega)
    rw [this]
theorem DV {G:Nat->Prop} {w0 w:World} {V:Rho} {ts:List Tr} {L W:Nat->Bool} {i:Nat} (hs:Sim G w0 V (σ0++maskN ts 0 L) w) (hcl:∀ (i:Nat) (o:aC),σ0[i]?=some o->fV σ0.length o)
  (hns:∀ (j:Nat) (hj:j<ts.length),rM σ0.length ts[j].ns) (hW:∀ j,W j=true->L j=true) :
  Sim (oth G V σ0 ts L W) w V (σ0++maskN (ts.take i) 0 W) w:=by
 have f:∀ (k:Nat) (o:aC),(σ0++maskN (ts.take i) 0 W)[k]?=some o->o=.dead\/((σ0++maskN ts 0 L)[k]?=some o/\(k < σ0.length\/∃ (j:Nat) (hj:j<ts.length) (q:Nat),W j=true/\ts[j].ns[q]?=some o/\k=σ0.length+((eG (ts.take j)).length+q))):=by
  intro k o hk
  by_cases d:k < σ0.length
  ·right
   rw [iL d] at hk ⊢
   exact ⟨hk,.inl d⟩
  ·rw [bE oO] at hk
   obtain ⟨j,hj,q,h1,h2,h3⟩:=uP (ts.take i) 0 W _ o hk
   simp only [eo] at hj
   have l:j<ts.length:=oO
   simp only [cX] at h2 h3
   rw [eA,fo oO] at h1
   rcases h3 with ⟨c,hx⟩|⟨_,rfl⟩
   ·right
    simp only [aR] at c
    have:=qC ts 0 L j l q o (by simpa using hW j c) hx
    have g:k=σ0.length+((eG (ts.take j)).length+q):=oO
    exact ⟨by rw [g,oC];exact this,.inr ⟨j,l,q,c,hx,g⟩⟩
   ·exact .inl rfl
 have e:∀ (k:Nat) (o:aC),(σ0++maskN ts 0 L)[k]?=some o->(k < σ0.length\/∃ (j:Nat) (hj:j<ts.length) (q:Nat),W j=true/\ts[j].ns[q]?=some o/\k=σ0.length+((eG (ts.take j)).length+q))->o.owned->¬ oth G V σ0 ts L W (V k).b:=by
  intro k o hk u ho hg
  rcases hg with hg|⟨j,hj,q,x,hL,c,hx,v,hb⟩
  ·exact (fH (hs.obj k o hk) ho).2 hg
  ·have:=qC ts 0 L j hj q x (oU hL) hx
   have hkk:=hs.inj _ _ x o (by rw [oC];exact this) hk v ho hb
   rcases u with d|⟨j',t,q',a,r,g⟩
   ·omega
   ·have:=Si hj t (aS hx) (aS r) oO
    subst this
    rw [c] at a;cases a
 refine ⟨rfl,rfl,rfl,aD _,fun b hb=>⟨?_,rfl⟩,fun k o hk=>?_,fun p q op oq hp hq m n s=>?_⟩
 ·rcases hb with hb|⟨j,hj,q,x,hL,_,hx,ho,rfl⟩
  ·have:=(hs.fgn b hb).1;have:=hs.size;omega
  ·have:=qC ts 0 L j hj q x (oU hL) hx
   exact (fH (hs.obj _ x (by rw [oC];exact this)) ho).1
 ·rcases f k o hk with rfl|⟨h1,h2⟩
  ·trivial
  ·have hc:fV σ0.length o:=by
    rcases h2 with d|⟨j,hj,q,_,hx,_⟩
    ·rw [iL d] at h1;exact hcl k o h1
    ·obtain ⟨cs,rfl,h3,h4⟩:=hns j hj o (eh hx)
     exact ⟨h3,h4⟩
   exact nP (vG (G':=oth G V σ0 ts L W) (hs.obj k o h1) hc .inl (e k o h1 h2) (.inl fun _=>.inl)) oS (fun _ _=>rfl) (fun _ h=>h) (fun _ _ _ _ h=>h) (fun _ _ _ h=>h)
 ·rcases f p op hp with rfl|⟨h1,_⟩
  ·exact m.elim
  rcases f q oq hq with rfl|⟨h2,_⟩
  ·exact n.elim
  exact hs.inj p q op oq h1 h2 m n s
def jW (L:Nat->Bool) (i:Nat):Nat->Bool:=fun j=>if j=i then true else L j
def rH (V ρ':Rho) (b l:Nat):Rho:=fun id=>if b<=id/\id<b+l then ρ' id else V id
theorem uF {ts:List Tr} {i:Nat} (hi:i<ts.length):(eG (ts.take i)).length+ts[i].ns.length<=(eG ts).length:=by
 have e:ts.take i++ts[i]::ts.drop (i+1)=ts:=by rw [<- List.drop_eq_getElem_cons hi,List.take_append_drop]
 have:(eG ts).length=(eG (ts.take i)).length+(ts[i].ns.length+(eG (ts.drop (i+1))).length):=by
  conv=>lhs;rw [<- e]
  simp only [eG,eq,cG,List.flatten_append,ej,bA]
 omega
theorem qV {ts:List Tr} {i j:Nat} (hij:i<j) (hj:j<=ts.length):(eG (ts.take i)).length+(ts[i]'oO).ns.length<=(eG (ts.take j)).length:=by
 have h1:i<(ts.take j).length:=by simp;omega
 have:=uF (ts:=ts.take j) h1
 simpa [eA,fo (eC hij)] using this
theorem JA {G:Nat->Prop} {w0 w w':World} {V ρ':Rho} {ts:List Tr} {L W:Nat->Bool} {i:Nat} (hi:i<ts.length) (hL:L i=false) (hW:∀ j,W j=true->j<i)
  (hs:Sim G w0 V (σ0++maskN ts 0 L) w) (hns:∀ (j:Nat) (hj:j<ts.length),rM σ0.length ts[j].ns)
  (hag:∀ k < σ0.length+(eG (ts.take i)).length,ρ' k=V k) (hs':Sim (oth G V σ0 ts L W) w ρ' (σ0++maskN (ts.take i) 0 W++ts[i].ns) w') :
  Sim G w0 (rH V ρ' (σ0.length+(eG (ts.take i)).length) ts[i].ns.length) (σ0++maskN ts 0 (jW L i)) w':=by
 let b:=σ0.length+(eG (ts.take i)).length
 have D:(σ0++maskN (ts.take i) 0 W++ts[i].ns).length=b+ts[i].ns.length:=by simp [fC,b,cF]
 have hle:=uF hi
 have X:(σ0++maskN ts 0 (jW L i)).length=σ0.length+(eG ts).length:=by simp [fC]
 have C:∀ k < σ0.length,rH V ρ' b ts[i].ns.length k=V k:=fun k hk=>by simp only [rH];rw [if_neg oO]
 have a:∀ k<b+ts[i].ns.length,rH V ρ' b ts[i].ns.length k=ρ' k:=fun k hk=>by
  simp only [rH];split
  ·rfl
  ·rw [hag k oO]
 have J:∀ (id:Nat) (x:aC),(σ0++maskN ts 0 (jW L i))[id]?=some x->x.owned\/(∃ cs,x=.ro cs/\cs ≠ []) ->
   ((σ0++maskN (ts.take i) 0 W++ts[i].ns)[id]?=some x/\id<b+ts[i].ns.length/\(id < σ0.length\/∃ cs,x=aC.rw cs)) \/
   (∃ (j:Nat) (hj:j<ts.length) (q:Nat),j ≠ i/\L j=true/\W j=false/\ts[j].ns[q]?=some x/\id=σ0.length+((eG (ts.take j)).length+q)):=by
  intro id x hx f
  by_cases g:id < σ0.length
  ·left
   rw [iL g] at hx
   exact ⟨by rw [cD,iL g];exact hx,oO,.inl g⟩
  ·rw [bE oO] at hx
   obtain ⟨j,hj,q,h1,h2,h3⟩:=uP ts 0 (jW L i) _ x hx
   rcases h3 with ⟨d,e⟩|⟨_,rfl⟩
   ·simp only [aR,jW] at d
    have N:∃ cs,x=aC.rw cs:=let ⟨cs,h,_⟩:=hns j hj x (eh e);⟨cs,h⟩
    by_cases l:j=i
    ·subst l
     left
     have:id=(σ0++maskN (ts.take j) 0 W).length+q:=by simp [fC];omega
     refine ⟨by rw [this,oC];exact e,oO,.inr N⟩
    ·rw [if_neg l] at d
     cases m:W j with
     |false=>exact .inr ⟨j,hj,q,l,d,m,e,oO⟩
     |true =>
      left
      have g:=hW j m
      have Uq:j<(ts.take i).length:=by simp;omega
      have hm:=qC (ts.take i) 0 W j Uq q x (oU m) (oU e)
      rw [eA,fo oO] at hm
      have S:id=σ0.length+((eG (ts.take j)).length+q):=oO
      have M:=(List.getElem?_eq_some_iff.1 hm).1
      rw [fC] at M
      refine ⟨by rw [cD,S,oC,bO (by rw [fC];exact M)];exact hm,oO,.inr N⟩
   ·rcases f with f|⟨cs,z,_⟩
    ·exact f.elim
    ·cases z
 have c:∀ (j:Nat) (hj:j<ts.length) (q:Nat) (x:aC),j ≠ i->L j=true->ts[j].ns[q]?=some x ->
   (σ0++maskN ts 0 L)[σ0.length+((eG (ts.take j)).length+q)]?=some x/\rH V ρ' b ts[i].ns.length (σ0.length+((eG (ts.take j)).length+q))=V (σ0.length+((eG (ts.take j)).length+q)):=by
  intro j hj q x l d e
  refine ⟨by rw [oC];exact qC ts 0 L j hj q x (oU d) e,?_⟩
  have hq:=aS e
  simp only [rH]
  rw [if_neg ?_]
  intro hc
  rcases fi l with g|R
  ·have:=qV g (eC hi);omega
  ·have:=qV R (eC hj);omega
 refine ⟨hs'.os.trans hs.os,hs'.tape.trans hs.tape,hs'.output.trans hs.output,eg hs.size hs'.size,fun bb hb=>?_,fun id x hx=>?_,fun p q op oq hp hq A u o=>?_⟩
 ·obtain ⟨h1,h2⟩:=hs.fgn bb hb
  exact ⟨h1,((hs'.fgn bb (.inl hb)).2).trans h2⟩
 ·rw [X]
  by_cases H:∃ qs sp,x=.deep qs sp
  ·obtain ⟨qs,sp,rfl⟩:=H
   have g:id < σ0.length:=by
    apply Classical.byContradiction
    intro g
    rw [bE oO] at hx
    obtain ⟨j,hj,q,h1,h2,h3⟩:=uP ts 0 (jW L i) _ _ hx
    rcases h3 with ⟨_,e⟩|⟨_,he⟩
    ·obtain ⟨cs,he,_⟩:=hns j hj _ (eh e);cases he
    ·cases he
   rw [iL g] at hx
   have h0:(σ0++maskN ts 0 L)[id]?=some (.deep qs sp):=by rw [iL g];exact hx
   have h1:(σ0++maskN (ts.take i) 0 W++ts[i].ns)[id]?=some (.deep qs sp):=by rw [cD,iL g];exact hx
   have hr:=hs.obj id _ h0
   have P:=hs'.obj id _ h1
   rw [D] at P
   have v:∀ b,G b->∀ y,w.heap[b]?=some y->w'.heap[b]?=some y:=fun b hb y hy=>by rw [(hs'.fgn b (.inl hb)).2];exact hy
   have O:ρ' id=V id:=hag id oO
   rw [a id oO]
   refine ⟨fun hq=>?_,fun y hy=>?_⟩
   ·obtain ⟨g1,g2⟩:=hr.1 hq
    rw [O]
    refine ⟨g1,fun k hk=>?_⟩
    obtain ⟨v',g3,g4⟩:=g2 k hk
    exact ⟨v',lX g3 (v _ g1),qy g4 (fun _ h=>h) v⟩
   ·obtain ⟨g1,_⟩:=hr.2 y hy
    obtain ⟨_,v',g3,g4⟩:=P.2 y hy
    exact ⟨by rw [O];exact g1,v',g3,g4.mono oO (fun k hk=>a k hk)⟩
  by_cases f:x.owned\/(∃ cs,x=.ro cs/\cs ≠ [])
  ·rcases J id x hx f with ⟨h1,h2,h3⟩|⟨j,hj,q,l,d,m,e,rfl⟩
   ·have hr:=hs'.obj id x h1
    rw [D] at hr
    rw [a id h2]
    have hc:fV (b+ts[i].ns.length) x:=jg hr
    refine nP (vG (G':=G) hr hc ?_ ?_ (.inr fun qs sp he=>H ⟨qs,sp,he⟩)) oO (fun k hk=>a k hk) (fun _ h=>h) (fun _ _ _ _ h=>h) (fun _ _ _ h=>h)
    ·intro hg
     rcases hg with hg|⟨j,hj,q,y,d,m,hy,K,Q⟩
     ·exact hg
     ·exfalso
      rcases f with f|⟨cs,rfl,z⟩
      ·exact (fH hr f).2 (.inr ⟨j,hj,q,y,d,m,hy,K,Q⟩)
      ·
       have g:id < σ0.length:=by
        rcases h3 with h3|⟨cs',he⟩
        ·exact h3
        ·cases he
       have h0:(σ0++maskN ts 0 L)[id]?=some (.ro cs):=by rw [cD,iL g] at h1;rw [iL g];exact h1
       obtain ⟨hg,_⟩:=hs.obj id _ h0 z
       have E:=fH (hs.obj _ y (c j hj q y (fun l=>by subst l;rw [hL] at d;cases d) d hy).1) K
       rw [Q,hag id oO] at E
       exact E.2 hg
    ·intro ho hg;exact (fH hr ho).2 (.inl hg)
   ·obtain ⟨g1,g2⟩:=c j hj q x l d e
    rw [g2]
    obtain ⟨cs,rfl,T,Vv⟩:=hns j hj x (eh e)
    have hr:=hs.obj _ _ g1
    refine nP (vG (n:=σ0.length) (G':=G) hr ⟨T,Vv⟩ (fun h=>h) (fun ho=>(fH hr ho).2) (.inl fun _ h=>h)) oO C ?_ (fun _ _ h=>by cases h) (fun b hb y hy=>by rw [(hs'.fgn b (.inl hb)).2];exact hy)
    intro y hy
    have ho:(aC.rw cs).owned:=by
     rcases f with f|⟨_,z,_⟩
     ·exact f
     ·cases z
    rw [(hs'.fgn _ (.inr ⟨j,hj,q,_,d,m,e,ho,rfl⟩)).2];exact hy
  ·cases x with
   |dead=>trivial
   |ro cs=>intro hc;exact absurd (.inr ⟨cs,rfl,hc⟩) f
   |rw cs=>intro hc;exact absurd (.inl hc) f
   |gr cs t=>intro hc;exact absurd (.inl hc) f
   |deep qs sp=>exact absurd ⟨qs,sp,rfl⟩ H
   |_=>exact absurd (.inl trivial) f
 ·rcases J p op hp (.inl A) with ⟨h1,h2,h3⟩|⟨j,hj,k,l,d,m,e,rfl⟩ <;> rcases J q oq hq (.inl u) with ⟨g1,g2,g3⟩|⟨j',F,k',B,r,I,s,rfl⟩
  ·rw [a p h2,a q g2] at o
   exact hs'.inj p q op oq h1 g1 A u o
  ·obtain ⟨e1,e2⟩:=c j' F k' oq B r s
   rw [a p h2,e2] at o
   exact absurd (.inr ⟨j',F,k',oq,r,I,s,u,o.symm⟩) (fH (hs'.obj p op h1) A).2
  ·obtain ⟨e1,e2⟩:=c j hj k op l d e
   rw [a q g2,e2] at o
   exact absurd (.inr ⟨j,hj,k,op,d,m,e,A,o⟩) (fH (hs'.obj q oq g1) u).2
  ·obtain ⟨e1,e2⟩:=c j hj k op l d e
   obtain ⟨e3,e4⟩:=c j' F k' oq B r s
   rw [e2,e4] at o
   exact hs.inj _ _ op oq e1 e3 A u o
end
section
variable {all:List Oper} {m:Nat}
theorem draw_parts (h:drawOk all m=true) {j:Nat} {o:Oper} (hj:all[j]?=some o) :
  vC o=true/\(∀ e ∈ o.after,Region.binds .any e=true->e.on<j)/\(∀ g b,o.guard=some (g,b)->waits o g=true) /\
  ∀ i oi,i<j->all[i]?=some oi->(∀ D:Nat->Prop,Closed all D->(∀ k,waits o k=true->D k)->D i)\/(i<m/\j<m/\oi.apart all.toArray o=true):=by
 obtain ⟨mk,this,a⟩:=chkD_get all 0 [] rfl rfl oO (fun k mk hk=>by simp at hk) h j o hj
 rw [aR] at this a
 unfold partOk at this
 simp only [aE] at this
 obtain ⟨⟨⟨h1,h2⟩,h3⟩,h4⟩:=this
 refine ⟨h1,fun e he hb=>?_,fun g b hg=>?_,fun i oi hi c=>?_⟩
 ·have:=Array.all_eq_true_iff_forall_mem.1 h2 e he
  simp only [hb,Bool.not_true,Bool.false_or,bX] at this;exact this
 ·rw [hg] at h3;exact h3
 ·have:=List.all_eq_true.1 h4 i (oU hi)
  simp only [c,ee,aE,bX] at this
  rcases this with h|⟨⟨h5,h6⟩,h7⟩
  ·exact .inl fun D hD hw=>a D hD o hj hw i h
  ·exact .inr ⟨h5,h7,h6⟩
theorem waits_lt (h:drawOk all m=true) {j i:Nat} {o:Oper} (hj:all[j]?=some o) (hw:bV o.after i=true):i<j:=by
 unfold bV at hw
 obtain ⟨e,he,hb⟩:=Array.any_eq_true'.1 hw
 simp only [aE] at hb
 rw [<- aM hb.2]
 exact (draw_parts h hj).2.1 e he hb.1
theorem iM {listed:Array Bool} {j i:Nat} {o:Oper} (hr:j ∈ Region.ready .any all.toArray listed) (ho:all[j]?=some o) (hw:waits o i=true):listed.getD i false=true:=by
 obtain ⟨_,o',a,h⟩:=mem_ready.1 hr
 rw [bR,ho] at a
 cases a
 unfold waits bV at hw
 obtain ⟨e,he,hb⟩:=Array.any_eq_true'.1 hw
 simp only [aE] at hb
 rw [<- aM hb.2]
 exact h e he hb.1
def cnt (n:Nat) (listed:Array Bool):Nat:=(List.range n).countP fun i=>!listed.getD i true
theorem VG {l:List Nat} (hn:l.Nodup) {p q:Nat->Bool} {i:Nat} (hi:i ∈ l) (hp:p i=true) (hq:q i=false) (hpq:∀ j,j ≠ i->q j=p j):l.countP p=l.countP q+1:=by
 induction l with
 |nil=>simp at hi
 |cons x l ih =>
  obtain ⟨hx,d⟩:=List.nodup_cons.1 hn
  by_cases a:x=i
  ·subst a
   rw [List.countP_cons_of_pos hp,List.countP_cons_of_neg (by simp [hq])]
   congr 1
   exact List.countP_congr fun j hj=>by rw [hpq j (fun e=>hx (e ▸ hj))]
  ·have f:i ∈ l:=by
    rcases List.mem_cons.1 hi with h|h
    ·exact absurd h.symm a
    ·exact h
   have:=ih d f
   by_cases c:p x=true
   ·rw [List.countP_cons_of_pos c,List.countP_cons_of_pos (by rw [hpq x a];exact c)];omega
   ·rw [List.countP_cons_of_neg c,List.countP_cons_of_neg (by rw [hpq x a];exact c)];exact this
theorem qW {n:Nat} {listed:Array Bool} {i:Nat} (hi:i<n) (hs:listed.size=n) (hf:listed.getD i true=false):cnt n listed=cnt n (listed.setIfInBounds i true)+1:=by
 refine VG List.nodup_range (i:=i) (oU hi) (by simp only [hf];rfl) ?_ fun j hj=>?_
 ·have:(listed.setIfInBounds i true).getD i true=true:=by simp [hs,hi]
  simp only [this];rfl
 ·rw [getD_set_ne true (Ne.symm hj)]
theorem getD_lt {listed:Array Bool} {i:Nat} (h:i<listed.size) (d d':Bool):listed.getD i d=listed.getD i d':=by simp [h]
end
section
variable {P:Program} {N:Nat} {rd:Option Nat} {e0:Env} {mk:List Nat} {σ0:Heap} {all:List Oper} {ts:List Tr} {n0:Nat}
structure x9 (n0 N:Nat) (G:Nat->Prop) (w0:World) (ρ0:Rho) (e0:Env) (mk:List Nat) (σ0:Heap) (ts:List Tr) (L:Nat->Bool) (A:Act) (w:World) (V:Rho):Prop where
 ag:∀ i<n0,V i=ρ0 i
 sim:Sim G w0 V (σ0++maskN ts 0 L) w
 sz:A.tmps.size=N
 mks:A.defers=(mk.map fun i=>{ target:=.collected (V i).b,args:=#[] })++abI n0 ρ0
 old:∀ t v,Env.get e0 t=some v->(∀ (k:Nat) (hk:k<ts.length),L k=true->ts[k].o.dst ≠ some t)->∃ v',A.tmps[t]?=some v'/\gJ σ0.length V v v'
 new:∀ (k:Nat) (hk:k<ts.length),L k=true->∀ t,ts[k].o.dst=some t->(∀ (j:Nat) (hj:j<ts.length),k<j->L j=true->ts[j].o.dst ≠ some t) ->
  ∃ v',A.tmps[t]?=some v'/\gJ (σ0.length+((eG (ts.take k)).length+ts[k].ns.length)) V ts[k].v v'
theorem dinv_sees {G:Nat->Prop} {w0:World} {ρ0 V:Rho} {L:Nat->Bool} {A:Act} {w:World} (hd:x9 n0 N G w0 ρ0 e0 mk σ0 ts L A w V) (hall:∀ (i:Nat) (hi:i<ts.length),all[i]?=some ts[i].o)
  (hchk:drawOk all ts.length=true) {i:Nat} (hi:i<ts.length) (hLi:L i=false) (hw:∀ j,waits ts[i].o j=true->L j=true) (hdc:Closed all fun k=>L k=true)
  {t:Nat} (ht:t ∈ ts[i].o.looksAt all.toArray) {v:Value} (hv:Env.get (l7 (ts.take i) e0) t=some v):∃ v',A.tmps[t]?=some v'/\gJ (σ0.length+(eG (ts.take i)).length) V v v':=by
 have d:∀ (j:Nat) (hj:j<i),(ts[j]'oO).o.dst=some t->L j=true:=by
  intro j hj c
  rcases (draw_parts hchk (hall i hi)).2.2.2 j _ hj (hall j oO) with h|⟨_,_,h⟩
  ·exact h _ hdc hw
  ·exact absurd ht ((Oper.apart_spec h).1 t c)
 have f:∀ (j:Nat) (hj:j<ts.length),i<j->ts[j].o.dst=some t->L j=true->False:=by
  intro j hj m c n
  rcases (draw_parts hchk (hall j hj)).2.2.2 i _ m (hall i hi) with h|⟨_,_,h⟩
  ·have:=h _ hdc (hdc j _ (hall j hj) n)
   rw [hLi] at this;cases this
  ·exact absurd ht ((Oper.apart_spec h).2.2 t c)
 rcases l9 _ _ _ _ hv with ⟨j,hj,h1,h2,h3⟩|⟨h1,h2⟩
 ·have l:j<i:=by simp at hj;omega
  rw [cX] at h1 h2
  obtain ⟨v',g1,g2⟩:=hd.new j oO (d j l h1) t h1 fun k hk p a e=>by
   rcases fk k i with q|rfl|g
   ·have:=h3 k (by simp;omega) p
    rw [cX] at this;exact this e
   ·rw [hLi] at a;cases a
   ·exact f k hk g e a
  refine ⟨v',g1,?_⟩
  rw [<- h2]
  have:=qV l (eC hi)
  exact g2.mono oO fun _ _=>rfl
 ·obtain ⟨v',g1,g2⟩:=hd.old t v h1 fun k hk a e=>by
   rcases fk k i with q|rfl|g
   ·have:=h2 k (by simp;omega)
    rw [cX] at this;exact this e
   ·rw [hLi] at a;cases a
   ·exact f k hk g e a
  exact ⟨v',g1,g2.mono oO fun _ _=>rfl⟩
theorem dinv_step {G:Nat->Prop} {w0:World} {ρ0 V ρ':Rho} {L:Nat->Bool} {A:Act} {w w':World} (hd:x9 n0 N G w0 ρ0 e0 mk σ0 ts L A w V) (hall:∀ (i:Nat) (hi:i<ts.length),all[i]?=some ts[i].o)
  (hchk:drawOk all ts.length=true) (hn0:n0<=σ0.length) (hmk:∀ i ∈ mk,i < σ0.length)
  (hns:∀ (j:Nat) (hj:j<ts.length),rM σ0.length ts[j].ns) (hnok:∀ (j:Nat) (hj:j<ts.length) (i:Nat) (hi:i<j),(∃ D:Nat->Prop,Closed all D/\D j/\¬ D i)->∀ (m:Nat) (V ρ':Rho) (v':Value),gJ m V ts[j].v v' ->
   (∀ q,q < σ0.length+(eG (ts.take i)).length\/σ0.length+(eG (ts.take i)).length+ts[i].ns.length<=q->ρ' q=V q)->gJ m ρ' ts[j].v v')
  {i:Nat} (hi:i<ts.length) (hLi:L i=false) (hdc:Closed all fun k=>L k=true) (hdst:tH N ts[i].o=true)
  {v':Value} (hag:∀ k < σ0.length+(eG (ts.take i)).length,ρ' k=V k) (hv:gJ (σ0.length+((eG (ts.take i)).length+ts[i].ns.length)) ρ' ts[i].v v')
  (hs':Sim (oth G V σ0 ts L (bV ts[i].o.after)) w ρ' (σ0++maskN (ts.take i) 0 (bV ts[i].o.after)++ts[i].ns) w') :
  x9 n0 N G w0 ρ0 e0 mk σ0 ts (jW L i) (A.put ts[i].o.dst v') w' (rH V ρ' (σ0.length+(eG (ts.take i)).length) ts[i].ns.length):=by
 have a:∀ k < σ0.length+(eG (ts.take i)).length,rH V ρ' (σ0.length+(eG (ts.take i)).length) ts[i].ns.length k=V k:=fun k hk=>by simp only [rH];rw [if_neg oO]
 have c:∀ k < σ0.length+((eG (ts.take i)).length+ts[i].ns.length),rH V ρ' (σ0.length+(eG (ts.take i)).length) ts[i].ns.length k=ρ' k:=fun k hk=>by
  simp only [rH];split
  ·rfl
  ·rw [hag k oO]
 have l:∀ k,σ0.length+(eG (ts.take i)).length+ts[i].ns.length<=k->rH V ρ' (σ0.length+(eG (ts.take i)).length) ts[i].ns.length k=V k:=fun k hk=>by simp only [rH];rw [if_neg oO]
 have g:∀ t u,A.tmps[t]?=some u->ts[i].o.dst ≠ some t->(A.put ts[i].o.dst v').tmps[t]?=some u:=by
  intro t u hu s
  cases hdd:ts[i].o.dst with
  |none=>simpa [Act.put] using hu
  |some d =>
   simp only [Act.put]
   rw [e8 (fun E=>s (by rw [hdd,E]))];exact hu
 refine ⟨fun k hk=>(a k oO).trans (hd.ag k hk),JA hi hLi (fun j hj=>waits_lt hchk (hall i hi) hj) hd.sim hns hag hs',?_,?_,fun t v ht f=>?_,fun k hk x t p f=>?_⟩
 ·cases hdd:ts[i].o.dst <;> simp [Act.put,hd.sz]
 ·have:(A.put ts[i].o.dst v').defers=A.defers:=by cases ts[i].o.dst <;> rfl
  rw [this,hd.mks]
  congr 1
  exact eI fun k hk=>by rw [a k (by have:=hmk k hk;omega)]
 ·obtain ⟨u,g1,g2⟩:=hd.old t v ht fun k hk x=>f k hk (by simp only [jW];split <;> simp [x])
  exact ⟨u,g t u g1 (f i hi (by simp [jW])),g2.mono (aD _) fun k hk=>a k oO⟩
 ·by_cases r:k=i
  ·subst r
   refine ⟨v',?_,hv.mono oO c⟩
   simp only [p,tH,bX] at hdst
   simp only [p,Act.put]
   rw [fp (by rw [hd.sz];exact hdst)]
  ·have e:L k=true:=by simpa [jW,r] using x
   have s:ts[i].o.dst ≠ some t:=by
    intro z
    rcases fi r with y|n
    ·exact f i hi y (by simp [jW]) z
    ·rcases (draw_parts hchk (hall k hk)).2.2.2 i _ n (hall i hi) with h|⟨_,_,h⟩
     ·have:=h _ hdc (hdc k _ (hall k hk) e)
      rw [hLi] at this;cases this
     ·exact (Oper.apart_spec h).2.1 t z p
   obtain ⟨u,g1,g2⟩:=hd.new k hk e t p fun j hj C B=>f j hj C (by simp only [jW];split <;> simp [B])
   refine ⟨u,g t u g1 s,?_⟩
   rcases fi r with y|n
   ·have:=qV y (eC hi)
    exact g2.mono (aD _) fun j hj=>a j oO
   ·have:=qV n (eC hk)
    exact hnok k hk i n ⟨fun q=>L q=true,hdc,e,by simp [hLi]⟩ _ _ _ _ g2 fun j hj=>by
     rcases hj with hj|hj
     ·exact a j hj
     ·exact l j hj
theorem zW {A:Act} {o:Oper} {e:Env} {b:Bool} (hw:jX all e o=some b) (hg:∀ g want,o.guard=some (g,want)->∀ t,((all[g]?).bind (·.dst))=some t->∀ v,Env.get e t=some v->∃ n V v',A.tmps[t]?=some v'/\gJ n V v v') :
  Region.wanted o (yielded all.toArray A.tmps)=b:=by
 unfold jX at hw
 cases hgd:o.guard with
 |none=>rw [hgd] at hw;simp at hw;subst hw;simp [Region.wanted,hgd]
 |some gw =>
  obtain ⟨g,want⟩:=gw
  rw [hgd] at hw
  simp only at hw
  cases hv:jM all e g with
  |none=>simp [hv] at hw
  |some u =>
   rw [hv] at hw
   have a:∃ t,(all[g]?).bind (·.dst)=some t/\Env.get e t=some u:=by
    unfold jM at hv
    cases ho:all[g]? with
    |none=>simp [ho] at hv
    |some og =>
     simp only [ho] at hv
     cases hd:og.dst with
     |none=>simp [hd] at hv
     |some t=>exact ⟨t,by simp [hd],by simpa [hd] using hv⟩
   obtain ⟨t,ht,hu⟩:=a
   obtain ⟨n,V,v',h1,h2⟩:=hg g want hgd t ht _ hu
   split at hw
   ·rename_i q hq
    cases hq
    rw [bH h2 rfl] at h1
    simp only [Option.some.injEq] at hw
    subst hw
    simp [Region.wanted,hgd,yielded,ht,h1]
   ·rename_i hq
    cases hq
    rw [bH h2 rfl] at h1
    simp only [Option.some.injEq] at hw
    subst hw
    simp [Region.wanted,hgd,yielded,ht,h1]
   ·cases hw
theorem G5 {L L':Nat->Bool}:∀ (ts:List Tr) (k:Nat),(∀ j<ts.length,L (k+j)=L' (k+j))->maskN ts k L=maskN ts k L'
 |[],_,_=>rfl
 |t::ts,k,h=>by
  have h0:=h 0 oS
  simp only [cV] at h0
  have h1:=G5 (L:=L) (L':=L') ts (k+1) fun j hj=>by have:=h (j+1) (oU hj);simpa [cF,eW 1 j] using this
  simp only [maskN,h0,h1]
theorem iZ {G:Nat->Prop} {w0:World} {ρ0 V:Rho} {L L':Nat->Bool} {A:Act} {w:World} (h:∀ k<ts.length,L k=L' k) (hd:x9 n0 N G w0 ρ0 e0 mk σ0 ts L A w V):x9 n0 N G w0 ρ0 e0 mk σ0 ts L' A w V :=
 ⟨hd.ag,by rw [<- G5 ts 0 (fun j hj=>by simpa using h j hj)];exact hd.sim,hd.sz,hd.mks,fun t v ht a=>hd.old t v ht fun k hk hL=>a k hk (by rw [<- h k hk];exact hL),
  fun k hk hL t ht a=>hd.new k hk (by rw [h k hk];exact hL) t ht fun j hj d c=>a j hj d (by rw [<- h j hj];exact c)⟩
theorem JB {n m:Nat} {listed:Array Bool} (_hm:m<=n) (h:∀ i<n,listed.getD i true=decide (i<m)):cnt n listed=n - m:=by
 unfold cnt
 have:∀ k≤n,(List.range k).countP (fun i=>!listed.getD i true)=k - m:=by
  intro k
  induction k with
  |zero=>intro _;simp
  |succ k ih =>
   intro hk
   rw [ff,List.countP_append,ih oO,List.countP_singleton,h k oO]
   by_cases a:k<m <;> simp [a] <;> omega
 exact this n (aD _)
theorem iD {listed:Array Bool} {i j:Nat} (hi:i<listed.size):(listed.setIfInBounds i true).getD j false=if j=i then true else listed.getD j false:=by
 by_cases hj:j=i
 ·subst hj;simp [hi]
 ·rw [if_neg hj,getD_set_ne false (Ne.symm hj)]
theorem free_any {G:Nat->Prop} {w0:World} {ρ0:Rho} {Q':Exit->Act->World->Prop} (hrd:lJ rd n0=true) (hall:∀ (i:Nat) (hi:i<ts.length),all[i]?=some ts[i].o)
  (hchk:drawOk all ts.length=true) (hn0:n0<=σ0.length) (hmk:∀ i ∈ mk,i < σ0.length) (hcl:∀ (i:Nat) (o:aC),σ0[i]?=some o->fV σ0.length o) (htr:VF P N rd all 0 ts e0 σ0 [])
  (hfin:∀ A w V fuel listed,listed.size=all.length->(∀ i<all.length,listed.getD i false=decide (i<ts.length))->x9 n0 N G w0 ρ0 e0 mk σ0 ts (fun i=>listed.getD i false) A w V ->
   fuel=all.length - ts.length->wpAnyIn (fen ρ0 rd) 0 P .any all.toArray Q' fuel listed A w)
  (hlen:ts.length<=all.length):∀ (fuel:Nat) (listed:Array Bool) (A:Act) (w:World) (V:Rho),listed.size=all.length->(∀ i,ts.length<=i->listed.getD i false=false)->cnt all.length listed=fuel ->
  Closed all (fun k=>listed.getD k false=true) ->
  x9 n0 N G w0 ρ0 e0 mk σ0 ts (fun i=>listed.getD i false) A w V->wpAnyIn (fen ρ0 rd) 0 P .any all.toArray Q' fuel listed A w:=by
 intro fuel
 induction fuel with
 |zero =>
  intro listed A w V F J d E hd
  have S:∀ i<all.length,listed.getD i false=true:=by
   intro i hi
   unfold cnt at d
   have:=(List.countP_eq_zero.1 d) i (oU hi)
   simp only [eL,Bool.not_eq_false] at this
   rw [getD_lt oO false true];exact this
  have hm:ts.length=all.length:=by
   rcases eV ts.length all.length with h|h
   ·have h1:=S ts.length h
    rw [J ts.length (aD _)] at h1;cases h1
   ·omega
  exact hfin A w V 0 listed F (fun i hi=>by rw [S i hi];simp;omega) hd oO
 |succ fuel ih =>
  intro listed A w V F J d E hd
  by_cases a:∀ i<ts.length,listed.getD i false=true
  ·have H:∀ i<all.length,listed.getD i false=decide (i<ts.length):=fun i hi=>by
    by_cases y:i<ts.length
    ·rw [a i y];simp [y]
    ·rw [J i oO];simp [y]
   refine hfin A w V (fuel+1) listed F H hd ?_
   rw [<- d]
   exact JB hlen fun i hi=>by rw [getD_lt oO true false];exact H i hi
  ·refine ⟨fun hr=>?_,fun i hr=>?_⟩
   ·
    exfalso
    have X:∃ i,i<ts.length/\listed.getD i false=false:=by
     simp only [Classical.not_forall] at a
     obtain ⟨i,hi,hn⟩:=a
     exact ⟨i,hi,by simpa using hn⟩
    have C:∃ i,(i<ts.length/\listed.getD i false=false)/\∀ k<i,listed.getD k false=true:=by
     obtain ⟨i,hi⟩:=X
     induction i using Nat.strongRecOn with
     |_ i ih2 =>
      by_cases n:∃ k,k<i/\listed.getD k false=false
      ·obtain ⟨k,hk,ZZ⟩:=n;exact ih2 k hk ⟨oO,ZZ⟩
      ·refine ⟨i,hi,fun k hk=>?_⟩
       cases hc:listed.getD k false with
       |true=>rfl
       |false=>exact absurd ⟨k,hk,hc⟩ n
    obtain ⟨i,⟨hi,K⟩,n⟩:=C
    have:i ∈ Region.ready .any all.toArray listed:=mem_ready.2 ⟨by rw [getD_lt oO true false];exact K,ts[i].o,by rw [bR];exact hall i hi,
     fun e he hb=>n _ ((draw_parts hchk (hall i hi)).2.1 e he hb)⟩
    rw [hr] at this;cases this
   ·obtain ⟨K,o,ho,_⟩:=mem_ready.1 hr
    rw [bR] at ho
    have Uq:i<all.length:=(List.getElem?_eq_some_iff.1 ho).1
    have I:listed.getD i false=false:=by rw [getD_lt oO false true];exact K
    have y:i<ts.length:=by
     rcases eV i ts.length with h|h
     ·exact h
     ·exfalso
      apply a
      intro k hk
      rcases (draw_parts hchk ho).2.2.2 k _ oO (hall k hk) with h'|⟨_,h',_⟩
      ·exact h' (fun k=>listed.getD k false=true) E fun k hk=>iM hr ho hk
      ·omega
    have Vv:o=ts[i].o:=by have:=hall i y;rw [ho] at this;exact Option.some.inj this
    subst Vv
    have hw:∀ j,waits ts[i].o j=true->listed.getD j false=true:=fun j hj=>iM hr ho hj
    have z:=fun (j:Nat) (hj:j<ts.length)=>Jy ts e0 htr j hj
    obtain ⟨h1,h2,h3,h4,h5,h6⟩:=z i y
    have Q:∀ (j:Nat) (hj:j<ts.length),rM σ0.length ts[j].ns:=fun j hj=>(z j hj).2.2.2.2.1
    have L:∀ (j:Nat) (hj:j<ts.length) (i:Nat) (hi:i<j),(∃ D:Nat->Prop,Closed all D/\D j/\¬ D i)->∀ (m:Nat) (V ρ':Rho) (v':Value),gJ m V ts[j].v v' ->
      (∀ q,q < σ0.length+(eG (ts.take i)).length\/σ0.length+(eG (ts.take i)).length+ts[i].ns.length<=q->ρ' q=V q)->gJ m ρ' ts[j].v v':=fun j hj i hij hD m V ρ' v' hv hq=>by
     by_cases T:ts[i].ns=[]
     ·exact hv.mono (aD _) fun q _=>hq q (by rw [T];simp;omega)
     ·have M:((ts.take j)[i]'(by simp;omega)).ns ≠ []:=by simpa using T
      obtain ⟨n1,n2,e1,e2⟩:=qU (ts.take j) 0 [] i (by simp;omega) M
      rw [aR] at e1
      have e3:iI n1=eG (ts.take i):=by
       rw [e2,eA,fo oO];simp [iI]
      refine (z j hj).2.2.2.2.2 n1 i _ n2 e1 hD m V ρ' v' hv fun q R=>hq q ?_
      rw [e3] at R
      simpa using R
    have r:=fun {t:Nat} (ht:t ∈ ts[i].o.looksAt all.toArray) {v:Value} (hv:Env.get (l7 (ts.take i) e0) t=some v) =>
     dinv_sees hd hall hchk y I hw E ht hv
    have s:Region.wanted ts[i].o (yielded all.toArray A.tmps)=ts[i].run:=by
     refine zW h2 fun g want hg t ht v hv=>?_
     obtain ⟨v',g1,g2⟩:=r (t:=t) (by
      unfold Oper.looksAt
      rw [hg]
      refine List.mem_append_right _ ?_
      simp only [bR]
      rw [ht];simp) hv
     exact ⟨_,_,v',g1,g2⟩
    have p:=DV (i:=i) (W:=bV ts[i].o.after) hd.sim hcl Q hw
    have after:∀ (ρ':Rho) (v':Value) (w':World),(∀ k < σ0.length+(eG (ts.take i)).length,ρ' k=V k)->gJ (σ0.length+((eG (ts.take i)).length+ts[i].ns.length)) ρ' ts[i].v v' ->
      Sim (oth G V σ0 ts (fun i=>listed.getD i false) (bV ts[i].o.after)) w ρ' (σ0++maskN (ts.take i) 0 (bV ts[i].o.after)++ts[i].ns) w' ->
      wpAnyIn (fen ρ0 rd) 0 P .any all.toArray Q' fuel (listed.setIfInBounds i true) (A.put ts[i].o.dst v') w':=by
     intro ρ' v' w' ha hv O
     have a0:=dinv_step hd hall hchk hn0 hmk Q L y I E h1 ha hv O
     refine ih _ _ _ _ (oU F) (fun k hk=>?_) ?_ (fun j o' hj B k hk=>?_) (iZ (fun k hk=>?_) a0)
     ·rw [iD oO,if_neg oO];exact J k hk
     ·have:=qW Uq F K;omega
     ·show (listed.setIfInBounds i true).getD k false=true
      have B:(listed.setIfInBounds i true).getD j false=true:=B
      rw [iD oO] at B ⊢
      split
      ·rfl
      ·split at B
       ·rename_i Y;subst Y
        rw [ho] at hj;cases hj
        exact hw k hk
       ·exact E j o' hj B k hk
     ·simp only [jW];rw [iD oO]
    unfold wpOpIn
    simp only [bR,ho]
    cases hrun:ts[i].run with
    |true =>
     rw [if_pos (by rw [s,hrun])]
     have a1:=h3 hrun
     rw [<- lW (rd:=rd) (ρ':=V) (V:=ρ0) fun l hl=>hd.ag l (lQ hrd l hl)]
     refine a1 ts[i].o rfl rfl (oth G V σ0 ts (fun i=>listed.getD i false) (bV ts[i].o.after)) w V A w (fun l hl=>by have:=lQ hrd l hl;simp;omega) p (fun x hx u hu=>?_) _ _ ?_
     ·cases x with
      |tmp t =>
       obtain ⟨v',g1,g2⟩:=r (t:=t) (fI _ (List.mem_filterMap.2 ⟨.tmp t,by simpa using hx,rfl⟩)) hu
       rw [bA,fC]
       simpa [Act.eval,g1] using g2
      |const c =>
       simp only [aT] at hu
       cases hp:plain c <;> simp [hp] at hu
       subst hu;exact bF c hp
      |func f=>simp only [aT,Option.some.injEq] at hu;subst hu;exact .func f #[] #[] #[] #[] rfl rfl (fun i h=>by simp at h) (fun i h=>by simp at h)
      |global g=>simp [aT] at hu
     ·intro ρ' v' w' hv hle ha O
      rw [lW (rd:=rd) (ρ':=V) (V:=ρ0) fun l hl=>hd.ag l (lQ hrd l hl)]
      refine after ρ' v' w' (fun k hk=>ha k (by rw [bA,fC];exact hk)) ?_ O
      rw [bA,bA,fC,cF] at hv;exact hv
    |false =>
     rw [if_neg (by rw [s,hrun];simp)]
     obtain ⟨g1,g2⟩:=h4 hrun
     refine ⟨fun f _=>lV _ _ _,?_⟩
     have:=after V undef w (fun _ _=>rfl) (by rw [g1];exact bF _ rfl) (by rw [g2];simpa using p)
     exact this
theorem tail_any {F:Fence} (hF:∀ f,F.fn f) {m:Nat} {Q':Exit->Act->World->Prop} (hchk:drawOk all m=true):∀ (rest:List Oper) (k fuel:Nat) (listed:Array Bool) (A:Act) (w:World),
  m<=k->rest=all.drop k->fuel=all.length - k->listed.size=all.length->(∀ i<all.length,listed.getD i false=decide (i<k)) ->
  wpL F 0 P all.toArray Q' rest A w->wpAnyIn F 0 P .any all.toArray Q' fuel listed A w
 |[],k,fuel,listed,A,w,hmk,hr,hf,hsz,hp,h=>by
  have hk:all.length<=k:=by
   have:=congrArg List.length hr
   simp at this;omega
  refine wpAnyIn_done (List.eq_nil_iff_forall_not_mem.2 fun j hj=>?_) h fuel
  obtain ⟨h1,o,ho,_⟩:=mem_ready.1 hj
  rw [bR] at ho
  have d:=(List.getElem?_eq_some_iff.1 ho).1
  have:=hp j d
  rw [getD_lt (d':=true) oO,h1] at this
  simp at this;omega
 |o::rest,k,fuel,listed,A,w,hmk,hr,hf,hsz,hp,h=>by
  have hk:k<all.length:=by
   rcases eV k all.length with h|h
   ·exact h
   ·rw [List.drop_eq_nil_of_le h] at hr;cases hr
  have ho:all[k]?=some o:=by
   have:=congrArg (fun l:List Oper=>l[0]?) hr
   simpa using this.symm
  have s:rest=all.drop (k+1):=by
   have:=congrArg List.tail hr
   simpa using this
  obtain ⟨fuel,rfl⟩:∃ f,fuel=f+1:=⟨fuel - 1,oO⟩
  refine ⟨fun hn=>?_,fun j hj=>?_⟩
  ·exfalso
   have:k ∈ Region.ready .any all.toArray listed:=mem_ready.2 ⟨by rw [getD_lt (d':=false) oO,hp k hk];simp,o,by rw [bR];exact ho,
    fun e he hb=>by have:=(draw_parts hchk ho).2.1 e he hb;rw [hp _ oO];simpa using this⟩
   rw [hn] at this;cases this
  ·obtain ⟨h1,oj,c,_⟩:=mem_ready.1 hj
   rw [bR] at c
   have d:=(List.getElem?_eq_some_iff.1 c).1
   have hkj:¬ j<k:=by
    intro g
    have:=hp j d
    rw [getD_lt (d':=true) oO,h1] at this
    simp at this;omega
   have p:j=k:=by
    rcases eV k j with g|hge
    ·exfalso
     rcases (draw_parts hchk c).2.2.2 k _ g ho with h'|⟨h',_,_⟩
     ·have:=h' (fun q=>listed.getD q false=true) (fun q o' hq r i hi=>by
       have h1:=waits_lt hchk hq hi
       have t:=(List.getElem?_eq_some_iff.1 hq).1
       have h2:=hp q t
       rw [r] at h2
       have h3:q<k:=of_decide_eq_true h2.symm
       show listed.getD i false=true
       rw [hp i oO];simp;omega) fun q hq=>iM hj c hq
      simp only [hp k hk] at this;simp at this
     ·omega
    ·omega
   subst p
   have a:∀ A w,wpL F 0 P all.toArray Q' rest A w->wpAnyIn F 0 P .any all.toArray Q' fuel (listed.setIfInBounds j true) A w:=fun A w h =>
    tail_any hF hchk rest (j+1) fuel _ A w oO s oO (oU hsz) (fun i hi=>by
     rw [iD oO]
     split
     ·rename_i n;subst n;simp
     ·rename_i n;rw [hp i hi];simp only [decide_eq_decide];omega) h
   unfold wpOpIn
   simp only [bR,ho]
   simp only [wpL] at h
   split
   ·rename_i hw;rw [if_pos hw] at h
    exact Oper.wpIn_mono a h
   ·rename_i hw;rw [if_neg hw] at h
    exact ⟨fun f _=>hF f,a _ _ h⟩
theorem qE:∀ (ts:List Tr) (k:Nat),maskN ts k (fun _=>false)=hide (eG ts)
 |[],_=>rfl
 |t::ts,k=>by
  have:=qE ts (k+1)
  simp only [maskN,eG,cG,ej] at this ⊢
  rw [this];simp [hide]
theorem kL:∀ (ts:List Tr) (k:Nat),maskN ts k (fun _=>true)=eG ts
 |[],_=>rfl
 |t::ts,k=>by
  have:=kL ts (k+1)
  simp only [maskN,eG,cG,ej] at this ⊢
  rw [this];simp
theorem zX {G:Nat->Prop} {w0 w:World} {V:Rho} (hs:Sim G w0 V σ0 w) (h:Heap):Sim G w0 V (σ0++hide h) w where
 os:=hs.os
 tape:=hs.tape
 output:=hs.output
 size:=hs.size
 fgn:=hs.fgn
 obj i o hi:=by
  by_cases a:i < σ0.length
  ·rw [iL a] at hi
   exact nP (hs.obj i o hi) oS (fun _ _=>rfl) (fun _ h=>h) (fun _ _ _ _ h=>h) (fun _ _ _ h=>h)
  ·rw [bE oO] at hi
   simp only [hide,cJ,fz] at hi
   obtain ⟨_,_,rfl⟩:=hi
   trivial
 inj i j oi oj hi hj hoi hoj hij:=by
  have c:∀ (k:Nat) (o:aC),(σ0++hide h)[k]?=some o->o.owned->σ0[k]?=some o:=by
   intro k o hk ho
   by_cases a:k < σ0.length
   ·rw [iL a] at hk;exact hk
   ·rw [bE oO] at hk
    simp only [hide,cJ,fz] at hk
    obtain ⟨_,_,rfl⟩:=hk
    exact ho.elim
  exact hs.inj i j oi oj (c i oi hi hoi) (c j oj hj hoj) hoi hoj hij
theorem qF {G:Nat->Prop} {w0 w w':World} {V:Rho} {U:Heap} (hs:Sim G w0 V U w) (ho:w'.os=w.os) (ht:w'.tape=w.tape) (hu:w'.output=w.output) (hh:w'.heap=w.heap):Sim G w0 V U w' where
 os:=ho.trans hs.os
 tape:=ht.trans hs.tape
 output:=hu.trans hs.output
 size:=by rw [hh];exact hs.size
 fgn:=by rw [hh];exact hs.fgn
 obj i o hi:=by
  cases w;cases w';simp only at hh ho ht hu;subst hh
  exact hs.obj i o hi
 inj:=hs.inj
end
theorem eY {P:Program} {n0 N:Nat} {rd:Option Nat} {Q:Post} {e:Env} {mk:List Nat} {U:Heap} {id:Nat} {l:List Oper} (hm:P.follows .mixedOrders=true) (hrd:lJ rd n0=true)
  (h:bK P N rd l 0 l e U [] (fun e' news tl=>drawOk l (l.length - tl.length)=true/\dA P n0 N rd l tl (Q .normal) e' mk (U++gV (fun _=>true) news))):bJ P n0 N rd (.region id l.toArray true) Q e mk U:=by
 intro G w0 ρ0 A w hi
 obtain ⟨h0,V,ha,hs,he⟩:=hi
 refine wpIn_region_any hm ?_
 obtain ⟨ts,tl,g,B,a,hK⟩:=oz l 0 e U [] _ h
 obtain ⟨fr,r⟩:∃ fr,ts.map (·.o)=fr:=⟨_,rfl⟩
 rw [r] at g
 have hl:l=fr++tl:=g.symm
 have g:=r
 have C:fr.length=l.length - tl.length:=by rw [hl];simp
 rw [lq,kL] at hK
 simp only [gV,cY,e7,eM] at hK
 have n:fr.length=ts.length:=by rw [<- g];simp
 rw [<- C] at a
 have q:∀ (i:Nat) (hi:i<ts.length),l[i]?=some ts[i].o:=by
  intro i hi
  rw [hl,bO oO,<- g];simp [hi]
 have x:∀ (i:Nat) (o:aC),U[i]?=some o->fV U.length o:=fun i o hi=>jg (hs.obj i o hi)
 have c:∀ i,(Array.replicate l.toArray.size false).getD i false=false:=fun i=>by
  simp only [eN,eZ];split <;> rfl
 rw [n] at a
 refine free_any (e0:=e) (mk:=mk) (σ0:=U) (ρ0:=ρ0) (G:=G) (w0:=w0) (N:=N) (n0:=n0) (ts:=ts) hrd q a h0 he.mkb x B ?_ (by rw [hl];simp;omega) _ _ _ _ V oS (fun i _=>c i) ?_ ?_ ?_
 ·intro A' w' ρ' p d y hp hd hf
  refine tail_any (lV ρ0 rd) a tl ts.length p d A' w' (aD _) (by rw [hl,<- n];simp) hf y hp ?_
  have f:=iZ (L':=fun _=>true) (fun k hk=>by have:=hp k (by rw [hl];simp;omega);rw [this];simpa using hk) hd
  have m:=f.sim
  rw [kL] at m
  refine hK G w0 ρ0 A' w' ⟨by simp;omega,ρ',fun i hi=>f.ag i hi |>.trans rfl,m,⟨f.sz,fun t v hv=>?_⟩,f.mks,fun i hi=>by have:=he.mkb i hi;simp;omega⟩ _ fun e' z σ' A' w' hk u=>⟨e',z,σ',hk,u⟩
  rcases l9 ts e t v hv with ⟨j,hj,h1,h2,h3⟩|⟨h1,h2⟩
  ·obtain ⟨v',g1,g2⟩:=f.new j hj rfl t h1 fun k hk s _=>h3 k hk s
   refine ⟨v',g1,?_⟩
   rw [<- h2]
   have:=uF hj
   exact g2.mono (by simp;omega) fun _ _=>rfl
  ·obtain ⟨v',g1,g2⟩:=f.old t v h1 fun k hk _=>h2 k hk
   exact ⟨v',g1,g2.mono oS fun _ _=>rfl⟩
 ·unfold cnt
  rw [List.countP_eq_length.2]
  ·simp
  ·intro i hi
   rw [getD_lt (d':=false) (oU hi),c];rfl
 ·intro j o _ hL
  rw [c] at hL;cases hL
 ·refine iZ (L:=fun _=>false) (fun k _=>(c k).symm) ⟨ha,?_,he.tmps.1,he.mks,fun t v hv _=>?_,fun k hk hL=>by cases hL⟩
  ·rw [qE]
   exact qF (zX hs _) rfl rfl rfl rfl
  ·exact he.tmps.2 t v hv
section
variable {P:Program} {N:Nat} {rd:Option Nat} {e:Env} {σ0:Heap} {news:List (Nat×Heap)} {K:Env->List (Nat×Heap)->List Oper->Prop} {all rest:List Oper} {k:Nat} {d:Option Nat} {op:Op} {ty:TypeId} {pos:String} {after:Array Edge} {g:Option (Nat×Bool)}
theorem fU (h:bK P N rd all k (⟨d,op,ty,pos,after,none⟩::rest) e σ0 news K):bK P N rd all k (⟨d,op,ty,pos,after,none⟩::rest) e σ0 news K:=h
theorem fG {j:Nat} {b:Bool} (h:bK P N rd all k (⟨d,op,ty,pos,after,some (j,b)⟩::rest) e σ0 news K):bK P N rd all k (⟨d,op,ty,pos,after,some (j,b)⟩::rest) e σ0 news K:=h
theorem nH {x:Operand} (h:bK P N rd all k (⟨d,.move x,ty,pos,after,g⟩::rest) e σ0 news K):bK P N rd all k (⟨d,.move x,ty,pos,after,g⟩::rest) e σ0 news K:=h
theorem Bf {x:Operand} (h:bK P N rd all k (⟨d,.assign x,ty,pos,after,g⟩::rest) e σ0 news K):bK P N rd all k (⟨d,.assign x,ty,pos,after,g⟩::rest) e σ0 news K:=h
theorem fFA {t f:Nat} {x:Operand} (h:bK P N rd all k (⟨d,.fieldAddr t x f,ty,pos,after,g⟩::rest) e σ0 news K):bK P N rd all k (⟨d,.fieldAddr t x f,ty,pos,after,g⟩::rest) e σ0 news K:=h
theorem eU {t:Nat} {x:Operand} (h:bK P N rd all k (⟨d,.load t x,ty,pos,after,g⟩::rest) e σ0 news K):bK P N rd all k (⟨d,.load t x,ty,pos,after,g⟩::rest) e σ0 news K:=h
theorem Fp {o:BinOp} {t t':Nat} {x y:Operand} (h:bK P N rd all k (⟨d,.binOp o t x y t',ty,pos,after,g⟩::rest) e σ0 news K):bK P N rd all k (⟨d,.binOp o t x y t',ty,pos,after,g⟩::rest) e σ0 news K:=h
theorem fAdd {t t':Nat} {x y:Operand} (h:bK P N rd all k (⟨d,.binOp .add t x y t',ty,pos,after,g⟩::rest) e σ0 news K):bK P N rd all k (⟨d,.binOp .add t x y t',ty,pos,after,g⟩::rest) e σ0 news K:=h
theorem fSub {t t':Nat} {x y:Operand} (h:bK P N rd all k (⟨d,.binOp .sub t x y t',ty,pos,after,g⟩::rest) e σ0 news K):bK P N rd all k (⟨d,.binOp .sub t x y t',ty,pos,after,g⟩::rest) e σ0 news K:=h
theorem fMul {t t':Nat} {x y:Operand} (h:bK P N rd all k (⟨d,.binOp .mul t x y t',ty,pos,after,g⟩::rest) e σ0 news K):bK P N rd all k (⟨d,.binOp .mul t x y t',ty,pos,after,g⟩::rest) e σ0 news K:=h
theorem afb {t:Nat} {x:Operand} (h:bK P N rd all k (⟨d,.unOp .not t x,ty,pos,after,g⟩::rest) e σ0 news K):bK P N rd all k (⟨d,.unOp .not t x,ty,pos,after,g⟩::rest) e σ0 news K:=h
theorem fNeg {t:Nat} {x:Operand} (h:bK P N rd all k (⟨d,.unOp .neg t x,ty,pos,after,g⟩::rest) e σ0 news K):bK P N rd all k (⟨d,.unOp .neg t x,ty,pos,after,g⟩::rest) e σ0 news K:=h
theorem DW {x y z:Operand} (h:bK P N rd all k (⟨d,.pick x y z,ty,pos,after,g⟩::rest) e σ0 news K):bK P N rd all k (⟨d,.pick x y z,ty,pos,after,g⟩::rest) e σ0 news K:=h
theorem zY {t:Nat} (h:bK P N rd all k (⟨d,.alloc t,ty,pos,after,g⟩::rest) e σ0 news K):bK P N rd all k (⟨d,.alloc t,ty,pos,after,g⟩::rest) e σ0 news K:=h
theorem ahB {t f:Nat} {x:Operand} (h:bK P N rd all k (⟨d,.field t x f,ty,pos,after,g⟩::rest) e σ0 news K):bK P N rd all k (⟨d,.field t x f,ty,pos,after,g⟩::rest) e σ0 news K:=h
theorem L9 {x:Operand} (h:bK P N rd all k (⟨d,.nilCheck x,ty,pos,after,g⟩::rest) e σ0 news K):bK P N rd all k (⟨d,.nilCheck x,ty,pos,after,g⟩::rest) e σ0 news K:=h
theorem fIA {t:Nat} {x y:Operand} (h:bK P N rd all k (⟨d,.indexAddr t x y,ty,pos,after,g⟩::rest) e σ0 news K):bK P N rd all k (⟨d,.indexAddr t x y,ty,pos,after,g⟩::rest) e σ0 news K:=h
theorem Sj {as:Array Operand} {ts:Array TypeId} (h:bK P N rd all k (⟨d,.call { callee:=.builtin .len,args:=as,argTypes:=ts },ty,pos,after,g⟩::rest) e σ0 news K):bK P N rd all k (⟨d,.call { callee:=.builtin .len,args:=as,argTypes:=ts },ty,pos,after,g⟩::rest) e σ0 news K:=h
theorem fMax {as:Array Operand} {ts:Array TypeId} (h:bK P N rd all k (⟨d,.call { callee:=.builtin .max,args:=as,argTypes:=ts },ty,pos,after,g⟩::rest) e σ0 news K):bK P N rd all k (⟨d,.call { callee:=.builtin .max,args:=as,argTypes:=ts },ty,pos,after,g⟩::rest) e σ0 news K:=h
theorem fMin {as:Array Operand} {ts:Array TypeId} (h:bK P N rd all k (⟨d,.call { callee:=.builtin .min,args:=as,argTypes:=ts },ty,pos,after,g⟩::rest) e σ0 news K):bK P N rd all k (⟨d,.call { callee:=.builtin .min,args:=as,argTypes:=ts },ty,pos,after,g⟩::rest) e σ0 news K:=h
theorem fConv {t u:Nat} {x:Operand} (h:bK P N rd all k (⟨d,.convert t u x,ty,pos,after,g⟩::rest) e σ0 news K):bK P N rd all k (⟨d,.convert t u x,ty,pos,after,g⟩::rest) e σ0 news K:=h
theorem fMkF {f:Fn} {as bs:Array Operand} (h:bK P N rd all k (⟨d,.makeFunc f as bs,ty,pos,after,g⟩::rest) e σ0 news K):bK P N rd all k (⟨d,.makeFunc f as bs,ty,pos,after,g⟩::rest) e σ0 news K:=h
theorem qX {x:Operand} {as:Array Operand} {ts:Array TypeId} (h:bK P N rd all k (⟨d,.call { callee:=.value x,args:=as,argTypes:=ts },ty,pos,after,g⟩::rest) e σ0 news K):bK P N rd all k (⟨d,.call { callee:=.value x,args:=as,argTypes:=ts },ty,pos,after,g⟩::rest) e σ0 news K:=h
theorem JC {t:Nat} {ps:Array (Nat×Operand)} (h:bK P N rd all k (⟨d,.build t ps,ty,pos,after,g⟩::rest) e σ0 news K):bK P N rd all k (⟨d,.build t ps,ty,pos,after,g⟩::rest) e σ0 news K:=h
theorem Yl {t n:Nat} {ps:Array (Nat×Operand)} (h:bK P N rd all k (⟨d,.buildSlice t n ps,ty,pos,after,g⟩::rest) e σ0 news K):bK P N rd all k (⟨d,.buildSlice t n ps,ty,pos,after,g⟩::rest) e σ0 news K:=h
theorem abR {t:Nat} {x:Operand} {a b c:Option Operand} (h:bK P N rd all k (⟨d,.slice t x a b c,ty,pos,after,g⟩::rest) e σ0 news K):bK P N rd all k (⟨d,.slice t x a b c,ty,pos,after,g⟩::rest) e σ0 news K:=h
end
def rO (place:Nat->Option (Nat×Nat)) (cs:List Value):List (Nat×Value)->Option (List Value)
 |[]=>some cs
 |(i,v)::rest=>match place i with
  |none=>none
  |some (off,size)=>bif Nat.beq (dM v).length size && Nat.ble (off+(dM v).length) cs.length then rO place (splice cs off (dM v)) rest else none
theorem foldl_set:∀ (l:List Value) (off k:Nat) (cs:Array Value),((l.zipIdx k).foldl (fun cs x=>cs.setIfInBounds (off+x.2) x.1) cs).size=cs.size /\
  ∀ i,((l.zipIdx k).foldl (fun cs x=>cs.setIfInBounds (off+x.2) x.1) cs)[i]?=if off+k<=i/\i<off+k+l.length/\i<cs.size then l[i - (off+k)]? else cs[i]?
 |[],off,k,cs=>⟨rfl,fun i=>by rw [if_neg (by simp;omega)];rfl⟩
 |v::l,off,k,cs=>by
  obtain ⟨h1,h2⟩:=foldl_set l off (k+1) (cs.setIfInBounds (off+k) v)
  simp only [List.zipIdx_cons,List.foldl_cons]
  refine ⟨by rw [h1];simp,fun i=>?_⟩
  rw [h2 i]
  simp only [Array.size_setIfInBounds,dE]
  by_cases hi:i=off+k
  ·subst hi
   rw [if_neg oO]
   by_cases hs:off+k<cs.size
   ·rw [if_pos oO,fp hs];simp
   ·rw [if_neg oO];simp [hs]
  ·by_cases hc:off+(k+1)<=i/\i<off+(k+1)+l.length/\i<cs.size
   ·rw [if_pos hc,if_pos oO]
    rw [show i - (off+k)=(i - (off+(k+1)))+1 from by omega];simp
   ·rw [if_neg hc,if_neg oO,e8 oO]
theorem VH {n:Nat} {V:Rho} {cs vs:List Value} {rc rs:Array Value} {off:Nat} (hle:off+vs.length<=cs.length) (h1:lU n V cs.toArray rc) (h2:lU n V vs.toArray rs) :
  lU n V (splice cs off vs).toArray (rs.zipIdx.foldl (fun cs (x:Value×Nat)=>cs.setIfInBounds (off+x.2) x.1) rc):=by
 have e1:cs.length=rc.size:=by simpa using h1.1
 have e2:vs.length=rs.size:=by simpa using h2.1
 have ef:rs.zipIdx.foldl (fun cs (x:Value×Nat)=>cs.setIfInBounds (off+x.2) x.1) rc=(rs.toList.zipIdx 0).foldl (fun cs x=>cs.setIfInBounds (off+x.2) x.1) rc:=by
  rw [<- Array.foldl_toList,Array.toList_zipIdx]
 rw [ef]
 obtain ⟨g1,g2⟩:=foldl_set rs.toList off 0 rc
 refine ⟨by rw [g1,<- e1,fm];exact pU hle,fun i hi c=>?_⟩
 simp only [fm,pU hle] at hi
 have h3:=g2 i
 rw [fx c] at h3
 simp only [cV,Array.length_toList] at h3
 by_cases hc:off<=i/\i<off+rs.size/\i<rc.size
 ·rw [if_pos hc,Array.getElem?_toList,fx oO] at h3
  rw [Option.some.inj h3]
  have:(splice cs off vs)[i]?=some (vs[i - off]'oO):=by
   unfold splice
   rw [cD,bE (by simp;omega),bO (by simp;omega)]
   simp only [eo]
   rw [cA oO]
   congr 2;omega
  obtain ⟨_,h4⟩:=List.getElem?_eq_some_iff.1 this
  simp only [fL,h4]
  exact h2.2 (i - off) (by simp;omega) oO
 ·rw [if_neg hc,fx oO] at h3
  rw [Option.some.inj h3]
  have:(splice cs off vs)[i]?=some (cs[i]'hi):=by
   unfold splice
   by_cases a:i<off
   ·rw [cD,bO (by simp;omega),List.getElem?_take_of_lt a,cA hi]
   ·rw [bE (by simp;omega)]
    simp only [bA,eo,eJ]
    rw [cA oO]
    congr 2;omega
  obtain ⟨_,h4⟩:=List.getElem?_eq_some_iff.1 this
  simp only [fL,h4]
  exact h1.2 i (oU hi) oO
theorem vH {n:Nat} {V:Rho} {place:Nat->Option (Nat×Nat)}:∀ (ps ps':List (Nat×Value)) (cs cs2:List Value) (rc:Array Value),lU n V cs.toArray rc->ps.length=ps'.length ->
  (∀ (k:Nat) (h:k<ps.length) (h':k<ps'.length),ps[k].1=ps'[k].1/\gJ n V ps[k].2 ps'[k].2)->rO place cs ps=some cs2->∃ rc2,Instr.fill place rc ps'=some rc2/\lU n V cs2.toArray rc2
 |[],[],cs,cs2,rc,h,_,_,hf=>⟨rc,rfl,by simp only [rO,Option.some.injEq] at hf;subst hf;exact h⟩
 |[],_::_,_,_,_,_,hl,_,_=>by simp at hl
 |_::_,[],_,_,_,_,hl,_,_=>by simp at hl
 |(i,v)::ps,(i',v')::ps',cs,cs2,rc,h,hl,hp,hf=>by
  obtain ⟨hi,hv⟩:=hp 0 oS oS
  simp only [dz] at hi hv
  subst hi
  simp only [rO] at hf
  cases hpl:place i with
  |none=>simp [hpl] at hf
  |some os =>
   obtain ⟨e,size⟩:=os
   simp only [hpl] at hf
   cases hb:(Nat.beq (dM v).length size && Nat.ble (e+(dM v).length) cs.length) <;> simp only [hb,cond_true,cond_false,reduceCtorEq] at hf
   simp only [aE] at hb
   have hsz:=aM hb.1
   have d:=cC hb.2
   have a:=kJ hv
   have e1:(dM v).length=v'.cells.size:=by simpa using a.1
   have e2:cs.length=rc.size:=by simpa using h.1
   obtain ⟨rc2,g1,g2⟩:=vH ps ps' _ cs2 _ (VH d h a) (oU hl) (fun k hk c=>hp (k+1) (oU hk) (oU c)) hf
   refine ⟨rc2,?_,g2⟩
   simp only [Instr.fill,hpl]
   rw [if_neg (by simp;omega)]
   exact g1
def Ym (P:Program) (t:TypeId):Option (Value×List (Nat×Nat)) :=
 match P.info? t,P.underlying t with
 |some it,some (.struct fields)=>match it.zero,fields.toList.mapM (fun f=>(P.info? f.type).map fun i=>(f.offset,i.size)) with
  |some z,some places=>some (z,places)
  |_,_=>none
 |_,_=>none
class Pls (P:Program) (t:TypeId) (z:outParam Value) (ps:outParam (List (Nat×Nat))):Prop where
 h:Ym P t=some (z,ps)
theorem Pls.built {P:Program} {t:TypeId} {z:Value} {ps:List (Nat×Nat)} (h:Pls P t z ps) (parts:List (Nat×Value)):P.built t parts=Instr.fill (ps.toArray[·]?) z.cells parts:=by
 have:=h.h
 unfold Ym at this
 unfold Program.built
 split at this
 ·rename_i it fields h1 h2
  split at this
  ·rename_i z' ps' h3 h4
   simp only [Option.some.injEq,Prod.mk.injEq] at this
   obtain ⟨rfl,rfl⟩:=this
   simp [h1,h2,h3,h4]
  ·simp at this
 ·simp at this
def tJ (e:Env):List (Nat×Operand)->Option (List (Nat×Value))
 |[]=>some []
 |(i,x)::l=>match aT e x,tJ e l with
  |some v,some vs=>some ((i,v)::vs)
  |_,_=>none
theorem uQ {n:Nat} {V:Rho} {A:Act} {e:Env}:∀ {l:List (Nat×Operand)} {vs:List (Nat×Value)},(∀ p ∈ l,∀ u,aT e p.2=some u->gJ n V u (A.eval p.2))->tJ e l=some vs ->
  vs.length=(l.map fun p=>(p.1,A.eval p.2)).length/\∀ (k:Nat) (h:k<vs.length) (h':k<(l.map fun p=>(p.1,A.eval p.2)).length),vs[k].1=(l.map fun p=>(p.1,A.eval p.2))[k].1/\gJ n V vs[k].2 (l.map fun p=>(p.1,A.eval p.2))[k].2
 |[],vs,_,h=>by simp only [tJ,Option.some.injEq] at h;subst h;exact ⟨rfl,fun k h=>by simp at h⟩
 |(i,x)::l,vs,hx,h=>by
  simp only [tJ] at h
  cases hv:aT e x with
  |none=>simp [hv] at h
  |some v =>
   cases hvs:tJ e l with
   |none=>simp [hv,hvs] at h
   |some us =>
    simp only [hv,hvs,Option.some.injEq] at h
    subst h
    obtain ⟨g1,g2⟩:=uQ (fun y hy=>hx y (by simp [hy])) hvs
    refine ⟨by simp at g1 ⊢;exact g1,fun k hk a=>?_⟩
    cases k with
    |zero=>exact ⟨rfl,hx (i,x) oS v hv⟩
    |succ k=>exact g2 k (oU hk) (oU a)
section ops
variable {P:Program} {rd:Option Nat} {ty:TypeId} {e:Env} {U:Heap} {x y a b:Operand} {v u:Value}
theorem pV {t:TypeId} {z:Value} {pl:List (Nat×Nat)} {ps:List (Nat×Operand)} {vs:List (Nat×Value)} {cs:List Value} [ht:Pls P t z pl] (hz:plain z=true) (h:tJ e ps=some vs)
  (hf:rO (pl.toArray[·]?) (dM z) vs=some cs):bY P rd (.build t ps.toArray) ty e U (.agg cs.toArray) U :=
 dh oS fun op ho _ G w0 V A w hs hx=>by
  obtain ⟨g1,g2⟩:=uQ (A:=A) (n:=U.length) (V:=V) (fun p hp u hu=>hx p.2 (by simp only [Op.operands];simp;exact ⟨p.1,hp⟩) u hu) h
  obtain ⟨rc,g3,g4⟩:=vH vs _ _ _ _ (kJ (bF (n:=U.length) (V:=V) z hz)) g1 g2 hf
  refine ⟨V,.agg rc,w,.inl ?_,.agg _ _ g4.1 g4.2,aD _,fun _ _=>rfl,hs⟩
  have:=run_build (P:=P) w t (ps.toArray.map fun p=>(p.1,A.eval p.2)) rc (by rw [ht.built];simpa using g3)
  simp only [List.map_toArray] at this
  simp [execOp,ho,this]
theorem Ny {t k size bytes el esize ebytes:Nat} {eagg:Bool} {z ez:Value} [ht:Ty P t size true z bytes] [ha:Ar P t k el] [he:Ty P el esize eagg ez ebytes] (hz:plain z=true) :
  bY P rd (.build t #[]) ty e U (.agg (dM z).toArray) U :=
 dh oS fun op ho _ G w0 V A w hs hx=>by
  have hr:=kJ (bF (n:=U.length) (V:=V) z hz)
  obtain ⟨it,h1,h2,h3,_⟩:=ht.info
  obtain ⟨ie,g1,g2,g3,_⟩:=he.info
  refine ⟨V,.agg z.cells,w,.inl ?_,.agg _ _ hr.1 hr.2,aD _,fun _ _=>rfl,hs⟩
  have:=run_build (P:=P) w t #[] z.cells (by simp [Program.built,h1,ha.und,h3,g1,Instr.fill])
  simp [execOp,ho,this]
theorem VI {t k size bytes el esize ebytes:Nat} {eagg:Bool} {z ez:Value} {ps:List (Nat×Operand)} {vs:List (Nat×Value)} {cs:List Value} [ht:Ty P t size true z bytes] [ha:Ar P t k el] [he:Ty P el esize eagg ez ebytes] (hz:plain z=true) (h:tJ e ps=some vs)
  (hf:rO (fun i=>some (i*esize,esize)) (dM z) vs=some cs):bY P rd (.build t ps.toArray) ty e U (.agg cs.toArray) U :=
 dh oS fun op ho _ G w0 V A w hs hx=>by
  obtain ⟨g1,g2⟩:=uQ (A:=A) (n:=U.length) (V:=V) (fun p hp u hu=>hx p.2 (by simp only [Op.operands];simp;exact ⟨p.1,hp⟩) u hu) h
  obtain ⟨rc,g3,g4⟩:=vH vs _ _ _ _ (kJ (bF (n:=U.length) (V:=V) z hz)) g1 g2 hf
  refine ⟨V,.agg rc,w,.inl ?_,.agg _ _ g4.1 g4.2,aD _,fun _ _=>rfl,hs⟩
  obtain ⟨it,h1,h2,h3,_⟩:=ht.info
  obtain ⟨ie,q1,q2,q3,_⟩:=he.info
  have:=run_build (P:=P) w t (ps.toArray.map fun p=>(p.1,A.eval p.2)) rc (by simpa [Program.built,h1,ha.und,h3,q1,q2] using g3)
  simp only [List.map_toArray] at this
  simp [execOp,ho,this]
end ops
def fZ (zl:List Value):Nat->List Value
 |0=>[]
 |k+1=>zl++fZ zl k
theorem pW (zl:List Value) (k:Nat):(fZ zl k).length=k*zl.length:=by
 induction k with
 |zero=>simp [fZ]
 |succ k ih=>simp [fZ,ih,Nat.succ_mul];omega
theorem JD (zl:List Value):∀ (k i:Nat),i<k*zl.length->(fZ zl k)[i]?=zl[i % zl.length]?
 |0,i,h=>by simp at h
 |k+1,i,h=>by
  simp only [fZ]
  by_cases hi:i<zl.length
  ·rw [bO hi,Nat.mod_eq_of_lt hi]
  ·rw [bE oO,JD zl k _ (by rw [Nat.succ_mul] at h;omega)]
   congr 1
   exact (Nat.mod_eq_sub_mod oO).symm
theorem zZ {n:Nat} {V:Rho} {z:Value} {size k:Nat} (hz:plain z=true) (hs:z.cells.size=size):lU n V (fZ (dM z) k).toArray (madeCells z.cells (k*size)):=by
 have hr:=kJ (bF (q:=false) (n:=n) (V:=V) z hz)
 have hl:(dM z).length=z.cells.size:=by simpa using hr.1
 subst hs
 refine ⟨by rw [size_madeCells,fm,pW,hl],fun i hi hi'=>?_⟩
 simp only [fm,pW] at hi
 have h0:0<z.cells.size:=by
  rcases Nat.eq_zero_or_pos z.cells.size with h|h
  ·rw [hl,h] at hi;omega
  ·exact h
 have hm:i % z.cells.size<z.cells.size:=Nat.mod_lt _ h0
 have h1:=JD (dM z) k i hi
 rw [hl,cA (show i % z.cells.size<(dM z).length by omega)] at h1
 obtain ⟨hlt,h2⟩:=List.getElem?_eq_some_iff.1 h1
 have h3:(madeCells z.cells (k*z.cells.size))[i]=z.cells[i % z.cells.size]:=by simp [madeCells,hm]
 rw [h3]
 simp only [fL,h2]
 exact hr.2 _ (by simpa using (by omega:i % z.cells.size<(dM z).length)) hm
def eP (i sz n:Nat):Value:=match n with|0=>.slice none 0 0|n+1=>.slice (some ⟨i,0,some sz⟩) (n+1) (n+1)
section ops
variable {P:Program} {rd:Option Nat} {ty:TypeId} {e:Env} {U:Heap} {x y a b:Operand} {v u:Value}
theorem JE {n:Nat} {V:Rho} {i sz k:Nat} {v':Value} (h:gJ n V (eP i sz k) v') :
  (k=0/\v'=.slice none 0 0)\/(0<k/\i<n/\∃ c',k<=c'/\(V i).o+c'*sz<=(V i).s/\v'=.slice (some ⟨(V i).b,(V i).o,none⟩) k c'):=by
 cases k with
 |zero=>left;simp only [eP] at h;cases h;exact ⟨rfl,rfl⟩
 |succ k =>
  right
  simp only [eP] at h
  cases h with
  |gslice _ _ _ _ c' _ hc hs hi _=>exact ⟨oO,hi,c',hc.1,oO,by simp⟩
  |gsliceG _ _ _ _ _ _ _ _ hq=>simp at hq
theorem Aa {n:Nat} {V:Rho} {i sz k c':Nat} (hk:0<k) (hi:i<n) (hc:k<=c'/\(sz=0->k=c')) (hs:(V i).o+c'*sz<=(V i).s):gJ n V (eP i sz k) (.slice (some ⟨(V i).b,(V i).o,none⟩) k c'):=by
 cases k with
 |zero=>omega
 |succ k =>
  have:=VQ.gslice (q:=false) (n:=n) (V:=V) i 0 (k+1) (k+1) c' sz hc oO hi rfl
  simpa [eP] using this
theorem Pn {t el i sz n:Nat} [ha:Sl P t el] (h:aT e x=some (eP i sz n)) :
  bY P rd (.call { callee:=.builtin .len,args:=#[x],argTypes:=#[t] }) ty e U (.int .i64 (n:Int)) U:=by
 cases n with
 |zero=>exact lY (el:=el) h
 |succ n=>exact lY (el:=el) h
theorem CQ {G:Nat->Prop} {w0 w:World} {V:Rho} (h:Sim G w0 V U w) {cs:List Value} {rc:Array Value} (t:TypeId) (s:Nat) (hr:lU U.length V cs.toArray rc) :
  Sim G w0 (upd V U.length w.heap.size s) (U++[.rw cs]) (w.alloc (.cells rc t)) :=
 kW h _ _ s (by
  intro _
  exact ⟨fun hg=>by have h1:=(h.fgn _ hg).1;have:=h.size;simp only at h1;omega,rfl,rc,t,iC w _,by have:=hr.1;simp at this;omega,
   fun k hk a=>(hr.2 k (oU hk) a).mono (Nat.le_succ _) fun i hi=>iT hi⟩)
theorem Nz {V:Rho} {n B s l c:Nat}:gJ (n+1) (upd V n B s) (.slice (some ⟨n,0,none⟩) l c) (.slice (some ⟨B,0,none⟩) l c):=by
 have:=VQ.slice (q:=false) (n:=n+1) (V:=upd V n B s) n 0 l c c (aD _) oO
 simpa [upd] using this
theorem oW {t el size bytes len:Nat} {agg:Bool} {z:Value} {ps:List (Nat×Operand)} {vs:List (Nat×Value)} {cs:List Value} [ha:Sl P t el] [ht:Ty P el size agg z bytes] (hz:plain z=true)
  (hsz:z.cells.size=size) (h0:Nat.blt 0 (len*size)=true) (h1:Nat.ble (len*size) 16777216=true) (h:tJ e ps=some vs) (hf:rO (fun i=>some (i*size,size)) (fZ (dM z) len) vs=some cs) :
  bY P rd (.buildSlice t len ps.toArray) ty e U (.slice (some ⟨U.length,0,none⟩) len len) (U++[.rw cs]) :=
 dh oS fun op ho _ G w0 V A w hs hx=>by
  obtain ⟨g1,g2⟩:=uQ (A:=A) (n:=U.length) (V:=V) (fun p hp u hu=>hx p.2 (by simp only [Op.operands];simp;exact ⟨p.1,hp⟩) u hu) h
  obtain ⟨ie,i1,i2,i3,_⟩:=ht.info
  obtain ⟨rc,g3,g4⟩:=vH vs _ _ _ _ (zZ (n:=U.length) (V:=V) (k:=len) hz hsz) g1 g2 hf
  refine ⟨upd V U.length w.heap.size,.slice (some ⟨w.heap.size,0,none⟩) len len,w.alloc (.cells rc el),.inl ?_,by rw [bA];exact Nz,by simp,fun i hi=>iT hi,CQ hs el 0 g4⟩
  have h0':=Nat.blt_eq.mp h0
  have h1':=cC h1
  have:=run_buildSlice (P:=P) w t el len (ps.toArray.map fun p=>(p.1,A.eval p.2)) rc ie z ha.und i1 i3 (by rw [i2];omega) (by rw [i2];omega) (by
   rw [i2]
   have em:(Array.range (len*size)).map (z.cells[· % z.cells.size]!)=madeCells z.cells (len*size):=rfl
   rw [em];simpa using g3)
  simp only [List.map_toArray] at this
  simp [execOp,ho,this]
theorem qY {t el size bytes l c:Nat} {agg:Bool} {z:Value} {k1 k2:IntKind} [ha:Sl P t el] [ht:Ty P el size agg z bytes] (hz:plain z=true) (hsz:z.cells.size=size)
  (hx:aT e x=some (.int k1 (l:Nat))) (hy:aT e y=some (.int k2 (c:Nat))) (hlc:l<=c) (hb:bytes*c<=281474976710656) (hm:c<=9223372036854775807) :
  bY P rd (.makeSlice t x y) ty e U (.slice (some ⟨U.length,0,none⟩) l c) (U++[.rw (fZ (dM z) c)]) :=
 dh oS fun op ho _ G w0 V A w hs a=>by
  have h1:=bH (a x (by simp [Op.operands]) _ hx) rfl
  have h2:=bH (a y (by simp [Op.operands]) _ hy) rfl
  obtain ⟨ie,i1,i2,i3,i4⟩:=ht.info
  refine ⟨upd V U.length w.heap.size,.slice (some ⟨w.heap.size,0,none⟩) l c,w.alloc (.cells (madeCells z.cells (c*size)) el),.inl ?_,by rw [bA];exact Nz,by simp,fun i hi=>iT hi,CQ hs el 0 (zZ hz hsz)⟩
  have d:(ie.bytes:Int)*(c:Int)<=281474976710656:=by rw [i4];omega
  have:=run_make (P:=P) w t el ie z ha.und i1 i3 k1 k2 l c oO oO d oO
  simp only [dj,i2] at this
  simp [execOp,ho,h1,h2,this]
def VJ (n i:Nat):Rho:=fun k=>if k=n then ⟨i,0,0⟩ else ⟨k,0,0⟩
theorem uG {n i k:Nat} (h:k<n):VJ n i k=⟨k,0,0⟩:=by simp only [VJ];rw [if_neg oO]
theorem yc {n i:Nat}:VJ n i n=⟨i,0,0⟩:=by simp [VJ]
theorem abS {G:Nat->Prop} {w0 w:World} {V:Rho} (hs:Sim G w0 V U w) {i:Nat} {o:aC} (hi:U[i]?=some o) :
  Sim G w0 (comp V (VJ U.length i)) (U.set i .dead++[o]) w:=by
 have c:=aS hi
 refine IW (n0:=U.length) ⟨by simp,fun k hk=>uG hk,fun k o2 hk=>?_,fun j k oj ok hj hk g e a=>?_⟩ hs
 ·rcases getElem?_snoc hk with hk|⟨rfl,rfl⟩
  ·rcases getElem?_set' hk with ⟨_,rfl⟩|⟨_,hk⟩
   ·trivial
   ·exact lZ (fun k hk=>uG hk) oS (aS hk) hk (jg (hs.obj _ _ hk))
  ·have:=lZ (n:=(U.set i .dead++[o2]).length) (Z:=VJ U.length i) (fun k hk=>uG hk) oS c hi (jg (hs.obj _ _ hi))
   rw [uG c] at this
   rw [dk,yc];exact this
 ·have d:∀ (q:Nat) (oq:aC),(U.set i .dead++[o])[q]?=some oq->oq.owned->(q < U.length/\q ≠ i)\/q=U.length:=by
   intro q oq hq f
   rcases getElem?_snoc hq with hq|⟨h,_⟩
   ·rcases getElem?_set' hq with ⟨_,rfl⟩|⟨h1,h2⟩
    ·exact f.elim
    ·exact .inl ⟨aS h2,h1⟩
   ·right;simpa using h
  rcases d j oj hj g with ⟨h1,h2⟩|rfl <;> rcases d k ok hk e with ⟨h3,h4⟩|rfl
  ·rw [uG h1,uG h3] at a;exact a
  ·rw [uG h1,yc] at a;exact absurd a h2
  ·rw [uG h3,yc] at a;exact absurd a.symm h4
  ·rfl
theorem jO {t el size bytes i n j oj m c:Nat} {agg:Bool} {z:Value} {cs news:List Value} [ha:Sl P t el] [ht:Ty P el size agg z bytes] (hzs:z.cells.size=size) (h0:Nat.blt 0 size=true)
  (hx:aT e x=some (eP i size n)) (hi:U[i]?=some (.gr cs el)) (hl:cs.length=n*size)
  (hy:aT e y=some (.slice (some ⟨j,oj,none⟩) m c)) (hc:aK U j oj (m*size)=some news) (hm:0<m) (h1:news.all (·.oneCell')=true)
  (hb:n+m<=1000000) (hby:bytes<=1000000) :
  bY P rd (.call { callee:=.builtin .append,args:=#[x,y],argTypes:=#[t,t] }) ty e U (eP U.length size (n+m)) (U.set i .dead++[.gr (cs++news) el]) :=
 dh oS fun op ho _ G w0 V A w hs Vv=>by
  have R:0<size:=Nat.blt_eq.mp h0
  have ZZ:=JE (Vv x (by simp [Op.operands,Call.operands]) _ hx)
  have W:=Vv y (by simp [Op.operands,Call.operands]) _ hy
  obtain ⟨ie,i1,i2,i3,i4⟩:=ht.info
  have a2:=aS hi
  obtain ⟨a1,Y⟩:=kG hs hc
  have L:∃ c',A.eval y=.slice (some ⟨(V j).b,(V j).o+oj,none⟩) m c':=by
   generalize hr:A.eval y=r at W
   cases W with
   |emptySlice=>omega
   |slice _ _ _ _ c' _ _=>exact ⟨c',rfl⟩
   |sliceG _ _ _ _ _ _ _ _ hq=>simp at hq
  obtain ⟨c',L⟩:=L
  obtain ⟨rs,B,K,s⟩:∃ rs:List Value,(∀ (k:Nat) (u:Value),rs[k]?=some u->w.cell? ((⟨(V j).b,(V j).o+oj,none⟩:Addr).add k)=some u)/\rs.length=m*size/\lU U.length V news.toArray rs.toArray:=by
   have:∀ k≤news.length,∃ rs:List Value,rs.length=k/\∀ (q:Nat) (h1:q<rs.length) (h2:q<news.length),w.cell? ⟨(V j).b,(V j).o+oj+q,none⟩=some rs[q]/\gJ U.length V news[q] rs[q]:=by
    intro k
    induction k with
    |zero=>intro _;exact ⟨[],rfl,fun q h1=>by simp at h1⟩
    |succ k ih =>
     intro hk
     obtain ⟨rs,e1,e2⟩:=ih oO
     obtain ⟨v',e3,e4⟩:=Y k oO
     refine ⟨rs++[v'],by simp [e1],fun q h1 h2=>?_⟩
     by_cases hq:q<rs.length
     ·rw [eQ hq];exact e2 q hq h2
     ·have:q=k:=by simp at h1;omega
      subst this
      simp only [eO (show rs.length<=q by omega),e1,cM,dz]
      exact ⟨e3,e4⟩
   obtain ⟨rs,e1,e2⟩:=this news.length (aD _)
   refine ⟨rs,fun k u hu=>?_,oO,by simp [e1],fun k hk D=>(e2 k (oU D) (oU hk)).2⟩
   obtain ⟨hk,rfl⟩:=List.getElem?_eq_some_iff.1 hu
   rw [addr_add];exact (e2 k hk oO).1
  have Q:∀ u ∈ rs,u.oneCell'=true:=by
   have:=qQ s h1
   simpa using this
  have p:∀ xv,A.eval x=xv->(execOp A.eval op).run P w=((Builtin.append_ #[t,t] op.type #[xv,.slice (some ⟨(V j).b,(V j).o+oj,none⟩) m c']).run P w).andThen fun v w=>.ok (.value v) w:=by
   intro xv a3
   simp only [execOp,ho,resolve,invoke,builtin,Sem.run_bind,Sem.run_pure,Result.andThen_ok,List.map_toArray,cG,cY,a3,L]
  have f:(n+m)*ie.bytes<=140737488355328:=by rw [i4];exact eg (Nat.mul_le_mul hb hby) oD
  have F:(cs++news).length=(n+m)*size:=by rw [bA,hl,a1,Nat.add_mul]
  have H:∀ (a:List Value) (tail:Array Value),lU U.length V cs.toArray a.toArray->∀ (k:Nat) (h:k<(cs++news).length) (h':k<(a.toArray++rs.toArray++tail).size),gJ U.length V (cs++news)[k] (a.toArray++rs.toArray++tail)[k]:=by
   intro a tail l k hk D
   have e0:cs.length=a.length:=by simpa using l.1
   have e1:news.length=rs.length:=by simpa using s.1
   have T:k<(a.toArray++rs.toArray).size:=by simp at hk ⊢;omega
   rw [Array.getElem_append_left T]
   have:=mM l s
   exact this.2 k (oU hk) T
  have I:∀ (a:List Value) (g:Nat),lU U.length V cs.toArray a.toArray->∃ ρ',
    gJ (U.set i aC.dead++[aC.gr (cs++news) el]).length ρ' (eP U.length size (n+m)) (.slice (some ⟨w.heap.size,0,none⟩) (n+m) (grownCap w (n+m) g el))/\(∀ k < U.length,ρ' k=V k) /\
    Sim G w0 ρ' (U.set i .dead++[.gr (cs++news) el]) (w.drew.alloc (.cells (a.toArray++rs.toArray++Builtin.zeroCells z.cells (grownCap w (n+m) g el - (n+m))) el)):=by
   intro a g l
   have e0:cs.length=a.length:=by simpa using l.1
   have S:=grownCap_ge w (n+m) g el
   have B:(a.toArray++rs.toArray++Builtin.zeroCells z.cells (grownCap w (n+m) g el - (n+m))).size=grownCap w (n+m) g el*size:=by
    simp only [Array.size_append,fm,size_zeroCells,hzs,<- e0,hl,K,<- Nat.add_mul]
    congr 1;omega
   have J:=kW (Jq (DN hs) i) (.cells (a.toArray++rs.toArray++Builtin.zeroCells z.cells (grownCap w (n+m) g el - (n+m))) el) (.gr (cs++news) el) (grownCap w (n+m) g el*size) (by
    intro _
    refine ⟨fun hg=>by have h1:=(hs.fgn _ hg).1;have:=hs.size;simp only at h1;have e2:w.drew.heap.size=w.heap.size:=rfl;omega,rfl,_,iC w.drew _,B,?_,fun k hk D=>?_⟩
    ·rw [B,F];exact fd _ S
    ·exact (H a _ l k hk D).mono oS fun q hq=>iT (oU hq))
   simp only [dk] at J
   refine ⟨_,?_,fun k hk=>iT hk,J⟩
   have:=Aa (n:=(U.set i aC.dead++[aC.gr (cs++news) el]).length) (V:=upd V U.length w.heap.size (grownCap w (n+m) g el*size)) (i:=U.length) (sz:=size) (k:=n+m) (c':=grownCap w (n+m) g el) oO oS ⟨S,fun h=>oO⟩ (by simp [upd])
   rw [oh] at this;exact this
  rcases ZZ with ⟨rfl,hv⟩|⟨hn,_,E,hcap,C,hv⟩
  ·have C:cs=[]:=List.eq_nil_of_length_eq_zero (oU hl)
   subst C
   obtain ⟨ρ',g1,g2,g3⟩:=I [] 0 ⟨rfl,fun k hk=>by simp at hk⟩
   refine ⟨ρ',_,_,.inl ?_,g1,by simp,g2,g3⟩
   rw [p _ hv]
   have:=run_append_nil (P:=P) w t op.type el ie z ha.und i1 i3 ⟨(V j).b,(V j).o+oj,none⟩ m c' rs (by rw [i2];exact K) B hm oO (by simp only [aR] at f;omega)
   rw [this];simp
  ·have Uq:cs ≠ []:=fun hc=>by subst hc;have:=Nat.mul_pos hn R;simp at hl;omega
   obtain ⟨g1,g2,rc,g3,a0,g4,g5⟩:=hs.obj i _ hi Uq
   have M:=g2
   rw [M] at C hv
   rw [aR] at C
   by_cases d:n+m<=E
   ·have N:n*size+rs.length<=rc.size:=by
     rw [K,a0,<- Nat.add_mul]
     exact eg (fd _ d) C
    have hr:=run_append_room (P:=P) w t op.type el ie ha.und i1 (V i).b n E rc g3 ⟨(V j).b,(V j).o+oj,none⟩ m c' rs (by rw [i2];exact K) B Q d (by rw [i2];exact N)
    rw [i2] at hr
    have a4:Sim G w0 V (U.set i (.gr (cs++news) el)) (w.setRow (V i).b (rc.toList.take (n*size)++rs++rc.toList.drop (n*size+rs.length)).toArray):=by
     refine wH hs hi Uq (Ci w _ _) ?_ ?_
     ·intro _
      refine ⟨g1,g2,_,setRow_heap w _ rc _ el (0,0) g3,by simp;omega,by simp;omega,fun k hk D=>?_⟩
      have l:lU U.length V cs.toArray (rc.toList.take (n*size)).toArray:=by
       refine ⟨by simp;omega,fun q hq O=>?_⟩
       simp only [fL,cX,dC]
       exact g5 q (oU hq) (by simp at O;omega)
      have:=H (rc.toList.take (n*size)) (rc.toList.drop (n*size+rs.length)).toArray l k hk (oU D)
      simpa using this
     ·intro q k seen hj
      left
      intro X
      obtain ⟨_,_,ents,clock,sb,_,g6,_⟩:=hs.obj q _ hj
      rw [X,g3] at g6;simp at g6
    have J:=abS a4 (i:=i) (by rw [List.getElem?_set_self a2])
    simp only [cN,dk] at J
    refine ⟨_,_,_,.inl (by rw [p _ hv,hr];rfl),?_,by simp,fun k hk=>?_,J⟩
    ·have:=Aa (n:=(U.set i aC.dead++[aC.gr (cs++news) el]).length) (V:=comp V (VJ U.length i)) (i:=U.length) (sz:=size) (k:=n+m) (c':=E) oO oS ⟨d,fun h=>oO⟩ (by simpa [comp,yc,M] using C)
     simpa [comp,yc,M] using this
    ·exact comp_id (uG hk)
   ·have l:lU U.length V cs.toArray (rc.toList.take (n*size)).toArray:=by
     refine ⟨by simp;omega,fun q hq O=>?_⟩
     simp only [fL,cX,dC]
     exact g5 q (oU hq) (by simp at O;omega)
    obtain ⟨ρ',k1,k2,k3⟩:=I _ E l
    refine ⟨ρ',_,_,.inl ?_,k1,by simp,k2,k3⟩
    rw [p _ hv]
    have:=run_append_grow (P:=P) w t op.type el ie z ha.und i1 i3 ⟨(V i).b,0,none⟩ n E (rc.toList.take (n*size)) (by rw [i2];simp;omega) (fun q u hu=>by
     rw [addr_add,aR,cell_of_row w (V i).b q rc el (0,0) g3]
     rw [ey] at hu
     split at hu
     ·simpa using hu
     ·cases hu) ⟨(V j).b,(V j).o+oj,none⟩ m c' rs (by rw [i2];exact K) B oO oO (growslice_fits oO f)
    rw [this];simp
end ops
section ops
variable {P:Program} {rd:Option Nat} {ty:TypeId} {e:Env} {U:Heap} {x y a b:Operand} {v u:Value}
theorem Bg {t el:TypeId} (h:Sl P t el):P.underlying t=some (.slice (P.elem t))/\P.elem t=el:=by
 have:=h.und
 simp [Program.elem,this]
theorem Yn {t el n:Nat} (h:Ar P t n el):P.underlying t=some (.array (P.arrayLen t) (P.elem t))/\P.elem t=el/\P.arrayLen t=n:=by
 have:=h.und
 simp [Program.elem,Program.arrayLen,this]
theorem NC {t el size bytes i o n c h:Nat} {agg:Bool} {z:Value} {k:IntKind} [ha:Sl P t el] [ht:Ty P el size agg z bytes] (hx:aT e x=some (.slice (some ⟨i,o,none⟩) n c)) (hy:aT e y=some (.int k (h:Nat))) (hc:h<=c) :
  bY P rd (.slice t x none (some y) none) ty e U (.slice (some ⟨i,o,none⟩) h c) U :=
 dh oS fun op ho _ G w0 V A w hs a=>by
  have hv:=a x (by simp [Op.operands]) _ hx
  have hi:=bH (a y (by simp [Op.operands]) _ hy) rfl
  obtain ⟨e1,e2⟩:=Bg ha
  generalize hr:A.eval x=r at hv
  cases hv with
  |emptySlice _ _ a' c' =>
   have h0:h=0:=oO
   subst h0
   have:=run_slice_h (P:=P) w t a' 0 c' e1 k 0 oO oO
   refine ⟨V,sliced a' 0 0 c' size,w,.inl ?_,?_,aD _,fun _ _=>rfl,hs⟩
   ·simp only [Int.toNat_zero] at this
    simp [execOp,ho,hr,hi,run_sliceAt_slice _ _ _ _ _ _ e1,this,e2,ht.sizeOf]
   ·simp only [sliced];exact .emptySlice _ _ _ _
  |slice _ _ _ _ c' hcc hil =>
   have:=run_slice_h (P:=P) w t (some ⟨(V i).b,(V i).o+o,none⟩) n c' e1 k h oO oO
   simp only [dj] at this
   refine ⟨V,sliced (some ⟨(V i).b,(V i).o+o,none⟩) 0 h c' size,w,.inl ?_,?_,aD _,fun _ _=>rfl,hs⟩
   ·simp [execOp,ho,hr,hi,run_sliceAt_slice _ _ _ _ _ _ e1,this,e2,ht.sizeOf]
   ·have e3:sliced (some ⟨(V i).b,(V i).o+o,none⟩) 0 h c' size=.slice (some ⟨(V i).b,(V i).o+o,none⟩) h c':=by
     simp only [sliced];split <;> simp [addr_add]
    rw [e3];exact .slice _ _ _ _ _ hcc hil
  |sliceG _ _ _ _ _ _ _ _ hq=>simp at hq
theorem Bh {t el size bytes i o n c l:Nat} {agg:Bool} {z:Value} {k:IntKind} [ha:Sl P t el] [ht:Ty P el size agg z bytes] (hx:aT e x=some (.slice (some ⟨i,o,none⟩) n c)) (hy:aT e y=some (.int k (l:Nat))) (hc:l<=n) (hn:n<=c) :
  bY P rd (.slice t x (some y) none none) ty e U (.slice (some ⟨i,o+l*size,none⟩) (n - l) (c - l)) U :=
 dh oS fun op ho _ G w0 V A w hs a=>by
  have hv:=a x (by simp [Op.operands]) _ hx
  have hi:=bH (a y (by simp [Op.operands]) _ hy) rfl
  obtain ⟨e1,e2⟩:=Bg ha
  generalize hr:A.eval x=r at hv
  cases hv with
  |emptySlice _ _ a' c' =>
   have h0:l=0:=oO
   subst h0
   have:=run_slice_l (P:=P) w t a' 0 c' e1 k 0 oO oO
   refine ⟨V,sliced a' 0 0 c' size,w,.inl ?_,?_,aD _,fun _ _=>rfl,hs⟩
   ·simp only [Int.toNat_zero] at this
    simp [execOp,ho,hr,hi,run_sliceAt_slice _ _ _ _ _ _ e1,this,e2,ht.sizeOf]
   ·simp only [sliced];exact .emptySlice _ _ _ _
  |slice _ _ _ _ c' hcc hil =>
   have:=run_slice_l (P:=P) w t (some ⟨(V i).b,(V i).o+o,none⟩) n c' e1 k l oO oO
   simp only [dj] at this
   refine ⟨V,sliced (some ⟨(V i).b,(V i).o+o,none⟩) l n c' size,w,.inl ?_,?_,aD _,fun _ _=>rfl,hs⟩
   ·simp [execOp,ho,hr,hi,run_sliceAt_slice _ _ _ _ _ _ e1,this,e2,ht.sizeOf]
   ·simp only [sliced]
    by_cases d:c'=l
    ·have h1:n - l=0:=oO
     have h2:c - l=0:=oO
     rw [h1,h2];exact .emptySlice _ _ _ _
    ·rw [if_neg d]
     simp only [du,addr_add]
     rw [cF]
     exact .slice _ _ _ _ _ oO hil
  |sliceG _ _ _ _ _ _ _ _ hq=>simp at hq
theorem yV {t el size bytes i n:Nat} {agg:Bool} {z:Value} {k k':IntKind} [ha:Sl P t el] [ht:Ty P el size agg z bytes] (hx:aT e x=some (eP i size n)) (hy:aT e y=some (.int k (n:Nat))) (hz:aT e a=some (.int k' (n:Nat))) :
  bY P rd (.slice t x none (some y) (some a)) ty e U (eP i size n) U :=
 dh oS fun op ho _ G w0 V A w hs c=>by
  have hv:=JE (c x (by simp [Op.operands]) _ hx)
  have h1:=bH (c y (by simp [Op.operands]) _ hy) rfl
  have h2:=bH (c a (by simp [Op.operands]) _ hz) rfl
  obtain ⟨e1,e2⟩:=Bg ha
  rcases hv with ⟨rfl,hr⟩|⟨hn,hi,g,d,f,hr⟩
  ·have:=run_slice_hm (P:=P) w t none 0 0 e1 k k' 0 0 oO oO oO
   refine ⟨V,.slice none 0 0,w,.inl ?_,.nilSlice,aD _,fun _ _=>rfl,hs⟩
   simp only [Int.toNat_zero] at this
   simp only [Int.natCast_zero] at h1 h2
   simp [execOp,ho,hr,h1,h2,run_sliceAt_slice _ _ _ _ _ _ e1,this,e2,ht.sizeOf,sliced]
  ·have:=run_slice_hm (P:=P) w t (some ⟨(V i).b,(V i).o,none⟩) n g e1 k k' n n oO oO oO
   simp only [dj] at this
   refine ⟨V,.slice (some ⟨(V i).b,(V i).o,none⟩) n n,w,.inl ?_,Aa hn hi ⟨aD _,fun _=>rfl⟩ (eg (Nat.add_le_add_left (fd _ d) _) f),aD _,fun _ _=>rfl,hs⟩
   have e3:sliced (some ⟨(V i).b,(V i).o,none⟩) 0 n n size=.slice (some ⟨(V i).b,(V i).o,none⟩) n n:=by simp only [sliced];split <;> simp [addr_add]
   simp [execOp,ho,hr,h1,h2,run_sliceAt_slice _ _ _ _ _ _ e1,this,e2,ht.sizeOf,e3]
theorem Fq {t el size bytes i o n:Nat} {agg:Bool} {z:Value} [ha:Ar P t n el] [ht:Ty P el size agg z bytes] (hx:aT e x=some (.pointer (some ⟨i,o,none⟩))) :
  bY P rd (.slice t x none none none) ty e U (.slice (some ⟨i,o,none⟩) n n) U :=
 dh oS fun op ho _ G w0 V A w hs a=>by
  obtain ⟨hr,hi⟩:=nV (a x (by simp [Op.operands]) _ hx)
  obtain ⟨e1,e2,e3⟩:=Yn ha
  have:=run_sliceAt_array_all (P:=P) w t ⟨(V i).b,(V i).o+o,none⟩ e1
  refine ⟨V,.slice (some ⟨(V i).b,(V i).o+o,none⟩) n n,w,.inl ?_,.slice _ _ _ _ _ (aD _) hi,aD _,fun _ _=>rfl,hs⟩
  have e4:slicedAt ⟨(V i).b,(V i).o+o,none⟩ 0 n n size=.slice (some ⟨(V i).b,(V i).o+o,none⟩) n n:=by simp only [slicedAt];split <;> simp [addr_add]
  simp [execOp,ho,hr,this,e2,e3,ht.sizeOf,e4]
theorem VK {t el size bytes i o n h:Nat} {agg:Bool} {z:Value} {k:IntKind} [ha:Ar P t n el] [ht:Ty P el size agg z bytes] (hx:aT e x=some (.pointer (some ⟨i,o,none⟩))) (hy:aT e y=some (.int k (h:Nat))) (hn:h<=n) :
  bY P rd (.slice t x none (some y) none) ty e U (.slice (some ⟨i,o,none⟩) h n) U :=
 dh oS fun op ho _ G w0 V A w hs a=>by
  obtain ⟨hr,hi⟩:=nV (a x (by simp [Op.operands]) _ hx)
  have h1:=bH (a y (by simp [Op.operands]) _ hy) rfl
  obtain ⟨e1,e2,e3⟩:=Yn ha
  have:=run_sliceAt_array_h (P:=P) w t ⟨(V i).b,(V i).o+o,none⟩ e1 k h oO oO
  simp only [dj] at this
  refine ⟨V,.slice (some ⟨(V i).b,(V i).o+o,none⟩) h n,w,.inl ?_,.slice _ _ _ _ _ (aD _) hi,aD _,fun _ _=>rfl,hs⟩
  have e4:slicedAt ⟨(V i).b,(V i).o+o,none⟩ 0 h n size=.slice (some ⟨(V i).b,(V i).o+o,none⟩) h n:=by simp only [slicedAt];split <;> simp [addr_add]
  simp [execOp,ho,hr,h1,this,e2,e3,ht.sizeOf,e4]
theorem JF {G:Nat->Prop} {w0 w:World} {V:Rho} (hs:Sim G w0 V U w) {j oj n:Nat} {news:List Value} (hc:aK U j oj n=some news) :
  ∃ rs:List Value,(∀ (k:Nat) (u:Value),rs[k]?=some u->w.cell? ((⟨(V j).b,(V j).o+oj,none⟩:Addr).add k)=some u)/\rs.length=n/\lU U.length V news.toArray rs.toArray:=by
 obtain ⟨hnl,a⟩:=kG hs hc
 have:∀ k≤news.length,∃ rs:List Value,rs.length=k/\∀ (q:Nat) (h1:q<rs.length) (h2:q<news.length),w.cell? ⟨(V j).b,(V j).o+oj+q,none⟩=some rs[q]/\gJ U.length V news[q] rs[q]:=by
  intro k
  induction k with
  |zero=>intro _;exact ⟨[],rfl,fun q h1=>by simp at h1⟩
  |succ k ih =>
   intro hk
   obtain ⟨rs,e1,e2⟩:=ih oO
   obtain ⟨v',e3,e4⟩:=a k oO
   refine ⟨rs++[v'],by simp [e1],fun q h1 h2=>?_⟩
   by_cases hq:q<rs.length
   ·rw [eQ hq];exact e2 q hq h2
   ·have:q=k:=by simp at h1;omega
    subst this
    simp only [eO (show rs.length<=q by omega),e1,cM,dz]
    exact ⟨e3,e4⟩
 obtain ⟨rs,e1,e2⟩:=this news.length (aD _)
 refine ⟨rs,fun k u hu=>?_,oO,by simp [e1],fun k hk c=>(e2 k (oU c) (oU hk)).2⟩
 obtain ⟨hk,rfl⟩:=List.getElem?_eq_some_iff.1 hu
 rw [addr_add];exact (e2 k hk oO).1
theorem Po {t el size bytes i o j oj n c c2:Nat} {agg:Bool} {z:Value} {t2:TypeId} {news:List Value} {σ':Heap} [ha:Sl P t el] [ht:Ty P el size agg z bytes] (hx:aT e x=some (.slice (some ⟨i,o,none⟩) n c))
  (hy:aT e y=some (.slice (some ⟨j,oj,none⟩) n c2)) (hn:0<n) (hc:aK U j oj (n*size)=some news) (h1:news.all (·.oneCell')=true) (hp:putCells U i o news=some σ') :
  bY P rd (.call { callee:=.builtin .copy,args:=#[x,y],argTypes:=#[t,t2] }) ty e U (.int .i64 (n:Int)) σ' :=
 dh oS fun op ho _ G w0 V A w hs g=>by
  have k:=g x (by simp [Op.operands,Call.operands]) _ hx
  have h:=g y (by simp [Op.operands,Call.operands]) _ hy
  have f:∃ c',A.eval x=.slice (some ⟨(V i).b,(V i).o+o,none⟩) n c':=by
   generalize hr:A.eval x=r at k
   cases k with
   |emptySlice=>omega
   |slice _ _ _ _ c' _ _=>exact ⟨c',rfl⟩
   |sliceG _ _ _ _ _ _ _ _ hq=>simp at hq
  have d:∃ c',A.eval y=.slice (some ⟨(V j).b,(V j).o+oj,none⟩) n c':=by
   generalize hr:A.eval y=r at h
   cases h with
   |emptySlice=>omega
   |slice _ _ _ _ c' _ _=>exact ⟨c',rfl⟩
   |sliceG _ _ _ _ _ _ _ _ hq=>simp at hq
  obtain ⟨cx,f⟩:=f
  obtain ⟨cy,d⟩:=d
  obtain ⟨rs,m,l,a⟩:=JF hs hc
  obtain ⟨w',g1,g2,g3⟩:=IQ (P:=P) hs hp a (by have:=qQ a h1;simpa using this)
  have hf:=run_firstCells_some (P:=P) w size n ⟨(V j).b,(V j).o+oj,none⟩ n cy rs l m
  refine ⟨V,.int .i64 n,w',.inl ?_,.int _ _,oO,fun _ _=>rfl,g2⟩
  simp [execOp,ho,resolve,invoke,builtin,f,d,Builtin.copy_,lS ha.und,ht.sizeOf,Builtin.lenOf,hf,g1,goInt]
theorem DX {t el size bytes i o n c:Nat} {agg:Bool} {z:Value} {σ':Heap} [ha:Sl P t el] [ht:Ty P el size agg z bytes] (hz:plain z=true) (hzs:z.cells.size=size) (hx:aT e x=some (.slice (some ⟨i,o,none⟩) n c)) (hn:0<n)
  (h1:(fZ (dM z) n).all (·.oneCell')=true) (hp:putCells U i o (fZ (dM z) n)=some σ') :
  bY P rd (.call { callee:=.builtin .clear,args:=#[x],argTypes:=#[t] }) ty e U (.tuple #[]) σ' :=
 dh oS fun op ho _ G w0 V A w hs g=>by
  have f:=g x (by simp [Op.operands,Call.operands]) _ hx
  have d:∃ c',A.eval x=.slice (some ⟨(V i).b,(V i).o+o,none⟩) n c':=by
   generalize hr:A.eval x=r at f
   cases f with
   |emptySlice=>omega
   |slice _ _ _ _ c' _ _=>exact ⟨c',rfl⟩
   |sliceG _ _ _ _ _ _ _ _ hq=>simp at hq
  obtain ⟨cx,d⟩:=d
  have a:=zZ (n:=U.length) (V:=V) (k:=n) hz hzs
  have em:Builtin.zeroCells z.cells n=madeCells z.cells (n*size):=by subst hzs;rfl
  rw [<- em] at a
  obtain ⟨w',g1,g2,g3⟩:=IQ (P:=P) hs hp (rs:=(Builtin.zeroCells z.cells n).toList) (oU a) (by have:=qQ a h1;simpa using this)
  refine ⟨V,.tuple #[],w',.inl ?_,bF _ rfl,oO,fun _ _=>rfl,g2⟩
  obtain ⟨m,rfl⟩:∃ m,n=m+1:=⟨n - 1,oO⟩
  simp [execOp,ho,resolve,invoke,builtin,d,Builtin.clear_,lS ha.und,ht.zeroV,g1]
def eq2F (P:Program) (t:TypeId):List Field->Bool
 | [f, g] => !(f.name == "_") && !(g.name == "_") && Nat.beq f.offset 0 && Nat.beq g.offset 1 && (O9 P f.type).isSome && (O9 P g.type).isSome && !P.stoodInHeld t && !P.eqGuardType P.depth t
 |_=>false
def Sm (P:Program) (t:TypeId):Bool :=
 match P.underlying t with
 |some (.struct fs)=>eq2F P t fs.toList
 |_=>false
class Eq2 (P:Program) (t:TypeId):Prop where
 h:Sm P t=true
theorem DY {t:TypeId} (h:(O9 P t).isSome=true) {w:World}:(Go.isAgg t).run P w=.ok false w/\∃ k,P.underlying t=some (.int k):=by
 unfold O9 at h
 split at h
 ·rename_i k hu;exact ⟨by simp [Go.isAgg,underlying,hu],k,hu⟩
 ·simp at h
theorem IX {t:TypeId} (h:Eq2 P t) {k k':IntKind} {m n m' n':Int} {w:World} (d:Nat) :
  (Op.equalIn (d+2) t (.agg #[.int k m,.int k' n]) (.agg #[.int k m',.int k' n'])).run P w=.ok (decide (m=m'/\n=n')) w/\P.eqGuardType P.depth t=false:=by
 have:=h.h
 unfold Sm at this
 split at this
 ·rename_i fs hu
  unfold eq2F at this
  split at this
  case h_2=>simp at this
  rename_i f g a
  simp only [aE,eL] at this
  obtain ⟨⟨⟨⟨⟨⟨⟨h1,h2⟩,h3⟩,h4⟩,h5⟩,h6⟩,h7⟩,h8⟩:=this
  refine ⟨?_,h8⟩
  have hf:P.fieldsOf t=fs:=by simp [Program.fieldsOf,hu]
  rw [run_equalIn_struct w (d+1) t _ _ (by rw [hf];exact hu) h7,hf,a]
  have e3:=aM h3
  have e4:=aM h4
  obtain ⟨a1,kf,u1⟩:=DY h5 (w:=w)
  obtain ⟨a2,kg,u2⟩:=DY h6 (w:=w)
  have n1 : f.name ≠ "_" := by simpa using h1
  have n2 : g.name ≠ "_" := by simpa using h2
  have p1:∀ x y:Value,(part f.type #[x,y] f.offset).run P w=.ok x w:=fun x y=>by simp [part,a1,e3]
  have p2:∀ x y:Value,(part g.type #[x,y] g.offset).run P w=.ok y w:=fun x y=>by simp [part,a2,e4]
  have q1:=run_equalIn_int w d f.type k kf m m' u1
  have q2:=run_equalIn_int w d g.type k' kg n n' u2
  simp only [Op.eqFields,n1,n2,ne_eq,not_false_eq_true,if_true,Sem.run_bind,p1,q1,Result.andThen_ok]
  by_cases hm:m=m' <;> by_cases hn:n=n' <;> simp [hm,hn,p2,run_equalIn_int w d g.type k' kg _ _ u2]
 ·simp at this
theorem ahD {t t':TypeId} {k k':IntKind} {m n m' n':Int} [h:Eq2 P t] (hx:aT e x=some (.agg #[.int k m,.int k' n])) (hy:aT e y=some (.agg #[.int k m',.int k' n'])) :
  bY P rd (.binOp .eql t x y t') ty e U (.bool (decide (m=m'/\n=n'))) U :=
 kK oS rfl fun o ho _ A hA w=>by
  have h1:=hA x (by simp [Op.operands]) _ hx rfl
  have h2:=hA y (by simp [Op.operands]) _ hy rfl
  obtain ⟨g1,g2⟩:=IX h (k:=k) (k':=k') (m:=m) (n:=n) (m':=m') (n':=n') (w:=w) 9998
  simp [execOp,ho,h1,h2,run_eqGuard_agg _ _ _ _ _ _ _ g2,run_eql_struct,g1]
theorem Pq {t t':TypeId} {k k':IntKind} {m n m' n':Int} [h:Eq2 P t] (hx:aT e x=some (.agg #[.int k m,.int k' n])) (hy:aT e y=some (.agg #[.int k m',.int k' n'])) :
  bY P rd (.binOp .neq t x y t') ty e U (.bool (decide (¬ (m=m'/\n=n')))) U :=
 kK oS rfl fun o ho _ A hA w=>by
  have h1:=hA x (by simp [Op.operands]) _ hx rfl
  have h2:=hA y (by simp [Op.operands]) _ hy rfl
  obtain ⟨g1,g2⟩:=IX h (k:=k) (k':=k') (m:=m) (n:=n) (m':=m') (n':=n') (w:=w) 9998
  simp [execOp,ho,h1,h2,run_eqGuard_agg _ _ _ _ _ _ _ g2,run_neq_struct,g1]
end ops
end Go.AH
