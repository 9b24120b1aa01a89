/- Rules for abstract heaps, second part: regions whose order is drawn, loops, panics, conversions, frames. Conditions: stand in each theorem. -/
import Derived.Test.YtajpgeklmcjciaaGreatPxMA
import Derived.Laws.Tables
import Derived.Laws.Slices
import Derived.Laws.Append
import Derived.ArgAppend
import Derived.Great.BuildSlice
import Derived.Laws.StructEq
namespace Go.AH
open Go
def bT (after:Array Edge) (i:Nat):Bool:=after.any fun e=>Region.binds .any e && Nat.beq e.on i
def waits (o:Oper) (i:Nat):Bool:=bT o.after i
def vV (o:Oper):Bool:=match o.op with|.defer _=>false|.select ..=>false|_=>true
def EU {α:Type} (n:Nat) (f:Nat→α):α:=match n with|0=>f 0|k+1=>f (k+1)
theorem x9 {α:Type} (n:Nat) (f:Nat→α):EU n f=f n:=by cases n <;> rfl
def ql (acc:List Nat):List Edge→Nat
 |[]=>0
 |e::r=>bif Region.binds .any e then Nat.lor (Nat.lor (Nat.shiftLeft 1 e.on) (acc.getD e.on 0)) (ql acc r) else ql acc r
def partOk (ops:List Oper) (m:Nat) (o:Oper) (j mk:Nat):Bool :=
 vV o && o.after.all (fun e=>!Region.binds .any e || Nat.blt e.on j) &&
  (match o.guard with|some (g,_)=>waits o g|none=>true) &&
  (List.range j).all fun i=>mk.testBit i || (Nat.blt i m && (match ops[i]? with|some oi=>oi.apart ops.toArray o|none=>false)) && Nat.blt j m
def chkD (all:List Oper) (m:Nat):List Oper→Nat→List Nat→Bool
 |[],_,_=>true
 |o::rest,j,acc=>EU (ql acc o.after.toList) fun mk=>partOk all m o j mk && chkD all m rest (j+1) (acc++[mk])
def drawOk (ops:List Oper) (m:Nat):Bool:=chkD ops m ops 0 []
def Closed (all:List Oper) (D:Nat→Prop):Prop:=∀ j o,all[j]?=some o→D j→∀ k,waits o k=true→D k
def Good (all:List Oper) (j mk:Nat):Prop:=∀ D:Nat→Prop,Closed all D→∀ o,all[j]?=some o→(∀ k,waits o k=true→D k)→∀ i,mk.testBit i=true→D i
theorem Cm {acc:List Nat} {i:Nat}:∀ {l:List Edge},(ql acc l).testBit i=true→∃ e ∈ l,Region.binds .any e=true∧(i=e.on∨(acc.getD e.on 0).testBit i=true)
 |[],h=>by simp [ql] at h
 |e::r,h=>by
  simp only [ql] at h
  cases hb:Region.binds .any e with
  |false =>
   rw [hb] at h
   obtain ⟨e',h1,h2⟩:=Cm (l:=r) h
   exact ⟨e',dT _ h1,h2⟩
  |true =>
   rw [hb] at h
   simp only [cond_true] at h
   have h':((1 <<< e.on ||| acc.getD e.on 0) ||| ql acc r).testBit i=true:=h
   simp only [Nat.testBit_or,eq] at h'
   rcases h' with (h'|h')|h'
   ·refine ⟨e,by simp,hb,.inl ?_⟩
    rw [Nat.one_shiftLeft,Nat.testBit_two_pow] at h'
    exact (of_decide_eq_true h').symm
   ·exact ⟨e,by simp,hb,.inr h'⟩
   ·obtain ⟨e',h1,h2⟩:=Cm (l:=r) h'
    exact ⟨e',dT _ h1,h2⟩
theorem Bc {all:List Oper} {j:Nat} {acc:List Nat} {o:Oper} (ho:all[j]?=some o) (hacc:∀ (k:Nat) (mk:Nat),acc[k]?=some mk→Good all k mk) (hl:acc.length≤all.length):Good all j (ql acc o.after.toList):=by
 intro D hD o' a hw i hi
 rw [ho] at a;cases a
 obtain ⟨e,h1,h2,h3⟩:=Cm hi
 have d:waits o e.on=true:=by
  unfold waits bT
  rw [Array.any_eq_true']
  exact ⟨e,by simpa using h1,by simp [h2]⟩
 have c:=hw e.on d
 rcases h3 with rfl|h3
 ·exact c
 ·cases hk:acc[e.on]? with
  |none=>rw [cE,hk] at h3;simp at h3
  |some mk =>
   rw [cE,hk] at h3
   have hlt:=(List.getElem?_eq_some_iff.1 hk).1
   exact hacc e.on mk hk D hD all[e.on] (by simp [show e.on<all.length by omega]) (hD e.on _ (by simp [show e.on<all.length by omega]) c) i h3
theorem chkD_get {all:List Oper} {m:Nat}:∀ (rest:List Oper) (j:Nat) (acc:List Nat),rest=all.drop j→acc.length=j→j≤all.length→(∀ (k:Nat) (mk:Nat),acc[k]?=some mk→Good all k mk)→chkD all m rest j acc=true →
  ∀ (t:Nat) (o:Oper),rest[t]?=some o→∃ mk,partOk all m o (j+t) mk=true∧Good all (j+t) mk
 |[],_,_,_,_,_,_,_,t,o,h=>by simp at h
 |x::rest,j,acc,hr,hl,hj,hacc,hc,t,o,h=>by
  have hx:all[j]?=some x:=by
   have:=congrArg (fun l:List Oper=>l[0]?) hr
   simpa using this.symm
  have d:rest=all.drop (j+1):=by
   have:=congrArg List.tail hr
   simpa using this
  have hjl:=(List.getElem?_eq_some_iff.1 hx).1
  simp only [chkD,x9,aE] at hc
  have hg:=Bc hx hacc oO
  cases t with
  |zero=>simp at h;subst h;exact ⟨_,hc.1,hg⟩
  |succ t =>
   have:=chkD_get rest (j+1) (acc++[ql acc x.after.toList]) d (by simp [hl]) oO (fun k mk hk=>by
    by_cases a:k<acc.length
    ·rw [bR a] at hk;exact hacc k mk hk
    ·rw [bE oO] at hk
     have c:k - acc.length=0:=by
      have:=(List.getElem?_eq_some_iff.1 hk).1
      simp at this;omega
     rw [c] at hk;simp at hk;subst hk
     rw [show k=j by omega];exact hg) hc.2 t o (oU h)
   rwa [show j+1+t=j+(t+1) by omega] at this
def hide (l:Heap):Heap:=l.map fun _=>.dead
def DI (d:Option Tmp) (v:Value) (e:Env):Env:=match d with|some d=>(d,v)::e|none=>e
def jU (all:List Oper) (e:Env) (o:Oper):Option Bool :=
 match o.guard with
 |none=>some true
 |some (j,want)=>match jH all e j with|some (.bool b)=>some (b == want)|some (.tuple ⟨[]⟩)=>some false|_=>none
def tH (N:Nat) (o:Oper):Bool:=match o.dst with|some d=>Nat.blt d N|none=>true
def Nok (n b:Nat) (v:Value):Prop:=∀ (k:Nat) (ρ ρ':Rho) (v':Value),gq k ρ v v'→(∀ i,i<n∨b≤i→ρ' i=ρ i)→gq k ρ' v v'
theorem CB {n b:Nat} {v:Value} (h:closed n v=true):Nok n b v:=fun k ρ ρ' v' hv hρ=>by
 by_cases hk:n≤k
 ·exact (vO hv h).mono hk fun i hi=>hρ i (.inl hi)
 ·exact hv.mono (aD _) fun i hi=>hρ i (.inl oO)
theorem ad6 {n b:Nat}:Nok n b (.pointer (some ⟨b,0,none⟩)):=fun k ρ ρ' v' hv hρ=>by
 obtain ⟨rfl,hi⟩:=ng hv
 rw [← hρ b (.inr (aD _))]
 exact .ptr _ _ hi
theorem uV {n b l c:Nat}:Nok n b (.slice (some ⟨b,0,none⟩) l c):=fun k ρ ρ' v' hv hρ=>by
 have hb:=hρ b (.inr (aD _))
 cases hv with
 |emptySlice=>exact .emptySlice _ _ _ _
 |slice _ _ _ _ c' hc hi=>rw [← hb];exact .slice _ _ _ _ _ hc hi
 |sliceG _ _ _ _ _ _ _ _ hq=>simp at hq
def rH (n:Nat) (ns:Heap):Prop:=∀ x ∈ ns,∃ cs,x=aB.rw cs∧dP n cs=true∧okL cs=true
def iw (news:List (Nat×Heap)):Heap:=(news.map (·.2)).flatten
def Y1 (all:List Oper) (k n:Nat) (news:List (Nat×Heap)) (v:Value):Prop :=
 ∀ (n1:List (Nat×Heap)) (i:Nat) (h:Heap) (n2:List (Nat×Heap)),news=n1++(i,h)::n2→(∃ D:Nat→Prop,Closed all D∧D k∧¬ D i)→∀ (m:Nat) (ρ ρ':Rho) (v':Value),gq m ρ v v' →
  (∀ q,q<n+(iw n1).length∨n+(iw n1).length+h.length≤q→ρ' q=ρ q)→gq m ρ' v v'
theorem Nok.toN {all:List Oper} {k n b:Nat} {news:List (Nat×Heap)} {v:Value} (h:Nok n b v) (hb:b=n+(iw news).length):Y1 all k n news v:=by
 intro n1 i x n2 hn _ m ρ ρ' v' hv hρ
 refine h m ρ ρ' v' hv fun q hq=>hρ q ?_
 subst hn
 simp only [iw,eC,List.flatten_append,cG,eA,aR] at hb ⊢
 omega
def gJ (L:Nat→Bool) (news:List (Nat×Heap)):Heap:=(news.map fun p=>bif L p.1 then p.2 else hide p.2).flatten
def addN (news:List (Nat×Heap)) (k:Nat):Heap→List (Nat×Heap)
 |[]=>news
 |x::r=>news++[(k,x::r)]
theorem qB (L:Nat→Bool):∀ news:List (Nat×Heap),(gJ L news).length=(iw news).length
 |[]=>rfl
 |p::news=>by
  have:=qB L news
  simp only [gJ,iw,cG,eA,aR] at this ⊢
  rw [this]
  cases L p.1 <;> simp [hide]
def bM (P:Program) (N:Nat) (rd:Option Nat) (all:List Oper):Nat→List Oper→Env→Heap→List (Nat×Heap)→(Env→List (Nat×Heap)→List Oper→Prop)→Prop
 |_,[],e,_,news,K=>K e news []
 |k,o::rest,e,σ0,news,K=>K e news (o::rest)∨(tH N o=true ∧
  ((jU all e o=some true∧∃ v ns,bW P rd o.op o.type e (σ0++gJ (bT o.after) news) v (σ0++gJ (bT o.after) news++ns)∧rH σ0.length ns∧Y1 all k σ0.length news v ∧
    bM P N rd all (k+1) rest (DI o.dst v e) σ0 (addN news k ns) K) ∨
   (jU all e o=some false∧bM P N rd all (k+1) rest (DI o.dst undef e) σ0 news K)))
section
variable {P:Program} {n0 N:Nat} {rd:Option Nat} {Q:Post} {e:Env} {mk:List Nat} {σ0:Heap} {news:List (Nat×Heap)} {K:Env→List (Nat×Heap)→List Oper→Prop} {k:Nat} {all rest:List Oper}
 {d:Nat} {op:Op} {ty:TypeId} {pos:String} {after:Array Edge} {v:Value} {j:Nat} {b want:Bool}
theorem fP (h:K e news rest):bM P N rd all k rest e σ0 news K:=by
 cases rest with
 |nil=>exact h
 |cons o r=>exact .inl h
theorem fr (h:bW P rd op ty e (σ0++gJ (bT after) news) v (σ0++gJ (bT after) news)) (hc:closed σ0.length v=true) (hd:Nat.blt d N=true) (hk:bM P N rd all (k+1) rest ((d,v)::e) σ0 news K) :
  bM P N rd all k (⟨some d,op,ty,pos,after,none⟩::rest) e σ0 news K :=
 .inr ⟨hd,.inl ⟨rfl,v,[],by simpa using h,fun _ hx=>by simp at hx,(CB (b:=σ0.length+(iw news).length) hc).toN rfl,by simpa [DI,addN] using hk⟩⟩
theorem fr1 {cs:List Value} (h:bW P rd op ty e (σ0++gJ (bT after) news) (.pointer (some ⟨(σ0++gJ (bT after) news).length,0,none⟩)) (σ0++gJ (bT after) news++[.rw cs])) (hc:dP σ0.length cs=true) (ho:okL cs=true) (hd:Nat.blt d N=true)
  (hk:bM P N rd all (k+1) rest ((d,.pointer (some ⟨(σ0++gJ (bT after) news).length,0,none⟩))::e) σ0 (addN news k [.rw cs]) K) :
  bM P N rd all k (⟨some d,op,ty,pos,after,none⟩::rest) e σ0 news K :=
 .inr ⟨hd,.inl ⟨rfl,_,[.rw cs],h,fun x hx=>⟨cs,by simpa using hx,hc,ho⟩,ad6.toN (by rw [aR,qB]),hk⟩⟩
theorem frN {cs:List Value} (h:bW P rd op ty e (σ0++gJ (bT after) news) v (σ0++gJ (bT after) news++[.rw cs])) (hv:Nok σ0.length (σ0++gJ (bT after) news).length v) (hc:dP σ0.length cs=true) (ho:okL cs=true) (hd:Nat.blt d N=true)
  (hk:bM P N rd all (k+1) rest ((d,v)::e) σ0 (addN news k [.rw cs]) K):bM P N rd all k (⟨some d,op,ty,pos,after,none⟩::rest) e σ0 news K :=
 .inr ⟨hd,.inl ⟨rfl,v,[.rw cs],h,fun x hx=>⟨cs,by simpa using hx,hc,ho⟩,hv.toN (by rw [aR,qB]),hk⟩⟩
theorem yQ (hg:jH all e j=some (.bool b)):jU all e ⟨some d,op,ty,pos,after,some (j,want)⟩=some (b == want):=by simp only [jU,hg]
theorem frG (hg:jH all e j=some (.bool b)) (hb:b=want) (h:bW P rd op ty e (σ0++gJ (bT after) news) v (σ0++gJ (bT after) news)) (hc:closed σ0.length v=true) (hd:Nat.blt d N=true) (hk:bM P N rd all (k+1) rest ((d,v)::e) σ0 news K) :
  bM P N rd all k (⟨some d,op,ty,pos,after,some (j,want)⟩::rest) e σ0 news K :=
 .inr ⟨hd,.inl ⟨by rw [yQ hg,hb];simp,v,[],by simpa using h,fun _ hx=>by simp at hx,(CB (b:=σ0.length+(iw news).length) hc).toN rfl,by simpa [DI,addN] using hk⟩⟩
theorem frS (hg:jH all e j=some (.bool b)) (hb:b=!want) (hd:Nat.blt d N=true) (hk:bM P N rd all (k+1) rest ((d,undef)::e) σ0 news K) :
  bM P N rd all k (⟨some d,op,ty,pos,after,some (j,want)⟩::rest) e σ0 news K :=
 .inr ⟨hd,.inr ⟨by rw [yQ hg,hb];cases want <;> rfl,hk⟩⟩
theorem frGd (_hg:jH all e j=some (.bool b)) (h1:b=true→bM P N rd all k (⟨some d,op,ty,pos,after,some (j,want)⟩::rest) e σ0 news K)
  (h2:b=false→bM P N rd all k (⟨some d,op,ty,pos,after,some (j,want)⟩::rest) e σ0 news K):bM P N rd all k (⟨some d,op,ty,pos,after,some (j,want)⟩::rest) e σ0 news K:=by
 cases hb:b
 ·exact h2 hb
 ·exact h1 hb
theorem aaQ {p:Prop} [Decidable p] (hg:jH all e j=some (.bool (decide p))) (h1:p→bM P N rd all k (⟨some d,op,ty,pos,after,some (j,want)⟩::rest) e σ0 news K)
  (h2:¬ p→bM P N rd all k (⟨some d,op,ty,pos,after,some (j,want)⟩::rest) e σ0 news K):bM P N rd all k (⟨some d,op,ty,pos,after,some (j,want)⟩::rest) e σ0 news K :=
 frGd hg (fun h=>h1 (of_decide_eq_true h)) (fun h=>h2 (of_decide_eq_false h))
structure Tr where
 o:Oper
 run:Bool
 v:Value
 ns:Heap
def U6 (P:Program) (N:Nat) (rd:Option Nat) (all:List Oper):Nat→List Tr→Env→Heap→List (Nat×Heap)→Prop
 |_,[],_,_,_=>True
 |k,t::ts,e,σ0,news=>(tH N t.o=true∧jU all e t.o=some t.run ∧
  (t.run=true→bW P rd t.o.op t.o.type e (σ0++gJ (bT t.o.after) news) t.v (σ0++gJ (bT t.o.after) news++t.ns))∧(t.run=false→t.v=undef∧t.ns=[])∧rH σ0.length t.ns∧Y1 all k σ0.length news t.v) ∧
  U6 P N rd all (k+1) ts (DI t.o.dst t.v e) σ0 (addN news k t.ns)
def lZ:List Tr→Env→Env
 |[],e=>e
 |t::ts,e=>lZ ts (DI t.o.dst t.v e)
def iC:Nat→List Tr→List (Nat×Heap)→List (Nat×Heap)
 |_,[],news=>news
 |k,t::ts,news=>iC (k+1) ts (addN news k t.ns)
def dY (ts:List Tr):Heap:=(ts.map (·.ns)).flatten
theorem oz:∀ (rest:List Oper) (k:Nat) (e:Env) (σ0:Heap) (news:List (Nat×Heap)) (K:Env→List (Nat×Heap)→List Oper→Prop),bM P N rd all k rest e σ0 news K →
  ∃ (ts:List Tr) (tl:List Oper),ts.map (·.o)++tl=rest∧U6 P N rd all k ts e σ0 news∧K (lZ ts e) (iC k ts news) tl
 |[],k,e,σ0,news,K,h=>⟨[],[],rfl,trivial,h⟩
 |o::rest,k,e,σ0,news,K,h=>by
  rcases h with h|⟨hd,h⟩
  ·exact ⟨[],o::rest,rfl,trivial,h⟩
  rcases h with ⟨hw,v,ns,h1,h2,a,h3⟩|⟨hw,h3⟩
  ·obtain ⟨ts,tl,g1,g2,g3⟩:=oz rest _ _ _ _ _ h3
   exact ⟨⟨o,true,v,ns⟩::ts,tl,by simp [g1],⟨⟨hd,hw,fun _=>h1,fun h=>by simp at h,h2,a⟩,g2⟩,g3⟩
  ·obtain ⟨ts,tl,g1,g2,g3⟩:=oz rest _ _ _ _ _ h3
   exact ⟨⟨o,false,undef,[]⟩::ts,tl,by simp [g1],⟨⟨hd,hw,fun h=>by simp at h,fun _=>⟨rfl,rfl⟩,fun _ h=>by simp at h,(CB (b:=σ0.length+(iw news).length) rfl).toN rfl⟩,g2⟩,g3⟩
def maskN:List Tr→Nat→(Nat→Bool)→Heap
 |[],_,_=>[]
 |t::ts,k,L=>(if L k then t.ns else hide t.ns)++maskN ts (k+1) L
theorem aaR (L:Nat→Bool) (news:List (Nat×Heap)) (k:Nat) (ns:Heap):gJ L (addN news k ns)=gJ L news++(if L k then ns else hide ns):=by
 cases ns with
 |nil=>simp [addN,hide]
 |cons x r=>cases hL:L k <;> simp [addN,gJ,hL]
theorem lD (L:Nat→Bool):∀ (ts:List Tr) (k:Nat) (news:List (Nat×Heap)),gJ L (iC k ts news)=gJ L news++maskN ts k L
 |[],_,_=>by simp [iC,maskN]
 |t::ts,k,news=>by simp only [iC,maskN];rw [lD L ts,aaR,cD]
theorem MV:∀ (ts:List Tr) (k:Nat) (e:Env) (news:List (Nat×Heap)),U6 P N rd all k ts e σ0 news→∀ (i:Nat) (hi:i<ts.length),
  tH N ts[i].o=true∧jU all (lZ (ts.take i) e) ts[i].o=some ts[i].run ∧
  (ts[i].run=true→bW P rd ts[i].o.op ts[i].o.type (lZ (ts.take i) e) (σ0++gJ (bT ts[i].o.after) (iC k (ts.take i) news)) ts[i].v (σ0++gJ (bT ts[i].o.after) (iC k (ts.take i) news)++ts[i].ns)) ∧
  (ts[i].run=false→ts[i].v=undef∧ts[i].ns=[])∧rH σ0.length ts[i].ns∧Y1 all (k+i) σ0.length (iC k (ts.take i) news) ts[i].v
 |[],_,_,_,_,i,hi=>by simp at hi
 |t::ts,k,e,news,⟨h1,h2⟩,i,hi=>by
  cases i with
  |zero=>simpa [iC,lZ] using h1
  |succ i=>simpa [iC,lZ,cF,e8 1 i] using MV ts _ _ _ h2 i (oU hi)
theorem Jh (ts:List Tr) (e:Env) (h:U6 P N rd all 0 ts e σ0 []) (i:Nat) (hi:i<ts.length) :
  tH N ts[i].o=true∧jU all (lZ (ts.take i) e) ts[i].o=some ts[i].run ∧
  (ts[i].run=true→bW P rd ts[i].o.op ts[i].o.type (lZ (ts.take i) e) (σ0++maskN (ts.take i) 0 (bT ts[i].o.after)) ts[i].v (σ0++maskN (ts.take i) 0 (bT ts[i].o.after)++ts[i].ns)) ∧
  (ts[i].run=false→ts[i].v=undef∧ts[i].ns=[])∧rH σ0.length ts[i].ns∧Y1 all i σ0.length (iC 0 (ts.take i) []) ts[i].v:=by
 have:=MV ts 0 e [] h i hi
 rw [lD,bA] at this
 exact this
theorem Y2 (news:List (Nat×Heap)) (k:Nat) (ns:Heap):iw (addN news k ns)=iw news++ns:=by
 cases ns <;> simp [addN,iw]
theorem Ji:∀ (ts:List Tr) (k:Nat) (news:List (Nat×Heap)),∃ r,iC k ts news=news++r
 |[],_,news=>⟨[],by simp [iC]⟩
 |t::ts,k,news=>by
  obtain ⟨r,h⟩:=Ji ts (k+1) (addN news k t.ns)
  simp only [iC,h]
  cases hn:t.ns with
  |nil=>exact ⟨r,by simp [addN]⟩
  |cons x y=>exact ⟨(k,x::y)::r,by simp [addN]⟩
theorem qU:∀ (ts:List Tr) (k:Nat) (news:List (Nat×Heap)) (i:Nat) (hi:i<ts.length),ts[i].ns ≠ [] →
  ∃ n1 n2,iC k ts news=n1++(k+i,ts[i].ns)::n2∧iw n1=iw news++dY (ts.take i)
 |[],_,_,i,hi,_=>by simp at hi
 |t::ts,k,news,i,hi,hne=>by
  cases i with
  |zero =>
   simp only [ec] at hne ⊢
   obtain ⟨r,h⟩:=Ji ts (k+1) (addN news k t.ns)
   refine ⟨news,r,?_,by simp [dY]⟩
   simp only [iC,h,cV]
   cases hn:t.ns with
   |nil=>exact absurd hn hne
   |cons x y=>simp [addN]
  |succ i =>
   simp only [List.getElem_cons_succ] at hne ⊢
   obtain ⟨n1,n2,h1,h2⟩:=qU ts (k+1) (addN news k t.ns) i (oU hi) hne
   refine ⟨n1,n2,?_,?_⟩
   ·simp only [iC,h1];rw [show k+1+i=k+(i+1) by omega]
   ·rw [h2,Y2];simp [dY]
theorem l7:∀ (ts:List Tr) (e:Env) (t:Nat) (v:Value),Env.get (lZ ts e) t=some v →
  (∃ (j:Nat) (hj:j<ts.length),ts[j].o.dst=some t∧ts[j].v=v∧∀ (k:Nat) (hk:k<ts.length),j<k→ts[k].o.dst ≠ some t) ∨
  (Env.get e t=some v∧∀ (k:Nat) (hk:k<ts.length),ts[k].o.dst ≠ some t)
 |[],e,t,v,h=>.inr ⟨h,fun k hk=>by simp at hk⟩
 |x::ts,e,t,v,h=>by
  rcases l7 ts _ t v h with ⟨j,hj,h1,h2,h3⟩|⟨h1,h2⟩
  ·refine .inl ⟨j+1,by simpa using hj,by simpa using h1,by simpa using h2,fun k hk a=>?_⟩
   cases k with
   |zero=>omega
   |succ k=>simpa using h3 k (oU hk) oO
  ·by_cases hx:x.o.dst=some t
   ·refine .inl ⟨0,by simp,hx,?_,fun k hk a=>?_⟩
    ·simp only [hx,DI,Env.get] at h1
     rw [show Nat.beq t t=true from Nat.beq_refl t] at h1
     simpa using h1
    ·cases k with
     |zero=>omega
     |succ k=>simpa using h2 k (oU hk)
   ·refine .inr ⟨?_,fun k hk=>?_⟩
    ·cases hd:x.o.dst with
     |none=>simpa [DI,hd] using h1
     |some d =>
      simp only [DI,hd,Env.get] at h1
      rw [jl (show ¬ d=t from fun c=>hx (by rw [hd,c]))] at h1
      exact h1
    ·cases k with
     |zero=>exact hx
     |succ k=>simpa using h2 k (oU hk)
theorem wR (l:Heap):(hide l).length=l.length:=by simp [hide]
theorem eY:∀ (ts:List Tr) (k:Nat) (L:Nat→Bool),(maskN ts k L).length=(dY ts).length
 |[],_,_=>rfl
 |t::ts,k,L=>by
  have:=eY ts (k+1) L
  simp only [maskN,dY,cG,eA,aR] at this ⊢
  split <;> simp [wR,this]
theorem uX:∀ (ts:List Tr) (k:Nat) (L:Nat→Bool) (id:Nat) (x:aB),(maskN ts k L)[id]?=some x →
  ∃ (j:Nat) (hj:j<ts.length) (q:Nat),id=(dY (ts.take j)).length+q∧q<ts[j].ns.length∧((L (k+j)=true∧ts[j].ns[q]?=some x)∨(L (k+j)=false∧x=.dead))
 |[],_,_,_,_,h=>by simp [maskN] at h
 |t::ts,k,L,id,x,h=>by
  have a:(if L k then t.ns else hide t.ns).length=t.ns.length:=by split <;> simp [wR]
  simp only [maskN] at h
  by_cases c:id<t.ns.length
  ·rw [bR (by rw [a];exact c)] at h
   refine ⟨0,by simp,id,by simp [dY],c,?_⟩
   cases hL:L k with
   |true=>rw [hL] at h;exact .inl ⟨rfl,by simpa using h⟩
   |false =>
    rw [hL] at h
    refine .inr ⟨rfl,?_⟩
    simp [hide,c] at h;exact h.symm
  ·rw [bE (by rw [a];omega),a] at h
   obtain ⟨j,hj,q,h1,h2,h3⟩:=uX ts (k+1) L _ x h
   refine ⟨j+1,by simpa using hj,q,?_,by simpa using h2,?_⟩
   ·simp only [List.take_succ_cons,dY,cG,eA,aR] at h1 ⊢;omega
   ·simpa [cF,e8 1 j] using h3
theorem qC:∀ (ts:List Tr) (k:Nat) (L:Nat→Bool) (j:Nat) (hj:j<ts.length) (q:Nat) (x:aB),L (k+j)=true→ts[j].ns[q]?=some x →
  (maskN ts k L)[(dY (ts.take j)).length+q]?=some x
 |[],_,_,_,hj,_,_,_,_=>by simp at hj
 |t::ts,k,L,j,hj,q,x,hL,hx=>by
  have a:(if L k then t.ns else hide t.ns).length=t.ns.length:=by split <;> simp [wR]
  cases j with
  |zero =>
   simp only [maskN,List.take_zero,dY,dz,ff,eb,bA]
   simp only [cV] at hL
   simp only [ec] at hx
   rw [bR (by rw [a];exact aQ hx),if_pos hL];exact hx
  |succ j =>
   have:=qC ts (k+1) L j (oU hj) q x (by rw [← hL];congr 1;omega) (oU hx)
   simp only [maskN,List.take_succ_cons,dY,cG,eA,aR] at this ⊢
   rw [bE (by rw [a];omega),a,show t.ns.length+((List.map (fun x=>x.ns) (List.take j ts)).flatten).length+q - t.ns.length=((List.map (fun x=>x.ns) (List.take j ts)).flatten).length+q from by omega]
   exact this
theorem vW {G G':Nat→Prop} {n m:Nat} {ρ:Rho} {w:World} {p:Pl} {o:aB} (h:LG G m ρ w p o) (hc:fO n o) (hG1:G p.b→G' p.b) (hG2:o.owned→¬ G' p.b) (hdp:(∀ b,G b→G' b)∨∀ qs sp,o ≠ .deep qs sp):LG G' n ρ w p o:=by
 cases o with
 |dead=>trivial
 |ro cs =>
  intro c
  obtain ⟨h1,h2⟩:=h c
  refine ⟨hG1 h1,fun k hk=>?_⟩
  obtain ⟨v',h3,h4⟩:=h2 k hk
  exact ⟨v',h3,vO h4 ((ou _ _).1 hc.1 _ (cP hk))⟩
 |rw cs =>
  intro c
  obtain ⟨h1,h2,rc,t,h3,h4,h5⟩:=h c
  exact ⟨hG2 c,h2,rc,t,h3,h4,fun k hk f=>vO (h5 k hk f) ((ou _ _).1 hc.1 _ (cP hk))⟩
 |gr cs t =>
  intro c
  obtain ⟨h1,h2,rc,h3,g,h4,h5⟩:=h c
  exact ⟨hG2 c,h2,rc,h3,g,h4,fun k hk f=>vO (h5 k hk f) ((ou _ _).1 hc.1 _ (cP hk))⟩
 |dfr=>exact ⟨hG2 trivial,h.2⟩
 |loop st pend N e params assign body =>
  obtain ⟨h1,r,h2,h3,h4,h5,h6,h7,h8⟩:=h
  refine ⟨hG2 trivial,r,h2,h3,h4,h5,h6,h7,h8.1,fun t v hv=>?_⟩
  obtain ⟨v',g1,g2⟩:=h8.2 t v hv
  exact ⟨v',g1,vO g2 (hc t v hv).1⟩
 |map es =>
  obtain ⟨h1,ents,a,h2,h3,h4,h5⟩:=h
  exact ⟨hG2 trivial,ents,a,h2,h3,fun i hi d=>⟨(h4 i hi d).1,(h4 i hi d).2.1,vO (h4 i hi d).2.2.1 (hc _ (cP hi)).1,(h4 i hi d).2.2.2⟩,h5⟩
 |iter k seen =>
  obtain ⟨h1,h2,ents,a,sb,h3,h4,h5⟩:=h
  exact ⟨hG2 trivial,hc,ents,a,sb,h3,h4,h5⟩
 |deep qs sp =>
  have hG:=hdp.resolve_right fun h=>h qs sp rfl
  refine ⟨fun hq=>?_,fun x hx=>?_⟩
  ·obtain ⟨h1,h2⟩:=h.1 hq
   refine ⟨hG1 h1,fun k hk=>?_⟩
   obtain ⟨v',h3,h4⟩:=h2 k hk
   exact ⟨v',h3,qy h4 hG (fun _ _ _ hy=>hy)⟩
  ·obtain ⟨h1,v',h3,h4⟩:=h.2 x hx
   exact ⟨hG1 h1,v',h3,vO h4 (hc x hx).1⟩
theorem iE {σ0 x:Heap} {i:Nat} (h:i < σ0.length):(σ0++x)[i]?=σ0[i]?:=bR h
theorem oC {σ0 x:Heap} {i:Nat}:(σ0++x)[σ0.length+i]?=x[i]?:=by rw [bE oO];congr 1;omega
def oth (G:Nat→Prop) (ρ:Rho) (σ0:Heap) (ts:List Tr) (L W:Nat→Bool):Nat→Prop :=
 fun b=>G b∨∃ (j:Nat) (hj:j<ts.length) (q:Nat) (x:aB),L j=true∧W j=false∧ts[j].ns[q]?=some x∧x.owned∧(ρ (σ0.length+((dY (ts.take j)).length+q))).b=b
theorem Rl:∀ {ts:List Tr} {j j' q q':Nat} (hj:j<ts.length) (hj':j'<ts.length),q<ts[j].ns.length→q'<ts[j'].ns.length→(dY (ts.take j)).length+q=(dY (ts.take j')).length+q'→j=j'
 |[],j,j',q,q',hj,_,_,_,_=>by simp at hj
 |t::ts,j,j',q,q',hj,hj',hq,hq',h=>by
  cases j with
  |zero =>
   cases j' with
   |zero=>rfl
   |succ j' =>
    simp only [List.take_zero,List.take_succ_cons,dY,dz,cG,ff,eA,eb,aR,ec] at h hq
    omega
  |succ j =>
   cases j' with
   |zero =>
    simp only [List.take_zero,List.take_succ_cons,dY,dz,cG,ff,eA,eb,aR,ec] at h hq'
    omega
   |succ j' =>
    have:=Rl (ts:=ts) (j:=j) (j':=j') (q:=q) (q':=q') (oU hj) (oU hj') (oU hq) (oU hq') (by
     simp only [List.take_succ_cons,dY,cG,eA,aR] at h ⊢
     omega)
    rw [this]
theorem DJ {G:Nat→Prop} {w0 w:World} {ρ:Rho} {ts:List Tr} {L W:Nat→Bool} {i:Nat} (hs:Sim G w0 ρ (σ0++maskN ts 0 L) w) (hcl:∀ (i:Nat) (o:aB),σ0[i]?=some o→fO σ0.length o)
  (hns:∀ (j:Nat) (hj:j<ts.length),rH σ0.length ts[j].ns) (hW:∀ j,W j=true→L j=true) :
  Sim (oth G ρ σ0 ts L W) w ρ (σ0++maskN (ts.take i) 0 W) w:=by
 have f:∀ (k:Nat) (o:aB),(σ0++maskN (ts.take i) 0 W)[k]?=some o→o=.dead∨((σ0++maskN ts 0 L)[k]?=some o∧(k < σ0.length∨∃ (j:Nat) (hj:j<ts.length) (q:Nat),W j=true∧ts[j].ns[q]?=some o∧k=σ0.length+((dY (ts.take j)).length+q))):=by
  intro k o hk
  by_cases a:k < σ0.length
  ·right
   rw [iE a] at hk ⊢
   exact ⟨hk,.inl a⟩
  ·rw [bE oO] at hk
   obtain ⟨j,hj,q,h1,h2,h3⟩:=uX (ts.take i) 0 W _ o hk
   simp only [eI] at hj
   have m:j<ts.length:=oO
   simp only [dC] at h2 h3
   rw [eJ,fj oO] at h1
   rcases h3 with ⟨c,hx⟩|⟨_,rfl⟩
   ·right
    simp only [bA] at c
    have:=qC ts 0 L j m q o (by simpa using hW j c) hx
    have e:k=σ0.length+((dY (ts.take j)).length+q):=oO
    exact ⟨by rw [e,oC];exact this,.inr ⟨j,m,q,c,hx,e⟩⟩
   ·exact .inl rfl
 have g:∀ (k:Nat) (o:aB),(σ0++maskN ts 0 L)[k]?=some o→(k < σ0.length∨∃ (j:Nat) (hj:j<ts.length) (q:Nat),W j=true∧ts[j].ns[q]?=some o∧k=σ0.length+((dY (ts.take j)).length+q))→o.owned→¬ oth G ρ σ0 ts L W (ρ k).b:=by
  intro k o hk r ho hg
  rcases hg with hg|⟨j,hj,q,x,hL,c,hx,v,hb⟩
  ·exact (fD (hs.obj k o hk) ho).2 hg
  ·have:=qC ts 0 L j hj q x (oU hL) hx
   have hkk:=hs.inj _ _ x o (by rw [oC];exact this) hk v ho hb
   rcases r with a|⟨j',s,q',d,t,e⟩
   ·omega
   ·have:=Rl hj s (aQ hx) (aQ t) oO
    subst this
    rw [c] at d;cases d
 refine ⟨rfl,rfl,rfl,aD _,fun b hb=>⟨?_,rfl⟩,fun k o hk=>?_,fun p q op oq hp hq l n u=>?_⟩
 ·rcases hb with hb|⟨j,hj,q,x,hL,_,hx,ho,rfl⟩
  ·have:=(hs.fgn b hb).1;have:=hs.size;omega
  ·have:=qC ts 0 L j hj q x (oU hL) hx
   exact (fD (hs.obj _ x (by rw [oC];exact this)) ho).1
 ·rcases f k o hk with rfl|⟨h1,h2⟩
  ·trivial
  ·have hc:fO σ0.length o:=by
    rcases h2 with a|⟨j,hj,q,_,hx,_⟩
    ·rw [iE a] at h1;exact hcl k o h1
    ·obtain ⟨cs,rfl,h3,h4⟩:=hns j hj o (ew hx)
     exact ⟨h3,h4⟩
   exact nT (vW (G':=oth G ρ σ0 ts L W) (hs.obj k o h1) hc .inl (g k o h1 h2) (.inl fun _=>.inl)) oS (fun _ _=>rfl) (fun _ h=>h) (fun _ _ _ _ h=>h) (fun _ _ _ h=>h)
 ·rcases f p op hp with rfl|⟨h1,_⟩
  ·exact l.elim
  rcases f q oq hq with rfl|⟨h2,_⟩
  ·exact n.elim
  exact hs.inj p q op oq h1 h2 l n u
def jR (L:Nat→Bool) (i:Nat):Nat→Bool:=fun j=>if j=i then true else L j
def rF (ρ ρ':Rho) (b l:Nat):Rho:=fun id=>if b≤id∧id<b+l then ρ' id else ρ id
theorem uG {ts:List Tr} {i:Nat} (hi:i<ts.length):(dY (ts.take i)).length+ts[i].ns.length≤(dY ts).length:=by
 have e:ts.take i++ts[i]::ts.drop (i+1)=ts:=by rw [← List.drop_eq_getElem_cons hi,List.take_append_drop]
 have:(dY ts).length=(dY (ts.take i)).length+(ts[i].ns.length+(dY (ts.drop (i+1))).length):=by
  conv=>lhs;rw [← e]
  simp only [dY,eC,cG,List.flatten_append,eA,aR]
 omega
theorem qV {ts:List Tr} {i j:Nat} (hij:i<j) (hj:j≤ts.length):(dY (ts.take i)).length+(ts[i]'oO).ns.length≤(dY (ts.take j)).length:=by
 have h1:i<(ts.take j).length:=by simp;omega
 have:=uG (ts:=ts.take j) h1
 simpa [eJ,fj (eK hij)] using this
theorem Jj {G:Nat→Prop} {w0 w w':World} {ρ ρ':Rho} {ts:List Tr} {L W:Nat→Bool} {i:Nat} (hi:i<ts.length) (hL:L i=false) (hW:∀ j,W j=true→j<i)
  (hs:Sim G w0 ρ (σ0++maskN ts 0 L) w) (hns:∀ (j:Nat) (hj:j<ts.length),rH σ0.length ts[j].ns)
  (hag:∀ k < σ0.length+(dY (ts.take i)).length,ρ' k=ρ k) (hs':Sim (oth G ρ σ0 ts L W) w ρ' (σ0++maskN (ts.take i) 0 W++ts[i].ns) w') :
  Sim G w0 (rF ρ ρ' (σ0.length+(dY (ts.take i)).length) ts[i].ns.length) (σ0++maskN ts 0 (jR L i)) w':=by
 let b:=σ0.length+(dY (ts.take i)).length
 have E:(σ0++maskN (ts.take i) 0 W++ts[i].ns).length=b+ts[i].ns.length:=by simp [eY,b,cF]
 have hle:=uG hi
 have U:(σ0++maskN ts 0 (jR L i)).length=σ0.length+(dY ts).length:=by simp [eY]
 have u:∀ k < σ0.length,rF ρ ρ' b ts[i].ns.length k=ρ k:=fun k hk=>by simp only [rF];rw [if_neg oO]
 have a:∀ k<b+ts[i].ns.length,rF ρ ρ' b ts[i].ns.length k=ρ' k:=fun k hk=>by
  simp only [rF];split
  ·rfl
  ·rw [hag k oO]
 have J:∀ (id:Nat) (x:aB),(σ0++maskN ts 0 (jR L i))[id]?=some x→x.owned∨(∃ cs,x=.ro cs∧cs ≠ []) →
   ((σ0++maskN (ts.take i) 0 W++ts[i].ns)[id]?=some x∧id<b+ts[i].ns.length∧(id < σ0.length∨∃ cs,x=aB.rw cs)) ∨
   (∃ (j:Nat) (hj:j<ts.length) (q:Nat),j ≠ i∧L j=true∧W j=false∧ts[j].ns[q]?=some x∧id=σ0.length+((dY (ts.take j)).length+q)):=by
  intro id x hx f
  by_cases g:id < σ0.length
  ·left
   rw [iE g] at hx
   exact ⟨by rw [cD,iE g];exact hx,oO,.inl g⟩
  ·rw [bE oO] at hx
   obtain ⟨j,hj,q,h1,h2,h3⟩:=uX ts 0 (jR L i) _ x hx
   rcases h3 with ⟨d,e⟩|⟨_,rfl⟩
   ·simp only [bA,jR] at d
    have P:∃ cs,x=aB.rw cs:=let ⟨cs,h,_⟩:=hns j hj x (ew e);⟨cs,h⟩
    by_cases l:j=i
    ·subst l
     left
     have:id=(σ0++maskN (ts.take j) 0 W).length+q:=by simp [eY];omega
     refine ⟨by rw [this,oC];exact e,oO,.inr P⟩
    ·rw [if_neg l] at d
     cases m:W j with
     |false=>exact .inr ⟨j,hj,q,l,d,m,e,oO⟩
     |true =>
      left
      have g:=hW j m
      have X:j<(ts.take i).length:=by simp;omega
      have hm:=qC (ts.take i) 0 W j X q x (oU m) (oU e)
      rw [eJ,fj oO] at hm
      have R:id=σ0.length+((dY (ts.take j)).length+q):=oO
      have O:=(List.getElem?_eq_some_iff.1 hm).1
      rw [eY] at O
      refine ⟨by rw [cD,R,oC,bR (by rw [eY];exact O)];exact hm,oO,.inr P⟩
   ·rcases f with f|⟨cs,D,_⟩
    ·exact f.elim
    ·cases D
 have c:∀ (j:Nat) (hj:j<ts.length) (q:Nat) (x:aB),j ≠ i→L j=true→ts[j].ns[q]?=some x →
   (σ0++maskN ts 0 L)[σ0.length+((dY (ts.take j)).length+q)]?=some x∧rF ρ ρ' b ts[i].ns.length (σ0.length+((dY (ts.take j)).length+q))=ρ (σ0.length+((dY (ts.take j)).length+q)):=by
  intro j hj q x l d e
  refine ⟨by rw [oC];exact qC ts 0 L j hj q x (oU d) e,?_⟩
  have hq:=aQ e
  simp only [rF]
  rw [if_neg ?_]
  intro hc
  rcases fu l with g|T
  ·have:=qV g (eK hi);omega
  ·have:=qV T (eK hj);omega
 refine ⟨hs'.os.trans hs.os,hs'.tape.trans hs.tape,hs'.output.trans hs.output,ej hs.size hs'.size,fun bb hb=>?_,fun id x hx=>?_,fun p q op oq hp hq v C o=>?_⟩
 ·obtain ⟨h1,h2⟩:=hs.fgn bb hb
  exact ⟨h1,((hs'.fgn bb (.inl hb)).2).trans h2⟩
 ·rw [U]
  by_cases H:∃ qs sp,x=.deep qs sp
  ·obtain ⟨qs,sp,rfl⟩:=H
   have g:id < σ0.length:=by
    apply Classical.byContradiction
    intro g
    rw [bE oO] at hx
    obtain ⟨j,hj,q,h1,h2,h3⟩:=uX ts 0 (jR L i) _ _ hx
    rcases h3 with ⟨_,e⟩|⟨_,he⟩
    ·obtain ⟨cs,he,_⟩:=hns j hj _ (ew e);cases he
    ·cases he
   rw [iE g] at hx
   have h0:(σ0++maskN ts 0 L)[id]?=some (.deep qs sp):=by rw [iE g];exact hx
   have h1:(σ0++maskN (ts.take i) 0 W++ts[i].ns)[id]?=some (.deep qs sp):=by rw [cD,iE g];exact hx
   have hr:=hs.obj id _ h0
   have Q:=hs'.obj id _ h1
   rw [E] at Q
   have z:∀ b,G b→∀ y,w.heap[b]?=some y→w'.heap[b]?=some y:=fun b hb y hy=>by rw [(hs'.fgn b (.inl hb)).2];exact hy
   have K:ρ' id=ρ id:=hag id oO
   rw [a id oO]
   refine ⟨fun hq=>?_,fun y hy=>?_⟩
   ·obtain ⟨g1,g2⟩:=hr.1 hq
    rw [K]
    refine ⟨g1,fun k hk=>?_⟩
    obtain ⟨v',g3,g4⟩:=g2 k hk
    exact ⟨v',lX g3 (z _ g1),qy g4 (fun _ h=>h) z⟩
   ·obtain ⟨g1,_⟩:=hr.2 y hy
    obtain ⟨_,v',g3,g4⟩:=Q.2 y hy
    exact ⟨by rw [K];exact g1,v',g3,g4.mono oO (fun k hk=>a k hk)⟩
  by_cases f:x.owned∨(∃ cs,x=.ro cs∧cs ≠ [])
  ·rcases J id x hx f with ⟨h1,h2,h3⟩|⟨j,hj,q,l,d,m,e,rfl⟩
   ·have hr:=hs'.obj id x h1
    rw [E] at hr
    rw [a id h2]
    have hc:fO (b+ts[i].ns.length) x:=je hr
    refine nT (vW (G':=G) hr hc ?_ ?_ (.inr fun qs sp he=>H ⟨qs,sp,he⟩)) oO (fun k hk=>a k hk) (fun _ h=>h) (fun _ _ _ _ h=>h) (fun _ _ _ h=>h)
    ·intro hg
     rcases hg with hg|⟨j,hj,q,y,d,m,hy,N,M⟩
     ·exact hg
     ·exfalso
      rcases f with f|⟨cs,rfl,D⟩
      ·exact (fD hr f).2 (.inr ⟨j,hj,q,y,d,m,hy,N,M⟩)
      ·
       have g:id < σ0.length:=by
        rcases h3 with h3|⟨cs',he⟩
        ·exact h3
        ·cases he
       have h0:(σ0++maskN ts 0 L)[id]?=some (.ro cs):=by rw [cD,iE g] at h1;rw [iE g];exact h1
       obtain ⟨hg,_⟩:=hs.obj id _ h0 D
       have B:=fD (hs.obj _ y (c j hj q y (fun l=>by subst l;rw [hL] at d;cases d) d hy).1) N
       rw [M,hag id oO] at B
       exact B.2 hg
    ·intro ho hg;exact (fD hr ho).2 (.inl hg)
   ·obtain ⟨g1,g2⟩:=c j hj q x l d e
    rw [g2]
    obtain ⟨cs,rfl,V,S⟩:=hns j hj x (ew e)
    have hr:=hs.obj _ _ g1
    refine nT (vW (n:=σ0.length) (G':=G) hr ⟨V,S⟩ (fun h=>h) (fun ho=>(fD hr ho).2) (.inl fun _ h=>h)) oO u ?_ (fun _ _ h=>by cases h) (fun b hb y hy=>by rw [(hs'.fgn b (.inl hb)).2];exact hy)
    intro y hy
    have ho:(aB.rw cs).owned:=by
     rcases f with f|⟨_,D,_⟩
     ·exact f
     ·cases D
    rw [(hs'.fgn _ (.inr ⟨j,hj,q,_,d,m,e,ho,rfl⟩)).2];exact hy
  ·cases x with
   |dead=>trivial
   |ro cs=>intro hc;exact absurd (.inr ⟨cs,rfl,hc⟩) f
   |rw cs=>intro hc;exact absurd (.inl hc) f
   |gr cs t=>intro hc;exact absurd (.inl hc) f
   |deep qs sp=>exact absurd ⟨qs,sp,rfl⟩ H
   |_=>exact absurd (.inl trivial) f
 ·rcases J p op hp (.inl v) with ⟨h1,h2,h3⟩|⟨j,hj,k,l,d,m,e,rfl⟩ <;> rcases J q oq hq (.inl C) with ⟨g1,g2,g3⟩|⟨j',I,k',A,r,F,s,rfl⟩
  ·rw [a p h2,a q g2] at o
   exact hs'.inj p q op oq h1 g1 v C o
  ·obtain ⟨e1,e2⟩:=c j' I k' oq A r s
   rw [a p h2,e2] at o
   exact absurd (.inr ⟨j',I,k',oq,r,F,s,C,o.symm⟩) (fD (hs'.obj p op h1) v).2
  ·obtain ⟨e1,e2⟩:=c j hj k op l d e
   rw [a q g2,e2] at o
   exact absurd (.inr ⟨j,hj,k,op,d,m,e,v,o⟩) (fD (hs'.obj q oq g1) C).2
  ·obtain ⟨e1,e2⟩:=c j hj k op l d e
   obtain ⟨e3,e4⟩:=c j' I k' oq A r s
   rw [e2,e4] at o
   exact hs.inj _ _ op oq e1 e3 v C o
end
section
variable {all:List Oper} {m:Nat}
theorem draw_parts (h:drawOk all m=true) {j:Nat} {o:Oper} (hj:all[j]?=some o) :
  vV o=true∧(∀ e ∈ o.after,Region.binds .any e=true→e.on<j)∧(∀ g b,o.guard=some (g,b)→waits o g=true) ∧
  ∀ i oi,i<j→all[i]?=some oi→(∀ D:Nat→Prop,Closed all D→(∀ k,waits o k=true→D k)→D i)∨(i<m∧j<m∧oi.apart all.toArray o=true):=by
 obtain ⟨mk,this,a⟩:=chkD_get all 0 [] rfl rfl oO (fun k mk hk=>by simp at hk) h j o hj
 rw [bA] at this a
 unfold partOk at this
 simp only [aE] at this
 obtain ⟨⟨⟨h1,h2⟩,h3⟩,h4⟩:=this
 refine ⟨h1,fun e he hb=>?_,fun g b hg=>?_,fun i oi hi c=>?_⟩
 ·have:=Array.all_eq_true_iff_forall_mem.1 h2 e he
  simp only [hb,Bool.not_true,Bool.false_or,bX] at this;exact this
 ·rw [hg] at h3;exact h3
 ·have:=List.all_eq_true.1 h4 i (oU hi)
  simp only [c,eq,aE,bX] at this
  rcases this with h|⟨⟨h5,h6⟩,h7⟩
  ·exact .inl fun D hD hw=>a D hD o hj hw i h
  ·exact .inr ⟨h5,h7,h6⟩
theorem waits_lt (h:drawOk all m=true) {j i:Nat} {o:Oper} (hj:all[j]?=some o) (hw:bT o.after i=true):i<j:=by
 unfold bT at hw
 obtain ⟨e,he,hb⟩:=Array.any_eq_true'.1 hw
 simp only [aE] at hb
 rw [← aM hb.2]
 exact (draw_parts h hj).2.1 e he hb.1
theorem iF {listed:Array Bool} {j i:Nat} {o:Oper} (hr:j ∈ Region.ready .any all.toArray listed) (ho:all[j]?=some o) (hw:waits o i=true):listed.getD i false=true:=by
 obtain ⟨_,o',a,h⟩:=mem_ready.1 hr
 rw [bO,ho] at a
 cases a
 unfold waits bT at hw
 obtain ⟨e,he,hb⟩:=Array.any_eq_true'.1 hw
 simp only [aE] at hb
 rw [← aM hb.2]
 exact h e he hb.1
def cnt (n:Nat) (listed:Array Bool):Nat:=(List.range n).countP fun i=>!listed.getD i true
theorem U7 {l:List Nat} (hn:l.Nodup) {p q:Nat→Bool} {i:Nat} (hi:i ∈ l) (hp:p i=true) (hq:q i=false) (hpq:∀ j,j ≠ i→q j=p j):l.countP p=l.countP q+1:=by
 induction l with
 |nil=>simp at hi
 |cons x l ih =>
  obtain ⟨hx,e⟩:=List.nodup_cons.1 hn
  by_cases c:x=i
  ·subst c
   rw [List.countP_cons_of_pos hp,List.countP_cons_of_neg (by simp [hq])]
   congr 1
   exact List.countP_congr fun j hj=>by rw [hpq j (fun f=>hx (f ▸ hj))]
  ·have d:i ∈ l:=by
    rcases List.mem_cons.1 hi with h|h
    ·exact absurd h.symm c
    ·exact h
   have:=ih e d
   by_cases a:p x=true
   ·rw [List.countP_cons_of_pos a,List.countP_cons_of_pos (by rw [hpq x c];exact a)];omega
   ·rw [List.countP_cons_of_neg a,List.countP_cons_of_neg (by rw [hpq x c];exact a)];exact this
theorem qW {n:Nat} {listed:Array Bool} {i:Nat} (hi:i<n) (hs:listed.size=n) (hf:listed.getD i true=false):cnt n listed=cnt n (listed.setIfInBounds i true)+1:=by
 refine U7 List.nodup_range (i:=i) (oU hi) (by simp only [hf];rfl) ?_ fun j hj=>?_
 ·have:(listed.setIfInBounds i true).getD i true=true:=by simp [hs,hi]
  simp only [this];rfl
 ·rw [getD_set_ne true (Ne.symm hj)]
theorem getD_lt {listed:Array Bool} {i:Nat} (h:i<listed.size) (d d':Bool):listed.getD i d=listed.getD i d':=by simp [h]
end
section
variable {P:Program} {N:Nat} {rd:Option Nat} {e0:Env} {mk:List Nat} {σ0:Heap} {all:List Oper} {ts:List Tr} {n0:Nat}
structure yc (n0 N:Nat) (G:Nat→Prop) (w0:World) (ρ0:Rho) (e0:Env) (mk:List Nat) (σ0:Heap) (ts:List Tr) (L:Nat→Bool) (A:Act) (w:World) (ρ:Rho):Prop where
 ag:∀ i<n0,ρ i=ρ0 i
 sim:Sim G w0 ρ (σ0++maskN ts 0 L) w
 sz:A.tmps.size=N
 mks:A.defers=(mk.map fun i=>{ target:=.collected (ρ i).b,args:=#[] })++aaL n0 ρ0
 old:∀ t v,Env.get e0 t=some v→(∀ (k:Nat) (hk:k<ts.length),L k=true→ts[k].o.dst ≠ some t)→∃ v',A.tmps[t]?=some v'∧gq σ0.length ρ v v'
 new:∀ (k:Nat) (hk:k<ts.length),L k=true→∀ t,ts[k].o.dst=some t→(∀ (j:Nat) (hj:j<ts.length),k<j→L j=true→ts[j].o.dst ≠ some t) →
  ∃ v',A.tmps[t]?=some v'∧gq (σ0.length+((dY (ts.take k)).length+ts[k].ns.length)) ρ ts[k].v v'
theorem dinv_sees {G:Nat→Prop} {w0:World} {ρ0 ρ:Rho} {L:Nat→Bool} {A:Act} {w:World} (hd:yc n0 N G w0 ρ0 e0 mk σ0 ts L A w ρ) (hall:∀ (i:Nat) (hi:i<ts.length),all[i]?=some ts[i].o)
  (hchk:drawOk all ts.length=true) {i:Nat} (hi:i<ts.length) (hLi:L i=false) (hw:∀ j,waits ts[i].o j=true→L j=true) (hdc:Closed all fun k=>L k=true)
  {t:Nat} (ht:t ∈ ts[i].o.looksAt all.toArray) {v:Value} (hv:Env.get (lZ (ts.take i) e0) t=some v):∃ v',A.tmps[t]?=some v'∧gq (σ0.length+(dY (ts.take i)).length) ρ v v':=by
 have d:∀ (j:Nat) (hj:j<i),(ts[j]'oO).o.dst=some t→L j=true:=by
  intro j hj a
  rcases (draw_parts hchk (hall i hi)).2.2.2 j _ hj (hall j oO) with h|⟨_,_,h⟩
  ·exact h _ hdc hw
  ·exact absurd ht ((Oper.apart_spec h).1 t a)
 have f:∀ (j:Nat) (hj:j<ts.length),i<j→ts[j].o.dst=some t→L j=true→False:=by
  intro j hj q a m
  rcases (draw_parts hchk (hall j hj)).2.2.2 i _ q (hall i hi) with h|⟨_,_,h⟩
  ·have:=h _ hdc (hdc j _ (hall j hj) m)
   rw [hLi] at this;cases this
  ·exact absurd ht ((Oper.apart_spec h).2.2 t a)
 rcases l7 _ _ _ _ hv with ⟨j,hj,h1,h2,h3⟩|⟨h1,h2⟩
 ·have l:j<i:=by simp at hj;omega
  rw [dC] at h1 h2
  obtain ⟨v',g1,g2⟩:=hd.new j oO (d j l h1) t h1 fun k hk p c e=>by
   rcases fv k i with n|rfl|g
   ·have:=h3 k (by simp;omega) p
    rw [dC] at this;exact this e
   ·rw [hLi] at c;cases c
   ·exact f k hk g e c
  refine ⟨v',g1,?_⟩
  rw [← h2]
  have:=qV l (eK hi)
  exact g2.mono oO fun _ _=>rfl
 ·obtain ⟨v',g1,g2⟩:=hd.old t v h1 fun k hk c e=>by
   rcases fv k i with n|rfl|g
   ·have:=h2 k (by simp;omega)
    rw [dC] at this;exact this e
   ·rw [hLi] at c;cases c
   ·exact f k hk g e c
  exact ⟨v',g1,g2.mono oO fun _ _=>rfl⟩
theorem dinv_step {G:Nat→Prop} {w0:World} {ρ0 ρ ρ':Rho} {L:Nat→Bool} {A:Act} {w w':World} (hd:yc n0 N G w0 ρ0 e0 mk σ0 ts L A w ρ) (hall:∀ (i:Nat) (hi:i<ts.length),all[i]?=some ts[i].o)
  (hchk:drawOk all ts.length=true) (hn0:n0≤σ0.length) (hmk:∀ i ∈ mk,i < σ0.length)
  (hns:∀ (j:Nat) (hj:j<ts.length),rH σ0.length ts[j].ns) (hnok:∀ (j:Nat) (hj:j<ts.length) (i:Nat) (hi:i<j),(∃ D:Nat→Prop,Closed all D∧D j∧¬ D i)→∀ (m:Nat) (ρ ρ':Rho) (v':Value),gq m ρ ts[j].v v' →
   (∀ q,q < σ0.length+(dY (ts.take i)).length∨σ0.length+(dY (ts.take i)).length+ts[i].ns.length≤q→ρ' q=ρ q)→gq m ρ' ts[j].v v')
  {i:Nat} (hi:i<ts.length) (hLi:L i=false) (hdc:Closed all fun k=>L k=true) (hdst:tH N ts[i].o=true)
  {v':Value} (hag:∀ k < σ0.length+(dY (ts.take i)).length,ρ' k=ρ k) (hv:gq (σ0.length+((dY (ts.take i)).length+ts[i].ns.length)) ρ' ts[i].v v')
  (hs':Sim (oth G ρ σ0 ts L (bT ts[i].o.after)) w ρ' (σ0++maskN (ts.take i) 0 (bT ts[i].o.after)++ts[i].ns) w') :
  yc n0 N G w0 ρ0 e0 mk σ0 ts (jR L i) (A.put ts[i].o.dst v') w' (rF ρ ρ' (σ0.length+(dY (ts.take i)).length) ts[i].ns.length):=by
 have a:∀ k < σ0.length+(dY (ts.take i)).length,rF ρ ρ' (σ0.length+(dY (ts.take i)).length) ts[i].ns.length k=ρ k:=fun k hk=>by simp only [rF];rw [if_neg oO]
 have c:∀ k < σ0.length+((dY (ts.take i)).length+ts[i].ns.length),rF ρ ρ' (σ0.length+(dY (ts.take i)).length) ts[i].ns.length k=ρ' k:=fun k hk=>by
  simp only [rF];split
  ·rfl
  ·rw [hag k oO]
 have g:∀ k,σ0.length+(dY (ts.take i)).length+ts[i].ns.length≤k→rF ρ ρ' (σ0.length+(dY (ts.take i)).length) ts[i].ns.length k=ρ k:=fun k hk=>by simp only [rF];rw [if_neg oO]
 have l:∀ t u,A.tmps[t]?=some u→ts[i].o.dst ≠ some t→(A.put ts[i].o.dst v').tmps[t]?=some u:=by
  intro t u hu y
  cases hdd:ts[i].o.dst with
  |none=>simpa [Act.put] using hu
  |some d =>
   simp only [Act.put]
   rw [fg (fun C=>y (by rw [hdd,C]))];exact hu
 refine ⟨fun k hk=>(a k oO).trans (hd.ag k hk),Jj hi hLi (fun j hj=>waits_lt hchk (hall i hi) hj) hd.sim hns hag hs',?_,?_,fun t v ht f=>?_,fun k hk x t r f=>?_⟩
 ·cases hdd:ts[i].o.dst <;> simp [Act.put,hd.sz]
 ·have:(A.put ts[i].o.dst v').defers=A.defers:=by cases ts[i].o.dst <;> rfl
  rw [this,hd.mks]
  congr 1
  exact eD fun k hk=>by rw [a k (by have:=hmk k hk;omega)]
 ·obtain ⟨u,g1,g2⟩:=hd.old t v ht fun k hk x=>f k hk (by simp only [jR];split <;> simp [x])
  exact ⟨u,l t u g1 (f i hi (by simp [jR])),g2.mono (aD _) fun k hk=>a k oO⟩
 ·by_cases p:k=i
  ·subst p
   refine ⟨v',?_,hv.mono oO c⟩
   simp only [r,tH,bX] at hdst
   simp only [r,Act.put]
   rw [fz (by rw [hd.sz];exact hdst)]
  ·have e:L k=true:=by simpa [jR,p] using x
   have y:ts[i].o.dst ≠ some t:=by
    intro z
    rcases fu p with s|n
    ·exact f i hi s (by simp [jR]) z
    ·rcases (draw_parts hchk (hall k hk)).2.2.2 i _ n (hall i hi) with h|⟨_,_,h⟩
     ·have:=h _ hdc (hdc k _ (hall k hk) e)
      rw [hLi] at this;cases this
     ·exact (Oper.apart_spec h).2.1 t z r
   obtain ⟨u,g1,g2⟩:=hd.new k hk e t r fun j hj E B=>f j hj E (by simp only [jR];split <;> simp [B])
   refine ⟨u,l t u g1 y,?_⟩
   rcases fu p with s|n
   ·have:=qV s (eK hi)
    exact g2.mono (aD _) fun j hj=>a j oO
   ·have:=qV n (eK hk)
    exact hnok k hk i n ⟨fun q=>L q=true,hdc,e,by simp [hLi]⟩ _ _ _ _ g2 fun j hj=>by
     rcases hj with hj|hj
     ·exact a j hj
     ·exact g j hj
theorem zT {A:Act} {o:Oper} {e:Env} {b:Bool} (hw:jU all e o=some b) (hg:∀ g want,o.guard=some (g,want)→∀ t,((all[g]?).bind (·.dst))=some t→∀ v,Env.get e t=some v→∃ n ρ v',A.tmps[t]?=some v'∧gq n ρ v v') :
  Region.wanted o (yielded all.toArray A.tmps)=b:=by
 unfold jU at hw
 cases hgd:o.guard with
 |none=>rw [hgd] at hw;simp at hw;subst hw;simp [Region.wanted,hgd]
 |some gw =>
  obtain ⟨g,want⟩:=gw
  rw [hgd] at hw
  simp only at hw
  cases hv:jH all e g with
  |none=>simp [hv] at hw
  |some u =>
   rw [hv] at hw
   have a:∃ t,(all[g]?).bind (·.dst)=some t∧Env.get e t=some u:=by
    unfold jH at hv
    cases ho:all[g]? with
    |none=>simp [ho] at hv
    |some og =>
     simp only [ho] at hv
     cases hd:og.dst with
     |none=>simp [hd] at hv
     |some t=>exact ⟨t,by simp [hd],by simpa [hd] using hv⟩
   obtain ⟨t,ht,hu⟩:=a
   obtain ⟨n,ρ,v',h1,h2⟩:=hg g want hgd t ht _ hu
   split at hw
   ·rename_i q hq
    cases hq
    rw [bH h2 rfl] at h1
    simp only [Option.some.injEq] at hw
    subst hw
    simp [Region.wanted,hgd,yielded,ht,h1]
   ·rename_i hq
    cases hq
    rw [bH h2 rfl] at h1
    simp only [Option.some.injEq] at hw
    subst hw
    simp [Region.wanted,hgd,yielded,ht,h1]
   ·cases hw
theorem Gz {L L':Nat→Bool}:∀ (ts:List Tr) (k:Nat),(∀ j<ts.length,L (k+j)=L' (k+j))→maskN ts k L=maskN ts k L'
 |[],_,_=>rfl
 |t::ts,k,h=>by
  have h0:=h 0 oS
  simp only [cV] at h0
  have h1:=Gz (L:=L) (L':=L') ts (k+1) fun j hj=>by have:=h (j+1) (oU hj);simpa [cF,e8 1 j] using this
  simp only [maskN,h0,h1]
theorem jc {G:Nat→Prop} {w0:World} {ρ0 ρ:Rho} {L L':Nat→Bool} {A:Act} {w:World} (h:∀ k<ts.length,L k=L' k) (hd:yc n0 N G w0 ρ0 e0 mk σ0 ts L A w ρ):yc n0 N G w0 ρ0 e0 mk σ0 ts L' A w ρ :=
 ⟨hd.ag,by rw [← Gz ts 0 (fun j hj=>by simpa using h j hj)];exact hd.sim,hd.sz,hd.mks,fun t v ht a=>hd.old t v ht fun k hk hL=>a k hk (by rw [← h k hk];exact hL),
  fun k hk hL t ht a=>hd.new k hk (by rw [h k hk];exact hL) t ht fun j hj c d=>a j hj c (by rw [← h j hj];exact d)⟩
theorem Jk {n m:Nat} {listed:Array Bool} (_hm:m≤n) (h:∀ i<n,listed.getD i true=decide (i<m)):cnt n listed=n - m:=by
 unfold cnt
 have:∀ k≤n,(List.range k).countP (fun i=>!listed.getD i true)=k - m:=by
  intro k
  induction k with
  |zero=>intro _;simp
  |succ k ih =>
   intro hk
   rw [fy,List.countP_append,ih oO,List.countP_singleton,h k oO]
   by_cases a:k<m <;> simp [a] <;> omega
 exact this n (aD _)
theorem gY {listed:Array Bool} {i j:Nat} (hi:i<listed.size):(listed.setIfInBounds i true).getD j false=if j=i then true else listed.getD j false:=by
 by_cases hj:j=i
 ·subst hj;simp [hi]
 ·rw [if_neg hj,getD_set_ne false (Ne.symm hj)]
theorem free_any {G:Nat→Prop} {w0:World} {ρ0:Rho} {Q':Exit→Act→World→Prop} (hrd:lQ rd n0=true) (hall:∀ (i:Nat) (hi:i<ts.length),all[i]?=some ts[i].o)
  (hchk:drawOk all ts.length=true) (hn0:n0≤σ0.length) (hmk:∀ i ∈ mk,i < σ0.length) (hcl:∀ (i:Nat) (o:aB),σ0[i]?=some o→fO σ0.length o) (htr:U6 P N rd all 0 ts e0 σ0 [])
  (hfin:∀ A w ρ fuel listed,listed.size=all.length→(∀ i<all.length,listed.getD i false=decide (i<ts.length))→yc n0 N G w0 ρ0 e0 mk σ0 ts (fun i=>listed.getD i false) A w ρ →
   fuel=all.length - ts.length→wpAnyIn (fen ρ0 rd) 0 P .any all.toArray Q' fuel listed A w)
  (hlen:ts.length≤all.length):∀ (fuel:Nat) (listed:Array Bool) (A:Act) (w:World) (ρ:Rho),listed.size=all.length→(∀ i,ts.length≤i→listed.getD i false=false)→cnt all.length listed=fuel →
  Closed all (fun k=>listed.getD k false=true) →
  yc n0 N G w0 ρ0 e0 mk σ0 ts (fun i=>listed.getD i false) A w ρ→wpAnyIn (fen ρ0 rd) 0 P .any all.toArray Q' fuel listed A w:=by
 intro fuel
 induction fuel with
 |zero =>
  intro listed A w ρ F K d B hd
  have T:∀ i<all.length,listed.getD i false=true:=by
   intro i hi
   unfold cnt at d
   have:=(List.countP_eq_zero.1 d) i (oU hi)
   simp only [eQ,Bool.not_eq_false] at this
   rw [getD_lt oO false true];exact this
  have hm:ts.length=all.length:=by
   rcases e7 ts.length all.length with h|h
   ·have h1:=T ts.length h
    rw [K ts.length (aD _)] at h1;cases h1
   ·omega
  exact hfin A w ρ 0 listed F (fun i hi=>by rw [T i hi];simp;omega) hd oO
 |succ fuel ih =>
  intro listed A w ρ F K d B hd
  by_cases a:∀ i<ts.length,listed.getD i false=true
  ·have E:∀ i<all.length,listed.getD i false=decide (i<ts.length):=fun i hi=>by
    by_cases y:i<ts.length
    ·rw [a i y];simp [y]
    ·rw [K i oO];simp [y]
   refine hfin A w ρ (fuel+1) listed F E hd ?_
   rw [← d]
   exact Jk hlen fun i hi=>by rw [getD_lt oO true false];exact E i hi
  ·refine ⟨fun hr=>?_,fun i hr=>?_⟩
   ·
    exfalso
    have Y:∃ i,i<ts.length∧listed.getD i false=false:=by
     simp only [Classical.not_forall] at a
     obtain ⟨i,hi,hn⟩:=a
     exact ⟨i,hi,by simpa using hn⟩
    have H:∃ i,(i<ts.length∧listed.getD i false=false)∧∀ k<i,listed.getD k false=true:=by
     obtain ⟨i,hi⟩:=Y
     induction i using Nat.strongRecOn with
     |_ i ih2 =>
      by_cases n:∃ k,k<i∧listed.getD k false=false
      ·obtain ⟨k,hk,Z⟩:=n;exact ih2 k hk ⟨oO,Z⟩
      ·refine ⟨i,hi,fun k hk=>?_⟩
       cases hc:listed.getD k false with
       |true=>rfl
       |false=>exact absurd ⟨k,hk,hc⟩ n
    obtain ⟨i,⟨hi,J⟩,n⟩:=H
    have:i ∈ Region.ready .any all.toArray listed:=mem_ready.2 ⟨by rw [getD_lt oO true false];exact J,ts[i].o,by rw [bO];exact hall i hi,
     fun e he hb=>n _ ((draw_parts hchk (hall i hi)).2.1 e he hb)⟩
    rw [hr] at this;cases this
   ·obtain ⟨J,o,ho,_⟩:=mem_ready.1 hr
    rw [bO] at ho
    have V:i<all.length:=(List.getElem?_eq_some_iff.1 ho).1
    have I:listed.getD i false=false:=by rw [getD_lt oO false true];exact J
    have y:i<ts.length:=by
     rcases e7 i ts.length with h|h
     ·exact h
     ·exfalso
      apply a
      intro k hk
      rcases (draw_parts hchk ho).2.2.2 k _ oO (hall k hk) with h'|⟨_,h',_⟩
      ·exact h' (fun k=>listed.getD k false=true) B fun k hk=>iF hr ho hk
      ·omega
    have X:o=ts[i].o:=by have:=hall i y;rw [ho] at this;exact Option.some.inj this
    subst X
    have hw:∀ j,waits ts[i].o j=true→listed.getD j false=true:=fun j hj=>iF hr ho hj
    have z:=fun (j:Nat) (hj:j<ts.length)=>Jh ts e0 htr j hj
    obtain ⟨h1,h2,h3,h4,h5,h6⟩:=z i y
    have S:∀ (j:Nat) (hj:j<ts.length),rH σ0.length ts[j].ns:=fun j hj=>(z j hj).2.2.2.2.1
    have M:∀ (j:Nat) (hj:j<ts.length) (i:Nat) (hi:i<j),(∃ D:Nat→Prop,Closed all D∧D j∧¬ D i)→∀ (m:Nat) (ρ ρ':Rho) (v':Value),gq m ρ ts[j].v v' →
      (∀ q,q < σ0.length+(dY (ts.take i)).length∨σ0.length+(dY (ts.take i)).length+ts[i].ns.length≤q→ρ' q=ρ q)→gq m ρ' ts[j].v v':=fun j hj i hij hD m ρ ρ' v' hv hq=>by
     by_cases Q:ts[i].ns=[]
     ·exact hv.mono (aD _) fun q _=>hq q (by rw [Q];simp;omega)
     ·have O:((ts.take j)[i]'(by simp;omega)).ns ≠ []:=by simpa using Q
      obtain ⟨n1,n2,e1,e2⟩:=qU (ts.take j) 0 [] i (by simp;omega) O
      rw [bA] at e1
      have e3:iw n1=dY (ts.take i):=by
       rw [e2,eJ,fj oO];simp [iw]
      refine (z j hj).2.2.2.2.2 n1 i _ n2 e1 hD m ρ ρ' v' hv fun q R=>hq q ?_
      rw [e3] at R
      simpa using R
    have s:=fun {t:Nat} (ht:t ∈ ts[i].o.looksAt all.toArray) {v:Value} (hv:Env.get (lZ (ts.take i) e0) t=some v) =>
     dinv_sees hd hall hchk y I hw B ht hv
    have p:Region.wanted ts[i].o (yielded all.toArray A.tmps)=ts[i].run:=by
     refine zT h2 fun g want hg t ht v hv=>?_
     obtain ⟨v',g1,g2⟩:=s (t:=t) (by
      unfold Oper.looksAt
      rw [hg]
      refine List.mem_append_right _ ?_
      simp only [bO]
      rw [ht];simp) hv
     exact ⟨_,_,v',g1,g2⟩
    have r:=DJ (i:=i) (W:=bT ts[i].o.after) hd.sim hcl S hw
    have after:∀ (ρ':Rho) (v':Value) (w':World),(∀ k < σ0.length+(dY (ts.take i)).length,ρ' k=ρ k)→gq (σ0.length+((dY (ts.take i)).length+ts[i].ns.length)) ρ' ts[i].v v' →
      Sim (oth G ρ σ0 ts (fun i=>listed.getD i false) (bT ts[i].o.after)) w ρ' (σ0++maskN (ts.take i) 0 (bT ts[i].o.after)++ts[i].ns) w' →
      wpAnyIn (fen ρ0 rd) 0 P .any all.toArray Q' fuel (listed.setIfInBounds i true) (A.put ts[i].o.dst v') w':=by
     intro ρ' v' w' ha hv L
     have a0:=dinv_step hd hall hchk hn0 hmk S M y I B h1 ha hv L
     refine ih _ _ _ _ (oU F) (fun k hk=>?_) ?_ (fun j o' hj C k hk=>?_) (jc (fun k hk=>?_) a0)
     ·rw [gY oO,if_neg oO];exact K k hk
     ·have:=qW V F J;omega
     ·show (listed.setIfInBounds i true).getD k false=true
      have C:(listed.setIfInBounds i true).getD j false=true:=C
      rw [gY oO] at C ⊢
      split
      ·rfl
      ·split at C
       ·rename_i a1;subst a1
        rw [ho] at hj;cases hj
        exact hw k hk
       ·exact B j o' hj C k hk
     ·simp only [jR];rw [gY oO]
    unfold wpOpIn
    simp only [bO,ho]
    cases hrun:ts[i].run with
    |true =>
     rw [if_pos (by rw [p,hrun])]
     have U:=h3 hrun
     rw [← lW (rd:=rd) (ρ':=ρ) (ρ:=ρ0) fun l hl=>hd.ag l (lS hrd l hl)]
     refine U ts[i].o rfl rfl (oth G ρ σ0 ts (fun i=>listed.getD i false) (bT ts[i].o.after)) w ρ A w (fun l hl=>by have:=lS hrd l hl;simp;omega) r (fun x hx u hu=>?_) _ _ ?_
     ·cases x with
      |tmp t =>
       obtain ⟨v',g1,g2⟩:=s (t:=t) (fW _ (List.mem_filterMap.2 ⟨.tmp t,by simpa using hx,rfl⟩)) hu
       rw [aR,eY]
       simpa [Act.eval,g1] using g2
      |const c =>
       simp only [aP] at hu
       cases hp:plain c <;> simp [hp] at hu
       subst hu;exact aY c hp
      |func f=>simp only [aP,Option.some.injEq] at hu;subst hu;exact .func f #[] #[] #[] #[] rfl rfl (fun i h=>by simp at h) (fun i h=>by simp at h)
      |global g=>simp [aP] at hu
     ·intro ρ' v' w' hv hle ha L
      rw [lW (rd:=rd) (ρ':=ρ) (ρ:=ρ0) fun l hl=>hd.ag l (lS hrd l hl)]
      refine after ρ' v' w' (fun k hk=>ha k (by rw [aR,eY];exact hk)) ?_ L
      rw [aR,aR,eY,cF] at hv;exact hv
    |false =>
     rw [if_neg (by rw [p,hrun];simp)]
     obtain ⟨g1,g2⟩:=h4 hrun
     refine ⟨fun f _=>kN _ _ _,?_⟩
     have:=after ρ undef w (fun _ _=>rfl) (by rw [g1];exact aY _ rfl) (by rw [g2];simpa using r)
     exact this
theorem tail_any {F:Fence} (hF:∀ f,F.fn f) {m:Nat} {Q':Exit→Act→World→Prop} (hchk:drawOk all m=true):∀ (rest:List Oper) (k fuel:Nat) (listed:Array Bool) (A:Act) (w:World),
  m≤k→rest=all.drop k→fuel=all.length - k→listed.size=all.length→(∀ i<all.length,listed.getD i false=decide (i<k)) →
  wpL F 0 P all.toArray Q' rest A w→wpAnyIn F 0 P .any all.toArray Q' fuel listed A w
 |[],k,fuel,listed,A,w,hmk,hr,hf,hsz,hp,h=>by
  have hk:all.length≤k:=by
   have:=congrArg List.length hr
   simp at this;omega
  refine wpAnyIn_done (List.eq_nil_iff_forall_not_mem.2 fun j hj=>?_) h fuel
  obtain ⟨h1,o,ho,_⟩:=mem_ready.1 hj
  rw [bO] at ho
  have d:=(List.getElem?_eq_some_iff.1 ho).1
  have:=hp j d
  rw [getD_lt (d':=true) oO,h1] at this
  simp at this;omega
 |o::rest,k,fuel,listed,A,w,hmk,hr,hf,hsz,hp,h=>by
  have hk:k<all.length:=by
   rcases e7 k all.length with h|h
   ·exact h
   ·rw [List.drop_eq_nil_of_le h] at hr;cases hr
  have ho:all[k]?=some o:=by
   have:=congrArg (fun l:List Oper=>l[0]?) hr
   simpa using this.symm
  have t:rest=all.drop (k+1):=by
   have:=congrArg List.tail hr
   simpa using this
  obtain ⟨fuel,rfl⟩:∃ f,fuel=f+1:=⟨fuel - 1,oO⟩
  refine ⟨fun hn=>?_,fun j hj=>?_⟩
  ·exfalso
   have:k ∈ Region.ready .any all.toArray listed:=mem_ready.2 ⟨by rw [getD_lt (d':=false) oO,hp k hk];simp,o,by rw [bO];exact ho,
    fun e he hb=>by have:=(draw_parts hchk ho).2.1 e he hb;rw [hp _ oO];simpa using this⟩
   rw [hn] at this;cases this
  ·obtain ⟨h1,oj,c,_⟩:=mem_ready.1 hj
   rw [bO] at c
   have d:=(List.getElem?_eq_some_iff.1 c).1
   have hkj:¬ j<k:=by
    intro g
    have:=hp j d
    rw [getD_lt (d':=true) oO,h1] at this
    simp at this;omega
   have p:j=k:=by
    rcases e7 k j with g|hge
    ·exfalso
     rcases (draw_parts hchk c).2.2.2 k _ g ho with h'|⟨h',_,_⟩
     ·have:=h' (fun q=>listed.getD q false=true) (fun q o' hq s i hi=>by
       have h1:=waits_lt hchk hq hi
       have r:=(List.getElem?_eq_some_iff.1 hq).1
       have h2:=hp q r
       rw [s] at h2
       have h3:q<k:=of_decide_eq_true h2.symm
       show listed.getD i false=true
       rw [hp i oO];simp;omega) fun q hq=>iF hj c hq
      simp only [hp k hk] at this;simp at this
     ·omega
    ·omega
   subst p
   have a:∀ A w,wpL F 0 P all.toArray Q' rest A w→wpAnyIn F 0 P .any all.toArray Q' fuel (listed.setIfInBounds j true) A w:=fun A w h =>
    tail_any hF hchk rest (j+1) fuel _ A w oO t oO (oU hsz) (fun i hi=>by
     rw [gY oO]
     split
     ·rename_i n;subst n;simp
     ·rename_i n;rw [hp i hi];simp only [decide_eq_decide];omega) h
   unfold wpOpIn
   simp only [bO,ho]
   simp only [wpL] at h
   split
   ·rename_i hw;rw [if_pos hw] at h
    exact Oper.wpIn_mono a h
   ·rename_i hw;rw [if_neg hw] at h
    exact ⟨fun f _=>hF f,a _ _ h⟩
theorem qE:∀ (ts:List Tr) (k:Nat),maskN ts k (fun _=>false)=hide (dY ts)
 |[],_=>rfl
 |t::ts,k=>by
  have:=qE ts (k+1)
  simp only [maskN,dY,cG,eA] at this ⊢
  rw [this];simp [hide]
theorem kT:∀ (ts:List Tr) (k:Nat),maskN ts k (fun _=>true)=dY ts
 |[],_=>rfl
 |t::ts,k=>by
  have:=kT ts (k+1)
  simp only [maskN,dY,cG,eA] at this ⊢
  rw [this];simp
theorem zU {G:Nat→Prop} {w0 w:World} {ρ:Rho} (hs:Sim G w0 ρ σ0 w) (h:Heap):Sim G w0 ρ (σ0++hide h) w where
 os:=hs.os
 tape:=hs.tape
 output:=hs.output
 size:=hs.size
 fgn:=hs.fgn
 obj i o hi:=by
  by_cases a:i < σ0.length
  ·rw [iE a] at hi
   exact nT (hs.obj i o hi) oS (fun _ _=>rfl) (fun _ h=>h) (fun _ _ _ _ h=>h) (fun _ _ _ h=>h)
  ·rw [bE oO] at hi
   simp only [hide,cN,fT] at hi
   obtain ⟨_,_,rfl⟩:=hi
   trivial
 inj i j oi oj hi hj hoi hoj hij:=by
  have c:∀ (k:Nat) (o:aB),(σ0++hide h)[k]?=some o→o.owned→σ0[k]?=some o:=by
   intro k o hk ho
   by_cases a:k < σ0.length
   ·rw [iE a] at hk;exact hk
   ·rw [bE oO] at hk
    simp only [hide,cN,fT] at hk
    obtain ⟨_,_,rfl⟩:=hk
    exact ho.elim
  exact hs.inj i j oi oj (c i oi hi hoi) (c j oj hj hoj) hoi hoj hij
theorem o7 {G:Nat→Prop} {w0 w w':World} {ρ:Rho} {σ:Heap} (hs:Sim G w0 ρ σ w) (ho:w'.os=w.os) (ht:w'.tape=w.tape) (hu:w'.output=w.output) (hh:w'.heap=w.heap):Sim G w0 ρ σ w' where
 os:=ho.trans hs.os
 tape:=ht.trans hs.tape
 output:=hu.trans hs.output
 size:=by rw [hh];exact hs.size
 fgn:=by rw [hh];exact hs.fgn
 obj i o hi:=by
  cases w;cases w';simp only at hh ho ht hu;subst hh
  exact hs.obj i o hi
 inj:=hs.inj
end
theorem fA {P:Program} {n0 N:Nat} {rd:Option Nat} {Q:Post} {e:Env} {mk:List Nat} {σ:Heap} {id:Nat} {l:List Oper} (hm:P.follows .mixedOrders=true) (hrd:lQ rd n0=true)
  (h:bM P N rd l 0 l e σ [] (fun e' news tl=>drawOk l (l.length - tl.length)=true∧bZ P n0 N rd l tl (Q .normal) e' mk (σ++gJ (fun _=>true) news))):bK P n0 N rd (.region id l.toArray true) Q e mk σ:=by
 intro G w0 ρ0 A w hi
 obtain ⟨h0,ρ,ha,hs,he⟩:=hi
 refine wpIn_region_any hm ?_
 obtain ⟨ts,tl,m,u,c,hK⟩:=oz l 0 e σ [] _ h
 obtain ⟨fr,r⟩:∃ fr,ts.map (·.o)=fr:=⟨_,rfl⟩
 rw [r] at m
 have hl:l=fr++tl:=m.symm
 have m:=r
 have s:fr.length=l.length - tl.length:=by rw [hl];simp
 rw [lD,kT] at hK
 simp only [gJ,dz,ff,eR] at hK
 have g:fr.length=ts.length:=by rw [← m];simp
 rw [← s] at c
 have p:∀ (i:Nat) (hi:i<ts.length),l[i]?=some ts[i].o:=by
  intro i hi
  rw [hl,bR oO,← m];simp [hi]
 have C:∀ (i:Nat) (o:aB),σ[i]?=some o→fO σ.length o:=fun i o hi=>je (hs.obj i o hi)
 have a:∀ i,(Array.replicate l.toArray.size false).getD i false=false:=fun i=>by
  simp only [eT,fa];split <;> rfl
 rw [g] at c
 refine free_any (e0:=e) (mk:=mk) (σ0:=σ) (ρ0:=ρ0) (G:=G) (w0:=w0) (N:=N) (n0:=n0) (ts:=ts) hrd p c h0 he.mkb C u ?_ (by rw [hl];simp;omega) _ _ _ _ ρ oS (fun i _=>a i) ?_ ?_ ?_
 ·intro A' w' ρ' q d B hp hd hf
  refine tail_any (kN ρ0 rd) c tl ts.length q d A' w' (aD _) (by rw [hl,← g];simp) hf B hp ?_
  have f:=jc (L':=fun _=>true) (fun k hk=>by have:=hp k (by rw [hl];simp;omega);rw [this];simpa using hk) hd
  have n:=f.sim
  rw [kT] at n
  refine hK G w0 ρ0 A' w' ⟨by simp;omega,ρ',fun i hi=>f.ag i hi |>.trans rfl,n,⟨f.sz,fun t v hv=>?_⟩,f.mks,fun i hi=>by have:=he.mkb i hi;simp;omega⟩ _ fun e' z σ' A' w' hk x=>⟨e',z,σ',hk,x⟩
  rcases l7 ts e t v hv with ⟨j,hj,h1,h2,h3⟩|⟨h1,h2⟩
  ·obtain ⟨v',g1,g2⟩:=f.new j hj rfl t h1 fun k hk y _=>h3 k hk y
   refine ⟨v',g1,?_⟩
   rw [← h2]
   have:=uG hj
   exact g2.mono (by simp;omega) fun _ _=>rfl
  ·obtain ⟨v',g1,g2⟩:=f.old t v h1 fun k hk _=>h2 k hk
   exact ⟨v',g1,g2.mono oS fun _ _=>rfl⟩
 ·unfold cnt
  rw [List.countP_eq_length.2]
  ·simp
  ·intro i hi
   rw [getD_lt (d':=false) (oU hi),a];rfl
 ·intro j o _ hL
  rw [a] at hL;cases hL
 ·refine jc (L:=fun _=>false) (fun k _=>(a k).symm) ⟨ha,?_,he.tmps.1,he.mks,fun t v hv _=>?_,fun k hk hL=>by cases hL⟩
  ·rw [qE]
   exact o7 (zU hs _) rfl rfl rfl rfl
  ·exact he.tmps.2 t v hv
section
variable {P:Program} {N:Nat} {rd:Option Nat} {e:Env} {σ0:Heap} {news:List (Nat×Heap)} {K:Env→List (Nat×Heap)→List Oper→Prop} {all rest:List Oper} {k:Nat} {d:Option Nat} {op:Op} {ty:TypeId} {pos:String} {after:Array Edge} {g:Option (Nat×Bool)}
theorem fU (h:bM P N rd all k (⟨d,op,ty,pos,after,none⟩::rest) e σ0 news K):bM P N rd all k (⟨d,op,ty,pos,after,none⟩::rest) e σ0 news K:=h
theorem fG {j:Nat} {b:Bool} (h:bM P N rd all k (⟨d,op,ty,pos,after,some (j,b)⟩::rest) e σ0 news K):bM P N rd all k (⟨d,op,ty,pos,after,some (j,b)⟩::rest) e σ0 news K:=h
theorem qX {x:Operand} (h:bM P N rd all k (⟨d,.move x,ty,pos,after,g⟩::rest) e σ0 news K):bM P N rd all k (⟨d,.move x,ty,pos,after,g⟩::rest) e σ0 news K:=h
theorem Ip {x:Operand} (h:bM P N rd all k (⟨d,.assign x,ty,pos,after,g⟩::rest) e σ0 news K):bM P N rd all k (⟨d,.assign x,ty,pos,after,g⟩::rest) e σ0 news K:=h
theorem fFA {t f:Nat} {x:Operand} (h:bM P N rd all k (⟨d,.fieldAddr t x f,ty,pos,after,g⟩::rest) e σ0 news K):bM P N rd all k (⟨d,.fieldAddr t x f,ty,pos,after,g⟩::rest) e σ0 news K:=h
theorem gB {t:Nat} {x:Operand} (h:bM P N rd all k (⟨d,.load t x,ty,pos,after,g⟩::rest) e σ0 news K):bM P N rd all k (⟨d,.load t x,ty,pos,after,g⟩::rest) e σ0 news K:=h
theorem EW {o:BinOp} {t t':Nat} {x y:Operand} (h:bM P N rd all k (⟨d,.binOp o t x y t',ty,pos,after,g⟩::rest) e σ0 news K):bM P N rd all k (⟨d,.binOp o t x y t',ty,pos,after,g⟩::rest) e σ0 news K:=h
theorem fAdd {t t':Nat} {x y:Operand} (h:bM P N rd all k (⟨d,.binOp .add t x y t',ty,pos,after,g⟩::rest) e σ0 news K):bM P N rd all k (⟨d,.binOp .add t x y t',ty,pos,after,g⟩::rest) e σ0 news K:=h
theorem fSub {t t':Nat} {x y:Operand} (h:bM P N rd all k (⟨d,.binOp .sub t x y t',ty,pos,after,g⟩::rest) e σ0 news K):bM P N rd all k (⟨d,.binOp .sub t x y t',ty,pos,after,g⟩::rest) e σ0 news K:=h
theorem fMul {t t':Nat} {x y:Operand} (h:bM P N rd all k (⟨d,.binOp .mul t x y t',ty,pos,after,g⟩::rest) e σ0 news K):bM P N rd all k (⟨d,.binOp .mul t x y t',ty,pos,after,g⟩::rest) e σ0 news K:=h
theorem ad7 {t:Nat} {x:Operand} (h:bM P N rd all k (⟨d,.unOp .not t x,ty,pos,after,g⟩::rest) e σ0 news K):bM P N rd all k (⟨d,.unOp .not t x,ty,pos,after,g⟩::rest) e σ0 news K:=h
theorem DK {x y z:Operand} (h:bM P N rd all k (⟨d,.pick x y z,ty,pos,after,g⟩::rest) e σ0 news K):bM P N rd all k (⟨d,.pick x y z,ty,pos,after,g⟩::rest) e σ0 news K:=h
theorem zV {t:Nat} (h:bM P N rd all k (⟨d,.alloc t,ty,pos,after,g⟩::rest) e σ0 news K):bM P N rd all k (⟨d,.alloc t,ty,pos,after,g⟩::rest) e σ0 news K:=h
theorem aaS {t f:Nat} {x:Operand} (h:bM P N rd all k (⟨d,.field t x f,ty,pos,after,g⟩::rest) e σ0 news K):bM P N rd all k (⟨d,.field t x f,ty,pos,after,g⟩::rest) e σ0 news K:=h
theorem OH {x:Operand} (h:bM P N rd all k (⟨d,.nilCheck x,ty,pos,after,g⟩::rest) e σ0 news K):bM P N rd all k (⟨d,.nilCheck x,ty,pos,after,g⟩::rest) e σ0 news K:=h
theorem fIA {t:Nat} {x y:Operand} (h:bM P N rd all k (⟨d,.indexAddr t x y,ty,pos,after,g⟩::rest) e σ0 news K):bM P N rd all k (⟨d,.indexAddr t x y,ty,pos,after,g⟩::rest) e σ0 news K:=h
theorem Ro {as:Array Operand} {ts:Array TypeId} (h:bM P N rd all k (⟨d,.call { callee:=.builtin .len,args:=as,argTypes:=ts },ty,pos,after,g⟩::rest) e σ0 news K):bM P N rd all k (⟨d,.call { callee:=.builtin .len,args:=as,argTypes:=ts },ty,pos,after,g⟩::rest) e σ0 news K:=h
theorem fMax {as:Array Operand} {ts:Array TypeId} (h:bM P N rd all k (⟨d,.call { callee:=.builtin .max,args:=as,argTypes:=ts },ty,pos,after,g⟩::rest) e σ0 news K):bM P N rd all k (⟨d,.call { callee:=.builtin .max,args:=as,argTypes:=ts },ty,pos,after,g⟩::rest) e σ0 news K:=h
theorem fMin {as:Array Operand} {ts:Array TypeId} (h:bM P N rd all k (⟨d,.call { callee:=.builtin .min,args:=as,argTypes:=ts },ty,pos,after,g⟩::rest) e σ0 news K):bM P N rd all k (⟨d,.call { callee:=.builtin .min,args:=as,argTypes:=ts },ty,pos,after,g⟩::rest) e σ0 news K:=h
theorem fConv {t u:Nat} {x:Operand} (h:bM P N rd all k (⟨d,.convert t u x,ty,pos,after,g⟩::rest) e σ0 news K):bM P N rd all k (⟨d,.convert t u x,ty,pos,after,g⟩::rest) e σ0 news K:=h
theorem fMkF {f:Fn} {as bs:Array Operand} (h:bM P N rd all k (⟨d,.makeFunc f as bs,ty,pos,after,g⟩::rest) e σ0 news K):bM P N rd all k (⟨d,.makeFunc f as bs,ty,pos,after,g⟩::rest) e σ0 news K:=h
theorem qF {x:Operand} {as:Array Operand} {ts:Array TypeId} (h:bM P N rd all k (⟨d,.call { callee:=.value x,args:=as,argTypes:=ts },ty,pos,after,g⟩::rest) e σ0 news K):bM P N rd all k (⟨d,.call { callee:=.value x,args:=as,argTypes:=ts },ty,pos,after,g⟩::rest) e σ0 news K:=h
theorem EX {t:Nat} {ps:Array (Nat×Operand)} (h:bM P N rd all k (⟨d,.build t ps,ty,pos,after,g⟩::rest) e σ0 news K):bM P N rd all k (⟨d,.build t ps,ty,pos,after,g⟩::rest) e σ0 news K:=h
theorem Xy {t n:Nat} {ps:Array (Nat×Operand)} (h:bM P N rd all k (⟨d,.buildSlice t n ps,ty,pos,after,g⟩::rest) e σ0 news K):bM P N rd all k (⟨d,.buildSlice t n ps,ty,pos,after,g⟩::rest) e σ0 news K:=h
theorem agF {t:Nat} {x:Operand} {a b c:Option Operand} (h:bM P N rd all k (⟨d,.slice t x a b c,ty,pos,after,g⟩::rest) e σ0 news K):bM P N rd all k (⟨d,.slice t x a b c,ty,pos,after,g⟩::rest) e σ0 news K:=h
end
def rJ (place:Nat→Option (Nat×Nat)) (cs:List Value):List (Nat×Value)→Option (List Value)
 |[]=>some cs
 |(i,v)::rest=>match place i with
  |none=>none
  |some (off,size)=>bif Nat.beq (dR v).length size && Nat.ble (off+(dR v).length) cs.length then rJ place (splice cs off (dR v)) rest else none
theorem foldl_set:∀ (l:List Value) (off k:Nat) (cs:Array Value),((l.zipIdx k).foldl (fun cs x=>cs.setIfInBounds (off+x.2) x.1) cs).size=cs.size ∧
  ∀ i,((l.zipIdx k).foldl (fun cs x=>cs.setIfInBounds (off+x.2) x.1) cs)[i]?=if off+k≤i∧i<off+k+l.length∧i<cs.size then l[i - (off+k)]? else cs[i]?
 |[],off,k,cs=>⟨rfl,fun i=>by rw [if_neg (by simp;omega)];rfl⟩
 |v::l,off,k,cs=>by
  obtain ⟨h1,h2⟩:=foldl_set l off (k+1) (cs.setIfInBounds (off+k) v)
  simp only [List.zipIdx_cons,List.foldl_cons]
  refine ⟨by rw [h1];simp,fun i=>?_⟩
  rw [h2 i]
  simp only [Array.size_setIfInBounds,eg]
  by_cases hi:i=off+k
  ·subst hi
   rw [if_neg oO]
   by_cases hs:off+k<cs.size
   ·rw [if_pos oO,fz hs];simp
   ·rw [if_neg oO];simp [hs]
  ·by_cases hc:off+(k+1)≤i∧i<off+(k+1)+l.length∧i<cs.size
   ·rw [if_pos hc,if_pos oO]
    rw [show i - (off+k)=(i - (off+(k+1)))+1 from by omega];simp
   ·rw [if_neg hc,if_neg oO,fg oO]
theorem U8 {n:Nat} {ρ:Rho} {cs vs:List Value} {rc rs:Array Value} {off:Nat} (hle:off+vs.length≤cs.length) (h1:lV n ρ cs.toArray rc) (h2:lV n ρ vs.toArray rs) :
  lV n ρ (splice cs off vs).toArray (rs.zipIdx.foldl (fun cs (x:Value×Nat)=>cs.setIfInBounds (off+x.2) x.1) rc):=by
 have e1:cs.length=rc.size:=by simpa using h1.1
 have e2:vs.length=rs.size:=by simpa using h2.1
 have ef:rs.zipIdx.foldl (fun cs (x:Value×Nat)=>cs.setIfInBounds (off+x.2) x.1) rc=(rs.toList.zipIdx 0).foldl (fun cs x=>cs.setIfInBounds (off+x.2) x.1) rc:=by
  rw [← Array.foldl_toList,Array.toList_zipIdx]
 rw [ef]
 obtain ⟨g1,g2⟩:=foldl_set rs.toList off 0 rc
 refine ⟨by rw [g1,← e1,fw];exact pX hle,fun i hi a=>?_⟩
 simp only [fw,pX hle] at hi
 have h3:=g2 i
 rw [fI a] at h3
 simp only [cV,Array.length_toList] at h3
 by_cases hc:off≤i∧i<off+rs.size∧i<rc.size
 ·rw [if_pos hc,Array.getElem?_toList,fI oO] at h3
  rw [Option.some.inj h3]
  have:(splice cs off vs)[i]?=some (vs[i - off]'oO):=by
   unfold splice
   rw [cD,bE (by simp;omega),bR (by simp;omega)]
   simp only [eI]
   rw [cC oO]
   congr 2;omega
  obtain ⟨_,h4⟩:=List.getElem?_eq_some_iff.1 this
  simp only [fX,h4]
  exact h2.2 (i - off) (by simp;omega) oO
 ·rw [if_neg hc,fI oO] at h3
  rw [Option.some.inj h3]
  have:(splice cs off vs)[i]?=some (cs[i]'hi):=by
   unfold splice
   by_cases c:i<off
   ·rw [cD,bR (by simp;omega),List.getElem?_take_of_lt c,cC hi]
   ·rw [bE (by simp;omega)]
    simp only [aR,eI,eO]
    rw [cC oO]
    congr 2;omega
  obtain ⟨_,h4⟩:=List.getElem?_eq_some_iff.1 this
  simp only [fX,h4]
  exact h1.2 i (oU hi) oO
theorem vX {n:Nat} {ρ:Rho} {place:Nat→Option (Nat×Nat)}:∀ (ps ps':List (Nat×Value)) (cs cs2:List Value) (rc:Array Value),lV n ρ cs.toArray rc→ps.length=ps'.length →
  (∀ (k:Nat) (h:k<ps.length) (h':k<ps'.length),ps[k].1=ps'[k].1∧gq n ρ ps[k].2 ps'[k].2)→rJ place cs ps=some cs2→∃ rc2,Instr.fill place rc ps'=some rc2∧lV n ρ cs2.toArray rc2
 |[],[],cs,cs2,rc,h,_,_,hf=>⟨rc,rfl,by simp only [rJ,Option.some.injEq] at hf;subst hf;exact h⟩
 |[],_::_,_,_,_,_,hl,_,_=>by simp at hl
 |_::_,[],_,_,_,_,hl,_,_=>by simp at hl
 |(i,v)::ps,(i',v')::ps',cs,cs2,rc,h,hl,hp,hf=>by
  obtain ⟨hi,hv⟩:=hp 0 oS oS
  simp only [ec] at hi hv
  subst hi
  simp only [rJ] at hf
  cases hpl:place i with
  |none=>simp [hpl] at hf
  |some os =>
   obtain ⟨c,size⟩:=os
   simp only [hpl] at hf
   cases hb:(Nat.beq (dR v).length size && Nat.ble (c+(dR v).length) cs.length) <;> simp only [hb,cond_true,cond_false,reduceCtorEq] at hf
   simp only [aE] at hb
   have hsz:=aM hb.1
   have d:=cA hb.2
   have a:=kQ hv
   have e1:(dR v).length=v'.cells.size:=by simpa using a.1
   have e2:cs.length=rc.size:=by simpa using h.1
   obtain ⟨rc2,g1,g2⟩:=vX ps ps' _ cs2 _ (U8 d h a) (oU hl) (fun k hk e=>hp (k+1) (oU hk) (oU e)) hf
   refine ⟨rc2,?_,g2⟩
   simp only [Instr.fill,hpl]
   rw [if_neg (by simp;omega)]
   exact g1
def Xz (P:Program) (t:TypeId):Option (Value×List (Nat×Nat)) :=
 match P.info? t,P.underlying t with
 |some it,some (.struct fields)=>match it.zero,fields.toList.mapM (fun f=>(P.info? f.type).map fun i=>(f.offset,i.size)) with
  |some z,some places=>some (z,places)
  |_,_=>none
 |_,_=>none
class Pls (P:Program) (t:TypeId) (z:outParam Value) (ps:outParam (List (Nat×Nat))):Prop where
 h:Xz P t=some (z,ps)
theorem Pls.built {P:Program} {t:TypeId} {z:Value} {ps:List (Nat×Nat)} (h:Pls P t z ps) (parts:List (Nat×Value)):P.built t parts=Instr.fill (ps.toArray[·]?) z.cells parts:=by
 have:=h.h
 unfold Xz at this
 unfold Program.built
 split at this
 ·rename_i it fields h1 h2
  split at this
  ·rename_i z' ps' h3 h4
   simp only [Option.some.injEq,Prod.mk.injEq] at this
   obtain ⟨rfl,rfl⟩:=this
   simp [h1,h2,h3,h4]
  ·simp at this
 ·simp at this
def tJ (e:Env):List (Nat×Operand)→Option (List (Nat×Value))
 |[]=>some []
 |(i,x)::l=>match aP e x,tJ e l with
  |some v,some vs=>some ((i,v)::vs)
  |_,_=>none
theorem uY {n:Nat} {ρ:Rho} {A:Act} {e:Env}:∀ {l:List (Nat×Operand)} {vs:List (Nat×Value)},(∀ p ∈ l,∀ u,aP e p.2=some u→gq n ρ u (A.eval p.2))→tJ e l=some vs →
  vs.length=(l.map fun p=>(p.1,A.eval p.2)).length∧∀ (k:Nat) (h:k<vs.length) (h':k<(l.map fun p=>(p.1,A.eval p.2)).length),vs[k].1=(l.map fun p=>(p.1,A.eval p.2))[k].1∧gq n ρ vs[k].2 (l.map fun p=>(p.1,A.eval p.2))[k].2
 |[],vs,_,h=>by simp only [tJ,Option.some.injEq] at h;subst h;exact ⟨rfl,fun k h=>by simp at h⟩
 |(i,x)::l,vs,hx,h=>by
  simp only [tJ] at h
  cases hv:aP e x with
  |none=>simp [hv] at h
  |some v =>
   cases hvs:tJ e l with
   |none=>simp [hv,hvs] at h
   |some us =>
    simp only [hv,hvs,Option.some.injEq] at h
    subst h
    obtain ⟨g1,g2⟩:=uY (fun y hy=>hx y (by simp [hy])) hvs
    refine ⟨by simp at g1 ⊢;exact g1,fun k hk a=>?_⟩
    cases k with
    |zero=>exact ⟨rfl,hx (i,x) oS v hv⟩
    |succ k=>exact g2 k (oU hk) (oU a)
section ops
variable {P:Program} {rd:Option Nat} {ty:TypeId} {e:Env} {σ:Heap} {x y a b:Operand} {v u:Value}
theorem oG {t:TypeId} {z:Value} {pl:List (Nat×Nat)} {ps:List (Nat×Operand)} {vs:List (Nat×Value)} {cs:List Value} [ht:Pls P t z pl] (hz:plain z=true) (h:tJ e ps=some vs)
  (hf:rJ (pl.toArray[·]?) (dR z) vs=some cs):bW P rd (.build t ps.toArray) ty e σ (.agg cs.toArray) σ :=
 bY oS fun op ho _ G w0 ρ A w hs hx=>by
  obtain ⟨g1,g2⟩:=uY (A:=A) (n:=σ.length) (ρ:=ρ) (fun p hp u hu=>hx p.2 (by simp only [Op.operands];simp;exact ⟨p.1,hp⟩) u hu) h
  obtain ⟨rc,g3,g4⟩:=vX vs _ _ _ _ (kQ (aY (n:=σ.length) (ρ:=ρ) z hz)) g1 g2 hf
  refine ⟨ρ,.agg rc,w,.inl ?_,.agg _ _ g4.1 g4.2,aD _,fun _ _=>rfl,hs⟩
  have:=run_build (P:=P) w t (ps.toArray.map fun p=>(p.1,A.eval p.2)) rc (by rw [ht.built];simpa using g3)
  simp only [List.map_toArray] at this
  simp [execOp,ho,this]
theorem MW {t k size bytes el esize ebytes:Nat} {eagg:Bool} {z ez:Value} [ht:Ty P t size true z bytes] [ha:Ar P t k el] [he:Ty P el esize eagg ez ebytes] (hz:plain z=true) :
  bW P rd (.build t #[]) ty e σ (.agg (dR z).toArray) σ :=
 bY oS fun op ho _ G w0 ρ A w hs hx=>by
  have hr:=kQ (aY (n:=σ.length) (ρ:=ρ) z hz)
  obtain ⟨it,h1,h2,h3,_⟩:=ht.info
  obtain ⟨ie,g1,g2,g3,_⟩:=he.info
  refine ⟨ρ,.agg z.cells,w,.inl ?_,.agg _ _ hr.1 hr.2,aD _,fun _ _=>rfl,hs⟩
  have:=run_build (P:=P) w t #[] z.cells (by simp [Program.built,h1,ha.und,h3,g1,Instr.fill])
  simp [execOp,ho,this]
theorem U9 {t k size bytes el esize ebytes:Nat} {eagg:Bool} {z ez:Value} {ps:List (Nat×Operand)} {vs:List (Nat×Value)} {cs:List Value} [ht:Ty P t size true z bytes] [ha:Ar P t k el] [he:Ty P el esize eagg ez ebytes] (hz:plain z=true) (h:tJ e ps=some vs)
  (hf:rJ (fun i=>some (i*esize,esize)) (dR z) vs=some cs):bW P rd (.build t ps.toArray) ty e σ (.agg cs.toArray) σ :=
 bY oS fun op ho _ G w0 ρ A w hs hx=>by
  obtain ⟨g1,g2⟩:=uY (A:=A) (n:=σ.length) (ρ:=ρ) (fun p hp u hu=>hx p.2 (by simp only [Op.operands];simp;exact ⟨p.1,hp⟩) u hu) h
  obtain ⟨rc,g3,g4⟩:=vX vs _ _ _ _ (kQ (aY (n:=σ.length) (ρ:=ρ) z hz)) g1 g2 hf
  refine ⟨ρ,.agg rc,w,.inl ?_,.agg _ _ g4.1 g4.2,aD _,fun _ _=>rfl,hs⟩
  obtain ⟨it,h1,h2,h3,_⟩:=ht.info
  obtain ⟨ie,q1,q2,q3,_⟩:=he.info
  have:=run_build (P:=P) w t (ps.toArray.map fun p=>(p.1,A.eval p.2)) rc (by simpa [Program.built,h1,ha.und,h3,q1,q2] using g3)
  simp only [List.map_toArray] at this
  simp [execOp,ho,this]
end ops
def iG (zl:List Value):Nat→List Value
 |0=>[]
 |k+1=>zl++iG zl k
theorem pY (zl:List Value) (k:Nat):(iG zl k).length=k*zl.length:=by
 induction k with
 |zero=>simp [iG]
 |succ k ih=>simp [iG,ih,Nat.succ_mul];omega
theorem Jl (zl:List Value):∀ (k i:Nat),i<k*zl.length→(iG zl k)[i]?=zl[i % zl.length]?
 |0,i,h=>by simp at h
 |k+1,i,h=>by
  simp only [iG]
  by_cases hi:i<zl.length
  ·rw [bR hi,Nat.mod_eq_of_lt hi]
  ·rw [bE oO,Jl zl k _ (by rw [Nat.succ_mul] at h;omega)]
   congr 1
   exact (Nat.mod_eq_sub_mod oO).symm
theorem zW {n:Nat} {ρ:Rho} {z:Value} {size k:Nat} (hz:plain z=true) (hs:z.cells.size=size):lV n ρ (iG (dR z) k).toArray (madeCells z.cells (k*size)):=by
 have hr:=kQ (aY (q:=false) (n:=n) (ρ:=ρ) z hz)
 have hl:(dR z).length=z.cells.size:=by simpa using hr.1
 subst hs
 refine ⟨by rw [size_madeCells,fw,pY,hl],fun i hi hi'=>?_⟩
 simp only [fw,pY] at hi
 have h0:0<z.cells.size:=by
  rcases Nat.eq_zero_or_pos z.cells.size with h|h
  ·rw [hl,h] at hi;omega
  ·exact h
 have hm:i % z.cells.size<z.cells.size:=Nat.mod_lt _ h0
 have h1:=Jl (dR z) k i hi
 rw [hl,cC (show i % z.cells.size<(dR z).length by omega)] at h1
 obtain ⟨hlt,h2⟩:=List.getElem?_eq_some_iff.1 h1
 have h3:(madeCells z.cells (k*z.cells.size))[i]=z.cells[i % z.cells.size]:=by simp [madeCells,hm]
 rw [h3]
 simp only [fX,h2]
 exact hr.2 _ (by simpa using (by omega:i % z.cells.size<(dR z).length)) hm
def dW (i sz n:Nat):Value:=match n with|0=>.slice none 0 0|n+1=>.slice (some ⟨i,0,some sz⟩) (n+1) (n+1)
section ops
variable {P:Program} {rd:Option Nat} {ty:TypeId} {e:Env} {σ:Heap} {x y a b:Operand} {v u:Value}
theorem Jm {n:Nat} {ρ:Rho} {i sz k:Nat} {v':Value} (h:gq n ρ (dW i sz k) v') :
  (k=0∧v'=.slice none 0 0)∨(0<k∧i<n∧∃ c',k≤c'∧(ρ i).o+c'*sz≤(ρ i).s∧v'=.slice (some ⟨(ρ i).b,(ρ i).o,none⟩) k c'):=by
 cases k with
 |zero=>left;simp only [dW] at h;cases h;exact ⟨rfl,rfl⟩
 |succ k =>
  right
  simp only [dW] at h
  cases h with
  |gslice _ _ _ _ c' _ hc hs hi _=>exact ⟨oO,hi,c',hc.1,oO,by simp⟩
  |gsliceG _ _ _ _ _ _ _ _ hq=>simp at hq
theorem zX {n:Nat} {ρ:Rho} {i sz k c':Nat} (hk:0<k) (hi:i<n) (hc:k≤c'∧(sz=0→k=c')) (hs:(ρ i).o+c'*sz≤(ρ i).s):gq n ρ (dW i sz k) (.slice (some ⟨(ρ i).b,(ρ i).o,none⟩) k c'):=by
 cases k with
 |zero=>omega
 |succ k =>
  have:=VQ.gslice (q:=false) (n:=n) (ρ:=ρ) i 0 (k+1) (k+1) c' sz hc oO hi rfl
  simpa [dW] using this
theorem OI {t el i sz n:Nat} [ha:Sl P t el] (h:aP e x=some (dW i sz n)) :
  bW P rd (.call { callee:=.builtin .len,args:=#[x],argTypes:=#[t] }) ty e σ (.int .i64 (n:Int)) σ:=by
 cases n with
 |zero=>exact lJ (el:=el) h
 |succ n=>exact lJ (el:=el) h
theorem CG {G:Nat→Prop} {w0 w:World} {ρ:Rho} (h:Sim G w0 ρ σ w) {cs:List Value} {rc:Array Value} (t:TypeId) (s:Nat) (hr:lV σ.length ρ cs.toArray rc) :
  Sim G w0 (upd ρ σ.length w.heap.size s) (σ++[.rw cs]) (w.alloc (.cells rc t)) :=
 lu h _ _ s (by
  intro _
  exact ⟨fun hg=>by have h1:=(h.fgn _ hg).1;have:=h.size;simp only at h1;omega,rfl,rc,t,gX w _,by have:=hr.1;simp at this;omega,
   fun k hk a=>(hr.2 k (oU hk) a).mono (Nat.le_succ _) fun i hi=>iP hi⟩)
theorem MX {ρ:Rho} {n B s l c:Nat}:gq (n+1) (upd ρ n B s) (.slice (some ⟨n,0,none⟩) l c) (.slice (some ⟨B,0,none⟩) l c):=by
 have:=VQ.slice (q:=false) (n:=n+1) (ρ:=upd ρ n B s) n 0 l c c (aD _) oO
 simpa [upd] using this
theorem nU {t el size bytes len:Nat} {agg:Bool} {z:Value} {ps:List (Nat×Operand)} {vs:List (Nat×Value)} {cs:List Value} [ha:Sl P t el] [ht:Ty P el size agg z bytes] (hz:plain z=true)
  (hsz:z.cells.size=size) (h0:Nat.blt 0 (len*size)=true) (h1:Nat.ble (len*size) 16777216=true) (h:tJ e ps=some vs) (hf:rJ (fun i=>some (i*size,size)) (iG (dR z) len) vs=some cs) :
  bW P rd (.buildSlice t len ps.toArray) ty e σ (.slice (some ⟨σ.length,0,none⟩) len len) (σ++[.rw cs]) :=
 bY oS fun op ho _ G w0 ρ A w hs hx=>by
  obtain ⟨g1,g2⟩:=uY (A:=A) (n:=σ.length) (ρ:=ρ) (fun p hp u hu=>hx p.2 (by simp only [Op.operands];simp;exact ⟨p.1,hp⟩) u hu) h
  obtain ⟨ie,i1,i2,i3,_⟩:=ht.info
  obtain ⟨rc,g3,g4⟩:=vX vs _ _ _ _ (zW (n:=σ.length) (ρ:=ρ) (k:=len) hz hsz) g1 g2 hf
  refine ⟨upd ρ σ.length w.heap.size,.slice (some ⟨w.heap.size,0,none⟩) len len,w.alloc (.cells rc el),.inl ?_,by rw [aR];exact MX,by simp,fun i hi=>iP hi,CG hs el 0 g4⟩
  have h0':=Nat.blt_eq.mp h0
  have h1':=cA h1
  have:=run_buildSlice (P:=P) w t el len (ps.toArray.map fun p=>(p.1,A.eval p.2)) rc ie z ha.und i1 i3 (by rw [i2];omega) (by rw [i2];omega) (by
   rw [i2]
   have em:(Array.range (len*size)).map (z.cells[· % z.cells.size]!)=madeCells z.cells (len*size):=rfl
   rw [em];simpa using g3)
  simp only [List.map_toArray] at this
  simp [execOp,ho,this]
theorem zY {t el size bytes l c:Nat} {agg:Bool} {z:Value} {k1 k2:IntKind} [ha:Sl P t el] [ht:Ty P el size agg z bytes] (hz:plain z=true) (hsz:z.cells.size=size)
  (hx:aP e x=some (.int k1 (l:Nat))) (hy:aP e y=some (.int k2 (c:Nat))) (hlc:l≤c) (hb:bytes*c≤281474976710656) (hm:c≤9223372036854775807) :
  bW P rd (.makeSlice t x y) ty e σ (.slice (some ⟨σ.length,0,none⟩) l c) (σ++[.rw (iG (dR z) c)]) :=
 bY oS fun op ho _ G w0 ρ A w hs a=>by
  have h1:=bH (a x (by simp [Op.operands]) _ hx) rfl
  have h2:=bH (a y (by simp [Op.operands]) _ hy) rfl
  obtain ⟨ie,i1,i2,i3,i4⟩:=ht.info
  refine ⟨upd ρ σ.length w.heap.size,.slice (some ⟨w.heap.size,0,none⟩) l c,w.alloc (.cells (madeCells z.cells (c*size)) el),.inl ?_,by rw [aR];exact MX,by simp,fun i hi=>iP hi,CG hs el 0 (zW hz hsz)⟩
  have d:(ie.bytes:Int)*(c:Int)≤281474976710656:=by rw [i4];omega
  have:=run_make (P:=P) w t el ie z ha.und i1 i3 k1 k2 l c oO oO d oO
  simp only [cM,i2] at this
  simp [execOp,ho,h1,h2,this]
def Va (n i:Nat):Rho:=fun k=>if k=n then ⟨i,0,0⟩ else ⟨k,0,0⟩
theorem uH {n i k:Nat} (h:k<n):Va n i k=⟨k,0,0⟩:=by simp only [Va];rw [if_neg oO]
theorem yg {n i:Nat}:Va n i n=⟨i,0,0⟩:=by simp [Va]
theorem aaT {G:Nat→Prop} {w0 w:World} {ρ:Rho} (hs:Sim G w0 ρ σ w) {i:Nat} {o:aB} (hi:σ[i]?=some o) :
  Sim G w0 (comp ρ (Va σ.length i)) (σ.set i .dead++[o]) w:=by
 have d:=aQ hi
 refine Io (n0:=σ.length) ⟨by simp,fun k hk=>uH hk,fun k o2 hk=>?_,fun j k oj ok hj hk f e a=>?_⟩ hs
 ·rcases getElem?_snoc hk with hk|⟨rfl,rfl⟩
  ·rcases getElem?_set' hk with ⟨_,rfl⟩|⟨_,hk⟩
   ·trivial
   ·exact lY (fun k hk=>uH hk) oS (aQ hk) hk (je (hs.obj _ _ hk))
  ·have:=lY (n:=(σ.set i .dead++[o2]).length) (π:=Va σ.length i) (fun k hk=>uH hk) oS d hi (je (hs.obj _ _ hi))
   rw [uH d] at this
   rw [ea,yg];exact this
 ·have c:∀ (q:Nat) (oq:aB),(σ.set i .dead++[o])[q]?=some oq→oq.owned→(q < σ.length∧q ≠ i)∨q=σ.length:=by
   intro q oq hq g
   rcases getElem?_snoc hq with hq|⟨h,_⟩
   ·rcases getElem?_set' hq with ⟨_,rfl⟩|⟨h1,h2⟩
    ·exact g.elim
    ·exact .inl ⟨aQ h2,h1⟩
   ·right;simpa using h
  rcases c j oj hj f with ⟨h1,h2⟩|rfl <;> rcases c k ok hk e with ⟨h3,h4⟩|rfl
  ·rw [uH h1,uH h3] at a;exact a
  ·rw [uH h1,yg] at a;exact absurd a h2
  ·rw [uH h3,yg] at a;exact absurd a.symm h4
  ·rfl
theorem iQ {t el size bytes i n j oj m c:Nat} {agg:Bool} {z:Value} {cs news:List Value} [ha:Sl P t el] [ht:Ty P el size agg z bytes] (hzs:z.cells.size=size) (h0:Nat.blt 0 size=true)
  (hx:aP e x=some (dW i size n)) (hi:σ[i]?=some (.gr cs el)) (hl:cs.length=n*size)
  (hy:aP e y=some (.slice (some ⟨j,oj,none⟩) m c)) (hc:aJ σ j oj (m*size)=some news) (hm:0<m) (h1:news.all (·.oneCell')=true)
  (hb:n+m≤1000000) (hby:bytes≤1000000) :
  bW P rd (.call { callee:=.builtin .append,args:=#[x,y],argTypes:=#[t,t] }) ty e σ (dW σ.length size (n+m)) (σ.set i .dead++[.gr (cs++news) el]) :=
 bY oS fun op ho _ G w0 ρ A w hs S=>by
  have O:0<size:=Nat.blt_eq.mp h0
  have a2:=Jm (S x (by simp [Op.operands,Call.operands]) _ hx)
  have W:=S y (by simp [Op.operands,Call.operands]) _ hy
  obtain ⟨ie,i1,i2,i3,i4⟩:=ht.info
  have Y:=aQ hi
  obtain ⟨a1,a0⟩:=kH hs hc
  have R:∃ c',A.eval y=.slice (some ⟨(ρ j).b,(ρ j).o+oj,none⟩) m c':=by
   generalize hr:A.eval y=r at W
   cases W with
   |emptySlice=>omega
   |slice _ _ _ _ c' _ _=>exact ⟨c',rfl⟩
   |sliceG _ _ _ _ _ _ _ _ hq=>simp at hq
  obtain ⟨c',R⟩:=R
  obtain ⟨rs,B,K,p⟩:∃ rs:List Value,(∀ (k:Nat) (u:Value),rs[k]?=some u→w.cell? ((⟨(ρ j).b,(ρ j).o+oj,none⟩:Addr).add k)=some u)∧rs.length=m*size∧lV σ.length ρ news.toArray rs.toArray:=by
   have:∀ k≤news.length,∃ rs:List Value,rs.length=k∧∀ (q:Nat) (h1:q<rs.length) (h2:q<news.length),w.cell? ⟨(ρ j).b,(ρ j).o+oj+q,none⟩=some rs[q]∧gq σ.length ρ news[q] rs[q]:=by
    intro k
    induction k with
    |zero=>intro _;exact ⟨[],rfl,fun q h1=>by simp at h1⟩
    |succ k ih =>
     intro hk
     obtain ⟨rs,e1,e2⟩:=ih oO
     obtain ⟨v',e3,e4⟩:=a0 k oO
     refine ⟨rs++[v'],by simp [e1],fun q h1 h2=>?_⟩
     by_cases hq:q<rs.length
     ·rw [eW hq];exact e2 q hq h2
     ·have:q=k:=by simp at h1;omega
      subst this
      simp only [eV (show rs.length≤q by omega),e1,cY,ec]
      exact ⟨e3,e4⟩
   obtain ⟨rs,e1,e2⟩:=this news.length (aD _)
   refine ⟨rs,fun k u hu=>?_,oO,by simp [e1],fun k hk D=>(e2 k (oU D) (oU hk)).2⟩
   obtain ⟨hk,rfl⟩:=List.getElem?_eq_some_iff.1 hu
   rw [addr_add];exact (e2 k hk oO).1
  have L:∀ u ∈ rs,u.oneCell'=true:=by
   have:=qQ p h1
   simpa using this
  have s:∀ xv,A.eval x=xv→(execOp A.eval op).run P w=((Builtin.append_ #[t,t] op.type #[xv,.slice (some ⟨(ρ j).b,(ρ j).o+oj,none⟩) m c']).run P w).andThen fun v w=>.ok (.value v) w:=by
   intro xv Z
   simp only [execOp,ho,resolve,invoke,builtin,Sem.run_bind,Sem.run_pure,Result.andThen_ok,List.map_toArray,cG,dz,Z,R]
  have f:(n+m)*ie.bytes≤140737488355328:=by rw [i4];exact ej (Nat.mul_le_mul hb hby) oD
  have H:(cs++news).length=(n+m)*size:=by rw [aR,hl,a1,Nat.add_mul]
  have E:∀ (a:List Value) (tail:Array Value),lV σ.length ρ cs.toArray a.toArray→∀ (k:Nat) (h:k<(cs++news).length) (h':k<(a.toArray++rs.toArray++tail).size),gq σ.length ρ (cs++news)[k] (a.toArray++rs.toArray++tail)[k]:=by
   intro a tail l k hk D
   have e0:cs.length=a.length:=by simpa using l.1
   have e1:news.length=rs.length:=by simpa using p.1
   have V:k<(a.toArray++rs.toArray).size:=by simp at hk ⊢;omega
   rw [Array.getElem_append_left V]
   have:=mQ l p
   exact this.2 k (oU hk) V
  have J:∀ (a:List Value) (g:Nat),lV σ.length ρ cs.toArray a.toArray→∃ ρ',
    gq (σ.set i aB.dead++[aB.gr (cs++news) el]).length ρ' (dW σ.length size (n+m)) (.slice (some ⟨w.heap.size,0,none⟩) (n+m) (grownCap w (n+m) g el))∧(∀ k < σ.length,ρ' k=ρ k) ∧
    Sim G w0 ρ' (σ.set i .dead++[.gr (cs++news) el]) (w.drew.alloc (.cells (a.toArray++rs.toArray++Builtin.zeroCells z.cells (grownCap w (n+m) g el - (n+m))) el)):=by
   intro a g l
   have e0:cs.length=a.length:=by simpa using l.1
   have U:=grownCap_ge w (n+m) g el
   have B:(a.toArray++rs.toArray++Builtin.zeroCells z.cells (grownCap w (n+m) g el - (n+m))).size=grownCap w (n+m) g el*size:=by
    simp only [Array.size_append,fw,size_zeroCells,hzs,← e0,hl,K,← Nat.add_mul]
    congr 1;omega
   have F:=lu (Jc (Dy hs) i) (.cells (a.toArray++rs.toArray++Builtin.zeroCells z.cells (grownCap w (n+m) g el - (n+m))) el) (.gr (cs++news) el) (grownCap w (n+m) g el*size) (by
    intro _
    refine ⟨fun hg=>by have h1:=(hs.fgn _ hg).1;have:=hs.size;simp only at h1;have e2:w.drew.heap.size=w.heap.size:=rfl;omega,rfl,_,gX w.drew _,B,?_,fun k hk D=>?_⟩
    ·rw [B,H];exact fh _ U
    ·exact (E a _ l k hk D).mono oS fun q hq=>iP (oU hq))
   simp only [ea] at F
   refine ⟨_,?_,fun k hk=>iP hk,F⟩
   have:=zX (n:=(σ.set i aB.dead++[aB.gr (cs++news) el]).length) (ρ:=upd ρ σ.length w.heap.size (grownCap w (n+m) g el*size)) (i:=σ.length) (sz:=size) (k:=n+m) (c':=grownCap w (n+m) g el) oO oS ⟨U,fun h=>oO⟩ (by simp [upd])
   rw [oh] at this;exact this
  rcases a2 with ⟨rfl,hv⟩|⟨hn,_,I,hcap,C,hv⟩
  ·have C:cs=[]:=List.eq_nil_of_length_eq_zero (oU hl)
   subst C
   obtain ⟨ρ',g1,g2,g3⟩:=J [] 0 ⟨rfl,fun k hk=>by simp at hk⟩
   refine ⟨ρ',_,_,.inl ?_,g1,by simp,g2,g3⟩
   rw [s _ hv]
   have:=run_append_nil (P:=P) w t op.type el ie z ha.und i1 i3 ⟨(ρ j).b,(ρ j).o+oj,none⟩ m c' rs (by rw [i2];exact K) B hm oO (by simp only [bA] at f;omega)
   rw [this];simp
  ·have T:cs ≠ []:=fun hc=>by subst hc;have:=Nat.mul_pos hn O;simp at hl;omega
   obtain ⟨g1,g2,rc,g3,a4,g4,g5⟩:=hs.obj i _ hi T
   have M:=g2
   rw [M] at C hv
   rw [bA] at C
   by_cases d:n+m≤I
   ·have N:n*size+rs.length≤rc.size:=by
     rw [K,a4,← Nat.add_mul]
     exact ej (fh _ d) C
    have hr:=run_append_room (P:=P) w t op.type el ie ha.und i1 (ρ i).b n I rc g3 ⟨(ρ j).b,(ρ j).o+oj,none⟩ m c' rs (by rw [i2];exact K) B L d (by rw [i2];exact N)
    rw [i2] at hr
    have a3:Sim G w0 ρ (σ.set i (.gr (cs++news) el)) (w.setRow (ρ i).b (rc.toList.take (n*size)++rs++rc.toList.drop (n*size+rs.length)).toArray):=by
     refine wO hs hi T (BZ w _ _) ?_ ?_
     ·intro _
      refine ⟨g1,g2,_,setRow_heap w _ rc _ el (0,0) g3,by simp;omega,by simp;omega,fun k hk D=>?_⟩
      have l:lV σ.length ρ cs.toArray (rc.toList.take (n*size)).toArray:=by
       refine ⟨by simp;omega,fun q hq Q=>?_⟩
       simp only [fX,dC,ee]
       exact g5 q (oU hq) (by simp at Q;omega)
      have:=E (rc.toList.take (n*size)) (rc.toList.drop (n*size+rs.length)).toArray l k hk (oU D)
      simpa using this
     ·intro q k seen hj
      left
      intro X
      obtain ⟨_,_,ents,clock,sb,_,g6,_⟩:=hs.obj q _ hj
      rw [X,g3] at g6;simp at g6
    have F:=aaT a3 (i:=i) (by rw [List.getElem?_set_self Y])
    simp only [cX,ea] at F
    refine ⟨_,_,_,.inl (by rw [s _ hv,hr];rfl),?_,by simp,fun k hk=>?_,F⟩
    ·have:=zX (n:=(σ.set i aB.dead++[aB.gr (cs++news) el]).length) (ρ:=comp ρ (Va σ.length i)) (i:=σ.length) (sz:=size) (k:=n+m) (c':=I) oO oS ⟨d,fun h=>oO⟩ (by simpa [comp,yg,M] using C)
     simpa [comp,yg,M] using this
    ·exact comp_id (uH hk)
   ·have l:lV σ.length ρ cs.toArray (rc.toList.take (n*size)).toArray:=by
     refine ⟨by simp;omega,fun q hq Q=>?_⟩
     simp only [fX,dC,ee]
     exact g5 q (oU hq) (by simp at Q;omega)
    obtain ⟨ρ',k1,k2,k3⟩:=J _ I l
    refine ⟨ρ',_,_,.inl ?_,k1,by simp,k2,k3⟩
    rw [s _ hv]
    have:=run_append_grow (P:=P) w t op.type el ie z ha.und i1 i3 ⟨(ρ i).b,0,none⟩ n I (rc.toList.take (n*size)) (by rw [i2];simp;omega) (fun q u hu=>by
     rw [addr_add,bA,cell_of_row w (ρ i).b q rc el (0,0) g3]
     rw [eE] at hu
     split at hu
     ·simpa using hu
     ·cases hu) ⟨(ρ j).b,(ρ j).o+oj,none⟩ m c' rs (by rw [i2];exact K) B oO oO (growslice_fits oO f)
    rw [this];simp
end ops
section ops
variable {P:Program} {rd:Option Nat} {ty:TypeId} {e:Env} {σ:Heap} {x y a b:Operand} {v u:Value}
theorem Bd {t el:TypeId} (h:Sl P t el):P.underlying t=some (.slice (P.elem t))∧P.elem t=el:=by
 have:=h.und
 simp [Program.elem,this]
theorem XA {t el n:Nat} (h:Ar P t n el):P.underlying t=some (.array (P.arrayLen t) (P.elem t))∧P.elem t=el∧P.arrayLen t=n:=by
 have:=h.und
 simp [Program.elem,Program.arrayLen,this]
theorem MZ {t el size bytes i o n c h:Nat} {agg:Bool} {z:Value} {k:IntKind} [ha:Sl P t el] [ht:Ty P el size agg z bytes] (hx:aP e x=some (.slice (some ⟨i,o,none⟩) n c)) (hy:aP e y=some (.int k (h:Nat))) (hc:h≤c) :
  bW P rd (.slice t x none (some y) none) ty e σ (.slice (some ⟨i,o,none⟩) h c) σ :=
 bY oS fun op ho _ G w0 ρ A w hs a=>by
  have hv:=a x (by simp [Op.operands]) _ hx
  have hi:=bH (a y (by simp [Op.operands]) _ hy) rfl
  obtain ⟨e1,e2⟩:=Bd ha
  generalize hr:A.eval x=r at hv
  cases hv with
  |emptySlice _ _ a' c' =>
   have h0:h=0:=oO
   subst h0
   have:=run_slice_h (P:=P) w t a' 0 c' e1 k 0 oO oO
   refine ⟨ρ,sliced a' 0 0 c' size,w,.inl ?_,?_,aD _,fun _ _=>rfl,hs⟩
   ·simp only [Int.toNat_zero] at this
    simp [execOp,ho,hr,hi,run_sliceAt_slice _ _ _ _ _ _ e1,this,e2,ht.sizeOf]
   ·simp only [sliced];exact .emptySlice _ _ _ _
  |slice _ _ _ _ c' hcc hil =>
   have:=run_slice_h (P:=P) w t (some ⟨(ρ i).b,(ρ i).o+o,none⟩) n c' e1 k h oO oO
   simp only [cM] at this
   refine ⟨ρ,sliced (some ⟨(ρ i).b,(ρ i).o+o,none⟩) 0 h c' size,w,.inl ?_,?_,aD _,fun _ _=>rfl,hs⟩
   ·simp [execOp,ho,hr,hi,run_sliceAt_slice _ _ _ _ _ _ e1,this,e2,ht.sizeOf]
   ·have e3:sliced (some ⟨(ρ i).b,(ρ i).o+o,none⟩) 0 h c' size=.slice (some ⟨(ρ i).b,(ρ i).o+o,none⟩) h c':=by
     simp only [sliced];split <;> simp [addr_add]
    rw [e3];exact .slice _ _ _ _ _ hcc hil
  |sliceG _ _ _ _ _ _ _ _ hq=>simp at hq
theorem Bf {t el size bytes i o n c l:Nat} {agg:Bool} {z:Value} {k:IntKind} [ha:Sl P t el] [ht:Ty P el size agg z bytes] (hx:aP e x=some (.slice (some ⟨i,o,none⟩) n c)) (hy:aP e y=some (.int k (l:Nat))) (hc:l≤n) (hn:n≤c) :
  bW P rd (.slice t x (some y) none none) ty e σ (.slice (some ⟨i,o+l*size,none⟩) (n - l) (c - l)) σ :=
 bY oS fun op ho _ G w0 ρ A w hs a=>by
  have hv:=a x (by simp [Op.operands]) _ hx
  have hi:=bH (a y (by simp [Op.operands]) _ hy) rfl
  obtain ⟨e1,e2⟩:=Bd ha
  generalize hr:A.eval x=r at hv
  cases hv with
  |emptySlice _ _ a' c' =>
   have h0:l=0:=oO
   subst h0
   have:=run_slice_l (P:=P) w t a' 0 c' e1 k 0 oO oO
   refine ⟨ρ,sliced a' 0 0 c' size,w,.inl ?_,?_,aD _,fun _ _=>rfl,hs⟩
   ·simp only [Int.toNat_zero] at this
    simp [execOp,ho,hr,hi,run_sliceAt_slice _ _ _ _ _ _ e1,this,e2,ht.sizeOf]
   ·simp only [sliced];exact .emptySlice _ _ _ _
  |slice _ _ _ _ c' hcc hil =>
   have:=run_slice_l (P:=P) w t (some ⟨(ρ i).b,(ρ i).o+o,none⟩) n c' e1 k l oO oO
   simp only [cM] at this
   refine ⟨ρ,sliced (some ⟨(ρ i).b,(ρ i).o+o,none⟩) l n c' size,w,.inl ?_,?_,aD _,fun _ _=>rfl,hs⟩
   ·simp [execOp,ho,hr,hi,run_sliceAt_slice _ _ _ _ _ _ e1,this,e2,ht.sizeOf]
   ·simp only [sliced]
    by_cases d:c'=l
    ·have h1:n - l=0:=oO
     have h2:c - l=0:=oO
     rw [h1,h2];exact .emptySlice _ _ _ _
    ·rw [if_neg d]
     simp only [eh,addr_add]
     rw [cF]
     exact .slice _ _ _ _ _ oO hil
  |sliceG _ _ _ _ _ _ _ _ hq=>simp at hq
theorem yR {t el size bytes i n:Nat} {agg:Bool} {z:Value} {k k':IntKind} [ha:Sl P t el] [ht:Ty P el size agg z bytes] (hx:aP e x=some (dW i size n)) (hy:aP e y=some (.int k (n:Nat))) (hz:aP e a=some (.int k' (n:Nat))) :
  bW P rd (.slice t x none (some y) (some a)) ty e σ (dW i size n) σ :=
 bY oS fun op ho _ G w0 ρ A w hs d=>by
  have hv:=Jm (d x (by simp [Op.operands]) _ hx)
  have h1:=bH (d y (by simp [Op.operands]) _ hy) rfl
  have h2:=bH (d a (by simp [Op.operands]) _ hz) rfl
  obtain ⟨e1,e2⟩:=Bd ha
  rcases hv with ⟨rfl,hr⟩|⟨hn,hi,g,c,f,hr⟩
  ·have:=run_slice_hm (P:=P) w t none 0 0 e1 k k' 0 0 oO oO oO
   refine ⟨ρ,.slice none 0 0,w,.inl ?_,.nilSlice,aD _,fun _ _=>rfl,hs⟩
   simp only [Int.toNat_zero] at this
   simp only [Int.natCast_zero] at h1 h2
   simp [execOp,ho,hr,h1,h2,run_sliceAt_slice _ _ _ _ _ _ e1,this,e2,ht.sizeOf,sliced]
  ·have:=run_slice_hm (P:=P) w t (some ⟨(ρ i).b,(ρ i).o,none⟩) n g e1 k k' n n oO oO oO
   simp only [cM] at this
   refine ⟨ρ,.slice (some ⟨(ρ i).b,(ρ i).o,none⟩) n n,w,.inl ?_,zX hn hi ⟨aD _,fun _=>rfl⟩ (ej (Nat.add_le_add_left (fh _ c) _) f),aD _,fun _ _=>rfl,hs⟩
   have e3:sliced (some ⟨(ρ i).b,(ρ i).o,none⟩) 0 n n size=.slice (some ⟨(ρ i).b,(ρ i).o,none⟩) n n:=by simp only [sliced];split <;> simp [addr_add]
   simp [execOp,ho,hr,h1,h2,run_sliceAt_slice _ _ _ _ _ _ e1,this,e2,ht.sizeOf,e3]
theorem EY {t el size bytes i o n:Nat} {agg:Bool} {z:Value} [ha:Ar P t n el] [ht:Ty P el size agg z bytes] (hx:aP e x=some (.pointer (some ⟨i,o,none⟩))) :
  bW P rd (.slice t x none none none) ty e σ (.slice (some ⟨i,o,none⟩) n n) σ :=
 bY oS fun op ho _ G w0 ρ A w hs a=>by
  obtain ⟨hr,hi⟩:=ng (a x (by simp [Op.operands]) _ hx)
  obtain ⟨e1,e2,e3⟩:=XA ha
  have:=run_sliceAt_array_all (P:=P) w t ⟨(ρ i).b,(ρ i).o+o,none⟩ e1
  refine ⟨ρ,.slice (some ⟨(ρ i).b,(ρ i).o+o,none⟩) n n,w,.inl ?_,.slice _ _ _ _ _ (aD _) hi,aD _,fun _ _=>rfl,hs⟩
  have e4:slicedAt ⟨(ρ i).b,(ρ i).o+o,none⟩ 0 n n size=.slice (some ⟨(ρ i).b,(ρ i).o+o,none⟩) n n:=by simp only [slicedAt];split <;> simp [addr_add]
  simp [execOp,ho,hr,this,e2,e3,ht.sizeOf,e4]
theorem Vb {t el size bytes i o n h:Nat} {agg:Bool} {z:Value} {k:IntKind} [ha:Ar P t n el] [ht:Ty P el size agg z bytes] (hx:aP e x=some (.pointer (some ⟨i,o,none⟩))) (hy:aP e y=some (.int k (h:Nat))) (hn:h≤n) :
  bW P rd (.slice t x none (some y) none) ty e σ (.slice (some ⟨i,o,none⟩) h n) σ :=
 bY oS fun op ho _ G w0 ρ A w hs a=>by
  obtain ⟨hr,hi⟩:=ng (a x (by simp [Op.operands]) _ hx)
  have h1:=bH (a y (by simp [Op.operands]) _ hy) rfl
  obtain ⟨e1,e2,e3⟩:=XA ha
  have:=run_sliceAt_array_h (P:=P) w t ⟨(ρ i).b,(ρ i).o+o,none⟩ e1 k h oO oO
  simp only [cM] at this
  refine ⟨ρ,.slice (some ⟨(ρ i).b,(ρ i).o+o,none⟩) h n,w,.inl ?_,.slice _ _ _ _ _ (aD _) hi,aD _,fun _ _=>rfl,hs⟩
  have e4:slicedAt ⟨(ρ i).b,(ρ i).o+o,none⟩ 0 h n size=.slice (some ⟨(ρ i).b,(ρ i).o+o,none⟩) h n:=by simp only [slicedAt];split <;> simp [addr_add]
  simp [execOp,ho,hr,h1,this,e2,e3,ht.sizeOf,e4]
theorem Jo {G:Nat→Prop} {w0 w:World} {ρ:Rho} (hs:Sim G w0 ρ σ w) {j oj n:Nat} {news:List Value} (hc:aJ σ j oj n=some news) :
  ∃ rs:List Value,(∀ (k:Nat) (u:Value),rs[k]?=some u→w.cell? ((⟨(ρ j).b,(ρ j).o+oj,none⟩:Addr).add k)=some u)∧rs.length=n∧lV σ.length ρ news.toArray rs.toArray:=by
 obtain ⟨hnl,c⟩:=kH hs hc
 have:∀ k≤news.length,∃ rs:List Value,rs.length=k∧∀ (q:Nat) (h1:q<rs.length) (h2:q<news.length),w.cell? ⟨(ρ j).b,(ρ j).o+oj+q,none⟩=some rs[q]∧gq σ.length ρ news[q] rs[q]:=by
  intro k
  induction k with
  |zero=>intro _;exact ⟨[],rfl,fun q h1=>by simp at h1⟩
  |succ k ih =>
   intro hk
   obtain ⟨rs,e1,e2⟩:=ih oO
   obtain ⟨v',e3,e4⟩:=c k oO
   refine ⟨rs++[v'],by simp [e1],fun q h1 h2=>?_⟩
   by_cases hq:q<rs.length
   ·rw [eW hq];exact e2 q hq h2
   ·have:q=k:=by simp at h1;omega
    subst this
    simp only [eV (show rs.length≤q by omega),e1,cY,ec]
    exact ⟨e3,e4⟩
 obtain ⟨rs,e1,e2⟩:=this news.length (aD _)
 refine ⟨rs,fun k u hu=>?_,oO,by simp [e1],fun k hk a=>(e2 k (oU a) (oU hk)).2⟩
 obtain ⟨hk,rfl⟩:=List.getElem?_eq_some_iff.1 hu
 rw [addr_add];exact (e2 k hk oO).1
theorem XB {t el size bytes i o j oj n c c2:Nat} {agg:Bool} {z:Value} {t2:TypeId} {news:List Value} {σ':Heap} [ha:Sl P t el] [ht:Ty P el size agg z bytes] (hx:aP e x=some (.slice (some ⟨i,o,none⟩) n c))
  (hy:aP e y=some (.slice (some ⟨j,oj,none⟩) n c2)) (hn:0<n) (hc:aJ σ j oj (n*size)=some news) (h1:news.all (·.oneCell')=true) (hp:putCells σ i o news=some σ') :
  bW P rd (.call { callee:=.builtin .copy,args:=#[x,y],argTypes:=#[t,t2] }) ty e σ (.int .i64 (n:Int)) σ' :=
 bY oS fun op ho _ G w0 ρ A w hs k=>by
  have g:=k x (by simp [Op.operands,Call.operands]) _ hx
  have h:=k y (by simp [Op.operands,Call.operands]) _ hy
  have d:∃ c',A.eval x=.slice (some ⟨(ρ i).b,(ρ i).o+o,none⟩) n c':=by
   generalize hr:A.eval x=r at g
   cases g with
   |emptySlice=>omega
   |slice _ _ _ _ c' _ _=>exact ⟨c',rfl⟩
   |sliceG _ _ _ _ _ _ _ _ hq=>simp at hq
  have f:∃ c',A.eval y=.slice (some ⟨(ρ j).b,(ρ j).o+oj,none⟩) n c':=by
   generalize hr:A.eval y=r at h
   cases h with
   |emptySlice=>omega
   |slice _ _ _ _ c' _ _=>exact ⟨c',rfl⟩
   |sliceG _ _ _ _ _ _ _ _ hq=>simp at hq
  obtain ⟨cx,d⟩:=d
  obtain ⟨cy,f⟩:=f
  obtain ⟨rs,l,m,a⟩:=Jo hs hc
  obtain ⟨w',g1,g2,g3⟩:=Ij (P:=P) hs hp a (by have:=qQ a h1;simpa using this)
  have hf:=run_firstCells_some (P:=P) w size n ⟨(ρ j).b,(ρ j).o+oj,none⟩ n cy rs m l
  refine ⟨ρ,.int .i64 n,w',.inl ?_,.int _ _,oO,fun _ _=>rfl,g2⟩
  simp [execOp,ho,resolve,invoke,builtin,d,f,Builtin.copy_,kV ha.und,ht.sizeOf,Builtin.lenOf,hf,g1,goInt]
theorem DL {t el size bytes i o n c:Nat} {agg:Bool} {z:Value} {σ':Heap} [ha:Sl P t el] [ht:Ty P el size agg z bytes] (hz:plain z=true) (hzs:z.cells.size=size) (hx:aP e x=some (.slice (some ⟨i,o,none⟩) n c)) (hn:0<n)
  (h1:(iG (dR z) n).all (·.oneCell')=true) (hp:putCells σ i o (iG (dR z) n)=some σ') :
  bW P rd (.call { callee:=.builtin .clear,args:=#[x],argTypes:=#[t] }) ty e σ (.tuple #[]) σ' :=
 bY oS fun op ho _ G w0 ρ A w hs g=>by
  have f:=g x (by simp [Op.operands,Call.operands]) _ hx
  have d:∃ c',A.eval x=.slice (some ⟨(ρ i).b,(ρ i).o+o,none⟩) n c':=by
   generalize hr:A.eval x=r at f
   cases f with
   |emptySlice=>omega
   |slice _ _ _ _ c' _ _=>exact ⟨c',rfl⟩
   |sliceG _ _ _ _ _ _ _ _ hq=>simp at hq
  obtain ⟨cx,d⟩:=d
  have a:=zW (n:=σ.length) (ρ:=ρ) (k:=n) hz hzs
  have em:Builtin.zeroCells z.cells n=madeCells z.cells (n*size):=by subst hzs;rfl
  rw [← em] at a
  obtain ⟨w',g1,g2,g3⟩:=Ij (P:=P) hs hp (rs:=(Builtin.zeroCells z.cells n).toList) (oU a) (by have:=qQ a h1;simpa using this)
  refine ⟨ρ,.tuple #[],w',.inl ?_,aY _ rfl,oO,fun _ _=>rfl,g2⟩
  obtain ⟨m,rfl⟩:∃ m,n=m+1:=⟨n - 1,oO⟩
  simp [execOp,ho,resolve,invoke,builtin,d,Builtin.clear_,kV ha.und,ht.zeroV,g1]
def eq2F (P:Program) (t:TypeId):List Field→Bool
 | [f, g] => !(f.name == "_") && !(g.name == "_") && Nat.beq f.offset 0 && Nat.beq g.offset 1 && (OA P f.type).isSome && (OA P g.type).isSome && !P.stoodInHeld t && !P.eqGuardType P.depth t
 |_=>false
def Rt (P:Program) (t:TypeId):Bool :=
 match P.underlying t with
 |some (.struct fs)=>eq2F P t fs.toList
 |_=>false
class Eq2 (P:Program) (t:TypeId):Prop where
 h:Rt P t=true
theorem DN {t:TypeId} (h:(OA P t).isSome=true) {w:World}:(Go.isAgg t).run P w=.ok false w∧∃ k,P.underlying t=some (.int k):=by
 unfold OA at h
 split at h
 ·rename_i k hu;exact ⟨by simp [Go.isAgg,underlying,hu],k,hu⟩
 ·simp at h
theorem Iq {t:TypeId} (h:Eq2 P t) {k k':IntKind} {m n m' n':Int} {w:World} (d:Nat) :
  (Op.equalIn (d+2) t (.agg #[.int k m,.int k' n]) (.agg #[.int k m',.int k' n'])).run P w=.ok (decide (m=m'∧n=n')) w∧P.eqGuardType P.depth t=false:=by
 have:=h.h
 unfold Rt at this
 split at this
 ·rename_i fs hu
  unfold eq2F at this
  split at this
  case h_2=>simp at this
  rename_i f g a
  simp only [aE,eQ] at this
  obtain ⟨⟨⟨⟨⟨⟨⟨h1,h2⟩,h3⟩,h4⟩,h5⟩,h6⟩,h7⟩,h8⟩:=this
  refine ⟨?_,h8⟩
  have hf:P.fieldsOf t=fs:=by simp [Program.fieldsOf,hu]
  rw [run_equalIn_struct w (d+1) t _ _ (by rw [hf];exact hu) h7,hf,a]
  have e3:=aM h3
  have e4:=aM h4
  obtain ⟨a1,kf,u1⟩:=DN h5 (w:=w)
  obtain ⟨a2,kg,u2⟩:=DN h6 (w:=w)
  have n1 : f.name ≠ "_" := by simpa using h1
  have n2 : g.name ≠ "_" := by simpa using h2
  have p1:∀ x y:Value,(part f.type #[x,y] f.offset).run P w=.ok x w:=fun x y=>by simp [part,a1,e3]
  have p2:∀ x y:Value,(part g.type #[x,y] g.offset).run P w=.ok y w:=fun x y=>by simp [part,a2,e4]
  have q1:=run_equalIn_int w d f.type k kf m m' u1
  have q2:=run_equalIn_int w d g.type k' kg n n' u2
  simp only [Op.eqFields,n1,n2,ne_eq,not_false_eq_true,if_true,Sem.run_bind,p1,q1,Result.andThen_ok]
  by_cases hm:m=m' <;> by_cases hn:n=n' <;> simp [hm,hn,p2,run_equalIn_int w d g.type k' kg _ _ u2]
 ·simp at this
theorem agH {t t':TypeId} {k k':IntKind} {m n m' n':Int} [h:Eq2 P t] (hx:aP e x=some (.agg #[.int k m,.int k' n])) (hy:aP e y=some (.agg #[.int k m',.int k' n'])) :
  bW P rd (.binOp .eql t x y t') ty e σ (.bool (decide (m=m'∧n=n'))) σ :=
 kS oS rfl fun o ho _ A hA w=>by
  have h1:=hA x (by simp [Op.operands]) _ hx rfl
  have h2:=hA y (by simp [Op.operands]) _ hy rfl
  obtain ⟨g1,g2⟩:=Iq h (k:=k) (k':=k') (m:=m) (n:=n) (m':=m') (n':=n') (w:=w) 9998
  simp [execOp,ho,h1,h2,run_eqGuard_agg _ _ _ _ _ _ _ g2,run_eql_struct,g1]
theorem OJ {t t':TypeId} {k k':IntKind} {m n m' n':Int} [h:Eq2 P t] (hx:aP e x=some (.agg #[.int k m,.int k' n])) (hy:aP e y=some (.agg #[.int k m',.int k' n'])) :
  bW P rd (.binOp .neq t x y t') ty e σ (.bool (decide (¬ (m=m'∧n=n')))) σ :=
 kS oS rfl fun o ho _ A hA w=>by
  have h1:=hA x (by simp [Op.operands]) _ hx rfl
  have h2:=hA y (by simp [Op.operands]) _ hy rfl
  obtain ⟨g1,g2⟩:=Iq h (k:=k) (k':=k') (m:=m) (n:=n) (m':=m') (n':=n') (w:=w) 9998
  simp [execOp,ho,h1,h2,run_eqGuard_agg _ _ _ _ _ _ _ g2,run_neq_struct,g1]
end ops
end Go.AH
