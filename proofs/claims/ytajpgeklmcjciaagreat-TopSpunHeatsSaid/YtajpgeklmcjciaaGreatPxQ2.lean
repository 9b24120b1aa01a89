/- What both of heat's tree returns. -/
import Derived.Test.YtajpgeklmcjciaaGreatPxQ1
import Derived.Test.YtajpgeklmcjciaaGreatPxMJ
set_option maxRecDepth 100000
set_option maxHeartbeats 8000000
namespace Go.Proofs.YtajpgeklmcjciaaGreat
open Go Go.AH
attribute [local irreducible] bZ bK bM jB gy dO fC bW eU aX dV eH
theorem ZH {s:St} {l:List Int} (h:zC s l=0):1≤(wF s l).length:=by
 unfold zC at h
 unfold wF
 split at h
 ·rename_i hc;exact absurd h hc
 ·rename_i hc
  obtain ⟨_,_,hs,_⟩:=mX (by omega:iD s l=0)
  have hs2:s.short≤s.long:=by unfold fB at hs;omega
  rw [if_neg hc]
  unfold CY
  split at h
  ·rename_i hp
   rw [if_pos hp]
   unfold qJ at hp ⊢
   rw [show (s.long - s.short+1).toNat=(s.long - s.short).toNat+1 from by omega] at hp ⊢
   simp only [grd] at hp ⊢
   split
   ·rename_i hq;rw [if_pos hq] at hp;simp only at hp;omega
   ·simp
  ·cases h
theorem aeU {F:Nat→Int×Int} {n:Nat} {x:Int} (h:¬ bestF F x n<0):(bestF F x n).toNat<n∧(F (bestF F x n).toNat).1≤x∧x≤(F (bestF F x n).toNat).2∧∀ i<n,(F i).1≤x→x≤(F i).2→(F (bestF F x n).toNat).1≤(F i).1:=by
 rcases Aq F x n with ⟨h1,_⟩|⟨b,hb,h1,h2,h3,h4⟩
 ·omega
 ·rw [h1,cM]
  exact ⟨hb,h2,h3,fun i hi g1 g2=>(h4 i hi g1 g2).1⟩
theorem acr {F:Nat→Int×Int} {n:Nat} {to:Int}:∀ (k:Nat) (x:Int) (m:Nat),m<(grd F n to k x).1.length→to≤(gp (grd F n to k x).1 m).1
 |0,x,m,h=>by simp [grd] at h
 |k+1,x,m,h=>by
  simp only [grd] at h ⊢
  by_cases hs:x<to∨bestF F x n<0
  ·rw [if_pos hs] at h;simp at h
  ·rw [if_neg hs] at h ⊢
   cases m with
   |zero=>show to≤x;omega
   |succ m=>exact acr k _ m (oU h)
theorem Tv {F:Nat→Int×Int} {n:Nat} {to:Int}:∀ (k:Nat) (x:Int) (i:Nat),i<(grd F n to k x).1.length →
  (gp (grd F n to k x).1 i).2=bestF F (gp (grd F n to k x).1 i).1 n∧0≤(gp (grd F n to k x).1 i).2∧(i=0→(gp (grd F n to k x).1 i).1=x) ∧
  (i+1<(grd F n to k x).1.length→(gp (grd F n to k x).1 (i+1)).1=(F (gp (grd F n to k x).1 i).2.toNat).1 - 1)∧(i+1=(grd F n to k x).1.length→(grd F n to k x).2=(F (gp (grd F n to k x).1 i).2.toNat).1 - 1)
 |0,x,i,h=>by simp [grd] at h
 |k+1,x,i,h=>by
  by_cases hs:x<to∨bestF F x n<0
  ·rw [J7 hs] at h;simp at h
  ·have e1:grd F n to (k+1) x=((x,bestF F x n)::(grd F n to k ((F (bestF F x n).toNat).1 - 1)).1,(grd F n to k ((F (bestF F x n).toNat).1 - 1)).2):=by simp only [grd];rw [if_neg hs]
   rw [e1] at h ⊢
   have ih:=Tv (F:=F) (n:=n) (to:=to) k ((F (bestF F x n).toNat).1 - 1)
   generalize hG:grd F n to k ((F (bestF F x n).toNat).1 - 1)=G at h ih ⊢
   cases i with
   |zero =>
    refine ⟨rfl,by show 0≤bestF F x n;omega,fun _=>rfl,fun h1=>?_,fun h1=>?_⟩
    ·exact (ih 0 (oU h1)).2.2.1 rfl
    ·have h0:G.1=[]:=List.eq_nil_of_length_eq_zero (oU h1.symm)
     show G.2=(F (bestF F x n).toNat).1 - 1
     cases k with
     |zero=>rw [← hG];rfl
     |succ k =>
      by_cases a:((F (bestF F x n).toNat).1 - 1)<to∨bestF F ((F (bestF F x n).toNat).1 - 1) n<0
      ·rw [J7 a] at hG;rw [← hG]
      ·simp only [grd] at hG;rw [if_neg a] at hG;rw [← hG] at h0;simp at h0
   |succ i =>
    have hi:i<G.1.length:=by simpa using h
    obtain ⟨g1,g2,g3,g4,g5⟩:=ih i hi
    exact ⟨g1,g2,fun h0=>oO,fun h1=>g4 (oU h1),fun h1=>g5 (oU h1)⟩
structure uo (s:St) (l:List Int) (R:List (Int×Int)):Prop where
 pos:1≤R.length
 first:(gp R 0).1=s.long
 best:∀ i<R.length,(gp R i).2=bestF (sp s l) (gp R i).1 l.length∧0≤(gp R i).2
 next:∀ i,i+1<R.length→(gp R (i+1)).1=(sp s l (gp R i).2.toNat).1 - 1
 last:∀ i,i+1=R.length→(sp s l (gp R i).2.toNat).1≤s.short
 low:∀ i<R.length,s.short≤(gp R i).1
theorem V8 {s:St} {l:List Int} (h:iD s l=0) (hp:zC s l=0):uo s l (wF s l):=by
 have a:=ZH hp
 unfold zC at hp
 rw [if_neg oO] at hp
 by_cases c:(qJ (sp s l) l.length s.long s.short).2<s.short
 ·have hR:wF s l=(qJ (sp s l) l.length s.long s.short).1:=by
   unfold wF CY;rw [if_neg oO,if_pos c]
  rw [hR] at a ⊢
  unfold qJ at c a ⊢
  have hr:=Tv (F:=sp s l) (n:=l.length) (to:=s.short) (s.long - s.short+1).toNat s.long
  have d:=acr (F:=sp s l) (n:=l.length) (to:=s.short) (s.long - s.short+1).toNat s.long
  generalize grd (sp s l) l.length s.short (s.long - s.short+1).toNat s.long=G at c a hr d ⊢
  exact ⟨a,(hr 0 oO).2.2.1 rfl,fun i hi=>⟨(hr i hi).1,(hr i hi).2.1⟩,fun i hi=>(hr i oO).2.2.2.1 hi,fun i hi=>by have:=(hr i oO).2.2.2.2 hi;omega,d⟩
 ·rw [if_neg c] at hp;cases hp
section
variable {s:St} {l:List Int} {R:List (Int×Int)}
theorem uo.at (h:uo s l R) {i:Nat} (hi:i<R.length):(gp R i).2.toNat<l.length∧(sp s l (gp R i).2.toNat).1≤(gp R i).1∧(gp R i).1≤(sp s l (gp R i).2.toNat).2∧∀ k<l.length,(sp s l k).1≤(gp R i).1→(gp R i).1≤(sp s l k).2→(sp s l (gp R i).2.toNat).1≤(sp s l k).1:=by
 obtain ⟨h1,h2⟩:=h.best i hi
 have h3:=aeU (F:=sp s l) (n:=l.length) (x:=(gp R i).1) oO
 rw [← h1] at h3
 exact h3
theorem uo.down (h:uo s l R) {i:Nat} (hi:i+1<R.length):(gp R (i+1)).1<(gp R i).1:=by
 have h1:=h.next i hi
 have h2:=h.at (i:=i) oO
 omega
def zD (F:Nat→Int×Int) (x:Int):Nat→Nat
 |0=>0
 |n+1=>zD F x n+if (F n).1≤x then 1 else 0
theorem Tz (F:Nat→Int×Int) (x:Int):∀ n,zD F x n≤n
 |0=>aD _
 |n+1=>by have:=Tz F x n;simp only [zD];split <;> omega
theorem J9 {F:Nat→Int×Int} {x y:Int} (h:x≤y):∀ n,zD F x n≤zD F y n
 |0=>aD _
 |n+1=>by have:=J9 (F:=F) h n;simp only [zD];split <;> split <;> omega
theorem TA {F:Nat→Int×Int} {x y:Int} (h:x≤y):∀ n,(∃ b<n,(F b).1≤y∧¬ (F b).1≤x)→zD F x n<zD F y n
 |0,⟨b,hb,_⟩=>by omega
 |n+1,⟨b,hb,h1,h2⟩=>by
  simp only [zD]
  by_cases a:b=n
  ·subst a
   have:=J9 (F:=F) h b
   rw [if_neg h2,if_pos h1];omega
  ·have:=TA h n ⟨b,oO,h1,h2⟩
   split <;> split <;> omega
theorem uo.cnt (h:uo s l R):∀ i<R.length,zD (sp s l) (gp R i).1 l.length+i≤l.length
 |0,_=>by have:=Tz (sp s l) (gp R 0).1 l.length;omega
 |i+1,hi=>by
  have ih:=uo.cnt h i oO
  have h1:=h.next i hi
  have h2:=h.at (i:=i) oO
  have:=TA (F:=sp s l) (x:=(gp R (i+1)).1) (y:=(gp R i).1) oO l.length ⟨_,h2.1,h2.2.1,oO⟩
  omega
theorem NP {F:Nat→Int×Int} {x:Int}:∀ n,(∃ b<n,(F b).1≤x)→1≤zD F x n
 |0,⟨b,hb,_⟩=>by omega
 |n+1,⟨b,hb,h1⟩=>by
  simp only [zD]
  by_cases a:b=n
  ·subst a;rw [if_pos h1];omega
  ·have:=NP n ⟨b,oO,h1⟩;omega
theorem uo.len (h:uo s l R):R.length≤l.length:=by
 have hp:=h.pos
 have h1:=h.cnt (R.length - 1) oO
 have h2:=h.at (i:=R.length - 1) oO
 have h3:=NP (F:=sp s l) (x:=(gp R (R.length - 1)).1) l.length ⟨_,h2.1,h2.2.1⟩
 omega
theorem uo.right (h:uo s l R) (hc:iD s l=0):sD s l R=0:=by
 obtain ⟨h12,hl1,hs,ht⟩:=mX hc
 have hs1:1≤s.short:=by unfold fB at hs;omega
 have hlen:=h.len
 have hpos:=h.pos
 have c:∀ j<R.length,¬ kU s l R j:=fun j hj=>by
  have h1:=h.at hj
  have h2:=h.low j hj
  have h3:=h.best j hj
  unfold kU
  rintro (⟨rfl,hx⟩|⟨h0,hx⟩|hx|hx|hx)
  ·exact hx h.first
  ·have:=h.down (i:=j - 1) oO
   rw [show j - 1+1=j from by omega] at this
   omega
  ·omega
  ·omega
  ·omega
 have a:∀ j<R.length,¬ nI s l R j:=fun j hj hb=>by
  have h1:=h.at hj
  have h2:=h.low j hj
  have e:dQ s l (gp R j).2.toNat=sp s l (gp R j).2.toNat:=PS h1.1 ⟨h1.2.1,h1.2.2.1⟩
  have hen:(sp s l (gp R j).2.toNat).1≤wE s.short R j∧wE s.short R j≤(gp R j).1:=by
   unfold wE
   split
   ·rename_i d
    have:=h.next j d
    have:=h.down d
    omega
   ·have:=h.last j oO
    omega
  unfold nI inP at hb
  rw [e] at hb
  omega
 unfold sD
 rw [if_neg oO,if_neg oO,if_neg (by rw [mW c];simp),if_neg (by rw [mW a];simp)]
end
end Go.Proofs.YtajpgeklmcjciaaGreat
namespace Go.AH.Chain
open Go Go.AH
def acs (ops:List Oper) (m:Nat) (o:Oper) (j mk:Nat):Bool :=
 vV o && o.after.all (fun e=>!Region.binds .any e || Nat.blt e.on j) &&
  (match o.guard with|some (g,_)=>waits o g|none=>true) &&
  ((List.range j).all fun i=>mk.testBit i || (Nat.blt i m && (match ops[i]? with|some oi=>oi.apart ops.toArray o|none=>false))) &&
  (Nat.blt j m || (o.dst.isNone && o.guard.isNone))
def aeV (all:List Oper) (m:Nat):List Oper→Nat→List Nat→Bool
 |[],_,_=>true
 |o::rest,j,acc=>EU (ql acc o.after.toList) fun mk=>acs all m o j mk && aeV all m rest (j+1) (acc++[mk])
def GY (ops:List Oper) (m:Nat):Bool:=aeV ops m ops 0 []
theorem TB {all:List Oper} {m:Nat}:∀ (rest:List Oper) (j:Nat) (acc:List Nat),rest=all.drop j→acc.length=j→j≤all.length→(∀ (k:Nat) (mk:Nat),acc[k]?=some mk→Good all k mk)→aeV all m rest j acc=true →
  ∀ (t:Nat) (o:Oper),rest[t]?=some o→∃ mk,acs all m o (j+t) mk=true∧Good all (j+t) mk
 |[],_,_,_,_,_,_,_,t,o,h=>by simp at h
 |x::rest,j,acc,hr,hl,hj,hacc,hc,t,o,h=>by
  have hx:all[j]?=some x:=by
   have:=congrArg (fun l:List Oper=>l[0]?) hr
   simpa using this.symm
  have d:rest=all.drop (j+1):=by
   have:=congrArg List.tail hr
   simpa using this
  have hjl:=(List.getElem?_eq_some_iff.1 hx).1
  simp only [aeV,x9,aE] at hc
  have hg:=Bc hx hacc oO
  cases t with
  |zero=>simp at h;subst h;exact ⟨_,hc.1,hg⟩
  |succ t =>
   have:=TB rest (j+1) (acc++[ql acc x.after.toList]) d (by simp [hl]) oO (fun k mk hk=>by
    by_cases a:k<acc.length
    ·rw [bR a] at hk;exact hacc k mk hk
    ·rw [bE oO] at hk
     have c:k - acc.length=0:=by
      have:=(List.getElem?_eq_some_iff.1 hk).1
      simp at this;omega
     rw [c] at hk;simp at hk;subst hk
     rw [show k=j by omega];exact hg) hc.2 t o (oU h)
   rwa [show j+1+t=j+(t+1) by omega] at this
section
variable {all:List Oper} {m:Nat}
theorem TD (h:GY all m=true) {j:Nat} {o:Oper} (hj:all[j]?=some o) :
  (vV o=true∧(∀ e ∈ o.after,Region.binds .any e=true→e.on<j)∧(∀ g b,o.guard=some (g,b)→waits o g=true) ∧
  ∀ i oi,i<j→all[i]?=some oi→(∀ D:Nat→Prop,Closed all D→(∀ k,waits o k=true→D k)→D i)∨(i<m∧True∧oi.apart all.toArray o=true))∧(m≤j→o.dst=none∧o.guard=none):=by
 obtain ⟨mk,this,a⟩:=TB all 0 [] rfl rfl oO (fun k mk hk=>by simp at hk) h j o hj
 rw [bA] at this a
 unfold acs at this
 simp only [aE] at this
 obtain ⟨⟨⟨⟨h1,h2⟩,h3⟩,h4⟩,h5⟩:=this
 refine ⟨⟨h1,fun e he hb=>?_,fun g b hg=>?_,fun i oi hi c=>?_⟩,fun hm=>?_⟩
 ·have:=Array.all_eq_true_iff_forall_mem.1 h2 e he
  simp only [hb,Bool.not_true,Bool.false_or,bX] at this;exact this
 ·rw [hg] at h3;exact h3
 ·have:=List.all_eq_true.1 h4 i (oU hi)
  simp only [c,eq,aE,bX] at this
  rcases this with h|⟨h5,h7⟩
  ·exact .inl fun D hD hw=>a D hD o hj hw i h
  ·exact .inr ⟨h5,trivial,h7⟩
 ·simp only [eq,bX,aE,Option.isNone_iff_eq_none] at h5
  rcases h5 with h5|h5
  ·omega
  ·exact h5
theorem draw_parts (h:GY all m=true) {j:Nat} {o:Oper} (hj:all[j]?=some o) :
  vV o=true∧(∀ e ∈ o.after,Region.binds .any e=true→e.on<j)∧(∀ g b,o.guard=some (g,b)→waits o g=true) ∧
  ∀ i oi,i<j→all[i]?=some oi→(∀ D:Nat→Prop,Closed all D→(∀ k,waits o k=true→D k)→D i)∨(i<m∧True∧oi.apart all.toArray o=true):=(TD h hj).1
theorem waits_lt (h:GY all m=true) {j i:Nat} {o:Oper} (hj:all[j]?=some o) (hw:bT o.after i=true):i<j:=by
 unfold bT at hw
 obtain ⟨e,he,hb⟩:=Array.any_eq_true'.1 hw
 simp only [aE] at hb
 rw [← aM hb.2]
 exact (draw_parts h hj).2.1 e he hb.1
end
section
variable {P:Program} {N:Nat} {rd:Option Nat} {e0:Env} {mk:List Nat} {σ0:Heap} {all:List Oper} {ts:List Tr} {n0:Nat}
theorem dinv_sees {G:Nat→Prop} {w0:World} {ρ0 ρ:Rho} {L:Nat→Bool} {A:Act} {w:World} (hd:yc n0 N G w0 ρ0 e0 mk σ0 ts L A w ρ) (hall:∀ (i:Nat) (hi:i<ts.length),all[i]?=some ts[i].o)
  (hchk:GY all ts.length=true) {i:Nat} (hi:i<ts.length) (hLi:L i=false) (hw:∀ j,waits ts[i].o j=true→L j=true) (hdc:Closed all fun k=>L k=true)
  {t:Nat} (ht:t ∈ ts[i].o.looksAt all.toArray) {v:Value} (hv:Env.get (lZ (ts.take i) e0) t=some v):∃ v',A.tmps[t]?=some v'∧gq (σ0.length+(dY (ts.take i)).length) ρ v v':=by
 have d:∀ (j:Nat) (hj:j<i),(ts[j]'oO).o.dst=some t→L j=true:=by
  intro j hj a
  rcases (draw_parts hchk (hall i hi)).2.2.2 j _ hj (hall j oO) with h|⟨_,_,h⟩
  ·exact h _ hdc hw
  ·exact absurd ht ((Oper.apart_spec h).1 t a)
 have f:∀ (j:Nat) (hj:j<ts.length),i<j→ts[j].o.dst=some t→L j=true→False:=by
  intro j hj q a m
  rcases (draw_parts hchk (hall j hj)).2.2.2 i _ q (hall i hi) with h|⟨_,_,h⟩
  ·have:=h _ hdc (hdc j _ (hall j hj) m)
   rw [hLi] at this;cases this
  ·exact absurd ht ((Oper.apart_spec h).2.2 t a)
 rcases l7 _ _ _ _ hv with ⟨j,hj,h1,h2,h3⟩|⟨h1,h2⟩
 ·have l:j<i:=by simp at hj;omega
  rw [dC] at h1 h2
  obtain ⟨v',g1,g2⟩:=hd.new j oO (d j l h1) t h1 fun k hk p c e=>by
   rcases fv k i with n|rfl|g
   ·have:=h3 k (by simp;omega) p
    rw [dC] at this;exact this e
   ·rw [hLi] at c;cases c
   ·exact f k hk g e c
  refine ⟨v',g1,?_⟩
  rw [← h2]
  have:=qV l (eK hi)
  exact g2.mono oO fun _ _=>rfl
 ·obtain ⟨v',g1,g2⟩:=hd.old t v h1 fun k hk c e=>by
   rcases fv k i with n|rfl|g
   ·have:=h2 k (by simp;omega)
    rw [dC] at this;exact this e
   ·rw [hLi] at c;cases c
   ·exact f k hk g e c
  exact ⟨v',g1,g2.mono oO fun _ _=>rfl⟩
theorem dinv_step {G:Nat→Prop} {w0:World} {ρ0 ρ ρ':Rho} {L:Nat→Bool} {A:Act} {w w':World} (hd:yc n0 N G w0 ρ0 e0 mk σ0 ts L A w ρ) (hall:∀ (i:Nat) (hi:i<ts.length),all[i]?=some ts[i].o)
  (hchk:GY all ts.length=true) (hn0:n0≤σ0.length) (hmk:∀ i ∈ mk,i < σ0.length)
  (hns:∀ (j:Nat) (hj:j<ts.length),rH σ0.length ts[j].ns) (hnok:∀ (j:Nat) (hj:j<ts.length) (i:Nat) (hi:i<j),(∃ D:Nat→Prop,Closed all D∧D j∧¬ D i)→∀ (m:Nat) (ρ ρ':Rho) (v':Value),gq m ρ ts[j].v v' →
   (∀ q,q < σ0.length+(dY (ts.take i)).length∨σ0.length+(dY (ts.take i)).length+ts[i].ns.length≤q→ρ' q=ρ q)→gq m ρ' ts[j].v v')
  {i:Nat} (hi:i<ts.length) (hLi:L i=false) (hdc:Closed all fun k=>L k=true) (hdst:tH N ts[i].o=true)
  {v':Value} (hag:∀ k < σ0.length+(dY (ts.take i)).length,ρ' k=ρ k) (hv:gq (σ0.length+((dY (ts.take i)).length+ts[i].ns.length)) ρ' ts[i].v v')
  (hs':Sim (oth G ρ σ0 ts L (bT ts[i].o.after)) w ρ' (σ0++maskN (ts.take i) 0 (bT ts[i].o.after)++ts[i].ns) w') :
  yc n0 N G w0 ρ0 e0 mk σ0 ts (jR L i) (A.put ts[i].o.dst v') w' (rF ρ ρ' (σ0.length+(dY (ts.take i)).length) ts[i].ns.length):=by
 have a:∀ k < σ0.length+(dY (ts.take i)).length,rF ρ ρ' (σ0.length+(dY (ts.take i)).length) ts[i].ns.length k=ρ k:=fun k hk=>by simp only [rF];rw [if_neg oO]
 have c:∀ k < σ0.length+((dY (ts.take i)).length+ts[i].ns.length),rF ρ ρ' (σ0.length+(dY (ts.take i)).length) ts[i].ns.length k=ρ' k:=fun k hk=>by
  simp only [rF];split
  ·rfl
  ·rw [hag k oO]
 have g:∀ k,σ0.length+(dY (ts.take i)).length+ts[i].ns.length≤k→rF ρ ρ' (σ0.length+(dY (ts.take i)).length) ts[i].ns.length k=ρ k:=fun k hk=>by simp only [rF];rw [if_neg oO]
 have l:∀ t u,A.tmps[t]?=some u→ts[i].o.dst ≠ some t→(A.put ts[i].o.dst v').tmps[t]?=some u:=by
  intro t u hu y
  cases hdd:ts[i].o.dst with
  |none=>simpa [Act.put] using hu
  |some d =>
   simp only [Act.put]
   rw [fg (fun E=>y (by rw [hdd,E]))];exact hu
 refine ⟨fun k hk=>(a k oO).trans (hd.ag k hk),Jj hi hLi (fun j hj=>waits_lt hchk (hall i hi) hj) hd.sim hns hag hs',?_,?_,fun t v ht f=>?_,fun k hk x t r f=>?_⟩
 ·cases hdd:ts[i].o.dst <;> simp [Act.put,hd.sz]
 ·have:(A.put ts[i].o.dst v').defers=A.defers:=by cases ts[i].o.dst <;> rfl
  rw [this,hd.mks]
  congr 1
  exact eD fun k hk=>by rw [a k (by have:=hmk k hk;omega)]
 ·obtain ⟨u,g1,g2⟩:=hd.old t v ht fun k hk x=>f k hk (by simp only [jR];split <;> simp [x])
  exact ⟨u,l t u g1 (f i hi (by simp [jR])),g2.mono (aD _) fun k hk=>a k oO⟩
 ·by_cases p:k=i
  ·subst p
   refine ⟨v',?_,hv.mono oO c⟩
   simp only [r,tH,bX] at hdst
   simp only [r,Act.put]
   rw [fz (by rw [hd.sz];exact hdst)]
  ·have e:L k=true:=by simpa [jR,p] using x
   have y:ts[i].o.dst ≠ some t:=by
    intro z
    rcases fu p with s|n
    ·exact f i hi s (by simp [jR]) z
    ·rcases (draw_parts hchk (hall k hk)).2.2.2 i _ n (hall i hi) with h|⟨_,_,h⟩
     ·have:=h _ hdc (hdc k _ (hall k hk) e)
      rw [hLi] at this;cases this
     ·exact (Oper.apart_spec h).2.1 t z r
   obtain ⟨u,g1,g2⟩:=hd.new k hk e t r fun j hj F C=>f j hj F (by simp only [jR];split <;> simp [C])
   refine ⟨u,l t u g1 y,?_⟩
   rcases fu p with s|n
   ·have:=qV s (eK hi)
    exact g2.mono (aD _) fun j hj=>a j oO
   ·have:=qV n (eK hk)
    exact hnok k hk i n ⟨fun q=>L q=true,hdc,e,by simp [hLi]⟩ _ _ _ _ g2 fun j hj=>by
     rcases hj with hj|hj
     ·exact a j hj
     ·exact g j hj
theorem TF:∀ {ts ts':List Tr},ts.map (·.ns.length)=ts'.map (·.ns.length)→(dY ts).length=(dY ts').length:=by
 intro ts ts' h
 have e:∀ l:List Tr,(dY l).length=(l.map (·.ns.length)).sum:=by
  intro l
  induction l with
  |nil=>rfl
  |cons t l ih =>
   simp only [dY,cG,eA,aR,List.sum_cons] at ih ⊢
   omega
 rw [e,e,h]
theorem FI {ts ts':List Tr} (h:ts.map (·.ns.length)=ts'.map (·.ns.length)) (j:Nat):(dY (ts.take j)).length=(dY (ts'.take j)).length :=
 TF (by rw [List.map_take,List.map_take,h])
theorem Ko:∀ {ts ts':List Tr} {e:Env},ts.map (fun t=>(t.o.dst,t.v))=ts'.map (fun t=>(t.o.dst,t.v))→lZ ts e=lZ ts' e
 |[],[],_,_=>rfl
 |[],_::_,_,h=>by simp at h
 |_::_,[],_,h=>by simp at h
 |t::ts,t'::ts',e,h=>by
  simp only [cG,List.cons.injEq,Prod.mk.injEq] at h
  simp only [lZ,h.1.1,h.1.2]
  exact Ko h.2
theorem TI:∀ {ts ts':List Tr} {k:Nat} {L:Nat→Bool},ts.length=ts'.length→(∀ (j:Nat) (h:j<ts.length) (h':j<ts'.length),(L (k+j)=true→ts[j].ns=ts'[j].ns)∧ts[j].ns.length=ts'[j].ns.length)→maskN ts k L=maskN ts' k L
 |[],[],_,_,_,_=>rfl
 |[],_::_,_,_,h,_=>by simp at h
 |_::_,[],_,_,h,_=>by simp at h
 |t::ts,t'::ts',k,L,h,hp=>by
  have h0:=hp 0 oS oS
  simp only [cV,ec] at h0
  have h1:=TI (ts:=ts) (ts':=ts') (k:=k+1) (L:=L) (oU h) fun j hj a=>by
   have:=hp (j+1) (oU hj) (oU a)
   simpa [cF,e8 1 j] using this
  simp only [maskN,h1]
  cases hL:L k with
  |true=>rw [if_pos rfl,if_pos rfl,h0.1 hL]
  |false =>
   have e:hide t.ns=hide t'.ns:=by
    apply List.ext_getElem
    ·simp [wR,h0.2]
    ·intro i g1 g2;simp [hide]
   simp [e]
theorem ZI {G:Nat→Prop} {w0 w w':World} {ρ ρ':Rho} {ts':List Tr} {L W:Nat→Bool} (hlt:ts'.length=ts.length) (hln:ts.map (·.ns.length)=ts'.map (·.ns.length))
  (heq:∀ (j:Nat) (h:j<ts.length) (h':j<ts'.length),W j=false→ts'[j].ns=ts[j].ns)
  (hs:Sim G w0 ρ (σ0++maskN ts 0 L) w) (hns:∀ (j:Nat) (hj:j<ts.length),rH σ0.length ts[j].ns) (hns':∀ (j:Nat) (hj:j<ts'.length),rH σ0.length ts'[j].ns)
  (hag:∀ k < σ0.length+(dY ts).length,ρ' k=ρ k) (hs':Sim (oth G ρ σ0 ts L W) w ρ' (σ0++maskN ts' 0 W) w'):Sim G w0 ρ (σ0++maskN ts' 0 L) w':=by
 have K:=TF hln
 have C:(σ0++maskN ts' 0 W).length=σ0.length+(dY ts).length:=by simp [eY,K]
 have H:(σ0++maskN ts' 0 L).length=σ0.length+(dY ts).length:=by simp [eY,K]
 have hnn0:(σ0++maskN ts 0 L).length=σ0.length+(dY ts).length:=by simp [eY]
 have I:∀ (id:Nat) (x:aB),(σ0++maskN ts' 0 L)[id]?=some x→x.owned∨(∃ cs,x=.ro cs∧cs ≠ []) →
   ((σ0++maskN ts' 0 W)[id]?=some x∧(id < σ0.length∨∃ cs,x=aB.rw cs)) ∨
   (∃ (j:Nat) (hj:j<ts.length) (q:Nat),L j=true∧W j=false∧ts[j].ns[q]?=some x∧id=σ0.length+((dY (ts.take j)).length+q)):=by
  intro id x hx d
  by_cases a:id < σ0.length
  ·left
   rw [iE a] at hx
   exact ⟨by rw [iE a];exact hx,.inl a⟩
  ·rw [bE oO] at hx
   obtain ⟨j,hj,q,h1,h2,h3⟩:=uX ts' 0 L _ x hx
   rcases h3 with ⟨g,c⟩|⟨_,rfl⟩
   ·simp only [bA] at g
    have S:∃ cs,x=aB.rw cs:=let ⟨cs,h,_⟩:=hns' j hj x (ew c);⟨cs,h⟩
    cases i:W j with
    |false =>
     right
     have e:=heq j oO hj i
     rw [e] at c
     exact ⟨j,oO,q,g,i,c,by rw [FI hln j];omega⟩
    |true =>
     left
     have hm:=qC ts' 0 W j hj q x (oU i) c
     have Q:id=σ0.length+((dY (ts'.take j)).length+q):=oO
     exact ⟨by rw [Q,oC];exact hm,.inr S⟩
   ·rcases d with d|⟨cs,hcs,_⟩
    ·exact d.elim
    ·cases hcs
 have f:∀ (j:Nat) (hj:j<ts.length) (q:Nat) (x:aB),L j=true→ts[j].ns[q]?=some x→(σ0++maskN ts 0 L)[σ0.length+((dY (ts.take j)).length+q)]?=some x:=by
  intro j hj q x g c
  rw [oC];exact qC ts 0 L j hj q x (oU g) c
 refine ⟨hs'.os.trans hs.os,hs'.tape.trans hs.tape,hs'.output.trans hs.output,ej hs.size hs'.size,fun bb hb=>?_,fun id x hx=>?_,fun p q op oq hp hq r z m=>?_⟩
 ·obtain ⟨h1,h2⟩:=hs.fgn bb hb
  exact ⟨h1,((hs'.fgn bb (.inl hb)).2).trans h2⟩
 ·rw [H]
  have l:=aQ hx
  rw [H] at l
  by_cases F:∃ qs sp,x=.deep qs sp
  ·obtain ⟨qs,sp,rfl⟩:=F
   have a:id < σ0.length:=by
    apply Classical.byContradiction
    intro hlt
    rw [bE oO] at hx
    obtain ⟨j,hj,q,h1,h2,h3⟩:=uX ts' 0 L _ _ hx
    rcases h3 with ⟨_,c⟩|⟨_,he⟩
    ·obtain ⟨cs,he,_⟩:=hns' j hj _ (ew c);cases he
    ·cases he
   rw [iE a] at hx
   have h0:(σ0++maskN ts 0 L)[id]?=some (.deep qs sp):=by rw [iE a];exact hx
   have h1:(σ0++maskN ts' 0 W)[id]?=some (.deep qs sp):=by rw [iE a];exact hx
   have hr:=hs.obj id _ h0
   have P:=hs'.obj id _ h1
   rw [C,hag id l] at P
   have s:∀ b,G b→∀ y,w.heap[b]?=some y→w'.heap[b]?=some y:=fun b hb y hy=>by rw [(hs'.fgn b (.inl hb)).2];exact hy
   refine ⟨fun hq=>?_,fun y hy=>?_⟩
   ·obtain ⟨g1,g2⟩:=hr.1 hq
    refine ⟨g1,fun k hk=>?_⟩
    obtain ⟨v',g3,g4⟩:=g2 k hk
    exact ⟨v',lX g3 (s _ g1),qy g4 (fun _ h=>h) s⟩
   ·obtain ⟨g1,_⟩:=hr.2 y hy
    obtain ⟨_,v',g3,g4⟩:=P.2 y hy
    exact ⟨g1,v',g3,g4.mono (aD _) (fun k hk=>(hag k hk).symm)⟩
  by_cases d:x.owned∨(∃ cs,x=.ro cs∧cs ≠ [])
  ·rcases I id x hx d with ⟨h1,h3⟩|⟨j,hj,q,g,i,c,rfl⟩
   ·have hr:=hs'.obj id x h1
    rw [C] at hr
    rw [hag id l] at hr
    have hc:fO (σ0.length+(dY ts).length) x:=je hr
    refine nT (vW (G':=G) hr hc ?_ ?_ (.inr fun qs sp he=>F ⟨qs,sp,he⟩)) (aD _) (fun k hk=>(hag k hk).symm) (fun _ h=>h) (fun _ _ _ _ h=>h) (fun _ _ _ h=>h)
    ·intro hg
     rcases hg with hg|⟨j,hj,q,y,g,i,hy,N,M⟩
     ·exact hg
     ·exfalso
      rcases d with d|⟨cs,rfl,hcs⟩
      ·exact (fD hr d).2 (.inr ⟨j,hj,q,y,g,i,hy,N,M⟩)
      ·have a:id < σ0.length:=by
        rcases h3 with h3|⟨cs',he⟩
        ·exact h3
        ·cases he
       have h0:(σ0++maskN ts 0 L)[id]?=some (.ro cs):=by rw [iE a] at h1 ⊢;exact h1
       obtain ⟨hg,_⟩:=hs.obj id _ h0 hcs
       have v:=fD (hs.obj _ y (f j hj q y g hy)) N
       rw [M] at v
       exact v.2 hg
    ·intro ho hg;exact (fD hr ho).2 (.inl hg)
   ·have g1:=f j hj q x g c
    obtain ⟨cs,rfl,T,R⟩:=hns j hj x (ew c)
    have hr:=hs.obj _ _ g1
    refine nT (vW (n:=σ0.length) (G':=G) hr ⟨T,R⟩ (fun h=>h) (fun ho=>(fD hr ho).2) (.inl fun _ h=>h)) oO (fun _ _=>rfl) ?_ (fun _ _ h=>by cases h) (fun b hb y hy=>by rw [(hs'.fgn b (.inl hb)).2];exact hy)
    intro y hy
    have ho:(aB.rw cs).owned:=by
     rcases d with d|⟨_,hcs,_⟩
     ·exact d
     ·cases hcs
    rw [(hs'.fgn _ (.inr ⟨j,hj,q,_,g,i,c,ho,rfl⟩)).2];exact hy
  ·cases x with
   |dead=>trivial
   |ro cs=>intro hc;exact absurd (.inr ⟨cs,rfl,hc⟩) d
   |rw cs=>intro hc;exact absurd (.inl hc) d
   |gr cs t=>intro hc;exact absurd (.inl hc) d
   |deep qs sp=>exact absurd ⟨qs,sp,rfl⟩ F
   |_=>exact absurd (.inl trivial) d
 ·have D:=aQ hp
  have J:=aQ hq
  rw [H] at D J
  rcases I p op hp (.inl r) with ⟨h1,_⟩|⟨j,hj,k,g,i,c,rfl⟩ <;> rcases I q oq hq (.inl z) with ⟨g1,_⟩|⟨j',O,k',o,E,u,rfl⟩
  ·rw [← hag p D,← hag q J] at m
   exact hs'.inj p q op oq h1 g1 r z m
  ·rw [← hag p D] at m
   exact absurd (.inr ⟨j',O,k',oq,o,E,u,z,m.symm⟩) (fD (hs'.obj p op h1) r).2
  ·rw [← hag q J] at m
   exact absurd (.inr ⟨j,hj,k,op,g,i,c,r,m⟩) (fD (hs'.obj q oq g1) z).2
  ·exact hs.inj _ _ op oq (f j hj k op g c) (f j' O k' oq o u) r z m
def jO (ts:List Tr) (j:Nat) (h:Heap):List Tr:=ts.modify j fun t=>{ t with ns:=h }
theorem jL (ts:List Tr) (j:Nat) (h:Heap):(jO ts j h).length=ts.length:=by simp [jO]
theorem qK {ts:List Tr} {j:Nat} {h:Heap} {i:Nat} (hi:i<(jO ts j h).length) (hi':i<ts.length):(jO ts j h)[i]=if j=i then { ts[i] with ns:=h } else ts[i]:=by
 simp only [jO,List.getElem_modify]
theorem FK {α:Type} (f:Tr→α) {ts:List Tr} {j:Nat} {h:Heap} (hf:∀ (hj:j<ts.length),f { ts[j] with ns:=h }=f ts[j]):(jO ts j h).map f=ts.map f:=by
 apply List.ext_getElem
 ·simp [jL]
 ·intro i h1 h2
  have hi:i<ts.length:=by simpa using h2
  rw [cL,cL,qK (oU h1) hi]
  split
  ·rename_i e;subst e;exact hf hi
  ·rfl
def Qb (P:Program) (rd:Option Nat) (all:List Oper) (e:Env) (σ0:Heap) (m:Nat) (K:List Tr→Prop):List Oper→List Tr→Prop
 |[],ts=>K ts
 |o::rest,ts=>∃ (j:Nat) (h:Heap) (v:Value),bT o.after j=true∧(∀ (i:Nat) (oi:Oper),i<m→all[i]?=some oi→waits oi j=true→bT o.after i=true)∧(∀ hj:j<ts.length,h.length=ts[j].ns.length)∧rH σ0.length h ∧
   bW P rd o.op o.type e (σ0++maskN ts 0 (bT o.after)) v (σ0++maskN (jO ts j h) 0 (bT o.after))∧Qb P rd all e σ0 m K rest (jO ts j h)
structure FOk (P:Program) (N:Nat) (rd:Option Nat) (all:List Oper) (e0:Env) (σ0:Heap) (ts:List Tr) (L:Nat→Bool):Prop where
 all':∀ (i:Nat) (hi:i<ts.length),all[i]?=some ts[i].o
 dst:∀ (i:Nat) (hi:i<ts.length),tH N ts[i].o=true
 want:∀ (i:Nat) (hi:i<ts.length),jU all (lZ (ts.take i) e0) ts[i].o=some ts[i].run
 off:∀ (i:Nat) (hi:i<ts.length),ts[i].run=false→ts[i].v=undef∧(L i=false→ts[i].ns=[])
 new:∀ (i:Nat) (hi:i<ts.length),rH σ0.length ts[i].ns
 nok:∀ (j:Nat) (hj:j<ts.length) (i:Nat) (hi:i<j),(∃ D:Nat→Prop,Closed all D∧D j∧¬ D i)→∀ (m:Nat) (ρ ρ':Rho) (v':Value),gq m ρ ts[j].v v' →
   (∀ q,q < σ0.length+(dY (ts.take i)).length∨σ0.length+(dY (ts.take i)).length+ts[i].ns.length≤q→ρ' q=ρ q)→gq m ρ' ts[j].v v'
 run:∀ (i:Nat) (hi:i<ts.length),L i=false→ts[i].run=true→bW P rd ts[i].o.op ts[i].o.type (lZ (ts.take i) e0) (σ0++maskN (ts.take i) 0 (bT ts[i].o.after)) ts[i].v (σ0++maskN (ts.take i) 0 (bT ts[i].o.after)++ts[i].ns)
theorem FOk.start (htr:U6 P N rd all 0 ts e0 σ0 []) (hall:∀ (i:Nat) (hi:i<ts.length),all[i]?=some ts[i].o) (L:Nat→Bool):FOk P N rd all e0 σ0 ts L:=by
 have a:=fun (j:Nat) (hj:j<ts.length)=>Jh ts e0 htr j hj
 refine ⟨hall,fun i hi=>(a i hi).1,fun i hi=>(a i hi).2.1,fun i hi h=>⟨((a i hi).2.2.2.1 h).1,fun _=>((a i hi).2.2.2.1 h).2⟩,fun i hi=>(a i hi).2.2.2.2.1,fun j hj i hij hD m ρ ρ' v' hv hq=>?_,fun i hi _ h=>(a i hi).2.2.1 h⟩
 by_cases d:ts[i].ns=[]
 ·exact hv.mono (aD _) fun q _=>hq q (by rw [d];simp;omega)
 ·have c:((ts.take j)[i]'(by simp;omega)).ns ≠ []:=by simpa using d
  obtain ⟨n1,n2,e1,e2⟩:=qU (ts.take j) 0 [] i (by simp;omega) c
  rw [bA] at e1
  have e3:iw n1=dY (ts.take i):=by
   rw [e2,eJ,fj oO];simp [iw]
  refine (a j hj).2.2.2.2.2 n1 i _ n2 e1 hD m ρ ρ' v' hv fun q e=>hq q ?_
  rw [e3] at e
  simpa using e
theorem FOk.mono {L L':Nat→Bool} (h:FOk P N rd all e0 σ0 ts L) (hL:∀ i<ts.length,L i=true→L' i=true):FOk P N rd all e0 σ0 ts L':=by
 have hf:∀ i<ts.length,L' i=false→L i=false:=fun i hi hh=>by
  cases hc:L i with
  |false=>rfl
  |true=>rw [hL i hi hc] at hh;cases hh
 exact ⟨h.all',h.dst,h.want,fun i hi hr=>⟨(h.off i hi hr).1,fun hl=>(h.off i hi hr).2 (hf i hi hl)⟩,h.new,h.nok,fun i hi hl hr=>h.run i hi (hf i hi hl) hr⟩
theorem CZ {j:Nat} {h:Heap} (hl:∀ hj:j<ts.length,h.length=ts[j].ns.length):ts.map (·.ns.length)=(jO ts j h).map (·.ns.length):=(FK _ (fun hj=>by simpa using hl hj)).symm
theorem V9 (j i:Nat) (h:Heap):(jO ts j h).take i=jO (ts.take i) j h:=by
 apply List.ext_getElem
 ·simp [jL]
 ·intro q h1 h2
  have hq:q<ts.length:=by simp [jL] at h1;omega
  have a:q<(ts.take i).length:=by simpa [jL] using h2
  rw [dC,qK (by rw [jL];exact hq) hq,qK h2 a]
  simp only [dC]
theorem FOk.set {L:Nat→Bool} {j:Nat} {h:Heap} (hf:FOk P N rd all e0 σ0 ts L) (hj:j<ts.length→L j=true) (hw:∀ (i:Nat) (hi:i<ts.length),waits ts[i].o j=true→L i=true) (hl:∀ hj:j<ts.length,h.length=ts[j].ns.length) (hn:rH σ0.length h):FOk P N rd all e0 σ0 (jO ts j h) L:=by
 have f:=jL ts j h
 have get:∀ (i:Nat) (hi:i<(jO ts j h).length) (n:i<ts.length),(jO ts j h)[i].o=ts[i].o∧(jO ts j h)[i].v=ts[i].v∧(jO ts j h)[i].run=ts[i].run∧(i ≠ j→(jO ts j h)[i].ns=ts[i].ns):=by
  intro i hi n
  rw [qK hi n]
  split
  ·rename_i e;exact ⟨rfl,rfl,rfl,fun s=>absurd e.symm s⟩
  ·exact ⟨rfl,rfl,rfl,fun _=>rfl⟩
 have d:∀ i,lZ ((jO ts j h).take i) e0=lZ (ts.take i) e0:=fun i=>by
  rw [V9];exact Ko (FK _ (fun _=>rfl))
 have a:=CZ (ts:=ts) hl
 refine ⟨fun i hi=>?_,fun i hi=>?_,fun i hi=>?_,fun i hi hr=>?_,fun i hi=>?_,fun q hq i hi hD m ρ ρ' v' hv hr=>?_,fun i hi hL hr=>?_⟩
 ·rw [(get i hi oO).1];exact hf.all' i oO
 ·rw [(get i hi oO).1];exact hf.dst i oO
 ·rw [(get i hi oO).1,(get i hi oO).2.2.1,d];exact hf.want i oO
 ·rw [(get i hi oO).2.2.1] at hr
  rw [(get i hi oO).2.1]
  refine ⟨(hf.off i oO hr).1,fun hL=>?_⟩
  by_cases c:i=j
  ·subst c;rw [hj oO] at hL;cases hL
  ·rw [(get i hi oO).2.2.2 c];exact (hf.off i oO hr).2 hL
 ·by_cases c:i=j
  ·subst c
   rw [qK hi oO,if_pos rfl];exact hn
  ·rw [(get i hi oO).2.2.2 c];exact hf.new i oO
 ·rw [(get q hq oO).2.1] at hv ⊢
  refine hf.nok q oO i hi hD m ρ ρ' v' hv fun k hk=>hr k ?_
  rw [← FI a i]
  have e:(jO ts j h)[i].ns.length=ts[i].ns.length:=by
   have:=congrArg (fun l:List Nat=>l[i]?) a
   simp only [cN] at this
   rw [cC (show i<ts.length by omega),cC (show i<(jO ts j h).length by omega)] at this
   simpa using this.symm
  rw [e];exact hk
 ·have c:i ≠ j:=fun e=>by subst e;rw [hj oO] at hL;cases hL
  obtain ⟨g1,g2,g3,g4⟩:=get i hi oO
  rw [g3] at hr
  have g:waits ts[i].o j=false:=by
   cases hc:waits ts[i].o j with
   |false=>rfl
   |true=>rw [hw i oO hc] at hL;cases hL
  have em:maskN ((jO ts j h).take i) 0 (bT ts[i].o.after)=maskN (ts.take i) 0 (bT ts[i].o.after):=by
   refine TI (by simp [f]) fun q h1 h2=>?_
   have hq:q<ts.length:=by simp at h2;omega
   have p:q<(jO ts j h).length:=oO
   simp only [dC,bA]
   by_cases r:q=j
   ·subst r
    refine ⟨fun hc=>?_,?_⟩
    ·unfold waits at g;rw [g] at hc;cases hc
    ·rw [qK p hq,if_pos rfl];exact hl hq
   ·rw [(get q p hq).2.2.2 r];exact ⟨fun _=>rfl,rfl⟩
  rw [g1,g2,g4 c,d,em]
  exact hf.run i oO hL hr
theorem acu {G:Nat→Prop} {w0 w w':World} {ρ0 ρ:Rho} {L:Nat→Bool} {A:Act} {j:Nat} {h:Heap} (hd:yc n0 N G w0 ρ0 e0 mk σ0 ts L A w ρ) (hl:∀ hj:j<ts.length,h.length=ts[j].ns.length) (hs:Sim G w0 ρ (σ0++maskN (jO ts j h) 0 L) w') :
  yc n0 N G w0 ρ0 e0 mk σ0 (jO ts j h) L A w' ρ:=by
 have hlen:=jL ts j h
 have c:=CZ (ts:=ts) hl
 have a:∀ (i:Nat) (hi:i<(jO ts j h).length) (f:i<ts.length),(jO ts j h)[i].o=ts[i].o∧(jO ts j h)[i].v=ts[i].v:=by
  intro i hi f
  rw [qK hi f]
  split <;> exact ⟨rfl,rfl⟩
 refine ⟨hd.ag,hs,hd.sz,hd.mks,fun t v ht d=>hd.old t v ht fun k hk hL=>?_,fun k hk hL t ht d=>?_⟩
 ·rw [← (a k oO hk).1];exact d k oO hL
 ·rw [(a k hk oO).1] at ht
  obtain ⟨v',g1,g2⟩:=hd.new k oO hL t ht fun q hq m g=>by
   rw [← (a q oO hq).1];exact d q oO m g
  refine ⟨v',g1,?_⟩
  rw [(a k hk oO).2,← FI c k]
  have e:(jO ts j h)[k].ns.length=ts[k].ns.length:=by
   have:=congrArg (fun l:List Nat=>l[k]?) c
   simp only [cN] at this
   rw [cC (show k<ts.length by omega),cC hk] at this
   simpa using this.symm
  rw [e];exact g2
theorem ZJ {G:Nat→Prop} {w0:World} {ρ0:Rho} {Q':Exit→Act→World→Prop} {m:Nat} {K:List Tr→Prop} (hrd:lQ rd n0=true) (hchk:GY all m=true) (hn0:n0≤σ0.length) (hmk:∀ i ∈ mk,i < σ0.length)
  (hcl:∀ (i:Nat) (o:aB),σ0[i]?=some o→fO σ0.length o) (eF:Env)
  (hfin:∀ (ts:List Tr) A w ρ,K ts→ts.length=m→lZ ts e0=eF→yc n0 N G w0 ρ0 e0 mk σ0 ts (fun _=>true) A w ρ→Q' .normal A w) :
  ∀ (fuel:Nat) (tl:List Oper) (ts:List Tr) (listed:Array Bool) (A:Act) (w:World) (ρ:Rho),ts.length=m→lZ ts e0=eF→m+tl.length≤all.length→tl=all.drop (all.length - tl.length)→listed.size=all.length →
   (∀ i,m≤i→i<all.length→listed.getD i false=decide (i<all.length - tl.length))→cnt all.length listed=fuel→Closed all (fun k=>listed.getD k false=true)→FOk P N rd all e0 σ0 ts (fun k=>listed.getD k false) →
   Qb P rd all eF σ0 m K tl ts→yc n0 N G w0 ρ0 e0 mk σ0 ts (fun i=>listed.getD i false) A w ρ→wpAnyIn (fen ρ0 rd) 0 P .any all.toArray Q' fuel listed A w:=by
 intro fuel
 induction fuel with
 |zero =>
  intro tl ts listed A w ρ X O H S T d D F hF Y hd
  have a0:∀ i<all.length,listed.getD i false=true:=by
   intro i hi
   unfold cnt at D
   have:=(List.countP_eq_zero.1 D) i (oU hi)
   simp only [eQ,Bool.not_eq_false] at this
   rw [getD_lt oO false true];exact this
  cases tl with
  |cons o rest =>
   exfalso
   simp only [eg] at H d
   have h1:=d (all.length - (rest.length+1)) oO oO
   rw [a0 _ oO] at h1
   simp at h1
  |nil =>
   refine ⟨List.eq_nil_iff_forall_not_mem.2 fun i hi=>?_,hfin ts A w ρ Y X O (jc (fun k hk=>?_) hd)⟩
   ·obtain ⟨h1,o,ho,_⟩:=mem_ready.1 hi
    rw [bO] at ho
    have J:=(List.getElem?_eq_some_iff.1 ho).1
    rw [getD_lt oO true false,a0 i J] at h1;cases h1
   ·simp only [eb] at H
    exact a0 k oO
 |succ fuel ih =>
  intro tl ts listed A w ρ X O H S T d D F hF Y hd
  have z:GY all ts.length=true:=by rw [X];exact hchk
  refine ⟨fun hr=>?_,fun i hr=>?_⟩
  ·exfalso
   have am:∃ i,i<all.length∧listed.getD i false=false:=by
    apply Classical.byContradiction
    intro hn
    have:cnt all.length listed=0:=by
     unfold cnt
     rw [List.countP_eq_zero]
     intro i hi
     have a9:i<all.length:=by simpa using hi
     have hl:listed.getD i false=true:=by
      cases hc:listed.getD i false with
      |true=>rfl
      |false=>exact absurd ⟨i,a9,hc⟩ hn
     rw [getD_lt oO true false,hl];simp
    omega
   have U:∃ i,(i<all.length∧listed.getD i false=false)∧∀ k<i,listed.getD k false=true:=by
    obtain ⟨i,hi⟩:=am
    induction i using Nat.strongRecOn with
    |_ i ih2 =>
     by_cases s:∃ k,k<i∧listed.getD k false=false
     ·obtain ⟨k,hk,ao⟩:=s;exact ih2 k hk ⟨oO,ao⟩
     ·refine ⟨i,hi,fun k hk=>?_⟩
      cases hc:listed.getD k false with
      |true=>rfl
      |false=>exact absurd ⟨k,hk,hc⟩ s
   obtain ⟨i,⟨hi,V⟩,s⟩:=U
   have ho:all[i]?=some all[i]:=cC hi
   have:i ∈ Region.ready .any all.toArray listed:=mem_ready.2 ⟨by rw [getD_lt oO true false];exact V,all[i],by rw [bO];exact ho,
    fun e he hb=>s _ ((draw_parts hchk ho).2.1 e he hb)⟩
   rw [hr] at this;cases this
  ·obtain ⟨V,o,ho,_⟩:=mem_ready.1 hr
   rw [bO] at ho
   have J:i<all.length:=(List.getElem?_eq_some_iff.1 ho).1
   have r:listed.getD i false=false:=by rw [getD_lt oO false true];exact V
   have p:Closed all (fun k=>(listed.setIfInBounds i true).getD k false=true):=by
    intro j o' hj M k hk
    show (listed.setIfInBounds i true).getD k false=true
    have M:(listed.setIfInBounds i true).getD j false=true:=M
    rw [gY oO] at M ⊢
    split
    ·rfl
    ·split at M
     ·rename_i ar;subst ar
      rw [ho] at hj;cases hj
      exact iF hr ho hk
     ·exact F j o' hj M k hk
   rcases e7 i m with C|C
   ·have E:i<ts.length:=oO
    have ak:o=ts[i].o:=by have:=hF.all' i E;rw [ho] at this;exact Option.some.inj this
    subst ak
    have hw:∀ j,waits ts[i].o j=true→listed.getD j false=true:=fun j hj=>iF hr ho hj
    have n:=fun {t:Nat} (ht:t ∈ ts[i].o.looksAt all.toArray) {v:Value} (hv:Env.get (lZ (ts.take i) e0) t=some v) =>
     dinv_sees hd hF.all' z E r hw F ht hv
    have y:Region.wanted ts[i].o (yielded all.toArray A.tmps)=ts[i].run:=by
     refine zT (hF.want i E) fun g want hg t ht v hv=>?_
     obtain ⟨v',g1,g2⟩:=n (t:=t) (by
      unfold Oper.looksAt
      rw [hg]
      refine List.mem_append_right _ ?_
      simp only [bO]
      rw [ht];simp) hv
     exact ⟨_,_,v',g1,g2⟩
    have a:=DJ (i:=i) (W:=bT ts[i].o.after) hd.sim hcl hF.new hw
    have after:∀ (ρ':Rho) (v':Value) (w':World),(∀ k < σ0.length+(dY (ts.take i)).length,ρ' k=ρ k)→gq (σ0.length+((dY (ts.take i)).length+ts[i].ns.length)) ρ' ts[i].v v' →
      Sim (oth G ρ σ0 ts (fun i=>listed.getD i false) (bT ts[i].o.after)) w ρ' (σ0++maskN (ts.take i) 0 (bT ts[i].o.after)++ts[i].ns) w' →
      wpAnyIn (fen ρ0 rd) 0 P .any all.toArray Q' fuel (listed.setIfInBounds i true) (A.put ts[i].o.dst v') w':=by
     intro ρ' v' w' ha hv Q
     have ap:=dinv_step hd hF.all' z hn0 hmk hF.new hF.nok E r F (hF.dst i E) ha hv Q
     refine ih tl ts _ _ _ _ X O H S (oU T) (fun k hk a1=>?_) ?_ p (hF.mono fun k hk hL=>?_) Y (jc (fun k hk=>?_) ap)
     ·rw [gY oO,if_neg oO];exact d k hk a1
     ·have:=qW J T V;omega
     ·show (listed.setIfInBounds i true).getD k false=true
      rw [gY oO];split
      ·rfl
      ·exact hL
     ·simp only [jR];rw [gY oO]
    unfold wpOpIn
    simp only [bO,ho]
    cases hrun:ts[i].run with
    |true =>
     rw [if_pos (by rw [y,hrun])]
     have a8:=hF.run i E r hrun
     rw [← lW (rd:=rd) (ρ':=ρ) (ρ:=ρ0) fun l hl=>hd.ag l (lS hrd l hl)]
     refine a8 ts[i].o rfl rfl (oth G ρ σ0 ts (fun i=>listed.getD i false) (bT ts[i].o.after)) w ρ A w (fun l hl=>by have:=lS hrd l hl;simp;omega) a (fun x hx u hu=>?_) _ _ ?_
     ·cases x with
      |tmp t =>
       obtain ⟨v',g1,g2⟩:=n (t:=t) (fW _ (List.mem_filterMap.2 ⟨.tmp t,by simpa using hx,rfl⟩)) hu
       rw [aR,eY]
       simpa [Act.eval,g1] using g2
      |const c =>
       simp only [aP] at hu
       cases hp:plain c <;> simp [hp] at hu
       subst hu;exact aY c hp
      |func f=>simp only [aP,Option.some.injEq] at hu;subst hu;exact .func f #[] #[] #[] #[] rfl rfl (fun i h=>by simp at h) (fun i h=>by simp at h)
      |global g=>simp [aP] at hu
     ·intro ρ' v' w' hv H ha Q
      rw [lW (rd:=rd) (ρ':=ρ) (ρ:=ρ0) fun l hl=>hd.ag l (lS hrd l hl)]
      refine after ρ' v' w' (fun k hk=>ha k (by rw [aR,eY];exact hk)) ?_ Q
      rw [aR,aR,eY,cF] at hv;exact hv
    |false =>
     rw [if_neg (by rw [y,hrun];simp)]
     obtain ⟨g1,g2⟩:=hF.off i E hrun
     have g2:=g2 r
     refine ⟨fun f _=>kN _ _ _,?_⟩
     have:=after ρ undef w (fun _ _=>rfl) (by rw [g1];exact aY _ rfl) (by rw [g2];simpa using a)
     exact this
   ·
    have hq:all.length - tl.length≤i:=by
     have:=d i C J
     rw [r] at this
     have:=of_decide_eq_false this.symm
     omega
    cases tl with
    |nil=>simp only [eb] at hq;omega
    |cons o1 rest =>
     simp only [eg] at H d hq S
     have a5:all[all.length - (rest.length+1)]?=some o1:=by
      have:=congrArg (fun l:List Oper=>l[0]?) S
      simpa using this.symm
     have I:rest=all.drop (all.length - rest.length):=by
      have:=congrArg List.tail S
      simp only [List.tail_cons,List.tail_drop] at this
      rw [show all.length - rest.length=all.length - (rest.length+1)+1 by omega];exact this
     have aq:i=all.length - (rest.length+1):=by
      apply Classical.byContradiction;intro hne
      rcases (draw_parts hchk ho).2.2.2 (all.length - (rest.length+1)) o1 oO a5 with h'|⟨h',_,_⟩
      ·have:=h' (fun k=>listed.getD k false=true) F fun k hk=>iF hr ho hk
       have h2:=d (all.length - (rest.length+1)) oO oO
       rw [show listed.getD (all.length - (rest.length+1)) false=true from this] at h2
       simp at h2
      ·omega
     have af:o=o1:=by rw [aq,a5] at ho;exact (Option.some.inj ho).symm
     subst af
     obtain ⟨a3,ae⟩:=(TD hchk ho).2 C
     obtain ⟨j,h,v,a4,al,a2,aj,ac,Z⟩:=Y
     have hw:∀ k,waits o k=true→listed.getD k false=true:=fun k hk=>iF hr ho hk
     have a:=DJ (i:=ts.length) (W:=bT o.after) hd.sim hcl hF.new hw
     rw [eZ] at a
     have a6:=hF.set (j:=j) (h:=h) (fun _=>hw j a4) (fun k hk ai=>hw k (al k _ oO (hF.all' k hk) ai)) a2 aj
     have n:∀ t ∈ o.looksAt all.toArray,∀ u,Env.get eF t=some u→∃ v',A.tmps[t]?=some v'∧gq (σ0.length+(dY ts).length) ρ u v':=by
      intro t ht u hu
      rw [← O] at hu
      have R:∀ (k:Nat) (hk:k<ts.length),ts[k].o.dst=some t→listed.getD k false=true:=by
       intro k hk ad
       rcases (draw_parts hchk ho).2.2.2 k _ oO (hF.all' k hk) with h'|⟨_,_,h'⟩
       ·exact h' (fun k=>listed.getD k false=true) F fun k hk=>iF hr ho hk
       ·exact absurd ht ((Oper.apart_spec h').1 t ad)
      rcases l7 _ _ _ _ hu with ⟨k,hk,h1,h2,h3⟩|⟨h1,h2⟩
      ·obtain ⟨v',g1,g2⟩:=hd.new k hk (R k hk h1) t h1 fun q hq ah _=>h3 q hq ah
       refine ⟨v',g1,?_⟩
       rw [← h2]
       have:=uG hk
       exact g2.mono oO fun _ _=>rfl
      ·obtain ⟨v',g1,g2⟩:=hd.old t u h1 fun k hk _=>h2 k hk
       exact ⟨v',g1,g2.mono oO fun _ _=>rfl⟩
     unfold wpOpIn
     simp only [bO,ho]
     rw [if_pos (by simp [Region.wanted,ae])]
     rw [← lW (rd:=rd) (ρ':=ρ) (ρ:=ρ0) fun l hl=>hd.ag l (lS hrd l hl)]
     refine ac o rfl rfl (oth G ρ σ0 ts (fun i=>listed.getD i false) (bT o.after)) w ρ A w (fun l hl=>by have:=lS hrd l hl;simp;omega) a (fun x hx u hu=>?_) _ _ ?_
     ·cases x with
      |tmp t =>
       obtain ⟨v',g1,g2⟩:=n t (fW _ (List.mem_filterMap.2 ⟨.tmp t,by simpa using hx,rfl⟩)) u hu
       rw [aR,eY]
       simpa [Act.eval,g1] using g2
      |const c =>
       simp only [aP] at hu
       cases hp:plain c <;> simp [hp] at hu
       subst hu;exact aY c hp
      |func f=>simp only [aP,Option.some.injEq] at hu;subst hu;exact .func f #[] #[] #[] #[] rfl rfl (fun i h=>by simp at h) (fun i h=>by simp at h)
      |global g=>simp [aP] at hu
     ·intro ρ' v' w' hv hle2 ha Q
      rw [lW (rd:=rd) (ρ':=ρ) (ρ:=ρ0) fun l hl=>hd.ag l (lS hrd l hl)]
      have L:=CZ (ts:=ts) a2
      have aa:=ZI (jL ts j h) L (fun k hk an a7=>by
       rw [qK an hk]
       split
       ·rename_i e;subst e;rw [a4] at a7;cases a7
       ·rfl) hd.sim hF.new a6.new (fun k hk=>ha k (by rw [aR,eY];exact hk)) Q
      have hd2:=acu hd a2 aa
      rw [a3]
      refine ih rest (jO ts j h) _ _ _ _ (by rw [jL];exact X) ?_ oO I (oU T) (fun k hk a1=>?_) ?_ p (a6.mono fun k hk hL=>?_) Z (jc (fun k hk=>?_) hd2)
      ·rw [← O];exact Ko (FK _ fun _=>rfl)
      ·rw [gY oO]
       split
       ·rename_i e;subst e;symm;simp only [decide_eq_true_eq];omega
       ·rename_i e;rw [d k hk a1];simp only [decide_eq_decide];omega
      ·have:=qW J T V;omega
      ·show (listed.setIfInBounds i true).getD k false=true
       rw [gY oO];split
       ·rfl
       ·exact hL
      ·rw [jL] at hk
       rw [gY oO,if_neg oO]
def wY (news:List (Nat×Heap)) (j:Nat) (h:Heap):List (Nat×Heap):=news.map fun p=>bif Nat.beq p.1 j then (p.1,h) else p
theorem TJ {news:List (Nat×Heap)} {j:Nat} {h:Heap} (hn:∀ p ∈ news,p.1 ≠ j):wY news j h=news:=by
 unfold wY
 conv=>rhs;rw [← List.map_id news]
 exact eD fun p hp=>by rw [jl (hn p hp)];rfl
theorem qo:∀ (ts:List Tr) (k:Nat) (news:List (Nat×Heap)),iC k ts news=news++iC k ts []
 |[],_,_=>by simp [iC]
 |t::ts,k,news=>by
  simp only [iC]
  rw [qo ts (k+1) (addN news k t.ns),qo ts (k+1) (addN [] k t.ns),← cD]
  congr 1
  cases t.ns <;> simp [addN]
theorem C9:∀ (ts:List Tr) (k:Nat) (p:Nat×Heap),p ∈ iC k ts []→∃ (i:Nat) (hi:i<ts.length),p=(k+i,ts[i].ns)
 |[],_,p,h=>by simp [iC] at h
 |t::ts,k,p,h=>by
  simp only [iC] at h
  rw [qo] at h
  rcases List.mem_append.1 h with h|h
  ·refine ⟨0,by simp,?_⟩
   cases hn:t.ns with
   |nil=>rw [hn] at h;simp [addN] at h
   |cons x r=>rw [hn] at h;simp [addN] at h;simp [h,hn]
  ·obtain ⟨i,hi,e⟩:=C9 ts (k+1) p h
   exact ⟨i+1,by simpa using hi,by rw [e];simp;omega⟩
theorem Kq {h:Heap} (hne:h ≠ []):∀ (ts:List Tr) (k j:Nat),(∀ hj:j<ts.length,ts[j].ns ≠ [])→iC k (jO ts j h) []=wY (iC k ts []) (k+j) h
 |[],k,j,_=>by simp [jO,iC,wY]
 |t::ts,k,0,hj=>by
  have h0:t.ns ≠ []:=hj oS
  have hr:∀ p ∈ iC (k+1) ts [],p.1 ≠ k:=fun p hp=>by
   obtain ⟨i,_,e⟩:=C9 ts (k+1) p hp
   rw [e];simp only;omega
  simp only [jO,List.modify_zero_cons,iC]
  rw [qo,qo ts (k+1) (addN [] k t.ns)]
  simp only [cV]
  unfold wY
  rw [eC]
  have e:=TJ (h:=h) hr
  unfold wY at e
  rw [e]
  congr 1
  cases ht:t.ns with
  |nil=>exact absurd ht h0
  |cons x r =>
   cases h with
   |nil=>exact absurd rfl hne
   |cons y q=>simp [addN]
 |t::ts,k,j+1,hj=>by
  have ih:=Kq hne ts (k+1) j (fun hh=>hj (Nat.succ_lt_succ hh))
  simp only [jO,List.modify_succ_cons,iC]
  rw [qo,qo ts (k+1) (addN [] k t.ns)]
  unfold jO at ih
  rw [ih]
  unfold wY
  rw [eC,show k+1+j=k+(j+1) by omega]
  congr 1
  cases ht:t.ns with
  |nil=>simp [addN]
  |cons x r=>simp [addN,jl (show ¬ k=k+(j+1) by omega)]
def FM (P:Program) (rd:Option Nat) (all:List Oper) (e:Env) (σ0:Heap) (m:Nat) (K:List (Nat×Heap)→Prop):List Oper→List (Nat×Heap)→Prop
 |[],news=>K news
 |o::rest,news=>∃ (j:Nat) (h:Heap) (v:Value),bT o.after j=true∧((List.range m).all fun i=>match all[i]? with|some oi=>!waits oi j || bT o.after i|none=>true)=true∧(∃ old,(j,old) ∈ news∧old.length=h.length)∧h ≠ []∧rH σ0.length h ∧
   bW P rd o.op o.type e (σ0++gJ (bT o.after) news) v (σ0++gJ (bT o.after) (wY news j h))∧FM P rd all e σ0 m K rest (wY news j h)
theorem NQ {e:Env} {m:Nat} {K:List (Nat×Heap)→Prop}:∀ (tl:List Oper) (ts:List Tr),FM P rd all e σ0 m K tl (iC 0 ts [])→Qb P rd all e σ0 m (fun ts'=>K (iC 0 ts' [])) tl ts
 |[],_,h=>h
 |o::rest,ts,h=>by
  obtain ⟨j,hp,v,h1,h2,⟨old,h3,h4⟩,h5,h6,h7,h8⟩:=h
  obtain ⟨i,hi,ei⟩:=C9 ts 0 _ h3
  simp only [Prod.mk.injEq,bA] at ei
  obtain ⟨rfl,rfl⟩:=ei
  have a:ts[j].ns ≠ []:=fun hc=>by
   rw [hc] at h4
   exact h5 (List.eq_nil_of_length_eq_zero (oU h4.symm))
  have e1:=Kq h5 ts 0 j (fun _=>a)
  rw [bA] at e1
  refine ⟨j,hp,v,h1,fun k ok hk d c=>?_,fun _=>h4.symm,h6,?_,NQ rest _ (by rw [e1];exact h8)⟩
  ·have:=List.all_eq_true.1 h2 k (oU hk)
   simp only [d,c,Bool.not_true,Bool.false_or] at this
   exact this
  ·have a1:=lD (bT o.after) ts 0 []
   have a2:=lD (bT o.after) (jO ts j hp) 0 []
   simp only [gJ,dz,ff,eR] at a1 a2
   rw [e1] at a2
   rw [← a1,← a2]
   exact h7
end
theorem Bz {P:Program} {n0 N:Nat} {rd:Option Nat} {Q:Post} {e:Env} {mk:List Nat} {σ:Heap} {id:Nat} {l:List Oper} (hm:P.follows .mixedOrders=true) (hrd:lQ rd n0=true)
  (h:bM P N rd l 0 l e σ [] (fun e' news tl=>GY l (l.length - tl.length)=true∧FM P rd l e' σ (l.length - tl.length) (fun news'=>Q .normal e' mk (σ++iw news')) tl news)):bK P n0 N rd (.region id l.toArray true) Q e mk σ:=by
 intro G w0 ρ0 A w hi
 obtain ⟨h0,ρ,ha,hs,he⟩:=hi
 refine wpIn_region_any hm ?_
 obtain ⟨ts,tl,p,u,f,hK⟩:=oz l 0 e σ [] _ h
 have hlen:ts.length+tl.length=l.length:=by rw [← p];simp
 have q:l.length - tl.length=ts.length:=oO
 rw [q] at f hK
 have n:∀ (i:Nat) (hi:i<ts.length),l[i]?=some ts[i].o:=by
  intro i hi
  rw [← p,bR (oU hi)];simp [hi]
 have hcl:∀ (i:Nat) (o:aB),σ[i]?=some o→fO σ.length o:=fun i o hi=>je (hs.obj i o hi)
 have c:∀ i,(Array.replicate l.toArray.size false).getD i false=false:=fun i=>by
  simp only [eT,fa];split <;> rfl
 refine ZJ (e0:=e) (mk:=mk) (σ0:=σ) (ρ0:=ρ0) (G:=G) (w0:=w0) (N:=N) (n0:=n0) (m:=ts.length) (K:=fun a=>Q .normal (lZ ts e) mk (σ++iw (iC 0 a []))) hrd f h0 he.mkb hcl (lZ ts e) ?_ _ tl ts _ _ _ ρ rfl rfl oO ?_ oS (fun i hi hia=>?_) ?_ ?_ (FOk.start u n _) (NQ tl ts hK) ?_
 ·intro a A' w' ρ' hk hl' r d
  have s:iw (iC 0 a [])=dY a:=by
   have a1:=lD (fun _=>true) a 0 []
   rw [kT] at a1
   have a2:gJ (fun _=>true) (iC 0 a [])=iw (iC 0 a []):=by simp [gJ,iw]
   simp only [gJ,dz,ff,eR] at a1 a2
   rw [← a2,a1]
  rw [s] at hk
  have g:=d.sim
  rw [kT] at g
  refine ⟨lZ ts e,mk,σ++dY a,hk,by simp;omega,ρ',fun i hi=>d.ag i hi,g,⟨d.sz,fun t v hv=>?_⟩,d.mks,fun i hi=>by have:=he.mkb i hi;simp;omega⟩
  rw [← r] at hv
  rcases l7 a e t v hv with ⟨j,hj,h1,h2,h3⟩|⟨h1,h2⟩
  ·obtain ⟨v',g1,g2⟩:=d.new j hj rfl t h1 fun k hk x _=>h3 k hk x
   refine ⟨v',g1,?_⟩
   rw [← h2]
   have:=uG hj
   exact g2.mono (by simp;omega) fun _ _=>rfl
  ·obtain ⟨v',g1,g2⟩:=d.old t v h1 fun k hk _=>h2 k hk
   exact ⟨v',g1,g2.mono oS fun _ _=>rfl⟩
 ·have e1:l.drop ts.length=tl:=by rw [← p,fS oS];simp
  rw [show l.length - tl.length=ts.length by omega,e1]
 ·rw [c];symm;simp only [decide_eq_false_iff_not];omega
 ·unfold cnt
  rw [List.countP_eq_length.2]
  ·simp
  ·intro i hi
   rw [getD_lt (d':=false) (oU hi),c];rfl
 ·intro j o _ hL
  rw [c] at hL;cases hL
 ·refine jc (L:=fun _=>false) (fun k _=>(c k).symm) ⟨ha,?_,he.tmps.1,he.mks,fun t v hv _=>?_,fun k hk hL=>by cases hL⟩
  ·rw [qE]
   exact o7 (zU hs _) rfl rfl rfl rfl
  ·exact he.tmps.2 t v hv
def acv:List Bool→List (Nat×Heap)→Heap
 |b::bs,p::news=>(bif b then p.2 else hide p.2)++acv bs news
 |_,_=>[]
theorem Qc {L:Nat→Bool}:∀ {mask:List Bool} {news:List (Nat×Heap)},news.map (fun p=>L p.1)=mask→gJ L news=acv mask news
 |[],[],_=>rfl
 |[],_::_,h=>by simp at h
 |_::_,[],h=>by simp at h
 |b::bs,p::news,h=>by
  simp only [cG,List.cons.injEq] at h
  have ih:=Qc (L:=L) h.2
  simp only [gJ,cG,eA,acv] at ih ⊢
  rw [ih,h.1]
theorem ZK {L:Nat→Bool} {news:List (Nat×Heap)} {j:Nat} {h:Heap}:(wY news j h).map (fun p=>L p.1)=news.map (fun p=>L p.1):=by
 unfold wY
 rw [List.map_map]
 refine eD fun p _=>?_
 simp only [Function.comp_apply]
 cases Nat.beq p.1 j <;> rfl
theorem wZ {P:Program} {rd:Option Nat} {all:List Oper} {e:Env} {σ0:Heap} {m:Nat} {K:List (Nat×Heap)→Prop} {rest:List Oper} {news:List (Nat×Heap)} {op:Op} {ty:TypeId} {pos:String} {after:Array Edge} {v:Value}
  (j:Nat) (mask:List Bool) (cs:List Value) (hmask:news.map (fun p=>bT after p.1)=mask) (hj:bT after j=true) (hw:((List.range m).all fun i=>match all[i]? with|some oi=>!waits oi j || bT after i|none=>true)=true)
  (hold:(news.any fun p=>Nat.beq p.1 j && Nat.beq p.2.length 1)=true) (hc:dP σ0.length cs=true) (ho:okL cs=true)
  (h:bW P rd op ty e (σ0++acv mask news) v (σ0++acv mask (wY news j [.rw cs]))) (hk:FM P rd all e σ0 m K rest (wY news j [.rw cs])):FM P rd all e σ0 m K (⟨none,op,ty,pos,after,none⟩::rest) news:=by
 refine ⟨j,[.rw cs],v,hj,hw,?_,by simp,fun x hx=>⟨cs,by simpa using hx,hc,ho⟩,?_,hk⟩
 ·obtain ⟨p,hp,hq⟩:=List.any_eq_true.1 hold
  simp only [aE] at hq
  refine ⟨p.2,?_,by simpa using aM hq.2⟩
  rw [← aM hq.1];exact hp
 ·show bW P rd op ty e (σ0++gJ (bT after) news) v (σ0++gJ (bT after) (wY news j [.rw cs]))
  rw [Qc hmask,Qc (ZK.trans hmask)];exact h
theorem fr1A {P:Program} {N:Nat} {rd:Option Nat} {e:Env} {σ0:Heap} {news:List (Nat×Heap)} {K:Env→List (Nat×Heap)→List Oper→Prop} {k:Nat} {all rest:List Oper} {d:Nat} {op:Op} {ty:TypeId} {pos:String} {after:Array Edge} {cs:List Value}
  (h:bW P rd op ty e (σ0++gJ (bT after) news) (.p ((σ0++gJ (bT after) news).length)) (σ0++gJ (bT after) news++[.rw cs])) (hc:dP σ0.length cs=true) (ho:okL cs=true) (hd:Nat.blt d N=true)
  (hk:bM P N rd all (k+1) rest ((d,.p (σ0.length+(iw news).length))::e) σ0 (addN news k [.rw cs]) K) :
  bM P N rd all k (⟨some d,op,ty,pos,after,none⟩::rest) e σ0 news K:=by
 refine fr1 h hc ho hd ?_
 rw [aR,qB];exact hk
theorem Wh {P:Program} {rd:Option Nat} {all:List Oper} {e:Env} {σ0:Heap} {m:Nat} {K:List (Nat×Heap)→Prop} {news:List (Nat×Heap)} (h:K news):FM P rd all e σ0 m K [] news:=h
end Go.AH.Chain
namespace Go.AH
open Go
section
variable {P:Program} {n0 N:Nat} {rd:Option Nat} {Q:Post} {e:Env} {mk:List Nat} {σ:Heap}
structure StopC (p:Prop):Prop where
 out:p
theorem aeW {t:Tmp} {x y:Code} (h:StopC (bK P n0 N rd (.cond (.tmp t) x y) Q e mk σ)):bK P n0 N rd (.cond (.tmp t) x y) Q e mk σ:=h.out
end
section
variable {P:Program} {n0 N:Nat} {K:Env→List Nat→Heap→Prop} {e:Env} {mk:List Nat} {σ:Heap} {all:List Oper} {listed:List Bool} {fuel:Nat}
theorem jq (i:Nat) {d:Nat} {op:Op} {ty:TypeId} {pos:String} {after:Array Edge} {v:Value} (hi:all[i]?=some ⟨some d,op,ty,pos,after,none⟩) (hd:Nat.blt d N=true)
  (h:yj P n0 N all fuel (listed.set i true) K ((d,v)::e) mk σ) (hr:Vl all listed i=true:=by decide +kernel)
  (hp:Vk P op ty e v:=by first|exact wU rfl|exact Fe rfl|exact pu_inc rfl rfl oO|exact pu_add rfl rfl oO oO|exact CP rfl rfl|exact pu_sliceH rfl rfl oO|exact pu_sliceL rfl rfl oO oO|exact pu_bin rfl rfl rfl):yj P n0 N all (fuel+1) listed K e mk σ:=aea i hr hi hp hd h
theorem lF (i:Nat) {o:Oper} (hi:all[i]?=some o) (h:bZ P n0 N none all [o] (fun e' mk' σ'=>yj P n0 N all fuel (listed.set i true) K e' mk' σ') e mk σ) (hr:aaY all listed i=true:=by decide +kernel):yj P n0 N all (fuel+1) listed K e mk σ:=agO i hr hi h
theorem Kr (h:K e mk σ) (hr:Vm all listed=true:=by decide +kernel):yj P n0 N all fuel listed K e mk σ:=aeb hr h
end
theorem NR {L:Nat→Bool}:∀ {news:List (Nat×Heap)},(news.all fun p=>L p.1)=true→gJ L news=iw news
 |[],_=>rfl
 |p::news,h=>by
  simp only [List.all_cons,aE] at h
  have ih:=NR (L:=L) (news:=news) h.2
  simp only [gJ,iw,cG,eA] at ih ⊢
  rw [ih,h.1];rfl
section
variable {P:Program} {N:Nat} {rd:Option Nat} {e:Env} {σ0:Heap} {news:List (Nat×Heap)} {K:Env→List (Nat×Heap)→List Oper→Prop} {k:Nat} {all rest:List Oper} {d:Nat} {op:Op} {ty:TypeId} {pos:String} {after:Array Edge} {v:Value}
theorem frNA {cs:List Value} (hw:(news.all fun p=>bT after p.1)=true) (h:bW P rd op ty e (σ0++iw news) v (σ0++iw news++[.rw cs])) (hv:Nok σ0.length (σ0++iw news).length v) (hc:dP σ0.length cs=true) (ho:okL cs=true) (hd:Nat.blt d N=true)
  (hk:bM P N rd all (k+1) rest ((d,v)::e) σ0 (addN news k [.rw cs]) K):bM P N rd all k (⟨some d,op,ty,pos,after,none⟩::rest) e σ0 news K:=by
 have e1:=NR hw
 exact frN (by rw [e1];exact h) (by rw [e1];exact hv) hc ho hd hk
end
structure Stop (p:Prop):Prop where
 out:p
section
variable {P:Program} {n0 N:Nat} {rd:Option Nat} {Q:Post} {e:Env} {mk:List Nat} {σ:Heap}
theorem dB {id:Nat} {l:Array Oper} {b:Bool} (h:Stop (bK P n0 N rd (.region id l b) Q e mk σ)):bK P n0 N rd (.region id l b) Q e mk σ:=h.out
theorem dH {c:Code} (e2:Env) (σ2:Heap) (hs:σ=σ2) (he:qY e e2) (h:bK P n0 N rd c Q e2 mk σ2):bK P n0 N rd c Q e mk σ:=by
 subst hs
 intro G w0 ρ0 A w hi
 obtain ⟨h0,ρ,ha,hs,hr⟩:=hi
 exact h G w0 ρ0 A w ⟨h0,ρ,ha,hs,⟨hr.tmps.1,fun t v hv=>hr.tmps.2 t v (yS he _ (yN hv))⟩,hr.mks,hr.mkb⟩
end
end Go.AH
namespace Go.AH.Late
open Go Go.AH
theorem split {P:Program} {n0 N:Nat} {rd:Option Nat} {l tl:List Oper} {K:Env→List Nat→Heap→Prop} {e':Env} {mk:List Nat} {σ:Heap} {f d:Nat} {o1 o2:Oper} {t:List Oper} {news:List (Nat×Heap)} (h1:bZ P n0 N rd l tl K e' mk σ)
  (ht:tl=o1::t) (h2:l[f]?=some o2) (hd:o2.dst=some d) (hn:(news.all fun p=>!Nat.beq p.1 f)=true) (h3:bZ P n0 N rd l (o1::o2::t) K (zB d e') mk σ) :
  bZ P n0 N rd l tl K e' mk σ∧∃ o1 o2 t,tl=o1::t∧l[f]?=some o2∧o2.dst=some d∧(news.all fun p=>!Nat.beq p.1 f)=true∧bZ P n0 N rd l (o1::o2::t) K (zB d e') mk σ :=
 ⟨h1,o1,o2,t,ht,h2,hd,hn,h3⟩
end Go.AH.Late
namespace Go.AH
open Go
section
variable {P:Program} {rd:Option Nat} {ty:TypeId} {e:Env} {σ:Heap} {x y:Operand}
theorem acw {t el size bytes i o c:Nat} {agg:Bool} {z:Value} {t2:TypeId} {ad:Option Addr} {c2:Nat} [ha:Sl P t el] [ht:Ty P el size agg z bytes] (hx:aP e x=some (.slice (some ⟨i,o,none⟩) 0 c)) (hy:aP e y=some (.slice ad 0 c2)) (hs:slOk (.slice ad 0 c2)=true) :
  bW P rd (.call { callee:=.builtin .copy,args:=#[x,y],argTypes:=#[t,t2] }) ty e σ (.i ((0:Nat):Int)) σ :=
 bY oS fun op ho _ G w0 ρ A w m l=>by
  have g:=l x (by simp [Op.operands,Call.operands]) _ hx
  have j:=l y (by simp [Op.operands,Call.operands]) _ hy
  have d:∃ a c',A.eval x=.slice a 0 c':=by
   generalize hr:A.eval x=r at g
   cases g with
   |emptySlice _ _ a c=>exact ⟨a,c,rfl⟩
   |slice _ _ _ _ c' _ _=>exact ⟨_,c',rfl⟩
   |sliceG _ _ _ _ _ _ _ _ hq=>simp at hq
  have f:∃ a c',A.eval y=.slice a 0 c':=by
   generalize hr:A.eval y=r at j
   cases j with
   |nilSlice=>exact ⟨_,_,rfl⟩
   |zslice=>exact ⟨_,_,rfl⟩
   |zsliceZ hq=>simp at hq
   |emptySlice _ _ a c=>exact ⟨a,c,rfl⟩
   |slice _ _ _ _ c' _ _=>exact ⟨_,c',rfl⟩
   |gslice _ _ _ _ c'=>exact ⟨_,c',rfl⟩
   |sliceG _ _ _ _ _ _ _ _ hq=>simp at hq
   |gsliceG _ _ _ _ _ _ _ _ hq=>simp at hq
  obtain ⟨a,cx,d⟩:=d
  obtain ⟨b,cy,f⟩:=f
  have hf:(Builtin.firstCells size 0 (.slice b 0 cy)).run P w=.ok #[] w:=by
   cases b with
   |none=>rfl
   |some b=>exact run_firstCells_some (P:=P) w size 0 b 0 cy [] oS oS
  refine ⟨ρ,.i ((0:Nat):Int),w,.inl ?_,.int _ _,oO,fun _ _=>rfl,m⟩
  cases a with
  |none=>simp [execOp,ho,resolve,invoke,builtin,d,f,Builtin.copy_,kV ha.und,ht.sizeOf,Builtin.lenOf,hf,goInt]
  |some a=>simp [execOp,ho,resolve,invoke,builtin,d,f,Builtin.copy_,kV ha.und,ht.sizeOf,Builtin.lenOf,hf,goInt,storeCells]
end
section
variable {P:Program} {n0 N:Nat} {K:Env→List Nat→Heap→Prop} {e:Env} {mk:List Nat} {σ:Heap} {all:List Oper} {listed:List Bool} {fuel:Nat}
def agh (all:List Oper) (listed:List Bool) (i j:Nat):Bool:=match Region.ready .any all.toArray listed.toArray with|[a,b]=>Nat.beq a i && Nat.beq b j|_=>false
theorem uq (i j:Nat) {o o2:Oper} (hi:all[i]?=some o) (hj:all[j]?=some o2) (h:bZ P n0 N none all [o] (fun e' mk' σ'=>yj P n0 N all fuel (listed.set i true) K e' mk' σ') e mk σ)
  (h2:bZ P n0 N none all [o2] (fun e' mk' σ'=>yj P n0 N all fuel (listed.set j true) K e' mk' σ') e mk σ) (hr:agh all listed i j=true:=by decide +kernel):yj P n0 N all (fuel+1) listed K e mk σ:=by
 intro G w0 ρ0 A w g
 have l:Region.ready .any all.toArray listed.toArray=[i,j]:=by
  unfold agh at hr
  split at hr
  ·rename_i a b hk
   rw [aE] at hr
   rw [hk,aM hr.1,aM hr.2]
  ·cases hr
 have go:∀ (q:Nat) (o:Oper),all[q]?=some o→bZ P n0 N none all [o] (fun e' mk' σ'=>yj P n0 N all fuel (listed.set q true) K e' mk' σ') e mk σ →
   wpOpIn Fence.wide 0 P all.toArray (fun ex A' w'=>ex=.normal∧∃ e' mk' σ',K e' mk' σ'∧Inv n0 N G w0 ρ0 e' mk' σ' A' w') q (wpAnyIn Fence.wide 0 P .any all.toArray (fun ex A' w'=>ex=.normal∧∃ e' mk' σ',K e' mk' σ'∧Inv n0 N G w0 ρ0 e' mk' σ' A' w') fuel (listed.toArray.setIfInBounds q true)) A w:=by
  intro q o hq h
  have:=h G w0 ρ0 A w g (fun ex A' w'=>match ex with|.normal=>wpAnyIn Fence.wide 0 P .any all.toArray (fun ex A' w'=>ex=.normal∧∃ e' mk' σ',K e' mk' σ'∧Inv n0 N G w0 ρ0 e' mk' σ' A' w') fuel (listed.toArray.setIfInBounds q true) A' w'|_=>False) (fun e' mk' σ' A' w' hk d=>by
   have:=hk G w0 ρ0 A' w' d
   simpa using this)
  unfold wpOpIn
  simp only [bO,hq]
  simp only [wpL] at this
  split
  ·rename_i hw
   rw [if_pos hw] at this
   exact oI (fun c a w hq=>hq.elim) (fun a w hq=>hq.elim) this
  ·rename_i hw
   rw [if_neg hw] at this
   exact ⟨fun f _=>kN ρ0 none _,this⟩
 refine wpAnyIn_all l oS fun q hq=>?_
 rcases List.mem_cons.1 hq with rfl|hq
 ·exact go q o hi h
 ·rw [List.mem_singleton.1 hq] at *
  exact go j o2 hj h2
end
section
variable {P:Program} {σ:Heap} {f:FuncId}
end
section
variable {P:Program} {n0 N:Nat} {rd:Option Nat} {Q:Post} {e:Env} {mk:List Nat} {σ:Heap}
end
section
variable {P:Program} {σ:Heap} {f:FuncId}
end
end Go.AH
namespace Go.AH.Heat
open Go Go.AH
def r8 (l:List Int):List Value:=l.map (.int .i8)
theorem jd (l:List Int):(r8 l).length=l.length:=by simp [r8]
theorem Kt {l:List Int} {i:Nat} (h:i<l.length):(r8 l)[i]?=some (.int .i8 (gi l i)):=by simp [r8,gi,h]
theorem nR (l:List Int):dL (r8 l)=true:=yU _ (fun _=>rfl) l
def jE (a k:Nat) (l:List Int):List Int:=l.take a++List.replicate k 1++l.drop (a+k)
theorem Ku (a:Nat) (l:List Int):jE a 0 l=l:=by simp [jE]
theorem FN {a k:Nat} {l:List Int} (h:a+k≤l.length):(jE a k l).length=l.length:=by simp [jE];omega
theorem Kw {a k:Nat} {l:List Int} (h:a+k<l.length):splice (r8 (jE a k l)) (a+k) [.int .i8 1]=r8 (jE a (k+1) l):=by
 have e:∀ (x:List Int) (o:Nat),splice (r8 x) o [.int .i8 1]=r8 (x.take o++[1]++x.drop (o+1)):=fun x o=>by simp [splice,r8,List.map_take,List.map_drop]
 rw [e]
 congr 1
 have hl:(l.take a++List.replicate k (1:Int)).length=a+k:=by simp;omega
 unfold jE
 rw [fp oO,← hl,eZ,hl,List.drop_append,hl,eL oO,List.replicate_succ',show a+k+1 - (a+k)=1 by omega,fk,eR,← cD (l.take a)]
 rfl
theorem aX.upd {σ x:Heap} {i:Nat} {cs cs':List Value} {v:Value} (hp:dL cs'=true) (hi:i < σ.length) (hv:AH.plain v=true):aX (σ.set i (.rw cs)) (σ.set i (.rw cs')++x) v v (σ.set i (.rw cs')):=by
 refine .inr fun hcl=>⟨fun i=>⟨i,0,0⟩,⟨by simp,fun _ _=>rfl,fun j o hj=>?_,fun i i' oi oi' _ _ _ _ h=>h⟩,aY v hv⟩
 have a:=aQ hj
 refine lY (m:=(σ.set i (.rw cs')).length) (fun _ _=>rfl) (aD _) a (by rw [bR a];exact hj) ?_
 rcases getElem?_set' hj with ⟨rfl,rfl⟩|⟨hne,c⟩
 ·exact aW hp
 ·have:=hcl j o (by rw [eN oO];exact c)
  simpa using this
theorem ig {τ:Heap} {cs:List Value} {o n:Nat} (h:τ.length=n):aH (τ++[.rw cs]) n o=cs[o]?:=by
 subst h;simp [aH]
theorem set_self {σ:Heap} {i:Nat} {o:aB} (h:σ[i]?=some o):σ.set i o=σ:=by
 refine fx fun j=>?_
 rw [List.getElem?_set]
 split
 ·rename_i a;subst a;rw [if_pos (aQ h),h]
 ·rfl
theorem dJ {σ:Heap} {i o n:Nat} {cs:List Value} (h:aJ σ i o n=some cs):i < σ.length:=by
 unfold aJ at h
 cases hi:σ[i]? with
 |none=>rw [hi] at h;cases h
 |some o=>exact aQ hi
theorem iT {σ x:Heap} {i o n:Nat} (h:i < σ.length):aJ (σ++x) i o n=aJ σ i o n:=by
 unfold aJ;rw [bR h]
theorem fQ {σ:Heap} {i o n k:Nat} {cs:List Value} (h:aJ σ i o n=some cs) (hk:k<n):aH σ i (o+k)=cs[k]?:=by
 unfold aJ at h
 unfold aH
 cases hi:σ[i]? with
 |none=>rw [hi] at h;cases h
 |some x =>
  rw [hi] at h
  have a:∀ l:List Value,(bif Nat.ble (o+n) l.length then some ((l.drop o).take n) else none)=some cs→l[o+k]?=cs[k]?:=fun l h=>by
   cases hb:Nat.ble (o+n) l.length with
   |false=>rw [hb] at h;cases h
   |true =>
    rw [hb] at h
    simp only [cond_true,Option.some.injEq] at h
    rw [← h,eE,if_pos hk,eO]
  cases x with
  |ro l=>exact a l h
  |rw l=>exact a l h
  |gr l t=>exact a l h
  |deep q sp =>
   simp only at h ⊢
   cases hb:Nat.beq n 1 with
   |false=>rw [hb] at h;cases h
   |true =>
    rw [hb] at h
    have:=aM hb
    obtain rfl:k=0:=oO
    simp only [cond_true,fT] at h
    obtain ⟨v,h1,rfl⟩:=h
    exact h1
  |_=>cases h
theorem jP {σ x:Heap} {i o:Nat} (h:i < σ.length):aH (σ++x) i o=aH σ i o:=by
 unfold aH;rw [bR h]
def jK (lo hi:Int) (l:List Int):Bool:=((l.drop lo.toNat).take (hi+1 - lo).toNat).any fun x=>decide (x=1)
theorem FP {lo hi:Int} {l:List Int}:jK lo hi l=true↔∃ k:Nat,lo.toNat≤k∧k<lo.toNat+(hi+1 - lo).toNat∧gi l k=1:=by
 unfold jK
 rw [List.any_eq_true]
 constructor
 ·rintro ⟨x,h1,h2⟩
  obtain ⟨j,hj,rfl⟩:=ey h1
  rw [eI,e6] at hj
  refine ⟨lo.toNat+j,oO,oO,?_⟩
  have h2:=of_decide_eq_true h2
  rw [dC,List.getElem_drop] at h2
  unfold gi;rw [cE,cC oO];exact h2
 ·rintro ⟨k,h1,h2,h3⟩
  have hk:k<l.length:=by
   refine Classical.byContradiction fun hn=>?_
   unfold gi at h3
   rw [cE,eM oO] at h3
   simp at h3
  refine ⟨gi l k,?_,decide_eq_true h3⟩
  rw [List.mem_iff_getElem]
  refine ⟨k - lo.toNat,by rw [eI,e6];omega,?_⟩
  rw [dC,List.getElem_drop]
  unfold gi;rw [cE,cC hk]
  simp only [Option.getD_some]
  congr 1;omega
theorem jF {σ:Heap} {i:Nat} {cs:List Value} (h:dN σ i cs):i < σ.length:=by
 rcases h with h|h|⟨t,h⟩ <;> exact aQ h
end Go.AH.Heat
namespace Go.Proofs.YtajpgeklmcjciaaGreat
open Go Go.AH
attribute [local irreducible] bZ bK bM jB gy dO fC bW eU aX dV eH
open Go.AH.Heat
theorem acy {A B:Prop} (k:B) (h:Hide B→A:=by intro h_k_;(repeat' (first|refine sCm ?_|(refine gU ?_;first|(refine bV ?_;refine st (aK rfl (by exact hc1)) rfl rfl ?_)|refine sK0 ?_|refine PE ?_|(refine gV ?_;refine stN (bU rfl rfl rfl rfl (by exact hput)) rfl ?_))|refine aG ?_|refine dZ rfl ?_|refine eu rfl ?_));exact h_k_.h):A:=h ⟨k⟩
theorem aeX (σ:Heap) (i a:Nat) (b:Int) (l:List Int) (hl:l.length=1001) (hi:i < σ.length) (hb:b≤1000) (hab:(a:Int)≤b+1) :
  Ev Tryz.prog 257 [.p i,.agg #[.i (a:Int),.i b]] (σ.set i (aB.rw (r8 (jE a 0 l)))) (.tuple #[]) (σ.set i (aB.rw (r8 (jE a (b+1 - a).toNat l)))):=by
 obtain ⟨n,hn⟩:∃ n:Nat,b+1 - a=(n:Int):=⟨(b+1 - a).toNat,oO⟩
 rw [hn,cM]
 have d:∀ o:aB,(σ.set i o).length=σ.length:=fun o=>by simp
 refine aI (σ.set i (aB.rw (r8 (jE a 0 l)))).length 17 Tryz.func257 rfl rfl rfl rfl rfl ?_
 have hc1:aH (σ.set i (aB.rw (r8 (jE a 0 l)))++[aB.rw [.i (a:Int),.i b]]) (σ.set i (aB.rw (r8 (jE a 0 l)))).length (0+0)=some (.i (a:Int)):=ig rfl
 refine acy ?_
 refine dH [(0,.p i),(3,.p σ.length),(4,.i ((a+0:Nat):Int))] (σ.set i (aB.rw (r8 (jE a 0 l)))++[aB.rw [.i (a:Int),.i b]]) rfl ⟨rfl,by rw [d];rfl,rfl,trivial⟩ ?_
 clear hc1
 refine iM (ι:=Nat) (fun k=>[(0,.p i),(3,.p σ.length),(4,.i ((a+k:Nat):Int))]) (fun k=>σ.set i (aB.rw (r8 (jE a k l)))++[aB.rw [.i (a:Int),.i b]]) (fun k=>n - k) (fun k=>k≤n) 0 oS (.same tE) (bN _) ?_
 intro k hk
 have hc1:aH (σ.set i (aB.rw (r8 (jE a k l)))++[aB.rw [.i (a:Int),.i b]]) σ.length (0+1)=some (.i b):=ig (d _)
 by_cases hkn:k<n
 ·have e:((a+k:Nat):Int)≤b:=oO
  have hput:putCells (σ.set i (aB.rw (r8 (jE a k l)))++[aB.rw [.i (a:Int),.i b]]) i (0+(a+k)*1) [.int .i8 1]=some (σ.set i (aB.rw (r8 (jE a (k+1) l)))++[aB.rw [.i (a:Int),.i b]]):=by
   have c:=FN (a:=a) (k:=k) (l:=l) oO
   rw [fM (cs:=r8 (jE a k l)) (cs':=r8 (jE a (k+1) l)) (by rw [bR (oU hi)];simp [hi]) (by simp [jd,c];omega) (by rw [jd,c];omega) (by rw [bA,cI];exact Kw oO),cH _ _ (oU hi),cX]
  refine acy ?_
  exact ⟨rfl,k+1,oO,oO,.same tE⟩
 ·obtain rfl:k=n:=oO
  have e:¬ ((a+k:Nat):Int)≤b:=oO
  refine acy ?_
  exact U5 (v2:=.tuple #[]) (σ2:=σ.set i (aB.rw (r8 (jE a k l)))) .nil (Go.AH.Heat.aX.upd (σ:=σ) (i:=i) (nR (jE a k l)) hi rfl) ⟨rfl,rfl⟩
def tY (lo hi:Int) (l:List Int):List Int:=jE lo.toNat (hi+1 - lo).toNat l
theorem Qd {σ:Heap} {i:Nat} {lo hi:Int} {l:List Int} (h:σ[i]?=some (.rw (r8 l))) (hl:l.length=1001) (h0:0≤lo) (hb:hi≤1000) (hab:lo≤hi+1) :
  Ev Tryz.prog 257 [.p i,.agg #[.i lo,.i hi]] σ (.tuple #[]) (σ.set i (.rw (r8 (tY lo hi l)))):=by
 obtain ⟨a,rfl⟩:∃ a:Nat,lo=(a:Int):=⟨lo.toNat,oO⟩
 have:=aeX σ i a hi l hl (aQ h) hb hab
 rw [Ku,set_self h] at this
 exact this
theorem Yn {A B:Prop} (k:B) (h:Hide B→A:=by intro h_k_;(repeat' (first|refine sCm ?_|(refine gU ?_;first|(refine bV ?_;refine st (aK rfl (by first|exact hc1|exact hc2)) rfl rfl ?_)|refine sK0 ?_|refine PE ?_)|refine aG ?_|refine DF rfl ?_|refine Iw ?_|refine Iu ?_|refine aaW ?_|refine dZ rfl ?_|refine eu rfl ?_));exact h_k_.h):A:=h ⟨k⟩
theorem acz (σ:Heap) (i a:Nat) (b:Int) (l:List Int) (h:dN σ i (r8 l)) (hl:l.length=1001) (hb:b≤1000) (hab:(a:Int)≤b+1) (t:Bool) (ht:t=true↔∃ k:Nat,a≤k∧(k:Int)≤b∧gi l k=1) :
  Ev Tryz.prog 170 [.p i,.agg #[.i (a:Int),.i b]] σ (.bool t) σ:=by
 have hi:i < σ.length:=jF h
 refine aI σ.length 22 Tryz.func170 rfl rfl rfl rfl rfl ?_
 have hc1:aH (σ++[aB.rw [.i (a:Int),.i b]]) σ.length (0+0)=some (.i (a:Int)):=ig rfl
 refine Yn ?_
 refine iM (ι:=Nat) (fun k=>[(0,.p i),(3,.p σ.length),(5,.bool false),(6,.i ((a+k:Nat):Int))]) (fun _=>σ++[aB.rw [.i (a:Int),.i b]]) (fun k=>(b+1 - a).toNat - k) (fun k=>((a+k:Nat):Int)≤b+1∧∀ j,a≤j→j<a+k→gi l j ≠ 1) 0 oS (.same tE) ⟨oO,fun j h1 h2=>oO⟩ ?_
 clear hc1
 rintro k ⟨hk,hn⟩
 have hc1:aH (σ++[aB.rw [.i (a:Int),.i b]]) σ.length (0+1)=some (.i b):=ig rfl
 by_cases d:((a+k:Nat):Int)≤b
 ·have hc2:aH (σ++[aB.rw [.i (a:Int),.i b]]) i (0+(a+k)*1)=some (.int .i8 (gi l (a+k))):=by
   rw [bA,cI]
   have:=Kt (l:=l) (i:=a+k) oO
   rcases h with h|h|⟨t,h⟩ <;> simp [aH,bR hi,h,this]
  by_cases h1:gi l (a+k)=1
  ·obtain rfl:t=true:=ht.2 ⟨a+k,oO,d,h1⟩
   clear ht
   clear hn
   generalize gi l (a+k)=x at *
   refine Yn ?_
   exact dK (.tmp rfl .nil) (.plain oS rfl) ⟨rfl,rfl⟩
  ·have c:∀ j,a≤j→j<a+(k+1)→gi l j ≠ 1:=fun j g1 g2=>by
    by_cases hj:j=a+k
    ·subst hj;exact h1
    ·exact hn j g1 oO
   clear hn
   generalize gi l (a+k)=x at *
   refine Yn ?_
   exact ⟨rfl,k+1,⟨oO,c⟩,oO,.same tE⟩
 ·obtain rfl:t=false:=by
   cases t with
   |false=>rfl
   |true=>obtain ⟨j,g1,g2,g3⟩:=ht.1 rfl;exact absurd g3 (hn j g1 oO)
  clear hn ht
  refine Yn ?_
  exact dK (.tmp rfl .nil) (.plain oS rfl) ⟨rfl,rfl⟩
theorem TK {σ:Heap} {i:Nat} {lo hi:Int} {l:List Int} (h:dN σ i (r8 l)) (hl:l.length=1001) (h0:0≤lo) (hb:hi≤1000) (hab:lo≤hi+1) :
  Ev Tryz.prog 170 [.p i,.agg #[.i lo,.i hi]] σ (.bool (jK lo hi l)) σ:=by
 obtain ⟨a,rfl⟩:∃ a:Nat,lo=(a:Int):=⟨lo.toNat,oO⟩
 refine acz σ i a hi l h hl hb hab _ (FP.trans ?_)
 rw [cM]
 exact ⟨fun ⟨k,h1,h2,h3⟩=>⟨k,h1,oO,h3⟩,fun ⟨k,h1,h2,h3⟩=>⟨k,h1,oO,h3⟩⟩
end Go.Proofs.YtajpgeklmcjciaaGreat
namespace Go.AH.Heat
open Go Go.AH
theorem GZ {A B cs:List Value} {o k:Nat} {x:List Value} (hA:A.length=o) (hk:k+x.length≤cs.length):splice (A++cs++B) (o+k) x=A++splice cs k x++B:=by
 subst hA
 unfold splice
 have h1:(A++cs++B).take (A.length+k)=A++cs.take k:=by
  rw [cD,List.take_append,List.take_of_length_le oO,show A.length+k - A.length=k by omega,fp oO]
 have h2:(A++cs++B).drop (A.length+k+x.length)=cs.drop (k+x.length)++B:=by
  rw [cD,List.drop_append,eL oO,show A.length+k+x.length - A.length=k+x.length by omega,fS hk,eR]
 rw [h1,h2]
 simp only [cD]
theorem aX.updP {σ x:Heap} {i:Nat} {A B cs cs':List Value} {v:Value} (hA:dL A=true) (hB:dL B=true) (hp:dL cs'=true) (hi:i < σ.length) (hv:AH.plain v=true):aX (σ.set i (.rw (A++cs++B))) (σ.set i (.rw (A++cs'++B))++x) v v (σ.set i (.rw (A++cs'++B))) :=
 aX.upd (by rw [nV,nV,hA,hB,hp];rfl) hi hv
end Go.AH.Heat
namespace Go.Proofs.YtajpgeklmcjciaaGreat
open Go Go.AH
attribute [local irreducible] bZ bK bM jB gy dO fC bW eU aX dV eH
open Go.AH.Heat
theorem acA {A B:Prop} (k:B) (h:Hide B→A:=by intro h_k_;(repeat' (first|refine sCm ?_|(refine gU ?_;first|(refine bV ?_;refine st (aK rfl (by exact hc1)) rfl rfl ?_)|refine sK0 ?_|refine PE ?_|(refine gV ?_;refine stN (bU rfl rfl rfl rfl (by exact hput)) rfl ?_))|refine aG ?_|refine dZ rfl ?_|refine eu rfl ?_));exact h_k_.h):A:=h ⟨k⟩
theorem acB (σ:Heap) (i a o:Nat) (A B:List Value) (hA:A.length=o) (hpA:dL A=true) (hpB:dL B=true) (b:Int) (l:List Int) (hl:l.length=1001) (hi:i < σ.length) (hb:b≤1000) (hab:(a:Int)≤b+1) :
  Ev Tryz.prog 257 [.pointer (some ⟨i,o,none⟩),.agg #[.i (a:Int),.i b]] (σ.set i (aB.rw (A++r8 (jE a 0 l)++B))) (.tuple #[]) (σ.set i (aB.rw (A++r8 (jE a (b+1 - a).toNat l)++B))):=by
 obtain ⟨n,hn⟩:∃ n:Nat,b+1 - a=(n:Int):=⟨(b+1 - a).toNat,oO⟩
 rw [hn,cM]
 have d:∀ o:aB,(σ.set i o).length=σ.length:=fun o=>by simp
 refine aI (σ.set i (aB.rw (A++r8 (jE a 0 l)++B))).length 17 Tryz.func257 rfl rfl rfl rfl rfl ?_
 have hc1:aH (σ.set i (aB.rw (A++r8 (jE a 0 l)++B))++[aB.rw [.i (a:Int),.i b]]) (σ.set i (aB.rw (A++r8 (jE a 0 l)++B))).length (0+0)=some (.i (a:Int)):=ig rfl
 refine acA ?_
 refine dH [(0,.pointer (some ⟨i,o,none⟩)),(3,.p σ.length),(4,.i ((a+0:Nat):Int))] (σ.set i (aB.rw (A++r8 (jE a 0 l)++B))++[aB.rw [.i (a:Int),.i b]]) rfl ⟨rfl,by rw [d];rfl,rfl,trivial⟩ ?_
 clear hc1
 refine iM (ι:=Nat) (fun k=>[(0,.pointer (some ⟨i,o,none⟩)),(3,.p σ.length),(4,.i ((a+k:Nat):Int))]) (fun k=>σ.set i (aB.rw (A++r8 (jE a k l)++B))++[aB.rw [.i (a:Int),.i b]]) (fun k=>n - k) (fun k=>k≤n) 0 oS (.same tE) (bN _) ?_
 intro k hk
 have hc1:aH (σ.set i (aB.rw (A++r8 (jE a k l)++B))++[aB.rw [.i (a:Int),.i b]]) σ.length (0+1)=some (.i b):=ig (d _)
 by_cases hkn:k<n
 ·have e:((a+k:Nat):Int)≤b:=oO
  have hput:putCells (σ.set i (aB.rw (A++r8 (jE a k l)++B))++[aB.rw [.i (a:Int),.i b]]) i (o+(a+k)*1) [.int .i8 1]=some (σ.set i (aB.rw (A++r8 (jE a (k+1) l)++B))++[aB.rw [.i (a:Int),.i b]]):=by
   have c:=FN (a:=a) (k:=k) (l:=l) oO
   rw [fM (cs:=A++r8 (jE a k l)++B) (cs':=A++r8 (jE a (k+1) l)++B) (by rw [bR (oU hi)];simp [hi]) (by simp [jd,c,hA];omega) (by simp only [aR,jd,c,hA,List.length_singleton];omega)
    (by rw [cI,GZ hA (by rw [jd,c];simp only [List.length_singleton];omega),Kw oO]),cH _ _ (oU hi),cX]
  refine acA ?_
  exact ⟨rfl,k+1,oO,oO,.same tE⟩
 ·obtain rfl:k=n:=oO
  have e:¬ ((a+k:Nat):Int)≤b:=oO
  refine acA ?_
  exact U5 (v2:=.tuple #[]) (σ2:=σ.set i (aB.rw (A++r8 (jE a k l)++B))) .nil (Go.AH.Heat.aX.updP (σ:=σ) (i:=i) hpA hpB (nR (jE a k l)) hi rfl) ⟨rfl,rfl⟩
theorem acC {σ:Heap} {i o:Nat} {A B:List Value} {lo hi:Int} {l:List Int} (h:σ[i]?=some (.rw (A++r8 l++B))) (hA:A.length=o) (hpA:dL A=true) (hpB:dL B=true) (hl:l.length=1001) (h0:0≤lo) (hb:hi≤1000) (hab:lo≤hi+1) :
  Ev Tryz.prog 257 [.pointer (some ⟨i,o,none⟩),.agg #[.i lo,.i hi]] σ (.tuple #[]) (σ.set i (.rw (A++r8 (tY lo hi l)++B))):=by
 obtain ⟨a,rfl⟩:∃ a:Nat,lo=(a:Int):=⟨lo.toNat,oO⟩
 have:=acB σ i a o A B hA hpA hpB hi l hl (aQ h) hb hab
 rw [Ku,set_self h] at this
 exact this
theorem Yo {A B:Prop} (k:B) (h:Hide B→A:=by intro h_k_;(repeat' (first|refine sCm ?_|(refine gU ?_;first|(refine bV ?_;refine st (aK rfl (by first|exact hc1|exact hc2)) rfl rfl ?_)|refine sK0 ?_|refine PE ?_)|refine aG ?_|refine DF rfl ?_|refine Iw ?_|refine Iu ?_|refine aaW ?_|refine dZ rfl ?_|refine eu rfl ?_));exact h_k_.h):A:=h ⟨k⟩
theorem ZL (σ:Heap) (i a o:Nat) (b:Int) (l:List Int) (h:aJ σ i o 1001=some (r8 l)) (hl:l.length=1001) (hb:b≤1000) (hab:(a:Int)≤b+1) (t:Bool) (ht:t=true↔∃ k:Nat,a≤k∧(k:Int)≤b∧gi l k=1) :
  Ev Tryz.prog 170 [.pointer (some ⟨i,o,none⟩),.agg #[.i (a:Int),.i b]] σ (.bool t) σ:=by
 have hi:i < σ.length:=dJ h
 refine aI σ.length 22 Tryz.func170 rfl rfl rfl rfl rfl ?_
 have hc1:aH (σ++[aB.rw [.i (a:Int),.i b]]) σ.length (0+0)=some (.i (a:Int)):=ig rfl
 refine Yo ?_
 refine iM (ι:=Nat) (fun k=>[(0,.pointer (some ⟨i,o,none⟩)),(3,.p σ.length),(5,.bool false),(6,.i ((a+k:Nat):Int))]) (fun _=>σ++[aB.rw [.i (a:Int),.i b]]) (fun k=>(b+1 - a).toNat - k) (fun k=>((a+k:Nat):Int)≤b+1∧∀ j,a≤j→j<a+k→gi l j ≠ 1) 0 oS (.same tE) ⟨oO,fun j h1 h2=>oO⟩ ?_
 clear hc1
 rintro k ⟨hk,hn⟩
 have hc1:aH (σ++[aB.rw [.i (a:Int),.i b]]) σ.length (0+1)=some (.i b):=ig rfl
 by_cases d:((a+k:Nat):Int)≤b
 ·have hc2:aH (σ++[aB.rw [.i (a:Int),.i b]]) i (o+(a+k)*1)=some (.int .i8 (gi l (a+k))):=by
   rw [cI,jP hi,fQ h oO]
   exact Kt oO
  by_cases h1:gi l (a+k)=1
  ·obtain rfl:t=true:=ht.2 ⟨a+k,oO,d,h1⟩
   clear ht
   clear hn
   generalize gi l (a+k)=x at *
   refine Yo ?_
   exact dK (.tmp rfl .nil) (.plain oS rfl) ⟨rfl,rfl⟩
  ·have c:∀ j,a≤j→j<a+(k+1)→gi l j ≠ 1:=fun j g1 g2=>by
    by_cases hj:j=a+k
    ·subst hj;exact h1
    ·exact hn j g1 oO
   clear hn
   generalize gi l (a+k)=x at *
   refine Yo ?_
   exact ⟨rfl,k+1,⟨oO,c⟩,oO,.same tE⟩
 ·obtain rfl:t=false:=by
   cases t with
   |false=>rfl
   |true=>obtain ⟨j,g1,g2,g3⟩:=ht.1 rfl;exact absurd g3 (hn j g1 oO)
  clear hn ht
  refine Yo ?_
  exact dK (.tmp rfl .nil) (.plain oS rfl) ⟨rfl,rfl⟩
theorem yx {σ:Heap} {i o:Nat} {lo hi:Int} {l:List Int} (h:aJ σ i o 1001=some (r8 l)) (hl:l.length=1001) (h0:0≤lo) (hb:hi≤1000) (hab:lo≤hi+1) :
  Ev Tryz.prog 170 [.pointer (some ⟨i,o,none⟩),.agg #[.i lo,.i hi]] σ (.bool (jK lo hi l)) σ:=by
 obtain ⟨a,rfl⟩:∃ a:Nat,lo=(a:Int):=⟨lo.toNat,oO⟩
 refine ZL σ i a o hi l h hl hb hab _ (FP.trans ?_)
 rw [cM]
 exact ⟨fun ⟨k,h1,h2,h3⟩=>⟨k,h1,oO,h3⟩,fun ⟨k,h1,h2,h3⟩=>⟨k,h1,oO,h3⟩⟩
end Go.Proofs.YtajpgeklmcjciaaGreat
namespace Go.AH
open Go
theorem aO {σ:Heap} {o:aB}:(σ++[o])[σ.length]?=some o:=oS
theorem iW {σ:Heap} {cs vs:List Value} (h:vs.length≤cs.length) (h0:0<cs.length):putCells (σ++[.rw cs]) σ.length 0 vs=some (σ++[.rw (splice cs 0 vs)]):=by
 unfold putCells
 rw [aO]
 simp only [bA]
 rw [show Nat.ble vs.length cs.length=true from fq h,show Nat.blt 0 cs.length=true from Nat.blt_eq.mpr h0]
 simp
theorem dU {σ:Heap} {cs:List Value} {n:Nat} (h:cs.length=n):aJ (σ++[.rw cs]) σ.length 0 n=some cs:=by
 unfold aJ
 rw [aO]
 simp only [bA,← h,List.drop_zero,eZ,show Nat.ble cs.length cs.length=true from fq (aD _),cond_true]
end Go.AH
namespace Go.AH.Heat
open Go Go.AH
theorem Ky {n:Nat}:∀ {σ:Heap},(∀ (i:Nat) (o:aB),σ[i]?=some o→fO n o)→fJ n σ
 |[],_=>trivial
 |o::r,h=>⟨h 0 o rfl,Ky fun i x hx=>h (i+1) x (oU hx)⟩
theorem ZM {P:Program} {n0 N:Nat} {rd:Option Nat} {Q:Post} {e:Env} {mk:List Nat} {σ:Heap} {c:Code} (h:fJ σ.length σ→bK P n0 N rd c Q e mk σ):bK P n0 N rd c Q e mk σ:=by
 intro G w0 ρ0 A w hi
 have a:=hi
 obtain ⟨h0,ρ,ha,hs,he⟩:=a
 exact h (Ky fun i o hi=>je (hs.obj i o hi)) G w0 ρ0 A w hi
theorem aX.dropAll {σin H Y:Heap} {v:Value} (hl:σin.length=H.length) (hc:fJ H.length H) (hv:AH.plain v=true):aX σin (H++Y) v v H:=by
 refine .inr fun _=>⟨fun i=>⟨i,0,0⟩,⟨oO,fun _ _=>rfl,fun i o hi=>?_,fun i i' oi oi' _ _ _ _ h=>h⟩,aY v hv⟩
 have a:=aQ hi
 exact lY (m:=H.length) (fun _ _=>rfl) (aD _) a (by rw [bR a];exact hi) (zZ hc i o hi)
abbrev jh (k:Int×Int×Int):List Value:=[.int .i64 k.1,.int .i64 k.2.1,.int .i64 k.2.2]
def wL (kf:Nat→Int×Int×Int) (n q:Nat):Int:=if q+1<n then (kf (q+1)).1 - 1 else 1000
end Go.AH.Heat
namespace Go.Proofs.YtajpgeklmcjciaaGreat
open Go Go.AH
attribute [local irreducible] bZ bK bM jB gy dO fC bW eU aX dV eH
open Go.AH.Heat
theorem NS {A B:Prop} (k:B) (h:Hide B→A:=by intro h_k_;(repeat' (first|refine sCm ?_|(refine gU ?_;first|(refine bV ?_;first|refine st (aK rfl (by first|exact hc1|exact hc2|exact hc3|exact ig rfl)) rfl rfl ?_|refine st (bD rfl (by first|exact hd1|exact hd2)) rfl rfl ?_)|refine sK8 ?_|refine sK0 ?_|(refine yP ?_;refine st (kW rfl) rfl rfl ?_)|refine sK3 ?_|refine sK4 ?_|(refine gV ?_;refine stN (bU rfl rfl rfl rfl (by exact hput)) rfl ?_))|refine aG ?_|refine dZ rfl ?_|refine eu rfl ?_));exact h_k_.h):A:=h ⟨k⟩
theorem Dc {σ:Heap} {l ib ik n c N' p1 p2:Nat} {kf:Nat→Int×Int×Int} {e':Env} {assign body:Code} {R:Value→Heap→Prop} (S:Nat→Heap)
  (h0:S 0=σ) (hlen:∀ j,(S j).length=σ.length) (hib:∀ j,aJ (S j) ib 0 1=some [.s ik n c])
  (hik:∀ j,∀ q<n,aJ (S j) ik (q*3) 3=some (jh (kf q))) (hk0:∀ q<n,0≤(kf q).1∧(kf q).1≤1000) (hn:n≤1000000)
  (hL:∀ j,(S j)[l]?=some (.loop .ready none N' e' [p1,p2].toArray assign body)) (hcl:fJ σ.length σ→∀ j,fJ σ.length (S j)) (hps:Nat.blt p1 N'=true∧Nat.blt p2 N'=true)
  (hround:∀ j<n,∀ (X:Heap) (QB:Post),(∀ e1 mk1 Y,QB .normal e1 mk1 ((S (j+1)).set l (.loop .busy none N' e' [p1,p2].toArray assign body)++X++Y)) →
   bK Tryz.prog (σ.length+X.length) N' (some l) assign (dV Tryz.prog (σ.length+X.length) N' l body QB)
    (lT [p1,p2] [.agg #[.i (kf j).1,.i (wL kf n j)],.agg #[.i (kf j).2.1,.i (kf j).2.2]] e') [] (S j++X))
  (hR:R (.tuple #[]) (S n)):eU Tryz.prog 258 [.func (.yield l) #[] #[],.p ib] σ R:=by
 refine aI σ.length 38 Tryz.func258 rfl rfl rfl rfl rfl ?_
 refine ZM fun o=>?_
 replace hcl:=hcl o
 clear o
 rw [← h0]
 have hb:∀ j,aH (S j) ib (0+0)=some (.s ik n c):=fun j=>fQ (hib j) oO
 have hc1:=hb 0
 refine NS ?_
 refine iM (ι:=Nat) (fun k=>[(0,.func (.yield l) #[] #[]),(1,.p ib),(7,.s ik n c),(8,.i (n:Nat)),(9,.i (k:Nat))]) (fun k=>S k) (fun k=>n - k) (fun k=>k≤n) 0 oS (.same tE) (bN _) ?_
 intro k hk
 obtain ⟨H,hH⟩:∃ H,S k=H:=⟨_,rfl⟩
 rw [hH]
 by_cases f:k<n
 ·have t:H.length=σ.length:=by rw [← hH,hlen]
  have hd1:aJ H ik (0+k*3) 3=some (jh (kf k)):=by rw [← hH,bA];exact hik k k f
  have hc2:aH (H++[aB.rw (jh (kf k))]) ib (0+0)=some (.s ik n c):=by rw [← hH,jP (dJ (hib k))];exact hb k
  have hc3:k+1<n→aH (H++[aB.rw (jh (kf k))]) ik (0+(k+1)*3+0)=some (.i (kf (k+1)).1):=fun h=>by
   rw [← hH,jP (dJ (hik k k f)),bA,fQ (hik k (k+1) h) oO];rfl
  have hk1:=hk0 k f
  have u:k+1<n→0≤(kf (k+1)).1∧(kf (k+1)).1≤1000:=hk0 (k+1)
  have v:(k:Int)<n:=oO
  have hput:putCells (H++[aB.rw (dR (.agg #[.i 0,.i 0,.i 0]))]) H.length 0 (jh (kf k))=some (H++[aB.rw (jh (kf k))]):=iW (aD 3) oD
  have hd2:aJ (H++[aB.rw (jh (kf k))]) H.length (0+1) 2=some [.i (kf k).2.1,.i (kf k).2.2]:=by
   unfold aJ;rw [aO];rfl
  have a:l < σ.length:=by rw [← h0];exact aQ (hL 0)
  have m:ib < σ.length:=by rw [← h0];exact dJ (hib 0)
  have g:ik < σ.length:=by rw [← h0];exact dJ (hik 0 k f)
  by_cases r:k+1<n
  ·have w:((k+1:Nat):Int)<n:=oO
   have hc3:=hc3 r
   have u:=u r
   have e:wL kf n k=(kf (k+1)).1 - 1:=if_pos r
   refine NS ?_
   have hr:=hround k f [aB.rw (jh (kf k))]
   rw [e,hH] at hr
   refine Aa (ps:=[p1,p2]) rfl rfl (by rw [bR (by rw [t];exact a),← hH];exact hL k) rfl (by simp [hps]) rfl ?_
   rw [show (H++[aB.rw (jh (kf k))]).length=σ.length+[aB.rw (jh (kf k))].length by simp [t]]
   refine hr _ fun e1 mk1 Y=>?_
   have hg:(((S (k+1)).set l (aB.loop .busy none N' e' #[p1,p2] assign body))++[aB.rw (jh (kf k))]++Y)[l]?=some (aB.loop .busy none N' e' #[p1,p2] assign body):=by
    rw [cD,bR (by simp [hlen,a])];simp [hlen,a]
   refine yw hg rfl ?_
   have d:(((S (k+1)).set l (aB.loop .busy none N' e' #[p1,p2] assign body))++[aB.rw (jh (kf k))]++Y).set l (l9 .ready none (aB.loop .busy none N' e' #[p1,p2] assign body))=S (k+1)++([aB.rw (jh (kf k))]++Y):=by
    rw [cD,cH _ _ (by simp [hlen,a]),cX]
    simp only [l9]
    rw [set_self (hL (k+1))]
   rw [d]
   refine NS ?_
   refine ⟨rfl,k+1,oO,oO,?_⟩
   exact lM.drop (S (k+1)) _ (by rw [hlen,hlen];exact aD _) (by rw [hlen];exact hcl (k+1)) (by rw [hlen];exact ⟨⟨rfl,by simp [closed,iZ,dP,a],rfl⟩,⟨rfl,Nat.blt_eq.mpr m,rfl⟩,⟨rfl,bP (Nat.blt_eq.mpr g),rfl⟩,⟨rfl,rfl,rfl⟩,⟨rfl,rfl,rfl⟩,trivial⟩)
  ·have w:¬ ((k+1:Nat):Int)<n:=oO
   have e:wL kf n k=1000:=if_neg r
   refine NS ?_
   have hr:=hround k f [aB.rw (jh (kf k))]
   rw [e,hH] at hr
   refine Aa (ps:=[p1,p2]) rfl rfl (by rw [bR (by rw [t];exact a),← hH];exact hL k) rfl (by simp [hps]) rfl ?_
   rw [show (H++[aB.rw (jh (kf k))]).length=σ.length+[aB.rw (jh (kf k))].length by simp [t]]
   refine hr _ fun e1 mk1 Y=>?_
   have hg:(((S (k+1)).set l (aB.loop .busy none N' e' #[p1,p2] assign body))++[aB.rw (jh (kf k))]++Y)[l]?=some (aB.loop .busy none N' e' #[p1,p2] assign body):=by
    rw [cD,bR (by simp [hlen,a])];simp [hlen,a]
   refine yw hg rfl ?_
   have d:(((S (k+1)).set l (aB.loop .busy none N' e' #[p1,p2] assign body))++[aB.rw (jh (kf k))]++Y).set l (l9 .ready none (aB.loop .busy none N' e' #[p1,p2] assign body))=S (k+1)++([aB.rw (jh (kf k))]++Y):=by
    rw [cD,cH _ _ (by simp [hlen,a]),cX]
    simp only [l9]
    rw [set_self (hL (k+1))]
   rw [d]
   refine NS ?_
   refine ⟨rfl,k+1,oO,oO,?_⟩
   exact lM.drop (S (k+1)) _ (by rw [hlen,hlen];exact aD _) (by rw [hlen];exact hcl (k+1)) (by rw [hlen];exact ⟨⟨rfl,by simp [closed,iZ,dP,a],rfl⟩,⟨rfl,Nat.blt_eq.mpr m,rfl⟩,⟨rfl,bP (Nat.blt_eq.mpr g),rfl⟩,⟨rfl,rfl,rfl⟩,⟨rfl,rfl,rfl⟩,trivial⟩)
 ·obtain rfl:k=n:=oO
  have v:¬ (k:Int)<k:=oO
  refine NS ?_
  exact U5 (v2:=.tuple #[]) (σ2:=H) .nil .all (by rw [← hH];exact hR)
end Go.Proofs.YtajpgeklmcjciaaGreat
namespace Go.AH
open Go
theorem aF {σ:Heap} {i o:Nat} {cs:List Value} (h:σ[i]?=some (.rw cs)):aH σ i o=cs[o]?:=by unfold aH;rw [h]
theorem Kz {σ:Heap} {i o:Nat} {cs:List Value} {t:TypeId} (h:σ[i]?=some (.gr cs t)):aH σ i o=cs[o]?:=by unfold aH;rw [h]
theorem aV {σ:Heap} {i m:Nat} {cs:List Value} (h:σ[i]?=some (.rw cs)) (hl:cs.length=m):aJ σ i 0 m=some cs:=by
 subst hl;exact wS (.inr (.inl h))
theorem iY {σ H:Heap} {i:Nat} (hp:H.take σ.length=σ) (hi:i < σ.length):H[i]?=σ[i]?:=by
 conv=>rhs;rw [← hp]
 rw [eE,if_pos hi]
theorem fH {σ H:Heap} {i o m:Nat} {cs:List Value} (hp:H.take σ.length=σ) (h:aJ σ i o m=some cs):aJ H i o m=some cs:=by
 have hi:=Go.AH.Heat.dJ h
 have:H[i]?=σ[i]?:=iY hp hi
 unfold aJ at h ⊢
 rw [this];exact h
theorem aT {σ H X:Heap} (hp:H.take σ.length=σ):(H++X).take σ.length=σ:=by
 have:σ.length≤H.length:=by
  have:=congrArg List.length hp;simp at this;omega
 rw [fp this];exact hp
theorem take_set {σ H:Heap} {i:Nat} {o:aB} (hp:H.take σ.length=σ) (hi:σ.length≤i):(H.set i o).take σ.length=σ:=by
 rw [List.take_set_of_le hi];exact hp
theorem take_len {σ H:Heap} (hp:H.take σ.length=σ):σ.length≤H.length:=by
 have:=congrArg List.length hp;simp at this;omega
theorem aA {H X:Heap} {i:Nat} {o:aB} (h:H[i]?=some o):(H++X)[i]?=some o:=by
 rw [bR (aQ h)];exact h
theorem aC {H:Heap} {i j:Nat} {o x:aB} (h:H[i]?=some o) (hij:j ≠ i):(H.set j x)[i]?=some o:=by
 rw [eN hij];exact h
theorem aS {H:Heap} {i:Nat} {o x:aB} (h:H[i]?=some o):(H.set i x)[i]?=some x:=by
 rw [List.getElem?_set_self (aQ h)]
theorem bJ {H:Heap} {o:aB} {n:Nat} (h:H.length=n):(H++[o])[n]?=some o:=by subst h;simp
section
variable {P:Program} {rd:Option Nat} {ty:TypeId} {e:Env} {σ:Heap} {x y:Operand}
theorem wG {t el size bytes j oj m c:Nat} {agg:Bool} {z:Value} {news:List Value} [ha:Sl P t el] [ht:Ty P el size agg z bytes] (hzs:z.cells.size=size)
  (hx:aP e x=some (.slice none 0 0)) (hy:aP e y=some (.slice (some ⟨j,oj,none⟩) m c)) (hc:aJ σ j oj (m*size)=some news) (hm:0<m) (h1:news.all (·.oneCell')=true)
  (hb:m≤1000000) (hby:bytes≤1000000) (h0:Nat.blt 0 size=true:=by decide) :
  bW P rd (.call { callee:=.builtin .append,args:=#[x,y],argTypes:=#[t,t] }) ty e σ (dW (σ.length+1) size m) (σ++[.dead,.gr news el]):=by
 refine SK (el:=el) ?_
 have a:aJ (σ++[.gr [] el]) j oj (m*size)=some news:=by rw [Go.AH.Heat.iT (Go.AH.Heat.dJ hc)];exact hc
 have:=iQ (P:=P) (rd:=rd) (ty:=ty) (e:=e) (σ:=σ++[.gr [] el]) (x:=x) (y:=y) (t:=t) (el:=el) (i:=σ.length) (n:=0) (cs:=[]) hzs h0 (by simpa [dW] using hx) oS oS hy a hm h1 oO hby
 simpa using this
end
theorem sF {P:Program} {rd:Option Nat} {ty:TypeId} {e:Env} {σ:Heap} {x:Operand} {t el size bytes:Nat} {z:Value} {cs:List Value} [ha:Sl P t el] [ht:Ty P el size true z bytes] (hz:plain z=true)
  (hsz:z.cells.size=size) (h0:Nat.blt 0 (1*size)=true) (h1:Nat.ble (1*size) 16777216=true) (h:aP e x=some (.agg cs.toArray)) (hl:cs.length=size) :
  bW P rd (.buildSlice t 1 [(0,x)].toArray) ty e σ (.s σ.length 1 1) (σ++[.rw cs]):=by
 refine nU hz hsz h0 h1 (vs:=[(0,.agg cs.toArray)]) (by simp [tJ,h]) ?_
 have hv:=(kQ (aY (q:=false) (n:=0) (ρ:=fun k=>⟨k,0,0⟩) z hz)).1
 have hv:(dR z).length=z.cells.size:=by simpa using hv
 have c:(iG (dR z) 1).length=size:=by rw [pY,hv,hsz];simp
 simp only [rJ,Nat.zero_mul]
 have a:dR (.agg cs.toArray)=cs:=rfl
 rw [a,hl,c]
 simp only [Nat.beq_refl,bA,Bool.true_and]
 rw [show Nat.ble size size=true from Nat.ble_eq.mpr (aD _)]
 simp only [cond_true,Option.some.injEq]
 unfold splice
 rw [List.take_zero,eR,bA,hl,eL oO,bL]
theorem bF {H X:Heap} (h:H.all (fun o=>!aU o)=true) (hx:X.all (fun o=>!aU o)=true):(H++X).all (fun o=>!aU o)=true:=by rw [List.all_append,h,hx];rfl
theorem ku {H:Heap} {i:Nat} {o:aB} (h:H.all (fun o=>!aU o)=true) (ho:aU o=false):(H.set i o).all (fun o=>!aU o)=true:=by
 rw [eo] at h ⊢
 intro x hx
 rcases List.mem_or_eq_of_mem_set hx with h1|rfl
 ·exact h x h1
 ·rw [ho];rfl
section
variable {P:Program} {n0 N:Nat} {rd:Option Nat} {Q:Post} {e:Env} {mk:List Nat} {σ:Heap}
theorem dS {ι:Type} (E:ι→Env) (p:ι→List Nat→Heap→Prop) (μ:ι→Nat) (i0:ι) {body:Code} (h0:qY e (E i0)) (hp:p i0 mk σ)
  (round:∀ i mk H,p i mk H→bK P n0 N rd body (gy (fun e' mk' σ'=>∃ i',p i' mk' σ'∧μ i' < μ i∧qY e' (E i')) Q) (E i) mk H):bK P n0 N rd (.loop body) Q e mk σ:=by
 refine UY (fun m e1 a σ1=>∃ i,p i a σ1∧μ i=m∧qY e1 (E i)) (m0:=μ i0) ⟨i0,hp,rfl,h0⟩ ?_
 rintro m e1 a σ1 ⟨i,c,rfl,d⟩
 refine dH (E i) σ1 rfl d ((round i a σ1 c).mono ?_)
 intro ex e' mk' σ' h
 cases ex with
 |normal =>
  obtain ⟨i',h2,h3,h4⟩:=h
  exact ⟨μ i',h3,i',h2,rfl,h4⟩
 |_=>exact h
end
def Mks (n:Nat) (mk:List Nat) (H:Heap):Prop:=mk.Nodup∧∀ i ∈ mk,n≤i∧H[i]?=some .dfr
theorem Mks.nil {n:Nat} {H:Heap}:Mks n [] H:=⟨List.nodup_nil,fun _ h=>by simp at h⟩
theorem Mks.app {n:Nat} {mk:List Nat} {H:Heap} (h:Mks n mk H) (X:Heap):Mks n mk (H++X):=⟨h.1,fun i hi=>⟨(h.2 i hi).1,aA (h.2 i hi).2⟩⟩
theorem Mks.set {n i:Nat} {mk:List Nat} {H:Heap} {o x:aB} (h:Mks n mk H) (hi:H[i]?=some o) (ho:o ≠ .dfr):Mks n mk (H.set i x) :=
 ⟨h.1,fun j hj=>⟨(h.2 j hj).1,aC (h.2 j hj).2 fun e=>ho (by have:=(h.2 j hj).2;rw [← e,hi] at this;exact Option.some.inj this)⟩⟩
theorem Mks.cons {n i:Nat} {mk:List Nat} {H:Heap} (h:Mks n mk H) (hn:i ∉ mk) (h1:n≤i) (hi:H[i]?=some .dfr):Mks n (i::mk) H :=
 ⟨List.nodup_cons.2 ⟨hn,h.1⟩,fun j hj=>by rcases List.mem_cons.1 hj with rfl|hj;exact ⟨h1,hi⟩;exact h.2 j hj⟩
theorem Mks.not {n i:Nat} {mk:List Nat} {H:Heap} {o:aB} (h:Mks n mk H) (hi:H[i]?=some o) (ho:o ≠ .dfr):i ∉ mk:=fun hm=>ho (by have:=(h.2 i hm).2;rw [hi] at this;exact Option.some.inj this)
theorem Mks.new {n i:Nat} {mk:List Nat} {H:Heap} (h:Mks n mk H) (hi:H.length≤i):i ∉ mk:=fun hm=>by have:=aQ (h.2 i hm).2;omega
theorem rC:∀ {mk:List Nat} {H:Heap} {i:Nat} {o:aB},H[i]?=some o→i ∉ mk→(kE mk H)[i]?=some o
 |[],_,_,_,h,_=>h
 |j::mk,H,i,o,h,hn=>rC (mk:=mk) (aC h fun e=>hn (by rw [e];exact fR ..)) fun hm=>hn (dT _ hm)
theorem pO {σ:Heap}:∀ {mk:List Nat} {H:Heap},H.take σ.length=σ→(∀ i ∈ mk,σ.length≤i)→(kE mk H).take σ.length=σ
 |[],_,h,_=>h
 |j::mk,H,h,hm=>pO (mk:=mk) (take_set h (hm j (fR ..))) fun i hi=>hm i (dT _ hi)
theorem TL {P:Program} {e:Env} {n:Nat} {mk:List Nat} {H σin:Heap} {rv:List ResultVar} {R:Value→Heap→Prop} {vs:List Value} {v2:Value} {σ2:Heap} (hm:Mks n mk H) (hr:tq P e (kE mk H) rv vs) (href:aX σin (kE mk H) (jY vs) v2 σ2) (hR:R v2 σ2) :
  jB P σin rv R .ret e mk H:=⟨hm.1,fun i hi=>(hm.2 i hi).2,vs,v2,σ2,hr,href,hR⟩
theorem xG {P:Program} {n1 N' l:Nat} {body:Code} {QB:Post} {e1:Env} {mk1:List Nat} {σ1:Heap} {L:aB} {N2:Nat} {e2:Env} {ps2:Array Tmp} {as2 bd2:Code} (h1:σ1[l]?=some L) (hL:L=.loop .ready none N2 e2 ps2 as2 bd2)
  (k:∀ B,B=aB.loop .busy none N2 e2 ps2 as2 bd2→bK P n1 N' (some l) body QB e1 mk1 (σ1.set l B)):dV P n1 N' l body QB .normal e1 mk1 σ1:=by
 subst hL;exact SV h1 (k _ rfl)
theorem FQ {A X:Heap} {a b r r' y:aB} {p l:Nat} (hp:p<A.length) (hl:l<A.length) (hpl:p ≠ l):(((A.set p r++X++[a]++[b]).set l y).set p r')=(A.set p r').set l y++X++[a,b]:=by
 rw [cD (A.set p r++X),cD (A.set p r),cH _ _ (oU hl),cH _ _ (oU hp)]
 rw [List.set_comm _ _ (by omega:l ≠ p),cX,cD]
 rfl
theorem KA {A X:Heap} {a b r y:aB} {p l:Nat} (hl:l<A.length):((A.set p r++X++[a]++[b]).set l y)=(A.set p r).set l y++X++[a,b]:=by
 rw [cD (A.set p r++X),cD (A.set p r),cH _ _ (oU hl),cD]
 rfl
theorem sG {σ:Heap} {n j k:Nat} {π:Rho} {cs cs2:List Value} (hk:π k=⟨j,0,0⟩) (h:σ[j]?=some (.rw cs)∨∃ t,σ[j]?=some (.gr cs t)) (hl:cs2.length=cs.length)
  (hv:∀ (i:Nat) (h1:i<cs2.length) (h2:i<cs.length),jG n π cs2[i] cs[i]):xZ σ n π (π k) (.rw cs2) :=
 .inr ⟨by rw [hk],cs,by rw [hk];exact h,oO,fun i h1 h2=>hv i h1 h2⟩
theorem jw {n:Nat} {o:aB} (ho:fO n o):∀ {σ:Heap} {i:Nat},fJ n σ→fJ n (σ.set i o)
 |[],_,h=>h
 |a::r,0,h=>⟨ho,h.2⟩
 |a::r,i+1,h=>⟨h.1,jw ho h.2⟩
end Go.AH
namespace Go.AH.Heat
open Go Go.AH Go.Proofs.YtajpgeklmcjciaaGreat
def zro:List Int:=List.replicate 1001 0
structure Wk where
 nb:Nat
 bf:Nat→Int×Int
 ns:Nat
 nw:Nat→Nat
 nk:Nat→Nat→Nat
 kf:Nat→Nat→Nat→Int×Int×Int
def jM (r:Int×Int):Prop:=0≤r.1∧r.1≤r.2∧r.2≤1000
def kOk (n:Nat) (kf:Nat→Int×Int×Int):Prop:=∀ q<n,0≤(kf q).1∧(kf q).1≤1000∧jM (kf q).2∧(q+1<n→(kf q).1<(kf (q+1)).1)
namespace Wk
variable (W:Wk)
structure Ok:Prop where
 b:∀ j<W.nb,jM (W.bf j)
 k:∀ i<W.ns,∀ k<W.nw i,kOk (W.nk i k) (W.kf i k)
 nb:W.nb≤1000
 ns:W.ns≤1000
 nw:∀ i<W.ns,W.nw i≤1000
 w1:∀ i<W.ns,0<W.nw i
 nk:∀ i<W.ns,∀ k<W.nw i,W.nk i k≤1000
def own (i k q:Nat):Int×Int:=((W.kf i k q).1,wL (W.kf i k) (W.nk i k) q)
def aft (i k q:Nat):Int×Int:=(W.kf i k q).2
end Wk
def rD (bf:Nat→Int×Int):Nat→List Int→List Int
 |0,l=>l
 |k+1,l=>tY (bf k).1 (bf k).2 (rD bf k l)
def spF (now:List Int) (fr to:Nat→Int×Int):Nat→List Int→List Int
 |0,l=>l
 |q+1,l=>if jK (fr q).1 (fr q).2 now then tY (to q).1 (to q).2 (spF now fr to q l) else spF now fr to q l
def wyF (now:List Int) (fr to:Nat→Nat→Int×Int) (nk:Nat→Nat):Nat→List Int→List Int
 |0,l=>l
 |k+1,l=>spF now (fr k) (to k) (nk k) (wyF now fr to nk k l)
namespace Wk
variable (W:Wk)
def front:Nat→List Int
 |0=>rD W.bf W.nb zro
 |i+1=>wyF (front i) (W.own i) (W.aft i) (W.nk i) (W.nw i) zro
def NU (m:Int×Int):Nat→List Int
 |0=>tY m.1 m.2 zro
 |k+1=>wyF (NU m k) (W.aft (W.ns - (k+1))) (W.own (W.ns - (k+1))) (W.nk (W.ns - (k+1))) (W.nw (W.ns - (k+1))) zro
def jS (m:Int×Int) (i:Nat):List Int:=W.NU m (W.ns - i)
def qc (m:Int×Int) (k i:Nat):List Int:=if W.ns≤i+k then W.jS m i else zro
end Wk
theorem Wi (n:Nat) (l:List Int):fO n (.rw (r8 l)):=aW (nR l)
theorem jX:zro.length=1001:=fN ..
theorem FT {lo hi:Int} {l:List Int} (hl:l.length=1001) (h0:0≤lo) (h1:lo≤hi+1) (h2:hi≤1000):(tY lo hi l).length=1001:=by
 unfold tY;rw [FN oO,hl]
theorem aeY {n:Nat} {kf:Nat→Int×Int×Int} (h:kOk n kf) {q:Nat} (hq:q<n):0≤(kf q).1∧(kf q).1≤wL kf n q∧wL kf n q≤1000:=by
 have h1:=h q hq
 unfold wL
 split
 ·rename_i h2;have:=h1.2.2.2 h2;have:=h (q+1) h2;omega
 ·omega
theorem xH {W:Wk} (h:W.Ok) {i k q:Nat} (hi:i<W.ns) (hk:k<W.nw i) (hq:q<W.nk i k):jM (W.own i k q):=aeY (h.k i hi k hk) hq
theorem Aw {W:Wk} (h:W.Ok) {i k q:Nat} (hi:i<W.ns) (hk:k<W.nw i) (hq:q<W.nk i k):jM (W.aft i k q):=(h.k i hi k hk q hq).2.2.1
theorem tZ {bf:Nat→Int×Int} {l:List Int} (hl:l.length=1001):∀ {k:Nat},(∀ j<k,jM (bf j))→(rD bf k l).length=1001
 |0,_=>hl
 |k+1,h=>by have:=h k oO;exact FT (tZ hl fun j hj=>h j oO) this.1 (by have:=this.2.1;omega) this.2.2
theorem xg {now l:List Int} {fr to:Nat→Int×Int} (hl:l.length=1001):∀ {n:Nat},(∀ q<n,jM (to q))→(spF now fr to n l).length=1001
 |0,_=>hl
 |q+1,h=>by
  have h1:=h q oO
  have ih:=xg (now:=now) (fr:=fr) hl (n:=q) fun j hj=>h j oO
  simp only [spF]
  split
  ·exact FT ih h1.1 (by have:=h1.2.1;omega) h1.2.2
  ·exact ih
theorem y9 {now l:List Int} {fr to:Nat→Nat→Int×Int} {nk:Nat→Nat} (hl:l.length=1001):∀ {n:Nat},(∀ k<n,∀ q<nk k,jM (to k q))→(wyF now fr to nk n l).length=1001
 |0,_=>hl
 |k+1,h=>xg (y9 hl fun j hj=>h j oO) (h k oO)
theorem kM {W:Wk} (h:W.Ok):∀ i≤W.ns,(W.front i).length=1001
 |0,_=>tZ jX h.b
 |i+1,hi=>y9 jX fun k hk q hq=>Aw h oO hk hq
theorem FU {W:Wk} (h:W.Ok) {m:Int×Int} (hm:jM m):∀ k≤W.ns,(W.NU m k).length=1001
 |0,_=>FT jX hm.1 (by have:=hm.2.1;omega) hm.2.2
 |k+1,hk=>y9 jX fun j hj q hq=>xH h oO hj hq
def dD (f:Nat→List Int):Nat→Nat→List Value
 |_,0=>[]
 |a,n+1=>r8 (f a)++dD f (a+1) n
theorem qL {f:Nat→List Int}:∀ {n a:Nat},(∀ j,a≤j→j<a+n→(f j).length=1001)→(dD f a n).length=n*1001
 |0,_,_=>by simp [dD]
 |n+1,a,h=>by
  simp only [dD,aR,jd]
  rw [qL fun j h1 h2=>h j oO oO,h a oO oO];omega
theorem G5 {f:Nat→List Int}:∀ {n a i:Nat},i≤n→dD f a n=dD f a i++dD f (a+i) (n - i)
 |n,a,0,_=>by simp [dD]
 |0,a,i+1,h=>by omega
 |n+1,a,i+1,h=>by
  simp only [dD]
  rw [G5 (n:=n) (a:=a+1) (i:=i) oO,show n+1 - (i+1)=n - i by omega,show a+1+i=a+(i+1) by omega,cD]
theorem Em {f:Nat→List Int} {n a i:Nat} (h:i<n):dD f a n=dD f a i++r8 (f (a+i))++dD f (a+i+1) (n - i - 1):=by
 rw [G5 (eK h),show n - i=(n - i - 1)+1 by omega]
 simp only [dD,Nat.add_sub_cancel]
 rw [cD]
theorem qM {f g:Nat→List Int}:∀ {n a:Nat},(∀ j,a≤j→j<a+n→f j=g j)→dD f a n=dD g a n
 |0,_,_=>rfl
 |n+1,a,h=>by
  simp only [dD]
  rw [h a oO oO,qM fun j h1 h2=>h j oO oO]
theorem mY (f:Nat→List Int):∀ (n a:Nat),dL (dD f a n)=true
 |0,_=>rfl
 |n+1,a=>by simp only [dD];rw [nV,nR,mY f n (a+1)];rfl
theorem Wj {f:Nat→List Int} (n:Nat):dD f 0 (n+1)=dD f 0 n++r8 (f n):=by
 rw [Em (show n<n+1 by omega)]
 simp [dD]
theorem lG {σ:Heap} {b n i:Nat} {f:Nat→List Int} (h:σ[b]?=some (.rw (dD f 0 n))∨∃ t,σ[b]?=some (.gr (dD f 0 n) t)) (hf:∀ j<n,(f j).length=1001) (hi:i<n):aJ σ b (0+i*1001) 1001=some (r8 (f i)):=by
 have hl:(dD f 0 n).length=n*1001:=qL fun j _ h2=>hf j oO
 have hlA:(dD f 0 i).length=i*1001:=qL fun j _ h2=>hf j oO
 have a:((dD f 0 n).drop (0+i*1001)).take 1001=r8 (f i):=by
  rw [Em hi,cD,bA,bA,fS oO,eL oO,eR,fp (by rw [jd,hf i hi];omega),List.take_of_length_le (by rw [jd,hf i hi];omega)]
 have hb:Nat.ble (0+i*1001+1001) (dD f 0 n).length=true:=by
  rw [hl,Nat.ble_eq]
  have:(i+1)*1001≤n*1001:=fh _ hi
  omega
 unfold aJ
 rcases h with h|⟨t,h⟩ <;> (rw [h];simp only [hb,cond_true,a])
theorem Qe (m:Nat) (f:Nat→List Int) (a n:Nat):fO m (.rw (dD f a n)):=aW (mY f n a)
theorem FV:r8 zro=List.replicate 1001 (.int .i8 0):=List.map_replicate
theorem LU {A B cs cs':List Value} {o:Nat} (hA:A.length=o) (hl:cs'.length=cs.length):splice (A++cs++B) o cs'=A++cs'++B:=by
 have:=GZ (A:=A) (cs:=cs) (B:=B) (k:=0) (x:=cs') hA oO
 rw [cV] at this
 rw [this]
 simp [splice,hl]
theorem FW {f g:Nat→List Int} {n i:Nat} {row:List Int} (hi:i<n) (hg:∀ j<n,g j=if j=i then row else f j):dD g 0 n=dD f 0 i++r8 row++dD f (i+1) (n - i - 1):=by
 rw [Em hi,bA,qM (f:=g) (g:=f) (n:=i) (a:=0) fun j _ h=>by rw [hg j oO,if_neg oO],
  qM (f:=g) (g:=f) (n:=n - i - 1) (a:=i+1) fun j h1 h2=>by rw [hg j oO,if_neg oO],hg i hi,if_pos rfl]
theorem ZN {H:Heap} {b n i:Nat} {f g:Nat→List Int} {row:List Int} (h:H[b]?=some (.rw (dD f 0 n))) (hf:∀ j<n,(f j).length=1001) (hi:i<n) (hr:row.length=1001) (hg:∀ j<n,g j=if j=i then row else f j) :
  putCells H b (0+i*1001) (r8 row)=some (H.set b (.rw (dD g 0 n))):=by
 have hl:(dD f 0 n).length=n*1001:=qL fun j _ h2=>hf j oO
 have a:(dD f 0 i).length=i*1001:=qL fun j _ h2=>hf j oO
 have:(i+1)*1001≤n*1001:=fh _ hi
 refine fM h (by rw [hl,jd,hr];omega) (by rw [hl];omega) ?_
 rw [FW hi hg,Em hi,bA,bA]
 exact LU a (by rw [jd,jd,hr,hf i hi])
theorem NV (W:Wk) (m:Int×Int) {k i:Nat} (hk:k<W.ns) (hi:i=W.ns - k - 1):wyF (W.jS m (i+1)) (W.aft i) (W.own i) (W.nk i) (W.nw i) zro=W.jS m i:=by
 unfold Wk.jS
 rw [show W.ns - i=k+1 by omega,show W.ns - (i+1)=k by omega]
 simp only [Wk.NU]
 rw [show W.ns - (k+1)=i by omega]
theorem Wn (W:Wk) (m:Int×Int) {k i:Nat} (hk:k<W.ns) (hi:i=W.ns - k - 1) (t:Nat) (_ht:t<W.ns+1):(if t=i then W.jS m i else W.qc m k t)=W.qc m (k+1) t:=by
 unfold Wk.qc
 by_cases h:t=i
 ·rw [if_pos h,if_pos oO,h]
 ·rw [if_neg h]
  by_cases h2:W.ns≤t+k
  ·rw [if_pos h2,if_pos oO]
  ·rw [if_neg h2,if_neg oO]
theorem lH {W:Wk} (h:W.Ok) {m:Int×Int} (hm:jM m) (i:Nat):(W.jS m i).length=1001:=FU h hm _ oO
theorem ZO {W:Wk} (h:W.Ok) {m:Int×Int} (hm:jM m) (k i:Nat):(W.qc m k i).length=1001:=by
 unfold Wk.qc;split
 ·exact lH h hm i
 ·exact jX
theorem aeZ (v:Value) (n:Nat) (h:v.oneCell'=true):(List.replicate n v).all (·.oneCell')=true:=by
 rw [eo];intro x hx;rw [(List.mem_replicate.1 hx).2];exact h
theorem Wp (v:Value) (hv:dR v=[v]):∀ n,iG (dR v) n=List.replicate n v
 |0=>rfl
 |n+1=>by simp only [iG];rw [Wp v hv n,hv,List.replicate_succ];rfl
theorem ae0:∀ n:Nat,iG (List.replicate 1001 (.int .i8 0)) n=dD (fun _=>zro) 0 n:=by
 have c:∀ n a,iG (List.replicate 1001 (.int .i8 0)) n=dD (fun _=>zro) a n:=by
  intro n
  induction n with
  |zero=>intro a;rfl
  |succ n ih=>intro a;simp only [iG,dD];rw [ih (a+1),FV]
 exact fun n=>c n 0
structure wM (σ:Heap) (W:Wk) (bB bS:Nat) (wB cW:Nat→Nat) (kB cK:Nat→Nat→Nat):Prop where
 bars:∀ j<W.nb,aJ σ bB (j*2) 2=some [.int .i64 (W.bf j).1,.int .i64 (W.bf j).2]
 steps:∀ i<W.ns,aJ σ bS i 1=some [.slice (some ⟨wB i,0,none⟩) (W.nw i) (cW i)]
 ways:∀ i<W.ns,∀ k<W.nw i,aJ σ (wB i) k 1=some [.slice (some ⟨kB i k,0,none⟩) (W.nk i k) (cK i k)]
 kinks:∀ i<W.ns,∀ k<W.nw i,∀ q<W.nk i k,aJ σ (kB i k) (q*3) 3=some (jh (W.kf i k q))
theorem wM.take {σ H:Heap} {W:Wk} {bB bS:Nat} {wB cW:Nat→Nat} {kB cK:Nat→Nat→Nat} (h:wM σ W bB bS wB cW kB cK) (hp:H.take σ.length=σ):wM H W bB bS wB cW kB cK :=
 ⟨fun j hj=>fH hp (h.bars j hj),fun i hi=>fH hp (h.steps i hi),fun i hi k hk=>fH hp (h.ways i hi k hk),fun i hi k hk q hq=>fH hp (h.kinks i hi k hk q hq)⟩
structure NT (σ H:Heap) (wv mv:List Value) (tr:List Value) (now:List Int):Prop where
 pre:H.take σ.length=σ
 b0:H[σ.length]?=some (.rw wv)
 b1:H[σ.length+1]?=some (.rw mv)
 b2:H[σ.length+2]?=some (.rw tr)
 b3:H[σ.length+3]?=some (.rw [.pointer (some ⟨σ.length+2,0,none⟩)])
 b4:H[σ.length+4]?=some (.rw (r8 now))
section
variable {σ H:Heap} {wv mv tr:List Value} {now:List Int}
theorem NT.app (h:NT σ H wv mv tr now) (X:Heap):NT σ (H++X) wv mv tr now:=⟨aT h.pre,aA h.b0,aA h.b1,aA h.b2,aA h.b3,aA h.b4⟩
theorem NT.setX (h:NT σ H wv mv tr now) {i:Nat} (hi:σ.length+5≤i) (o:aB):NT σ (H.set i o) wv mv tr now :=
 ⟨take_set h.pre oO,aC h.b0 oO,aC h.b1 oO,aC h.b2 oO,aC h.b3 oO,aC h.b4 oO⟩
theorem NT.setR (h:NT σ H wv mv tr now) (now':List Int):NT σ (H.set (σ.length+4) (.rw (r8 now'))) wv mv tr now' :=
 ⟨take_set h.pre oO,aC h.b0 oO,aC h.b1 oO,aC h.b2 oO,aC h.b3 oO,aS h.b4⟩
theorem NT.setT (h:NT σ H wv mv tr now) (tr':List Value):NT σ (H.set (σ.length+2) (.rw tr')) wv mv tr' now :=
 ⟨take_set h.pre oO,aC h.b0 oO,aC h.b1 oO,aS h.b2,aC h.b3 oO,aC h.b4 oO⟩
theorem NT.len (h:NT σ H wv mv tr now):σ.length+5≤H.length:=by have:=aQ h.b4;omega
end
end Go.AH.Heat
namespace Go.Proofs.YtajpgeklmcjciaaGreat
open Go Go.AH
attribute [local irreducible] bZ bK bM jB gy dO fC bW eU aX dV eH
open Go.AH.Heat
theorem KC {σ:Heap} {v:Value}:Ev Tryz.prog 171 [.agg #[v]] σ (.func (.func 258) #[] #[.p σ.length]) (σ++[.rw [v]]):=by
 refine aI σ.length 4 Tryz.func171 rfl rfl rfl rfl rfl ?_
 repeat' (first|refine sCm ?_|(refine gU ?_;refine sK7 ?_)|refine aG ?_)
 exact dK (.tmp rfl .nil) .all ⟨rfl,rfl⟩
end Go.Proofs.YtajpgeklmcjciaaGreat
namespace Go.AH.Heat
open Go Go.AH
theorem ae1 {P:Program} {rd:Option Nat} {ty:TypeId} {e:Env} {σ:Heap} {x y:Operand} {m n:Int} {t t':TypeId} (hx:aP e x=some (.int .i8 m)) (hy:aP e y=some (.int .i8 n)) (h1:m=0∨m=1) (h2:n=0∨n=1) :
  bW P rd (.binOp .mul t x y t') ty e σ (.int .i8 (m*n)) σ:=jm hx hy (by rcases h1 with rfl|rfl <;> rcases h2 with rfl|rfl <;> rfl)
theorem FX (l:List Int):(r8 l).all (·.oneCell')=true:=by
 induction l with
 |nil=>rfl
 |cons a l ih=>simp only [r8,cG,List.all_cons] at ih ⊢;rw [ih];rfl
def mG:Nat→List Int→List Int→List Int
 |0,a,_=>a
 |k+1,x::a,y::b=>(x*y)::mG k a b
 |_+1,a,_=>a
theorem KD:∀ (k:Nat) (a b:List Int),(mG k a b).length=a.length
 |0,_,_=>rfl
 |k+1,[],[]=>rfl
 |k+1,[],_::_=>rfl
 |k+1,_::_,[]=>rfl
 |k+1,x::a,y::b=>by simp only [mG,eg,KD k a b]
theorem IE:∀ {k:Nat} {a b:List Int},k<a.length→k<b.length→gi (mG k a b) k=gi a k
 |0,_,_,_,_=>rfl
 |k+1,[],_,h,_=>by simp at h
 |k+1,_::_,[],_,h=>by simp at h
 |k+1,x::a,y::b,h1,h2=>by
  have:=IE (k:=k) (a:=a) (b:=b) (oU h1) (oU h2)
  simpa [gi,mG] using this
theorem NW:∀ {k:Nat} {a b:List Int},k<a.length→k<b.length→(mG k a b).set k (gi a k*gi b k)=mG (k+1) a b
 |0,[],_,h,_=>by simp at h
 |0,_::_,[],_,h=>by simp at h
 |0,x::a,y::b,_,_=>by simp [mG,gi]
 |k+1,[],_,h,_=>by simp at h
 |k+1,_::_,[],_,h=>by simp at h
 |k+1,x::a,y::b,h1,h2=>by
  have:=NW (k:=k) (a:=a) (b:=b) (oU h1) (oU h2)
  simp only [mG,List.set_cons_succ]
  rw [← this]
  simp [gi]
def mulL (a b:List Int):List Int:=mG 1001 a b
theorem ZP {l:List Int} {k:Nat} {x:Int} (h:k<l.length):splice (r8 l) k [.int .i8 x]=r8 (l.set k x):=by
 simp only [splice,r8,eg,eb,List.set_eq_take_append_cons_drop,h,if_true,eC,List.map_take,cG,List.map_drop]
 simp
end Go.AH.Heat
namespace Go.Proofs.YtajpgeklmcjciaaGreat
open Go Go.AH
attribute [local irreducible] bZ bK bM jB gy dO fC bW eU aX dV eH
open Go.AH.Heat
theorem TM {A B:Prop} (k:B) (h:Hide B→A:=by intro h_k_;(repeat' (first|refine sCm ?_|(refine gU ?_;first|(refine bV ?_;first|refine st (aK rfl (by exact hc4 _)) rfl rfl ?_|refine st (bD rfl (by first|exact hd1 _|exact hd2)) rfl rfl ?_)|refine sK0 ?_|refine sK3 ?_|(refine gV ?_;refine stN (bU rfl rfl rfl rfl (by exact hputE)) rfl ?_))|(refine fU ?_;first|refine frA (eP rfl) rfl ?_ (hcl (by omega))|refine frA (jT rfl) rfl ?_ (hcl (by omega))|refine frA (aZ rfl) rfl ?_ (hcl (by omega))|refine frA (aK rfl hc2e) rfl ?_ hcs|refine frA (aK rfl hc1e) rfl ?_|refine frA (aK rfl hc3e) rfl ?_|refine frA (Ac rfl rfl (by omega)) rfl ?_ (hcl (by omega))|refine frA (iV rfl rfl (by omega)) rfl ?_ (hcl (by omega))|refine frA (ae1 rfl rfl h01 h02) rfl ?_|refine JQ ?_)|(refine fP ⟨by kernel_rfl,?_⟩)|refine aG ?_|refine sK5 ?_|refine dZ rfl ?_|refine eu rfl ?_));exact h_k_.h):A:=h ⟨k⟩
theorem Yp (σ:Heap) (p a b oa ob n m c c' s:Nat) (tc:List Value) (fr re:List Int) (hp:dN σ p tc) (h4:tc[4]?=some (.slice (some ⟨a,oa,none⟩) n c)) (h5:tc[5]?=some (.slice (some ⟨b,ob,none⟩) m c'))
  (hs:s<n) (hs':s<m) (ha:aJ σ a (oa+s*1001) 1001=some (r8 fr)) (hb:aJ σ b (ob+s*1001) 1001=some (r8 re)) (hfl:fr.length=1001) (hrl:re.length=1001) (hf01:∀ i<1001,gi fr i=0∨gi fr i=1) (hr01:∀ i<1001,gi re i=0∨gi re i=1) :
  Ev Tryz.prog 169 [.p p,.i (s:Int)] σ (.agg (r8 (mulL fr re)).toArray) σ:=by
 have l:=jF hp
 refine aI σ.length 33 Tryz.func169 rfl rfl rfl rfl rfl ?_
 have hc4:∀ x:aB,aH (σ++[x]) p (0+4)=some (.slice (some ⟨a,oa,none⟩) n c):=fun x=>by
  rcases hp with h|h|⟨t,h⟩ <;> simp [aH,bR l,h,h4]
 have v:a < σ.length:=dJ ha
 have hd1:∀ x:aB,aJ (σ++[x]) a (oa+s*1001) 1001=some (r8 fr):=fun x=>by rw [iT v];exact ha
 have hput:putCells (σ++[aB.rw (List.replicate 1001 (.int .i8 0))]++[aB.rw (List.replicate 1001 (.int .i8 0))]) (σ++[aB.rw (List.replicate 1001 (.int .i8 0))]).length 0 (r8 fr)=some (σ++[aB.rw (List.replicate 1001 (.int .i8 0))]++[.rw (r8 fr)]):=by
  rw [iW (by rw [jd,hfl];simp) oS]
  simp [splice,jd,hfl]
 have d:(r8 fr).length=1001:=by rw [jd,hfl]
 have e:=FX fr
 have h1I:(s:Int)<(n:Int):=oO
 refine TM ?_
 refine stN (bU (size:=1001) rfl rfl (by exact d) (by exact e) (by exact hput)) rfl ?_
 refine TM ?_
 refine dH [(0,.p p),(1,.i (s:Int)),(4,.p σ.length),(5,.p (σ.length+1)),(14,.i ((0:Nat):Int))] (σ++[aB.rw (List.replicate 1001 (.int .i8 0))]++[aB.rw (r8 (mG 0 fr re))]) rfl ⟨rfl,rfl,rfl,by rw [show σ.length+1=(σ++[aB.rw (List.replicate 1001 (.int .i8 0))]).length by simp];rfl,rfl,trivial⟩ ?_
 clear hput hd1 e
 refine iM (ι:=Nat) (fun k=>[(0,.p p),(1,.i (s:Int)),(4,.p σ.length),(5,.p (σ.length+1)),(14,.i (k:Int))]) (fun k=>σ++[aB.rw (List.replicate 1001 (.int .i8 0))]++[aB.rw (r8 (mG k fr re))]) (fun k=>1001 - k) (fun k=>k≤1001) 0 oS (.same tE) (bN _) ?_
 intro k hk
 have g:=KD k fr re
 have f:(σ++[aB.rw (List.replicate 1001 (.int .i8 0))]).length=σ.length+1:=oS
 by_cases j:k<1001
 ·have w:b < σ.length:=dJ hb
  have hc1:aH (σ++[aB.rw (List.replicate 1001 (.int .i8 0))]++[aB.rw (r8 (mG k fr re))]) (σ.length+1) (0+k*1)=some (.int .i8 (gi fr k)):=by
   rw [ig f,bA,cI,Kt oO,IE oO oO]
  have hc2:aH (σ++[aB.rw (List.replicate 1001 (.int .i8 0))]++[aB.rw (r8 (mG k fr re))]) p (0+5)=some (.slice (some ⟨b,ob,none⟩) m c'):=by
   rw [jP (by simp;omega),jP l]
   rcases hp with h|h|⟨t,h⟩ <;> simp [aH,h,h5]
  have hc3:aH (σ++[aB.rw (List.replicate 1001 (.int .i8 0))]++[aB.rw (r8 (mG k fr re))]) b (ob+s*1001+k*1)=some (.int .i8 (gi re k)):=by
   rw [jP (by simp;omega),jP w,cI,fQ hb oO,Kt oO]
  have hput:putCells (σ++[aB.rw (List.replicate 1001 (.int .i8 0))]++[aB.rw (r8 (mG k fr re))]) (σ.length+1) (0+k*1) [.int .i8 (gi fr k*gi re k)]=some (σ++[aB.rw (List.replicate 1001 (.int .i8 0))]++[aB.rw (r8 (mG (k+1) fr re))]):=by
   have hg:(σ++[aB.rw (List.replicate 1001 (.int .i8 0))]++[aB.rw (r8 (mG k fr re))])[σ.length+1]?=some (.rw (r8 (mG k fr re))):=by rw [← f];exact aO
   rw [fM hg (by rw [jd,g];simp;omega) (by rw [jd,g];omega) (by rw [bA,cI,ZP oO,← IE (b:=re) (show k<fr.length by omega) oO]),← f,fL _ _ (aD _),cY]
   rw [IE oO oO,NW oO oO]
   rfl
  have hH:(σ++[aB.rw (List.replicate 1001 (.int .i8 0))]++[aB.rw (r8 (mG k fr re))]).length=σ.length+2:=oS
  have hcl:∀ {q o:Nat},q < σ.length+2→closed (σ++[aB.rw (List.replicate 1001 (.int .i8 0))]++[aB.rw (r8 (mG k fr re))]).length (.pointer (some ⟨q,o,none⟩))=true:=fun {q o} h=>by rw [hH];exact Nat.blt_eq.mpr h
  have hcs:closed (σ++[aB.rw (List.replicate 1001 (.int .i8 0))]++[aB.rw (r8 (mG k fr re))]).length (.slice (some ⟨b,ob,none⟩) m c')=true:=by rw [hH];exact bP (Nat.blt_eq.mpr oO)
  have hc1e:=hc1
  have hc2e:=hc2
  have hc3e:=hc3
  rw [← bL (σ++[aB.rw (List.replicate 1001 (.int .i8 0))]++[aB.rw (r8 (mG k fr re))])] at hc1e hc2e hc3e
  have hputE:=hput
  rw [← bL (σ++[aB.rw (List.replicate 1001 (.int .i8 0))]++[aB.rw (r8 (mG k fr re))])] at hputE
  have h01:=hf01 k j
  have h02:=hr01 k j
  have hkI:(k:Int)<1001:=oO
  have h2I:(s:Int)<(m:Int):=oO
  generalize gi fr k=x at *
  generalize gi re k=y at *
  refine TM ?_
  exact ⟨rfl,k+1,oO,oO,.same tE⟩
 ·obtain rfl:k=1001:=oO
  have d:(r8 (mG 1001 fr re)).length=1001:=by rw [jd,g,hfl]
  have hd2:aJ (σ++[aB.rw (List.replicate 1001 (.int .i8 0))]++[aB.rw (r8 (mG 1001 fr re))]) (σ.length+1) 0 1001=some (r8 (mG 1001 fr re)):=by
   rw [← f];exact dU d
  have hput:putCells (σ++[aB.rw (List.replicate 1001 (.int .i8 0))]++[aB.rw (r8 (mG 1001 fr re))]) σ.length 0 (r8 (mG 1001 fr re))=some (σ++[aB.rw (r8 (mG 1001 fr re))]++[aB.rw (r8 (mG 1001 fr re))]):=by
   rw [fM (cs:=List.replicate 1001 (.int .i8 0)) (cs':=r8 (mG 1001 fr re)) oS (by rw [d];simp) oS (by simp [splice,d])]
   simp
  have u:aJ (σ++[aB.rw (r8 (mG 1001 fr re))]++[aB.rw (r8 (mG 1001 fr re))]) σ.length 0 1001=some (r8 (mG 1001 fr re)):=by
   rw [iT oS];exact dU d
  have r:=nR (mG 1001 fr re)
  unfold mulL
  have e:=FX (mG 1001 fr re)
  generalize r8 (mG 1001 fr re)=rc at *
  refine TM ?_
  refine stN (bU (size:=1001) rfl rfl (by exact d) (by exact e) (by exact hput)) rfl ?_
  refine TM ?_
  exact dK (.cellN inferInstance rfl u .nil) (.plain oS r) ⟨rfl,rfl⟩
end Go.Proofs.YtajpgeklmcjciaaGreat
