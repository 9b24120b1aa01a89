/- Lemmas. No conditions. -/
import Derived.Test.YtajpgeklmcjciaaGreatPyMJ
import Derived.Test.YtajpgeklmcjciaaGreatPyMC
set_option maxRecDepth 100000
set_option maxHeartbeats 8000000
open Go.Proofs.Tryz
open Go Go.AH
namespace Go
abbrev Value.i (x:Int):Value:=.int .i64 x
abbrev Value.p (b:Nat):Value:=.pointer (some ⟨b,0,none⟩)
abbrev Value.s (b n c:Nat):Value:=.slice (some ⟨b,0,none⟩) n c
end Go
namespace Go.AH
theorem VQ.i {q:Bool} {n:Nat} {V:Rho} (x:Int):VQ q n V (.int .i64 x) (.int .i64 x):=.int .i64 x
end Go.AH
theorem tE {P:Prop} (h:P:=by (repeat' (first|exact trivial|refine ⟨rfl,?_⟩))):P:=h
namespace Go.AH
structure Hid (p:Prop):Prop where
 h:p
theorem sCm {A B:Prop} (k:B) (h:Hid B->A:=by intro z_;(repeat1' (first|(refine gU ?_;first|(refine uD ?_;refine st (jd rfl) rfl rfl ?_)|(refine wK ?_;refine st (dY rfl) rfl rfl ?_)|(refine ae8 ?_;refine st (Jt rfl) rfl rfl ?_)|(refine gFA ?_;refine st (bD rfl) rfl rfl ?_)|(refine Iq ?_;refine st (lY rfl) rfl rfl ?_)|(refine Fh ?_;refine st (pI rfl rfl oO) rfl rfl ?_)|(refine yT ?_;refine st (jG rfl) rfl rfl ?_)|(refine gNil ?_;refine st (jB rfl) rfl rfl ?_)|(refine Jw ?_;refine st (yP rfl rfl) rfl rfl ?_))|refine uq ?_|refine kU ?_|refine rG ?_|refine abM ?_|refine ZL ?_|refine uz ?_|refine ae4 ?_|refine CJ rfl ?_|refine xE ?_|refine yN ?_|refine DL ?_|refine qg ?_));exact z_.h):A:=h ⟨k⟩
theorem sK0 {A B:Prop} (k:B) (h:Hid B->A:=by intro z_;(refine yS ?_;refine st (iU rfl rfl rfl) rfl rfl ?_);exact z_.h):A:=h ⟨k⟩
theorem sK1 {A B:Prop} (k:B) (h:Hid B->A:=by intro z_;(refine lg rfl (by first|rfl|exact bM oA) ?_);exact z_.h):A:=h ⟨k⟩
theorem sK2 {A B:Prop} (k:B) (h:Hid B->A:=by intro z_;(refine oV rfl (by first|rfl|exact fE oA) ?_);exact z_.h):A:=h ⟨k⟩
theorem sK3 {A B:Prop} (k:B) (h:Hid B->A:=by intro z_;(refine gIA ?_;refine st (iE rfl rfl oO) rfl rfl ?_);exact z_.h):A:=h ⟨k⟩
theorem sK4 {A B:Prop} (k:B) (h:Hid B->A:=by intro z_;(refine ae6 ?_;refine st (xG rfl rfl oO oO) rfl rfl ?_);exact z_.h):A:=h ⟨k⟩
theorem sK5 {A B:Prop} (k:B) (h:Hid B->A:=by intro z_;(refine eY oK rfl ?_);exact z_.h):A:=h ⟨k⟩
theorem sK6 {A B:Prop} (k:B) (h:Hid B->A:=by intro z_;(refine gIA ?_;refine st (qR rfl rfl oO) rfl rfl ?_);exact z_.h):A:=h ⟨k⟩
theorem sK7 {A B:Prop} (k:B) (h:Hid B->A:=by intro z_;(refine gMkF ?_;refine st (zT rfl rfl) rfl rfl ?_);exact z_.h):A:=h ⟨k⟩
theorem sK8 {A B:Prop} (k:B) (h:Hid B->A:=by intro z_;(refine gZ ?_;refine stN (bW rfl rfl rfl rfl (by exact iH (aD _) (cL _))) rfl ?_);exact z_.h):A:=h ⟨k⟩
theorem sK9 {A B:Prop} (k:B) (h:Hid B->A:=by intro z_;(refine Fh ?_;refine st (uY rfl rfl oO oO) rfl rfl ?_);exact z_.h):A:=h ⟨k⟩
theorem FP {A B:Prop} (k:B) (h:Hid B->A:=by intro z_;(refine Pj ?_;refine st (pV oR rfl oR) rfl rfl ?_);exact z_.h):A:=h ⟨k⟩
theorem FQ {A B:Prop} (k:B) (h:Hid B->A:=by intro z_;(refine yS ?_;refine pY rfl (iU rfl rfl rfl) rfl rfl ?_);exact z_.h):A:=h ⟨k⟩
theorem Iw {A B:Prop} (k:B) (h:Hid B->A:=by intro z_;(refine cO ?_;refine st (aJ rfl oR) rfl rfl ?_);exact z_.h):A:=h ⟨k⟩
theorem Iy {A B:Prop} (k:B) (h:Hid B->A:=by intro z_;(refine nH ?_;refine fr (dY rfl) oR rfl ?_);exact z_.h):A:=h ⟨k⟩
theorem Iz {A B:Prop} (k:B) (h:Hid B->A:=by intro z_;(refine fSub ?_;refine fr (xG rfl rfl oO oO) oR rfl ?_);exact z_.h):A:=h ⟨k⟩
theorem Ko {A B:Prop} (k:B) (h:Hid B->A:=by intro z_;(refine wK ?_;refine pY rfl (dY rfl) rfl rfl ?_);exact z_.h):A:=h ⟨k⟩
theorem Me {A B:Prop} (k:B) (h:Hid B->A:=by intro z_;(refine Bc ?_;refine st (oW oR oR oR oR rfl oR) rfl rfl ?_);exact z_.h):A:=h ⟨k⟩
theorem MB {A B:Prop} (k:B) (h:Hid B->A:=by intro z_;(refine gFA ?_;refine pY rfl (bD rfl) rfl rfl ?_);exact z_.h):A:=h ⟨k⟩
theorem MC {A B:Prop} (k:B) (h:Hid B->A:=by intro z_;(refine Iq ?_;refine pY rfl (lY rfl) rfl rfl ?_);exact z_.h):A:=h ⟨k⟩
theorem MF {A B:Prop} (k:B) (h:Hid B->A:=by intro z_;(refine wK ?_;refine st (dY rfl) rfl rfl ?_);exact z_.h):A:=h ⟨k⟩
theorem MG {A B:Prop} (k:B) (h:Hid B->A:=by intro z_;(refine uD ?_;refine st (jd rfl) rfl rfl ?_);exact z_.h):A:=h ⟨k⟩
theorem Qc {A B:Prop} (k:B) (h:Hid B->A:=by intro z_;(refine gIA ?_;refine st (Ad rfl rfl oO) rfl rfl ?_);exact z_.h):A:=h ⟨k⟩
theorem Qd {A B:Prop} (k:B) (h:Hid B->A:=by intro z_;(refine nH ?_;refine frA (dY rfl) rfl ?_);exact z_.h):A:=h ⟨k⟩
theorem TJ {A B:Prop} (k:B) (h:Hid B->A:=by intro z_;(refine yS ?_;refine stG rfl (by exact bM oA) (iU rfl rfl rfl) rfl rfl ?_);exact z_.h):A:=h ⟨k⟩
theorem TK {A B:Prop} (k:B) (h:Hid B->A:=by intro z_;(refine rW ?_;refine st (Ba rfl) rfl rfl ?_);exact z_.h):A:=h ⟨k⟩
theorem TL {A B:Prop} (k:B) (h:Hid B->A:=by intro z_;(refine lM ?_;refine st (jk rfl rfl) rfl rfl ?_);exact z_.h):A:=h ⟨k⟩
theorem TM {A B:Prop} (k:B) (h:Hid B->A:=by intro z_;(refine fAdd ?_;refine fr (uY rfl rfl oO oO) oR rfl ?_);exact z_.h):A:=h ⟨k⟩
theorem TN {A B:Prop} (k:B) (h:Hid B->A:=by intro z_;(refine gZ ?_;refine stN (bW rfl rfl rfl rfl oR) rfl ?_);exact z_.h):A:=h ⟨k⟩
theorem WE {A B:Prop} (k:B) (h:Hid B->A:=by intro z_;(refine wK ?_;refine stG rfl (by exact bM oA) (dY rfl) rfl rfl ?_);exact z_.h):A:=h ⟨k⟩
theorem WG {A B:Prop} (k:B) (h:Hid B->A:=by intro z_;(refine fMin ?_;refine fr (Fg rfl rfl) oR rfl ?_);exact z_.h):A:=h ⟨k⟩
theorem WH {A B:Prop} (k:B) (h:Hid B->A:=by intro z_;(refine cO ?_;refine st (bG rfl oR) rfl rfl ?_);exact z_.h):A:=h ⟨k⟩
theorem aap {A B:Prop} (k:B) (h:Hid B->A:=by intro z_;(refine stS rfl (by exact fE oA) rfl ?_);exact z_.h):A:=h ⟨k⟩
theorem aaq {A B:Prop} (k:B) (h:Hid B->A:=by intro z_;(refine Yl ?_;refine frN (oW oR oR oR oR rfl oR) xZ rfl rfl rfl ?_);exact z_.h):A:=h ⟨k⟩
theorem aar {A B:Prop} (k:B) (h:Hid B->A:=by intro z_;(refine fMax ?_;refine fr (CG rfl rfl) oR rfl ?_);exact z_.h):A:=h ⟨k⟩
theorem mQ {n i sz k:Nat} (h:Nat.blt i n=true):closed n (eP i sz k)=true:=by
 cases k <;> simp [eP,closed,h]
section
variable {P:Program} {n0 N:Nat} {rd:Option Nat} {Q:Post} {e:Env} {mk:List Nat} {U:Heap} {K:Env->List Nat->Heap->Prop} {all rest:List Oper}
theorem pY {d:Nat} {op:Op} {ty:TypeId} {pos:String} {after:Array Edge} {v:Value} {σ':Heap} {j:Nat} {b want:Bool} (hg:jM all e j=some (.bool b))
  (h:bY P rd op ty e U v σ') (hrd:lJ rd n0=true) (hd:Nat.blt d N=true)
  (k:dA P n0 N rd all rest K ((d,v)::e) mk σ') (hb:b=want:=by first|rfl|exact fE oA|exact bM oA|assumption|exact fE oO|exact bM oO):dA P n0 N rd all (⟨some d,op,ty,pos,after,some (j,want)⟩::rest) K e mk U:=stG hg hb h hrd hd k
theorem Qe {d:Nat} {op:Op} {ty:TypeId} {pos:String} {after:Array Edge} {j:Nat} {b want:Bool} (hg:jM all e j=some (.bool b)) (hd:Nat.blt d N=true)
  (k:dA P n0 N rd all rest K ((d,undef)::e) mk U) (hb:b=!want:=by first|rfl|exact fE oA|exact bM oA|assumption|exact fE oO|exact bM oO):dA P n0 N rd all (⟨some d,op,ty,pos,after,some (j,want)⟩::rest) K e mk U:=stS hg hb hd k
theorem N7 {d:Option Nat} {op:Op} {ty:TypeId} {pos:String} {after:Array Edge} {j:Nat} {b want:Bool} (hg:jM all e j=some (.bool b)) (k:dA P n0 N rd all (⟨d,op,ty,pos,after,some (j,want)⟩::rest) K e mk U) (hb:b=want:=by first|rfl|exact fE oA|exact bM oA|assumption|exact fE oO|exact bM oO) :
  dA P n0 N rd all (⟨d,op,ty,pos,after,some (j,want)⟩::rest) K e mk U:=VO hg hb k
theorem fA {c:Operand} {x y:Code} {b:Bool} (hc:aT e c=some (.bool b)) (h:bJ P n0 N rd x Q e mk U) (hb:b=true:=by first|rfl|exact fE oA|exact bM oA|assumption|exact fE oO|exact bM oO):bJ P n0 N rd (.cond c x y) Q e mk U:=oV hc hb h
theorem fM {c:Operand} {x y:Code} {b:Bool} (hc:aT e c=some (.bool b)) (h:bJ P n0 N rd y Q e mk U) (hb:b=false:=by first|rfl|exact fE oA|exact bM oA|assumption|exact fE oO|exact bM oO):bJ P n0 N rd (.cond c x y) Q e mk U:=lg hc hb h
end
section
variable {P:Program} {rd:Option Nat} {ty:TypeId} {e:Env} {U:Heap} {a b c:Operand} {v:Value}
theorem ji {t:Bool} (hc:aT e c=some (.bool t)) (ha:aT e a=some v) (ht:t=true:=by first|rfl|exact fE oA|exact bM oA|assumption|exact fE oO|exact bM oO):bY P rd (.pick c a b) ty e U v U:=kC hc ht ha
theorem jk {t:Bool} (hc:aT e c=some (.bool t)) (hb:aT e b=some v) (ht:t=false:=by first|rfl|exact fE oA|exact bM oA|assumption|exact fE oO|exact bM oO):bY P rd (.pick c a b) ty e U v U:=je hc ht hb
end
section
variable {P:Program} {N:Nat} {rd:Option Nat} {e:Env} {σ0:Heap} {news:List (Nat×Heap)} {K:Env->List (Nat×Heap)->List Oper->Prop} {k:Nat} {all rest:List Oper} {d:Nat} {op:Op} {ty:TypeId} {pos:String} {after:Array Edge} {v:Value} {j:Nat} {b want:Bool}
theorem frA (h:bY P rd op ty e (σ0++gV (bV after) news) v (σ0++gV (bV after) news)) (hd:Nat.blt d N=true) (hk:bK P N rd all (k+1) rest ((d,v)::e) σ0 news K) (hc:closed σ0.length v=true:=by first|rfl|exact cZ rfl|exact mQ rfl|exact closed_sh3 rfl rfl rfl) :
  bK P N rd all k (⟨some d,op,ty,pos,after,none⟩::rest) e σ0 news K:=fr h hc hd hk
theorem pR (hg:jM all e j=some (.bool b)) (h:bY P rd op ty e (σ0++gV (bV after) news) v (σ0++gV (bV after) news)) (hd:Nat.blt d N=true) (hk:bK P N rd all (k+1) rest ((d,v)::e) σ0 news K)
  (hb:b=want:=by first|rfl|exact fE oA|exact bM oA|assumption|exact fE oO|exact bM oO) (hc:closed σ0.length v=true:=by first|rfl|exact cZ rfl|exact mQ rfl|exact closed_sh3 rfl rfl rfl):bK P N rd all k (⟨some d,op,ty,pos,after,some (j,want)⟩::rest) e σ0 news K:=frG hg hb h hc hd hk
theorem ac0 (hg:jM all e j=some (.bool b)) (hd:Nat.blt d N=true) (hk:bK P N rd all (k+1) rest ((d,undef)::e) σ0 news K) (hb:b=!want:=by first|rfl|exact fE oA|exact bM oA|assumption|exact fE oO|exact bM oO) :
  bK P N rd all k (⟨some d,op,ty,pos,after,some (j,want)⟩::rest) e σ0 news K:=frS hg hb hd hk
theorem ac1 {d:Option Nat} (hg:jM all e j=some (.bool b)) (h:bK P N rd all k (⟨d,op,ty,pos,after,some (j,want)⟩::rest) e σ0 news K) (hb:b=want:=by first|rfl|exact fE oA|exact bM oA|assumption|exact fE oO|exact bM oO) :
  bK P N rd all k (⟨d,op,ty,pos,after,some (j,want)⟩::rest) e σ0 news K:=frGk hg hb h
end
end Go.AH
namespace Go.AH.Chain
def ac2 (ops:List Oper) (m:Nat) (o:Oper) (j mk:Nat):Bool :=
 vC o && o.after.all (fun e=>!Region.binds .any e || Nat.blt e.on j) &&
  (match o.guard with|some (g,_)=>waits o g|none=>true) &&
  ((List.range j).all fun i=>mk.testBit i || (Nat.blt i m && (match ops[i]? with|some oi=>oi.apart ops.toArray o|none=>false))) &&
  (Nat.blt j m || (o.dst.isNone && o.guard.isNone))
def afN (all:List Oper) (m:Nat):List Oper->Nat->List Nat->Bool
 |[],_,_=>true
 |o::rest,j,acc=>Fj (ql acc o.after.toList) fun mk=>ac2 all m o j mk && afN all m rest (j+1) (acc++[mk])
def He (ops:List Oper) (m:Nat):Bool:=afN ops m ops 0 []
theorem TP {all:List Oper} {m:Nat}:∀ (rest:List Oper) (j:Nat) (acc:List Nat),rest=all.drop j->acc.length=j->j<=all.length->(∀ (k:Nat) (mk:Nat),acc[k]?=some mk->Good all k mk)->afN all m rest j acc=true ->
  ∀ (t:Nat) (o:Oper),rest[t]?=some o->∃ mk,ac2 all m o (j+t) mk=true/\Good all (j+t) mk
 |[],_,_,_,_,_,_,_,t,o,h=>by simp at h
 |x::rest,j,acc,hr,hl,hj,hacc,hc,t,o,h=>by
  have hx:all[j]?=some x:=by
   have:=congrArg (fun l:List Oper=>l[0]?) hr
   simpa using this.symm
  have c:rest=all.drop (j+1):=by
   have:=congrArg List.tail hr
   simpa using this
  have hjl:=(List.getElem?_eq_some_iff.1 hx).1
  simp only [afN,xY,aE] at hc
  have hg:=Bd hx hacc oO
  cases t with
  |zero=>simp at h;subst h;exact ⟨_,hc.1,hg⟩
  |succ t =>
   have:=TP rest (j+1) (acc++[ql acc x.after.toList]) c (by simp [hl]) oO (fun k mk hk=>by
    by_cases d:k<acc.length
    ·rw [bO d] at hk;exact hacc k mk hk
    ·rw [bE oO] at hk
     have a:k - acc.length=0:=by
      have:=(List.getElem?_eq_some_iff.1 hk).1
      simp at this;omega
     rw [a] at hk;simp at hk;subst hk
     rw [show k=j by omega];exact hg) hc.2 t o (oU h)
   rwa [show j+1+t=j+(t+1) by omega] at this
section
variable {all:List Oper} {m:Nat}
theorem TQ (h:He all m=true) {j:Nat} {o:Oper} (hj:all[j]?=some o) :
  (vC o=true/\(∀ e ∈ o.after,Region.binds .any e=true->e.on<j)/\(∀ g b,o.guard=some (g,b)->waits o g=true) /\
  ∀ i oi,i<j->all[i]?=some oi->(∀ D:Nat->Prop,Closed all D->(∀ k,waits o k=true->D k)->D i)\/(i<m/\True/\oi.apart all.toArray o=true))/\(m<=j->o.dst=none/\o.guard=none):=by
 obtain ⟨mk,this,a⟩:=TP all 0 [] rfl rfl oO (fun k mk hk=>by simp at hk) h j o hj
 rw [aR] at this a
 unfold ac2 at this
 simp only [aE] at this
 obtain ⟨⟨⟨⟨h1,h2⟩,h3⟩,h4⟩,h5⟩:=this
 refine ⟨⟨h1,fun e he hb=>?_,fun g b hg=>?_,fun i oi hi c=>?_⟩,fun hm=>?_⟩
 ·have:=Array.all_eq_true_iff_forall_mem.1 h2 e he
  simp only [hb,Bool.not_true,Bool.false_or,bX] at this;exact this
 ·rw [hg] at h3;exact h3
 ·have:=List.all_eq_true.1 h4 i (oU hi)
  simp only [c,ee,aE,bX] at this
  rcases this with h|⟨h5,h7⟩
  ·exact .inl fun D hD hw=>a D hD o hj hw i h
  ·exact .inr ⟨h5,trivial,h7⟩
 ·simp only [ee,bX,aE,Option.isNone_iff_eq_none] at h5
  rcases h5 with h5|h5
  ·omega
  ·exact h5
theorem draw_parts (h:He all m=true) {j:Nat} {o:Oper} (hj:all[j]?=some o) :
  vC o=true/\(∀ e ∈ o.after,Region.binds .any e=true->e.on<j)/\(∀ g b,o.guard=some (g,b)->waits o g=true) /\
  ∀ i oi,i<j->all[i]?=some oi->(∀ D:Nat->Prop,Closed all D->(∀ k,waits o k=true->D k)->D i)\/(i<m/\True/\oi.apart all.toArray o=true):=(TQ h hj).1
theorem waits_lt (h:He all m=true) {j i:Nat} {o:Oper} (hj:all[j]?=some o) (hw:bV o.after i=true):i<j:=by
 unfold bV at hw
 obtain ⟨e,he,hb⟩:=Array.any_eq_true'.1 hw
 simp only [aE] at hb
 rw [<- aM hb.2]
 exact (draw_parts h hj).2.1 e he hb.1
end
section
variable {P:Program} {N:Nat} {rd:Option Nat} {e0:Env} {mk:List Nat} {σ0:Heap} {all:List Oper} {ts:List Tr} {n0:Nat}
theorem dinv_sees {G:Nat->Prop} {w0:World} {ρ0 V:Rho} {L:Nat->Bool} {A:Act} {w:World} (hd:x9 n0 N G w0 ρ0 e0 mk σ0 ts L A w V) (hall:∀ (i:Nat) (hi:i<ts.length),all[i]?=some ts[i].o)
  (hchk:He all ts.length=true) {i:Nat} (hi:i<ts.length) (hLi:L i=false) (hw:∀ j,waits ts[i].o j=true->L j=true) (hdc:Closed all fun k=>L k=true)
  {t:Nat} (ht:t ∈ ts[i].o.looksAt all.toArray) {v:Value} (hv:Env.get (l7 (ts.take i) e0) t=some v):∃ v',A.tmps[t]?=some v'/\gJ (σ0.length+(eG (ts.take i)).length) V v v':=by
 have d:∀ (j:Nat) (hj:j<i),(ts[j]'oO).o.dst=some t->L j=true:=by
  intro j hj c
  rcases (draw_parts hchk (hall i hi)).2.2.2 j _ hj (hall j oO) with h|⟨_,_,h⟩
  ·exact h _ hdc hw
  ·exact absurd ht ((Oper.apart_spec h).1 t c)
 have f:∀ (j:Nat) (hj:j<ts.length),i<j->ts[j].o.dst=some t->L j=true->False:=by
  intro j hj m c n
  rcases (draw_parts hchk (hall j hj)).2.2.2 i _ m (hall i hi) with h|⟨_,_,h⟩
  ·have:=h _ hdc (hdc j _ (hall j hj) n)
   rw [hLi] at this;cases this
  ·exact absurd ht ((Oper.apart_spec h).2.2 t c)
 rcases l9 _ _ _ _ hv with ⟨j,hj,h1,h2,h3⟩|⟨h1,h2⟩
 ·have l:j<i:=by simp at hj;omega
  rw [cX] at h1 h2
  obtain ⟨v',g1,g2⟩:=hd.new j oO (d j l h1) t h1 fun k hk p a e=>by
   rcases fk k i with q|rfl|g
   ·have:=h3 k (by simp;omega) p
    rw [cX] at this;exact this e
   ·rw [hLi] at a;cases a
   ·exact f k hk g e a
  refine ⟨v',g1,?_⟩
  rw [<- h2]
  have:=qV l (eC hi)
  exact g2.mono oO fun _ _=>rfl
 ·obtain ⟨v',g1,g2⟩:=hd.old t v h1 fun k hk a e=>by
   rcases fk k i with q|rfl|g
   ·have:=h2 k (by simp;omega)
    rw [cX] at this;exact this e
   ·rw [hLi] at a;cases a
   ·exact f k hk g e a
  exact ⟨v',g1,g2.mono oO fun _ _=>rfl⟩
theorem dinv_step {G:Nat->Prop} {w0:World} {ρ0 V ρ':Rho} {L:Nat->Bool} {A:Act} {w w':World} (hd:x9 n0 N G w0 ρ0 e0 mk σ0 ts L A w V) (hall:∀ (i:Nat) (hi:i<ts.length),all[i]?=some ts[i].o)
  (hchk:He all ts.length=true) (hn0:n0<=σ0.length) (hmk:∀ i ∈ mk,i < σ0.length)
  (hns:∀ (j:Nat) (hj:j<ts.length),rM σ0.length ts[j].ns) (hnok:∀ (j:Nat) (hj:j<ts.length) (i:Nat) (hi:i<j),(∃ D:Nat->Prop,Closed all D/\D j/\¬ D i)->∀ (m:Nat) (V ρ':Rho) (v':Value),gJ m V ts[j].v v' ->
   (∀ q,q < σ0.length+(eG (ts.take i)).length\/σ0.length+(eG (ts.take i)).length+ts[i].ns.length<=q->ρ' q=V q)->gJ m ρ' ts[j].v v')
  {i:Nat} (hi:i<ts.length) (hLi:L i=false) (hdc:Closed all fun k=>L k=true) (hdst:tH N ts[i].o=true)
  {v':Value} (hag:∀ k < σ0.length+(eG (ts.take i)).length,ρ' k=V k) (hv:gJ (σ0.length+((eG (ts.take i)).length+ts[i].ns.length)) ρ' ts[i].v v')
  (hs':Sim (oth G V σ0 ts L (bV ts[i].o.after)) w ρ' (σ0++maskN (ts.take i) 0 (bV ts[i].o.after)++ts[i].ns) w') :
  x9 n0 N G w0 ρ0 e0 mk σ0 ts (jW L i) (A.put ts[i].o.dst v') w' (rH V ρ' (σ0.length+(eG (ts.take i)).length) ts[i].ns.length):=by
 have a:∀ k < σ0.length+(eG (ts.take i)).length,rH V ρ' (σ0.length+(eG (ts.take i)).length) ts[i].ns.length k=V k:=fun k hk=>by simp only [rH];rw [if_neg oO]
 have c:∀ k < σ0.length+((eG (ts.take i)).length+ts[i].ns.length),rH V ρ' (σ0.length+(eG (ts.take i)).length) ts[i].ns.length k=ρ' k:=fun k hk=>by
  simp only [rH];split
  ·rfl
  ·rw [hag k oO]
 have l:∀ k,σ0.length+(eG (ts.take i)).length+ts[i].ns.length<=k->rH V ρ' (σ0.length+(eG (ts.take i)).length) ts[i].ns.length k=V k:=fun k hk=>by simp only [rH];rw [if_neg oO]
 have g:∀ t u,A.tmps[t]?=some u->ts[i].o.dst ≠ some t->(A.put ts[i].o.dst v').tmps[t]?=some u:=by
  intro t u hu s
  cases hdd:ts[i].o.dst with
  |none=>simpa [Act.put] using hu
  |some d =>
   simp only [Act.put]
   rw [e8 (fun F=>s (by rw [hdd,F]))];exact hu
 refine ⟨fun k hk=>(a k oO).trans (hd.ag k hk),JA hi hLi (fun j hj=>waits_lt hchk (hall i hi) hj) hd.sim hns hag hs',?_,?_,fun t v ht f=>?_,fun k hk x t p f=>?_⟩
 ·cases hdd:ts[i].o.dst <;> simp [Act.put,hd.sz]
 ·have:(A.put ts[i].o.dst v').defers=A.defers:=by cases ts[i].o.dst <;> rfl
  rw [this,hd.mks]
  congr 1
  exact eI fun k hk=>by rw [a k (by have:=hmk k hk;omega)]
 ·obtain ⟨u,g1,g2⟩:=hd.old t v ht fun k hk x=>f k hk (by simp only [jW];split <;> simp [x])
  exact ⟨u,g t u g1 (f i hi (by simp [jW])),g2.mono (aD _) fun k hk=>a k oO⟩
 ·by_cases r:k=i
  ·subst r
   refine ⟨v',?_,hv.mono oO c⟩
   simp only [p,tH,bX] at hdst
   simp only [p,Act.put]
   rw [fp (by rw [hd.sz];exact hdst)]
  ·have e:L k=true:=by simpa [jW,r] using x
   have s:ts[i].o.dst ≠ some t:=by
    intro z
    rcases fi r with y|n
    ·exact f i hi y (by simp [jW]) z
    ·rcases (draw_parts hchk (hall k hk)).2.2.2 i _ n (hall i hi) with h|⟨_,_,h⟩
     ·have:=h _ hdc (hdc k _ (hall k hk) e)
      rw [hLi] at this;cases this
     ·exact (Oper.apart_spec h).2.1 t z p
   obtain ⟨u,g1,g2⟩:=hd.new k hk e t p fun j hj E C=>f j hj E (by simp only [jW];split <;> simp [C])
   refine ⟨u,g t u g1 s,?_⟩
   rcases fi r with y|n
   ·have:=qV y (eC hi)
    exact g2.mono (aD _) fun j hj=>a j oO
   ·have:=qV n (eC hk)
    exact hnok k hk i n ⟨fun q=>L q=true,hdc,e,by simp [hLi]⟩ _ _ _ _ g2 fun j hj=>by
     rcases hj with hj|hj
     ·exact a j hj
     ·exact l j hj
theorem TR:∀ {ts ts':List Tr},ts.map (·.ns.length)=ts'.map (·.ns.length)->(eG ts).length=(eG ts').length:=by
 intro ts ts' h
 have e:∀ l:List Tr,(eG l).length=(l.map (·.ns.length)).sum:=by
  intro l
  induction l with
  |nil=>rfl
  |cons t l ih =>
   simp only [eG,cG,ej,bA,List.sum_cons] at ih ⊢
   omega
 rw [e,e,h]
theorem FT {ts ts':List Tr} (h:ts.map (·.ns.length)=ts'.map (·.ns.length)) (j:Nat):(eG (ts.take j)).length=(eG (ts'.take j)).length :=
 TR (by rw [List.map_take,List.map_take,h])
theorem Kq:∀ {ts ts':List Tr} {e:Env},ts.map (fun t=>(t.o.dst,t.v))=ts'.map (fun t=>(t.o.dst,t.v))->l7 ts e=l7 ts' e
 |[],[],_,_=>rfl
 |[],_::_,_,h=>by simp at h
 |_::_,[],_,h=>by simp at h
 |t::ts,t'::ts',e,h=>by
  simp only [cG,List.cons.injEq,Prod.mk.injEq] at h
  simp only [l7,h.1.1,h.1.2]
  exact Kq h.2
theorem TS:∀ {ts ts':List Tr} {k:Nat} {L:Nat->Bool},ts.length=ts'.length->(∀ (j:Nat) (h:j<ts.length) (h':j<ts'.length),(L (k+j)=true->ts[j].ns=ts'[j].ns)/\ts[j].ns.length=ts'[j].ns.length)->maskN ts k L=maskN ts' k L
 |[],[],_,_,_,_=>rfl
 |[],_::_,_,_,h,_=>by simp at h
 |_::_,[],_,_,h,_=>by simp at h
 |t::ts,t'::ts',k,L,h,hp=>by
  have h0:=hp 0 oS oS
  simp only [cV,dz] at h0
  have h1:=TS (ts:=ts) (ts':=ts') (k:=k+1) (L:=L) (oU h) fun j hj a=>by
   have:=hp (j+1) (oU hj) (oU a)
   simpa [cF,eW 1 j] using this
  simp only [maskN,h1]
  cases hL:L k with
  |true=>rw [if_pos rfl,if_pos rfl,h0.1 hL]
  |false =>
   have e:hide t.ns=hide t'.ns:=by
    apply List.ext_getElem
    ·simp [wL,h0.2]
    ·intro i g1 g2;simp [hide]
   simp [e]
theorem aas {G:Nat->Prop} {w0 w w':World} {V ρ':Rho} {ts':List Tr} {L W:Nat->Bool} (hlt:ts'.length=ts.length) (hln:ts.map (·.ns.length)=ts'.map (·.ns.length))
  (heq:∀ (j:Nat) (h:j<ts.length) (h':j<ts'.length),W j=false->ts'[j].ns=ts[j].ns)
  (hs:Sim G w0 V (σ0++maskN ts 0 L) w) (hns:∀ (j:Nat) (hj:j<ts.length),rM σ0.length ts[j].ns) (hns':∀ (j:Nat) (hj:j<ts'.length),rM σ0.length ts'[j].ns)
  (hag:∀ k < σ0.length+(eG ts).length,ρ' k=V k) (hs':Sim (oth G V σ0 ts L W) w ρ' (σ0++maskN ts' 0 W) w'):Sim G w0 V (σ0++maskN ts' 0 L) w':=by
 have M:=TR hln
 have z:(σ0++maskN ts' 0 W).length=σ0.length+(eG ts).length:=by simp [fC,M]
 have J:(σ0++maskN ts' 0 L).length=σ0.length+(eG ts).length:=by simp [fC,M]
 have hnn0:(σ0++maskN ts 0 L).length=σ0.length+(eG ts).length:=by simp [fC]
 have I:∀ (id:Nat) (x:aC),(σ0++maskN ts' 0 L)[id]?=some x->x.owned\/(∃ cs,x=.ro cs/\cs ≠ []) ->
   ((σ0++maskN ts' 0 W)[id]?=some x/\(id < σ0.length\/∃ cs,x=aC.rw cs)) \/
   (∃ (j:Nat) (hj:j<ts.length) (q:Nat),L j=true/\W j=false/\ts[j].ns[q]?=some x/\id=σ0.length+((eG (ts.take j)).length+q)):=by
  intro id x hx c
  by_cases a:id < σ0.length
  ·left
   rw [iL a] at hx
   exact ⟨by rw [iL a];exact hx,.inl a⟩
  ·rw [bE oO] at hx
   obtain ⟨j,hj,q,h1,h2,h3⟩:=uP ts' 0 L _ x hx
   rcases h3 with ⟨g,d⟩|⟨_,rfl⟩
   ·simp only [aR] at g
    have S:∃ cs,x=aC.rw cs:=let ⟨cs,h,_⟩:=hns' j hj x (eh d);⟨cs,h⟩
    cases i:W j with
    |false =>
     right
     have e:=heq j oO hj i
     rw [e] at d
     exact ⟨j,oO,q,g,i,d,by rw [FT hln j];omega⟩
    |true =>
     left
     have hm:=qC ts' 0 W j hj q x (oU i) d
     have Q:id=σ0.length+((eG (ts'.take j)).length+q):=oO
     exact ⟨by rw [Q,oC];exact hm,.inr S⟩
   ·rcases c with c|⟨cs,hcs,_⟩
    ·exact c.elim
    ·cases hcs
 have f:∀ (j:Nat) (hj:j<ts.length) (q:Nat) (x:aC),L j=true->ts[j].ns[q]?=some x->(σ0++maskN ts 0 L)[σ0.length+((eG (ts.take j)).length+q)]?=some x:=by
  intro j hj q x g d
  rw [oC];exact qC ts 0 L j hj q x (oU g) d
 refine ⟨hs'.os.trans hs.os,hs'.tape.trans hs.tape,hs'.output.trans hs.output,eg hs.size hs'.size,fun bb hb=>?_,fun id x hx=>?_,fun p q op oq hp hq u r m=>?_⟩
 ·obtain ⟨h1,h2⟩:=hs.fgn bb hb
  exact ⟨h1,((hs'.fgn bb (.inl hb)).2).trans h2⟩
 ·rw [J]
  have l:=aS hx
  rw [J] at l
  by_cases E:∃ qs sp,x=.deep qs sp
  ·obtain ⟨qs,sp,rfl⟩:=E
   have a:id < σ0.length:=by
    apply Classical.byContradiction
    intro hlt
    rw [bE oO] at hx
    obtain ⟨j,hj,q,h1,h2,h3⟩:=uP ts' 0 L _ _ hx
    rcases h3 with ⟨_,d⟩|⟨_,he⟩
    ·obtain ⟨cs,he,_⟩:=hns' j hj _ (eh d);cases he
    ·cases he
   rw [iL a] at hx
   have h0:(σ0++maskN ts 0 L)[id]?=some (.deep qs sp):=by rw [iL a];exact hx
   have h1:(σ0++maskN ts' 0 W)[id]?=some (.deep qs sp):=by rw [iL a];exact hx
   have hr:=hs.obj id _ h0
   have O:=hs'.obj id _ h1
   rw [z,hag id l] at O
   have s:∀ b,G b->∀ y,w.heap[b]?=some y->w'.heap[b]?=some y:=fun b hb y hy=>by rw [(hs'.fgn b (.inl hb)).2];exact hy
   refine ⟨fun hq=>?_,fun y hy=>?_⟩
   ·obtain ⟨g1,g2⟩:=hr.1 hq
    refine ⟨g1,fun k hk=>?_⟩
    obtain ⟨v',g3,g4⟩:=g2 k hk
    exact ⟨v',lX g3 (s _ g1),qy g4 (fun _ h=>h) s⟩
   ·obtain ⟨g1,_⟩:=hr.2 y hy
    obtain ⟨_,v',g3,g4⟩:=O.2 y hy
    exact ⟨g1,v',g3,g4.mono (aD _) (fun k hk=>(hag k hk).symm)⟩
  by_cases c:x.owned\/(∃ cs,x=.ro cs/\cs ≠ [])
  ·rcases I id x hx c with ⟨h1,h3⟩|⟨j,hj,q,g,i,d,rfl⟩
   ·have hr:=hs'.obj id x h1
    rw [z] at hr
    rw [hag id l] at hr
    have hc:fV (σ0.length+(eG ts).length) x:=jg hr
    refine nP (vG (G':=G) hr hc ?_ ?_ (.inr fun qs sp he=>E ⟨qs,sp,he⟩)) (aD _) (fun k hk=>(hag k hk).symm) (fun _ h=>h) (fun _ _ _ _ h=>h) (fun _ _ _ h=>h)
    ·intro hg
     rcases hg with hg|⟨j,hj,q,y,g,i,hy,K,P⟩
     ·exact hg
     ·exfalso
      rcases c with c|⟨cs,rfl,hcs⟩
      ·exact (fH hr c).2 (.inr ⟨j,hj,q,y,g,i,hy,K,P⟩)
      ·have a:id < σ0.length:=by
        rcases h3 with h3|⟨cs',he⟩
        ·exact h3
        ·cases he
       have h0:(σ0++maskN ts 0 L)[id]?=some (.ro cs):=by rw [iL a] at h1 ⊢;exact h1
       obtain ⟨hg,_⟩:=hs.obj id _ h0 hcs
       have C:=fH (hs.obj _ y (f j hj q y g hy)) K
       rw [P] at C
       exact C.2 hg
    ·intro ho hg;exact (fH hr ho).2 (.inl hg)
   ·have g1:=f j hj q x g d
    obtain ⟨cs,rfl,R,T⟩:=hns j hj x (eh d)
    have hr:=hs.obj _ _ g1
    refine nP (vG (n:=σ0.length) (G':=G) hr ⟨R,T⟩ (fun h=>h) (fun ho=>(fH hr ho).2) (.inl fun _ h=>h)) oO (fun _ _=>rfl) ?_ (fun _ _ h=>by cases h) (fun b hb y hy=>by rw [(hs'.fgn b (.inl hb)).2];exact hy)
    intro y hy
    have ho:(aC.rw cs).owned:=by
     rcases c with c|⟨_,hcs,_⟩
     ·exact c
     ·cases hcs
    rw [(hs'.fgn _ (.inr ⟨j,hj,q,_,g,i,d,ho,rfl⟩)).2];exact hy
  ·cases x with
   |dead=>trivial
   |ro cs=>intro hc;exact absurd (.inr ⟨cs,rfl,hc⟩) c
   |rw cs=>intro hc;exact absurd (.inl hc) c
   |gr cs t=>intro hc;exact absurd (.inl hc) c
   |deep qs sp=>exact absurd ⟨qs,sp,rfl⟩ E
   |_=>exact absurd (.inl trivial) c
 ·have H:=aS hp
  have D:=aS hq
  rw [J] at H D
  rcases I p op hp (.inl u) with ⟨h1,_⟩|⟨j,hj,k,g,i,d,rfl⟩ <;> rcases I q oq hq (.inl r) with ⟨g1,_⟩|⟨j',N,k',o,F,v,rfl⟩
  ·rw [<- hag p H,<- hag q D] at m
   exact hs'.inj p q op oq h1 g1 u r m
  ·rw [<- hag p H] at m
   exact absurd (.inr ⟨j',N,k',oq,o,F,v,r,m.symm⟩) (fH (hs'.obj p op h1) u).2
  ·rw [<- hag q D] at m
   exact absurd (.inr ⟨j,hj,k,op,g,i,d,u,m⟩) (fH (hs'.obj q oq g1) r).2
  ·exact hs.inj _ _ op oq (f j hj k op g d) (f j' N k' oq o v) u r m
def jV (ts:List Tr) (j:Nat) (h:Heap):List Tr:=ts.modify j fun t=>{ t with ns:=h }
theorem jT (ts:List Tr) (j:Nat) (h:Heap):(jV ts j h).length=ts.length:=by simp [jV]
theorem qJ {ts:List Tr} {j:Nat} {h:Heap} {i:Nat} (hi:i<(jV ts j h).length) (hi':i<ts.length):(jV ts j h)[i]=if j=i then { ts[i] with ns:=h } else ts[i]:=by
 simp only [jV,List.getElem_modify]
theorem FU {α:Type} (f:Tr->α) {ts:List Tr} {j:Nat} {h:Heap} (hf:∀ (hj:j<ts.length),f { ts[j] with ns:=h }=f ts[j]):(jV ts j h).map f=ts.map f:=by
 apply List.ext_getElem
 ·simp [jT]
 ·intro i h1 h2
  have hi:i<ts.length:=by simpa using h2
  rw [cQ,cQ,qJ (oU h1) hi]
  split
  ·rename_i e;subst e;exact hf hi
  ·rfl
def Qg (P:Program) (rd:Option Nat) (all:List Oper) (e:Env) (σ0:Heap) (m:Nat) (K:List Tr->Prop):List Oper->List Tr->Prop
 |[],ts=>K ts
 |o::rest,ts=>∃ (j:Nat) (h:Heap) (v:Value),bV o.after j=true/\(∀ (i:Nat) (oi:Oper),i<m->all[i]?=some oi->waits oi j=true->bV o.after i=true)/\(∀ hj:j<ts.length,h.length=ts[j].ns.length)/\rM σ0.length h /\
   bY P rd o.op o.type e (σ0++maskN ts 0 (bV o.after)) v (σ0++maskN (jV ts j h) 0 (bV o.after))/\Qg P rd all e σ0 m K rest (jV ts j h)
structure FOk (P:Program) (N:Nat) (rd:Option Nat) (all:List Oper) (e0:Env) (σ0:Heap) (ts:List Tr) (L:Nat->Bool):Prop where
 all':∀ (i:Nat) (hi:i<ts.length),all[i]?=some ts[i].o
 dst:∀ (i:Nat) (hi:i<ts.length),tH N ts[i].o=true
 want:∀ (i:Nat) (hi:i<ts.length),jX all (l7 (ts.take i) e0) ts[i].o=some ts[i].run
 off:∀ (i:Nat) (hi:i<ts.length),ts[i].run=false->ts[i].v=undef/\(L i=false->ts[i].ns=[])
 new:∀ (i:Nat) (hi:i<ts.length),rM σ0.length ts[i].ns
 nok:∀ (j:Nat) (hj:j<ts.length) (i:Nat) (hi:i<j),(∃ D:Nat->Prop,Closed all D/\D j/\¬ D i)->∀ (m:Nat) (V ρ':Rho) (v':Value),gJ m V ts[j].v v' ->
   (∀ q,q < σ0.length+(eG (ts.take i)).length\/σ0.length+(eG (ts.take i)).length+ts[i].ns.length<=q->ρ' q=V q)->gJ m ρ' ts[j].v v'
 run:∀ (i:Nat) (hi:i<ts.length),L i=false->ts[i].run=true->bY P rd ts[i].o.op ts[i].o.type (l7 (ts.take i) e0) (σ0++maskN (ts.take i) 0 (bV ts[i].o.after)) ts[i].v (σ0++maskN (ts.take i) 0 (bV ts[i].o.after)++ts[i].ns)
theorem FOk.start (htr:VF P N rd all 0 ts e0 σ0 []) (hall:∀ (i:Nat) (hi:i<ts.length),all[i]?=some ts[i].o) (L:Nat->Bool):FOk P N rd all e0 σ0 ts L:=by
 have a:=fun (j:Nat) (hj:j<ts.length)=>Jy ts e0 htr j hj
 refine ⟨hall,fun i hi=>(a i hi).1,fun i hi=>(a i hi).2.1,fun i hi h=>⟨((a i hi).2.2.2.1 h).1,fun _=>((a i hi).2.2.2.1 h).2⟩,fun i hi=>(a i hi).2.2.2.2.1,fun j hj i hij hD m V ρ' v' hv hq=>?_,fun i hi _ h=>(a i hi).2.2.1 h⟩
 by_cases d:ts[i].ns=[]
 ·exact hv.mono (aD _) fun q _=>hq q (by rw [d];simp;omega)
 ·have c:((ts.take j)[i]'(by simp;omega)).ns ≠ []:=by simpa using d
  obtain ⟨n1,n2,e1,e2⟩:=qU (ts.take j) 0 [] i (by simp;omega) c
  rw [aR] at e1
  have e3:iI n1=eG (ts.take i):=by
   rw [e2,eA,fo oO];simp [iI]
  refine (a j hj).2.2.2.2.2 n1 i _ n2 e1 hD m V ρ' v' hv fun q e=>hq q ?_
  rw [e3] at e
  simpa using e
theorem FOk.mono {L L':Nat->Bool} (h:FOk P N rd all e0 σ0 ts L) (hL:∀ i<ts.length,L i=true->L' i=true):FOk P N rd all e0 σ0 ts L':=by
 have hf:∀ i<ts.length,L' i=false->L i=false:=fun i hi hh=>by
  cases hc:L i with
  |false=>rfl
  |true=>rw [hL i hi hc] at hh;cases hh
 exact ⟨h.all',h.dst,h.want,fun i hi hr=>⟨(h.off i hi hr).1,fun hl=>(h.off i hi hr).2 (hf i hi hl)⟩,h.new,h.nok,fun i hi hl hr=>h.run i hi (hf i hi hl) hr⟩
theorem CZ {j:Nat} {h:Heap} (hl:∀ hj:j<ts.length,h.length=ts[j].ns.length):ts.map (·.ns.length)=(jV ts j h).map (·.ns.length):=(FU _ (fun hj=>by simpa using hl hj)).symm
theorem WI (j i:Nat) (h:Heap):(jV ts j h).take i=jV (ts.take i) j h:=by
 apply List.ext_getElem
 ·simp [jT]
 ·intro q h1 h2
  have hq:q<ts.length:=by simp [jT] at h1;omega
  have a:q<(ts.take i).length:=by simpa [jT] using h2
  rw [cX,qJ (by rw [jT];exact hq) hq,qJ h2 a]
  simp only [cX]
theorem FOk.set {L:Nat->Bool} {j:Nat} {h:Heap} (hf:FOk P N rd all e0 σ0 ts L) (hj:j<ts.length->L j=true) (hw:∀ (i:Nat) (hi:i<ts.length),waits ts[i].o j=true->L i=true) (hl:∀ hj:j<ts.length,h.length=ts[j].ns.length) (hn:rM σ0.length h):FOk P N rd all e0 σ0 (jV ts j h) L:=by
 have f:=jT ts j h
 have get:∀ (i:Nat) (hi:i<(jV ts j h).length) (n:i<ts.length),(jV ts j h)[i].o=ts[i].o/\(jV ts j h)[i].v=ts[i].v/\(jV ts j h)[i].run=ts[i].run/\(i ≠ j->(jV ts j h)[i].ns=ts[i].ns):=by
  intro i hi n
  rw [qJ hi n]
  split
  ·rename_i e;exact ⟨rfl,rfl,rfl,fun s=>absurd e.symm s⟩
  ·exact ⟨rfl,rfl,rfl,fun _=>rfl⟩
 have d:∀ i,l7 ((jV ts j h).take i) e0=l7 (ts.take i) e0:=fun i=>by
  rw [WI];exact Kq (FU _ (fun _=>rfl))
 have a:=CZ (ts:=ts) hl
 refine ⟨fun i hi=>?_,fun i hi=>?_,fun i hi=>?_,fun i hi hr=>?_,fun i hi=>?_,fun q hq i hi hD m V ρ' v' hv hr=>?_,fun i hi hL hr=>?_⟩
 ·rw [(get i hi oO).1];exact hf.all' i oO
 ·rw [(get i hi oO).1];exact hf.dst i oO
 ·rw [(get i hi oO).1,(get i hi oO).2.2.1,d];exact hf.want i oO
 ·rw [(get i hi oO).2.2.1] at hr
  rw [(get i hi oO).2.1]
  refine ⟨(hf.off i oO hr).1,fun hL=>?_⟩
  by_cases c:i=j
  ·subst c;rw [hj oO] at hL;cases hL
  ·rw [(get i hi oO).2.2.2 c];exact (hf.off i oO hr).2 hL
 ·by_cases c:i=j
  ·subst c
   rw [qJ hi oO,if_pos rfl];exact hn
  ·rw [(get i hi oO).2.2.2 c];exact hf.new i oO
 ·rw [(get q hq oO).2.1] at hv ⊢
  refine hf.nok q oO i hi hD m V ρ' v' hv fun k hk=>hr k ?_
  rw [<- FT a i]
  have e:(jV ts j h)[i].ns.length=ts[i].ns.length:=by
   have:=congrArg (fun l:List Nat=>l[i]?) a
   simp only [cJ] at this
   rw [cA (show i<ts.length by omega),cA (show i<(jV ts j h).length by omega)] at this
   simpa using this.symm
  rw [e];exact hk
 ·have c:i ≠ j:=fun e=>by subst e;rw [hj oO] at hL;cases hL
  obtain ⟨g1,g2,g3,g4⟩:=get i hi oO
  rw [g3] at hr
  have r:waits ts[i].o j=false:=by
   cases hc:waits ts[i].o j with
   |false=>rfl
   |true=>rw [hw i oO hc] at hL;cases hL
  have em:maskN ((jV ts j h).take i) 0 (bV ts[i].o.after)=maskN (ts.take i) 0 (bV ts[i].o.after):=by
   refine TS (by simp [f]) fun q h1 h2=>?_
   have hq:q<ts.length:=by simp at h2;omega
   have p:q<(jV ts j h).length:=oO
   simp only [cX,aR]
   by_cases g:q=j
   ·subst g
    refine ⟨fun hc=>?_,?_⟩
    ·unfold waits at r;rw [r] at hc;cases hc
    ·rw [qJ p hq,if_pos rfl];exact hl hq
   ·rw [(get q p hq).2.2.2 g];exact ⟨fun _=>rfl,rfl⟩
  rw [g1,g2,g4 c,d,em]
  exact hf.run i oO hL hr
theorem ac3 {G:Nat->Prop} {w0 w w':World} {ρ0 V:Rho} {L:Nat->Bool} {A:Act} {j:Nat} {h:Heap} (hd:x9 n0 N G w0 ρ0 e0 mk σ0 ts L A w V) (hl:∀ hj:j<ts.length,h.length=ts[j].ns.length) (hs:Sim G w0 V (σ0++maskN (jV ts j h) 0 L) w') :
  x9 n0 N G w0 ρ0 e0 mk σ0 (jV ts j h) L A w' V:=by
 have hlen:=jT ts j h
 have c:=CZ (ts:=ts) hl
 have a:∀ (i:Nat) (hi:i<(jV ts j h).length) (f:i<ts.length),(jV ts j h)[i].o=ts[i].o/\(jV ts j h)[i].v=ts[i].v:=by
  intro i hi f
  rw [qJ hi f]
  split <;> exact ⟨rfl,rfl⟩
 refine ⟨hd.ag,hs,hd.sz,hd.mks,fun t v ht d=>hd.old t v ht fun k hk hL=>?_,fun k hk hL t ht d=>?_⟩
 ·rw [<- (a k oO hk).1];exact d k oO hL
 ·rw [(a k hk oO).1] at ht
  obtain ⟨v',g1,g2⟩:=hd.new k oO hL t ht fun q hq m g=>by
   rw [<- (a q oO hq).1];exact d q oO m g
  refine ⟨v',g1,?_⟩
  rw [(a k hk oO).2,<- FT c k]
  have e:(jV ts j h)[k].ns.length=ts[k].ns.length:=by
   have:=congrArg (fun l:List Nat=>l[k]?) c
   simp only [cJ] at this
   rw [cA (show k<ts.length by omega),cA hk] at this
   simpa using this.symm
  rw [e];exact g2
theorem aat {G:Nat->Prop} {w0:World} {ρ0:Rho} {Q':Exit->Act->World->Prop} {m:Nat} {K:List Tr->Prop} (hrd:lJ rd n0=true) (hchk:He all m=true) (hn0:n0<=σ0.length) (hmk:∀ i ∈ mk,i < σ0.length)
  (hcl:∀ (i:Nat) (o:aC),σ0[i]?=some o->fV σ0.length o) (eF:Env)
  (hfin:∀ (ts:List Tr) A w V,K ts->ts.length=m->l7 ts e0=eF->x9 n0 N G w0 ρ0 e0 mk σ0 ts (fun _=>true) A w V->Q' .normal A w) :
  ∀ (fuel:Nat) (tl:List Oper) (ts:List Tr) (listed:Array Bool) (A:Act) (w:World) (V:Rho),ts.length=m->l7 ts e0=eF->m+tl.length<=all.length->tl=all.drop (all.length - tl.length)->listed.size=all.length ->
   (∀ i,m<=i->i<all.length->listed.getD i false=decide (i<all.length - tl.length))->cnt all.length listed=fuel->Closed all (fun k=>listed.getD k false=true)->FOk P N rd all e0 σ0 ts (fun k=>listed.getD k false) ->
   Qg P rd all eF σ0 m K tl ts->x9 n0 N G w0 ρ0 e0 mk σ0 ts (fun i=>listed.getD i false) A w V->wpAnyIn (fen ρ0 rd) 0 P .any all.toArray Q' fuel listed A w:=by
 intro fuel
 induction fuel with
 |zero =>
  intro tl ts listed A w V M R F I S d C H hF Y hd
  have a3:∀ i<all.length,listed.getD i false=true:=by
   intro i hi
   unfold cnt at C
   have:=(List.countP_eq_zero.1 C) i (oU hi)
   simp only [eL,Bool.not_eq_false] at this
   rw [getD_lt oO false true];exact this
  cases tl with
  |cons o rest =>
   exfalso
   simp only [dE] at F d
   have h1:=d (all.length - (rest.length+1)) oO oO
   rw [a3 _ oO] at h1
   simp at h1
  |nil =>
   refine ⟨List.eq_nil_iff_forall_not_mem.2 fun i hi=>?_,hfin ts A w V Y M R (iZ (fun k hk=>?_) hd)⟩
   ·obtain ⟨h1,o,ho,_⟩:=mem_ready.1 hi
    rw [bR] at ho
    have Q:=(List.getElem?_eq_some_iff.1 ho).1
    rw [getD_lt oO true false,a3 i Q] at h1;cases h1
   ·simp only [dx] at F
    exact a3 k oO
 |succ fuel ih =>
  intro tl ts listed A w V M R F I S d C H hF Y hd
  have z:He all ts.length=true:=by rw [M];exact hchk
  refine ⟨fun hr=>?_,fun i hr=>?_⟩
  ·exfalso
   have ah:∃ i,i<all.length/\listed.getD i false=false:=by
    apply Classical.byContradiction
    intro hn
    have:cnt all.length listed=0:=by
     unfold cnt
     rw [List.countP_eq_zero]
     intro i hi
     have a8:i<all.length:=by simpa using hi
     have hl:listed.getD i false=true:=by
      cases hc:listed.getD i false with
      |true=>rfl
      |false=>exact absurd ⟨i,a8,hc⟩ hn
     rw [getD_lt oO true false,hl];simp
    omega
   have L:∃ i,(i<all.length/\listed.getD i false=false)/\∀ k<i,listed.getD k false=true:=by
    obtain ⟨i,hi⟩:=ah
    induction i using Nat.strongRecOn with
    |_ i ih2 =>
     by_cases s:∃ k,k<i/\listed.getD k false=false
     ·obtain ⟨k,hk,am⟩:=s;exact ih2 k hk ⟨oO,am⟩
     ·refine ⟨i,hi,fun k hk=>?_⟩
      cases hc:listed.getD k false with
      |true=>rfl
      |false=>exact absurd ⟨k,hk,hc⟩ s
   obtain ⟨i,⟨hi,Vv⟩,s⟩:=L
   have ho:all[i]?=some all[i]:=cA hi
   have:i ∈ Region.ready .any all.toArray listed:=mem_ready.2 ⟨by rw [getD_lt oO true false];exact Vv,all[i],by rw [bR];exact ho,
    fun e he hb=>s _ ((draw_parts hchk ho).2.1 e he hb)⟩
   rw [hr] at this;cases this
  ·obtain ⟨Vv,o,ho,_⟩:=mem_ready.1 hr
   rw [bR] at ho
   have Q:i<all.length:=(List.getElem?_eq_some_iff.1 ho).1
   have r:listed.getD i false=false:=by rw [getD_lt oO false true];exact Vv
   have p:Closed all (fun k=>(listed.setIfInBounds i true).getD k false=true):=by
    intro j o' hj J k hk
    show (listed.setIfInBounds i true).getD k false=true
    have J:(listed.setIfInBounds i true).getD j false=true:=J
    rw [iD oO] at J ⊢
    split
    ·rfl
    ·split at J
     ·rename_i ak;subst ak
      rw [ho] at hj;cases hj
      exact iM hr ho hk
     ·exact H j o' hj J k hk
   rcases eV i m with D|D
   ·have E:i<ts.length:=oO
    have af:o=ts[i].o:=by have:=hF.all' i E;rw [ho] at this;exact Option.some.inj this
    subst af
    have hw:∀ j,waits ts[i].o j=true->listed.getD j false=true:=fun j hj=>iM hr ho hj
    have n:=fun {t:Nat} (ht:t ∈ ts[i].o.looksAt all.toArray) {v:Value} (hv:Env.get (l7 (ts.take i) e0) t=some v) =>
     dinv_sees hd hF.all' z E r hw H ht hv
    have y:Region.wanted ts[i].o (yielded all.toArray A.tmps)=ts[i].run:=by
     refine zW (hF.want i E) fun g want hg t ht v hv=>?_
     obtain ⟨v',g1,g2⟩:=n (t:=t) (by
      unfold Oper.looksAt
      rw [hg]
      refine List.mem_append_right _ ?_
      simp only [bR]
      rw [ht];simp) hv
     exact ⟨_,_,v',g1,g2⟩
    have a:=DV (i:=i) (W:=bV ts[i].o.after) hd.sim hcl hF.new hw
    have after:∀ (ρ':Rho) (v':Value) (w':World),(∀ k < σ0.length+(eG (ts.take i)).length,ρ' k=V k)->gJ (σ0.length+((eG (ts.take i)).length+ts[i].ns.length)) ρ' ts[i].v v' ->
      Sim (oth G V σ0 ts (fun i=>listed.getD i false) (bV ts[i].o.after)) w ρ' (σ0++maskN (ts.take i) 0 (bV ts[i].o.after)++ts[i].ns) w' ->
      wpAnyIn (fen ρ0 rd) 0 P .any all.toArray Q' fuel (listed.setIfInBounds i true) (A.put ts[i].o.dst v') w':=by
     intro ρ' v' w' ha hv T
     have ap:=dinv_step hd hF.all' z hn0 hmk hF.new hF.nok E r H (hF.dst i E) ha hv T
     refine ih tl ts _ _ _ _ M R F I (oU S) (fun k hk a1=>?_) ?_ p (hF.mono fun k hk hL=>?_) Y (iZ (fun k hk=>?_) ap)
     ·rw [iD oO,if_neg oO];exact d k hk a1
     ·have:=qW Q S Vv;omega
     ·show (listed.setIfInBounds i true).getD k false=true
      rw [iD oO];split
      ·rfl
      ·exact hL
     ·simp only [jW];rw [iD oO]
    unfold wpOpIn
    simp only [bR,ho]
    cases hrun:ts[i].run with
    |true =>
     rw [if_pos (by rw [y,hrun])]
     have ar:=hF.run i E r hrun
     rw [<- lW (rd:=rd) (ρ':=V) (V:=ρ0) fun l hl=>hd.ag l (lQ hrd l hl)]
     refine ar ts[i].o rfl rfl (oth G V σ0 ts (fun i=>listed.getD i false) (bV ts[i].o.after)) w V A w (fun l hl=>by have:=lQ hrd l hl;simp;omega) a (fun x hx u hu=>?_) _ _ ?_
     ·cases x with
      |tmp t =>
       obtain ⟨v',g1,g2⟩:=n (t:=t) (fI _ (List.mem_filterMap.2 ⟨.tmp t,by simpa using hx,rfl⟩)) hu
       rw [bA,fC]
       simpa [Act.eval,g1] using g2
      |const c =>
       simp only [aT] at hu
       cases hp:plain c <;> simp [hp] at hu
       subst hu;exact bF c hp
      |func f=>simp only [aT,Option.some.injEq] at hu;subst hu;exact .func f #[] #[] #[] #[] rfl rfl (fun i h=>by simp at h) (fun i h=>by simp at h)
      |global g=>simp [aT] at hu
     ·intro ρ' v' w' hv F ha T
      rw [lW (rd:=rd) (ρ':=V) (V:=ρ0) fun l hl=>hd.ag l (lQ hrd l hl)]
      refine after ρ' v' w' (fun k hk=>ha k (by rw [bA,fC];exact hk)) ?_ T
      rw [bA,bA,fC,cF] at hv;exact hv
    |false =>
     rw [if_neg (by rw [y,hrun];simp)]
     obtain ⟨g1,g2⟩:=hF.off i E hrun
     have g2:=g2 r
     refine ⟨fun f _=>lV _ _ _,?_⟩
     have:=after V undef w (fun _ _=>rfl) (by rw [g1];exact bF _ rfl) (by rw [g2];simpa using a)
     exact this
   ·
    have hq:all.length - tl.length<=i:=by
     have:=d i D Q
     rw [r] at this
     have:=of_decide_eq_false this.symm
     omega
    cases tl with
    |nil=>simp only [dx] at hq;omega
    |cons o1 rest =>
     simp only [dE] at F d hq I
     have a7:all[all.length - (rest.length+1)]?=some o1:=by
      have:=congrArg (fun l:List Oper=>l[0]?) I
      simpa using this.symm
     have Uq:rest=all.drop (all.length - rest.length):=by
      have:=congrArg List.tail I
      simp only [List.tail_cons,List.tail_drop] at this
      rw [show all.length - rest.length=all.length - (rest.length+1)+1 by omega];exact this
     have aj:i=all.length - (rest.length+1):=by
      apply Classical.byContradiction;intro hne
      rcases (draw_parts hchk ho).2.2.2 (all.length - (rest.length+1)) o1 oO a7 with h'|⟨h',_,_⟩
      ·have:=h' (fun k=>listed.getD k false=true) H fun k hk=>iM hr ho hk
       have h2:=d (all.length - (rest.length+1)) oO oO
       rw [show listed.getD (all.length - (rest.length+1)) false=true from this] at h2
       simp at h2
      ·omega
     have ae:o=o1:=by rw [aj,a7] at ho;exact (Option.some.inj ho).symm
     subst ae
     obtain ⟨a2,ac⟩:=(TQ hchk ho).2 D
     obtain ⟨j,h,v,a6,al,a0,ad,ao,ZZ⟩:=Y
     have hw:∀ k,waits o k=true->listed.getD k false=true:=fun k hk=>iM hr ho hk
     have a:=DV (i:=ts.length) (W:=bV o.after) hd.sim hcl hF.new hw
     rw [eb] at a
     have a4:=hF.set (j:=j) (h:=h) (fun _=>hw j a6) (fun k hk a9=>hw k (al k _ oO (hF.all' k hk) a9)) a0 ad
     have n:∀ t ∈ o.looksAt all.toArray,∀ u,Env.get eF t=some u->∃ v',A.tmps[t]?=some v'/\gJ (σ0.length+(eG ts).length) V u v':=by
      intro t ht u hu
      rw [<- R] at hu
      have X:∀ (k:Nat) (hk:k<ts.length),ts[k].o.dst=some t->listed.getD k false=true:=by
       intro k hk aa
       rcases (draw_parts hchk ho).2.2.2 k _ oO (hF.all' k hk) with h'|⟨_,_,h'⟩
       ·exact h' (fun k=>listed.getD k false=true) H fun k hk=>iM hr ho hk
       ·exact absurd ht ((Oper.apart_spec h').1 t aa)
      rcases l9 _ _ _ _ hu with ⟨k,hk,h1,h2,h3⟩|⟨h1,h2⟩
      ·obtain ⟨v',g1,g2⟩:=hd.new k hk (X k hk h1) t h1 fun q hq ai _=>h3 q hq ai
       refine ⟨v',g1,?_⟩
       rw [<- h2]
       have:=uF hk
       exact g2.mono oO fun _ _=>rfl
      ·obtain ⟨v',g1,g2⟩:=hd.old t u h1 fun k hk _=>h2 k hk
       exact ⟨v',g1,g2.mono oO fun _ _=>rfl⟩
     unfold wpOpIn
     simp only [bR,ho]
     rw [if_pos (by simp [Region.wanted,ac])]
     rw [<- lW (rd:=rd) (ρ':=V) (V:=ρ0) fun l hl=>hd.ag l (lQ hrd l hl)]
     refine ao o rfl rfl (oth G V σ0 ts (fun i=>listed.getD i false) (bV o.after)) w V A w (fun l hl=>by have:=lQ hrd l hl;simp;omega) a (fun x hx u hu=>?_) _ _ ?_
     ·cases x with
      |tmp t =>
       obtain ⟨v',g1,g2⟩:=n t (fI _ (List.mem_filterMap.2 ⟨.tmp t,by simpa using hx,rfl⟩)) u hu
       rw [bA,fC]
       simpa [Act.eval,g1] using g2
      |const c =>
       simp only [aT] at hu
       cases hp:plain c <;> simp [hp] at hu
       subst hu;exact bF c hp
      |func f=>simp only [aT,Option.some.injEq] at hu;subst hu;exact .func f #[] #[] #[] #[] rfl rfl (fun i h=>by simp at h) (fun i h=>by simp at h)
      |global g=>simp [aT] at hu
     ·intro ρ' v' w' hv hle2 ha T
      rw [lW (rd:=rd) (ρ':=V) (V:=ρ0) fun l hl=>hd.ag l (lQ hrd l hl)]
      have O:=CZ (ts:=ts) a0
      have an:=aas (jT ts j h) O (fun k hk aq a5=>by
       rw [qJ aq hk]
       split
       ·rename_i e;subst e;rw [a6] at a5;cases a5
       ·rfl) hd.sim hF.new a4.new (fun k hk=>ha k (by rw [bA,fC];exact hk)) T
      have hd2:=ac3 hd a0 an
      rw [a2]
      refine ih rest (jV ts j h) _ _ _ _ (by rw [jT];exact M) ?_ oO Uq (oU S) (fun k hk a1=>?_) ?_ p (a4.mono fun k hk hL=>?_) ZZ (iZ (fun k hk=>?_) hd2)
      ·rw [<- R];exact Kq (FU _ fun _=>rfl)
      ·rw [iD oO]
       split
       ·rename_i e;subst e;symm;simp only [decide_eq_true_eq];omega
       ·rename_i e;rw [d k hk a1];simp only [decide_eq_decide];omega
      ·have:=qW Q S Vv;omega
      ·show (listed.setIfInBounds i true).getD k false=true
       rw [iD oO];split
       ·rfl
       ·exact hL
      ·rw [jT] at hk
       rw [iD oO,if_neg oO]
def wQ (news:List (Nat×Heap)) (j:Nat) (h:Heap):List (Nat×Heap):=news.map fun p=>bif Nat.beq p.1 j then (p.1,h) else p
theorem TT {news:List (Nat×Heap)} {j:Nat} {h:Heap} (hn:∀ p ∈ news,p.1 ≠ j):wQ news j h=news:=by
 unfold wQ
 conv=>rhs;rw [<- List.map_id news]
 exact eI fun p hp=>by rw [jA (hn p hp)];rfl
theorem qm:∀ (ts:List Tr) (k:Nat) (news:List (Nat×Heap)),iK k ts news=news++iK k ts []
 |[],_,_=>by simp [iK]
 |t::ts,k,news=>by
  simp only [iK]
  rw [qm ts (k+1) (addN news k t.ns),qm ts (k+1) (addN [] k t.ns),<- cD]
  congr 1
  cases t.ns <;> simp [addN]
theorem C9:∀ (ts:List Tr) (k:Nat) (p:Nat×Heap),p ∈ iK k ts []->∃ (i:Nat) (hi:i<ts.length),p=(k+i,ts[i].ns)
 |[],_,p,h=>by simp [iK] at h
 |t::ts,k,p,h=>by
  simp only [iK] at h
  rw [qm] at h
  rcases List.mem_append.1 h with h|h
  ·refine ⟨0,by simp,?_⟩
   cases hn:t.ns with
   |nil=>rw [hn] at h;simp [addN] at h
   |cons x r=>rw [hn] at h;simp [addN] at h;simp [h,hn]
  ·obtain ⟨i,hi,e⟩:=C9 ts (k+1) p h
   exact ⟨i+1,by simpa using hi,by rw [e];simp;omega⟩
theorem Kr {h:Heap} (hne:h ≠ []):∀ (ts:List Tr) (k j:Nat),(∀ hj:j<ts.length,ts[j].ns ≠ [])->iK k (jV ts j h) []=wQ (iK k ts []) (k+j) h
 |[],k,j,_=>by simp [jV,iK,wQ]
 |t::ts,k,0,hj=>by
  have h0:t.ns ≠ []:=hj oS
  have hr:∀ p ∈ iK (k+1) ts [],p.1 ≠ k:=fun p hp=>by
   obtain ⟨i,_,e⟩:=C9 ts (k+1) p hp
   rw [e];simp only;omega
  simp only [jV,List.modify_zero_cons,iK]
  rw [qm,qm ts (k+1) (addN [] k t.ns)]
  simp only [cV]
  unfold wQ
  rw [eq]
  have e:=TT (h:=h) hr
  unfold wQ at e
  rw [e]
  congr 1
  cases ht:t.ns with
  |nil=>exact absurd ht h0
  |cons x r =>
   cases h with
   |nil=>exact absurd rfl hne
   |cons y q=>simp [addN]
 |t::ts,k,j+1,hj=>by
  have ih:=Kr hne ts (k+1) j (fun hh=>hj (Nat.succ_lt_succ hh))
  simp only [jV,List.modify_succ_cons,iK]
  rw [qm,qm ts (k+1) (addN [] k t.ns)]
  unfold jV at ih
  rw [ih]
  unfold wQ
  rw [eq,show k+1+j=k+(j+1) by omega]
  congr 1
  cases ht:t.ns with
  |nil=>simp [addN]
  |cons x r=>simp [addN,jA (show ¬ k=k+(j+1) by omega)]
def FV (P:Program) (rd:Option Nat) (all:List Oper) (e:Env) (σ0:Heap) (m:Nat) (K:List (Nat×Heap)->Prop):List Oper->List (Nat×Heap)->Prop
 |[],news=>K news
 |o::rest,news=>∃ (j:Nat) (h:Heap) (v:Value),bV o.after j=true/\((List.range m).all fun i=>match all[i]? with|some oi=>!waits oi j || bV o.after i|none=>true)=true/\(∃ old,(j,old) ∈ news/\old.length=h.length)/\h ≠ []/\rM σ0.length h /\
   bY P rd o.op o.type e (σ0++gV (bV o.after) news) v (σ0++gV (bV o.after) (wQ news j h))/\FV P rd all e σ0 m K rest (wQ news j h)
theorem N8 {e:Env} {m:Nat} {K:List (Nat×Heap)->Prop}:∀ (tl:List Oper) (ts:List Tr),FV P rd all e σ0 m K tl (iK 0 ts [])->Qg P rd all e σ0 m (fun ts'=>K (iK 0 ts' [])) tl ts
 |[],_,h=>h
 |o::rest,ts,h=>by
  obtain ⟨j,hp,v,h1,h2,⟨old,h3,h4⟩,h5,h6,h7,h8⟩:=h
  obtain ⟨i,hi,ei⟩:=C9 ts 0 _ h3
  simp only [Prod.mk.injEq,aR] at ei
  obtain ⟨rfl,rfl⟩:=ei
  have d:ts[j].ns ≠ []:=fun hc=>by
   rw [hc] at h4
   exact h5 (List.eq_nil_of_length_eq_zero (oU h4.symm))
  have e1:=Kr h5 ts 0 j (fun _=>d)
  rw [aR] at e1
  refine ⟨j,hp,v,h1,fun k ok hk c a=>?_,fun _=>h4.symm,h6,?_,N8 rest _ (by rw [e1];exact h8)⟩
  ·have:=List.all_eq_true.1 h2 k (oU hk)
   simp only [c,a,Bool.not_true,Bool.false_or] at this
   exact this
  ·have a1:=lq (bV o.after) ts 0 []
   have a2:=lq (bV o.after) (jV ts j hp) 0 []
   simp only [gV,cY,e7,eM] at a1 a2
   rw [e1] at a2
   rw [<- a1,<- a2]
   exact h7
end
theorem BA {P:Program} {n0 N:Nat} {rd:Option Nat} {Q:Post} {e:Env} {mk:List Nat} {U:Heap} {id:Nat} {l:List Oper} (hm:P.follows .mixedOrders=true) (hrd:lJ rd n0=true)
  (h:bK P N rd l 0 l e U [] (fun e' news tl=>He l (l.length - tl.length)=true/\FV P rd l e' U (l.length - tl.length) (fun news'=>Q .normal e' mk (U++iI news')) tl news)):bJ P n0 N rd (.region id l.toArray true) Q e mk U:=by
 intro G w0 ρ0 A w hi
 obtain ⟨h0,V,ha,hs,he⟩:=hi
 refine wpIn_region_any hm ?_
 obtain ⟨ts,tl,n,u,f,hK⟩:=oz l 0 e U [] _ h
 have hlen:ts.length+tl.length=l.length:=by rw [<- n];simp
 have r:l.length - tl.length=ts.length:=oO
 rw [r] at f hK
 have p:∀ (i:Nat) (hi:i<ts.length),l[i]?=some ts[i].o:=by
  intro i hi
  rw [<- n,bO (oU hi)];simp [hi]
 have hcl:∀ (i:Nat) (o:aC),U[i]?=some o->fV U.length o:=fun i o hi=>jg (hs.obj i o hi)
 have c:∀ i,(Array.replicate l.toArray.size false).getD i false=false:=fun i=>by
  simp only [eN,eZ];split <;> rfl
 refine aat (e0:=e) (mk:=mk) (σ0:=U) (ρ0:=ρ0) (G:=G) (w0:=w0) (N:=N) (n0:=n0) (m:=ts.length) (K:=fun a=>Q .normal (l7 ts e) mk (U++iI (iK 0 a []))) hrd f h0 he.mkb hcl (l7 ts e) ?_ _ tl ts _ _ _ V rfl rfl oO ?_ oS (fun i hi hia=>?_) ?_ ?_ (FOk.start u p _) (N8 tl ts hK) ?_
 ·intro a A' w' ρ' hk hl' s d
  have x:iI (iK 0 a [])=eG a:=by
   have a1:=lq (fun _=>true) a 0 []
   rw [kL] at a1
   have a2:gV (fun _=>true) (iK 0 a [])=iI (iK 0 a []):=by simp [gV,iI]
   simp only [gV,cY,e7,eM] at a1 a2
   rw [<- a2,a1]
  rw [x] at hk
  have g:=d.sim
  rw [kL] at g
  refine ⟨l7 ts e,mk,U++eG a,hk,by simp;omega,ρ',fun i hi=>d.ag i hi,g,⟨d.sz,fun t v hv=>?_⟩,d.mks,fun i hi=>by have:=he.mkb i hi;simp;omega⟩
  rw [<- s] at hv
  rcases l9 a e t v hv with ⟨j,hj,h1,h2,h3⟩|⟨h1,h2⟩
  ·obtain ⟨v',g1,g2⟩:=d.new j hj rfl t h1 fun k hk q _=>h3 k hk q
   refine ⟨v',g1,?_⟩
   rw [<- h2]
   have:=uF hj
   exact g2.mono (by simp;omega) fun _ _=>rfl
  ·obtain ⟨v',g1,g2⟩:=d.old t v h1 fun k hk _=>h2 k hk
   exact ⟨v',g1,g2.mono oS fun _ _=>rfl⟩
 ·have e1:l.drop ts.length=tl:=by rw [<- n,fv oS];simp
  rw [show l.length - tl.length=ts.length by omega,e1]
 ·rw [c];symm;simp only [decide_eq_false_iff_not];omega
 ·unfold cnt
  rw [List.countP_eq_length.2]
  ·simp
  ·intro i hi
   rw [getD_lt (d':=false) (oU hi),c];rfl
 ·intro j o _ hL
  rw [c] at hL;cases hL
 ·refine iZ (L:=fun _=>false) (fun k _=>(c k).symm) ⟨ha,?_,he.tmps.1,he.mks,fun t v hv _=>?_,fun k hk hL=>by cases hL⟩
  ·rw [qE]
   exact qF (zX hs _) rfl rfl rfl rfl
  ·exact he.tmps.2 t v hv
def ac4:List Bool->List (Nat×Heap)->Heap
 |b::bs,p::news=>(bif b then p.2 else hide p.2)++ac4 bs news
 |_,_=>[]
theorem Qh {L:Nat->Bool}:∀ {mask:List Bool} {news:List (Nat×Heap)},news.map (fun p=>L p.1)=mask->gV L news=ac4 mask news
 |[],[],_=>rfl
 |[],_::_,h=>by simp at h
 |_::_,[],h=>by simp at h
 |b::bs,p::news,h=>by
  simp only [cG,List.cons.injEq] at h
  have ih:=Qh (L:=L) h.2
  simp only [gV,cG,ej,ac4] at ih ⊢
  rw [ih,h.1]
theorem aau {L:Nat->Bool} {news:List (Nat×Heap)} {j:Nat} {h:Heap}:(wQ news j h).map (fun p=>L p.1)=news.map (fun p=>L p.1):=by
 unfold wQ
 rw [List.map_map]
 refine eI fun p _=>?_
 simp only [Function.comp_apply]
 cases Nat.beq p.1 j <;> rfl
theorem wR {P:Program} {rd:Option Nat} {all:List Oper} {e:Env} {σ0:Heap} {m:Nat} {K:List (Nat×Heap)->Prop} {rest:List Oper} {news:List (Nat×Heap)} {op:Op} {ty:TypeId} {pos:String} {after:Array Edge} {v:Value}
  (j:Nat) (mask:List Bool) (cs:List Value) (hmask:news.map (fun p=>bV after p.1)=mask) (hj:bV after j=true) (hw:((List.range m).all fun i=>match all[i]? with|some oi=>!waits oi j || bV after i|none=>true)=true)
  (hold:(news.any fun p=>Nat.beq p.1 j && Nat.beq p.2.length 1)=true) (hc:dU σ0.length cs=true) (ho:okL cs=true)
  (h:bY P rd op ty e (σ0++ac4 mask news) v (σ0++ac4 mask (wQ news j [.rw cs]))) (hk:FV P rd all e σ0 m K rest (wQ news j [.rw cs])):FV P rd all e σ0 m K (⟨none,op,ty,pos,after,none⟩::rest) news:=by
 refine ⟨j,[.rw cs],v,hj,hw,?_,by simp,fun x hx=>⟨cs,by simpa using hx,hc,ho⟩,?_,hk⟩
 ·obtain ⟨p,hp,hq⟩:=List.any_eq_true.1 hold
  simp only [aE] at hq
  refine ⟨p.2,?_,by simpa using aM hq.2⟩
  rw [<- aM hq.1];exact hp
 ·show bY P rd op ty e (σ0++gV (bV after) news) v (σ0++gV (bV after) (wQ news j [.rw cs]))
  rw [Qh hmask,Qh (aau.trans hmask)];exact h
theorem fr1A {P:Program} {N:Nat} {rd:Option Nat} {e:Env} {σ0:Heap} {news:List (Nat×Heap)} {K:Env->List (Nat×Heap)->List Oper->Prop} {k:Nat} {all rest:List Oper} {d:Nat} {op:Op} {ty:TypeId} {pos:String} {after:Array Edge} {cs:List Value}
  (h:bY P rd op ty e (σ0++gV (bV after) news) (.p ((σ0++gV (bV after) news).length)) (σ0++gV (bV after) news++[.rw cs])) (hc:dU σ0.length cs=true) (ho:okL cs=true) (hd:Nat.blt d N=true)
  (hk:bK P N rd all (k+1) rest ((d,.p (σ0.length+(iI news).length))::e) σ0 (addN news k [.rw cs]) K) :
  bK P N rd all k (⟨some d,op,ty,pos,after,none⟩::rest) e σ0 news K:=by
 refine fr1 h hc ho hd ?_
 rw [bA,qB];exact hk
theorem WJ {P:Program} {rd:Option Nat} {all:List Oper} {e:Env} {σ0:Heap} {m:Nat} {K:List (Nat×Heap)->Prop} {news:List (Nat×Heap)} (h:K news):FV P rd all e σ0 m K [] news:=h
end Go.AH.Chain
namespace Go.AH
section
variable {P:Program} {n0 N:Nat} {rd:Option Nat} {Q:Post} {e:Env} {mk:List Nat} {U:Heap}
structure StopC (p:Prop):Prop where
 out:p
theorem I7 {t:Tmp} {x y:Code} (h:StopC (bJ P n0 N rd (.cond (.tmp t) x y) Q e mk U)):bJ P n0 N rd (.cond (.tmp t) x y) Q e mk U:=h.out
theorem YU {c:Operand} {x y:Code} {b:Bool} (hc:aT e c=some (.bool b)) (E2:Env) (σ2:Heap) (k:∀ e',pK e' E2->Q .normal e' mk σ2)
  (h1:b=true->bJ P n0 N rd x (fun ex e' mk' σ'=>ex=.normal/\mk'=mk/\σ'=σ2/\pK e' E2) e mk U) (h2:b=false->bJ P n0 N rd y (fun ex e' mk' σ'=>ex=.normal/\mk'=mk/\σ'=σ2/\pK e' E2) e mk U):bJ P n0 N rd (.cond c x y) Q e mk U:=by
 have a:∀ ex e' mk' σ',(ex=Exit.normal/\mk'=mk/\σ'=σ2/\pK e' E2)->Q ex e' mk' σ':=by
  rintro ex e' mk' σ' ⟨rfl,rfl,rfl,he⟩;exact k e' he
 cases b with
 |true=>exact oV hc rfl ((h1 rfl).mono a)
 |false=>exact lg hc rfl ((h2 rfl).mono a)
end
section
variable {P:Program} {n0 N:Nat} {K:Env->List Nat->Heap->Prop} {e:Env} {mk:List Nat} {U:Heap} {all:List Oper} {listed:List Bool} {fuel:Nat}
end
theorem N9 {L:Nat->Bool}:∀ {news:List (Nat×Heap)},(news.all fun p=>L p.1)=true->gV L news=iI news
 |[],_=>rfl
 |p::news,h=>by
  simp only [List.all_cons,aE] at h
  have ih:=N9 (L:=L) (news:=news) h.2
  simp only [gV,iI,cG,ej] at ih ⊢
  rw [ih,h.1];rfl
section
variable {P:Program} {N:Nat} {rd:Option Nat} {e:Env} {σ0:Heap} {news:List (Nat×Heap)} {K:Env->List (Nat×Heap)->List Oper->Prop} {k:Nat} {all rest:List Oper} {d:Nat} {op:Op} {ty:TypeId} {pos:String} {after:Array Edge} {v:Value}
theorem frNA {cs:List Value} (hw:(news.all fun p=>bV after p.1)=true) (h:bY P rd op ty e (σ0++iI news) v (σ0++iI news++[.rw cs])) (hv:Nok σ0.length (σ0++iI news).length v) (hc:dU σ0.length cs=true) (ho:okL cs=true) (hd:Nat.blt d N=true)
  (hk:bK P N rd all (k+1) rest ((d,v)::e) σ0 (addN news k [.rw cs]) K):bK P N rd all k (⟨some d,op,ty,pos,after,none⟩::rest) e σ0 news K:=by
 have e1:=N9 hw
 exact frN (by rw [e1];exact h) (by rw [e1];exact hv) hc ho hd hk
end
structure Stop (p:Prop):Prop where
 out:p
section
variable {P:Program} {n0 N:Nat} {rd:Option Nat} {Q:Post} {e:Env} {mk:List Nat} {U:Heap}
theorem bU {id:Nat} {l:Array Oper} {b:Bool} (h:Stop (bJ P n0 N rd (.region id l b) Q e mk U)):bJ P n0 N rd (.region id l b) Q e mk U:=h.out
theorem dB {c:Code} (e2:Env) (σ2:Heap) (hs:U=σ2) (he:pK e e2) (h:bJ P n0 N rd c Q e2 mk σ2):bJ P n0 N rd c Q e mk U:=by
 subst hs
 intro G w0 ρ0 A w hi
 obtain ⟨h0,V,ha,hs,hr⟩:=hi
 exact h G w0 ρ0 A w ⟨h0,V,ha,hs,⟨hr.tmps.1,fun t v hv=>hr.tmps.2 t v (yX he _ (yR hv))⟩,hr.mks,hr.mkb⟩
end
end Go.AH
namespace Go.AH.Late
theorem split {P:Program} {n0 N:Nat} {rd:Option Nat} {l tl:List Oper} {K:Env->List Nat->Heap->Prop} {e':Env} {mk:List Nat} {U:Heap} {f d:Nat} {o1 o2:Oper} {t:List Oper} {news:List (Nat×Heap)} (h1:dA P n0 N rd l tl K e' mk U)
  (ht:tl=o1::t) (h2:l[f]?=some o2) (hd:o2.dst=some d) (hn:(news.all fun p=>!Nat.beq p.1 f)=true) (h3:dA P n0 N rd l (o1::o2::t) K (zG d e') mk U) :
  dA P n0 N rd l tl K e' mk U/\∃ o1 o2 t,tl=o1::t/\l[f]?=some o2/\o2.dst=some d/\(news.all fun p=>!Nat.beq p.1 f)=true/\dA P n0 N rd l (o1::o2::t) K (zG d e') mk U :=
 ⟨h1,o1,o2,t,ht,h2,hd,hn,h3⟩
end Go.AH.Late
namespace Go.AH
section
variable {P:Program} {rd:Option Nat} {ty:TypeId} {e:Env} {U:Heap} {x y:Operand}
theorem ac5 {t el size bytes i o c:Nat} {agg:Bool} {z:Value} {t2:TypeId} {ad:Option Addr} {c2:Nat} [ha:Sl P t el] [ht:Ty P el size agg z bytes] (hx:aT e x=some (.slice (some ⟨i,o,none⟩) 0 c)) (hy:aT e y=some (.slice ad 0 c2)) (hs:slOk (.slice ad 0 c2)=true) :
  bY P rd (.call { callee:=.builtin .copy,args:=#[x,y],argTypes:=#[t,t2] }) ty e U (.i ((0:Nat):Int)) U :=
 dh oS fun op ho _ G w0 V A w m g=>by
  have l:=g x (by simp [Op.operands,Call.operands]) _ hx
  have j:=g y (by simp [Op.operands,Call.operands]) _ hy
  have f:∃ a c',A.eval x=.slice a 0 c':=by
   generalize hr:A.eval x=r at l
   cases l with
   |emptySlice _ _ a c=>exact ⟨a,c,rfl⟩
   |slice _ _ _ _ c' _ _=>exact ⟨_,c',rfl⟩
   |sliceG _ _ _ _ _ _ _ _ hq=>simp at hq
  have d:∃ a c',A.eval y=.slice a 0 c':=by
   generalize hr:A.eval y=r at j
   cases j with
   |nilSlice=>exact ⟨_,_,rfl⟩
   |zslice=>exact ⟨_,_,rfl⟩
   |zsliceZ hq=>simp at hq
   |emptySlice _ _ a c=>exact ⟨a,c,rfl⟩
   |slice _ _ _ _ c' _ _=>exact ⟨_,c',rfl⟩
   |gslice _ _ _ _ c'=>exact ⟨_,c',rfl⟩
   |sliceG _ _ _ _ _ _ _ _ hq=>simp at hq
   |gsliceG _ _ _ _ _ _ _ _ hq=>simp at hq
  obtain ⟨a,cx,f⟩:=f
  obtain ⟨b,cy,d⟩:=d
  have hf:(Builtin.firstCells size 0 (.slice b 0 cy)).run P w=.ok #[] w:=by
   cases b with
   |none=>rfl
   |some b=>exact run_firstCells_some (P:=P) w size 0 b 0 cy [] oS oS
  refine ⟨V,.i ((0:Nat):Int),w,.inl ?_,.int _ _,oO,fun _ _=>rfl,m⟩
  cases a with
  |none=>simp [execOp,ho,resolve,invoke,builtin,f,d,Builtin.copy_,lS ha.und,ht.sizeOf,Builtin.lenOf,hf,goInt]
  |some a=>simp [execOp,ho,resolve,invoke,builtin,f,d,Builtin.copy_,lS ha.und,ht.sizeOf,Builtin.lenOf,hf,goInt,storeCells]
end
section
variable {P:Program} {n0 N:Nat} {K:Env->List Nat->Heap->Prop} {e:Env} {mk:List Nat} {U:Heap} {all:List Oper} {listed:List Bool} {fuel:Nat}
end
section
variable {P:Program} {U:Heap} {f:FuncId}
end
section
variable {P:Program} {n0 N:Nat} {rd:Option Nat} {Q:Post} {e:Env} {mk:List Nat} {U:Heap}
end
section
variable {P:Program} {U:Heap} {f:FuncId}
end
def kR (lo hi:Int) (l:List Int):Int:=match (List.range l.length).find? (fun i=>decide (gi l i<lo\/gi l i > hi)) with|some i=>i|none=>-1
theorem su {lo hi:Int} {l:List Int} {i:Nat} (hi':i<l.length) (h:gi l i<lo\/gi l i > hi) (hall:∀ j<i,¬ (gi l j<lo\/gi l j > hi)):kR lo hi l=i:=by
 have:(List.range l.length).find? (fun i=>decide (gi l i<lo\/gi l i > hi))=some i:=by
  rw [List.find?_range_eq_some]
  exact ⟨by simpa using h,by simpa using hi',fun j hj=>by simpa using hall j hj⟩
 simp only [kR,this]
theorem sD {lo hi:Int} {l:List Int} (hall:∀ j<l.length,¬ (gi l j<lo\/gi l j > hi)):kR lo hi l=-1:=by
 have:(List.range l.length).find? (fun i=>decide (gi l i<lo\/gi l i > hi))=none:=by
  rw [List.find?_eq_none]
  intro j hj
  simpa using hall j (oU hj)
 simp only [kR,this]
theorem vsub_fn2 {n:Nat} {Z:Rho} {f:FuncId} {a b a' b':Value} (h1:jS n Z a a') (h2:jS n Z b b'):jS n Z (.func (.func f) #[] #[a,b]) (.func (.func f) #[] #[a',b']):=by
 refine .func f _ _ _ _ rfl rfl (fun i h _=>by simp at h) (fun i h _=>?_)
 match i,h with
 |0,_=>exact h1
 |1,_=>exact h2
theorem Oa {lo hi:Int} {l:List Int}:kR lo hi l>=0↔∃ i<l.length,gi l i<lo\/gi l i > hi:=by
 constructor
 ·intro h
  refine Classical.byContradiction fun hn=>?_
  rw [sD fun j hj hb=>hn ⟨j,hj,hb⟩] at h
  omega
 ·rintro ⟨i,a,hb⟩
  unfold kR
  split
  ·omega
  ·rename_i h
   rw [List.find?_eq_none] at h
   have:=h i (oU a)
   simp at this;omega
theorem TU (n:Nat) (a b:List Value):dU n (a++b)=(dU n a && dU n b):=by
 induction a with
 |nil=>simp [dU]
 |cons x a ih=>simp [dU,ih,Bool.and_assoc]
theorem afO (a b:List Value):okL (a++b)=(okL a && okL b):=by
 induction a with
 |nil=>simp [okL]
 |cons x a ih=>simp [okL,ih,Bool.and_assoc]
theorem dP {n i l c:Nat} (h:i<n):closed n (.s i l c)=true/\okV (.s i l c)=true:=by
 have:=VQ.slice (q:=false) (n:=n) (V:=fun k=>⟨k,0,0⟩) i 0 l c c (aD _) h
 exact ⟨rU this,Nu this⟩
theorem fF {U:Heap} {b o:Nat} {cs vs cs':List Value} (h:U[b]?=some (.rw cs)) (hl:o+vs.length<=cs.length) (h0:0<cs.length) (he:splice cs o vs=cs'):putCells U b o vs=some (U.set b (.rw cs')):=by
 have e1:Nat.ble (o+vs.length) cs.length=true:=fc hl
 have e2:Nat.blt 0 cs.length=true:=Nat.blt_eq.mpr h0
 simp only [putCells,h,e1,e2,Bool.and_self,cond_true,he]
def WL {α:Type} (f:Nat->α) (i:Nat) (a:α):Nat->α:=fun k=>if k=i then a else f k
theorem ac6 (r:Rho) (a b:List Value):yK r (a++b)=yK r a++yK r b:=by simp [AZ]
theorem Qi {r:Rho} {l:List Value} (h:dN l=true):yK r l=l:=by exact uX l h
def gn (l:List Nat) (i:Nat):Nat:=l.getD i 0
def gQ (l:List Nat):List Value:=l.map fun (i:Nat)=>Value.int .i64 (Int.ofNat i)
theorem Kt {l:List Nat} {i:Nat} (h:i<l.length):(gQ l)[i]?=some (.i (gn l i:Int)):=by simp [gQ,gn,h]
theorem oI (l:List Nat):dN (gQ l)=true:=vJ _ (fun _=>rfl) l
structure Hide (p:Prop):Prop where
 h:p
def someB (n:Nat) (p:Nat->Prop) [DecidablePred p]:Bool:=(List.range n).any fun i=>decide (p i)
theorem qo {n:Nat} {p:Nat->Prop} [DecidablePred p] {i:Nat} (hi:i<n) (h:p i):someB n p=true:=by
 simp only [someB,List.any_eq_true,List.mem_range,decide_eq_true_eq]
 exact ⟨i,hi,h⟩
theorem mV {n:Nat} {p:Nat->Prop} [DecidablePred p] (h:∀ i<n,¬ p i):someB n p=false:=by
 simp only [someB,List.any_eq_false,List.mem_range,decide_eq_true_eq]
 exact h
theorem Ku {n:Nat} {p:Nat->Prop} [DecidablePred p] (h:¬ someB n p=true):∀ i<n,¬ p i:=by
 simpa [someB] using h
section
variable {n0:Nat} {U:Heap} {e e2:Env}
theorem mP.all (σ2:Heap) (m:Nat) (l:List Nat) (hm:n0<=m) (hl:σ2.length=m+l.length) (hd:dF m l=true) (ho:D5 U σ2.length (fK m l) 0 σ2) (he:Fz σ2.length (fK m l) e e2):mP n0 U σ2 e e2:=by
 refine .inr fun _=>⟨fK m l,⟨oO,fun i hi=>gu oO,fun i o2 hi=>?_,fun i j oi oj hi hj _ _ a=>?_⟩,yY he⟩
 ·have:=FB ho i o2 hi
  rwa [aR] at this
 ·simp only [dF,aE,dT,decide_eq_true_eq] at hd
  have h1:=aS hi
  have h2:=aS hj
  have ge:∀ q,¬ q<m->q < σ2.length->∃ h:q - m<l.length,(fK m l q).b=l[q - m]/\m<=l[q - m]:=by
   intro q hq hq2
   have h:q - m<l.length:=oO
   refine ⟨h,?_,cC (hd.1 _ (cP h))⟩
   simp only [fK]
   rw [if_neg hq,cA h]
  by_cases d:i<m <;> by_cases c:j<m
  ·rw [gu d,gu c] at a;exact a
  ·obtain ⟨h,e1,e2⟩:=ge j c h2
   rw [gu d,e1] at a;simp only at a;omega
  ·obtain ⟨h,e1,e2⟩:=ge i d h1
   rw [gu c,e1] at a;simp only at a;omega
  ·obtain ⟨h,e1,e2⟩:=ge i d h1
   obtain ⟨h',f,e2'⟩:=ge j c h2
   rw [e1,f] at a
   have:=(List.getElem_inj hd.2).1 a
   omega
theorem pz {n m i:Nat} {l:List Nat} {o:aC} (hi:i<m) (hmn:m<=n) (h:U[i]?=some o) (hc:fV m o):xX U n (fK m l) (fK m l i) o :=
 lZ (fun _i hi=>gu hi) hmn hi h hc
theorem aav {n i j k sz q:Nat} {Z:Rho} (hk:Z i=⟨i,0,0⟩) (h:U[i]?=some (.rw [eP j sz k])) (hq:q<n) (hj:Z q=⟨j,0,0⟩):xX U n Z (Z i) (.rw [eP q sz k]):=by
 refine .inr ⟨by rw [hk],[eP j sz k],.inl (by rw [hk];exact h),aD _,fun a ha ha'=>?_⟩
 have:a=0:=by simpa using ha
 subst this
 exact NG hq hj
theorem jU {P:Program} {N:Nat} {Q:Post} {mk:List Nat} {g:Operand} {ps:Array Tmp} {assign body:Code} {f:FuncId} {p q:List Value} [hc:GoFn P f] (hg:aT e g=some (.func (.func f) p.toArray q.toArray))
  (hcall:∀ L,L=aC.loop .ready none N e ps assign body->eu P f (p++[.func (.yield (U.length+1)) #[] #[]]++q) (U++[.dfr,L]) (fun _ σ2=>JH P n0 N Q e (U.length::mk) (U.length+1) σ2)) :
  bJ P n0 N none (.rangeFunc g ps assign body) Q e mk U:=G7 hg (hcall _ rfl)
theorem TV {P:Program} {n1 N' l:Nat} {body:Code} {QB:Post} {e1:Env} {mk1:List Nat} {σ1:Heap} {N2:Nat} {e2:Env} {ps2:Array Tmp} {as2 bd2:Code} {pend:Option Code} (h1:σ1[l]?=some (.loop .ready pend N2 e2 ps2 as2 bd2))
  (h2:bJ P n1 N' (some l) body QB e1 mk1 (σ1.set l (.loop .busy pend N2 e2 ps2 as2 bd2))):dR P n1 N' l body QB .normal e1 mk1 σ1:=⟨_,_,_,_,_,_,h1,h2⟩
theorem vV {P:Program} {n0 N:Nat} {all rest:List Oper} {K:Env->List Nat->Heap->Prop} {d l:Nat} {e e1:Env} {mk mk1:List Nat} {σ2:Heap} {o:aC} (h1:σ2[l]?=some o) (h2:uf o=true) (h3:dA P n0 N none all rest K ((d,.bool true)::e) mk (σ2.set l (kV .ready none o))) :
  dW P n0 N all rest K d l e mk .normal e1 mk1 σ2:=⟨o,h1,h2,h3⟩
theorem ac7 {P:Program} {n0 N:Nat} {all rest:List Oper} {K:Env->List Nat->Heap->Prop} {d l id:Nat} {e e1:Env} {mk mk1:List Nat} {σ2:Heap} {o:aC} (h1:σ2[l]?=some o) (h2:uf o=true) (h3:dA P n0 N none all rest K ((d,.bool false)::e) mk (σ2.set l (kV .done (some (.exit id)) o))) :
  dW P n0 N all rest K d l e mk (.exit id) e1 mk1 σ2:=⟨o,h1,h2,h3⟩
theorem ret1 {P:Program} {σin:Heap} {rv:List ResultVar} {R:Value->Heap->Prop} {vs:List Value} {v2:Value} {σ2:Heap} {m:Nat} (hd:U[m]?=some .dfr) (hr:tC P e (U.set m .dead) rv vs) (href:aW σin (U.set m .dead) (jH vs) v2 σ2) (hR:R v2 σ2) :
  jh P σin rv R .ret e [m] U:=⟨by simp,fun i hi=>by rw [List.mem_singleton.1 hi];exact hd,vs,v2,σ2,hr,href,hR⟩
theorem WM {m:Nat}:∀ {e:Env},(∀ p ∈ e,closed m p.2=true/\okV p.2=true)->∀ t v,Env.get e t=some v->closed m v=true/\okV v=true:=fun h _t _v hv=>h _ (yR hv)
end
theorem lC {U:Heap} {n j k:Nat} {Z:Rho} {cs:List Value} (hk:Z k=⟨j,0,0⟩) (h:U[j]?=some (.rw cs)\/∃ t,U[j]?=some (.gr cs t)) (hp:dN cs=true):xX U n Z (Z k) (.rw cs) :=
 .inr ⟨by rw [hk],cs,by rw [hk];exact h,aD _,fun i hi _=>kZ cs hp i hi⟩
theorem YV {n j:Nat}:fK n [j] n=⟨j,0,0⟩:=by simp [fK]
theorem aik {σin U:Heap} {cs:List Value} {n j c:Nat} {v:Value} (hσ:U.take σin.length=σin) (hp:dN cs=true) (hg:U[j]?=some (.rw cs)\/∃ t,U[j]?=some (.gr cs t)) (hj:Nat.ble σin.length j=true) (hv:plain v=true) (hc:n<=c) :
  aW σin U (.tuple #[.s j n c,v]) (.tuple #[.s σin.length n n,v]) (σin++[.rw cs]):=by
 refine aW.src [.rw cs] [j] hσ rfl (by simp [dF,hj]) ⟨lC YV hg hp,trivial⟩ ?_
 refine .tuple _ _ rfl fun i hi _=>?_
 match i,hi with
 |0,_=>exact jY oS YV hc
 |1,_=>exact bF _ hv
theorem ac8 {σin U:Heap} {v:Value} (hσ:U.take σin.length=σin) (hv:plain v=true) :
  aW σin U (.tuple #[.slice none 0 0,v]) (.tuple #[.s σin.length 0 0,v]) (σin++[.rw []]):=by
 refine aW.src [.rw []] [σin.length] hσ rfl (by simp [dF]) ⟨.inl rfl,trivial⟩ ?_
 refine .tuple _ _ rfl fun i hi _=>?_
 match i,hi with
 |0,_=>exact .emptySlice _ _ _ _
 |1,_=>exact bF _ hv
theorem TW {P:Program} {rd:Option Nat} {ty:TypeId} {e:Env} {U:Heap} {x:Operand} {m:Int} {s d:TypeId} {k:IntKind} [Ik P s k] [Ik P d .i64] (hx:aT e x=some (.int k m)) (h1:-9223372036854775808<=m) (h2:m<=9223372036854775807) :
  bY P rd (.convert s d x) ty e U (.i m) U:=by
 have:=RV (P:=P) (rd:=rd) (ty:=ty) (U:=U) (s:=s) (d:=d) hx
 rwa [wrap64 h1 h2] at this
theorem jD (l:List Int):(ints l).all (·.oneCell')=true:=by
 simp only [dT,ints,List.mem_map]
 rintro x ⟨y,_,rfl⟩
 rfl
end Go.AH
namespace Go.AH.Heat
def r8 (l:List Int):List Value:=l.map (.int .i8)
theorem jc (l:List Int):(r8 l).length=l.length:=by simp [r8]
theorem Kw {l:List Int} {i:Nat} (h:i<l.length):(r8 l)[i]?=some (.int .i8 (gi l i)):=by simp [r8,gi,h]
theorem nK (l:List Int):dN (r8 l)=true:=vJ _ (fun _=>rfl) l
def jK (a k:Nat) (l:List Int):List Int:=l.take a++List.replicate k 1++l.drop (a+k)
theorem Ky (a:Nat) (l:List Int):jK a 0 l=l:=by simp [jK]
theorem FW {a k:Nat} {l:List Int} (h:a+k<=l.length):(jK a k l).length=l.length:=by simp [jK];omega
theorem Kz {a k:Nat} {l:List Int} (h:a+k<l.length):splice (r8 (jK a k l)) (a+k) [.int .i8 1]=r8 (jK a (k+1) l):=by
 have e:∀ (x:List Int) (o:Nat),splice (r8 x) o [.int .i8 1]=r8 (x.take o++[1]++x.drop (o+1)):=fun x o=>by simp [splice,r8,List.map_take,List.map_drop]
 rw [e]
 congr 1
 have hl:(l.take a++List.replicate k (1:Int)).length=a+k:=by simp;omega
 unfold jK
 rw [fh oO,<- hl,eb,hl,List.drop_append,hl,eD oO,List.replicate_succ',show a+k+1 - (a+k)=1 by omega,fg,eM,<- cD (l.take a)]
 rfl
theorem aW.upd {U x:Heap} {i:Nat} {cs cs':List Value} {v:Value} (hp:dN cs'=true) (hi:i < U.length) (hv:AH.plain v=true):aW (U.set i (.rw cs)) (U.set i (.rw cs')++x) v v (U.set i (.rw cs')):=by
 refine .inr fun hcl=>⟨fun i=>⟨i,0,0⟩,⟨by simp,fun _ _=>rfl,fun j o hj=>?_,fun i i' oi oi' _ _ _ _ h=>h⟩,bF v hv⟩
 have a:=aS hj
 refine lZ (m:=(U.set i (.rw cs')).length) (fun _ _=>rfl) (aD _) a (by rw [bO a];exact hj) ?_
 rcases getElem?_set' hj with ⟨rfl,rfl⟩|⟨hne,c⟩
 ·exact aY hp
 ·have:=hcl j o (by rw [eE oO];exact c)
  simpa using this
theorem ig {τ:Heap} {cs:List Value} {o n:Nat} (h:τ.length=n):aI (τ++[.rw cs]) n o=cs[o]?:=by
 subst h;simp [aI]
theorem set_self {U:Heap} {i:Nat} {o:aC} (h:U[i]?=some o):U.set i o=U:=by
 refine eK fun j=>?_
 rw [List.getElem?_set]
 split
 ·rename_i a;subst a;rw [if_pos (aS h),h]
 ·rfl
theorem dS {U:Heap} {i o n:Nat} {cs:List Value} (h:aK U i o n=some cs):i < U.length:=by
 unfold aK at h
 cases hi:U[i]? with
 |none=>rw [hi] at h;cases h
 |some o=>exact aS hi
theorem jl {U x:Heap} {i o n:Nat} (h:i < U.length):aK (U++x) i o n=aK U i o n:=by
 unfold aK;rw [bO h]
theorem eX {U:Heap} {i o n k:Nat} {cs:List Value} (h:aK U i o n=some cs) (hk:k<n):aI U i (o+k)=cs[k]?:=by
 unfold aK at h
 unfold aI
 cases hi:U[i]? with
 |none=>rw [hi] at h;cases h
 |some x =>
  rw [hi] at h
  have a:∀ l:List Value,(bif Nat.ble (o+n) l.length then some ((l.drop o).take n) else none)=some cs->l[o+k]?=cs[k]?:=fun l h=>by
   cases hb:Nat.ble (o+n) l.length with
   |false=>rw [hb] at h;cases h
   |true =>
    rw [hb] at h
    simp only [cond_true,Option.some.injEq] at h
    rw [<- h,ey,if_pos hk,eJ]
  cases x with
  |ro l=>exact a l h
  |rw l=>exact a l h
  |gr l t=>exact a l h
  |deep q sp =>
   simp only at h ⊢
   cases hb:Nat.beq n 1 with
   |false=>rw [hb] at h;cases h
   |true =>
    rw [hb] at h
    have:=aM hb
    obtain rfl:k=0:=oO
    simp only [cond_true,fz] at h
    obtain ⟨v,h1,rfl⟩:=h
    exact h1
  |_=>cases h
theorem mW {U x:Heap} {i o:Nat} (h:i < U.length):aI (U++x) i o=aI U i o:=by
 unfold aI;rw [bO h]
def kS (lo hi:Int) (l:List Int):Bool:=((l.drop lo.toNat).take (hi+1 - lo).toNat).any fun x=>decide (x=1)
theorem Ob {lo hi:Int} {l:List Int}:kS lo hi l=true↔∃ k:Nat,lo.toNat<=k/\k<lo.toNat+(hi+1 - lo).toNat/\gi l k=1:=by
 unfold kS
 rw [List.any_eq_true]
 constructor
 ·rintro ⟨x,h1,h2⟩
  obtain ⟨j,hj,rfl⟩:=ew h1
  rw [eo,eR] at hj
  refine ⟨lo.toNat+j,oO,oO,?_⟩
  have h2:=of_decide_eq_true h2
  rw [cX,List.getElem_drop] at h2
  unfold gi;rw [cE,cA oO];exact h2
 ·rintro ⟨k,h1,h2,h3⟩
  have hk:k<l.length:=by
   refine Classical.byContradiction fun hn=>?_
   unfold gi at h3
   rw [cE,di oO] at h3
   simp at h3
  refine ⟨gi l k,?_,decide_eq_true h3⟩
  rw [List.mem_iff_getElem]
  refine ⟨k - lo.toNat,by rw [eo,eR];omega,?_⟩
  rw [cX,List.getElem_drop]
  unfold gi;rw [cE,cA hk]
  simp only [Option.getD_some]
  congr 1;omega
theorem oJ {U:Heap} {i:Nat} {cs:List Value} (h:dD U i cs):i < U.length:=by
 rcases h with h|h|⟨t,h⟩ <;> exact aS h
end Go.AH.Heat
namespace Go.Proofs.YtajpgeklmcjciaaGreat
attribute [local irreducible] dA bJ bK jh fQ dK eH bY eu aW dR dW
open Go.AH.Heat
theorem ac9 {A B:Prop} (k:B) (h:Hide B->A:=by intro z_;(repeat' (first|refine sCm ?_|(refine gU ?_;first|(refine cO ?_;refine st (aJ rfl (by exact hc1)) rfl rfl ?_)|refine sK0 ?_|refine Qc ?_|(refine gZ ?_;refine stN (bW rfl rfl rfl rfl (by exact hput)) rfl ?_))|refine aG ?_|refine fA rfl ?_|refine fM rfl ?_));exact z_.h):A:=h ⟨k⟩
theorem afP (U:Heap) (i a:Nat) (b:Int) (l:List Int) (hl:l.length=1001) (hi:i < U.length) (hb:b<=1000) (hab:(a:Int)<=b+1) :
  Ev prog 257 [.p i,.agg #[.i (a:Int),.i b]] (U.set i (aC.rw (r8 (jK a 0 l)))) (.tuple #[]) (U.set i (aC.rw (r8 (jK a (b+1 - a).toNat l)))):=by
 obtain ⟨n,hn⟩:∃ n:Nat,b+1 - a=(n:Int):=⟨(b+1 - a).toNat,oO⟩
 rw [hn,dj]
 have c:∀ o:aC,(U.set i o).length=U.length:=fun o=>by simp
 refine aH (U.set i (aC.rw (r8 (jK a 0 l)))).length 17 func257 rfl rfl rfl rfl rfl ?_
 have hc1:aI (U.set i (aC.rw (r8 (jK a 0 l)))++[aC.rw [.i (a:Int),.i b]]) (U.set i (aC.rw (r8 (jK a 0 l)))).length (0+0)=some (.i (a:Int)):=ig rfl
 refine ac9 ?_
 refine dB [(0,.p i),(3,.p U.length),(4,.i ((a+0:Nat):Int))] (U.set i (aC.rw (r8 (jK a 0 l)))++[aC.rw [.i (a:Int),.i b]]) rfl ⟨rfl,by rw [c];rfl,rfl,trivial⟩ ?_
 clear hc1
 refine jq (ι:=Nat) (fun k=>[(0,.p i),(3,.p U.length),(4,.i ((a+k:Nat):Int))]) (fun k=>U.set i (aC.rw (r8 (jK a k l)))++[aC.rw [.i (a:Int),.i b]]) (fun k=>n - k) (fun k=>k<=n) 0 oS (.same tE) (bL _) ?_
 intro k hk
 have hc1:aI (U.set i (aC.rw (r8 (jK a k l)))++[aC.rw [.i (a:Int),.i b]]) U.length (0+1)=some (.i b):=ig (c _)
 by_cases hkn:k<n
 ·have e:((a+k:Nat):Int)<=b:=oO
  have hput:putCells (U.set i (aC.rw (r8 (jK a k l)))++[aC.rw [.i (a:Int),.i b]]) i (0+(a+k)*1) [.int .i8 1]=some (U.set i (aC.rw (r8 (jK a (k+1) l)))++[aC.rw [.i (a:Int),.i b]]):=by
   have d:=FW (a:=a) (k:=k) (l:=l) oO
   rw [fF (cs:=r8 (jK a k l)) (cs':=r8 (jK a (k+1) l)) (by rw [bO (oU hi)];simp [hi]) (by simp [jc,d];omega) (by rw [jc,d];omega) (by rw [aR,cH];exact Kz oO),cI _ _ (oU hi),cN]
  refine ac9 ?_
  exact ⟨rfl,k+1,oO,oO,.same tE⟩
 ·obtain rfl:k=n:=oO
  have e:¬ ((a+k:Nat):Int)<=b:=oO
  refine ac9 ?_
  exact RZ (v2:=.tuple #[]) (σ2:=U.set i (aC.rw (r8 (jK a k l)))) .nil (Go.AH.Heat.aW.upd (U:=U) (i:=i) (nK (jK a k l)) hi rfl) ⟨rfl,rfl⟩
def vW (lo hi:Int) (l:List Int):List Int:=jK lo.toNat (hi+1 - lo).toNat l
theorem Qj {U:Heap} {i:Nat} {lo hi:Int} {l:List Int} (h:U[i]?=some (.rw (r8 l))) (hl:l.length=1001) (h0:0<=lo) (hb:hi<=1000) (hab:lo<=hi+1) :
  Ev prog 257 [.p i,.agg #[.i lo,.i hi]] U (.tuple #[]) (U.set i (.rw (r8 (vW lo hi l)))):=by
 obtain ⟨a,rfl⟩:∃ a:Nat,lo=(a:Int):=⟨lo.toNat,oO⟩
 have:=afP U i a hi l hl (aS h) hb hab
 rw [Ky,set_self h] at this
 exact this
theorem YW {A B:Prop} (k:B) (h:Hide B->A:=by intro z_;(repeat' (first|refine sCm ?_|(refine gU ?_;first|(refine cO ?_;refine st (aJ rfl (by first|exact hc1|exact hc2)) rfl rfl ?_)|refine sK0 ?_|refine Qc ?_)|refine aG ?_|refine DT rfl ?_|refine D8 ?_|refine D7 ?_|refine ZT ?_|refine fA rfl ?_|refine fM rfl ?_));exact z_.h):A:=h ⟨k⟩
theorem ada (U:Heap) (i a:Nat) (b:Int) (l:List Int) (h:dD U i (r8 l)) (hl:l.length=1001) (hb:b<=1000) (hab:(a:Int)<=b+1) (t:Bool) (ht:t=true↔∃ k:Nat,a<=k/\(k:Int)<=b/\gi l k=1) :
  Ev prog 170 [.p i,.agg #[.i (a:Int),.i b]] U (.bool t) U:=by
 have hi:i < U.length:=oJ h
 refine aH U.length 22 func170 (h:=?_)
 have hc1:aI (U++[aC.rw [.i (a:Int),.i b]]) U.length (0+0)=some (.i (a:Int)):=ig rfl
 refine YW ?_
 refine jq (ι:=Nat) (fun k=>[(0,.p i),(3,.p U.length),(5,.bool false),(6,.i ((a+k:Nat):Int))]) (fun _=>U++[aC.rw [.i (a:Int),.i b]]) (fun k=>(b+1 - a).toNat - k) (fun k=>((a+k:Nat):Int)<=b+1/\∀ j,a<=j->j<a+k->gi l j ≠ 1) 0 oS (.same tE) ⟨oO,fun j h1 h2=>oO⟩ ?_
 clear hc1
 rintro k ⟨hk,hn⟩
 have hc1:aI (U++[aC.rw [.i (a:Int),.i b]]) U.length (0+1)=some (.i b):=ig rfl
 by_cases d:((a+k:Nat):Int)<=b
 ·have hc2:aI (U++[aC.rw [.i (a:Int),.i b]]) i (0+(a+k)*1)=some (.int .i8 (gi l (a+k))):=by
   rw [aR,cH]
   have:=Kw (l:=l) (i:=a+k) oO
   rcases h with h|h|⟨t,h⟩ <;> simp [aI,bO hi,h,this]
  by_cases h1:gi l (a+k)=1
  ·obtain rfl:t=true:=ht.2 ⟨a+k,oO,d,h1⟩
   clear ht
   clear hn
   generalize gi l (a+k)=x at *
   refine YW ?_
   exact dG (.tmp rfl .nil) (.plain oS rfl) ⟨rfl,rfl⟩
  ·have c:∀ j,a<=j->j<a+(k+1)->gi l j ≠ 1:=fun j g1 g2=>by
    by_cases hj:j=a+k
    ·subst hj;exact h1
    ·exact hn j g1 oO
   clear hn
   generalize gi l (a+k)=x at *
   refine YW ?_
   exact ⟨rfl,k+1,⟨oO,c⟩,oO,.same tE⟩
 ·obtain rfl:t=false:=by
   cases t with
   |false=>rfl
   |true=>obtain ⟨j,g1,g2,g3⟩:=ht.1 rfl;exact absurd g3 (hn j g1 oO)
  clear hn ht
  refine YW ?_
  exact dG (.tmp rfl .nil) (.plain oS rfl) ⟨rfl,rfl⟩
theorem TY {U:Heap} {i:Nat} {lo hi:Int} {l:List Int} (h:dD U i (r8 l)) (hl:l.length=1001) (h0:0<=lo) (hb:hi<=1000) (hab:lo<=hi+1) :
  Ev prog 170 [.p i,.agg #[.i lo,.i hi]] U (.bool (kS lo hi l)) U:=by
 obtain ⟨a,rfl⟩:∃ a:Nat,lo=(a:Int):=⟨lo.toNat,oO⟩
 refine ada U i a hi l h hl hb hab _ (Ob.trans ?_)
 rw [dj]
 exact ⟨fun ⟨k,h1,h2,h3⟩=>⟨k,h1,oO,h3⟩,fun ⟨k,h1,h2,h3⟩=>⟨k,h1,oO,h3⟩⟩
theorem _root_.Go.AH.Heat.Hf {A B cs:List Value} {o k:Nat} {x:List Value} (hA:A.length=o) (hk:k+x.length<=cs.length):splice (A++cs++B) (o+k) x=A++splice cs k x++B:=by
 subst hA
 unfold splice
 have h1:(A++cs++B).take (A.length+k)=A++cs.take k:=by
  rw [cD,List.take_append,List.take_of_length_le oO,show A.length+k - A.length=k by omega,fh oO]
 have h2:(A++cs++B).drop (A.length+k+x.length)=cs.drop (k+x.length)++B:=by
  rw [cD,List.drop_append,eD oO,show A.length+k+x.length - A.length=k+x.length by omega,fv hk,eM]
 rw [h1,h2]
 simp only [cD]
theorem _root_.Go.AH.Heat.aW.updP {U x:Heap} {i:Nat} {A B cs cs':List Value} {v:Value} (hA:dN A=true) (hB:dN B=true) (hp:dN cs'=true) (hi:i < U.length) (hv:AH.plain v=true):aW (U.set i (.rw (A++cs++B))) (U.set i (.rw (A++cs'++B))++x) v v (U.set i (.rw (A++cs'++B))) :=
 aW.upd (by rw [pX,pX,hA,hB,hp];rfl) hi hv
theorem adb {A B:Prop} (k:B) (h:Hide B->A:=by intro z_;(repeat' (first|refine sCm ?_|(refine gU ?_;first|(refine cO ?_;refine st (aJ rfl (by exact hc1)) rfl rfl ?_)|refine sK0 ?_|refine Qc ?_|(refine gZ ?_;refine stN (bW rfl rfl rfl rfl (by exact hput)) rfl ?_))|refine aG ?_|refine fA rfl ?_|refine fM rfl ?_));exact z_.h):A:=h ⟨k⟩
theorem ade (U:Heap) (i a o:Nat) (A B:List Value) (hA:A.length=o) (hpA:dN A=true) (hpB:dN B=true) (b:Int) (l:List Int) (hl:l.length=1001) (hi:i < U.length) (hb:b<=1000) (hab:(a:Int)<=b+1) :
  Ev prog 257 [.pointer (some ⟨i,o,none⟩),.agg #[.i (a:Int),.i b]] (U.set i (aC.rw (A++r8 (jK a 0 l)++B))) (.tuple #[]) (U.set i (aC.rw (A++r8 (jK a (b+1 - a).toNat l)++B))):=by
 obtain ⟨n,hn⟩:∃ n:Nat,b+1 - a=(n:Int):=⟨(b+1 - a).toNat,oO⟩
 rw [hn,dj]
 have d:∀ o:aC,(U.set i o).length=U.length:=fun o=>by simp
 refine aH (U.set i (aC.rw (A++r8 (jK a 0 l)++B))).length 17 func257 rfl rfl rfl rfl rfl ?_
 have hc1:aI (U.set i (aC.rw (A++r8 (jK a 0 l)++B))++[aC.rw [.i (a:Int),.i b]]) (U.set i (aC.rw (A++r8 (jK a 0 l)++B))).length (0+0)=some (.i (a:Int)):=ig rfl
 refine adb ?_
 refine dB [(0,.pointer (some ⟨i,o,none⟩)),(3,.p U.length),(4,.i ((a+0:Nat):Int))] (U.set i (aC.rw (A++r8 (jK a 0 l)++B))++[aC.rw [.i (a:Int),.i b]]) rfl ⟨rfl,by rw [d];rfl,rfl,trivial⟩ ?_
 clear hc1
 refine jq (ι:=Nat) (fun k=>[(0,.pointer (some ⟨i,o,none⟩)),(3,.p U.length),(4,.i ((a+k:Nat):Int))]) (fun k=>U.set i (aC.rw (A++r8 (jK a k l)++B))++[aC.rw [.i (a:Int),.i b]]) (fun k=>n - k) (fun k=>k<=n) 0 oS (.same tE) (bL _) ?_
 intro k hk
 have hc1:aI (U.set i (aC.rw (A++r8 (jK a k l)++B))++[aC.rw [.i (a:Int),.i b]]) U.length (0+1)=some (.i b):=ig (d _)
 by_cases hkn:k<n
 ·have e:((a+k:Nat):Int)<=b:=oO
  have hput:putCells (U.set i (aC.rw (A++r8 (jK a k l)++B))++[aC.rw [.i (a:Int),.i b]]) i (o+(a+k)*1) [.int .i8 1]=some (U.set i (aC.rw (A++r8 (jK a (k+1) l)++B))++[aC.rw [.i (a:Int),.i b]]):=by
   have c:=FW (a:=a) (k:=k) (l:=l) oO
   rw [fF (cs:=A++r8 (jK a k l)++B) (cs':=A++r8 (jK a (k+1) l)++B) (by rw [bO (oU hi)];simp [hi]) (by simp [jc,c,hA];omega) (by simp only [bA,jc,c,hA,List.length_singleton];omega)
    (by rw [cH,Hf hA (by rw [jc,c];simp only [List.length_singleton];omega),Kz oO]),cI _ _ (oU hi),cN]
  refine adb ?_
  exact ⟨rfl,k+1,oO,oO,.same tE⟩
 ·obtain rfl:k=n:=oO
  have e:¬ ((a+k:Nat):Int)<=b:=oO
  refine adb ?_
  exact RZ (v2:=.tuple #[]) (σ2:=U.set i (aC.rw (A++r8 (jK a k l)++B))) .nil (Go.AH.Heat.aW.updP (U:=U) (i:=i) hpA hpB (nK (jK a k l)) hi rfl) ⟨rfl,rfl⟩
theorem adf {U:Heap} {i o:Nat} {A B:List Value} {lo hi:Int} {l:List Int} (h:U[i]?=some (.rw (A++r8 l++B))) (hA:A.length=o) (hpA:dN A=true) (hpB:dN B=true) (hl:l.length=1001) (h0:0<=lo) (hb:hi<=1000) (hab:lo<=hi+1) :
  Ev prog 257 [.pointer (some ⟨i,o,none⟩),.agg #[.i lo,.i hi]] U (.tuple #[]) (U.set i (.rw (A++r8 (vW lo hi l)++B))):=by
 obtain ⟨a,rfl⟩:∃ a:Nat,lo=(a:Int):=⟨lo.toNat,oO⟩
 have:=ade U i a o A B hA hpA hpB hi l hl (aS h) hb hab
 rw [Ky,set_self h] at this
 exact this
theorem YX {A B:Prop} (k:B) (h:Hide B->A:=by intro z_;(repeat' (first|refine sCm ?_|(refine gU ?_;first|(refine cO ?_;refine st (aJ rfl (by first|exact hc1|exact hc2)) rfl rfl ?_)|refine sK0 ?_|refine Qc ?_)|refine aG ?_|refine DT rfl ?_|refine D8 ?_|refine D7 ?_|refine ZT ?_|refine fA rfl ?_|refine fM rfl ?_));exact z_.h):A:=h ⟨k⟩
theorem aaw (U:Heap) (i a o:Nat) (b:Int) (l:List Int) (h:aK U i o 1001=some (r8 l)) (hl:l.length=1001) (hb:b<=1000) (hab:(a:Int)<=b+1) (t:Bool) (ht:t=true↔∃ k:Nat,a<=k/\(k:Int)<=b/\gi l k=1) :
  Ev prog 170 [.pointer (some ⟨i,o,none⟩),.agg #[.i (a:Int),.i b]] U (.bool t) U:=by
 have hi:i < U.length:=dS h
 refine aH U.length 22 func170 (h:=?_)
 have hc1:aI (U++[aC.rw [.i (a:Int),.i b]]) U.length (0+0)=some (.i (a:Int)):=ig rfl
 refine YX ?_
 refine jq (ι:=Nat) (fun k=>[(0,.pointer (some ⟨i,o,none⟩)),(3,.p U.length),(5,.bool false),(6,.i ((a+k:Nat):Int))]) (fun _=>U++[aC.rw [.i (a:Int),.i b]]) (fun k=>(b+1 - a).toNat - k) (fun k=>((a+k:Nat):Int)<=b+1/\∀ j,a<=j->j<a+k->gi l j ≠ 1) 0 oS (.same tE) ⟨oO,fun j h1 h2=>oO⟩ ?_
 clear hc1
 rintro k ⟨hk,hn⟩
 have hc1:aI (U++[aC.rw [.i (a:Int),.i b]]) U.length (0+1)=some (.i b):=ig rfl
 by_cases d:((a+k:Nat):Int)<=b
 ·have hc2:aI (U++[aC.rw [.i (a:Int),.i b]]) i (o+(a+k)*1)=some (.int .i8 (gi l (a+k))):=by
   rw [cH,mW hi,eX h oO]
   exact Kw oO
  by_cases h1:gi l (a+k)=1
  ·obtain rfl:t=true:=ht.2 ⟨a+k,oO,d,h1⟩
   clear ht
   clear hn
   generalize gi l (a+k)=x at *
   refine YX ?_
   exact dG (.tmp rfl .nil) (.plain oS rfl) ⟨rfl,rfl⟩
  ·have c:∀ j,a<=j->j<a+(k+1)->gi l j ≠ 1:=fun j g1 g2=>by
    by_cases hj:j=a+k
    ·subst hj;exact h1
    ·exact hn j g1 oO
   clear hn
   generalize gi l (a+k)=x at *
   refine YX ?_
   exact ⟨rfl,k+1,⟨oO,c⟩,oO,.same tE⟩
 ·obtain rfl:t=false:=by
   cases t with
   |false=>rfl
   |true=>obtain ⟨j,g1,g2,g3⟩:=ht.1 rfl;exact absurd g3 (hn j g1 oO)
  clear hn ht
  refine YX ?_
  exact dG (.tmp rfl .nil) (.plain oS rfl) ⟨rfl,rfl⟩
theorem yw {U:Heap} {i o:Nat} {lo hi:Int} {l:List Int} (h:aK U i o 1001=some (r8 l)) (hl:l.length=1001) (h0:0<=lo) (hb:hi<=1000) (hab:lo<=hi+1) :
  Ev prog 170 [.pointer (some ⟨i,o,none⟩),.agg #[.i lo,.i hi]] U (.bool (kS lo hi l)) U:=by
 obtain ⟨a,rfl⟩:∃ a:Nat,lo=(a:Int):=⟨lo.toNat,oO⟩
 refine aaw U i a o hi l h hl hb hab _ (Ob.trans ?_)
 rw [dj]
 exact ⟨fun ⟨k,h1,h2,h3⟩=>⟨k,h1,oO,h3⟩,fun ⟨k,h1,h2,h3⟩=>⟨k,h1,oO,h3⟩⟩
theorem _root_.Go.AH.aN {U:Heap} {o:aC}:(U++[o])[U.length]?=some o:=oS
theorem _root_.Go.AH.iH {U:Heap} {cs vs:List Value} (h:vs.length<=cs.length) (h0:0<cs.length):putCells (U++[.rw cs]) U.length 0 vs=some (U++[.rw (splice cs 0 vs)]):=by
 unfold putCells
 rw [aN]
 simp only [aR]
 rw [show Nat.ble vs.length cs.length=true from fc h,show Nat.blt 0 cs.length=true from Nat.blt_eq.mpr h0]
 simp
theorem _root_.Go.AH.dZ {U:Heap} {cs:List Value} {n:Nat} (h:cs.length=n):aK (U++[.rw cs]) U.length 0 n=some cs:=by
 unfold aK
 rw [aN]
 simp only [aR,<- h,List.drop_zero,eb,show Nat.ble cs.length cs.length=true from fc (aD _),cond_true]
end Go.Proofs.YtajpgeklmcjciaaGreat
namespace Go.AH.Heat
theorem KA {n:Nat}:∀ {U:Heap},(∀ (i:Nat) (o:aC),U[i]?=some o->fV n o)->fD n U
 |[],_=>trivial
 |o::r,h=>⟨h 0 o rfl,KA fun i x hx=>h (i+1) x (oU hx)⟩
theorem WO {P:Program} {n0 N:Nat} {rd:Option Nat} {Q:Post} {e:Env} {mk:List Nat} {U:Heap} {c:Code} (h:fD U.length U->bJ P n0 N rd c Q e mk U):bJ P n0 N rd c Q e mk U:=by
 intro G w0 ρ0 A w hi
 have a:=hi
 obtain ⟨h0,V,ha,hs,he⟩:=a
 exact h (KA fun i o hi=>jg (hs.obj i o hi)) G w0 ρ0 A w hi
theorem aW.dropAll {σin H Y:Heap} {v:Value} (hl:σin.length=H.length) (hc:fD H.length H) (hv:AH.plain v=true):aW σin (H++Y) v v H:=by
 refine .inr fun _=>⟨fun i=>⟨i,0,0⟩,⟨oO,fun _ _=>rfl,fun i o hi=>?_,fun i i' oi oi' _ _ _ _ h=>h⟩,bF v hv⟩
 have a:=aS hi
 exact lZ (m:=H.length) (fun _ _=>rfl) (aD _) a (by rw [bO a];exact hi) (Ac hc i o hi)
abbrev jP (k:Int×Int×Int):List Value:=[.int .i64 k.1,.int .i64 k.2.1,.int .i64 k.2.2]
def yx (kf:Nat->Int×Int×Int) (n q:Nat):Int:=if q+1<n then (kf (q+1)).1 - 1 else 1000
end Go.AH.Heat
namespace Go.Proofs.YtajpgeklmcjciaaGreat
attribute [local irreducible] dA bJ bK jh fQ dK eH bY eu aW dR dW
open Go.AH.Heat
theorem Oc {A B:Prop} (k:B) (h:Hide B->A:=by intro z_;(repeat' (first|refine sCm ?_|(refine gU ?_;first|(refine cO ?_;first|refine st (aJ rfl (by first|exact hc1|exact hc2|exact hc3|exact ig rfl)) rfl rfl ?_|refine st (bG rfl (by first|exact hd1|exact hd2)) rfl rfl ?_)|refine sK4 ?_|refine sK0 ?_|(refine rW ?_;refine st (iV rfl) rfl rfl ?_)|refine sK3 ?_|refine FP ?_|(refine gZ ?_;refine stN (bW rfl rfl rfl rfl (by exact hput)) rfl ?_))|refine aG ?_|refine fA rfl ?_|refine fM rfl ?_));exact z_.h):A:=h ⟨k⟩
theorem Dc {U:Heap} {l ib ik n c N' p1 p2:Nat} {kf:Nat->Int×Int×Int} {e':Env} {assign body:Code} {R:Value->Heap->Prop} (S:Nat->Heap)
  (h0:S 0=U) (hlen:∀ j,(S j).length=U.length) (hib:∀ j,aK (S j) ib 0 1=some [.s ik n c])
  (hik:∀ j,∀ q<n,aK (S j) ik (q*3) 3=some (jP (kf q))) (hk0:∀ q<n,0<=(kf q).1/\(kf q).1<=1000) (hn:n<=1000000)
  (hL:∀ j,(S j)[l]?=some (.loop .ready none N' e' [p1,p2].toArray assign body)) (hcl:fD U.length U->∀ j,fD U.length (S j)) (hps:Nat.blt p1 N'=true/\Nat.blt p2 N'=true)
  (hround:∀ j<n,∀ (X:Heap) (QB:Post),(∀ e1 mk1 Y,QB .normal e1 mk1 ((S (j+1)).set l (.loop .busy none N' e' [p1,p2].toArray assign body)++X++Y)) ->
   bJ prog (U.length+X.length) N' (some l) assign (dR prog (U.length+X.length) N' l body QB)
    (lu [p1,p2] [.agg #[.i (kf j).1,.i (yx kf n j)],.agg #[.i (kf j).2.1,.i (kf j).2.2]] e') [] (S j++X))
  (hR:R (.tuple #[]) (S n)):eu prog 258 [.func (.yield l) #[] #[],.p ib] U R:=by
 refine aH U.length 38 func258 (h:=?_)
 refine WO fun m=>?_
 replace hcl:=hcl m
 clear m
 rw [<- h0]
 have hb:∀ j,aI (S j) ib (0+0)=some (.s ik n c):=fun j=>eX (hib j) oO
 have hc1:=hb 0
 refine Oc ?_
 refine jq (ι:=Nat) (fun k=>[(0,.func (.yield l) #[] #[]),(1,.p ib),(7,.s ik n c),(8,.i (n:Nat)),(9,.i (k:Nat))]) (fun k=>S k) (fun k=>n - k) (fun k=>k<=n) 0 oS (.same tE) (bL _) ?_
 intro k hk
 obtain ⟨H,hH⟩:∃ H,S k=H:=⟨_,rfl⟩
 rw [hH]
 by_cases f:k<n
 ·have t:H.length=U.length:=by rw [<- hH,hlen]
  have hd1:aK H ik (0+k*3) 3=some (jP (kf k)):=by rw [<- hH,aR];exact hik k k f
  have hc2:aI (H++[aC.rw (jP (kf k))]) ib (0+0)=some (.s ik n c):=by rw [<- hH,mW (dS (hib k))];exact hb k
  have hc3:k+1<n->aI (H++[aC.rw (jP (kf k))]) ik (0+(k+1)*3+0)=some (.i (kf (k+1)).1):=fun h=>by
   rw [<- hH,mW (dS (hik k k f)),aR,eX (hik k (k+1) h) oO];rfl
  have hk1:=hk0 k f
  have u:k+1<n->0<=(kf (k+1)).1/\(kf (k+1)).1<=1000:=hk0 (k+1)
  have v:(k:Int)<n:=oO
  have hput:putCells (H++[aC.rw (dM (.agg #[.i 0,.i 0,.i 0]))]) H.length 0 (jP (kf k))=some (H++[aC.rw (jP (kf k))]):=iH (aD 3) oD
  have hd2:aK (H++[aC.rw (jP (kf k))]) H.length (0+1) 2=some [.i (kf k).2.1,.i (kf k).2.2]:=by
   unfold aK;rw [aN];rfl
  have a:l < U.length:=by rw [<- h0];exact aS (hL 0)
  have g:ib < U.length:=by rw [<- h0];exact dS (hib 0)
  have o:ik < U.length:=by rw [<- h0];exact dS (hik 0 k f)
  by_cases r:k+1<n
  ·have w:((k+1:Nat):Int)<n:=oO
   have hc3:=hc3 r
   have u:=u r
   have d:yx kf n k=(kf (k+1)).1 - 1:=if_pos r
   refine Oc ?_
   have hr:=hround k f [aC.rw (jP (kf k))]
   rw [d,hH] at hr
   refine yh (ps:=[p1,p2]) rfl rfl (by rw [bO (by rw [t];exact a),<- hH];exact hL k) rfl (by simp [hps]) rfl ?_
   rw [show (H++[aC.rw (jP (kf k))]).length=U.length+[aC.rw (jP (kf k))].length by simp [t]]
   refine hr _ fun e1 mk1 Y=>?_
   have hg:(((S (k+1)).set l (aC.loop .busy none N' e' #[p1,p2] assign body))++[aC.rw (jP (kf k))]++Y)[l]?=some (aC.loop .busy none N' e' #[p1,p2] assign body):=by
    rw [cD,bO (by simp [hlen,a])];simp [hlen,a]
   refine vV hg rfl ?_
   have e:(((S (k+1)).set l (aC.loop .busy none N' e' #[p1,p2] assign body))++[aC.rw (jP (kf k))]++Y).set l (kV .ready none (aC.loop .busy none N' e' #[p1,p2] assign body))=S (k+1)++([aC.rw (jP (kf k))]++Y):=by
    rw [cD,cI _ _ (by simp [hlen,a]),cN]
    simp only [kV]
    rw [set_self (hL (k+1))]
   rw [e]
   refine Oc ?_
   refine ⟨rfl,k+1,oO,oO,?_⟩
   exact mP.drop (S (k+1)) _ (by rw [hlen,hlen];exact aD _) (by rw [hlen];exact hcl (k+1)) (by rw [hlen];exact ⟨⟨rfl,by simp [closed,jC,dU,a],rfl⟩,⟨rfl,Nat.blt_eq.mpr g,rfl⟩,⟨rfl,cZ (Nat.blt_eq.mpr o),rfl⟩,⟨rfl,rfl,rfl⟩,⟨rfl,rfl,rfl⟩,trivial⟩)
  ·have w:¬ ((k+1:Nat):Int)<n:=oO
   have d:yx kf n k=1000:=if_neg r
   refine Oc ?_
   have hr:=hround k f [aC.rw (jP (kf k))]
   rw [d,hH] at hr
   refine yh (ps:=[p1,p2]) rfl rfl (by rw [bO (by rw [t];exact a),<- hH];exact hL k) rfl (by simp [hps]) rfl ?_
   rw [show (H++[aC.rw (jP (kf k))]).length=U.length+[aC.rw (jP (kf k))].length by simp [t]]
   refine hr _ fun e1 mk1 Y=>?_
   have hg:(((S (k+1)).set l (aC.loop .busy none N' e' #[p1,p2] assign body))++[aC.rw (jP (kf k))]++Y)[l]?=some (aC.loop .busy none N' e' #[p1,p2] assign body):=by
    rw [cD,bO (by simp [hlen,a])];simp [hlen,a]
   refine vV hg rfl ?_
   have e:(((S (k+1)).set l (aC.loop .busy none N' e' #[p1,p2] assign body))++[aC.rw (jP (kf k))]++Y).set l (kV .ready none (aC.loop .busy none N' e' #[p1,p2] assign body))=S (k+1)++([aC.rw (jP (kf k))]++Y):=by
    rw [cD,cI _ _ (by simp [hlen,a]),cN]
    simp only [kV]
    rw [set_self (hL (k+1))]
   rw [e]
   refine Oc ?_
   refine ⟨rfl,k+1,oO,oO,?_⟩
   exact mP.drop (S (k+1)) _ (by rw [hlen,hlen];exact aD _) (by rw [hlen];exact hcl (k+1)) (by rw [hlen];exact ⟨⟨rfl,by simp [closed,jC,dU,a],rfl⟩,⟨rfl,Nat.blt_eq.mpr g,rfl⟩,⟨rfl,cZ (Nat.blt_eq.mpr o),rfl⟩,⟨rfl,rfl,rfl⟩,⟨rfl,rfl,rfl⟩,trivial⟩)
 ·obtain rfl:k=n:=oO
  have v:¬ (k:Int)<k:=oO
  refine Oc ?_
  exact RZ (v2:=.tuple #[]) (σ2:=H) .nil .all (by rw [<- hH];exact hR)
end Go.Proofs.YtajpgeklmcjciaaGreat
namespace Go.AH
theorem aF {U:Heap} {i o:Nat} {cs:List Value} (h:U[i]?=some (.rw cs)):aI U i o=cs[o]?:=by unfold aI;rw [h]
theorem KC {U:Heap} {i o:Nat} {cs:List Value} {t:TypeId} (h:U[i]?=some (.gr cs t)):aI U i o=cs[o]?:=by unfold aI;rw [h]
theorem aV {U:Heap} {i m:Nat} {cs:List Value} (h:U[i]?=some (.rw cs)) (hl:cs.length=m):aK U i 0 m=some cs:=by
 subst hl;exact wO (.inr (.inl h))
theorem jL {U H:Heap} {i:Nat} (hp:H.take U.length=U) (hi:i < U.length):H[i]?=U[i]?:=by
 conv=>rhs;rw [<- hp]
 rw [ey,if_pos hi]
theorem dJ {U H:Heap} {i o m:Nat} {cs:List Value} (hp:H.take U.length=U) (h:aK U i o m=some cs):aK H i o m=some cs:=by
 have hi:=Go.AH.Heat.dS h
 have:H[i]?=U[i]?:=jL hp hi
 unfold aK at h ⊢
 rw [this];exact h
theorem aP {U H X:Heap} (hp:H.take U.length=U):(H++X).take U.length=U:=by
 have:U.length<=H.length:=by
  have:=congrArg List.length hp;simp at this;omega
 rw [fh this];exact hp
theorem take_set {U H:Heap} {i:Nat} {o:aC} (hp:H.take U.length=U) (hi:U.length<=i):(H.set i o).take U.length=U:=by
 rw [List.take_set_of_le hi];exact hp
theorem take_len {U H:Heap} (hp:H.take U.length=U):U.length<=H.length:=by
 have:=congrArg List.length hp;simp at this;omega
theorem aA {H X:Heap} {i:Nat} {o:aC} (h:H[i]?=some o):(H++X)[i]?=some o:=by
 rw [bO (aS h)];exact h
theorem aB {H:Heap} {i j:Nat} {o x:aC} (h:H[i]?=some o) (hij:j ≠ i):(H.set j x)[i]?=some o:=by
 rw [eE hij];exact h
theorem aQ {H:Heap} {i:Nat} {o x:aC} (h:H[i]?=some o):(H.set i x)[i]?=some x:=by
 rw [List.getElem?_set_self (aS h)]
theorem bP {H:Heap} {o:aC} {n:Nat} (h:H.length=n):(H++[o])[n]?=some o:=by subst h;simp
section
variable {P:Program} {rd:Option Nat} {ty:TypeId} {e:Env} {U:Heap} {x y:Operand}
theorem y9 {t el size bytes j oj m c:Nat} {agg:Bool} {z:Value} {news:List Value} [ha:Sl P t el] [ht:Ty P el size agg z bytes] (hzs:z.cells.size=size)
  (hx:aT e x=some (.slice none 0 0)) (hy:aT e y=some (.slice (some ⟨j,oj,none⟩) m c)) (hc:aK U j oj (m*size)=some news) (hm:0<m) (h1:news.all (·.oneCell')=true)
  (hb:m<=1000000) (hby:bytes<=1000000) (h0:Nat.blt 0 size=true:=by decide) :
  bY P rd (.call { callee:=.builtin .append,args:=#[x,y],argTypes:=#[t,t] }) ty e U (eP (U.length+1) size m) (U++[.dead,.gr news el]):=by
 refine TI (el:=el) ?_
 have a:aK (U++[.gr [] el]) j oj (m*size)=some news:=by rw [Go.AH.Heat.jl (Go.AH.Heat.dS hc)];exact hc
 have:=jO (P:=P) (rd:=rd) (ty:=ty) (e:=e) (U:=U++[.gr [] el]) (x:=x) (y:=y) (t:=t) (el:=el) (i:=U.length) (n:=0) (cs:=[]) hzs h0 (by simpa [eP] using hx) oS oS hy a hm h1 oO hby
 simpa using this
end
theorem Df {P:Program} {rd:Option Nat} {ty:TypeId} {e:Env} {U:Heap} {x:Operand} {t el size bytes:Nat} {z:Value} {cs:List Value} [ha:Sl P t el] [ht:Ty P el size true z bytes] (hz:plain z=true)
  (hsz:z.cells.size=size) (h0:Nat.blt 0 (1*size)=true) (h1:Nat.ble (1*size) 16777216=true) (h:aT e x=some (.agg cs.toArray)) (hl:cs.length=size) :
  bY P rd (.buildSlice t 1 [(0,x)].toArray) ty e U (.s U.length 1 1) (U++[.rw cs]):=by
 refine oW hz hsz h0 h1 (vs:=[(0,.agg cs.toArray)]) (by simp [tJ,h]) ?_
 have hv:=(kJ (bF (q:=false) (n:=0) (V:=fun k=>⟨k,0,0⟩) z hz)).1
 have hv:(dM z).length=z.cells.size:=by simpa using hv
 have a:(fZ (dM z) 1).length=size:=by rw [pW,hv,hsz];simp
 simp only [rO,Nat.zero_mul]
 have c:dM (.agg cs.toArray)=cs:=rfl
 rw [c,hl,a]
 simp only [Nat.beq_refl,aR,Bool.true_and]
 rw [show Nat.ble size size=true from Nat.ble_eq.mpr (aD _)]
 simp only [cond_true,Option.some.injEq]
 unfold splice
 rw [List.take_zero,eM,aR,hl,eD oO,bN]
theorem aX {H X:Heap} (h:H.all (fun o=>!aU o)=true) (hx:X.all (fun o=>!aU o)=true):(H++X).all (fun o=>!aU o)=true:=by rw [List.all_append,h,hx];rfl
theorem jr {H:Heap} {i:Nat} {o:aC} (h:H.all (fun o=>!aU o)=true) (ho:aU o=false):(H.set i o).all (fun o=>!aU o)=true:=by
 rw [dT] at h ⊢
 intro x hx
 rcases List.mem_or_eq_of_mem_set hx with h1|rfl
 ·exact h x h1
 ·rw [ho];rfl
section
variable {P:Program} {n0 N:Nat} {rd:Option Nat} {Q:Post} {e:Env} {mk:List Nat} {U:Heap}
theorem dO {ι:Type} (E:ι->Env) (p:ι->List Nat->Heap->Prop) (μ:ι->Nat) (i0:ι) {body:Code} (h0:pK e (E i0)) (hp:p i0 mk U)
  (round:∀ i mk H,p i mk H->bJ P n0 N rd body (fQ (fun e' mk' σ'=>∃ i',p i' mk' σ'/\μ i' < μ i/\pK e' (E i')) Q) (E i) mk H):bJ P n0 N rd (.loop body) Q e mk U:=by
 refine VA (fun m e1 a σ1=>∃ i,p i a σ1/\μ i=m/\pK e1 (E i)) (m0:=μ i0) ⟨i0,hp,rfl,h0⟩ ?_
 rintro m e1 a σ1 ⟨i,c,rfl,d⟩
 refine dB (E i) σ1 rfl d ((round i a σ1 c).mono ?_)
 intro ex e' mk' σ' h
 cases ex with
 |normal =>
  obtain ⟨i',h2,h3,h4⟩:=h
  exact ⟨μ i',h3,i',h2,rfl,h4⟩
 |_=>exact h
end
def Mks (n:Nat) (mk:List Nat) (H:Heap):Prop:=mk.Nodup/\∀ i ∈ mk,n<=i/\H[i]?=some .dfr
theorem Mks.nil {n:Nat} {H:Heap}:Mks n [] H:=⟨List.nodup_nil,fun _ h=>by simp at h⟩
theorem Mks.app {n:Nat} {mk:List Nat} {H:Heap} (h:Mks n mk H) (X:Heap):Mks n mk (H++X):=⟨h.1,fun i hi=>⟨(h.2 i hi).1,aA (h.2 i hi).2⟩⟩
theorem Mks.set {n i:Nat} {mk:List Nat} {H:Heap} {o x:aC} (h:Mks n mk H) (hi:H[i]?=some o) (ho:o ≠ .dfr):Mks n mk (H.set i x) :=
 ⟨h.1,fun j hj=>⟨(h.2 j hj).1,aB (h.2 j hj).2 fun e=>ho (by have:=(h.2 j hj).2;rw [<- e,hi] at this;exact Option.some.inj this)⟩⟩
theorem Mks.cons {n i:Nat} {mk:List Nat} {H:Heap} (h:Mks n mk H) (hn:i ∉ mk) (h1:n<=i) (hi:H[i]?=some .dfr):Mks n (i::mk) H :=
 ⟨List.nodup_cons.2 ⟨hn,h.1⟩,fun j hj=>by rcases List.mem_cons.1 hj with rfl|hj;exact ⟨h1,hi⟩;exact h.2 j hj⟩
theorem Mks.not {n i:Nat} {mk:List Nat} {H:Heap} {o:aC} (h:Mks n mk H) (hi:H[i]?=some o) (ho:o ≠ .dfr):i ∉ mk:=fun hm=>ho (by have:=(h.2 i hm).2;rw [hi] at this;exact Option.some.inj this)
theorem Mks.new {n i:Nat} {mk:List Nat} {H:Heap} (h:Mks n mk H) (hi:H.length<=i):i ∉ mk:=fun hm=>by have:=aS (h.2 i hm).2;omega
theorem rD:∀ {mk:List Nat} {H:Heap} {i:Nat} {o:aC},H[i]?=some o->i ∉ mk->(kE mk H)[i]?=some o
 |[],_,_,_,h,_=>h
 |j::mk,H,i,o,h,hn=>rD (mk:=mk) (aB h fun e=>hn (by rw [e];exact fu ..)) fun hm=>hn (dm _ hm)
theorem nR {U:Heap}:∀ {mk:List Nat} {H:Heap},H.take U.length=U->(∀ i ∈ mk,U.length<=i)->(kE mk H).take U.length=U
 |[],_,h,_=>h
 |j::mk,H,h,hm=>nR (mk:=mk) (take_set h (hm j (fu ..))) fun i hi=>hm i (dm _ hi)
theorem Qk {P:Program} {e:Env} {n:Nat} {mk:List Nat} {H σin:Heap} {rv:List ResultVar} {R:Value->Heap->Prop} {vs:List Value} {v2:Value} {σ2:Heap} (hm:Mks n mk H) (hr:tC P e (kE mk H) rv vs) (href:aW σin (kE mk H) (jH vs) v2 σ2) (hR:R v2 σ2) :
  jh P σin rv R .ret e mk H:=⟨hm.1,fun i hi=>(hm.2 i hi).2,vs,v2,σ2,hr,href,hR⟩
theorem vX {P:Program} {n1 N' l:Nat} {body:Code} {QB:Post} {e1:Env} {mk1:List Nat} {σ1:Heap} {L:aC} {N2:Nat} {e2:Env} {ps2:Array Tmp} {as2 bd2:Code} (h1:σ1[l]?=some L) (hL:L=.loop .ready none N2 e2 ps2 as2 bd2)
  (k:∀ B,B=aC.loop .busy none N2 e2 ps2 as2 bd2->bJ P n1 N' (some l) body QB e1 mk1 (σ1.set l B)):dR P n1 N' l body QB .normal e1 mk1 σ1:=by
 subst hL;exact TV h1 (k _ rfl)
theorem FX {A X:Heap} {a b r r' y:aC} {p l:Nat} (hp:p<A.length) (hl:l<A.length) (hpl:p ≠ l):(((A.set p r++X++[a]++[b]).set l y).set p r')=(A.set p r').set l y++X++[a,b]:=by
 rw [cD (A.set p r++X),cD (A.set p r),cI _ _ (oU hl),cI _ _ (oU hp)]
 rw [List.set_comm _ _ (by omega:l ≠ p),cN,cD]
 rfl
theorem KD {A X:Heap} {a b r y:aC} {p l:Nat} (hl:l<A.length):((A.set p r++X++[a]++[b]).set l y)=(A.set p r).set l y++X++[a,b]:=by
 rw [cD (A.set p r++X),cD (A.set p r),cI _ _ (oU hl),cD]
 rfl
theorem sF {U:Heap} {n j k:Nat} {Z:Rho} {cs cs2:List Value} (hk:Z k=⟨j,0,0⟩) (h:U[j]?=some (.rw cs)\/∃ t,U[j]?=some (.gr cs t)) (hl:cs2.length=cs.length)
  (hv:∀ (i:Nat) (h1:i<cs2.length) (h2:i<cs.length),jS n Z cs2[i] cs[i]):xX U n Z (Z k) (.rw cs2) :=
 .inr ⟨by rw [hk],cs,by rw [hk];exact h,oO,fun i h1 h2=>hv i h1 h2⟩
theorem iW {n:Nat} {o:aC} (ho:fV n o):∀ {U:Heap} {i:Nat},fD n U->fD n (U.set i o)
 |[],_,h=>h
 |a::r,0,h=>⟨ho,h.2⟩
 |a::r,i+1,h=>⟨h.1,iW ho h.2⟩
end Go.AH
namespace Go.AH.Heat
open Go Go.AH Go.Proofs.YtajpgeklmcjciaaGreat
def zro:List Int:=List.replicate 1001 0
structure Wk where
 nb:Nat
 bf:Nat->Int×Int
 ns:Nat
 nw:Nat->Nat
 nk:Nat->Nat->Nat
 kf:Nat->Nat->Nat->Int×Int×Int
def oL (r:Int×Int):Prop:=0<=r.1/\r.1<=r.2/\r.2<=1000
def kOk (n:Nat) (kf:Nat->Int×Int×Int):Prop:=∀ q<n,0<=(kf q).1/\(kf q).1<=1000/\oL (kf q).2/\(q+1<n->(kf q).1<(kf (q+1)).1)
namespace Wk
variable (W:Wk)
structure Ok:Prop where
 b:∀ j<W.nb,oL (W.bf j)
 k:∀ i<W.ns,∀ k<W.nw i,kOk (W.nk i k) (W.kf i k)
 nb:W.nb<=1000
 ns:W.ns<=1000
 nw:∀ i<W.ns,W.nw i<=1000
 w1:∀ i<W.ns,0<W.nw i
 nk:∀ i<W.ns,∀ k<W.nw i,W.nk i k<=1000
def own (i k q:Nat):Int×Int:=((W.kf i k q).1,yx (W.kf i k) (W.nk i k) q)
def aft (i k q:Nat):Int×Int:=(W.kf i k q).2
end Wk
def wS (bf:Nat->Int×Int):Nat->List Int->List Int
 |0,l=>l
 |k+1,l=>vW (bf k).1 (bf k).2 (wS bf k l)
def spF (now:List Int) (fr to:Nat->Int×Int):Nat->List Int->List Int
 |0,l=>l
 |q+1,l=>if kS (fr q).1 (fr q).2 now then vW (to q).1 (to q).2 (spF now fr to q l) else spF now fr to q l
def wyF (now:List Int) (fr to:Nat->Nat->Int×Int) (nk:Nat->Nat):Nat->List Int->List Int
 |0,l=>l
 |k+1,l=>spF now (fr k) (to k) (nk k) (wyF now fr to nk k l)
namespace Wk
variable (W:Wk)
def front:Nat->List Int
 |0=>wS W.bf W.nb zro
 |i+1=>wyF (front i) (W.own i) (W.aft i) (W.nk i) (W.nw i) zro
def Ua (m:Int×Int):Nat->List Int
 |0=>vW m.1 m.2 zro
 |k+1=>wyF (Ua m k) (W.aft (W.ns - (k+1))) (W.own (W.ns - (k+1))) (W.nk (W.ns - (k+1))) (W.nw (W.ns - (k+1))) zro
def kM (m:Int×Int) (i:Nat):List Int:=W.Ua m (W.ns - i)
def qc (m:Int×Int) (k i:Nat):List Int:=if W.ns<=i+k then W.kM m i else zro
end Wk
theorem WQ (n:Nat) (l:List Int):fV n (.rw (r8 l)):=aY (nK l)
theorem lD:zro.length=1001:=ft ..
theorem FY {lo hi:Int} {l:List Int} (hl:l.length=1001) (h0:0<=lo) (h1:lo<=hi+1) (h2:hi<=1000):(vW lo hi l).length=1001:=by
 unfold vW;rw [FW oO,hl]
theorem afQ {n:Nat} {kf:Nat->Int×Int×Int} (h:kOk n kf) {q:Nat} (hq:q<n):0<=(kf q).1/\(kf q).1<=yx kf n q/\yx kf n q<=1000:=by
 have h1:=h q hq
 unfold yx
 split
 ·rename_i h2;have:=h1.2.2.2 h2;have:=h (q+1) h2;omega
 ·omega
theorem Aq {W:Wk} (h:W.Ok) {i k q:Nat} (hi:i<W.ns) (hk:k<W.nw i) (hq:q<W.nk i k):oL (W.own i k q):=afQ (h.k i hi k hk) hq
theorem Dh {W:Wk} (h:W.Ok) {i k q:Nat} (hi:i<W.ns) (hk:k<W.nw i) (hq:q<W.nk i k):oL (W.aft i k q):=(h.k i hi k hk q hq).2.2.1
theorem wU {bf:Nat->Int×Int} {l:List Int} (hl:l.length=1001):∀ {k:Nat},(∀ j<k,oL (bf j))->(wS bf k l).length=1001
 |0,_=>hl
 |k+1,h=>by have:=h k oO;exact FY (wU hl fun j hj=>h j oO) this.1 (by have:=this.2.1;omega) this.2.2
theorem BD {now l:List Int} {fr to:Nat->Int×Int} (hl:l.length=1001):∀ {n:Nat},(∀ q<n,oL (to q))->(spF now fr to n l).length=1001
 |0,_=>hl
 |q+1,h=>by
  have h1:=h q oO
  have ih:=BD (now:=now) (fr:=fr) hl (n:=q) fun j hj=>h j oO
  simp only [spF]
  split
  ·exact FY ih h1.1 (by have:=h1.2.1;omega) h1.2.2
  ·exact ih
theorem BF {now l:List Int} {fr to:Nat->Nat->Int×Int} {nk:Nat->Nat} (hl:l.length=1001):∀ {n:Nat},(∀ k<n,∀ q<nk k,oL (to k q))->(wyF now fr to nk n l).length=1001
 |0,_=>hl
 |k+1,h=>BD (BF hl fun j hj=>h j oO) (h k oO)
theorem kY {W:Wk} (h:W.Ok):∀ i≤W.ns,(W.front i).length=1001
 |0,_=>wU lD h.b
 |i+1,hi=>BF lD fun k hk q hq=>Dh h oO hk hq
theorem Oe {W:Wk} (h:W.Ok) {m:Int×Int} (hm:oL m):∀ k≤W.ns,(W.Ua m k).length=1001
 |0,_=>FY lD hm.1 (by have:=hm.2.1;omega) hm.2.2
 |k+1,hk=>BF lD fun j hj q hq=>Aq h oO hj hq
def dH (f:Nat->List Int):Nat->Nat->List Value
 |_,0=>[]
 |a,n+1=>r8 (f a)++dH f (a+1) n
theorem qK {f:Nat->List Int}:∀ {n a:Nat},(∀ j,a<=j->j<a+n->(f j).length=1001)->(dH f a n).length=n*1001
 |0,_,_=>by simp [dH]
 |n+1,a,h=>by
  simp only [dH,bA,jc]
  rw [qK fun j h1 h2=>h j oO oO,h a oO oO];omega
theorem Hg {f:Nat->List Int}:∀ {n a i:Nat},i<=n->dH f a n=dH f a i++dH f (a+i) (n - i)
 |n,a,0,_=>by simp [dH]
 |0,a,i+1,h=>by omega
 |n+1,a,i+1,h=>by
  simp only [dH]
  rw [Hg (n:=n) (a:=a+1) (i:=i) oO,show n+1 - (i+1)=n - i by omega,show a+1+i=a+(i+1) by omega,cD]
theorem Et {f:Nat->List Int} {n a i:Nat} (h:i<n):dH f a n=dH f a i++r8 (f (a+i))++dH f (a+i+1) (n - i - 1):=by
 rw [Hg (eC h),show n - i=(n - i - 1)+1 by omega]
 simp only [dH,Nat.add_sub_cancel]
 rw [cD]
theorem qL {f g:Nat->List Int}:∀ {n a:Nat},(∀ j,a<=j->j<a+n->f j=g j)->dH f a n=dH g a n
 |0,_,_=>rfl
 |n+1,a,h=>by
  simp only [dH]
  rw [h a oO oO,qL fun j h1 h2=>h j oO oO]
theorem mX (f:Nat->List Int):∀ (n a:Nat),dN (dH f a n)=true
 |0,_=>rfl
 |n+1,a=>by simp only [dH];rw [pX,nK,mX f n (a+1)];rfl
theorem WR {f:Nat->List Int} (n:Nat):dH f 0 (n+1)=dH f 0 n++r8 (f n):=by
 rw [Et (show n<n+1 by omega)]
 simp [dH]
theorem lF {U:Heap} {b n i:Nat} {f:Nat->List Int} (h:U[b]?=some (.rw (dH f 0 n))\/∃ t,U[b]?=some (.gr (dH f 0 n) t)) (hf:∀ j<n,(f j).length=1001) (hi:i<n):aK U b (0+i*1001) 1001=some (r8 (f i)):=by
 have hl:(dH f 0 n).length=n*1001:=qK fun j _ h2=>hf j oO
 have hlA:(dH f 0 i).length=i*1001:=qK fun j _ h2=>hf j oO
 have a:((dH f 0 n).drop (0+i*1001)).take 1001=r8 (f i):=by
  rw [Et hi,cD,aR,aR,fv oO,eD oO,eM,fh (by rw [jc,hf i hi];omega),List.take_of_length_le (by rw [jc,hf i hi];omega)]
 have hb:Nat.ble (0+i*1001+1001) (dH f 0 n).length=true:=by
  rw [hl,Nat.ble_eq]
  have:(i+1)*1001<=n*1001:=fd _ hi
  omega
 unfold aK
 rcases h with h|⟨t,h⟩ <;> (rw [h];simp only [hb,cond_true,a])
theorem Ql (m:Nat) (f:Nat->List Int) (a n:Nat):fV m (.rw (dH f a n)):=aY (mX f n a)
theorem FZ:r8 zro=List.replicate 1001 (.int .i8 0):=List.map_replicate
theorem MH {A B cs cs':List Value} {o:Nat} (hA:A.length=o) (hl:cs'.length=cs.length):splice (A++cs++B) o cs'=A++cs'++B:=by
 have:=Hf (A:=A) (cs:=cs) (B:=B) (k:=0) (x:=cs') hA oO
 rw [cV] at this
 rw [this]
 simp [splice,hl]
theorem F5 {f g:Nat->List Int} {n i:Nat} {row:List Int} (hi:i<n) (hg:∀ j<n,g j=if j=i then row else f j):dH g 0 n=dH f 0 i++r8 row++dH f (i+1) (n - i - 1):=by
 rw [Et hi,aR,qL (f:=g) (g:=f) (n:=i) (a:=0) fun j _ h=>by rw [hg j oO,if_neg oO],
  qL (f:=g) (g:=f) (n:=n - i - 1) (a:=i+1) fun j h1 h2=>by rw [hg j oO,if_neg oO],hg i hi,if_pos rfl]
theorem aax {H:Heap} {b n i:Nat} {f g:Nat->List Int} {row:List Int} (h:H[b]?=some (.rw (dH f 0 n))) (hf:∀ j<n,(f j).length=1001) (hi:i<n) (hr:row.length=1001) (hg:∀ j<n,g j=if j=i then row else f j) :
  putCells H b (0+i*1001) (r8 row)=some (H.set b (.rw (dH g 0 n))):=by
 have hl:(dH f 0 n).length=n*1001:=qK fun j _ h2=>hf j oO
 have a:(dH f 0 i).length=i*1001:=qK fun j _ h2=>hf j oO
 have:(i+1)*1001<=n*1001:=fd _ hi
 refine fF h (by rw [hl,jc,hr];omega) (by rw [hl];omega) ?_
 rw [F5 hi hg,Et hi,aR,aR]
 exact MH a (by rw [jc,jc,hr,hf i hi])
theorem aay (W:Wk) (m:Int×Int) {k i:Nat} (hk:k<W.ns) (hi:i=W.ns - k - 1):wyF (W.kM m (i+1)) (W.aft i) (W.own i) (W.nk i) (W.nw i) zro=W.kM m i:=by
 unfold Wk.kM
 rw [show W.ns - i=k+1 by omega,show W.ns - (i+1)=k by omega]
 simp only [Wk.Ua]
 rw [show W.ns - (k+1)=i by omega]
theorem WS (W:Wk) (m:Int×Int) {k i:Nat} (hk:k<W.ns) (hi:i=W.ns - k - 1) (t:Nat) (_ht:t<W.ns+1):(if t=i then W.kM m i else W.qc m k t)=W.qc m (k+1) t:=by
 unfold Wk.qc
 by_cases h:t=i
 ·rw [if_pos h,if_pos oO,h]
 ·rw [if_neg h]
  by_cases h2:W.ns<=t+k
  ·rw [if_pos h2,if_pos oO]
  ·rw [if_neg h2,if_neg oO]
theorem lG {W:Wk} (h:W.Ok) {m:Int×Int} (hm:oL m) (i:Nat):(W.kM m i).length=1001:=Oe h hm _ oO
theorem aaz {W:Wk} (h:W.Ok) {m:Int×Int} (hm:oL m) (k i:Nat):(W.qc m k i).length=1001:=by
 unfold Wk.qc;split
 ·exact lG h hm i
 ·exact lD
theorem afR (v:Value) (n:Nat) (h:v.oneCell'=true):(List.replicate n v).all (·.oneCell')=true:=by
 rw [dT];intro x hx;rw [(List.mem_replicate.1 hx).2];exact h
theorem WT (v:Value) (hv:dM v=[v]):∀ n,fZ (dM v) n=List.replicate n v
 |0=>rfl
 |n+1=>by simp only [fZ];rw [WT v hv n,hv,List.replicate_succ];rfl
theorem afS:∀ n:Nat,fZ (List.replicate 1001 (.int .i8 0)) n=dH (fun _=>zro) 0 n:=by
 have c:∀ n a,fZ (List.replicate 1001 (.int .i8 0)) n=dH (fun _=>zro) a n:=by
  intro n
  induction n with
  |zero=>intro a;rfl
  |succ n ih=>intro a;simp only [fZ,dH];rw [ih (a+1),FZ]
 exact fun n=>c n 0
structure Di (U:Heap) (W:Wk) (bB bS:Nat) (wB cW:Nat->Nat) (kB cK:Nat->Nat->Nat):Prop where
 bars:∀ j<W.nb,aK U bB (j*2) 2=some [.int .i64 (W.bf j).1,.int .i64 (W.bf j).2]
 steps:∀ i<W.ns,aK U bS i 1=some [.slice (some ⟨wB i,0,none⟩) (W.nw i) (cW i)]
 ways:∀ i<W.ns,∀ k<W.nw i,aK U (wB i) k 1=some [.slice (some ⟨kB i k,0,none⟩) (W.nk i k) (cK i k)]
 kinks:∀ i<W.ns,∀ k<W.nw i,∀ q<W.nk i k,aK U (kB i k) (q*3) 3=some (jP (W.kf i k q))
theorem Di.take {U H:Heap} {W:Wk} {bB bS:Nat} {wB cW:Nat->Nat} {kB cK:Nat->Nat->Nat} (h:Di U W bB bS wB cW kB cK) (hp:H.take U.length=U):Di H W bB bS wB cW kB cK :=
 ⟨fun j hj=>dJ hp (h.bars j hj),fun i hi=>dJ hp (h.steps i hi),fun i hi k hk=>dJ hp (h.ways i hi k hk),fun i hi k hk q hq=>dJ hp (h.kinks i hi k hk q hq)⟩
structure NT (U H:Heap) (wv mv:List Value) (tr:List Value) (now:List Int):Prop where
 pre:H.take U.length=U
 b0:H[U.length]?=some (.rw wv)
 b1:H[U.length+1]?=some (.rw mv)
 b2:H[U.length+2]?=some (.rw tr)
 b3:H[U.length+3]?=some (.rw [.pointer (some ⟨U.length+2,0,none⟩)])
 b4:H[U.length+4]?=some (.rw (r8 now))
section
variable {U H:Heap} {wv mv tr:List Value} {now:List Int}
theorem NT.app (h:NT U H wv mv tr now) (X:Heap):NT U (H++X) wv mv tr now:=⟨aP h.pre,aA h.b0,aA h.b1,aA h.b2,aA h.b3,aA h.b4⟩
theorem NT.setX (h:NT U H wv mv tr now) {i:Nat} (hi:U.length+5<=i) (o:aC):NT U (H.set i o) wv mv tr now :=
 ⟨take_set h.pre oO,aB h.b0 oO,aB h.b1 oO,aB h.b2 oO,aB h.b3 oO,aB h.b4 oO⟩
theorem NT.setR (h:NT U H wv mv tr now) (now':List Int):NT U (H.set (U.length+4) (.rw (r8 now'))) wv mv tr now' :=
 ⟨take_set h.pre oO,aB h.b0 oO,aB h.b1 oO,aB h.b2 oO,aB h.b3 oO,aQ h.b4⟩
theorem NT.setT (h:NT U H wv mv tr now) (tr':List Value):NT U (H.set (U.length+2) (.rw tr')) wv mv tr' now :=
 ⟨take_set h.pre oO,aB h.b0 oO,aB h.b1 oO,aQ h.b2,aB h.b3 oO,aB h.b4 oO⟩
theorem NT.len (h:NT U H wv mv tr now):U.length+5<=H.length:=by have:=aS h.b4;omega
end
end Go.AH.Heat
namespace Go.Proofs.YtajpgeklmcjciaaGreat
attribute [local irreducible] dA bJ bK jh fQ dK eH bY eu aW dR dW
open Go.AH.Heat
theorem KE {U:Heap} {v:Value}:Ev prog 171 [.agg #[v]] U (.func (.func 258) #[] #[.p U.length]) (U++[.rw [v]]):=by
 refine aH U.length 4 func171 (h:=?_)
 repeat' (first|refine sCm ?_|(refine gU ?_;refine sK7 ?_)|refine aG ?_)
 exact dG (.tmp rfl .nil) .all ⟨rfl,rfl⟩
end Go.Proofs.YtajpgeklmcjciaaGreat
namespace Go.AH.Heat
theorem afT {P:Program} {rd:Option Nat} {ty:TypeId} {e:Env} {U:Heap} {x y:Operand} {m n:Int} {t t':TypeId} (hx:aT e x=some (.int .i8 m)) (hy:aT e y=some (.int .i8 n)) (h1:m=0\/m=1) (h2:n=0\/n=1) :
  bY P rd (.binOp .mul t x y t') ty e U (.int .i8 (m*n)) U:=iU hx hy (by rcases h1 with rfl|rfl <;> rcases h2 with rfl|rfl <;> rfl)
theorem F6 (l:List Int):(r8 l).all (·.oneCell')=true:=by
 induction l with
 |nil=>rfl
 |cons a l ih=>simp only [r8,cG,List.all_cons] at ih ⊢;rw [ih];rfl
def nM:Nat->List Int->List Int->List Int
 |0,a,_=>a
 |k+1,x::a,y::b=>(x*y)::nM k a b
 |_+1,a,_=>a
theorem KF:∀ (k:Nat) (a b:List Int),(nM k a b).length=a.length
 |0,_,_=>rfl
 |k+1,[],[]=>rfl
 |k+1,[],_::_=>rfl
 |k+1,_::_,[]=>rfl
 |k+1,x::a,y::b=>by simp only [nM,dE,KF k a b]
theorem I8:∀ {k:Nat} {a b:List Int},k<a.length->k<b.length->gi (nM k a b) k=gi a k
 |0,_,_,_,_=>rfl
 |k+1,[],_,h,_=>by simp at h
 |k+1,_::_,[],_,h=>by simp at h
 |k+1,x::a,y::b,h1,h2=>by
  have:=I8 (k:=k) (a:=a) (b:=b) (oU h1) (oU h2)
  simpa [gi,nM] using this
theorem Og:∀ {k:Nat} {a b:List Int},k<a.length->k<b.length->(nM k a b).set k (gi a k*gi b k)=nM (k+1) a b
 |0,[],_,h,_=>by simp at h
 |0,_::_,[],_,h=>by simp at h
 |0,x::a,y::b,_,_=>by simp [nM,gi]
 |k+1,[],_,h,_=>by simp at h
 |k+1,_::_,[],_,h=>by simp at h
 |k+1,x::a,y::b,h1,h2=>by
  have:=Og (k:=k) (a:=a) (b:=b) (oU h1) (oU h2)
  simp only [nM,List.set_cons_succ]
  rw [<- this]
  simp [gi]
def mulL (a b:List Int):List Int:=nM 1001 a b
theorem aaA {l:List Int} {k:Nat} {x:Int} (h:k<l.length):splice (r8 l) k [.int .i8 x]=r8 (l.set k x):=by
 simp only [splice,r8,dE,dx,List.set_eq_take_append_cons_drop,h,if_true,eq,List.map_take,cG,List.map_drop]
 simp
end Go.AH.Heat
namespace Go.Proofs.YtajpgeklmcjciaaGreat
attribute [local irreducible] dA bJ bK jh fQ dK eH bY eu aW dR dW
open Go.AH.Heat
theorem Ub {A B:Prop} (k:B) (h:Hide B->A:=by intro z_;(repeat' (first|refine sCm ?_|(refine gU ?_;first|(refine cO ?_;first|refine st (aJ rfl (by exact hc4 _)) rfl rfl ?_|refine st (bG rfl (by first|exact hd1 _|exact hd2)) rfl rfl ?_)|refine sK0 ?_|refine sK3 ?_|(refine gZ ?_;refine stN (bW rfl rfl rfl rfl (by exact hputE)) rfl ?_))|(refine fU ?_;first|refine frA (dY rfl) rfl ?_ (hcl (by omega))|refine frA (jB rfl) rfl ?_ (hcl (by omega))|refine frA (bD rfl) rfl ?_ (hcl (by omega))|refine frA (aJ rfl hc2e) rfl ?_ hcs|refine frA (aJ rfl hc1e) rfl ?_|refine frA (aJ rfl hc3e) rfl ?_|refine frA (Ad rfl rfl (by omega)) rfl ?_ (hcl (by omega))|refine frA (iE rfl rfl (by omega)) rfl ?_ (hcl (by omega))|refine frA (afT rfl rfl h01 h02) rfl ?_|refine Qd ?_)|(refine fP ⟨by kernel_rfl,?_⟩)|refine aG ?_|refine sK5 ?_|refine fA rfl ?_|refine fM rfl ?_));exact z_.h):A:=h ⟨k⟩
theorem YZ (U:Heap) (p a b oa ob n m c c' s:Nat) (tc:List Value) (fr re:List Int) (hp:dD U p tc) (h4:tc[4]?=some (.slice (some ⟨a,oa,none⟩) n c)) (h5:tc[5]?=some (.slice (some ⟨b,ob,none⟩) m c'))
  (hs:s<n) (hs':s<m) (ha:aK U a (oa+s*1001) 1001=some (r8 fr)) (hb:aK U b (ob+s*1001) 1001=some (r8 re)) (hfl:fr.length=1001) (hrl:re.length=1001) (hf01:∀ i<1001,gi fr i=0\/gi fr i=1) (hr01:∀ i<1001,gi re i=0\/gi re i=1) :
  Ev prog 169 [.p p,.i (s:Int)] U (.agg (r8 (mulL fr re)).toArray) U:=by
 have j:=oJ hp
 refine aH U.length 33 func169 (h:=?_)
 have hc4:∀ x:aC,aI (U++[x]) p (0+4)=some (.slice (some ⟨a,oa,none⟩) n c):=fun x=>by
  rcases hp with h|h|⟨t,h⟩ <;> simp [aI,bO j,h,h4]
 have r:a < U.length:=dS ha
 have hd1:∀ x:aC,aK (U++[x]) a (oa+s*1001) 1001=some (r8 fr):=fun x=>by rw [jl r];exact ha
 have hput:putCells (U++[aC.rw (List.replicate 1001 (.int .i8 0))]++[aC.rw (List.replicate 1001 (.int .i8 0))]) (U++[aC.rw (List.replicate 1001 (.int .i8 0))]).length 0 (r8 fr)=some (U++[aC.rw (List.replicate 1001 (.int .i8 0))]++[.rw (r8 fr)]):=by
  rw [iH (by rw [jc,hfl];simp) oS]
  simp [splice,jc,hfl]
 have d:(r8 fr).length=1001:=by rw [jc,hfl]
 have e:=F6 fr
 have h1I:(s:Int)<(n:Int):=oO
 refine Ub ?_
 refine stN (bW (size:=1001) rfl rfl (by exact d) (by exact e) (by exact hput)) rfl ?_
 refine Ub ?_
 refine dB [(0,.p p),(1,.i (s:Int)),(4,.p U.length),(5,.p (U.length+1)),(14,.i ((0:Nat):Int))] (U++[aC.rw (List.replicate 1001 (.int .i8 0))]++[aC.rw (r8 (nM 0 fr re))]) rfl ⟨rfl,rfl,rfl,by rw [show U.length+1=(U++[aC.rw (List.replicate 1001 (.int .i8 0))]).length by simp];rfl,rfl,trivial⟩ ?_
 clear hput hd1 e
 refine jq (ι:=Nat) (fun k=>[(0,.p p),(1,.i (s:Int)),(4,.p U.length),(5,.p (U.length+1)),(14,.i (k:Int))]) (fun k=>U++[aC.rw (List.replicate 1001 (.int .i8 0))]++[aC.rw (r8 (nM k fr re))]) (fun k=>1001 - k) (fun k=>k<=1001) 0 oS (.same tE) (bL _) ?_
 intro k hk
 have g:=KF k fr re
 have f:(U++[aC.rw (List.replicate 1001 (.int .i8 0))]).length=U.length+1:=oS
 by_cases l:k<1001
 ·have w:b < U.length:=dS hb
  have hc1:aI (U++[aC.rw (List.replicate 1001 (.int .i8 0))]++[aC.rw (r8 (nM k fr re))]) (U.length+1) (0+k*1)=some (.int .i8 (gi fr k)):=by
   rw [ig f,aR,cH,Kw oO,I8 oO oO]
  have hc2:aI (U++[aC.rw (List.replicate 1001 (.int .i8 0))]++[aC.rw (r8 (nM k fr re))]) p (0+5)=some (.slice (some ⟨b,ob,none⟩) m c'):=by
   rw [mW (by simp;omega),mW j]
   rcases hp with h|h|⟨t,h⟩ <;> simp [aI,h,h5]
  have hc3:aI (U++[aC.rw (List.replicate 1001 (.int .i8 0))]++[aC.rw (r8 (nM k fr re))]) b (ob+s*1001+k*1)=some (.int .i8 (gi re k)):=by
   rw [mW (by simp;omega),mW w,cH,eX hb oO,Kw oO]
  have hput:putCells (U++[aC.rw (List.replicate 1001 (.int .i8 0))]++[aC.rw (r8 (nM k fr re))]) (U.length+1) (0+k*1) [.int .i8 (gi fr k*gi re k)]=some (U++[aC.rw (List.replicate 1001 (.int .i8 0))]++[aC.rw (r8 (nM (k+1) fr re))]):=by
   have hg:(U++[aC.rw (List.replicate 1001 (.int .i8 0))]++[aC.rw (r8 (nM k fr re))])[U.length+1]?=some (.rw (r8 (nM k fr re))):=by rw [<- f];exact aN
   rw [fF hg (by rw [jc,g];simp;omega) (by rw [jc,g];omega) (by rw [aR,cH,aaA oO,<- I8 (b:=re) (show k<fr.length by omega) oO]),<- f,fq _ _ (aD _),cM]
   rw [I8 oO oO,Og oO oO]
   rfl
  have hH:(U++[aC.rw (List.replicate 1001 (.int .i8 0))]++[aC.rw (r8 (nM k fr re))]).length=U.length+2:=oS
  have hcl:∀ {q o:Nat},q < U.length+2->closed (U++[aC.rw (List.replicate 1001 (.int .i8 0))]++[aC.rw (r8 (nM k fr re))]).length (.pointer (some ⟨q,o,none⟩))=true:=fun {q o} h=>by rw [hH];exact Nat.blt_eq.mpr h
  have hcs:closed (U++[aC.rw (List.replicate 1001 (.int .i8 0))]++[aC.rw (r8 (nM k fr re))]).length (.slice (some ⟨b,ob,none⟩) m c')=true:=by rw [hH];exact cZ (Nat.blt_eq.mpr oO)
  have hc1e:=hc1
  have hc2e:=hc2
  have hc3e:=hc3
  rw [<- bN (U++[aC.rw (List.replicate 1001 (.int .i8 0))]++[aC.rw (r8 (nM k fr re))])] at hc1e hc2e hc3e
  have hputE:=hput
  rw [<- bN (U++[aC.rw (List.replicate 1001 (.int .i8 0))]++[aC.rw (r8 (nM k fr re))])] at hputE
  have h01:=hf01 k l
  have h02:=hr01 k l
  have hkI:(k:Int)<1001:=oO
  have h2I:(s:Int)<(m:Int):=oO
  generalize gi fr k=x at *
  generalize gi re k=y at *
  refine Ub ?_
  exact ⟨rfl,k+1,oO,oO,.same tE⟩
 ·obtain rfl:k=1001:=oO
  have d:(r8 (nM 1001 fr re)).length=1001:=by rw [jc,g,hfl]
  have hd2:aK (U++[aC.rw (List.replicate 1001 (.int .i8 0))]++[aC.rw (r8 (nM 1001 fr re))]) (U.length+1) 0 1001=some (r8 (nM 1001 fr re)):=by
   rw [<- f];exact dZ d
  have hput:putCells (U++[aC.rw (List.replicate 1001 (.int .i8 0))]++[aC.rw (r8 (nM 1001 fr re))]) U.length 0 (r8 (nM 1001 fr re))=some (U++[aC.rw (r8 (nM 1001 fr re))]++[aC.rw (r8 (nM 1001 fr re))]):=by
   rw [fF (cs:=List.replicate 1001 (.int .i8 0)) (cs':=r8 (nM 1001 fr re)) oS (by rw [d];simp) oS (by simp [splice,d])]
   simp
  have u:aK (U++[aC.rw (r8 (nM 1001 fr re))]++[aC.rw (r8 (nM 1001 fr re))]) U.length 0 1001=some (r8 (nM 1001 fr re)):=by
   rw [jl oS];exact dZ d
  have v:=nK (nM 1001 fr re)
  unfold mulL
  have e:=F6 (nM 1001 fr re)
  generalize r8 (nM 1001 fr re)=rc at *
  refine Ub ?_
  refine stN (bW (size:=1001) rfl rfl (by exact d) (by exact e) (by exact hput)) rfl ?_
  refine Ub ?_
  exact dG (.cellN inferInstance rfl u .nil) (.plain oS v) ⟨rfl,rfl⟩
end Go.Proofs.YtajpgeklmcjciaaGreat
