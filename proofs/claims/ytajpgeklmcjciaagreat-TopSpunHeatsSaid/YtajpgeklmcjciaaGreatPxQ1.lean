/- What Speeds of rim returns. -/
import Derived.Test.YtajpgeklmcjciaaGreatPxMJ
import Derived.Test.YtajpgeklmcjciaaGreatPxMC
set_option maxRecDepth 100000
set_option maxHeartbeats 8000000
namespace Go
abbrev Value.i (x:Int):Value:=.int .i64 x
abbrev Value.p (b:Nat):Value:=.pointer (some ⟨b,0,none⟩)
abbrev Value.s (b n c:Nat):Value:=.slice (some ⟨b,0,none⟩) n c
end Go
namespace Go.AH
open Go
theorem VQ.i {q:Bool} {n:Nat} {ρ:Rho} (x:Int):VQ q n ρ (.int .i64 x) (.int .i64 x):=.int .i64 x
end Go.AH
theorem tE {P:Prop} (h:P:=by (repeat' (first|exact trivial|refine ⟨rfl,?_⟩))):P:=h
namespace Go.AH
open Go
structure Hid (p:Prop):Prop where
 h:p
theorem sCm {A B:Prop} (k:B) (h:Hid B→A:=by intro h_k_;(repeat1' (first|(refine gU ?_;first|(refine yO ?_;refine st (kK rfl) rfl rfl ?_)|(refine zx ?_;refine st (eP rfl) rfl rfl ?_)|(refine gBox ?_;refine st (OB rfl) rfl rfl ?_)|(refine gFA ?_;refine st (aZ rfl) rfl rfl ?_)|(refine ET ?_;refine st (lJ rfl) rfl rfl ?_)|(refine ES ?_;refine st (qP rfl rfl oO) rfl rfl ?_)|(refine Cj ?_;refine st (kC rfl) rfl rfl ?_)|(refine gNil ?_;refine st (jT rfl) rfl rfl ?_)|(refine Rk ?_;refine st (Cb rfl rfl) rfl rfl ?_))|refine xR ?_|refine kP ?_|refine tC ?_|refine ad3 ?_|refine Y0 ?_|refine uF ?_|refine ad4 ?_|refine Ci rfl ?_|refine yI ?_|refine zJ ?_|refine Gy ?_|refine qg ?_));exact h_k_.h):A:=h ⟨k⟩
theorem sK0 {A B:Prop} (k:B) (h:Hid B→A:=by intro h_k_;(refine BK ?_;refine st (jm rfl rfl rfl) rfl rfl ?_);exact h_k_.h):A:=h ⟨k⟩
theorem sK1 {A B:Prop} (k:B) (h:Hid B→A:=by intro h_k_;(refine gIA ?_;refine st (nC rfl rfl oO) rfl rfl ?_);exact h_k_.h):A:=h ⟨k⟩
theorem sK2 {A B:Prop} (k:B) (h:Hid B→A:=by intro h_k_;(refine qR rfl (by first|rfl|exact eX oA) ?_);exact h_k_.h):A:=h ⟨k⟩
theorem sK3 {A B:Prop} (k:B) (h:Hid B→A:=by intro h_k_;(refine gIA ?_;refine st (iV rfl rfl oO) rfl rfl ?_);exact h_k_.h):A:=h ⟨k⟩
theorem sK4 {A B:Prop} (k:B) (h:Hid B→A:=by intro h_k_;(refine OE ?_;refine st (oG oR rfl oR) rfl rfl ?_);exact h_k_.h):A:=h ⟨k⟩
theorem sK5 {A B:Prop} (k:B) (h:Hid B→A:=by intro h_k_;(refine fA oK rfl ?_);exact h_k_.h):A:=h ⟨k⟩
theorem sK6 {A B:Prop} (k:B) (h:Hid B→A:=by intro h_k_;(refine nZ rfl (by first|rfl|exact cZ oA) ?_);exact h_k_.h):A:=h ⟨k⟩
theorem sK7 {A B:Prop} (k:B) (h:Hid B→A:=by intro h_k_;(refine gMkF ?_;refine st (zN rfl rfl) rfl rfl ?_);exact h_k_.h):A:=h ⟨k⟩
theorem sK8 {A B:Prop} (k:B) (h:Hid B→A:=by intro h_k_;(refine gSub ?_;refine st (yK rfl rfl oO oO) rfl rfl ?_);exact h_k_.h):A:=h ⟨k⟩
theorem sK9 {A B:Prop} (k:B) (h:Hid B→A:=by intro h_k_;(refine BK ?_;refine pI rfl (jm rfl rfl rfl) rfl rfl ?_);exact h_k_.h):A:=h ⟨k⟩
theorem Hu {A B:Prop} (k:B) (h:Hid B→A:=by intro h_k_;(refine bV ?_;refine st (aK rfl oR) rfl rfl ?_);exact h_k_.h):A:=h ⟨k⟩
theorem Hw {A B:Prop} (k:B) (h:Hid B→A:=by intro h_k_;(refine Ba ?_;refine st (nU oR oR oR oR rfl oR) rfl rfl ?_);exact h_k_.h):A:=h ⟨k⟩
theorem JQ {A B:Prop} (k:B) (h:Hid B→A:=by intro h_k_;(refine qX ?_;refine frA (eP rfl) rfl ?_);exact h_k_.h):A:=h ⟨k⟩
theorem JR {A B:Prop} (k:B) (h:Hid B→A:=by intro h_k_;(refine zx ?_;refine pI rfl (eP rfl) rfl rfl ?_);exact h_k_.h):A:=h ⟨k⟩
theorem JU {A B:Prop} (k:B) (h:Hid B→A:=by intro h_k_;(refine gFA ?_;refine pI rfl (aZ rfl) rfl rfl ?_);exact h_k_.h):A:=h ⟨k⟩
theorem JV {A B:Prop} (k:B) (h:Hid B→A:=by intro h_k_;(refine gV ?_;refine stN (bU rfl rfl rfl rfl (by exact iW (aD _) (cU _))) rfl ?_);exact h_k_.h):A:=h ⟨k⟩
theorem LK {A B:Prop} (k:B) (h:Hid B→A:=by intro h_k_;(refine yP ?_;refine st (A8 rfl) rfl rfl ?_);exact h_k_.h):A:=h ⟨k⟩
theorem LM {A B:Prop} (k:B) (h:Hid B→A:=by intro h_k_;(refine fSub ?_;refine fr (yK rfl rfl oO oO) oR rfl ?_);exact h_k_.h):A:=h ⟨k⟩
theorem LP {A B:Prop} (k:B) (h:Hid B→A:=by intro h_k_;(refine ES ?_;refine st (vJ rfl rfl oO oO) rfl rfl ?_);exact h_k_.h):A:=h ⟨k⟩
theorem LQ {A B:Prop} (k:B) (h:Hid B→A:=by intro h_k_;(refine ET ?_;refine pI rfl (lJ rfl) rfl rfl ?_);exact h_k_.h):A:=h ⟨k⟩
theorem Px {A B:Prop} (k:B) (h:Hid B→A:=by intro h_k_;(refine gV ?_;refine stN (bU rfl rfl rfl rfl oR) rfl ?_);exact h_k_.h):A:=h ⟨k⟩
theorem Py {A B:Prop} (k:B) (h:Hid B→A:=by intro h_k_;(refine zx ?_;refine st (eP rfl) rfl rfl ?_);exact h_k_.h):A:=h ⟨k⟩
theorem Pz {A B:Prop} (k:B) (h:Hid B→A:=by intro h_k_;(refine yO ?_;refine st (kK rfl) rfl rfl ?_);exact h_k_.h):A:=h ⟨k⟩
theorem PD {A B:Prop} (k:B) (h:Hid B→A:=by intro h_k_;(refine qX ?_;refine fr (eP rfl) oR rfl ?_);exact h_k_.h):A:=h ⟨k⟩
theorem PE {A B:Prop} (k:B) (h:Hid B→A:=by intro h_k_;(refine gIA ?_;refine st (Ac rfl rfl oO) rfl rfl ?_);exact h_k_.h):A:=h ⟨k⟩
theorem PG {A B:Prop} (k:B) (h:Hid B→A:=by intro h_k_;(refine nN ?_;refine st (jv rfl rfl) rfl rfl ?_);exact h_k_.h):A:=h ⟨k⟩
theorem SL {A B:Prop} (k:B) (h:Hid B→A:=by intro h_k_;(refine BK ?_;refine stG rfl (by exact cZ oA) (jm rfl rfl rfl) rfl rfl ?_);exact h_k_.h):A:=h ⟨k⟩
theorem VT {A B:Prop} (k:B) (h:Hid B→A:=by intro h_k_;(refine fMin ?_;refine fr (Ce rfl rfl) oR rfl ?_);exact h_k_.h):A:=h ⟨k⟩
theorem VU {A B:Prop} (k:B) (h:Hid B→A:=by intro h_k_;(refine Xy ?_;refine frN (nU oR oR oR oR rfl oR) uV rfl rfl rfl ?_);exact h_k_.h):A:=h ⟨k⟩
theorem Zv {A B:Prop} (k:B) (h:Hid B→A:=by intro h_k_;(refine zx ?_;refine stG rfl (by exact cZ oA) (eP rfl) rfl rfl ?_);exact h_k_.h):A:=h ⟨k⟩
theorem Zw {A B:Prop} (k:B) (h:Hid B→A:=by intro h_k_;(refine fAdd ?_;refine fr (vJ rfl rfl oO oO) oR rfl ?_);exact h_k_.h):A:=h ⟨k⟩
theorem kJ {n i sz k:Nat} (h:Nat.blt i n=true):closed n (dW i sz k)=true:=by
 cases k <;> simp [dW,closed,h]
section
variable {P:Program} {n0 N:Nat} {rd:Option Nat} {Q:Post} {e:Env} {mk:List Nat} {σ:Heap} {K:Env→List Nat→Heap→Prop} {all rest:List Oper}
theorem pI {d:Nat} {op:Op} {ty:TypeId} {pos:String} {after:Array Edge} {v:Value} {σ':Heap} {j:Nat} {b want:Bool} (hg:jH all e j=some (.bool b))
  (h:bW P rd op ty e σ v σ') (hrd:lQ rd n0=true) (hd:Nat.blt d N=true)
  (k:bZ P n0 N rd all rest K ((d,v)::e) mk σ') (hb:b=want:=by first|rfl|exact eX oA|exact cZ oA|assumption|exact eX oO|exact cZ oO):bZ P n0 N rd all (⟨some d,op,ty,pos,after,some (j,want)⟩::rest) K e mk σ:=stG hg hb h hrd hd k
theorem SN {d:Nat} {op:Op} {ty:TypeId} {pos:String} {after:Array Edge} {j:Nat} {b want:Bool} (hg:jH all e j=some (.bool b)) (hd:Nat.blt d N=true)
  (k:bZ P n0 N rd all rest K ((d,undef)::e) mk σ) (hb:b=!want:=by first|rfl|exact eX oA|exact cZ oA|assumption|exact eX oO|exact cZ oO):bZ P n0 N rd all (⟨some d,op,ty,pos,after,some (j,want)⟩::rest) K e mk σ:=stS hg hb hd k
theorem SQ {d:Option Nat} {op:Op} {ty:TypeId} {pos:String} {after:Array Edge} {j:Nat} {b want:Bool} (hg:jH all e j=some (.bool b)) (k:bZ P n0 N rd all (⟨d,op,ty,pos,after,some (j,want)⟩::rest) K e mk σ) (hb:b=want:=by first|rfl|exact eX oA|exact cZ oA|assumption|exact eX oO|exact cZ oO) :
  bZ P n0 N rd all (⟨d,op,ty,pos,after,some (j,want)⟩::rest) K e mk σ:=Vf hg hb k
theorem dZ {c:Operand} {x y:Code} {b:Bool} (hc:aP e c=some (.bool b)) (h:bK P n0 N rd x Q e mk σ) (hb:b=true:=by first|rfl|exact eX oA|exact cZ oA|assumption|exact eX oO|exact cZ oO):bK P n0 N rd (.cond c x y) Q e mk σ:=qR hc hb h
theorem eu {c:Operand} {x y:Code} {b:Bool} (hc:aP e c=some (.bool b)) (h:bK P n0 N rd y Q e mk σ) (hb:b=false:=by first|rfl|exact eX oA|exact cZ oA|assumption|exact eX oO|exact cZ oO):bK P n0 N rd (.cond c x y) Q e mk σ:=nZ hc hb h
end
section
variable {P:Program} {rd:Option Nat} {ty:TypeId} {e:Env} {σ:Heap} {a b c:Operand} {v:Value}
theorem jr {t:Bool} (hc:aP e c=some (.bool t)) (ha:aP e a=some v) (ht:t=true:=by first|rfl|exact eX oA|exact cZ oA|assumption|exact eX oO|exact cZ oO):bW P rd (.pick c a b) ty e σ v σ:=kR hc ht ha
theorem jv {t:Bool} (hc:aP e c=some (.bool t)) (hb:aP e b=some v) (ht:t=false:=by first|rfl|exact eX oA|exact cZ oA|assumption|exact eX oO|exact cZ oO):bW P rd (.pick c a b) ty e σ v σ:=jA hc ht hb
end
section
variable {P:Program} {N:Nat} {rd:Option Nat} {e:Env} {σ0:Heap} {news:List (Nat×Heap)} {K:Env→List (Nat×Heap)→List Oper→Prop} {k:Nat} {all rest:List Oper} {d:Nat} {op:Op} {ty:TypeId} {pos:String} {after:Array Edge} {v:Value} {j:Nat} {b want:Bool}
theorem frA (h:bW P rd op ty e (σ0++gJ (bT after) news) v (σ0++gJ (bT after) news)) (hd:Nat.blt d N=true) (hk:bM P N rd all (k+1) rest ((d,v)::e) σ0 news K) (hc:closed σ0.length v=true:=by first|rfl|exact bP rfl|exact kJ rfl|exact closed_sh3 rfl rfl rfl) :
  bM P N rd all k (⟨some d,op,ty,pos,after,none⟩::rest) e σ0 news K:=fr h hc hd hk
theorem pW (hg:jH all e j=some (.bool b)) (h:bW P rd op ty e (σ0++gJ (bT after) news) v (σ0++gJ (bT after) news)) (hd:Nat.blt d N=true) (hk:bM P N rd all (k+1) rest ((d,v)::e) σ0 news K)
  (hb:b=want:=by first|rfl|exact eX oA|exact cZ oA|assumption|exact eX oO|exact cZ oO) (hc:closed σ0.length v=true:=by first|rfl|exact bP rfl|exact kJ rfl|exact closed_sh3 rfl rfl rfl):bM P N rd all k (⟨some d,op,ty,pos,after,some (j,want)⟩::rest) e σ0 news K:=frG hg hb h hc hd hk
theorem abY (hg:jH all e j=some (.bool b)) (hd:Nat.blt d N=true) (hk:bM P N rd all (k+1) rest ((d,undef)::e) σ0 news K) (hb:b=!want:=by first|rfl|exact eX oA|exact cZ oA|assumption|exact eX oO|exact cZ oO) :
  bM P N rd all k (⟨some d,op,ty,pos,after,some (j,want)⟩::rest) e σ0 news K:=frS hg hb hd hk
theorem abZ {d:Option Nat} (hg:jH all e j=some (.bool b)) (h:bM P N rd all k (⟨d,op,ty,pos,after,some (j,want)⟩::rest) e σ0 news K) (hb:b=want:=by first|rfl|exact eX oA|exact cZ oA|assumption|exact eX oO|exact cZ oO) :
  bM P N rd all k (⟨d,op,ty,pos,after,some (j,want)⟩::rest) e σ0 news K:=frGk hg hb h
end
def lg (lo hi:Int) (l:List Int):Int:=match (List.range l.length).find? (fun i=>decide (gi l i<lo∨gi l i > hi)) with|some i=>i|none=>-1
theorem rX {lo hi:Int} {l:List Int} {i:Nat} (hi':i<l.length) (h:gi l i<lo∨gi l i > hi) (hall:∀ j<i,¬ (gi l j<lo∨gi l j > hi)):lg lo hi l=i:=by
 have:(List.range l.length).find? (fun i=>decide (gi l i<lo∨gi l i > hi))=some i:=by
  rw [List.find?_range_eq_some]
  exact ⟨by simpa using h,by simpa using hi',fun j hj=>by simpa using hall j hj⟩
 simp only [lg,this]
theorem rY {lo hi:Int} {l:List Int} (hall:∀ j<l.length,¬ (gi l j<lo∨gi l j > hi)):lg lo hi l=-1:=by
 have:(List.range l.length).find? (fun i=>decide (gi l i<lo∨gi l i > hi))=none:=by
  rw [List.find?_eq_none]
  intro j hj
  simpa using hall j (oU hj)
 simp only [lg,this]
theorem vsub_fn2 {n:Nat} {π:Rho} {f:FuncId} {a b a' b':Value} (h1:jG n π a a') (h2:jG n π b b'):jG n π (.func (.func f) #[] #[a,b]) (.func (.func f) #[] #[a',b']):=by
 refine .func f _ _ _ _ rfl rfl (fun i h _=>by simp at h) (fun i h _=>?_)
 match i,h with
 |0,_=>exact h1
 |1,_=>exact h2
theorem NC {lo hi:Int} {l:List Int}:lg lo hi l≥0↔∃ i<l.length,gi l i<lo∨gi l i > hi:=by
 constructor
 ·intro h
  refine Classical.byContradiction fun hn=>?_
  rw [rY fun j hj hb=>hn ⟨j,hj,hb⟩] at h
  omega
 ·rintro ⟨i,a,hb⟩
  unfold lg
  split
  ·omega
  ·rename_i h
   rw [List.find?_eq_none] at h
   have:=h i (oU a)
   simp at this;omega
theorem SS (n:Nat) (a b:List Value):dP n (a++b)=(dP n a && dP n b):=by
 induction a with
 |nil=>simp [dP]
 |cons x a ih=>simp [dP,ih,Bool.and_assoc]
theorem aeM (a b:List Value):okL (a++b)=(okL a && okL b):=by
 induction a with
 |nil=>simp [okL]
 |cons x a ih=>simp [okL,ih,Bool.and_assoc]
theorem dM {n i l c:Nat} (h:i<n):closed n (.s i l c)=true∧okV (.s i l c)=true:=by
 have:=VQ.slice (q:=false) (n:=n) (ρ:=fun k=>⟨k,0,0⟩) i 0 l c c (aD _) h
 exact ⟨rQ this,MR this⟩
theorem fM {σ:Heap} {b o:Nat} {cs vs cs':List Value} (h:σ[b]?=some (.rw cs)) (hl:o+vs.length≤cs.length) (h0:0<cs.length) (he:splice cs o vs=cs'):putCells σ b o vs=some (σ.set b (.rw cs')):=by
 have e1:Nat.ble (o+vs.length) cs.length=true:=fq hl
 have e2:Nat.blt 0 cs.length=true:=Nat.blt_eq.mpr h0
 simp only [putCells,h,e1,e2,Bool.and_self,cond_true,he]
def VW {α:Type} (f:Nat→α) (i:Nat) (a:α):Nat→α:=fun k=>if k=i then a else f k
theorem ab1 (r:Rho) (a b:List Value):yF r (a++b)=yF r a++yF r b:=by simp [AY]
theorem PI {r:Rho} {l:List Value} (h:dL l=true):yF r l=l:=by exact vG l h
def gn (l:List Nat) (i:Nat):Nat:=l.getD i 0
def gu (l:List Nat):List Value:=l.map fun (i:Nat)=>Value.int .i64 (Int.ofNat i)
theorem Ap {l:List Nat} {i:Nat} (h:i<l.length):(gu l)[i]?=some (.i (gn l i:Int)):=by simp [gu,gn,h]
theorem oM (l:List Nat):dL (gu l)=true:=yU _ (fun _=>rfl) l
structure Hide (p:Prop):Prop where
 h:p
def someB (n:Nat) (p:Nat→Prop) [DecidablePred p]:Bool:=(List.range n).any fun i=>decide (p i)
theorem qm {n:Nat} {p:Nat→Prop} [DecidablePred p] {i:Nat} (hi:i<n) (h:p i):someB n p=true:=by
 simp only [someB,List.any_eq_true,List.mem_range,decide_eq_true_eq]
 exact ⟨i,hi,h⟩
theorem mW {n:Nat} {p:Nat→Prop} [DecidablePred p] (h:∀ i<n,¬ p i):someB n p=false:=by
 simp only [someB,List.any_eq_false,List.mem_range,decide_eq_true_eq]
 exact h
theorem JW {n:Nat} {p:Nat→Prop} [DecidablePred p] (h:¬ someB n p=true):∀ i<n,¬ p i:=by
 simpa [someB] using h
section
variable {n0:Nat} {σ:Heap} {e e2:Env}
theorem lM.all (σ2:Heap) (m:Nat) (l:List Nat) (hm:n0≤m) (hl:σ2.length=m+l.length) (hd:dF m l=true) (ho:DT σ σ2.length (fK m l) 0 σ2) (he:E5 σ2.length (fK m l) e e2):lM n0 σ σ2 e e2:=by
 refine .inr fun _=>⟨fK m l,⟨oO,fun i hi=>fE oO,fun i o2 hi=>?_,fun i j oi oj hi hj _ _ a=>?_⟩,yT he⟩
 ·have:=E8 ho i o2 hi
  rwa [bA] at this
 ·simp only [dF,aE,eo,decide_eq_true_eq] at hd
  have h1:=aQ hi
  have h2:=aQ hj
  have ge:∀ q,¬ q<m→q < σ2.length→∃ h:q - m<l.length,(fK m l q).b=l[q - m]∧m≤l[q - m]:=by
   intro q hq hq2
   have h:q - m<l.length:=oO
   refine ⟨h,?_,cA (hd.1 _ (cP h))⟩
   simp only [fK]
   rw [if_neg hq,cC h]
  by_cases c:i<m <;> by_cases d:j<m
  ·rw [fE c,fE d] at a;exact a
  ·obtain ⟨h,e1,e2⟩:=ge j d h2
   rw [fE c,e1] at a;simp only at a;omega
  ·obtain ⟨h,e1,e2⟩:=ge i c h1
   rw [fE d,e1] at a;simp only at a;omega
  ·obtain ⟨h,e1,e2⟩:=ge i c h1
   obtain ⟨h',f,e2'⟩:=ge j d h2
   rw [e1,f] at a
   have:=(List.getElem_inj hd.2).1 a
   omega
theorem pJ {n m i:Nat} {l:List Nat} {o:aB} (hi:i<m) (hmn:m≤n) (h:σ[i]?=some o) (hc:fO m o):xZ σ n (fK m l) (fK m l i) o :=
 lY (fun _i hi=>fE hi) hmn hi h hc
theorem Zx {n i j k sz q:Nat} {π:Rho} (hk:π i=⟨i,0,0⟩) (h:σ[i]?=some (.rw [dW j sz k])) (hq:q<n) (hj:π q=⟨j,0,0⟩):xZ σ n π (π i) (.rw [dW q sz k]):=by
 refine .inr ⟨by rw [hk],[dW j sz k],.inl (by rw [hk];exact h),aD _,fun a ha ha'=>?_⟩
 have:a=0:=by simpa using ha
 subst this
 exact Nb hq hj
theorem kG {P:Program} {N:Nat} {Q:Post} {mk:List Nat} {g:Operand} {ps:Array Tmp} {assign body:Code} {f:FuncId} {p q:List Value} [hc:GoFn P f] (hg:aP e g=some (.func (.func f) p.toArray q.toArray))
  (hcall:∀ L,L=aB.loop .ready none N e ps assign body→eU P f (p++[.func (.yield (σ.length+1)) #[] #[]]++q) (σ++[.dfr,L]) (fun _ σ2=>Jr P n0 N Q e (σ.length::mk) (σ.length+1) σ2)) :
  bK P n0 N none (.rangeFunc g ps assign body) Q e mk σ:=GI hg (hcall _ rfl)
theorem SV {P:Program} {n1 N' l:Nat} {body:Code} {QB:Post} {e1:Env} {mk1:List Nat} {σ1:Heap} {N2:Nat} {e2:Env} {ps2:Array Tmp} {as2 bd2:Code} {pend:Option Code} (h1:σ1[l]?=some (.loop .ready pend N2 e2 ps2 as2 bd2))
  (h2:bK P n1 N' (some l) body QB e1 mk1 (σ1.set l (.loop .busy pend N2 e2 ps2 as2 bd2))):dV P n1 N' l body QB .normal e1 mk1 σ1:=⟨_,_,_,_,_,_,h1,h2⟩
theorem yw {P:Program} {n0 N:Nat} {all rest:List Oper} {K:Env→List Nat→Heap→Prop} {d l:Nat} {e e1:Env} {mk mk1:List Nat} {σ2:Heap} {o:aB} (h1:σ2[l]?=some o) (h2:uj o=true) (h3:bZ P n0 N none all rest K ((d,.bool true)::e) mk (σ2.set l (l9 .ready none o))) :
  eH P n0 N all rest K d l e mk .normal e1 mk1 σ2:=⟨o,h1,h2,h3⟩
theorem ab2 {P:Program} {n0 N:Nat} {all rest:List Oper} {K:Env→List Nat→Heap→Prop} {d l id:Nat} {e e1:Env} {mk mk1:List Nat} {σ2:Heap} {o:aB} (h1:σ2[l]?=some o) (h2:uj o=true) (h3:bZ P n0 N none all rest K ((d,.bool false)::e) mk (σ2.set l (l9 .done (some (.exit id)) o))) :
  eH P n0 N all rest K d l e mk (.exit id) e1 mk1 σ2:=⟨o,h1,h2,h3⟩
theorem ret1 {P:Program} {σin:Heap} {rv:List ResultVar} {R:Value→Heap→Prop} {vs:List Value} {v2:Value} {σ2:Heap} {m:Nat} (hd:σ[m]?=some .dfr) (hr:tq P e (σ.set m .dead) rv vs) (href:aX σin (σ.set m .dead) (jY vs) v2 σ2) (hR:R v2 σ2) :
  jB P σin rv R .ret e [m] σ:=⟨by simp,fun i hi=>by rw [List.mem_singleton.1 hi];exact hd,vs,v2,σ2,hr,href,hR⟩
theorem VX {m:Nat}:∀ {e:Env},(∀ p ∈ e,closed m p.2=true∧okV p.2=true)→∀ t v,Env.get e t=some v→closed m v=true∧okV v=true:=fun h _t _v hv=>h _ (yN hv)
end
theorem oN {σ:Heap} {n j k:Nat} {π:Rho} {cs:List Value} (hk:π k=⟨j,0,0⟩) (h:σ[j]?=some (.rw cs)∨∃ t,σ[j]?=some (.gr cs t)) (hp:dL cs=true):xZ σ n π (π k) (.rw cs) :=
 .inr ⟨by rw [hk],cs,by rw [hk];exact h,aD _,fun i hi _=>lC cs hp i hi⟩
theorem Yc {n j:Nat}:fK n [j] n=⟨j,0,0⟩:=by simp [fK]
theorem ahl {σin σ:Heap} {cs:List Value} {n j c:Nat} {v:Value} (hσ:σ.take σin.length=σin) (hp:dL cs=true) (hg:σ[j]?=some (.rw cs)∨∃ t,σ[j]?=some (.gr cs t)) (hj:Nat.ble σin.length j=true) (hv:plain v=true) (hc:n≤c) :
  aX σin σ (.tuple #[.s j n c,v]) (.tuple #[.s σin.length n n,v]) (σin++[.rw cs]):=by
 refine aX.src [.rw cs] [j] hσ rfl (by simp [dF,hj]) ⟨oN Yc hg hp,trivial⟩ ?_
 refine .tuple _ _ rfl fun i hi _=>?_
 match i,hi with
 |0,_=>exact kX oS Yc hc
 |1,_=>exact aY _ hv
theorem ab3 {σin σ:Heap} {v:Value} (hσ:σ.take σin.length=σin) (hv:plain v=true) :
  aX σin σ (.tuple #[.slice none 0 0,v]) (.tuple #[.s σin.length 0 0,v]) (σin++[.rw []]):=by
 refine aX.src [.rw []] [σin.length] hσ rfl (by simp [dF]) ⟨.inl rfl,trivial⟩ ?_
 refine .tuple _ _ rfl fun i hi _=>?_
 match i,hi with
 |0,_=>exact .emptySlice _ _ _ _
 |1,_=>exact aY _ hv
theorem SX {P:Program} {rd:Option Nat} {ty:TypeId} {e:Env} {σ:Heap} {x:Operand} {m:Int} {s d:TypeId} {k:IntKind} [Ik P s k] [Ik P d .i64] (hx:aP e x=some (.int k m)) (h1:-9223372036854775808≤m) (h2:m≤9223372036854775807) :
  bW P rd (.convert s d x) ty e σ (.i m) σ:=by
 have:=Rh (P:=P) (rd:=rd) (ty:=ty) (σ:=σ) (s:=s) (d:=d) hx
 rwa [wrap64 h1 h2] at this
theorem jZ (l:List Int):(ints l).all (·.oneCell')=true:=by
 simp only [eo,ints,List.mem_map]
 rintro x ⟨y,_,rfl⟩
 rfl
structure St where
 long:Int
 short:Int
 off:Int
 lo:Int
 hi:Int
def St.cells (s:St):List Value:=[.int .i64 s.long,.int .i64 s.short,.int .i64 s.off,.int .i64 s.lo,.int .i64 s.hi]
def St.val (s:St):Value:=.agg #[.int .i64 s.long,.int .i64 s.short,.int .i64 s.off,.int .i64 s.lo,.int .i64 s.hi]
def fB (s:St):Prop:=s.short<1∨s.short > s.long∨s.long > 100000∨s.off<0∨s.off≥s.short∨s.lo<0∨s.lo > s.hi∨s.hi > 1000000000
instance (s:St):Decidable (fB s):=by unfold fB;infer_instance
def tV (l:List Int):Bool:=(List.range l.length).any fun i=>gi l i<1 || gi l i > 10000
theorem pK {l:List Int}:tV l=true↔∃ i<l.length,gi l i<1∨gi l i > 10000:=by simp [tV]
def iD (s:St) (l:List Int):Int :=
 if l.length<1∨l.length > 12 then 6 else if fB s then 2 else if tV l=true then 3 else 0
end Go.AH
namespace Go.Proofs.YtajpgeklmcjciaaGreat
open Go Go.AH
attribute [local irreducible] bZ bK bM jB gy dO fC bW eU aX dV eH
theorem Fz (s:St) (l:List Int) (c:Nat) :
  Ev Tryz.prog 64 [s.val,.s 0 l.length c] [.ro (ints l)] (.i (iD s l)) [.ro (ints l)]:=by
 refine aI 1 80 Tryz.func64 rfl rfl rfl rfl rfl ?_
 repeat' (first|refine sCm ?_|(refine gU ?_;first|refine Hu ?_|refine sK0 ?_|(refine nN ?_;first|refine st (kR rfl (by first|rfl|exact eX oA) rfl) rfl rfl ?_|refine st (jA rfl (by exact cZ oA) rfl) rfl rfl ?_))|(refine gG ?_;first|refine Zv ?_|(refine gFA ?_;refine stG rfl (by exact cZ oA) (aZ rfl) rfl rfl ?_)|(refine bV ?_;refine stG rfl (by exact cZ oA) (aK rfl oR) rfl rfl ?_)|refine SL ?_|(refine ET ?_;refine stG rfl (by exact cZ oA) (lJ rfl) rfl rfl ?_)|refine stS rfl (by first|rfl|exact eX oA) rfl ?_|((fail_if_success (refine Vf rfl oR ?_));(refine zS rfl ?_ ?_ <;> intro _)))|refine aG ?_|refine qR rfl oR ?_|(refine iR rfl ?_ ?_ <;> intro _))
 all_goals try
  refine dK (.tmp rfl .nil) (.plain rfl rfl) ⟨?_,rfl⟩
  simp only [jY,iD,fB]
  congr 1
  repeat' split
  all_goals first|rfl|omega
 refine iM (ι:=Nat) (fun i=>[(1,.s 0 l.length c),(5,.i (i:Int))]) (fun _=>[.ro (ints l),.rw s.cells]) (fun i=>l.length - i)
  (fun i=>i≤l.length∧∀ j<i,¬ (gi l j<1∨gi l j > 10000)) 0 oS (.same tE) ⟨oO,fun j h=>oO⟩ ?_
 intro i ⟨hi,a⟩
 have d:i<l.length→aH [.ro (ints l),.rw s.cells] 0 i=some (.i (gi l i)):=fun h=>gQ h
 repeat' (first|refine sCm ?_|(refine gU ?_;first|(refine bV ?_;refine st (aK rfl (by exact d oO)) rfl rfl ?_)|refine sK0 ?_|(refine nN ?_;first|refine st (kR rfl (by exact eX oA) rfl) rfl rfl ?_|refine st (jA rfl (by exact cZ oA) rfl) rfl rfl ?_)|refine sK1 ?_)|(refine gG ?_;first|refine Zv ?_|(refine bV ?_;refine stG rfl (by exact cZ oA) (aK rfl (by exact d oO)) rfl rfl ?_)|refine SL ?_|(refine gIA ?_;refine stG rfl (by exact cZ oA) (nC rfl rfl oO) rfl rfl ?_)|refine stS rfl (by exact eX oA) rfl ?_|((fail_if_success (refine Vf rfl oR ?_));(refine zS rfl ?_ ?_ <;> intro _)))|refine aG ?_|refine qR rfl oR ?_|(refine iR rfl ?_ ?_ <;> intro _))
 ·refine dK (.tmp rfl .nil) (.plain rfl rfl) ⟨?_,rfl⟩
  simp only [jY,iD]
  rw [if_neg oO,if_neg (by unfold fB;omega),if_pos (pK.2 ⟨i,oO,oO⟩)]
 ·refine dK (.tmp rfl .nil) (.plain rfl rfl) ⟨?_,rfl⟩
  simp only [jY,iD]
  rw [if_neg oO,if_neg (by unfold fB;omega),if_pos (pK.2 ⟨i,oO,oO⟩)]
 ·refine ⟨rfl,i+1,⟨oO,fun j hj=>?_⟩,oO,.same tE⟩
  by_cases e:j=i
  ·subst e;omega
  ·exact a j oO
 ·refine dK (.tmp rfl .nil) (.plain rfl rfl) ⟨?_,rfl⟩
  simp only [jY,iD]
  rw [if_neg oO,if_neg (by unfold fB;omega),if_neg]
  rw [pK]
  rintro ⟨j,hj,hb⟩
  exact a j oO hb
end Go.Proofs.YtajpgeklmcjciaaGreat
namespace Go.AH
open Go
end Go.AH
namespace Go.Proofs.YtajpgeklmcjciaaGreat
open Go Go.AH
attribute [local irreducible] bZ bK bM jB gy dO fC bW eU aX dV eH
theorem VY (n lo hi:Int):Ev Tryz.prog 253 [.i n,.p 0,.p 1] [.ro [.i lo],.ro [.i hi]] (.bool (decide (n<lo∨n > hi))) [.ro [.i lo],.ro [.i hi]]:=by
 refine aI 2 13 Tryz.func253 rfl rfl rfl rfl rfl ?_
 repeat' (first|refine sCm ?_|(refine gU ?_;first|refine Hu ?_|refine sK0 ?_|(refine nN ?_;first|refine st (kR rfl (by exact eX oA) rfl) rfl rfl ?_|refine st (jA rfl (by exact cZ oA) rfl) rfl rfl ?_))|(refine gG ?_;first|refine Zv ?_|(refine bV ?_;refine stG rfl (by exact cZ oA) (aK rfl oR) rfl rfl ?_)|refine SL ?_|refine stS rfl (by exact eX oA) rfl ?_|((fail_if_success (refine Vf rfl oR ?_));(refine zS rfl ?_ ?_ <;> intro _)))|refine aG ?_)
 all_goals
  refine dK (.tmp rfl .nil) (.plain rfl rfl) ⟨?_,rfl⟩
  simp only [jY,Value.bool.injEq]
  (simp;omega)
theorem VZ {σ:Heap} {n lo hi:Int} {a b:Nat} (ha:dN σ a [.i lo]) (hb:dN σ b [.i hi]) (hni:σ.all (fun o=>!aU o)=true) :
  Ev Tryz.prog 253 [.i n,.p a,.p b] σ (.bool (decide (n<lo∨n > hi))) σ :=
 Ev.arrs [[.i lo],[.i hi]] [a,b] (VY n lo hi) ⟨ha,hb,trivial⟩ ⟨.int _ _,by simpa [bsR] using VQ.ptr (q:=true) (n:=2) (ρ:=bsR [a,b]) 0 0 oO,by simpa [bsR] using VQ.ptr (q:=true) (n:=2) (ρ:=bsR [a,b]) 1 0 oO,trivial⟩ rfl rfl hni
theorem PK (l:List Int) (lo hi:Int) (c:Nat) (hN:l.length≤1000000) :
  Ev Tryz.prog 102 [.s 0 l.length c,.func (.func 253) #[] #[.p 1,.p 2]] [.ro (ints l),.ro [.i lo],.ro [.i hi]] (.i (lg lo hi l)) [.ro (ints l),.ro [.i lo],.ro [.i hi]]:=by
 refine aI 3 19 Tryz.func102 rfl rfl rfl rfl rfl ?_
 repeat' (first|refine sCm ?_|refine aG ?_)
 refine iM (ι:=Nat) (fun i=>[(0,.s 0 l.length c),(1,.func (.func 253) #[] #[.p 1,.p 2]),(7,.i (l.length:Int)),(8,.i (i:Int))])
  (fun _=>[.ro (ints l),.ro [.i lo],.ro [.i hi]]) (fun i=>l.length - i) (fun i=>i≤l.length∧∀ j<i,¬ (gi l j<lo∨gi l j > hi)) 0 oS (.same tE) ⟨oO,fun j h=>oO⟩ ?_
 intro i ⟨hi',a⟩
 have d:i<l.length→aH [.ro (ints l),.ro [.i lo],.ro [.i hi]] 0 i=some (.i (gi l i)):=fun h=>gQ h
 repeat' (first|refine sCm ?_|(refine gU ?_;first|(refine bV ?_;refine st (aK rfl (by exact d oO)) rfl rfl ?_)|refine sK0 ?_|refine sK1 ?_|(refine dX ?_;refine st (bG rfl rfl rfl (by exact VZ (by exact .inl rfl) (by exact .inl rfl) rfl)) rfl rfl ?_))|refine aG ?_|(refine iR rfl ?_ ?_ <;> intro _))
 ·refine dK (.tmp rfl .nil) (.plain rfl rfl) ⟨?_,rfl⟩
  simp only [jY]
  rw [rX oO oA a]
 ·refine ⟨rfl,i+1,⟨oO,fun j hj=>?_⟩,oO,.same tE⟩
  by_cases e:j=i
  ·subst e;assumption
  ·exact a j oO
 ·refine dK (.tmp rfl .nil) (.plain rfl rfl) ⟨?_,rfl⟩
  simp only [jY]
  rw [rY fun j hj=>a j oO]
theorem PL {σ:Heap} {l:List Int} {lo hi:Int} {x a b c:Nat} (hx:dN σ x (ints l)) (ha:dN σ a [.i lo]) (hb:dN σ b [.i hi]) (hN:l.length≤1000000) (hni:σ.all (fun o=>!aU o)=true) :
  Ev Tryz.prog 102 [.s x l.length c,.func (.func 253) #[] #[.p a,.p b]] σ (.i (lg lo hi l)) σ :=
 Ev.arrs [ints l,[.i lo],[.i hi]] [x,a,b] (PK l lo hi c hN) ⟨hx,ha,hb,trivial⟩
  ⟨by simpa [bsR] using VQ.slice (q:=true) (n:=3) (ρ:=bsR [x,a,b]) 0 0 l.length c c (aD _) oO,
   vsub_fn2 (by simpa [bsR] using VQ.ptr (q:=true) (n:=3) (ρ:=bsR [x,a,b]) 1 0 oO) (by simpa [bsR] using VQ.ptr (q:=true) (n:=3) (ρ:=bsR [x,a,b]) 2 0 oO),trivial⟩ (by simp [bC,dL,plain]) rfl hni
theorem Hy (l:List Int) (lo hi:Int) (c:Nat) (hN:l.length≤1000000) :
  Ev Tryz.prog 172 [.s 0 l.length c,.func (.func 253) #[] #[.p 1,.p 2]] [.ro (ints l),.ro [.i lo],.ro [.i hi]] (.bool (decide (lg lo hi l≥0))) [.ro (ints l),.ro [.i lo],.ro [.i hi]]:=by
 refine aI 3 9 Tryz.func172 rfl rfl rfl rfl rfl ?_
 repeat' (first|refine sCm ?_|(refine gU ?_;first|refine sK0 ?_|(refine dX ?_;refine st (bG rfl rfl rfl (by exact PL (by exact .inl rfl) (by exact .inl rfl) (by exact .inl rfl) oO rfl)) rfl rfl ?_))|refine aG ?_)
 refine dK (.tmp rfl .nil) (.plain rfl rfl) ⟨?_,rfl⟩
 rfl
theorem Hz {σ:Heap} {l:List Int} {lo hi:Int} {x a b c:Nat} (hx:dN σ x (ints l)) (ha:dN σ a [.i lo]) (hb:dN σ b [.i hi]) (hN:l.length≤1000000) (hni:σ.all (fun o=>!aU o)=true) :
  Ev Tryz.prog 172 [.s x l.length c,.func (.func 253) #[] #[.p a,.p b]] σ (.bool (decide (lg lo hi l≥0))) σ :=
 Ev.arrs [ints l,[.i lo],[.i hi]] [x,a,b] (Hy l lo hi c hN) ⟨hx,ha,hb,trivial⟩
  ⟨by simpa [bsR] using VQ.slice (q:=true) (n:=3) (ρ:=bsR [x,a,b]) 0 0 l.length c c (aD _) oO,
   vsub_fn2 (by simpa [bsR] using VQ.ptr (q:=true) (n:=3) (ρ:=bsR [x,a,b]) 1 0 oO) (by simpa [bsR] using VQ.ptr (q:=true) (n:=3) (ρ:=bsR [x,a,b]) 2 0 oO),trivial⟩ (by simp [bC,dL,plain]) rfl hni
theorem Zy (l:List Int) (lo hi:Int) (c:Nat) (hN:l.length≤1000000) :
  Ev Tryz.prog 165 [.i lo,.i hi,.s 0 l.length c] [.ro (ints l)] (.bool (decide (¬ (lg lo hi l≥0)))) [.ro (ints l)]:=by
 refine aI 1 11 Tryz.func165 rfl rfl rfl rfl rfl ?_
 repeat' (first|refine sCm ?_|(refine gU ?_;first|refine LK ?_|refine sK7 ?_|(refine dX ?_;refine st (bG rfl rfl rfl (by exact Hz (by exact .inl rfl) (by exact .inr (.inl rfl)) (by exact .inr (.inl rfl)) oO rfl)) rfl rfl ?_))|refine aG ?_)
 refine dK (.tmp rfl .nil) (.plain rfl rfl) ⟨?_,rfl⟩
 rfl
theorem FB {σ:Heap} {l:List Int} {lo hi:Int} {x c:Nat} (hx:dN σ x (ints l)) (hN:l.length≤1000000) (hni:σ.all (fun o=>!aU o)=true) :
  Ev Tryz.prog 165 [.i lo,.i hi,.s x l.length c] σ (.bool (decide (¬ (lg lo hi l≥0)))) σ :=
 Ev.arrs [ints l] [x] (Zy l lo hi c hN) ⟨hx,trivial⟩ ⟨.int _ _,.int _ _,by simpa [bsR] using VQ.slice (q:=true) (n:=1) (ρ:=bsR [x]) 0 0 l.length c c (aD _) oO,trivial⟩ (by simp [bC]) rfl hni
end Go.Proofs.YtajpgeklmcjciaaGreat
namespace Go.AH
theorem SY {l:List Int}:lg 1 10000 l≥0↔tV l=true:=by rw [NC,pK]
end Go.AH
namespace Go.Proofs.YtajpgeklmcjciaaGreat
open Go Go.AH
attribute [local irreducible] bZ bK bM jB gy dO fC bW eU aX dV eH
theorem JX {σ:Heap} {a lo hi:Int} {x c:Nat} (hx:dN σ x [.i a]) (hni:σ.all (fun o=>!aU o)=true) :
  Ev Tryz.prog 165 [.i lo,.i hi,.s x 1 c] σ (.bool (decide (lo≤a∧a≤hi))) σ:=by
 have h:=FB (σ:=σ) (l:=[a]) (lo:=lo) (hi:=hi) (c:=c) hx oS hni
 have e:(¬ (lg lo hi [a]≥0))↔(lo≤a∧a≤hi):=by
  by_cases hb:a<lo∨a > hi
  ·rw [rX (l:=[a]) (i:=0) oS (by simpa [gi] using hb) (fun j hj=>oO)];simp;omega
  ·rw [rY (l:=[a]) (fun j hj=>by
                        have:j=0:=by simpa using hj
                        subst this;simpa [gi] using hb)];simp;omega
 simpa [e] using h
theorem CW {σ:Heap} {a b lo hi:Int} {x c:Nat} (hx:dN σ x [.i a,.i b]) (hni:σ.all (fun o=>!aU o)=true) :
  Ev Tryz.prog 165 [.i lo,.i hi,.s x 2 c] σ (.bool (decide ((lo≤a∧a≤hi)∧lo≤b∧b≤hi))) σ:=by
 have h:=FB (σ:=σ) (l:=[a,b]) (lo:=lo) (hi:=hi) (c:=c) hx oS hni
 have e:(¬ (lg lo hi [a,b]≥0))↔((lo≤a∧a≤hi)∧lo≤b∧b≤hi):=by
  by_cases ha:a<lo∨a > hi
  ·rw [rX (l:=[a,b]) (i:=0) oS (by simpa [gi] using ha) (fun j hj=>oO)];simp;omega
  ·by_cases hb:b<lo∨b > hi
   ·rw [rX (l:=[a,b]) (i:=1) oS (by simpa [gi] using hb) (fun j hj=>by
                                                 have:j=0:=oO
                                                 subst this;simpa [gi] using ha)];simp;omega
   ·rw [rY (l:=[a,b]) (fun j hj=>by
     have:j=0∨j=1:=by simp at hj;omega
     rcases this with rfl|rfl
     ·simpa [gi] using ha
     ·simpa [gi] using hb)];simp;omega
 simpa [e] using h
theorem CX:Ev Tryz.prog 246 [] [] (.agg #[.i 100001,.i (-1)]) []:=by
 refine aI 0 2 Tryz.func246 rfl rfl rfl rfl rfl ?_
 repeat' (first|refine sCm ?_|(refine gU ?_;first|refine sK4 ?_|refine Px ?_)|refine aG ?_)
 refine dK (.cellN inferInstance rfl rfl .nil) (.plain rfl rfl) ⟨rfl,rfl⟩
theorem FC (s:St) (l:List Int) (c:Nat) (hN:l.length≤1000000) (hr:-9223372036854775808≤s.short∧s.short≤9223372036854775807) :
  Ev Tryz.prog 162 [s.val,.s 0 l.length c] [.ro (ints l)] (.i (iD s l)) [.ro (ints l)]:=by
 refine aI 1 63 Tryz.func162 rfl rfl rfl rfl rfl ?_
 repeat' (first|refine sCm ?_|(refine gU ?_;first|refine Hu ?_|refine sK0 ?_|(refine nN ?_;first|refine st (kR rfl (by first|rfl|exact eX oA) rfl) rfl rfl ?_|refine st (jA rfl (by exact cZ oA) rfl) rfl rfl ?_)|refine LK ?_|(refine dX ?_;refine st (bG rfl rfl rfl (by first|exact CW (by exact .inr (.inl rfl)) rfl|exact FB (by exact .inl rfl) oO rfl)) rfl rfl ?_)|refine Hw ?_)|(refine gG ?_;first|refine Zv ?_|(refine gFA ?_;refine stG rfl (by exact cZ oA) (aZ rfl) rfl rfl ?_)|(refine bV ?_;refine stG rfl (by exact cZ oA) (aK rfl oR) rfl rfl ?_)|(refine gSub ?_;refine stG rfl (by exact cZ oA) (yK rfl rfl oO oO) rfl rfl ?_)|refine SL ?_|(refine ET ?_;refine stG rfl (by exact cZ oA) (lJ rfl) rfl rfl ?_)|(refine yP ?_;refine stG rfl (by exact cZ oA) (A8 rfl) rfl rfl ?_)|(refine dX ?_;refine stG rfl (by exact cZ oA) (bG rfl rfl rfl (by first|exact JX (by exact .inr (.inl rfl)) rfl|exact CW (by exact .inr (.inl rfl)) rfl)) rfl rfl ?_)|(refine Ba ?_;refine stG rfl (by exact cZ oA) (nU oR oR oR oR rfl oR) rfl rfl ?_)|refine stS rfl (by first|rfl|exact eX oA) rfl ?_|((fail_if_success (refine Vf rfl oR ?_));(refine zS rfl ?_ ?_ <;> intro _)))|refine aG ?_|refine qR rfl oR ?_|(refine iR rfl ?_ ?_ <;> intro _))
 all_goals
  refine dK (.tmp rfl .nil) (.plain rfl rfl) ⟨?_,rfl⟩
  simp only [jY,iD,← SY]
  congr 1
  unfold fB
  repeat' split
  all_goals first|rfl|omega
theorem FD {σ:Heap} {s:St} {l:List Int} {x c:Nat} (hx:dN σ x (ints l)) (hN:l.length≤1000000) (hr:-9223372036854775808≤s.short∧s.short≤9223372036854775807) (hni:σ.all (fun o=>!aU o)=true) :
  Ev Tryz.prog 162 [s.val,.s x l.length c] σ (.i (iD s l)) σ :=
 Ev.arrs [ints l] [x] (FC s l c hN hr) ⟨hx,trivial⟩ ⟨aY _ rfl,by simpa [bsR] using VQ.slice (q:=true) (n:=1) (ρ:=bsR [x]) 0 0 l.length c c (aD _) oO,trivial⟩ (by simp [bC]) rfl hni
theorem rZ {σ:Heap} {s:St} {l:List Int} {x c:Nat} (hx:dN σ x (ints l)) (hni:σ.all (fun o=>!aU o)=true) :
  Ev Tryz.prog 64 [s.val,.s x l.length c] σ (.i (iD s l)) σ :=
 Ev.arrs [ints l] [x] (Fz s l c) ⟨hx,trivial⟩ ⟨aY _ rfl,by simpa [bsR] using VQ.slice (q:=true) (n:=1) (ρ:=bsR [x]) 0 0 l.length c c (aD _) oO,trivial⟩ (by simp [bC]) rfl hni
end Go.Proofs.YtajpgeklmcjciaaGreat
namespace Go.AH
open Go
def agc (p:Int×Int):List Value:=[.int .i64 p.1,.int .i64 p.2]
def mF (f:Nat→Int×Int):List Value:=(List.range 12).flatMap fun k=>agc (f k)
def outC (g:Nat→Int):List Value:=(List.range 12).map fun k=>.int .i64 (g k)
def dA (s:St) (tv:Value) (f:Nat→Int×Int) (g:Nat→Int):List Value:=s.cells++[tv]++mF f++outC g
theorem Yd {s:St} {tv:Value} {f:Nat→Int×Int} {g:Nat→Int}:∀ {i:Nat},i<12→(dA s tv f g)[6+i*2]?=some (.i (f i).1)
 |0,_=>rfl|1,_=>rfl|2,_=>rfl|3,_=>rfl|4,_=>rfl|5,_=>rfl|6,_=>rfl|7,_=>rfl|8,_=>rfl|9,_=>rfl|10,_=>rfl|11,_=>rfl
theorem ab4 {s:St} {tv:Value} {f:Nat→Int×Int} {g:Nat→Int}:∀ {i:Nat},i<12→(dA s tv f g)[30+i*1]?=some (.i (g i))
 |0,_=>rfl|1,_=>rfl|2,_=>rfl|3,_=>rfl|4,_=>rfl|5,_=>rfl|6,_=>rfl|7,_=>rfl|8,_=>rfl|9,_=>rfl|10,_=>rfl|11,_=>rfl
theorem S9 {s:St} {tv:Value} {f:Nat→Int×Int} {g:Nat→Int} {a b:Int}:∀ {i:Nat},i<12→splice (dA s tv f g) (6+i*2) [.i a,.i b]=dA s tv (VW f i (a,b)) g
 |0,_=>rfl|1,_=>rfl|2,_=>rfl|3,_=>rfl|4,_=>rfl|5,_=>rfl|6,_=>rfl|7,_=>rfl|8,_=>rfl|9,_=>rfl|10,_=>rfl|11,_=>rfl
theorem Ee {s:St} {tv:Value} {f:Nat→Int×Int} {g:Nat→Int}:(dA s tv f g).length=42:=rfl
theorem qI (s:St):dL s.cells=true:=by simp [St.cells,dL,plain]
theorem oP (f:Nat→Int×Int):dL (mF f)=true:=by simp [mF,agc,List.range,List.range.loop,dL,plain]
theorem FH (g:Nat→Int):dL (outC g)=true:=by simp [outC,List.range,List.range.loop,dL,plain]
theorem jg {n:Nat} {s:St} {tv:Value} {f:Nat→Int×Int} {g:Nat→Int} (h1:closed n tv=true) (h2:okV tv=true):dP n (dA s tv f g)=true∧okL (dA s tv f g)=true:=by
 have a:=aW (n:=n) (qI s)
 have b:=aW (n:=n) (oP f)
 have c:=aW (n:=n) (FH g)
 simp only [dA,SS,aeM]
 exact ⟨by simp [a.1,b.1,c.1,dP,h1],by simp [a.2,b.2,c.2,okL,h2]⟩
def span (s:St) (n:Int):Int×Int:=(max s.short ((s.lo+n - 1).tdiv n+s.off),min s.long (s.hi.tdiv n - s.off))
def JY (s:St) (n:Int):Int×Int:=if (span s n).1≤(span s n).2 then span s n else (100001,-1)
def dQ (s:St) (l:List Int) (i:Nat):Int×Int:=if i<l.length then JY s (gi l i) else (100001,-1)
end Go.AH
namespace Go.Proofs.YtajpgeklmcjciaaGreat
open Go Go.AH
attribute [local irreducible] bZ bK bM jB gy dO fC bW eU aX dV eH
theorem V3 (s:St) (l:List Int) (c:Nat) (h12:l.length≤12) (hs:¬ fB s) (ht:tV l=false) :
  Ev Tryz.prog 163 [s.val,.s 0 l.length c] [.ro (ints l)] (.p 1) [.ro (ints l),.rw (dA s (.s 0 l.length c) (dQ s l) fun _=>0)]:=by
 refine aI 1 72 Tryz.func163 rfl rfl rfl rfl rfl ?_
 repeat' (first|(refine gU ?_;first|refine Py ?_|refine Pz ?_|(refine bV ?_;refine st (bD rfl oR) rfl rfl ?_)|refine sK4 ?_|(refine gBox ?_;refine st (OB rfl) rfl rfl ?_))|refine xR ?_|refine aG ?_|refine kP ?_|refine tC ?_|refine qg ?_)
 unfold fB at hs
 have v:∀ i<l.length,1≤gi l i∧gi l i≤10000:=fun i hi=>by
  have:¬ (gi l i<1∨gi l i > 10000):=fun hb=>by rw [pK.2 ⟨i,hi,hb⟩] at ht;cases ht
  omega
 refine iM (ι:=Nat) (fun i=>[(1,.s 0 l.length c),(2,.p 1),(5,.p 2),(15,.i (i:Int))])
  (fun i=>[.ro (ints l),.rw s.cells,.rw (dA s (.s 0 l.length c) (fun k=>if k<i then (100001,-1) else (0,0)) fun _=>0)]) (fun i=>12 - i) (fun i=>i≤12) 0 oS
  (.same tE) oO ?_
 ·intro i hi
  have j:i<12→putCells [.ro (ints l),.rw s.cells,.rw (dA s (.s 0 l.length c) (fun k=>if k<i then (100001,-1) else (0,0)) fun _=>0)] 2 (6+i*2) [.i 100001,.i (-1)] =
    some [.ro (ints l),.rw s.cells,.rw (dA s (.s 0 l.length c) (fun k=>if k<i+1 then (100001,-1) else (0,0)) fun _=>0)]:=fun h=>by
   refine fM rfl (by rw [Ee];simp;omega) (by rw [Ee];omega) ?_
   rw [S9 h]
   congr 1
   funext k
   simp only [VW]
   by_cases hk:k=i <;> by_cases f:k<i <;> simp [hk,f] <;> omega
  repeat' (first|(refine gU ?_;first|refine Py ?_|refine Pz ?_|(refine ES ?_;refine st (qP rfl rfl oO) rfl rfl ?_)|refine sK0 ?_|(refine ET ?_;refine st (lJ rfl) rfl rfl ?_)|(refine gV ?_;refine stN (bU rfl rfl rfl rfl (by exact j oO)) rfl ?_))|(refine fU ?_;first|refine PD ?_|(refine fFA ?_;refine fr (aZ rfl) oR rfl ?_)|(refine OH ?_;refine fr (jT rfl) oR rfl ?_)|(refine fIA ?_;refine fr (Ac rfl rfl oO) oR rfl ?_)|(refine qF ?_;refine fr (bG rfl rfl rfl (by exact Ev.nil CX rfl rfl rfl)) oR rfl ?_))|(refine fP ⟨oK,?_⟩)|refine xR ?_|refine aG ?_|refine sK5 ?_|refine kP ?_|refine tC ?_|refine Y0 ?_|refine uF ?_|refine Ci rfl ?_|refine yI ?_|refine zJ ?_|refine qg ?_|(refine iR rfl ?_ ?_ <;> intro _))
  ·exact ⟨rfl,i+1,oO,oO,.same tE⟩
  ·obtain rfl:i=12:=oO
   refine iM (ι:=Nat) (fun i=>[(2,.p 1),(5,.p 2),(25,.s 0 l.length c),(26,.i (l.length:Int)),(27,.i (i:Int))])
    (fun i=>[.ro (ints l),.rw s.cells,.rw (dA s (.s 0 l.length c) (fun k=>if k<i then dQ s l k else (100001,-1)) fun _=>0)]) (fun i=>l.length - i) (fun i=>i≤l.length) 0 oS
    (.same tE) oO ?_
   intro i hi
   have r:i<l.length→aH [.ro (ints l),.rw s.cells,.rw (dA s (.s 0 l.length c) (fun k=>if k<i then dQ s l k else (100001,-1)) fun _=>0)] 0 i=some (.i (gi l i)):=fun h=>gQ h
   have e:=v i
   have hq1:i<l.length→0≤(s.lo+gi l i - 1).tdiv (gi l i):=fun h=>by
    have:=Int.tdiv_nonneg (a:=s.lo+gi l i - 1) (b:=gi l i) (by have:=e h;omega) (by have:=e h;omega);omega
   have hq2:i<l.length→(s.lo+gi l i - 1).tdiv (gi l i)≤2000000000:=fun h=>by
    have:=Int.tdiv_le_self (a:=s.lo+gi l i - 1) (gi l i) (by have:=e h;omega);have:=e h;omega
   have hq3:i<l.length→0≤s.hi.tdiv (gi l i):=fun h=>by
    have:=Int.tdiv_nonneg (a:=s.hi) (b:=gi l i) oO (by have:=e h;omega);omega
   have hq4:i<l.length→s.hi.tdiv (gi l i)≤2000000000:=fun h=>by
    have:=Int.tdiv_le_self (a:=s.hi) (gi l i) oO;omega
   have hf:∀ h:i<l.length,VW (fun k=>if k<i then dQ s l k else (100001,-1)) i (dQ s l i)=fun k=>if k<i+1 then dQ s l k else (100001,-1):=fun h=>by
    funext k
    simp only [VW]
    by_cases hk:k=i
    ·subst hk;simp
    ·by_cases f:k<i
     ·simp [hk,f,show k<i+1 by omega]
     ·simp [hk,f,show ¬ k<i+1 by omega]
   have j:(i<l.length∧max s.short ((s.lo+gi l i - 1).tdiv (gi l i)+s.off)≤min s.long (s.hi.tdiv (gi l i) - s.off)) →
     putCells [.ro (ints l),.rw s.cells,.rw (dA s (.s 0 l.length c) (fun k=>if k<i then dQ s l k else (100001,-1)) fun _=>0),
      .rw [.i (max s.short ((s.lo+gi l i - 1).tdiv (gi l i)+s.off)),.i (min s.long (s.hi.tdiv (gi l i) - s.off))]] 2 (6+i*2)
      [.i (max s.short ((s.lo+gi l i - 1).tdiv (gi l i)+s.off)),.i (min s.long (s.hi.tdiv (gi l i) - s.off))] =
     some [.ro (ints l),.rw s.cells,.rw (dA s (.s 0 l.length c) (fun k=>if k<i+1 then dQ s l k else (100001,-1)) fun _=>0),
      .rw [.i (max s.short ((s.lo+gi l i - 1).tdiv (gi l i)+s.off)),.i (min s.long (s.hi.tdiv (gi l i) - s.off))]]:=fun ⟨h,hb⟩=>by
    refine fM rfl (by rw [Ee];simp;omega) (by rw [Ee];omega) ?_
    rw [S9 oO,← hf h]
    have:dQ s l i=(max s.short ((s.lo+gi l i - 1).tdiv (gi l i)+s.off),min s.long (s.hi.tdiv (gi l i) - s.off)):=by
     simp only [dQ,if_pos h,JY,span]
     exact if_pos hb
    rw [this]
   have o:∀ i,fJ 3 [.ro (ints l),.rw s.cells,.rw (dA s (.s 0 l.length c) (fun k=>if k<i then dQ s l k else (100001,-1)) fun _=>0)]:=fun i =>
    ⟨aW (bC l),aW (qI s),jg (tv:=.s 0 l.length c) (dM oO).1 (dM (n:=3) (i:=0) oO).2,trivial⟩
   repeat' (first|(refine gU ?_;first|refine Py ?_|refine Pz ?_|(refine gFA ?_;refine st (aZ rfl) rfl rfl ?_)|(refine bV ?_;refine st (aK rfl (by first|rfl|exact r oO)) rfl rfl ?_)|(refine ES ?_;first|refine st (qP rfl rfl oO) rfl rfl ?_|refine st (vJ rfl rfl oO oO) rfl rfl ?_)|refine sK8 ?_|(refine BK ?_;first|refine st (jm rfl rfl rfl) rfl rfl ?_|refine st (Ad rfl rfl oO oO oO) rfl rfl ?_)|refine sK1 ?_|(refine gV ?_;refine stN (bU rfl rfl rfl rfl (by first|rfl|exact j oO)) rfl ?_))|(refine fU ?_;first|refine PD ?_|(refine fFA ?_;refine fr (aZ rfl) oR rfl ?_)|(refine gB ?_;first|refine fr (aK rfl oR) oR rfl ?_|refine fr (bD rfl oR) oR rfl ?_)|refine Zw ?_|refine LM ?_|(refine EW ?_;refine fr (Ad rfl rfl oO oO oO) oR rfl ?_)|(refine OH ?_;refine fr (jT rfl) oR rfl ?_)|(refine fIA ?_;refine fr (Ac rfl rfl oO) oR rfl ?_)|(refine fMax ?_;refine fr (Cc rfl rfl) oR rfl ?_)|refine VT ?_|(refine EX ?_;refine fr (oG oR rfl oR) oR rfl ?_)|(refine zV ?_;refine fr1 (kC rfl) rfl rfl rfl ?_))|(refine fP ⟨oK,?_⟩)|refine xR ?_|refine aG ?_|refine sK5 ?_|refine kP ?_|refine tC ?_|refine Y0 ?_|refine uF ?_|refine Ci rfl ?_|refine yI ?_|refine zJ ?_|refine Gy ?_|refine qg ?_|(refine iR rfl ?_ ?_ <;> intro _))
   ·exact ⟨rfl,i+1,oO,oO,.drop _ [_] (cA rfl) (o _) ⟨⟨rfl,rfl,rfl⟩,⟨rfl,rfl,rfl⟩,⟨rfl,dM (Nat.blt_eq.mp rfl)⟩,⟨rfl,rfl,rfl⟩,⟨rfl,rfl,rfl⟩,trivial⟩⟩
   ·rename_i hlt hb
    have d:i<l.length:=oO
    have u:dQ s l i=(100001,-1):=by
     simp only [dQ,if_pos d,JY,span]
     exact if_neg hb
    have g:(fun k=>if k<i+1 then dQ s l k else ((100001,-1):Int×Int))=fun k=>if k<i then dQ s l k else (100001,-1):=by
     rw [← hf d,u]
     funext k
     simp only [VW]
     by_cases hk:k=i <;> simp [hk]
    refine ⟨rfl,i+1,oO,oO,?_⟩
    rw [g]
    exact .drop _ [_] (cA rfl) (o _) ⟨⟨rfl,rfl,rfl⟩,⟨rfl,rfl,rfl⟩,⟨rfl,dM (Nat.blt_eq.mp rfl)⟩,⟨rfl,rfl,rfl⟩,⟨rfl,rfl,rfl⟩,trivial⟩
   ·obtain rfl:i=l.length:=oO
    have g:(fun k=>if k<l.length then dQ s l k else ((100001,-1):Int×Int))=dQ s l:=by
     funext k
     by_cases hk:k<l.length <;> simp [hk,dQ]
    rw [g]
    refine dK (.tmp rfl .nil) (.src [_] [2] rfl rfl rfl ⟨yh (m:=1) rfl (.inl rfl) (fun i hi=>fE hi) (cA rfl) (jg (n:=1) (tv:=.s 0 l.length c) (dM oO).1 (dM (n:=1) (i:=0) oO).2).1 (jg (n:=1) (tv:=.s 0 l.length c) (dM oO).1 (dM (n:=1) (i:=0) oO).2).2,trivial⟩ ?_) ⟨rfl,rfl⟩
    have:=VQ.ptr (q:=true) (n:=2) (ρ:=fK 1 [2]) 1 0 oO
    exact this
end Go.Proofs.YtajpgeklmcjciaaGreat
namespace Go.AH
open Go
theorem JZ {r:Rho} {s:St} {tv:Value} {f:Nat→Int×Int} {g:Nat→Int}:yF r (dA s tv f g)=dA s (ren r tv) f g:=by
 simp only [dA,ab1,PI (qI s),PI (oP f),PI (FH g)]
 rfl
end Go.AH
namespace Go.Proofs.YtajpgeklmcjciaaGreat
open Go Go.AH
attribute [local irreducible] bZ bK bM jB gy dO fC bW eU aX dV eH
theorem V4 {σ:Heap} {s:St} {l:List Int} {x c:Nat} (hx:dN σ x (ints l)) (h12:l.length≤12) (hs:¬ fB s) (ht:tV l=false) (hni:σ.all (fun o=>!aU o)=true) :
  Ev Tryz.prog 163 [s.val,.s x l.length c] σ (.p σ.length) (σ++[.rw (dA s (.s x l.length c) (dQ s l) fun _=>0)]):=by
 refine Ev.arrsN [ints l] [x] (V3 s l c h12 hs ht) ⟨hx,trivial⟩ ⟨aY _ rfl,by simpa [bsR] using VQ.slice (q:=true) (n:=1) (ρ:=bsR [x]) 0 0 l.length c c (aD _) oO,trivial⟩ (by simp [bC]) rfl ?_ ?_ hni
 ·simp [ren,shf]
 ·simp only [cG,dz,CJ,JZ]
  simp [ren,shf,bsR]
theorem mX {s:St} {l:List Int} (h:iD s l=0):l.length≤12∧1≤l.length∧¬ fB s∧tV l=false:=by
 unfold iD at h
 split at h
 ·omega
 ·split at h
  ·omega
  ·split at h
   ·omega
   ·rename_i h1 h2 h3
    exact ⟨oO,oO,h2,by simpa using h3⟩
theorem ab5 {A B:Prop} (k:B) (h:Hide B→A:=by intro h_k_;(repeat' (first|refine sCm ?_|(refine gU ?_;first|(refine bV ?_;refine st (bD rfl (by rfl)) rfl rfl ?_)|refine sK0 ?_|(refine dX ?_;refine st (bG rfl rfl rfl (by first|exact FD (by exact .inl rfl) (by assumption) (by assumption) rfl|exact V4 (by exact .inl rfl) (by assumption) (by assumption) (by assumption) rfl)) rfl rfl ?_))|refine aG ?_|refine sK2 ?_|refine nZ rfl (by first|rfl|exact cZ (by omega)) ?_));exact h_k_.h):A:=h ⟨k⟩
theorem ab6 (s:St) (l:List Int) (c:Nat) (hN:l.length≤1000000) (hr:-9223372036854775808≤s.short∧s.short≤9223372036854775807) (h:iD s l ≠ 0) :
  Ev Tryz.prog 69 [s.val,.s 0 l.length c] [.ro (ints l)] (.tuple #[.pointer none,.i (iD s l)]) [.ro (ints l)]:=by
 refine aI 1 16 Tryz.func69 rfl rfl rfl rfl rfl ?_
 refine ab5 ?_
 refine dK (.tmp rfl (.tmp rfl .nil)) (.plain rfl rfl) ⟨rfl,rfl⟩
theorem aeN (s:St) (l:List Int) (c:Nat) (hr:-9223372036854775808≤s.short∧s.short≤9223372036854775807) (h:iD s l=0) :
  Ev Tryz.prog 69 [s.val,.s 0 l.length c] [.ro (ints l)] (.tuple #[.p 1,.i 0]) [.ro (ints l),.rw (dA s (.s 0 l.length c) (dQ s l) fun _=>0)]:=by
 obtain ⟨h12,h1,hs,ht⟩:=mX h
 have hN:l.length≤1000000:=oO
 refine aI 1 16 Tryz.func69 rfl rfl rfl rfl rfl ?_
 refine ab5 ?_
 refine dK (.tmp rfl (.tmp rfl .nil)) (.src [_] [2] rfl rfl rfl ⟨yh (m:=1) rfl (.inl rfl) (fun i hi=>fE hi) (cA rfl) (jg (n:=1) (tv:=.s 0 l.length c) (dM oO).1 (dM (n:=1) (i:=0) oO).2).1 (jg (n:=1) (tv:=.s 0 l.length c) (dM oO).1 (dM (n:=1) (i:=0) oO).2).2,trivial⟩ ?_) ⟨rfl,rfl⟩
 refine .tuple _ _ rfl fun i hi _=>?_
 match i,hi with
 |0,_=>exact VQ.ptr (q:=true) (n:=2) (ρ:=fK 1 [2]) 1 0 oO
 |1,_=>exact .int _ _
def rkV (l:List Int) (t c:Nat):Value:=.slice (some ⟨t,0,none⟩) l.length c
theorem ahn (s:St) (l:List Int) (c:Nat) (f:Nat→Int×Int) (g:Nat→Int) (i:Nat) (hi:i<12) :
  Ev Tryz.prog 286 [.i (i:Int),.p 2] [.ro (ints l),.ro (dA s (rkV l 0 c) f g),.ro [.p 1]] (.i (f i).1)
   [.ro (ints l),.ro (dA s (rkV l 0 c) f g),.ro [.p 1]]:=by
 refine aI 3 11 Tryz.func286 rfl rfl rfl rfl rfl ?_
 have a:i<12→aH [.ro (ints l),.ro (dA s (rkV l 0 c) f g),.ro [.p 1]] 1 (6+i*2)=some (.i (f i).1):=fun h=>Yd h
 repeat' (first|refine sCm ?_|(refine gU ?_;first|(refine bV ?_;refine st (aK rfl (by first|rfl|exact a oO)) rfl rfl ?_)|refine PE ?_)|refine aG ?_)
 refine dK (.tmp rfl .nil) (.plain rfl rfl) ⟨?_,rfl⟩
 rfl
end Go.Proofs.YtajpgeklmcjciaaGreat
namespace Go.AH
open Go
def fF (key:Nat→Int) (l:List Nat):Nat→Int
 |0=>-1
 |n+1=>if fF key l n<0∨key (gn l n)<key (gn l (fF key l n).toNat) then (n:Int) else fF key l n
theorem wu (key:Nat→Int) (l:List Nat):∀ n:Nat,-1≤fF key l n∧fF key l n<n
 |0=>by simp [fF]
 |n+1=>by
  have:=wu key l n
  simp only [fF]
  split <;> omega
theorem V5 (key:Nat→Int) (l:List Nat) {n:Nat} (h:0<n):0≤fF key l n:=by
 obtain ⟨n,rfl⟩:∃ k,n=k+1:=⟨n - 1,oO⟩
 simp only [fF]
 split <;> omega
end Go.AH
namespace Go.Proofs.YtajpgeklmcjciaaGreat
open Go Go.AH
attribute [local irreducible] bZ bK bM jB gy dO fC bW eU aX dV eH
theorem fZ.app {n:Nat} {π:Rho} {a a' b b':List Value} (h1:fZ n π a a') (h2:fZ n π b b'):fZ n π (a++b) (a'++b'):=by
 refine ⟨by simp [h1.1,h2.1],fun j h h'=>?_⟩
 by_cases hj:j<a.length
 ·rw [eW hj,eW (by have:=h1.1;omega)];exact h1.2 j hj _
 ·simp only [aR] at h h'
  have:=h1.1
  rw [eV oO,eV oO]
  have:=h2.2 (j - a.length) oO oO
  simpa [h1.1] using this
theorem fZ.plain {n:Nat} {π:Rho} {a:List Value} (h:dL a=true):fZ n π a a:=⟨rfl,fun j hj _=>lC a h j hj⟩
theorem fZ.one {n:Nat} {π:Rho} {v v':Value} (h:jG n π v v'):fZ n π [v] [v']:=by
 refine ⟨rfl,fun j hj _=>?_⟩
 have:j=0:=by simpa using hj
 subst this;exact h
theorem wz {n:Nat} {π:Rho} {s:St} {tv tv':Value} {f:Nat→Int×Int} {g:Nat→Int} (h:jG n π tv tv'):fZ n π (dA s tv f g) (dA s tv' f g) :=
 fZ.app (fZ.app (fZ.app (fZ.plain (qI s)) (fZ.one h)) (fZ.plain (oP f))) (fZ.plain (FH g))
theorem aho {σ:Heap} {s:St} {l:List Int} {c:Nat} {f:Nat→Int×Int} {g:Nat→Int} {i t r x:Nat} (hi:i<12) (ht:dN σ t (ints l)) (hr:dN σ r (dA s (rkV l t c) f g)) (hx:dN σ x [.p r])
  (hni:σ.all (fun o=>!aU o)=true):Ev Tryz.prog 286 [.i (i:Int),.p x] σ (.i (f i).1) σ:=by
 exact Ev.arrsP [ints l,dA s (rkV l 0 c) f g,[.p 1]] [(t,ints l),(r,dA s (rkV l t c) f g),(x,[.p r])] (ahn s l c f g i hi)
  ⟨⟨ht,fZ.plain (bC l)⟩,⟨hr,wz (by simpa [bsR,rkV] using VQ.slice (q:=true) (n:=3) (ρ:=bsR [t,r,x]) 0 0 l.length c c (aD _) oO)⟩,⟨hx,fZ.one (by simpa [bsR] using VQ.ptr (q:=true) (n:=3) (ρ:=bsR [t,r,x]) 1 0 oO)⟩,trivial⟩
  ⟨.int _ _,by simpa [bsR] using VQ.ptr (q:=true) (n:=3) (ρ:=bsR [t,r,x]) 2 0 oO,trivial⟩ rfl hni
end Go.Proofs.YtajpgeklmcjciaaGreat
namespace Go.AH
open Go
abbrev nw:Int×Int:=(100001,-1)
def Cov (f:Nat→Int×Int) (n:Nat) (x:Int):Prop:=∃ i<n,(f i).1≤x∧x≤(f i).2
def Ef (f:Nat→Int×Int) (n:Nat) (short long r:Int):Prop :=
 (r=-1∧∀ x,short≤x→x≤long→Cov f n x)∨(short≤r∧r≤long∧¬ Cov f n r∧∀ x,r<x→x≤long→Cov f n x)
theorem Ef.uniq {f:Nat→Int×Int} {n:Nat} {short long r r':Int} (_hs:0≤short) (h:Ef f n short long r) (h':Ef f n short long r'):r=r':=by
 rcases h with ⟨rfl,h⟩|⟨h1,h2,h3,h4⟩ <;> rcases h' with ⟨rfl,h'⟩|⟨g1,g2,g3,g4⟩
 ·rfl
 ·exact absurd (h _ g1 g2) g3
 ·exact absurd (h' _ h1 h2) h3
 ·rcases Int.lt_trichotomy r r' with hl|hl|hl
  ·exact absurd (h4 _ hl g2) g3
  ·exact hl
  ·exact absurd (g4 _ hl h2) h3
def covB (f:Nat→Int×Int) (n:Nat) (x:Int):Bool:=(List.range n).any fun i=>decide ((f i).1≤x) && decide (x≤(f i).2)
theorem Tc {f:Nat→Int×Int} {n:Nat} {x:Int}:covB f n x=true↔Cov f n x:=by simp [covB,Cov]
def PN (f:Nat→Int×Int) (x:Int):Nat→Int
 |0=>x+1
 |n+1=>if (f n).1≤x∧x≤(f n).2 then min (PN f x n) (f n).1 else PN f x n
theorem Ye {f:Nat→Int×Int} {x:Int}:∀ {n:Nat},PN f x n≤x+1∧(∀ i<n,(f i).1≤x→x≤(f i).2→PN f x n≤(f i).1)∧(PN f x n=x+1∨∃ i<n,(f i).1=PN f x n∧(f i).1≤x∧x≤(f i).2)
 |0=>⟨dE _,fun i h=>oO,.inl rfl⟩
 |n+1=>by
  obtain ⟨h1,h2,h3⟩:=Ye (f:=f) (x:=x) (n:=n)
  simp only [PN]
  split
  ·rename_i h
   refine ⟨oO,fun i hi a b=>?_,?_⟩
   ·by_cases c:i=n
    ·subst c;omega
    ·have:=h2 i oO a b;omega
   ·rcases h3 with h3|⟨i,hi,h3,h4⟩
    ·exact .inr ⟨n,oO,oO,h⟩
    ·by_cases hc:PN f x n≤(f n).1
     ·exact .inr ⟨i,oO,oO,h4⟩
     ·exact .inr ⟨n,oO,oO,h⟩
  ·rename_i h
   refine ⟨h1,fun i hi a b=>?_,?_⟩
   ·by_cases c:i=n
    ·subst c;exact absurd ⟨a,b⟩ h
    ·exact h2 i oO a b
   ·rcases h3 with h3|⟨i,hi,h3⟩
    ·exact .inl h3
    ·exact .inr ⟨i,oO,h3⟩
def Yf (f:Nat→Int×Int) (n:Nat) (short:Int):Nat→Int→Int
 |0,_=>-1
 |k+1,x=>if x<short then -1 else if covB f n x=true then Yf f n short k (PN f x n - 1) else x
def aeO (f:Nat→Int×Int) (n:Nat) (short long:Int):Int:=Yf f n short (long - short+1).toNat long
theorem Td {f:Nat→Int×Int} {n:Nat} {short long:Int}:∀ (k:Nat) (x:Int),x≤long→x<short+k→(∀ y,x<y→y≤long→Cov f n y)→Ef f n short long (Yf f n short k x)
 |0,x,hx,hk,h=>.inl ⟨rfl,fun y h1 h2=>h y oO h2⟩
 |k+1,x,hx,hk,h=>by
  simp only [Yf]
  split
  ·exact .inl ⟨rfl,fun y h1 h2=>h y oO h2⟩
  ·split
   ·rename_i h1 h2
    obtain ⟨a1,a2,a3⟩:=Ye (f:=f) (x:=x) (n:=n)
    obtain ⟨i,hi,c1,c2⟩:=Tc.1 h2
    have hle:=a2 i hi c1 c2
    refine Td k _ oO oO fun y hy a=>?_
    by_cases c:x<y
    ·exact h y c a
    ·rcases a3 with a3|⟨j,hj,b1,b2,b3⟩
     ·omega
     ·exact ⟨j,hj,oO,oO⟩
   ·rename_i h1 h2
    exact .inr ⟨oO,hx,fun hc=>h2 (Tc.2 hc),h⟩
theorem PO {f:Nat→Int×Int} {n:Nat} {short long:Int} (h:short≤long):Ef f n short long (aeO f n short long) :=
 Td _ _ (dE _) oO fun y h1 h2=>by omega
def jJ (l:mg):List (Int×Int):=l.map (·.1)
theorem ab7 (l:mg) (k:Int×Int) (v:Value):jJ (lN l k v)=if k ∈ jJ l then jJ l else jJ l++[k]:=by
 unfold lN
 cases hf:(l.map (·.1)).findIdx? (fun q=>decide (k=q)) with
 |none =>
  have:k ∉ jJ l:=fun hk=>by
   rw [List.findIdx?_eq_none_iff] at hf
   have:=hf k hk
   simp at this
  rw [if_neg this];simp [jJ]
 |some j =>
  obtain ⟨h1,h2,h3⟩:=List.findIdx?_eq_some_iff_getElem.1 hf
  have hk:k=(jJ l)[j]:=of_decide_eq_true h2
  have:k ∈ jJ l:=by rw [hk];exact cP h1
  rw [if_pos this]
  simp only [jJ,List.map_set]
  refine List.ext_getElem oS fun i h4 h5=>?_
  rw [List.getElem_set]
  split
  ·rename_i a;subst a;exact hk
  ·rfl
theorem BO {l:mg} {k p:Int×Int} (hn:(jJ l).Nodup):p ∈ jJ (nG l k)↔p ∈ jJ l∧p ≠ k:=by
 unfold nG
 cases hf:(l.map (·.1)).findIdx? (fun q=>decide (k=q)) with
 |none =>
  have:k ∉ jJ l:=fun hk=>by
   rw [List.findIdx?_eq_none_iff] at hf
   have:=hf k hk
   simp at this
  exact ⟨fun h=>⟨h,fun d=>this (d ▸ h)⟩,fun h=>h.1⟩
 |some j =>
  obtain ⟨h1,h2,h3⟩:=List.findIdx?_eq_some_iff_getElem.1 hf
  have hk:k=(jJ l)[j]:=of_decide_eq_true h2
  have a:jJ (l.eraseIdx j)=(jJ l).eraseIdx j:=by simp [jJ,List.eraseIdx_eq_take_drop_succ,List.map_take,List.map_drop]
  simp only [a]
  have h1':j<(jJ l).length:=h1
  have hp:=List.pairwise_iff_getElem.1 hn
  rw [List.mem_eraseIdx_iff_getElem]
  constructor
  ·rintro ⟨i,hi,c,rfl⟩
   refine ⟨cP _,fun he=>?_⟩
   rw [hk] at he
   rcases fu c with h|h
   ·exact hp _ _ _ _ h he
   ·exact hp _ _ _ _ h he.symm
  ·rintro ⟨h4,h5⟩
   obtain ⟨i,hi,rfl⟩:=ey h4
   exact ⟨i,hi,fun e=>h5 (by subst e;exact hk.symm),rfl⟩
theorem wW (l:mg) (k:Int×Int):(nG l k).Sublist l:=by
 unfold nG
 split
 ·exact List.eraseIdx_sublist ..
 ·exact List.Sublist.refl _
theorem Ia {l:mg} {k:Int×Int} (hn:(jJ l).Nodup):(jJ (nG l k)).Nodup:=List.Nodup.sublist ((wW l k).map _) hn
def bm (f:Nat→Int×Int):Nat→mg
 |0=>[]
 |i+1=>if f i=nw then bm f i else lN (bm f i) (f i) (.int .i64 (i:Int))
theorem Yg (f:Nat→Int×Int):∀ n,(jJ (bm f n)).Nodup∧∀ p,p ∈ jJ (bm f n)↔∃ i<n,f i=p∧p ≠ nw
 |0=>⟨by simp [bm,jJ],fun p=>by simp [bm,jJ]⟩
 |n+1=>by
  obtain ⟨h1,h2⟩:=Yg f n
  simp only [bm]
  split
  ·rename_i hn
   refine ⟨h1,fun p=>(h2 p).trans ⟨fun ⟨i,hi,a,b⟩=>⟨i,oO,a,b⟩,fun ⟨i,hi,a,b⟩=>⟨i,?_,a,b⟩⟩⟩
   rcases e7 i n with h|h
   ·exact h
   ·have:i=n:=oO
    subst this;exact absurd (a ▸ hn) b
  ·rename_i hn
   rw [ab7]
   split
   ·rename_i c
    refine ⟨h1,fun p=>⟨fun hp=>?_,fun ⟨i,hi,a,b⟩=>?_⟩⟩
    ·obtain ⟨i,hi,a,b⟩:=(h2 p).1 hp;exact ⟨i,oO,a,b⟩
    ·by_cases h:i=n
     ·subst h;exact a ▸ c
     ·exact (h2 p).2 ⟨i,oO,a,b⟩
   ·rename_i c
    refine ⟨List.nodup_append.2 ⟨h1,by simp,fun a ha b hb=>?_⟩,fun p=>⟨fun hp=>?_,fun ⟨i,hi,a,b⟩=>?_⟩⟩
    ·simp at hb;subst hb;exact fun h=>c (h ▸ ha)
    ·rcases List.mem_append.1 hp with hp|hp
     ·obtain ⟨i,hi,a,b⟩:=(h2 p).1 hp;exact ⟨i,oO,a,b⟩
     ·simp at hp;subst hp;exact ⟨n,oO,rfl,hn⟩
    ·by_cases h:i=n
     ·subst h;exact List.mem_append_right _ (by simp [a])
     ·exact fW _ ((h2 p).2 ⟨i,oO,a,b⟩)
theorem Eh (f:Nat→Int×Int):∀ n,∀ p ∈ bm f n,plain p.2=true
 |0,p,h=>by simp [bm] at h
 |n+1,p,h=>by
  simp only [bm] at h
  split at h
  ·exact Eh f n p h
  ·unfold lN at h
   split at h
   ·rcases List.mem_or_eq_of_mem_set h with h|rfl
    ·exact Eh f n p h
    ·rfl
   ·rcases List.mem_append.1 h with h|h
    ·exact Eh f n p h
    ·simp at h;subst h;rfl
def ab8 (l:mg) (seen:List (Int×Int)):Nat:=((jJ l).filter fun p=>decide (p ∉ seen)).length
theorem Tf {α:Type} (p q:α→Bool) (hpq:∀ x,q x=true→p x=true) (e:α) (hp:p e=true) (hq:q e=false):∀ (l l':List α),l'.Sublist l→e ∈ l→(l'.filter q).length<(l.filter p).length
 |l,l',hs,he=>by
  have h1:(l'.filter q).length≤(l.filter q).length:=(hs.filter q).length_le
  have h2:(l.filter q).length<(l.filter p).length:=Go.filter_lt p q hpq e hp hq l he
  omega
theorem Ti {l l':mg} {seen:List (Int×Int)} {k:Int×Int} (hs:l'.Sublist l) (hk:k ∈ jJ l) (hn:k ∉ seen):ab8 l' (seen++[k])<ab8 l seen :=
 Tf _ _ (fun x hx=>by simp at hx ⊢;exact hx.1) k (oU hn) oS _ _ (hs.map _) hk
structure GInv (f:Nat→Int×Int) (n:Nat) (short long len:Int) (lm:mg):Prop where
 le:len≤long
 ge:short - 1≤len
 nd:(jJ lm).Nodup
 pl:∀ q ∈ lm,plain q.2=true
 sub:∀ k ∈ jJ lm,∃ i<n,f i=k∧k ≠ nw
 all:∀ i<n,f i ≠ nw→f i ∈ jJ lm∨len<(f i).1
 cov:∀ x,len<x→x≤long→Cov f n x
structure GIn (f:Nat→Int×Int) (n:Nat) (len:Int) (lm:mg) (low:Int) (lm':mg) (seen:List (Int×Int)):Prop where
 sub:lm'.Sublist lm
 nd:(jJ lm').Nodup
 le:low≤len+1
 lw:low=len+1∨∃ i<n,f i ≠ nw∧(f i).1=low∧low≤len∧len≤(f i).2
 gone:∀ k ∈ jJ lm,k ∈ jJ lm'∨(len≤k.2∧low≤k.1)
 passed:∀ k ∈ jJ lm',k ∈ seen→k.2<len
section
variable {f:Nat→Int×Int} {n:Nat} {short long len low:Int} {lm lm':mg} {seen:List (Int×Int)}
theorem GIn.start (h:GInv f n short long len lm):GIn f n len lm (len+1) lm [] :=
 ⟨List.Sublist.refl _,h.nd,dE _,.inl rfl,fun k hk=>.inl hk,fun k _ hs=>by simp at hs⟩
theorem GIn.skip (h:GIn f n len lm low lm' seen) {k:Int×Int} (hk:k.2<len):GIn f n len lm low lm' (seen++[k]) :=
 ⟨h.sub,h.nd,h.le,h.lw,h.gone,fun q hq hs=>by
  rcases List.mem_append.1 hs with hs|hs
  ·exact h.passed q hq hs
  ·simp at hs;subst hs;exact hk⟩
theorem GIn.take (h:GIn f n len lm low lm' seen) (hi:GInv f n short long len lm) {k:Int×Int} (hk:k ∈ jJ lm') (hl:¬ k.2<len):GIn f n len lm (min low k.1) (nG lm' k) (seen++[k]):=by
 have p:k ∈ jJ lm:=(h.sub.map _).subset hk
 obtain ⟨i,o,g,r⟩:=hi.sub k p
 refine ⟨(wW lm' k).trans h.sub,Ia h.nd,by have:=h.le;omega,?_,fun q hq=>?_,fun q hq hs=>?_⟩
 ·by_cases hle:k.1<low
  ·by_cases hlen:k.1≤len
   ·exact .inr ⟨i,o,by rw [g];exact r,by rw [g];omega,oO,by rw [g];omega⟩
   ·have:=h.le;left;omega
  ·rcases h.lw with h0|⟨j,a,b,c,d,e⟩
   ·left;have:=h.le;omega
   ·exact .inr ⟨j,a,b,oO,oO,e⟩
 ·rcases h.gone q hq with h0|h0
  ·by_cases m:q=k
   ·subst m;exact .inr ⟨oO,oO⟩
   ·exact .inl ((BO h.nd).2 ⟨h0,m⟩)
  ·exact .inr ⟨h0.1,oO⟩
 ·obtain ⟨h0,h1⟩:=(BO h.nd).1 hq
  rcases List.mem_append.1 hs with hs|hs
  ·exact h.passed q h0 hs
  ·simp at hs;exact absurd hs h1
theorem GIn.found (h:GIn f n len lm low lm' seen) (hi:GInv f n short long len lm) (hall:∀ q ∈ lm',q.1 ∈ seen) (hlow:low > len) (hs:short≤len) (_hnw:∀ i<n,f i=nw∨(short≤(f i).1∧(f i).1≤(f i).2∧(f i).2≤long)) (_h1:1≤short):Ef f n short long len:=by
 refine .inr ⟨hs,hi.le,?_,hi.cov⟩
 rintro ⟨i,d,a,b⟩
 have e:f i ≠ nw:=fun h=>by rw [h] at a b;simp at a b;omega
 rcases hi.all i d e with hk|hk
 ·rcases h.gone _ hk with h0|h0
  ·obtain ⟨q,hq,c⟩:=List.mem_map.1 h0
   have:=h.passed _ h0 (by rw [← c];exact hall q hq)
   omega
  ·omega
 ·omega
theorem GIn.next (h:GIn f n len lm low lm' seen) (hi:GInv f n short long len lm) (hlow:¬ low > len) (hnw:∀ i<n,f i=nw∨(short≤(f i).1∧(f i).1≤(f i).2∧(f i).2≤long)):GInv f n short long (low - 1) lm':=by
 have hl:∃ i<n,f i ≠ nw∧(f i).1=low∧low≤len∧len≤(f i).2:=by
  rcases h.lw with h0|h0
  ·omega
  ·exact h0
 obtain ⟨i,e,o,a,b,c⟩:=hl
 have hs:short≤low:=by
  rcases hnw i e with h0|h0
  ·exact absurd h0 o
  ·omega
 refine ⟨by have:=hi.le;omega,oO,h.nd,fun q hq=>hi.pl q (h.sub.subset hq),fun k hk=>hi.sub k ((h.sub.map _).subset hk),fun j hj g=>?_,fun x hx m=>?_⟩
 ·rcases hi.all j hj g with h0|h0
  ·rcases h.gone _ h0 with h1|h1
   ·exact .inl h1
   ·exact .inr oO
  ·exact .inr oO
 ·by_cases d:len<x
  ·exact hi.cov x d m
  ·exact ⟨i,e,oO,oO⟩
end
theorem Ib {m:Nat} {v:Value} (h:plain v=true):closed m v=true∧okV v=true:=by
 have:=aW (n:=m) (l:=[v]) (by simp [dL,h])
 simpa [dP,okL] using this
theorem Ei {m:Nat} {lm:mg} (h:∀ q ∈ lm,plain q.2=true):fO m (nO lm):=by
 intro p hp
 obtain ⟨q,hq,rfl⟩:=List.mem_map.1 hp
 exact Ib (h q hq)
theorem ab9 {f:Nat→Int×Int}:∀ {i:Nat},i<12→(mF f)[i*2]?=some (.i (f i).1)
 |0,_=>rfl|1,_=>rfl|2,_=>rfl|3,_=>rfl|4,_=>rfl|5,_=>rfl|6,_=>rfl|7,_=>rfl|8,_=>rfl|9,_=>rfl|10,_=>rfl|11,_=>rfl
theorem acd {f:Nat→Int×Int}:∀ {i:Nat},i<12→(mF f)[i*2+1]?=some (.i (f i).2)
 |0,_=>rfl|1,_=>rfl|2,_=>rfl|3,_=>rfl|4,_=>rfl|5,_=>rfl|6,_=>rfl|7,_=>rfl|8,_=>rfl|9,_=>rfl|10,_=>rfl|11,_=>rfl
theorem Zz {f:Nat→Int×Int} {a b:Int}:∀ {i:Nat},i<12→splice (mF f) (i*2) [.i a,.i b]=mF (VW f i (a,b))
 |0,_=>rfl|1,_=>rfl|2,_=>rfl|3,_=>rfl|4,_=>rfl|5,_=>rfl|6,_=>rfl|7,_=>rfl|8,_=>rfl|9,_=>rfl|10,_=>rfl|11,_=>rfl
theorem ND {f:Nat→Int×Int}:(mF f).length=24:=rfl
theorem GN (f:Nat→Int×Int):DU f 12 (mF f).toArray:=fun _i hi=>⟨ab9 hi,acd hi⟩
theorem NG {a:aB} {s:St} {tv:Value} {f:Nat→Int×Int} {g:Nat→Int} {r:Heap}:∀ {i:Nat},i<12→aJ (a::.ro (dA s tv f g)::r) 1 (6+i*2) 2=some [.i (f i).1,.i (f i).2]
 |0,_=>rfl|1,_=>rfl|2,_=>rfl|3,_=>rfl|4,_=>rfl|5,_=>rfl|6,_=>rfl|7,_=>rfl|8,_=>rfl|9,_=>rfl|10,_=>rfl|11,_=>rfl
end Go.AH
namespace Go.Proofs.YtajpgeklmcjciaaGreat
open Go Go.AH
attribute [local irreducible] bZ bK bM jB gy dO fC bW eU aX dV eH
theorem qj {A B:Prop} (k:B) (h:Hide B→A:=by intro h_k_;(repeat' (first|refine sCm ?_|(refine gU ?_;first|refine Hu ?_|refine LP ?_|refine sK0 ?_|(refine OE ?_;refine st (MW (by rfl)) rfl rfl ?_)|refine Px ?_)|refine aG ?_|refine sK2 ?_|refine nZ rfl (by first|rfl|exact cZ (by assumption)|exact cZ (by omega)) ?_));exact h_k_.h):A:=h ⟨k⟩
theorem ahq (s:St) (l:List Int) (c:Nat) (f:Nat→Int×Int) (g:Nat→Int) (hn:l.length≤12) (h1:1≤s.short) (h2:s.short≤s.long) (h3:s.long≤100000)
  (hf:∀ i<l.length,f i=nw∨(s.short≤(f i).1∧(f i).1≤(f i).2∧(f i).2≤s.long)) (_hf':∀ i,l.length≤i→f i=nw) :
  Ev Tryz.prog 247 [.p 1] [.ro (ints l),.ro (dA s (rkV l 0 c) f g)] (.i (aeO f l.length s.short s.long)) [.ro (ints l),.ro (dA s (rkV l 0 c) f g)]:=by
 refine aI 2 93 Tryz.func247 rfl rfl rfl rfl rfl ?_
 refine qj ?_
 refine Iw ?_
 refine qj ?_
 refine iM (ι:=Nat) (fun i=>[(0,.p 1),(3,.p 2),(12,.i (i:Int))])
  (fun i=>[.ro (ints l),.ro (dA s (rkV l 0 c) f g),.rw (mF fun k=>if k<i then nw else (0,0))]) (fun i=>12 - i) (fun i=>i≤12) 0 oS
  (.same tE) oO ?_
 intro i hi
 have S:i<12→putCells [.ro (ints l),.ro (dA s (rkV l 0 c) f g),.rw (mF fun k=>if k<i then nw else (0,0))] 2 (0+i*2) [.i 100001,.i (-1)] =
   some [.ro (ints l),.ro (dA s (rkV l 0 c) f g),.rw (mF fun k=>if k<i+1 then nw else (0,0))]:=fun h=>by
  refine fM rfl (by rw [ND];simp;omega) (by rw [ND];omega) ?_
  rw [bA,Zz h]
  congr 1
  funext k
  simp only [VW]
  by_cases hk:k=i <;> by_cases R:k<i <;> simp [hk,R] <;> omega
 repeat' (first|refine sCm ?_|(refine gU ?_;first|refine sK0 ?_|refine PE ?_|(refine dX ?_;refine st (bG rfl rfl rfl (by exact Ev.nil CX rfl rfl rfl)) rfl rfl ?_)|(refine gV ?_;refine stN (bU rfl rfl rfl rfl (by exact S oO)) rfl ?_))|(refine fU ?_;first|refine PD ?_|(refine fFA ?_;refine fr (aZ rfl) oR rfl ?_)|(refine gB ?_;refine fr (bD rfl oR) oR rfl ?_)|(refine OH ?_;refine fr (jT rfl) oR rfl ?_))|(refine fP ⟨oK,?_⟩)|refine aG ?_|refine sK5 ?_|(refine iR rfl ?_ ?_ <;> intro _))
 ·exact ⟨rfl,i+1,oO,oO,.same tE⟩
 obtain rfl:i=12:=oO
 refine st (aaX (f:=f) (g:=fun k=>if k<12 then nw else (0,0)) (xs:=mF f) (ys:=mF fun k=>if k<12 then nw else (0,0)) oK rfl rfl (oP _) (oP _) (GN _) (GN _)) rfl rfl ?_
 repeat' (first|refine sCm ?_|(refine gU ?_;refine Hu ?_)|refine aG ?_|(refine iR rfl ?_ ?_ <;> intro _))
 ·rename_i o
  refine aaW (dK (.tmp rfl .nil) (.plain rfl rfl) ⟨?_,rfl⟩)
  simp only [jY]
  congr 1
  refine Ef.uniq oO (.inr ⟨h2,dE _,?_,fun x hx E=>oO⟩) (PO h2)
  rintro ⟨i,hi,a,b⟩
  have:=o i (List.mem_range.2 oO)
  rw [if_pos oO] at this
  rw [this] at a b
  simp at a b
  omega
 refine st yX rfl rfl ?_
 refine qj ?_
 refine iM (ι:=Nat) (fun i=>[(0,.p 1),(5,.map (some 3)),(35,.i (l.length:Int)),(36,.i (i:Int))])
  (fun i=>[.ro (ints l),.ro (dA s (rkV l 0 c) f g),.rw (mF fun k=>if k<12 then nw else (0,0)),nO (bm f i)]) (fun i=>l.length - i) (fun i=>i≤l.length) 0 oS
  (.same tE) oO ?_
 intro i hi
 have z:i<12→aJ [.ro (ints l),.ro (dA s (rkV l 0 c) f g),.rw (mF fun k=>if k<12 then nw else (0,0)),nO (bm f i)] 1 (6+i*2) 2=some [.i (f i).1,.i (f i).2]:=fun h=>NG h
 by_cases hlt:i<l.length
 ·repeat' (first|refine sCm ?_|(refine gU ?_;first|(refine bV ?_;refine st (bD rfl (by exact z oO)) rfl rfl ?_)|refine sK0 ?_|refine PE ?_)|(refine fU ?_;first|refine PD ?_|(refine fFA ?_;refine fr (aZ rfl) oR rfl ?_)|(refine gB ?_;refine fr (bD rfl (by exact z oO)) oR rfl ?_)|(refine EW ?_;refine fr (OJ rfl rfl) oR rfl ?_)|(refine OH ?_;refine fr (jT rfl) oR rfl ?_)|(refine fIA ?_;refine fr (Ac rfl rfl oO) oR rfl ?_)|(refine qF ?_;refine fr (bG rfl rfl rfl (by exact Ev.nil CX rfl rfl rfl)) oR rfl ?_))|(refine fP ⟨oK,?_⟩)|refine aG ?_|refine sK5 ?_|refine qR rfl (by first|rfl|exact eX oO) ?_|(refine iR rfl ?_ ?_ <;> intro _))
  ·rename_i u
   have H:f i ≠ nw:=fun h=>by rw [h] at u;simp at u
   refine stN (pq (i:=3) (l:=bm f i) (k:=f i) (v:=.i (i:Int)) rfl rfl rfl rfl rfl) rfl ?_
   refine qj ?_
   refine ⟨rfl,i+1,oO,oO,?_⟩
   have:bm f (i+1)=lN (bm f i) (f i) (.i (i:Int)):=by simp only [bm];rw [if_neg H]
   rw [this]
   exact .same tE
  ·rename_i u
   have H:f i=nw:=Prod.ext (by simpa using (Classical.not_not.1 u).1) (by simpa using (Classical.not_not.1 u).2)
   refine ⟨rfl,i+1,oO,oO,?_⟩
   have:bm f (i+1)=bm f i:=by simp only [bm];rw [if_pos H]
   rw [this]
   exact .same tE
 obtain rfl:i=l.length:=oO
 obtain ⟨G,J⟩:=Yg f l.length
 have C:=Eh f l.length
 clear z
 refine qj ?_
 refine Iu ?_
 refine qj ?_
 have F:∀ i<l.length,f i=nw∨(s.short≤(f i).1∧(f i).1≤(f i).2∧(f i).2≤s.long):=hf
 have P:∀ lm:mg,(∀ q ∈ lm,plain q.2=true)→fJ 4 [.ro (ints l),.ro (dA s (rkV l 0 c) f g),.rw (mF fun k=>if k<12 then nw else (0,0)),nO lm]:=fun lm hp=>⟨aW (bC l),jg (tv:=rkV l 0 c) (dM oO).1 (dM (n:=4) (i:=0) oO).2,aW (oP _),Ei hp,trivial⟩
 have r:∀ (lm:mg) (seen:List (Int×Int)),(∀ q ∈ lm,plain q.2=true)→fJ 5 [.ro (ints l),.ro (dA s (rkV l 0 c) f g),.rw (mF fun k=>if k<12 then nw else (0,0)),nO lm,.iter 3 (seen.map kv)]:=fun lm seen hp=>⟨aW (bC l),jg (tv:=rkV l 0 c) (dM oO).1 (dM (n:=5) (i:=0) oO).2,aW (oP _),Ei hp,(by show (3:Nat)<5;omega),trivial⟩
 refine iM (ι:=Int×mg) (fun q=>[(0,.p 1),(5,.map (some 3)),(7,.i (-1)),(8,.i q.1)])
  (fun q=>[.ro (ints l),.ro (dA s (rkV l 0 c) f g),.rw (mF fun k=>if k<12 then nw else (0,0)),nO q.2]) (fun q=>(q.1 - s.short+1).toNat) (fun q=>GInv f l.length s.short s.long q.1 q.2) (s.long,bm f l.length) oS
  (.same tE) ⟨dE _,oO,G,C,fun k hk=>(J k).1 hk,fun i hi Q=>.inl ((J _).2 ⟨i,hi,rfl,Q⟩),fun x hx E=>oO⟩ ?_
 rintro ⟨len,lm⟩ hI
 have hI:GInv f l.length s.short s.long len lm:=hI
 have hle:=hI.le
 have hge:=hI.ge
 by_cases D:len≥s.short
 ·refine qj ?_
  refine st (aaU (i:=3) (l:=lm) rfl rfl) rfl rfl ?_
  refine qj ?_
  refine iM (ι:=Int×mg×List (Int×Int)) (fun q=>[(0,.p 1),(5,.map (some 3)),(7,.i (-1)),(8,.i len),(9,.i q.1),(71,.p 4)])
   (fun q=>[.ro (ints l),.ro (dA s (rkV l 0 c) f g),.rw (mF fun k=>if k<12 then nw else (0,0)),nO q.2.1,.iter 3 (q.2.2.map kv)]) (fun q=>ab8 q.2.1 q.2.2) (fun q=>GIn f l.length len lm q.1 q.2.1 q.2.2∧s.short≤q.1) (len+1,lm,[]) oS
   (.same tE) ⟨GIn.start hI,by simp;omega⟩ ?_
  rintro ⟨w,d,seen⟩ ⟨hG,I⟩
  have hG:GIn f l.length len lm w d seen:=hG
  have m:∀ q ∈ d,plain q.2=true:=fun q hq=>hI.pl q (hG.sub.subset hq)
  have hlow:=hG.le
  simp only at I
  refine qj ?_
  refine st_next (i:=3) (l:=d) (seen:=seen) rfl rfl rfl rfl rfl hG.nd (fun o=>?_) (fun q hq L=>?_)
  ·have M:=fun h=>hG.found hI o h D F h1
   have N:=fun h=>hG.next hI h F
   repeat' (first|refine sCm ?_|(refine gU ?_;first|refine sK8 ?_|refine sK0 ?_)|refine aG ?_|refine DF rfl ?_|refine nZ rfl oR ?_|(refine iR rfl ?_ ?_ <;> intro _))
   ·rename_i y
    refine aaW (dK (.tmp rfl .nil) (.plain rfl rfl) ⟨?_,rfl⟩)
    simp only [jY]
    congr 1
    exact Ef.uniq oO (M y) (PO h2)
   ·rename_i y
    refine ⟨rfl,(w - 1,d),N y,by simp only;omega,.drop _ [_] (cA rfl) (P _ m) ⟨⟨rfl,rfl,rfl⟩,⟨rfl,rfl,rfl⟩,⟨rfl,rfl,rfl⟩,⟨rfl,rfl,rfl⟩,trivial⟩⟩
  ·refine qj ?_
   refine st (aaV (i:=3) (l:=d) (seen:=seen) (k:=q.1) (v:=q.2) rfl rfl rfl hq) rfl rfl ?_
   repeat' (first|refine sCm ?_|(refine gU ?_;first|(refine bV ?_;first|refine st (aK rfl oR) rfl rfl ?_|refine st (bD rfl oR) rfl rfl ?_)|refine sK0 ?_|(refine aaO ?_;refine st (Ce rfl rfl) rfl rfl ?_)|refine Px ?_)|refine aG ?_|(refine iR rfl ?_ ?_ <;> intro _))
   ·rename_i e
    exact ⟨rfl,(w,d,seen++[q.1]),⟨hG.skip e,I⟩,Ti (List.Sublist.refl _) (List.mem_map.2 ⟨q,hq,rfl⟩) L,
     .drop _ [_] (cA rfl) (r _ _ m) ⟨⟨rfl,rfl,rfl⟩,⟨rfl,rfl,rfl⟩,⟨rfl,rfl,rfl⟩,⟨rfl,rfl,rfl⟩,⟨rfl,rfl,rfl⟩,⟨rfl,rfl,rfl⟩,trivial⟩⟩
   ·rename_i e
    have hk:q.1 ∈ jJ d:=List.mem_map.2 ⟨q,hq,rfl⟩
    have hq1:s.short≤q.1.1:=by
     obtain ⟨j,hj,K,O⟩:=hI.sub q.1 ((hG.sub.map _).subset hk)
     rcases F j hj with h|h
     ·exact absurd (K ▸ h) O
     ·rw [K] at h;exact h.1
    refine stN (Bg (i:=3) (l:=d) (k:=q.1) rfl rfl rfl) rfl ?_
    refine qj ?_
    exact ⟨rfl,(min w q.1.1,nG d q.1,seen++[q.1]),⟨hG.take hI hk e,by simp only;omega⟩,Ti (wW _ _) hk L,
     .drop _ [_] (cA rfl) (r _ _ fun p hp=>m p ((wW _ _).subset hp)) ⟨⟨rfl,rfl,rfl⟩,⟨rfl,rfl,rfl⟩,⟨rfl,rfl,rfl⟩,⟨rfl,rfl,rfl⟩,⟨rfl,rfl,rfl⟩,⟨rfl,rfl,rfl⟩,trivial⟩⟩
 ·refine qj ?_
  refine aaW (dK (.tmp rfl .nil) (.plain rfl rfl) ⟨?_,rfl⟩)
  simp only [jY]
  congr 1
  exact Ef.uniq oO (.inl ⟨rfl,fun x hx E=>hI.cov x oO E⟩) (PO h2)
end Go.Proofs.YtajpgeklmcjciaaGreat
namespace Go.AH
open Go
def Tj (cs:List Value) (k:Nat):Int:=match (cs[k]?).bind asInt with|some x=>x.2|none=>0
def aeP (cs:List Value):Nat→Int×Int:=fun k=>bif Nat.blt k 12 then (Tj cs (6+2*k),Tj cs (7+2*k)) else nw
def Yh (s:St) (n:Nat) (f:Nat→Int×Int):Bool :=
 Nat.ble n 12 && decide (1≤s.short) && decide (s.short≤s.long) && decide (s.long≤100000) &&
  (List.range n).all (fun i=>decide (f i=nw) || (decide (s.short≤(f i).1) && decide ((f i).1≤(f i).2) && decide ((f i).2≤s.long))) &&
  (List.range 12).all (fun i=>Nat.blt i n || decide (f i=nw))
def ace (σ:Heap) (cs:List Value) (t n c:Nat) (tcs:List Value) (s:St) (l:List Int):Res :=
 bQ (Ag (dA s (.slice (some ⟨t,0,none⟩) l.length c) (aeP cs) (fun k=>Tj cs (30+k))) cs && Ag (ints l) tcs && Nat.beq l.length n && Yh s l.length (aeP cs) && σ.all (fun o=>!aU o))
  (some (.int .i64 (aeO (aeP cs) l.length s.short s.long),σ,σ.length))
def Yi (σ:Heap) (cs:List Value) (q:Nat×Nat×Nat×Nat):Res :=
 ((σ[q.1]?).bind xP).bind fun tcs=>iI (tcs.map fun v=>match asInt v with|some x=>x.2|none=>0) (ace σ cs q.1 q.2.2.1 q.2.2.2 tcs ⟨Tj cs 0,Tj cs 1,Tj cs 2,Tj cs 3,Tj cs 4⟩)
def acf (σ:Heap):List Value→Res
 |[v]=>(qG v).bind fun p=>bQ (Nat.beq p.2 0) (((σ[p.1]?).bind xP).bind fun cs=>((cs[5]?).bind ru).bind (Yi σ cs))
 |_=>none
theorem GR {σ:Heap} {b:Nat} {cs:List Value} (h:(σ[b]?).bind xP=some cs):dN σ b cs:=by
 obtain ⟨o,h3,h4⟩:=Option.bind_eq_some_iff.1 h
 unfold xP at h4
 split at h4
 ·cases h4;exact .inl h3
 ·cases h4;exact .inr (.inl h3)
 ·cases h4;exact .inr (.inr ⟨_,h3⟩)
 ·cases h4
end Go.AH
namespace Go.Proofs.YtajpgeklmcjciaaGreat
open Go Go.AH
attribute [local irreducible] bZ bK bM jB gy dO fC bW eU aX dV eH
theorem ahr {σ:Heap} {s:St} {l:List Int} {c:Nat} {f:Nat→Int×Int} {g:Nat→Int} {t r:Nat} (hn:l.length≤12) (h1:1≤s.short) (h2:s.short≤s.long) (h3:s.long≤100000)
  (hf:∀ i<l.length,f i=nw∨(s.short≤(f i).1∧(f i).1≤(f i).2∧(f i).2≤s.long)) (hf':∀ i,l.length≤i→f i=nw) (ht:dN σ t (ints l)) (hr:dN σ r (dA s (rkV l t c) f g))
  (hni:σ.all (fun o=>!aU o)=true):Ev Tryz.prog 247 [.p r] σ (.i (aeO f l.length s.short s.long)) σ:=by
 exact Ev.arrsP [ints l,dA s (rkV l 0 c) f g] [(t,ints l),(r,dA s (rkV l t c) f g)] (ahq s l c f g hn h1 h2 h3 hf hf')
  ⟨⟨ht,fZ.plain (bC l)⟩,⟨hr,wz (by simpa [bsR,rkV] using VQ.slice (q:=true) (n:=2) (ρ:=bsR [t,r]) 0 0 l.length c c (aD _) oO)⟩,trivial⟩
  ⟨by simpa [bsR] using VQ.ptr (q:=true) (n:=2) (ρ:=bsR [t,r]) 1 0 oO,trivial⟩ rfl hni
def orc:jk:=fun f args σ=>bif Nat.beq f 247 then acf σ args else none
theorem nY:iK Tryz.prog orc:=by
 intro f args σ r h
 unfold orc at h
 cases hf:Nat.beq f 247 with
 |false=>rw [hf] at h;cases h
 |true =>
  rw [hf] at h
  simp only [cond_true] at h
  have g:=aM hf
  subst g
  unfold acf at h
  split at h
  ·rename_i v
   simp only [aL,aN,Yi,fV,ace,aE] at h
   obtain ⟨p,g1,g2,cs,g3,q,⟨w,g4,g5⟩,tcs,g6,⟨⟨⟨⟨g7,g8⟩,g9⟩,c⟩,e⟩,d⟩:=h
   cases d
   have e2:=aM g2
   obtain ⟨p1,p2⟩:=p
   simp only at e2 g3
   subst e2
   rw [jD g1]
   have ha:=GR (Option.bind_eq_some_iff.2 g3)
   have hb:=GR (Option.bind_eq_some_iff.2 g6)
   rw [← pG g7] at ha
   rw [← pG g8] at hb
   simp only [Yh,aE,decide_eq_true_eq,eo,List.mem_range,eq] at c
   obtain ⟨⟨⟨⟨⟨c1,c2⟩,c3⟩,c4⟩,c5⟩,c6⟩:=c
   refine ⟨ahr (cA c1) c2 c3 c4 (fun i hi=>?_) (fun i hi=>?_) hb ha e,Keep.refl⟩
   ·rcases c5 i hi with h|⟨⟨h1,h2⟩,h3⟩
    ·exact .inl h
    ·exact .inr ⟨h1,h2,h3⟩
   ·by_cases a:i<12
    ·rcases c6 i a with h|h
     ·have:=Nat.blt_eq.mp h;omega
     ·exact h
    ·unfold aeP
     rw [show Nat.blt i 12=false from by
      cases hb:Nat.blt i 12 with
      |false=>rfl
      |true=>exact absurd (Nat.blt_eq.mp hb) a]
     rfl
  ·cases h
theorem J3 {σ:Heap} {s:St} {l:List Int} {x c:Nat} (hx:dN σ x (ints l)) (hN:l.length≤1000000) (hr:-9223372036854775808≤s.short∧s.short≤9223372036854775807) (h:iD s l ≠ 0) (hni:σ.all (fun o=>!aU o)=true) :
  Ev Tryz.prog 69 [s.val,.s x l.length c] σ (.tuple #[.pointer none,.i (iD s l)]) σ :=
 Ev.arrs [ints l] [x] (ab6 s l c hN hr h) ⟨hx,trivial⟩ ⟨aY _ rfl,by simpa [bsR] using VQ.slice (q:=true) (n:=1) (ρ:=bsR [x]) 0 0 l.length c c (aD _) oO,trivial⟩ (by simp [bC]) rfl hni
theorem NH {σ:Heap} {s:St} {l:List Int} {x c:Nat} (hx:dN σ x (ints l)) (hr:-9223372036854775808≤s.short∧s.short≤9223372036854775807) (h:iD s l=0) (hni:σ.all (fun o=>!aU o)=true) :
  Ev Tryz.prog 69 [s.val,.s x l.length c] σ (.tuple #[.p σ.length,.i 0]) (σ++[.rw (dA s (.s x l.length c) (dQ s l) fun _=>0)]):=by
 refine Ev.arrsN [ints l] [x] (aeN s l c hr h) ⟨hx,trivial⟩ ⟨aY _ rfl,by simpa [bsR] using VQ.slice (q:=true) (n:=1) (ρ:=bsR [x]) 0 0 l.length c c (aD _) oO,trivial⟩ (by simp [bC]) rfl ?_ ?_ hni
 ·simp [ren,zH,yF,shf]
 ·simp only [cG,dz,CJ,JZ]
  simp [ren,shf,bsR]
theorem GU {σ:Heap} {s:St} {tv:Value} {f:Nat→Int×Int} {g:Nat→Int} {r i:Nat} (h:dN σ r (dA s tv f g)) (hi:i<12):aJ σ r (6+i*2) 2=some [.i (f i).1,.i (f i).2]:=by
 have h2:=NG (a:=.ro []) (s:=s) (tv:=tv) (f:=f) (g:=g) (r:=[]) hi
 unfold aJ at h2 ⊢
 rcases h with h|h|⟨t,h⟩ <;> rw [h] <;> exact h2
def agd (p:Int×Int):Value:=.agg #[.int .i64 p.1,.int .i64 p.2]
theorem ZA {s:St} {l:List Int}:∀ i<l.length,dQ s l i=nw∨(s.short≤(dQ s l i).1∧(dQ s l i).1≤(dQ s l i).2∧(dQ s l i).2≤s.long):=by
 intro i hi
 unfold dQ
 rw [if_pos hi]
 unfold JY
 split
 ·rename_i h
  right
  unfold span at h ⊢
  simp only at h ⊢
  omega
 ·exact .inl rfl
theorem J4 {l:List Int} (ht:tV l=false):∀ i<l.length,1≤gi l i∧gi l i≤10000:=fun i hi=>by
 have:¬ (gi l i<1∨gi l i > 10000):=fun hb=>by rw [pK.2 ⟨i,hi,hb⟩] at ht;cases ht
 omega
def bestF (f:Nat→Int×Int) (x:Int):Nat→Int
 |0=>-1
 |i+1=>if ((f i).1≤x∧x≤(f i).2)∧(bestF f x i<0∨(f i).1<(f (bestF f x i).toNat).1) then (i:Int) else bestF f x i
theorem J5 (f:Nat→Int×Int) (x:Int):∀ i:Nat,-1≤bestF f x i∧bestF f x i<i
 |0=>by simp [bestF]
 |i+1=>by
  have:=J5 f x i
  simp only [bestF]
  split <;> omega
def sp (s:St) (l:List Int) (i:Nat):Int×Int:=span s (gi l i)
theorem Aq (f:Nat→Int×Int) (x:Int):∀ n:Nat,(bestF f x n=-1∧∀ i<n,¬ ((f i).1≤x∧x≤(f i).2)) ∨
  ∃ b<n,bestF f x n=(b:Int)∧(f b).1≤x∧x≤(f b).2∧∀ i<n,(f i).1≤x→x≤(f i).2→(f b).1≤(f i).1∧(i<b→(f b).1<(f i).1)
 |0=>.inl ⟨rfl,fun i h=>oO⟩
 |n+1=>by
  simp only [bestF]
  rcases Aq f x n with ⟨h1,h2⟩|⟨b,hb,h1,h2,h3,h4⟩
  ·rw [h1]
   split
   ·rename_i h
    refine .inr ⟨n,oO,rfl,h.1.1,h.1.2,fun i hi a1 a2=>?_⟩
    by_cases a:i=n
    ·subst a;omega
    ·exact absurd ⟨a1,a2⟩ (h2 i oO)
   ·rename_i h
    refine .inl ⟨rfl,fun i hi hc=>?_⟩
    by_cases a:i=n
    ·subst a;exact h ⟨hc,.inl oO⟩
    ·exact h2 i oO hc
  ·rw [h1]
   simp only [cM]
   split
   ·rename_i h
    have hlt:(f n).1<(f b).1:=by rcases h.2 with h|h <;> omega
    refine .inr ⟨n,oO,rfl,h.1.1,h.1.2,fun i hi a1 a2=>?_⟩
    by_cases a:i=n
    ·subst a;omega
    ·have:=h4 i oO a1 a2
     omega
   ·rename_i h
    refine .inr ⟨b,oO,rfl,h2,h3,fun i hi a1 a2=>?_⟩
    by_cases a:i=n
    ·subst a
     have:¬ (f i).1<(f b).1:=fun hq=>h ⟨⟨a1,a2⟩,.inr hq⟩
     omega
    ·exact h4 i oO a1 a2
theorem agf {s:St} {l:List Int} {i:Nat} (hi:i<l.length):dQ s l i=JY s (gi l i):=by unfold dQ;rw [if_pos hi]
theorem PS {s:St} {l:List Int} {i:Nat} {x:Int} (hi:i<l.length) (h:(sp s l i).1≤x∧x≤(sp s l i).2):dQ s l i=sp s l i:=by
 rw [agf hi]
 unfold JY
 unfold sp at h ⊢
 rw [if_pos oO]
theorem Yj {s:St} {l:List Int} {i:Nat} {x:Int} (hi:i<l.length) (h:(dQ s l i).1≤x∧x≤(dQ s l i).2):dQ s l i=sp s l i:=by
 rw [agf hi] at h ⊢
 unfold JY at h ⊢
 split at h
 ·rename_i hq;rw [if_pos hq];rfl
 ·simp only at h;omega
theorem Yk {A B:Prop} (k:B) (h:Hide B→A:=by intro h_k_;(repeat' (first|refine sCm ?_|(refine gU ?_;refine sK0 ?_)|refine aG ?_|refine eu rfl ?_));exact h_k_.h):A:=h ⟨k⟩
theorem acg (s:St) (l:List Int) (c:Nat) (f:Nat→Int×Int) (g:Nat→Int) (ks:List Nat) (c2:Nat) (hks:∀ i<ks.length,gn ks i<12) (hN:ks.length≤1000000) :
  Ev Tryz.prog 285 [.s 3 ks.length c2,.func (.func 286) #[] #[.p 2]] [.ro (ints l),.ro (dA s (rkV l 0 c) f g),.ro [.p 1],.ro (gu ks)] (.i (fF (fun i=>(f i).1) ks ks.length)) [.ro (ints l),.ro (dA s (rkV l 0 c) f g),.ro [.p 1],.ro (gu ks)]:=by
 refine aI 4 32 Tryz.func285 rfl rfl rfl rfl rfl ?_
 refine Yk ?_
 refine iM (ι:=Nat) (fun i=>[(0,.s 3 ks.length c2),(1,.func (.func 286) #[] #[.p 2]),(5,.i (fF (fun i=>(f i).1) ks i)),(8,.s 3 ks.length c2),(9,.i (ks.length:Int)),(10,.i (i:Int))])
  (fun _=>[.ro (ints l),.ro (dA s (rkV l 0 c) f g),.ro [.p 1],.ro (gu ks)]) (fun i=>ks.length - i) (fun i=>i≤ks.length) 0 oS (.same tE) oO ?_
 rintro i hi
 by_cases e:i<ks.length
 ·have hb:=wu (fun i=>(f i).1) ks i
  have hs:fF (fun i=>(f i).1) ks (i+1)=if fF (fun i=>(f i).1) ks i<0∨(f (gn ks i)).1<(f (gn ks (fF (fun i=>(f i).1) ks i).toNat)).1 then (i:Int) else fF (fun i=>(f i).1) ks i:=rfl
  generalize fF (fun i=>(f i).1) ks i=b at hb hs
  have hki:=hks i e
  have hkb:¬ b<0→gn ks b.toNat<12:=fun h=>hks _ oO
  have a:i<ks.length→aH [.ro (ints l),.ro (dA s (rkV l 0 c) f g),.ro [.p 1],.ro (gu ks)] 3 i=some (.i (gn ks i:Int)):=fun h=>Ap h
  have j:¬ b<0→aH [.ro (ints l),.ro (dA s (rkV l 0 c) f g),.ro [.p 1],.ro (gu ks)] 3 (0+b.toNat*1)=some (.i (gn ks b.toNat:Int)):=fun h=>by
   have:b.toNat<ks.length:=oO
   simpa [aH] using Ap this
  repeat' (first|refine sCm ?_|(refine gU ?_;first|(refine bV ?_;refine st (aK rfl (by exact a oO)) rfl rfl ?_)|refine sK0 ?_|refine sK1 ?_)|(refine fU ?_;first|refine JQ ?_|(refine EW ?_;refine frA (jm rfl rfl rfl) rfl ?_)|(refine DK ?_;first|refine frA (jr rfl rfl) rfl ?_|refine frA (jv rfl rfl) rfl ?_))|(refine fG ?_;first|(refine qX ?_;refine pW rfl (eP rfl) rfl ?_)|(refine gB ?_;refine pW rfl (aK rfl (by first|exact a oO|exact j oO)) rfl ?_)|(refine EW ?_;refine pW rfl (jm rfl rfl rfl) rfl ?_)|(refine fIA ?_;refine pW rfl (ny rfl rfl oO oO) rfl ?_)|(refine qF ?_;refine pW rfl (bG rfl rfl rfl (by exact aho (t:=0) (r:=1) (l:=l) oO (by exact .inl rfl) (by exact .inl rfl) (by exact .inl rfl) rfl)) rfl ?_)|refine abY rfl rfl ?_|((fail_if_success (refine abZ rfl ?_));(refine aaQ rfl ?_ ?_ <;> intro _)))|(refine fP ⟨oK,?_⟩)|refine aG ?_|refine sK5 ?_|refine dZ rfl ?_|(refine iR rfl ?_ ?_ <;> intro _))
  ·rename_i hq
   exact ⟨rfl,i+1,oO,oO,by rw [hs,if_pos (.inl hq)];exact .same tE⟩
  ·rename_i d hq
   exact ⟨rfl,i+1,oO,oO,by rw [hs,if_pos (.inr hq)];exact .same tE⟩
  ·rename_i d hq
   exact ⟨rfl,i+1,oO,oO,by rw [hs,if_neg (fun h=>h.elim d hq)];exact .same tE⟩
 ·refine Yk ?_
  obtain rfl:i=ks.length:=oO
  refine dK (.tmp rfl .nil) (.plain rfl rfl) ⟨rfl,rfl⟩
theorem ach {σ:Heap} {s:St} {l:List Int} {c:Nat} {f:Nat→Int×Int} {g:Nat→Int} {ks:List Nat} {t r x y:Nat} (ht:dN σ t (ints l)) (hr:dN σ r (dA s (rkV l t c) f g)) (hx:dN σ x [.p r]) (hy:dN σ y (gu ks))
  (hks:∀ i<ks.length,gn ks i<12) (hN:ks.length≤1000000) (hni:σ.all (fun o=>!aU o)=true) :
  Ev Tryz.prog 285 [dW y 1 ks.length,.func (.func 286) #[] #[.p x]] σ (.i (fF (fun i=>(f i).1) ks ks.length)) σ:=by
 refine Ev.arrsP [ints l,dA s (rkV l 0 c) f g,[.p 1],gu ks] [(t,ints l),(r,dA s (rkV l t c) f g),(x,[.p r]),(y,gu ks)] (acg s l c f g ks ks.length hks hN)
  ⟨⟨ht,fZ.plain (bC l)⟩,⟨hr,wz (by simpa [bsR,rkV] using VQ.slice (q:=true) (n:=4) (ρ:=bsR [t,r,x,y]) 0 0 l.length c c (aD _) oO)⟩,⟨hx,fZ.one (by simpa [bsR] using VQ.ptr (q:=true) (n:=4) (ρ:=bsR [t,r,x,y]) 1 0 oO)⟩,⟨hy,fZ.plain (oM ks)⟩,trivial⟩
  ⟨jV oS (by simp [bsR]),?_,trivial⟩ rfl hni
 refine .func _ _ _ _ _ rfl rfl (fun i h=>by simp at h) fun i h h'=>?_
 have:i=0:=by simpa using h
 subst this
 simpa [bsR] using VQ.ptr (q:=true) (n:=4) (ρ:=bsR [t,r,x,y]) 2 0 oO
def lq (f:Nat→Int×Int) (g:Nat→Int) (i:Nat):Int×Int:=if g i=0 then f i else nw
def atL (f:Nat→Int×Int) (g:Nat→Int) (x:Int):Nat→List Nat
 |0=>[]
 |n+1=>if g n=0∧(f n).1≤x∧x≤(f n).2 then atL f g x n++[n] else atL f g x n
theorem V6 {f:Nat→Int×Int} {g:Nat→Int} {x:Int}:∀ {n:Nat},∀ k ∈ atL f g x n,k<n
 |0,k,h=>by simp [atL] at h
 |n+1,k,h=>by
  simp only [atL] at h
  split at h
  ·rcases List.mem_append.1 h with h|h
   ·have:=V6 k h;omega
   ·simp at h;omega
  ·have:=V6 k h;omega
theorem PU {f:Nat→Int×Int} {g:Nat→Int} {x:Int}:∀ {n:Nat},(atL f g x n).length≤n
 |0=>by simp [atL]
 |n+1=>by
  have:=PU (f:=f) (g:=g) (x:=x) (n:=n)
  simp only [atL]
  split
  ·simp;omega
  ·omega
theorem PV {a b:List Nat} {i:Nat} (h:i<a.length):gn (a++b) i=gn a i:=by
 simp only [gn,cE,bR h]
theorem PW {a:List Nat} {k:Nat}:gn (a++[k]) a.length=k:=by
 simp only [gn,cE]
 rw [bE oO,cY];rfl
theorem GV {key:Nat→Int} {a b:List Nat}:∀ {n:Nat},n≤a.length→fF key (a++b) n=fF key a n
 |0,_=>rfl
 |n+1,h=>by
  have ih:=GV (key:=key) (a:=a) (b:=b) (n:=n) oO
  have hl:=wu key a n
  simp only [fF,ih]
  rw [PV (a:=a) (i:=n) oO]
  by_cases h0:fF key a n<0
  ·simp only [h0,true_or,if_true]
  ·rw [PV (a:=a) (i:=(fF key a n).toNat) oO]
def atV (f:Nat→Int×Int) (g:Nat→Int) (x:Int) (n:Nat):Int :=
 if fF (fun i=>(f i).1) (atL f g x n) (atL f g x n).length<0 then -1 else (gn (atL f g x n) (fF (fun i=>(f i).1) (atL f g x n) (atL f g x n).length).toNat:Nat)
theorem Tm {f:Nat→Int×Int} {g:Nat→Int} {x:Int} (hx:0≤x):∀ n:Nat,atV f g x n=bestF (lq f g) x n
 |0=>rfl
 |n+1=>by
  have ih:=Tm (f:=f) (g:=g) hx n
  have hb:=Aq (lq f g) x n
  simp only [bestF]
  by_cases hq:g n=0∧(f n).1≤x∧x≤(f n).2
  ·have hm:lq f g n=f n:=by unfold lq;rw [if_pos hq.1]
   have ha:atL f g x (n+1)=atL f g x n++[n]:=by simp only [atL];rw [if_pos hq]
   rw [hm,← ih]
   unfold atV
   rw [ha,show (atL f g x n++[n]).length=(atL f g x n).length+1 from by simp]
   have hl:=wu (fun i=>(f i).1) (atL f g x n) (atL f g x n).length
   have c:fF (fun i=>(f i).1) (atL f g x n++[n]) ((atL f g x n).length+1)=if fF (fun i=>(f i).1) (atL f g x n) (atL f g x n).length<0∨(f n).1<(f (gn (atL f g x n++[n]) (fF (fun i=>(f i).1) (atL f g x n) (atL f g x n).length).toNat)).1 then ((atL f g x n).length:Int) else fF (fun i=>(f i).1) (atL f g x n) (atL f g x n).length:=by
    have e1:=GV (key:=fun i=>(f i).1) (a:=atL f g x n) (b:=[n]) (aD _)
    have e2:=PW (a:=atL f g x n) (k:=n)
    show (if fF (fun i=>(f i).1) (atL f g x n++[n]) (atL f g x n).length<0∨(f (gn (atL f g x n++[n]) (atL f g x n).length)).1<(f (gn (atL f g x n++[n]) (fF (fun i=>(f i).1) (atL f g x n++[n]) (atL f g x n).length).toNat)).1 then ((atL f g x n).length:Int) else fF (fun i=>(f i).1) (atL f g x n++[n]) (atL f g x n).length)=_
    simp only [e1,e2]
   have j:0≤fF (fun i=>(f i).1) (atL f g x n) (atL f g x n).length→lq f g (gn (atL f g x n) (fF (fun i=>(f i).1) (atL f g x n) (atL f g x n).length).toNat)=f (gn (atL f g x n) (fF (fun i=>(f i).1) (atL f g x n) (atL f g x n).length).toNat):=fun h0=>by
    rcases hb with ⟨h1,h2⟩|⟨b,hbn,h1,h2,h3,h4⟩
    ·rw [← ih] at h1;unfold atV at h1;rw [if_neg oO] at h1;omega
    ·rw [← ih] at h1;unfold atV at h1;rw [if_neg oO] at h1
     have e:gn (atL f g x n) (fF (fun i=>(f i).1) (atL f g x n) (atL f g x n).length).toNat=b:=oO
     rw [e]
     unfold lq at h2 h3 ⊢
     split
     ·rfl
     ·rename_i hg;rw [if_neg hg] at h2 h3;simp only at h2 h3;omega
   generalize fF (fun i=>(f i).1) (atL f g x n++[n]) ((atL f g x n).length+1)=M at c ⊢
   generalize fF (fun i=>(f i).1) (atL f g x n) (atL f g x n).length=L at hl c j ⊢
   subst c
   by_cases h0:L<0
   ·have e0:(if L<0∨(f n).1<(f (gn (atL f g x n++[n]) L.toNat)).1 then ((atL f g x n).length:Int) else L)=(atL f g x n).length:=if_pos (.inl h0)
    simp only [e0]
    rw [if_neg oO,cM,PW,if_pos ⟨hq.2,.inl (by rw [if_pos h0];omega)⟩]
   ·have m:L.toNat<(atL f g x n).length:=oO
    have e1:=PV (a:=atL f g x n) (b:=[n]) (i:=L.toNat) m
    have e2:=j oO
    have e3:(if L<0 then (-1:Int) else (gn (atL f g x n) L.toNat:Nat))=(gn (atL f g x n) L.toNat:Nat):=if_neg h0
    simp only [e3,cM,e2]
    rw [e1]
    by_cases d:(f n).1<(f (gn (atL f g x n) L.toNat)).1
    ·have e4:(if L<0∨(f n).1<(f (gn (atL f g x n) L.toNat)).1 then ((atL f g x n).length:Int) else L)=(atL f g x n).length:=if_pos (.inr d)
     simp only [e4]
     rw [if_neg oO,cM,PW,if_pos ⟨hq.2,.inr d⟩]
    ·have e4:(if L<0∨(f n).1<(f (gn (atL f g x n) L.toNat)).1 then ((atL f g x n).length:Int) else L)=L:=if_neg (fun h=>h.elim h0 d)
     simp only [e4]
     rw [if_neg h0,e1,if_neg (fun h=>h.2.elim oO d)]
  ·have ha:atL f g x (n+1)=atL f g x n:=by simp only [atL];rw [if_neg hq]
   have hn:¬ ((lq f g n).1≤x∧x≤(lq f g n).2):=by
    unfold lq
    split
    ·rename_i hg;exact fun h=>hq ⟨hg,h⟩
    ·simp only;omega
   rw [if_neg (fun h=>hn h.1),← ih]
   unfold atV
   rw [ha]
theorem J6 (l:List Int) (s:St) (c:Nat) (f:Nat→Int×Int) (g:Nat→Int):fJ 3 [aB.ro (ints l),.ro (dA s (rkV l 0 c) f g),.rw [.p 1]] :=
 ⟨aW (bC l),jg (dM oS).1 (dM (n:=1) oS).2,⟨rfl,rfl⟩,trivial⟩
theorem PX {A B:Prop} (k:B) (h:Hide B→A:=by intro h_k_;(repeat' (first|refine sCm ?_|(refine gU ?_;first|(refine bV ?_;refine st (aK rfl (by first|rfl|assumption)) rfl rfl ?_)|refine sK0 ?_|(refine gIA ?_;refine st (DC rfl rfl (by omega) (by omega)) rfl rfl ?_)|refine sK7 ?_|(refine dX ?_;refine st (bG rfl rfl rfl (by exact hleast)) rfl rfl ?_))|refine aG ?_|refine dZ rfl ?_|refine eu rfl ?_));exact h_k_.h):A:=h ⟨k⟩
theorem at_ok (s:St) (l:List Int) (c:Nat) (f:Nat→Int×Int) (g:Nat→Int) (x:Int) (h12:l.length≤12) (hx:0≤x) :
  Ev Tryz.prog 252 [.p 1,.i x] [.ro (ints l),.ro (dA s (rkV l 0 c) f g)] (.i (bestF (lq f g) x l.length)) [.ro (ints l),.ro (dA s (rkV l 0 c) f g)]:=by
 rw [← Tm hx]
 refine aI 2 56 Tryz.func252 rfl rfl rfl rfl rfl ?_
 refine PX ?_
 refine iM (ι:=Nat) (fun i=>[(1,.i x),(2,.p 2),(5,dW 3 1 (atL f g x i).length),(13,.i (l.length:Int)),(14,.i (i:Int))])
  (fun i=>[.ro (ints l),.ro (dA s (rkV l 0 c) f g),.rw [.p 1],.gr (gu (atL f g x i)) 3]) (fun i=>l.length - i) (fun i=>i≤l.length) 0 oS (lM.src [.ro (ints l),.ro (dA s (rkV l 0 c) f g),.rw [.p 1]] [.gr [] 3] [3] oS rfl (J6 l s c f g) rfl rfl ⟨Jq,trivial⟩ (by (repeat' (first|exact trivial|refine ⟨oH rfl rfl,?_⟩|refine ⟨kL (m:=3) rfl (fun i hi=>fE hi) oS oR rfl,?_⟩)))) oO ?_
 rintro i hi
 by_cases hil:i<l.length
 ·have d:i<12:=oO
  have hL:=PU (f:=f) (g:=g) (x:=x) (n:=i)
  have hlen:(gu (atL f g x i)).length=(atL f g x i).length*1:=by simp [gu]
  have e:aJ [.ro (ints l),.ro (dA s (rkV l 0 c) f g),.rw [.p 1],.gr (gu (atL f g x i)) 3] 1 (6+i*2) 2=some [.i (f i).1,.i (f i).2]:=GU (.inl rfl) d
  have u:aH [.ro (ints l),.ro (dA s (rkV l 0 c) f g),.rw [.p 1],.gr (gu (atL f g x i)) 3,.rw [.i (f i).1,.i (f i).2]] 1 (30+i*1)=some (.i (g i)):=ab4 d
  repeat' (first|refine sCm ?_|(refine gU ?_;first|(refine bV ?_;first|refine st (aK rfl (by first|rfl|assumption)) rfl rfl ?_|refine st (bD rfl oA) rfl rfl ?_)|refine sK0 ?_|(refine nN ?_;first|refine st (jr rfl rfl) rfl rfl ?_|refine st (jv rfl rfl) rfl rfl ?_)|refine PE ?_|refine Hw ?_|(refine gApp ?_;refine st (iQ oR oR rfl oR oA rfl oR oO oR oO oO) rfl rfl ?_)|refine Px ?_)|(refine gG ?_;first|refine JR ?_|refine JU ?_|(refine bV ?_;refine pI rfl (aK rfl (by first|rfl|assumption)) rfl rfl ?_)|refine sK9 ?_|refine SN rfl rfl ?_|((fail_if_success (refine SQ rfl ?_));(refine zS rfl ?_ ?_ <;> intro _)))|refine aG ?_|refine dZ rfl ?_|refine eu rfl ?_|(refine iR rfl ?_ ?_ <;> intro _))
  ·rename_i h1 h2 h3
   have ha:atL f g x (i+1)=atL f g x i++[i]:=by simp only [atL];rw [if_pos ⟨h1,h2,h3⟩]
   have a:(atL f g x (i+1)).length=(atL f g x i).length+1:=by rw [ha];simp
   have q:gu (atL f g x (i+1))=gu (atL f g x i)++[.i (i:Int)]:=by rw [ha];simp [gu]
   exact ⟨rfl,i+1,oO,oO,lM.src [.ro (ints l),.ro (dA s (rkV l 0 c) f g),.rw [.p 1]] [.gr (gu (atL f g x (i+1))) 3] [6] oS rfl (J6 l s c f g) rfl rfl ⟨Ir rfl (by rw [q];rfl) (oM _),trivial⟩ (by (repeat' (first|exact trivial|refine ⟨oH rfl rfl,?_⟩|refine ⟨kL (m:=3) rfl (fun i hi=>fE hi) oS oR rfl,?_⟩|refine ⟨OL (by rw [a];rfl) oS rfl,?_⟩)))⟩
  all_goals
   have ha:atL f g x (i+1)=atL f g x i:=by simp only [atL];rw [if_neg oO]
   have a:(atL f g x (i+1)).length=(atL f g x i).length:=by rw [ha]
   exact ⟨rfl,i+1,oO,oO,lM.src [.ro (ints l),.ro (dA s (rkV l 0 c) f g),.rw [.p 1]] [.gr (gu (atL f g x (i+1))) 3] [3] oS rfl (J6 l s c f g) rfl rfl ⟨Ir rfl (by rw [ha];rfl) (oM _),trivial⟩ (by (repeat' (first|exact trivial|refine ⟨oH rfl rfl,?_⟩|refine ⟨kL (m:=3) rfl (fun i hi=>fE hi) oS oR rfl,?_⟩|refine ⟨OL (by rw [a];rfl) oS rfl,?_⟩)))⟩
 ·obtain rfl:i=l.length:=oO
  have hL:=PU (f:=f) (g:=g) (x:=x) (n:=l.length)
  have hleast:=ach (σ:=[.ro (ints l),.ro (dA s (rkV l 0 c) f g),.rw [.p 1],.gr (gu (atL f g x l.length)) 3]) (s:=s) (l:=l) (c:=c) (f:=f) (g:=g) (t:=0) (r:=1) (x:=2) (y:=3) (ks:=atL f g x l.length) (.inl rfl) (.inl rfl) (.inr (.inl rfl)) (.inr (.inr ⟨_,rfl⟩))
   (fun i hi=>by
    have h1:gn (atL f g x l.length) i ∈ atL f g x l.length:=by
     simp only [gn,cE];rw [cC hi];exact cP hi
    have:=V6 _ h1;omega) oO rfl
  have hl:=wu (fun i=>(f i).1) (atL f g x l.length) (atL f g x l.length).length
  have j:0<(atL f g x l.length).length→0≤fF (fun i=>(f i).1) (atL f g x l.length) (atL f g x l.length).length:=V5 _ _
  unfold atV
  generalize fF (fun i=>(f i).1) (atL f g x l.length) (atL f g x l.length).length=L at hl hleast j ⊢
  have e:0≤L→L<(atL f g x l.length).length→aH [.ro (ints l),.ro (dA s (rkV l 0 c) f g),.rw [.p 1],.gr (gu (atL f g x l.length)) 3] 3 (L.toNat*1)=some (.i (gn (atL f g x l.length) L.toNat:Int)):=fun h1 h2=>by
   have:L.toNat<(atL f g x l.length).length:=oO
   simpa [aH] using Ap this
  cases hm:(atL f g x l.length).length with
  |zero =>
   rw [hm] at hleast hl j
   have o:L<0:=oO
   rw [if_pos o]
   refine PX ?_
   exact dK (.tmp rfl .nil) (.plain rfl rfl) ⟨rfl,rfl⟩
  |succ m =>
   rw [hm] at hleast hl j e
   have o:¬ L<0:=oO
   have u:=e oO oO
   rw [if_neg o]
   refine PX ?_
   exact dK (.tmp rfl .nil) (.plain rfl rfl) ⟨rfl,rfl⟩
theorem at_ev {σ:Heap} {s:St} {l:List Int} {c:Nat} {f:Nat→Int×Int} {g:Nat→Int} {x:Int} {t r:Nat} (ht:dN σ t (ints l)) (hr:dN σ r (dA s (rkV l t c) f g)) (h12:l.length≤12) (hx:0≤x) (hni:σ.all (fun o=>!aU o)=true) :
  Ev Tryz.prog 252 [.p r,.i x] σ (.i (bestF (lq f g) x l.length)) σ :=
 Ev.arrsP [ints l,dA s (rkV l 0 c) f g] [(t,ints l),(r,dA s (rkV l t c) f g)] (at_ok s l c f g x h12 hx)
  ⟨⟨ht,fZ.plain (bC l)⟩,⟨hr,wz (by simpa [bsR,rkV] using VQ.slice (q:=true) (n:=2) (ρ:=bsR [t,r]) 0 0 l.length c c (aD _) oO)⟩,trivial⟩
  ⟨by simpa [bsR] using VQ.ptr (q:=true) (n:=2) (ρ:=bsR [t,r]) 1 0 oO,.int _ _,trivial⟩ rfl hni
def gp (pl:List (Int×Int)) (i:Nat):Int×Int:=pl.getD i (0,0)
def dI (pl:List (Int×Int)):List Value:=pl.flatMap fun p=>[.int .i64 p.1,.int .i64 p.2]
theorem wC:∀ pl:List (Int×Int),(dI pl).length=pl.length*2
 |[]=>rfl
 |p::r=>by
  have:=wC r
  simp only [dI,List.flatMap_cons,aR,eg,eb] at this ⊢
  omega
theorem gW:∀ pl:List (Int×Int),dL (dI pl)=true
 |[]=>rfl
 |p::r=>by
  have:=gW r
  simpa [dI,dL,plain] using this
theorem y5:∀ {pl:List (Int×Int)} {i:Nat},i<pl.length→((dI pl).drop (i*2)).take 2=[.i (gp pl i).1,.i (gp pl i).2]
 |[],i,h=>by simp at h
 |p::r,0,h=>rfl
 |p::r,i+1,h=>by
  have:=y5 (pl:=r) (i:=i) (oU h)
  rw [show (i+1)*2=i*2+2 from by omega]
  simpa [dI,gp] using this
theorem su {pl:List (Int×Int)} {i:Nat} (h:i<pl.length):(dI pl)[i*2]?=some (.i (gp pl i).1):=by
 have h1:=y5 h
 have:(((dI pl).drop (i*2)).take 2)[0]?=some (.i (gp pl i).1):=by rw [h1];rfl
 simpa [eE] using this
theorem Bv {pl:List (Int×Int)} {i:Nat} (h:i<pl.length):(dI pl)[i*2+1]?=some (.i (gp pl i).2):=by
 have h1:=y5 h
 have:(((dI pl).drop (i*2)).take 2)[1]?=some (.i (gp pl i).2):=by rw [h1];rfl
 simpa [eE] using this
def wE (short:Int) (pl:List (Int×Int)) (i:Nat):Int:=if i+1<pl.length then (gp pl (i+1)).1+1 else short
def PY (s:St) (n x:Int):Prop:=(x - s.off)*n≥s.lo∧(x+s.off)*n≤s.hi
instance (s:St) (n x:Int):Decidable (PY s n x):=by unfold PY;infer_instance
theorem y7 {a n:Int} {A N:Int} (h:0≤a∧a≤A) (h':0≤n∧n≤N):0≤a*n∧a*n≤A*N :=
 ⟨er h.1 h'.1,fo h.2 h'.2 h'.1 oO⟩
theorem V7 {s:St} {n x:Int} (hs:¬ fB s) (hn:1≤n∧n≤10000) (hx:s.short≤x∧x≤s.long):((span s n).1≤x∧x≤(span s n).2)↔PY s n x:=by
 unfold fB at hs
 unfold span PY
 simp only
 have d1:(s.lo+n - 1).tdiv n=(s.lo+n - 1) / n:=cJ oO
 have d2:s.hi.tdiv n=s.hi / n:=cJ oO
 rw [d1,d2]
 have e1:(s.lo+n - 1) / n≤x - s.off↔(x - s.off)*n≥s.lo:=by
  rw [show ((s.lo+n - 1) / n≤x - s.off)↔(s.lo+n - 1) / n<x - s.off+1 from by omega,Int.ediv_lt_iff_lt_mul oO,Int.add_mul]
  omega
 have e2:x+s.off≤s.hi / n↔(x+s.off)*n≤s.hi:=Int.le_ediv_iff_mul_le oO
 omega
theorem PZ (s:St) (n x:Int) (hs:¬ fB s) (hn:1≤n∧n≤10000) (hx:s.short≤x∧x≤s.long):Ev Tryz.prog 68 [s.val,.i n,.i x] [] (.bool (decide (PY s n x))) []:=by
 have c:=hs
 unfold fB at c
 have m1:=y7 (a:=x - s.off) (n:=n) (A:=100000) (N:=10000) oO oO
 have m2:=y7 (a:=x+s.off) (n:=n) (A:=200000) (N:=10000) oO oO
 refine aI 0 29 Tryz.func68 rfl rfl rfl rfl rfl ?_
 repeat' (first|refine sCm ?_|(refine gU ?_;first|refine Hu ?_|refine sK8 ?_|(refine aaN ?_;refine st (zM rfl rfl oO oO) rfl rfl ?_)|refine sK0 ?_|(refine nN ?_;first|refine st (jr rfl rfl) rfl rfl ?_|refine st (jv rfl rfl) rfl rfl ?_))|(refine gG ?_;first|refine JR ?_|refine JU ?_|(refine bV ?_;refine pI rfl (aK rfl oR) rfl rfl ?_)|(refine ES ?_;refine pI rfl (vJ rfl rfl oO oO) rfl rfl ?_)|(refine aaN ?_;refine pI rfl (zM rfl rfl oO oO) rfl rfl ?_)|refine sK9 ?_|refine SN rfl rfl ?_|((fail_if_success (refine SQ rfl ?_));(refine zS rfl ?_ ?_ <;> intro _)))|refine aG ?_)
 ·rename_i hq
  refine dK (.tmp rfl .nil) (.plain rfl rfl) ⟨?_,rfl⟩
  have:PY s n x↔(x+s.off)*n≤s.hi:=⟨fun h=>h.2,fun h=>⟨hq,h⟩⟩
  simp only [jY,this]
 ·rename_i hq
  refine dK (.tmp rfl .nil) (.plain rfl rfl) ⟨?_,rfl⟩
  rw [decide_eq_false (fun h:PY s n x=>hq h.1)];rfl
theorem Ej {σ:Heap} {s:St} {n x:Int} (hs:¬ fB s) (hn:1≤n∧n≤10000) (hx:s.short≤x∧x≤s.long) (hni:σ.all (fun o=>!aU o)=true):Ev Tryz.prog 68 [s.val,.i n,.i x] σ (.bool (decide (PY s n x))) σ :=
 Ev.nil (PZ s n x hs hn hx) rfl rfl hni
theorem ZB (s:St) (pl:List (Int×Int)) (c i:Nat) (hi:i<pl.length) (h20:pl.length≤1000000) (hb:∀ i<pl.length,-1000000≤(gp pl i).1∧(gp pl i).1≤1000000) :
  Ev Tryz.prog 16 [s.val,.s 0 pl.length c,.i (i:Int)] [.ro (dI pl)] (.i (wE s.short pl i)) [.ro (dI pl)]:=by
 have hb1:i+1<pl.length→-1000000≤(gp pl (i+1)).1∧(gp pl (i+1)).1≤1000000:=fun h=>hb _ h
 have a:i+1<pl.length→aH [.ro (dI pl),.rw s.cells] 0 (0+(i+1)*2+0)=some (.i (gp pl (i+1)).1):=fun h=>by simpa [aH] using su h
 refine aI 1 21 Tryz.func16 rfl rfl rfl rfl rfl ?_
 repeat' (first|refine sCm ?_|(refine gU ?_;first|(refine bV ?_;refine st (aK rfl (by first|rfl|exact a oO)) rfl rfl ?_)|refine LP ?_|refine sK0 ?_|refine sK3 ?_)|refine aG ?_|(refine iR rfl ?_ ?_ <;> intro _))
 ·rename_i hq
  refine dK (.tmp rfl .nil) (.plain rfl rfl) ⟨?_,rfl⟩
  unfold wE;rw [if_pos oO];rfl
 ·rename_i hq
  refine dK (.tmp rfl .nil) (.plain rfl rfl) ⟨?_,rfl⟩
  unfold wE;rw [if_neg oO];rfl
theorem NI {σ:Heap} {s:St} {pl:List (Int×Int)} {y c i:Nat} (hy:dN σ y (dI pl)) (hi:i<pl.length) (h20:pl.length≤1000000) (hb:∀ i<pl.length,-1000000≤(gp pl i).1∧(gp pl i).1≤1000000) (hni:σ.all (fun o=>!aU o)=true) :
  Ev Tryz.prog 16 [s.val,.s y pl.length c,.i (i:Int)] σ (.i (wE s.short pl i)) σ :=
 Ev.arrs [dI pl] [y] (ZB s pl c i hi h20 hb) ⟨hy,trivial⟩ ⟨aY _ rfl,by simpa [bsR] using VQ.slice (q:=true) (n:=1) (ρ:=bsR [y]) 0 0 pl.length c c (aD _) oO,aY _ rfl,trivial⟩ (by simp [gW]) rfl hni
theorem ZC (s:St) (l:List Int) (tc:Nat) (f:Nat→Int×Int) (g:Nat→Int) (pl:List (Int×Int)) (c i:Nat) (hi:i<pl.length) (h20:pl.length≤1000000) (hb:∀ i<pl.length,-1000000≤(gp pl i).1∧(gp pl i).1≤1000000) :
  Ev Tryz.prog 72 [.p 1,.s 2 pl.length c,.i (i:Int)] [.ro (ints l),.ro (dA s (rkV l 0 tc) f g),.ro (dI pl)] (.i (wE s.short pl i)) [.ro (ints l),.ro (dA s (rkV l 0 tc) f g),.ro (dI pl)]:=by
 have hb1:i+1<pl.length→-1000000≤(gp pl (i+1)).1∧(gp pl (i+1)).1≤1000000:=fun h=>hb _ h
 have a:i+1<pl.length→aH [.ro (ints l),.ro (dA s (rkV l 0 tc) f g),.ro (dI pl)] 2 (0+(i+1)*2+0)=some (.i (gp pl (i+1)).1):=fun h=>by simpa [aH] using su h
 refine aI 3 24 Tryz.func72 rfl rfl rfl rfl rfl ?_
 repeat' (first|refine sCm ?_|(refine gU ?_;first|(refine bV ?_;refine st (aK rfl (by first|rfl|exact a oO)) rfl rfl ?_)|refine LP ?_|refine sK8 ?_|refine sK0 ?_|refine sK3 ?_)|refine aG ?_|(refine iR rfl ?_ ?_ <;> intro _))
 ·rename_i hq
  refine dK (.tmp rfl .nil) (.plain rfl rfl) ⟨?_,rfl⟩
  unfold wE;rw [if_neg oO];rfl
 ·rename_i hq
  refine dK (.tmp rfl .nil) (.plain rfl rfl) ⟨?_,rfl⟩
  unfold wE;rw [if_pos oO];rfl
theorem NJ {σ:Heap} {s:St} {l:List Int} {tc:Nat} {f:Nat→Int×Int} {g:Nat→Int} {pl:List (Int×Int)} {t r y c i:Nat} (ht:dN σ t (ints l)) (hr:dN σ r (dA s (rkV l t tc) f g)) (hy:dN σ y (dI pl)) (hi:i<pl.length)
  (h20:pl.length≤1000000) (hb:∀ i<pl.length,-1000000≤(gp pl i).1∧(gp pl i).1≤1000000) (hni:σ.all (fun o=>!aU o)=true) :
  Ev Tryz.prog 72 [.p r,.s y pl.length c,.i (i:Int)] σ (.i (wE s.short pl i)) σ :=
 Ev.arrsP [ints l,dA s (rkV l 0 tc) f g,dI pl] [(t,ints l),(r,dA s (rkV l t tc) f g),(y,dI pl)] (ZC s l tc f g pl c i hi h20 hb)
  ⟨⟨ht,fZ.plain (bC l)⟩,⟨hr,wz (by simpa [bsR,rkV] using VQ.slice (q:=true) (n:=3) (ρ:=bsR [t,r,y]) 0 0 l.length tc tc (aD _) oO)⟩,⟨hy,fZ.plain (gW pl)⟩,trivial⟩
  ⟨by simpa [bsR] using VQ.ptr (q:=true) (n:=3) (ρ:=bsR [t,r,y]) 1 0 oO,by simpa [bsR] using VQ.slice (q:=true) (n:=3) (ρ:=bsR [t,r,y]) 2 0 pl.length c c (aD _) oO,.int _ _,trivial⟩ rfl hni
end Go.Proofs.YtajpgeklmcjciaaGreat
namespace Go.AH
open Go
variable {n0:Nat} {σ:Heap} {e e2:Env}
end Go.AH
namespace Go.Proofs.YtajpgeklmcjciaaGreat
open Go Go.AH
attribute [local irreducible] bZ bK bM jB gy dO fC bW eU aX dV eH
def grd (F:Nat→Int×Int) (n:Nat) (to:Int):Nat→Int→List (Int×Int)×Int
 |0,x=>([],x)
 |k+1,x=>if x<to∨bestF F x n<0 then ([],x) else ((x,bestF F x n)::(grd F n to k ((F (bestF F x n).toNat).1 - 1)).1,(grd F n to k ((F (bestF F x n).toNat).1 - 1)).2)
def qJ (F:Nat→Int×Int) (n:Nat) (from_ to:Int):List (Int×Int)×Int:=grd F n to (from_ - to+1).toNat from_
theorem J7 {F:Nat→Int×Int} {n:Nat} {to:Int} {x:Int} (h:x<to∨bestF F x n<0):∀ k,grd F n to k x=([],x)
 |0=>rfl
 |k+1=>by simp only [grd];rw [if_pos h]
def P5 (F:Nat→Int×Int) (n:Nat) (from_ to:Int) (pl:List (Int×Int)) (x:Int):Prop :=
 ∃ k:Nat,x<to+k∧qJ F n from_ to=(pl++(grd F n to k x).1,(grd F n to k x).2)
theorem P5.start {F:Nat→Int×Int} {n:Nat} {from_ to:Int}:P5 F n from_ to [] from_:=⟨_,oO,rfl⟩
theorem P5.stop {F:Nat→Int×Int} {n:Nat} {from_ to:Int} {pl:List (Int×Int)} {x:Int} (h:P5 F n from_ to pl x) (hs:x<to∨bestF F x n<0):qJ F n from_ to=(pl,x):=by
 obtain ⟨k,_,h⟩:=h
 rw [h,J7 hs k];simp
theorem P5.step {F:Nat→Int×Int} {n:Nat} {from_ to:Int} {pl:List (Int×Int)} {x:Int} (h:P5 F n from_ to pl x) (h1:¬ x<to) (h2:¬ bestF F x n<0):P5 F n from_ to (pl++[(x,bestF F x n)]) ((F (bestF F x n).toNat).1 - 1):=by
 obtain ⟨k,hk,h⟩:=h
 have hlo:(F (bestF F x n).toNat).1≤x:=by
  rcases Aq F x n with ⟨h3,_⟩|⟨b,_,h3,h4,_⟩
  ·omega
  ·rw [h3];exact h4
 cases k with
 |zero=>omega
 |succ k =>
  refine ⟨k,oO,?_⟩
  rw [h]
  simp only [grd]
  rw [if_neg oO]
  simp
theorem NK {σ:Heap} {s:St} {tv:Value} {f:Nat→Int×Int} {g:Nat→Int} {r i:Nat} (h:dN σ r (dA s tv f g)) (hi:i<12):aH σ r (6+i*2)=some (.i (f i).1):=by
 have h2:=Yd (s:=s) (tv:=tv) (f:=f) (g:=g) hi
 unfold aH
 rcases h with h|h|⟨t,h⟩ <;> rw [h] <;> exact h2
theorem ZE {pl:List (Int×Int)} {p:Int×Int}:dI (pl++[p])=dI pl++[.i p.1,.i p.2]:=by simp [dI]
theorem aeQ (s:St) (l:List Int) (c:Nat) (f:Nat→Int×Int) (g:Nat→Int) (x:Int) :
  Ev Tryz.prog 164 [.p 1,.i x] [.ro (ints l),.ro (dA s (rkV l 0 c) f g)] (.func (.func 251) #[] #[.p 3,.p 2]) [.ro (ints l),.ro (dA s (rkV l 0 c) f g),.rw [.p 1],.rw [.i x]]:=by
 refine aI 2 6 Tryz.func164 rfl rfl rfl rfl rfl ?_
 repeat' (first|refine sCm ?_|(refine gU ?_;refine sK7 ?_)|refine aG ?_)
 exact dK (.tmp rfl .nil) .all ⟨rfl,rfl⟩
theorem aeR {σ:Heap} {s:St} {l:List Int} {c:Nat} {f:Nat→Int×Int} {g:Nat→Int} {x:Int} {t r:Nat} (ht:dN σ t (ints l)) (hr:dN σ r (dA s (rkV l t c) f g)) (hni:σ.all (fun o=>!aU o)=true) :
  Ev Tryz.prog 164 [.p r,.i x] σ (.func (.func 251) #[] #[.p (σ.length+1),.p σ.length]) (σ++[.rw [.p r],.rw [.i x]]):=by
 refine Ev.arrsR (news:=[.rw [.p 1],.rw [.i x]]) [ints l,dA s (rkV l 0 c) f g] [(t,ints l),(r,dA s (rkV l t c) f g)] (aeQ s l c f g x)
  ⟨⟨ht,fZ.plain (bC l)⟩,⟨hr,wz (by simpa [bsR,rkV] using VQ.slice (q:=true) (n:=2) (ρ:=bsR [t,r]) 0 0 l.length c c (aD _) oO)⟩,trivial⟩
  ⟨by simpa [bsR] using VQ.ptr (q:=true) (n:=2) (ρ:=bsR [t,r]) 1 0 oO,.int _ _,trivial⟩ rfl ?_ ?_ hni
 ·simp [ren,zH,yF,shf]
 ·simp [CJ,ren,yF,shf,bsR]
theorem H10 {σ:Heap} (l:List Int) (s:St) (c:Nat) (f:Nat→Int×Int) (g:Nat→Int) {to x from_:Int} {pl:List (Int×Int)} {L:aB} {j:Nat} {q:Nat}
  (h0:σ[0]?=some (.ro (ints l))) (h1:σ[1]?=some (.ro (dA s (rkV l 0 c) f g))) (h2:σ[2]?=some (.rw [.p 1])) (h3:σ[3]?=some (.rw [.i to])) (h4:σ[4]?=some (.rw [dW j 2 pl.length]))
  (h5:σ[5]?=some (.rw [.i x])) (h6:σ[6]?=some (.rw [.p 1])) (h7:σ[7]?=some (.rw [.i from_])) (h8:σ[8]?=some .dfr) (h9:σ[9]?=some L) (hj:q=j) (hL:fO 10 L) (hg:xZ σ 11 (fK 10 [q]) (fK 10 [q] 10) (.gr (dI pl) 39)) :
  DT σ 11 (fK 10 [q]) 0 [.ro (ints l),.ro (dA s (rkV l 0 c) f g),.rw [.p 1],.rw [.i to],.rw [dW 10 2 pl.length],.rw [.i x],.rw [.p 1],.rw [.i from_],.dfr,L,.gr (dI pl) 39]:=by
 subst hj
 exact ⟨pJ oO oO h0 (aW (bC l)),pJ oO oO h1 (jg (dM oS).1 (dM (n:=1) oS).2),pJ oO oO h2 ⟨rfl,rfl⟩,pJ oO oO h3 ⟨rfl,rfl⟩,
  Zx rfl h4 oO rfl,pJ oO oO h5 ⟨rfl,rfl⟩,pJ oO oO h6 ⟨rfl,rfl⟩,pJ oO oO h7 ⟨rfl,rfl⟩,pJ oO oO h8 trivial,pJ oO oO h9 hL,hg,trivial⟩
theorem uN {A B:Prop} (k:B) (h:Hide B→A:=by intro h_k_;(repeat' (first|refine sCm ?_|(refine gU ?_;first|(refine bV ?_;refine st (aK rfl (by first|rfl|exact NK (i:=b.toNat) (.inl rfl) (by omega))) rfl rfl ?_)|refine sK8 ?_|refine sK0 ?_|refine PG ?_|(refine gIA ?_;refine st (nD rfl rfl (by omega) (by omega)) rfl rfl ?_)|(refine dX ?_;refine st (bG rfl rfl rfl (by exact aeR (t:=0) (l:=l) (by exact .inl rfl) (by exact .inl rfl) rfl)) rfl rfl ?_)|refine Px ?_)|(refine gG ?_;(refine yP ?_;refine pI rfl (kW rfl) rfl rfl ?_))|(refine fU ?_;first|(refine Ip ?_;refine frA (kK rfl) rfl ?_)|(refine gB ?_;refine frA (aK rfl (by rfl)) rfl ?_)|(refine EW ?_;refine frA (jm rfl rfl rfl) rfl ?_))|(refine fP ⟨by kernel_rfl,?_⟩)|refine aG ?_|refine sK5 ?_|refine dZ rfl ?_|refine eu rfl ?_));exact h_k_.h):A:=h ⟨k⟩
theorem aci (s:St) (l:List Int) (c:Nat) (f:Nat→Int×Int) (g:Nat→Int) (from_ to:Int) (h12:l.length≤12) (hs:1≤s.short) (hto:s.short≤to) (hf1:s.short - 1≤from_) (hf2:from_≤100000)
  (hsp:∀ i<l.length,f i=nw∨s.short≤(f i).1) :
  Ev Tryz.prog 70 [.p 1,.i from_,.i to] [.ro (ints l),.ro (dA s (rkV l 0 c) f g)]
   (.tuple #[.s 2 (qJ (lq f g) l.length from_ to).1.length (qJ (lq f g) l.length from_ to).1.length,.bool (decide ((qJ (lq f g) l.length from_ to).2<to))])
   [.ro (ints l),.ro (dA s (rkV l 0 c) f g),.rw (dI (qJ (lq f g) l.length from_ to).1)]:=by
 refine aI 2 42 Tryz.func70 rfl rfl rfl rfl rfl ?_
 refine uN ?_
 refine W_st oS (.same (e2:=[(3,.p 2),(5,.p 3),(8,.p 4),(9,.p 5),(14,.func (.func 251) #[] #[.p 7,.p 6])]) tE) ?_
 refine kG (p:=[]) (q:=[.p 7,.p 6]) rfl fun L hL=>?_
 have y:fO 10 L:=by
  rw [hL]
  exact VX fun p hp=>by
   simp only [List.mem_cons,List.not_mem_nil,or_false] at hp
   rcases hp with rfl|rfl|rfl|rfl|rfl <;> exact ⟨rfl,rfl⟩
 have hLi:aU L=false:=by rw [hL];rfl
 refine aI 10 35 Tryz.func251 rfl rfl rfl rfl rfl ?_
 refine uN ?_
 refine iM (ι:=Int×List (Int×Int)) (fun p=>[(0,.func (.yield 9) #[] #[]),(1,.p 7),(2,.p 6),(4,.i p.1)])
  (fun p=>[.ro (ints l),.ro (dA s (rkV l 0 c) f g),.rw [.p 1],.rw [.i to],.rw [dW 10 2 p.2.length],.rw [.i p.1],.rw [.p 1],.rw [.i from_],.dfr,L,.gr (dI p.2) 39]) (fun p=>(p.1 - s.short+1).toNat)
  (fun p=>s.short - 1≤p.1∧p.1≤from_∧(p.2.length:Int)+p.1≤from_∧P5 (lq f g) l.length from_ to p.2 p.1) (from_,[]) oS
  (lM.all _ 10 [10] oS rfl rfl (H10 l s c f g (j:=10) rfl rfl rfl rfl rfl rfl rfl rfl rfl rfl rfl y Jq) (by (repeat' (first|exact trivial|refine ⟨oH rfl rfl,?_⟩|refine ⟨kL (m:=10) rfl (fun i hi=>fE hi) oS rfl rfl,?_⟩)))) ⟨oO,by simp,by simp,P5.start⟩ ?_
 rintro ⟨x,pl⟩ ⟨G,I,H,hP⟩
 dsimp only at G I H hP
 dsimp only
 by_cases hxs:x≥s.short
 ·have u:=at_ev (σ:=[.ro (ints l),.ro (dA s (rkV l 0 c) f g),.rw [.p 1],.rw [.i to],.rw [dW 10 2 pl.length],.rw [.i x],.rw [.p 1],.rw [.i from_],.dfr,L,.gr (dI pl) 39]) (s:=s) (l:=l) (c:=c) (f:=f) (g:=g) (x:=x) (t:=0) (r:=1) (.inl rfl) (.inl rfl) h12 oO (by rw [hL];rfl)
  have hb:=Aq (lq f g) x l.length
  have E:=J5 (lq f g) x l.length
  have d:=fun h1 h2=>hP.step h1 h2
  have a:=fun h=>hP.stop h
  generalize bestF (lq f g) x l.length=b at u hb E d a
  have o:¬ b<0→s.short≤(f b.toNat).1∧(f b.toNat).1≤x∧lq f g b.toNat=f b.toNat:=fun e=>by
   rcases hb with ⟨h1,_⟩|⟨b',D,h0,h1,h2,_⟩
   ·exact absurd h1 (by clear u;omega)
   ·have e0:b.toNat=b':=by clear u;omega
    rw [e0]
    have hm:lq f g b'=f b':=by
     unfold lq at h1 h2 ⊢
     split
     ·rfl
     ·rename_i hg;rw [if_neg hg] at h1;simp only at h1;omega
    rw [hm] at h1
    refine ⟨?_,h1,hm⟩
    rcases hsp b' D with h3|h3
    ·rw [h3] at h1;simp only at h1;omega
    ·exact h3
  have v:¬ b<0→s.short≤(f b.toNat).1∧(f b.toNat).1≤x:=fun h=>⟨(o h).1,(o h).2.1⟩
  replace o:=Hide.mk o
  replace hb:=Hide.mk hb
  replace d:=Hide.mk d
  replace a:=Hide.mk a
  repeat' (first|refine sCm ?_|(refine gU ?_;first|refine Hu ?_|refine sK0 ?_|(refine nN ?_;refine st (jr rfl rfl) rfl rfl ?_)|(refine dX ?_;refine st (bG rfl rfl rfl (by exact u)) rfl rfl ?_))|(refine gG ?_;first|refine JR ?_|(refine OE ?_;refine pI rfl (oG oR rfl oR) rfl rfl ?_)|refine SN rfl rfl ?_|((fail_if_success (refine SQ rfl ?_));(refine zS rfl ?_ ?_ <;> intro _)))|refine aG ?_|refine dZ rfl ?_)
  ·rename_i e
   rw [a.h (.inr e)]
   refine dK .nil .all ⟨_,_,_,_,_,_,_,by rw [hL];rfl,by simp,?_⟩
   dsimp only
   refine uN ?_
   refine ret1 rfl (.tmp rfl (.tmp rfl .nil)) (.src [.rw (dI pl)] [10] rfl rfl rfl ⟨yh (m:=2) rfl (.inr ⟨_,rfl⟩) (fun i hi=>fE hi) (cA rfl) (aW (gW pl)).1 (aW (n:=2) (gW pl)).2,trivial⟩ (v2:=.tuple #[.s 2 pl.length pl.length,.bool (decide (x<to))]) ?_) ⟨rfl,rfl⟩
   refine .tuple _ _ rfl fun i hi _=>?_
   match i,hi with
   |0,_=>exact jV oS rfl
   |1,_=>exact .bool _
  ·rename_i e
   refine Fa (l:=9) rfl rfl (by rw [hL];rfl) rfl rfl rfl (fun _ _ _ _ he=>yV (b:=true) (by rw [yQ (b:=decide (b<0)) rfl,decide_eq_false e];rfl) he) ?_
   refine uN ?_
   refine SV (by rw [hL];rfl) ?_
   have hlen:(dI pl).length=pl.length*2:=wC pl
   repeat' (first|refine sCm ?_|(refine gU ?_;first|refine Hu ?_|refine sK0 ?_|(refine gApp ?_;refine st (iQ oR oR rfl oR oA rfl oR oO oR oO oO) rfl rfl ?_)|refine Px ?_)|(refine fU ?_;first|(refine fFA ?_;refine frA (aZ rfl) rfl ?_)|(refine gB ?_;first|refine frA (aK rfl (by first|rfl|exact NK (i:=b.toNat) (.inl rfl) oO)) rfl ?_|refine frA (bD rfl oR) rfl ?_)|(refine fSub ?_;refine frA (yK rfl rfl oO oO) rfl ?_)|(refine Ro ?_;refine frA (OI rfl) rfl ?_)|(refine OH ?_;refine frA (jT rfl) rfl ?_)|(refine fIA ?_;refine frA (nD rfl rfl oO oO) rfl ?_)|(refine agF ?_;refine frA (yR rfl rfl rfl) rfl ?_)|refine VU ?_)|(refine fP ⟨oK,?_⟩)|refine aG ?_|refine sK5 ?_|refine DF rfl ?_|(refine iR rfl ?_ ?_ <;> intro _))
   ·rename_i w
    rw [a.h (.inl w)]
    refine ab2 rfl rfl ?_
    refine uN ?_
    refine dK .nil .all ⟨_,_,_,_,_,_,_,rfl,by simp,?_⟩
    dsimp only
    refine uN ?_
    refine ret1 rfl (.tmp rfl (.tmp rfl .nil)) (.src [.rw (dI pl)] [10] rfl rfl rfl ⟨yh (m:=2) rfl (.inr ⟨_,rfl⟩) (fun i hi=>fE hi) (cA rfl) (aW (gW pl)).1 (aW (n:=2) (gW pl)).2,trivial⟩ (v2:=.tuple #[.s 2 pl.length pl.length,.bool (decide (x<to))]) ?_) ⟨rfl,rfl⟩
    refine .tuple _ _ rfl fun i hi _=>?_
    match i,hi with
    |0,_=>exact jV oS rfl
    |1,_=>exact .bool _
   ·rename_i w
    refine yw rfl rfl ?_
    refine uN ?_
    have F:=(o.h e).2.2
    have hfb2:=v e
    have C:(pl++[(x,b)]).length=pl.length+1:=oS
    have z:=d.h w e
    rw [F] at z
    clear hb d a o
    exact ⟨rfl,((f b.toNat).1 - 1,pl++[(x,b)]),⟨by simp only;omega,by simp only;omega,by simp only [C];omega,z⟩,by simp only;omega,
     lM.all _ 10 [13] oS rfl rfl (H10 l s c f g (j:=13) rfl rfl rfl rfl (by rw [C];rfl) rfl rfl rfl rfl (by rw [hL];rfl) rfl y (Ir rfl (by rw [ZE];rfl) (gW _))) (by (repeat' (first|exact trivial|refine ⟨oH rfl rfl,?_⟩|refine ⟨kL (m:=10) rfl (fun i hi=>fE hi) oS rfl rfl,?_⟩)))⟩
 ·rw [hP.stop (.inl oO)]
  refine uN ?_
  refine U5 .nil .all ⟨_,_,_,_,_,_,_,by rw [hL];rfl,by simp,?_⟩
  dsimp only
  refine uN ?_
  refine ret1 rfl (.tmp rfl (.tmp rfl .nil)) (.src [.rw (dI pl)] [10] rfl rfl rfl ⟨yh (m:=2) rfl (.inr ⟨_,rfl⟩) (fun i hi=>fE hi) (cA rfl) (aW (gW pl)).1 (aW (n:=2) (gW pl)).2,trivial⟩ (v2:=.tuple #[.s 2 pl.length pl.length,.bool (decide (x<to))]) ?_) ⟨rfl,rfl⟩
  refine .tuple _ _ rfl fun i hi _=>?_
  match i,hi with
  |0,_=>exact jV oS rfl
  |1,_=>exact .bool _
end Go.Proofs.YtajpgeklmcjciaaGreat
namespace Go.AH
open Go
end Go.AH
namespace Go.Proofs.YtajpgeklmcjciaaGreat
open Go Go.AH
attribute [local irreducible] bZ bK bM jB gy dO fC bW eU aX dV eH
theorem GX {F F':Nat→Int×Int} {x:Int}:∀ {n:Nat},(∀ i<n,((F i).1≤x∧x≤(F i).2→F' i=F i)∧((F' i).1≤x∧x≤(F' i).2→F i=F' i))→bestF F x n=bestF F' x n∧(0≤bestF F x n→F (bestF F x n).toNat=F' (bestF F x n).toNat)
 |0,_=>⟨rfl,fun h=>by simp [bestF] at h⟩
 |n+1,h=>by
  obtain ⟨e1,e2⟩:=GX (F:=F) (F':=F') (x:=x) (n:=n) fun i hi=>h i oO
  obtain ⟨h1,h2⟩:=h n oO
  have hb:=J5 F x n
  simp only [bestF]
  rw [← e1]
  generalize bestF F x n=b at e1 e2 hb ⊢
  by_cases hn:(F n).1≤x∧x≤(F n).2
  ·have e3:=h1 hn
   rw [e3]
   by_cases a:b<0
   ·rw [if_pos ⟨hn,.inl a⟩,if_pos ⟨hn,.inl a⟩]
    exact ⟨rfl,fun _=>by rw [cM];exact e3.symm⟩
   ·rw [e2 oO]
    by_cases c:(F n).1<(F' b.toNat).1
    ·rw [if_pos ⟨hn,.inr c⟩]
     exact ⟨rfl,fun _=>by rw [cM];exact e3.symm⟩
    ·rw [if_neg fun hc=>hc.2.elim a c]
     exact ⟨rfl,fun _=>e2 oO⟩
  ·have d:¬ ((F' n).1≤x∧x≤(F' n).2):=fun hc=>hn (by rw [h2 hc];exact hc)
   rw [if_neg fun hc=>hn hc.1,if_neg fun hc=>d hc.1]
   exact ⟨rfl,e2⟩
theorem NM {F F':Nat→Int×Int} {n:Nat} {to:Int} (h:∀ x,to≤x→∀ i<n,((F i).1≤x∧x≤(F i).2→F' i=F i)∧((F' i).1≤x∧x≤(F' i).2→F i=F' i)):∀ (k:Nat) (x:Int),grd F n to k x=grd F' n to k x
 |0,x=>rfl
 |k+1,x=>by
  simp only [grd]
  by_cases hx:x<to
  ·rw [if_pos (.inl hx),if_pos (.inl hx)]
  ·obtain ⟨e1,e2⟩:=GX (h x oO)
   rw [← e1]
   by_cases hb:bestF F x n<0
   ·rw [if_pos (.inr hb),if_pos (.inr hb)]
   ·rw [if_neg oO,if_neg oO,e2 oO,NM h k]
theorem ZF {s:St} {l:List Int} {from_ to:Int}:qJ (lq (dQ s l) fun _=>0) l.length from_ to=qJ (sp s l) l.length from_ to:=by
 refine NM (fun x hx i hi=>⟨fun h=>?_,fun h=>?_⟩) _ _
 ·have hm:lq (dQ s l) (fun _=>0) i=dQ s l i:=if_pos rfl
  rw [hm] at h ⊢
  exact (Yj hi h).symm
 ·have hm:lq (dQ s l) (fun _=>0) i=dQ s l i:=if_pos rfl
  rw [hm]
  exact PS hi h
def CY (P:List (Int×Int)×Int) (to:Int):List (Int×Int):=if P.2<to then P.1 else []
theorem acj {σ:Heap} {s:St} {l:List Int} {c:Nat} {f:Nat→Int×Int} {g:Nat→Int} {from_ to:Int} {t r:Nat} (htt:dN σ t (ints l)) (hrr:dN σ r (dA s (rkV l t c) f g)) (h12:l.length≤12) (hs:1≤s.short) (hto:s.short≤to) (hf1:s.short - 1≤from_) (hf2:from_≤100000)
  (hsp:∀ i<l.length,f i=nw∨s.short≤(f i).1) (hni:σ.all (fun o=>!aU o)=true) :
  Ev Tryz.prog 70 [.p r,.i from_,.i to] σ
   (.tuple #[.s σ.length (qJ (lq f g) l.length from_ to).1.length (qJ (lq f g) l.length from_ to).1.length,.bool (decide ((qJ (lq f g) l.length from_ to).2<to))])
   (σ++[.rw (dI (qJ (lq f g) l.length from_ to).1)]):=by
 refine Ev.arrsR (news:=[.rw (dI (qJ (lq f g) l.length from_ to).1)]) [ints l,dA s (rkV l 0 c) f g] [(t,ints l),(r,dA s (rkV l t c) f g)] (aci s l c f g from_ to h12 hs hto hf1 hf2 hsp)
  ⟨⟨htt,fZ.plain (bC l)⟩,⟨hrr,wz (by simpa [bsR,rkV] using VQ.slice (q:=true) (n:=2) (ρ:=bsR [t,r]) 0 0 l.length c c (aD _) oO)⟩,trivial⟩
  ⟨by simpa [bsR] using VQ.ptr (q:=true) (n:=2) (ρ:=bsR [t,r]) 1 0 oO,.int _ _,.int _ _,trivial⟩ rfl ?_ ?_ hni
 ·simp [ren,zH,yF,shf]
 ·simp only [cG,dz,CJ,vG _ (gW _)]
def zC (s:St) (l:List Int):Int:=if iD s l ≠ 0 then iD s l else if (qJ (sp s l) l.length s.long s.short).2<s.short then 0 else 19
def wF (s:St) (l:List Int):List (Int×Int):=if iD s l ≠ 0 then [] else CY (qJ (sp s l) l.length s.long s.short) s.short
theorem ZG {s:St} {l:List Int}:∀ i<l.length,dQ s l i=nw∨s.short≤(dQ s l i).1:=fun i hi=>by
 rcases ZA (s:=s) i hi with h|h
 ·exact .inl h
 ·exact .inr h.1
theorem Tn (s:St) (l:List Int) (c:Nat) (hN:l.length≤1000000) (hr:-9223372036854775808≤s.short∧s.short≤9223372036854775807) :
  Ev Tryz.prog 14 [s.val,.s 0 l.length c] [.ro (ints l)] (.tuple #[.s 1 (wF s l).length (wF s l).length,.i (zC s l)]) [.ro (ints l),.rw (dI (wF s l))]:=by
 unfold zC wF
 by_cases h:iD s l=0
 ·obtain ⟨d,h1,hs,ht⟩:=mX h
  have e:1≤s.short:=by unfold fB at hs;omega
  have hs2:s.short≤s.long:=by unfold fB at hs;omega
  have m:s.long≤100000:=by unfold fB at hs;omega
  rw [if_neg oO,if_neg oO]
  have a:=acj (σ:=[.ro (ints l),.rw s.cells,.rw (dA s (.s 0 l.length c) (dQ s l) fun _=>0)]) (s:=s) (l:=l) (c:=c) (f:=dQ s l) (g:=fun _=>0) (from_:=s.long) (to:=s.short) (t:=0) (r:=2) (.inl rfl) (.inr (.inl rfl)) d e (dE _) oO m ZG rfl
  rw [ZF] at a
  generalize qJ (sp s l) l.length s.long s.short=P at a ⊢
  refine aI 1 31 Tryz.func14 rfl rfl rfl rfl rfl ?_
  repeat' (first|refine sCm ?_|(refine gU ?_;first|(refine bV ?_;first|refine st (aK rfl oR) rfl rfl ?_|refine st (bD rfl oR) rfl rfl ?_)|refine sK0 ?_|refine LK ?_|(refine dX ?_;refine st (bG rfl rfl rfl (by first|exact NH (by exact .inl rfl) oA oA rfl|exact a)) rfl rfl ?_))|refine aG ?_|refine eu rfl ?_|(refine iR rfl ?_ ?_ <;> intro _))
  ·rename_i hq
   refine dK (.tmp rfl (.tmp rfl .nil)) (ab3 rfl rfl) ⟨?_,?_⟩
   ·unfold CY;rw [if_neg oO,if_neg oO];rfl
   ·unfold CY;rw [if_neg oO];rfl
  ·rename_i hq
   refine dK (.tmp rfl (.tmp rfl .nil)) (ahl (j:=3) rfl (gW P.1) (.inl rfl) rfl rfl (aD _)) ⟨?_,?_⟩
   ·unfold CY;rw [if_pos oO,if_pos oO];rfl
   ·unfold CY;rw [if_pos oO];rfl
 ·have h':iD s l ≠ 0:=h
  rw [if_pos h',if_pos h']
  refine aI 1 31 Tryz.func14 rfl rfl rfl rfl rfl ?_
  repeat' (first|refine sCm ?_|(refine gU ?_;first|(refine bV ?_;refine st (bD rfl oR) rfl rfl ?_)|refine sK0 ?_|(refine dX ?_;refine st (bG rfl rfl rfl (by exact J3 (by exact .inl rfl) oA oA oA rfl)) rfl rfl ?_))|refine aG ?_|refine dZ rfl ?_)
  exact dK (.tmp rfl (.tmp rfl .nil)) (ab3 rfl rfl) ⟨rfl,rfl⟩
theorem Tq {σ:Heap} {s:St} {l:List Int} {a c:Nat} (hx:dN σ a (ints l)) (hN:l.length≤1000000) (hr:-9223372036854775808≤s.short∧s.short≤9223372036854775807) (hni:σ.all (fun o=>!aU o)=true) :
  Ev Tryz.prog 14 [s.val,.s a l.length c] σ (.tuple #[.s σ.length (wF s l).length (wF s l).length,.i (zC s l)]) (σ++[.rw (dI (wF s l))]):=by
 refine Ev.arrsN [ints l] [a] (news:=[.rw (dI (wF s l))]) (Tn s l c hN hr) ⟨hx,trivial⟩ ⟨aY _ rfl,by simpa [bsR] using VQ.slice (q:=true) (n:=1) (ρ:=bsR [a]) 0 0 l.length c c (aD _) oO,trivial⟩ (by simp [bC]) rfl ?_ ?_ hni
 ·simp [ren,zH,yF,shf]
 ·simp only [cG,dz,CJ,vG _ (gW _)]
def kU (s:St) (l:List Int) (pl:List (Int×Int)) (i:Nat):Prop :=
 (i=0∧(gp pl i).1 ≠ s.long)∨(0<i∧(gp pl i).1≥(gp pl (i - 1)).1)∨(gp pl i).1<s.short∨(gp pl i).2<0∨(gp pl i).2≥l.length
instance (s:St) (l:List Int) (pl:List (Int×Int)):DecidablePred (kU s l pl):=fun i=>by unfold kU;infer_instance
def inP (p:Int×Int) (x:Int):Prop:=p.1≤x∧x≤p.2
instance (p:Int×Int) (x:Int):Decidable (inP p x):=by unfold inP;infer_instance
def nI (s:St) (l:List Int) (pl:List (Int×Int)) (i:Nat):Prop:=¬ (inP (dQ s l (gp pl i).2.toNat) (gp pl i).1∧inP (dQ s l (gp pl i).2.toNat) (wE s.short pl i))
instance (s:St) (l:List Int) (pl:List (Int×Int)):DecidablePred (nI s l pl):=fun i=>by unfold nI;infer_instance
def sD (s:St) (l:List Int) (pl:List (Int×Int)):Int :=
 if iD s l ≠ 0 then iD s l else if pl.length<1∨pl.length > 20 then 6 else if someB pl.length (kU s l pl)=true then 3 else if someB pl.length (nI s l pl)=true then 19 else 0
theorem nJ {s:St} {l:List Int} {pl:List (Int×Int)}:∀ {k:Nat},(∀ j<k,¬ kU s l pl j)→∀ j<k,s.short≤(gp pl j).1∧(gp pl j).1≤s.long∧0≤(gp pl j).2∧(gp pl j).2<l.length∧(0<j→(gp pl j).1<(gp pl (j - 1)).1)
 |0,_,j,h=>by omega
 |k+1,hb,j,h=>by
  by_cases a:j<k
  ·exact nJ (fun i hi=>hb i oO) j a
  ·obtain rfl:j=k:=oO
   have h1:=hb j oO
   unfold kU at h1
   by_cases h0:j=0
   ·subst h0;omega
   ·have:=nJ (k:=j) (fun i hi=>hb i oO) (j - 1) oO
    omega
theorem P6 {s:St} {l:List Int} {pl:List (Int×Int)} (hs:s.short≤s.long) (hb:∀ j<pl.length,¬ kU s l pl j) {i:Nat} (hi:i<pl.length):s.short≤wE s.short pl i∧wE s.short pl i≤(gp pl i).1:=by
 have h1:=nJ hb i hi
 unfold wE
 split
 ·rename_i h
  have h2:=nJ hb (i+1) h
  have h3:=h2.2.2.2.2 oO
  simp only [Nat.add_sub_cancel] at h3
  omega
 ·omega
theorem wX {p:Nat→Prop} {i:Nat} (h:∀ j<i,¬ p j) (hi:¬ p i):∀ j<i+1,¬ p j:=fun j hj=>by
 by_cases a:j<i
 ·exact h j a
 ·obtain rfl:j=i:=oO
  exact hi
theorem acn {s:St} {l:List Int} {k:Nat} {x:Int} (hs:¬ fB s) (hk:k<l.length) (hn:1≤gi l k∧gi l k≤10000) (hx:s.short≤x∧x≤s.long):inP (dQ s l k) x↔PY s (gi l k) x:=by
 rw [← V7 hs hn hx]
 constructor
 ·intro h
  have:=Yj hk h
  unfold inP at h;rw [this] at h;exact h
 ·intro h
  have:dQ s l k=sp s l k:=PS hk h
  unfold inP;rw [this];exact h
theorem y8 {σ:Heap} {b i:Nat} {pl:List (Int×Int)} (h:dN σ b (dI pl)) (hi:i<pl.length):aJ σ b (0+i*2) 2=some [.i (gp pl i).1,.i (gp pl i).2]:=by
 have h1:Nat.ble (i*2+2) (dI pl).length=true:=fq (by rw [wC];omega)
 have h2:=y5 hi
 unfold aJ
 rcases h with h|h|⟨t,h⟩ <;> rw [h] <;> simp only [bA,h1,h2,cond_true]
theorem Yl (l:List Int) (pl:List (Int×Int)) (s:St) (c:Nat) (f:Nat→Int×Int) (g:Nat→Int) :
  fJ [aB.ro (ints l),.ro (dI pl),.rw s.cells,.rw (dA s (.s 0 l.length c) f g)].length [.ro (ints l),.ro (dI pl),.rw s.cells,.rw (dA s (.s 0 l.length c) f g)] :=
 ⟨aW (bC l),aW (gW pl),aW (qI s),jg (dM oS).1 (dM (n:=1) oS).2,trivial⟩
theorem P7 {A B:Prop} (k:B) (h:Hide B→A:=by intro h_k_;(repeat' (first|(refine gU ?_;first|refine Py ?_|refine Pz ?_|(refine gFA ?_;refine st (aZ rfl) rfl rfl ?_)|(refine bV ?_;first|refine st (aK rfl (by rfl)) rfl rfl ?_|refine st (bD rfl (by rfl)) rfl rfl ?_)|refine LP ?_|refine sK0 ?_|(refine ET ?_;refine st (lJ rfl) rfl rfl ?_)|refine PG ?_|(refine Rk ?_;refine st (Cb rfl rfl) rfl rfl ?_)|(refine dX ?_;refine st (bG rfl rfl rfl (by first|exact J3 (by exact .inl rfl) (by assumption) (by assumption) (by assumption) rfl|exact NH (by exact .inl rfl) (by assumption) (by assumption) rfl)) rfl rfl ?_)|(refine gBox ?_;refine st (OB rfl) rfl rfl ?_))|(refine gG ?_;first|refine JR ?_|refine sK9 ?_|refine LQ ?_)|refine xR ?_|refine aG ?_|refine kP ?_|refine tC ?_|refine ad3 ?_|refine Y0 ?_|refine uF ?_|refine ad4 ?_|refine Ci rfl ?_|refine yI ?_|refine zJ ?_|refine Gy ?_|refine qg ?_|refine dZ rfl ?_|refine eu rfl ?_));exact h_k_.h):A:=h ⟨k⟩
def BP (s:St) (pl:List (Int×Int)):Nat→Int
 |0=>s.long+1
 |i+1=>(gp pl i).1
def aco (s:St) (l:List Int) (pl:List (Int×Int)):Value:=if someB pl.length (kU s l pl)=true then .tuple #[.pointer none,.int .i64 3] else if someB pl.length (nI s l pl)=true then .tuple #[.pointer none,.int .i64 19] else .tuple #[.pointer (some ⟨2,0,none⟩),.int .i64 0]
def acp (s:St) (l:List Int) (c:Nat) (pl:List (Int×Int)):Heap:=if someB pl.length (kU s l pl)=true then [.ro (ints l),.ro (dI pl)] else if someB pl.length (nI s l pl)=true then [.ro (ints l),.ro (dI pl)] else [.ro (ints l),.ro (dI pl),.rw (dA s (.slice (some ⟨0,0,none⟩) l.length c) (dQ s l) fun _=>0)]
theorem Tt (s:St) (l:List Int) (c:Nat) (pl:List (Int×Int)) (c2:Nat) (hr:-9223372036854775808≤s.short∧s.short≤9223372036854775807) (h:iD s l=0) (hp1:1≤pl.length) (hp2:pl.length≤20) :
  Ev Tryz.prog 71 [s.val,.s 0 l.length c,.s 1 pl.length c2] [.ro (ints l),.ro (dI pl)] (aco s l pl) (acp s l c pl):=by
 obtain ⟨h12,h1,hs,ht⟩:=mX h
 have hs1:1≤s.short:=by unfold fB at hs;omega
 have hs2:s.short≤s.long:=by unfold fB at hs;omega
 have hs3:s.long≤100000:=by unfold fB at hs;omega
 unfold aco acp
 refine aI 2 109 Tryz.func71 rfl rfl rfl rfl rfl ?_
 refine P7 ?_
 refine iM (ι:=Nat) (fun i=>[(1,.s 0 l.length c),(2,.s 1 pl.length c2),(3,.p 2),(8,.p 3),(10,.i (BP s pl i)),(38,.s 1 pl.length c2),(39,.i (pl.length:Int)),(40,.i (i:Int))])
  (fun _=>[.ro (ints l),.ro (dI pl),.rw s.cells,.rw (dA s (.s 0 l.length c) (dQ s l) fun _=>0)]) (fun i=>pl.length - i) (fun i=>i≤pl.length∧∀ j<i,¬ kU s l pl j) 0 oS (.same tE) ⟨oO,fun j hj=>oO⟩ ?_
 rintro i ⟨hi,a⟩
 by_cases e:i<pl.length
 ·have f:s.short≤BP s pl i∧BP s pl i≤s.long+1∧(0<i→BP s pl i=(gp pl (i - 1)).1)∧(i=0→BP s pl i=s.long+1):=by
   cases i with
   |zero=>exact ⟨by simp only [BP];omega,by simp only [BP];omega,fun h=>oO,fun _=>rfl⟩
   |succ k =>
    have:=nJ a k oO
    exact ⟨by simp only [BP];omega,by simp only [BP];omega,fun _=>rfl,fun h=>oO⟩
  have r:aJ [.ro (ints l),.ro (dI pl),.rw s.cells,.rw (dA s (.s 0 l.length c) (dQ s l) fun _=>0)] 1 (0+i*2) 2=some [.i (gp pl i).1,.i (gp pl i).2]:=y8 (.inl rfl) e
  generalize BP s pl i=last at f
  repeat' (first|(refine gU ?_;first|refine Py ?_|refine Pz ?_|(refine gFA ?_;refine st (aZ rfl) rfl rfl ?_)|(refine bV ?_;first|refine st (aK rfl oR) rfl rfl ?_|refine st (bD rfl oA) rfl rfl ?_)|(refine ES ?_;refine st (qP rfl rfl oO) rfl rfl ?_)|refine sK0 ?_|(refine nN ?_;first|refine st (jr rfl rfl) rfl rfl ?_|refine st (jv rfl rfl) rfl rfl ?_)|refine sK3 ?_|(refine Cj ?_;refine st (kC rfl) rfl rfl ?_)|refine Px ?_)|(refine gG ?_;first|refine JR ?_|refine JU ?_|(refine bV ?_;refine pI rfl (aK rfl oR) rfl rfl ?_)|(refine gSub ?_;refine pI rfl (yK rfl rfl oO oO) rfl rfl ?_)|refine sK9 ?_|refine LQ ?_|(refine yP ?_;refine pI rfl (A8 rfl) rfl rfl ?_)|(refine dX ?_;refine pI rfl (bG rfl rfl rfl (by exact JX (by exact .inr (.inl rfl)) rfl)) rfl rfl ?_)|(refine Ba ?_;refine pI rfl (nU oR oR oR oR rfl oR) rfl rfl ?_)|refine SN rfl rfl ?_|((fail_if_success (refine SQ rfl ?_));(refine zS rfl ?_ ?_ <;> intro _)))|refine xR ?_|refine aG ?_|refine kP ?_|refine tC ?_|refine ad3 ?_|refine uF ?_|refine ad4 ?_|refine yI ?_|refine Gy ?_|refine qg ?_|refine dZ rfl ?_|(refine iR rfl ?_ ?_ <;> intro _))
  any_goals (first|(refine dK (.tmp rfl (.tmp rfl .nil)) (.plain rfl rfl) ?_;rw [if_pos (qm e (by unfold kU;omega)),if_pos (qm e (by unfold kU;omega))];exact ⟨rfl,rfl⟩)|exact ⟨rfl,i+1,⟨oO,wX a (by unfold kU;omega)⟩,oO,lM.drop [.ro (ints l),.ro (dI pl),.rw s.cells,.rw (dA s (.s 0 l.length c) (dQ s l) fun _=>0)] [_,_] oS (Yl l pl s c _ _) (by (repeat' (first|exact trivial|exact ⟨rfl,rfl,rfl⟩|exact ⟨rfl,bP rfl,rfl⟩|refine ⟨?_,?_⟩)))⟩)
 ·refine P7 ?_
  have d:∀ j<pl.length,¬ kU s l pl j:=fun j hj=>a j oO
  clear a e
  have hf:¬ someB pl.length (kU s l pl)=true:=by rw [mW d];simp
  rw [if_neg hf,if_neg hf]
  refine iM (ι:=Nat) (fun i=>[(1,.s 0 l.length c),(2,.s 1 pl.length c2),(3,.p 2),(8,.p 3),(80,.s 1 pl.length c2),(81,.i (pl.length:Int)),(82,.i (i:Int))])
   (fun _=>[.ro (ints l),.ro (dI pl),.rw s.cells,.rw (dA s (.s 0 l.length c) (dQ s l) fun _=>0)]) (fun i=>pl.length - i) (fun i=>i≤pl.length∧∀ j<i,¬ nI s l pl j) 0 oS (.same tE) ⟨oO,fun j hj=>oO⟩ ?_
  clear hi
  rintro i ⟨hi,a⟩
  have hb:∀ i<pl.length,-1000000≤(gp pl i).1∧(gp pl i).1≤1000000:=fun i hi=>by have:=nJ d i hi;omega
  by_cases e:i<pl.length
  ·have hr:=nJ d i e
   have hk:(gp pl i).2.toNat<12:=oO
   have r:aJ [.ro (ints l),.ro (dI pl),.rw s.cells,.rw (dA s (.s 0 l.length c) (dQ s l) fun _=>0)] 1 (0+i*2) 2=some [.i (gp pl i).1,.i (gp pl i).2]:=y8 (.inl rfl) e
   have hc2:aJ [.ro (ints l),.ro (dI pl),.rw s.cells,.rw (dA s (.s 0 l.length c) (dQ s l) fun _=>0),.rw [.i (gp pl i).1,.i (gp pl i).2]] 3 (6+(gp pl i).2.toNat*2) 2=some [.i (dQ s l (gp pl i).2.toNat).1,.i (dQ s l (gp pl i).2.toNat).2]:=GU (.inr (.inl rfl)) hk
   repeat' (first|(refine gU ?_;first|refine Py ?_|refine Pz ?_|(refine bV ?_;refine st (bD rfl oA) rfl rfl ?_)|(refine ES ?_;refine st (qP rfl rfl oO) rfl rfl ?_)|refine sK0 ?_|refine LK ?_|refine sK3 ?_|(refine dX ?_;refine st (bG rfl rfl rfl (by exact CW (by exact .inr (.inl rfl)) rfl)) rfl rfl ?_)|(refine Cj ?_;refine st (kC rfl) rfl rfl ?_)|refine Px ?_)|(refine fU ?_;first|refine JQ ?_|(refine fFA ?_;refine frA (aZ rfl) rfl ?_)|(refine gB ?_;first|refine frA (aK rfl oR) rfl ?_|refine frA (bD rfl oA) rfl ?_)|(refine OH ?_;refine frA (jT rfl) rfl ?_)|(refine fIA ?_;refine frA (nD rfl rfl oO oO) rfl ?_)|(refine qF ?_;refine frA (bG rfl rfl rfl (by exact NJ (t:=0) (l:=l) (by exact .inl rfl) (by exact .inr (.inl rfl)) (by exact .inl rfl) oO oO oA rfl)) rfl ?_)|(refine zV ?_;refine fr1 (kC rfl) rfl rfl rfl ?_)|refine VU ?_)|(refine fP ⟨oK,?_⟩)|refine xR ?_|refine aG ?_|refine sK5 ?_|refine kP ?_|refine tC ?_|refine ad3 ?_|refine uF ?_|refine ad4 ?_|refine yI ?_|refine Gy ?_|refine qg ?_|refine dZ rfl ?_|(refine iR rfl ?_ ?_ <;> intro _))
   ·rename_i hq
    have g:nI s l pl i:=hq
    refine dK (.tmp rfl (.tmp rfl .nil)) (.plain rfl rfl) ?_
    rw [if_pos (qm e g),if_pos (qm e g)]
    exact ⟨rfl,rfl⟩
   ·rename_i hq
    have g:¬ nI s l pl i:=hq
    exact ⟨rfl,i+1,⟨oO,wX a g⟩,oO,lM.drop [.ro (ints l),.ro (dI pl),.rw s.cells,.rw (dA s (.s 0 l.length c) (dQ s l) fun _=>0)] [_,_,_] oS (Yl l pl s c _ _) (by (repeat' (first|exact trivial|exact ⟨rfl,rfl,rfl⟩|exact ⟨rfl,bP rfl,rfl⟩|refine ⟨?_,?_⟩)))⟩
  ·refine P7 ?_
   have o:¬ someB pl.length (nI s l pl)=true:=by rw [mW fun j hj=>a j oO];simp
   refine dK (.tmp rfl (.tmp rfl .nil)) (.src [_] [3] rfl rfl rfl ⟨yh (m:=2) rfl (.inl rfl) (fun i hi=>fE hi) (cA rfl) (jg (n:=2) (tv:=.s 0 l.length c) (dM oO).1 (dM (n:=1) (i:=0) oO).2).1 (jg (n:=2) (tv:=.s 0 l.length c) (dM oO).1 (dM (n:=1) (i:=0) oO).2).2,trivial⟩ (v2:=.tuple #[.p 2,.i 0]) ?_) ?_
   ·refine .tuple _ _ rfl fun i hi _=>?_
    match i,hi with
    |0,_=>exact VQ.ptr (q:=true) (n:=3) (ρ:=fK 2 [3]) 2 0 oO
    |1,_=>exact .int _ _
   ·rw [if_neg o,if_neg o]
    exact ⟨rfl,rfl⟩
theorem Au {s:St} {l:List Int} {pl:List (Int×Int)} (h:sD s l pl=0):iD s l=0∧1≤pl.length∧pl.length≤20∧(∀ j<pl.length,¬ kU s l pl j)∧∀ j<pl.length,¬ nI s l pl j:=by
 unfold sD at h
 split at h
 ·rename_i hc;exact absurd h hc
 ·split at h
  ·cases h
  ·split at h
   ·cases h
   ·split at h
    ·cases h
    ·rename_i h1 h2 h3 h4
     exact ⟨oO,oO,oO,JW h3,JW h4⟩
theorem P8 {σ:Heap} {s:St} {l:List Int} {pl:List (Int×Int)} {x y c c2:Nat} (hx:dN σ x (ints l)) (hy:dN σ y (dI pl)) (hN:l.length≤1000000) (hM:pl.length≤1000000) (hr:-9223372036854775808≤s.short∧s.short≤9223372036854775807)
  (h:sD s l pl=0) (hni:σ.all (fun o=>!aU o)=true) :
  Ev Tryz.prog 71 [s.val,.s x l.length c,.s y pl.length c2] σ (.tuple #[.p σ.length,.i 0]) (σ++[.rw (dA s (.s x l.length c) (dQ s l) fun _=>0)]):=by
 obtain ⟨g1,g2,g3,g4,g5⟩:=Au h
 have h0:=Tt s l c pl c2 hr g1 g2 g3
 unfold aco acp at h0
 have e1:¬ someB pl.length (kU s l pl)=true:=by rw [mW g4];simp
 have e2:¬ someB pl.length (nI s l pl)=true:=by rw [mW g5];simp
 rw [if_neg e1,if_neg e1,if_neg e2,if_neg e2] at h0
 refine Ev.arrsN [ints l,dI pl] [x,y] (news:=[.rw (dA s (.s 0 l.length c) (dQ s l) fun _=>0)]) h0 ⟨hx,hy,trivial⟩
  ⟨aY _ rfl,by simpa [bsR] using VQ.slice (q:=true) (n:=2) (ρ:=bsR [x,y]) 0 0 l.length c c (aD _) oO,by simpa [bsR] using VQ.slice (q:=true) (n:=2) (ρ:=bsR [x,y]) 1 0 pl.length c2 c2 (aD _) oO,trivial⟩ (by simp [bC,gW]) rfl ?_ ?_ hni
 ·simp [ren,zH,yF,shf]
 ·simp only [cG,dz,CJ,JZ]
  simp [ren,shf,bsR]
def minN (l:List Int):Nat→Int
 |0=>gi l 0
 |n+1=>if n=0 then gi l 0 else min (minN l n) (gi l n)
def J8 (l:List Int):Nat→Int
 |0=>gi l 0
 |n+1=>if n=0 then gi l 0 else max (J8 l n) (gi l n)
theorem ahs (l:List Int) (c:Nat) (h0:1≤l.length) (hN:l.length≤1000000):Ev Tryz.prog 73 [.s 0 l.length c] [.ro (ints l)] (.i (minN l l.length)) [.ro (ints l)]:=by
 have hc0:aH [.ro (ints l)] 0 0=some (.i (gi l 0)):=gQ oO
 refine aI 1 25 Tryz.func73 rfl rfl rfl rfl rfl ?_
 repeat' (first|refine sCm ?_|(refine gU ?_;first|(refine bV ?_;refine st (aK rfl oA) rfl rfl ?_)|refine sK0 ?_|(refine gIA ?_;refine st (ny rfl rfl oO oO) rfl rfl ?_))|refine aG ?_|refine eu rfl ?_)
 refine iM (ι:=Nat) (fun i=>[(0,.s 0 l.length c),(3,.i (minN l i)),(4,.i (i:Int))])
  (fun _=>[.ro (ints l)]) (fun i=>l.length - i) (fun i=>1≤i∧i≤l.length) 1 oS (.same tE) ⟨oO,oO⟩ ?_
 rintro i ⟨hi0,hi⟩
 have a:i<l.length→aH [.ro (ints l)] 0 i=some (.i (gi l i)):=fun h=>gQ h
 have he:minN l (i+1)=min (minN l i) (gi l i):=by simp only [minN];rw [if_neg oO]
 repeat' (first|refine sCm ?_|(refine gU ?_;first|(refine bV ?_;refine st (aK rfl (by exact a oO)) rfl rfl ?_)|refine sK0 ?_|refine sK1 ?_|(refine aaO ?_;refine st (Ce rfl rfl) rfl rfl ?_))|refine aG ?_|(refine iR rfl ?_ ?_ <;> intro _))
 ·exact ⟨rfl,i+1,⟨oO,oO⟩,oO,.same ⟨rfl,by rw [he];rfl,rfl,trivial⟩⟩
 ·refine dK (.tmp rfl .nil) (.plain rfl rfl) ⟨?_,rfl⟩
  obtain rfl:i=l.length:=oO
  rfl
theorem aht (l:List Int) (c:Nat) (h0:1≤l.length) (hN:l.length≤1000000):Ev Tryz.prog 74 [.s 0 l.length c] [.ro (ints l)] (.i (J8 l l.length)) [.ro (ints l)]:=by
 have hc0:aH [.ro (ints l)] 0 0=some (.i (gi l 0)):=gQ oO
 refine aI 1 25 Tryz.func74 rfl rfl rfl rfl rfl ?_
 repeat' (first|refine sCm ?_|(refine gU ?_;first|(refine bV ?_;refine st (aK rfl oA) rfl rfl ?_)|refine sK0 ?_|(refine gIA ?_;refine st (ny rfl rfl oO oO) rfl rfl ?_))|refine aG ?_|refine eu rfl ?_)
 refine iM (ι:=Nat) (fun i=>[(0,.s 0 l.length c),(3,.i (J8 l i)),(4,.i (i:Int))])
  (fun _=>[.ro (ints l)]) (fun i=>l.length - i) (fun i=>1≤i∧i≤l.length) 1 oS (.same tE) ⟨oO,oO⟩ ?_
 rintro i ⟨hi0,hi⟩
 have a:i<l.length→aH [.ro (ints l)] 0 i=some (.i (gi l i)):=fun h=>gQ h
 have he:J8 l (i+1)=max (J8 l i) (gi l i):=by simp only [J8];rw [if_neg oO]
 repeat' (first|refine sCm ?_|(refine gU ?_;first|(refine bV ?_;refine st (aK rfl (by exact a oO)) rfl rfl ?_)|refine sK0 ?_|refine sK1 ?_|(refine gMax ?_;refine st (Cc rfl rfl) rfl rfl ?_))|refine aG ?_|(refine iR rfl ?_ ?_ <;> intro _))
 ·exact ⟨rfl,i+1,⟨oO,oO⟩,oO,.same ⟨rfl,by rw [he];rfl,rfl,trivial⟩⟩
 ·refine dK (.tmp rfl .nil) (.plain rfl rfl) ⟨?_,rfl⟩
  obtain rfl:i=l.length:=oO
  rfl
theorem aeS {σ:Heap} {l:List Int} {x:Nat} (hx:dN σ x (ints l)) (h0:1≤l.length) (hN:l.length≤1000000) (hni:σ.all (fun o=>!aU o)=true):Ev Tryz.prog 73 [dW x 1 l.length] σ (.i (minN l l.length)) σ :=
 Ev.arrs [ints l] [x] (ahs l l.length h0 hN) ⟨hx,trivial⟩ ⟨jV oS (by simp [bsR]),trivial⟩ (by simp [bC]) rfl hni
theorem aeT {σ:Heap} {l:List Int} {x:Nat} (hx:dN σ x (ints l)) (h0:1≤l.length) (hN:l.length≤1000000) (hni:σ.all (fun o=>!aU o)=true):Ev Tryz.prog 74 [dW x 1 l.length] σ (.i (J8 l l.length)) σ :=
 Ev.arrs [ints l] [x] (aht l l.length h0 hN) ⟨hx,trivial⟩ ⟨jV oS (by simp [bsR]),trivial⟩ (by simp [bC]) rfl hni
def spd (s:St) (l:List Int) (pl:List (Int×Int)) (j:Nat):List Int:=[gi l (gp pl j).2.toNat*((gp pl j).1+s.off),gi l (gp pl j).2.toNat*(wE s.short pl j - s.off)]
def allL (s:St) (l:List Int) (pl:List (Int×Int)):Nat→List Int
 |0=>[]
 |i+1=>allL s l pl i++spd s l pl i
theorem tX (s:St) (l:List Int) (pl:List (Int×Int)):∀ i,(allL s l pl i).length=i*2
 |0=>rfl
 |i+1=>by simp only [allL,aR,tX s l pl i,spd,eg,eb];omega
theorem Ym (l:List Int) (pl:List (Int×Int)) (s:St) (c:Nat) (f:Nat→Int×Int) (g:Nat→Int) :
  fJ 5 [aB.ro (ints l),.ro (dI pl),.rw s.cells,.rw [.i 0,.i 0],.rw (dA s (.s 0 l.length c) f g)] :=
 ⟨aW (bC l),aW (gW pl),aW (qI s),aW rfl,jg (dM oS).1 (dM (n:=1) oS).2,trivial⟩
theorem P9 {A B:Prop} (k:B) (h:Hide B→A:=by intro h_k_;(repeat' (first|refine sCm ?_|(refine gU ?_;first|(refine bV ?_;refine st (bD rfl (by first|rfl|assumption)) rfl rfl ?_)|refine sK0 ?_|refine sK3 ?_|refine sK4 ?_|(refine dX ?_;refine st (bG rfl rfl rfl (by first|exact rimplan_evBad (by exact .inl rfl) (by exact .inl rfl) (by assumption) (by assumption) (by assumption) (by assumption) rfl|exact P8 (by exact .inl rfl) (by exact .inl rfl) (by assumption) (by assumption) (by assumption) (by assumption) rfl|exact hmin|exact hmax)) rfl rfl ?_)|(refine gApp ?_;refine st (iQ (by rfl) (by rfl) rfl (by rfl) (by assumption) rfl (by rfl) (by omega) (by rfl) (by omega) (by omega)) rfl rfl ?_)|refine Px ?_)|(refine fU ?_;first|refine JQ ?_|(refine fFA ?_;refine frA (aZ rfl) rfl ?_)|(refine gB ?_;refine frA (aK rfl (by first|rfl|assumption)) rfl ?_)|(refine fAdd ?_;refine frA (vJ rfl rfl (by omega) (by omega)) rfl ?_)|(refine fSub ?_;refine frA (yK rfl rfl (by omega) (by omega)) rfl ?_)|(refine fMul ?_;refine frA (zM rfl rfl (by omega) (by omega)) rfl ?_)|(refine fIA ?_;refine frA (ny rfl rfl (by omega) (by omega)) rfl ?_)|(refine qF ?_;refine frA (bG rfl rfl rfl (by exact NJ (t:=0) (l:=l) (by exact .inl rfl) (by exact .inr (.inl rfl)) (by exact .inl rfl) (by omega) (by omega) (by assumption) rfl)) rfl ?_)|refine VU ?_)|(refine fP ⟨by kernel_rfl,?_⟩)|refine aG ?_|refine sK5 ?_|refine dZ rfl ?_|refine eu rfl ?_));exact h_k_.h):A:=h ⟨k⟩
theorem Qa (s:St) (l:List Int) (c:Nat) (pl:List (Int×Int)) (c2:Nat) (hr:-9223372036854775808≤s.short∧s.short≤9223372036854775807) (h:sD s l pl=0) :
  Ev Tryz.prog 15 [s.val,.s 0 l.length c,.s 1 pl.length c2] [.ro (ints l),.ro (dI pl)] (.tuple #[agd (minN (allL s l pl pl.length) (pl.length*2),J8 (allL s l pl pl.length) (pl.length*2)),.i 0]) [.ro (ints l),.ro (dI pl)]:=by
 obtain ⟨g1,g2,g3,d,g5⟩:=Au h
 obtain ⟨h12,h1,hs,ht⟩:=mX g1
 have hN:l.length≤1000000:=oO
 have hM:pl.length≤1000000:=oO
 have o:=J4 ht
 have hs1:1≤s.short:=by unfold fB at hs;omega
 have j:s.short≤s.long:=by unfold fB at hs;omega
 have hs3:s.long≤100000:=by unfold fB at hs;omega
 have hs4:0≤s.off∧s.off<s.short:=by unfold fB at hs;omega
 have hb:∀ i<pl.length,-1000000≤(gp pl i).1∧(gp pl i).1≤1000000:=fun i hi=>by have:=nJ d i hi;omega
 refine aI 2 64 Tryz.func15 rfl rfl rfl rfl rfl ?_
 refine P9 ?_
 refine iM (ι:=Nat) (fun i=>[(1,.s 0 l.length c),(2,.s 1 pl.length c2),(3,.p 2),(6,.p 3),(8,.p 4),(10,dW 5 1 (i*2)),(24,.s 1 pl.length c2),(25,.i (pl.length:Int)),(26,.i (i:Int))])
  (fun i=>[.ro (ints l),.ro (dI pl),.rw s.cells,.rw [.i 0,.i 0],.rw (dA s (.s 0 l.length c) (dQ s l) fun _=>0),.gr (ints (allL s l pl i)) 2]) (fun i=>pl.length - i) (fun i=>i≤pl.length) 0 oS (lM.src [.ro (ints l),.ro (dI pl),.rw s.cells,.rw [.i 0,.i 0],.rw (dA s (.s 0 l.length c) (dQ s l) fun _=>0)] [.gr [] 2] [5] oS rfl (Ym l pl s c _ _) rfl rfl ⟨Jq,trivial⟩ (by (repeat' (first|exact trivial|refine ⟨oH rfl rfl,?_⟩|refine ⟨kL (m:=5) rfl (fun i hi=>fE hi) oS (by first|rfl|exact bP rfl) rfl,?_⟩)))) oO ?_
 rintro i hi
 by_cases e:i<pl.length
 ·have hrn:=nJ d i e
  have he:=P6 j d e
  have hk:(gp pl i).2.toNat<l.length:=oO
  have hn:=o _ hk
  have m1:=y7 (a:=gi l (gp pl i).2.toNat) (n:=(gp pl i).1+s.off) (A:=10000) (N:=200000) oO oO
  have m2:=y7 (a:=gi l (gp pl i).2.toNat) (n:=wE s.short pl i - s.off) (A:=10000) (N:=200000) oO oO
  have hc2:aJ [.ro (ints l),.ro (dI pl),.rw s.cells,.rw [.i 0,.i 0],.rw (dA s (.s 0 l.length c) (dQ s l) fun _=>0),.gr (ints (allL s l pl i)) 2] 1 (0+i*2) 2=some [.i (gp pl i).1,.i (gp pl i).2]:=y8 (.inl rfl) e
  have hc3:aH [.ro (ints l),.ro (dI pl),.rw s.cells,.rw [.i 0,.i 0],.rw (dA s (.s 0 l.length c) (dQ s l) fun _=>0),.gr (ints (allL s l pl i)) 2,.rw [.i (gp pl i).1,.i (gp pl i).2]] 0 (0+(gp pl i).2.toNat*1)=some (.i (gi l (gp pl i).2.toNat)):=by simpa [aH] using gQ hk
  have hlen:(ints (allL s l pl i)).length=i*2*1:=by simp [ints,tX]
  have f:(i+1)*2=i*2+2:=oO
  have g:ints (allL s l pl (i+1))=ints (allL s l pl i)++[.i (gi l (gp pl i).2.toNat*((gp pl i).1+s.off)),.i (gi l (gp pl i).2.toNat*(wE s.short pl i - s.off))]:=by simp [allL,ints,spd]
  refine P9 ?_
  exact ⟨rfl,i+1,oO,oO,lM.src [.ro (ints l),.ro (dI pl),.rw s.cells,.rw [.i 0,.i 0],.rw (dA s (.s 0 l.length c) (dQ s l) fun _=>0)] [.gr (ints (allL s l pl (i+1))) 2] [8] oS rfl (Ym l pl s c _ _) rfl rfl ⟨Ir rfl (by rw [g];rfl) (bC _),trivial⟩ (by (repeat' (first|exact trivial|refine ⟨oH rfl rfl,?_⟩|refine ⟨kL (m:=5) rfl (fun i hi=>fE hi) oS (by first|rfl|exact bP rfl) rfl,?_⟩|refine ⟨OL (by rw [f];rfl) oS rfl,?_⟩)))⟩
 ·obtain rfl:i=pl.length:=oO
  have hmin:=aeS (σ:=[.ro (ints l),.ro (dI pl),.rw s.cells,.rw [.i 0,.i 0],.rw (dA s (.s 0 l.length c) (dQ s l) fun _=>0),.gr (ints (allL s l pl pl.length)) 2]) (x:=5) (.inr (.inr ⟨_,rfl⟩)) (by rw [tX];omega) (by rw [tX];omega) rfl
  have hmax:=aeT (σ:=[.ro (ints l),.ro (dI pl),.rw s.cells,.rw [.i 0,.i 0],.rw (dA s (.s 0 l.length c) (dQ s l) fun _=>0),.gr (ints (allL s l pl pl.length)) 2]) (x:=5) (.inr (.inr ⟨_,rfl⟩)) (by rw [tX];omega) (by rw [tX];omega) rfl
  rw [tX] at hmin hmax
  refine P9 ?_
  refine dK (.cellN inferInstance rfl rfl (.tmp rfl .nil)) (.plain rfl rfl) ⟨rfl,rfl⟩
end Go.Proofs.YtajpgeklmcjciaaGreat
