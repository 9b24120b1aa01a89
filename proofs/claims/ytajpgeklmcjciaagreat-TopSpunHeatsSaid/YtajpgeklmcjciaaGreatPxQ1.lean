/- What Speeds of rim returns. -/
import Derived.Test.YtajpgeklmcjciaaGreatPxMJ
import Derived.Test.YtajpgeklmcjciaaGreatPxMC
set_option maxRecDepth 100000
set_option maxHeartbeats 1000000
namespace Go
abbrev Value.i (x:Int):Value:=.int .i64 x
abbrev Value.p (b:Nat):Value:=.pointer (some ⟨b,0,none⟩)
abbrev Value.s (b n c:Nat):Value:=.slice (some ⟨b,0,none⟩) n c
end Go
theorem tE {P:Prop} (h:P:=by (repeat' (first|exact trivial|refine ⟨rfl,?_⟩))):P:=h
namespace Go.AH
open Go
structure Hid (p:Prop):Prop where
 h:p
theorem sCm {A B:Prop} (k:B) (h:Hid B→A:=by intro h_k_;(repeat1' (first|(refine gU ?_;first|(refine pW ?_;refine st (iZ rfl) rfl rfl ?_)|(refine kP ?_;refine st (bV rfl) rfl rfl ?_)|(refine gBox ?_;refine st (Ou rfl) rfl rfl ?_)|(refine gFA ?_;refine st (aW rfl) rfl rfl ?_)|(refine wY ?_;refine st (jC rfl) rfl rfl ?_)|(refine yD ?_;refine st (uJ rfl rfl oO) rfl rfl ?_)|(refine Jh ?_;refine st (lU rfl) rfl rfl ?_)|(refine gNil ?_;refine st (kE rfl) rfl rfl ?_)|(refine QV ?_;refine st (Cm rfl rfl) rfl rfl ?_)|(refine nK ?_;refine st (fE rfl rfl rfl) rfl rfl ?_))|refine zU ?_|refine l9 ?_|refine uX ?_|refine tq_r ?_|refine YH ?_|refine wX ?_|refine bq_r ?_|refine CG rfl ?_|refine Ci ?_|refine zT ?_|refine MH ?_|refine tY ?_));exact h_k_.h):A:=h ⟨k⟩
theorem kW {n i sz k:Nat} (h:Nat.blt i n=true):closed n (eu i sz k)=true:=by
 cases k <;> simp [eu,closed,h]
section
variable {P:Program} {n0 N:Nat} {rd:Option Nat} {Q:Post} {e:Env} {mk:List Nat} {σ:Heap} {K:Env→List Nat→Heap→Prop} {all rest:List Oper}
theorem iI {d:Nat} {op:Op} {ty:TypeId} {pos:String} {after:Array Edge} {v:Value} {σ':Heap} {j:Nat} {b want:Bool} (hg:lg all e j=some (.bool b))
  (h:bZ P rd op ty e σ v σ') (hrd:mG rd n0=true) (hd:Nat.blt d N=true)
  (k:dA P n0 N rd all rest K ((d,v)::e) mk σ') (hb:b=want:=by first|rfl|exact dW oA|exact bM oA|assumption|exact dW oO|exact bM oO):dA P n0 N rd all (⟨some d,op,ty,pos,after,some (j,want)⟩::rest) K e mk σ:=stG hg hb h hrd hd k
theorem Sj {d:Nat} {op:Op} {ty:TypeId} {pos:String} {after:Array Edge} {j:Nat} {b want:Bool} (hg:lg all e j=some (.bool b)) (hd:Nat.blt d N=true)
  (k:dA P n0 N rd all rest K ((d,undef)::e) mk σ) (hb:b=!want:=by first|rfl|exact dW oA|exact bM oA|assumption|exact dW oO|exact bM oO):dA P n0 N rd all (⟨some d,op,ty,pos,after,some (j,want)⟩::rest) K e mk σ:=stS hg hb hd k
theorem eP {c:Operand} {x y:Code} {b:Bool} (hc:aP e c=some (.bool b)) (h:bP P n0 N rd x Q e mk σ) (hb:b=true:=by first|rfl|exact dW oA|exact bM oA|assumption|exact dW oO|exact bM oO):bP P n0 N rd (.cond c x y) Q e mk σ:=jc hc hb h
theorem eU {c:Operand} {x y:Code} {b:Bool} (hc:aP e c=some (.bool b)) (h:bP P n0 N rd y Q e mk σ) (hb:b=false:=by first|rfl|exact dW oA|exact bM oA|assumption|exact dW oO|exact bM oO):bP P n0 N rd (.cond c x y) Q e mk σ:=iM hc hb h
end
section
variable {P:Program} {rd:Option Nat} {ty:TypeId} {e:Env} {σ:Heap} {a b c:Operand} {v:Value}
theorem jH {t:Bool} (hc:aP e c=some (.bool t)) (ha:aP e a=some v) (ht:t=true:=by first|rfl|exact dW oA|exact bM oA|assumption|exact dW oO|exact bM oO):bZ P rd (.pick c a b) ty e σ v σ:=lu hc ht ha
theorem gW {t:Bool} (hc:aP e c=some (.bool t)) (hb:aP e b=some v) (ht:t=false:=by first|rfl|exact dW oA|exact bM oA|assumption|exact dW oO|exact bM oO):bZ P rd (.pick c a b) ty e σ v σ:=jK hc ht hb
end
section
variable {P:Program} {N:Nat} {rd:Option Nat} {e:Env} {σ0:Heap} {news:List (Nat×Heap)} {K:Env→List (Nat×Heap)→List Oper→Prop} {k:Nat} {all rest:List Oper} {d:Nat} {op:Op} {ty:TypeId} {pos:String} {after:Array Edge} {v:Value} {j:Nat} {b want:Bool}
theorem frA (h:bZ P rd op ty e (σ0++gZ (bY after) news) v (σ0++gZ (bY after) news)) (hd:Nat.blt d N=true) (hk:bT P N rd all (k+1) rest ((d,v)::e) σ0 news K) (hc:closed σ0.length v=true:=by first|rfl|exact bQ rfl|exact kW rfl|exact closed_sh3 rfl rfl rfl) :
  bT P N rd all k (⟨some d,op,ty,pos,after,none⟩::rest) e σ0 news K:=fr h hc hd hk
theorem qy (hg:lg all e j=some (.bool b)) (h:bZ P rd op ty e (σ0++gZ (bY after) news) v (σ0++gZ (bY after) news)) (hd:Nat.blt d N=true) (hk:bT P N rd all (k+1) rest ((d,v)::e) σ0 news K)
  (hb:b=want:=by first|rfl|exact dW oA|exact bM oA|assumption|exact dW oO|exact bM oO) (hc:closed σ0.length v=true:=by first|rfl|exact bQ rfl|exact kW rfl|exact closed_sh3 rfl rfl rfl):bT P N rd all k (⟨some d,op,ty,pos,after,some (j,want)⟩::rest) e σ0 news K:=frG hg hb h hc hd hk
theorem abD (hg:lg all e j=some (.bool b)) (hd:Nat.blt d N=true) (hk:bT P N rd all (k+1) rest ((d,undef)::e) σ0 news K) (hb:b=!want:=by first|rfl|exact dW oA|exact bM oA|assumption|exact dW oO|exact bM oO) :
  bT P N rd all k (⟨some d,op,ty,pos,after,some (j,want)⟩::rest) e σ0 news K:=frS hg hb hd hk
end
def lM (lo hi:Int) (l:List Int):Int:=match (List.range l.length).find? (fun i=>decide (gi l i<lo∨gi l i > hi)) with|some i=>i|none=>-1
theorem sS {lo hi:Int} {l:List Int} {i:Nat} (hi':i<l.length) (h:gi l i<lo∨gi l i > hi) (hall:∀ j<i,¬ (gi l j<lo∨gi l j > hi)):lM lo hi l=i:=by
 have:(List.range l.length).find? (fun i=>decide (gi l i<lo∨gi l i > hi))=some i:=by
  rw [List.find?_range_eq_some]
  exact ⟨by simpa using h,by simpa using hi',fun j hj=>by simpa using hall j hj⟩
 simp only [lM,this]
theorem sU {lo hi:Int} {l:List Int} (hall:∀ j<l.length,¬ (gi l j<lo∨gi l j > hi)):lM lo hi l=-1:=by
 have:(List.range l.length).find? (fun i=>decide (gi l i<lo∨gi l i > hi))=none:=by
  rw [List.find?_eq_none]
  intro j hj
  simpa using hall j (oU hj)
 simp only [lM,this]
theorem vsub_fn2 {n:Nat} {π:Rho} {f:FuncId} {a b a' b':Value} (h1:jS n π a a') (h2:jS n π b b'):jS n π (.func (.func f) #[] #[a,b]) (.func (.func f) #[] #[a',b']):=by
 refine .func f _ _ _ _ rfl rfl (fun i h _=>by simp at h) (fun i h _=>?_)
 match i,h with
 |0,_=>exact h1
 |1,_=>exact h2
theorem Ns {lo hi:Int} {l:List Int}:lM lo hi l≥0↔∃ i<l.length,gi l i<lo∨gi l i > hi:=by
 constructor
 ·intro h
  refine Classical.byContradiction fun hn=>?_
  rw [sU fun j hj hb=>hn ⟨j,hj,hb⟩] at h
  omega
 ·rintro ⟨i,a,hb⟩
  unfold lM
  split
  ·omega
  ·rename_i h
   rw [List.find?_eq_none] at h
   have:=h i (oU a)
   simp at this;omega
theorem Sm (n:Nat) (a b:List Value):dR n (a++b)=(dR n a && dR n b):=by
 induction a with
 |nil=>simp [dR]
 |cons x a ih=>simp [dR,ih,Bool.and_assoc]
theorem aen (a b:List Value):okL (a++b)=(okL a && okL b):=by
 induction a with
 |nil=>simp [okL]
 |cons x a ih=>simp [okL,ih,Bool.and_assoc]
theorem dO {n i l c:Nat} (h:i<n):closed n (.s i l c)=true∧okV (.s i l c)=true:=by
 have:=VQ.slice (q:=false) (n:=n) (ρ:=fun k=>⟨k,0,0⟩) i 0 l c c (aD _) h
 exact ⟨sH this,MK this⟩
theorem fZ {σ:Heap} {b o:Nat} {cs vs cs':List Value} (h:σ[b]?=some (.rw cs)) (hl:o+vs.length≤cs.length) (h0:0<cs.length) (he:splice cs o vs=cs'):putCells σ b o vs=some (σ.set b (.rw cs')):=by
 have e1:Nat.ble (o+vs.length) cs.length=true:=fq hl
 have e2:Nat.blt 0 cs.length=true:=Nat.blt_eq.mpr h0
 simp only [putCells,h,e1,e2,Bool.and_self,cond_true,he]
def VA {α:Type} (f:Nat→α) (i:Nat) (a:α):Nat→α:=fun k=>if k=i then a else f k
theorem abE (r:Rho) (a b:List Value):yS r (a++b)=yS r a++yS r b:=by simp [Bg]
theorem Ph {r:Rho} {l:List Value} (h:dN l=true):yS r l=l:=by exact wo l h
def gn (l:List Nat) (i:Nat):Nat:=l.getD i 0
def gV (l:List Nat):List Value:=l.map fun (i:Nat)=>Value.int .i64 (Int.ofNat i)
theorem AL {l:List Nat} {i:Nat} (h:i<l.length):(gV l)[i]?=some (.i (gn l i:Int)):=by simp [gV,gn,h]
theorem pI (l:List Nat):dN (gV l)=true:=zf _ (fun _=>rfl) l
structure Hide (p:Prop):Prop where
 h:p
def someB (n:Nat) (p:Nat→Prop) [DecidablePred p]:Bool:=(List.range n).any fun i=>decide (p i)
theorem qH {n:Nat} {p:Nat→Prop} [DecidablePred p] {i:Nat} (hi:i<n) (h:p i):someB n p=true:=by
 simp only [someB,List.any_eq_true,List.mem_range,decide_eq_true_eq]
 exact ⟨i,hi,h⟩
theorem nP {n:Nat} {p:Nat→Prop} [DecidablePred p] (h:∀ i<n,¬ p i):someB n p=false:=by
 simp only [someB,List.any_eq_false,List.mem_range,decide_eq_true_eq]
 exact h
theorem JR {n:Nat} {p:Nat→Prop} [DecidablePred p] (h:¬ someB n p=true):∀ i<n,¬ p i:=by
 simpa [someB] using h
section
variable {n0:Nat} {σ:Heap} {e e2:Env}
theorem mD.all (σ2:Heap) (m:Nat) (l:List Nat) (hm:n0≤m) (hl:σ2.length=m+l.length) (hd:dG m l=true) (ho:DX σ σ2.length (fV m l) 0 σ2) (he:Fb σ2.length (fV m l) e e2):mD n0 σ σ2 e e2:=by
 refine .inr fun _=>⟨fV m l,⟨oO,fun i hi=>fJ oO,fun i o2 hi=>?_,fun i j oi oj hi hj _ _ a=>?_⟩,y9 he⟩
 ·have:=Fe ho i o2 hi
  rwa [bA] at this
 ·simp only [dG,aE,eo,decide_eq_true_eq] at hd
  have h1:=aQ hi
  have h2:=aQ hj
  have ge:∀ q,¬ q<m→q < σ2.length→∃ h:q - m<l.length,(fV m l q).b=l[q - m]∧m≤l[q - m]:=by
   intro q hq hq2
   have h:q - m<l.length:=oO
   refine ⟨h,?_,cA (hd.1 _ (cQ h))⟩
   simp only [fV]
   rw [if_neg hq,cC h]
  by_cases c:i<m <;> by_cases d:j<m
  ·rw [fJ c,fJ d] at a;exact a
  ·obtain ⟨h,e1,e2⟩:=ge j d h2
   rw [fJ c,e1] at a;simp only at a;omega
  ·obtain ⟨h,e1,e2⟩:=ge i c h1
   rw [fJ d,e1] at a;simp only at a;omega
  ·obtain ⟨h,e1,e2⟩:=ge i c h1
   obtain ⟨h',f,e2'⟩:=ge j d h2
   rw [e1,f] at a
   have:=(List.getElem_inj hd.2).1 a
   omega
theorem ql {n m i:Nat} {l:List Nat} {o:aB} (hi:i<m) (hmn:m≤n) (h:σ[i]?=some o) (hc:gq m o):yC σ n (fV m l) (fV m l i) o :=
 mW (fun _i hi=>fJ hi) hmn hi h hc
theorem Zc {n i j k sz q:Nat} {π:Rho} (hk:π i=⟨i,0,0⟩) (h:σ[i]?=some (.rw [eu j sz k])) (hq:q<n) (hj:π q=⟨j,0,0⟩):yC σ n π (π i) (.rw [eu q sz k]):=by
 refine .inr ⟨by rw [hk],[eu j sz k],.inl (by rw [hk];exact h),aD _,fun a ha ha'=>?_⟩
 have:a=0:=by simpa using ha
 subst this
 exact MS hq hj
theorem kU {P:Program} {N:Nat} {Q:Post} {mk:List Nat} {g:Operand} {ps:Array Tmp} {assign body:Code} {f:FuncId} {p q:List Value} [hc:GoFn P f] (hg:aP e g=some (.func (.func f) p.toArray q.toArray))
  (hcall:∀ L,L=aB.loop .ready none N e ps assign body→fB P f (p++[.func (.yield (σ.length+1)) #[] #[]]++q) (σ++[.dfr,L]) (fun _ σ2=>Js P n0 N Q e (σ.length::mk) (σ.length+1) σ2)) :
  bP P n0 N none (.rangeFunc g ps assign body) Q e mk σ:=GL hg (hcall _ rfl)
theorem Sr {P:Program} {n1 N' l:Nat} {body:Code} {QB:Post} {e1:Env} {mk1:List Nat} {σ1:Heap} {N2:Nat} {e2:Env} {ps2:Array Tmp} {as2 bd2:Code} {pend:Option Code} (h1:σ1[l]?=some (.loop .ready pend N2 e2 ps2 as2 bd2))
  (h2:bP P n1 N' (some l) body QB e1 mk1 (σ1.set l (.loop .busy pend N2 e2 ps2 as2 bd2))):dY P n1 N' l body QB .normal e1 mk1 σ1:=⟨_,_,_,_,_,_,h1,h2⟩
theorem yL {P:Program} {n0 N:Nat} {all rest:List Oper} {K:Env→List Nat→Heap→Prop} {d l:Nat} {e e1:Env} {mk mk1:List Nat} {σ2:Heap} {o:aB} (h1:σ2[l]?=some o) (h2:uN o=true) (h3:dA P n0 N none all rest K ((d,.bool true)::e) mk (σ2.set l (mZ .ready none o))) :
  fA P n0 N all rest K d l e mk .normal e1 mk1 σ2:=⟨o,h1,h2,h3⟩
theorem abG {P:Program} {n0 N:Nat} {all rest:List Oper} {K:Env→List Nat→Heap→Prop} {d l id:Nat} {e e1:Env} {mk mk1:List Nat} {σ2:Heap} {o:aB} (h1:σ2[l]?=some o) (h2:uN o=true) (h3:dA P n0 N none all rest K ((d,.bool false)::e) mk (σ2.set l (mZ .done (some (.exit id)) o))) :
  fA P n0 N all rest K d l e mk (.exit id) e1 mk1 σ2:=⟨o,h1,h2,h3⟩
theorem ret1 {P:Program} {σin:Heap} {rv:List ResultVar} {R:Value→Heap→Prop} {vs:List Value} {v2:Value} {σ2:Heap} {m:Nat} (hd:σ[m]?=some .dfr) (hr:uh P e (σ.set m .dead) rv vs) (href:aY σin (σ.set m .dead) (kL vs) v2 σ2) (hR:R v2 σ2) :
  jL P σin rv R .ret e [m] σ:=⟨by simp,fun i hi=>by rw [List.mem_singleton.1 hi];exact hd,vs,v2,σ2,hr,href,hR⟩
theorem VB {m:Nat}:∀ {e:Env},(∀ p ∈ e,closed m p.2=true∧okV p.2=true)→∀ t v,Env.get e t=some v→closed m v=true∧okV v=true:=fun h _t _v hv=>h _ (yZ hv)
end
theorem pJ {σ:Heap} {n j k:Nat} {π:Rho} {cs:List Value} (hk:π k=⟨j,0,0⟩) (h:σ[j]?=some (.rw cs)∨∃ t,σ[j]?=some (.gr cs t)) (hp:dN cs=true):yC σ n π (π k) (.rw cs) :=
 .inr ⟨by rw [hk],cs,by rw [hk];exact h,aD _,fun i hi _=>lT cs hp i hi⟩
theorem XP {n j:Nat}:fV n [j] n=⟨j,0,0⟩:=by simp [fV]
theorem agX {σin σ:Heap} {cs:List Value} {n j c:Nat} {v:Value} (hσ:σ.take σin.length=σin) (hp:dN cs=true) (hg:σ[j]?=some (.rw cs)∨∃ t,σ[j]?=some (.gr cs t)) (hj:Nat.ble σin.length j=true) (hv:plain v=true) (hc:n≤c) :
  aY σin σ (.tuple #[.s j n c,v]) (.tuple #[.s σin.length n n,v]) (σin++[.rw cs]):=by
 refine aY.src [.rw cs] [j] hσ rfl (by simp [dG,hj]) ⟨pJ XP hg hp,trivial⟩ ?_
 refine .tuple _ _ rfl fun i hi _=>?_
 match i,hi with
 |0,_=>exact lI oS XP hc
 |1,_=>exact aZ _ hv
theorem abH {σin σ:Heap} {v:Value} (hσ:σ.take σin.length=σin) (hv:plain v=true) :
  aY σin σ (.tuple #[.slice none 0 0,v]) (.tuple #[.s σin.length 0 0,v]) (σin++[.rw []]):=by
 refine aY.src [.rw []] [σin.length] hσ rfl (by simp [dG]) ⟨.inl rfl,trivial⟩ ?_
 refine .tuple _ _ rfl fun i hi _=>?_
 match i,hi with
 |0,_=>exact .emptySlice _ _ _ _
 |1,_=>exact aZ _ hv
theorem Sv {P:Program} {rd:Option Nat} {ty:TypeId} {e:Env} {σ:Heap} {x:Operand} {m:Int} {s d:TypeId} {k:IntKind} [Ik P s k] [Ik P d .i64] (hx:aP e x=some (.int k m)) (h1:-9223372036854775808≤m) (h2:m≤9223372036854775807) :
  bZ P rd (.convert s d x) ty e σ (.i m) σ:=by
 have:=QS (P:=P) (rd:=rd) (ty:=ty) (σ:=σ) (s:=s) (d:=d) hx
 rwa [wrap64 h1 h2] at this
theorem kM (l:List Int):(ints l).all (·.oneCell')=true:=by
 simp only [eo,ints,List.mem_map]
 rintro x ⟨y,_,rfl⟩
 rfl
structure St where
 long:Int
 short:Int
 off:Int
 lo:Int
 hi:Int
def St.cells (s:St):List Value:=[.int .i64 s.long,.int .i64 s.short,.int .i64 s.off,.int .i64 s.lo,.int .i64 s.hi]
def St.val (s:St):Value:=.agg #[.int .i64 s.long,.int .i64 s.short,.int .i64 s.off,.int .i64 s.lo,.int .i64 s.hi]
def fD (s:St):Prop:=s.short<1∨s.short > s.long∨s.long > 100000∨s.off<0∨s.off≥s.short∨s.lo<0∨s.lo > s.hi∨s.hi > 1000000000
instance (s:St):Decidable (fD s):=by unfold fD;infer_instance
def uw (l:List Int):Bool:=(List.range l.length).any fun i=>gi l i<1 || gi l i > 10000
theorem qm {l:List Int}:uw l=true↔∃ i<l.length,gi l i<1∨gi l i > 10000:=by simp [uw]
def iL (s:St) (l:List Int):Int :=
 if l.length<1∨l.length > 12 then 6 else if fD s then 2 else if uw l=true then 3 else 0
end Go.AH
namespace Go.Proofs.YtajpgeklmcjciaaGreat
open Go Go.AH
attribute [local irreducible] dA bP bT jL gX dQ fF bZ fB aY dY fA
theorem FD (s:St) (l:List Int) (c:Nat) :
  Ev Tryz.prog 64 [s.val,.s 0 l.length c] [.ro (ints l)] (.i (iL s l)) [.ro (ints l)]:=by
 refine aI 1 80 Tryz.func64 rfl rfl rfl rfl rfl ?_
 repeat' (first|refine sCm ?_|(refine gU ?_;first|(refine bW ?_;refine st (aJ rfl oR) rfl rfl ?_)|(refine kQ ?_;first|refine st (lu rfl (by first|rfl|exact dW oA) rfl) rfl rfl ?_|refine st (jK rfl (by exact bM oA) rfl) rfl rfl ?_))|(refine gG ?_;first|(refine kP ?_;refine stG rfl (by exact bM oA) (bV rfl) rfl rfl ?_)|(refine gFA ?_;refine stG rfl (by exact bM oA) (aW rfl) rfl rfl ?_)|(refine bW ?_;refine stG rfl (by exact bM oA) (aJ rfl oR) rfl rfl ?_)|(refine nK ?_;refine stG rfl (by exact bM oA) (fE rfl rfl rfl) rfl rfl ?_)|(refine wY ?_;refine stG rfl (by exact bM oA) (jC rfl) rfl rfl ?_)|refine stS rfl (by first|rfl|exact dW oA) rfl ?_|((fail_if_success (refine stGk rfl oR ?_));(refine Aa rfl ?_ ?_ <;> intro _)))|refine aG ?_|refine jc rfl oR ?_|(refine ji rfl ?_ ?_ <;> intro _))
 all_goals try
  refine dM (.tmp rfl .nil) (.plain rfl rfl) ⟨?_,rfl⟩
  simp only [kL,iL,fD]
  congr 1
  repeat' split
  all_goals first|rfl|omega
 refine jd (ι:=Nat) (fun i=>[(1,.s 0 l.length c),(5,.i (i:Int))]) (fun _=>[.ro (ints l),.rw s.cells]) (fun i=>l.length - i)
  (fun i=>i≤l.length∧∀ j<i,¬ (gi l j<1∨gi l j > 10000)) 0 oS (.same tE) ⟨oO,fun j h=>oO⟩ ?_
 intro i ⟨hi,a⟩
 have d:i<l.length→aH [.ro (ints l),.rw s.cells] 0 i=some (.i (gi l i)):=fun h=>ig h
 repeat' (first|refine sCm ?_|(refine gU ?_;first|(refine bW ?_;refine st (aJ rfl (by exact d oO)) rfl rfl ?_)|(refine kQ ?_;first|refine st (lu rfl (by exact dW oA) rfl) rfl rfl ?_|refine st (jK rfl (by exact bM oA) rfl) rfl rfl ?_)|(refine gIA ?_;refine st (iw rfl rfl oO) rfl rfl ?_))|(refine gG ?_;first|(refine kP ?_;refine stG rfl (by exact bM oA) (bV rfl) rfl rfl ?_)|(refine bW ?_;refine stG rfl (by exact bM oA) (aJ rfl (by exact d oO)) rfl rfl ?_)|(refine nK ?_;refine stG rfl (by exact bM oA) (fE rfl rfl rfl) rfl rfl ?_)|(refine gIA ?_;refine stG rfl (by exact bM oA) (iw rfl rfl oO) rfl rfl ?_)|refine stS rfl (by exact dW oA) rfl ?_|((fail_if_success (refine stGk rfl oR ?_));(refine Aa rfl ?_ ?_ <;> intro _)))|refine aG ?_|refine jc rfl oR ?_|(refine ji rfl ?_ ?_ <;> intro _))
 ·refine dM (.tmp rfl .nil) (.plain rfl rfl) ⟨?_,rfl⟩
  simp only [kL,iL]
  rw [if_neg oO,if_neg (by unfold fD;omega),if_pos (qm.2 ⟨i,oO,oO⟩)]
 ·refine dM (.tmp rfl .nil) (.plain rfl rfl) ⟨?_,rfl⟩
  simp only [kL,iL]
  rw [if_neg oO,if_neg (by unfold fD;omega),if_pos (qm.2 ⟨i,oO,oO⟩)]
 ·refine ⟨rfl,i+1,⟨oO,fun j hj=>?_⟩,oO,.same tE⟩
  by_cases e:j=i
  ·subst e;omega
  ·exact a j oO
 ·refine dM (.tmp rfl .nil) (.plain rfl rfl) ⟨?_,rfl⟩
  simp only [kL,iL]
  rw [if_neg oO,if_neg (by unfold fD;omega),if_neg]
  rw [qm]
  rintro ⟨j,hj,hb⟩
  exact a j oO hb
end Go.Proofs.YtajpgeklmcjciaaGreat
namespace Go.AH
open Go
end Go.AH
namespace Go.Proofs.YtajpgeklmcjciaaGreat
open Go Go.AH
attribute [local irreducible] dA bP bT jL gX dQ fF bZ fB aY dY fA
theorem VD (n lo hi:Int):Ev Tryz.prog 253 [.i n,.p 0,.p 1] [.ro [.i lo],.ro [.i hi]] (.bool (decide (n<lo∨n > hi))) [.ro [.i lo],.ro [.i hi]]:=by
 refine aI 2 13 Tryz.func253 rfl rfl rfl rfl rfl ?_
 repeat' (first|refine sCm ?_|(refine gU ?_;first|(refine bW ?_;refine st (aJ rfl oR) rfl rfl ?_)|(refine kQ ?_;first|refine st (lu rfl (by exact dW oA) rfl) rfl rfl ?_|refine st (jK rfl (by exact bM oA) rfl) rfl rfl ?_))|(refine gG ?_;first|(refine kP ?_;refine stG rfl (by exact bM oA) (bV rfl) rfl rfl ?_)|(refine bW ?_;refine stG rfl (by exact bM oA) (aJ rfl oR) rfl rfl ?_)|(refine nK ?_;refine stG rfl (by exact bM oA) (fE rfl rfl rfl) rfl rfl ?_)|refine stS rfl (by exact dW oA) rfl ?_|((fail_if_success (refine stGk rfl oR ?_));(refine Aa rfl ?_ ?_ <;> intro _)))|refine aG ?_)
 all_goals
  refine dM (.tmp rfl .nil) (.plain rfl rfl) ⟨?_,rfl⟩
  simp only [kL,Value.bool.injEq]
  (simp;omega)
theorem VE {σ:Heap} {n lo hi:Int} {a b:Nat} (ha:dP σ a [.i lo]) (hb:dP σ b [.i hi]) (hni:σ.all (fun o=>!aU o)=true) :
  Ev Tryz.prog 253 [.i n,.p a,.p b] σ (.bool (decide (n<lo∨n > hi))) σ :=
 Ev.arrs [[.i lo],[.i hi]] [a,b] (VD n lo hi) ⟨ha,hb,trivial⟩ ⟨.int _ _,by simpa [bsR] using VQ.ptr (q:=true) (n:=2) (ρ:=bsR [a,b]) 0 0 oO,by simpa [bsR] using VQ.ptr (q:=true) (n:=2) (ρ:=bsR [a,b]) 1 0 oO,trivial⟩ rfl rfl hni
theorem Pj (l:List Int) (lo hi:Int) (c:Nat) (hN:l.length≤1000000) :
  Ev Tryz.prog 102 [.s 0 l.length c,.func (.func 253) #[] #[.p 1,.p 2]] [.ro (ints l),.ro [.i lo],.ro [.i hi]] (.i (lM lo hi l)) [.ro (ints l),.ro [.i lo],.ro [.i hi]]:=by
 refine aI 3 19 Tryz.func102 rfl rfl rfl rfl rfl ?_
 repeat' (first|refine sCm ?_|refine aG ?_)
 refine jd (ι:=Nat) (fun i=>[(0,.s 0 l.length c),(1,.func (.func 253) #[] #[.p 1,.p 2]),(7,.i (l.length:Int)),(8,.i (i:Int))])
  (fun _=>[.ro (ints l),.ro [.i lo],.ro [.i hi]]) (fun i=>l.length - i) (fun i=>i≤l.length∧∀ j<i,¬ (gi l j<lo∨gi l j > hi)) 0 oS (.same tE) ⟨oO,fun j h=>oO⟩ ?_
 intro i ⟨hi',a⟩
 have e:i<l.length→aH [.ro (ints l),.ro [.i lo],.ro [.i hi]] 0 i=some (.i (gi l i)):=fun h=>ig h
 repeat' (first|refine sCm ?_|(refine gU ?_;first|(refine bW ?_;refine st (aJ rfl (by exact e oO)) rfl rfl ?_)|(refine gIA ?_;refine st (iw rfl rfl oO) rfl rfl ?_)|(refine eG ?_;refine st (bH rfl rfl rfl (by exact VE (by exact .inl rfl) (by exact .inl rfl) rfl)) rfl rfl ?_))|refine aG ?_|(refine ji rfl ?_ ?_ <;> intro _))
 ·refine dM (.tmp rfl .nil) (.plain rfl rfl) ⟨?_,rfl⟩
  simp only [kL]
  rw [sS oO oA a]
 ·refine ⟨rfl,i+1,⟨oO,fun j hj=>?_⟩,oO,.same tE⟩
  by_cases d:j=i
  ·subst d;assumption
  ·exact a j oO
 ·refine dM (.tmp rfl .nil) (.plain rfl rfl) ⟨?_,rfl⟩
  simp only [kL]
  rw [sU fun j hj=>a j oO]
theorem Pm {σ:Heap} {l:List Int} {lo hi:Int} {x a b c:Nat} (hx:dP σ x (ints l)) (ha:dP σ a [.i lo]) (hb:dP σ b [.i hi]) (hN:l.length≤1000000) (hni:σ.all (fun o=>!aU o)=true) :
  Ev Tryz.prog 102 [.s x l.length c,.func (.func 253) #[] #[.p a,.p b]] σ (.i (lM lo hi l)) σ :=
 Ev.arrs [ints l,[.i lo],[.i hi]] [x,a,b] (Pj l lo hi c hN) ⟨hx,ha,hb,trivial⟩
  ⟨by simpa [bsR] using VQ.slice (q:=true) (n:=3) (ρ:=bsR [x,a,b]) 0 0 l.length c c (aD _) oO,
   vsub_fn2 (by simpa [bsR] using VQ.ptr (q:=true) (n:=3) (ρ:=bsR [x,a,b]) 1 0 oO) (by simpa [bsR] using VQ.ptr (q:=true) (n:=3) (ρ:=bsR [x,a,b]) 2 0 oO),trivial⟩ (by simp [bC,dN,plain]) rfl hni
theorem Hy (l:List Int) (lo hi:Int) (c:Nat) (hN:l.length≤1000000) :
  Ev Tryz.prog 172 [.s 0 l.length c,.func (.func 253) #[] #[.p 1,.p 2]] [.ro (ints l),.ro [.i lo],.ro [.i hi]] (.bool (decide (lM lo hi l≥0))) [.ro (ints l),.ro [.i lo],.ro [.i hi]]:=by
 refine aI 3 9 Tryz.func172 rfl rfl rfl rfl rfl ?_
 repeat' (first|refine sCm ?_|(refine gU ?_;(refine eG ?_;refine st (bH rfl rfl rfl (by exact Pm (by exact .inl rfl) (by exact .inl rfl) (by exact .inl rfl) oO rfl)) rfl rfl ?_))|refine aG ?_)
 refine dM (.tmp rfl .nil) (.plain rfl rfl) ⟨?_,rfl⟩
 rfl
theorem Hz {σ:Heap} {l:List Int} {lo hi:Int} {x a b c:Nat} (hx:dP σ x (ints l)) (ha:dP σ a [.i lo]) (hb:dP σ b [.i hi]) (hN:l.length≤1000000) (hni:σ.all (fun o=>!aU o)=true) :
  Ev Tryz.prog 172 [.s x l.length c,.func (.func 253) #[] #[.p a,.p b]] σ (.bool (decide (lM lo hi l≥0))) σ :=
 Ev.arrs [ints l,[.i lo],[.i hi]] [x,a,b] (Hy l lo hi c hN) ⟨hx,ha,hb,trivial⟩
  ⟨by simpa [bsR] using VQ.slice (q:=true) (n:=3) (ρ:=bsR [x,a,b]) 0 0 l.length c c (aD _) oO,
   vsub_fn2 (by simpa [bsR] using VQ.ptr (q:=true) (n:=3) (ρ:=bsR [x,a,b]) 1 0 oO) (by simpa [bsR] using VQ.ptr (q:=true) (n:=3) (ρ:=bsR [x,a,b]) 2 0 oO),trivial⟩ (by simp [bC,dN,plain]) rfl hni
theorem Zd (l:List Int) (lo hi:Int) (c:Nat) (hN:l.length≤1000000) :
  Ev Tryz.prog 165 [.i lo,.i hi,.s 0 l.length c] [.ro (ints l)] (.bool (decide (¬ (lM lo hi l≥0)))) [.ro (ints l)]:=by
 refine aI 1 11 Tryz.func165 rfl rfl rfl rfl rfl ?_
 repeat' (first|refine sCm ?_|(refine gU ?_;first|(refine rV ?_;refine st (nU rfl) rfl rfl ?_)|(refine EX ?_;refine st (iO rfl rfl) rfl rfl ?_)|(refine eG ?_;refine st (bH rfl rfl rfl (by exact Hz (by exact .inl rfl) (by exact .inr (.inl rfl)) (by exact .inr (.inl rfl)) oO rfl)) rfl rfl ?_))|refine aG ?_)
 refine dM (.tmp rfl .nil) (.plain rfl rfl) ⟨?_,rfl⟩
 rfl
theorem FH {σ:Heap} {l:List Int} {lo hi:Int} {x c:Nat} (hx:dP σ x (ints l)) (hN:l.length≤1000000) (hni:σ.all (fun o=>!aU o)=true) :
  Ev Tryz.prog 165 [.i lo,.i hi,.s x l.length c] σ (.bool (decide (¬ (lM lo hi l≥0)))) σ :=
 Ev.arrs [ints l] [x] (Zd l lo hi c hN) ⟨hx,trivial⟩ ⟨.int _ _,.int _ _,by simpa [bsR] using VQ.slice (q:=true) (n:=1) (ρ:=bsR [x]) 0 0 l.length c c (aD _) oO,trivial⟩ (by simp [bC]) rfl hni
end Go.Proofs.YtajpgeklmcjciaaGreat
namespace Go.AH
theorem Sz {l:List Int}:lM 1 10000 l≥0↔uw l=true:=by rw [Ns,qm]
end Go.AH
namespace Go.Proofs.YtajpgeklmcjciaaGreat
open Go Go.AH
attribute [local irreducible] dA bP bT jL gX dQ fF bZ fB aY dY fA
theorem JU {σ:Heap} {a lo hi:Int} {x c:Nat} (hx:dP σ x [.i a]) (hni:σ.all (fun o=>!aU o)=true) :
  Ev Tryz.prog 165 [.i lo,.i hi,.s x 1 c] σ (.bool (decide (lo≤a∧a≤hi))) σ:=by
 have h:=FH (σ:=σ) (l:=[a]) (lo:=lo) (hi:=hi) (c:=c) hx oS hni
 have e:(¬ (lM lo hi [a]≥0))↔(lo≤a∧a≤hi):=by
  by_cases hb:a<lo∨a > hi
  ·rw [sS (l:=[a]) (i:=0) oS (by simpa [gi] using hb) (fun j hj=>oO)];simp;omega
  ·rw [sU (l:=[a]) (fun j hj=>by
                        have:j=0:=by simpa using hj
                        subst this;simpa [gi] using hb)];simp;omega
 simpa [e] using h
theorem C9 {σ:Heap} {a b lo hi:Int} {x c:Nat} (hx:dP σ x [.i a,.i b]) (hni:σ.all (fun o=>!aU o)=true) :
  Ev Tryz.prog 165 [.i lo,.i hi,.s x 2 c] σ (.bool (decide ((lo≤a∧a≤hi)∧lo≤b∧b≤hi))) σ:=by
 have h:=FH (σ:=σ) (l:=[a,b]) (lo:=lo) (hi:=hi) (c:=c) hx oS hni
 have e:(¬ (lM lo hi [a,b]≥0))↔((lo≤a∧a≤hi)∧lo≤b∧b≤hi):=by
  by_cases ha:a<lo∨a > hi
  ·rw [sS (l:=[a,b]) (i:=0) oS (by simpa [gi] using ha) (fun j hj=>oO)];simp;omega
  ·by_cases hb:b<lo∨b > hi
   ·rw [sS (l:=[a,b]) (i:=1) oS (by simpa [gi] using hb) (fun j hj=>by
                                                 have:j=0:=oO
                                                 subst this;simpa [gi] using ha)];simp;omega
   ·rw [sU (l:=[a,b]) (fun j hj=>by
     have:j=0∨j=1:=by simp at hj;omega
     rcases this with rfl|rfl
     ·simpa [gi] using ha
     ·simpa [gi] using hb)];simp;omega
 simpa [e] using h
theorem Dc:Ev Tryz.prog 246 [] [] (.agg #[.i 100001,.i (-1)]) []:=by
 refine aI 0 2 Tryz.func246 rfl rfl rfl rfl rfl ?_
 repeat' (first|refine sCm ?_|(refine gU ?_;first|(refine oQ ?_;refine st (iE oR rfl oR) rfl rfl ?_)|(refine dZ ?_;refine stN (bF rfl rfl rfl rfl oR) rfl ?_))|refine aG ?_)
 refine dM (.cellN inferInstance rfl rfl .nil) (.plain rfl rfl) ⟨rfl,rfl⟩
theorem FI (s:St) (l:List Int) (c:Nat) (hN:l.length≤1000000) (hr:-9223372036854775808≤s.short∧s.short≤9223372036854775807) :
  Ev Tryz.prog 162 [s.val,.s 0 l.length c] [.ro (ints l)] (.i (iL s l)) [.ro (ints l)]:=by
 refine aI 1 63 Tryz.func162 rfl rfl rfl rfl rfl ?_
 repeat' (first|refine sCm ?_|(refine gU ?_;first|(refine bW ?_;refine st (aJ rfl oR) rfl rfl ?_)|(refine kQ ?_;first|refine st (lu rfl (by first|rfl|exact dW oA) rfl) rfl rfl ?_|refine st (jK rfl (by exact bM oA) rfl) rfl rfl ?_)|(refine rV ?_;refine st (nU rfl) rfl rfl ?_)|(refine eG ?_;refine st (bH rfl rfl rfl (by first|exact C9 (by exact .inr (.inl rfl)) rfl|exact FH (by exact .inl rfl) oO rfl)) rfl rfl ?_)|(refine lV ?_;refine st (fO oR oR oR oR rfl oR) rfl rfl ?_))|(refine gG ?_;first|(refine kP ?_;refine stG rfl (by exact bM oA) (bV rfl) rfl rfl ?_)|(refine gFA ?_;refine stG rfl (by exact bM oA) (aW rfl) rfl rfl ?_)|(refine bW ?_;refine stG rfl (by exact bM oA) (aJ rfl oR) rfl rfl ?_)|(refine CJ ?_;refine stG rfl (by exact bM oA) (jB rfl rfl oO oO) rfl rfl ?_)|(refine nK ?_;refine stG rfl (by exact bM oA) (fE rfl rfl rfl) rfl rfl ?_)|(refine wY ?_;refine stG rfl (by exact bM oA) (jC rfl) rfl rfl ?_)|(refine rV ?_;refine stG rfl (by exact bM oA) (nU rfl) rfl rfl ?_)|(refine eG ?_;refine stG rfl (by exact bM oA) (bH rfl rfl rfl (by first|exact JU (by exact .inr (.inl rfl)) rfl|exact C9 (by exact .inr (.inl rfl)) rfl)) rfl rfl ?_)|(refine lV ?_;refine stG rfl (by exact bM oA) (fO oR oR oR oR rfl oR) rfl rfl ?_)|refine stS rfl (by first|rfl|exact dW oA) rfl ?_|((fail_if_success (refine stGk rfl oR ?_));(refine Aa rfl ?_ ?_ <;> intro _)))|refine aG ?_|refine jc rfl oR ?_|(refine ji rfl ?_ ?_ <;> intro _))
 all_goals
  refine dM (.tmp rfl .nil) (.plain rfl rfl) ⟨?_,rfl⟩
  simp only [kL,iL,← Sz]
  congr 1
  unfold fD
  repeat' split
  all_goals first|rfl|omega
theorem FK {σ:Heap} {s:St} {l:List Int} {x c:Nat} (hx:dP σ x (ints l)) (hN:l.length≤1000000) (hr:-9223372036854775808≤s.short∧s.short≤9223372036854775807) (hni:σ.all (fun o=>!aU o)=true) :
  Ev Tryz.prog 162 [s.val,.s x l.length c] σ (.i (iL s l)) σ :=
 Ev.arrs [ints l] [x] (FI s l c hN hr) ⟨hx,trivial⟩ ⟨aZ _ rfl,by simpa [bsR] using VQ.slice (q:=true) (n:=1) (ρ:=bsR [x]) 0 0 l.length c c (aD _) oO,trivial⟩ (by simp [bC]) rfl hni
theorem sV {σ:Heap} {s:St} {l:List Int} {x c:Nat} (hx:dP σ x (ints l)) (hni:σ.all (fun o=>!aU o)=true) :
  Ev Tryz.prog 64 [s.val,.s x l.length c] σ (.i (iL s l)) σ :=
 Ev.arrs [ints l] [x] (FD s l c) ⟨hx,trivial⟩ ⟨aZ _ rfl,by simpa [bsR] using VQ.slice (q:=true) (n:=1) (ρ:=bsR [x]) 0 0 l.length c c (aD _) oO,trivial⟩ (by simp [bC]) rfl hni
end Go.Proofs.YtajpgeklmcjciaaGreat
namespace Go.AH
open Go
def afN (p:Int×Int):List Value:=[.int .i64 p.1,.int .i64 p.2]
def nD (f:Nat→Int×Int):List Value:=(List.range 12).flatMap fun k=>afN (f k)
def outC (g:Nat→Int):List Value:=(List.range 12).map fun k=>.int .i64 (g k)
def dB (s:St) (tv:Value) (f:Nat→Int×Int) (g:Nat→Int):List Value:=s.cells++[tv]++nD f++outC g
theorem XQ {s:St} {tv:Value} {f:Nat→Int×Int} {g:Nat→Int}:∀ {i:Nat},i<12→(dB s tv f g)[6+i*2]?=some (.i (f i).1)
 |0,_=>rfl|1,_=>rfl|2,_=>rfl|3,_=>rfl|4,_=>rfl|5,_=>rfl|6,_=>rfl|7,_=>rfl|8,_=>rfl|9,_=>rfl|10,_=>rfl|11,_=>rfl
theorem abI {s:St} {tv:Value} {f:Nat→Int×Int} {g:Nat→Int}:∀ {i:Nat},i<12→(dB s tv f g)[30+i*1]?=some (.i (g i))
 |0,_=>rfl|1,_=>rfl|2,_=>rfl|3,_=>rfl|4,_=>rfl|5,_=>rfl|6,_=>rfl|7,_=>rfl|8,_=>rfl|9,_=>rfl|10,_=>rfl|11,_=>rfl
theorem SA {s:St} {tv:Value} {f:Nat→Int×Int} {g:Nat→Int} {a b:Int}:∀ {i:Nat},i<12→splice (dB s tv f g) (6+i*2) [.i a,.i b]=dB s tv (VA f i (a,b)) g
 |0,_=>rfl|1,_=>rfl|2,_=>rfl|3,_=>rfl|4,_=>rfl|5,_=>rfl|6,_=>rfl|7,_=>rfl|8,_=>rfl|9,_=>rfl|10,_=>rfl|11,_=>rfl
theorem Ej {s:St} {tv:Value} {f:Nat→Int×Int} {g:Nat→Int}:(dB s tv f g).length=42:=rfl
theorem qW (s:St):dN s.cells=true:=by simp [St.cells,dN,plain]
theorem pK (f:Nat→Int×Int):dN (nD f)=true:=by simp [nD,afN,List.range,List.range.loop,dN,plain]
theorem FM (g:Nat→Int):dN (outC g)=true:=by simp [outC,List.range,List.range.loop,dN,plain]
theorem jy {n:Nat} {s:St} {tv:Value} {f:Nat→Int×Int} {g:Nat→Int} (h1:closed n tv=true) (h2:okV tv=true):dR n (dB s tv f g)=true∧okL (dB s tv f g)=true:=by
 have a:=aX (n:=n) (qW s)
 have b:=aX (n:=n) (pK f)
 have c:=aX (n:=n) (FM g)
 simp only [dB,Sm,aen]
 exact ⟨by simp [a.1,b.1,c.1,dR,h1],by simp [a.2,b.2,c.2,okL,h2]⟩
def span (s:St) (n:Int):Int×Int:=(max s.short ((s.lo+n - 1).tdiv n+s.off),min s.long (s.hi.tdiv n - s.off))
def JV (s:St) (n:Int):Int×Int:=if (span s n).1≤(span s n).2 then span s n else (100001,-1)
def dS (s:St) (l:List Int) (i:Nat):Int×Int:=if i<l.length then JV s (gi l i) else (100001,-1)
end Go.AH
namespace Go.Proofs.YtajpgeklmcjciaaGreat
open Go Go.AH
attribute [local irreducible] dA bP bT jL gX dQ fF bZ fB aY dY fA
theorem VF (s:St) (l:List Int) (c:Nat) (h12:l.length≤12) (hs:¬ fD s) (ht:uw l=false) :
  Ev Tryz.prog 163 [s.val,.s 0 l.length c] [.ro (ints l)] (.p 1) [.ro (ints l),.rw (dB s (.s 0 l.length c) (dS s l) fun _=>0)]:=by
 refine aI 1 72 Tryz.func163 rfl rfl rfl rfl rfl ?_
 repeat' (first|(refine gU ?_;first|(refine kP ?_;refine st (bV rfl) rfl rfl ?_)|(refine pW ?_;refine st (iZ rfl) rfl rfl ?_)|(refine bW ?_;refine st (bD rfl oR) rfl rfl ?_)|(refine oQ ?_;refine st (iE oR rfl oR) rfl rfl ?_)|(refine gBox ?_;refine st (Ou rfl) rfl rfl ?_))|refine zU ?_|refine aG ?_|refine l9 ?_|refine uX ?_|refine tY ?_)
 unfold fD at hs
 have v:∀ i<l.length,1≤gi l i∧gi l i≤10000:=fun i hi=>by
  have:¬ (gi l i<1∨gi l i > 10000):=fun hb=>by rw [qm.2 ⟨i,hi,hb⟩] at ht;cases ht
  omega
 refine jd (ι:=Nat) (fun i=>[(1,.s 0 l.length c),(2,.p 1),(5,.p 2),(15,.i (i:Int))])
  (fun i=>[.ro (ints l),.rw s.cells,.rw (dB s (.s 0 l.length c) (fun k=>if k<i then (100001,-1) else (0,0)) fun _=>0)]) (fun i=>12 - i) (fun i=>i≤12) 0 oS
  (.same tE) oO ?_
 ·intro i hi
  have g:i<12→putCells [.ro (ints l),.rw s.cells,.rw (dB s (.s 0 l.length c) (fun k=>if k<i then (100001,-1) else (0,0)) fun _=>0)] 2 (6+i*2) [.i 100001,.i (-1)] =
    some [.ro (ints l),.rw s.cells,.rw (dB s (.s 0 l.length c) (fun k=>if k<i+1 then (100001,-1) else (0,0)) fun _=>0)]:=fun h=>by
   refine fZ rfl (by rw [Ej];simp;omega) (by rw [Ej];omega) ?_
   rw [SA h]
   congr 1
   funext k
   simp only [VA]
   by_cases hk:k=i <;> by_cases f:k<i <;> simp [hk,f] <;> omega
  repeat' (first|(refine gU ?_;first|(refine kP ?_;refine st (bV rfl) rfl rfl ?_)|(refine pW ?_;refine st (iZ rfl) rfl rfl ?_)|(refine yD ?_;refine st (uJ rfl rfl oO) rfl rfl ?_)|(refine nK ?_;refine st (fE rfl rfl rfl) rfl rfl ?_)|(refine wY ?_;refine st (jC rfl) rfl rfl ?_)|(refine dZ ?_;refine stN (bF rfl rfl rfl rfl (by exact g oO)) rfl ?_))|(refine fU ?_;first|(refine jM ?_;refine fr (bV rfl) oR rfl ?_)|(refine fFA ?_;refine fr (aW rfl) oR rfl ?_)|(refine Oz ?_;refine fr (kE rfl) oR rfl ?_)|(refine fIA ?_;refine fr (ng rfl rfl oO) oR rfl ?_)|(refine qR ?_;refine fr (bH rfl rfl rfl (by exact Ev.nil Dc rfl rfl rfl)) oR rfl ?_))|(refine gu ⟨oK,?_⟩)|refine zU ?_|refine aG ?_|refine dI oK rfl ?_|refine l9 ?_|refine uX ?_|refine YH ?_|refine wX ?_|refine CG rfl ?_|refine Ci ?_|refine zT ?_|refine tY ?_|(refine ji rfl ?_ ?_ <;> intro _))
  ·exact ⟨rfl,i+1,oO,oO,.same tE⟩
  ·obtain rfl:i=12:=oO
   refine jd (ι:=Nat) (fun i=>[(2,.p 1),(5,.p 2),(25,.s 0 l.length c),(26,.i (l.length:Int)),(27,.i (i:Int))])
    (fun i=>[.ro (ints l),.rw s.cells,.rw (dB s (.s 0 l.length c) (fun k=>if k<i then dS s l k else (100001,-1)) fun _=>0)]) (fun i=>l.length - i) (fun i=>i≤l.length) 0 oS
    (.same tE) oO ?_
   intro i hi
   have u:i<l.length→aH [.ro (ints l),.rw s.cells,.rw (dB s (.s 0 l.length c) (fun k=>if k<i then dS s l k else (100001,-1)) fun _=>0)] 0 i=some (.i (gi l i)):=fun h=>ig h
   have d:=v i
   have hq1:i<l.length→0≤(s.lo+gi l i - 1).tdiv (gi l i):=fun h=>by
    have:=Int.tdiv_nonneg (a:=s.lo+gi l i - 1) (b:=gi l i) (by have:=d h;omega) (by have:=d h;omega);omega
   have hq2:i<l.length→(s.lo+gi l i - 1).tdiv (gi l i)≤2000000000:=fun h=>by
    have:=Int.tdiv_le_self (a:=s.lo+gi l i - 1) (gi l i) (by have:=d h;omega);have:=d h;omega
   have hq3:i<l.length→0≤s.hi.tdiv (gi l i):=fun h=>by
    have:=Int.tdiv_nonneg (a:=s.hi) (b:=gi l i) oO (by have:=d h;omega);omega
   have hq4:i<l.length→s.hi.tdiv (gi l i)≤2000000000:=fun h=>by
    have:=Int.tdiv_le_self (a:=s.hi) (gi l i) oO;omega
   have hf:∀ h:i<l.length,VA (fun k=>if k<i then dS s l k else (100001,-1)) i (dS s l i)=fun k=>if k<i+1 then dS s l k else (100001,-1):=fun h=>by
    funext k
    simp only [VA]
    by_cases hk:k=i
    ·subst hk;simp
    ·by_cases f:k<i
     ·simp [hk,f,show k<i+1 by omega]
     ·simp [hk,f,show ¬ k<i+1 by omega]
   have g:(i<l.length∧max s.short ((s.lo+gi l i - 1).tdiv (gi l i)+s.off)≤min s.long (s.hi.tdiv (gi l i) - s.off)) →
     putCells [.ro (ints l),.rw s.cells,.rw (dB s (.s 0 l.length c) (fun k=>if k<i then dS s l k else (100001,-1)) fun _=>0),
      .rw [.i (max s.short ((s.lo+gi l i - 1).tdiv (gi l i)+s.off)),.i (min s.long (s.hi.tdiv (gi l i) - s.off))]] 2 (6+i*2)
      [.i (max s.short ((s.lo+gi l i - 1).tdiv (gi l i)+s.off)),.i (min s.long (s.hi.tdiv (gi l i) - s.off))] =
     some [.ro (ints l),.rw s.cells,.rw (dB s (.s 0 l.length c) (fun k=>if k<i+1 then dS s l k else (100001,-1)) fun _=>0),
      .rw [.i (max s.short ((s.lo+gi l i - 1).tdiv (gi l i)+s.off)),.i (min s.long (s.hi.tdiv (gi l i) - s.off))]]:=fun ⟨h,hb⟩=>by
    refine fZ rfl (by rw [Ej];simp;omega) (by rw [Ej];omega) ?_
    rw [SA oO,← hf h]
    have:dS s l i=(max s.short ((s.lo+gi l i - 1).tdiv (gi l i)+s.off),min s.long (s.hi.tdiv (gi l i) - s.off)):=by
     simp only [dS,if_pos h,JV,span]
     exact if_pos hb
    rw [this]
   have o:∀ i,fP 3 [.ro (ints l),.rw s.cells,.rw (dB s (.s 0 l.length c) (fun k=>if k<i then dS s l k else (100001,-1)) fun _=>0)]:=fun i =>
    ⟨aX (bC l),aX (qW s),jy (tv:=.s 0 l.length c) (dO oO).1 (dO (n:=3) (i:=0) oO).2,trivial⟩
   repeat' (first|(refine gU ?_;first|(refine kP ?_;refine st (bV rfl) rfl rfl ?_)|(refine pW ?_;refine st (iZ rfl) rfl rfl ?_)|(refine gFA ?_;refine st (aW rfl) rfl rfl ?_)|(refine bW ?_;refine st (aJ rfl (by first|rfl|exact u oO)) rfl rfl ?_)|(refine yD ?_;first|refine st (uJ rfl rfl oO) rfl rfl ?_|refine st (kK rfl rfl oO oO) rfl rfl ?_)|(refine CJ ?_;refine st (jB rfl rfl oO oO) rfl rfl ?_)|(refine nK ?_;first|refine st (fE rfl rfl rfl) rfl rfl ?_|refine st (Ak rfl rfl oO oO oO) rfl rfl ?_)|(refine gIA ?_;refine st (iw rfl rfl oO) rfl rfl ?_)|(refine dZ ?_;refine stN (bF rfl rfl rfl rfl (by first|rfl|exact g oO)) rfl ?_))|(refine fU ?_;first|(refine jM ?_;refine fr (bV rfl) oR rfl ?_)|(refine fFA ?_;refine fr (aW rfl) oR rfl ?_)|(refine gY ?_;first|refine fr (aJ rfl oR) oR rfl ?_|refine fr (bD rfl oR) oR rfl ?_)|(refine fAdd ?_;refine fr (kK rfl rfl oO oO) oR rfl ?_)|(refine fSub ?_;refine fr (jB rfl rfl oO oO) oR rfl ?_)|(refine EZ ?_;refine fr (Ak rfl rfl oO oO oO) oR rfl ?_)|(refine Oz ?_;refine fr (kE rfl) oR rfl ?_)|(refine fIA ?_;refine fr (ng rfl rfl oO) oR rfl ?_)|(refine fMax ?_;refine fr (CB rfl rfl) oR rfl ?_)|(refine UO ?_;refine fr (sG rfl rfl) oR rfl ?_)|(refine E5 ?_;refine fr (iE oR rfl oR) oR rfl ?_)|(refine Ae ?_;refine fr1 (lU rfl) rfl rfl rfl ?_))|(refine gu ⟨oK,?_⟩)|refine zU ?_|refine aG ?_|refine dI oK rfl ?_|refine l9 ?_|refine uX ?_|refine YH ?_|refine wX ?_|refine CG rfl ?_|refine Ci ?_|refine zT ?_|refine MH ?_|refine tY ?_|(refine ji rfl ?_ ?_ <;> intro _))
   ·exact ⟨rfl,i+1,oO,oO,.drop _ [_] (cA rfl) (o _) ⟨⟨rfl,rfl,rfl⟩,⟨rfl,rfl,rfl⟩,⟨rfl,dO (Nat.blt_eq.mp rfl)⟩,⟨rfl,rfl,rfl⟩,⟨rfl,rfl,rfl⟩,trivial⟩⟩
   ·rename_i hlt hb
    have e:i<l.length:=oO
    have r:dS s l i=(100001,-1):=by
     simp only [dS,if_pos e,JV,span]
     exact if_neg hb
    have j:(fun k=>if k<i+1 then dS s l k else ((100001,-1):Int×Int))=fun k=>if k<i then dS s l k else (100001,-1):=by
     rw [← hf e,r]
     funext k
     simp only [VA]
     by_cases hk:k=i <;> simp [hk]
    refine ⟨rfl,i+1,oO,oO,?_⟩
    rw [j]
    exact .drop _ [_] (cA rfl) (o _) ⟨⟨rfl,rfl,rfl⟩,⟨rfl,rfl,rfl⟩,⟨rfl,dO (Nat.blt_eq.mp rfl)⟩,⟨rfl,rfl,rfl⟩,⟨rfl,rfl,rfl⟩,trivial⟩
   ·obtain rfl:i=l.length:=oO
    have j:(fun k=>if k<l.length then dS s l k else ((100001,-1):Int×Int))=dS s l:=by
     funext k
     by_cases hk:k<l.length <;> simp [hk,dS]
    rw [j]
    refine dM (.tmp rfl .nil) (.src [_] [2] rfl rfl rfl ⟨yH (m:=1) rfl (.inl rfl) (fun i hi=>fJ hi) (cA rfl) (jy (n:=1) (tv:=.s 0 l.length c) (dO oO).1 (dO (n:=1) (i:=0) oO).2).1 (jy (n:=1) (tv:=.s 0 l.length c) (dO oO).1 (dO (n:=1) (i:=0) oO).2).2,trivial⟩ ?_) ⟨rfl,rfl⟩
    have:=VQ.ptr (q:=true) (n:=2) (ρ:=fV 1 [2]) 1 0 oO
    exact this
end Go.Proofs.YtajpgeklmcjciaaGreat
namespace Go.AH
open Go
theorem JW {r:Rho} {s:St} {tv:Value} {f:Nat→Int×Int} {g:Nat→Int}:yS r (dB s tv f g)=dB s (ren r tv) f g:=by
 simp only [dB,abE,Ph (qW s),Ph (pK f),Ph (FM g)]
 rfl
end Go.AH
namespace Go.Proofs.YtajpgeklmcjciaaGreat
open Go Go.AH
attribute [local irreducible] dA bP bT jL gX dQ fF bZ fB aY dY fA
theorem VG {σ:Heap} {s:St} {l:List Int} {x c:Nat} (hx:dP σ x (ints l)) (h12:l.length≤12) (hs:¬ fD s) (ht:uw l=false) (hni:σ.all (fun o=>!aU o)=true) :
  Ev Tryz.prog 163 [s.val,.s x l.length c] σ (.p σ.length) (σ++[.rw (dB s (.s x l.length c) (dS s l) fun _=>0)]):=by
 refine Ev.arrsN [ints l] [x] (VF s l c h12 hs ht) ⟨hx,trivial⟩ ⟨aZ _ rfl,by simpa [bsR] using VQ.slice (q:=true) (n:=1) (ρ:=bsR [x]) 0 0 l.length c c (aD _) oO,trivial⟩ (by simp [bC]) rfl ?_ ?_ hni
 ·simp [ren,shf]
 ·simp only [cG,dz,CS,JW]
  simp [ren,shf,bsR]
theorem nR {s:St} {l:List Int} (h:iL s l=0):l.length≤12∧1≤l.length∧¬ fD s∧uw l=false:=by
 unfold iL at h
 split at h
 ·omega
 ·split at h
  ·omega
  ·split at h
   ·omega
   ·rename_i h1 h2 h3
    exact ⟨oO,oO,h2,by simpa using h3⟩
theorem abJ {A B:Prop} (k:B) (h:Hide B→A:=by intro h_k_;(repeat' (first|refine sCm ?_|(refine gU ?_;first|(refine bW ?_;refine st (bD rfl (by rfl)) rfl rfl ?_)|(refine eG ?_;refine st (bH rfl rfl rfl (by first|exact FK (by exact .inl rfl) (by assumption) (by assumption) rfl|exact VG (by exact .inl rfl) (by assumption) (by assumption) (by assumption) rfl)) rfl rfl ?_))|refine aG ?_|refine jc rfl (by first|rfl|exact dW (by assumption)) ?_|refine iM rfl (by first|rfl|exact bM (by omega)) ?_));exact h_k_.h):A:=h ⟨k⟩
theorem abK (s:St) (l:List Int) (c:Nat) (hN:l.length≤1000000) (hr:-9223372036854775808≤s.short∧s.short≤9223372036854775807) (h:iL s l ≠ 0) :
  Ev Tryz.prog 69 [s.val,.s 0 l.length c] [.ro (ints l)] (.tuple #[.pointer none,.i (iL s l)]) [.ro (ints l)]:=by
 refine aI 1 16 Tryz.func69 rfl rfl rfl rfl rfl ?_
 refine abJ ?_
 refine dM (.tmp rfl (.tmp rfl .nil)) (.plain rfl rfl) ⟨rfl,rfl⟩
theorem aeo (s:St) (l:List Int) (c:Nat) (hr:-9223372036854775808≤s.short∧s.short≤9223372036854775807) (h:iL s l=0) :
  Ev Tryz.prog 69 [s.val,.s 0 l.length c] [.ro (ints l)] (.tuple #[.p 1,.i 0]) [.ro (ints l),.rw (dB s (.s 0 l.length c) (dS s l) fun _=>0)]:=by
 obtain ⟨h12,h1,hs,ht⟩:=nR h
 have hN:l.length≤1000000:=oO
 refine aI 1 16 Tryz.func69 rfl rfl rfl rfl rfl ?_
 refine abJ ?_
 refine dM (.tmp rfl (.tmp rfl .nil)) (.src [_] [2] rfl rfl rfl ⟨yH (m:=1) rfl (.inl rfl) (fun i hi=>fJ hi) (cA rfl) (jy (n:=1) (tv:=.s 0 l.length c) (dO oO).1 (dO (n:=1) (i:=0) oO).2).1 (jy (n:=1) (tv:=.s 0 l.length c) (dO oO).1 (dO (n:=1) (i:=0) oO).2).2,trivial⟩ ?_) ⟨rfl,rfl⟩
 refine .tuple _ _ rfl fun i hi _=>?_
 match i,hi with
 |0,_=>exact VQ.ptr (q:=true) (n:=2) (ρ:=fV 1 [2]) 1 0 oO
 |1,_=>exact .int _ _
def rkV (l:List Int) (t c:Nat):Value:=.slice (some ⟨t,0,none⟩) l.length c
theorem agZ (s:St) (l:List Int) (c:Nat) (f:Nat→Int×Int) (g:Nat→Int) (i:Nat) (hi:i<12) :
  Ev Tryz.prog 286 [.i (i:Int),.p 2] [.ro (ints l),.ro (dB s (rkV l 0 c) f g),.ro [.p 1]] (.i (f i).1)
   [.ro (ints l),.ro (dB s (rkV l 0 c) f g),.ro [.p 1]]:=by
 refine aI 3 11 Tryz.func286 rfl rfl rfl rfl rfl ?_
 have a:i<12→aH [.ro (ints l),.ro (dB s (rkV l 0 c) f g),.ro [.p 1]] 1 (6+i*2)=some (.i (f i).1):=fun h=>XQ h
 repeat' (first|refine sCm ?_|(refine gU ?_;first|(refine bW ?_;refine st (aJ rfl (by first|rfl|exact a oO)) rfl rfl ?_)|(refine gIA ?_;refine st (ng rfl rfl oO) rfl rfl ?_))|refine aG ?_)
 refine dM (.tmp rfl .nil) (.plain rfl rfl) ⟨?_,rfl⟩
 rfl
end Go.Proofs.YtajpgeklmcjciaaGreat
namespace Go.AH
open Go
def fK (key:Nat→Int) (l:List Nat):Nat→Int
 |0=>-1
 |n+1=>if fK key l n<0∨key (gn l n)<key (gn l (fK key l n).toNat) then (n:Int) else fK key l n
theorem wL (key:Nat→Int) (l:List Nat):∀ n:Nat,-1≤fK key l n∧fK key l n<n
 |0=>by simp [fK]
 |n+1=>by
  have:=wL key l n
  simp only [fK]
  split <;> omega
theorem VH (key:Nat→Int) (l:List Nat) {n:Nat} (h:0<n):0≤fK key l n:=by
 obtain ⟨n,rfl⟩:∃ k,n=k+1:=⟨n - 1,oO⟩
 simp only [fK]
 split <;> omega
end Go.AH
namespace Go.Proofs.YtajpgeklmcjciaaGreat
open Go Go.AH
attribute [local irreducible] dA bP bT jL gX dQ fF bZ fB aY dY fA
theorem gJ.app {n:Nat} {π:Rho} {a a' b b':List Value} (h1:gJ n π a a') (h2:gJ n π b b'):gJ n π (a++b) (a'++b'):=by
 refine ⟨by simp [h1.1,h2.1],fun j h h'=>?_⟩
 by_cases hj:j<a.length
 ·rw [eW hj,eW (by have:=h1.1;omega)];exact h1.2 j hj _
 ·simp only [aR] at h h'
  have:=h1.1
  rw [eV oO,eV oO]
  have:=h2.2 (j - a.length) oO oO
  simpa [h1.1] using this
theorem gJ.plain {n:Nat} {π:Rho} {a:List Value} (h:dN a=true):gJ n π a a:=⟨rfl,fun j hj _=>lT a h j hj⟩
theorem gJ.one {n:Nat} {π:Rho} {v v':Value} (h:jS n π v v'):gJ n π [v] [v']:=by
 refine ⟨rfl,fun j hj _=>?_⟩
 have:j=0:=by simpa using hj
 subst this;exact h
theorem wM {n:Nat} {π:Rho} {s:St} {tv tv':Value} {f:Nat→Int×Int} {g:Nat→Int} (h:jS n π tv tv'):gJ n π (dB s tv f g) (dB s tv' f g) :=
 gJ.app (gJ.app (gJ.app (gJ.plain (qW s)) (gJ.one h)) (gJ.plain (pK f))) (gJ.plain (FM g))
theorem ag0 {σ:Heap} {s:St} {l:List Int} {c:Nat} {f:Nat→Int×Int} {g:Nat→Int} {i t r x:Nat} (hi:i<12) (ht:dP σ t (ints l)) (hr:dP σ r (dB s (rkV l t c) f g)) (hx:dP σ x [.p r])
  (hni:σ.all (fun o=>!aU o)=true):Ev Tryz.prog 286 [.i (i:Int),.p x] σ (.i (f i).1) σ:=by
 exact Ev.arrsP [ints l,dB s (rkV l 0 c) f g,[.p 1]] [(t,ints l),(r,dB s (rkV l t c) f g),(x,[.p r])] (agZ s l c f g i hi)
  ⟨⟨ht,gJ.plain (bC l)⟩,⟨hr,wM (by simpa [bsR,rkV] using VQ.slice (q:=true) (n:=3) (ρ:=bsR [t,r,x]) 0 0 l.length c c (aD _) oO)⟩,⟨hx,gJ.one (by simpa [bsR] using VQ.ptr (q:=true) (n:=3) (ρ:=bsR [t,r,x]) 1 0 oO)⟩,trivial⟩
  ⟨.int _ _,by simpa [bsR] using VQ.ptr (q:=true) (n:=3) (ρ:=bsR [t,r,x]) 2 0 oO,trivial⟩ rfl hni
end Go.Proofs.YtajpgeklmcjciaaGreat
namespace Go.AH
open Go
abbrev nw:Int×Int:=(100001,-1)
def Cov (f:Nat→Int×Int) (n:Nat) (x:Int):Prop:=∃ i<n,(f i).1≤x∧x≤(f i).2
def Em (f:Nat→Int×Int) (n:Nat) (short long r:Int):Prop :=
 (r=-1∧∀ x,short≤x→x≤long→Cov f n x)∨(short≤r∧r≤long∧¬ Cov f n r∧∀ x,r<x→x≤long→Cov f n x)
theorem Em.uniq {f:Nat→Int×Int} {n:Nat} {short long r r':Int} (_hs:0≤short) (h:Em f n short long r) (h':Em f n short long r'):r=r':=by
 rcases h with ⟨rfl,h⟩|⟨h1,h2,h3,h4⟩ <;> rcases h' with ⟨rfl,h'⟩|⟨g1,g2,g3,g4⟩
 ·rfl
 ·exact absurd (h _ g1 g2) g3
 ·exact absurd (h' _ h1 h2) h3
 ·rcases Int.lt_trichotomy r r' with hl|hl|hl
  ·exact absurd (h4 _ hl g2) g3
  ·exact hl
  ·exact absurd (g4 _ hl h2) h3
def covB (f:Nat→Int×Int) (n:Nat) (x:Int):Bool:=(List.range n).any fun i=>decide ((f i).1≤x) && decide (x≤(f i).2)
theorem SB {f:Nat→Int×Int} {n:Nat} {x:Int}:covB f n x=true↔Cov f n x:=by simp [covB,Cov]
def Pn (f:Nat→Int×Int) (x:Int):Nat→Int
 |0=>x+1
 |n+1=>if (f n).1≤x∧x≤(f n).2 then min (Pn f x n) (f n).1 else Pn f x n
theorem XR {f:Nat→Int×Int} {x:Int}:∀ {n:Nat},Pn f x n≤x+1∧(∀ i<n,(f i).1≤x→x≤(f i).2→Pn f x n≤(f i).1)∧(Pn f x n=x+1∨∃ i<n,(f i).1=Pn f x n∧(f i).1≤x∧x≤(f i).2)
 |0=>⟨dE _,fun i h=>oO,.inl rfl⟩
 |n+1=>by
  obtain ⟨h1,h2,h3⟩:=XR (f:=f) (x:=x) (n:=n)
  simp only [Pn]
  split
  ·rename_i h
   refine ⟨oO,fun i hi a b=>?_,?_⟩
   ·by_cases c:i=n
    ·subst c;omega
    ·have:=h2 i oO a b;omega
   ·rcases h3 with h3|⟨i,hi,h3,h4⟩
    ·exact .inr ⟨n,oO,oO,h⟩
    ·by_cases hc:Pn f x n≤(f n).1
     ·exact .inr ⟨i,oO,oO,h4⟩
     ·exact .inr ⟨n,oO,oO,h⟩
  ·rename_i h
   refine ⟨h1,fun i hi a b=>?_,?_⟩
   ·by_cases c:i=n
    ·subst c;exact absurd ⟨a,b⟩ h
    ·exact h2 i oO a b
   ·rcases h3 with h3|⟨i,hi,h3⟩
    ·exact .inl h3
    ·exact .inr ⟨i,oO,h3⟩
def XT (f:Nat→Int×Int) (n:Nat) (short:Int):Nat→Int→Int
 |0,_=>-1
 |k+1,x=>if x<short then -1 else if covB f n x=true then XT f n short k (Pn f x n - 1) else x
def aep (f:Nat→Int×Int) (n:Nat) (short long:Int):Int:=XT f n short (long - short+1).toNat long
theorem SC {f:Nat→Int×Int} {n:Nat} {short long:Int}:∀ (k:Nat) (x:Int),x≤long→x<short+k→(∀ y,x<y→y≤long→Cov f n y)→Em f n short long (XT f n short k x)
 |0,x,hx,hk,h=>.inl ⟨rfl,fun y h1 h2=>h y oO h2⟩
 |k+1,x,hx,hk,h=>by
  simp only [XT]
  split
  ·exact .inl ⟨rfl,fun y h1 h2=>h y oO h2⟩
  ·split
   ·rename_i h1 h2
    obtain ⟨a1,a2,a3⟩:=XR (f:=f) (x:=x) (n:=n)
    obtain ⟨i,hi,c1,c2⟩:=SB.1 h2
    have hle:=a2 i hi c1 c2
    refine SC k _ oO oO fun y hy c=>?_
    by_cases a:x<y
    ·exact h y a c
    ·rcases a3 with a3|⟨j,hj,b1,b2,b3⟩
     ·omega
     ·exact ⟨j,hj,oO,oO⟩
   ·rename_i h1 h2
    exact .inr ⟨oO,hx,fun hc=>h2 (SB.2 hc),h⟩
theorem Po {f:Nat→Int×Int} {n:Nat} {short long:Int} (h:short≤long):Em f n short long (aep f n short long) :=
 SC _ _ (dE _) oO fun y h1 h2=>by omega
def jU (l:ny):List (Int×Int):=l.map (·.1)
theorem abL (l:ny) (k:Int×Int) (v:Value):jU (mF l k v)=if k ∈ jU l then jU l else jU l++[k]:=by
 unfold mF
 cases hf:(l.map (·.1)).findIdx? (fun q=>decide (k=q)) with
 |none =>
  have:k ∉ jU l:=fun hk=>by
   rw [List.findIdx?_eq_none_iff] at hf
   have:=hf k hk
   simp at this
  rw [if_neg this];simp [jU]
 |some j =>
  obtain ⟨h1,h2,h3⟩:=List.findIdx?_eq_some_iff_getElem.1 hf
  have hk:k=(jU l)[j]:=of_decide_eq_true h2
  have:k ∈ jU l:=by rw [hk];exact cQ h1
  rw [if_pos this]
  simp only [jU,List.map_set]
  refine List.ext_getElem oS fun i h4 h5=>?_
  rw [List.getElem_set]
  split
  ·rename_i a;subst a;exact hk
  ·rfl
theorem BU {l:ny} {k p:Int×Int} (hn:(jU l).Nodup):p ∈ jU (nZ l k)↔p ∈ jU l∧p ≠ k:=by
 unfold nZ
 cases hf:(l.map (·.1)).findIdx? (fun q=>decide (k=q)) with
 |none =>
  have:k ∉ jU l:=fun hk=>by
   rw [List.findIdx?_eq_none_iff] at hf
   have:=hf k hk
   simp at this
  exact ⟨fun h=>⟨h,fun d=>this (d ▸ h)⟩,fun h=>h.1⟩
 |some j =>
  obtain ⟨h1,h2,h3⟩:=List.findIdx?_eq_some_iff_getElem.1 hf
  have hk:k=(jU l)[j]:=of_decide_eq_true h2
  have e:jU (l.eraseIdx j)=(jU l).eraseIdx j:=by simp [jU,List.eraseIdx_eq_take_drop_succ,List.map_take,List.map_drop]
  simp only [e]
  have h1':j<(jU l).length:=h1
  have hp:=List.pairwise_iff_getElem.1 hn
  rw [List.mem_eraseIdx_iff_getElem]
  constructor
  ·rintro ⟨i,hi,a,rfl⟩
   refine ⟨cQ _,fun he=>?_⟩
   rw [hk] at he
   rcases fu a with h|h
   ·exact hp _ _ _ _ h he
   ·exact hp _ _ _ _ h he.symm
  ·rintro ⟨h4,h5⟩
   obtain ⟨i,hi,rfl⟩:=ey h4
   exact ⟨i,hi,fun c=>h5 (by subst c;exact hk.symm),rfl⟩
theorem xG (l:ny) (k:Int×Int):(nZ l k).Sublist l:=by
 unfold nZ
 split
 ·exact List.eraseIdx_sublist ..
 ·exact List.Sublist.refl _
theorem Ia {l:ny} {k:Int×Int} (hn:(jU l).Nodup):(jU (nZ l k)).Nodup:=List.Nodup.sublist ((xG l k).map _) hn
def bm (f:Nat→Int×Int):Nat→ny
 |0=>[]
 |i+1=>if f i=nw then bm f i else mF (bm f i) (f i) (.int .i64 (i:Int))
theorem XU (f:Nat→Int×Int):∀ n,(jU (bm f n)).Nodup∧∀ p,p ∈ jU (bm f n)↔∃ i<n,f i=p∧p ≠ nw
 |0=>⟨by simp [bm,jU],fun p=>by simp [bm,jU]⟩
 |n+1=>by
  obtain ⟨h1,h2⟩:=XU f n
  simp only [bm]
  split
  ·rename_i hn
   refine ⟨h1,fun p=>(h2 p).trans ⟨fun ⟨i,hi,a,b⟩=>⟨i,oO,a,b⟩,fun ⟨i,hi,a,b⟩=>⟨i,?_,a,b⟩⟩⟩
   rcases e7 i n with h|h
   ·exact h
   ·have:i=n:=oO
    subst this;exact absurd (a ▸ hn) b
  ·rename_i hn
   rw [abL]
   split
   ·rename_i c
    refine ⟨h1,fun p=>⟨fun hp=>?_,fun ⟨i,hi,a,b⟩=>?_⟩⟩
    ·obtain ⟨i,hi,a,b⟩:=(h2 p).1 hp;exact ⟨i,oO,a,b⟩
    ·by_cases h:i=n
     ·subst h;exact a ▸ c
     ·exact (h2 p).2 ⟨i,oO,a,b⟩
   ·rename_i c
    refine ⟨List.nodup_append.2 ⟨h1,by simp,fun a ha b hb=>?_⟩,fun p=>⟨fun hp=>?_,fun ⟨i,hi,a,b⟩=>?_⟩⟩
    ·simp at hb;subst hb;exact fun h=>c (h ▸ ha)
    ·rcases List.mem_append.1 hp with hp|hp
     ·obtain ⟨i,hi,a,b⟩:=(h2 p).1 hp;exact ⟨i,oO,a,b⟩
     ·simp at hp;subst hp;exact ⟨n,oO,rfl,hn⟩
    ·by_cases h:i=n
     ·subst h;exact List.mem_append_right _ (by simp [a])
     ·exact fW _ ((h2 p).2 ⟨i,oO,a,b⟩)
theorem En (f:Nat→Int×Int):∀ n,∀ p ∈ bm f n,plain p.2=true
 |0,p,h=>by simp [bm] at h
 |n+1,p,h=>by
  simp only [bm] at h
  split at h
  ·exact En f n p h
  ·unfold mF at h
   split at h
   ·rcases List.mem_or_eq_of_mem_set h with h|rfl
    ·exact En f n p h
    ·rfl
   ·rcases List.mem_append.1 h with h|h
    ·exact En f n p h
    ·simp at h;subst h;rfl
def abM (l:ny) (seen:List (Int×Int)):Nat:=((jU l).filter fun p=>decide (p ∉ seen)).length
theorem SE {α:Type} (p q:α→Bool) (hpq:∀ x,q x=true→p x=true) (e:α) (hp:p e=true) (hq:q e=false):∀ (l l':List α),l'.Sublist l→e ∈ l→(l'.filter q).length<(l.filter p).length
 |l,l',hs,he=>by
  have h1:(l'.filter q).length≤(l.filter q).length:=(hs.filter q).length_le
  have h2:(l.filter q).length<(l.filter p).length:=Go.filter_lt p q hpq e hp hq l he
  omega
theorem SG {l l':ny} {seen:List (Int×Int)} {k:Int×Int} (hs:l'.Sublist l) (hk:k ∈ jU l) (hn:k ∉ seen):abM l' (seen++[k])<abM l seen :=
 SE _ _ (fun x hx=>by simp at hx ⊢;exact hx.1) k (oU hn) oS _ _ (hs.map _) hk
structure GInv (f:Nat→Int×Int) (n:Nat) (short long len:Int) (lm:ny):Prop where
 le:len≤long
 ge:short - 1≤len
 nd:(jU lm).Nodup
 pl:∀ q ∈ lm,plain q.2=true
 sub:∀ k ∈ jU lm,∃ i<n,f i=k∧k ≠ nw
 all:∀ i<n,f i ≠ nw→f i ∈ jU lm∨len<(f i).1
 cov:∀ x,len<x→x≤long→Cov f n x
structure GIn (f:Nat→Int×Int) (n:Nat) (len:Int) (lm:ny) (low:Int) (lm':ny) (seen:List (Int×Int)):Prop where
 sub:lm'.Sublist lm
 nd:(jU lm').Nodup
 le:low≤len+1
 lw:low=len+1∨∃ i<n,f i ≠ nw∧(f i).1=low∧low≤len∧len≤(f i).2
 gone:∀ k ∈ jU lm,k ∈ jU lm'∨(len≤k.2∧low≤k.1)
 passed:∀ k ∈ jU lm',k ∈ seen→k.2<len
section
variable {f:Nat→Int×Int} {n:Nat} {short long len low:Int} {lm lm':ny} {seen:List (Int×Int)}
theorem GIn.start (h:GInv f n short long len lm):GIn f n len lm (len+1) lm [] :=
 ⟨List.Sublist.refl _,h.nd,dE _,.inl rfl,fun k hk=>.inl hk,fun k _ hs=>by simp at hs⟩
theorem GIn.skip (h:GIn f n len lm low lm' seen) {k:Int×Int} (hk:k.2<len):GIn f n len lm low lm' (seen++[k]) :=
 ⟨h.sub,h.nd,h.le,h.lw,h.gone,fun q hq hs=>by
  rcases List.mem_append.1 hs with hs|hs
  ·exact h.passed q hq hs
  ·simp at hs;subst hs;exact hk⟩
theorem GIn.take (h:GIn f n len lm low lm' seen) (hi:GInv f n short long len lm) {k:Int×Int} (hk:k ∈ jU lm') (hl:¬ k.2<len):GIn f n len lm (min low k.1) (nZ lm' k) (seen++[k]):=by
 have o:k ∈ jU lm:=(h.sub.map _).subset hk
 obtain ⟨i,p,g,r⟩:=hi.sub k o
 refine ⟨(xG lm' k).trans h.sub,Ia h.nd,by have:=h.le;omega,?_,fun q hq=>?_,fun q hq hs=>?_⟩
 ·by_cases hle:k.1<low
  ·by_cases hlen:k.1≤len
   ·exact .inr ⟨i,p,by rw [g];exact r,by rw [g];omega,oO,by rw [g];omega⟩
   ·have:=h.le;left;omega
  ·rcases h.lw with h0|⟨j,a,b,c,d,e⟩
   ·left;have:=h.le;omega
   ·exact .inr ⟨j,a,b,oO,oO,e⟩
 ·rcases h.gone q hq with h0|h0
  ·by_cases m:q=k
   ·subst m;exact .inr ⟨oO,oO⟩
   ·exact .inl ((BU h.nd).2 ⟨h0,m⟩)
  ·exact .inr ⟨h0.1,oO⟩
 ·obtain ⟨h0,h1⟩:=(BU h.nd).1 hq
  rcases List.mem_append.1 hs with hs|hs
  ·exact h.passed q h0 hs
  ·simp at hs;exact absurd hs h1
theorem GIn.found (h:GIn f n len lm low lm' seen) (hi:GInv f n short long len lm) (hall:∀ q ∈ lm',q.1 ∈ seen) (hlow:low > len) (hs:short≤len) (_hnw:∀ i<n,f i=nw∨(short≤(f i).1∧(f i).1≤(f i).2∧(f i).2≤long)) (_h1:1≤short):Em f n short long len:=by
 refine .inr ⟨hs,hi.le,?_,hi.cov⟩
 rintro ⟨i,d,a,b⟩
 have c:f i ≠ nw:=fun h=>by rw [h] at a b;simp at a b;omega
 rcases hi.all i d c with hk|hk
 ·rcases h.gone _ hk with h0|h0
  ·obtain ⟨q,hq,e⟩:=List.mem_map.1 h0
   have:=h.passed _ h0 (by rw [← e];exact hall q hq)
   omega
  ·omega
 ·omega
theorem GIn.next (h:GIn f n len lm low lm' seen) (hi:GInv f n short long len lm) (hlow:¬ low > len) (hnw:∀ i<n,f i=nw∨(short≤(f i).1∧(f i).1≤(f i).2∧(f i).2≤long)):GInv f n short long (low - 1) lm':=by
 have hl:∃ i<n,f i ≠ nw∧(f i).1=low∧low≤len∧len≤(f i).2:=by
  rcases h.lw with h0|h0
  ·omega
  ·exact h0
 obtain ⟨i,e,m,a,b,c⟩:=hl
 have hs:short≤low:=by
  rcases hnw i e with h0|h0
  ·exact absurd h0 m
  ·omega
 refine ⟨by have:=hi.le;omega,oO,h.nd,fun q hq=>hi.pl q (h.sub.subset hq),fun k hk=>hi.sub k ((h.sub.map _).subset hk),fun j hj o=>?_,fun x hx g=>?_⟩
 ·rcases hi.all j hj o with h0|h0
  ·rcases h.gone _ h0 with h1|h1
   ·exact .inl h1
   ·exact .inr oO
  ·exact .inr oO
 ·by_cases d:len<x
  ·exact hi.cov x d g
  ·exact ⟨i,e,oO,oO⟩
end
theorem Ib {m:Nat} {v:Value} (h:plain v=true):closed m v=true∧okV v=true:=by
 have:=aX (n:=m) (l:=[v]) (by simp [dN,h])
 simpa [dR,okL] using this
theorem Eo {m:Nat} {lm:ny} (h:∀ q ∈ lm,plain q.2=true):gq m (oH lm):=by
 intro p hp
 obtain ⟨q,hq,rfl⟩:=List.mem_map.1 hp
 exact Ib (h q hq)
theorem abN {f:Nat→Int×Int}:∀ {i:Nat},i<12→(nD f)[i*2]?=some (.i (f i).1)
 |0,_=>rfl|1,_=>rfl|2,_=>rfl|3,_=>rfl|4,_=>rfl|5,_=>rfl|6,_=>rfl|7,_=>rfl|8,_=>rfl|9,_=>rfl|10,_=>rfl|11,_=>rfl
theorem abO {f:Nat→Int×Int}:∀ {i:Nat},i<12→(nD f)[i*2+1]?=some (.i (f i).2)
 |0,_=>rfl|1,_=>rfl|2,_=>rfl|3,_=>rfl|4,_=>rfl|5,_=>rfl|6,_=>rfl|7,_=>rfl|8,_=>rfl|9,_=>rfl|10,_=>rfl|11,_=>rfl
theorem Ze {f:Nat→Int×Int} {a b:Int}:∀ {i:Nat},i<12→splice (nD f) (i*2) [.i a,.i b]=nD (VA f i (a,b))
 |0,_=>rfl|1,_=>rfl|2,_=>rfl|3,_=>rfl|4,_=>rfl|5,_=>rfl|6,_=>rfl|7,_=>rfl|8,_=>rfl|9,_=>rfl|10,_=>rfl|11,_=>rfl
theorem Nu {f:Nat→Int×Int}:(nD f).length=24:=rfl
theorem GU (f:Nat→Int×Int):DY f 12 (nD f).toArray:=fun _i hi=>⟨abN hi,abO hi⟩
theorem Nv {a:aB} {s:St} {tv:Value} {f:Nat→Int×Int} {g:Nat→Int} {r:Heap}:∀ {i:Nat},i<12→aK (a::.ro (dB s tv f g)::r) 1 (6+i*2) 2=some [.i (f i).1,.i (f i).2]
 |0,_=>rfl|1,_=>rfl|2,_=>rfl|3,_=>rfl|4,_=>rfl|5,_=>rfl|6,_=>rfl|7,_=>rfl|8,_=>rfl|9,_=>rfl|10,_=>rfl|11,_=>rfl
end Go.AH
namespace Go.Proofs.YtajpgeklmcjciaaGreat
open Go Go.AH
attribute [local irreducible] dA bP bT jL gX dQ fF bZ fB aY dY fA
theorem qF {A B:Prop} (k:B) (h:Hide B→A:=by intro h_k_;(repeat' (first|refine sCm ?_|(refine gU ?_;first|(refine bW ?_;refine st (aJ rfl (by rfl)) rfl rfl ?_)|(refine yD ?_;refine st (kK rfl rfl (by omega) (by omega)) rfl rfl ?_)|(refine oQ ?_;refine st (MO (by rfl)) rfl rfl ?_)|(refine dZ ?_;refine stN (bF rfl rfl rfl rfl (by rfl)) rfl ?_))|refine aG ?_|refine jc rfl (by first|rfl|exact dW (by assumption)) ?_|refine iM rfl (by first|rfl|exact bM (by assumption)|exact bM (by omega)) ?_));exact h_k_.h):A:=h ⟨k⟩
theorem ag2 (s:St) (l:List Int) (c:Nat) (f:Nat→Int×Int) (g:Nat→Int) (hn:l.length≤12) (h1:1≤s.short) (h2:s.short≤s.long) (h3:s.long≤100000)
  (hf:∀ i<l.length,f i=nw∨(s.short≤(f i).1∧(f i).1≤(f i).2∧(f i).2≤s.long)) (_hf':∀ i,l.length≤i→f i=nw) :
  Ev Tryz.prog 247 [.p 1] [.ro (ints l),.ro (dB s (rkV l 0 c) f g)] (.i (aep f l.length s.short s.long)) [.ro (ints l),.ro (dB s (rkV l 0 c) f g)]:=by
 refine aI 2 93 Tryz.func247 rfl rfl rfl rfl rfl ?_
 refine qF ?_
 refine Iw ?_
 refine qF ?_
 refine jd (ι:=Nat) (fun i=>[(0,.p 1),(3,.p 2),(12,.i (i:Int))])
  (fun i=>[.ro (ints l),.ro (dB s (rkV l 0 c) f g),.rw (nD fun k=>if k<i then nw else (0,0))]) (fun i=>12 - i) (fun i=>i≤12) 0 oS
  (.same tE) oO ?_
 intro i hi
 have Q:i<12→putCells [.ro (ints l),.ro (dB s (rkV l 0 c) f g),.rw (nD fun k=>if k<i then nw else (0,0))] 2 (0+i*2) [.i 100001,.i (-1)] =
   some [.ro (ints l),.ro (dB s (rkV l 0 c) f g),.rw (nD fun k=>if k<i+1 then nw else (0,0))]:=fun h=>by
  refine fZ rfl (by rw [Nu];simp;omega) (by rw [Nu];omega) ?_
  rw [bA,Ze h]
  congr 1
  funext k
  simp only [VA]
  by_cases hk:k=i <;> by_cases S:k<i <;> simp [hk,S] <;> omega
 repeat' (first|refine sCm ?_|(refine gU ?_;first|(refine gIA ?_;refine st (ng rfl rfl oO) rfl rfl ?_)|(refine eG ?_;refine st (bH rfl rfl rfl (by exact Ev.nil Dc rfl rfl rfl)) rfl rfl ?_)|(refine dZ ?_;refine stN (bF rfl rfl rfl rfl (by exact Q oO)) rfl ?_))|(refine fU ?_;first|(refine jM ?_;refine fr (bV rfl) oR rfl ?_)|(refine fFA ?_;refine fr (aW rfl) oR rfl ?_)|(refine gY ?_;refine fr (bD rfl oR) oR rfl ?_)|(refine Oz ?_;refine fr (kE rfl) oR rfl ?_))|(refine gu ⟨oK,?_⟩)|refine aG ?_|refine dI oK rfl ?_|(refine ji rfl ?_ ?_ <;> intro _))
 ·exact ⟨rfl,i+1,oO,oO,.same tE⟩
 obtain rfl:i=12:=oO
 refine st (aaD (f:=f) (g:=fun k=>if k<12 then nw else (0,0)) (xs:=nD f) (ys:=nD fun k=>if k<12 then nw else (0,0)) oK rfl rfl (pK _) (pK _) (GU _) (GU _)) rfl rfl ?_
 repeat' (first|refine sCm ?_|(refine gU ?_;(refine bW ?_;refine st (aJ rfl oR) rfl rfl ?_))|refine aG ?_|(refine ji rfl ?_ ?_ <;> intro _))
 ·rename_i m
  refine aaC (dM (.tmp rfl .nil) (.plain rfl rfl) ⟨?_,rfl⟩)
  simp only [kL]
  congr 1
  refine Em.uniq oO (.inr ⟨h2,dE _,?_,fun x hx y=>oO⟩) (Po h2)
  rintro ⟨i,hi,a,b⟩
  have:=m i (List.mem_range.2 oO)
  rw [if_pos oO] at this
  rw [this] at a b
  simp at a b
  omega
 refine st zi rfl rfl ?_
 refine qF ?_
 refine jd (ι:=Nat) (fun i=>[(0,.p 1),(5,.map (some 3)),(35,.i (l.length:Int)),(36,.i (i:Int))])
  (fun i=>[.ro (ints l),.ro (dB s (rkV l 0 c) f g),.rw (nD fun k=>if k<12 then nw else (0,0)),oH (bm f i)]) (fun i=>l.length - i) (fun i=>i≤l.length) 0 oS
  (.same tE) oO ?_
 intro i hi
 have C:i<12→aK [.ro (ints l),.ro (dB s (rkV l 0 c) f g),.rw (nD fun k=>if k<12 then nw else (0,0)),oH (bm f i)] 1 (6+i*2) 2=some [.i (f i).1,.i (f i).2]:=fun h=>Nv h
 by_cases hlt:i<l.length
 ·repeat' (first|refine sCm ?_|(refine gU ?_;first|(refine bW ?_;refine st (bD rfl (by exact C oO)) rfl rfl ?_)|(refine gIA ?_;refine st (ng rfl rfl oO) rfl rfl ?_))|(refine fU ?_;first|(refine jM ?_;refine fr (bV rfl) oR rfl ?_)|(refine fFA ?_;refine fr (aW rfl) oR rfl ?_)|(refine gY ?_;refine fr (bD rfl (by exact C oO)) oR rfl ?_)|(refine EZ ?_;refine fr (OB rfl rfl) oR rfl ?_)|(refine Oz ?_;refine fr (kE rfl) oR rfl ?_)|(refine fIA ?_;refine fr (ng rfl rfl oO) oR rfl ?_)|(refine qR ?_;refine fr (bH rfl rfl rfl (by exact Ev.nil Dc rfl rfl rfl)) oR rfl ?_))|(refine gu ⟨oK,?_⟩)|refine aG ?_|refine dI oK rfl ?_|refine jc rfl (by first|rfl|exact dW oO) ?_|(refine ji rfl ?_ ?_ <;> intro _))
  ·rename_i u
   have D:f i ≠ nw:=fun h=>by rw [h] at u;simp at u
   refine stN (qc (i:=3) (l:=bm f i) (k:=f i) (v:=.i (i:Int)) rfl rfl rfl rfl rfl) rfl ?_
   refine qF ?_
   refine ⟨rfl,i+1,oO,oO,?_⟩
   have:bm f (i+1)=mF (bm f i) (f i) (.i (i:Int)):=by simp only [bm];rw [if_neg D]
   rw [this]
   exact .same tE
  ·rename_i u
   have D:f i=nw:=Prod.ext (by simpa using (Classical.not_not.1 u).1) (by simpa using (Classical.not_not.1 u).2)
   refine ⟨rfl,i+1,oO,oO,?_⟩
   have:bm f (i+1)=bm f i:=by simp only [bm];rw [if_pos D]
   rw [this]
   exact .same tE
 obtain rfl:i=l.length:=oO
 obtain ⟨F,L⟩:=XU f l.length
 have z:=En f l.length
 clear C
 refine qF ?_
 refine Iu ?_
 refine qF ?_
 have E:∀ i<l.length,f i=nw∨(s.short≤(f i).1∧(f i).1≤(f i).2∧(f i).2≤s.long):=hf
 have P:∀ lm:ny,(∀ q ∈ lm,plain q.2=true)→fP 4 [.ro (ints l),.ro (dB s (rkV l 0 c) f g),.rw (nD fun k=>if k<12 then nw else (0,0)),oH lm]:=fun lm hp=>⟨aX (bC l),jy (tv:=rkV l 0 c) (dO oO).1 (dO (n:=4) (i:=0) oO).2,aX (pK _),Eo hp,trivial⟩
 have r:∀ (lm:ny) (seen:List (Int×Int)),(∀ q ∈ lm,plain q.2=true)→fP 5 [.ro (ints l),.ro (dB s (rkV l 0 c) f g),.rw (nD fun k=>if k<12 then nw else (0,0)),oH lm,.iter 3 (seen.map kv)]:=fun lm seen hp=>⟨aX (bC l),jy (tv:=rkV l 0 c) (dO oO).1 (dO (n:=5) (i:=0) oO).2,aX (pK _),Eo hp,(by show (3:Nat)<5;omega),trivial⟩
 refine jd (ι:=Int×ny) (fun q=>[(0,.p 1),(5,.map (some 3)),(7,.i (-1)),(8,.i q.1)])
  (fun q=>[.ro (ints l),.ro (dB s (rkV l 0 c) f g),.rw (nD fun k=>if k<12 then nw else (0,0)),oH q.2]) (fun q=>(q.1 - s.short+1).toNat) (fun q=>GInv f l.length s.short s.long q.1 q.2) (s.long,bm f l.length) oS
  (.same tE) ⟨dE _,oO,F,z,fun k hk=>(L k).1 hk,fun i hi M=>.inl ((L _).2 ⟨i,hi,rfl,M⟩),fun x hx y=>oO⟩ ?_
 rintro ⟨len,lm⟩ hI
 have hI:GInv f l.length s.short s.long len lm:=hI
 have hle:=hI.le
 have hge:=hI.ge
 by_cases H:len≥s.short
 ·refine qF ?_
  refine st (aaA (i:=3) (l:=lm) rfl rfl) rfl rfl ?_
  refine qF ?_
  refine jd (ι:=Int×ny×List (Int×Int)) (fun q=>[(0,.p 1),(5,.map (some 3)),(7,.i (-1)),(8,.i len),(9,.i q.1),(71,.p 4)])
   (fun q=>[.ro (ints l),.ro (dB s (rkV l 0 c) f g),.rw (nD fun k=>if k<12 then nw else (0,0)),oH q.2.1,.iter 3 (q.2.2.map kv)]) (fun q=>abM q.2.1 q.2.2) (fun q=>GIn f l.length len lm q.1 q.2.1 q.2.2∧s.short≤q.1) (len+1,lm,[]) oS
   (.same tE) ⟨GIn.start hI,by simp;omega⟩ ?_
  rintro ⟨w,d,seen⟩ ⟨hG,I⟩
  have hG:GIn f l.length len lm w d seen:=hG
  have e:∀ q ∈ d,plain q.2=true:=fun q hq=>hI.pl q (hG.sub.subset hq)
  have hlow:=hG.le
  simp only at I
  refine qF ?_
  refine st_next (i:=3) (l:=d) (seen:=seen) rfl rfl rfl rfl rfl hG.nd (fun m=>?_) (fun q hq K=>?_)
  ·have R:=fun h=>hG.found hI m h H E h1
   have O:=fun h=>hG.next hI h E
   repeat' (first|refine sCm ?_|(refine gU ?_;(refine CJ ?_;refine st (jB rfl rfl oO oO) rfl rfl ?_))|refine aG ?_|refine DL rfl ?_|refine iM rfl oR ?_|(refine ji rfl ?_ ?_ <;> intro _))
   ·rename_i G
    refine aaC (dM (.tmp rfl .nil) (.plain rfl rfl) ⟨?_,rfl⟩)
    simp only [kL]
    congr 1
    exact Em.uniq oO (R G) (Po h2)
   ·rename_i G
    refine ⟨rfl,(w - 1,d),O G,by simp only;omega,.drop _ [_] (cA rfl) (P _ e) ⟨⟨rfl,rfl,rfl⟩,⟨rfl,rfl,rfl⟩,⟨rfl,rfl,rfl⟩,⟨rfl,rfl,rfl⟩,trivial⟩⟩
  ·refine qF ?_
   refine st (aaB (i:=3) (l:=d) (seen:=seen) (k:=q.1) (v:=q.2) rfl rfl rfl hq) rfl rfl ?_
   repeat' (first|refine sCm ?_|(refine gU ?_;first|(refine bW ?_;first|refine st (aJ rfl oR) rfl rfl ?_|refine st (bD rfl oR) rfl rfl ?_)|(refine aau ?_;refine st (sG rfl rfl) rfl rfl ?_)|(refine dZ ?_;refine stN (bF rfl rfl rfl rfl oR) rfl ?_))|refine aG ?_|(refine ji rfl ?_ ?_ <;> intro _))
   ·rename_i o
    exact ⟨rfl,(w,d,seen++[q.1]),⟨hG.skip o,I⟩,SG (List.Sublist.refl _) (List.mem_map.2 ⟨q,hq,rfl⟩) K,
     .drop _ [_] (cA rfl) (r _ _ e) ⟨⟨rfl,rfl,rfl⟩,⟨rfl,rfl,rfl⟩,⟨rfl,rfl,rfl⟩,⟨rfl,rfl,rfl⟩,⟨rfl,rfl,rfl⟩,⟨rfl,rfl,rfl⟩,trivial⟩⟩
   ·rename_i o
    have hk:q.1 ∈ jU d:=List.mem_map.2 ⟨q,hq,rfl⟩
    have hq1:s.short≤q.1.1:=by
     obtain ⟨j,hj,J,N⟩:=hI.sub q.1 ((hG.sub.map _).subset hk)
     rcases E j hj with h|h
     ·exact absurd (J ▸ h) N
     ·rw [J] at h;exact h.1
    refine stN (Bv (i:=3) (l:=d) (k:=q.1) rfl rfl rfl) rfl ?_
    refine qF ?_
    exact ⟨rfl,(min w q.1.1,nZ d q.1,seen++[q.1]),⟨hG.take hI hk o,by simp only;omega⟩,SG (xG _ _) hk K,
     .drop _ [_] (cA rfl) (r _ _ fun p hp=>e p ((xG _ _).subset hp)) ⟨⟨rfl,rfl,rfl⟩,⟨rfl,rfl,rfl⟩,⟨rfl,rfl,rfl⟩,⟨rfl,rfl,rfl⟩,⟨rfl,rfl,rfl⟩,⟨rfl,rfl,rfl⟩,trivial⟩⟩
 ·refine qF ?_
  refine aaC (dM (.tmp rfl .nil) (.plain rfl rfl) ⟨?_,rfl⟩)
  simp only [kL]
  congr 1
  exact Em.uniq oO (.inl ⟨rfl,fun x hx y=>hI.cov x oO y⟩) (Po h2)
end Go.Proofs.YtajpgeklmcjciaaGreat
namespace Go.AH
open Go
def SH (cs:List Value) (k:Nat):Int:=match (cs[k]?).bind asInt with|some x=>x.2|none=>0
def aer (cs:List Value):Nat→Int×Int:=fun k=>bif Nat.blt k 12 then (SH cs (6+2*k),SH cs (7+2*k)) else nw
def XV (s:St) (n:Nat) (f:Nat→Int×Int):Bool :=
 Nat.ble n 12 && decide (1≤s.short) && decide (s.short≤s.long) && decide (s.long≤100000) &&
  (List.range n).all (fun i=>decide (f i=nw) || (decide (s.short≤(f i).1) && decide ((f i).1≤(f i).2) && decide ((f i).2≤s.long))) &&
  (List.range 12).all (fun i=>Nat.blt i n || decide (f i=nw))
def abP (σ:Heap) (cs:List Value) (t n c:Nat) (tcs:List Value) (s:St) (l:List Int):Res :=
 bU (Aq (dB s (.slice (some ⟨t,0,none⟩) l.length c) (aer cs) (fun k=>SH cs (30+k))) cs && Aq (ints l) tcs && Nat.beq l.length n && XV s l.length (aer cs) && σ.all (fun o=>!aU o))
  (some (.int .i64 (aep (aer cs) l.length s.short s.long),σ,σ.length))
def XW (σ:Heap) (cs:List Value) (q:Nat×Nat×Nat×Nat):Res :=
 ((σ[q.1]?).bind yt).bind fun tcs=>iU (tcs.map fun v=>match asInt v with|some x=>x.2|none=>0) (abP σ cs q.1 q.2.2.1 q.2.2.2 tcs ⟨SH cs 0,SH cs 1,SH cs 2,SH cs 3,SH cs 4⟩)
def abQ (σ:Heap):List Value→Res
 |[v]=>(qU v).bind fun p=>bU (Nat.beq p.2 0) (((σ[p.1]?).bind yt).bind fun cs=>((cs[5]?).bind rO).bind (XW σ cs))
 |_=>none
theorem GV {σ:Heap} {b:Nat} {cs:List Value} (h:(σ[b]?).bind yt=some cs):dP σ b cs:=by
 obtain ⟨o,h3,h4⟩:=Option.bind_eq_some_iff.1 h
 unfold yt at h4
 split at h4
 ·cases h4;exact .inl h3
 ·cases h4;exact .inr (.inl h3)
 ·cases h4;exact .inr (.inr ⟨_,h3⟩)
 ·cases h4
end Go.AH
namespace Go.Proofs.YtajpgeklmcjciaaGreat
open Go Go.AH
attribute [local irreducible] dA bP bT jL gX dQ fF bZ fB aY dY fA
theorem ag3 {σ:Heap} {s:St} {l:List Int} {c:Nat} {f:Nat→Int×Int} {g:Nat→Int} {t r:Nat} (hn:l.length≤12) (h1:1≤s.short) (h2:s.short≤s.long) (h3:s.long≤100000)
  (hf:∀ i<l.length,f i=nw∨(s.short≤(f i).1∧(f i).1≤(f i).2∧(f i).2≤s.long)) (hf':∀ i,l.length≤i→f i=nw) (ht:dP σ t (ints l)) (hr:dP σ r (dB s (rkV l t c) f g))
  (hni:σ.all (fun o=>!aU o)=true):Ev Tryz.prog 247 [.p r] σ (.i (aep f l.length s.short s.long)) σ:=by
 exact Ev.arrsP [ints l,dB s (rkV l 0 c) f g] [(t,ints l),(r,dB s (rkV l t c) f g)] (ag2 s l c f g hn h1 h2 h3 hf hf')
  ⟨⟨ht,gJ.plain (bC l)⟩,⟨hr,wM (by simpa [bsR,rkV] using VQ.slice (q:=true) (n:=2) (ρ:=bsR [t,r]) 0 0 l.length c c (aD _) oO)⟩,trivial⟩
  ⟨by simpa [bsR] using VQ.ptr (q:=true) (n:=2) (ρ:=bsR [t,r]) 1 0 oO,trivial⟩ rfl hni
def orc:jE:=fun f args σ=>bif Nat.beq f 247 then abQ σ args else none
theorem oV:iW Tryz.prog orc:=by
 intro f args σ r h
 unfold orc at h
 cases hf:Nat.beq f 247 with
 |false=>rw [hf] at h;cases h
 |true =>
  rw [hf] at h
  simp only [cond_true] at h
  have e:=aM hf
  subst e
  unfold abQ at h
  split at h
  ·rename_i v
   simp only [aL,aN,XW,gB,abP,aE] at h
   obtain ⟨p,g1,g2,cs,g3,q,⟨w,g4,g5⟩,tcs,g6,⟨⟨⟨⟨g7,g8⟩,g9⟩,a⟩,g⟩,d⟩:=h
   cases d
   have e2:=aM g2
   obtain ⟨p1,p2⟩:=p
   simp only at e2 g3
   subst e2
   rw [jP g1]
   have ha:=GV (Option.bind_eq_some_iff.2 g3)
   have hb:=GV (Option.bind_eq_some_iff.2 g6)
   rw [← qj g7] at ha
   rw [← qj g8] at hb
   simp only [XV,aE,decide_eq_true_eq,eo,List.mem_range,eq] at a
   obtain ⟨⟨⟨⟨⟨c1,c2⟩,c3⟩,c4⟩,c5⟩,c6⟩:=a
   refine ⟨ag3 (cA c1) c2 c3 c4 (fun i hi=>?_) (fun i hi=>?_) hb ha g,Keep.refl⟩
   ·rcases c5 i hi with h|⟨⟨h1,h2⟩,h3⟩
    ·exact .inl h
    ·exact .inr ⟨h1,h2,h3⟩
   ·by_cases c:i<12
    ·rcases c6 i c with h|h
     ·have:=Nat.blt_eq.mp h;omega
     ·exact h
    ·unfold aer
     rw [show Nat.blt i 12=false from by
      cases hb:Nat.blt i 12 with
      |false=>rfl
      |true=>exact absurd (Nat.blt_eq.mp hb) c]
     rfl
  ·cases h
theorem JX {σ:Heap} {s:St} {l:List Int} {x c:Nat} (hx:dP σ x (ints l)) (hN:l.length≤1000000) (hr:-9223372036854775808≤s.short∧s.short≤9223372036854775807) (h:iL s l ≠ 0) (hni:σ.all (fun o=>!aU o)=true) :
  Ev Tryz.prog 69 [s.val,.s x l.length c] σ (.tuple #[.pointer none,.i (iL s l)]) σ :=
 Ev.arrs [ints l] [x] (abK s l c hN hr h) ⟨hx,trivial⟩ ⟨aZ _ rfl,by simpa [bsR] using VQ.slice (q:=true) (n:=1) (ρ:=bsR [x]) 0 0 l.length c c (aD _) oO,trivial⟩ (by simp [bC]) rfl hni
theorem Nw {σ:Heap} {s:St} {l:List Int} {x c:Nat} (hx:dP σ x (ints l)) (hr:-9223372036854775808≤s.short∧s.short≤9223372036854775807) (h:iL s l=0) (hni:σ.all (fun o=>!aU o)=true) :
  Ev Tryz.prog 69 [s.val,.s x l.length c] σ (.tuple #[.p σ.length,.i 0]) (σ++[.rw (dB s (.s x l.length c) (dS s l) fun _=>0)]):=by
 refine Ev.arrsN [ints l] [x] (aeo s l c hr h) ⟨hx,trivial⟩ ⟨aZ _ rfl,by simpa [bsR] using VQ.slice (q:=true) (n:=1) (ρ:=bsR [x]) 0 0 l.length c c (aD _) oO,trivial⟩ (by simp [bC]) rfl ?_ ?_ hni
 ·simp [ren,zQ,yS,shf]
 ·simp only [cG,dz,CS,JW]
  simp [ren,shf,bsR]
theorem GX {σ:Heap} {s:St} {tv:Value} {f:Nat→Int×Int} {g:Nat→Int} {r i:Nat} (h:dP σ r (dB s tv f g)) (hi:i<12):aK σ r (6+i*2) 2=some [.i (f i).1,.i (f i).2]:=by
 have h2:=Nv (a:=.ro []) (s:=s) (tv:=tv) (f:=f) (g:=g) (r:=[]) hi
 unfold aK at h2 ⊢
 rcases h with h|h|⟨t,h⟩ <;> rw [h] <;> exact h2
def afO (p:Int×Int):Value:=.agg #[.int .i64 p.1,.int .i64 p.2]
theorem Zf {s:St} {l:List Int}:∀ i<l.length,dS s l i=nw∨(s.short≤(dS s l i).1∧(dS s l i).1≤(dS s l i).2∧(dS s l i).2≤s.long):=by
 intro i hi
 unfold dS
 rw [if_pos hi]
 unfold JV
 split
 ·rename_i h
  right
  unfold span at h ⊢
  simp only at h ⊢
  omega
 ·exact .inl rfl
theorem JY {l:List Int} (ht:uw l=false):∀ i<l.length,1≤gi l i∧gi l i≤10000:=fun i hi=>by
 have:¬ (gi l i<1∨gi l i > 10000):=fun hb=>by rw [qm.2 ⟨i,hi,hb⟩] at ht;cases ht
 omega
def bestF (f:Nat→Int×Int) (x:Int):Nat→Int
 |0=>-1
 |i+1=>if ((f i).1≤x∧x≤(f i).2)∧(bestF f x i<0∨(f i).1<(f (bestF f x i).toNat).1) then (i:Int) else bestF f x i
theorem JZ (f:Nat→Int×Int) (x:Int):∀ i:Nat,-1≤bestF f x i∧bestF f x i<i
 |0=>by simp [bestF]
 |i+1=>by
  have:=JZ f x i
  simp only [bestF]
  split <;> omega
def sp (s:St) (l:List Int) (i:Nat):Int×Int:=span s (gi l i)
theorem AO (f:Nat→Int×Int) (x:Int):∀ n:Nat,(bestF f x n=-1∧∀ i<n,¬ ((f i).1≤x∧x≤(f i).2)) ∨
  ∃ b<n,bestF f x n=(b:Int)∧(f b).1≤x∧x≤(f b).2∧∀ i<n,(f i).1≤x→x≤(f i).2→(f b).1≤(f i).1∧(i<b→(f b).1<(f i).1)
 |0=>.inl ⟨rfl,fun i h=>oO⟩
 |n+1=>by
  simp only [bestF]
  rcases AO f x n with ⟨h1,h2⟩|⟨b,hb,h1,h2,h3,h4⟩
  ·rw [h1]
   split
   ·rename_i h
    refine .inr ⟨n,oO,rfl,h.1.1,h.1.2,fun i hi a1 a2=>?_⟩
    by_cases a:i=n
    ·subst a;omega
    ·exact absurd ⟨a1,a2⟩ (h2 i oO)
   ·rename_i h
    refine .inl ⟨rfl,fun i hi hc=>?_⟩
    by_cases a:i=n
    ·subst a;exact h ⟨hc,.inl oO⟩
    ·exact h2 i oO hc
  ·rw [h1]
   simp only [cN]
   split
   ·rename_i h
    have hlt:(f n).1<(f b).1:=by rcases h.2 with h|h <;> omega
    refine .inr ⟨n,oO,rfl,h.1.1,h.1.2,fun i hi a1 a2=>?_⟩
    by_cases a:i=n
    ·subst a;omega
    ·have:=h4 i oO a1 a2
     omega
   ·rename_i h
    refine .inr ⟨b,oO,rfl,h2,h3,fun i hi a1 a2=>?_⟩
    by_cases a:i=n
    ·subst a
     have:¬ (f i).1<(f b).1:=fun hq=>h ⟨⟨a1,a2⟩,.inr hq⟩
     omega
    ·exact h4 i oO a1 a2
theorem afP {s:St} {l:List Int} {i:Nat} (hi:i<l.length):dS s l i=JV s (gi l i):=by unfold dS;rw [if_pos hi]
theorem Pq {s:St} {l:List Int} {i:Nat} {x:Int} (hi:i<l.length) (h:(sp s l i).1≤x∧x≤(sp s l i).2):dS s l i=sp s l i:=by
 rw [afP hi]
 unfold JV
 unfold sp at h ⊢
 rw [if_pos oO]
theorem XY {s:St} {l:List Int} {i:Nat} {x:Int} (hi:i<l.length) (h:(dS s l i).1≤x∧x≤(dS s l i).2):dS s l i=sp s l i:=by
 rw [afP hi] at h ⊢
 unfold JV at h ⊢
 split at h
 ·rename_i hq;rw [if_pos hq];rfl
 ·simp only at h;omega
theorem XZ {A B:Prop} (k:B) (h:Hide B→A:=by intro h_k_;(repeat' (first|refine sCm ?_|refine aG ?_|refine eU rfl ?_));exact h_k_.h):A:=h ⟨k⟩
theorem abR (s:St) (l:List Int) (c:Nat) (f:Nat→Int×Int) (g:Nat→Int) (ks:List Nat) (c2:Nat) (hks:∀ i<ks.length,gn ks i<12) (hN:ks.length≤1000000) :
  Ev Tryz.prog 285 [.s 3 ks.length c2,.func (.func 286) #[] #[.p 2]] [.ro (ints l),.ro (dB s (rkV l 0 c) f g),.ro [.p 1],.ro (gV ks)] (.i (fK (fun i=>(f i).1) ks ks.length)) [.ro (ints l),.ro (dB s (rkV l 0 c) f g),.ro [.p 1],.ro (gV ks)]:=by
 refine aI 4 32 Tryz.func285 rfl rfl rfl rfl rfl ?_
 refine XZ ?_
 refine jd (ι:=Nat) (fun i=>[(0,.s 3 ks.length c2),(1,.func (.func 286) #[] #[.p 2]),(5,.i (fK (fun i=>(f i).1) ks i)),(8,.s 3 ks.length c2),(9,.i (ks.length:Int)),(10,.i (i:Int))])
  (fun _=>[.ro (ints l),.ro (dB s (rkV l 0 c) f g),.ro [.p 1],.ro (gV ks)]) (fun i=>ks.length - i) (fun i=>i≤ks.length) 0 oS (.same tE) oO ?_
 rintro i hi
 by_cases e:i<ks.length
 ·have hb:=wL (fun i=>(f i).1) ks i
  have hs:fK (fun i=>(f i).1) ks (i+1)=if fK (fun i=>(f i).1) ks i<0∨(f (gn ks i)).1<(f (gn ks (fK (fun i=>(f i).1) ks i).toNat)).1 then (i:Int) else fK (fun i=>(f i).1) ks i:=rfl
  generalize fK (fun i=>(f i).1) ks i=b at hb hs
  have hki:=hks i e
  have hkb:¬ b<0→gn ks b.toNat<12:=fun h=>hks _ oO
  have d:i<ks.length→aH [.ro (ints l),.ro (dB s (rkV l 0 c) f g),.ro [.p 1],.ro (gV ks)] 3 i=some (.i (gn ks i:Int)):=fun h=>AL h
  have j:¬ b<0→aH [.ro (ints l),.ro (dB s (rkV l 0 c) f g),.ro [.p 1],.ro (gV ks)] 3 (0+b.toNat*1)=some (.i (gn ks b.toNat:Int)):=fun h=>by
   have:b.toNat<ks.length:=oO
   simpa [aH] using AL this
  repeat' (first|refine sCm ?_|(refine gU ?_;first|(refine bW ?_;refine st (aJ rfl (by exact d oO)) rfl rfl ?_)|(refine gIA ?_;refine st (iw rfl rfl oO) rfl rfl ?_))|(refine fU ?_;first|(refine jM ?_;refine frA (bV rfl) rfl ?_)|(refine EZ ?_;refine frA (fE rfl rfl rfl) rfl ?_)|(refine DT ?_;first|refine frA (jH rfl rfl) rfl ?_|refine frA (gW rfl rfl) rfl ?_))|(refine fG ?_;first|(refine jM ?_;refine qy rfl (bV rfl) rfl ?_)|(refine gY ?_;refine qy rfl (aJ rfl (by first|exact d oO|exact j oO)) rfl ?_)|(refine EZ ?_;refine qy rfl (fE rfl rfl rfl) rfl ?_)|(refine fIA ?_;refine qy rfl (nX rfl rfl oO oO) rfl ?_)|(refine qR ?_;refine qy rfl (bH rfl rfl rfl (by exact ag0 (t:=0) (r:=1) (l:=l) oO (by exact .inl rfl) (by exact .inl rfl) (by exact .inl rfl) rfl)) rfl ?_)|refine abD rfl rfl ?_|((fail_if_success (refine frGkA rfl ?_));(refine aaw rfl ?_ ?_ <;> intro _)))|(refine gu ⟨oK,?_⟩)|refine aG ?_|refine dI oK rfl ?_|refine eP rfl ?_|(refine ji rfl ?_ ?_ <;> intro _))
  ·rename_i hq
   exact ⟨rfl,i+1,oO,oO,by rw [hs,if_pos (.inl hq)];exact .same tE⟩
  ·rename_i a hq
   exact ⟨rfl,i+1,oO,oO,by rw [hs,if_pos (.inr hq)];exact .same tE⟩
  ·rename_i a hq
   exact ⟨rfl,i+1,oO,oO,by rw [hs,if_neg (fun h=>h.elim a hq)];exact .same tE⟩
 ·refine XZ ?_
  obtain rfl:i=ks.length:=oO
  refine dM (.tmp rfl .nil) (.plain rfl rfl) ⟨rfl,rfl⟩
theorem abS {σ:Heap} {s:St} {l:List Int} {c:Nat} {f:Nat→Int×Int} {g:Nat→Int} {ks:List Nat} {t r x y:Nat} (ht:dP σ t (ints l)) (hr:dP σ r (dB s (rkV l t c) f g)) (hx:dP σ x [.p r]) (hy:dP σ y (gV ks))
  (hks:∀ i<ks.length,gn ks i<12) (hN:ks.length≤1000000) (hni:σ.all (fun o=>!aU o)=true) :
  Ev Tryz.prog 285 [eu y 1 ks.length,.func (.func 286) #[] #[.p x]] σ (.i (fK (fun i=>(f i).1) ks ks.length)) σ:=by
 refine Ev.arrsP [ints l,dB s (rkV l 0 c) f g,[.p 1],gV ks] [(t,ints l),(r,dB s (rkV l t c) f g),(x,[.p r]),(y,gV ks)] (abR s l c f g ks ks.length hks hN)
  ⟨⟨ht,gJ.plain (bC l)⟩,⟨hr,wM (by simpa [bsR,rkV] using VQ.slice (q:=true) (n:=4) (ρ:=bsR [t,r,x,y]) 0 0 l.length c c (aD _) oO)⟩,⟨hx,gJ.one (by simpa [bsR] using VQ.ptr (q:=true) (n:=4) (ρ:=bsR [t,r,x,y]) 1 0 oO)⟩,⟨hy,gJ.plain (pI ks)⟩,trivial⟩
  ⟨kG oS (by simp [bsR]),?_,trivial⟩ rfl hni
 refine .func _ _ _ _ _ rfl rfl (fun i h=>by simp at h) fun i h h'=>?_
 have:i=0:=by simpa using h
 subst this
 simpa [bsR] using VQ.ptr (q:=true) (n:=4) (ρ:=bsR [t,r,x,y]) 2 0 oO
def lN (f:Nat→Int×Int) (g:Nat→Int) (i:Nat):Int×Int:=if g i=0 then f i else nw
def atL (f:Nat→Int×Int) (g:Nat→Int) (x:Int):Nat→List Nat
 |0=>[]
 |n+1=>if g n=0∧(f n).1≤x∧x≤(f n).2 then atL f g x n++[n] else atL f g x n
theorem VI {f:Nat→Int×Int} {g:Nat→Int} {x:Int}:∀ {n:Nat},∀ k ∈ atL f g x n,k<n
 |0,k,h=>by simp [atL] at h
 |n+1,k,h=>by
  simp only [atL] at h
  split at h
  ·rcases List.mem_append.1 h with h|h
   ·have:=VI k h;omega
   ·simp at h;omega
  ·have:=VI k h;omega
theorem Pv {f:Nat→Int×Int} {g:Nat→Int} {x:Int}:∀ {n:Nat},(atL f g x n).length≤n
 |0=>by simp [atL]
 |n+1=>by
  have:=Pv (f:=f) (g:=g) (x:=x) (n:=n)
  simp only [atL]
  split
  ·simp;omega
  ·omega
theorem Px {a b:List Nat} {i:Nat} (h:i<a.length):gn (a++b) i=gn a i:=by
 simp only [gn,cE,bR h]
theorem Py {a:List Nat} {k:Nat}:gn (a++[k]) a.length=k:=by
 simp only [gn,cE]
 rw [bE oO,cY];rfl
theorem GY {key:Nat→Int} {a b:List Nat}:∀ {n:Nat},n≤a.length→fK key (a++b) n=fK key a n
 |0,_=>rfl
 |n+1,h=>by
  have ih:=GY (key:=key) (a:=a) (b:=b) (n:=n) oO
  have hl:=wL key a n
  simp only [fK,ih]
  rw [Px (a:=a) (i:=n) oO]
  by_cases h0:fK key a n<0
  ·simp only [h0,true_or,if_true]
  ·rw [Px (a:=a) (i:=(fK key a n).toNat) oO]
def atV (f:Nat→Int×Int) (g:Nat→Int) (x:Int) (n:Nat):Int :=
 if fK (fun i=>(f i).1) (atL f g x n) (atL f g x n).length<0 then -1 else (gn (atL f g x n) (fK (fun i=>(f i).1) (atL f g x n) (atL f g x n).length).toNat:Nat)
theorem SI {f:Nat→Int×Int} {g:Nat→Int} {x:Int} (hx:0≤x):∀ n:Nat,atV f g x n=bestF (lN f g) x n
 |0=>rfl
 |n+1=>by
  have ih:=SI (f:=f) (g:=g) hx n
  have hb:=AO (lN f g) x n
  simp only [bestF]
  by_cases hq:g n=0∧(f n).1≤x∧x≤(f n).2
  ·have hm:lN f g n=f n:=by unfold lN;rw [if_pos hq.1]
   have ha:atL f g x (n+1)=atL f g x n++[n]:=by simp only [atL];rw [if_pos hq]
   rw [hm,← ih]
   unfold atV
   rw [ha,show (atL f g x n++[n]).length=(atL f g x n).length+1 from by simp]
   have hl:=wL (fun i=>(f i).1) (atL f g x n) (atL f g x n).length
   have c:fK (fun i=>(f i).1) (atL f g x n++[n]) ((atL f g x n).length+1)=if fK (fun i=>(f i).1) (atL f g x n) (atL f g x n).length<0∨(f n).1<(f (gn (atL f g x n++[n]) (fK (fun i=>(f i).1) (atL f g x n) (atL f g x n).length).toNat)).1 then ((atL f g x n).length:Int) else fK (fun i=>(f i).1) (atL f g x n) (atL f g x n).length:=by
    have e1:=GY (key:=fun i=>(f i).1) (a:=atL f g x n) (b:=[n]) (aD _)
    have e2:=Py (a:=atL f g x n) (k:=n)
    show (if fK (fun i=>(f i).1) (atL f g x n++[n]) (atL f g x n).length<0∨(f (gn (atL f g x n++[n]) (atL f g x n).length)).1<(f (gn (atL f g x n++[n]) (fK (fun i=>(f i).1) (atL f g x n++[n]) (atL f g x n).length).toNat)).1 then ((atL f g x n).length:Int) else fK (fun i=>(f i).1) (atL f g x n++[n]) (atL f g x n).length)=_
    simp only [e1,e2]
   have j:0≤fK (fun i=>(f i).1) (atL f g x n) (atL f g x n).length→lN f g (gn (atL f g x n) (fK (fun i=>(f i).1) (atL f g x n) (atL f g x n).length).toNat)=f (gn (atL f g x n) (fK (fun i=>(f i).1) (atL f g x n) (atL f g x n).length).toNat):=fun h0=>by
    rcases hb with ⟨h1,h2⟩|⟨b,hbn,h1,h2,h3,h4⟩
    ·rw [← ih] at h1;unfold atV at h1;rw [if_neg oO] at h1;omega
    ·rw [← ih] at h1;unfold atV at h1;rw [if_neg oO] at h1
     have e:gn (atL f g x n) (fK (fun i=>(f i).1) (atL f g x n) (atL f g x n).length).toNat=b:=oO
     rw [e]
     unfold lN at h2 h3 ⊢
     split
     ·rfl
     ·rename_i hg;rw [if_neg hg] at h2 h3;simp only at h2 h3;omega
   generalize fK (fun i=>(f i).1) (atL f g x n++[n]) ((atL f g x n).length+1)=M at c ⊢
   generalize fK (fun i=>(f i).1) (atL f g x n) (atL f g x n).length=L at hl c j ⊢
   subst c
   by_cases h0:L<0
   ·have e0:(if L<0∨(f n).1<(f (gn (atL f g x n++[n]) L.toNat)).1 then ((atL f g x n).length:Int) else L)=(atL f g x n).length:=if_pos (.inl h0)
    simp only [e0]
    rw [if_neg oO,cN,Py,if_pos ⟨hq.2,.inl (by rw [if_pos h0];omega)⟩]
   ·have m:L.toNat<(atL f g x n).length:=oO
    have e1:=Px (a:=atL f g x n) (b:=[n]) (i:=L.toNat) m
    have e2:=j oO
    have e3:(if L<0 then (-1:Int) else (gn (atL f g x n) L.toNat:Nat))=(gn (atL f g x n) L.toNat:Nat):=if_neg h0
    simp only [e3,cN,e2]
    rw [e1]
    by_cases d:(f n).1<(f (gn (atL f g x n) L.toNat)).1
    ·have e4:(if L<0∨(f n).1<(f (gn (atL f g x n) L.toNat)).1 then ((atL f g x n).length:Int) else L)=(atL f g x n).length:=if_pos (.inr d)
     simp only [e4]
     rw [if_neg oO,cN,Py,if_pos ⟨hq.2,.inr d⟩]
    ·have e4:(if L<0∨(f n).1<(f (gn (atL f g x n) L.toNat)).1 then ((atL f g x n).length:Int) else L)=L:=if_neg (fun h=>h.elim h0 d)
     simp only [e4]
     rw [if_neg h0,e1,if_neg (fun h=>h.2.elim oO d)]
  ·have ha:atL f g x (n+1)=atL f g x n:=by simp only [atL];rw [if_neg hq]
   have hn:¬ ((lN f g n).1≤x∧x≤(lN f g n).2):=by
    unfold lN
    split
    ·rename_i hg;exact fun h=>hq ⟨hg,h⟩
    ·simp only;omega
   rw [if_neg (fun h=>hn h.1),← ih]
   unfold atV
   rw [ha]
theorem J3 (l:List Int) (s:St) (c:Nat) (f:Nat→Int×Int) (g:Nat→Int):fP 3 [aB.ro (ints l),.ro (dB s (rkV l 0 c) f g),.rw [.p 1]] :=
 ⟨aX (bC l),jy (dO oS).1 (dO (n:=1) oS).2,⟨rfl,rfl⟩,trivial⟩
theorem Pz {A B:Prop} (k:B) (h:Hide B→A:=by intro h_k_;(repeat' (first|refine sCm ?_|(refine gU ?_;first|(refine bW ?_;refine st (aJ rfl (by first|rfl|assumption)) rfl rfl ?_)|(refine gIA ?_;refine st (DK rfl rfl (by omega) (by omega)) rfl rfl ?_)|(refine EX ?_;refine st (iO rfl rfl) rfl rfl ?_)|(refine eG ?_;refine st (bH rfl rfl rfl (by exact hleast)) rfl rfl ?_))|refine aG ?_|refine eP rfl ?_|refine eU rfl ?_));exact h_k_.h):A:=h ⟨k⟩
theorem at_ok (s:St) (l:List Int) (c:Nat) (f:Nat→Int×Int) (g:Nat→Int) (x:Int) (h12:l.length≤12) (hx:0≤x) :
  Ev Tryz.prog 252 [.p 1,.i x] [.ro (ints l),.ro (dB s (rkV l 0 c) f g)] (.i (bestF (lN f g) x l.length)) [.ro (ints l),.ro (dB s (rkV l 0 c) f g)]:=by
 rw [← SI hx]
 refine aI 2 56 Tryz.func252 rfl rfl rfl rfl rfl ?_
 refine Pz ?_
 refine jd (ι:=Nat) (fun i=>[(1,.i x),(2,.p 2),(5,eu 3 1 (atL f g x i).length),(13,.i (l.length:Int)),(14,.i (i:Int))])
  (fun i=>[.ro (ints l),.ro (dB s (rkV l 0 c) f g),.rw [.p 1],.gr (gV (atL f g x i)) 3]) (fun i=>l.length - i) (fun i=>i≤l.length) 0 oS (mD.src [.ro (ints l),.ro (dB s (rkV l 0 c) f g),.rw [.p 1]] [.gr [] 3] [3] oS rfl (J3 l s c f g) rfl rfl ⟨Jr,trivial⟩ (by (repeat' (first|exact trivial|refine ⟨pq rfl rfl,?_⟩|refine ⟨kX (m:=3) rfl (fun i hi=>fJ hi) oS oR rfl,?_⟩)))) oO ?_
 rintro i hi
 by_cases hil:i<l.length
 ·have d:i<12:=oO
  have hL:=Pv (f:=f) (g:=g) (x:=x) (n:=i)
  have hlen:(gV (atL f g x i)).length=(atL f g x i).length*1:=by simp [gV]
  have e:aK [.ro (ints l),.ro (dB s (rkV l 0 c) f g),.rw [.p 1],.gr (gV (atL f g x i)) 3] 1 (6+i*2) 2=some [.i (f i).1,.i (f i).2]:=GX (.inl rfl) d
  have q:aH [.ro (ints l),.ro (dB s (rkV l 0 c) f g),.rw [.p 1],.gr (gV (atL f g x i)) 3,.rw [.i (f i).1,.i (f i).2]] 1 (30+i*1)=some (.i (g i)):=abI d
  repeat' (first|refine sCm ?_|(refine gU ?_;first|(refine bW ?_;first|refine st (aJ rfl (by first|rfl|assumption)) rfl rfl ?_|refine st (bD rfl oA) rfl rfl ?_)|(refine kQ ?_;first|refine st (jH rfl rfl) rfl rfl ?_|refine st (gW rfl rfl) rfl rfl ?_)|(refine gIA ?_;refine st (ng rfl rfl oO) rfl rfl ?_)|(refine lV ?_;refine st (fO oR oR oR oR rfl oR) rfl rfl ?_)|(refine gApp ?_;refine st (jh oR oR rfl oR oA rfl oR oO oR oO oO) rfl rfl ?_)|(refine dZ ?_;refine stN (bF rfl rfl rfl rfl oR) rfl ?_))|(refine gG ?_;first|(refine kP ?_;refine iI rfl (bV rfl) rfl rfl ?_)|(refine gFA ?_;refine iI rfl (aW rfl) rfl rfl ?_)|(refine bW ?_;refine iI rfl (aJ rfl (by first|rfl|assumption)) rfl rfl ?_)|(refine nK ?_;refine iI rfl (fE rfl rfl rfl) rfl rfl ?_)|refine Sj rfl rfl ?_|((fail_if_success (refine stGkA rfl ?_));(refine Aa rfl ?_ ?_ <;> intro _)))|refine aG ?_|refine eP rfl ?_|refine eU rfl ?_|(refine ji rfl ?_ ?_ <;> intro _))
  ·rename_i h1 h2 h3
   have ha:atL f g x (i+1)=atL f g x i++[i]:=by simp only [atL];rw [if_pos ⟨h1,h2,h3⟩]
   have a:(atL f g x (i+1)).length=(atL f g x i).length+1:=by rw [ha];simp
   have u:gV (atL f g x (i+1))=gV (atL f g x i)++[.i (i:Int)]:=by rw [ha];simp [gV]
   exact ⟨rfl,i+1,oO,oO,mD.src [.ro (ints l),.ro (dB s (rkV l 0 c) f g),.rw [.p 1]] [.gr (gV (atL f g x (i+1))) 3] [6] oS rfl (J3 l s c f g) rfl rfl ⟨Ir rfl (by rw [u];rfl) (pI _),trivial⟩ (by (repeat' (first|exact trivial|refine ⟨pq rfl rfl,?_⟩|refine ⟨kX (m:=3) rfl (fun i hi=>fJ hi) oS oR rfl,?_⟩|refine ⟨OC (by rw [a];rfl) oS rfl,?_⟩)))⟩
  all_goals
   have ha:atL f g x (i+1)=atL f g x i:=by simp only [atL];rw [if_neg oO]
   have a:(atL f g x (i+1)).length=(atL f g x i).length:=by rw [ha]
   exact ⟨rfl,i+1,oO,oO,mD.src [.ro (ints l),.ro (dB s (rkV l 0 c) f g),.rw [.p 1]] [.gr (gV (atL f g x (i+1))) 3] [3] oS rfl (J3 l s c f g) rfl rfl ⟨Ir rfl (by rw [ha];rfl) (pI _),trivial⟩ (by (repeat' (first|exact trivial|refine ⟨pq rfl rfl,?_⟩|refine ⟨kX (m:=3) rfl (fun i hi=>fJ hi) oS oR rfl,?_⟩|refine ⟨OC (by rw [a];rfl) oS rfl,?_⟩)))⟩
 ·obtain rfl:i=l.length:=oO
  have hL:=Pv (f:=f) (g:=g) (x:=x) (n:=l.length)
  have hleast:=abS (σ:=[.ro (ints l),.ro (dB s (rkV l 0 c) f g),.rw [.p 1],.gr (gV (atL f g x l.length)) 3]) (s:=s) (l:=l) (c:=c) (f:=f) (g:=g) (t:=0) (r:=1) (x:=2) (y:=3) (ks:=atL f g x l.length) (.inl rfl) (.inl rfl) (.inr (.inl rfl)) (.inr (.inr ⟨_,rfl⟩))
   (fun i hi=>by
    have h1:gn (atL f g x l.length) i ∈ atL f g x l.length:=by
     simp only [gn,cE];rw [cC hi];exact cQ hi
    have:=VI _ h1;omega) oO rfl
  have hl:=wL (fun i=>(f i).1) (atL f g x l.length) (atL f g x l.length).length
  have j:0<(atL f g x l.length).length→0≤fK (fun i=>(f i).1) (atL f g x l.length) (atL f g x l.length).length:=VH _ _
  unfold atV
  generalize fK (fun i=>(f i).1) (atL f g x l.length) (atL f g x l.length).length=L at hl hleast j ⊢
  have e:0≤L→L<(atL f g x l.length).length→aH [.ro (ints l),.ro (dB s (rkV l 0 c) f g),.rw [.p 1],.gr (gV (atL f g x l.length)) 3] 3 (L.toNat*1)=some (.i (gn (atL f g x l.length) L.toNat:Int)):=fun h1 h2=>by
   have:L.toNat<(atL f g x l.length).length:=oO
   simpa [aH] using AL this
  cases hm:(atL f g x l.length).length with
  |zero =>
   rw [hm] at hleast hl j
   have o:L<0:=oO
   rw [if_pos o]
   refine Pz ?_
   exact dM (.tmp rfl .nil) (.plain rfl rfl) ⟨rfl,rfl⟩
  |succ m =>
   rw [hm] at hleast hl j e
   have o:¬ L<0:=oO
   have q:=e oO oO
   rw [if_neg o]
   refine Pz ?_
   exact dM (.tmp rfl .nil) (.plain rfl rfl) ⟨rfl,rfl⟩
theorem at_ev {σ:Heap} {s:St} {l:List Int} {c:Nat} {f:Nat→Int×Int} {g:Nat→Int} {x:Int} {t r:Nat} (ht:dP σ t (ints l)) (hr:dP σ r (dB s (rkV l t c) f g)) (h12:l.length≤12) (hx:0≤x) (hni:σ.all (fun o=>!aU o)=true) :
  Ev Tryz.prog 252 [.p r,.i x] σ (.i (bestF (lN f g) x l.length)) σ :=
 Ev.arrsP [ints l,dB s (rkV l 0 c) f g] [(t,ints l),(r,dB s (rkV l t c) f g)] (at_ok s l c f g x h12 hx)
  ⟨⟨ht,gJ.plain (bC l)⟩,⟨hr,wM (by simpa [bsR,rkV] using VQ.slice (q:=true) (n:=2) (ρ:=bsR [t,r]) 0 0 l.length c c (aD _) oO)⟩,trivial⟩
  ⟨by simpa [bsR] using VQ.ptr (q:=true) (n:=2) (ρ:=bsR [t,r]) 1 0 oO,.int _ _,trivial⟩ rfl hni
def gp (pl:List (Int×Int)) (i:Nat):Int×Int:=pl.getD i (0,0)
def dK (pl:List (Int×Int)):List Value:=pl.flatMap fun p=>[.int .i64 p.1,.int .i64 p.2]
theorem wO:∀ pl:List (Int×Int),(dK pl).length=pl.length*2
 |[]=>rfl
 |p::r=>by
  have:=wO r
  simp only [dK,List.flatMap_cons,aR,eg,eb] at this ⊢
  omega
theorem iy:∀ pl:List (Int×Int),dN (dK pl)=true
 |[]=>rfl
 |p::r=>by
  have:=iy r
  simpa [dK,dN,plain] using this
theorem zq:∀ {pl:List (Int×Int)} {i:Nat},i<pl.length→((dK pl).drop (i*2)).take 2=[.i (gp pl i).1,.i (gp pl i).2]
 |[],i,h=>by simp at h
 |p::r,0,h=>rfl
 |p::r,i+1,h=>by
  have:=zq (pl:=r) (i:=i) (oU h)
  rw [show (i+1)*2=i*2+2 from by omega]
  simpa [dK,gp] using this
theorem sW {pl:List (Int×Int)} {i:Nat} (h:i<pl.length):(dK pl)[i*2]?=some (.i (gp pl i).1):=by
 have h1:=zq h
 have:(((dK pl).drop (i*2)).take 2)[0]?=some (.i (gp pl i).1):=by rw [h1];rfl
 simpa [eE] using this
theorem BG {pl:List (Int×Int)} {i:Nat} (h:i<pl.length):(dK pl)[i*2+1]?=some (.i (gp pl i).2):=by
 have h1:=zq h
 have:(((dK pl).drop (i*2)).take 2)[1]?=some (.i (gp pl i).2):=by rw [h1];rfl
 simpa [eE] using this
def wP (short:Int) (pl:List (Int×Int)) (i:Nat):Int:=if i+1<pl.length then (gp pl (i+1)).1+1 else short
def PD (s:St) (n x:Int):Prop:=(x - s.off)*n≥s.lo∧(x+s.off)*n≤s.hi
instance (s:St) (n x:Int):Decidable (PD s n x):=by unfold PD;infer_instance
theorem zu {a n:Int} {A N:Int} (h:0≤a∧a≤A) (h':0≤n∧n≤N):0≤a*n∧a*n≤A*N :=
 ⟨er h.1 h'.1,fo h.2 h'.2 h'.1 oO⟩
theorem VJ {s:St} {n x:Int} (hs:¬ fD s) (hn:1≤n∧n≤10000) (hx:s.short≤x∧x≤s.long):((span s n).1≤x∧x≤(span s n).2)↔PD s n x:=by
 unfold fD at hs
 unfold span PD
 simp only
 have d1:(s.lo+n - 1).tdiv n=(s.lo+n - 1) / n:=cL oO
 have d2:s.hi.tdiv n=s.hi / n:=cL oO
 rw [d1,d2]
 have e1:(s.lo+n - 1) / n≤x - s.off↔(x - s.off)*n≥s.lo:=by
  rw [show ((s.lo+n - 1) / n≤x - s.off)↔(s.lo+n - 1) / n<x - s.off+1 from by omega,Int.ediv_lt_iff_lt_mul oO,Int.add_mul]
  omega
 have e2:x+s.off≤s.hi / n↔(x+s.off)*n≤s.hi:=Int.le_ediv_iff_mul_le oO
 omega
theorem PE (s:St) (n x:Int) (hs:¬ fD s) (hn:1≤n∧n≤10000) (hx:s.short≤x∧x≤s.long):Ev Tryz.prog 68 [s.val,.i n,.i x] [] (.bool (decide (PD s n x))) []:=by
 have c:=hs
 unfold fD at c
 have m1:=zu (a:=x - s.off) (n:=n) (A:=100000) (N:=10000) oO oO
 have m2:=zu (a:=x+s.off) (n:=n) (A:=200000) (N:=10000) oO oO
 refine aI 0 29 Tryz.func68 rfl rfl rfl rfl rfl ?_
 repeat' (first|refine sCm ?_|(refine gU ?_;first|(refine bW ?_;refine st (aJ rfl oR) rfl rfl ?_)|(refine CJ ?_;refine st (jB rfl rfl oO oO) rfl rfl ?_)|(refine aat ?_;refine st (zX rfl rfl oO oO) rfl rfl ?_)|(refine kQ ?_;first|refine st (jH rfl rfl) rfl rfl ?_|refine st (gW rfl rfl) rfl rfl ?_))|(refine gG ?_;first|(refine kP ?_;refine iI rfl (bV rfl) rfl rfl ?_)|(refine gFA ?_;refine iI rfl (aW rfl) rfl rfl ?_)|(refine bW ?_;refine iI rfl (aJ rfl oR) rfl rfl ?_)|(refine yD ?_;refine iI rfl (kK rfl rfl oO oO) rfl rfl ?_)|(refine aat ?_;refine iI rfl (zX rfl rfl oO oO) rfl rfl ?_)|(refine nK ?_;refine iI rfl (fE rfl rfl rfl) rfl rfl ?_)|refine Sj rfl rfl ?_|((fail_if_success (refine stGkA rfl ?_));(refine Aa rfl ?_ ?_ <;> intro _)))|refine aG ?_)
 ·rename_i hq
  refine dM (.tmp rfl .nil) (.plain rfl rfl) ⟨?_,rfl⟩
  have:PD s n x↔(x+s.off)*n≤s.hi:=⟨fun h=>h.2,fun h=>⟨hq,h⟩⟩
  simp only [kL,this]
 ·rename_i hq
  refine dM (.tmp rfl .nil) (.plain rfl rfl) ⟨?_,rfl⟩
  rw [decide_eq_false (fun h:PD s n x=>hq h.1)];rfl
theorem Ep {σ:Heap} {s:St} {n x:Int} (hs:¬ fD s) (hn:1≤n∧n≤10000) (hx:s.short≤x∧x≤s.long) (hni:σ.all (fun o=>!aU o)=true):Ev Tryz.prog 68 [s.val,.i n,.i x] σ (.bool (decide (PD s n x))) σ :=
 Ev.nil (PE s n x hs hn hx) rfl rfl hni
theorem Zg (s:St) (pl:List (Int×Int)) (c i:Nat) (hi:i<pl.length) (h20:pl.length≤1000000) (hb:∀ i<pl.length,-1000000≤(gp pl i).1∧(gp pl i).1≤1000000) :
  Ev Tryz.prog 16 [s.val,.s 0 pl.length c,.i (i:Int)] [.ro (dK pl)] (.i (wP s.short pl i)) [.ro (dK pl)]:=by
 have hb1:i+1<pl.length→-1000000≤(gp pl (i+1)).1∧(gp pl (i+1)).1≤1000000:=fun h=>hb _ h
 have a:i+1<pl.length→aH [.ro (dK pl),.rw s.cells] 0 (0+(i+1)*2+0)=some (.i (gp pl (i+1)).1):=fun h=>by simpa [aH] using sW h
 refine aI 1 21 Tryz.func16 rfl rfl rfl rfl rfl ?_
 repeat' (first|refine sCm ?_|(refine gU ?_;first|(refine bW ?_;refine st (aJ rfl (by first|rfl|exact a oO)) rfl rfl ?_)|(refine yD ?_;refine st (kK rfl rfl oO oO) rfl rfl ?_)|(refine gIA ?_;refine st (eY rfl rfl oO) rfl rfl ?_))|refine aG ?_|(refine ji rfl ?_ ?_ <;> intro _))
 ·rename_i hq
  refine dM (.tmp rfl .nil) (.plain rfl rfl) ⟨?_,rfl⟩
  unfold wP;rw [if_pos oO];rfl
 ·rename_i hq
  refine dM (.tmp rfl .nil) (.plain rfl rfl) ⟨?_,rfl⟩
  unfold wP;rw [if_neg oO];rfl
theorem Ny {σ:Heap} {s:St} {pl:List (Int×Int)} {y c i:Nat} (hy:dP σ y (dK pl)) (hi:i<pl.length) (h20:pl.length≤1000000) (hb:∀ i<pl.length,-1000000≤(gp pl i).1∧(gp pl i).1≤1000000) (hni:σ.all (fun o=>!aU o)=true) :
  Ev Tryz.prog 16 [s.val,.s y pl.length c,.i (i:Int)] σ (.i (wP s.short pl i)) σ :=
 Ev.arrs [dK pl] [y] (Zg s pl c i hi h20 hb) ⟨hy,trivial⟩ ⟨aZ _ rfl,by simpa [bsR] using VQ.slice (q:=true) (n:=1) (ρ:=bsR [y]) 0 0 pl.length c c (aD _) oO,aZ _ rfl,trivial⟩ (by simp [iy]) rfl hni
theorem Zh (s:St) (l:List Int) (tc:Nat) (f:Nat→Int×Int) (g:Nat→Int) (pl:List (Int×Int)) (c i:Nat) (hi:i<pl.length) (h20:pl.length≤1000000) (hb:∀ i<pl.length,-1000000≤(gp pl i).1∧(gp pl i).1≤1000000) :
  Ev Tryz.prog 72 [.p 1,.s 2 pl.length c,.i (i:Int)] [.ro (ints l),.ro (dB s (rkV l 0 tc) f g),.ro (dK pl)] (.i (wP s.short pl i)) [.ro (ints l),.ro (dB s (rkV l 0 tc) f g),.ro (dK pl)]:=by
 have hb1:i+1<pl.length→-1000000≤(gp pl (i+1)).1∧(gp pl (i+1)).1≤1000000:=fun h=>hb _ h
 have a:i+1<pl.length→aH [.ro (ints l),.ro (dB s (rkV l 0 tc) f g),.ro (dK pl)] 2 (0+(i+1)*2+0)=some (.i (gp pl (i+1)).1):=fun h=>by simpa [aH] using sW h
 refine aI 3 24 Tryz.func72 rfl rfl rfl rfl rfl ?_
 repeat' (first|refine sCm ?_|(refine gU ?_;first|(refine bW ?_;refine st (aJ rfl (by first|rfl|exact a oO)) rfl rfl ?_)|(refine yD ?_;refine st (kK rfl rfl oO oO) rfl rfl ?_)|(refine CJ ?_;refine st (jB rfl rfl oO oO) rfl rfl ?_)|(refine gIA ?_;refine st (eY rfl rfl oO) rfl rfl ?_))|refine aG ?_|(refine ji rfl ?_ ?_ <;> intro _))
 ·rename_i hq
  refine dM (.tmp rfl .nil) (.plain rfl rfl) ⟨?_,rfl⟩
  unfold wP;rw [if_neg oO];rfl
 ·rename_i hq
  refine dM (.tmp rfl .nil) (.plain rfl rfl) ⟨?_,rfl⟩
  unfold wP;rw [if_pos oO];rfl
theorem Nz {σ:Heap} {s:St} {l:List Int} {tc:Nat} {f:Nat→Int×Int} {g:Nat→Int} {pl:List (Int×Int)} {t r y c i:Nat} (ht:dP σ t (ints l)) (hr:dP σ r (dB s (rkV l t tc) f g)) (hy:dP σ y (dK pl)) (hi:i<pl.length)
  (h20:pl.length≤1000000) (hb:∀ i<pl.length,-1000000≤(gp pl i).1∧(gp pl i).1≤1000000) (hni:σ.all (fun o=>!aU o)=true) :
  Ev Tryz.prog 72 [.p r,.s y pl.length c,.i (i:Int)] σ (.i (wP s.short pl i)) σ :=
 Ev.arrsP [ints l,dB s (rkV l 0 tc) f g,dK pl] [(t,ints l),(r,dB s (rkV l t tc) f g),(y,dK pl)] (Zh s l tc f g pl c i hi h20 hb)
  ⟨⟨ht,gJ.plain (bC l)⟩,⟨hr,wM (by simpa [bsR,rkV] using VQ.slice (q:=true) (n:=3) (ρ:=bsR [t,r,y]) 0 0 l.length tc tc (aD _) oO)⟩,⟨hy,gJ.plain (iy pl)⟩,trivial⟩
  ⟨by simpa [bsR] using VQ.ptr (q:=true) (n:=3) (ρ:=bsR [t,r,y]) 1 0 oO,by simpa [bsR] using VQ.slice (q:=true) (n:=3) (ρ:=bsR [t,r,y]) 2 0 pl.length c c (aD _) oO,.int _ _,trivial⟩ rfl hni
end Go.Proofs.YtajpgeklmcjciaaGreat
namespace Go.AH
open Go
variable {n0:Nat} {σ:Heap} {e e2:Env}
end Go.AH
namespace Go.Proofs.YtajpgeklmcjciaaGreat
open Go Go.AH
attribute [local irreducible] dA bP bT jL gX dQ fF bZ fB aY dY fA
def grd (F:Nat→Int×Int) (n:Nat) (to:Int):Nat→Int→List (Int×Int)×Int
 |0,x=>([],x)
 |k+1,x=>if x<to∨bestF F x n<0 then ([],x) else ((x,bestF F x n)::(grd F n to k ((F (bestF F x n).toNat).1 - 1)).1,(grd F n to k ((F (bestF F x n).toNat).1 - 1)).2)
def qX (F:Nat→Int×Int) (n:Nat) (from_ to:Int):List (Int×Int)×Int:=grd F n to (from_ - to+1).toNat from_
theorem J4 {F:Nat→Int×Int} {n:Nat} {to:Int} {x:Int} (h:x<to∨bestF F x n<0):∀ k,grd F n to k x=([],x)
 |0=>rfl
 |k+1=>by simp only [grd];rw [if_pos h]
def PG (F:Nat→Int×Int) (n:Nat) (from_ to:Int) (pl:List (Int×Int)) (x:Int):Prop :=
 ∃ k:Nat,x<to+k∧qX F n from_ to=(pl++(grd F n to k x).1,(grd F n to k x).2)
theorem PG.start {F:Nat→Int×Int} {n:Nat} {from_ to:Int}:PG F n from_ to [] from_:=⟨_,oO,rfl⟩
theorem PG.stop {F:Nat→Int×Int} {n:Nat} {from_ to:Int} {pl:List (Int×Int)} {x:Int} (h:PG F n from_ to pl x) (hs:x<to∨bestF F x n<0):qX F n from_ to=(pl,x):=by
 obtain ⟨k,_,h⟩:=h
 rw [h,J4 hs k];simp
theorem PG.step {F:Nat→Int×Int} {n:Nat} {from_ to:Int} {pl:List (Int×Int)} {x:Int} (h:PG F n from_ to pl x) (h1:¬ x<to) (h2:¬ bestF F x n<0):PG F n from_ to (pl++[(x,bestF F x n)]) ((F (bestF F x n).toNat).1 - 1):=by
 obtain ⟨k,hk,h⟩:=h
 have hlo:(F (bestF F x n).toNat).1≤x:=by
  rcases AO F x n with ⟨h3,_⟩|⟨b,_,h3,h4,_⟩
  ·omega
  ·rw [h3];exact h4
 cases k with
 |zero=>omega
 |succ k =>
  refine ⟨k,oO,?_⟩
  rw [h]
  simp only [grd]
  rw [if_neg oO]
  simp
theorem NC {σ:Heap} {s:St} {tv:Value} {f:Nat→Int×Int} {g:Nat→Int} {r i:Nat} (h:dP σ r (dB s tv f g)) (hi:i<12):aH σ r (6+i*2)=some (.i (f i).1):=by
 have h2:=XQ (s:=s) (tv:=tv) (f:=f) (g:=g) hi
 unfold aH
 rcases h with h|h|⟨t,h⟩ <;> rw [h] <;> exact h2
theorem Zi {pl:List (Int×Int)} {p:Int×Int}:dK (pl++[p])=dK pl++[.i p.1,.i p.2]:=by simp [dK]
theorem aes (s:St) (l:List Int) (c:Nat) (f:Nat→Int×Int) (g:Nat→Int) (x:Int) :
  Ev Tryz.prog 164 [.p 1,.i x] [.ro (ints l),.ro (dB s (rkV l 0 c) f g)] (.func (.func 251) #[] #[.p 3,.p 2]) [.ro (ints l),.ro (dB s (rkV l 0 c) f g),.rw [.p 1],.rw [.i x]]:=by
 refine aI 2 6 Tryz.func164 rfl rfl rfl rfl rfl ?_
 repeat' (first|refine sCm ?_|(refine gU ?_;(refine EX ?_;refine st (iO rfl rfl) rfl rfl ?_))|refine aG ?_)
 exact dM (.tmp rfl .nil) .all ⟨rfl,rfl⟩
theorem aeu {σ:Heap} {s:St} {l:List Int} {c:Nat} {f:Nat→Int×Int} {g:Nat→Int} {x:Int} {t r:Nat} (ht:dP σ t (ints l)) (hr:dP σ r (dB s (rkV l t c) f g)) (hni:σ.all (fun o=>!aU o)=true) :
  Ev Tryz.prog 164 [.p r,.i x] σ (.func (.func 251) #[] #[.p (σ.length+1),.p σ.length]) (σ++[.rw [.p r],.rw [.i x]]):=by
 refine Ev.arrsR (news:=[.rw [.p 1],.rw [.i x]]) [ints l,dB s (rkV l 0 c) f g] [(t,ints l),(r,dB s (rkV l t c) f g)] (aes s l c f g x)
  ⟨⟨ht,gJ.plain (bC l)⟩,⟨hr,wM (by simpa [bsR,rkV] using VQ.slice (q:=true) (n:=2) (ρ:=bsR [t,r]) 0 0 l.length c c (aD _) oO)⟩,trivial⟩
  ⟨by simpa [bsR] using VQ.ptr (q:=true) (n:=2) (ρ:=bsR [t,r]) 1 0 oO,.int _ _,trivial⟩ rfl ?_ ?_ hni
 ·simp [ren,zQ,yS,shf]
 ·simp [CS,ren,yS,shf,bsR]
theorem H10 {σ:Heap} (l:List Int) (s:St) (c:Nat) (f:Nat→Int×Int) (g:Nat→Int) {to x from_:Int} {pl:List (Int×Int)} {L:aB} {j:Nat} {q:Nat}
  (h0:σ[0]?=some (.ro (ints l))) (h1:σ[1]?=some (.ro (dB s (rkV l 0 c) f g))) (h2:σ[2]?=some (.rw [.p 1])) (h3:σ[3]?=some (.rw [.i to])) (h4:σ[4]?=some (.rw [eu j 2 pl.length]))
  (h5:σ[5]?=some (.rw [.i x])) (h6:σ[6]?=some (.rw [.p 1])) (h7:σ[7]?=some (.rw [.i from_])) (h8:σ[8]?=some .dfr) (h9:σ[9]?=some L) (hj:q=j) (hL:gq 10 L) (hg:yC σ 11 (fV 10 [q]) (fV 10 [q] 10) (.gr (dK pl) 39)) :
  DX σ 11 (fV 10 [q]) 0 [.ro (ints l),.ro (dB s (rkV l 0 c) f g),.rw [.p 1],.rw [.i to],.rw [eu 10 2 pl.length],.rw [.i x],.rw [.p 1],.rw [.i from_],.dfr,L,.gr (dK pl) 39]:=by
 subst hj
 exact ⟨ql oO oO h0 (aX (bC l)),ql oO oO h1 (jy (dO oS).1 (dO (n:=1) oS).2),ql oO oO h2 ⟨rfl,rfl⟩,ql oO oO h3 ⟨rfl,rfl⟩,
  Zc rfl h4 oO rfl,ql oO oO h5 ⟨rfl,rfl⟩,ql oO oO h6 ⟨rfl,rfl⟩,ql oO oO h7 ⟨rfl,rfl⟩,ql oO oO h8 trivial,ql oO oO h9 hL,hg,trivial⟩
theorem vw {A B:Prop} (k:B) (h:Hide B→A:=by intro h_k_;(repeat' (first|refine sCm ?_|(refine gU ?_;first|(refine bW ?_;refine st (aJ rfl (by first|rfl|exact NC (i:=b.toNat) (.inl rfl) (by omega))) rfl rfl ?_)|(refine CJ ?_;refine st (jB rfl rfl (by omega) (by omega)) rfl rfl ?_)|(refine kQ ?_;refine st (gW rfl rfl) rfl rfl ?_)|(refine gIA ?_;refine st (nY rfl rfl (by omega) (by omega)) rfl rfl ?_)|(refine eG ?_;refine st (bH rfl rfl rfl (by exact aeu (t:=0) (l:=l) (by exact .inl rfl) (by exact .inl rfl) rfl)) rfl rfl ?_)|(refine dZ ?_;refine stN (bF rfl rfl rfl rfl (by rfl)) rfl ?_))|(refine gG ?_;(refine rV ?_;refine iI rfl (lH rfl) rfl rfl ?_))|(refine fU ?_;first|(refine Ip ?_;refine frA (iZ rfl) rfl ?_)|(refine gY ?_;refine frA (aJ rfl (by rfl)) rfl ?_)|(refine EZ ?_;refine frA (fE rfl rfl rfl) rfl ?_))|(refine gu ⟨by kernel_rfl,?_⟩)|refine aG ?_|refine dI (by kernel_rfl) rfl ?_|refine eP rfl ?_|refine eU rfl ?_));exact h_k_.h):A:=h ⟨k⟩
theorem abT (s:St) (l:List Int) (c:Nat) (f:Nat→Int×Int) (g:Nat→Int) (from_ to:Int) (h12:l.length≤12) (hs:1≤s.short) (hto:s.short≤to) (hf1:s.short - 1≤from_) (hf2:from_≤100000)
  (hsp:∀ i<l.length,f i=nw∨s.short≤(f i).1) :
  Ev Tryz.prog 70 [.p 1,.i from_,.i to] [.ro (ints l),.ro (dB s (rkV l 0 c) f g)]
   (.tuple #[.s 2 (qX (lN f g) l.length from_ to).1.length (qX (lN f g) l.length from_ to).1.length,.bool (decide ((qX (lN f g) l.length from_ to).2<to))])
   [.ro (ints l),.ro (dB s (rkV l 0 c) f g),.rw (dK (qX (lN f g) l.length from_ to).1)]:=by
 refine aI 2 42 Tryz.func70 rfl rfl rfl rfl rfl ?_
 refine vw ?_
 refine W_st oS (.same (e2:=[(3,.p 2),(5,.p 3),(8,.p 4),(9,.p 5),(14,.func (.func 251) #[] #[.p 7,.p 6])]) tE) ?_
 refine kU (p:=[]) (q:=[.p 7,.p 6]) rfl fun L hL=>?_
 have z:gq 10 L:=by
  rw [hL]
  exact VB fun p hp=>by
   simp only [List.mem_cons,List.not_mem_nil,or_false] at hp
   rcases hp with rfl|rfl|rfl|rfl|rfl <;> exact ⟨rfl,rfl⟩
 have hLi:aU L=false:=by rw [hL];rfl
 refine aI 10 35 Tryz.func251 rfl rfl rfl rfl rfl ?_
 refine vw ?_
 refine jd (ι:=Int×List (Int×Int)) (fun p=>[(0,.func (.yield 9) #[] #[]),(1,.p 7),(2,.p 6),(4,.i p.1)])
  (fun p=>[.ro (ints l),.ro (dB s (rkV l 0 c) f g),.rw [.p 1],.rw [.i to],.rw [eu 10 2 p.2.length],.rw [.i p.1],.rw [.p 1],.rw [.i from_],.dfr,L,.gr (dK p.2) 39]) (fun p=>(p.1 - s.short+1).toNat)
  (fun p=>s.short - 1≤p.1∧p.1≤from_∧(p.2.length:Int)+p.1≤from_∧PG (lN f g) l.length from_ to p.2 p.1) (from_,[]) oS
  (mD.all _ 10 [10] oS rfl rfl (H10 l s c f g (j:=10) rfl rfl rfl rfl rfl rfl rfl rfl rfl rfl rfl z Jr) (by (repeat' (first|exact trivial|refine ⟨pq rfl rfl,?_⟩|refine ⟨kX (m:=10) rfl (fun i hi=>fJ hi) oS rfl rfl,?_⟩)))) ⟨oO,by simp,by simp,PG.start⟩ ?_
 rintro ⟨x,pl⟩ ⟨H,G,F,hP⟩
 dsimp only at H G F hP
 dsimp only
 by_cases hxs:x≥s.short
 ·have u:=at_ev (σ:=[.ro (ints l),.ro (dB s (rkV l 0 c) f g),.rw [.p 1],.rw [.i to],.rw [eu 10 2 pl.length],.rw [.i x],.rw [.p 1],.rw [.i from_],.dfr,L,.gr (dK pl) 39]) (s:=s) (l:=l) (c:=c) (f:=f) (g:=g) (x:=x) (t:=0) (r:=1) (.inl rfl) (.inl rfl) h12 oO (by rw [hL];rfl)
  have hb:=AO (lN f g) x l.length
  have E:=JZ (lN f g) x l.length
  have d:=fun h1 h2=>hP.step h1 h2
  have a:=fun h=>hP.stop h
  generalize bestF (lN f g) x l.length=b at u hb E d a
  have o:¬ b<0→s.short≤(f b.toNat).1∧(f b.toNat).1≤x∧lN f g b.toNat=f b.toNat:=fun e=>by
   rcases hb with ⟨h1,_⟩|⟨b',D,h0,h1,h2,_⟩
   ·exact absurd h1 (by clear u;omega)
   ·have e0:b.toNat=b':=by clear u;omega
    rw [e0]
    have hm:lN f g b'=f b':=by
     unfold lN at h1 h2 ⊢
     split
     ·rfl
     ·rename_i hg;rw [if_neg hg] at h1;simp only at h1;omega
    rw [hm] at h1
    refine ⟨?_,h1,hm⟩
    rcases hsp b' D with h3|h3
    ·rw [h3] at h1;simp only at h1;omega
    ·exact h3
  have w:¬ b<0→s.short≤(f b.toNat).1∧(f b.toNat).1≤x:=fun h=>⟨(o h).1,(o h).2.1⟩
  replace o:=Hide.mk o
  replace hb:=Hide.mk hb
  replace d:=Hide.mk d
  replace a:=Hide.mk a
  repeat' (first|refine sCm ?_|(refine gU ?_;first|(refine bW ?_;refine st (aJ rfl oR) rfl rfl ?_)|(refine kQ ?_;refine st (jH rfl rfl) rfl rfl ?_)|(refine eG ?_;refine st (bH rfl rfl rfl (by exact u)) rfl rfl ?_))|(refine gG ?_;first|(refine kP ?_;refine iI rfl (bV rfl) rfl rfl ?_)|(refine oQ ?_;refine iI rfl (iE oR rfl oR) rfl rfl ?_)|refine Sj rfl rfl ?_|((fail_if_success (refine stGkA rfl ?_));(refine Aa rfl ?_ ?_ <;> intro _)))|refine aG ?_|refine eP rfl ?_)
  ·rename_i e
   rw [a.h (.inr e)]
   refine dM .nil .all ⟨_,_,_,_,_,_,_,by rw [hL];rfl,by simp,?_⟩
   dsimp only
   refine vw ?_
   refine ret1 rfl (.tmp rfl (.tmp rfl .nil)) (.src [.rw (dK pl)] [10] rfl rfl rfl ⟨yH (m:=2) rfl (.inr ⟨_,rfl⟩) (fun i hi=>fJ hi) (cA rfl) (aX (iy pl)).1 (aX (n:=2) (iy pl)).2,trivial⟩ (v2:=.tuple #[.s 2 pl.length pl.length,.bool (decide (x<to))]) ?_) ⟨rfl,rfl⟩
   refine .tuple _ _ rfl fun i hi _=>?_
   match i,hi with
   |0,_=>exact kG oS rfl
   |1,_=>exact .bool _
  ·rename_i e
   refine Fg (l:=9) rfl rfl (by rw [hL];rfl) rfl rfl rfl (fun _ _ _ _ he=>zh (b:=true) (by rw [y5 (b:=decide (b<0)) rfl,decide_eq_false e];rfl) he) ?_
   refine vw ?_
   refine Sr (by rw [hL];rfl) ?_
   have hlen:(dK pl).length=pl.length*2:=wO pl
   repeat' (first|refine sCm ?_|(refine gU ?_;first|(refine bW ?_;refine st (aJ rfl oR) rfl rfl ?_)|(refine gApp ?_;refine st (jh oR oR rfl oR oA rfl oR oO oR oO oO) rfl rfl ?_)|(refine dZ ?_;refine stN (bF rfl rfl rfl rfl oR) rfl ?_))|(refine fU ?_;first|(refine fFA ?_;refine frA (aW rfl) rfl ?_)|(refine gY ?_;first|refine frA (aJ rfl (by first|rfl|exact NC (i:=b.toNat) (.inl rfl) oO)) rfl ?_|refine frA (bD rfl oR) rfl ?_)|(refine fSub ?_;refine frA (jB rfl rfl oO oO) rfl ?_)|(refine QX ?_;refine frA (OA rfl) rfl ?_)|(refine Oz ?_;refine frA (kE rfl) rfl ?_)|(refine fIA ?_;refine frA (nY rfl rfl oO oO) rfl ?_)|(refine agf ?_;refine frA (y7 rfl rfl rfl) rfl ?_)|(refine xA ?_;refine frN (fO oR oR oR oR rfl oR) lS rfl rfl rfl ?_))|(refine gu ⟨oK,?_⟩)|refine aG ?_|refine dI oK rfl ?_|refine DL rfl ?_|(refine ji rfl ?_ ?_ <;> intro _))
   ·rename_i v
    rw [a.h (.inl v)]
    refine abG rfl rfl ?_
    refine vw ?_
    refine dM .nil .all ⟨_,_,_,_,_,_,_,rfl,by simp,?_⟩
    dsimp only
    refine vw ?_
    refine ret1 rfl (.tmp rfl (.tmp rfl .nil)) (.src [.rw (dK pl)] [10] rfl rfl rfl ⟨yH (m:=2) rfl (.inr ⟨_,rfl⟩) (fun i hi=>fJ hi) (cA rfl) (aX (iy pl)).1 (aX (n:=2) (iy pl)).2,trivial⟩ (v2:=.tuple #[.s 2 pl.length pl.length,.bool (decide (x<to))]) ?_) ⟨rfl,rfl⟩
    refine .tuple _ _ rfl fun i hi _=>?_
    match i,hi with
    |0,_=>exact kG oS rfl
    |1,_=>exact .bool _
   ·rename_i v
    refine yL rfl rfl ?_
    refine vw ?_
    have I:=(o.h e).2.2
    have hfb2:=w e
    have y:(pl++[(x,b)]).length=pl.length+1:=oS
    have C:=d.h v e
    rw [I] at C
    clear hb d a o
    exact ⟨rfl,((f b.toNat).1 - 1,pl++[(x,b)]),⟨by simp only;omega,by simp only;omega,by simp only [y];omega,C⟩,by simp only;omega,
     mD.all _ 10 [13] oS rfl rfl (H10 l s c f g (j:=13) rfl rfl rfl rfl (by rw [y];rfl) rfl rfl rfl rfl (by rw [hL];rfl) rfl z (Ir rfl (by rw [Zi];rfl) (iy _))) (by (repeat' (first|exact trivial|refine ⟨pq rfl rfl,?_⟩|refine ⟨kX (m:=10) rfl (fun i hi=>fJ hi) oS rfl rfl,?_⟩)))⟩
 ·rw [hP.stop (.inl oO)]
  refine vw ?_
  refine UL .nil .all ⟨_,_,_,_,_,_,_,by rw [hL];rfl,by simp,?_⟩
  dsimp only
  refine vw ?_
  refine ret1 rfl (.tmp rfl (.tmp rfl .nil)) (.src [.rw (dK pl)] [10] rfl rfl rfl ⟨yH (m:=2) rfl (.inr ⟨_,rfl⟩) (fun i hi=>fJ hi) (cA rfl) (aX (iy pl)).1 (aX (n:=2) (iy pl)).2,trivial⟩ (v2:=.tuple #[.s 2 pl.length pl.length,.bool (decide (x<to))]) ?_) ⟨rfl,rfl⟩
  refine .tuple _ _ rfl fun i hi _=>?_
  match i,hi with
  |0,_=>exact kG oS rfl
  |1,_=>exact .bool _
end Go.Proofs.YtajpgeklmcjciaaGreat
namespace Go.AH
open Go
end Go.AH
namespace Go.Proofs.YtajpgeklmcjciaaGreat
open Go Go.AH
attribute [local irreducible] dA bP bT jL gX dQ fF bZ fB aY dY fA
theorem GZ {F F':Nat→Int×Int} {x:Int}:∀ {n:Nat},(∀ i<n,((F i).1≤x∧x≤(F i).2→F' i=F i)∧((F' i).1≤x∧x≤(F' i).2→F i=F' i))→bestF F x n=bestF F' x n∧(0≤bestF F x n→F (bestF F x n).toNat=F' (bestF F x n).toNat)
 |0,_=>⟨rfl,fun h=>by simp [bestF] at h⟩
 |n+1,h=>by
  obtain ⟨e1,e2⟩:=GZ (F:=F) (F':=F') (x:=x) (n:=n) fun i hi=>h i oO
  obtain ⟨h1,h2⟩:=h n oO
  have hb:=JZ F x n
  simp only [bestF]
  rw [← e1]
  generalize bestF F x n=b at e1 e2 hb ⊢
  by_cases hn:(F n).1≤x∧x≤(F n).2
  ·have e3:=h1 hn
   rw [e3]
   by_cases a:b<0
   ·rw [if_pos ⟨hn,.inl a⟩,if_pos ⟨hn,.inl a⟩]
    exact ⟨rfl,fun _=>by rw [cN];exact e3.symm⟩
   ·rw [e2 oO]
    by_cases c:(F n).1<(F' b.toNat).1
    ·rw [if_pos ⟨hn,.inr c⟩]
     exact ⟨rfl,fun _=>by rw [cN];exact e3.symm⟩
    ·rw [if_neg fun hc=>hc.2.elim a c]
     exact ⟨rfl,fun _=>e2 oO⟩
  ·have d:¬ ((F' n).1≤x∧x≤(F' n).2):=fun hc=>hn (by rw [h2 hc];exact hc)
   rw [if_neg fun hc=>hn hc.1,if_neg fun hc=>d hc.1]
   exact ⟨rfl,e2⟩
theorem ND {F F':Nat→Int×Int} {n:Nat} {to:Int} (h:∀ x,to≤x→∀ i<n,((F i).1≤x∧x≤(F i).2→F' i=F i)∧((F' i).1≤x∧x≤(F' i).2→F i=F' i)):∀ (k:Nat) (x:Int),grd F n to k x=grd F' n to k x
 |0,x=>rfl
 |k+1,x=>by
  simp only [grd]
  by_cases hx:x<to
  ·rw [if_pos (.inl hx),if_pos (.inl hx)]
  ·obtain ⟨e1,e2⟩:=GZ (h x oO)
   rw [← e1]
   by_cases hb:bestF F x n<0
   ·rw [if_pos (.inr hb),if_pos (.inr hb)]
   ·rw [if_neg oO,if_neg oO,e2 oO,ND h k]
theorem Zj {s:St} {l:List Int} {from_ to:Int}:qX (lN (dS s l) fun _=>0) l.length from_ to=qX (sp s l) l.length from_ to:=by
 refine ND (fun x hx i hi=>⟨fun h=>?_,fun h=>?_⟩) _ _
 ·have hm:lN (dS s l) (fun _=>0) i=dS s l i:=if_pos rfl
  rw [hm] at h ⊢
  exact (XY hi h).symm
 ·have hm:lN (dS s l) (fun _=>0) i=dS s l i:=if_pos rfl
  rw [hm]
  exact Pq hi h
def Df (P:List (Int×Int)×Int) (to:Int):List (Int×Int):=if P.2<to then P.1 else []
theorem abU {σ:Heap} {s:St} {l:List Int} {c:Nat} {f:Nat→Int×Int} {g:Nat→Int} {from_ to:Int} {t r:Nat} (htt:dP σ t (ints l)) (hrr:dP σ r (dB s (rkV l t c) f g)) (h12:l.length≤12) (hs:1≤s.short) (hto:s.short≤to) (hf1:s.short - 1≤from_) (hf2:from_≤100000)
  (hsp:∀ i<l.length,f i=nw∨s.short≤(f i).1) (hni:σ.all (fun o=>!aU o)=true) :
  Ev Tryz.prog 70 [.p r,.i from_,.i to] σ
   (.tuple #[.s σ.length (qX (lN f g) l.length from_ to).1.length (qX (lN f g) l.length from_ to).1.length,.bool (decide ((qX (lN f g) l.length from_ to).2<to))])
   (σ++[.rw (dK (qX (lN f g) l.length from_ to).1)]):=by
 refine Ev.arrsR (news:=[.rw (dK (qX (lN f g) l.length from_ to).1)]) [ints l,dB s (rkV l 0 c) f g] [(t,ints l),(r,dB s (rkV l t c) f g)] (abT s l c f g from_ to h12 hs hto hf1 hf2 hsp)
  ⟨⟨htt,gJ.plain (bC l)⟩,⟨hrr,wM (by simpa [bsR,rkV] using VQ.slice (q:=true) (n:=2) (ρ:=bsR [t,r]) 0 0 l.length c c (aD _) oO)⟩,trivial⟩
  ⟨by simpa [bsR] using VQ.ptr (q:=true) (n:=2) (ρ:=bsR [t,r]) 1 0 oO,.int _ _,.int _ _,trivial⟩ rfl ?_ ?_ hni
 ·simp [ren,zQ,yS,shf]
 ·simp only [cG,dz,CS,wo _ (iy _)]
def zL (s:St) (l:List Int):Int:=if iL s l ≠ 0 then iL s l else if (qX (sp s l) l.length s.long s.short).2<s.short then 0 else 19
def wQ (s:St) (l:List Int):List (Int×Int):=if iL s l ≠ 0 then [] else Df (qX (sp s l) l.length s.long s.short) s.short
theorem Zk {s:St} {l:List Int}:∀ i<l.length,dS s l i=nw∨s.short≤(dS s l i).1:=fun i hi=>by
 rcases Zf (s:=s) i hi with h|h
 ·exact .inl h
 ·exact .inr h.1
theorem SK (s:St) (l:List Int) (c:Nat) (hN:l.length≤1000000) (hr:-9223372036854775808≤s.short∧s.short≤9223372036854775807) :
  Ev Tryz.prog 14 [s.val,.s 0 l.length c] [.ro (ints l)] (.tuple #[.s 1 (wQ s l).length (wQ s l).length,.i (zL s l)]) [.ro (ints l),.rw (dK (wQ s l))]:=by
 unfold zL wQ
 by_cases h:iL s l=0
 ·obtain ⟨m,h1,hs,ht⟩:=nR h
  have e:1≤s.short:=by unfold fD at hs;omega
  have hs2:s.short≤s.long:=by unfold fD at hs;omega
  have d:s.long≤100000:=by unfold fD at hs;omega
  rw [if_neg oO,if_neg oO]
  have a:=abU (σ:=[.ro (ints l),.rw s.cells,.rw (dB s (.s 0 l.length c) (dS s l) fun _=>0)]) (s:=s) (l:=l) (c:=c) (f:=dS s l) (g:=fun _=>0) (from_:=s.long) (to:=s.short) (t:=0) (r:=2) (.inl rfl) (.inr (.inl rfl)) m e (dE _) oO d Zk rfl
  rw [Zj] at a
  generalize qX (sp s l) l.length s.long s.short=P at a ⊢
  refine aI 1 31 Tryz.func14 rfl rfl rfl rfl rfl ?_
  repeat' (first|refine sCm ?_|(refine gU ?_;first|(refine bW ?_;first|refine st (aJ rfl oR) rfl rfl ?_|refine st (bD rfl oR) rfl rfl ?_)|(refine rV ?_;refine st (nU rfl) rfl rfl ?_)|(refine eG ?_;refine st (bH rfl rfl rfl (by first|exact Nw (by exact .inl rfl) oA oA rfl|exact a)) rfl rfl ?_))|refine aG ?_|refine eU rfl ?_|(refine ji rfl ?_ ?_ <;> intro _))
  ·rename_i hq
   refine dM (.tmp rfl (.tmp rfl .nil)) (abH rfl rfl) ⟨?_,?_⟩
   ·unfold Df;rw [if_neg oO,if_neg oO];rfl
   ·unfold Df;rw [if_neg oO];rfl
  ·rename_i hq
   refine dM (.tmp rfl (.tmp rfl .nil)) (agX (j:=3) rfl (iy P.1) (.inl rfl) rfl rfl (aD _)) ⟨?_,?_⟩
   ·unfold Df;rw [if_pos oO,if_pos oO];rfl
   ·unfold Df;rw [if_pos oO];rfl
 ·have h':iL s l ≠ 0:=h
  rw [if_pos h',if_pos h']
  refine aI 1 31 Tryz.func14 rfl rfl rfl rfl rfl ?_
  repeat' (first|refine sCm ?_|(refine gU ?_;first|(refine bW ?_;refine st (bD rfl oR) rfl rfl ?_)|(refine eG ?_;refine st (bH rfl rfl rfl (by exact JX (by exact .inl rfl) oA oA oA rfl)) rfl rfl ?_))|refine aG ?_|refine eP rfl ?_)
  exact dM (.tmp rfl (.tmp rfl .nil)) (abH rfl rfl) ⟨rfl,rfl⟩
theorem SL {σ:Heap} {s:St} {l:List Int} {a c:Nat} (hx:dP σ a (ints l)) (hN:l.length≤1000000) (hr:-9223372036854775808≤s.short∧s.short≤9223372036854775807) (hni:σ.all (fun o=>!aU o)=true) :
  Ev Tryz.prog 14 [s.val,.s a l.length c] σ (.tuple #[.s σ.length (wQ s l).length (wQ s l).length,.i (zL s l)]) (σ++[.rw (dK (wQ s l))]):=by
 refine Ev.arrsN [ints l] [a] (news:=[.rw (dK (wQ s l))]) (SK s l c hN hr) ⟨hx,trivial⟩ ⟨aZ _ rfl,by simpa [bsR] using VQ.slice (q:=true) (n:=1) (ρ:=bsR [a]) 0 0 l.length c c (aD _) oO,trivial⟩ (by simp [bC]) rfl ?_ ?_ hni
 ·simp [ren,zQ,yS,shf]
 ·simp only [cG,dz,CS,wo _ (iy _)]
def lF (s:St) (l:List Int) (pl:List (Int×Int)) (i:Nat):Prop :=
 (i=0∧(gp pl i).1 ≠ s.long)∨(0<i∧(gp pl i).1≥(gp pl (i - 1)).1)∨(gp pl i).1<s.short∨(gp pl i).2<0∨(gp pl i).2≥l.length
instance (s:St) (l:List Int) (pl:List (Int×Int)):DecidablePred (lF s l pl):=fun i=>by unfold lF;infer_instance
def inP (p:Int×Int) (x:Int):Prop:=p.1≤x∧x≤p.2
instance (p:Int×Int) (x:Int):Decidable (inP p x):=by unfold inP;infer_instance
def ou (s:St) (l:List Int) (pl:List (Int×Int)) (i:Nat):Prop:=¬ (inP (dS s l (gp pl i).2.toNat) (gp pl i).1∧inP (dS s l (gp pl i).2.toNat) (wP s.short pl i))
instance (s:St) (l:List Int) (pl:List (Int×Int)):DecidablePred (ou s l pl):=fun i=>by unfold ou;infer_instance
def sZ (s:St) (l:List Int) (pl:List (Int×Int)):Int :=
 if iL s l ≠ 0 then iL s l else if pl.length<1∨pl.length > 20 then 6 else if someB pl.length (lF s l pl)=true then 3 else if someB pl.length (ou s l pl)=true then 19 else 0
theorem oz {s:St} {l:List Int} {pl:List (Int×Int)}:∀ {k:Nat},(∀ j<k,¬ lF s l pl j)→∀ j<k,s.short≤(gp pl j).1∧(gp pl j).1≤s.long∧0≤(gp pl j).2∧(gp pl j).2<l.length∧(0<j→(gp pl j).1<(gp pl (j - 1)).1)
 |0,_,j,h=>by omega
 |k+1,hb,j,h=>by
  by_cases a:j<k
  ·exact oz (fun i hi=>hb i oO) j a
  ·obtain rfl:j=k:=oO
   have h1:=hb j oO
   unfold lF at h1
   by_cases h0:j=0
   ·subst h0;omega
   ·have:=oz (k:=j) (fun i hi=>hb i oO) (j - 1) oO
    omega
theorem PI {s:St} {l:List Int} {pl:List (Int×Int)} (hs:s.short≤s.long) (hb:∀ j<pl.length,¬ lF s l pl j) {i:Nat} (hi:i<pl.length):s.short≤wP s.short pl i∧wP s.short pl i≤(gp pl i).1:=by
 have h1:=oz hb i hi
 unfold wP
 split
 ·rename_i h
  have h2:=oz hb (i+1) h
  have h3:=h2.2.2.2.2 oO
  simp only [Nat.add_sub_cancel] at h3
  omega
 ·omega
theorem xH {p:Nat→Prop} {i:Nat} (h:∀ j<i,¬ p j) (hi:¬ p i):∀ j<i+1,¬ p j:=fun j hj=>by
 by_cases a:j<i
 ·exact h j a
 ·obtain rfl:j=i:=oO
  exact hi
theorem abV {s:St} {l:List Int} {k:Nat} {x:Int} (hs:¬ fD s) (hk:k<l.length) (hn:1≤gi l k∧gi l k≤10000) (hx:s.short≤x∧x≤s.long):inP (dS s l k) x↔PD s (gi l k) x:=by
 rw [← VJ hs hn hx]
 constructor
 ·intro h
  have:=XY hk h
  unfold inP at h;rw [this] at h;exact h
 ·intro h
  have:dS s l k=sp s l k:=Pq hk h
  unfold inP;rw [this];exact h
theorem zx {σ:Heap} {b i:Nat} {pl:List (Int×Int)} (h:dP σ b (dK pl)) (hi:i<pl.length):aK σ b (0+i*2) 2=some [.i (gp pl i).1,.i (gp pl i).2]:=by
 have h1:Nat.ble (i*2+2) (dK pl).length=true:=fq (by rw [wO];omega)
 have h2:=zq hi
 unfold aK
 rcases h with h|h|⟨t,h⟩ <;> rw [h] <;> simp only [bA,h1,h2,cond_true]
theorem X0 (l:List Int) (pl:List (Int×Int)) (s:St) (c:Nat) (f:Nat→Int×Int) (g:Nat→Int) :
  fP [aB.ro (ints l),.ro (dK pl),.rw s.cells,.rw (dB s (.s 0 l.length c) f g)].length [.ro (ints l),.ro (dK pl),.rw s.cells,.rw (dB s (.s 0 l.length c) f g)] :=
 ⟨aX (bC l),aX (iy pl),aX (qW s),jy (dO oS).1 (dO (n:=1) oS).2,trivial⟩
theorem PK {A B:Prop} (k:B) (h:Hide B→A:=by intro h_k_;(repeat' (first|(refine gU ?_;first|(refine kP ?_;refine st (bV rfl) rfl rfl ?_)|(refine pW ?_;refine st (iZ rfl) rfl rfl ?_)|(refine gFA ?_;refine st (aW rfl) rfl rfl ?_)|(refine bW ?_;first|refine st (aJ rfl (by rfl)) rfl rfl ?_|refine st (bD rfl (by rfl)) rfl rfl ?_)|(refine yD ?_;refine st (kK rfl rfl (by omega) (by omega)) rfl rfl ?_)|(refine nK ?_;refine st (fE rfl rfl rfl) rfl rfl ?_)|(refine wY ?_;refine st (jC rfl) rfl rfl ?_)|(refine kQ ?_;refine st (gW rfl rfl) rfl rfl ?_)|(refine QV ?_;refine st (Cm rfl rfl) rfl rfl ?_)|(refine eG ?_;refine st (bH rfl rfl rfl (by first|exact JX (by exact .inl rfl) (by assumption) (by assumption) (by assumption) rfl|exact Nw (by exact .inl rfl) (by assumption) (by assumption) rfl)) rfl rfl ?_)|(refine gBox ?_;refine st (Ou rfl) rfl rfl ?_))|(refine gG ?_;first|(refine kP ?_;refine iI rfl (bV rfl) rfl rfl ?_)|(refine nK ?_;refine iI rfl (fE rfl rfl rfl) rfl rfl ?_)|(refine wY ?_;refine iI rfl (jC rfl) rfl rfl ?_))|refine zU ?_|refine aG ?_|refine l9 ?_|refine uX ?_|refine tq_r ?_|refine YH ?_|refine wX ?_|refine bq_r ?_|refine CG rfl ?_|refine Ci ?_|refine zT ?_|refine MH ?_|refine tY ?_|refine eP rfl ?_|refine eU rfl ?_));exact h_k_.h):A:=h ⟨k⟩
def BX (s:St) (pl:List (Int×Int)):Nat→Int
 |0=>s.long+1
 |i+1=>(gp pl i).1
def abW (s:St) (l:List Int) (pl:List (Int×Int)):Value:=if someB pl.length (lF s l pl)=true then .tuple #[.pointer none,.int .i64 3] else if someB pl.length (ou s l pl)=true then .tuple #[.pointer none,.int .i64 19] else .tuple #[.pointer (some ⟨2,0,none⟩),.int .i64 0]
def abX (s:St) (l:List Int) (c:Nat) (pl:List (Int×Int)):Heap:=if someB pl.length (lF s l pl)=true then [.ro (ints l),.ro (dK pl)] else if someB pl.length (ou s l pl)=true then [.ro (ints l),.ro (dK pl)] else [.ro (ints l),.ro (dK pl),.rw (dB s (.slice (some ⟨0,0,none⟩) l.length c) (dS s l) fun _=>0)]
theorem SN (s:St) (l:List Int) (c:Nat) (pl:List (Int×Int)) (c2:Nat) (hr:-9223372036854775808≤s.short∧s.short≤9223372036854775807) (h:iL s l=0) (hp1:1≤pl.length) (hp2:pl.length≤20) :
  Ev Tryz.prog 71 [s.val,.s 0 l.length c,.s 1 pl.length c2] [.ro (ints l),.ro (dK pl)] (abW s l pl) (abX s l c pl):=by
 obtain ⟨h12,h1,hs,ht⟩:=nR h
 have hs1:1≤s.short:=by unfold fD at hs;omega
 have hs2:s.short≤s.long:=by unfold fD at hs;omega
 have hs3:s.long≤100000:=by unfold fD at hs;omega
 unfold abW abX
 refine aI 2 109 Tryz.func71 rfl rfl rfl rfl rfl ?_
 refine PK ?_
 refine jd (ι:=Nat) (fun i=>[(1,.s 0 l.length c),(2,.s 1 pl.length c2),(3,.p 2),(8,.p 3),(10,.i (BX s pl i)),(38,.s 1 pl.length c2),(39,.i (pl.length:Int)),(40,.i (i:Int))])
  (fun _=>[.ro (ints l),.ro (dK pl),.rw s.cells,.rw (dB s (.s 0 l.length c) (dS s l) fun _=>0)]) (fun i=>pl.length - i) (fun i=>i≤pl.length∧∀ j<i,¬ lF s l pl j) 0 oS (.same tE) ⟨oO,fun j hj=>oO⟩ ?_
 rintro i ⟨hi,a⟩
 by_cases e:i<pl.length
 ·have f:s.short≤BX s pl i∧BX s pl i≤s.long+1∧(0<i→BX s pl i=(gp pl (i - 1)).1)∧(i=0→BX s pl i=s.long+1):=by
   cases i with
   |zero=>exact ⟨by simp only [BX];omega,by simp only [BX];omega,fun h=>oO,fun _=>rfl⟩
   |succ k =>
    have:=oz a k oO
    exact ⟨by simp only [BX];omega,by simp only [BX];omega,fun _=>rfl,fun h=>oO⟩
  have r:aK [.ro (ints l),.ro (dK pl),.rw s.cells,.rw (dB s (.s 0 l.length c) (dS s l) fun _=>0)] 1 (0+i*2) 2=some [.i (gp pl i).1,.i (gp pl i).2]:=zx (.inl rfl) e
  generalize BX s pl i=last at f
  repeat' (first|refine sCm ?_|(refine gU ?_;first|(refine bW ?_;first|refine st (aJ rfl oR) rfl rfl ?_|refine st (bD rfl oA) rfl rfl ?_)|(refine kQ ?_;first|refine st (jH rfl rfl) rfl rfl ?_|refine st (gW rfl rfl) rfl rfl ?_)|(refine gIA ?_;refine st (eY rfl rfl oO) rfl rfl ?_)|(refine dZ ?_;refine stN (bF rfl rfl rfl rfl oR) rfl ?_))|(refine gG ?_;first|(refine kP ?_;refine iI rfl (bV rfl) rfl rfl ?_)|(refine gFA ?_;refine iI rfl (aW rfl) rfl rfl ?_)|(refine bW ?_;refine iI rfl (aJ rfl oR) rfl rfl ?_)|(refine CJ ?_;refine iI rfl (jB rfl rfl oO oO) rfl rfl ?_)|(refine nK ?_;refine iI rfl (fE rfl rfl rfl) rfl rfl ?_)|(refine wY ?_;refine iI rfl (jC rfl) rfl rfl ?_)|(refine rV ?_;refine iI rfl (nU rfl) rfl rfl ?_)|(refine eG ?_;refine iI rfl (bH rfl rfl rfl (by exact JU (by exact .inr (.inl rfl)) rfl)) rfl rfl ?_)|(refine lV ?_;refine iI rfl (fO oR oR oR oR rfl oR) rfl rfl ?_)|refine Sj rfl rfl ?_|((fail_if_success (refine stGkA rfl ?_));(refine Aa rfl ?_ ?_ <;> intro _)))|refine aG ?_|refine eP rfl ?_|(refine ji rfl ?_ ?_ <;> intro _))
  any_goals (first|(refine dM (.tmp rfl (.tmp rfl .nil)) (.plain rfl rfl) ?_;rw [if_pos (qH e (by unfold lF;omega)),if_pos (qH e (by unfold lF;omega))];exact ⟨rfl,rfl⟩)|exact ⟨rfl,i+1,⟨oO,xH a (by unfold lF;omega)⟩,oO,mD.drop [.ro (ints l),.ro (dK pl),.rw s.cells,.rw (dB s (.s 0 l.length c) (dS s l) fun _=>0)] [_,_] oS (X0 l pl s c _ _) (by (repeat' (first|exact trivial|exact ⟨rfl,rfl,rfl⟩|exact ⟨rfl,bQ rfl,rfl⟩|refine ⟨?_,?_⟩)))⟩)
 ·refine PK ?_
  have d:∀ j<pl.length,¬ lF s l pl j:=fun j hj=>a j oO
  clear a e
  have hf:¬ someB pl.length (lF s l pl)=true:=by rw [nP d];simp
  rw [if_neg hf,if_neg hf]
  refine jd (ι:=Nat) (fun i=>[(1,.s 0 l.length c),(2,.s 1 pl.length c2),(3,.p 2),(8,.p 3),(80,.s 1 pl.length c2),(81,.i (pl.length:Int)),(82,.i (i:Int))])
   (fun _=>[.ro (ints l),.ro (dK pl),.rw s.cells,.rw (dB s (.s 0 l.length c) (dS s l) fun _=>0)]) (fun i=>pl.length - i) (fun i=>i≤pl.length∧∀ j<i,¬ ou s l pl j) 0 oS (.same tE) ⟨oO,fun j hj=>oO⟩ ?_
  clear hi
  rintro i ⟨hi,a⟩
  have hb:∀ i<pl.length,-1000000≤(gp pl i).1∧(gp pl i).1≤1000000:=fun i hi=>by have:=oz d i hi;omega
  by_cases e:i<pl.length
  ·have hr:=oz d i e
   have hk:(gp pl i).2.toNat<12:=oO
   have r:aK [.ro (ints l),.ro (dK pl),.rw s.cells,.rw (dB s (.s 0 l.length c) (dS s l) fun _=>0)] 1 (0+i*2) 2=some [.i (gp pl i).1,.i (gp pl i).2]:=zx (.inl rfl) e
   have hc2:aK [.ro (ints l),.ro (dK pl),.rw s.cells,.rw (dB s (.s 0 l.length c) (dS s l) fun _=>0),.rw [.i (gp pl i).1,.i (gp pl i).2]] 3 (6+(gp pl i).2.toNat*2) 2=some [.i (dS s l (gp pl i).2.toNat).1,.i (dS s l (gp pl i).2.toNat).2]:=GX (.inr (.inl rfl)) hk
   repeat' (first|refine sCm ?_|(refine gU ?_;first|(refine bW ?_;refine st (bD rfl oA) rfl rfl ?_)|(refine rV ?_;refine st (nU rfl) rfl rfl ?_)|(refine gIA ?_;refine st (eY rfl rfl oO) rfl rfl ?_)|(refine eG ?_;refine st (bH rfl rfl rfl (by exact C9 (by exact .inr (.inl rfl)) rfl)) rfl rfl ?_)|(refine dZ ?_;refine stN (bF rfl rfl rfl rfl oR) rfl ?_))|(refine fU ?_;first|(refine jM ?_;refine frA (bV rfl) rfl ?_)|(refine fFA ?_;refine frA (aW rfl) rfl ?_)|(refine gY ?_;first|refine frA (aJ rfl oR) rfl ?_|refine frA (bD rfl oA) rfl ?_)|(refine Oz ?_;refine frA (kE rfl) rfl ?_)|(refine fIA ?_;refine frA (nY rfl rfl oO oO) rfl ?_)|(refine qR ?_;refine frA (bH rfl rfl rfl (by exact Nz (t:=0) (l:=l) (by exact .inl rfl) (by exact .inr (.inl rfl)) (by exact .inl rfl) oO oO oA rfl)) rfl ?_)|(refine Ae ?_;refine fr1 (lU rfl) rfl rfl rfl ?_)|(refine xA ?_;refine frN (fO oR oR oR oR rfl oR) lS rfl rfl rfl ?_))|(refine gu ⟨oK,?_⟩)|refine aG ?_|refine dI oK rfl ?_|refine eP rfl ?_|(refine ji rfl ?_ ?_ <;> intro _))
   ·rename_i hq
    have g:ou s l pl i:=hq
    refine dM (.tmp rfl (.tmp rfl .nil)) (.plain rfl rfl) ?_
    rw [if_pos (qH e g),if_pos (qH e g)]
    exact ⟨rfl,rfl⟩
   ·rename_i hq
    have g:¬ ou s l pl i:=hq
    exact ⟨rfl,i+1,⟨oO,xH a g⟩,oO,mD.drop [.ro (ints l),.ro (dK pl),.rw s.cells,.rw (dB s (.s 0 l.length c) (dS s l) fun _=>0)] [_,_,_] oS (X0 l pl s c _ _) (by (repeat' (first|exact trivial|exact ⟨rfl,rfl,rfl⟩|exact ⟨rfl,bQ rfl,rfl⟩|refine ⟨?_,?_⟩)))⟩
  ·refine PK ?_
   have o:¬ someB pl.length (ou s l pl)=true:=by rw [nP fun j hj=>a j oO];simp
   refine dM (.tmp rfl (.tmp rfl .nil)) (.src [_] [3] rfl rfl rfl ⟨yH (m:=2) rfl (.inl rfl) (fun i hi=>fJ hi) (cA rfl) (jy (n:=2) (tv:=.s 0 l.length c) (dO oO).1 (dO (n:=1) (i:=0) oO).2).1 (jy (n:=2) (tv:=.s 0 l.length c) (dO oO).1 (dO (n:=1) (i:=0) oO).2).2,trivial⟩ (v2:=.tuple #[.p 2,.i 0]) ?_) ?_
   ·refine .tuple _ _ rfl fun i hi _=>?_
    match i,hi with
    |0,_=>exact VQ.ptr (q:=true) (n:=3) (ρ:=fV 2 [3]) 2 0 oO
    |1,_=>exact .int _ _
   ·rw [if_neg o,if_neg o]
    exact ⟨rfl,rfl⟩
theorem AP {s:St} {l:List Int} {pl:List (Int×Int)} (h:sZ s l pl=0):iL s l=0∧1≤pl.length∧pl.length≤20∧(∀ j<pl.length,¬ lF s l pl j)∧∀ j<pl.length,¬ ou s l pl j:=by
 unfold sZ at h
 split at h
 ·rename_i hc;exact absurd h hc
 ·split at h
  ·cases h
  ·split at h
   ·cases h
   ·split at h
    ·cases h
    ·rename_i h1 h2 h3 h4
     exact ⟨oO,oO,oO,JR h3,JR h4⟩
theorem PL {σ:Heap} {s:St} {l:List Int} {pl:List (Int×Int)} {x y c c2:Nat} (hx:dP σ x (ints l)) (hy:dP σ y (dK pl)) (hN:l.length≤1000000) (hM:pl.length≤1000000) (hr:-9223372036854775808≤s.short∧s.short≤9223372036854775807)
  (h:sZ s l pl=0) (hni:σ.all (fun o=>!aU o)=true) :
  Ev Tryz.prog 71 [s.val,.s x l.length c,.s y pl.length c2] σ (.tuple #[.p σ.length,.i 0]) (σ++[.rw (dB s (.s x l.length c) (dS s l) fun _=>0)]):=by
 obtain ⟨g1,g2,g3,g4,g5⟩:=AP h
 have h0:=SN s l c pl c2 hr g1 g2 g3
 unfold abW abX at h0
 have e1:¬ someB pl.length (lF s l pl)=true:=by rw [nP g4];simp
 have e2:¬ someB pl.length (ou s l pl)=true:=by rw [nP g5];simp
 rw [if_neg e1,if_neg e1,if_neg e2,if_neg e2] at h0
 refine Ev.arrsN [ints l,dK pl] [x,y] (news:=[.rw (dB s (.s 0 l.length c) (dS s l) fun _=>0)]) h0 ⟨hx,hy,trivial⟩
  ⟨aZ _ rfl,by simpa [bsR] using VQ.slice (q:=true) (n:=2) (ρ:=bsR [x,y]) 0 0 l.length c c (aD _) oO,by simpa [bsR] using VQ.slice (q:=true) (n:=2) (ρ:=bsR [x,y]) 1 0 pl.length c2 c2 (aD _) oO,trivial⟩ (by simp [bC,iy]) rfl ?_ ?_ hni
 ·simp [ren,zQ,yS,shf]
 ·simp only [cG,dz,CS,JW]
  simp [ren,shf,bsR]
def minN (l:List Int):Nat→Int
 |0=>gi l 0
 |n+1=>if n=0 then gi l 0 else min (minN l n) (gi l n)
def J5 (l:List Int):Nat→Int
 |0=>gi l 0
 |n+1=>if n=0 then gi l 0 else max (J5 l n) (gi l n)
theorem ag4 (l:List Int) (c:Nat) (h0:1≤l.length) (hN:l.length≤1000000):Ev Tryz.prog 73 [.s 0 l.length c] [.ro (ints l)] (.i (minN l l.length)) [.ro (ints l)]:=by
 have hc0:aH [.ro (ints l)] 0 0=some (.i (gi l 0)):=ig oO
 refine aI 1 25 Tryz.func73 rfl rfl rfl rfl rfl ?_
 repeat' (first|refine sCm ?_|(refine gU ?_;first|(refine bW ?_;refine st (aJ rfl oA) rfl rfl ?_)|(refine gIA ?_;refine st (nX rfl rfl oO oO) rfl rfl ?_))|refine aG ?_|refine eU rfl ?_)
 refine jd (ι:=Nat) (fun i=>[(0,.s 0 l.length c),(3,.i (minN l i)),(4,.i (i:Int))])
  (fun _=>[.ro (ints l)]) (fun i=>l.length - i) (fun i=>1≤i∧i≤l.length) 1 oS (.same tE) ⟨oO,oO⟩ ?_
 rintro i ⟨hi0,hi⟩
 have a:i<l.length→aH [.ro (ints l)] 0 i=some (.i (gi l i)):=fun h=>ig h
 have he:minN l (i+1)=min (minN l i) (gi l i):=by simp only [minN];rw [if_neg oO]
 repeat' (first|refine sCm ?_|(refine gU ?_;first|(refine bW ?_;refine st (aJ rfl (by exact a oO)) rfl rfl ?_)|(refine gIA ?_;refine st (iw rfl rfl oO) rfl rfl ?_)|(refine aau ?_;refine st (sG rfl rfl) rfl rfl ?_))|refine aG ?_|(refine ji rfl ?_ ?_ <;> intro _))
 ·exact ⟨rfl,i+1,⟨oO,oO⟩,oO,.same ⟨rfl,by rw [he];rfl,rfl,trivial⟩⟩
 ·refine dM (.tmp rfl .nil) (.plain rfl rfl) ⟨?_,rfl⟩
  obtain rfl:i=l.length:=oO
  rfl
theorem ag5 (l:List Int) (c:Nat) (h0:1≤l.length) (hN:l.length≤1000000):Ev Tryz.prog 74 [.s 0 l.length c] [.ro (ints l)] (.i (J5 l l.length)) [.ro (ints l)]:=by
 have hc0:aH [.ro (ints l)] 0 0=some (.i (gi l 0)):=ig oO
 refine aI 1 25 Tryz.func74 rfl rfl rfl rfl rfl ?_
 repeat' (first|refine sCm ?_|(refine gU ?_;first|(refine bW ?_;refine st (aJ rfl oA) rfl rfl ?_)|(refine gIA ?_;refine st (nX rfl rfl oO oO) rfl rfl ?_))|refine aG ?_|refine eU rfl ?_)
 refine jd (ι:=Nat) (fun i=>[(0,.s 0 l.length c),(3,.i (J5 l i)),(4,.i (i:Int))])
  (fun _=>[.ro (ints l)]) (fun i=>l.length - i) (fun i=>1≤i∧i≤l.length) 1 oS (.same tE) ⟨oO,oO⟩ ?_
 rintro i ⟨hi0,hi⟩
 have a:i<l.length→aH [.ro (ints l)] 0 i=some (.i (gi l i)):=fun h=>ig h
 have he:J5 l (i+1)=max (J5 l i) (gi l i):=by simp only [J5];rw [if_neg oO]
 repeat' (first|refine sCm ?_|(refine gU ?_;first|(refine bW ?_;refine st (aJ rfl (by exact a oO)) rfl rfl ?_)|(refine gIA ?_;refine st (iw rfl rfl oO) rfl rfl ?_)|(refine gMax ?_;refine st (CB rfl rfl) rfl rfl ?_))|refine aG ?_|(refine ji rfl ?_ ?_ <;> intro _))
 ·exact ⟨rfl,i+1,⟨oO,oO⟩,oO,.same ⟨rfl,by rw [he];rfl,rfl,trivial⟩⟩
 ·refine dM (.tmp rfl .nil) (.plain rfl rfl) ⟨?_,rfl⟩
  obtain rfl:i=l.length:=oO
  rfl
theorem aev {σ:Heap} {l:List Int} {x:Nat} (hx:dP σ x (ints l)) (h0:1≤l.length) (hN:l.length≤1000000) (hni:σ.all (fun o=>!aU o)=true):Ev Tryz.prog 73 [eu x 1 l.length] σ (.i (minN l l.length)) σ :=
 Ev.arrs [ints l] [x] (ag4 l l.length h0 hN) ⟨hx,trivial⟩ ⟨kG oS (by simp [bsR]),trivial⟩ (by simp [bC]) rfl hni
theorem aew {σ:Heap} {l:List Int} {x:Nat} (hx:dP σ x (ints l)) (h0:1≤l.length) (hN:l.length≤1000000) (hni:σ.all (fun o=>!aU o)=true):Ev Tryz.prog 74 [eu x 1 l.length] σ (.i (J5 l l.length)) σ :=
 Ev.arrs [ints l] [x] (ag5 l l.length h0 hN) ⟨hx,trivial⟩ ⟨kG oS (by simp [bsR]),trivial⟩ (by simp [bC]) rfl hni
def spd (s:St) (l:List Int) (pl:List (Int×Int)) (j:Nat):List Int:=[gi l (gp pl j).2.toNat*((gp pl j).1+s.off),gi l (gp pl j).2.toNat*(wP s.short pl j - s.off)]
def allL (s:St) (l:List Int) (pl:List (Int×Int)):Nat→List Int
 |0=>[]
 |i+1=>allL s l pl i++spd s l pl i
theorem uy (s:St) (l:List Int) (pl:List (Int×Int)):∀ i,(allL s l pl i).length=i*2
 |0=>rfl
 |i+1=>by simp only [allL,aR,uy s l pl i,spd,eg,eb];omega
theorem X4 (l:List Int) (pl:List (Int×Int)) (s:St) (c:Nat) (f:Nat→Int×Int) (g:Nat→Int) :
  fP 5 [aB.ro (ints l),.ro (dK pl),.rw s.cells,.rw [.i 0,.i 0],.rw (dB s (.s 0 l.length c) f g)] :=
 ⟨aX (bC l),aX (iy pl),aX (qW s),aX rfl,jy (dO oS).1 (dO (n:=1) oS).2,trivial⟩
theorem PN {A B:Prop} (k:B) (h:Hide B→A:=by intro h_k_;(repeat' (first|refine sCm ?_|(refine gU ?_;first|(refine bW ?_;refine st (bD rfl (by first|rfl|assumption)) rfl rfl ?_)|(refine gIA ?_;refine st (eY rfl rfl (by omega)) rfl rfl ?_)|(refine oQ ?_;refine st (iE (by rfl) rfl (by rfl)) rfl rfl ?_)|(refine eG ?_;refine st (bH rfl rfl rfl (by first|exact rimplan_evBad (by exact .inl rfl) (by exact .inl rfl) (by assumption) (by assumption) (by assumption) (by assumption) rfl|exact PL (by exact .inl rfl) (by exact .inl rfl) (by assumption) (by assumption) (by assumption) (by assumption) rfl|exact hmin|exact hmax)) rfl rfl ?_)|(refine gApp ?_;refine st (jh (by rfl) (by rfl) rfl (by rfl) (by assumption) rfl (by rfl) (by omega) (by rfl) (by omega) (by omega)) rfl rfl ?_)|(refine dZ ?_;refine stN (bF rfl rfl rfl rfl (by rfl)) rfl ?_))|(refine fU ?_;first|(refine jM ?_;refine frA (bV rfl) rfl ?_)|(refine fFA ?_;refine frA (aW rfl) rfl ?_)|(refine gY ?_;refine frA (aJ rfl (by first|rfl|assumption)) rfl ?_)|(refine fAdd ?_;refine frA (kK rfl rfl (by omega) (by omega)) rfl ?_)|(refine fSub ?_;refine frA (jB rfl rfl (by omega) (by omega)) rfl ?_)|(refine fMul ?_;refine frA (zX rfl rfl (by omega) (by omega)) rfl ?_)|(refine fIA ?_;refine frA (nX rfl rfl (by omega) (by omega)) rfl ?_)|(refine qR ?_;refine frA (bH rfl rfl rfl (by exact Nz (t:=0) (l:=l) (by exact .inl rfl) (by exact .inr (.inl rfl)) (by exact .inl rfl) (by omega) (by omega) (by assumption) rfl)) rfl ?_)|(refine xA ?_;refine frN (fO (by rfl) (by rfl) (by rfl) (by rfl) rfl (by rfl)) lS rfl rfl rfl ?_))|(refine gu ⟨by kernel_rfl,?_⟩)|refine aG ?_|refine dI (by kernel_rfl) rfl ?_|refine eP rfl ?_|refine eU rfl ?_));exact h_k_.h):A:=h ⟨k⟩
theorem PO (s:St) (l:List Int) (c:Nat) (pl:List (Int×Int)) (c2:Nat) (hr:-9223372036854775808≤s.short∧s.short≤9223372036854775807) (h:sZ s l pl=0) :
  Ev Tryz.prog 15 [s.val,.s 0 l.length c,.s 1 pl.length c2] [.ro (ints l),.ro (dK pl)] (.tuple #[afO (minN (allL s l pl pl.length) (pl.length*2),J5 (allL s l pl pl.length) (pl.length*2)),.i 0]) [.ro (ints l),.ro (dK pl)]:=by
 obtain ⟨g1,g2,g3,d,g5⟩:=AP h
 obtain ⟨h12,h1,hs,ht⟩:=nR g1
 have hN:l.length≤1000000:=oO
 have hM:pl.length≤1000000:=oO
 have o:=JY ht
 have hs1:1≤s.short:=by unfold fD at hs;omega
 have g:s.short≤s.long:=by unfold fD at hs;omega
 have hs3:s.long≤100000:=by unfold fD at hs;omega
 have hs4:0≤s.off∧s.off<s.short:=by unfold fD at hs;omega
 have hb:∀ i<pl.length,-1000000≤(gp pl i).1∧(gp pl i).1≤1000000:=fun i hi=>by have:=oz d i hi;omega
 refine aI 2 64 Tryz.func15 rfl rfl rfl rfl rfl ?_
 refine PN ?_
 refine jd (ι:=Nat) (fun i=>[(1,.s 0 l.length c),(2,.s 1 pl.length c2),(3,.p 2),(6,.p 3),(8,.p 4),(10,eu 5 1 (i*2)),(24,.s 1 pl.length c2),(25,.i (pl.length:Int)),(26,.i (i:Int))])
  (fun i=>[.ro (ints l),.ro (dK pl),.rw s.cells,.rw [.i 0,.i 0],.rw (dB s (.s 0 l.length c) (dS s l) fun _=>0),.gr (ints (allL s l pl i)) 2]) (fun i=>pl.length - i) (fun i=>i≤pl.length) 0 oS (mD.src [.ro (ints l),.ro (dK pl),.rw s.cells,.rw [.i 0,.i 0],.rw (dB s (.s 0 l.length c) (dS s l) fun _=>0)] [.gr [] 2] [5] oS rfl (X4 l pl s c _ _) rfl rfl ⟨Jr,trivial⟩ (by (repeat' (first|exact trivial|refine ⟨pq rfl rfl,?_⟩|refine ⟨kX (m:=5) rfl (fun i hi=>fJ hi) oS (by first|rfl|exact bQ rfl) rfl,?_⟩)))) oO ?_
 rintro i hi
 by_cases f:i<pl.length
 ·have hrn:=oz d i f
  have he:=PI g d f
  have hk:(gp pl i).2.toNat<l.length:=oO
  have hn:=o _ hk
  have m1:=zu (a:=gi l (gp pl i).2.toNat) (n:=(gp pl i).1+s.off) (A:=10000) (N:=200000) oO oO
  have m2:=zu (a:=gi l (gp pl i).2.toNat) (n:=wP s.short pl i - s.off) (A:=10000) (N:=200000) oO oO
  have hc2:aK [.ro (ints l),.ro (dK pl),.rw s.cells,.rw [.i 0,.i 0],.rw (dB s (.s 0 l.length c) (dS s l) fun _=>0),.gr (ints (allL s l pl i)) 2] 1 (0+i*2) 2=some [.i (gp pl i).1,.i (gp pl i).2]:=zx (.inl rfl) f
  have hc3:aH [.ro (ints l),.ro (dK pl),.rw s.cells,.rw [.i 0,.i 0],.rw (dB s (.s 0 l.length c) (dS s l) fun _=>0),.gr (ints (allL s l pl i)) 2,.rw [.i (gp pl i).1,.i (gp pl i).2]] 0 (0+(gp pl i).2.toNat*1)=some (.i (gi l (gp pl i).2.toNat)):=by simpa [aH] using ig hk
  have hlen:(ints (allL s l pl i)).length=i*2*1:=by simp [ints,uy]
  have e:(i+1)*2=i*2+2:=oO
  have j:ints (allL s l pl (i+1))=ints (allL s l pl i)++[.i (gi l (gp pl i).2.toNat*((gp pl i).1+s.off)),.i (gi l (gp pl i).2.toNat*(wP s.short pl i - s.off))]:=by simp [allL,ints,spd]
  refine PN ?_
  exact ⟨rfl,i+1,oO,oO,mD.src [.ro (ints l),.ro (dK pl),.rw s.cells,.rw [.i 0,.i 0],.rw (dB s (.s 0 l.length c) (dS s l) fun _=>0)] [.gr (ints (allL s l pl (i+1))) 2] [8] oS rfl (X4 l pl s c _ _) rfl rfl ⟨Ir rfl (by rw [j];rfl) (bC _),trivial⟩ (by (repeat' (first|exact trivial|refine ⟨pq rfl rfl,?_⟩|refine ⟨kX (m:=5) rfl (fun i hi=>fJ hi) oS (by first|rfl|exact bQ rfl) rfl,?_⟩|refine ⟨OC (by rw [e];rfl) oS rfl,?_⟩)))⟩
 ·obtain rfl:i=pl.length:=oO
  have hmin:=aev (σ:=[.ro (ints l),.ro (dK pl),.rw s.cells,.rw [.i 0,.i 0],.rw (dB s (.s 0 l.length c) (dS s l) fun _=>0),.gr (ints (allL s l pl pl.length)) 2]) (x:=5) (.inr (.inr ⟨_,rfl⟩)) (by rw [uy];omega) (by rw [uy];omega) rfl
  have hmax:=aew (σ:=[.ro (ints l),.ro (dK pl),.rw s.cells,.rw [.i 0,.i 0],.rw (dB s (.s 0 l.length c) (dS s l) fun _=>0),.gr (ints (allL s l pl pl.length)) 2]) (x:=5) (.inr (.inr ⟨_,rfl⟩)) (by rw [uy];omega) (by rw [uy];omega) rfl
  rw [uy] at hmin hmax
  refine PN ?_
  refine dM (.cellN inferInstance rfl rfl (.tmp rfl .nil)) (.plain rfl rfl) ⟨rfl,rfl⟩
end Go.Proofs.YtajpgeklmcjciaaGreat
