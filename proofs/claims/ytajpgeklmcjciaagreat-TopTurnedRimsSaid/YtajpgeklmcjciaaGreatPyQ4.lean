/- Lemmas. No conditions. -/
import Derived.Test.YtajpgeklmcjciaaGreatPyQ3
import Derived.Test.YtajpgeklmcjciaaGreatPyQ1
import Derived.Test.YtajpgeklmcjciaaGreatPyQ2
set_option maxRecDepth 100000
set_option maxHeartbeats 8000000
open Go.Proofs.Tryz
open Go Go.AH
namespace Go.AH
def ahl (ops:Array Oper) (j:Nat):TypeId:=match ops[j]? with|some o=>o.type|none=>0
def Xt (ops:Array Oper) (j:Nat):Array Edge:=match ops[j]? with|some o=>o.after|none=>#[]
def adK (ops : Array Oper) : String := match ops[0]? with | some o => o.pos | none => ""
section
variable {P:Program} {n0 N:Nat} {rd:Option Nat} {Q:Post} {e:Env} {mk:List Nat} {U:Heap} {id:Nat}
theorem QF {ops:Array Oper} (d sM sI sK tm ti tk:Nat) {kt et sz1 by1 sz2 by2:Nat} {agg2:Bool} {z1 zk:Value} {pl:List (Nat×Nat)} (hmo:P.follows .mixedOrders=true) (hops:ops=(vZ d sM sI sK tm ti tk (adK ops) (ahl ops) (Xt ops)).toArray)
  [hmp:Mp P tm kt et] [hk:KT P kt kv] [hte:Ty P et sz2 agg2 (.i 0) by2] [htm:Ty P tm sz1 false z1 by1] [hpk:Pls P tk zk pl] (hzk:plain zk=true) (hfill:∀ x y:Int,rO (pl.toArray[·]?) (dM zk) [(0,.i x),(1,.i y)]=some [.i x,.i y])
  (hdep:KQ (Xt ops)=true) (hN:Nat.ble (d+9) N=true) (hsl:([sM,sI,sK].all fun q=>Nat.blt q d || Nat.ble (d+9) q)=true) {xb m:Nat} {i k c:Int} {l:mg}
  (hM:Env.get e sM=some (.p xb)) (hbox:aI U xb 0=some (.map (some m))) (hmm:U[m]?=some (nI l)) (hI:Env.get e sI=some (.i i)) (hK:Env.get e sK=some (.i k))
  (hi:0<=i/\i<=9223372036854775807) (hv:iO l (i - 1,k)=some (.i c)\/iO l (i - 1,k)=none/\c=0) (hc:0<=c/\c<9223372036854775807) (hni:Ni U)
  (he:(e.all fun q=>Nat.blt q.1 d || Nat.ble (d+9) q.1)=true) (h:Q .normal e mk (U.set m (nI (lN l (i - 1,k) (.i (c+1)))))) :
  bJ P n0 N rd (.region id ops true) Q e mk U:=by
 generalize adK ops=p at hops
 generalize ahl ops=ty at hops
 generalize Xt ops=a at hops hdep
 subst hops
 exact Ul hmo hzk hfill hdep hN hsl hM hbox hmm hI hK hi hv hc hni he h
end
theorem uH {U:Heap} {b o n i:Nat} {cs:List Value} {x:aC} {es:List (Value×Value)} (h:aK U b o n=some cs) (hi:U[i]?=some (.map es)):aK (U.set i x) b o n=some cs:=by
 have hb:b ≠ i:=by
  rintro rfl
  unfold aK at h
  rw [hi] at h
  cases h
 unfold aK at h ⊢
 rw [eE (Ne.symm hb)];exact h
namespace Heat
theorem Di.setM {U:Heap} {W:Wk} {bB bS i:Nat} {wB cW:Nat->Nat} {kB cK:Nat->Nat->Nat} {x:aC} {es:List (Value×Value)} (h:Di U W bB bS wB cW kB cK) (hi:U[i]?=some (.map es)):Di (U.set i x) W bB bS wB cW kB cK :=
 ⟨fun j hj=>uH (h.bars j hj) hi,fun j hj=>uH (h.steps j hj) hi,fun j hj k hk=>uH (h.ways j hj k hk) hi,fun j hj k hk q hq=>uH (h.kinks j hj k hk q hq) hi⟩
theorem EK {U:Heap} {b i:Nat} {o:aC} {x:aC} {es:List (Value×Value)} (h:U[b]?=some o) (hi:U[i]?=some (.map es)) (ho:∀ es,o ≠ .map es):(U.set i x)[b]?=some o :=
 aB h fun e=>by rw [e,h] at hi;exact ho es (Option.some.inj hi)
theorem sG.setM {U:Heap} {W:Wk} {m:Int×Int} {tb fb rb bB cB bS cS i:Nat} {wB cW:Nat->Nat} {kB cK:Nat->Nat->Nat} {x:aC} {es:List (Value×Value)} (h:sG U W m tb fb rb bB cB bS cS wB cW kB cK) (hi:U[i]?=some (.map es)):sG (U.set i x) W m tb fb rb bB cB bS cS wB cW kB cK :=
 ⟨EK h.t hi oS,EK h.f hi oS,EK h.r hi oS,h.w.setM hi,by simpa using h.bB,by simpa using h.bS⟩
end Heat
end Go.AH
namespace Go.Proofs.YtajpgeklmcjciaaGreat
attribute [local irreducible] dA bJ bK jh fQ dK eH bY eu aW dR dW
open Go.AH.Heat
theorem adL {A B:Prop} (k:B) (h:Hide B->A:=by intro z_;(repeat' (first|refine sCm ?_|(refine gU ?_;first|(refine cO ?_;refine st (aJ rfl (by exact aF a1)) rfl rfl ?_)|(refine dV ?_;refine st (bC rfl rfl rfl (by exact hf1)) rfl rfl ?_)|refine sK8 ?_)|refine aG ?_));exact z_.h):A:=h ⟨k⟩
theorem adM {A B:Prop} (k:B) (h:Hide B->A:=by intro z_;(repeat' (first|refine sCm ?_|(refine gU ?_;first|(refine uD ?_;refine st (jd rfl) (by exact hrd) rfl ?_)|(refine cO ?_;refine st (aJ rfl (by first|exact aF a1|assumption)) (by exact hrd) rfl ?_)|(refine Fh ?_;refine st (pI rfl rfl (by omega)) (by exact hrd) rfl ?_)|(refine yS ?_;refine st (NK rfl rfl) (by exact hrd) rfl ?_)|(refine gZ ?_;refine stN (bW rfl rfl rfl rfl (by exact hput)) (by exact hrd) ?_))|refine aG ?_|refine fA rfl ?_));exact z_.h):A:=h ⟨k⟩
theorem count_nil {W:Wk} {m:Int×Int} (hv:Dj W) (hm:oL m) {U:Heap} {tb fb rb bB cB bS cS:Nat} {wB cW:Nat->Nat} {kB cK:Nat->Nat->Nat} (hT:sG U W m tb fb rb bB cB bS cS wB cW kB cK) :
  Ev prog 236 [.p tb,.map none] U (.i ((W.allR m).length:Nat)) U:=by
 have hrl:=Un hv (m:=m)
 refine aH U.length 34 func236 (h:=?_)
 have hf1:=Oq (U:=U++[aC.rw [.map none]]++[aC.rw [.i 0]]) (tb:=tb)
 refine adL ?_
 refine dB [(3,.p U.length),(4,.i 0),(5,.p (U.length+1)),(10,.func (.func 297) #[] #[.p (U.length+2)])] (U++[aC.rw [.map none]]++[aC.rw [.i 0]]++[aC.rw [.p tb]]) rfl ⟨rfl,rfl,(by (refine congrArg (fun n=>some (Value.p n)) ?_;simp;try omega)),by simp [Env.get],trivial⟩ ?_
 have hp:(U++[aC.rw [.map none]]++[aC.rw [.i 0]]++[aC.rw [.p tb]]).take U.length=U:=oS
 have b0:(U++[aC.rw [.map none]]++[aC.rw [.i 0]]++[aC.rw [.p tb]])[U.length]?=some (aC.rw [.map none]):=aA (aA aN)
 have b1:(U++[aC.rw [.map none]]++[aC.rw [.i 0]]++[aC.rw [.p tb]])[U.length+1]?=some (aC.rw [.i 0]):=aA (bP oS)
 have b2:(U++[aC.rw [.map none]]++[aC.rw [.i 0]]++[aC.rw [.p tb]])[U.length+2]?=some (aC.rw [.p tb]):=bP oS
 generalize (U++[aC.rw [.map none]]++[aC.rw [.i 0]]++[aC.rw [.p tb]])=Hc at hp b0 b1 b2
 clear hf1
 have hHl:=aS b2
 refine jU (p:=[]) (q:=[.p (U.length+2)]) rfl fun L hL=>?_
 obtain ⟨A,a⟩:=xy (Hc++[aC.dfr,L])
 have hAl:A.length=Hc.length+2:=by rw [a];simp
 have s:A.take U.length=U:=by rw [a];exact aP hp
 have z:A[U.length]?=some (aC.rw [.map none]):=by rw [a];exact aA b0
 have g:A[U.length+1]?=some (aC.rw [.i 0]):=by rw [a];exact aA b1
 have y:A[U.length+2]?=some (aC.rw [.p tb]):=by rw [a];exact aA b2
 have C:A[Hc.length]?=some .dfr:=by rw [a,bE (aD _)];simp
 have f:A[Hc.length+1]?=some L:=by rw [a,bE oO];simp
 rw [<- a]
 refine Hq (S:=fun j=>A.set (U.length+1) (.rw [.i (j:Nat)])) (l:=Hc.length+1) (ib:=U.length+2) hv hm (set_self g) (fun j=>by simp) (fun j=>aV (aB y oO) rfl) (fun j=>hT.take (take_set s oO))
  (fun j=>(aB f oO).trans (congrArg some hL)) (fun h j=>iW (o:=.rw [.i _]) (by exact ⟨rfl,rfl⟩) h) rfl ?_ ?_
 ·intro j hj X QB iq hXn _ hiq w
  obtain ⟨HX,c⟩:=xy (A.set (U.length+1) (.rw [.i (j:Nat)])++X)
  have F:HX[Hc.length+1]?=some L:=by rw [c];exact aA (aB f oO)
  have u:HX[U.length]?=some (aC.rw [.map none]):=by rw [c];exact aA (aB z oO)
  have v:HX[U.length+1]?=some (aC.rw [.i (j:Nat)]):=by rw [c];exact aA (aQ g)
  have hrd:lJ (some (Hc.length+1)) (A.length+X.length)=true:=(show Nat.blt _ _=true from Nat.blt_eq.mpr oO)
  rw [<- c]
  refine adM ?_
  refine vX F hL fun B hB=>?_
  obtain ⟨HB,d⟩:=xy (HX.set (Hc.length+1) B)
  have a3:HB[U.length]?=some (aC.rw [.map none]):=by rw [d];exact aB u oO
  have a1:HB[U.length+1]?=some (aC.rw [.i (j:Nat)]):=by rw [d];exact aB v oO
  rw [<- d]
  have hput:putCells HB (U.length+1) 0 [.i ((j:Nat)+1)]=some (HB.set (U.length+1) (.rw [.i ((j:Nat)+1)])):=fF a1 oS oS rfl
  have E:(HB.set (U.length+1) (.rw [.i ((j:Nat)+1)]))[U.length]?=some (aC.rw [.map none]):=aB a3 oO
  have hc9:=aF (o:=0+0) E
  refine adM ?_
  have D:HB.set (U.length+1) (.rw [.i ((j:Nat)+1)])=(A.set (U.length+1) (.rw [.i ((j+1:Nat):Int)])).set (Hc.length+1) B++X++[]:=by
   rw [d,c,bN,cI _ _ (by simp;omega),cI _ _ (by simp;omega),List.set_comm _ _ (by omega:Hc.length+1 ≠ U.length+1),cN]
   rfl
  rw [D,hB]
  exact w _ _ _
 ·refine ⟨.ready,none,_,_,_,_,_,(aB f oO).trans (congrArg some hL),by simp,?_⟩
  show (dK 0 _) _ _ _ _
  refine uz ?_
  refine rG ?_
  have a1:((A.set (U.length+1) (.rw [.i ((W.allR m).length:Nat)])).set (Hc.length+1) .dead)[U.length+1]?=some (aC.rw [.i ((W.allR m).length:Nat)]):=aB (aQ g) oO
  have e:Mks U.length [Hc.length] ((A.set (U.length+1) (.rw [.i ((W.allR m).length:Nat)])).set (Hc.length+1) .dead):=Mks.cons Mks.nil oS oO (aB (aB C oO) oO)
  have t:((A.set (U.length+1) (.rw [.i ((W.allR m).length:Nat)])).set (Hc.length+1) .dead).take U.length=U:=take_set (take_set s oO) oO
  generalize ((A.set (U.length+1) (.rw [.i ((W.allR m).length:Nat)])).set (Hc.length+1) .dead)=H at a1 e t
  refine adL ?_
  exact Qk e (.tmp rfl .nil) (aW.plain (nR t fun x hx=>(e.2 x hx).1) rfl) ⟨rfl,rfl⟩
end Go.Proofs.YtajpgeklmcjciaaGreat
namespace Go.AH
section
variable {P:Program} {n0 N:Nat} {K:Env->List Nat->Heap->Prop} {mk:List Nat} {all:List Oper}
def af5 (all:List Oper) (L:List Bool):List Nat:=Region.ready .any all.toArray L.toArray
def cntF:List Bool->Nat
 |[]=>0
 |b::L=>(if b then 0 else 1)+cntF L
def tabOk (all:List Oper) (tab:List (List Bool×List Nat)):Bool :=
 tab.all fun p=>(af5 all p.1 == p.2) && p.2.all fun i=>(tab.any fun q=>q.1 == p.1.set i true) && Nat.blt (cntF (p.1.set i true)) (cntF p.1)
end
def keys (l:mg):List (Int×Int):=l.map (·.1)
def left (l:mg) (seen:List (Int×Int)):Nat:=((keys l).filter fun p=>decide (p ∉ seen)).length
theorem Lh {m:Nat} {v:Value} (h:plain v=true):closed m v=true/\okV v=true:=by
 have:=aY (n:=m) (l:=[v]) (by simp [dN,h])
 simpa [dU,okL] using this
theorem Ht {m:Nat} {lm:mg} (h:∀ q ∈ lm,plain q.2=true):fV m (nI lm):=by
 intro p hp
 obtain ⟨q,hq,rfl⟩:=List.mem_map.1 hp
 exact Lh (h q hq)
end Go.AH
namespace Go.AH.Heat
theorem adN {M:mg} (h:∀ q ∈ M,plain q.2=true) (k:Int×Int) (x:Int):∀ q ∈ lN M k (.i x),plain q.2=true:=fun q hq=>by
 unfold lN at hq
 split at hq
 ·rcases List.mem_or_eq_of_mem_set hq with h1|rfl
  ·exact h q h1
  ·rfl
 ·rcases List.mem_append.1 hq with h1|h1
  ·exact h q h1
  ·simp only [fj] at h1
   subst h1;rfl
theorem Lj {M:mg} (h:∀ q ∈ M,plain q.2=true) (rec:List Nat):∀ i,∀ q ∈ Qq M rec i,plain q.2=true
 |0=>h
 |i+1=>adN (Lj h rec i) _ _
theorem Dq {M:mg} (h:∀ q ∈ M,plain q.2=true) (l:List (List Nat)):∀ j,∀ q ∈ zi M l j,plain q.2=true
 |0=>h
 |j+1=>Lj (Dq h l j) _ _
theorem aaO {A X:Heap} {p q l:Nat} {r m B r' m':aC} (hp:p<A.length) (hq:q<A.length) (hl:l<A.length) (h1:p ≠ q) (h2:p ≠ l) (h3:q ≠ l) :
  ((((A.set p r).set q m++X).set l B).set p r').set q m'=((A.set p r').set q m').set l B++X:=by
 rw [cI _ _ (oU hl),cI _ _ (oU hp),cI _ _ (oU hq)]
 congr 1
 refine eK fun i=>?_
 simp only [List.getElem?_set,dk]
 by_cases e1:q=i
 ·subst e1
  simp [h3,Ne.symm h3,hq]
 ·by_cases e2:p=i
  ·subst e2;simp [h2,Ne.symm h2,e1,hp]
  ·by_cases e3:l=i
   ·subst e3;simp [e1,e2,hl]
   ·simp [e1,e2,e3]
theorem OA {U H:Heap} {i:Nat} {x:aC} (hp:H.take U.length=U):(H.set i x).take (U.set i x).length=U.set i x:=by
 rw [dk,List.take_set,hp]
end Go.AH.Heat
namespace Go.Proofs.YtajpgeklmcjciaaGreat
attribute [local irreducible] dA bJ bK jh fQ dK eH bY eu aW dR dW
open Go.AH.Heat
theorem adO {A B:Prop} (k:B) (h:Hide B->A:=by intro z_;(repeat' (first|refine sCm ?_|(refine gU ?_;first|(refine cO ?_;refine st (aJ rfl (by exact aF a1)) rfl rfl ?_)|(refine dV ?_;refine st (bC rfl rfl rfl (by exact hf1)) rfl rfl ?_)|refine sK8 ?_)|refine aG ?_));exact z_.h):A:=h ⟨k⟩
theorem Ll {A B:Prop} (k:B) (h:Hide B->A:=by intro z_;(repeat' (first|refine sCm ?_|(refine gU ?_;first|(refine wK ?_;refine st (dY rfl) (by exact hrd) rfl ?_)|(refine uD ?_;refine st (jd rfl) (by exact hrd) rfl ?_)|(refine cO ?_;refine st (aJ rfl (by first|exact aF a1|exact hc9|exact hcr)) (by exact hrd) rfl ?_)|(refine Fh ?_;refine st (pI rfl rfl (by omega)) (by exact hrd) rfl ?_)|(refine yS ?_;first|refine st (NM rfl rfl) (by exact hrd) rfl ?_|refine st (iU rfl rfl rfl) (by exact hrd) rfl ?_)|(refine Iq ?_;refine st (lY rfl) (by exact hrd) rfl ?_)|(refine gIA ?_;refine st (qR rfl rfl (by omega)) (by exact hrd) rfl ?_)|(refine gZ ?_;refine stN (bW rfl rfl rfl rfl (by exact hput)) (by exact hrd) ?_))|refine bU (id:=9) ?_|refine aG ?_|refine fA rfl ?_|refine fM rfl ?_));exact z_.h):A:=h ⟨k⟩
theorem count_map {W:Wk} {m:Int×Int} (hv:Dj W) (hm:oL m) {U:Heap} {tb fb rb bB cB bS cS mb:Nat} {wB cW:Nat->Nat} {kB cK:Nat->Nat->Nat} {M:mg} (hT:sG U W m tb fb rb bB cB bS cS wB cW kB cK) (hmb:U[mb]?=some (nI M)) (hM0:BR M 0) (hni:Ni U) :
  Ev prog 236 [.p tb,.map (some mb)] U (.i ((W.allR m).length:Nat)) (U.set mb (nI (zi M (W.allR m) (W.allR m).length))):=by
 have hrl:=Un hv (m:=m)
 have hns3:=hv.s
 have hmbl:=aS hmb
 have a7:=Us hM0
 refine aH U.length 34 func236 (h:=?_)
 refine WO fun F=>?_
 have hf1:=Oq (U:=U++[aC.rw [.map (some mb)]]++[aC.rw [.i 0]]) (tb:=tb)
 refine adO ?_
 refine dB [(3,.p U.length),(4,.i 0),(5,.p (U.length+1)),(10,.func (.func 297) #[] #[.p (U.length+2)])] (U++[aC.rw [.map (some mb)]]++[aC.rw [.i 0]]++[aC.rw [.p tb]]) rfl ⟨rfl,rfl,(by (refine congrArg (fun n=>some (Value.p n)) ?_;simp;try omega)),by simp [Env.get],trivial⟩ ?_
 have hp:(U++[aC.rw [.map (some mb)]]++[aC.rw [.i 0]]++[aC.rw [.p tb]]).take U.length=U:=oS
 have b0:(U++[aC.rw [.map (some mb)]]++[aC.rw [.i 0]]++[aC.rw [.p tb]])[U.length]?=some (aC.rw [.map (some mb)]):=aA (aA aN)
 have b1:(U++[aC.rw [.map (some mb)]]++[aC.rw [.i 0]]++[aC.rw [.p tb]])[U.length+1]?=some (aC.rw [.i 0]):=aA (bP oS)
 have b2:(U++[aC.rw [.map (some mb)]]++[aC.rw [.i 0]]++[aC.rw [.p tb]])[U.length+2]?=some (aC.rw [.p tb]):=bP oS
 have bm:(U++[aC.rw [.map (some mb)]]++[aC.rw [.i 0]]++[aC.rw [.p tb]])[mb]?=some (nI M):=aA (aA (aA hmb))
 have Y:(U++[aC.rw [.map (some mb)]]++[aC.rw [.i 0]]++[aC.rw [.p tb]]).all (fun o=>!aU o)=true:=aX (aX (aX hni rfl) rfl) rfl
 generalize (U++[aC.rw [.map (some mb)]]++[aC.rw [.i 0]]++[aC.rw [.p tb]])=Hc at hp b0 b1 b2 bm Y
 clear hf1
 have hHl:=aS b2
 refine jU (p:=[]) (q:=[.p (U.length+2)]) rfl fun L hL=>?_
 obtain ⟨A,c⟩:=xy (Hc++[aC.dfr,L])
 have hAl:A.length=Hc.length+2:=by rw [c];simp
 have a6:A.take U.length=U:=by rw [c];exact aP hp
 have ae:A[U.length]?=some (aC.rw [.map (some mb)]):=by rw [c];exact aA b0
 have C:A[U.length+1]?=some (aC.rw [.i 0]):=by rw [c];exact aA b1
 have ac:A[U.length+2]?=some (aC.rw [.p tb]):=by rw [c];exact aA b2
 have Vv:A[mb]?=some (nI M):=by rw [c];exact aA bm
 have D:Ni A:=by rw [c];exact aX Y (by rw [hL];rfl)
 have an:A[Hc.length]?=some .dfr:=by rw [c,bE (aD _)];simp
 have z:A[Hc.length+1]?=some L:=by rw [c,bE oO];simp
 rw [<- c]
 refine Hq (S:=fun j=>(A.set (U.length+1) (.rw [.i (j:Nat)])).set mb (nI (zi M (W.allR m) j))) (l:=Hc.length+1) (ib:=U.length+2) hv hm (by show (A.set (U.length+1) (.rw [.i ((0:Nat):Int)])).set mb (nI M)=A;rw [show ((0:Nat):Int)=0 from rfl,set_self C,set_self Vv]) (fun j=>by simp) (fun j=>aV (aB (aB ac oO) oO) rfl)
  (fun j=>(hT.setM (x:=nI (zi M (W.allR m) j)) hmb).take (OA (take_set a6 oO)))
  (fun j=>(aB (aB z oO) oO).trans (congrArg some hL)) (fun h j=>iW (Ht (Dq a7 _ j)) (iW (o:=.rw [.i _]) (by exact ⟨rfl,rfl⟩) h)) rfl ?_ ?_
 ·intro j hj X QB iq ai hil a2 al
  obtain ⟨a,g⟩:=xy ((W.allR m)[j])
  obtain ⟨Mj,w⟩:=xy (zi M (W.allR m) j)
  have v:a.length=W.ns+1:=by rw [g];exact Ur (cP _)
  have O:BR Mj ((j*(W.ns+1):Nat):Int):=by rw [w];exact Y5 hM0 (fun r hr=>Ur hr) j oO
  have ap:zi M (W.allR m) (j+1)=Qq Mj a (W.ns+1):=by
   have hg:(W.allR m).getD j []=a:=by rw [cE,cA hj,g];rfl
   unfold zi
   rw [hg,v,w]
  rw [<- g] at a2
  have hbig:j*(W.ns+1)<=93750*7:=Nat.mul_le_mul oO oO
  obtain ⟨HX,d⟩:=xy ((A.set (U.length+1) (.rw [.i (j:Nat)])).set mb (nI Mj)++X)
  have t:HX[iq]?=some (.rw (gQ a)):=by rw [d,w];exact a2
  have a4:HX[Hc.length+1]?=some L:=by rw [d];exact aA (aB (aB z oO) oO)
  have a9:HX[U.length]?=some (aC.rw [.map (some mb)]):=by rw [d];exact aA (aB (aB ae oO) oO)
  have aj:HX[U.length+1]?=some (aC.rw [.i (j:Nat)]):=by rw [d];exact aA (aB (aQ C) oO)
  have af:HX[mb]?=some (nI Mj):=by rw [d];exact aA (aQ (aB Vv oO))
  have P:Ni HX:=by rw [d];exact aX (jr (jr D rfl) rfl) ai
  have hrd:lJ (some (Hc.length+1)) (A.length+X.length)=true:=(show Nat.blt _ _=true from Nat.blt_eq.mpr oO)
  show bJ _ _ _ _ _ _ _ _ ((A.set (U.length+1) (.rw [.i (j:Nat)])).set mb (nI (zi M (W.allR m) j))++X)
  rw [<- w,<- d]
  refine Ll ?_
  refine vX a4 hL fun B hB=>?_
  obtain ⟨HB,f⟩:=xy (HX.set (Hc.length+1) B)
  have N:Ni HB:=by rw [f];exact jr P (by rw [hB];rfl)
  have a3:HB[U.length]?=some (aC.rw [.map (some mb)]):=by rw [f];exact aB a9 oO
  have a1:HB[U.length+1]?=some (aC.rw [.i (j:Nat)]):=by rw [f];exact aB aj oO
  have am:HB[mb]?=some (nI Mj):=by rw [f];exact aB af oO
  have Uq:HB[iq]?=some (.rw (gQ a)):=by rw [f];exact aB t fun e=>by rw [<- e,a4,hL] at t;cases t
  rw [<- f]
  have hput:putCells HB (U.length+1) 0 [.i ((j:Nat)+1)]=some (HB.set (U.length+1) (.rw [.i ((j:Nat)+1)])):=fF a1 oS oS rfl
  obtain ⟨HN,u⟩:=xy (HB.set (U.length+1) (.rw [.i ((j:Nat)+1)]))
  have ZZ:HN[U.length]?=some (aC.rw [.map (some mb)]):=by rw [u];exact aB a3 oO
  have I:HN[mb]?=some (nI Mj):=by rw [u];exact aB am oO
  have Q:Ni HN:=by rw [u];exact jr N rfl
  have y:U.length+1 ≠ iq:=oO
  have E:HN[iq]?=some (.rw (gQ a)):=by rw [u];exact aB Uq y
  rw [<- u] at hput
  have hc9:=aF (o:=0+0) ZZ
  refine Ll ?_
  refine dO (ι:=Nat) (fun i=>[(3,.p U.length),(16,.s iq (1+W.ns) (1+W.ns)),(17,.i ((1+W.ns:Nat):Int)),(18,.i (i:Nat))])
   (fun i mk H=>i<=1+W.ns/\mk=[]/\H=HN.set mb (nI (Qq Mj a i))) (fun i=>1+W.ns - i) 0 tE ⟨bL _,rfl,by show HN=HN.set mb (nI Mj);rw [set_self I]⟩ ?_
  rintro i mk H ⟨hi,rfl,hH⟩
  have a3:H[U.length]?=some (aC.rw [.map (some mb)]):=by rw [hH];exact aB ZZ oO
  have ag:H[mb]?=some (nI (Qq Mj a i)):=by rw [hH];exact aQ I
  have T:Ni H:=by rw [hH];exact jr Q rfl
  have R:H[iq]?=some (.rw (gQ a)):=by rw [hH];exact EK E I oS
  by_cases hin:i<1+W.ns
  ·have G:(i:Int)<((1+W.ns:Nat):Int):=oO
   have hcr:aI H iq i=some (.i ((a.getD i 0:Nat):Int)):=by
    rw [aF R,gQ,cJ,cE,cA oO];rfl
   have J:=Qr O oO a i
   obtain ⟨aa,ao,hg3⟩:=Y4 J oO ((i:Int) - 1,((a.getD i 0:Nat):Int))
   refine Ll ?_
   refine .mk (dB [(3,.p U.length),(7,.i (i:Nat)),(8,.i ((a.getD i 0:Nat):Int)),(16,.s iq (1+W.ns) (1+W.ns)),(17,.i ((1+W.ns:Nat):Int)),(18,.i (i:Nat))] H rfl tE ?_)
   refine QF 23 3 7 8 263 3 265 mixed rfl rfl (fun _ _=>rfl) oK rfl rfl rfl (aF a3) ag rfl rfl oO aa ⟨ao,oO⟩ T rfl ?_
   refine Ll ?_
   exact ⟨i+1,⟨oO,rfl,by rw [hH,cN];rfl⟩,oO,tE⟩
  ·obtain rfl:i=1+W.ns:=oO
   have G:¬ ((1+W.ns:Nat):Int)<((1+W.ns:Nat):Int):=oO
   refine Ll ?_
   have ah:H=((A.set (U.length+1) (.rw [.i ((j+1:Nat):Int)])).set mb (nI (zi M (W.allR m) (j+1)))).set (Hc.length+1) B++X++[]:=by
    rw [hH,u,f,d,bN,aaO oO oO oO oO oO oO,ap,eW 1 W.ns]
    rfl
   rw [ah,hB]
   exact al _ _ _
 ·refine ⟨.ready,none,_,_,_,_,_,(aB (aB z oO) oO).trans (congrArg some hL),by simp,?_⟩
  show (dK 0 _) _ _ _ _
  refine uz ?_
  refine rG ?_
  obtain ⟨K,hK⟩:=xy (((A.set (U.length+1) (.rw [.i ((W.allR m).length:Nat)])).set mb (nI (zi M (W.allR m) (W.allR m).length))).set (Hc.length+1) .dead)
  rw [<- hK]
  have a1:K[U.length+1]?=some (aC.rw [.i ((W.allR m).length:Nat)]):=by rw [hK];exact aB (aB (aQ C) oO) oO
  have a5:Mks U.length [Hc.length] K:=Mks.cons Mks.nil oS oO (by rw [hK];exact aB (aB (aB an oO) oO) oO)
  have ak:K.take (U.set mb (nI (zi M (W.allR m) (W.allR m).length))).length=U.set mb (nI (zi M (W.allR m) (W.allR m).length)):=by
   rw [hK];exact take_set (OA (take_set a6 oO)) (by rw [dk];omega)
  clear hK
  refine adO ?_
  have ad:=nR (mk:=[Hc.length]) ak fun x hx=>by rw [dk];exact (a5.2 x hx).1
  refine Qk a5 (v2:=.i ((W.allR m).length:Nat)) (σ2:=U.set mb (nI (zi M (W.allR m) (W.allR m).length))) (.tmp rfl .nil) ?_ ⟨rfl,rfl⟩
  have e:=(List.take_append_drop (U.set mb (nI (zi M (W.allR m) (W.allR m).length))).length (kE [Hc.length] K)).symm
  rw [ad] at e
  rw [e]
  exact aW.dropAll oS (by rw [dk];exact iW (Ht (Dq a7 _ _)) F) rfl
end Go.Proofs.YtajpgeklmcjciaaGreat
namespace Go.AH.Heat
def sO (U:Heap) (b i:Nat):Nat×Nat×Nat:=match (aK U b i 1).bind List.head? with|some v=>(match rC v with|some p=>(p.1,p.2.2.1,p.2.2.2)|none=>(0,0,0))|none=>(0,0,0)
def aaP (U:Heap) (b i n:Nat):Bool:=match aK U b i 1 with|some [v]=>(match rC v with|some p=>Nat.beq p.2.1 0 && Nat.beq p.2.2.1 n|none=>false)|_=>false
def QG (U:Heap) (b i n:Nat) (cs:List Value):Bool:=match aK U b i n with|some l=>Ah l cs|none=>false
def UH (W:Wk) (U:Heap) (bB bS:Nat):Bool :=
 (List.range W.nb).all (fun j=>QG U bB (j*2) 2 [.int .i64 (W.bf j).1,.int .i64 (W.bf j).2]) &&
  (List.range W.ns).all fun i=>aaP U bS i (W.nw i) && (List.range (W.nw i)).all fun k=>aaP U (sO U bS i).1 k (W.nk i k) && Nat.ble (W.nk i k) (sO U (sO U bS i).1 k).2.2 &&
   (List.range (W.nk i k)).all fun q=>QG U (sO U (sO U bS i).1 k).1 (q*3) 3 (jP (W.kf i k q))
theorem BJ {U:Heap} {b i n:Nat} {cs:List Value} (h:QG U b i n cs=true):aK U b i n=some cs:=by
 unfold QG at h
 split at h
 ·rename_i l hl;rw [hl,pq h]
 ·cases h
theorem Zb {U:Heap} {b i n:Nat} (h:aaP U b i n=true):aK U b i 1=some [.s ((sO U b i).1) n (sO U b i).2.2]:=by
 unfold aaP at h
 unfold sO
 split at h
 ·rename_i v hv
  split at h
  ·rename_i p hp
   simp only [aE] at h
   have h1:=aM h.1
   have h2:=aM h.2
   rw [hv]
   simp only [Option.bind_some,List.head?_cons,hp]
   rw [kP hp,h1,h2]
  ·cases h
 ·cases h
theorem qM {n:Nat} {p:Nat->Bool} (h:(List.range n).all p=true):∀ i<n,p i=true:=fun i hi=>List.all_eq_true.1 h i (List.mem_range.2 hi)
theorem yD {W:Wk} {U:Heap} {bB bS:Nat} (h:UH W U bB bS=true) :
  Di U W bB bS (fun i=>(sO U bS i).1) (fun i=>(sO U bS i).2.2) (fun i k=>(sO U (sO U bS i).1 k).1) (fun i k=>(sO U (sO U bS i).1 k).2.2) /\
   ∀ i<W.ns,∀ k<W.nw i,W.nk i k<=(sO U (sO U bS i).1 k).2.2:=by
 unfold UH at h
 rw [aE] at h
 have hB:=qM h.1
 have hS:=qM h.2
 have c:∀ i<W.ns,aaP U bS i (W.nw i)=true:=fun i hi=>(aE _ _ ▸ hS i hi:_/\_).1
 have a:∀ i<W.ns,∀ k<W.nw i,(aaP U (sO U bS i).1 k (W.nk i k) && Nat.ble (W.nk i k) (sO U (sO U bS i).1 k).2.2 && (List.range (W.nk i k)).all fun q=>QG U (sO U (sO U bS i).1 k).1 (q*3) 3 (jP (W.kf i k q)))=true:=fun i hi=>qM (aE _ _ ▸ hS i hi:_/\_).2
 refine ⟨⟨fun j hj=>BJ (hB j hj),fun i hi=>Zb (c i hi),fun i hi k hk=>?_,fun i hi k hk q hq=>?_⟩,fun i hi k hk=>?_⟩
 ·have:=a i hi k hk
  simp only [aE] at this
  exact Zb this.1.1
 ·have:=a i hi k hk
  simp only [aE] at this
  exact BJ (qM this.2 q hq)
 ·have:=a i hi k hk
  simp only [aE] at this
  exact cC this.1.2
def house:Wk where
 nb:=2
 bf:=fun j=>match j with|0=>(100,170)|_=>(150,300)
 ns:=2
 nw:=fun i=>match i with|0=>2|_=>1
 nk:=fun i k=>match i with|0=>(match k with|0=>2|_=>1)|_=>3
 kf:=fun i k q=>match i with
  |0=>(match k with|0=>(match q with|0=>(0,400,500)|_=>(180,450,600))|_=>(0,300,650))
  |_=>(match q with|0=>(0,200,300)|1=>(420,280,400)|_=>(550,350,480))
instance (r:Int×Int):Decidable (oL r):=by unfold oL;infer_instance
theorem Lm {n:Nat} {kf:Nat->Int×Int×Int} (h:(decide (0<n) && decide (n<=12) && decide ((kf 0).1=0) && (List.range n).all (fun q=>decide (0<=(kf q).1/\(kf q).1<=1000/\oL (kf q).2) && (decide (n<=q+1) || decide ((kf q).1<(kf (q+1)).1/\(kf q).2.1<=(kf (q+1)).2.1/\(kf (q+1)).2.1<=(kf q).2.2+1/\(kf q).2.2<=(kf (q+1)).2.2))))=true):adk n kf:=by
 simp only [aE,decide_eq_true_eq] at h
 obtain ⟨⟨⟨h1,h2⟩,h3⟩,h4⟩:=h
 have h5:=qM h4
 simp only [aE,ee,decide_eq_true_eq] at h5
 refine ⟨h1,h2,h3,fun q hq=>⟨(h5 q hq).1.1,(h5 q hq).1.2.1,(h5 q hq).1.2.2,fun hq1=>?_⟩,fun q hq=>?_⟩
 ·rcases (h5 q hq).2 with h|h
  ·omega
  ·exact h.1
 ·rcases (h5 q oO).2 with h|h
  ·omega
  ·exact h.2
theorem qN:Dj house:=by
 refine ⟨by decide,by decide,fun j hj=>?_,by decide,fun i hi=>?_,fun i hi=>?_,fun i hi k hk=>?_⟩
 ·match j,hj with
  |0,_=>decide
  |1,_=>decide
 ·match i,hi with
  |0,_=>decide
  |1,_=>decide
 ·match i,hi with
  |0,_=>decide
  |1,_=>decide
 ·match i,hi with
  |0,_ =>
   match k,hk with
   |0,_=>exact Lm oD
   |1,_=>exact Lm oD
  |1,_ =>
   match k,hk with
   |0,_=>exact Lm oD
def hm:Int×Int:=(410,420)
theorem Dt:house.someB hm=[0,1]:=by decide +kernel
theorem UJ:house.Oj hm 0=[0,1]:=by decide +kernel
theorem UK:house.Oj hm 1=[0]:=by decide +kernel
theorem OB:(house.allR hm).length=3:=by decide +kernel
theorem QH {v:Value} (hv:isI v=true):v=.i (pO v):=by
 unfold isI at hv;split at hv
 ·rfl
 ·cases hv
def niB (U:Heap):Bool:=U.all fun o=>!aU o
def Lp (U:Heap) (v:Value):Option ((Nat×Nat)×(Nat×Nat)):=(asAgg v).bind fun l=>match l with
 |[vB,vS]=>(rC vB).bind fun x=>(rC vS).bind fun y=>bT (Nat.beq x.2.1 0 && Nat.beq x.2.2.1 2 && Nat.beq y.2.1 0 && Nat.beq y.2.2.1 2 && Nat.blt x.1 U.length && Nat.blt y.1 U.length && UH house U x.1 y.1) (some ((x.1,x.2.2.2),(y.1,y.2.2.2)))
 |_=>none
def rowIs (U:Heap) (b:Nat) (l:List Value):Bool:=match (U[b]?).bind sW with|some cs=>Ah l cs|none=>false
def Jd (U:Heap) (tb:Nat):Option ((Nat×Nat)×(Nat×Nat)×(Nat×Nat)):=((U[tb]?).bind sW).bind fun cs=>match cs with
 |[vB,vS,_,_,vF,vR]=>(rC vB).bind fun x=>(rC vS).bind fun y=>(rC vF).bind fun f=>(rC vR).bind fun r =>
   bT (Ah [.slice (some ⟨x.1,0,none⟩) 2 x.2.2.2,.slice (some ⟨y.1,0,none⟩) 2 y.2.2.2,.int .i64 410,.int .i64 420,.slice (some ⟨f.1,0,none⟩) 3 3,.slice (some ⟨r.1,0,none⟩) 3 3] cs &&
    Nat.blt x.1 U.length && Nat.blt y.1 U.length && UH house U x.1 y.1 && rowIs U f.1 (dH house.front 0 3) && rowIs U r.1 (dH (house.kM hm) 0 3)) (some ((x.1,x.2.2.2),(y.1,y.2.2.2),(f.1,r.1)))
 |_=>none
def isHm (v:Value):Bool:=afr v (.agg #[.int .i64 410,.int .i64 420])
def QI (s:Int):Option (List Nat):=bif decide (s=-1) then some [0,1] else bif decide (s=0) then some [0,1] else bif decide (s=1) then some [0] else none
def Xu:aC->Bool
 |.map []=>true
 |_=>false
def Xv (f:Nat) (args:List Value) (U:Heap):Res:=match args with
 |[v]=>bif Nat.beq f 166 then (Lp U v).bind fun _=>bT (niB U) (iQ (.int .i64 0) U) else none
 |[v,u]=>bif Nat.beq f 79 then (Lp U v).bind fun x=>bT (isHm u && niB U) (some (.tuple #[.pointer (some ⟨U.length,0,none⟩),.int .i64 0],U++yA house hm x.1.1 x.1.2 x.2.1 x.2.2 U.length,U.length))
  else bif Nat.beq f 80 then (qH v).bind fun p=>bT (Nat.beq p.2 0 && niB U && isI u) ((Jd U p.1).bind fun _=>(QI (pO u)).bind fun l=>some (slN U.length l.length,U++[.rw (gQ l)],U.length))
  else bif Nat.beq f 236 then (qH v).bind fun p=>bT (Nat.beq p.2 0) ((Jd U p.1).bind fun _=>match u with
   |.map none=>iQ (.int .i64 3) U
   |.map (some mb)=>bT (niB U && (match U[mb]? with|some o=>Xu o|none=>false)) (some (.int .i64 3,U.set mb (nI (zi [] (house.allR hm) 3)),mb))
   |_=>none)
  else none
 |_=>none
theorem AQ {U:Heap} {v:Value} {x:(Nat×Nat)×(Nat×Nat)} (h:Lp U v=some x):v=.agg #[.s x.1.1 house.nb x.1.2,.s x.2.1 house.ns x.2.2]/\x.1.1 < U.length/\x.2.1 < U.length/\UH house U x.1.1 x.2.1=true:=by
 unfold Lp at h
 simp only [aL] at h
 obtain ⟨l,h1,h2⟩:=h
 split at h2
 ·simp only [aL,aO,aE] at h2
  obtain ⟨x',h3,y',h4,⟨⟨⟨⟨⟨⟨h5,h6⟩,h7⟩,h8⟩,h9⟩,d⟩,a⟩,c⟩:=h2
  cases c
  have h5:=aM h5
  have h6:=aM h6
  have h7:=aM h7
  have h8:=aM h8
  rw [mD h1,kP h3,kP h4,h5,h6,h7,h8]
  exact ⟨rfl,Nat.blt_eq.mp h9,Nat.blt_eq.mp d,a⟩
 ·cases h2
theorem UL {U:Heap} {b:Nat} {l:List Value} (h:rowIs U b l=true):U[b]?=some (.rw l):=by
 unfold rowIs at h
 split at h
 ·rename_i cs hcs
  obtain ⟨o,h1,h2⟩:=Option.bind_eq_some_iff.1 hcs
  rw [h1,oH h2,pq h]
 ·cases h
theorem Du {U:Heap} {tb:Nat} {x:(Nat×Nat)×(Nat×Nat)×(Nat×Nat)} (h:Jd U tb=some x):sG U house hm tb x.2.2.1 x.2.2.2 x.1.1 x.1.2 x.2.1.1 x.2.1.2 (fun i=>(sO U x.2.1.1 i).1) (fun i=>(sO U x.2.1.1 i).2.2) (fun i k=>(sO U (sO U x.2.1.1 i).1 k).1) (fun i k=>(sO U (sO U x.2.1.1 i).1 k).2.2):=by
 unfold Jd at h
 simp only [aL] at h
 obtain ⟨cs,⟨o,h0,h1⟩,h2⟩:=h
 split at h2
 ·simp only [aL,aO,aE] at h2
  obtain ⟨x',h3,y',h4,f,h5,r,h6,⟨⟨⟨⟨⟨g1,g2⟩,g3⟩,g4⟩,g5⟩,g6⟩,a⟩:=h2
  cases a
  have e:=pq g1
  rw [oH h1,<- e] at h0
  exact ⟨h0,UL g5,UL g6,(yD g4).1,Nat.blt_eq.mp g2,Nat.blt_eq.mp g3⟩
 ·cases h2
theorem Xw {s:Int} {l:List Nat} (h:QI s=some l):s<0/\l=house.someB hm\/∃ i:Nat,s=i/\i<house.ns/\l=house.Oj hm i:=by
 unfold QI at h
 by_cases h1:s=-1
 ·rw [decide_eq_true h1] at h
  cases h
  exact .inl ⟨oO,Dt.symm⟩
 ·rw [decide_eq_false h1] at h
  simp only [cond_false] at h
  by_cases h2:s=0
  ·rw [decide_eq_true h2] at h
   cases h
   exact .inr ⟨0,oO,by decide,UJ.symm⟩
  ·rw [decide_eq_false h2] at h
   simp only [cond_false] at h
   by_cases h3:s=1
   ·rw [decide_eq_true h3] at h
    cases h
    exact .inr ⟨1,oO,by decide,UK.symm⟩
   ·rw [decide_eq_false h3] at h;cases h
theorem aaQ {o:aC} (h:Xu o=true):o=nI []:=by
 unfold Xu at h
 split at h
 ·rfl
 ·cases h
end Go.AH.Heat
namespace Go.Proofs.YtajpgeklmcjciaaGreat
open Go Go.AH Go.AH.Heat
def adP:jw:=Xv
theorem aaR:iR prog adP:=by
 intro f c U r h
 have h:Xv f c U=some r:=h
 unfold Xv at h
 split at h
 ·rename_i v
  cases hf:Nat.beq f 166 with
  |false=>rw [hf] at h;cases h
  |true =>
   rw [hf] at h
   have a:=aM hf
   subst a
   simp only [cond_true,aL,aO] at h
   obtain ⟨x,h1,h2,h3⟩:=h
   cases nJ h3
   obtain ⟨h4,_,_,h7⟩:=AQ h1
   obtain ⟨h8,h9⟩:=yD h7
   rw [h4]
   exact ⟨BQ qN h8 h9 h2,Keep.refl⟩
 ·rename_i v u
  cases hf:Nat.beq f 79 with
  |true =>
   rw [hf] at h
   have a:=aM hf
   subst a
   simp only [cond_true,aL,aO,aE] at h
   obtain ⟨x,h1,⟨h2,d⟩,h3⟩:=h
   cases h3
   obtain ⟨h4,h5,h6,h7⟩:=AQ h1
   obtain ⟨h8,h9⟩:=yD h7
   rw [h4,IK h2]
   exact ⟨Qn (m:=hm) qN h8 h9 oD h5 h6 d,Keep.app⟩
  |false =>
   rw [hf] at h
   simp only [cond_false] at h
   clear hf
   cases hf:Nat.beq f 80 with
   |true =>
    rw [hf] at h
    have a:=aM hf
    subst a
    simp only [cond_true,aL,aO,aE] at h
    obtain ⟨p,h1,⟨⟨h2,h3⟩,h4⟩,x,h5,l,h6,h7⟩:=h
    cases h7
    have h2:=aM h2
    rw [jJ h1,h2,QH h4]
    exact ⟨Jb qN.ok oD (Du h5) h3 (Xw h6),Keep.app⟩
   |false =>
    rw [hf] at h
    simp only [cond_false] at h
    clear hf
    cases hf:Nat.beq f 236 with
    |false=>rw [hf] at h;cases h
    |true =>
     rw [hf] at h
     have a:=aM hf
     subst a
     simp only [cond_true,aL,aO] at h
     obtain ⟨p,h1,h2,x,h3,h4⟩:=h
     have h2:=aM h2
     rw [jJ h1,h2]
     split at h4
     ·cases nJ h4
      have:=count_nil qN oD (Du h3)
      rw [OB] at this
      exact ⟨this,Keep.refl⟩
     ·rename_i mb
      simp only [aO,aE] at h4
      obtain ⟨⟨h5,h6⟩,h7⟩:=h4
      cases h7
      split at h6
      ·rename_i o ho
       rw [aaQ h6] at ho
       have:=count_map qN oD (Du h3) ho (fun q hq=>by simp at hq) h5
       rw [OB] at this
       exact ⟨this,Keep.set⟩
      ·cases h6
     ·cases h4
 ·cases h
end Go.Proofs.YtajpgeklmcjciaaGreat
namespace Go.AH
section
variable {P:Program} (w:World)
end
section
variable {P:Program} {n0 N:Nat} {rd:Option Nat} {e:Env} {mk:List Nat} {U:Heap} {K:Env->List Nat->Heap->Prop} {all rest:List Oper}
end
section ops
variable {P:Program} {rd:Option Nat} {ty:TypeId} {e:Env} {U:Heap} {x y z a b:Operand} {v u:Value}
abbrev slq (i o sz n:Nat):Value:=.slice (some ⟨i,o,some sz⟩) n n
theorem af6 {n:Nat} {V:Rho} {i o sz k c':Nat} (hi:i<n) (hc:k<=c'/\(sz=0->k=c')) (hs:(V i).o+o+c'*sz<=(V i).s):gJ n V (slq i o sz k) (.slice (some ⟨(V i).b,(V i).o+o,none⟩) k c') :=
 VQ.gslice (q:=false) i o k k c' sz hc hs hi rfl
theorem OC {place:Nat->Option (Nat×Nat)}:∀ {vs:List (Nat×Value)} {cs cs':List Value},rO place cs vs=some cs'->cs'.length=cs.length
 |[],cs,cs',h=>by cases h;rfl
 |(i,v)::vs,cs,cs',h=>by
  simp only [rO] at h
  split at h
  ·cases h
  ·rename_i a size _
   cases hb:(Nat.beq (dM v).length size && Nat.ble (a+(dM v).length) cs.length) with
   |false=>rw [hb] at h;cases h
   |true =>
    rw [hb] at h
    simp only [aE] at hb
    rw [OC (place:=place) h,pU (cC hb.2)]
theorem Xx {t el size bytes len:Nat} {agg:Bool} {z:Value} {ps:List (Nat×Operand)} {vs:List (Nat×Value)} {cs:List Value} [ha:Sl P t el] [ht:Ty P el size agg z bytes] (hz:plain z=true)
  (hsz:z.cells.size=size) (h0:Nat.blt 0 (len*size)=true) (h1:Nat.ble (len*size) 16777216=true) (h:tJ e ps=some vs) (hf:rO (fun i=>some (i*size,size)) (fZ (dM z) len) vs=some cs) :
  bY P rd (.buildSlice t len ps.toArray) ty e U (slq U.length 0 size len) (U++[.gr cs el]) :=
 dh oS fun op ho _ G w0 V A w hs hx=>by
  obtain ⟨g1,g2⟩:=uQ (A:=A) (n:=U.length) (V:=V) (fun p hp u hu=>hx p.2 (by simp only [Op.operands];simp;exact ⟨p.1,hp⟩) u hu) h
  obtain ⟨ie,i1,i2,i3,_⟩:=ht.info
  obtain ⟨rc,g3,g4⟩:=vH vs _ _ _ _ (zZ (n:=U.length) (V:=V) (k:=len) hz hsz) g1 g2 hf
  have hcl:cs.length=len*size:=by
   have hv:=(kJ (bF (n:=0) (V:=fun k=>⟨k,0,0⟩) z hz)).1
   have hv:(dM z).length=z.cells.size:=by simpa using hv
   rw [OC hf,pW,hv,hsz]
  have c:rc.size=len*size:=by have:=g4.1;simp at this;omega
  have a:=kW hs (.cells rc el) (.gr cs el) (len*size) (by
   intro _
   refine ⟨fun hg=>by have h1:=(hs.fgn _ hg).1;have:=hs.size;simp only at h1;omega,rfl,rc,iC w _,c,oO,fun k hk d=>?_⟩
   exact (g4.2 k (oU hk) d).mono oS fun q hq=>iT hq)
  refine ⟨upd V U.length w.heap.size (len*size),.s w.heap.size len len,w.alloc (.cells rc el),.inl ?_,?_,by simp,fun i hi=>iT hi,a⟩
  ·have h0':=Nat.blt_eq.mp h0
   have h1':=cC h1
   have:=run_buildSlice (P:=P) w t el len (ps.toArray.map fun p=>(p.1,A.eval p.2)) rc ie z ha.und i1 i3 (by rw [i2];omega) (by rw [i2];omega) (by
    rw [i2]
    have em:(Array.range (len*size)).map (z.cells[· % z.cells.size]!)=madeCells z.cells (len*size):=rfl
    rw [em];simpa using g3)
   simp only [List.map_toArray] at this
   simp [execOp,ho,this]
  ·have:=af6 (n:=(U++[aC.gr cs el]).length) (V:=upd V U.length w.heap.size (len*size)) (i:=U.length) (o:=0) (sz:=size) (k:=len) (c':=len) oS ⟨aD _,fun _=>rfl⟩ (by simp [upd])
   rw [oh] at this
   simpa using this
end ops
end Go.AH
namespace Go.AH.Heat
def rgC (f:Nat->Int×Int):Nat->List Value
 |0=>[]
 |i+1=>rgC f i++[.int .i64 (f i).1,.int .i64 (f i).2]
theorem zq (f:Nat->Int×Int):∀ i,(rgC f i).length=i*2
 |0=>rfl
 |i+1=>by rw [rgC,bA,zq f i,Nat.succ_mul];rfl
theorem Gn (f:Nat->Int×Int):∀ i,dN (rgC f i)=true
 |0=>rfl
 |i+1=>by rw [rgC,pX,Gn f i];rfl
theorem adQ {f:Nat->Int×Int}:∀ {n i:Nat},i<n->((rgC f n).drop (i*2)).take 2=[.i (f i).1,.i (f i).2]
 |0,i,h=>by omega
 |n+1,i,h=>by
  have hl:=zq f n
  rw [rgC]
  by_cases hi:i<n
  ·have h2:i*2+2<=n*2:=oO
   rw [fv oO,fh (by rw [eR];omega)]
   exact adQ hi
  ·obtain rfl:i=n:=oO
   rw [<- hl,List.drop_left];rfl
end Go.AH.Heat
namespace Go.Proofs.YtajpgeklmcjciaaGreat
attribute [local irreducible] dA bJ bK jh fQ dK eH bY eu aW dR dW
open Go.AH.Heat
open Go.AH.Heat Go.AH.Warp
theorem UM {A B:Prop} (k:B) (h:Hide B->A:=by intro z_;(repeat' (first|refine sCm ?_|(refine gU ?_;first|(refine cO ?_;first|refine st (aJ rfl (by exact aF a0)) rfl rfl ?_|refine st (bG rfl (by assumption)) rfl rfl ?_)|refine sK0 ?_|refine sK3 ?_|refine FP ?_|refine sK8 ?_)|refine bU (id:=1) ?_|refine bU (id:=2) ?_|refine bU (id:=5) ?_|refine aG ?_|refine sK2 ?_|refine sK1 ?_|fail));exact z_.h):A:=h ⟨k⟩
theorem Hu {U:Heap} {B:Bld} {sb cS:Nat} (hv:mJ B) (hS:kQ U B sb) :
  Ev prog 175 [.agg #[.s sb B.n cS,.i B.most]] U (.p U.length) (U++[.rw (B.cs sb cS (U.length+1) (B.n+1)),.rw (rgC B.tu (B.n+1))]):=by
 refine aH U.length 42 func175 (h:=?_)
 refine UM ?_
 have a0:(U++[aC.rw [.s sb B.n cS,.i B.most]])[U.length]?=some (.rw [.s sb B.n cS,.i B.most]):=aN
 refine .mk (aG ?_)
 refine st (bG rfl (aV a0 rfl)) rfl rfl ?_
 refine st (pV oR rfl oR) rfl rfl ?_
 refine st (Xx oR oR oR oR rfl oR) rfl rfl ?_
 refine UM ?_
 obtain ⟨H0,e⟩:=xy (U++[aC.rw [.s sb B.n cS,.i B.most]]++[aC.gr (rgC B.tu 1) 23]++[aC.rw [.s sb B.n cS,.i B.most,eP (U.length+1) 2 1]])
 have e1:(U++[aC.rw [.s sb B.n cS,.i B.most]]).length=U.length+1:=oS
 refine .mk (dB [(1,.p U.length),(3,.p (U.length+2))] H0 (by rw [e,<- e1];rfl) ⟨rfl,by simp [Env.get],trivial⟩ ?_)
 have y:H0.take U.length=U:=by rw [e];simp
 have a0:H0[U.length]?=some (.rw [.s sb B.n cS,.i B.most]):=by rw [e];exact aA (aA aN)
 have w:H0[U.length+1]?=some (.gr (rgC B.tu 1) 23):=by rw [e];exact aA (bP e1)
 have C:H0[U.length+2]?=some (.rw [.s sb B.n cS,.i B.most,eP (U.length+1) 2 1]):=by rw [e];exact bP oS
 clear e e1
 apply aG
 refine UM ?_
 refine dO (ι:=Nat×Nat) (fun k=>[(3,.p (U.length+2)),(12,.s sb B.n cS),(13,.i (B.n:Nat)),(14,.i (k.1:Nat))])
  (fun k mk H=>k.1<=B.n/\mk=[]/\H.take U.length=U/\H[U.length+2]?=some (.rw [.s sb B.n cS,.i B.most,eP k.2 2 (k.1+1)])/\U.length+1<=k.2/\H[k.2]?=some (.gr (rgC B.tu (k.1+1)) 23)) (fun k=>B.n - k.1) (0,U.length+1) tE ⟨bL _,rfl,y,C,aD _,w⟩ ?_
 clear y a0 w C H0
 rintro ⟨i,g⟩ mk H ⟨hi,rfl,hp,hr,G,hg⟩
 dsimp only at hi G hg hr
 dsimp only
 have hn20:=hv.n
 have hHl:=aS hg
 have F:=aS hr
 by_cases z:i<B.n
 ·have K:(i:Int)<(B.n:Nat):=oO
  have hst:=hv.st i z
  have hd1:aK H sb (0+i*4) 4=some [.i (B.ang i),.i (B.tlo i),.i (B.thi i),.i (B.hard i)]:=by rw [aR];exact dJ hp (hS.st i z)
  refine UM ?_
  obtain ⟨H2,d⟩:=xy (H++[aC.rw [.i (B.ang i),.i (B.tlo i),.i (B.thi i),.i (B.hard i)]])
  refine .mk (dB [(3,.p (U.length+2)),(5,.p H.length),(12,.s sb B.n cS),(13,.i (B.n:Nat)),(14,.i (i:Nat))] H2 d.symm tE ?_)
  have f:H2.length=H.length+1:=by rw [d];simp
  have b3:H2[U.length+2]?=some (.rw [.s sb B.n cS,.i B.most,eP g 2 (i+1)]):=by rw [d];exact aA hr
  have b5:H2[H.length]?=some (.rw [.i (B.ang i),.i (B.tlo i),.i (B.thi i),.i (B.hard i)]):=by rw [d];exact aN
  have L:H2[g]?=some (.gr (rgC B.tu (i+1)) 23):=by rw [d];exact aA hg
  have hp2:H2.take U.length=U:=by rw [d];exact aP hp
  have a:∀ {o:Nat},closed H2.length (.pointer (some ⟨U.length+2,o,none⟩))=true:=fun {o}=>Nat.blt_eq.mpr (by rw [f];exact Nat.lt_succ_of_lt F)
  have j:∀ {o:Nat},closed H2.length (.pointer (some ⟨H.length,o,none⟩))=true:=fun {o}=>Nat.blt_eq.mpr (by rw [f];exact Nat.lt_succ_self _)
  have t:closed H2.length (eP g 2 (i+1))=true:=mQ (Nat.blt_eq.mpr oO)
  have hq3:∀ X,aI (H2++X) (U.length+2) (0+2)=some (eP g 2 (i+1)):=fun X=>aF (aA b3)
  have E:∀ X,aI (H2++X) H.length (0+0)=some (.i (B.ang i)):=fun X=>aF (aA b5)
  have N:∀ X,aI (H2++X) H.length (0+1+0)=some (.i (B.tlo i)):=fun X=>aF (aA b5)
  have J:∀ X,aI (H2++X) H.length (0+1+1)=some (.i (B.thi i)):=fun X=>aF (aA b5)
  have c:g ≠ U.length+2:=by intro h;rw [h,hr] at hg;cases hg
  have I:(H2++[aC.rw [.i (B.tlo i - B.ang i),.i (B.thi i - B.ang i)]])[g]?=some (.gr (rgC B.tu (i+1)) 23):=aA L
  have m:(rgC B.tu (i+1)).length=(i+1)*2:=zq _ _
  have u:aK (H2++[aC.rw [.i (B.tlo i - B.ang i),.i (B.thi i - B.ang i)]]) (H2++([]:Heap)).length 0 (1*2)=some [.i (B.tlo i - B.ang i),.i (B.thi i - B.ang i)]:=by rw [bN];exact dZ rfl
  have hput:∀ v x,putCells ((H2++[aC.rw [.i (B.tlo i - B.ang i),.i (B.thi i - B.ang i)]]).set g .dead++x) (U.length+2) (0+2) [v]=some (((H2++[aC.rw [.i (B.tlo i - B.ang i),.i (B.thi i - B.ang i)]]).set g .dead++x).set (U.length+2) (.rw [.s sb B.n cS,.i B.most,v])):=fun v x=>fF (aA (aB (aA b3) c)) oS oS rfl
  clear d hd1
  refine Late.Bo 0 18 (id:=5) oK rfl ?_
  repeat' (first|refine sCm ?_|(refine gU ?_;first|refine st (jO oR oR rfl (by exact I) (by exact m) rfl (by exact u) oO oR oO oD) rfl rfl ?_|(refine gZ ?_;refine stN (bW rfl rfl rfl rfl (by exact hput _ _)) rfl ?_))|(refine fU ?_;first|refine nH ?_;refine frA (dY rfl) rfl ?_ a|refine L9 ?_;refine frA (jB rfl) rfl ?_ a|refine fFA ?_;refine frA (bD rfl) rfl ?_ a|refine fFA ?_;refine frA (bD rfl) rfl ?_ j|refine eU ?_;refine frA (aJ rfl (by exact hq3 _)) rfl ?_ t|refine eU ?_;refine frA (aJ rfl (by exact E _)) rfl ?_ rfl|refine eU ?_;refine frA (aJ rfl (by exact N _)) rfl ?_ rfl|refine eU ?_;refine frA (aJ rfl (by exact J _)) rfl ?_ rfl|refine Iz ?_|(refine JC ?_;refine fr (pV oR rfl oR) oR rfl ?_)|refine aaq ?_)|(refine fP ⟨oK,?_⟩)|refine aG ?_|refine Late.split ?_ rfl rfl rfl rfl ?_)
  all_goals
   refine ⟨(i+1,H2.length+1),⟨by dsimp only;omega,rfl,take_set (aP (take_set (aP hp2) oO)) oO,?_,by dsimp only;omega,?_⟩,by dsimp only;omega,tE⟩
   ·rw [aQ (aA (aB (aA b3) c))]
    show some (aC.rw [_,_,eP (List.length (H2++[_])) 2 (i+1+1)])=_
    rw [bA];rfl
   ·exact aB (bP oS) (by dsimp only;omega)
 ·obtain rfl:i=B.n:=oO
  have K:¬ ((B.n:Nat):Int)<(B.n:Nat):=oO
  refine UM ?_
  have c:g ≠ U.length+2:=by intro h;rw [h,hr] at hg;cases hg
  have D:sb < U.length:=dS (hS.st 0 oO)
  have s0:fK U.length [U.length+2,g] U.length=⟨U.length+2,0,0⟩:=by simp [fK]
  have s1:fK U.length [U.length+2,g] (U.length+1)=⟨g,0,0⟩:=by simp [fK];omega
  have M:jS (U.length+2) (fK U.length [U.length+2,g]) (.p U.length) (.p (U.length+2)):=by
   have:=VQ.ptr (q:=true) (n:=U.length+2) (V:=fK U.length [U.length+2,g]) U.length 0 oO;rw [s0] at this;exact this
  refine dG (v2:=.p U.length) (σ2:=U++[aC.rw (B.cs sb cS (U.length+1) (B.n+1)),aC.rw (rgC B.tu (B.n+1))]) (.tmp rfl .nil) (aW.src [.rw (B.cs sb cS (U.length+1) (B.n+1)),.rw (rgC B.tu (B.n+1))] [U.length+2,g] hp rfl (by simp [dF];omega) ⟨sF s0 (.inl hr) rfl fun x h1 h2=>?_,wM s1 (.inr ⟨_,hg⟩) (Gn _ _),trivial⟩ M) ⟨rfl,rfl⟩
  have hx:x<3:=h1
  rcases (by omega:x=0\/x=1\/x=2) with rfl|rfl|rfl
  ·exact jY (by simp;omega) (gu D) (aD _)
  ·exact .int _ _
  ·exact kX oS s1
theorem EL {K:Heap} {x y:aC}:(K++[x,y])[K.length]?=some x:=oS
theorem yE {K:Heap} {x y:aC}:(K++[x,y])[K.length+1]?=some y:=by rw [bE oO];simp
theorem Gp {H:Heap} {b n i:Nat} {f:Nat->Int×Int} (h:H[b]?=some (.rw (rgC f n))) (hi:i<n):aK H b (i*2) 2=some [.i (f i).1,.i (f i).2]:=by
 have hl:=zq f n
 unfold aK
 rw [h]
 have hb:Nat.ble (i*2+2) (rgC f n).length=true:=by rw [hl,Nat.ble_eq];omega
 simp only [hb,cond_true,adQ hi]
theorem EM {K:Heap} {B:Bld} {sb cS:Nat} (hS:kQ K B sb):iY (K++[.rw (B.cs sb cS (K.length+1) (B.n+1)),.rw (rgC B.tu (B.n+1))]) B K.length sb cS (K.length+1) (B.n+1) :=
 ⟨EL,fun j hj=>by have h4:=hS.st j hj;rw [jl (dS h4)];exact h4,fun j hj=>Gp yE oO⟩
theorem kQ.app {K X:Heap} {B:Bld} {sb:Nat} (hS:kQ K B sb):kQ (K++X) B sb:=⟨fun j hj=>by have h4:=hS.st j hj;rw [jl (dS h4)];exact h4⟩
theorem UN {U H:Heap} {B:Bld} {sb cS i j:Nat} {f:Value} (hp:H.take U.length=U) (hb:H[i]?=some (.rw (B.cs sb cS j (B.n+1)))) (ht:H[j]?=some (.rw (rgC B.tu (B.n+1)))) (hi:U.length<=i) (hj:U.length<=j) (hij:i ≠ j) (hsb:sb < U.length) (hf:AH.plain f=true) :
  aW U H (.tuple #[.p i,f]) (.tuple #[.p U.length,f]) (U++[.rw (B.cs sb cS (U.length+1) (B.n+1)),.rw (rgC B.tu (B.n+1))]):=by
 have s0:fK U.length [i,j] U.length=⟨i,0,0⟩:=by simp [fK]
 have s1:fK U.length [i,j] (U.length+1)=⟨j,0,0⟩:=by simp [fK];omega
 have a:jS (U.length+2) (fK U.length [i,j]) (.p U.length) (.p i):=by
  have:=VQ.ptr (q:=true) (n:=U.length+2) (V:=fK U.length [i,j]) U.length 0 oO;rw [s0] at this;exact this
 refine aW.src [.rw (B.cs sb cS (U.length+1) (B.n+1)),.rw (rgC B.tu (B.n+1))] [i,j] hp rfl (by simp [dF];omega) ⟨sF s0 (.inl hb) rfl fun x h1 h2=>?_,wM s1 (.inl ht) (Gn _ _),trivial⟩ (sH a (bF _ hf))
 have hx:x<3:=h1
 rcases (by omega:x=0\/x=1\/x=2) with rfl|rfl|rfl
 ·exact jY (by simp;omega) (gu hsb) (aD _)
 ·exact .int _ _
 ·exact jY oS s1 (aD _)
theorem aaS {U:Heap} {a l h d:Int} (hs:-100<=a/\a<=100/\-100<=l/\l<=h/\h<=100/\1<=d/\d<=9) (hni:Ni U):Ev prog 193 [.agg #[.i a,.i l,.i h,.i d]] U (.bool false) U:=by
 refine aH U.length 30 func193 (h:=?_)
 have a0:(U++[aC.rw [.i a,.i l,.i h,.i d]])[U.length]?=some (.rw [.i a,.i l,.i h,.i d]):=aN
 have a1:(U++[aC.rw [.i a,.i l,.i h,.i d]]++[aC.rw (ints [a,l,h])])[U.length]?=some (.rw [.i a,.i l,.i h,.i d]):=aA aN
 have hf1:=oM (U:=U++[aC.rw [.i a,.i l,.i h,.i d]]++[aC.rw (ints [a,l,h])]) (l:=[a,l,h]) (lo:=-100) (hi:=100) (x:=(U++[aC.rw [.i a,.i l,.i h,.i d]]).length) (c:=3) (.inr (.inl aN)) oS (aX (aX hni rfl) rfl)
 have hf2:=oM (U:=U++[aC.rw [.i a,.i l,.i h,.i d]]++[aC.rw (ints [a,l,h])]++[aC.rw (ints [d])]) (l:=[d]) (lo:=1) (hi:=9) (x:=(U++[aC.rw [.i a,.i l,.i h,.i d]]++[aC.rw (ints [a,l,h])]).length) (c:=1) (.inr (.inl aN)) oS (aX (aX (aX hni rfl) rfl) rfl)
 rw [decide_eq_true (by simp;omega)] at hf1 hf2
 have hgt:¬ l > h:=oO
 repeat' (first|refine sCm ?_|(refine gU ?_;first|(refine cO ?_;refine st (aJ rfl (by exact ig rfl)) rfl rfl ?_)|(refine lM ?_;refine st (je rfl (by first|rfl|exact bM oA) rfl) rfl rfl ?_)|(refine rW ?_;refine st (iV rfl) rfl rfl ?_)|(refine dV ?_;refine st (bC rfl rfl rfl (by exact hf1)) rfl rfl ?_)|refine Me ?_)|(refine gG ?_;first|(refine gFA ?_;refine stG rfl (by first|rfl|exact bM oA) (bD rfl) rfl rfl ?_)|(refine cO ?_;refine stG rfl (by first|rfl|exact bM oA) (aJ rfl (by exact aF a1)) rfl rfl ?_)|(refine yS ?_;refine stG rfl oR (iU rfl rfl rfl) rfl rfl ?_)|(refine rW ?_;refine stG rfl (by exact bM oA) (iV rfl) rfl rfl ?_)|(refine dV ?_;refine stG rfl (by exact bM oA) (bC rfl rfl rfl (by exact hf2)) rfl rfl ?_)|(refine Bc ?_;refine stG rfl (by exact bM oA) (oW oR oR oR oR rfl oR) rfl rfl ?_))|refine aG ?_)
 exact dG (.tmp rfl .nil) (.plain oS rfl) ⟨rfl,rfl⟩
theorem BX {U:Heap} {B:Bld} {sb cS:Nat} (hv:mJ B) (hS:kQ U B sb) (hni:Ni U) :
  Ev prog 92 [.agg #[.s sb B.n cS,.i B.most]] U (.i 0) U:=by
 refine aH U.length 26 func92 (h:=?_)
 have hn:=hv.n
 have hm:=hv.most
 have a0:(U++[aC.rw [.s sb B.n cS,.i B.most]])[U.length]?=some (.rw [.s sb B.n cS,.i B.most]):=aN
 have hn0:¬ (B.n:Int)=0:=oO
 have hn3:¬ (B.n:Int) > 20:=oO
 have hf1:=ads (U:=U++[aC.rw [.s sb B.n cS,.i B.most]]) (b:=sb) (n:=B.n) (c:=cS) (p:=[]) (q:=[]) (f:=193) (el:=fun i=>[.i (B.ang i),.i (B.tlo i),.i (B.thi i),.i (B.hard i)]) (pb:=fun _=>false) (fun j hj=>by have h4:=hS.st j hj;rw [jl (dS h4)];exact h4) (fun j hj=>aaS (hv.st j hj) (aX hni rfl)) oO
 rw [show decide (∃ j<B.n,(fun _:Nat=>false) j=true)=false by simp] at hf1
 have hf2:=oM (U:=U++[aC.rw [.s sb B.n cS,.i B.most]]++[aC.rw (ints [B.most])]) (l:=[B.most]) (lo:=0) (hi:=200) (x:=(U++[aC.rw [.s sb B.n cS,.i B.most]]).length) (c:=1) (.inr (.inl aN)) oS (aX (aX hni rfl) rfl)
 rw [decide_eq_true (by simp;omega)] at hf2
 repeat' (first|refine sCm ?_|(refine gU ?_;first|(refine cO ?_;refine st (aJ rfl (by exact ig rfl)) rfl rfl ?_)|refine sK0 ?_|(refine lM ?_;refine st (je rfl (by exact bM oA) rfl) rfl rfl ?_)|(refine rW ?_;refine st (iV rfl) rfl rfl ?_)|(refine dV ?_;refine st (bC rfl rfl rfl (by first|exact hf1|exact hf2)) rfl rfl ?_)|refine Me ?_)|(refine gG ?_;first|(refine gFA ?_;refine stG rfl (by exact bM oA) (bD rfl) rfl rfl ?_)|(refine cO ?_;refine stG rfl (by exact bM oA) (aJ rfl (by exact ig rfl)) rfl rfl ?_)|refine TJ ?_|(refine Iq ?_;refine stG rfl (by exact bM oA) (lY rfl) rfl rfl ?_))|refine aG ?_|refine sK1 ?_|fail)
 exact dG (.tmp rfl .nil) (.plain oS rfl) ⟨rfl,rfl⟩
theorem yF {U:Heap} {B:Bld} {sb cS:Nat} (hv:mJ B) (hS:kQ U B sb) (hni:Ni U) :
  Ev prog 85 [.agg #[.s sb B.n cS,.i B.most]] U (.tuple #[.p U.length,.i 0]) (U++[.rw (B.cs sb cS (U.length+1) (B.n+1)),.rw (rgC B.tu (B.n+1))]):=by
 refine aH U.length 12 func85 (h:=?_)
 have a0:(U++[aC.rw [.s sb B.n cS,.i B.most]])[U.length]?=some (.rw [.s sb B.n cS,.i B.most]):=aN
 have a:kQ (U++[aC.rw [.s sb B.n cS,.i B.most]]) B sb:=⟨fun j hj=>by have h4:=hS.st j hj;rw [jl (dS h4)];exact h4⟩
 have hf1:=BX (cS:=cS) hv a (aX hni rfl)
 have hf2:=Hu (cS:=cS) hv a
 repeat' (first|refine sCm ?_|(refine gU ?_;first|(refine cO ?_;refine st (bG rfl (by exact aV a0 rfl)) rfl rfl ?_)|refine sK0 ?_|(refine dV ?_;refine st (bC rfl rfl rfl (by first|exact hf1|exact hf2)) rfl rfl ?_))|refine aG ?_|refine lg rfl oR ?_)
 have c:sb < U.length:=dS (hS.st 0 (by have:=hv.n;omega))
 refine dG (.tmp rfl (.tmp rfl .nil)) (UN oS EL yE oS (by simp;omega) oO c rfl) ⟨rfl,rfl⟩
theorem ais {U:Heap} {B:Bld} {sb cS i:Nat} (hv:mJ B) (hS:kQ U B sb) (hi:i<B.n) (hni:Ni U) :
  Ev prog 110 [.agg #[.s sb B.n cS,.i B.most],.i (i:Nat)] U (.tuple #[.p U.length,.i 0]) (U++[.rw (B.cs sb cS (U.length+1) (B.n+1)),.rw (rgC B.tu (B.n+1))]):=by
 refine aH U.length 28 func110 (h:=?_)
 have a0:∀ X,(U++[aC.rw [.s sb B.n cS,.i B.most]]++X)[U.length]?=some (.rw [.s sb B.n cS,.i B.most]):=fun X=>aA aN
 have a1:=a0 []
 rw [bN] at a1
 have a2:=a0 [.rw (B.cs sb cS ((U++[aC.rw [.s sb B.n cS,.i B.most]]).length+1) (B.n+1)),.rw (rgC B.tu (B.n+1))]
 have c:kQ (U++[aC.rw [.s sb B.n cS,.i B.most]]) B sb:=⟨fun j hj=>by have h4:=hS.st j hj;rw [jl (dS h4)];exact h4⟩
 have hf1:=yF (cS:=cS) hv c (aX hni rfl)
 have hi0:¬ ((i:Nat):Int)<0:=oO
 have hi1:¬ ((i:Nat):Int)>=(B.n:Nat):=oO
 clear a0
 have a0:=a1
 repeat' (first|refine sCm ?_|(refine gU ?_;first|(refine cO ?_;refine st (bG rfl (by exact aV a0 rfl)) rfl rfl ?_)|refine sK0 ?_|(refine lM ?_;refine st (je rfl oR rfl) rfl rfl ?_)|(refine dV ?_;refine st (bC rfl rfl rfl (by exact hf1)) rfl rfl ?_))|(refine gG ?_;first|(refine wK ?_;refine stG rfl oR (dY rfl) rfl rfl ?_)|(refine gFA ?_;refine stG rfl oR (bD rfl) rfl rfl ?_)|(refine cO ?_;refine stG rfl oR (aJ rfl (by exact aF a2)) rfl rfl ?_)|(refine yS ?_;refine stG rfl oR (iU rfl rfl rfl) rfl rfl ?_)|(refine Iq ?_;refine stG rfl oR (lY rfl) rfl rfl ?_))|refine aG ?_|refine sK1 ?_|fail)
 have a:sb < U.length:=dS (hS.st 0 (by have:=hv.n;omega))
 refine dG (.tmp rfl (.tmp rfl .nil)) (UN oS EL yE oS (by simp;omega) oO a rfl) ⟨rfl,rfl⟩
theorem _root_.Go.AH.Gq {U:Heap} {cs vs:List Value} {o:Nat} (h:Nat.ble (o+vs.length) cs.length=true) (h0:Nat.blt 0 cs.length=true):putCells (U++[.rw cs]) U.length o vs=some (U++[.rw (splice cs o vs)]):=by
 rw [fF oS (cC h) (Nat.blt_eq.mp h0) rfl];simp
theorem af7 {U:Heap} {x y:Int×Int}:Ev prog 181 [.agg #[.i x.1,.i x.2],.agg #[.i y.1,.i y.2]] U (.agg #[.i (Bl.meet x y).1,.i (Bl.meet x y).2]) U:=by
 refine aH U.length 16 func181 (h:=?_)
 have hc1:∀ A B,aI (U++[aC.rw [.i x.1,.i x.2]]++[A]++[B]) U.length (0+0)=some (.i x.1):=fun A B=>aF (aA (aA aN))
 have hc2:∀ A B,aI (U++[aC.rw [.i x.1,.i x.2]]++[A]++[B]) U.length (0+1)=some (.i x.2):=fun A B=>aF (aA (aA aN))
 have hc3:∀ A B,aI (U++[A]++[aC.rw [.i y.1,.i y.2]]++[B]) (U++[A]).length (0+0)=some (.i y.1):=fun A B=>aF (aA aN)
 have a:∀ A B,aI (U++[A]++[aC.rw [.i y.1,.i y.2]]++[B]) (U++[A]).length (0+1)=some (.i y.2):=fun A B=>aF (aA aN)
 repeat' (first|refine sCm ?_|(refine gU ?_;first|(refine cO ?_;refine st (aJ rfl (by first|exact hc3 _ _|exact hc1 _ _|exact hc2 _ _|exact a _ _)) rfl rfl ?_)|(refine gMax ?_;refine st (CG rfl rfl) rfl rfl ?_)|(refine ae9 ?_;refine st (Fg rfl rfl) rfl rfl ?_)|refine FP ?_|refine sK8 ?_)|refine aG ?_)
 exact dG (.cellN inferInstance rfl (dZ rfl) .nil) (aW.plain oS rfl) ⟨rfl,rfl⟩
theorem Gs {A B:Prop} (k:B) (h:Hide B->A:=by intro z_;(repeat' (first|refine sCm ?_|(refine gU ?_;first|(refine cO ?_;first|refine st (aJ rfl (by first|exact hc1 _|exact hc2 _|exact hc3 _ _)) rfl rfl ?_|refine st (bG rfl (by exact dZ rfl)) rfl rfl ?_)|refine sK0 ?_|refine sK3 ?_|(refine ae7 ?_;refine st (Cj rfl) rfl rfl ?_)|refine FP ?_|(refine gZ ?_;refine stN (bW rfl rfl rfl rfl (by first|exact iH (aD _) (cL _)|exact Gq rfl rfl|exact hput0 _ _ _)) rfl ?_))|refine aG ?_|refine oV rfl (by first|rfl|exact fE (by assumption)|exact fE (by omega)) ?_|refine lg rfl (by first|rfl|exact bM (by assumption)|exact bM (by omega)) ?_));exact z_.h):A:=h ⟨k⟩
theorem adR {U:Heap} {B:Bld} {nb sb cS tb cT:Nat} (hv:mJ B) (hB:iY U B nb sb cS tb cT) {i:Nat} (hi:i<B.n) {d:Int} :
  Ev prog 182 [.p nb,.i (i:Nat),.i d] U (.agg #[.i (Bl.borne (B.hard i) B.most d).1,.i (Bl.borne (B.hard i) B.most d).2]) U:=by
 refine aH U.length 49 func182 (h:=?_)
 have hc1:∀ A,aI (U++[A]) nb (0+0+0)=some (.s sb B.n cS):=fun A=>aF (hB.app (X:=[A])).nb
 have hc2:∀ A,aI (U++[A]) sb (0+i*4+2+1)=some (.i (B.hard i)):=fun A=>by rw [aR];exact eX (k:=3) ((hB.app (X:=[A])).st i hi) oO
 have hc3:∀ A C,aI (U++[A]++[C]) nb (0+0+1)=some (.i B.most):=fun A C=>by rw [cD];exact aF (hB.app (X:=[A]++[C])).nb
 have hc4:∀ A,aI (U++[A]) sb (0+i*4+3)=some (.i (B.hard i)):=fun A=>by rw [aR];exact eX (k:=3) ((hB.app (X:=[A])).st i hi) oO
 have c:=hv.st i hi
 have hmo:=hv.most
 have hiI:(i:Int)<(B.n:Int):=oO
 have hh:=c.2.2.2.2.2
 have w1:IntKind.i64.wrap (0 - B.hard i)=-B.hard i:=by rw [wrap64 oO oO];omega
 have w2:IntKind.i64.wrap (0 - B.most)=-B.most:=by rw [wrap64 oO oO];omega
 have hput0:∀ (C:aC) (x y:Value),putCells (U++[aC.rw [.i 0,.i 0]]++[C]) U.length 0 [x,y]=some (U++[aC.rw [x,y]]++[C]):=fun C x y=>by
  rw [fF (cs:=[.i 0,.i 0]) (cs':=[x,y]) (aA aN) oS oS rfl];simp
 have hcl:∀ (C:aC) (x y:Value),aK (U++[aC.rw [x,y]]++[C]) U.length 0 2=some [x,y]:=fun C x y=>aV (aA aN) rfl
 have a:∀ {lo hi:Int},(Bl.borne (B.hard i) B.most d)=(lo,hi)->(Value.agg #[.i lo,.i hi]=Value.agg #[.i (Bl.borne (B.hard i) B.most d).1,.i (Bl.borne (B.hard i) B.most d).2]):=fun h=>by rw [h]
 rcases (by omega:d > 0\/d<0\/(¬ d > 0/\¬ d<0)) with g1|g1|⟨g1,g2⟩
 ·have g2:¬ d<0:=oO
  have g4:¬ d=-B.most:=oO
  by_cases g3:d=B.most
  ·refine Gs ?_
   refine dG (.cellN inferInstance rfl (hcl _ _ _) .nil) (aW.plain oS rfl) ⟨a ?_,rfl⟩
   unfold Bl.borne
   dsimp only
   refine Prod.ext ?_ ?_ <;> dsimp only <;> (repeat' split) <;> first|rfl|omega
  ·refine Gs ?_
   refine dG (.cellN inferInstance rfl (hcl _ _ _) .nil) (aW.plain oS rfl) ⟨a ?_,rfl⟩
   unfold Bl.borne
   dsimp only
   refine Prod.ext ?_ ?_ <;> dsimp only <;> (repeat' split) <;> first|rfl|omega
 ·have g2:¬ d > 0:=oO
  have g3:¬ d=B.most:=oO
  by_cases g4:d=-B.most
  ·refine Gs ?_
   refine dG (.cellN inferInstance rfl (hcl _ _ _) .nil) (aW.plain oS rfl) ⟨a ?_,rfl⟩
   unfold Bl.borne
   dsimp only
   refine Prod.ext ?_ ?_ <;> dsimp only <;> (repeat' split) <;> first|rfl|omega
  ·refine Gs ?_
   refine dG (.cellN inferInstance rfl (hcl _ _ _) .nil) (aW.plain oS rfl) ⟨a ?_,rfl⟩
   unfold Bl.borne
   dsimp only
   refine Prod.ext ?_ ?_ <;> dsimp only <;> (repeat' split) <;> omega
 ·by_cases g3:d=B.most
  ·have g4:d=-B.most:=oO
   refine Gs ?_
   refine dG (.cellN inferInstance rfl (hcl _ _ _) .nil) (aW.plain oS rfl) ⟨a ?_,rfl⟩
   unfold Bl.borne
   dsimp only
   refine Prod.ext ?_ ?_ <;> dsimp only <;> (repeat' split) <;> rfl
  ·have g4:¬ d=-B.most:=oO
   refine Gs ?_
   refine dG (.cellN inferInstance rfl (hcl _ _ _) .nil) (aW.plain oS rfl) ⟨a ?_,rfl⟩
   unfold Bl.borne
   dsimp only
   refine Prod.ext ?_ ?_ <;> dsimp only <;> (repeat' split) <;> first|rfl|omega
end Go.Proofs.YtajpgeklmcjciaaGreat
namespace Go.AH
def Frm (U:Heap) (b:Nat) (H:Heap):Prop:=U.length<=H.length/\∀ i < U.length,i ≠ b->H[i]?=U[i]?
theorem Frm.set {U:Heap} {b:Nat} {o:aC}:Frm U b (U.set b o):=⟨by simp,fun i _ a=>by rw [eE (Ne.symm a)]⟩
theorem Frm.refl {U:Heap} {b:Nat}:Frm U b U:=⟨aD _,fun _ _ _=>rfl⟩
def rP (D:Int->Bool) (L:List Int):List Int:=L.filter fun x=>!D x
theorem oN {D:Int->Bool} {L:List Int} {x:Int}:rP D (L++[x])=if D x then rP D L else rP D L++[x]:=by
 unfold rP
 cases h:D x <;> simp [h]
theorem aaT (D:Int->Bool) (L:List Int):(rP D L).length<=L.length:=List.length_filter_le _ _
theorem xk {L:List Int} {j:Nat} (h:j<L.length):L.take (j+1)=L.take j++[gi L j]:=by
 rw [List.take_add_one];simp [gi,h]
theorem af8 {L M:List Int} {j:Nat} (h:M.drop j=L.drop j) (hj:j<L.length) (hM:M.length=L.length):gi M j=gi L j:=by
 have h1:(M.drop j)[0]?=(L.drop j)[0]?:=by rw [h]
 rw [eJ,eJ,cV] at h1
 unfold gi
 rw [cE,cE,h1]
theorem gi_in {L:List Int} {j:Nat} (h:j<L.length):gi L j ∈ L:=by unfold gi;rw [cE,cA h];exact cP h
theorem qO:∀ m,fZ (dM (Value.i 0)) m=ints (List.replicate m 0)
 |0=>rfl
 |m+1=>by rw [List.replicate_succ];show dM (Value.i 0)++fZ _ m=_;rw [qO m];rfl
end Go.AH
namespace Go.Proofs.YtajpgeklmcjciaaGreat
attribute [local irreducible] dA bJ bK jh fQ dK eH bY eu aW dR dW
open Go.AH.Heat Go.AH.Warp
theorem QJ {A B:Prop} (k:B) (h:Hide B->A:=by intro z_;(repeat' (first|refine sCm ?_|(refine gU ?_;first|(refine cO ?_;refine st (aJ rfl (by exact hd1)) rfl rfl ?_)|refine sK0 ?_|refine sK6 ?_|(refine dV ?_;refine st (bC rfl rfl rfl (by exact hcall k hkn)) rfl rfl ?_))|refine aG ?_|refine oV rfl (by first|rfl|exact fE (by assumption)|assumption) ?_|refine lg rfl (by first|rfl|exact bM (by assumption)|assumption) ?_));exact z_.h):A:=h ⟨k⟩
theorem adS {U:Heap} {b n c:Nat} {el:Nat->Value} {f:FuncId} [GoFn prog f] {p q:List Value} {pb:Nat->Bool} (hb:∀ j<n,aI U b j=some (el j)) (hcall:∀ j<n,Ev prog f (p++[el j]++q) U (.bool (pb j)) U) (hn:n<=1000000) :
  Ev prog 102 [.s b n c,.func (.func f) p.toArray q.toArray] U (.i (fIx pb n)) U:=by
 refine aH U.length 19 func102 (h:=?_)
 refine QJ ?_
 refine dO (ι:=Nat) (fun k=>[(0,.s b n c),(1,.func (.func f) p.toArray q.toArray),(7,.i (n:Nat)),(8,.i (k:Nat))]) (fun k mk H=>k<=n/\mk=[]/\U=H/\∀ j<k,pb j=false) (fun k=>n - k) 0 tE ⟨bL _,rfl,rfl,fun j h=>oO⟩ ?_
 rintro k mk H ⟨hk,rfl,rfl,a⟩
 by_cases hkn:k<n
 ·have g:(k:Int)<(n:Nat):=oO
  have hd1:aI U b k=some (el k):=hb k hkn
  by_cases hp:pb k=true
  ·refine QJ ?_
   refine dG (.tmp rfl .nil) .all ⟨?_,rfl⟩
   simp only [jH]
   rw [Ey hkn hp a]
  ·have e:pb k=false:=by simpa using hp
   refine QJ ?_
   exact ⟨k+1,⟨oO,rfl,rfl,fun j hj=>by
    by_cases d:j=k
    ·rw [d];exact e
    ·exact a j oO⟩,oO,tE⟩
 ·obtain rfl:k=n:=oO
  have g:¬ (k:Int)<(k:Nat):=oO
  refine QJ ?_
  refine dG (.tmp rfl .nil) .all ⟨?_,rfl⟩
  simp only [jH]
  rw [Au a]
theorem Gt {A B:Prop} (k:B) (h:Hide B->A:=by intro z_;(repeat' (first|refine sCm ?_|(refine gU ?_;first|(refine cO ?_;refine st (aJ rfl (by exact hd1)) rfl rfl ?_)|refine sK0 ?_|(refine rW ?_;refine st (iV rfl) rfl rfl ?_)|refine sK6 ?_|(refine Pm ?_;first|refine st (NC rfl rfl (by omega)) rfl rfl ?_|refine st (Bh rfl rfl (by omega) (by omega)) rfl rfl ?_)|(refine dV ?_;refine st (bC rfl rfl rfl (by first|exact hf1|exact hf2)) rfl rfl ?_)|(refine gZ ?_;refine stN (bW rfl rfl rfl rfl (by exact hput)) rfl ?_))|refine aG ?_|refine sK2 ?_|refine sK1 ?_|fail));exact z_.h):A:=h ⟨k⟩
theorem ait {U:Heap} {b n c:Nat} {L:List Int} {f:FuncId} [GoFn prog f] {p q:List Value} {D:Int->Bool} (hL:L.length=n) (hnc:n<=c) (hn2:n<=1000) (hb:U[b]?=some (.rw (ints L)))
  (hcall:∀ H,Frm U b H->∀ x ∈ L,Ev prog f (p++[.i x]++q) H (.bool (D x)) H) :
  Ev prog 221 [.s b n c,.func (.func f) p.toArray q.toArray] U (.s b (rP D L).length c) (U.set b (.rw (ints (rP D L++List.replicate (n - (rP D L).length) 0)))):=by
 refine aH U.length 42 func221 (h:=?_)
 have hbl:=aS hb
 have hf1:=adS (U:=U) (b:=b) (n:=n) (c:=c) (f:=f) (p:=p) (q:=q) (el:=fun j=>.i (gi L j)) (pb:=fun j=>D (gi L j)) (fun j hj=>by rw [aF hb];exact iF oO) (fun j hj=>hcall U .refl _ (gi_in oO)) oO
 by_cases y:∃ j<n,D (gi L j)=true
 ·obtain ⟨i0,hi0,F,v,C⟩:∃ i0<n,fIx (fun j=>D (gi L j)) n=(i0:Nat)/\D (gi L i0)=true/\∀ j<i0,D (gi L j)=false:=by
   have h1:=Qm (p:=fun j=>D (gi L j)) (n:=n)
   unfold fIx at h1 ⊢
   cases hfd:(List.range n).find? (fun j=>D (gi L j)) with
   |none =>
    rw [List.find?_eq_none] at hfd
    obtain ⟨j,hj,hD⟩:=y
    exact absurd hD (hfd j (List.mem_range.2 hj))
   |some i =>
    rw [List.find?_range_eq_some] at hfd
    exact ⟨i,List.mem_range.1 hfd.2.1,rfl,hfd.1,fun j hj=>by simpa using hfd.2.2 j hj⟩
  rw [F] at hf1
  have hne:¬ ((i0:Nat):Int)=-1:=oO
  refine Gt ?_
  have a:∀ j,j<=i0->rP D (L.take j)=L.take j:=by
   intro j
   induction j with
   |zero=>intro _;simp [rP]
   |succ j ih=>intro h;rw [xk oO,oN,C j oO,ih oO];simp
  refine dO (ι:=Nat×Nat) (fun k=>[(0,.s b n c),(1,.func (.func f) p.toArray q.toArray),(5,.i (k.1:Nat)),(6,.i (k.2:Nat))])
   (fun k mk H=>k.1<k.2/\k.2<=n/\mk=[]/\∃ M:List Int,H=U.set b (.rw (ints M))/\M.length=n/\M.take k.1=rP D (L.take k.2)/\k.1=(rP D (L.take k.2)).length/\M.drop k.2=L.drop k.2) (fun k=>n - k.2) (i0,i0+1) tE ⟨by dsimp only;omega,by dsimp only;omega,rfl,L,(set_self hb).symm,hL,?_,?_,rfl⟩ ?_
  ·dsimp only;rw [xk oO,oN,v,a i0 (aD _)];rfl
  ·dsimp only;rw [xk oO,oN,v,a i0 (aD _)];simp;omega
  clear hf1 a
  rintro ⟨i,j⟩ mk H ⟨E,z,rfl,M,rfl,hM,d,o,t⟩
  dsimp only at E z d o t
  dsimp only
  have u:(U.set b (.rw (ints M)))[b]?=some (.rw (ints M)):=aQ hb
  by_cases g:j<n
  ·have G:(j:Int)<(n:Nat):=oO
   have hiI:(i:Int)<(n:Nat):=oO
   have hd1:aI (U.set b (.rw (ints M))) b j=some (.i (gi L j)):=by rw [aF u,iF oO,af8 t oO oO]
   have hf2:=hcall (U.set b (.rw (ints M))) .set (gi L j) (gi_in oO)
   have hput:putCells (U.set b (.rw (ints M))) b i [.i (gi L j)]=some ((U.set b (.rw (ints M))).set b (.rw (ints (M.set i (gi L j))))) :=
    fF u (by rw [bQ];simp;omega) (by rw [bQ];omega) (wZ oO)
   rw [cN] at hput
   by_cases hD:D (gi L j)=true
   ·rw [hD] at hf2
    refine Gt ?_
    refine ⟨(i,j+1),⟨by dsimp only;omega,g,rfl,M,rfl,hM,?_,?_,?_⟩,by dsimp only;omega,tE⟩
    ·dsimp only;rw [xk oO,oN,if_pos hD];exact d
    ·dsimp only;rw [xk oO,oN,if_pos hD];exact o
    ·dsimp only;rw [<- fg,<- fg,t]
   ·have hD:D (gi L j)=false:=by simpa using hD
    rw [hD] at hf2
    refine Gt ?_
    refine ⟨(i+1,j+1),⟨by dsimp only;omega,g,rfl,M.set i (gi L j),rfl,by simpa using hM,?_,?_,?_⟩,by dsimp only;omega,tE⟩
    ·dsimp only;rw [xk (L:=L) oO,oN,hD,<- d,List.take_add_one,List.take_set_of_le (aD _)];simp [show i<M.length by omega]
    ·dsimp only;rw [xk oO,oN,hD];simp;omega
    ·dsimp only;rw [List.drop_set_of_lt oO,<- fg,<- fg,t]
  ·obtain rfl:j=n:=oO
   have G:¬ ((j:Nat):Int)<(j:Nat):=oO
   rw [List.take_of_length_le (l:=L) (i:=j) oO] at d o
   rw [<- o]
   have hz:(fZ (dM (Value.i 0)) (j - i))=ints (List.replicate (j - i) 0):=qO _
   have m:putCells (U.set b (.rw (ints M))) b i (ints (List.replicate (j - i) 0))=some (U.set b (.rw (ints (rP D L++List.replicate (j - i) 0)))):=by
    rw [fF u (by rw [bQ,bQ];simp;omega) (by rw [bQ];omega) rfl,cN]
    have e:splice (ints M) i (ints (List.replicate (j - i) 0))=ints (rP D L++List.replicate (j - i) 0):=by
     rw [<- d]
     simp only [splice,ints,eq,List.map_take,cU,ft]
     rw [eD (by simp;omega),bN]
    rw [e]
   refine Gt ?_
   refine gU ?_
   refine stN (DX oR oR rfl oO (by rw [hz];exact jD _) (by rw [hz,show 0+i*1=i by omega];exact m)) rfl ?_
   refine Gt ?_
   exact dG (.tmp rfl .nil) .all ⟨rfl,rfl⟩
 ·have w:∀ j<n,D (gi L j)=false:=fun j hj=>by
   cases h:D (gi L j) with
   |false=>rfl
   |true=>exact absurd ⟨j,hj,h⟩ y
  rw [Au w] at hf1
  have hk:rP D L=L:=by
   have:∀ j,j<=n->rP D (L.take j)=L.take j:=by
    intro j
    induction j with
    |zero=>intro _;simp [rP]
    |succ j ih=>intro h;rw [xk oO,oN,w j oO,ih oO];simp
   have h1:=this n (aD _)
   rwa [List.take_of_length_le (l:=L) (i:=n) oO] at h1
  rw [hk,hL,cM,List.replicate_zero,bN,set_self hb]
  refine Gt ?_
  exact dG (.tmp rfl .nil) .all ⟨rfl,rfl⟩
end Go.Proofs.YtajpgeklmcjciaaGreat
namespace Go.AH.Warp
open Go Go.AH Go.AH.Heat
def fO (n:Nat) (f:Nat->Int):List Int:=(List.range n).map f
theorem nO (n:Nat) (f:Nat->Int):(fO n f).length=n:=by simp [fO]
theorem af9 {n:Nat} {f:Nat->Int} {i:Nat} (h:i<n):gi (fO n f) i=f i:=by simp [fO,gi,cE,cJ,dq h]
theorem Dv {n:Nat} {f g:Nat->Int} (h:∀ i<n,f i=g i):fO n f=fO n g:=eI fun i hi=>h i (List.mem_range.1 hi)
theorem adT {n:Nat} {f:Nat->Int} {i:Nat} {v:Int}:(fO n f).set i v=fO n fun x=>if x=i then v else f x:=by
 refine eK fun x=>?_
 unfold fO
 rw [List.getElem?_set]
 simp only [cJ,cU,List.length_range]
 by_cases h:i=x
 ·subst h
  by_cases h2:i<n
  ·rw [dq h2];simp [h2]
  ·rw [di (oU h2)];simp [h2]
 ·by_cases h2:x<n
  ·rw [dq h2];simp [h,Ne.symm h]
  ·rw [di (oU h2)];simp [h]
theorem Lr {n:Nat} {f:Nat->Int} {i:Nat} (h:i<n):(ints (fO n f))[i]?=some (.i (f i)):=by
 rw [iF (by rw [nO];exact h),af9 h]
theorem aaU (n:Nat):ints (List.replicate n 0)=ints (fO n fun _=>0):=by
 unfold fO;rw [List.map_const',List.length_range]
theorem adU:∀ m,([.i 0,.i 0]:List Value)++rgC (fun _=>((0:Int),(0:Int))) m=rgC (fun _=>(0,0)) m++[.i 0,.i 0]
 |0=>rfl
 |m+1=>by simp only [rgC];rw [<- cD,adU m]
theorem OD:∀ m,fZ (dM (.agg #[.i 0,.i 0])) m=rgC (fun _=>(0,0)) m
 |0=>rfl
 |m+1=>by
  show [.i 0,.i 0]++fZ _ m=_
  rw [OD m,adU];rfl
theorem BK {f g:Nat->Int×Int}:∀ {n:Nat},(∀ i<n,f i=g i)->rgC f n=rgC g n
 |0,_=>rfl
 |n+1,h=>by simp only [rgC];rw [BK fun i hi=>h i oO,h n oO]
theorem Zc {f:Nat->Int×Int} {x:Int×Int}:∀ {n i:Nat},i<n->splice (rgC f n) (i*2) [.i x.1,.i x.2]=rgC (fun j=>if j=i then x else f j) n
 |0,i,h=>by omega
 |n+1,i,h=>by
  have hl:=zq f n
  by_cases hi:i<n
  ·simp only [rgC]
   rw [if_neg oO,<- Zc hi]
   simp only [splice,dE,dx]
   rw [fh oO,fv oO]
   simp
  ·obtain rfl:i=n:=oO
   simp only [rgC,if_true]
   rw [BK (f:=fun j=>if j=i then x else f j) (g:=f) fun j hj=>by rw [if_neg oO]]
   simp only [splice,dE,dx]
   rw [fh oO,List.take_of_length_le oO,eD (by simp;omega)]
   simp
theorem adV {b:Bl} {d:Nat->Int} (ho:b.Ok):∀ i≤b.n,-9<=(b.now d i).1/\(b.now d i).1<=9/\-9<=(b.now d i).2/\(b.now d i).2<=9
 |0,_=>by simp [Bl.now]
 |i+1,hi=>by
  have ih:=adV ho i oO (d:=d)
  have hb:=Bl.AO (hard:=b.hard i) (most:=b.most) (d:=d i) (ho i oO)
  simp only [Bl.now,Bl.next,Bl.meet]
  repeat' split
  all_goals dsimp only
  all_goals omega
theorem Zd {b:Bl} {d:Nat->Int} (ho:b.Ok) {i:Nat} (hi:i<b.n):-9<=(b.rng d i).1/\(b.rng d i).1<=9/\-9<=(b.rng d i).2/\(b.rng d i).2<=9:=by
 have ih:=adV ho i oO (d:=d)
 have hb:=Bl.AO (hard:=b.hard i) (most:=b.most) (d:=d i) (ho i hi)
 simp only [Bl.rng,Bl.meet]
 omega
theorem Gu {b:Bl} {d:Nat->Int} (ho:b.Ok):∀ k≤b.n,-9<=b.gW d k/\b.gW d k<=9
 |0,_=>by simp [Bl.gW]
 |k+1,hk=>by
  have ih:=Gu ho k oO (d:=d)
  have hr:=Zd (d:=d) ho (i:=b.n - (k+1)) oO
  simp only [Bl.gW]
  split <;> omega
theorem QK {d:Nat->Int} {n:Nat} (h:∀ i<n,-200<=d i/\d i<=200):∀ i≤n,-200*(i:Int)<=bZ d i/\bZ d i<=200*(i:Int)
 |0,_=>by simp [bZ]
 |i+1,hi=>by
  have:=QK h i oO
  have:=h i oO
  simp only [bZ];omega
end Go.AH.Warp
namespace Go.Proofs.YtajpgeklmcjciaaGreat
attribute [local irreducible] dA bJ bK jh fQ dK eH bY eu aW dR dW
open Go.AH.Heat Go.AH.Warp
theorem lK {A B:Prop} (k:B) (h:Hide B->A:=by intro z_;(repeat' (first|refine sCm ?_|(refine gU ?_;first|refine st (qY (l:=B.n+1) (by rfl) (by rfl) rfl rfl (by omega) (by omega) (by omega)) rfl rfl ?_|(refine cO ?_;first|refine st (aJ rfl (by first|exact hcb|exact hd1|exact aF a8|exact aF a11|exact aF (q11 _))) rfl rfl ?_|refine st (bG rfl (by first|exact aV a8 rfl|exact qgr _|assumption)) rfl rfl ?_)|refine sK9 ?_|refine sK4 ?_|refine sK0 ?_|(refine lM ?_;first|refine st (kC rfl (by exact fE (by assumption)) rfl) rfl rfl ?_|refine st (je rfl (by exact bM (by assumption)) rfl) rfl rfl ?_)|(refine gIA ?_;first|refine st (qR rfl rfl (by omega)) rfl rfl ?_|refine st (iE rfl rfl (by omega)) rfl rfl ?_)|(refine gMax ?_;refine st (CG rfl rfl) rfl rfl ?_)|(refine ae9 ?_;refine st (Fg rfl rfl) rfl rfl ?_)|refine FP ?_|(refine abO ?_;refine st (qY (by rfl) (by rfl) rfl rfl (by omega) (by omega) (by omega)) rfl rfl ?_)|(refine gZ ?_;refine stN (bW rfl rfl rfl rfl (by first|exact Gq rfl rfl|exact hput|exact hputA _ _ _|exact hputB _ _ _|exact hputC _ _ _ _|exact hput _)) rfl ?_))|(refine gG ?_;first|(refine wK ?_;refine stG rfl (by exact fE (by assumption)) (dY rfl) rfl rfl ?_)|(refine gFA ?_;refine stG rfl (by exact fE (by assumption)) (bD rfl) rfl rfl ?_)|(refine cO ?_;refine stG rfl (by exact fE (by assumption)) (aJ rfl (by first|exact aF a8|exact aF (q11 _))) rfl rfl ?_)|(refine yS ?_;refine stG rfl (by exact fE (by assumption)) (iU rfl rfl rfl) rfl rfl ?_)|refine stS rfl (by exact bM (by assumption)) rfl ?_)|(refine fU ?_;first|refine nH ?_;refine frA (dY rfl) rfl ?_ (hcl (by assumption))|refine nH ?_;refine frA (dY rfl) rfl ?_ (hcs (by assumption))|refine L9 ?_;refine frA (jB rfl) rfl ?_ (hcl (by assumption))|refine fFA ?_;refine frA (bD rfl) rfl ?_ (hcl (by assumption))|refine eU ?_;refine frA (aJ rfl (by exact hq3 _)) rfl ?_ (hcs (by assumption))|refine fIA ?_;refine frA (pJ rfl rfl (by omega) (by omega)) rfl ?_ (hcl (by assumption))|refine eU ?_;refine frA (bG rfl (by exact hq1 _)) rfl ?_ rfl|refine eU ?_;refine frA (bG rfl (by exact hq2 _)) rfl ?_ rfl|refine nH ?_;refine frA (dY rfl) rfl ?_ hcln|refine nH ?_;refine frA (dY rfl) rfl ?_ rfl|refine eU ?_;refine frA (bG rfl (by exact hq8 _)) rfl ?_ rfl|refine qX ?_;refine frA (bC rfl rfl rfl (by exact hfa _)) rfl ?_ rfl|refine qX ?_;refine frA (bC rfl rfl rfl (by exact hfb _)) rfl ?_ rfl|(refine fAdd ?_;refine fr (pI rfl rfl (by omega)) (by rfl) rfl ?_)|(refine zY ?_;refine Chain.fr1A (jG rfl) rfl rfl rfl ?_))|(refine fP ⟨by kernel_rfl,?_⟩)|refine bU (id:=9) ?_|refine bU (id:=10) ?_|refine bU (id:=11) ?_|refine bU (id:=12) ?_|refine bU (id:=32) ?_|refine bU (id:=33) ?_|refine aG ?_|refine Chain.WJ ?_|refine Chain.wR 12 [true,true] [.i lo,.i hi] (by kernel_rfl) (by kernel_rfl) (by kernel_rfl) (by kernel_rfl) rfl rfl (bW rfl rfl rfl rfl (by exact hp1)) ?_|refine Chain.wR 13 [true,true] [.i r.1,.i r.2] (by kernel_rfl) (by kernel_rfl) (by kernel_rfl) (by kernel_rfl) rfl rfl (bW rfl rfl rfl rfl (by exact hp2)) ?_|refine sK2 ?_|refine sK1 ?_|fail));exact z_.h):A:=h ⟨k⟩
theorem UO {U:Heap} {B:Bld} {nb sb cS tb cT xb c:Nat} (hv:mJ B) (hB:iY U B nb sb cS tb cT) {d:Nat->Int} (hx:∀ i<B.n,aI U xb i=some (.i (d i))) (hxb:xb < U.length) (hdb:∀ i<B.n,-200<=d i/\d i<=200) :
  Ev prog 87 [.p nb,.s xb B.n c] U (.s U.length B.n B.n) (U++[.rw (ints (fO B.n (B.b.pull d)))]):=by
 refine aH U.length 149 func87 (h:=?_)
 have hn20:=hv.n
 have J:nb < U.length:=aS hB.nb
 have M:=QK hdb
 refine lK ?_
 obtain ⟨H0,m⟩:=xy (U++[aC.rw (rgC (fun _=>(0,0)) (B.n+1))]++[aC.rw [.i (-9),.i 9]])
 have hz:fZ (dM (.agg #[.i 0,.i 0])) (B.n+1)=rgC (fun _=>(0,0)) (B.n+1):=OD _
 refine dB [(0,.p nb),(1,.s xb B.n c),(5,.i (B.n:Nat)),(6,.s U.length (B.n+1) (B.n+1)),(7,.i (bZ d 0)),(8,.p (U.length+1)),(26,.s xb B.n c),(27,.i (B.n:Nat)),(28,.i (0:Nat))] H0 (by rw [m,<- hz];rfl) ⟨rfl,rfl,rfl,rfl,rfl,(by (refine congrArg (fun n=>some (Value.p n)) ?_;simp;try omega)),rfl,rfl,rfl,trivial⟩ ?_
 have I:H0.take U.length=U:=by rw [m];simp
 have O:H0[U.length]?=some (.rw (rgC (fun j=>if j<0 then B.b.rng d j else (0,0)) (B.n+1))):=by
  rw [m,BK (f:=fun j=>if j<0 then B.b.rng d j else (0,0)) (g:=fun _=>(0,0)) fun j _=>if_neg (Nat.not_lt_zero _)];exact aA aN
 have ac:H0[U.length+1]?=some (.rw [.i (B.b.now d 0).1,.i (B.b.now d 0).2]):=by rw [m];exact bP oS
 clear m hz
 refine dO (ι:=Nat) (fun k=>[(0,.p nb),(1,.s xb B.n c),(5,.i (B.n:Nat)),(6,.s U.length (B.n+1) (B.n+1)),(7,.i (bZ d k)),(8,.p (U.length+1)),(26,.s xb B.n c),(27,.i (B.n:Nat)),(28,.i (k:Nat))])
  (fun k mk H=>k<=B.n/\mk=[]/\H.take U.length=U/\H[U.length]?=some (.rw (rgC (fun j=>if j<k then B.b.rng d j else (0,0)) (B.n+1)))/\H[U.length+1]?=some (.rw [.i (B.b.now d k).1,.i (B.b.now d k).2])) (fun k=>B.n - k) 0 tE ⟨bL _,rfl,I,O,ac⟩ ?_
 clear I O ac H0
 rintro k mk H ⟨hk,rfl,hp,hr,F⟩
 by_cases hkn:k<B.n
 ·have Vv:(k:Int)<(B.n:Nat):=oO
  have hd1:aI H xb k=some (.i (d k)):=by
   have:=hx k hkn
   unfold aI at this ⊢
   rw [jL hp hxb];exact this
  have R:=M k hk
  have a7:=hdb k hkn
  have hbk:=M (k+1) hkn
  have hbe:bZ d k+d k=Bl.jy d k:=rfl
  have hbe2:bZ d (k+1)=Bl.jy d k:=rfl
  refine lK ?_
  refine .mk (dB [(0,.p nb),(1,.s xb B.n c),(5,.i (B.n:Nat)),(6,.s U.length (B.n+1) (B.n+1)),(7,.i (Bl.jy d k)),(8,.p (U.length+1)),(9,.i (k:Nat)),(10,.i (d k)),(26,.s xb B.n c),(27,.i (B.n:Nat)),(28,.i (k:Nat))] H rfl tE ?_)
  have an:=aS F
  have ad:nb<H.length:=Nat.lt_trans J oO
  have hcln:∀ {o:Nat},closed H.length (.pointer (some ⟨nb,o,none⟩))=true:=fun {o}=>Nat.blt_eq.mpr ad
  have hq8:∀ X,aK (H++X) (U.length+1) 0 2=some [.i (B.b.now d k).1,.i (B.b.now d k).2]:=fun X=>aV (aA F) rfl
  have D:=hB.take hp
  have hfa:=fun X=>adR (U:=H++X) (d:=d k) hv (D.app (X:=X)) hkn
  have hfb:=fun X=>af7 (U:=H++X) (x:=B.b.now d k) (y:=Bl.borne (B.hard k) B.most (d k))
  rw [show Bl.meet (B.b.now d k) (Bl.borne (B.hard k) B.most (d k))=B.b.rng d k from rfl] at hfb
  have hput:putCells (H++gV (fun _=>true) []) (U.length+1) 0 [.i (B.b.rng d k).1,.i (B.b.rng d k).2]=some (H.set (U.length+1) (.rw [.i (B.b.rng d k).1,.i (B.b.rng d k).2])):=by
   rw [show H++gV (fun _=>true) []=H from bN H];exact fF F oS oS rfl
  refine eY oK rfl (?_)
  refine lK ?_
  obtain ⟨H1,e⟩:=xy (H.set (U.length+1) (.rw [.i (B.b.rng d k).1,.i (B.b.rng d k).2]))
  refine .mk (dB [(0,.p nb),(1,.s xb B.n c),(5,.i (B.n:Nat)),(6,.s U.length (B.n+1) (B.n+1)),(7,.i (Bl.jy d k)),(8,.p (U.length+1)),(9,.i (k:Nat)),(10,.i (d k)),(26,.s xb B.n c),(27,.i (B.n:Nat)),(28,.i (k:Nat))] H1 e.symm tE ?_)
  have a8:H1[U.length+1]?=some (.rw [.i (B.b.rng d k).1,.i (B.b.rng d k).2]):=by rw [e];exact aQ F
  have N:H1[U.length]?=some (.rw (rgC (fun j=>if j<k then B.b.rng d j else (0,0)) (B.n+1))):=by rw [e];exact aB hr oO
  have hp1:H1.take U.length=U:=by rw [e];exact take_set hp oO
  clear hput hfb hfa hq8 hcln ad an D e hd1 hr F hp H
  have hput:putCells H1 U.length (0+k*2) [.i (B.b.rng d k).1,.i (B.b.rng d k).2]=some (H1.set U.length (.rw (rgC (fun j=>if j<k+1 then B.b.rng d j else (0,0)) (B.n+1)))):=by
   refine fF N (by rw [zq];simp;omega) (by rw [zq];omega) ?_
   rw [aR,Zc oO]
   refine BK fun j _=>?_
   by_cases hj:j=k
   ·rw [if_pos hj,if_pos oO,hj]
   ·rw [if_neg hj]
    by_cases a9:j<k
    ·rw [if_pos a9,if_pos oO]
    ·rw [if_neg a9,if_neg oO]
  have hk1:(k:Int)<((B.n+1:Nat):Int):=oO
  apply aG
  refine lK ?_
  obtain ⟨H2,Q⟩:=xy (H1.set U.length (.rw (rgC (fun j=>if j<k+1 then B.b.rng d j else (0,0)) (B.n+1))))
  refine .mk (dB [(0,.p nb),(1,.s xb B.n c),(5,.i (B.n:Nat)),(6,.s U.length (B.n+1) (B.n+1)),(7,.i (Bl.jy d k)),(8,.p (U.length+1)),(9,.i (k:Nat)),(10,.i (d k)),(26,.s xb B.n c),(27,.i (B.n:Nat)),(28,.i (k:Nat))] H2 Q.symm tE ?_)
  have b8:H2[U.length+1]?=some (.rw [.i (B.b.rng d k).1,.i (B.b.rng d k).2]):=by rw [Q];exact aB a8 oO
  have aa:H2[U.length]?=some (.rw (rgC (fun j=>if j<k+1 then B.b.rng d j else (0,0)) (B.n+1))):=by rw [Q];exact aQ N
  have hp2:H2.take U.length=U:=by rw [Q];exact take_set hp1 oO
  clear hput Q a8 N hp1 H1
  have D:=hB.take hp2
  have hcb:aI H2 nb (0+2)=some (.s tb (B.n+1) cT):=aF D.nb
  have ai:aK H2 tb (0+(k+1)*2) 2=some [.i (B.b.lo k),.i (B.b.hi k)]:=by rw [aR];exact D.tu (k+1) oO
  have hk2:(k:Int)+1<((B.n+1:Nat):Int):=oO
  apply aG
  refine lK ?_
  obtain ⟨H3,G⟩:=xy (H2++[aC.rw [.i (B.b.lo k),.i (B.b.hi k)]])
  obtain ⟨tl,z⟩:=xy H2.length
  refine .mk (dB [(0,.p nb),(1,.s xb B.n c),(5,.i (B.n:Nat)),(6,.s U.length (B.n+1) (B.n+1)),(7,.i (Bl.jy d k)),(8,.p (U.length+1)),(9,.i (k:Nat)),(11,.p tl),(26,.s xb B.n c),(27,.i (B.n:Nat)),(28,.i (k:Nat))] H3 (by rw [G];rfl) ⟨rfl,rfl,rfl,rfl,rfl,rfl,rfl,by rw [z];rfl,rfl,rfl,rfl,trivial⟩ ?_)
  have a8:H3[U.length+1]?=some (.rw [.i (B.b.rng d k).1,.i (B.b.rng d k).2]):=by rw [G];exact aA b8
  have a11:H3[tl]?=some (.rw [.i (B.b.lo k),.i (B.b.hi k)]):=by rw [G,z];exact aN
  have ah:H3[U.length]?=some (.rw (rgC (fun j=>if j<k+1 then B.b.rng d j else (0,0)) (B.n+1))):=by rw [G];exact aA aa
  have au:H3.take U.length=U:=by rw [G];exact aP hp2
  have hneq:tl ≠ U.length+1:=by rw [z];have:=aS b8;omega
  clear G z ai hcb D aa hp2 b8 H2
  have qgr:∀ x,aK (H3.set (U.length+1) x) U.length (0+k*2) 2=some [.i (B.b.rng d k).1,.i (B.b.rng d k).2]:=fun x=>by
   rw [aR,Gp (aB ah oO) oO,if_pos oO]
  have t:∀ x y:Int,Bl.next (B.b.rng d k) (Bl.jy d k) (B.b.lo k) (B.b.hi k)=(x,y)->∀ (K:Heap),K=H3.set (U.length+1) (.rw [.i x,.i y])->(k+1<=B.n/\([]:List Nat)=[]/\K.take U.length=U/\K[U.length]?=some (.rw (rgC (fun j=>if j<k+1 then B.b.rng d j else (0,0)) (B.n+1)))/\K[U.length+1]?=some (.rw [.i (B.b.now d (k+1)).1,.i (B.b.now d (k+1)).2])):=fun x y ar K hK=>by
   rw [B.b.AL,ar,hK]
   exact ⟨hkn,rfl,take_set au oO,aB ah oO,aQ a8⟩
  generalize B.b.rng d k=r at a8 qgr t ⊢
  have a5:Bl.lo B.b k=B.b.lo k:=rfl
  generalize B.b.lo k=lo at a11 t ⊢
  generalize B.b.hi k=hi at a11 t ⊢
  generalize w:Bl.jy d k=bd at t ⊢
  have hputA:∀ x y u,putCells (H3.set (U.length+1) (.rw [x,y])) (U.length+1) 0 [u]=some (H3.set (U.length+1) (.rw [u,y])):=fun x y u=>by
   rw [fF (aQ a8) oS oS rfl,cN];rfl
  have hputB:∀ x y u,putCells (H3.set (U.length+1) (.rw [x,y])) (U.length+1) 1 [u]=some (H3.set (U.length+1) (.rw [x,u])):=fun x y u=>by
   rw [fF (aQ a8) oS oS rfl,cN];rfl
  have hputC:∀ x y u v,putCells (H3.set (U.length+1) (.rw [x,y])) (U.length+1) 0 [u,v]=some (H3.set (U.length+1) (.rw [u,v])):=fun x y u v=>by
   rw [fF (aQ a8) oS oS rfl,cN];rfl
  have aq:H3=H3.set (U.length+1) (.rw [.i r.1,.i r.2]):=(set_self a8).symm
  have q11:∀ x,(H3.set (U.length+1) x)[tl]?=some (.rw [.i lo,.i hi]):=fun x=>aB a11 oO
  clear a8 a11
  rw [aq]
  apply aG
  by_cases g1:bd > lo
  ·by_cases g2:bd<hi
   ·have g3:¬ lo=hi:=oO
    refine lK ?_
    exact ⟨k+1,t r.1 r.2 (by unfold Bl.next;rw [if_pos ⟨g1,g2⟩]) _ rfl,oO,⟨rfl,rfl,rfl,rfl,congrArg (fun x=>some (Value.i x)) w.symm,rfl,rfl,rfl,rfl,trivial⟩⟩
   ·by_cases g3:lo=hi
    ·refine lK ?_
     exact ⟨k+1,t (-9) 9 (by unfold Bl.next;rw [if_neg oO,if_pos g3]) _ rfl,oO,⟨rfl,rfl,rfl,rfl,congrArg (fun x=>some (Value.i x)) w.symm,rfl,rfl,rfl,rfl,trivial⟩⟩
    ·refine lK ?_
     exact ⟨k+1,t r.1 9 (by unfold Bl.next;rw [if_neg oO,if_neg g3,if_neg g2,if_pos g1]) _ rfl,oO,⟨rfl,rfl,rfl,rfl,congrArg (fun x=>some (Value.i x)) w.symm,rfl,rfl,rfl,rfl,trivial⟩⟩
  ·by_cases g2:bd<hi
   ·by_cases g3:lo=hi
    ·refine lK ?_
     exact ⟨k+1,t (-9) 9 (by unfold Bl.next;rw [if_neg oO,if_pos g3]) _ rfl,oO,⟨rfl,rfl,rfl,rfl,congrArg (fun x=>some (Value.i x)) w.symm,rfl,rfl,rfl,rfl,trivial⟩⟩
    ·refine lK ?_
     exact ⟨k+1,t (-9) r.2 (by unfold Bl.next;rw [if_neg oO,if_neg g3,if_pos g2,if_neg g1]) _ rfl,oO,⟨rfl,rfl,rfl,rfl,congrArg (fun x=>some (Value.i x)) w.symm,rfl,rfl,rfl,rfl,trivial⟩⟩
   ·by_cases g3:lo=hi
    ·refine lK ?_
     exact ⟨k+1,t (-9) 9 (by unfold Bl.next;rw [if_neg oO,if_pos g3]) _ rfl,oO,⟨rfl,rfl,rfl,rfl,congrArg (fun x=>some (Value.i x)) w.symm,rfl,rfl,rfl,rfl,trivial⟩⟩
    ·refine lK ?_
     exact ⟨k+1,t r.1 r.2 (by unfold Bl.next;rw [if_neg oO,if_neg g3,if_neg g2,if_neg g1]) _ rfl,oO,⟨rfl,rfl,rfl,rfl,congrArg (fun x=>some (Value.i x)) w.symm,rfl,rfl,rfl,rfl,trivial⟩⟩
 ·obtain rfl:k=B.n:=oO
  have Vv:¬ ((B.n:Nat):Int)<(B.n:Nat):=oO
  clear F
  refine lK ?_
  obtain ⟨ob,ZZ⟩:=xy H.length
  obtain ⟨H0,m⟩:=xy (H++[aC.rw (ints (fO B.n fun _=>0))])
  have hz:fZ (dM (.i 0)) B.n=ints (fO B.n fun _=>0):=by rw [qO,aaU]
  have ak:=aS hr
  refine dB [(0,.p nb),(1,.s xb B.n c),(5,.i (B.n:Nat)),(6,.s U.length (B.n+1) (B.n+1)),(7,.i (bZ d 0)),(12,.s ob B.n B.n),(13,.i 0),(89,.s xb B.n c),(90,.i (B.n:Nat)),(91,.i (0:Nat))] H0 (by rw [m,<- hz]) ⟨rfl,rfl,rfl,rfl,rfl,congrArg (fun n=>some (Value.s n B.n B.n)) ZZ.symm,rfl,rfl,rfl,rfl,trivial⟩ ?_
  have I:H0.take U.length=U:=by rw [m];exact aP hp
  have O:H0[U.length]?=some (.rw (rgC (fun j=>if j<B.n then B.b.rng d j else (0,0)) (B.n+1))):=by rw [m];exact aA hr
  have a3:H0[ob]?=some (.rw (ints (fO B.n fun _=>0))):=by rw [m,ZZ];exact aN
  have hobl:U.length+1<=ob:=oO
  clear m hz hr hp ZZ ak H
  refine dO (ι:=Nat) (fun k=>[(0,.p nb),(1,.s xb B.n c),(5,.i (B.n:Nat)),(6,.s U.length (B.n+1) (B.n+1)),(7,.i (bZ d k)),(12,.s ob B.n B.n),(13,.i 0),(89,.s xb B.n c),(90,.i (B.n:Nat)),(91,.i (k:Nat))])
   (fun k mk H=>k<=B.n/\mk=[]/\H=H0) (fun k=>B.n - k) 0 tE ⟨bL _,rfl,rfl⟩ ?_
  rintro k mk H ⟨hk,rfl,rfl⟩
  by_cases hkn:k<B.n
  ·have Vv:(k:Int)<(B.n:Nat):=oO
   have hd1:aI H xb k=some (.i (d k)):=by
    have:=hx k hkn
    unfold aI at this ⊢
    rw [jL I hxb];exact this
   have R:=M k hk
   have a7:=hdb k hkn
   refine lK ?_
   exact ⟨k+1,⟨hkn,rfl,rfl⟩,oO,tE⟩
  ·obtain rfl:k=B.n:=oO
   have Vv:¬ ((B.n:Nat):Int)<(B.n:Nat):=oO
   have hn64:(B.n:Int) - 1=((B.n:Nat):Int) - 1 - (0:Nat):=oO
   refine lK ?_
   have af:fO B.n (fun _=>0)=fO B.n fun j=>if B.n<=j+0 then B.b.pull d j else 0:=Dv fun j hj=>by rw [if_neg oO]
   rw [af] at a3
   refine dO (ι:=Nat) (fun k=>[(0,.p nb),(1,.s xb B.n c),(5,.i (B.n:Nat)),(6,.s U.length (B.n+1) (B.n+1)),(7,.i (bZ d (B.n - k))),(12,.s ob B.n B.n),(13,.i (B.b.gW d k)),(16,.i ((B.n:Int) - 1 - (k:Nat)))])
    (fun k mk H=>k<=B.n/\mk=[]/\H.take U.length=U/\H[U.length]?=some (.rw (rgC (fun j=>if j<B.n then B.b.rng d j else (0,0)) (B.n+1)))/\H[ob]?=some (.rw (ints (fO B.n fun j=>if B.n<=j+k then B.b.pull d j else 0)))) (fun k=>B.n - k) 0 ⟨rfl,rfl,rfl,rfl,rfl,rfl,rfl,congrArg (fun x=>some (Value.i x)) oO,trivial⟩ ⟨bL _,rfl,I,O,a3⟩ ?_
   clear I O a3 af H
   rintro k mk H ⟨hk,rfl,hp,hr,ho⟩
   by_cases hkn:k<B.n
   ·obtain ⟨i,Uq⟩:∃ i:Nat,i=B.n - (k+1):=⟨_,rfl⟩
    have L:i<B.n:=oO
    rw [show (B.n:Int) - 1 - (k:Nat)=((i:Nat):Int) by omega]
    have ap:((i:Nat):Int)>=0:=oO
    refine lK ?_
    obtain ⟨lo,a5⟩:=xy (B.b.lo i)
    obtain ⟨hi,a6⟩:=xy (B.b.hi i)
    obtain ⟨r,hrd⟩:=xy (B.b.rng d i)
    have hl1:nb<H.length:=fe J (take_len hp)
    have hl2:U.length<H.length:=aS hr
    have D:=hB.take hp
    have ae:aK H tb (0+(i+1)*2) 2=some [.i lo,.i hi]:=by rw [aR,a5,a6];exact D.tu (i+1) oO
    have am:tb<H.length:=dS ae
    have hcl:∀ {q o:Nat},q<H.length->closed H.length (.pointer (some ⟨q,o,none⟩))=true:=fun {q o} h=>Nat.blt_eq.mpr h
    have hcs:∀ {q o n c:Nat},q<H.length->closed H.length (.slice (some ⟨q,o,none⟩) n c)=true:=fun h=>cZ (Nat.blt_eq.mpr h)
    have hq1:∀ X,aK (H++X) tb (0+(i+1)*2) 2=some [.i lo,.i hi]:=fun X=>by rw [jl am];exact ae
    have hq2:∀ X,aK (H++X) U.length (0+i*2) 2=some [.i r.1,.i r.2]:=fun X=>by
     rw [aR,Gp (aA hr) oO,if_pos L,hrd]
    have hq3:∀ X,aI (H++X) nb (0+2)=some (.s tb (B.n+1) cT):=fun X=>aF (aA D.nb)
    have hp1:putCells (H++[aC.rw [.i 0,.i 0],aC.rw [.i 0,.i 0]]) (H.length+0) 0 [.i lo,.i hi]=some (H++[aC.rw [.i lo,.i hi],aC.rw [.i 0,.i 0]]):=by
     refine (fF (cs:=[.i 0,.i 0]) (cs':=[.i lo,.i hi]) oS oS oS rfl).trans ?_
     simp
    have hp2:putCells (H++[aC.rw [.i lo,.i hi],aC.rw [.i 0,.i 0]]) (H.length+1) 0 [.i r.1,.i r.2]=some (H++[aC.rw [.i lo,.i hi],aC.rw [.i r.1,.i r.2]]):=by
     refine (fF (cs:=[.i 0,.i 0]) (cs':=[.i r.1,.i r.2]) oS oS oS rfl).trans ?_
     simp
    have hi1:(i:Int)<((B.n+1:Nat):Int):=oO
    have hi2:(i:Int)+1<((B.n+1:Nat):Int):=oO
    refine .mk ?_
    refine Chain.BA (id:=32) oK rfl (?_)
    refine lK ?_
    obtain ⟨H1,e⟩:=xy (H++[aC.rw [.i lo,.i hi],aC.rw [.i r.1,.i r.2]])
    obtain ⟨tl,z⟩:=xy H.length
    refine .mk (dB [(0,.p nb),(1,.s xb B.n c),(5,.i (B.n:Nat)),(6,.s U.length (B.n+1) (B.n+1)),(7,.i (bZ d (B.n - k))),(12,.s ob B.n B.n),(13,.i (B.b.gW d k)),(16,.i (i:Nat)),(17,.p tl),(18,.p (tl+1))] H1 (by rw [e];rfl) ⟨rfl,rfl,rfl,rfl,rfl,rfl,rfl,rfl,by rw [z];rfl,by rw [z];rfl,trivial⟩ ?_)
    have a8:H1[tl]?=some (.rw [.i lo,.i hi]):=by rw [e,z];exact EL
    have a11:H1[tl+1]?=some (.rw [.i r.1,.i r.2]):=by rw [e,z];exact yE
    have T:H1.take U.length=U:=by rw [e];exact aP hp
    have N:H1[U.length]?=some (.rw (rgC (fun j=>if j<B.n then B.b.rng d j else (0,0)) (B.n+1))):=by rw [e];exact aA hr
    have ag:H1[ob]?=some (.rw (ints (fO B.n fun j=>if B.n<=j+k then B.b.pull d j else 0))):=by rw [e];exact aA ho
    have R:=M (B.n - k) oO
    have a7:=hdb i L
    have aj:=M i oO
    have w:bZ d (B.n - k)=Bl.jy d i:=by unfold Bl.jy;rw [Uq];congr 1;omega
    have al:=Gu (d:=d) hv.ok k hk
    have a2:=Gu (d:=d) hv.ok (k+1) hkn
    have C:B.b.gW d (k+1)=if Bl.jy d i > lo/\Bl.jy d i<hi then B.b.gW d k else max r.1 (min r.2 (B.b.gW d k)):=by
     simp only [Bl.gW]
     rw [show Bl.n B.b - (k+1)=i from Uq.symm,<- a5,<- a6,<- hrd]
    have P:B.b.pull d i=B.b.gW d (k+1) - B.b.gW d k:=by
     unfold Bl.pull
     rw [show Bl.n B.b - i=k+1 by show B.n - i=_;omega,Nat.add_sub_cancel]
    have a:Bl.jy d i - d i=bZ d (B.n - (k+1)):=by
     rw [<- Uq];show bZ d (i+1) - d i=_;simp only [bZ];omega
    have hput:∀ v,putCells H1 ob i [.i v]=some (H1.set ob (.rw (ints ((fO B.n fun j=>if B.n<=j+k then B.b.pull d j else 0).set i v)))):=fun v =>
     fF ag (by rw [bQ,nO];simp;omega) (by rw [bQ,nO];omega) (by rw [wZ (by rw [nO];exact L)])
    have E:∀ v:Int,v=B.b.gW d (k+1) - B.b.gW d k->(k+1<=B.n/\([]:List Nat)=[]/\(H1.set ob (.rw (ints ((fO B.n fun j=>if B.n<=j+k then B.b.pull d j else 0).set i v)))).take U.length=U/\(H1.set ob (.rw (ints ((fO B.n fun j=>if B.n<=j+k then B.b.pull d j else 0).set i v))))[U.length]?=some (.rw (rgC (fun j=>if j<B.n then B.b.rng d j else (0,0)) (B.n+1)))/\(H1.set ob (.rw (ints ((fO B.n fun j=>if B.n<=j+k then B.b.pull d j else 0).set i v))))[ob]?=some (.rw (ints (fO B.n fun j=>if B.n<=j+(k+1) then B.b.pull d j else 0)))):=fun v ao=>by
     refine ⟨hkn,rfl,take_set T oO,aB N oO,?_⟩
     rw [aQ ag,adT]
     congr 3
     refine Dv fun j hj=>?_
     by_cases W:j=i
     ·rw [if_pos W,if_pos oO,W,P,ao]
     ·rw [if_neg W]
      by_cases h2:B.n<=j+k
      ·rw [if_pos h2,if_pos oO]
      ·rw [if_neg h2,if_neg oO]
    rw [w]
    generalize hs1d:B.b.gW d (k+1)=s1 at C E a2 ⊢
    generalize B.b.gW d k=s0 at C E al ⊢
    rw [w] at R
    have hr9:-9<=r.1/\r.1<=9/\-9<=r.2/\r.2<=9:=by rw [hrd];exact Zd hv.ok L
    have S:-200*(i:Int)<=Bl.jy d i - d i/\Bl.jy d i - d i<=200*(i:Int):=by
     have:Bl.jy d i - d i=bZ d i:=by unfold Bl.jy;simp only [bZ];omega
     rw [this];exact aj
    generalize Bl.jy d i=bd at C R S a ⊢
    have hd1:aI (H1.set ob (.rw (ints ((fO B.n fun j=>if B.n<=j+k then B.b.pull d j else 0).set i (s1 - s0))))) xb i=some (.i (d i)):=by
     have h4:=hx i L
     have h5:=(E (s1 - s0) rfl).2.2.1
     unfold aI at h4 ⊢
     rw [jL h5 hxb];exact h4
    apply aG
    have Y:(i:Int) - 1=(B.n:Int) - 1 - ((k+1:Nat):Int):=oO
    by_cases g1:bd > lo
    ·by_cases g2:bd<hi
     ·rw [if_pos ⟨g1,g2⟩] at C
      subst C
      refine lK ?_
      exact ⟨k+1,E _ rfl,oO,⟨rfl,rfl,rfl,rfl,congrArg (fun x=>some (Value.i x)) a,rfl,congrArg (fun x=>some (Value.i x)) hs1d.symm,congrArg (fun x=>some (Value.i x)) Y,trivial⟩⟩
     ·rw [if_neg oO] at C
      subst C
      refine lK ?_
      exact ⟨k+1,E _ rfl,oO,⟨rfl,rfl,rfl,rfl,congrArg (fun x=>some (Value.i x)) a,rfl,congrArg (fun x=>some (Value.i x)) hs1d.symm,congrArg (fun x=>some (Value.i x)) Y,trivial⟩⟩
    ·rw [if_neg oO] at C
     subst C
     refine lK ?_
     exact ⟨k+1,E _ rfl,oO,⟨rfl,rfl,rfl,rfl,congrArg (fun x=>some (Value.i x)) a,rfl,congrArg (fun x=>some (Value.i x)) hs1d.symm,congrArg (fun x=>some (Value.i x)) Y,trivial⟩⟩
   ·obtain rfl:k=B.n:=oO
    have ap:¬ (B.n:Int) - 1 - ((B.n:Nat):Int)>=0:=oO
    have a4:(fO B.n fun j=>if B.n<=j+B.n then B.b.pull d j else 0)=fO B.n (B.b.pull d):=Dv fun j _=>if_pos oO
    rw [a4] at ho
    refine lK ?_
    have s0:fK U.length [ob] U.length=⟨ob,0,0⟩:=by simp [fK]
    exact dG (v2:=.s U.length B.n B.n) (.tmp rfl .nil) (aW.src [.rw (ints (fO B.n (B.b.pull d)))] [ob] hp rfl (by simp [dF];omega) ⟨wM s0 (.inl ho) (aZ _),trivial⟩ (jY oS s0 (aD _))) ⟨rfl,rfl⟩
def adW (B:Bld) (nb i:Nat):Heap:=[.rw [.int .i64 (i:Nat)],.rw (ints (dw (iJ B.b i))),.rw (ints (dw (iw B.b (B.n - (i+1))))),.rw [.func (.func 180) #[.pointer (some ⟨nb,0,none⟩)] #[]],.rw [.int .i64 (B.b.lo i),.int .i64 (B.b.hi i)]]
theorem Xy {A B:Prop} (k:B) (h:Hide B->A:=by intro z_;(repeat' (first|refine sCm ?_|(refine gU ?_;refine sK7 ?_)|(refine fU ?_;first|refine nH ?_;refine frA (dY rfl) rfl ?_ (hcl (by assumption))|refine L9 ?_;refine frA (jB rfl) rfl ?_ (hcl (by assumption))|refine fFA ?_;refine frA (bD rfl) rfl ?_ (hcl (by assumption))|refine eU ?_;refine frA (aJ rfl (by exact hq1 _)) rfl ?_ rfl|refine eU ?_;refine frA (aJ rfl (by exact hq2 _)) rfl ?_ (hcs (by assumption))|refine eU ?_;refine frA (bG rfl (by exact hq3 _)) rfl ?_ rfl|refine fIA ?_;refine frA (pJ rfl rfl (by omega) (by omega)) rfl ?_ (hcl (by assumption))|refine qX ?_;refine frA (bC rfl rfl rfl (by exact hfa _)) rfl ?_ hcR|refine qX ?_;refine frA (bC rfl rfl rfl (by exact hfb _)) rfl ?_ hcS|refine fMkF ?_;refine frA (zT rfl rfl) rfl ?_ hcf2|(refine fAdd ?_;refine fr (pI rfl rfl (by omega)) (by rfl) rfl ?_)|(refine zY ?_;refine Chain.fr1A (jG rfl) rfl rfl rfl ?_))|(refine fP ⟨by kernel_rfl,?_⟩)|refine bU (id:=1) ?_|refine bU (id:=2) ?_|refine aG ?_|refine Chain.WJ ?_|refine Chain.wR 7 [true,true] cR (by kernel_rfl) (by kernel_rfl) (by kernel_rfl) (by kernel_rfl) hrR hoR (bW (size:=401) rfl rfl (by exact hlR) (by exact h1R) (by exact hp1)) ?_|refine Chain.wR 8 [true,true] cS2 (by kernel_rfl) (by kernel_rfl) (by kernel_rfl) (by kernel_rfl) hrS hoS (bW (size:=401) rfl rfl (by exact hlS) (by exact h1S) (by exact hp2)) ?_|refine Chain.wR 10 [true,true] [.func (.func 180) #[.p nb] #[]] (by kernel_rfl) (by kernel_rfl) (by kernel_rfl) (by kernel_rfl) hcf rfl (bW rfl rfl rfl rfl (by exact hp1)) ?_|refine Chain.wR 11 [true,true] [.i (B.b.lo i),.i (B.b.hi i)] (by kernel_rfl) (by kernel_rfl) (by kernel_rfl) (by kernel_rfl) rfl rfl (bW rfl rfl rfl rfl (by exact hp2)) ?_));exact z_.h):A:=h ⟨k⟩
theorem aga {U:Heap} {B:Bld} {nb sb cS tb cT i:Nat} (hv:mJ B) (hB:iY U B nb sb cS tb cT) (hi:i<B.n) :
  Ev prog 242 [.pointer (some ⟨nb,0,none⟩),.int .i64 (i:Nat)] U (.func (.func 283) #[] #[.pointer (some ⟨U.length+4,0,none⟩),.pointer (some ⟨U.length+1,0,none⟩),.pointer (some ⟨U.length+2,0,none⟩),.pointer (some ⟨U.length+3,0,none⟩),.pointer (some ⟨U.length,0,none⟩)]) (U++adW B nb i):=by
 refine aH U.length 27 func242 (h:=?_)
 have hn20:=hv.n
 have hnbl:nb < U.length:=aS hB.nb
 refine Xy ?_
 obtain ⟨H,hH⟩:=xy (U++[aC.rw [.int .i64 (i:Nat)]])
 refine .mk (dB [(0,.pointer (some ⟨nb,0,none⟩)),(3,.pointer (some ⟨U.length,0,none⟩))] H hH.symm tE ?_)
 have m:H.length=U.length+1:=by rw [hH];simp
 have b3:H[U.length]?=some (.rw [.int .i64 (i:Nat)]):=by rw [hH];exact aN
 have hp:H.take U.length=U:=by rw [hH];simp
 have g:nb<H.length:=oO
 have s:U.length<H.length:=oO
 have t:=hB.take hp
 have hcl:∀ {q o:Nat},q<H.length->closed H.length (.pointer (some ⟨q,o,none⟩))=true:=fun {q o} h=>Nat.blt_eq.mpr h
 have hq1:∀ X,aI (H++X) U.length 0=some (.int .i64 (i:Nat)):=fun X=>aF (aA b3)
 have hfa:=fun X=>QE (U:=H++X) (sn:=i) hv (t.app (X:=X)) oO
 have hfb:=fun X=>Jc (U:=H++X) (sn:=i+1) hv (t.app (X:=X)) oO
 obtain ⟨cR,d⟩:=xy (ints (dw (iJ B.b i)))
 obtain ⟨cS2,a⟩:=xy (ints (dw (iw B.b (B.n - (i+1)))))
 rw [<- d] at hfa
 rw [<- a] at hfb
 have hlR:cR.length=401:=by rw [d,bQ,dQ]
 have hlS:cS2.length=401:=by rw [a,bQ,dQ]
 have h1R:cR.all (·.oneCell')=true:=by rw [d];exact jD _
 have h1S:cS2.all (·.oneCell')=true:=by rw [a];exact jD _
 have hrR:dU H.length cR=true:=by rw [d];exact (aY (aZ _)).1
 have hrS:dU H.length cS2=true:=by rw [a];exact (aY (aZ _)).1
 have hoR:okL cR=true:=by rw [d];exact (aY (n:=H.length) (aZ _)).2
 have hoS:okL cS2=true:=by rw [a];exact (aY (n:=H.length) (aZ _)).2
 have hcR:closed H.length (.agg cR.toArray)=true:=by simpa [closed,jC] using hrR
 have hcS:closed H.length (.agg cS2.toArray)=true:=by simpa [closed,jC] using hrS
 have hp1:putCells (H++[aC.rw (List.replicate 401 (.int .i64 0)),aC.rw (List.replicate 401 (.int .i64 0))]) (H.length+0) 0 cR=some (H++[aC.rw cR,aC.rw (List.replicate 401 (.int .i64 0))]):=by
  rw [fF (cs:=List.replicate 401 (.int .i64 0)) (cs':=cR) oS (by rw [hlR];simp) oS (by simp [splice,hlR])]
  simp
 have hp2:putCells (H++[aC.rw cR,aC.rw (List.replicate 401 (.int .i64 0))]) (H.length+1) 0 cS2=some (H++[aC.rw cR,aC.rw cS2]):=by
  rw [fF (cs:=List.replicate 401 (.int .i64 0)) (cs':=cS2) oS (by rw [hlS];simp) oS (by simp [splice,hlS])]
  simp
 refine Chain.BA (id:=1) oK rfl (?_)
 refine Xy ?_
 clear hp1 hp2 hcS hcR hoS hoR hrS hrR h1S h1R hlS hlR hfb hfa hq1 hcl s g
 obtain ⟨H2,e⟩:=xy (H++[aC.rw cR,aC.rw cS2])
 refine .mk (dB [(0,.pointer (some ⟨nb,0,none⟩)),(3,.pointer (some ⟨U.length,0,none⟩)),(5,.pointer (some ⟨H.length,0,none⟩)),(6,.pointer (some ⟨H.length+1,0,none⟩))] H2 (by rw [e];rfl) tE ?_)
 have j:H2.length=U.length+3:=by rw [e];simp [m]
 have u:H2[U.length]?=some (.rw [.int .i64 (i:Nat)]):=by rw [e];exact aA b3
 have v:H2.take U.length=U:=by rw [e];exact aP hp
 have g:nb<H2.length:=oO
 have s:U.length<H2.length:=oO
 have f:=hB.take v
 have hcl:∀ {q o:Nat},q<H2.length->closed H2.length (.pointer (some ⟨q,o,none⟩))=true:=fun {q o} h=>Nat.blt_eq.mpr h
 have hcs:∀ {q o n c:Nat},q<H2.length->closed H2.length (.slice (some ⟨q,o,none⟩) n c)=true:=fun h=>cZ (Nat.blt_eq.mpr h)
 have hq1:∀ X,aI (H2++X) U.length 0=some (.int .i64 (i:Nat)):=fun X=>aF (aA u)
 have hq2:∀ X,aI (H2++X) nb (0+2)=some (.slice (some ⟨tb,0,none⟩) (B.n+1) cT):=fun X=>aF (aA f.nb)
 have p:aK H2 tb (0+(i+1)*2) 2=some [.int .i64 (B.b.lo i),.int .i64 (B.b.hi i)]:=by rw [aR];exact f.tu (i+1) oO
 have w:tb<H2.length:=dS p
 have hq3:∀ X,aK (H2++X) tb (0+(i+1)*2) 2=some [.int .i64 (B.b.lo i),.int .i64 (B.b.hi i)]:=fun X=>by rw [jl w];exact p
 have hcf:dU H2.length [.func (.func 180) #[.pointer (some ⟨nb,0,none⟩)] #[]]=true:=by
  have:=hcl (o:=0) g
  simp [dU,closed,jC] at this ⊢
  exact this
 have hcf2:closed H2.length (.func (.func 180) #[.pointer (some ⟨nb,0,none⟩)] #[])=true:=by
  have:=hcl (o:=0) g
  simp [dU,closed,jC] at this ⊢
  exact this
 have hi1:(i:Int)+1<((B.n+1:Nat):Int):=oO
 have hp1:putCells (H2++[aC.rw [Value.nilFunc],aC.rw [.int .i64 0,.int .i64 0]]) (H2.length+0) 0 [.func (.func 180) #[.pointer (some ⟨nb,0,none⟩)] #[]]=some (H2++[aC.rw [.func (.func 180) #[.pointer (some ⟨nb,0,none⟩)] #[]],aC.rw [.int .i64 0,.int .i64 0]]):=by
  refine (fF (cs:=[Value.nilFunc]) (cs':=[.func (.func 180) #[.pointer (some ⟨nb,0,none⟩)] #[]]) oS oS oS rfl).trans ?_
  simp
 have hp2:putCells (H2++[aC.rw [.func (.func 180) #[.pointer (some ⟨nb,0,none⟩)] #[]],aC.rw [.int .i64 0,.int .i64 0]]) (H2.length+1) 0 [.int .i64 (B.b.lo i),.int .i64 (B.b.hi i)]=some (H2++[aC.rw [.func (.func 180) #[.pointer (some ⟨nb,0,none⟩)] #[]],aC.rw [.int .i64 (B.b.lo i),.int .i64 (B.b.hi i)]]):=by
  refine (fF (cs:=[.int .i64 0,.int .i64 0]) (cs':=[.int .i64 (B.b.lo i),.int .i64 (B.b.hi i)]) oS oS oS rfl).trans ?_
  simp
 refine Chain.BA (id:=2) oK rfl (?_)
 refine Xy ?_
 refine dG (.tmp rfl .nil) .all ⟨?_,?_⟩
 ·show Value.func (.func 283) #[] #[.pointer (some ⟨H2.length+1,0,none⟩),.pointer (some ⟨H.length,0,none⟩),.pointer (some ⟨H.length+1,0,none⟩),.pointer (some ⟨H2.length+0,0,none⟩),.pointer (some ⟨U.length,0,none⟩)]=_
  rw [j,m]
 ·show H2++[aC.rw [.func (.func 180) #[.pointer (some ⟨nb,0,none⟩)] #[]],aC.rw [.int .i64 (B.b.lo i),.int .i64 (B.b.hi i)]]=_
  rw [e,hH,d,a]
  simp [adW]
theorem adX {A B:Prop} (k:B) (h:Hide B->A:=by intro z_;(repeat' (first|refine sCm ?_|(refine gU ?_;first|refine sK0 ?_|(refine lM ?_;first|refine st (kC rfl (by exact fE (by assumption)) rfl) rfl rfl ?_|refine st (je rfl (by exact bM (by assumption)) rfl) rfl rfl ?_))|(refine gG ?_;first|(refine wK ?_;refine stG rfl (by exact fE (by assumption)) (dY rfl) rfl rfl ?_)|(refine yS ?_;refine stG rfl (by exact fE (by assumption)) (iU rfl rfl rfl) rfl rfl ?_)|refine stS rfl (by exact bM (by assumption)) rfl ?_)|refine aG ?_));exact z_.h):A:=h ⟨k⟩
theorem aaV (n lo hi:Int):Ev prog 83 [.i n,.i lo,.i hi] [] (.bool (decide (lo<=n/\n<=hi))) []:=by
 refine aH 0 15 func83 (h:=?_)
 by_cases h1:n>=lo
 ·by_cases h2:n<=hi
  ·refine adX ?_
   refine dG (.tmp rfl .nil) (.plain rfl rfl) ⟨?_,rfl⟩
   simp [jH,h1,h2]
  ·refine adX ?_
   refine dG (.tmp rfl .nil) (.plain rfl rfl) ⟨?_,rfl⟩
   simp [jH,h2]
 ·refine adX ?_
  refine dG (.tmp rfl .nil) (.plain rfl rfl) ⟨?_,rfl⟩
  simp only [jH,Value.bool.injEq]
  rw [eq_comm,decide_eq_false_iff_not];omega
theorem aaW {U:Heap} {n lo hi:Int} (hni:Ni U):Ev prog 83 [.i n,.i lo,.i hi] U (.bool (decide (lo<=n/\n<=hi))) U:=Ev.nil (aaV n lo hi) rfl rfl hni
theorem yG {U:Heap} {n lo hi:Int} (h:lo<=n/\n<=hi) (hni:Ni U):Ev prog 83 [.i n,.i lo,.i hi] U (.bool true) U:=by
 have:=aaW (n:=n) (lo:=lo) (hi:=hi) hni
 rwa [decide_eq_true h] at this
theorem ahm {A B:Prop} (k:B) (h:Hide B->A:=by intro z_;(repeat' (first|refine sCm ?_|(refine gU ?_;first|refine sK0 ?_|(refine ae7 ?_;refine st (Cj rfl) rfl rfl ?_))|refine aG ?_|refine sK2 ?_|refine sK1 ?_|fail));exact z_.h):A:=h ⟨k⟩
theorem aaX {n:Int} (h:-1000000<=n/\n<=1000000):Ev prog 89 [.i n] [] (.i (ab n)) []:=by
 refine aH 0 8 func89 (h:=?_)
 by_cases h1:n<0
 ·refine ahm ?_
  refine dG (.tmp rfl .nil) (.plain rfl rfl) ⟨?_,rfl⟩
  simp only [jH,Value.int.injEq,true_and]
  rw [wrap64 oO oO]
  unfold ab;omega
 ·refine ahm ?_
  refine dG (.tmp rfl .nil) (.plain rfl rfl) ⟨?_,rfl⟩
  simp only [jH,Value.int.injEq,true_and]
  unfold ab;omega
theorem OE {U:Heap} {n:Int} (h:-1000000<=n/\n<=1000000) (hni:Ni U):Ev prog 89 [.i n] U (.i (ab n)) U:=Ev.nil (aaX h) rfl rfl hni
theorem UQ {A B:Prop} (k:B) (h:Hide B->A:=by intro z_;(repeat' (first|refine sCm ?_|(refine gU ?_;first|(refine cO ?_;first|refine st (aJ rfl (by first|exact ig rfl|exact aF a0)) rfl rfl ?_|refine st (bG rfl (by exact hd1)) rfl rfl ?_)|refine sK0 ?_|(refine lM ?_;refine st (je rfl (by first|rfl|exact bM (by assumption)) rfl) rfl rfl ?_)|(refine rW ?_;refine st (iV rfl) rfl rfl ?_)|refine sK3 ?_|(refine dV ?_;refine st (bC rfl rfl rfl (by exact hf1)) rfl rfl ?_)|refine sK8 ?_)|(refine gG ?_;first|(refine gFA ?_;refine stG rfl (by first|rfl|exact bM (by assumption)) (bD rfl) rfl rfl ?_)|(refine cO ?_;refine stG rfl (by first|rfl|exact bM (by assumption)) (aJ rfl (by exact ig rfl)) rfl rfl ?_)|(refine yS ?_;refine stG rfl (by first|rfl|exact bM (by assumption)) (iU rfl rfl rfl) rfl rfl ?_)|(refine Iq ?_;refine stG rfl (by exact bM (by assumption)) (lY rfl) rfl rfl ?_)|(refine rW ?_;refine stG rfl (by first|rfl|exact bM (by assumption)) (iV rfl) rfl rfl ?_)|(refine dV ?_;refine stG rfl (by first|rfl|exact bM (by assumption)) (bC rfl rfl rfl (by first|exact hf2|exact hf3|exact hf4)) rfl rfl ?_))|refine bU (id:=7) ?_|refine bU (id:=9) ?_|refine aG ?_|refine sK2 ?_|refine sK1 ?_|fail));exact z_.h):A:=h ⟨k⟩
theorem Hw {U:Heap} {B:Bld} {sb cS:Nat} (hv:mJ B) (hS:kQ U B sb) (hni:Ni U) :
  Ev prog 24 [.agg #[.s sb B.n cS,.i B.most]] U (.i 0) U:=by
 have hn1:=hv.n
 have hm:=hv.most
 refine aH U.length 64 func24 (h:=?_)
 have a0:(U++[aC.rw [.s sb B.n cS,.i B.most]])[U.length]?=some (.rw [.s sb B.n cS,.i B.most]):=aN
 have hn0:¬ (B.n:Int)<1:=oO
 have hn3:¬ (B.n:Int) > 20:=oO
 refine UQ ?_
 refine dO (ι:=Nat) (fun k=>[(1,.p U.length),(3,.i (k:Nat))])
  (fun k mk H=>k<=B.n/\mk=[]/\H.take (U++[aC.rw [.s sb B.n cS,.i B.most]]).length=U++[aC.rw [.s sb B.n cS,.i B.most]]/\H.all (fun o=>!aU o)=true) (fun k=>B.n - k) 0 tE ⟨bL _,rfl,eb,aX hni rfl⟩ ?_
 clear a0
 rintro k mk H ⟨hkn,rfl,hp,c⟩
 have e:H.take U.length=U:=by
  have:=congrArg (List.take U.length) hp
  rw [eA] at this
  simpa using this
 have a0:H[U.length]?=some (.rw [.s sb B.n cS,.i B.most]):=by rw [jL hp oS];exact aN
 by_cases d:k<B.n
 ·have f:(k:Int)<(B.n:Nat):=oO
  have hd1:aK H sb (0+k*4) 4=some [.i (B.ang k),.i (B.tlo k),.i (B.thi k),.i (B.hard k)]:=by rw [aR];exact dJ e (hS.st k d)
  have hst:=hv.st k d
  refine UQ ?_
  have a1:(H++[aC.rw [.i (B.ang k),.i (B.tlo k),.i (B.thi k),.i (B.hard k)]])[H.length]?=some (.rw [.i (B.ang k),.i (B.tlo k),.i (B.thi k),.i (B.hard k)]):=aN
  have a:(H++[aC.rw [.i (B.ang k),.i (B.tlo k),.i (B.thi k),.i (B.hard k)]]).all (fun o=>!aU o)=true:=aX c rfl
  have hf1:Ev prog 83 [.i (B.ang k),.i (-100),.i 100] (H++[aC.rw [.i (B.ang k),.i (B.tlo k),.i (B.thi k),.i (B.hard k)]]) (.bool true) (H++[aC.rw [.i (B.ang k),.i (B.tlo k),.i (B.thi k),.i (B.hard k)]]):=yG oO a
  have hf2:Ev prog 83 [.i (B.tlo k),.i (-100),.i 100] (H++[aC.rw [.i (B.ang k),.i (B.tlo k),.i (B.thi k),.i (B.hard k)]]) (.bool true) (H++[aC.rw [.i (B.ang k),.i (B.tlo k),.i (B.thi k),.i (B.hard k)]]):=yG oO a
  have hf3:Ev prog 83 [.i (B.thi k),.i (-100),.i 100] (H++[aC.rw [.i (B.ang k),.i (B.tlo k),.i (B.thi k),.i (B.hard k)]]) (.bool true) (H++[aC.rw [.i (B.ang k),.i (B.tlo k),.i (B.thi k),.i (B.hard k)]]):=yG oO a
  have hf4:Ev prog 83 [.i (B.hard k),.i 1,.i 9] (H++[aC.rw [.i (B.ang k),.i (B.tlo k),.i (B.thi k),.i (B.hard k)]]) (.bool true) (H++[aC.rw [.i (B.ang k),.i (B.tlo k),.i (B.thi k),.i (B.hard k)]]):=yG oO a
  have hg:¬ B.tlo k > B.thi k:=oO
  refine .mk (aG ?_)
  refine UQ ?_
  exact ⟨k+1,⟨oO,rfl,aP hp,a⟩,oO,tE⟩
 ·obtain rfl:k=B.n:=oO
  have f:¬ (B.n:Int)<(B.n:Nat):=oO
  have hf1:Ev prog 83 [.i B.most,.i 0,.i 200] H (.bool true) H:=yG oO c
  refine UQ ?_
  refine .mk (aG ?_)
  refine UQ ?_
  exact dG (.tmp rfl .nil) (.plain e rfl) ⟨rfl,rfl⟩
theorem Ze {U:Heap} {B:Bld} {sb cS k:Nat} (hv:mJ B) (hS:kQ U B sb) (hk:k<B.n) :
  Ev prog 50 [.agg #[.s sb B.n cS,.i B.most],.i (k:Nat)] U (.agg #[.i (B.b.lo k),.i (B.b.hi k)]) U:=by
 have hst:=hv.st k hk
 have hkI:¬ (k:Int)<0:=oO
 have hd1:aK (U++[aC.rw [.s sb B.n cS,.i B.most]]++[aC.rw [.i 0,.i 0]]) sb (0+k*4) 4=some [.i (B.ang k),.i (B.tlo k),.i (B.thi k),.i (B.hard k)]:=by
  rw [aR];exact dJ (aP (aP eb)) (hS.st k hk)
 refine aH U.length 27 func50 (h:=?_)
 have a0:(U++[aC.rw [.s sb B.n cS,.i B.most]]++[aC.rw [.i 0,.i 0]])[U.length]?=some (.rw [.s sb B.n cS,.i B.most]):=aA aN
 have a1:(U++[aC.rw [.s sb B.n cS,.i B.most]]++[aC.rw [.i 0,.i 0]]++[aC.rw [.i (B.ang k),.i (B.tlo k),.i (B.thi k),.i (B.hard k)]])[(U++[aC.rw [.s sb B.n cS,.i B.most]]++[aC.rw [.i 0,.i 0]]).length]?=some (.rw [.i (B.ang k),.i (B.tlo k),.i (B.thi k),.i (B.hard k)]):=aN
 have c:∀ a b,putCells (U++[aC.rw [.s sb B.n cS,.i B.most]]++[aC.rw [.i 0,.i 0]]++[aC.rw [.i (B.ang k),.i (B.tlo k),.i (B.thi k),.i (B.hard k)]]) (U++[aC.rw [.s sb B.n cS,.i B.most]]).length 0 [.i a,.i b]=some (U++[aC.rw [.s sb B.n cS,.i B.most]]++[aC.rw [.i a,.i b]]++[aC.rw [.i (B.ang k),.i (B.tlo k),.i (B.thi k),.i (B.hard k)]]):=fun a b=>by
  refine (fF (cs:=[.i 0,.i 0]) (cs':=[.i a,.i b]) (aA aN) oS oS rfl).trans ?_
  simp
 repeat' (first|refine sCm ?_|(refine gU ?_;first|(refine cO ?_;first|refine st (aJ rfl (by first|exact ig rfl|exact aF a0)) rfl rfl ?_|refine st (bG rfl (by exact hd1)) rfl rfl ?_)|refine sK4 ?_|refine sK0 ?_|refine sK3 ?_|refine FP ?_|(refine gZ ?_;refine stN (bW rfl rfl rfl rfl (by first|exact iH (aD _) (cL _)|exact c _ _)) rfl ?_))|refine aG ?_|refine lg rfl oR ?_)
 have hc:aK (U++[aC.rw [.s sb B.n cS,.i B.most]]++[aC.rw [.i (B.tlo k - B.ang k),.i (B.thi k - B.ang k)]]++[aC.rw [.i (B.ang k),.i (B.tlo k),.i (B.thi k),.i (B.hard k)]]) (U++[aC.rw [.s sb B.n cS,.i B.most]]).length 0 2=some [.i (B.tlo k - B.ang k),.i (B.thi k - B.ang k)]:=aV (aA aN) rfl
 exact dG (.cellN inferInstance rfl hc .nil) (aW.plain oS rfl) ⟨rfl,rfl⟩
theorem Zf {A B:Prop} (k:B) (h:Hide B->A:=by intro z_;(repeat' (first|refine sCm ?_|(refine gU ?_;first|refine sK0 ?_|refine sK6 ?_|(refine gZ ?_;refine stN (bW rfl rfl rfl rfl (by exact hput)) rfl ?_))|refine aG ?_|refine sK2 ?_|refine lg rfl (by rfl) ?_));exact z_.h):A:=h ⟨k⟩
theorem aiu {U:Heap}:Ev prog 183 [] U (.s U.length 401 401) (U++[.rw (ints noRow)]):=by
 refine aH U.length 14 func183 (h:=?_)
 refine Zf ?_
 refine st (qY (l:=401) oR oR rfl rfl oD oD oD) rfl rfl ?_
 refine Zf ?_
 have hz:U++[aC.rw (fZ (dM (.i 0)) 401)]=U++[aC.rw (ints (nY 0))]:=by rw [qO];simp [nY,ints]
 refine dO (ι:=Nat) (fun k=>[(1,.s U.length 401 401),(2,.i (k:Nat))])
  (fun k mk H=>k<=401/\mk=[]/\H=U++[aC.rw (ints (nY k))]) (fun k=>401 - k) 0 tE ⟨bL _,rfl,hz⟩ ?_
 clear hz
 rintro k mk H ⟨hk,rfl,rfl⟩
 have a:=Uz hk
 by_cases hkn:k<401
 ·have hput:putCells (U++[aC.rw (ints (nY k))]) U.length k [.i nev]=some (U++[aC.rw (ints (nY (k+1)))]):=by
   rw [fF aN (by rw [bQ,a];simp;omega) (by rw [bQ,a];omega) (by rw [wZ oO,Ov oO])]
   simp
  have d:(k:Int)<((401:Nat):Int):=oO
  refine Zf ?_
  exact ⟨k+1,⟨oO,rfl,rfl⟩,oO,tE⟩
 ·obtain rfl:k=401:=oO
  have d:¬ ((401:Nat):Int)<((401:Nat):Int):=oO
  have c:noRow=nY 401:=by simp [noRow,nY]
  rw [<- c]
  refine Zf ?_
  have s0:fK U.length [U.length] U.length=⟨U.length,0,0⟩:=by simp [fK]
  exact dG (v2:=.s U.length 401 401) (.tmp rfl .nil) (aW.src [.rw (ints noRow)] [U.length] oS rfl (by simp [dF]) ⟨lC s0 (.inl aN) (aZ _),trivial⟩ (jY oS s0 (aD _))) ⟨rfl,rfl⟩
end Go.Proofs.YtajpgeklmcjciaaGreat
namespace Go.AH.Warp
theorem adY {b:Bl} {i:Nat} {f v:Int} {G:Nat->Int} (hs:-200<=b.sLo i f):∀ (q:Nat) (x:Nat),
  cIn b i f v G q x=if b.sLo i f<=(x:Int) - 200/\(x:Int) - 200<b.sLo i f+q then min (G x) (v+b.hard i*ab ((x:Int) - 200 - f)) else G x
 |0,x=>by rw [if_neg oO];rfl
 |q+1,x=>by
  simp only [cIn]
  rw [adY hs q x]
  by_cases h:x=(b.sLo i f+q+200).toNat
  ·rw [if_pos h,if_neg oO,if_pos oO,show (x:Int) - 200=b.sLo i f+q by omega]
  ·rw [if_neg h]
   by_cases h2:b.sLo i f<=(x:Int) - 200/\(x:Int) - 200<b.sLo i f+q
   ·rw [if_pos h2,if_pos oO]
   ·rw [if_neg h2,if_neg oO]
def Bl.Leads (b:Bl) (i:Nat) (f g:Int):Prop:=b.lo i<=g/\g<=b.hi i/\-b.most<=g - f/\g - f<=b.most
theorem OG {b:Bl} {i:Nat} {R:Nat->Int} (hlo:-200<=b.lo i) (hh:0<=b.hard i) (hR:∀ x,0<=R x/\R x<=nev):∀ (j:Nat) (x:Nat),
  cOut b i R j x<=nev/\(∀ f<j,b.Leads i ((f:Int) - 200) ((x:Int) - 200)->cOut b i R j x<=R f+b.hard i*ab ((x:Int) - f)) /\
  (cOut b i R j x<nev->∃ f<j,b.Leads i ((f:Int) - 200) ((x:Int) - 200)/\cOut b i R j x=R f+b.hard i*ab ((x:Int) - f))
 |0,x=>⟨dy _,fun f h=>oO,fun h=>absurd h (by simp [cOut])⟩
 |j+1,x=>by
  obtain ⟨h1,h2,h3⟩:=OG hlo hh hR j x
  simp only [cOut]
  by_cases hn:R j>=nev
  ·rw [if_pos hn]
   refine ⟨h1,fun f hf hl=>?_,fun o=>?_⟩
   ·by_cases e:f=j
    ·subst e
     have:0<=b.hard i*ab ((x:Int) - f):=dl hh (Bl.uT _)
     omega
    ·exact h2 f oO hl
   ·obtain ⟨f,a,c⟩:=h3 o
    exact ⟨f,oO,c⟩
  ·rw [if_neg hn]
   have hs:-200<=b.sLo i (-200+(j:Int)):=by unfold Bl.sLo;omega
   rw [adY hs]
   have m:=b.AP (i:=i) (f:=-200+(j:Int)) (g:=(x:Int) - 200)
   have e2:(x:Int) - 200 - (-200+(j:Int))=(x:Int) - j:=oO
   rw [e2]
   by_cases p:b.sLo i (-200+(j:Int))<=(x:Int) - 200/\(x:Int) - 200<b.sLo i (-200+(j:Int))+b.sN i (-200+(j:Int))
   ·rw [if_pos p]
    have hl:=m.1 p
    refine ⟨oO,fun f hf q=>?_,fun o=>?_⟩
    ·by_cases e:f=j
     ·subst e;omega
     ·have:=h2 f oO q;omega
    ·by_cases hc:cOut b i R j x<=R j+b.hard i*ab ((x:Int) - j)
     ·obtain ⟨f,a,c,d⟩:=h3 oO
      exact ⟨f,oO,c,oO⟩
     ·exact ⟨j,oO,⟨hl.1,hl.2.1,oO,oO⟩,oO⟩
   ·rw [if_neg p]
    refine ⟨h1,fun f hf hl=>?_,fun o=>?_⟩
    ·by_cases e:f=j
     ·subst e
      exact absurd (m.2 ⟨hl.1,hl.2.1,by have:=hl.2.2.1;omega,by have:=hl.2.2.2;omega⟩) p
     ·exact h2 f oO hl
    ·obtain ⟨f,a,c⟩:=h3 o
     exact ⟨f,oO,c⟩
def Bl.ct (b:Bl):Nat->Int->Int
 |0,g=>if g=0 then 0 else nev
 |i+1,g=>if b.lo i<=g/\g<=b.hi i then mF (fun f=>b.ct i f+b.hard i*ab (g - f)) (max (-200) (g - b.most)) (min 200 (g+b.most)+1 - max (-200) (g - b.most)).toNat else nev
theorem QL {b:Bl} (ho:b.Ok) (hlo:∀ i<b.n,-200<=b.lo i):∀ i≤b.n,∀ x<401,iJ b i x=b.ct i ((x:Int) - 200)
 |0,_,x,hx=>by
  simp only [iJ,Bl.ct]
  by_cases h:x=200
  ·rw [if_pos h,if_pos oO]
  ·rw [if_neg h,if_neg oO]
 |i+1,hi,x,hx=>by
  have ih:=QL ho hlo i oO
  have hR:=QD ho i oO
  obtain ⟨h1,h2,h3⟩:=OG (R:=iJ b i) (hlo i oO) (by have:=(ho i oO).1;omega) hR 401 x
  show cOut b i (iJ b i) 401 x=_
  simp only [Bl.ct]
  by_cases ht:b.lo i<=(x:Int) - 200/\(x:Int) - 200<=b.hi i
  ·rw [if_pos ht]
   refine Int.le_antisymm (EI h1 fun f f1 f2=>?_) ?_
   ·have:=h2 (f+200).toNat oO ⟨ht.1,ht.2,oO,oO⟩
    rw [ih _ oO] at this
    rw [show (x:Int) - 200 - f=(x:Int) - ((f+200).toNat:Nat) by omega]
    rwa [show (((f+200).toNat:Nat):Int) - 200=f by omega] at this
   ·by_cases a:cOut b i (iJ b i) 401 x<nev
    ·obtain ⟨f,f1,f2,f3⟩:=h3 a
     have f4:=f2.2.2
     rw [f3,ih f f1]
     have:=EH (F:=fun f=>b.ct i f+b.hard i*ab ((x:Int) - 200 - f)) (lo:=max (-200) ((x:Int) - 200 - b.most)) (k:=(min 200 ((x:Int) - 200+b.most)+1 - max (-200) ((x:Int) - 200 - b.most)).toNat) (g:=(f:Int) - 200) oO oO
     rwa [show (x:Int) - 200 - ((f:Int) - 200)=(x:Int) - f by omega] at this
    ·have:=BI (fun f=>b.ct i f+b.hard i*ab ((x:Int) - 200 - f)) (max (-200) ((x:Int) - 200 - b.most)) (min 200 ((x:Int) - 200+b.most)+1 - max (-200) ((x:Int) - 200 - b.most)).toNat
     omega
  ·rw [if_neg ht]
   refine Int.le_antisymm h1 (Int.not_lt.1 fun a=>?_)
   obtain ⟨f,_,f2,_⟩:=h3 a
   exact ht ⟨f2.1,f2.2.1⟩
end Go.AH.Warp
