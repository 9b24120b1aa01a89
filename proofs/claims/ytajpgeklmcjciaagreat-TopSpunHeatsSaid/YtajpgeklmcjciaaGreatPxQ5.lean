/- Pulls that prove best blows: pulls of warp's bench. -/
import Derived.Test.YtajpgeklmcjciaaGreatPxQ4
import Derived.Test.YtajpgeklmcjciaaGreatPxQ2
import Derived.Test.YtajpgeklmcjciaaGreatPxQ3
import Derived.Test.YtajpgeklmcjciaaGreatPxQ1
set_option maxRecDepth 100000
set_option maxHeartbeats 1000000
namespace Go.AH.Warp
open Go Go.AH
def numsL (lo:Int) (n:Nat):List Int:=(List.range n).map fun j=>lo+(j:Nat)
theorem Gi (lo:Int) (n:Nat):(numsL lo n).length=n:=by simp [numsL]
theorem Ws (lo:Int) (n:Nat):ints (numsL lo (n+1))=ints (numsL lo n)++[.i (lo+(n:Nat))]:=by simp [numsL,ints,fy]
theorem acK {lo:Int} {n i:Nat} (h:i<n):gi (numsL lo n) i=lo+i:=by simp [numsL,gi,cE,cP,ft h]
end Go.AH.Warp
namespace Go.Proofs.YtajpgeklmcjciaaGreat
open Go Go.AH
attribute [local irreducible] dA bP bT jL gX dQ fF bZ fB aY dY fA
open Go.AH.Heat Go.AH.Warp
theorem afV {A B:Prop} (k:B) (h:Hide B→A:=by intro h_k_;(repeat' (first|refine sCm ?_|(refine gU ?_;(refine bW ?_;refine st (aJ rfl (by exact aF a1)) rfl rfl ?_))|refine aG ?_));exact h_k_.h):A:=h ⟨k⟩
theorem acL {A B:Prop} (k:B) (h:Hide B→A:=by intro h_k_;(repeat' (first|refine sCm ?_|(refine gU ?_;first|(refine kP ?_;refine st (bV rfl) (by exact hrd) rfl ?_)|(refine pW ?_;refine st (iZ rfl) (by exact hrd) rfl ?_)|(refine bW ?_;refine st (aJ rfl (by exact aF a1)) (by exact hrd) rfl ?_)|(refine lV ?_;refine st (fO (by rfl) (by rfl) (by rfl) (by rfl) rfl (by rfl)) (by exact hrd) rfl ?_))|refine aG ?_));exact h_k_.h):A:=h ⟨k⟩
theorem N7 {σ:Heap} {lo hi:Int} {lb hb n:Nat} (hlo:-1000000≤lo) (hlo2:lo≤1000000) (hhi:hi≤1000000) (hn:n=(hi+1 - lo).toNat) (hn2:n≤1000) (hlb:σ[lb]?=some (.rw [.i lo])) (hhb:σ[hb]?=some (.rw [.i hi])) (hn0:0<n) :
  Ev Tryz.prog 176 [.func (.func 278) #[] #[.p lb,.p hb]] σ (.s σ.length n n) (σ++[.rw (ints (numsL lo n))]):=by
 refine aI σ.length 12 Tryz.func176 rfl rfl rfl rfl rfl ?_
 refine afV ?_
 refine dJ [(3,.p σ.length),(5,.func (.func 278) #[] #[.p lb,.p hb])] (σ++[aB.rw [.slice none 0 0]]) rfl tE ?_
 have C:(σ++[aB.rw [.slice none 0 0]]).length=σ.length+1:=oS
 have g:=aQ hlb
 have m:=aQ hhb
 refine kU (p:=[]) (q:=[.p lb,.p hb]) rfl fun L hL=>?_
 rw [C]
 refine TY (I:=fun (j:Nat) (H:Heap)=>H.take σ.length=σ∧H[σ.length+1]?=some .dfr∧H[σ.length+2]?=some L∧σ.length+3≤H.length∧((j=0∧H[σ.length]?=some (.rw [.slice none 0 0]))∨(0<j∧∃ gb,σ.length+3≤gb∧H[σ.length]?=some (.rw [eu gb 1 j])∧H[gb]?=some (.gr (ints (numsL lo j)) 2))))
  (l:=σ.length+1+1) (lb:=lb) (hb:=hb) (lo:=lo) (hi:=hi) (n:=n) hlo hlo2 hhi hn ?_ ?_ (fun j H h=>by rw [jm h.1 g];exact hlb) (fun j H h=>by rw [jm h.1 m];exact hhb) (fun j H h=>h.2.2.1.trans (congrArg some hL)) rfl ?_ ?_
 ·refine ⟨by simp,?_,?_,by simp,.inl ⟨rfl,aA aO⟩⟩
  ·rw [← C,bE (aD _)];simp
  ·rw [show σ.length+2=(σ++[aB.rw [.slice none 0 0]]).length+1 by simp,bE oO];simp
 ·intro j H h
  have:=h.2.2.2.1
  simp;omega
 ·rintro j hj H ⟨hp,hd,f,o,a⟩ QB J
  have hrd:mG (some (σ.length+2)) H.length=true:=(show Nat.blt _ _=true from Nat.blt_eq.mpr oO)
  refine acL ?_
  refine xY f hL fun O hO=>?_
  obtain ⟨HB,c⟩:∃ HB,HB=H.set (σ.length+2) O:=⟨_,rfl⟩
  have hHBl:HB.length=H.length:=by rw [c];simp
  have D:∀ (e1:Env) (z:List Nat) (K:Heap) (gb:Nat),K.take σ.length=σ→K[σ.length+1]?=some .dfr→K[σ.length+2]?=some O→σ.length+3≤K.length→σ.length+3≤gb→K[σ.length]?=some (.rw [eu gb 1 (j+1)])→K[gb]?=some (.gr (ints (numsL lo (j+1))) 2)→QB .normal e1 z K:=by
   intro e1 z K gb k1 k2 k3 k4 k5 k6 k7
   have e:K=(K.set (σ.length+2) L).set (σ.length+2) O:=by rw [cX,set_self k3]
   rw [e,hO]
   exact J _ _ _ ⟨take_set k1 oO,aC k2 oO,aS k3,by simpa using k4,.inr ⟨oO,gb,k5,aC k6 oO,aC k7 fun h=>by rw [← h,k3,hO] at k7;cases k7⟩⟩
  have u:HB.take σ.length=σ:=by rw [c];exact take_set hp oO
  have w:HB[σ.length+1]?=some .dfr:=by rw [c];exact aC hd oO
  have t:HB[σ.length+2]?=some O:=by rw [c];exact aS f
  obtain ⟨x,hx⟩:∃ x,x=lo+(j:Int):=⟨_,rfl⟩
  have y:ints (numsL lo (j+1))=ints (numsL lo j)++[.i x]:=by rw [hx];exact Ws lo j
  have d:aK (HB++[aB.rw [.i x]]) HB.length 0 (1*1)=some [.i x]:=dX rfl
  rw [← hx]
  rcases a with ⟨rfl,ho⟩|⟨hj0,gb,F,ho,hg⟩
  ·have a1:HB[σ.length]?=some (.rw [.slice none 0 0]):=by rw [c];exact aC ho oO
   rw [← c]
   refine acL ?_
   refine st (wR oR rfl rfl (by exact d) oO rfl oO oD) hrd rfl ?_
   refine stN (bF rfl rfl rfl rfl (fZ (aA (aA a1)) (aD 1) oS rfl)) hrd ?_
   refine l9 ?_
   refine wX ?_
   refine D _ _ _ ((HB++[aB.rw [.i x]]).length+1) (take_set (aT (aT u)) (aD _)) (aC (aA (aA w)) oO) (aC (aA (aA t)) oO) (by simp;omega) (by simp;omega) ?_ ?_
   ·exact aS (aA (aA a1))
   ·refine aC ?_ (by simp;omega)
    rw [y]
    show _=some (aB.gr [.i x] 2)
    rw [bE oS]
    simp
  ·have a1:HB[σ.length]?=some (.rw [eu gb 1 j]):=by rw [c];exact aC ho oO
   have G:HB[gb]?=some (.gr (ints (numsL lo j)) 2):=by rw [c];exact aC hg oO
   rw [← c]
   refine acL ?_
   refine st (jh oR oR rfl (by exact aA G) (by rw [cZ,Gi,cJ]) rfl (by exact d) oO rfl oO oD) hrd rfl ?_
   refine stN (bF rfl rfl rfl rfl (fZ (aA (aC (aA a1) oO)) (aD 1) oS rfl)) hrd ?_
   refine l9 ?_
   refine wX ?_
   refine D _ _ _ (HB++[aB.rw [.i x]]).length (take_set (aT (take_set (aT u) oO)) (aD _)) (aC (aA (aC (aA w) oO)) oO) (aC (aA (aC (aA t) oO)) oO) (by simp;omega) (by simp;omega) ?_ ?_
   ·exact aS (aA (aC (aA a1) oO))
   ·refine aC ?_ (by simp;omega)
    rw [y]
    exact bK oS
 ·rintro H ⟨hp,hd,f,o,a⟩
  refine ⟨.ready,none,_,_,_,_,_,f.trans (congrArg some hL),by simp,?_⟩
  show (dQ 0 _) _ _ _ _
  refine wX ?_
  refine uX ?_
  rcases a with ⟨rfl,_⟩|⟨_,gb,F,ho,hg⟩
  ·omega
  obtain ⟨K,hK⟩:∃ K,K=H.set (σ.length+1+1) .dead:=⟨_,rfl⟩
  have E:K.take σ.length=σ:=by rw [hK];exact take_set hp oO
  have M:K[σ.length]?=some (.rw [eu gb 1 n]):=by rw [hK];exact aC ho oO
  have P:K[gb]?=some (.gr (ints (numsL lo n)) 2):=by rw [hK];exact aC hg oO
  have v:Mks σ.length [σ.length+1] K:=Mks.cons Mks.nil oS oO (by rw [hK];exact aC hd oO)
  rw [← hK]
  have a1:=M
  refine zU ?_
  apply aG
  refine afV ?_
  have N:=qo (mk:=[σ.length+1]) E fun x hx=>(v.2 x hx).1
  have s0:fV σ.length [gb] σ.length=⟨gb,0,0⟩:=by simp [fV]
  exact Ti v (v2:=.s σ.length n n) (.tmp rfl .nil) (aY.src [.rw (ints (numsL lo n))] [gb] N rfl (by simp [dG];omega) ⟨vk s0 (.inr ⟨_,rP P (by simp;omega)⟩) (bC _),trivial⟩ (kG oS s0)) ⟨rfl,rfl⟩
theorem acM {σ:Heap} {v:Value}:Ev Tryz.prog 114 [v] σ (.s σ.length 401 401) (σ++[.rw (ints (numsL (-200) 401))]):=by
 refine aI σ.length 5 Tryz.func114 rfl rfl rfl rfl rfl ?_
 have hf1:=yO (σ:=σ) (lo:=-200) (hi:=200)
 have hf2:=N7 (σ:=σ++[aB.rw [.i (-200)]]++[aB.rw [.i 200]]) (lo:=-200) (hi:=200) (lb:=σ.length) (hb:=σ.length+1) (n:=401) oO oO oO rfl oO (aA aO) (bK oS) oO
 repeat' (first|refine sCm ?_|(refine gU ?_;(refine eG ?_;refine st (bH rfl rfl rfl (by first|exact hf1|exact hf2)) rfl rfl ?_))|refine aG ?_)
 have e:(σ++[aB.rw [.i (-200)]]++[aB.rw [.i 200]]).length=σ.length+2:=oS
 have s0:fV σ.length [σ.length+2] σ.length=⟨σ.length+2,0,0⟩:=by simp [fV]
 rw [e]
 exact dM (v2:=.s σ.length 401 401) (.tmp rfl .nil) (aY.src [.rw (ints (numsL (-200) 401))] [σ.length+2] oS rfl (by simp [dG]) ⟨vk s0 (.inl (bK e)) (bC _),trivial⟩ (lI oS s0 (aD _))) ⟨rfl,rfl⟩
end Go.Proofs.YtajpgeklmcjciaaGreat
namespace Go.AH
open Go
def afW (ops:Array Oper) (j:Nat):TypeId:=match ops[j]? with|some o=>o.type|none=>0
def Wu (ops:Array Oper) (j:Nat):Array Edge:=match ops[j]? with|some o=>o.after|none=>#[]
def acN (ops : Array Oper) : String := match ops[0]? with | some o => o.pos | none => ""
section
variable {P:Program} {n0 N:Nat} {rd:Option Nat} {Q:Post} {e:Env} {mk:List Nat} {σ:Heap} {id:Nat}
theorem Qd {ops:Array Oper} (d sM sI sK tm ti tk:Nat) {kt et sz1 by1 sz2 by2:Nat} {agg2:Bool} {z1 zk:Value} {pl:List (Nat×Nat)} (hmo:P.follows .mixedOrders=true) (hops:ops=(wU d sM sI sK tm ti tk (acN ops) (afW ops) (Wu ops)).toArray)
  [hmp:Mp P tm kt et] [hk:KT P kt kv] [hte:Ty P et sz2 agg2 (.i 0) by2] [htm:Ty P tm sz1 false z1 by1] [hpk:Pls P tk zk pl] (hzk:plain zk=true) (hfill:∀ x y:Int,rZ (pl.toArray[·]?) (dU zk) [(0,.i x),(1,.i y)]=some [.i x,.i y])
  (hdep:KH (Wu ops)=true) (hN:Nat.ble (d+9) N=true) (hsl:([sM,sI,sK].all fun q=>Nat.blt q d || Nat.ble (d+9) q)=true) {xb m:Nat} {i k c:Int} {l:ny}
  (hM:Env.get e sM=some (.p xb)) (hbox:aH σ xb 0=some (.map (some m))) (hmm:σ[m]?=some (oH l)) (hI:Env.get e sI=some (.i i)) (hK:Env.get e sK=some (.i k))
  (hi:0≤i∧i≤9223372036854775807) (hv:iT l (i - 1,k)=some (.i c)∨iT l (i - 1,k)=none∧c=0) (hc:0≤c∧c<9223372036854775807) (hni:σ.all (fun o=>!aU o)=true)
  (he:(e.all fun q=>Nat.blt q.1 d || Nat.ble (d+9) q.1)=true) (h:Q .normal e mk (σ.set m (oH (mF l (i - 1,k) (.i (c+1)))))) :
  bP P n0 N rd (.region id ops true) Q e mk σ:=by
 generalize acN ops=p at hops
 generalize afW ops=ty at hops
 generalize Wu ops=a at hops hdep
 subst hops
 exact TF hmo hzk hfill hdep hN hsl hM hbox hmm hI hK hi hv hc hni he h
end
theorem vG {σ:Heap} {b o n i:Nat} {cs:List Value} {x:aB} {es:List (Value×Value)} (h:aK σ b o n=some cs) (hi:σ[i]?=some (.map es)):aK (σ.set i x) b o n=some cs:=by
 have hb:b ≠ i:=by
  rintro rfl
  unfold aK at h
  rw [hi] at h
  cases h
 unfold aK at h ⊢
 rw [eN (Ne.symm hb)];exact h
namespace Heat
theorem xg.setM {σ:Heap} {W:Wk} {bB bS i:Nat} {wB cW:Nat→Nat} {kB cK:Nat→Nat→Nat} {x:aB} {es:List (Value×Value)} (h:xg σ W bB bS wB cW kB cK) (hi:σ[i]?=some (.map es)):xg (σ.set i x) W bB bS wB cW kB cK :=
 ⟨fun j hj=>vG (h.bars j hj) hi,fun j hj=>vG (h.steps j hj) hi,fun j hj k hk=>vG (h.ways j hj k hk) hi,fun j hj k hk q hq=>vG (h.kinks j hj k hk q hq) hi⟩
theorem EG {σ:Heap} {b i:Nat} {o:aB} {x:aB} {es:List (Value×Value)} (h:σ[b]?=some o) (hi:σ[i]?=some (.map es)) (ho:∀ es,o ≠ .map es):(σ.set i x)[b]?=some o :=
 aC h fun e=>by rw [e,h] at hi;exact ho es (Option.some.inj hi)
theorem tH.setM {σ:Heap} {W:Wk} {m:Int×Int} {tb fb rb bB cB bS cS i:Nat} {wB cW:Nat→Nat} {kB cK:Nat→Nat→Nat} {x:aB} {es:List (Value×Value)} (h:tH σ W m tb fb rb bB cB bS cS wB cW kB cK) (hi:σ[i]?=some (.map es)):tH (σ.set i x) W m tb fb rb bB cB bS cS wB cW kB cK :=
 ⟨EG h.t hi oS,EG h.f hi oS,EG h.r hi oS,h.w.setM hi,by simpa using h.bB,by simpa using h.bS⟩
end Heat
end Go.AH
namespace Go.Proofs.YtajpgeklmcjciaaGreat
open Go Go.AH
attribute [local irreducible] dA bP bT jL gX dQ fF bZ fB aY dY fA
open Go.AH.Heat
theorem acO {A B:Prop} (k:B) (h:Hide B→A:=by intro h_k_;(repeat' (first|refine sCm ?_|(refine gU ?_;first|(refine bW ?_;refine st (aJ rfl (by exact aF a1)) rfl rfl ?_)|(refine eG ?_;refine st (bH rfl rfl rfl (by exact hf1)) rfl rfl ?_)|(refine dZ ?_;refine stN (bF rfl rfl rfl rfl (by exact fQ (aD _) (cH _))) rfl ?_))|refine aG ?_));exact h_k_.h):A:=h ⟨k⟩
theorem acP {A B:Prop} (k:B) (h:Hide B→A:=by intro h_k_;(repeat' (first|refine sCm ?_|(refine gU ?_;first|(refine pW ?_;refine st (iZ rfl) (by exact hrd) rfl ?_)|(refine bW ?_;refine st (aJ rfl (by first|exact aF a1|assumption)) (by exact hrd) rfl ?_)|(refine yD ?_;refine st (uJ rfl rfl (by omega)) (by exact hrd) rfl ?_)|(refine nK ?_;refine st (MZ rfl rfl) (by exact hrd) rfl ?_)|(refine dZ ?_;refine stN (bF rfl rfl rfl rfl (by exact hput)) (by exact hrd) ?_))|refine aG ?_|refine eP rfl ?_));exact h_k_.h):A:=h ⟨k⟩
theorem count_nil {W:Wk} {m:Int×Int} (hv:uF W) (hm:jX m) {σ:Heap} {tb fb rb bB cB bS cS:Nat} {wB cW:Nat→Nat} {kB cK:Nat→Nat→Nat} (hT:tH σ W m tb fb rb bB cB bS cS wB cW kB cK) :
  Ev Tryz.prog 236 [.p tb,.map none] σ (.i ((W.allR m).length:Nat)) σ:=by
 have hrl:=TJ hv (m:=m)
 refine aI σ.length 34 Tryz.func236 rfl rfl rfl rfl rfl ?_
 have hf1:=NY (σ:=σ++[aB.rw [.map none]]++[aB.rw [.i 0]]) (tb:=tb)
 refine acO ?_
 refine dJ [(3,.p σ.length),(4,.i 0),(5,.p (σ.length+1)),(10,.func (.func 297) #[] #[.p (σ.length+2)])] (σ++[aB.rw [.map none]]++[aB.rw [.i 0]]++[aB.rw [.p tb]]) rfl ⟨rfl,rfl,(by (refine congrArg (fun n=>some (Value.p n)) ?_;simp;try omega)),by simp [Env.get],trivial⟩ ?_
 have hp:(σ++[aB.rw [.map none]]++[aB.rw [.i 0]]++[aB.rw [.p tb]]).take σ.length=σ:=oS
 have b0:(σ++[aB.rw [.map none]]++[aB.rw [.i 0]]++[aB.rw [.p tb]])[σ.length]?=some (aB.rw [.map none]):=aA (aA aO)
 have b1:(σ++[aB.rw [.map none]]++[aB.rw [.i 0]]++[aB.rw [.p tb]])[σ.length+1]?=some (aB.rw [.i 0]):=aA (bK oS)
 have b2:(σ++[aB.rw [.map none]]++[aB.rw [.i 0]]++[aB.rw [.p tb]])[σ.length+2]?=some (aB.rw [.p tb]):=bK oS
 generalize (σ++[aB.rw [.map none]]++[aB.rw [.i 0]]++[aB.rw [.p tb]])=Hc at hp b0 b1 b2
 clear hf1
 have hHl:=aQ b2
 refine kU (p:=[]) (q:=[.p (σ.length+2)]) rfl fun L hL=>?_
 obtain ⟨A,a⟩:∃ A,A=Hc++[aB.dfr,L]:=⟨_,rfl⟩
 have hAl:A.length=Hc.length+2:=by rw [a];simp
 have s:A.take σ.length=σ:=by rw [a];exact aT hp
 have v:A[σ.length]?=some (aB.rw [.map none]):=by rw [a];exact aA b0
 have g:A[σ.length+1]?=some (aB.rw [.i 0]):=by rw [a];exact aA b1
 have w:A[σ.length+2]?=some (aB.rw [.p tb]):=by rw [a];exact aA b2
 have z:A[Hc.length]?=some .dfr:=by rw [a,bE (aD _)];simp
 have f:A[Hc.length+1]?=some L:=by rw [a,bE oO];simp
 rw [← a]
 refine G9 (S:=fun j=>A.set (σ.length+1) (.rw [.i (j:Nat)])) (l:=Hc.length+1) (ib:=σ.length+2) hv hm (set_self g) (fun j=>by simp) (fun j=>aV (aC w oO) rfl) (fun j=>hT.take (take_set s oO))
  (fun j=>(aC f oO).trans (congrArg some hL)) (fun h j=>jI (o:=.rw [.i _]) (by exact ⟨rfl,rfl⟩) h) rfl ?_ ?_
 ·intro j hj X QB iq hXn _ hiq D
  obtain ⟨HX,c⟩:∃ HX,HX=A.set (σ.length+1) (.rw [.i (j:Nat)])++X:=⟨_,rfl⟩
  have F:HX[Hc.length+1]?=some L:=by rw [c];exact aA (aC f oO)
  have C:HX[σ.length]?=some (aB.rw [.map none]):=by rw [c];exact aA (aC v oO)
  have E:HX[σ.length+1]?=some (aB.rw [.i (j:Nat)]):=by rw [c];exact aA (aS g)
  have hrd:mG (some (Hc.length+1)) (A.length+X.length)=true:=(show Nat.blt _ _=true from Nat.blt_eq.mpr oO)
  rw [← c]
  refine acP ?_
  refine xY F hL fun B hB=>?_
  obtain ⟨HB,d⟩:∃ HB,HB=HX.set (Hc.length+1) B:=⟨_,rfl⟩
  have a3:HB[σ.length]?=some (aB.rw [.map none]):=by rw [d];exact aC C oO
  have a1:HB[σ.length+1]?=some (aB.rw [.i (j:Nat)]):=by rw [d];exact aC E oO
  rw [← d]
  have hput:putCells HB (σ.length+1) 0 [.i ((j:Nat)+1)]=some (HB.set (σ.length+1) (.rw [.i ((j:Nat)+1)])):=fZ a1 oS oS rfl
  have y:(HB.set (σ.length+1) (.rw [.i ((j:Nat)+1)]))[σ.length]?=some (aB.rw [.map none]):=aC a3 oO
  have hc9:=aF (o:=0+0) y
  refine acP ?_
  have u:HB.set (σ.length+1) (.rw [.i ((j:Nat)+1)])=(A.set (σ.length+1) (.rw [.i ((j+1:Nat):Int)])).set (Hc.length+1) B++X++[]:=by
   rw [d,c,bL,cI _ _ (by simp;omega),cI _ _ (by simp;omega),List.set_comm _ _ (by omega:Hc.length+1 ≠ σ.length+1),cX]
   rfl
  rw [u,hB]
  exact D _ _ _
 ·refine ⟨.ready,none,_,_,_,_,_,(aC f oO).trans (congrArg some hL),by simp,?_⟩
  show (dQ 0 _) _ _ _ _
  refine wX ?_
  refine uX ?_
  have a1:((A.set (σ.length+1) (.rw [.i ((W.allR m).length:Nat)])).set (Hc.length+1) .dead)[σ.length+1]?=some (aB.rw [.i ((W.allR m).length:Nat)]):=aC (aS g) oO
  have e:Mks σ.length [Hc.length] ((A.set (σ.length+1) (.rw [.i ((W.allR m).length:Nat)])).set (Hc.length+1) .dead):=Mks.cons Mks.nil oS oO (aC (aC z oO) oO)
  have t:((A.set (σ.length+1) (.rw [.i ((W.allR m).length:Nat)])).set (Hc.length+1) .dead).take σ.length=σ:=take_set (take_set s oO) oO
  generalize ((A.set (σ.length+1) (.rw [.i ((W.allR m).length:Nat)])).set (Hc.length+1) .dead)=H at a1 e t
  refine acO ?_
  exact Ti e (.tmp rfl .nil) (aY.plain (qo t fun x hx=>(e.2 x hx).1) rfl) ⟨rfl,rfl⟩
end Go.Proofs.YtajpgeklmcjciaaGreat
namespace Go.AH
open Go
section
variable {P:Program} {n0 N:Nat} {K:Env→List Nat→Heap→Prop} {mk:List Nat} {all:List Oper}
def aeO (all:List Oper) (L:List Bool):List Nat:=Region.ready .any all.toArray L.toArray
def cntF:List Bool→Nat
 |[]=>0
 |b::L=>(if b then 0 else 1)+cntF L
def tabOk (all:List Oper) (tab:List (List Bool×List Nat)):Bool :=
 tab.all fun p=>(aeO all p.1 == p.2) && p.2.all fun i=>(tab.any fun q=>q.1 == p.1.set i true) && Nat.blt (cntF (p.1.set i true)) (cntF p.1)
end
def keys (l:ny):List (Int×Int):=l.map (·.1)
def left (l:ny) (seen:List (Int×Int)):Nat:=((keys l).filter fun p=>decide (p ∉ seen)).length
theorem KR {m:Nat} {v:Value} (h:plain v=true):closed m v=true∧okV v=true:=by
 have:=aX (n:=m) (l:=[v]) (by simp [dN,h])
 simpa [dR,okL] using this
theorem He {m:Nat} {lm:ny} (h:∀ q ∈ lm,plain q.2=true):gq m (oH lm):=by
 intro p hp
 obtain ⟨q,hq,rfl⟩:=List.mem_map.1 hp
 exact KR (h q hq)
end Go.AH
namespace Go.AH.Heat
open Go Go.AH
theorem acQ {M:ny} (h:∀ q ∈ M,plain q.2=true) (k:Int×Int) (x:Int):∀ q ∈ mF M k (.i x),plain q.2=true:=fun q hq=>by
 unfold mF at hq
 split at hq
 ·rcases List.mem_or_eq_of_mem_set hq with h1|rfl
  ·exact h q h1
  ·rfl
 ·rcases List.mem_append.1 hq with h1|h1
  ·exact h q h1
  ·simp only [fc] at h1
   subst h1;rfl
theorem KU {M:ny} (h:∀ q ∈ M,plain q.2=true) (rec:List Nat):∀ i,∀ q ∈ P5 M rec i,plain q.2=true
 |0=>h
 |i+1=>acQ (KU h rec i) _ _
theorem Dl {M:ny} (h:∀ q ∈ M,plain q.2=true) (l:List (List Nat)):∀ j,∀ q ∈ zD M l j,plain q.2=true
 |0=>h
 |j+1=>KU (Dl h l j) _ _
theorem ZH {A X:Heap} {p q l:Nat} {r m B r' m':aB} (hp:p<A.length) (hq:q<A.length) (hl:l<A.length) (h1:p ≠ q) (h2:p ≠ l) (h3:q ≠ l) :
  ((((A.set p r).set q m++X).set l B).set p r').set q m'=((A.set p r').set q m').set l B++X:=by
 rw [cI _ _ (oU hl),cI _ _ (oU hp),cI _ _ (oU hq)]
 congr 1
 refine fx fun i=>?_
 simp only [List.getElem?_set,ea]
 by_cases e1:q=i
 ·subst e1
  simp [h3,Ne.symm h3,hq]
 ·by_cases e2:p=i
  ·subst e2;simp [h2,Ne.symm h2,e1,hp]
  ·by_cases e3:l=i
   ·subst e3;simp [e1,e2,hl]
   ·simp [e1,e2,e3]
theorem N8 {σ H:Heap} {i:Nat} {x:aB} (hp:H.take σ.length=σ):(H.set i x).take (σ.set i x).length=σ.set i x:=by
 rw [ea,List.take_set,hp]
end Go.AH.Heat
namespace Go.Proofs.YtajpgeklmcjciaaGreat
open Go Go.AH
attribute [local irreducible] dA bP bT jL gX dQ fF bZ fB aY dY fA
open Go.AH.Heat
theorem acR {A B:Prop} (k:B) (h:Hide B→A:=by intro h_k_;(repeat' (first|refine sCm ?_|(refine gU ?_;first|(refine bW ?_;refine st (aJ rfl (by exact aF a1)) rfl rfl ?_)|(refine eG ?_;refine st (bH rfl rfl rfl (by exact hf1)) rfl rfl ?_)|(refine dZ ?_;refine stN (bF rfl rfl rfl rfl (by exact fQ (aD _) (cH _))) rfl ?_))|refine aG ?_));exact h_k_.h):A:=h ⟨k⟩
theorem KW {A B:Prop} (k:B) (h:Hide B→A:=by intro h_k_;(repeat' (first|refine sCm ?_|(refine gU ?_;first|(refine kP ?_;refine st (bV rfl) (by exact hrd) rfl ?_)|(refine pW ?_;refine st (iZ rfl) (by exact hrd) rfl ?_)|(refine bW ?_;refine st (aJ rfl (by first|exact aF a1|exact hc9|exact hcr)) (by exact hrd) rfl ?_)|(refine yD ?_;refine st (uJ rfl rfl (by omega)) (by exact hrd) rfl ?_)|(refine nK ?_;first|refine st (Na rfl rfl) (by exact hrd) rfl ?_|refine st (fE rfl rfl rfl) (by exact hrd) rfl ?_)|(refine wY ?_;refine st (jC rfl) (by exact hrd) rfl ?_)|(refine gIA ?_;refine st (iw rfl rfl (by omega)) (by exact hrd) rfl ?_)|(refine dZ ?_;refine stN (bF rfl rfl rfl rfl (by exact hput)) (by exact hrd) ?_))|refine dD (id:=9) ?_|refine aG ?_|refine eP rfl ?_|refine eU rfl ?_));exact h_k_.h):A:=h ⟨k⟩
theorem count_map {W:Wk} {m:Int×Int} (hv:uF W) (hm:jX m) {σ:Heap} {tb fb rb bB cB bS cS mb:Nat} {wB cW:Nat→Nat} {kB cK:Nat→Nat→Nat} {M:ny} (hT:tH σ W m tb fb rb bB cB bS cS wB cW kB cK) (hmb:σ[mb]?=some (oH M)) (hM0:BZ M 0) (hni:σ.all (fun o=>!aU o)=true) :
  Ev Tryz.prog 236 [.p tb,.map (some mb)] σ (.i ((W.allR m).length:Nat)) (σ.set mb (oH (zD M (W.allR m) (W.allR m).length))):=by
 have hrl:=TJ hv (m:=m)
 have hns3:=hv.s
 have hmbl:=aQ hmb
 have Y:=TM hM0
 refine aI σ.length 34 Tryz.func236 rfl rfl rfl rfl rfl ?_
 refine Zq fun P=>?_
 have hf1:=NY (σ:=σ++[aB.rw [.map (some mb)]]++[aB.rw [.i 0]]) (tb:=tb)
 refine acR ?_
 refine dJ [(3,.p σ.length),(4,.i 0),(5,.p (σ.length+1)),(10,.func (.func 297) #[] #[.p (σ.length+2)])] (σ++[aB.rw [.map (some mb)]]++[aB.rw [.i 0]]++[aB.rw [.p tb]]) rfl ⟨rfl,rfl,(by (refine congrArg (fun n=>some (Value.p n)) ?_;simp;try omega)),by simp [Env.get],trivial⟩ ?_
 have hp:(σ++[aB.rw [.map (some mb)]]++[aB.rw [.i 0]]++[aB.rw [.p tb]]).take σ.length=σ:=oS
 have b0:(σ++[aB.rw [.map (some mb)]]++[aB.rw [.i 0]]++[aB.rw [.p tb]])[σ.length]?=some (aB.rw [.map (some mb)]):=aA (aA aO)
 have b1:(σ++[aB.rw [.map (some mb)]]++[aB.rw [.i 0]]++[aB.rw [.p tb]])[σ.length+1]?=some (aB.rw [.i 0]):=aA (bK oS)
 have b2:(σ++[aB.rw [.map (some mb)]]++[aB.rw [.i 0]]++[aB.rw [.p tb]])[σ.length+2]?=some (aB.rw [.p tb]):=bK oS
 have bm:(σ++[aB.rw [.map (some mb)]]++[aB.rw [.i 0]]++[aB.rw [.p tb]])[mb]?=some (oH M):=aA (aA (aA hmb))
 have Z:(σ++[aB.rw [.map (some mb)]]++[aB.rw [.i 0]]++[aB.rw [.p tb]]).all (fun o=>!aU o)=true:=bG (bG (bG hni rfl) rfl) rfl
 generalize (σ++[aB.rw [.map (some mb)]]++[aB.rw [.i 0]]++[aB.rw [.p tb]])=Hc at hp b0 b1 b2 bm Z
 clear hf1
 have hHl:=aQ b2
 refine kU (p:=[]) (q:=[.p (σ.length+2)]) rfl fun L hL=>?_
 obtain ⟨A,c⟩:∃ A,A=Hc++[aB.dfr,L]:=⟨_,rfl⟩
 have hAl:A.length=Hc.length+2:=by rw [c];simp
 have a5:A.take σ.length=σ:=by rw [c];exact aT hp
 have ai:A[σ.length]?=some (aB.rw [.map (some mb)]):=by rw [c];exact aA b0
 have C:A[σ.length+1]?=some (aB.rw [.i 0]):=by rw [c];exact aA b1
 have aa:A[σ.length+2]?=some (aB.rw [.p tb]):=by rw [c];exact aA b2
 have a4:A[mb]?=some (oH M):=by rw [c];exact aA bm
 have G:A.all (fun o=>!aU o)=true:=by rw [c];exact bG Z (by rw [hL];rfl)
 have ac:A[Hc.length]?=some .dfr:=by rw [c,bE (aD _)];simp
 have z:A[Hc.length+1]?=some L:=by rw [c,bE oO];simp
 rw [← c]
 refine G9 (S:=fun j=>(A.set (σ.length+1) (.rw [.i (j:Nat)])).set mb (oH (zD M (W.allR m) j))) (l:=Hc.length+1) (ib:=σ.length+2) hv hm (by show (A.set (σ.length+1) (.rw [.i ((0:Nat):Int)])).set mb (oH M)=A;rw [show ((0:Nat):Int)=0 from rfl,set_self C,set_self a4]) (fun j=>by simp) (fun j=>aV (aC (aC aa oO) oO) rfl)
  (fun j=>(hT.setM (x:=oH (zD M (W.allR m) j)) hmb).take (N8 (take_set a5 oO)))
  (fun j=>(aC (aC z oO) oO).trans (congrArg some hL)) (fun h j=>jI (He (Dl Y _ j)) (jI (o:=.rw [.i _]) (by exact ⟨rfl,rfl⟩) h)) rfl ?_ ?_
 ·intro j hj X QB iq ae hil U al
  obtain ⟨a,g⟩:∃ a,a=(W.allR m)[j]:=⟨_,rfl⟩
  obtain ⟨Mj,w⟩:∃ Mj,Mj=zD M (W.allR m) j:=⟨_,rfl⟩
  have v:a.length=W.ns+1:=by rw [g];exact TL (cQ _)
  have N:BZ Mj ((j*(W.ns+1):Nat):Int):=by rw [w];exact Ye hM0 (fun r hr=>TL hr) j oO
  have aj:zD M (W.allR m) (j+1)=P5 Mj a (W.ns+1):=by
   have hg:(W.allR m).getD j []=a:=by rw [cE,cC hj,g];rfl
   unfold zD
   rw [hg,v,w]
  rw [← g] at U
  have hbig:j*(W.ns+1)≤93750*7:=Nat.mul_le_mul oO oO
  obtain ⟨HX,d⟩:∃ HX,HX=(A.set (σ.length+1) (.rw [.i (j:Nat)])).set mb (oH Mj)++X:=⟨_,rfl⟩
  have f:HX[iq]?=some (.rw (gV a)):=by rw [d,w];exact U
  have V:HX[Hc.length+1]?=some L:=by rw [d];exact aA (aC (aC z oO) oO)
  have ad:HX[σ.length]?=some (aB.rw [.map (some mb)]):=by rw [d];exact aA (aC (aC ai oO) oO)
  have ag:HX[σ.length+1]?=some (aB.rw [.i (j:Nat)]):=by rw [d];exact aA (aC (aS C) oO)
  have an:HX[mb]?=some (oH Mj):=by rw [d];exact aA (aS (aC a4 oO))
  have F:HX.all (fun o=>!aU o)=true:=by rw [d];exact bG (kN (kN G rfl) rfl) ae
  have hrd:mG (some (Hc.length+1)) (A.length+X.length)=true:=(show Nat.blt _ _=true from Nat.blt_eq.mpr oO)
  show bP _ _ _ _ _ _ _ _ ((A.set (σ.length+1) (.rw [.i (j:Nat)])).set mb (oH (zD M (W.allR m) j))++X)
  rw [← w,← d]
  refine KW ?_
  refine xY V hL fun B hB=>?_
  obtain ⟨HB,t⟩:∃ HB,HB=HX.set (Hc.length+1) B:=⟨_,rfl⟩
  have Q:HB.all (fun o=>!aU o)=true:=by rw [t];exact kN F (by rw [hB];rfl)
  have a3:HB[σ.length]?=some (aB.rw [.map (some mb)]):=by rw [t];exact aC ad oO
  have a1:HB[σ.length+1]?=some (aB.rw [.i (j:Nat)]):=by rw [t];exact aC ag oO
  have am:HB[mb]?=some (oH Mj):=by rw [t];exact aC an oO
  have D:HB[iq]?=some (.rw (gV a)):=by rw [t];exact aC f fun e=>by rw [← e,V,hL] at f;cases f
  rw [← t]
  have hput:putCells HB (σ.length+1) 0 [.i ((j:Nat)+1)]=some (HB.set (σ.length+1) (.rw [.i ((j:Nat)+1)])):=fZ a1 oS oS rfl
  obtain ⟨HN,u⟩:∃ HN,HN=HB.set (σ.length+1) (.rw [.i ((j:Nat)+1)]):=⟨_,rfl⟩
  have a2:HN[σ.length]?=some (aB.rw [.map (some mb)]):=by rw [u];exact aC a3 oO
  have T:HN[mb]?=some (oH Mj):=by rw [u];exact aC am oO
  have y:HN.all (fun o=>!aU o)=true:=by rw [u];exact kN Q rfl
  have E:σ.length+1 ≠ iq:=oO
  have R:HN[iq]?=some (.rw (gV a)):=by rw [u];exact aC D E
  rw [← u] at hput
  have hc9:=aF (o:=0+0) a2
  refine KW ?_
  refine dV (ι:=Nat) (fun i=>[(3,.p σ.length),(16,.s iq (1+W.ns) (1+W.ns)),(17,.i ((1+W.ns:Nat):Int)),(18,.i (i:Nat))])
   (fun i mk H=>i≤1+W.ns∧mk=[]∧H=HN.set mb (oH (P5 Mj a i))) (fun i=>1+W.ns - i) 0 tE ⟨bN _,rfl,by show HN=HN.set mb (oH Mj);rw [set_self T]⟩ ?_
  rintro i mk H ⟨hi,rfl,hH⟩
  have a3:H[σ.length]?=some (aB.rw [.map (some mb)]):=by rw [hH];exact aC a2 oO
  have af:H[mb]?=some (oH (P5 Mj a i)):=by rw [hH];exact aS T
  have hniH:H.all (fun o=>!aU o)=true:=by rw [hH];exact kN y rfl
  have I:H[iq]?=some (.rw (gV a)):=by rw [hH];exact EG R T oS
  by_cases hin:i<1+W.ns
  ·have J:(i:Int)<((1+W.ns:Nat):Int):=oO
   have hcr:aH H iq i=some (.i ((a.getD i 0:Nat):Int)):=by
    rw [aF I,gV,cP,cE,cC oO];rfl
   have O:=P6 N oO a i
   obtain ⟨ah,a9,hg3⟩:=Yd O oO ((i:Int) - 1,((a.getD i 0:Nat):Int))
   refine KW ?_
   refine .mk (dJ [(3,.p σ.length),(7,.i (i:Nat)),(8,.i ((a.getD i 0:Nat):Int)),(16,.s iq (1+W.ns) (1+W.ns)),(17,.i ((1+W.ns:Nat):Int)),(18,.i (i:Nat))] H rfl tE ?_)
   refine Qd 23 3 7 8 263 3 265 mixed rfl rfl (fun _ _=>rfl) oK rfl rfl rfl (aF a3) af rfl rfl oO ah ⟨a9,oO⟩ hniH rfl ?_
   refine KW ?_
   exact ⟨i+1,⟨oO,rfl,by rw [hH,cX];rfl⟩,oO,tE⟩
  ·obtain rfl:i=1+W.ns:=oO
   have J:¬ ((1+W.ns:Nat):Int)<((1+W.ns:Nat):Int):=oO
   refine KW ?_
   have a7:H=((A.set (σ.length+1) (.rw [.i ((j+1:Nat):Int)])).set mb (oH (zD M (W.allR m) (j+1)))).set (Hc.length+1) B++X++[]:=by
    rw [hH,u,t,d,bL,ZH oO oO oO oO oO oO,aj,e8 1 W.ns]
    rfl
   rw [a7,hB]
   exact al _ _ _
 ·refine ⟨.ready,none,_,_,_,_,_,(aC (aC z oO) oO).trans (congrArg some hL),by simp,?_⟩
  show (dQ 0 _) _ _ _ _
  refine wX ?_
  refine uX ?_
  obtain ⟨K,hK⟩:∃ K,K=((A.set (σ.length+1) (.rw [.i ((W.allR m).length:Nat)])).set mb (oH (zD M (W.allR m) (W.allR m).length))).set (Hc.length+1) .dead:=⟨_,rfl⟩
  rw [← hK]
  have a1:K[σ.length+1]?=some (aB.rw [.i ((W.allR m).length:Nat)]):=by rw [hK];exact aC (aC (aS C) oO) oO
  have a6:Mks σ.length [Hc.length] K:=Mks.cons Mks.nil oS oO (by rw [hK];exact aC (aC (aC ac oO) oO) oO)
  have ak:K.take (σ.set mb (oH (zD M (W.allR m) (W.allR m).length))).length=σ.set mb (oH (zD M (W.allR m) (W.allR m).length)):=by
   rw [hK];exact take_set (N8 (take_set a5 oO)) (by rw [ea];omega)
  clear hK
  refine acR ?_
  have ao:=qo (mk:=[Hc.length]) ak fun x hx=>by rw [ea];exact (a6.2 x hx).1
  refine Ti a6 (v2:=.i ((W.allR m).length:Nat)) (σ2:=σ.set mb (oH (zD M (W.allR m) (W.allR m).length))) (.tmp rfl .nil) ?_ ⟨rfl,rfl⟩
  have e:=(List.take_append_drop (σ.set mb (oH (zD M (W.allR m) (W.allR m).length))).length (kS [Hc.length] K)).symm
  rw [ao] at e
  rw [e]
  exact aY.dropAll oS (by rw [ea];exact jI (He (Dl Y _ _)) P) rfl
end Go.Proofs.YtajpgeklmcjciaaGreat
namespace Go.AH.Heat
open Go Go.AH
def tV (σ:Heap) (b i:Nat):Nat×Nat×Nat:=match (aK σ b i 1).bind List.head? with|some v=>(match rO v with|some p=>(p.1,p.2.2.1,p.2.2.2)|none=>(0,0,0))|none=>(0,0,0)
def ZI (σ:Heap) (b i n:Nat):Bool:=match aK σ b i 1 with|some [v]=>(match rO v with|some p=>Nat.beq p.2.1 0 && Nat.beq p.2.2.1 n|none=>false)|_=>false
def Qe (σ:Heap) (b i n:Nat) (cs:List Value):Bool:=match aK σ b i n with|some l=>Aq l cs|none=>false
def Ua (W:Wk) (σ:Heap) (bB bS:Nat):Bool :=
 (List.range W.nb).all (fun j=>Qe σ bB (j*2) 2 [.int .i64 (W.bf j).1,.int .i64 (W.bf j).2]) &&
  (List.range W.ns).all fun i=>ZI σ bS i (W.nw i) && (List.range (W.nw i)).all fun k=>ZI σ (tV σ bS i).1 k (W.nk i k) && Nat.ble (W.nk i k) (tV σ (tV σ bS i).1 k).2.2 &&
   (List.range (W.nk i k)).all fun q=>Qe σ (tV σ (tV σ bS i).1 k).1 (q*3) 3 (jA (W.kf i k q))
theorem BM {σ:Heap} {b i n:Nat} {cs:List Value} (h:Qe σ b i n cs=true):aK σ b i n=some cs:=by
 unfold Qe at h
 split at h
 ·rename_i l hl;rw [hl,qj h]
 ·cases h
theorem Yj {σ:Heap} {b i n:Nat} (h:ZI σ b i n=true):aK σ b i 1=some [.s ((tV σ b i).1) n (tV σ b i).2.2]:=by
 unfold ZI at h
 unfold tV
 split at h
 ·rename_i v hv
  split at h
  ·rename_i p hp
   simp only [aE] at h
   have h1:=aM h.1
   have h2:=aM h.2
   rw [hv]
   simp only [Option.bind_some,List.head?_cons,hp]
   rw [lJ hp,h1,h2]
  ·cases h
 ·cases h
theorem rC {n:Nat} {p:Nat→Bool} (h:(List.range n).all p=true):∀ i<n,p i=true:=fun i hi=>List.all_eq_true.1 h i (List.mem_range.2 hi)
theorem yP {W:Wk} {σ:Heap} {bB bS:Nat} (h:Ua W σ bB bS=true) :
  xg σ W bB bS (fun i=>(tV σ bS i).1) (fun i=>(tV σ bS i).2.2) (fun i k=>(tV σ (tV σ bS i).1 k).1) (fun i k=>(tV σ (tV σ bS i).1 k).2.2) ∧
   ∀ i<W.ns,∀ k<W.nw i,W.nk i k≤(tV σ (tV σ bS i).1 k).2.2:=by
 unfold Ua at h
 rw [aE] at h
 have hB:=rC h.1
 have hS:=rC h.2
 have c:∀ i<W.ns,ZI σ bS i (W.nw i)=true:=fun i hi=>(aE _ _ ▸ hS i hi:_∧_).1
 have a:∀ i<W.ns,∀ k<W.nw i,(ZI σ (tV σ bS i).1 k (W.nk i k) && Nat.ble (W.nk i k) (tV σ (tV σ bS i).1 k).2.2 && (List.range (W.nk i k)).all fun q=>Qe σ (tV σ (tV σ bS i).1 k).1 (q*3) 3 (jA (W.kf i k q)))=true:=fun i hi=>rC (aE _ _ ▸ hS i hi:_∧_).2
 refine ⟨⟨fun j hj=>BM (hB j hj),fun i hi=>Yj (c i hi),fun i hi k hk=>?_,fun i hi k hk q hq=>?_⟩,fun i hi k hk=>?_⟩
 ·have:=a i hi k hk
  simp only [aE] at this
  exact Yj this.1.1
 ·have:=a i hi k hk
  simp only [aE] at this
  exact BM (rC this.2 q hq)
 ·have:=a i hi k hk
  simp only [aE] at this
  exact cA this.1.2
def house:Wk where
 nb:=2
 bf:=fun j=>match j with|0=>(100,170)|_=>(150,300)
 ns:=2
 nw:=fun i=>match i with|0=>2|_=>1
 nk:=fun i k=>match i with|0=>(match k with|0=>2|_=>1)|_=>3
 kf:=fun i k q=>match i with
  |0=>(match k with|0=>(match q with|0=>(0,400,500)|_=>(180,450,600))|_=>(0,300,650))
  |_=>(match q with|0=>(0,200,300)|1=>(420,280,400)|_=>(550,350,480))
instance (r:Int×Int):Decidable (jX r):=by unfold jX;infer_instance
theorem KX {n:Nat} {kf:Nat→Int×Int×Int} (h:(decide (0<n) && decide (n≤12) && decide ((kf 0).1=0) && (List.range n).all (fun q=>decide (0≤(kf q).1∧(kf q).1≤1000∧jX (kf q).2) && (decide (n≤q+1) || decide ((kf q).1<(kf (q+1)).1∧(kf q).2.1≤(kf (q+1)).2.1∧(kf (q+1)).2.1≤(kf q).2.2+1∧(kf q).2.2≤(kf (q+1)).2.2))))=true):Zx n kf:=by
 simp only [aE,decide_eq_true_eq] at h
 obtain ⟨⟨⟨h1,h2⟩,h3⟩,h4⟩:=h
 have h5:=rC h4
 simp only [aE,eq,decide_eq_true_eq] at h5
 refine ⟨h1,h2,h3,fun q hq=>⟨(h5 q hq).1.1,(h5 q hq).1.2.1,(h5 q hq).1.2.2,fun hq1=>?_⟩,fun q hq=>?_⟩
 ·rcases (h5 q hq).2 with h|h
  ·omega
  ·exact h.1
 ·rcases (h5 q oO).2 with h|h
  ·omega
  ·exact h.2
theorem rD:uF house:=by
 refine ⟨by decide,by decide,fun j hj=>?_,by decide,fun i hi=>?_,fun i hi=>?_,fun i hi k hk=>?_⟩
 ·match j,hj with
  |0,_=>decide
  |1,_=>decide
 ·match i,hi with
  |0,_=>decide
  |1,_=>decide
 ·match i,hi with
  |0,_=>decide
  |1,_=>decide
 ·match i,hi with
  |0,_ =>
   match k,hk with
   |0,_=>exact KX oD
   |1,_=>exact KX oD
  |1,_ =>
   match k,hk with
   |0,_=>exact KX oD
def hm:Int×Int:=(410,420)
theorem Dn:house.someB hm=[0,1]:=by decide +kernel
theorem Ub:house.AU hm 0=[0,1]:=by decide +kernel
theorem Uc:house.AU hm 1=[0]:=by decide +kernel
theorem N9:(house.allR hm).length=3:=by decide +kernel
theorem Qg {v:Value} (hv:isI v=true):v=.i (qx v):=by
 unfold isI at hv;split at hv
 ·rfl
 ·cases hv
end Go.AH.Heat
namespace Go.Proofs.YtajpgeklmcjciaaGreat
open Go Go.AH Go.AH.Heat
end Go.Proofs.YtajpgeklmcjciaaGreat
namespace Go.AH.Heat
open Go Go.AH
def niB (σ:Heap):Bool:=σ.all fun o=>!aU o
def KY (σ:Heap) (v:Value):Option ((Nat×Nat)×(Nat×Nat)):=(asAgg v).bind fun l=>match l with
 |[vB,vS]=>(rO vB).bind fun x=>(rO vS).bind fun y=>bU (Nat.beq x.2.1 0 && Nat.beq x.2.2.1 2 && Nat.beq y.2.1 0 && Nat.beq y.2.2.1 2 && Nat.blt x.1 σ.length && Nat.blt y.1 σ.length && Ua house σ x.1 y.1) (some ((x.1,x.2.2.2),(y.1,y.2.2.2)))
 |_=>none
def rowIs (σ:Heap) (b:Nat) (l:List Value):Bool:=match (σ[b]?).bind uf with|some cs=>Aq l cs|none=>false
def IL (σ:Heap) (tb:Nat):Option ((Nat×Nat)×(Nat×Nat)×(Nat×Nat)):=((σ[tb]?).bind uf).bind fun cs=>match cs with
 |[vB,vS,_,_,vF,vR]=>(rO vB).bind fun x=>(rO vS).bind fun y=>(rO vF).bind fun f=>(rO vR).bind fun r =>
   bU (Aq [.slice (some ⟨x.1,0,none⟩) 2 x.2.2.2,.slice (some ⟨y.1,0,none⟩) 2 y.2.2.2,.int .i64 410,.int .i64 420,.slice (some ⟨f.1,0,none⟩) 3 3,.slice (some ⟨r.1,0,none⟩) 3 3] cs &&
    Nat.blt x.1 σ.length && Nat.blt y.1 σ.length && Ua house σ x.1 y.1 && rowIs σ f.1 (dF house.front 0 3) && rowIs σ r.1 (dF (house.kD hm) 0 3)) (some ((x.1,x.2.2.2),(y.1,y.2.2.2),(f.1,r.1)))
 |_=>none
def isHm (v:Value):Bool:=ad2 v (.agg #[.int .i64 410,.int .i64 420])
def Qh (s:Int):Option (List Nat):=bif decide (s=-1) then some [0,1] else bif decide (s=0) then some [0,1] else bif decide (s=1) then some [0] else none
def Wv:aB→Bool
 |.map []=>true
 |_=>false
def Wx (f:Nat) (args:List Value) (σ:Heap):Res:=match args with
 |[v]=>bif Nat.beq f 166 then (KY σ v).bind fun _=>bU (niB σ) (iV (.int .i64 0) σ) else none
 |[v,u]=>bif Nat.beq f 79 then (KY σ v).bind fun x=>bU (isHm u && niB σ) (some (.tuple #[.pointer (some ⟨σ.length,0,none⟩),.int .i64 0],σ++yN house hm x.1.1 x.1.2 x.2.1 x.2.2 σ.length,σ.length))
  else bif Nat.beq f 80 then (qU v).bind fun p=>bU (Nat.beq p.2 0 && niB σ && isI u) ((IL σ p.1).bind fun _=>(Qh (qx u)).bind fun l=>some (slN σ.length l.length,σ++[.rw (gV l)],σ.length))
  else bif Nat.beq f 236 then (qU v).bind fun p=>bU (Nat.beq p.2 0) ((IL σ p.1).bind fun _=>match u with
   |.map none=>iV (.int .i64 3) σ
   |.map (some mb)=>bU (niB σ && (match σ[mb]? with|some o=>Wv o|none=>false)) (some (.int .i64 3,σ.set mb (oH (zD [] (house.allR hm) 3)),mb))
   |_=>none)
  else none
 |_=>none
theorem Bc {σ:Heap} {v:Value} {x:(Nat×Nat)×(Nat×Nat)} (h:KY σ v=some x):v=.agg #[.s x.1.1 house.nb x.1.2,.s x.2.1 house.ns x.2.2]∧x.1.1 < σ.length∧x.2.1 < σ.length∧Ua house σ x.1.1 x.2.1=true:=by
 unfold KY at h
 simp only [aL] at h
 obtain ⟨l,h1,h2⟩:=h
 split at h2
 ·simp only [aL,aN,aE] at h2
  obtain ⟨x',h3,y',h4,⟨⟨⟨⟨⟨⟨h5,h6⟩,h7⟩,h8⟩,h9⟩,d⟩,c⟩,a⟩:=h2
  cases a
  have h5:=aM h5
  have h6:=aM h6
  have h7:=aM h7
  have h8:=aM h8
  rw [nC h1,lJ h3,lJ h4,h5,h6,h7,h8]
  exact ⟨rfl,Nat.blt_eq.mp h9,Nat.blt_eq.mp d,c⟩
 ·cases h2
theorem Ud {σ:Heap} {b:Nat} {l:List Value} (h:rowIs σ b l=true):σ[b]?=some (.rw l):=by
 unfold rowIs at h
 split at h
 ·rename_i cs hcs
  obtain ⟨o,h1,h2⟩:=Option.bind_eq_some_iff.1 hcs
  rw [h1,pG h2,qj h]
 ·cases h
theorem Dp {σ:Heap} {tb:Nat} {x:(Nat×Nat)×(Nat×Nat)×(Nat×Nat)} (h:IL σ tb=some x):tH σ house hm tb x.2.2.1 x.2.2.2 x.1.1 x.1.2 x.2.1.1 x.2.1.2 (fun i=>(tV σ x.2.1.1 i).1) (fun i=>(tV σ x.2.1.1 i).2.2) (fun i k=>(tV σ (tV σ x.2.1.1 i).1 k).1) (fun i k=>(tV σ (tV σ x.2.1.1 i).1 k).2.2):=by
 unfold IL at h
 simp only [aL] at h
 obtain ⟨cs,⟨o,h0,h1⟩,h2⟩:=h
 split at h2
 ·simp only [aL,aN,aE] at h2
  obtain ⟨x',h3,y',h4,f,h5,r,h6,⟨⟨⟨⟨⟨g1,g2⟩,g3⟩,g4⟩,g5⟩,g6⟩,a⟩:=h2
  cases a
  have e:=qj g1
  rw [pG h1,← e] at h0
  exact ⟨h0,Ud g5,Ud g6,(yP g4).1,Nat.blt_eq.mp g2,Nat.blt_eq.mp g3⟩
 ·cases h2
theorem Wy {s:Int} {l:List Nat} (h:Qh s=some l):s<0∧l=house.someB hm∨∃ i:Nat,s=i∧i<house.ns∧l=house.AU hm i:=by
 unfold Qh at h
 by_cases h1:s=-1
 ·rw [decide_eq_true h1] at h
  cases h
  exact .inl ⟨oO,Dn.symm⟩
 ·rw [decide_eq_false h1] at h
  simp only [cond_false] at h
  by_cases h2:s=0
  ·rw [decide_eq_true h2] at h
   cases h
   exact .inr ⟨0,oO,by decide,Ub.symm⟩
  ·rw [decide_eq_false h2] at h
   simp only [cond_false] at h
   by_cases h3:s=1
   ·rw [decide_eq_true h3] at h
    cases h
    exact .inr ⟨1,oO,by decide,Uc.symm⟩
   ·rw [decide_eq_false h3] at h;cases h
theorem ZJ {o:aB} (h:Wv o=true):o=oH []:=by
 unfold Wv at h
 split at h
 ·rfl
 ·cases h
end Go.AH.Heat
namespace Go.Proofs.YtajpgeklmcjciaaGreat
open Go Go.AH Go.AH.Heat
def acS:jE:=Wx
theorem ZK:iW Tryz.prog acS:=by
 intro f c σ r h
 have h:Wx f c σ=some r:=h
 unfold Wx at h
 split at h
 ·rename_i v
  cases hf:Nat.beq f 166 with
  |false=>rw [hf] at h;cases h
  |true =>
   rw [hf] at h
   have a:=aM hf
   subst a
   simp only [cond_true,aL,aN] at h
   obtain ⟨x,h1,h2,h3⟩:=h
   cases oI h3
   obtain ⟨h4,_,_,h7⟩:=Bc h1
   obtain ⟨h8,h9⟩:=yP h7
   rw [h4]
   exact ⟨x9 rD h8 h9 h2,Keep.refl⟩
 ·rename_i v u
  cases hf:Nat.beq f 79 with
  |true =>
   rw [hf] at h
   have a:=aM hf
   subst a
   simp only [cond_true,aL,aN,aE] at h
   obtain ⟨x,h1,⟨h2,d⟩,h3⟩:=h
   cases h3
   obtain ⟨h4,h5,h6,h7⟩:=Bc h1
   obtain ⟨h8,h9⟩:=yP h7
   rw [h4,Ih h2]
   exact ⟨PY (m:=hm) rD h8 h9 oD h5 h6 d,Keep.app⟩
  |false =>
   rw [hf] at h
   simp only [cond_false] at h
   clear hf
   cases hf:Nat.beq f 80 with
   |true =>
    rw [hf] at h
    have a:=aM hf
    subst a
    simp only [cond_true,aL,aN,aE] at h
    obtain ⟨p,h1,⟨⟨h2,h3⟩,h4⟩,x,h5,l,h6,h7⟩:=h
    cases h7
    have h2:=aM h2
    rw [jP h1,h2,Qg h4]
    exact ⟨IJ rD.ok oD (Dp h5) h3 (Wy h6),Keep.app⟩
   |false =>
    rw [hf] at h
    simp only [cond_false] at h
    clear hf
    cases hf:Nat.beq f 236 with
    |false=>rw [hf] at h;cases h
    |true =>
     rw [hf] at h
     have a:=aM hf
     subst a
     simp only [cond_true,aL,aN] at h
     obtain ⟨p,h1,h2,x,h3,h4⟩:=h
     have h2:=aM h2
     rw [jP h1,h2]
     split at h4
     ·cases oI h4
      have:=count_nil rD oD (Dp h3)
      rw [N9] at this
      exact ⟨this,Keep.refl⟩
     ·rename_i mb
      simp only [aN,aE] at h4
      obtain ⟨⟨h5,h6⟩,h7⟩:=h4
      cases h7
      split at h6
      ·rename_i o ho
       rw [ZJ h6] at ho
       have:=count_map rD oD (Dp h3) ho (fun q hq=>by simp at hq) h5
       rw [N9] at this
       exact ⟨this,Keep.set⟩
      ·cases h6
     ·cases h4
 ·cases h
end Go.Proofs.YtajpgeklmcjciaaGreat
namespace Go.AH.Heat
open Go Go.AH
def wyC (W:Wk) (kB cK:Nat→Nat→Nat) (ks:Nat→Nat):Nat→List Value
 |0=>[]
 |i+1=>wyC W kB cK ks i++[.slice (some ⟨kB i (ks i),0,none⟩) (W.nk i (ks i)) (cK i (ks i))]
theorem IQ (W:Wk) (kB cK:Nat→Nat→Nat) (ks:Nat→Nat):∀ i,(wyC W kB cK ks i).length=i
 |0=>rfl
 |i+1=>by rw [wyC,aR,IQ W kB cK ks i];rfl
theorem Qi {W:Wk} {kB cK:Nat→Nat→Nat} {ks:Nat→Nat}:∀ {n i:Nat},i<n→(wyC W kB cK ks n)[i]?=some (.s (kB i (ks i)) (W.nk i (ks i)) (cK i (ks i)))
 |0,i,h=>by omega
 |n+1,i,h=>by
  have hl:=IQ W kB cK ks n
  rw [wyC]
  by_cases hi:i<n
  ·rw [bR oO];exact Qi hi
  ·obtain rfl:i=n:=oO
   rw [bE oO,hl,cY];rfl
end Go.AH.Heat
namespace Go.Proofs.YtajpgeklmcjciaaGreat
open Go Go.AH
attribute [local irreducible] dA bP bT jL gX dQ fF bZ fB aY dY fA
open Go.AH.Heat
theorem Gj {A B:Prop} (k:B) (h:Hide B→A:=by intro h_k_;(repeat' (first|refine sCm ?_|(refine gU ?_;first|(refine bW ?_;first|refine st (aJ rfl (by first|exact iG rfl|exact aF a0|exact aF a1|assumption)) rfl rfl ?_|refine st (bD rfl (by exact aV a0 rfl)) rfl rfl ?_)|(refine CJ ?_;refine st (jB rfl rfl (by omega) (by omega)) rfl rfl ?_)|(refine kQ ?_;refine st (gW rfl rfl) rfl rfl ?_)|(refine rV ?_;refine st (nU rfl) rfl rfl ?_)|(refine gIA ?_;refine st (iw rfl rfl (by omega)) rfl rfl ?_)|(refine eG ?_;refine st (bH rfl rfl rfl (by first|exact hf1|exact xO (l:=[(bar:Int)]) (.inr (.inl aO)) (by simp) (bG hniH rfl))) rfl rfl ?_)|(refine lV ?_;refine st (fO (by rfl) (by rfl) (by rfl) (by rfl) rfl (by rfl)) rfl rfl ?_))|(refine gG ?_;first|(refine kP ?_;refine iI rfl (bV rfl) rfl rfl ?_)|(refine gFA ?_;refine iI rfl (aW rfl) rfl rfl ?_)|(refine bW ?_;refine iI rfl (aJ rfl (by first|exact aF a0|assumption)) rfl rfl ?_)|(refine nK ?_;refine iI rfl (fE rfl rfl rfl) rfl rfl ?_)|(refine wY ?_;refine iI rfl (jC rfl) rfl rfl ?_)|(refine gIA ?_;refine iI rfl (iw rfl rfl (by omega)) rfl rfl ?_))|(refine fU ?_;first|refine frA (aJ rfl (aF (aA a0))) rfl ?_ (hcs (by assumption))|refine frA (aW rfl) rfl ?_ (hcl (by assumption))|refine frA (iw rfl rfl (by omega)) rfl ?_ (hcl (by assumption))|refine frA (aJ rfl (by exact hw _)) rfl ?_ (hcs (by assumption))|refine frA (bD rfl (by exact hk3 _)) rfl ?_ hck|refine frN (fO (by rfl) (by rfl) (by rfl) (by rfl) rfl (by rfl)) lS hcL rfl rfl ?_|refine frA (bV rfl) rfl ?_ (kW (by assumption))|refine frA (y7 rfl rfl rfl) rfl ?_ (kW (by assumption))|(refine jM ?_;refine frA (bV rfl) rfl ?_)|(refine QX ?_;refine frA (OA rfl) rfl ?_))|(refine gu ⟨by kernel_rfl,?_⟩)|refine dD (id:=8) ?_|refine dD (id:=14) ?_|refine aG ?_|refine eP rfl ?_|refine eU rfl ?_));exact h_k_.h):A:=h ⟨k⟩
theorem Yk {σ:Heap} {W:Wk} {bB bS cB cS:Nat} {wB cW:Nat→Nat} {kB cK:Nat→Nat→Nat} {bar rb c:Nat} {ks:Nat→Nat} (hv:uF W) (hA:xg σ W bB bS wB cW kB cK) (hK:∀ i<W.ns,∀ k<W.nw i,W.nk i k≤cK i k) (hbar:bar<W.nb) (hks:∀ i<W.ns,ks i<W.nw i) (hrb:∀ i<W.ns,aH σ rb i=some (.i (ks i:Nat))) (hbB:bB < σ.length) (hbS:bS < σ.length) (hrl:rb < σ.length) (hni:σ.all (fun o=>!aU o)=true) :
  Ev Tryz.prog 77 [.agg #[.s bB W.nb cB,.s bS W.ns cS],.agg #[.i (bar:Nat),.s rb W.ns c]] σ (.tuple #[slN σ.length W.ns,.i 0]) (σ++[.rw (wyC W kB cK ks W.ns)]):=by
 have hns3:=hv.s
 have hnb3:=hv.b2
 refine aI σ.length 74 Tryz.func77 rfl rfl rfl rfl rfl ?_
 have a0:(σ++[aB.rw [.s bB W.nb cB,.s bS W.ns cS]]++[aB.rw [.i (bar:Nat),.s rb W.ns c]])[σ.length]?=some (.rw [.s bB W.nb cB,.s bS W.ns cS]):=aA aO
 have a1:(σ++[aB.rw [.s bB W.nb cB,.s bS W.ns cS]]++[aB.rw [.i (bar:Nat),.s rb W.ns c]])[(σ++[aB.rw [.s bB W.nb cB,.s bS W.ns cS]]).length]?=some (.rw [.i (bar:Nat),.s rb W.ns c]):=aO
 have hniH:(σ++[aB.rw [.s bB W.nb cB,.s bS W.ns cS]]++[aB.rw [.i (bar:Nat),.s rb W.ns c]]).all (fun o=>!aU o)=true:=bG (bG hni rfl) rfl
 have hp:(σ++[aB.rw [.s bB W.nb cB,.s bS W.ns cS]]++[aB.rw [.i (bar:Nat),.s rb W.ns c]]).take σ.length=σ:=oS
 have hf1:=x9 (σ:=σ++[aB.rw [.s bB W.nb cB,.s bS W.ns cS]]++[aB.rw [.i (bar:Nat),.s rb W.ns c]]) (cB:=cB) (cS:=cS) hv (hA.take hp) hK hniH
 have hne:¬ ((W.ns:Nat):Int) ≠ (W.ns:Nat):=oO
 have D:∀ y ∈ [(bar:Int)],(0:Int)≤y∧y≤((W.nb:Nat):Int) - 1:=fun y hy=>by
  simp only [fc] at hy
  subst hy;omega
 have u:¬ ¬ (∀ y ∈ [(bar:Int)],(0:Int)≤y∧y≤((W.nb:Nat):Int) - 1):=fun h=>h D
 refine Gj ?_
 obtain ⟨K,e⟩:∃ K,K=σ++[aB.rw [.s bB W.nb cB,.s bS W.ns cS]]++[aB.rw [.i (bar:Nat),.s rb W.ns c]]++[aB.rw [.i (bar:Nat)]]:=⟨_,rfl⟩
 refine .mk (dJ [(2,.p σ.length),(3,.p (σ.length+1)),(4,.slice none 0 0),(5,.i 0)] K (by rw [e];rfl) ⟨rfl,(by (refine congrArg (fun n=>some (Value.p n)) ?_;simp;try omega)),rfl,rfl,trivial⟩ ?_)
 have E:K.take σ.length=σ:=by rw [e];exact aT hp
 have b0:K[σ.length]?=some (.rw [.s bB W.nb cB,.s bS W.ns cS]):=by rw [e];exact aA a0
 have b1:K[σ.length+1]?=some (.rw [.i (bar:Nat),.s rb W.ns c]):=by rw [e];exact aA (bK oS)
 clear hf1 a0 a1 hniH hp D u e
 have a0:=b0
 have a1:=b1
 apply aG
 refine Gj ?_
 clear a0 a1
 refine Tm 45 ?_
 refine dV (ι:=Nat×Nat) (fun k=>[(2,.p σ.length),(3,.p (σ.length+1)),(4,.slice none 0 0),(5,.i 0),(7,eu k.2 1 k.1),(35,.s rb W.ns c),(36,.i (W.ns:Nat)),(37,.i (k.1:Nat))])
  (fun k mk H=>k.1≤W.ns∧mk=[]∧H.take K.length=K∧K.length≤k.2∧H[k.2]?=some (.gr (wyC W kB cK ks k.1) 45)) (fun k=>W.ns - k.1) (0,K.length) tE ⟨bN _,rfl,by simp,aD _,aO⟩ ?_
 rintro ⟨i,g⟩ mk H ⟨hi,rfl,m,F,hg⟩
 dsimp only at hi F hg
 dsimp only
 have P:=take_len E
 have Q:=aQ hg
 have C:H.take σ.length=σ:=by
  have e1:(H.take K.length).take σ.length=σ:=by rw [m];exact E
  rwa [eJ,fj P] at e1
 by_cases a:i<W.ns
 ·have N:(i:Int)<(W.ns:Nat):=oO
  have f:=hks i a
  have hw2:=hv.w2 i a
  have a0:H[σ.length]?=some (.rw [.s bB W.nb cB,.s bS W.ns cS]):=by rw [jm m (aQ b0)];exact b0
  have a1:H[σ.length+1]?=some (.rw [.i (bar:Nat),.s rb W.ns c]):=by rw [jm m (aQ b1)];exact b1
  have hd1:aH H rb i=some (.i (ks i:Nat)):=by
   have:=hrb i a
   unfold aH at this ⊢
   rw [jm C hrl];exact this
  have j:=hA.take C
  have J:aH H bS (i+0)=some (.s (wB i) (W.nw i) (cW i)):=gy (k:=0) (j.steps i a) oO
  have hk1:¬ ((ks i:Nat):Int)<0:=oO
  have hk2:¬ ((ks i:Nat):Int)≥(W.nw i:Nat):=oO
  refine Gj ?_
  refine .mk (dJ [(2,.p σ.length),(3,.p (σ.length+1)),(4,.slice none 0 0),(5,.i 0),(7,eu g 1 i),(8,.i (i:Nat)),(9,.i (ks i:Nat)),(35,.s rb W.ns c),(36,.i (W.ns:Nat)),(37,.i (i:Nat))] H rfl tE ?_)
  have L:=j.kinks i a (ks i) f
  have G:kB i (ks i)<H.length:=dL (L 0 (hv.k i a _ f).n1)
  have O:wB i<H.length:=dL (j.ways i a (ks i) f)
  have hs1:σ.length<H.length:=aQ a0
  have w:bS<H.length:=oO
  have hgB:Nat.blt g H.length=true:=Nat.blt_eq.mpr Q
  have hcl:∀ {q o:Nat},q<H.length→closed H.length (.pointer (some ⟨q,o,none⟩))=true:=fun {q o} h=>(show Nat.blt q H.length=true from Nat.blt_eq.mpr h)
  have hcs:∀ {q o n c:Nat},q<H.length→closed H.length (.slice (some ⟨q,o,none⟩) n c)=true:=fun h=>bQ (Nat.blt_eq.mpr h)
  have hw:∀ X,aH (H++X) bS (i+0)=some (.s (wB i) (W.nw i) (cW i)):=fun X=>by rw [jZ w];exact J
  have hk3:∀ X,aK (H++X) (wB i) (ks i) 1=some [.s (kB i (ks i)) (W.nk i (ks i)) (cK i (ks i))]:=fun X=>by rw [jk O];exact j.ways i a (ks i) f
  have hck:closed H.length (.agg #[.s (kB i (ks i)) (W.nk i (ks i)) (cK i (ks i))])=true:=by
   have:=bQ (n:=H.length) (i:=kB i (ks i)) (o:=0) (l:=W.nk i (ks i)) (c:=cK i (ks i)) (Nat.blt_eq.mpr G)
   simp [closed,jq,dR,this]
  have hcL:dR H.length [.s (kB i (ks i)) (W.nk i (ks i)) (cK i (ks i))]=true:=by
   have:=bQ (n:=H.length) (i:=kB i (ks i)) (o:=0) (l:=W.nk i (ks i)) (c:=cK i (ks i)) (Nat.blt_eq.mpr G)
   simp [dR,this]
  have M:∀ Y,(H++Y)[g]?=some (.gr (wyC W kB cK ks i) 45):=fun Y=>aA hg
  have z:(wyC W kB cK ks i).length=i*1:=by rw [IQ,cJ]
  have v:aK (H++[aB.rw [.s (kB i (ks i)) (W.nk i (ks i)) (cK i (ks i))]]) (H++[]).length 0 (1*1)=some [.s (kB i (ks i)) (W.nk i (ks i)) (cK i (ks i))]:=by rw [bL];exact dX rfl
  refine dI oK rfl (?_)
  refine Gj ?_
  refine st (jh (t:=40) oR oR rfl (by exact M _) (by exact z) rfl (by exact v) oO oR oO oO) rfl rfl ?_
  refine Gj ?_
  have d:∀ k,gZ (fun _=>true) (addN [] k [aB.rw [.s (kB i (ks i)) (W.nk i (ks i)) (cK i (ks i))]])=[aB.rw [.s (kB i (ks i)) (W.nk i (ks i)) (cK i (ks i))]]:=fun _=>rfl
  refine ⟨(i+1,H.length+1),⟨by dsimp only;omega,rfl,?_,by dsimp only;omega,?_⟩,by dsimp only;omega,⟨rfl,rfl,rfl,rfl,congrArg some ?_,rfl,rfl,rfl,trivial⟩⟩
  ·rw [d];exact aT (take_set (aT m) F)
  ·rw [d];exact bK oS
  ·rw [d];dsimp only;simp
 ·obtain rfl:i=W.ns:=oO
  have N:¬ ((W.ns:Nat):Int)<(W.ns:Nat):=oO
  refine Gj ?_
  have s0:fV σ.length [g] σ.length=⟨g,0,0⟩:=by simp [fV]
  refine dM (v2:=.tuple #[slN σ.length W.ns,.i 0]) (.tmp rfl (.tmp rfl .nil)) (aY.src [.rw (wyC W kB cK ks W.ns)] [g] C rfl (by simp [dG];omega) ⟨?_,trivial⟩ (tJ (Ew oS s0) (.i 0))) ⟨rfl,rfl⟩
  refine tC s0 (.inr ⟨_,hg⟩) rfl fun x h1 h2=>?_
  have hx:x<W.ns:=by rw [IQ] at h1;exact h1
  have I:=Qi (W:=W) (kB:=kB) (cK:=cK) (ks:=ks) hx
  rw [cC h1] at I
  rw [Option.some.inj I]
  exact lI (by have:=dL (hA.kinks x hx (ks x) (hks x hx) 0 (hv.k x hx _ (hks x hx)).n1);simp;omega) (fJ (dL (hA.kinks x hx (ks x) (hks x hx) 0 (hv.k x hx _ (hks x hx)).n1))) (aD _)
end Go.Proofs.YtajpgeklmcjciaaGreat
namespace Go.AH
open Go
section
variable {P:Program} (w:World)
end
section
variable {P:Program} {n0 N:Nat} {rd:Option Nat} {e:Env} {mk:List Nat} {σ:Heap} {K:Env→List Nat→Heap→Prop} {all rest:List Oper}
end
section ops
variable {P:Program} {rd:Option Nat} {ty:TypeId} {e:Env} {σ:Heap} {x y z a b:Operand} {v u:Value}
abbrev slq (i o sz n:Nat):Value:=.slice (some ⟨i,o,some sz⟩) n n
theorem aeP {n:Nat} {ρ:Rho} {i o sz k c':Nat} (hi:i<n) (hc:k≤c'∧(sz=0→k=c')) (hs:(ρ i).o+o+c'*sz≤(ρ i).s):gQ n ρ (slq i o sz k) (.slice (some ⟨(ρ i).b,(ρ i).o+o,none⟩) k c') :=
 VQ.gslice (q:=false) i o k k c' sz hc hs hi rfl
theorem Oa {place:Nat→Option (Nat×Nat)}:∀ {vs:List (Nat×Value)} {cs cs':List Value},rZ place cs vs=some cs'→cs'.length=cs.length
 |[],cs,cs',h=>by cases h;rfl
 |(i,v)::vs,cs,cs',h=>by
  simp only [rZ] at h
  split at h
  ·cases h
  ·rename_i c a _
   cases hb:(Nat.beq (dU v).length a && Nat.ble (c+(dU v).length) cs.length) with
   |false=>rw [hb] at h;cases h
   |true =>
    rw [hb] at h
    simp only [aE] at hb
    rw [Oa (place:=place) h,qA (cA hb.2)]
theorem KZ {t el size bytes len:Nat} {agg:Bool} {z:Value} {ps:List (Nat×Operand)} {vs:List (Nat×Value)} {cs:List Value} [ha:Sl P t el] [ht:Ty P el size agg z bytes] (hz:plain z=true)
  (hsz:z.cells.size=size) (h0:Nat.blt 0 (len*size)=true) (h1:Nat.ble (len*size) 16777216=true) (h:um e ps=some vs) (hf:rZ (fun i=>some (i*size,size)) (iR (dU z) len) vs=some cs) :
  bZ P rd (.buildSlice t len ps.toArray) ty e σ (slq σ.length 0 size len) (σ++[.gr cs el]) :=
 cO oS fun op ho _ G w0 ρ A w hs hx=>by
  obtain ⟨g1,g2⟩:=vV (A:=A) (n:=σ.length) (ρ:=ρ) (fun p hp u hu=>hx p.2 (by simp only [Op.operands];simp;exact ⟨p.1,hp⟩) u hu) h
  obtain ⟨ie,i1,i2,i3,_⟩:=ht.info
  obtain ⟨rc,g3,g4⟩:=wH vs _ _ _ _ (Af (n:=σ.length) (ρ:=ρ) (k:=len) hz hsz) g1 g2 hf
  have hcl:cs.length=len*size:=by
   have hv:=(lq (aZ (n:=0) (ρ:=fun k=>⟨k,0,0⟩) z hz)).1
   have hv:(dU z).length=z.cells.size:=by simpa using hv
   rw [Oa hf,qB,hv,hsz]
  have d:rc.size=len*size:=by have:=g4.1;simp at this;omega
  have c:=lQ hs (.cells rc el) (.gr cs el) (len*size) (by
   intro _
   refine ⟨fun hg=>by have h1:=(hs.fgn _ hg).1;have:=hs.size;simp only at h1;omega,rfl,rc,iC w _,d,oO,fun k hk a=>?_⟩
   exact (g4.2 k (oU hk) a).mono oS fun q hq=>jg hq)
  refine ⟨upd ρ σ.length w.heap.size (len*size),.s w.heap.size len len,w.alloc (.cells rc el),.inl ?_,?_,by simp,fun i hi=>jg hi,c⟩
  ·have h0':=Nat.blt_eq.mp h0
   have h1':=cA h1
   have:=run_buildSlice (P:=P) w t el len (ps.toArray.map fun p=>(p.1,A.eval p.2)) rc ie z ha.und i1 i3 (by rw [i2];omega) (by rw [i2];omega) (by
    rw [i2]
    have em:(Array.range (len*size)).map (z.cells[· % z.cells.size]!)=madeCells z.cells (len*size):=rfl
    rw [em];simpa using g3)
   simp only [List.map_toArray] at this
   simp [execOp,ho,this]
  ·have:=aeP (n:=(σ++[aB.gr cs el]).length) (ρ:=upd ρ σ.length w.heap.size (len*size)) (i:=σ.length) (o:=0) (sz:=size) (k:=len) (c':=len) oS ⟨aD _,fun _=>rfl⟩ (by simp [upd])
   rw [oW] at this
   simpa using this
end ops
end Go.AH
namespace Go.AH.Heat
open Go Go.AH
def Wk.rg (W:Wk) (ks:Nat→Nat) (r:Int×Int):Nat→Int×Int
 |0=>r
 |i+1=>W.nxt i (ks i) (W.rg ks r i)
def rgC (f:Nat→Int×Int):Nat→List Value
 |0=>[]
 |i+1=>rgC f i++[.int .i64 (f i).1,.int .i64 (f i).2]
theorem vH (f:Nat→Int×Int):∀ i,(rgC f i).length=i*2
 |0=>rfl
 |i+1=>by rw [rgC,aR,vH f i,Nat.succ_mul];rfl
theorem yQ (f:Nat→Int×Int):∀ i,dN (rgC f i)=true
 |0=>rfl
 |i+1=>by rw [rgC,oN,yQ f i];rfl
theorem WA {f:Nat→Int×Int}:∀ {n i:Nat},i<n→((rgC f n).drop (i*2)).take 2=[.i (f i).1,.i (f i).2]
 |0,i,h=>by omega
 |n+1,i,h=>by
  have hl:=vH f n
  rw [rgC]
  by_cases hi:i<n
  ·have h2:i*2+2≤n*2:=oO
   rw [fS oO,fp (by rw [e6];omega)]
   exact WA hi
  ·obtain rfl:i=n:=oO
   rw [← hl,List.drop_left];rfl
theorem afX {W:Wk} (hv:uF W) {ks:Nat→Nat} (hks:∀ i<W.ns,ks i<W.nw i) {r:Int×Int} (hr:jX r):∀ i≤W.ns,jX (W.rg ks r i)
 |0,_=>hr
 |i+1,h=>acy hv oO (hks i oO) (afX hv hks hr i oO)
end Go.AH.Heat
namespace Go.Proofs.YtajpgeklmcjciaaGreat
open Go Go.AH
attribute [local irreducible] dA bP bT jL gX dQ fF bZ fB aY dY fA
open Go.AH.Heat
theorem Dq {A B:Prop} (k:B) (h:Hide B→A:=by intro h_k_;(repeat' (first|refine sCm ?_|(refine gU ?_;first|refine st (DK rfl rfl (by omega) (by omega)) rfl rfl ?_|(refine bW ?_;refine st (bD rfl (by assumption)) rfl rfl ?_)|(refine gIA ?_;refine st (iw rfl rfl (by omega)) rfl rfl ?_)|(refine dZ ?_;refine stN (bF rfl rfl rfl rfl (by exact fQ (aD _) (cH _))) rfl ?_))|(refine fU ?_;first|refine frA (bV rfl) rfl ?_ (kW (by assumption))|refine frA (bD rfl (by exact hq7 _)) rfl ?_ hck|refine frA (aW rfl) rfl ?_ (hcl (by assumption))|refine frA (aJ rfl (by exact hq8 _)) rfl ?_ rfl|refine frA (aJ rfl (by exact hq9 _)) rfl ?_ rfl|(refine aay ?_;refine frA (EW rfl rfl) rfl ?_)|(refine E5 ?_;refine frA (iE (by rfl) rfl (by rfl)) rfl ?_)|(refine qR ?_;refine frA (bH rfl rfl rfl (by first|exact hfa _|exact hfb _)) rfl ?_)|(refine xA ?_;refine frN (fO (by rfl) (by rfl) (by rfl) (by rfl) rfl (by rfl)) lS rfl rfl rfl ?_))|(refine gu ⟨by kernel_rfl,?_⟩)|refine dD (id:=1) ?_|refine dD (id:=2) ?_|refine dD (id:=6) ?_|refine aG ?_|refine eP rfl ?_|refine eU rfl ?_));exact h_k_.h):A:=h ⟨k⟩
theorem WB {σ:Heap} {W:Wk} {bB bS:Nat} {wB cW:Nat→Nat} {kB cK:Nat→Nat→Nat} {ks:Nat→Nat} {wb c n:Nat} {r:Int×Int} (hv:uF W) (hA:xg σ W bB bS wB cW kB cK) (hks:∀ i<W.ns,ks i<W.nw i) (hr:jX r) (hn:W.ns=n+1)
  (hwb:∀ i<W.ns,aK σ wb i 1=some [.s (kB i (ks i)) (W.nk i (ks i)) (cK i (ks i))]) (hni:σ.all (fun o=>!aU o)=true) :
  Ev Tryz.prog 78 [.agg #[.i r.1,.i r.2],.s wb (n+1) c] σ (.s σ.length (n+2) (n+2)) (σ++[.rw (rgC (W.rg ks r) (n+2))]):=by
 have hns3:=hv.s
 refine aI σ.length 38 Tryz.func78 rfl rfl rfl rfl rfl ?_
 have a0:(σ++[aB.rw [.i r.1,.i r.2]])[σ.length]?=some (.rw [.i r.1,.i r.2]):=aO
 have hp:(σ++[aB.rw [.i r.1,.i r.2]]).take σ.length=σ:=oS
 refine Dq ?_
 refine .mk (aG ?_)
 refine st (bD rfl (aV a0 rfl)) rfl rfl ?_
 refine st (KZ oR oR oR oR rfl oR) rfl rfl ?_
 refine Dq ?_
 obtain ⟨K,hK⟩:∃ K,K=σ++[aB.rw [.i r.1,.i r.2]]++[aB.gr [.i r.1,.i r.2] 23]:=⟨_,rfl⟩
 refine .mk (dJ [(1,.s wb (n+1) c),(4,.slice none 0 0),(5,eu (σ.length+1) 2 1)] K (by rw [hK];rfl) ⟨rfl,rfl,by simp [Env.get];rfl,trivial⟩ ?_)
 have F:K.take σ.length=σ:=by rw [hK];exact aT hp
 have J:K[σ.length+1]?=some (.gr (rgC (W.rg ks r) 1) 23):=by rw [hK];exact bK oS
 have j:K.all (fun o=>!aU o)=true:=by rw [hK];exact bG (bG hni rfl) rfl
 clear hK a0 hp
 apply aG
 refine Dq ?_
 refine dV (ι:=Nat×Nat) (fun k=>[(4,.slice none 0 0),(5,eu k.2 2 (k.1+1)),(11,.s wb (n+1) c),(12,.i ((n+1:Nat):Int)),(13,.i (k.1:Nat))])
  (fun k mk H=>k.1≤n+1∧mk=[]∧H.take σ.length=σ∧H.all (fun o=>!aU o)=true∧σ.length≤k.2∧H[k.2]?=some (.gr (rgC (W.rg ks r) (k.1+1)) 23)) (fun k=>n+1 - k.1) (0,σ.length+1) tE ⟨bN _,rfl,F,j,by dsimp only;omega,J⟩ ?_
 clear F J j K
 rintro ⟨i,g⟩ mk H ⟨hi,rfl,hp,hniH,G,hg⟩
 dsimp only at hi G hg
 dsimp only
 have R:=aQ hg
 have hσl:=take_len hp
 by_cases hin:i<n+1
 ·have Q:(i:Int)<((n+1:Nat):Int):=oO
  have m:i<W.ns:=oO
  have w:=hks i m
  have O:=hA.take hp
  have L:=O.kinks i m (ks i) w
  have f:=hv.k i m _ w
  have hkB:kB i (ks i)<H.length:=dL (L 0 f.n1)
  have hd1:aK H wb i 1=some [.s (kB i (ks i)) (W.nk i (ks i)) (cK i (ks i))]:=fM hp (hwb i m)
  have N:=afX hv hks hr i oO
  have hput:∀ c,putCells (H++[aB.rw [c]]) H.length 0 [.s (kB i (ks i)) (W.nk i (ks i)) (cK i (ks i))]=some (H++[aB.rw [.s (kB i (ks i)) (W.nk i (ks i)) (cK i (ks i))]]):=fun c=>fQ (aD _) (cH _)
  have E:∀ X,aK (H++X) g ((i:Int).toNat*2) 2=some [.i (W.rg ks r i).1,.i (W.rg ks r i).2]:=fun X=>by
   rw [jk R,cN]
   unfold aK
   rw [hg]
   simp only [vH,show Nat.ble (i*2+2) ((i+1)*2)=true from Nat.ble_eq.mpr oO,cond_true,WA (show i<i+1 by omega)]
  have S:=E [aB.rw [.s (kB i (ks i)) (W.nk i (ks i)) (cK i (ks i))]]
  refine Dq ?_
  obtain ⟨H2,d⟩:∃ H2,H2=H++[aB.rw [.s (kB i (ks i)) (W.nk i (ks i)) (cK i (ks i))]]++[aB.rw [.i (W.rg ks r i).1,.i (W.rg ks r i).2]]:=⟨_,rfl⟩
  refine .mk (dJ [(4,.slice none 0 0),(5,eu g 2 (i+1)),(7,.p H.length),(8,.p (H.length+1)),(11,.s wb (n+1) c),(12,.i ((n+1:Nat):Int)),(13,.i (i:Nat))] H2 d.symm ⟨rfl,rfl,rfl,by simp [Env.get],rfl,rfl,rfl,trivial⟩ ?_)
  have hH2l:H2.length=H.length+2:=by rw [d];simp
  have hp2:H2.take σ.length=σ:=by rw [d];exact aT (aT hp)
  have u:H2.all (fun o=>!aU o)=true:=by rw [d];exact bG (bG hniH rfl) rfl
  have M:H2[g]?=some (.gr (rgC (W.rg ks r) (i+1)) 23):=by rw [d];exact aA (aA hg)
  have b7:H2[H.length]?=some (aB.rw [.s (kB i (ks i)) (W.nk i (ks i)) (cK i (ks i))]):=by rw [d];exact aA aO
  have b8:H2[H.length+1]?=some (aB.rw [.i (W.rg ks r i).1,.i (W.rg ks r i).2]):=by rw [d];exact bK oS
  obtain ⟨nx,v⟩:∃ nx,nx=W.rg ks r (i+1):=⟨_,rfl⟩
  have y:(qJ (W.nk i (ks i)) (W.kf i (ks i)) (W.rg ks r i).1).1=nx.1:=by rw [v];rfl
  have D:(qJ (W.nk i (ks i)) (W.kf i (ks i)) (W.rg ks r i).2).2=nx.2:=by rw [v];rfl
  generalize W.rg ks r i=ri at *
  have hrg1:0≤ri.1∧ri.1≤ri.2∧ri.2≤1000:=N
  have I:∀ X,BJ (H2++X) (kB i (ks i)) (W.nk i (ks i)) (W.kf i (ks i)):=fun X q hq=>(hA.take (aT hp2)).kinks i m (ks i) w q hq
  have hfa:=fun X=>AZ (σ:=H2++X) (c:=cK i (ks i)) (h:=ri.1) f.n1 (by have:=f.n2;omega) (by rw [f.z];omega) (I X)
  have hfb:=fun X=>AZ (σ:=H2++X) (c:=cK i (ks i)) (h:=ri.2) f.n1 (by have:=f.n2;omega) (by rw [f.z];omega) (I X)
  have hq7:∀ X,aK (H2++X) H.length 0 1=some [.s (kB i (ks i)) (W.nk i (ks i)) (cK i (ks i))]:=fun X=>aV (aA b7) rfl
  have hq8:∀ X,aH (H2++X) (H.length+1) (0+0)=some (.i ri.1):=fun X=>aF (aA b8)
  have hq9:∀ X,aH (H2++X) (H.length+1) (0+1)=some (.i ri.2):=fun X=>aF (aA b8)
  have hgB:Nat.blt g H2.length=true:=Nat.blt_eq.mpr oO
  have hs1:H.length<H2.length:=oO
  have hs2:H.length+1<H2.length:=oO
  have hcl:∀ {q o:Nat},q<H2.length→closed H2.length (.pointer (some ⟨q,o,none⟩))=true:=fun {q o} h=>(show Nat.blt q H2.length=true from Nat.blt_eq.mpr h)
  have hck:closed H2.length (.agg #[.s (kB i (ks i)) (W.nk i (ks i)) (cK i (ks i))])=true:=by
   have:=bQ (n:=H2.length) (i:=kB i (ks i)) (o:=0) (l:=W.nk i (ks i)) (c:=cK i (ks i)) (Nat.blt_eq.mpr oO)
   simp [closed,jq,dR,this]
  have P:∀ Y,(H2++Y)[g]?=some (.gr (rgC (W.rg ks r) (i+1)) 23):=fun Y=>aA M
  have C:(rgC (W.rg ks r) (i+1)).length=(i+1)*2:=vH _ _
  have x:aK (H2++[aB.rw [.i (qJ (W.nk i (ks i)) (W.kf i (ks i)) ri.1).1,.i (qJ (W.nk i (ks i)) (W.kf i (ks i)) ri.2).2]]) (H2++[]).length 0 (1*2)=some [.i (qJ (W.nk i (ks i)) (W.kf i (ks i)) ri.1).1,.i (qJ (W.nk i (ks i)) (W.kf i (ks i)) ri.2).2]:=by rw [bL];exact dX rfl
  clear d hd1 E S hput b7 b8
  refine dI oK rfl ?_
  refine Dq ?_
  refine st (jh (t:=47) oR oR rfl (by exact P _) (by exact C) rfl (by exact x) oO oR oO oO) rfl rfl ?_
  refine Dq ?_
  have a:∀ k X,gZ (fun _=>true) (addN [] k [X])=[X]:=fun _ _=>rfl
  refine ⟨(i+1,H2.length+1),⟨by dsimp only;omega,rfl,?_,?_,by dsimp only;omega,?_⟩,by dsimp only;omega,⟨rfl,congrArg some ?_,rfl,rfl,rfl,trivial⟩⟩
  ·rw [a];exact aT (take_set (aT hp2) G)
  ·rw [a];exact bG (kN (bG u rfl) rfl) rfl
  ·rw [a]
   dsimp only
   have e:rgC (W.rg ks r) (i+1+1)=rgC (W.rg ks r) (i+1)++[.i nx.1,.i nx.2]:=by rw [v];rfl
   rw [e,← y,← D]
   exact bK oS
  ·rw [a];dsimp only;simp
 ·obtain rfl:i=n+1:=oO
  have Q:¬ ((n+1:Nat):Int)<((n+1:Nat):Int):=oO
  refine Dq ?_
  have s0:fV σ.length [g] σ.length=⟨g,0,0⟩:=by simp [fV]
  exact dM (v2:=.s σ.length (n+2) (n+2)) (.tmp rfl .nil) (aY.src [.rw (rgC (W.rg ks r) (n+2))] [g] hp rfl (by simp [dG];omega) ⟨pJ s0 (.inr ⟨_,hg⟩) (yQ _ _),trivial⟩ (kG oS s0)) ⟨rfl,rfl⟩
open Go.AH.Heat Go.AH.Warp
theorem Ue {A B:Prop} (k:B) (h:Hide B→A:=by intro h_k_;(repeat' (first|refine sCm ?_|(refine gU ?_;first|(refine bW ?_;first|refine st (aJ rfl (by exact aF a0)) rfl rfl ?_|refine st (bD rfl (by assumption)) rfl rfl ?_)|(refine gIA ?_;refine st (eY rfl rfl (by omega)) rfl rfl ?_)|(refine oQ ?_;refine st (iE (by rfl) rfl (by rfl)) rfl rfl ?_)|(refine dZ ?_;refine stN (bF rfl rfl rfl rfl (by exact fQ (aD _) (cH _))) rfl ?_))|refine dD (id:=1) ?_|refine dD (id:=2) ?_|refine dD (id:=5) ?_|refine aG ?_|refine jc rfl (by first|rfl|exact dW (by assumption)) ?_|refine iM rfl (by first|rfl|exact bM (by assumption)) ?_));exact h_k_.h):A:=h ⟨k⟩
theorem Hf {σ:Heap} {B:Bld} {sb cS:Nat} (hv:yg B) (hS:LU σ B sb) :
  Ev Tryz.prog 175 [.agg #[.s sb B.n cS,.i B.most]] σ (.p σ.length) (σ++[.rw (B.cs sb cS (σ.length+1) (B.n+1)),.rw (rgC B.tu (B.n+1))]):=by
 refine aI σ.length 42 Tryz.func175 rfl rfl rfl rfl rfl ?_
 refine Ue ?_
 have a0:(σ++[aB.rw [.s sb B.n cS,.i B.most]])[σ.length]?=some (.rw [.s sb B.n cS,.i B.most]):=aO
 refine .mk (aG ?_)
 refine st (bD rfl (aV a0 rfl)) rfl rfl ?_
 refine st (iE oR rfl oR) rfl rfl ?_
 refine st (KZ oR oR oR oR rfl oR) rfl rfl ?_
 refine Ue ?_
 obtain ⟨H0,e⟩:∃ H0,H0=σ++[aB.rw [.s sb B.n cS,.i B.most]]++[aB.gr (rgC B.tu 1) 23]++[aB.rw [.s sb B.n cS,.i B.most,eu (σ.length+1) 2 1]]:=⟨_,rfl⟩
 have e1:(σ++[aB.rw [.s sb B.n cS,.i B.most]]).length=σ.length+1:=oS
 refine .mk (dJ [(1,.p σ.length),(3,.p (σ.length+2))] H0 (by rw [e,← e1];rfl) ⟨rfl,by simp [Env.get],trivial⟩ ?_)
 have z:H0.take σ.length=σ:=by rw [e];simp
 have a0:H0[σ.length]?=some (.rw [.s sb B.n cS,.i B.most]):=by rw [e];exact aA (aA aO)
 have C:H0[σ.length+1]?=some (.gr (rgC B.tu 1) 23):=by rw [e];exact aA (bK e1)
 have w:H0[σ.length+2]?=some (.rw [.s sb B.n cS,.i B.most,eu (σ.length+1) 2 1]):=by rw [e];exact bK oS
 clear e e1
 apply aG
 refine Ue ?_
 refine dV (ι:=Nat×Nat) (fun k=>[(3,.p (σ.length+2)),(12,.s sb B.n cS),(13,.i (B.n:Nat)),(14,.i (k.1:Nat))])
  (fun k mk H=>k.1≤B.n∧mk=[]∧H.take σ.length=σ∧H[σ.length+2]?=some (.rw [.s sb B.n cS,.i B.most,eu k.2 2 (k.1+1)])∧σ.length+1≤k.2∧H[k.2]?=some (.gr (rgC B.tu (k.1+1)) 23)) (fun k=>B.n - k.1) (0,σ.length+1) tE ⟨bN _,rfl,z,w,aD _,C⟩ ?_
 clear z a0 C w H0
 rintro ⟨i,g⟩ mk H ⟨hi,rfl,hp,hr,K,hg⟩
 dsimp only at hi K hg hr
 dsimp only
 have hn20:=hv.n
 have hHl:=aQ hg
 have J:=aQ hr
 by_cases y:i<B.n
 ·have M:(i:Int)<(B.n:Nat):=oO
  have hst:=hv.st i y
  have hd1:aK H sb (0+i*4) 4=some [.i (B.ang i),.i (B.tlo i),.i (B.thi i),.i (B.hard i)]:=by rw [bA];exact fM hp (hS.st i y)
  refine Ue ?_
  obtain ⟨H2,a⟩:∃ H2,H2=H++[aB.rw [.i (B.ang i),.i (B.tlo i),.i (B.thi i),.i (B.hard i)]]:=⟨_,rfl⟩
  refine .mk (dJ [(3,.p (σ.length+2)),(5,.p H.length),(12,.s sb B.n cS),(13,.i (B.n:Nat)),(14,.i (i:Nat))] H2 a.symm tE ?_)
  have f:H2.length=H.length+1:=by rw [a];simp
  have b3:H2[σ.length+2]?=some (.rw [.s sb B.n cS,.i B.most,eu g 2 (i+1)]):=by rw [a];exact aA hr
  have b5:H2[H.length]?=some (.rw [.i (B.ang i),.i (B.tlo i),.i (B.thi i),.i (B.hard i)]):=by rw [a];exact aO
  have F:H2[g]?=some (.gr (rgC B.tu (i+1)) 23):=by rw [a];exact aA hg
  have hp2:H2.take σ.length=σ:=by rw [a];exact aT hp
  have c:∀ {o:Nat},closed H2.length (.pointer (some ⟨σ.length+2,o,none⟩))=true:=fun {o}=>Nat.blt_eq.mpr (by rw [f];exact Nat.lt_succ_of_lt J)
  have m:∀ {o:Nat},closed H2.length (.pointer (some ⟨H.length,o,none⟩))=true:=fun {o}=>Nat.blt_eq.mpr (by rw [f];exact Nat.lt_succ_self _)
  have j:closed H2.length (eu g 2 (i+1))=true:=kW (Nat.blt_eq.mpr oO)
  have hq3:∀ X,aH (H2++X) (σ.length+2) (0+2)=some (eu g 2 (i+1)):=fun X=>aF (aA b3)
  have G:∀ X,aH (H2++X) H.length (0+0)=some (.i (B.ang i)):=fun X=>aF (aA b5)
  have E:∀ X,aH (H2++X) H.length (0+1+0)=some (.i (B.tlo i)):=fun X=>aF (aA b5)
  have I:∀ X,aH (H2++X) H.length (0+1+1)=some (.i (B.thi i)):=fun X=>aF (aA b5)
  have d:g ≠ σ.length+2:=by intro h;rw [h,hr] at hg;cases hg
  have L:(H2++[aB.rw [.i (B.tlo i - B.ang i),.i (B.thi i - B.ang i)]])[g]?=some (.gr (rgC B.tu (i+1)) 23):=aA F
  have u:(rgC B.tu (i+1)).length=(i+1)*2:=vH _ _
  have t:aK (H2++[aB.rw [.i (B.tlo i - B.ang i),.i (B.thi i - B.ang i)]]) (H2++([]:Heap)).length 0 (1*2)=some [.i (B.tlo i - B.ang i),.i (B.thi i - B.ang i)]:=by rw [bL];exact dX rfl
  have hput:∀ v x,putCells ((H2++[aB.rw [.i (B.tlo i - B.ang i),.i (B.thi i - B.ang i)]]).set g .dead++x) (σ.length+2) (0+2) [v]=some (((H2++[aB.rw [.i (B.tlo i - B.ang i),.i (B.thi i - B.ang i)]]).set g .dead++x).set (σ.length+2) (.rw [.s sb B.n cS,.i B.most,v])):=fun v x=>fZ (aA (aC (aA b3) d)) oS oS rfl
  clear a hd1
  refine Late.Bz 0 18 (id:=5) oK rfl ?_
  repeat' (first|refine sCm ?_|(refine gU ?_;first|refine st (jh oR oR rfl (by exact L) (by exact u) rfl (by exact t) oO oR oO oD) rfl rfl ?_|(refine dZ ?_;refine stN (bF rfl rfl rfl rfl (by exact hput _ _)) rfl ?_))|(refine fU ?_;first|refine jM ?_;refine frA (bV rfl) rfl ?_ c|refine Oz ?_;refine frA (kE rfl) rfl ?_ c|refine fFA ?_;refine frA (aW rfl) rfl ?_ c|refine fFA ?_;refine frA (aW rfl) rfl ?_ m|refine gY ?_;refine frA (aJ rfl (by exact hq3 _)) rfl ?_ j|refine gY ?_;refine frA (aJ rfl (by exact G _)) rfl ?_ rfl|refine gY ?_;refine frA (aJ rfl (by exact E _)) rfl ?_ rfl|refine gY ?_;refine frA (aJ rfl (by exact I _)) rfl ?_ rfl|(refine fSub ?_;refine fr (jB rfl rfl oO oO) oR rfl ?_)|(refine E5 ?_;refine fr (iE oR rfl oR) oR rfl ?_)|(refine xA ?_;refine frN (fO oR oR oR oR rfl oR) lS rfl rfl rfl ?_))|(refine gu ⟨oK,?_⟩)|refine aG ?_|refine Late.split ?_ rfl rfl rfl rfl ?_)
  all_goals
   refine ⟨(i+1,H2.length+1),⟨by dsimp only;omega,rfl,take_set (aT (take_set (aT hp2) oO)) oO,?_,by dsimp only;omega,?_⟩,by dsimp only;omega,tE⟩
   ·rw [aS (aA (aC (aA b3) d))]
    show some (aB.rw [_,_,eu (List.length (H2++[_])) 2 (i+1+1)])=_
    rw [aR];rfl
   ·exact aC (bK oS) (by dsimp only;omega)
 ·obtain rfl:i=B.n:=oO
  have M:¬ ((B.n:Nat):Int)<(B.n:Nat):=oO
  refine Ue ?_
  have d:g ≠ σ.length+2:=by intro h;rw [h,hr] at hg;cases hg
  have D:sb < σ.length:=dL (hS.st 0 oO)
  have s0:fV σ.length [σ.length+2,g] σ.length=⟨σ.length+2,0,0⟩:=by simp [fV]
  have s1:fV σ.length [σ.length+2,g] (σ.length+1)=⟨g,0,0⟩:=by simp [fV];omega
  have N:jS (σ.length+2) (fV σ.length [σ.length+2,g]) (.p σ.length) (.p (σ.length+2)):=by
   have:=VQ.ptr (q:=true) (n:=σ.length+2) (ρ:=fV σ.length [σ.length+2,g]) σ.length 0 oO;rw [s0] at this;exact this
  refine dM (v2:=.p σ.length) (σ2:=σ++[aB.rw (B.cs sb cS (σ.length+1) (B.n+1)),aB.rw (rgC B.tu (B.n+1))]) (.tmp rfl .nil) (aY.src [.rw (B.cs sb cS (σ.length+1) (B.n+1)),.rw (rgC B.tu (B.n+1))] [σ.length+2,g] hp rfl (by simp [dG];omega) ⟨tC s0 (.inl hr) rfl fun x h1 h2=>?_,vk s1 (.inr ⟨_,hg⟩) (yQ _ _),trivial⟩ N) ⟨rfl,rfl⟩
  have hx:x<3:=h1
  rcases (by omega:x=0∨x=1∨x=2) with rfl|rfl|rfl
  ·exact lI (by simp;omega) (fJ D) (aD _)
  ·exact .int _ _
  ·exact kG oS s1
theorem Bd {K:Heap} {x y:aB}:(K++[x,y])[K.length]?=some x:=oS
theorem wV {K:Heap} {x y:aB}:(K++[x,y])[K.length+1]?=some y:=by rw [bE oO];simp
theorem Gl {H:Heap} {b n i:Nat} {f:Nat→Int×Int} (h:H[b]?=some (.rw (rgC f n))) (hi:i<n):aK H b (i*2) 2=some [.i (f i).1,.i (f i).2]:=by
 have hl:=vH f n
 unfold aK
 rw [h]
 have hb:Nat.ble (i*2+2) (rgC f n).length=true:=by rw [hl,Nat.ble_eq];omega
 simp only [hb,cond_true,WA hi]
theorem aeQ {K:Heap} {B:Bld} {sb cS:Nat} (hS:LU K B sb):lK (K++[.rw (B.cs sb cS (K.length+1) (B.n+1)),.rw (rgC B.tu (B.n+1))]) B K.length sb cS (K.length+1) (B.n+1) :=
 ⟨Bd,fun j hj=>by have h4:=hS.st j hj;rw [jk (dL h4)];exact h4,fun j hj=>Gl wV oO⟩
theorem Uf {σ H:Heap} {B:Bld} {sb cS i j:Nat} {f:Value} (hp:H.take σ.length=σ) (hb:H[i]?=some (.rw (B.cs sb cS j (B.n+1)))) (ht:H[j]?=some (.rw (rgC B.tu (B.n+1)))) (hi:σ.length≤i) (hj:σ.length≤j) (hij:i ≠ j) (hsb:sb < σ.length) (hf:AH.plain f=true) :
  aY σ H (.tuple #[.p i,f]) (.tuple #[.p σ.length,f]) (σ++[.rw (B.cs sb cS (σ.length+1) (B.n+1)),.rw (rgC B.tu (B.n+1))]):=by
 have s0:fV σ.length [i,j] σ.length=⟨i,0,0⟩:=by simp [fV]
 have s1:fV σ.length [i,j] (σ.length+1)=⟨j,0,0⟩:=by simp [fV];omega
 have a:jS (σ.length+2) (fV σ.length [i,j]) (.p σ.length) (.p i):=by
  have:=VQ.ptr (q:=true) (n:=σ.length+2) (ρ:=fV σ.length [i,j]) σ.length 0 oO;rw [s0] at this;exact this
 refine aY.src [.rw (B.cs sb cS (σ.length+1) (B.n+1)),.rw (rgC B.tu (B.n+1))] [i,j] hp rfl (by simp [dG];omega) ⟨tC s0 (.inl hb) rfl fun x h1 h2=>?_,vk s1 (.inl ht) (yQ _ _),trivial⟩ (tJ a (aZ _ hf))
 have hx:x<3:=h1
 rcases (by omega:x=0∨x=1∨x=2) with rfl|rfl|rfl
 ·exact lI (by simp;omega) (fJ hsb) (aD _)
 ·exact .int _ _
 ·exact lI oS s1 (aD _)
theorem ZL {σ:Heap} {a l h d:Int} (hs:-100≤a∧a≤100∧-100≤l∧l≤h∧h≤100∧1≤d∧d≤9) (hni:σ.all (fun o=>!aU o)=true):Ev Tryz.prog 193 [.agg #[.i a,.i l,.i h,.i d]] σ (.bool false) σ:=by
 refine aI σ.length 30 Tryz.func193 rfl rfl rfl rfl rfl ?_
 have a0:(σ++[aB.rw [.i a,.i l,.i h,.i d]])[σ.length]?=some (.rw [.i a,.i l,.i h,.i d]):=aO
 have a1:(σ++[aB.rw [.i a,.i l,.i h,.i d]]++[aB.rw (ints [a,l,h])])[σ.length]?=some (.rw [.i a,.i l,.i h,.i d]):=aA aO
 have hf1:=Ba (σ:=σ++[aB.rw [.i a,.i l,.i h,.i d]]++[aB.rw (ints [a,l,h])]) (l:=[a,l,h]) (lo:=-100) (hi:=100) (x:=(σ++[aB.rw [.i a,.i l,.i h,.i d]]).length) (c:=3) (.inr (.inl aO)) oS (bG (bG hni rfl) rfl)
 have hf2:=Ba (σ:=σ++[aB.rw [.i a,.i l,.i h,.i d]]++[aB.rw (ints [a,l,h])]++[aB.rw (ints [d])]) (l:=[d]) (lo:=1) (hi:=9) (x:=(σ++[aB.rw [.i a,.i l,.i h,.i d]]++[aB.rw (ints [a,l,h])]).length) (c:=1) (.inr (.inl aO)) oS (bG (bG (bG hni rfl) rfl) rfl)
 rw [decide_eq_true (by simp;omega)] at hf1 hf2
 have hgt:¬ l > h:=oO
 repeat' (first|refine sCm ?_|(refine gU ?_;first|(refine bW ?_;refine st (aJ rfl (by exact iG rfl)) rfl rfl ?_)|(refine kQ ?_;refine st (jK rfl (by first|rfl|exact bM oA) rfl) rfl rfl ?_)|(refine rV ?_;refine st (lH rfl) rfl rfl ?_)|(refine eG ?_;refine st (bH rfl rfl rfl (by exact hf1)) rfl rfl ?_)|(refine lV ?_;refine st (fO oR oR oR oR rfl oR) rfl rfl ?_))|(refine gG ?_;first|(refine gFA ?_;refine stG rfl (by first|rfl|exact bM oA) (aW rfl) rfl rfl ?_)|(refine bW ?_;refine stG rfl (by first|rfl|exact bM oA) (aJ rfl (by exact aF a1)) rfl rfl ?_)|(refine nK ?_;refine stG rfl oR (fE rfl rfl rfl) rfl rfl ?_)|(refine rV ?_;refine stG rfl (by exact bM oA) (lH rfl) rfl rfl ?_)|(refine eG ?_;refine stG rfl (by exact bM oA) (bH rfl rfl rfl (by exact hf2)) rfl rfl ?_)|(refine lV ?_;refine stG rfl (by exact bM oA) (fO oR oR oR oR rfl oR) rfl rfl ?_))|refine aG ?_)
 exact dM (.tmp rfl .nil) (.plain oS rfl) ⟨rfl,rfl⟩
theorem LV {σ:Heap} {B:Bld} {sb cS:Nat} (hv:yg B) (hS:LU σ B sb) (hni:σ.all (fun o=>!aU o)=true) :
  Ev Tryz.prog 92 [.agg #[.s sb B.n cS,.i B.most]] σ (.i 0) σ:=by
 refine aI σ.length 26 Tryz.func92 rfl rfl rfl rfl rfl ?_
 have hn:=hv.n
 have hm:=hv.most
 have a0:(σ++[aB.rw [.s sb B.n cS,.i B.most]])[σ.length]?=some (.rw [.s sb B.n cS,.i B.most]):=aO
 have hn0:¬ (B.n:Int)=0:=oO
 have hn3:¬ (B.n:Int) > 20:=oO
 have hf1:=aco (σ:=σ++[aB.rw [.s sb B.n cS,.i B.most]]) (b:=sb) (n:=B.n) (c:=cS) (p:=[]) (q:=[]) (f:=193) (el:=fun i=>[.i (B.ang i),.i (B.tlo i),.i (B.thi i),.i (B.hard i)]) (pb:=fun _=>false) (fun j hj=>by have h4:=hS.st j hj;rw [jk (dL h4)];exact h4) (fun j hj=>ZL (hv.st j hj) (bG hni rfl)) oO
 rw [show decide (∃ j<B.n,(fun _:Nat=>false) j=true)=false by simp] at hf1
 have hf2:=Ba (σ:=σ++[aB.rw [.s sb B.n cS,.i B.most]]++[aB.rw (ints [B.most])]) (l:=[B.most]) (lo:=0) (hi:=200) (x:=(σ++[aB.rw [.s sb B.n cS,.i B.most]]).length) (c:=1) (.inr (.inl aO)) oS (bG (bG hni rfl) rfl)
 rw [decide_eq_true (by simp;omega)] at hf2
 repeat' (first|refine sCm ?_|(refine gU ?_;first|(refine bW ?_;refine st (aJ rfl (by exact iG rfl)) rfl rfl ?_)|(refine kQ ?_;refine st (jK rfl (by exact bM oA) rfl) rfl rfl ?_)|(refine rV ?_;refine st (lH rfl) rfl rfl ?_)|(refine eG ?_;refine st (bH rfl rfl rfl (by first|exact hf1|exact hf2)) rfl rfl ?_)|(refine lV ?_;refine st (fO oR oR oR oR rfl oR) rfl rfl ?_))|(refine gG ?_;first|(refine gFA ?_;refine stG rfl (by exact bM oA) (aW rfl) rfl rfl ?_)|(refine bW ?_;refine stG rfl (by exact bM oA) (aJ rfl (by exact iG rfl)) rfl rfl ?_)|(refine nK ?_;refine stG rfl (by exact bM oA) (fE rfl rfl rfl) rfl rfl ?_)|(refine wY ?_;refine stG rfl (by exact bM oA) (jC rfl) rfl rfl ?_))|refine aG ?_|refine iM rfl (by first|rfl|exact bM oA) ?_)
 exact dM (.tmp rfl .nil) (.plain oS rfl) ⟨rfl,rfl⟩
theorem acT {σ:Heap} {B:Bld} {sb cS:Nat} (hv:yg B) (hS:LU σ B sb) (hni:σ.all (fun o=>!aU o)=true) :
  Ev Tryz.prog 85 [.agg #[.s sb B.n cS,.i B.most]] σ (.tuple #[.p σ.length,.i 0]) (σ++[.rw (B.cs sb cS (σ.length+1) (B.n+1)),.rw (rgC B.tu (B.n+1))]):=by
 refine aI σ.length 12 Tryz.func85 rfl rfl rfl rfl rfl ?_
 have a0:(σ++[aB.rw [.s sb B.n cS,.i B.most]])[σ.length]?=some (.rw [.s sb B.n cS,.i B.most]):=aO
 have a:LU (σ++[aB.rw [.s sb B.n cS,.i B.most]]) B sb:=⟨fun j hj=>by have h4:=hS.st j hj;rw [jk (dL h4)];exact h4⟩
 have hf1:=LV (cS:=cS) hv a (bG hni rfl)
 have hf2:=Hf (cS:=cS) hv a
 repeat' (first|refine sCm ?_|(refine gU ?_;first|(refine bW ?_;refine st (bD rfl (by exact aV a0 rfl)) rfl rfl ?_)|(refine eG ?_;refine st (bH rfl rfl rfl (by first|exact hf1|exact hf2)) rfl rfl ?_))|refine aG ?_|refine iM rfl oR ?_)
 have c:sb < σ.length:=dL (hS.st 0 (by have:=hv.n;omega))
 refine dM (.tmp rfl (.tmp rfl .nil)) (Uf oS Bd wV oS (by simp;omega) oO c rfl) ⟨rfl,rfl⟩
theorem aha {σ:Heap} {B:Bld} {sb cS i:Nat} (hv:yg B) (hS:LU σ B sb) (hi:i<B.n) (hni:σ.all (fun o=>!aU o)=true) :
  Ev Tryz.prog 110 [.agg #[.s sb B.n cS,.i B.most],.i (i:Nat)] σ (.tuple #[.p σ.length,.i 0]) (σ++[.rw (B.cs sb cS (σ.length+1) (B.n+1)),.rw (rgC B.tu (B.n+1))]):=by
 refine aI σ.length 28 Tryz.func110 rfl rfl rfl rfl rfl ?_
 have a0:∀ X,(σ++[aB.rw [.s sb B.n cS,.i B.most]]++X)[σ.length]?=some (.rw [.s sb B.n cS,.i B.most]):=fun X=>aA aO
 have a1:=a0 []
 rw [bL] at a1
 have a2:=a0 [.rw (B.cs sb cS ((σ++[aB.rw [.s sb B.n cS,.i B.most]]).length+1) (B.n+1)),.rw (rgC B.tu (B.n+1))]
 have a:LU (σ++[aB.rw [.s sb B.n cS,.i B.most]]) B sb:=⟨fun j hj=>by have h4:=hS.st j hj;rw [jk (dL h4)];exact h4⟩
 have hf1:=acT (cS:=cS) hv a (bG hni rfl)
 have hi0:¬ ((i:Nat):Int)<0:=oO
 have hi1:¬ ((i:Nat):Int)≥(B.n:Nat):=oO
 clear a0
 have a0:=a1
 repeat' (first|refine sCm ?_|(refine gU ?_;first|(refine bW ?_;refine st (bD rfl (by exact aV a0 rfl)) rfl rfl ?_)|(refine kQ ?_;refine st (jK rfl oR rfl) rfl rfl ?_)|(refine eG ?_;refine st (bH rfl rfl rfl (by exact hf1)) rfl rfl ?_))|(refine gG ?_;first|(refine kP ?_;refine stG rfl oR (bV rfl) rfl rfl ?_)|(refine gFA ?_;refine stG rfl oR (aW rfl) rfl rfl ?_)|(refine bW ?_;refine stG rfl oR (aJ rfl (by exact aF a2)) rfl rfl ?_)|(refine nK ?_;refine stG rfl oR (fE rfl rfl rfl) rfl rfl ?_)|(refine wY ?_;refine stG rfl oR (jC rfl) rfl rfl ?_))|refine aG ?_|refine iM rfl (by first|rfl|exact bM oA) ?_)
 have c:sb < σ.length:=dL (hS.st 0 (by have:=hv.n;omega))
 refine dM (.tmp rfl (.tmp rfl .nil)) (Uf oS Bd wV oS (by simp;omega) oO c rfl) ⟨rfl,rfl⟩
end Go.Proofs.YtajpgeklmcjciaaGreat
namespace Go.AH
open Go
def Frm (σ:Heap) (b:Nat) (H:Heap):Prop:=σ.length≤H.length∧∀ i < σ.length,i ≠ b→H[i]?=σ[i]?
theorem Frm.set {σ:Heap} {b:Nat} {o:aB}:Frm σ b (σ.set b o):=⟨by simp,fun i _ a=>by rw [eN (Ne.symm a)]⟩
theorem Frm.refl {σ:Heap} {b:Nat}:Frm σ b σ:=⟨aD _,fun _ _ _=>rfl⟩
def su (D:Int→Bool) (L:List Int):List Int:=L.filter fun x=>!D x
theorem pR {D:Int→Bool} {L:List Int} {x:Int}:su D (L++[x])=if D x then su D L else su D L++[x]:=by
 unfold su
 cases h:D x <;> simp [h]
theorem ZM (D:Int→Bool) (L:List Int):(su D L).length≤L.length:=List.length_filter_le _ _
theorem xR {L:List Int} {j:Nat} (h:j<L.length):L.take (j+1)=L.take j++[gi L j]:=by
 rw [List.take_add_one];simp [gi,h]
theorem aeR {L M:List Int} {j:Nat} (h:M.drop j=L.drop j) (hj:j<L.length) (hM:M.length=L.length):gi M j=gi L j:=by
 have h1:(M.drop j)[0]?=(L.drop j)[0]?:=by rw [h]
 rw [eO,eO,cV] at h1
 unfold gi
 rw [cE,cE,h1]
theorem gi_in {L:List Int} {j:Nat} (h:j<L.length):gi L j ∈ L:=by unfold gi;rw [cE,cC h];exact cQ h
theorem Bf:∀ m,iR (dU (Value.i 0)) m=ints (List.replicate m 0)
 |0=>rfl
 |m+1=>by rw [List.replicate_succ];show dU (Value.i 0)++iR _ m=_;rw [Bf m];rfl
end Go.AH
namespace Go.Proofs.YtajpgeklmcjciaaGreat
open Go Go.AH
attribute [local irreducible] dA bP bT jL gX dQ fF bZ fB aY dY fA
open Go.AH.Heat Go.AH.Warp
theorem Qj {A B:Prop} (k:B) (h:Hide B→A:=by intro h_k_;(repeat' (first|refine sCm ?_|(refine gU ?_;first|(refine bW ?_;refine st (aJ rfl (by exact hd1)) rfl rfl ?_)|(refine gIA ?_;refine st (iw rfl rfl (by omega)) rfl rfl ?_)|(refine eG ?_;refine st (bH rfl rfl rfl (by exact hcall k hkn)) rfl rfl ?_))|refine aG ?_|refine jc rfl (by first|rfl|exact dW (by assumption)|assumption) ?_|refine iM rfl (by first|rfl|exact bM (by assumption)|assumption) ?_));exact h_k_.h):A:=h ⟨k⟩
theorem acU {σ:Heap} {b n c:Nat} {el:Nat→Value} {f:FuncId} [GoFn Tryz.prog f] {p q:List Value} {pb:Nat→Bool} (hb:∀ j<n,aH σ b j=some (el j)) (hcall:∀ j<n,Ev Tryz.prog f (p++[el j]++q) σ (.bool (pb j)) σ) (hn:n≤1000000) :
  Ev Tryz.prog 102 [.s b n c,.func (.func f) p.toArray q.toArray] σ (.i (fIx pb n)) σ:=by
 refine aI σ.length 19 Tryz.func102 rfl rfl rfl rfl rfl ?_
 refine Qj ?_
 refine dV (ι:=Nat) (fun k=>[(0,.s b n c),(1,.func (.func f) p.toArray q.toArray),(7,.i (n:Nat)),(8,.i (k:Nat))]) (fun k mk H=>k≤n∧mk=[]∧σ=H∧∀ j<k,pb j=false) (fun k=>n - k) 0 tE ⟨bN _,rfl,rfl,fun j h=>oO⟩ ?_
 rintro k mk H ⟨hk,rfl,rfl,a⟩
 by_cases hkn:k<n
 ·have e:(k:Int)<(n:Nat):=oO
  have hd1:aH σ b k=some (el k):=hb k hkn
  by_cases hp:pb k=true
  ·refine Qj ?_
   refine dM (.tmp rfl .nil) .all ⟨?_,rfl⟩
   simp only [kL]
   rw [Ey hkn hp a]
  ·have d:pb k=false:=by simpa using hp
   refine Qj ?_
   exact ⟨k+1,⟨oO,rfl,rfl,fun j hj=>by
    by_cases g:j=k
    ·rw [g];exact d
    ·exact a j oO⟩,oO,tE⟩
 ·obtain rfl:k=n:=oO
  have e:¬ (k:Int)<(k:Nat):=oO
  refine Qj ?_
  refine dM (.tmp rfl .nil) .all ⟨?_,rfl⟩
  simp only [kL]
  rw [AX a]
theorem Gm {A B:Prop} (k:B) (h:Hide B→A:=by intro h_k_;(repeat' (first|refine sCm ?_|(refine gU ?_;first|(refine bW ?_;refine st (aJ rfl (by exact hd1)) rfl rfl ?_)|(refine rV ?_;refine st (lH rfl) rfl rfl ?_)|(refine gIA ?_;refine st (iw rfl rfl (by omega)) rfl rfl ?_)|(refine Oy ?_;first|refine st (MQ rfl rfl (by omega)) rfl rfl ?_|refine st (Bq rfl rfl (by omega) (by omega)) rfl rfl ?_)|(refine eG ?_;refine st (bH rfl rfl rfl (by first|exact hf1|exact hf2)) rfl rfl ?_)|(refine dZ ?_;refine stN (bF rfl rfl rfl rfl (by exact hput)) rfl ?_))|refine aG ?_|refine jc rfl (by first|rfl|exact dW (by assumption)) ?_|refine iM rfl (by first|rfl|exact bM (by assumption)) ?_));exact h_k_.h):A:=h ⟨k⟩
theorem ahb {σ:Heap} {b n c:Nat} {L:List Int} {f:FuncId} [GoFn Tryz.prog f] {p q:List Value} {D:Int→Bool} (hL:L.length=n) (hnc:n≤c) (hn2:n≤1000) (hb:σ[b]?=some (.rw (ints L)))
  (hcall:∀ H,Frm σ b H→∀ x ∈ L,Ev Tryz.prog f (p++[.i x]++q) H (.bool (D x)) H) :
  Ev Tryz.prog 221 [.s b n c,.func (.func f) p.toArray q.toArray] σ (.s b (su D L).length c) (σ.set b (.rw (ints (su D L++List.replicate (n - (su D L).length) 0)))):=by
 refine aI σ.length 42 Tryz.func221 rfl rfl rfl rfl rfl ?_
 have hbl:=aQ hb
 have hf1:=acU (σ:=σ) (b:=b) (n:=n) (c:=c) (f:=f) (p:=p) (q:=q) (el:=fun j=>.i (gi L j)) (pb:=fun j=>D (gi L j)) (fun j hj=>by rw [aF hb];exact ig oO) (fun j hj=>hcall σ .refl _ (gi_in oO)) oO
 by_cases w:∃ j<n,D (gi L j)=true
 ·obtain ⟨i0,hi0,E,v,F⟩:∃ i0<n,fIx (fun j=>D (gi L j)) n=(i0:Nat)∧D (gi L i0)=true∧∀ j<i0,D (gi L j)=false:=by
   have h1:=PX (p:=fun j=>D (gi L j)) (n:=n)
   unfold fIx at h1 ⊢
   cases hfd:(List.range n).find? (fun j=>D (gi L j)) with
   |none =>
    rw [List.find?_eq_none] at hfd
    obtain ⟨j,hj,hD⟩:=w
    exact absurd hD (hfd j (List.mem_range.2 hj))
   |some i =>
    rw [List.find?_range_eq_some] at hfd
    exact ⟨i,List.mem_range.1 hfd.2.1,rfl,hfd.1,fun j hj=>by simpa using hfd.2.2 j hj⟩
  rw [E] at hf1
  have hne:¬ ((i0:Nat):Int)=-1:=oO
  refine Gm ?_
  have a:∀ j,j≤i0→su D (L.take j)=L.take j:=by
   intro j
   induction j with
   |zero=>intro _;simp [su]
   |succ j ih=>intro h;rw [xR oO,pR,F j oO,ih oO];simp
  refine dV (ι:=Nat×Nat) (fun k=>[(0,.s b n c),(1,.func (.func f) p.toArray q.toArray),(5,.i (k.1:Nat)),(6,.i (k.2:Nat))])
   (fun k mk H=>k.1<k.2∧k.2≤n∧mk=[]∧∃ M:List Int,H=σ.set b (.rw (ints M))∧M.length=n∧M.take k.1=su D (L.take k.2)∧k.1=(su D (L.take k.2)).length∧M.drop k.2=L.drop k.2) (fun k=>n - k.2) (i0,i0+1) tE ⟨by dsimp only;omega,by dsimp only;omega,rfl,L,(set_self hb).symm,hL,?_,?_,rfl⟩ ?_
  ·dsimp only;rw [xR oO,pR,v,a i0 (aD _)];rfl
  ·dsimp only;rw [xR oO,pR,v,a i0 (aD _)];simp;omega
  clear hf1 a
  rintro ⟨i,j⟩ mk H ⟨z,C,rfl,M,rfl,hM,g,o,t⟩
  dsimp only at z C g o t
  dsimp only
  have u:(σ.set b (.rw (ints M)))[b]?=some (.rw (ints M)):=aS hb
  by_cases d:j<n
  ·have G:(j:Int)<(n:Nat):=oO
   have hiI:(i:Int)<(n:Nat):=oO
   have hd1:aH (σ.set b (.rw (ints M))) b j=some (.i (gi L j)):=by rw [aF u,ig oO,aeR t oO oO]
   have hf2:=hcall (σ.set b (.rw (ints M))) .set (gi L j) (gi_in oO)
   have hput:putCells (σ.set b (.rw (ints M))) b i [.i (gi L j)]=some ((σ.set b (.rw (ints M))).set b (.rw (ints (M.set i (gi L j))))) :=
    fZ u (by rw [cZ];simp;omega) (by rw [cZ];omega) (BL oO)
   rw [cX] at hput
   by_cases hD:D (gi L j)=true
   ·rw [hD] at hf2
    refine Gm ?_
    refine ⟨(i,j+1),⟨by dsimp only;omega,d,rfl,M,rfl,hM,?_,?_,?_⟩,by dsimp only;omega,tE⟩
    ·dsimp only;rw [xR oO,pR,if_pos hD];exact g
    ·dsimp only;rw [xR oO,pR,if_pos hD];exact o
    ·dsimp only;rw [← fk,← fk,t]
   ·have hD:D (gi L j)=false:=by simpa using hD
    rw [hD] at hf2
    refine Gm ?_
    refine ⟨(i+1,j+1),⟨by dsimp only;omega,d,rfl,M.set i (gi L j),rfl,by simpa using hM,?_,?_,?_⟩,by dsimp only;omega,tE⟩
    ·dsimp only;rw [xR (L:=L) oO,pR,hD,← g,List.take_add_one,List.take_set_of_le (aD _)];simp [show i<M.length by omega]
    ·dsimp only;rw [xR oO,pR,hD];simp;omega
    ·dsimp only;rw [List.drop_set_of_lt oO,← fk,← fk,t]
  ·obtain rfl:j=n:=oO
   have G:¬ ((j:Nat):Int)<(j:Nat):=oO
   rw [List.take_of_length_le (l:=L) (i:=j) oO] at g o
   rw [← o]
   have hz:(iR (dU (Value.i 0)) (j - i))=ints (List.replicate (j - i) 0):=Bf _
   have m:putCells (σ.set b (.rw (ints M))) b i (ints (List.replicate (j - i) 0))=some (σ.set b (.rw (ints (su D L++List.replicate (j - i) 0)))):=by
    rw [fZ u (by rw [cZ,cZ];simp;omega) (by rw [cZ];omega) rfl,cX]
    have e:splice (ints M) i (ints (List.replicate (j - i) 0))=ints (su D L++List.replicate (j - i) 0):=by
     rw [← g]
     simp only [splice,ints,eC,List.map_take,cU,fN]
     rw [eL (by simp;omega),bL]
    rw [e]
   refine Gm ?_
   refine gU ?_
   refine stN (DU oR oR rfl oO (by rw [hz];exact kM _) (by rw [hz,show 0+i*1=i by omega];exact m)) rfl ?_
   refine Gm ?_
   exact dM (.tmp rfl .nil) .all ⟨rfl,rfl⟩
 ·have y:∀ j<n,D (gi L j)=false:=fun j hj=>by
   cases h:D (gi L j) with
   |false=>rfl
   |true=>exact absurd ⟨j,hj,h⟩ w
  rw [AX y] at hf1
  have hk:su D L=L:=by
   have:∀ j,j≤n→su D (L.take j)=L.take j:=by
    intro j
    induction j with
    |zero=>intro _;simp [su]
    |succ j ih=>intro h;rw [xR oO,pR,y j oO,ih oO];simp
   have h1:=this n (aD _)
   rwa [List.take_of_length_le (l:=L) (i:=n) oO] at h1
  rw [hk,hL,cY,List.replicate_zero,bL,set_self hb]
  refine Gm ?_
  exact dM (.tmp rfl .nil) .all ⟨rfl,rfl⟩
end Go.Proofs.YtajpgeklmcjciaaGreat
namespace Go.AH.Warp
open Go Go.AH
def Hg (K:List Int):Value:=.tuple (if K=[] then #[.agg #[.int .i64 0,.int .i64 0],.int .i64 18] else #[.agg #[.int .i64 (gi K 0),.int .i64 (gi K (K.length - 1))],.int .i64 0])
end Go.AH.Warp
namespace Go.Proofs.YtajpgeklmcjciaaGreat
open Go Go.AH
attribute [local irreducible] dA bP bT jL gX dQ fF bZ fB aY dY fA
open Go.AH.Heat Go.AH.Warp
theorem acV {H:Heap} {fb:Nat} {g:FuncId} [GoFn Tryz.prog g] {p q:List Value} {x:Int} {r:Bool} (hbox:H[fb]?=some (.rw [.func (.func g) p.toArray q.toArray])) (hc:Ev Tryz.prog g (p++[.i x]++q) H (.bool r) H) :
  Ev Tryz.prog 222 [.i x,.p fb] H (.bool (!r)) H:=by
 refine aI H.length 8 Tryz.func222 rfl rfl rfl rfl rfl ?_
 have a0:=hbox
 repeat' (first|refine sCm ?_|(refine gU ?_;first|(refine bW ?_;refine st (aJ rfl (by exact aF a0)) rfl rfl ?_)|(refine rV ?_;refine st (lH rfl) rfl rfl ?_)|(refine eG ?_;refine st (bH rfl rfl rfl (by exact hc)) rfl rfl ?_))|refine aG ?_)
 exact dM (.tmp rfl .nil) .all ⟨rfl,rfl⟩
theorem WC {A B:Prop} (k:B) (h:Hide B→A:=by intro h_k_;(repeat' (first|refine sCm ?_|(refine gU ?_;first|(refine EX ?_;refine st (iO rfl rfl) rfl rfl ?_)|(refine eG ?_;refine st (bH rfl rfl rfl (by exact hf1)) rfl rfl ?_)|(refine dZ ?_;refine stN (bF rfl rfl rfl rfl (by exact hput _ _)) rfl ?_))|(refine fU ?_;first|refine jM ?_;refine frA (bV rfl) rfl ?_ hcls|refine fIA ?_;refine frA (nX rfl rfl (by omega) (by omega)) rfl ?_ hclp|refine gY ?_;refine frA (aJ rfl (by exact hq0 _)) rfl ?_ rfl|refine gY ?_;refine frA (aJ rfl (by exact hq1 _)) rfl ?_ rfl|(refine fSub ?_;refine fr (jB rfl rfl (by omega) (by omega)) (by rfl) rfl ?_)|(refine QX ?_;refine fr (jC rfl) (by rfl) rfl ?_)|(refine E5 ?_;refine fr (iE (by rfl) rfl (by rfl)) (by rfl) rfl ?_))|(refine gu ⟨by kernel_rfl,?_⟩)|refine dD (id:=2) ?_|refine aG ?_));exact h_k_.h):A:=h ⟨k⟩
theorem aeS {σ:Heap} {b n c:Nat} {L:List Int} {g:FuncId} [GoFn Tryz.prog g] {p q:List Value} {G:Int→Bool} (hL:L.length=n) (hnc:n≤c) (hn2:n≤1000) (hb:σ[b]?=some (.rw (ints L)))
  (hcall:∀ H,Frm σ b H→∀ x ∈ L,Ev Tryz.prog g (p++[.i x]++q) H (.bool (G x)) H) :
  Ev Tryz.prog 113 [.s b n c,.func (.func g) p.toArray q.toArray] σ (Hg (L.filter G)) (σ.set b (.rw (ints (L.filter G++List.replicate (n - (L.filter G).length) 0)))):=by
 refine aI σ.length 23 Tryz.func113 rfl rfl rfl rfl rfl ?_
 have C:=aQ hb
 have d:∀ H,Frm (σ++[aB.rw [.func (.func g) p.toArray q.toArray]]++[aB.rw [.i 0,.i 0]]) b H→Frm σ b H∧H[σ.length]?=some (.rw [.func (.func g) p.toArray q.toArray]):=fun H h=>by
  refine ⟨⟨by have:=h.1;simp at this;omega,fun i hi E=>?_⟩,?_⟩
  ·rw [h.2 i (by simp;omega) E,cD,bR hi]
  ·rw [h.2 σ.length oS oO];exact aA aO
 have y:=ZM (fun x=>!G x) L
 have j:su (fun x=>!G x) L=L.filter G:=congrArg (fun f=>L.filter f) (funext fun x=>Bool.not_not (G x))
 have hf1:=ahb (σ:=σ++[aB.rw [.func (.func g) p.toArray q.toArray]]++[aB.rw [.i 0,.i 0]]) (p:=[]) (q:=[.p σ.length]) (f:=222) (D:=fun x=>!G x) hL hnc hn2 (aA (aA hb)) (fun H hH x hx=>acV (d H hH).2 (hcall H (d H hH).1 x hx))
 rw [j] at hf1 y
 refine WC ?_
 generalize L.filter G=K at hf1 y ⊢
 obtain ⟨H,hH⟩:∃ H,H=(σ++[aB.rw [.func (.func g) p.toArray q.toArray]]++[aB.rw [.i 0,.i 0]]).set b (.rw (ints (K++List.replicate (n - K.length) 0))):=⟨_,rfl⟩
 refine .mk (dJ [(0,.s b K.length c),(4,.p (σ.length+1)),(5,.i 0)] H hH.symm ⟨rfl,(by refine congrArg (fun n=>some (Value.p n)) ?_;simp),rfl,trivial⟩ ?_)
 have t:H=σ.set b (.rw (ints (K++List.replicate (n - K.length) 0)))++[aB.rw [.func (.func g) p.toArray q.toArray],aB.rw [.i 0,.i 0]]:=by
  rw [hH,cD,cI _ _ C];rfl
 have e:∀ (v:Value) (cs:List Value),AH.plain v=true→aY σ (H.set (σ.length+1) (.rw cs)) v v (σ.set b (.rw (ints (K++List.replicate (n - K.length) 0)))):=fun v cs hv=>by
  have:=aY.upd (σ:=σ) (i:=b) (cs:=ints L) (cs':=ints (K++List.replicate (n - K.length) 0)) (x:=[aB.rw [.func (.func g) p.toArray q.toArray],aB.rw cs]) (v:=v) (bC _) C hv
  rw [set_self hb] at this
  rw [t,fL _ _ oS]
  simpa using this
 have m:H[σ.length+1]?=some (.rw [.i 0,.i 0]):=by rw [hH,eN oO];exact bK oS
 have hput:∀ u v,putCells H (σ.length+1) 0 [u,v]=some (H.set (σ.length+1) (.rw [u,v])):=fun u v=>fZ m oS oS rfl
 have a:∀ (i:Nat),i<K.length→∀ X:Heap,aH (H++X) b i=some (.i (gi K i)):=fun i hi X=>by
  have F:(H++X)[b]?=some (.rw (ints (K++List.replicate (n - K.length) 0))):=by rw [t];exact aA (aA (aS hb))
  rw [aF F,ig (by simp;omega)]
  simp [gi,cE,bR hi]
 clear hf1 d
 apply aG
 repeat' (first|refine sCm ?_|(refine gU ?_;first|(refine oQ ?_;refine st (iE oR rfl oR) rfl rfl ?_)|(refine dZ ?_;refine stN (bF rfl rfl rfl rfl (by exact hput _ _)) rfl ?_))|refine dD (id:=4) ?_|refine aG ?_|(refine ji rfl ?_ ?_ <;> intro _))
 ·have w:K=[]:=List.eq_nil_of_length_eq_zero oO
  refine dM (.cellN inferInstance rfl (aV (aS m) rfl) (.tmp rfl .nil)) (e _ _ rfl) ⟨?_,rfl⟩
  unfold Hg;rw [if_pos w];rfl
 ·refine .mk (dJ [(0,.s b K.length c),(4,.p (σ.length+1)),(5,.i 0)] H rfl tE ?_)
  have z:b<H.length∧σ.length+1<H.length:=⟨by rw [t];simp;omega,aQ m⟩
  have hq0:=a 0 oO
  have hq1:∀ X:Heap,aH (H++X) b (0+((K.length:Int) - 1).toNat*1)=some (.i (gi K (K.length - 1))):=fun X=>by rw [show 0+((K.length:Int) - 1).toNat*1=K.length - 1 by omega];exact a _ oO X
  have hcls:closed H.length (.s b K.length c)=true:=bQ (Nat.blt_eq.mpr z.1)
  have hclp:∀ {o:Nat},closed H.length (.pointer (some ⟨b,o,none⟩))=true:=fun {o}=>Nat.blt_eq.mpr z.1
  have w:K ≠ []:=fun h=>by subst h;simp at *
  refine dI oK rfl ?_
  refine WC ?_
  rw [show H++gZ (fun _=>true) []=H from bL H]
  refine WC ?_
  refine dM (.cellN inferInstance rfl (aV (aS m) rfl) (.tmp rfl .nil)) (e _ _ rfl) ⟨?_,rfl⟩
  unfold Hg;rw [if_neg w];rfl
theorem acW {A B:Prop} (k:B) (h:Hide B→A:=by intro h_k_;(repeat' (first|(refine gU ?_;first|(refine kP ?_;refine st (bV rfl) rfl rfl ?_)|(refine pW ?_;refine st (iZ rfl) rfl rfl ?_)|(refine bW ?_;refine st (aJ rfl (by exact hc1)) rfl rfl ?_)|(refine yD ?_;refine st (kK rfl rfl (by omega) (by omega)) rfl rfl ?_)|(refine nK ?_;refine st (fE rfl rfl rfl) rfl rfl ?_)|(refine kQ ?_;first|refine st (lu rfl (by exact dW (by assumption)) rfl) rfl rfl ?_|refine st (jK rfl (by exact bM (by assumption)) rfl) rfl rfl ?_)|(refine gIA ?_;refine st (nY rfl rfl (by omega) (by omega)) rfl rfl ?_))|(refine gG ?_;first|(refine kP ?_;refine stG rfl (by exact dW (by assumption)) (bV rfl) rfl rfl ?_)|(refine bW ?_;refine stG rfl (by exact dW (by assumption)) (aJ rfl (by exact hc2)) rfl rfl ?_)|(refine yD ?_;refine stG rfl (by exact dW (by assumption)) (kK rfl rfl (by omega) (by omega)) rfl rfl ?_)|(refine nK ?_;refine stG rfl (by exact dW (by assumption)) (fE rfl rfl rfl) rfl rfl ?_)|(refine gIA ?_;refine stG rfl (by exact dW (by assumption)) (nY rfl rfl (by omega) (by omega)) rfl rfl ?_)|refine stS rfl (by exact bM (by assumption)) rfl ?_)|refine zU ?_|refine aG ?_|refine l9 ?_|refine uX ?_|refine MH ?_));exact h_k_.h):A:=h ⟨k⟩
theorem ZN {H:Heap} {u v:Nat} {R S:Nat→Int} {x:Int} (hu:H[u]?=some (.rw (ints (dH R)))) (hw:H[v]?=some (.rw (ints (dH S)))) (hx:-200≤x∧x≤200) :
  Ev Tryz.prog 115 [.i x,.p u,.p v] H (.bool (decide (R (x+200).toNat<nev) && decide (S (x+200).toNat<nev))) H:=by
 refine aI H.length 17 Tryz.func115 rfl rfl rfl rfl rfl ?_
 have hc1:aH H u (0+(x+200).toNat*1)=some (.i (R (x+200).toNat)):=by rw [bA,cJ,aF hu,ig (by rw [eX];omega),vC oO]
 have hc2:aH H v (0+(x+200).toNat*1)=some (.i (S (x+200).toNat)):=by rw [bA,cJ,aF hw,ig (by rw [eX];omega),vC oO]
 by_cases h1:R (x+200).toNat<1099511627776
 ·refine acW ?_
  refine dM (.tmp rfl .nil) .all ⟨?_,rfl⟩
  simp only [kL,nev]
  rw [decide_eq_true h1,Bool.true_and]
 ·refine acW ?_
  refine dM (.tmp rfl .nil) .all ⟨?_,rfl⟩
  simp only [kL,nev]
  rw [decide_eq_false h1,Bool.false_and]
theorem La {A B:Prop} (k:B) (h:Hide B→A:=by intro h_k_;(repeat' (first|refine sCm ?_|(refine gU ?_;first|(refine bW ?_;refine st (bD rfl (by exact aV a0 rfl)) rfl rfl ?_)|(refine EX ?_;refine st (iO rfl rfl) rfl rfl ?_)|(refine eG ?_;refine st (bH rfl rfl rfl (by first|exact hf1|exact hf2|exact hf3|exact hf4)) rfl rfl ?_)|(refine dZ ?_;refine stN (bF rfl rfl rfl rfl (by exact hput3 _ _ _)) rfl ?_))|refine dD (id:=4) ?_|refine dD (id:=5) ?_|refine aG ?_|refine iM rfl (by rfl) ?_));exact h_k_.h):A:=h ⟨k⟩
theorem ZO {σ:Heap} {B:Bld} {sb cS i:Nat} (hv:yg B) (hS:LU σ B sb) (hi:i<B.n) (hni:σ.all (fun o=>!aU o)=true) :
  Ev Tryz.prog 53 [.agg #[.s sb B.n cS,.i B.most],.i (i:Nat)] σ (Hg ((numsL (-200) 401).filter fun x=>decide (iJ B.b (i+1) (x+200).toNat<nev) && decide (jl B.b (B.n - (i+1)) (x+200).toNat<nev))) σ:=by
 refine aI σ.length 34 Tryz.func53 rfl rfl rfl rfl rfl ?_
 have a0:(σ++[aB.rw [.s sb B.n cS,.i B.most]]++[aB.rw [.i 0,.i 0]])[σ.length]?=some (.rw [.s sb B.n cS,.i B.most]):=aA aO
 have hn20:=hv.n
 have E:LU (σ++[aB.rw [.s sb B.n cS,.i B.most]]++[aB.rw [.i 0,.i 0]]) B sb:=⟨fun j hj=>by have h4:=hS.st j hj;rw [cD,jk (dL h4)];exact h4⟩
 have hf1:=aha (cS:=cS) hv E hi (bG (bG hni rfl) rfl)
 refine La ?_
 obtain ⟨H0,y⟩:∃ H0,H0=σ++[aB.rw [.s sb B.n cS,.i B.most]]++[aB.rw [.i 0,.i 0]]:=⟨_,rfl⟩
 have m:H0.length=σ.length+2:=by rw [y];simp
 rw [← y] at a0 E hf1 ⊢
 obtain ⟨H1,t⟩:∃ H1,H1=H0++[aB.rw (B.cs sb cS (H0.length+1) (B.n+1)),aB.rw (rgC B.tu (B.n+1))]:=⟨_,rfl⟩
 refine .mk (dJ [(1,.i (i:Nat)),(4,.p (σ.length+1)),(6,.p (σ.length+2))] H1 t.symm ⟨rfl,(by (refine congrArg (fun n=>some (Value.p n)) ?_;simp;try omega)),(by rw [← m];rfl),trivial⟩ ?_)
 have hp1:H1.take σ.length=σ:=by rw [t,y];simp
 have J:H1.all (fun o=>!aU o)=true:=by rw [t,y];exact bG (bG (bG hni rfl) rfl) rfl
 have Q:H1[σ.length+1]?=some (.rw [.i 0,.i 0]):=by rw [t,y];exact aA (bK oS)
 have I:lK H1 B (σ.length+2) sb cS (σ.length+3) (B.n+1):=by
  rw [t,← m,show σ.length+3=H0.length+1 by omega];exact aeQ E
 clear hf1 a0 E t y m
 clear H0
 have hf1:=Qb (sn:=i+1) hv I oO
 have hf2:=IK (sn:=i+1) hv I oO
 generalize hR:iJ B.b (i+1)=R at hf1 ⊢
 generalize hS:jl B.b (B.n - (i+1))=S at hf2 ⊢
 obtain ⟨cR,C⟩:∃ cR,cR=ints (dH R):=⟨_,rfl⟩
 obtain ⟨d,z⟩:∃ d,d=ints (dH S):=⟨_,rfl⟩
 have D:cR.length=401:=by rw [C,cZ,eX]
 have F:d.length=401:=by rw [z,cZ,eX]
 have P:cR.all (·.oneCell')=true:=by rw [C];exact kM _
 have T:d.all (·.oneCell')=true:=by rw [z];exact kM _
 rw [← C] at hf1
 rw [← z] at hf2
 have e:putCells (H1++[aB.rw (List.replicate 401 (.i 0))]++[aB.rw (List.replicate 401 (.i 0))]) H1.length 0 cR=some (H1++[aB.rw cR]++[aB.rw (List.replicate 401 (.i 0))]):=by
  rw [fZ (cs:=List.replicate 401 (.i 0)) (cs':=cR) oS (by rw [D];simp) oS (by simp [splice,D])]
  simp
 have f:putCells (H1++[aB.rw cR]++[aB.rw (List.replicate 401 (.i 0))]) (H1++[aB.rw (List.replicate 401 (.i 0))]).length 0 d=some (H1++[aB.rw cR]++[aB.rw d]):=by
  rw [fZ (cs:=List.replicate 401 (.i 0)) (cs':=d) (bK oS) (by rw [F];simp) oS (by simp [splice,F])]
  rw [fL _ _ oS]
  simp
 apply aG
 refine La ?_
 refine stN (bF (size:=401) rfl rfl (by exact D) (by exact P) (by exact e)) rfl ?_
 refine stN (bF (size:=401) rfl rfl (by exact F) (by exact T) (by exact f)) rfl ?_
 refine La ?_
 obtain ⟨H2,w⟩:∃ H2,H2=H1++[aB.rw cR]++[aB.rw d]:=⟨_,rfl⟩
 refine .mk (dJ [(4,.p (σ.length+1)),(6,.p (σ.length+2)),(8,.p H1.length),(9,.p (H1.length+1))] H2 w.symm ⟨rfl,rfl,rfl,(by (refine congrArg (fun n=>some (Value.p n)) ?_;simp;try omega)),trivial⟩ ?_)
 have hp2:H2.take σ.length=σ:=by rw [w];exact aT (aT hp1)
 have V:H2[σ.length+1]?=some (.rw [.i 0,.i 0]):=by rw [w];exact aA (aA Q)
 have O:H2[H1.length]?=some (.rw (ints (dH R))):=by rw [w,C];exact aA aO
 have N:H2[H1.length+1]?=some (.rw (ints (dH S))):=by rw [w,z];exact bK oS
 generalize H1.length=u at O N ⊢
 clear e f P T D F hf1 hf2 C z I Q J hp1 w
 have hf3:=acM (σ:=H2) (v:=.p (σ.length+2))
 have U:∀ x ∈ numsL (-200) 401,-200≤x∧x≤200:=fun x hx=>by
  unfold numsL at hx
  obtain ⟨j,hj,rfl⟩:=List.mem_map.1 hx
  have:=List.mem_range.1 hj
  omega
 have hu0:=aQ O
 have hw0:=aQ N
 have hf4:=aeS (σ:=H2++[.rw (ints (numsL (-200) 401))]) (b:=H2.length) (n:=401) (c:=401) (L:=numsL (-200) 401) (g:=115) (p:=[]) (q:=[.p u,.p (u+1)]) (G:=fun x=>decide (R (x+200).toNat<nev) && decide (S (x+200).toNat<nev))
  (Gi _ _) (aD _) oO aO (fun H hH x hx=>ZN (R:=R) (S:=S) ((hH.2 u (by simp;omega) oO).trans (aA O)) ((hH.2 (u+1) (by simp;omega) oO).trans (aA N)) (U x hx))
 generalize (numsL (-200) 401).filter (fun x=>decide (R (x+200).toNat<nev) && decide (S (x+200).toNat<nev))=K at hf4 ⊢
 rw [fL _ _ (aD _),cY,List.set_cons_zero] at hf4
 have M:∀ X,(H2++X)[σ.length+1]?=some (.rw [.i 0,.i 0]):=fun X=>aA V
 have hput3:∀ X a b,putCells (H2++X) (σ.length+1) 0 [a,b]=some ((H2++X).set (σ.length+1) (.rw [a,b])):=fun X a b=>fZ (M X) oS oS rfl
 unfold Hg at hf4 ⊢
 apply aG
 by_cases hK:K=[]
 ·rw [if_pos hK] at hf4 ⊢
  refine La ?_
  exact dM (v2:=.tuple #[.agg #[.i 0,.i 0],.i 18]) (.cellN inferInstance rfl (aV (aS (M _)) rfl) (.tmp rfl .nil)) (aY.plain (take_set (aT hp2) oO) rfl) ⟨rfl,rfl⟩
 ·rw [if_neg hK] at hf4 ⊢
  refine La ?_
  exact dM (v2:=.tuple #[.agg #[.i (gi K 0),.i (gi K (K.length - 1))],.i 0]) (.cellN inferInstance rfl (aV (aS (M _)) rfl) (.tmp rfl .nil)) (aY.plain (take_set (aT hp2) oO) rfl) ⟨rfl,rfl⟩
end Go.Proofs.YtajpgeklmcjciaaGreat
namespace Go.AH
open Go
theorem vX {σ:Heap} {cs vs:List Value} {o:Nat} (h:Nat.ble (o+vs.length) cs.length=true) (h0:Nat.blt 0 cs.length=true):putCells (σ++[.rw cs]) σ.length o vs=some (σ++[.rw (splice cs o vs)]):=by
 rw [fZ oS (cA h) (Nat.blt_eq.mp h0) rfl];simp
end Go.AH
namespace Go.Proofs.YtajpgeklmcjciaaGreat
open Go Go.AH
attribute [local irreducible] dA bP bT jL gX dQ fF bZ fB aY dY fA
open Go.AH.Heat Go.AH.Warp
theorem aeT {σ:Heap} {x y:Int×Int}:Ev Tryz.prog 181 [.agg #[.i x.1,.i x.2],.agg #[.i y.1,.i y.2]] σ (.agg #[.i (Bl.meet x y).1,.i (Bl.meet x y).2]) σ:=by
 refine aI σ.length 16 Tryz.func181 rfl rfl rfl rfl rfl ?_
 have hc1:∀ A B,aH (σ++[aB.rw [.i x.1,.i x.2]]++[A]++[B]) σ.length (0+0)=some (.i x.1):=fun A B=>aF (aA (aA aO))
 have hc2:∀ A B,aH (σ++[aB.rw [.i x.1,.i x.2]]++[A]++[B]) σ.length (0+1)=some (.i x.2):=fun A B=>aF (aA (aA aO))
 have hc3:∀ A B,aH (σ++[A]++[aB.rw [.i y.1,.i y.2]]++[B]) (σ++[A]).length (0+0)=some (.i y.1):=fun A B=>aF (aA aO)
 have a:∀ A B,aH (σ++[A]++[aB.rw [.i y.1,.i y.2]]++[B]) (σ++[A]).length (0+1)=some (.i y.2):=fun A B=>aF (aA aO)
 repeat' (first|refine sCm ?_|(refine gU ?_;first|(refine bW ?_;refine st (aJ rfl (by first|exact hc3 _ _|exact hc1 _ _|exact hc2 _ _|exact a _ _)) rfl rfl ?_)|(refine gMax ?_;refine st (CB rfl rfl) rfl rfl ?_)|(refine aau ?_;refine st (sG rfl rfl) rfl rfl ?_)|(refine oQ ?_;refine st (iE oR rfl oR) rfl rfl ?_)|(refine dZ ?_;refine stN (bF rfl rfl rfl rfl (by exact fQ (aD _) (cH _))) rfl ?_))|refine aG ?_)
 exact dM (.cellN inferInstance rfl (dX rfl) .nil) (aY.plain oS rfl) ⟨rfl,rfl⟩
theorem Gn {A B:Prop} (k:B) (h:Hide B→A:=by intro h_k_;(repeat' (first|refine sCm ?_|(refine gU ?_;first|(refine bW ?_;first|refine st (aJ rfl (by first|exact hc1 _|exact hc2 _|exact hc3 _ _)) rfl rfl ?_|refine st (bD rfl (by exact dX rfl)) rfl rfl ?_)|(refine gIA ?_;refine st (eY rfl rfl (by omega)) rfl rfl ?_)|(refine gNeg ?_;refine st (UE rfl) rfl rfl ?_)|(refine oQ ?_;refine st (iE (by rfl) rfl (by rfl)) rfl rfl ?_)|(refine dZ ?_;refine stN (bF rfl rfl rfl rfl (by first|exact fQ (aD _) (cH _)|exact vX rfl rfl|exact hput0 _ _ _)) rfl ?_))|refine aG ?_|refine jc rfl (by first|rfl|exact dW (by assumption)|exact dW (by omega)) ?_|refine iM rfl (by first|rfl|exact bM (by assumption)|exact bM (by omega)) ?_));exact h_k_.h):A:=h ⟨k⟩
theorem acX {σ:Heap} {B:Bld} {nb sb cS tb cT:Nat} (hv:yg B) (hB:lK σ B nb sb cS tb cT) {i:Nat} (hi:i<B.n) {d:Int} :
  Ev Tryz.prog 182 [.p nb,.i (i:Nat),.i d] σ (.agg #[.i (Bl.borne (B.hard i) B.most d).1,.i (Bl.borne (B.hard i) B.most d).2]) σ:=by
 refine aI σ.length 49 Tryz.func182 rfl rfl rfl rfl rfl ?_
 have hc1:∀ A,aH (σ++[A]) nb (0+0+0)=some (.s sb B.n cS):=fun A=>aF (hB.app (X:=[A])).nb
 have hc2:∀ A,aH (σ++[A]) sb (0+i*4+2+1)=some (.i (B.hard i)):=fun A=>by rw [bA];exact gy (k:=3) ((hB.app (X:=[A])).st i hi) oO
 have hc3:∀ A C,aH (σ++[A]++[C]) nb (0+0+1)=some (.i B.most):=fun A C=>by rw [cD];exact aF (hB.app (X:=[A]++[C])).nb
 have hc4:∀ A,aH (σ++[A]) sb (0+i*4+3)=some (.i (B.hard i)):=fun A=>by rw [bA];exact gy (k:=3) ((hB.app (X:=[A])).st i hi) oO
 have c:=hv.st i hi
 have hmo:=hv.most
 have hiI:(i:Int)<(B.n:Int):=oO
 have hh:=c.2.2.2.2.2
 have w1:IntKind.i64.wrap (0 - B.hard i)=-B.hard i:=by rw [wrap64 oO oO];omega
 have w2:IntKind.i64.wrap (0 - B.most)=-B.most:=by rw [wrap64 oO oO];omega
 have hput0:∀ (C:aB) (x y:Value),putCells (σ++[aB.rw [.i 0,.i 0]]++[C]) σ.length 0 [x,y]=some (σ++[aB.rw [x,y]]++[C]):=fun C x y=>by
  rw [fZ (cs:=[.i 0,.i 0]) (cs':=[x,y]) (aA aO) oS oS rfl];simp
 have hcl:∀ (C:aB) (x y:Value),aK (σ++[aB.rw [x,y]]++[C]) σ.length 0 2=some [x,y]:=fun C x y=>aV (aA aO) rfl
 have a:∀ {lo hi:Int},(Bl.borne (B.hard i) B.most d)=(lo,hi)→(Value.agg #[.i lo,.i hi]=Value.agg #[.i (Bl.borne (B.hard i) B.most d).1,.i (Bl.borne (B.hard i) B.most d).2]):=fun h=>by rw [h]
 rcases (by omega:d > 0∨d<0∨(¬ d > 0∧¬ d<0)) with g1|g1|⟨g1,g2⟩
 ·have g2:¬ d<0:=oO
  have g4:¬ d=-B.most:=oO
  by_cases g3:d=B.most
  ·refine Gn ?_
   refine dM (.cellN inferInstance rfl (hcl _ _ _) .nil) (aY.plain oS rfl) ⟨a ?_,rfl⟩
   unfold Bl.borne
   dsimp only
   refine Prod.ext ?_ ?_ <;> dsimp only <;> (repeat' split) <;> first|rfl|omega
  ·refine Gn ?_
   refine dM (.cellN inferInstance rfl (hcl _ _ _) .nil) (aY.plain oS rfl) ⟨a ?_,rfl⟩
   unfold Bl.borne
   dsimp only
   refine Prod.ext ?_ ?_ <;> dsimp only <;> (repeat' split) <;> first|rfl|omega
 ·have g2:¬ d > 0:=oO
  have g3:¬ d=B.most:=oO
  by_cases g4:d=-B.most
  ·refine Gn ?_
   refine dM (.cellN inferInstance rfl (hcl _ _ _) .nil) (aY.plain oS rfl) ⟨a ?_,rfl⟩
   unfold Bl.borne
   dsimp only
   refine Prod.ext ?_ ?_ <;> dsimp only <;> (repeat' split) <;> first|rfl|omega
  ·refine Gn ?_
   refine dM (.cellN inferInstance rfl (hcl _ _ _) .nil) (aY.plain oS rfl) ⟨a ?_,rfl⟩
   unfold Bl.borne
   dsimp only
   refine Prod.ext ?_ ?_ <;> dsimp only <;> (repeat' split) <;> omega
 ·by_cases g3:d=B.most
  ·have g4:d=-B.most:=oO
   refine Gn ?_
   refine dM (.cellN inferInstance rfl (hcl _ _ _) .nil) (aY.plain oS rfl) ⟨a ?_,rfl⟩
   unfold Bl.borne
   dsimp only
   refine Prod.ext ?_ ?_ <;> dsimp only <;> (repeat' split) <;> rfl
  ·have g4:¬ d=-B.most:=oO
   refine Gn ?_
   refine dM (.cellN inferInstance rfl (hcl _ _ _) .nil) (aY.plain oS rfl) ⟨a ?_,rfl⟩
   unfold Bl.borne
   dsimp only
   refine Prod.ext ?_ ?_ <;> dsimp only <;> (repeat' split) <;> first|rfl|omega
end Go.Proofs.YtajpgeklmcjciaaGreat
namespace Go.AH.Warp
open Go Go.AH Go.AH.Heat
def nM (n:Nat) (f:Nat→Int):List Int:=(List.range n).map f
theorem EH (n:Nat) (f:Nat→Int):(nM n f).length=n:=by simp [nM]
theorem Dt {n:Nat} {f g:Nat→Int} (h:∀ i<n,f i=g i):nM n f=nM n g:=eD fun i hi=>h i (List.mem_range.1 hi)
theorem acY {n:Nat} {f:Nat→Int} {i:Nat} {v:Int}:(nM n f).set i v=nM n fun x=>if x=i then v else f x:=by
 refine fx fun x=>?_
 unfold nM
 rw [List.getElem?_set]
 simp only [cP,cU,List.length_range]
 by_cases h:i=x
 ·subst h
  by_cases h2:i<n
  ·rw [ft h2];simp [h2]
  ·rw [eM (oU h2)];simp [h2]
 ·by_cases h2:x<n
  ·rw [ft h2];simp [h,Ne.symm h]
  ·rw [eM (oU h2)];simp [h]
theorem ZP (n:Nat):ints (List.replicate n 0)=ints (nM n fun _=>0):=by
 unfold nM;rw [List.map_const',List.length_range]
theorem acZ:∀ m,([.i 0,.i 0]:List Value)++rgC (fun _=>((0:Int),(0:Int))) m=rgC (fun _=>(0,0)) m++[.i 0,.i 0]
 |0=>rfl
 |m+1=>by simp only [rgC];rw [← cD,acZ m]
theorem Ob:∀ m,iR (dU (.agg #[.i 0,.i 0])) m=rgC (fun _=>(0,0)) m
 |0=>rfl
 |m+1=>by
  show [.i 0,.i 0]++iR _ m=_
  rw [Ob m,acZ];rfl
theorem BN {f g:Nat→Int×Int}:∀ {n:Nat},(∀ i<n,f i=g i)→rgC f n=rgC g n
 |0,_=>rfl
 |n+1,h=>by simp only [rgC];rw [BN fun i hi=>h i oO,h n oO]
theorem Yl {f:Nat→Int×Int} {x:Int×Int}:∀ {n i:Nat},i<n→splice (rgC f n) (i*2) [.i x.1,.i x.2]=rgC (fun j=>if j=i then x else f j) n
 |0,i,h=>by omega
 |n+1,i,h=>by
  have hl:=vH f n
  by_cases hi:i<n
  ·simp only [rgC]
   rw [if_neg oO,← Yl hi]
   simp only [splice,eg,eb]
   rw [fp oO,fS oO]
   simp
  ·obtain rfl:i=n:=oO
   simp only [rgC,if_true]
   rw [BN (f:=fun j=>if j=i then x else f j) (g:=f) fun j hj=>by rw [if_neg oO]]
   simp only [splice,eg,eb]
   rw [fp oO,List.take_of_length_le oO,eL (by simp;omega)]
   simp
theorem ac0 {b:Bl} {d:Nat→Int} (ho:b.Ok):∀ i≤b.n,-9≤(b.now d i).1∧(b.now d i).1≤9∧-9≤(b.now d i).2∧(b.now d i).2≤9
 |0,_=>by simp [Bl.now]
 |i+1,hi=>by
  have ih:=ac0 ho i oO (d:=d)
  have hb:=Bl.TQ (hard:=b.hard i) (most:=b.most) (d:=d i) (ho i oO)
  simp only [Bl.now,Bl.next,Bl.meet]
  repeat' split
  all_goals dsimp only
  all_goals omega
theorem Ym {b:Bl} {d:Nat→Int} (ho:b.Ok) {i:Nat} (hi:i<b.n):-9≤(b.rng d i).1∧(b.rng d i).1≤9∧-9≤(b.rng d i).2∧(b.rng d i).2≤9:=by
 have ih:=ac0 ho i oO (d:=d)
 have hb:=Bl.TQ (hard:=b.hard i) (most:=b.most) (d:=d i) (ho i hi)
 simp only [Bl.rng,Bl.meet]
 omega
theorem Gp {b:Bl} {d:Nat→Int} (ho:b.Ok):∀ k≤b.n,-9≤b.nI d k∧b.nI d k≤9
 |0,_=>by simp [Bl.nI]
 |k+1,hk=>by
  have ih:=Gp ho k oO (d:=d)
  have hr:=Ym (d:=d) ho (i:=b.n - (k+1)) oO
  simp only [Bl.nI]
  split <;> omega
theorem Yn {d:Nat→Int} {n:Nat} (h:∀ i<n,-200≤d i∧d i≤200):∀ i≤n,-200*(i:Int)≤uT d i∧uT d i≤200*(i:Int)
 |0,_=>by simp [uT]
 |i+1,hi=>by
  have:=Yn h i oO
  have:=h i oO
  simp only [uT];omega
end Go.AH.Warp
namespace Go.Proofs.YtajpgeklmcjciaaGreat
open Go Go.AH
attribute [local irreducible] dA bP bT jL gX dQ fF bZ fB aY dY fA
open Go.AH.Heat Go.AH.Warp
theorem mg {A B:Prop} (k:B) (h:Hide B→A:=by intro h_k_;(repeat' (first|refine sCm ?_|(refine gU ?_;first|refine st (Ah (l:=B.n+1) (by rfl) (by rfl) rfl rfl (by omega) (by omega) (by omega)) rfl rfl ?_|(refine bW ?_;first|refine st (aJ rfl (by first|exact hcb|exact hd1|exact aF a8|exact aF a11|exact aF (q11 _))) rfl rfl ?_|refine st (bD rfl (by first|exact aV a8 rfl|exact qgr _|assumption)) rfl rfl ?_)|(refine yD ?_;refine st (kK rfl rfl (by omega) (by omega)) rfl rfl ?_)|(refine CJ ?_;refine st (jB rfl rfl (by omega) (by omega)) rfl rfl ?_)|(refine kQ ?_;first|refine st (lu rfl (by exact dW (by assumption)) rfl) rfl rfl ?_|refine st (jK rfl (by exact bM (by assumption)) rfl) rfl rfl ?_)|(refine gIA ?_;first|refine st (iw rfl rfl (by omega)) rfl rfl ?_|refine st (eY rfl rfl (by omega)) rfl rfl ?_)|(refine gMax ?_;refine st (CB rfl rfl) rfl rfl ?_)|(refine aau ?_;refine st (sG rfl rfl) rfl rfl ?_)|(refine oQ ?_;refine st (iE (by rfl) rfl (by rfl)) rfl rfl ?_)|(refine aav ?_;refine st (Ah (by rfl) (by rfl) rfl rfl (by omega) (by omega) (by omega)) rfl rfl ?_)|(refine dZ ?_;refine stN (bF rfl rfl rfl rfl (by first|exact vX rfl rfl|exact hput|exact hputA _ _ _|exact hputB _ _ _|exact hputC _ _ _ _|exact hput _)) rfl ?_))|(refine gG ?_;first|(refine kP ?_;refine stG rfl (by exact dW (by assumption)) (bV rfl) rfl rfl ?_)|(refine gFA ?_;refine stG rfl (by exact dW (by assumption)) (aW rfl) rfl rfl ?_)|(refine bW ?_;refine stG rfl (by exact dW (by assumption)) (aJ rfl (by first|exact aF a8|exact aF (q11 _))) rfl rfl ?_)|(refine nK ?_;refine stG rfl (by exact dW (by assumption)) (fE rfl rfl rfl) rfl rfl ?_)|refine stS rfl (by exact bM (by assumption)) rfl ?_)|(refine fU ?_;first|refine jM ?_;refine frA (bV rfl) rfl ?_ (hcl (by assumption))|refine jM ?_;refine frA (bV rfl) rfl ?_ (hcs (by assumption))|refine Oz ?_;refine frA (kE rfl) rfl ?_ (hcl (by assumption))|refine fFA ?_;refine frA (aW rfl) rfl ?_ (hcl (by assumption))|refine gY ?_;refine frA (aJ rfl (by exact hq3 _)) rfl ?_ (hcs (by assumption))|refine fIA ?_;refine frA (nX rfl rfl (by omega) (by omega)) rfl ?_ (hcl (by assumption))|refine gY ?_;refine frA (bD rfl (by exact hq1 _)) rfl ?_ rfl|refine gY ?_;refine frA (bD rfl (by exact hq2 _)) rfl ?_ rfl|refine jM ?_;refine frA (bV rfl) rfl ?_ hcln|refine jM ?_;refine frA (bV rfl) rfl ?_ rfl|refine gY ?_;refine frA (bD rfl (by exact hq8 _)) rfl ?_ rfl|refine qR ?_;refine frA (bH rfl rfl rfl (by exact hfa _)) rfl ?_ rfl|refine qR ?_;refine frA (bH rfl rfl rfl (by exact hfb _)) rfl ?_ rfl|(refine fAdd ?_;refine fr (uJ rfl rfl (by omega)) (by rfl) rfl ?_)|(refine Ae ?_;refine Chain.fr1A (lU rfl) rfl rfl rfl ?_))|(refine gu ⟨by kernel_rfl,?_⟩)|refine dD (id:=9) ?_|refine dD (id:=10) ?_|refine dD (id:=11) ?_|refine dD (id:=12) ?_|refine dD (id:=32) ?_|refine dD (id:=33) ?_|refine aG ?_|refine Chain.VN ?_|refine Chain.xJ 12 [true,true] [.i lo,.i hi] (by kernel_rfl) (by kernel_rfl) (by kernel_rfl) (by kernel_rfl) rfl rfl (bF rfl rfl rfl rfl (by exact hp1)) ?_|refine Chain.xJ 13 [true,true] [.i r.1,.i r.2] (by kernel_rfl) (by kernel_rfl) (by kernel_rfl) (by kernel_rfl) rfl rfl (bF rfl rfl rfl rfl (by exact hp2)) ?_|refine jc rfl (by first|rfl|exact dW (by assumption)) ?_|refine iM rfl (by first|rfl|exact bM (by assumption)) ?_));exact h_k_.h):A:=h ⟨k⟩
theorem ac1 {σ:Heap} {B:Bld} {nb sb cS tb cT xb c:Nat} (hv:yg B) (hB:lK σ B nb sb cS tb cT) {d:Nat→Int} (hx:∀ i<B.n,aH σ xb i=some (.i (d i))) (hxb:xb < σ.length) (hdb:∀ i<B.n,-200≤d i∧d i≤200) :
  Ev Tryz.prog 87 [.p nb,.s xb B.n c] σ (.s σ.length B.n B.n) (σ++[.rw (ints (nM B.n (B.b.pull d)))]):=by
 refine aI σ.length 149 Tryz.func87 rfl rfl rfl rfl rfl ?_
 have hn20:=hv.n
 have P:nb < σ.length:=aQ hB.nb
 have L:=Yn hdb
 refine mg ?_
 obtain ⟨H0,m⟩:∃ H0,H0=σ++[aB.rw (rgC (fun _=>(0,0)) (B.n+1))]++[aB.rw [.i (-9),.i 9]]:=⟨_,rfl⟩
 have hz:iR (dU (.agg #[.i 0,.i 0])) (B.n+1)=rgC (fun _=>(0,0)) (B.n+1):=Ob _
 refine dJ [(0,.p nb),(1,.s xb B.n c),(5,.i (B.n:Nat)),(6,.s σ.length (B.n+1) (B.n+1)),(7,.i (uT d 0)),(8,.p (σ.length+1)),(26,.s xb B.n c),(27,.i (B.n:Nat)),(28,.i (0:Nat))] H0 (by rw [m,← hz];rfl) ⟨rfl,rfl,rfl,rfl,rfl,(by (refine congrArg (fun n=>some (Value.p n)) ?_;simp;try omega)),rfl,rfl,rfl,trivial⟩ ?_
 have G:H0.take σ.length=σ:=by rw [m];simp
 have O:H0[σ.length]?=some (.rw (rgC (fun j=>if j<0 then B.b.rng d j else (0,0)) (B.n+1))):=by
  rw [m,BN (f:=fun j=>if j<0 then B.b.rng d j else (0,0)) (g:=fun _=>(0,0)) fun j _=>if_neg (Nat.not_lt_zero _)];exact aA aO
 have a6:H0[σ.length+1]?=some (.rw [.i (B.b.now d 0).1,.i (B.b.now d 0).2]):=by rw [m];exact bK oS
 clear m hz
 refine dV (ι:=Nat) (fun k=>[(0,.p nb),(1,.s xb B.n c),(5,.i (B.n:Nat)),(6,.s σ.length (B.n+1) (B.n+1)),(7,.i (uT d k)),(8,.p (σ.length+1)),(26,.s xb B.n c),(27,.i (B.n:Nat)),(28,.i (k:Nat))])
  (fun k mk H=>k≤B.n∧mk=[]∧H.take σ.length=σ∧H[σ.length]?=some (.rw (rgC (fun j=>if j<k then B.b.rng d j else (0,0)) (B.n+1)))∧H[σ.length+1]?=some (.rw [.i (B.b.now d k).1,.i (B.b.now d k).2])) (fun k=>B.n - k) 0 tE ⟨bN _,rfl,G,O,a6⟩ ?_
 clear G O a6 H0
 rintro k mk H ⟨hk,rfl,hp,hr,E⟩
 by_cases hkn:k<B.n
 ·have a5:(k:Int)<(B.n:Nat):=oO
  have hd1:aH H xb k=some (.i (d k)):=by
   have:=hx k hkn
   unfold aH at this ⊢
   rw [jm hp hxb];exact this
  have R:=L k hk
  have ae:=hdb k hkn
  have hbk:=L (k+1) hkn
  have hbe:uT d k+d k=Bl.tK d k:=rfl
  have hbe2:uT d (k+1)=Bl.tK d k:=rfl
  refine mg ?_
  refine .mk (dJ [(0,.p nb),(1,.s xb B.n c),(5,.i (B.n:Nat)),(6,.s σ.length (B.n+1) (B.n+1)),(7,.i (Bl.tK d k)),(8,.p (σ.length+1)),(9,.i (k:Nat)),(10,.i (d k)),(26,.s xb B.n c),(27,.i (B.n:Nat)),(28,.i (k:Nat))] H rfl tE ?_)
  have aq:=aQ E
  have a9:nb<H.length:=Nat.lt_trans P oO
  have hcln:∀ {o:Nat},closed H.length (.pointer (some ⟨nb,o,none⟩))=true:=fun {o}=>Nat.blt_eq.mpr a9
  have hq8:∀ X,aK (H++X) (σ.length+1) 0 2=some [.i (B.b.now d k).1,.i (B.b.now d k).2]:=fun X=>aV (aA E) rfl
  have D:=hB.take hp
  have hfa:=fun X=>acX (σ:=H++X) (d:=d k) hv (D.app (X:=X)) hkn
  have hfb:=fun X=>aeT (σ:=H++X) (x:=B.b.now d k) (y:=Bl.borne (B.hard k) B.most (d k))
  rw [show Bl.meet (B.b.now d k) (Bl.borne (B.hard k) B.most (d k))=B.b.rng d k from rfl] at hfb
  have hput:putCells (H++gZ (fun _=>true) []) (σ.length+1) 0 [.i (B.b.rng d k).1,.i (B.b.rng d k).2]=some (H.set (σ.length+1) (.rw [.i (B.b.rng d k).1,.i (B.b.rng d k).2])):=by
   rw [show H++gZ (fun _=>true) []=H from bL H];exact fZ E oS oS rfl
  refine dI oK rfl (?_)
  refine mg ?_
  obtain ⟨H1,e⟩:∃ H1,H1=H.set (σ.length+1) (.rw [.i (B.b.rng d k).1,.i (B.b.rng d k).2]):=⟨_,rfl⟩
  refine .mk (dJ [(0,.p nb),(1,.s xb B.n c),(5,.i (B.n:Nat)),(6,.s σ.length (B.n+1) (B.n+1)),(7,.i (Bl.tK d k)),(8,.p (σ.length+1)),(9,.i (k:Nat)),(10,.i (d k)),(26,.s xb B.n c),(27,.i (B.n:Nat)),(28,.i (k:Nat))] H1 e.symm tE ?_)
  have a8:H1[σ.length+1]?=some (.rw [.i (B.b.rng d k).1,.i (B.b.rng d k).2]):=by rw [e];exact aS E
  have Q:H1[σ.length]?=some (.rw (rgC (fun j=>if j<k then B.b.rng d j else (0,0)) (B.n+1))):=by rw [e];exact aC hr oO
  have hp1:H1.take σ.length=σ:=by rw [e];exact take_set hp oO
  clear hput hfb hfa hq8 hcln a9 aq D e hd1 hr E hp H
  have hput:putCells H1 σ.length (0+k*2) [.i (B.b.rng d k).1,.i (B.b.rng d k).2]=some (H1.set σ.length (.rw (rgC (fun j=>if j<k+1 then B.b.rng d j else (0,0)) (B.n+1)))):=by
   refine fZ Q (by rw [vH];simp;omega) (by rw [vH];omega) ?_
   rw [bA,Yl oO]
   refine BN fun j _=>?_
   by_cases hj:j=k
   ·rw [if_pos hj,if_pos oO,hj]
   ·rw [if_neg hj]
    by_cases a7:j<k
    ·rw [if_pos a7,if_pos oO]
    ·rw [if_neg a7,if_neg oO]
  have hk1:(k:Int)<((B.n+1:Nat):Int):=oO
  apply aG
  refine mg ?_
  obtain ⟨H2,M⟩:∃ H2,H2=H1.set σ.length (.rw (rgC (fun j=>if j<k+1 then B.b.rng d j else (0,0)) (B.n+1))):=⟨_,rfl⟩
  refine .mk (dJ [(0,.p nb),(1,.s xb B.n c),(5,.i (B.n:Nat)),(6,.s σ.length (B.n+1) (B.n+1)),(7,.i (Bl.tK d k)),(8,.p (σ.length+1)),(9,.i (k:Nat)),(10,.i (d k)),(26,.s xb B.n c),(27,.i (B.n:Nat)),(28,.i (k:Nat))] H2 M.symm tE ?_)
  have b8:H2[σ.length+1]?=some (.rw [.i (B.b.rng d k).1,.i (B.b.rng d k).2]):=by rw [M];exact aC a8 oO
  have ag:H2[σ.length]?=some (.rw (rgC (fun j=>if j<k+1 then B.b.rng d j else (0,0)) (B.n+1))):=by rw [M];exact aS Q
  have hp2:H2.take σ.length=σ:=by rw [M];exact take_set hp1 oO
  clear hput M a8 Q hp1 H1
  have D:=hB.take hp2
  have hcb:aH H2 nb (0+2)=some (.s tb (B.n+1) cT):=aF D.nb
  have ak:aK H2 tb (0+(k+1)*2) 2=some [.i (B.b.lo k),.i (B.b.hi k)]:=by rw [bA];exact D.tu (k+1) oO
  have hk2:(k:Int)+1<((B.n+1:Nat):Int):=oO
  apply aG
  refine mg ?_
  obtain ⟨H3,I⟩:∃ H3,H3=H2++[aB.rw [.i (B.b.lo k),.i (B.b.hi k)]]:=⟨_,rfl⟩
  obtain ⟨tl,z⟩:∃ tl,tl=H2.length:=⟨_,rfl⟩
  refine .mk (dJ [(0,.p nb),(1,.s xb B.n c),(5,.i (B.n:Nat)),(6,.s σ.length (B.n+1) (B.n+1)),(7,.i (Bl.tK d k)),(8,.p (σ.length+1)),(9,.i (k:Nat)),(11,.p tl),(26,.s xb B.n c),(27,.i (B.n:Nat)),(28,.i (k:Nat))] H3 (by rw [I];rfl) ⟨rfl,rfl,rfl,rfl,rfl,rfl,rfl,by rw [z];rfl,rfl,rfl,rfl,trivial⟩ ?_)
  have a8:H3[σ.length+1]?=some (.rw [.i (B.b.rng d k).1,.i (B.b.rng d k).2]):=by rw [I];exact aA b8
  have a11:H3[tl]?=some (.rw [.i (B.b.lo k),.i (B.b.hi k)]):=by rw [I,z];exact aO
  have ah:H3[σ.length]?=some (.rw (rgC (fun j=>if j<k+1 then B.b.rng d j else (0,0)) (B.n+1))):=by rw [I];exact aA ag
  have an:H3.take σ.length=σ:=by rw [I];exact aT hp2
  have hneq:tl ≠ σ.length+1:=by rw [z];have:=aQ b8;omega
  clear I z ak hcb D ag hp2 b8 H2
  have qgr:∀ x,aK (H3.set (σ.length+1) x) σ.length (0+k*2) 2=some [.i (B.b.rng d k).1,.i (B.b.rng d k).2]:=fun x=>by
   rw [bA,Gl (aC ah oO) oO,if_pos oO]
  have t:∀ x y:Int,Bl.next (B.b.rng d k) (Bl.tK d k) (B.b.lo k) (B.b.hi k)=(x,y)→∀ (K:Heap),K=H3.set (σ.length+1) (.rw [.i x,.i y])→(k+1≤B.n∧([]:List Nat)=[]∧K.take σ.length=σ∧K[σ.length]?=some (.rw (rgC (fun j=>if j<k+1 then B.b.rng d j else (0,0)) (B.n+1)))∧K[σ.length+1]?=some (.rw [.i (B.b.now d (k+1)).1,.i (B.b.now d (k+1)).2])):=fun x y ao K hK=>by
   rw [B.b.acA,ao,hK]
   exact ⟨hkn,rfl,take_set an oO,aC ah oO,aS a8⟩
  generalize B.b.rng d k=r at a8 qgr t ⊢
  have S:Bl.lo B.b k=B.b.lo k:=rfl
  generalize B.b.lo k=lo at a11 t ⊢
  generalize B.b.hi k=hi at a11 t ⊢
  generalize w:Bl.tK d k=bd at t ⊢
  have hputA:∀ x y u,putCells (H3.set (σ.length+1) (.rw [x,y])) (σ.length+1) 0 [u]=some (H3.set (σ.length+1) (.rw [u,y])):=fun x y u=>by
   rw [fZ (aS a8) oS oS rfl,cX];rfl
  have hputB:∀ x y u,putCells (H3.set (σ.length+1) (.rw [x,y])) (σ.length+1) 1 [u]=some (H3.set (σ.length+1) (.rw [x,u])):=fun x y u=>by
   rw [fZ (aS a8) oS oS rfl,cX];rfl
  have hputC:∀ x y u v,putCells (H3.set (σ.length+1) (.rw [x,y])) (σ.length+1) 0 [u,v]=some (H3.set (σ.length+1) (.rw [u,v])):=fun x y u v=>by
   rw [fZ (aS a8) oS oS rfl,cX];rfl
  have am:H3=H3.set (σ.length+1) (.rw [.i r.1,.i r.2]):=(set_self a8).symm
  have q11:∀ x,(H3.set (σ.length+1) x)[tl]?=some (.rw [.i lo,.i hi]):=fun x=>aC a11 oO
  clear a8 a11
  rw [am]
  apply aG
  by_cases g1:bd > lo
  ·by_cases g2:bd<hi
   ·have g3:¬ lo=hi:=oO
    refine mg ?_
    exact ⟨k+1,t r.1 r.2 (by unfold Bl.next;rw [if_pos ⟨g1,g2⟩]) _ rfl,oO,⟨rfl,rfl,rfl,rfl,congrArg (fun x=>some (Value.i x)) w.symm,rfl,rfl,rfl,rfl,trivial⟩⟩
   ·by_cases g3:lo=hi
    ·refine mg ?_
     exact ⟨k+1,t (-9) 9 (by unfold Bl.next;rw [if_neg oO,if_pos g3]) _ rfl,oO,⟨rfl,rfl,rfl,rfl,congrArg (fun x=>some (Value.i x)) w.symm,rfl,rfl,rfl,rfl,trivial⟩⟩
    ·refine mg ?_
     exact ⟨k+1,t r.1 9 (by unfold Bl.next;rw [if_neg oO,if_neg g3,if_neg g2,if_pos g1]) _ rfl,oO,⟨rfl,rfl,rfl,rfl,congrArg (fun x=>some (Value.i x)) w.symm,rfl,rfl,rfl,rfl,trivial⟩⟩
  ·by_cases g2:bd<hi
   ·by_cases g3:lo=hi
    ·refine mg ?_
     exact ⟨k+1,t (-9) 9 (by unfold Bl.next;rw [if_neg oO,if_pos g3]) _ rfl,oO,⟨rfl,rfl,rfl,rfl,congrArg (fun x=>some (Value.i x)) w.symm,rfl,rfl,rfl,rfl,trivial⟩⟩
    ·refine mg ?_
     exact ⟨k+1,t (-9) r.2 (by unfold Bl.next;rw [if_neg oO,if_neg g3,if_pos g2,if_neg g1]) _ rfl,oO,⟨rfl,rfl,rfl,rfl,congrArg (fun x=>some (Value.i x)) w.symm,rfl,rfl,rfl,rfl,trivial⟩⟩
   ·by_cases g3:lo=hi
    ·refine mg ?_
     exact ⟨k+1,t (-9) 9 (by unfold Bl.next;rw [if_neg oO,if_pos g3]) _ rfl,oO,⟨rfl,rfl,rfl,rfl,congrArg (fun x=>some (Value.i x)) w.symm,rfl,rfl,rfl,rfl,trivial⟩⟩
    ·refine mg ?_
     exact ⟨k+1,t r.1 r.2 (by unfold Bl.next;rw [if_neg oO,if_neg g3,if_neg g2,if_neg g1]) _ rfl,oO,⟨rfl,rfl,rfl,rfl,congrArg (fun x=>some (Value.i x)) w.symm,rfl,rfl,rfl,rfl,trivial⟩⟩
 ·obtain rfl:k=B.n:=oO
  have a5:¬ ((B.n:Nat):Int)<(B.n:Nat):=oO
  clear E
  refine mg ?_
  obtain ⟨ob,a4⟩:∃ ob,ob=H.length:=⟨_,rfl⟩
  obtain ⟨H0,m⟩:∃ H0,H0=H++[aB.rw (ints (nM B.n fun _=>0))]:=⟨_,rfl⟩
  have hz:iR (dU (.i 0)) B.n=ints (nM B.n fun _=>0):=by rw [Bf,ZP]
  have au:=aQ hr
  refine dJ [(0,.p nb),(1,.s xb B.n c),(5,.i (B.n:Nat)),(6,.s σ.length (B.n+1) (B.n+1)),(7,.i (uT d 0)),(12,.s ob B.n B.n),(13,.i 0),(89,.s xb B.n c),(90,.i (B.n:Nat)),(91,.i (0:Nat))] H0 (by rw [m,← hz]) ⟨rfl,rfl,rfl,rfl,rfl,congrArg (fun n=>some (Value.s n B.n B.n)) a4.symm,rfl,rfl,rfl,rfl,trivial⟩ ?_
  have G:H0.take σ.length=σ:=by rw [m];exact aT hp
  have O:H0[σ.length]?=some (.rw (rgC (fun j=>if j<B.n then B.b.rng d j else (0,0)) (B.n+1))):=by rw [m];exact aA hr
  have a3:H0[ob]?=some (.rw (ints (nM B.n fun _=>0))):=by rw [m,a4];exact aO
  have hobl:σ.length+1≤ob:=oO
  clear m hz hr hp a4 au H
  refine dV (ι:=Nat) (fun k=>[(0,.p nb),(1,.s xb B.n c),(5,.i (B.n:Nat)),(6,.s σ.length (B.n+1) (B.n+1)),(7,.i (uT d k)),(12,.s ob B.n B.n),(13,.i 0),(89,.s xb B.n c),(90,.i (B.n:Nat)),(91,.i (k:Nat))])
   (fun k mk H=>k≤B.n∧mk=[]∧H=H0) (fun k=>B.n - k) 0 tE ⟨bN _,rfl,rfl⟩ ?_
  rintro k mk H ⟨hk,rfl,rfl⟩
  by_cases hkn:k<B.n
  ·have a5:(k:Int)<(B.n:Nat):=oO
   have hd1:aH H xb k=some (.i (d k)):=by
    have:=hx k hkn
    unfold aH at this ⊢
    rw [jm G hxb];exact this
   have R:=L k hk
   have ae:=hdb k hkn
   refine mg ?_
   exact ⟨k+1,⟨hkn,rfl,rfl⟩,oO,tE⟩
  ·obtain rfl:k=B.n:=oO
   have a5:¬ ((B.n:Nat):Int)<(B.n:Nat):=oO
   have hn64:(B.n:Int) - 1=((B.n:Nat):Int) - 1 - (0:Nat):=oO
   refine mg ?_
   have ad:nM B.n (fun _=>0)=nM B.n fun j=>if B.n≤j+0 then B.b.pull d j else 0:=Dt fun j hj=>by rw [if_neg oO]
   rw [ad] at a3
   refine dV (ι:=Nat) (fun k=>[(0,.p nb),(1,.s xb B.n c),(5,.i (B.n:Nat)),(6,.s σ.length (B.n+1) (B.n+1)),(7,.i (uT d (B.n - k))),(12,.s ob B.n B.n),(13,.i (B.b.nI d k)),(16,.i ((B.n:Int) - 1 - (k:Nat)))])
    (fun k mk H=>k≤B.n∧mk=[]∧H.take σ.length=σ∧H[σ.length]?=some (.rw (rgC (fun j=>if j<B.n then B.b.rng d j else (0,0)) (B.n+1)))∧H[ob]?=some (.rw (ints (nM B.n fun j=>if B.n≤j+k then B.b.pull d j else 0)))) (fun k=>B.n - k) 0 ⟨rfl,rfl,rfl,rfl,rfl,rfl,rfl,congrArg (fun x=>some (Value.i x)) oO,trivial⟩ ⟨bN _,rfl,G,O,a3⟩ ?_
   clear G O a3 ad H
   rintro k mk H ⟨hk,rfl,hp,hr,ho⟩
   by_cases hkn:k<B.n
   ·obtain ⟨i,U⟩:∃ i:Nat,i=B.n - (k+1):=⟨_,rfl⟩
    have N:i<B.n:=oO
    rw [show (B.n:Int) - 1 - (k:Nat)=((i:Nat):Int) by omega]
    have al:((i:Nat):Int)≥0:=oO
    refine mg ?_
    obtain ⟨lo,S⟩:∃ x,x=B.b.lo i:=⟨_,rfl⟩
    obtain ⟨hi,aa⟩:∃ x,x=B.b.hi i:=⟨_,rfl⟩
    obtain ⟨r,hrd⟩:∃ x,x=B.b.rng d i:=⟨_,rfl⟩
    have hl1:nb<H.length:=fi P (take_len hp)
    have hl2:σ.length<H.length:=aQ hr
    have D:=hB.take hp
    have af:aK H tb (0+(i+1)*2) 2=some [.i lo,.i hi]:=by rw [bA,S,aa];exact D.tu (i+1) oO
    have ar:tb<H.length:=dL af
    have hcl:∀ {q o:Nat},q<H.length→closed H.length (.pointer (some ⟨q,o,none⟩))=true:=fun {q o} h=>Nat.blt_eq.mpr h
    have hcs:∀ {q o n c:Nat},q<H.length→closed H.length (.slice (some ⟨q,o,none⟩) n c)=true:=fun h=>bQ (Nat.blt_eq.mpr h)
    have hq1:∀ X,aK (H++X) tb (0+(i+1)*2) 2=some [.i lo,.i hi]:=fun X=>by rw [jk ar];exact af
    have hq2:∀ X,aK (H++X) σ.length (0+i*2) 2=some [.i r.1,.i r.2]:=fun X=>by
     rw [bA,Gl (aA hr) oO,if_pos N,hrd]
    have hq3:∀ X,aH (H++X) nb (0+2)=some (.s tb (B.n+1) cT):=fun X=>aF (aA D.nb)
    have hp1:putCells (H++[aB.rw [.i 0,.i 0],aB.rw [.i 0,.i 0]]) (H.length+0) 0 [.i lo,.i hi]=some (H++[aB.rw [.i lo,.i hi],aB.rw [.i 0,.i 0]]):=by
     refine (fZ (cs:=[.i 0,.i 0]) (cs':=[.i lo,.i hi]) oS oS oS rfl).trans ?_
     simp
    have hp2:putCells (H++[aB.rw [.i lo,.i hi],aB.rw [.i 0,.i 0]]) (H.length+1) 0 [.i r.1,.i r.2]=some (H++[aB.rw [.i lo,.i hi],aB.rw [.i r.1,.i r.2]]):=by
     refine (fZ (cs:=[.i 0,.i 0]) (cs':=[.i r.1,.i r.2]) oS oS oS rfl).trans ?_
     simp
    have hi1:(i:Int)<((B.n+1:Nat):Int):=oO
    have hi2:(i:Int)+1<((B.n+1:Nat):Int):=oO
    refine .mk ?_
    refine Chain.BH (id:=32) oK rfl (?_)
    refine mg ?_
    obtain ⟨H1,e⟩:∃ H1,H1=H++[aB.rw [.i lo,.i hi],aB.rw [.i r.1,.i r.2]]:=⟨_,rfl⟩
    obtain ⟨tl,z⟩:∃ tl,tl=H.length:=⟨_,rfl⟩
    refine .mk (dJ [(0,.p nb),(1,.s xb B.n c),(5,.i (B.n:Nat)),(6,.s σ.length (B.n+1) (B.n+1)),(7,.i (uT d (B.n - k))),(12,.s ob B.n B.n),(13,.i (B.b.nI d k)),(16,.i (i:Nat)),(17,.p tl),(18,.p (tl+1))] H1 (by rw [e];rfl) ⟨rfl,rfl,rfl,rfl,rfl,rfl,rfl,rfl,by rw [z];rfl,by rw [z];rfl,trivial⟩ ?_)
    have a8:H1[tl]?=some (.rw [.i lo,.i hi]):=by rw [e,z];exact Bd
    have a11:H1[tl+1]?=some (.rw [.i r.1,.i r.2]):=by rw [e,z];exact wV
    have V:H1.take σ.length=σ:=by rw [e];exact aT hp
    have Q:H1[σ.length]?=some (.rw (rgC (fun j=>if j<B.n then B.b.rng d j else (0,0)) (B.n+1))):=by rw [e];exact aA hr
    have ac:H1[ob]?=some (.rw (ints (nM B.n fun j=>if B.n≤j+k then B.b.pull d j else 0))):=by rw [e];exact aA ho
    have R:=L (B.n - k) oO
    have ae:=hdb i N
    have aj:=L i oO
    have w:uT d (B.n - k)=Bl.tK d i:=by unfold Bl.tK;rw [U];congr 1;omega
    have ai:=Gp (d:=d) hv.ok k hk
    have a2:=Gp (d:=d) hv.ok (k+1) hkn
    have C:B.b.nI d (k+1)=if Bl.tK d i > lo∧Bl.tK d i<hi then B.b.nI d k else max r.1 (min r.2 (B.b.nI d k)):=by
     simp only [Bl.nI]
     rw [show Bl.n B.b - (k+1)=i from U.symm,← S,← aa,← hrd]
    have J:B.b.pull d i=B.b.nI d (k+1) - B.b.nI d k:=by
     unfold Bl.pull
     rw [show Bl.n B.b - i=k+1 by show B.n - i=_;omega,Nat.add_sub_cancel]
    have a:Bl.tK d i - d i=uT d (B.n - (k+1)):=by
     rw [← U];show uT d (i+1) - d i=_;simp only [uT];omega
    have hput:∀ v,putCells H1 ob i [.i v]=some (H1.set ob (.rw (ints ((nM B.n fun j=>if B.n≤j+k then B.b.pull d j else 0).set i v)))):=fun v =>
     fZ ac (by rw [cZ,EH];simp;omega) (by rw [cZ,EH];omega) (by rw [BL (by rw [EH];exact N)])
    have F:∀ v:Int,v=B.b.nI d (k+1) - B.b.nI d k→(k+1≤B.n∧([]:List Nat)=[]∧(H1.set ob (.rw (ints ((nM B.n fun j=>if B.n≤j+k then B.b.pull d j else 0).set i v)))).take σ.length=σ∧(H1.set ob (.rw (ints ((nM B.n fun j=>if B.n≤j+k then B.b.pull d j else 0).set i v))))[σ.length]?=some (.rw (rgC (fun j=>if j<B.n then B.b.rng d j else (0,0)) (B.n+1)))∧(H1.set ob (.rw (ints ((nM B.n fun j=>if B.n≤j+k then B.b.pull d j else 0).set i v))))[ob]?=some (.rw (ints (nM B.n fun j=>if B.n≤j+(k+1) then B.b.pull d j else 0)))):=fun v ap=>by
     refine ⟨hkn,rfl,take_set V oO,aC Q oO,?_⟩
     rw [aS ac,acY]
     congr 3
     refine Dt fun j hj=>?_
     by_cases Z:j=i
     ·rw [if_pos Z,if_pos oO,Z,J,ap]
     ·rw [if_neg Z]
      by_cases h2:B.n≤j+k
      ·rw [if_pos h2,if_pos oO]
      ·rw [if_neg h2,if_neg oO]
    rw [w]
    generalize hs1d:B.b.nI d (k+1)=s1 at C F a2 ⊢
    generalize B.b.nI d k=s0 at C F ai ⊢
    rw [w] at R
    have hr9:-9≤r.1∧r.1≤9∧-9≤r.2∧r.2≤9:=by rw [hrd];exact Ym hv.ok N
    have T:-200*(i:Int)≤Bl.tK d i - d i∧Bl.tK d i - d i≤200*(i:Int):=by
     have:Bl.tK d i - d i=uT d i:=by unfold Bl.tK;simp only [uT];omega
     rw [this];exact aj
    generalize Bl.tK d i=bd at C R T a ⊢
    have hd1:aH (H1.set ob (.rw (ints ((nM B.n fun j=>if B.n≤j+k then B.b.pull d j else 0).set i (s1 - s0))))) xb i=some (.i (d i)):=by
     have h4:=hx i N
     have h5:=(F (s1 - s0) rfl).2.2.1
     unfold aH at h4 ⊢
     rw [jm h5 hxb];exact h4
    apply aG
    have W:(i:Int) - 1=(B.n:Int) - 1 - ((k+1:Nat):Int):=oO
    by_cases g1:bd > lo
    ·by_cases g2:bd<hi
     ·rw [if_pos ⟨g1,g2⟩] at C
      subst C
      refine mg ?_
      exact ⟨k+1,F _ rfl,oO,⟨rfl,rfl,rfl,rfl,congrArg (fun x=>some (Value.i x)) a,rfl,congrArg (fun x=>some (Value.i x)) hs1d.symm,congrArg (fun x=>some (Value.i x)) W,trivial⟩⟩
     ·rw [if_neg oO] at C
      subst C
      refine mg ?_
      exact ⟨k+1,F _ rfl,oO,⟨rfl,rfl,rfl,rfl,congrArg (fun x=>some (Value.i x)) a,rfl,congrArg (fun x=>some (Value.i x)) hs1d.symm,congrArg (fun x=>some (Value.i x)) W,trivial⟩⟩
    ·rw [if_neg oO] at C
     subst C
     refine mg ?_
     exact ⟨k+1,F _ rfl,oO,⟨rfl,rfl,rfl,rfl,congrArg (fun x=>some (Value.i x)) a,rfl,congrArg (fun x=>some (Value.i x)) hs1d.symm,congrArg (fun x=>some (Value.i x)) W,trivial⟩⟩
   ·obtain rfl:k=B.n:=oO
    have al:¬ (B.n:Int) - 1 - ((B.n:Nat):Int)≥0:=oO
    have Y:(nM B.n fun j=>if B.n≤j+B.n then B.b.pull d j else 0)=nM B.n (B.b.pull d):=Dt fun j _=>if_pos oO
    rw [Y] at ho
    refine mg ?_
    have s0:fV σ.length [ob] σ.length=⟨ob,0,0⟩:=by simp [fV]
    exact dM (v2:=.s σ.length B.n B.n) (.tmp rfl .nil) (aY.src [.rw (ints (nM B.n (B.b.pull d)))] [ob] hp rfl (by simp [dG];omega) ⟨vk s0 (.inl ho) (bC _),trivial⟩ (lI oS s0 (aD _))) ⟨rfl,rfl⟩
end Go.Proofs.YtajpgeklmcjciaaGreat
