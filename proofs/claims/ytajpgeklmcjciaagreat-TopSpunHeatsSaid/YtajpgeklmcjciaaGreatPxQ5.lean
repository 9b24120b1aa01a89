/- Pulls that prove best blows: pulls of warp's bench. -/
import Derived.Test.YtajpgeklmcjciaaGreatPxQ4
import Derived.Test.YtajpgeklmcjciaaGreatPxQ2
import Derived.Test.YtajpgeklmcjciaaGreatPxQ3
import Derived.Test.YtajpgeklmcjciaaGreatPxQ1
set_option maxRecDepth 100000
set_option maxHeartbeats 8000000
namespace Go.AH.Warp
open Go Go.AH
def numsL (lo:Int) (n:Nat):List Int:=(List.range n).map fun j=>lo+(j:Nat)
theorem Gf (lo:Int) (n:Nat):(numsL lo n).length=n:=by simp [numsL]
theorem WR (lo:Int) (n:Nat):ints (numsL lo (n+1))=ints (numsL lo n)++[.i (lo+(n:Nat))]:=by simp [numsL,ints,fy]
theorem ac5 {lo:Int} {n i:Nat} (h:i<n):gi (numsL lo n) i=lo+i:=by simp [numsL,gi,cE,cN,ft h]
end Go.AH.Warp
namespace Go.Proofs.YtajpgeklmcjciaaGreat
open Go Go.AH
attribute [local irreducible] bZ bK bM jB gy dO fC bW eU aX dV eH
open Go.AH.Heat Go.AH.Warp
theorem agm {A B:Prop} (k:B) (h:Hide B→A:=by intro h_k_;(repeat' (first|refine sCm ?_|(refine gU ?_;(refine bV ?_;refine st (aK rfl (by exact aF a1)) rfl rfl ?_))|refine aG ?_));exact h_k_.h):A:=h ⟨k⟩
theorem ac6 {A B:Prop} (k:B) (h:Hide B→A:=by intro h_k_;(repeat' (first|refine sCm ?_|(refine gU ?_;first|(refine zx ?_;refine st (eP rfl) (by exact hrd) rfl ?_)|(refine yO ?_;refine st (kK rfl) (by exact hrd) rfl ?_)|(refine bV ?_;refine st (aK rfl (by exact aF a1)) (by exact hrd) rfl ?_)|(refine Ba ?_;refine st (nU (by rfl) (by rfl) (by rfl) (by rfl) rfl (by rfl)) (by exact hrd) rfl ?_))|refine aG ?_));exact h_k_.h):A:=h ⟨k⟩
theorem Oe {σ:Heap} {lo hi:Int} {lb hb n:Nat} (hlo:-1000000≤lo) (hlo2:lo≤1000000) (hhi:hi≤1000000) (hn:n=(hi+1 - lo).toNat) (hn2:n≤1000) (hlb:σ[lb]?=some (.rw [.i lo])) (hhb:σ[hb]?=some (.rw [.i hi])) (hn0:0<n) :
  Ev Tryz.prog 176 [.func (.func 278) #[] #[.p lb,.p hb]] σ (.s σ.length n n) (σ++[.rw (ints (numsL lo n))]):=by
 refine aI σ.length 12 Tryz.func176 rfl rfl rfl rfl rfl ?_
 refine agm ?_
 refine dH [(3,.p σ.length),(5,.func (.func 278) #[] #[.p lb,.p hb])] (σ++[aB.rw [.slice none 0 0]]) rfl tE ?_
 have D:(σ++[aB.rw [.slice none 0 0]]).length=σ.length+1:=oS
 have g:=aQ hlb
 have o:=aQ hhb
 refine kG (p:=[]) (q:=[.p lb,.p hb]) rfl fun L hL=>?_
 rw [D]
 refine Uo (I:=fun (j:Nat) (H:Heap)=>H.take σ.length=σ∧H[σ.length+1]?=some .dfr∧H[σ.length+2]?=some L∧σ.length+3≤H.length∧((j=0∧H[σ.length]?=some (.rw [.slice none 0 0]))∨(0<j∧∃ gb,σ.length+3≤gb∧H[σ.length]?=some (.rw [dW gb 1 j])∧H[gb]?=some (.gr (ints (numsL lo j)) 2))))
  (l:=σ.length+1+1) (lb:=lb) (hb:=hb) (lo:=lo) (hi:=hi) (n:=n) hlo hlo2 hhi hn ?_ ?_ (fun j H h=>by rw [iY h.1 g];exact hlb) (fun j H h=>by rw [iY h.1 o];exact hhb) (fun j H h=>h.2.2.1.trans (congrArg some hL)) rfl ?_ ?_
 ·refine ⟨by simp,?_,?_,by simp,.inl ⟨rfl,aA aO⟩⟩
  ·rw [← D,bE (aD _)];simp
  ·rw [show σ.length+2=(σ++[aB.rw [.slice none 0 0]]).length+1 by simp,bE oO];simp
 ·intro j H h
  have:=h.2.2.2.1
  simp;omega
 ·rintro j hj H ⟨hp,hd,f,m,a⟩ QB M
  have hrd:lQ (some (σ.length+2)) H.length=true:=(show Nat.blt _ _=true from Nat.blt_eq.mpr oO)
  refine ac6 ?_
  refine xG f hL fun O hO=>?_
  obtain ⟨HB,c⟩:∃ HB,HB=H.set (σ.length+2) O:=⟨_,rfl⟩
  have hHBl:HB.length=H.length:=by rw [c];simp
  have w:∀ (e1:Env) (z:List Nat) (K:Heap) (gb:Nat),K.take σ.length=σ→K[σ.length+1]?=some .dfr→K[σ.length+2]?=some O→σ.length+3≤K.length→σ.length+3≤gb→K[σ.length]?=some (.rw [dW gb 1 (j+1)])→K[gb]?=some (.gr (ints (numsL lo (j+1))) 2)→QB .normal e1 z K:=by
   intro e1 z K gb k1 k2 k3 k4 k5 k6 k7
   have e:K=(K.set (σ.length+2) L).set (σ.length+2) O:=by rw [cX,set_self k3]
   rw [e,hO]
   exact M _ _ _ ⟨take_set k1 oO,aC k2 oO,aS k3,by simpa using k4,.inr ⟨oO,gb,k5,aC k6 oO,aC k7 fun h=>by rw [← h,k3,hO] at k7;cases k7⟩⟩
  have t:HB.take σ.length=σ:=by rw [c];exact take_set hp oO
  have C:HB[σ.length+1]?=some .dfr:=by rw [c];exact aC hd oO
  have u:HB[σ.length+2]?=some O:=by rw [c];exact aS f
  obtain ⟨x,hx⟩:∃ x,x=lo+(j:Int):=⟨_,rfl⟩
  have v:ints (numsL lo (j+1))=ints (numsL lo j)++[.i x]:=by rw [hx];exact WR lo j
  have d:aJ (HB++[aB.rw [.i x]]) HB.length 0 (1*1)=some [.i x]:=dU rfl
  rw [← hx]
  rcases a with ⟨rfl,ho⟩|⟨hj0,gb,G,ho,hg⟩
  ·have a1:HB[σ.length]?=some (.rw [.slice none 0 0]):=by rw [c];exact aC ho oO
   rw [← c]
   refine ac6 ?_
   refine st (wG oR rfl rfl (by exact d) oO rfl oO oD) hrd rfl ?_
   refine stN (bU rfl rfl rfl rfl (fM (aA (aA a1)) (aD 1) oS rfl)) hrd ?_
   refine kP ?_
   refine uF ?_
   refine w _ _ _ ((HB++[aB.rw [.i x]]).length+1) (take_set (aT (aT t)) (aD _)) (aC (aA (aA C)) oO) (aC (aA (aA u)) oO) (by simp;omega) (by simp;omega) ?_ ?_
   ·exact aS (aA (aA a1))
   ·refine aC ?_ (by simp;omega)
    rw [v]
    show _=some (aB.gr [.i x] 2)
    rw [bE oS]
    simp
  ·have a1:HB[σ.length]?=some (.rw [dW gb 1 j]):=by rw [c];exact aC ho oO
   have P:HB[gb]?=some (.gr (ints (numsL lo j)) 2):=by rw [c];exact aC hg oO
   rw [← c]
   refine ac6 ?_
   refine st (iQ oR oR rfl (by exact aA P) (by rw [cO,Gf,cI]) rfl (by exact d) oO rfl oO oD) hrd rfl ?_
   refine stN (bU rfl rfl rfl rfl (fM (aA (aC (aA a1) oO)) (aD 1) oS rfl)) hrd ?_
   refine kP ?_
   refine uF ?_
   refine w _ _ _ (HB++[aB.rw [.i x]]).length (take_set (aT (take_set (aT t) oO)) (aD _)) (aC (aA (aC (aA C) oO)) oO) (aC (aA (aC (aA u) oO)) oO) (by simp;omega) (by simp;omega) ?_ ?_
   ·exact aS (aA (aC (aA a1) oO))
   ·refine aC ?_ (by simp;omega)
    rw [v]
    exact bJ oS
 ·rintro H ⟨hp,hd,f,m,a⟩
  refine ⟨.ready,none,_,_,_,_,_,f.trans (congrArg some hL),by simp,?_⟩
  show (dO 0 _) _ _ _ _
  refine uF ?_
  refine tC ?_
  rcases a with ⟨rfl,_⟩|⟨_,gb,G,ho,hg⟩
  ·omega
  obtain ⟨K,hK⟩:∃ K,K=H.set (σ.length+1+1) .dead:=⟨_,rfl⟩
  have N:K.take σ.length=σ:=by rw [hK];exact take_set hp oO
  have E:K[σ.length]?=some (.rw [dW gb 1 n]):=by rw [hK];exact aC ho oO
  have F:K[gb]?=some (.gr (ints (numsL lo n)) 2):=by rw [hK];exact aC hg oO
  have y:Mks σ.length [σ.length+1] K:=Mks.cons Mks.nil oS oO (by rw [hK];exact aC hd oO)
  rw [← hK]
  have a1:=E
  refine xR ?_
  apply aG
  refine agm ?_
  have J:=pO (mk:=[σ.length+1]) N fun x hx=>(y.2 x hx).1
  have s0:fK σ.length [gb] σ.length=⟨gb,0,0⟩:=by simp [fK]
  exact TL y (v2:=.s σ.length n n) (.tmp rfl .nil) (aX.src [.rw (ints (numsL lo n))] [gb] J rfl (by simp [dF];omega) ⟨uJ s0 (.inr ⟨_,rC F (by simp;omega)⟩) (bC _),trivial⟩ (jV oS s0)) ⟨rfl,rfl⟩
theorem ac7 {σ:Heap} {v:Value}:Ev Tryz.prog 114 [v] σ (.s σ.length 401 401) (σ++[.rw (ints (numsL (-200) 401))]):=by
 refine aI σ.length 5 Tryz.func114 rfl rfl rfl rfl rfl ?_
 have hf1:=yB (σ:=σ) (lo:=-200) (hi:=200)
 have hf2:=Oe (σ:=σ++[aB.rw [.i (-200)]]++[aB.rw [.i 200]]) (lo:=-200) (hi:=200) (lb:=σ.length) (hb:=σ.length+1) (n:=401) oO oO oO rfl oO (aA aO) (bJ oS) oO
 repeat' (first|refine sCm ?_|(refine gU ?_;(refine dX ?_;refine st (bG rfl rfl rfl (by first|exact hf1|exact hf2)) rfl rfl ?_))|refine aG ?_)
 have e:(σ++[aB.rw [.i (-200)]]++[aB.rw [.i 200]]).length=σ.length+2:=oS
 have s0:fK σ.length [σ.length+2] σ.length=⟨σ.length+2,0,0⟩:=by simp [fK]
 rw [e]
 exact dK (v2:=.s σ.length 401 401) (.tmp rfl .nil) (aX.src [.rw (ints (numsL (-200) 401))] [σ.length+2] oS rfl (by simp [dF]) ⟨uJ s0 (.inl (bJ e)) (bC _),trivial⟩ (kX oS s0 (aD _))) ⟨rfl,rfl⟩
end Go.Proofs.YtajpgeklmcjciaaGreat
namespace Go.AH
open Go
def agn (ops:Array Oper) (j:Nat):TypeId:=match ops[j]? with|some o=>o.type|none=>0
def WS (ops:Array Oper) (j:Nat):Array Edge:=match ops[j]? with|some o=>o.after|none=>#[]
def ac8 (ops : Array Oper) : String := match ops[0]? with | some o => o.pos | none => ""
section
variable {P:Program} {n0 N:Nat} {rd:Option Nat} {Q:Post} {e:Env} {mk:List Nat} {σ:Heap} {id:Nat}
theorem Qr {ops:Array Oper} (d sM sI sK tm ti tk:Nat) {kt et sz1 by1 sz2 by2:Nat} {agg2:Bool} {z1 zk:Value} {pl:List (Nat×Nat)} (hmo:P.follows .mixedOrders=true) (hops:ops=(wI d sM sI sK tm ti tk (ac8 ops) (agn ops) (WS ops)).toArray)
  [hmp:Mp P tm kt et] [hk:KT P kt kv] [hte:Ty P et sz2 agg2 (.i 0) by2] [htm:Ty P tm sz1 false z1 by1] [hpk:Pls P tk zk pl] (hzk:plain zk=true) (hfill:∀ x y:Int,rJ (pl.toArray[·]?) (dR zk) [(0,.i x),(1,.i y)]=some [.i x,.i y])
  (hdep:KL (WS ops)=true) (hN:Nat.ble (d+9) N=true) (hsl:([sM,sI,sK].all fun q=>Nat.blt q d || Nat.ble (d+9) q)=true) {xb m:Nat} {i k c:Int} {l:mg}
  (hM:Env.get e sM=some (.p xb)) (hbox:aH σ xb 0=some (.map (some m))) (hmm:σ[m]?=some (nO l)) (hI:Env.get e sI=some (.i i)) (hK:Env.get e sK=some (.i k))
  (hi:0≤i∧i≤9223372036854775807) (hv:iH l (i - 1,k)=some (.i c)∨iH l (i - 1,k)=none∧c=0) (hc:0≤c∧c<9223372036854775807) (hni:σ.all (fun o=>!aU o)=true)
  (he:(e.all fun q=>Nat.blt q.1 d || Nat.ble (d+9) q.1)=true) (h:Q .normal e mk (σ.set m (nO (lN l (i - 1,k) (.i (c+1)))))) :
  bK P n0 N rd (.region id ops true) Q e mk σ:=by
 generalize ac8 ops=p at hops
 generalize agn ops=ty at hops
 generalize WS ops=a at hops hdep
 subst hops
 exact TY hmo hzk hfill hdep hN hsl hM hbox hmm hI hK hi hv hc hni he h
end
theorem uP {σ:Heap} {b o n i:Nat} {cs:List Value} {x:aB} {es:List (Value×Value)} (h:aJ σ b o n=some cs) (hi:σ[i]?=some (.map es)):aJ (σ.set i x) b o n=some cs:=by
 have hb:b ≠ i:=by
  rintro rfl
  unfold aJ at h
  rw [hi] at h
  cases h
 unfold aJ at h ⊢
 rw [eN (Ne.symm hb)];exact h
namespace Heat
theorem wM.setM {σ:Heap} {W:Wk} {bB bS i:Nat} {wB cW:Nat→Nat} {kB cK:Nat→Nat→Nat} {x:aB} {es:List (Value×Value)} (h:wM σ W bB bS wB cW kB cK) (hi:σ[i]?=some (.map es)):wM (σ.set i x) W bB bS wB cW kB cK :=
 ⟨fun j hj=>uP (h.bars j hj) hi,fun j hj=>uP (h.steps j hj) hi,fun j hj k hk=>uP (h.ways j hj k hk) hi,fun j hj k hk q hq=>uP (h.kinks j hj k hk q hq) hi⟩
theorem Ez {σ:Heap} {b i:Nat} {o:aB} {x:aB} {es:List (Value×Value)} (h:σ[b]?=some o) (hi:σ[i]?=some (.map es)) (ho:∀ es,o ≠ .map es):(σ.set i x)[b]?=some o :=
 aC h fun e=>by rw [e,h] at hi;exact ho es (Option.some.inj hi)
theorem sH.setM {σ:Heap} {W:Wk} {m:Int×Int} {tb fb rb bB cB bS cS i:Nat} {wB cW:Nat→Nat} {kB cK:Nat→Nat→Nat} {x:aB} {es:List (Value×Value)} (h:sH σ W m tb fb rb bB cB bS cS wB cW kB cK) (hi:σ[i]?=some (.map es)):sH (σ.set i x) W m tb fb rb bB cB bS cS wB cW kB cK :=
 ⟨Ez h.t hi oS,Ez h.f hi oS,Ez h.r hi oS,h.w.setM hi,by simpa using h.bB,by simpa using h.bS⟩
end Heat
end Go.AH
namespace Go.Proofs.YtajpgeklmcjciaaGreat
open Go Go.AH
attribute [local irreducible] bZ bK bM jB gy dO fC bW eU aX dV eH
open Go.AH.Heat
theorem ac9 {A B:Prop} (k:B) (h:Hide B→A:=by intro h_k_;(repeat' (first|refine sCm ?_|(refine gU ?_;first|(refine bV ?_;refine st (aK rfl (by exact aF a1)) rfl rfl ?_)|(refine dX ?_;refine st (bG rfl rfl rfl (by exact hf1)) rfl rfl ?_)|refine JV ?_)|refine aG ?_));exact h_k_.h):A:=h ⟨k⟩
theorem ada {A B:Prop} (k:B) (h:Hide B→A:=by intro h_k_;(repeat' (first|refine sCm ?_|(refine gU ?_;first|(refine yO ?_;refine st (kK rfl) (by exact hrd) rfl ?_)|(refine bV ?_;refine st (aK rfl (by first|exact aF a1|assumption)) (by exact hrd) rfl ?_)|(refine ES ?_;refine st (qP rfl rfl (by omega)) (by exact hrd) rfl ?_)|(refine BK ?_;refine st (Nk rfl rfl) (by exact hrd) rfl ?_)|(refine gV ?_;refine stN (bU rfl rfl rfl rfl (by exact hput)) (by exact hrd) ?_))|refine aG ?_|refine dZ rfl ?_));exact h_k_.h):A:=h ⟨k⟩
theorem count_nil {W:Wk} {m:Int×Int} (hv:uf W) (hm:jM m) {σ:Heap} {tb fb rb bB cB bS cS:Nat} {wB cW:Nat→Nat} {kB cK:Nat→Nat→Nat} (hT:sH σ W m tb fb rb bB cB bS cS wB cW kB cK) :
  Ev Tryz.prog 236 [.p tb,.map none] σ (.i ((W.allR m).length:Nat)) σ:=by
 have hrl:=Ub hv (m:=m)
 refine aI σ.length 34 Tryz.func236 rfl rfl rfl rfl rfl ?_
 have hf1:=Ob (σ:=σ++[aB.rw [.map none]]++[aB.rw [.i 0]]) (tb:=tb)
 refine ac9 ?_
 refine dH [(3,.p σ.length),(4,.i 0),(5,.p (σ.length+1)),(10,.func (.func 297) #[] #[.p (σ.length+2)])] (σ++[aB.rw [.map none]]++[aB.rw [.i 0]]++[aB.rw [.p tb]]) rfl ⟨rfl,rfl,(by (refine congrArg (fun n=>some (Value.p n)) ?_;simp;try omega)),by simp [Env.get],trivial⟩ ?_
 have hp:(σ++[aB.rw [.map none]]++[aB.rw [.i 0]]++[aB.rw [.p tb]]).take σ.length=σ:=oS
 have b0:(σ++[aB.rw [.map none]]++[aB.rw [.i 0]]++[aB.rw [.p tb]])[σ.length]?=some (aB.rw [.map none]):=aA (aA aO)
 have b1:(σ++[aB.rw [.map none]]++[aB.rw [.i 0]]++[aB.rw [.p tb]])[σ.length+1]?=some (aB.rw [.i 0]):=aA (bJ oS)
 have b2:(σ++[aB.rw [.map none]]++[aB.rw [.i 0]]++[aB.rw [.p tb]])[σ.length+2]?=some (aB.rw [.p tb]):=bJ oS
 generalize (σ++[aB.rw [.map none]]++[aB.rw [.i 0]]++[aB.rw [.p tb]])=Hc at hp b0 b1 b2
 clear hf1
 have hHl:=aQ b2
 refine kG (p:=[]) (q:=[.p (σ.length+2)]) rfl fun L hL=>?_
 obtain ⟨A,a⟩:∃ A,A=Hc++[aB.dfr,L]:=⟨_,rfl⟩
 have hAl:A.length=Hc.length+2:=by rw [a];simp
 have t:A.take σ.length=σ:=by rw [a];exact aT hp
 have y:A[σ.length]?=some (aB.rw [.map none]):=by rw [a];exact aA b0
 have f:A[σ.length+1]?=some (aB.rw [.i 0]):=by rw [a];exact aA b1
 have C:A[σ.length+2]?=some (aB.rw [.p tb]):=by rw [a];exact aA b2
 have w:A[Hc.length]?=some .dfr:=by rw [a,bE (aD _)];simp
 have g:A[Hc.length+1]?=some L:=by rw [a,bE oO];simp
 rw [← a]
 refine G7 (S:=fun j=>A.set (σ.length+1) (.rw [.i (j:Nat)])) (l:=Hc.length+1) (ib:=σ.length+2) hv hm (set_self f) (fun j=>by simp) (fun j=>aV (aC C oO) rfl) (fun j=>hT.take (take_set t oO))
  (fun j=>(aC g oO).trans (congrArg some hL)) (fun h j=>jw (o:=.rw [.i _]) (by exact ⟨rfl,rfl⟩) h) rfl ?_ ?_
 ·intro j hj X QB iq hXn _ hiq D
  obtain ⟨HX,c⟩:∃ HX,HX=A.set (σ.length+1) (.rw [.i (j:Nat)])++X:=⟨_,rfl⟩
  have z:HX[Hc.length+1]?=some L:=by rw [c];exact aA (aC g oO)
  have v:HX[σ.length]?=some (aB.rw [.map none]):=by rw [c];exact aA (aC y oO)
  have u:HX[σ.length+1]?=some (aB.rw [.i (j:Nat)]):=by rw [c];exact aA (aS f)
  have hrd:lQ (some (Hc.length+1)) (A.length+X.length)=true:=(show Nat.blt _ _=true from Nat.blt_eq.mpr oO)
  rw [← c]
  refine ada ?_
  refine xG z hL fun B hB=>?_
  obtain ⟨HB,d⟩:∃ HB,HB=HX.set (Hc.length+1) B:=⟨_,rfl⟩
  have a3:HB[σ.length]?=some (aB.rw [.map none]):=by rw [d];exact aC v oO
  have a1:HB[σ.length+1]?=some (aB.rw [.i (j:Nat)]):=by rw [d];exact aC u oO
  rw [← d]
  have hput:putCells HB (σ.length+1) 0 [.i ((j:Nat)+1)]=some (HB.set (σ.length+1) (.rw [.i ((j:Nat)+1)])):=fM a1 oS oS rfl
  have F:(HB.set (σ.length+1) (.rw [.i ((j:Nat)+1)]))[σ.length]?=some (aB.rw [.map none]):=aC a3 oO
  have hc9:=aF (o:=0+0) F
  refine ada ?_
  have E:HB.set (σ.length+1) (.rw [.i ((j:Nat)+1)])=(A.set (σ.length+1) (.rw [.i ((j+1:Nat):Int)])).set (Hc.length+1) B++X++[]:=by
   rw [d,c,bL,cH _ _ (by simp;omega),cH _ _ (by simp;omega),List.set_comm _ _ (by omega:Hc.length+1 ≠ σ.length+1),cX]
   rfl
  rw [E,hB]
  exact D _ _ _
 ·refine ⟨.ready,none,_,_,_,_,_,(aC g oO).trans (congrArg some hL),by simp,?_⟩
  show (dO 0 _) _ _ _ _
  refine uF ?_
  refine tC ?_
  have a1:((A.set (σ.length+1) (.rw [.i ((W.allR m).length:Nat)])).set (Hc.length+1) .dead)[σ.length+1]?=some (aB.rw [.i ((W.allR m).length:Nat)]):=aC (aS f) oO
  have e:Mks σ.length [Hc.length] ((A.set (σ.length+1) (.rw [.i ((W.allR m).length:Nat)])).set (Hc.length+1) .dead):=Mks.cons Mks.nil oS oO (aC (aC w oO) oO)
  have s:((A.set (σ.length+1) (.rw [.i ((W.allR m).length:Nat)])).set (Hc.length+1) .dead).take σ.length=σ:=take_set (take_set t oO) oO
  generalize ((A.set (σ.length+1) (.rw [.i ((W.allR m).length:Nat)])).set (Hc.length+1) .dead)=H at a1 e s
  refine ac9 ?_
  exact TL e (.tmp rfl .nil) (aX.plain (pO s fun x hx=>(e.2 x hx).1) rfl) ⟨rfl,rfl⟩
end Go.Proofs.YtajpgeklmcjciaaGreat
namespace Go.AH
open Go
section
variable {P:Program} {n0 N:Nat} {K:Env→List Nat→Heap→Prop} {mk:List Nat} {all:List Oper}
def afb (all:List Oper) (L:List Bool):List Nat:=Region.ready .any all.toArray L.toArray
def cntF:List Bool→Nat
 |[]=>0
 |b::L=>(if b then 0 else 1)+cntF L
def tabOk (all:List Oper) (tab:List (List Bool×List Nat)):Bool :=
 tab.all fun p=>(afb all p.1 == p.2) && p.2.all fun i=>(tab.any fun q=>q.1 == p.1.set i true) && Nat.blt (cntF (p.1.set i true)) (cntF p.1)
end
def keys (l:mg):List (Int×Int):=l.map (·.1)
def left (l:mg) (seen:List (Int×Int)):Nat:=((keys l).filter fun p=>decide (p ∉ seen)).length
theorem KX {m:Nat} {v:Value} (h:plain v=true):closed m v=true∧okV v=true:=by
 have:=aW (n:=m) (l:=[v]) (by simp [dL,h])
 simpa [dP,okL] using this
theorem G8 {m:Nat} {lm:mg} (h:∀ q ∈ lm,plain q.2=true):fO m (nO lm):=by
 intro p hp
 obtain ⟨q,hq,rfl⟩:=List.mem_map.1 hp
 exact KX (h q hq)
end Go.AH
namespace Go.AH.Heat
open Go Go.AH
theorem adb {M:mg} (h:∀ q ∈ M,plain q.2=true) (k:Int×Int) (x:Int):∀ q ∈ lN M k (.i x),plain q.2=true:=fun q hq=>by
 unfold lN at hq
 split at hq
 ·rcases List.mem_or_eq_of_mem_set hq with h1|rfl
  ·exact h q h1
  ·rfl
 ·rcases List.mem_append.1 hq with h1|h1
  ·exact h q h1
  ·simp only [fc] at h1
   subst h1;rfl
theorem KY {M:mg} (h:∀ q ∈ M,plain q.2=true) (rec:List Nat):∀ i,∀ q ∈ Qj M rec i,plain q.2=true
 |0=>h
 |i+1=>adb (KY h rec i) _ _
theorem Dh {M:mg} (h:∀ q ∈ M,plain q.2=true) (l:List (List Nat)):∀ j,∀ q ∈ zn M l j,plain q.2=true
 |0=>h
 |j+1=>KY (Dh h l j) _ _
theorem Z8 {A X:Heap} {p q l:Nat} {r m B r' m':aB} (hp:p<A.length) (hq:q<A.length) (hl:l<A.length) (h1:p ≠ q) (h2:p ≠ l) (h3:q ≠ l) :
  ((((A.set p r).set q m++X).set l B).set p r').set q m'=((A.set p r').set q m').set l B++X:=by
 rw [cH _ _ (oU hl),cH _ _ (oU hp),cH _ _ (oU hq)]
 congr 1
 refine fx fun i=>?_
 simp only [List.getElem?_set,ea]
 by_cases e1:q=i
 ·subst e1
  simp [h3,Ne.symm h3,hq]
 ·by_cases e2:p=i
  ·subst e2;simp [h2,Ne.symm h2,e1,hp]
  ·by_cases e3:l=i
   ·subst e3;simp [e1,e2,hl]
   ·simp [e1,e2,e3]
theorem Og {σ H:Heap} {i:Nat} {x:aB} (hp:H.take σ.length=σ):(H.set i x).take (σ.set i x).length=σ.set i x:=by
 rw [ea,List.take_set,hp]
end Go.AH.Heat
namespace Go.Proofs.YtajpgeklmcjciaaGreat
open Go Go.AH
attribute [local irreducible] bZ bK bM jB gy dO fC bW eU aX dV eH
open Go.AH.Heat
theorem ade {A B:Prop} (k:B) (h:Hide B→A:=by intro h_k_;(repeat' (first|refine sCm ?_|(refine gU ?_;first|(refine bV ?_;refine st (aK rfl (by exact aF a1)) rfl rfl ?_)|(refine dX ?_;refine st (bG rfl rfl rfl (by exact hf1)) rfl rfl ?_)|refine JV ?_)|refine aG ?_));exact h_k_.h):A:=h ⟨k⟩
theorem KZ {A B:Prop} (k:B) (h:Hide B→A:=by intro h_k_;(repeat' (first|refine sCm ?_|(refine gU ?_;first|(refine zx ?_;refine st (eP rfl) (by exact hrd) rfl ?_)|(refine yO ?_;refine st (kK rfl) (by exact hrd) rfl ?_)|(refine bV ?_;refine st (aK rfl (by first|exact aF a1|exact hc9|exact hcr)) (by exact hrd) rfl ?_)|(refine ES ?_;refine st (qP rfl rfl (by omega)) (by exact hrd) rfl ?_)|(refine BK ?_;first|refine st (Nl rfl rfl) (by exact hrd) rfl ?_|refine st (jm rfl rfl rfl) (by exact hrd) rfl ?_)|(refine ET ?_;refine st (lJ rfl) (by exact hrd) rfl ?_)|(refine gIA ?_;refine st (nC rfl rfl (by omega)) (by exact hrd) rfl ?_)|(refine gV ?_;refine stN (bU rfl rfl rfl rfl (by exact hput)) (by exact hrd) ?_))|refine dB (id:=9) ?_|refine aG ?_|refine dZ rfl ?_|refine eu rfl ?_));exact h_k_.h):A:=h ⟨k⟩
theorem count_map {W:Wk} {m:Int×Int} (hv:uf W) (hm:jM m) {σ:Heap} {tb fb rb bB cB bS cS mb:Nat} {wB cW:Nat→Nat} {kB cK:Nat→Nat→Nat} {M:mg} (hT:sH σ W m tb fb rb bB cB bS cS wB cW kB cK) (hmb:σ[mb]?=some (nO M)) (hM0:BQ M 0) (hni:σ.all (fun o=>!aU o)=true) :
  Ev Tryz.prog 236 [.p tb,.map (some mb)] σ (.i ((W.allR m).length:Nat)) (σ.set mb (nO (zn M (W.allR m) (W.allR m).length))):=by
 have hrl:=Ub hv (m:=m)
 have hns3:=hv.s
 have hmbl:=aQ hmb
 have Y:=Ue hM0
 refine aI σ.length 34 Tryz.func236 rfl rfl rfl rfl rfl ?_
 refine ZM fun C=>?_
 have hf1:=Ob (σ:=σ++[aB.rw [.map (some mb)]]++[aB.rw [.i 0]]) (tb:=tb)
 refine ade ?_
 refine dH [(3,.p σ.length),(4,.i 0),(5,.p (σ.length+1)),(10,.func (.func 297) #[] #[.p (σ.length+2)])] (σ++[aB.rw [.map (some mb)]]++[aB.rw [.i 0]]++[aB.rw [.p tb]]) rfl ⟨rfl,rfl,(by (refine congrArg (fun n=>some (Value.p n)) ?_;simp;try omega)),by simp [Env.get],trivial⟩ ?_
 have hp:(σ++[aB.rw [.map (some mb)]]++[aB.rw [.i 0]]++[aB.rw [.p tb]]).take σ.length=σ:=oS
 have b0:(σ++[aB.rw [.map (some mb)]]++[aB.rw [.i 0]]++[aB.rw [.p tb]])[σ.length]?=some (aB.rw [.map (some mb)]):=aA (aA aO)
 have b1:(σ++[aB.rw [.map (some mb)]]++[aB.rw [.i 0]]++[aB.rw [.p tb]])[σ.length+1]?=some (aB.rw [.i 0]):=aA (bJ oS)
 have b2:(σ++[aB.rw [.map (some mb)]]++[aB.rw [.i 0]]++[aB.rw [.p tb]])[σ.length+2]?=some (aB.rw [.p tb]):=bJ oS
 have bm:(σ++[aB.rw [.map (some mb)]]++[aB.rw [.i 0]]++[aB.rw [.p tb]])[mb]?=some (nO M):=aA (aA (aA hmb))
 have U:(σ++[aB.rw [.map (some mb)]]++[aB.rw [.i 0]]++[aB.rw [.p tb]]).all (fun o=>!aU o)=true:=bF (bF (bF hni rfl) rfl) rfl
 generalize (σ++[aB.rw [.map (some mb)]]++[aB.rw [.i 0]]++[aB.rw [.p tb]])=Hc at hp b0 b1 b2 bm U
 clear hf1
 have hHl:=aQ b2
 refine kG (p:=[]) (q:=[.p (σ.length+2)]) rfl fun L hL=>?_
 obtain ⟨A,c⟩:∃ A,A=Hc++[aB.dfr,L]:=⟨_,rfl⟩
 have hAl:A.length=Hc.length+2:=by rw [c];simp
 have a4:A.take σ.length=σ:=by rw [c];exact aT hp
 have aj:A[σ.length]?=some (aB.rw [.map (some mb)]):=by rw [c];exact aA b0
 have T:A[σ.length+1]?=some (aB.rw [.i 0]):=by rw [c];exact aA b1
 have an:A[σ.length+2]?=some (aB.rw [.p tb]):=by rw [c];exact aA b2
 have a6:A[mb]?=some (nO M):=by rw [c];exact aA bm
 have R:A.all (fun o=>!aU o)=true:=by rw [c];exact bF U (by rw [hL];rfl)
 have ac:A[Hc.length]?=some .dfr:=by rw [c,bE (aD _)];simp
 have D:A[Hc.length+1]?=some L:=by rw [c,bE oO];simp
 rw [← c]
 refine G7 (S:=fun j=>(A.set (σ.length+1) (.rw [.i (j:Nat)])).set mb (nO (zn M (W.allR m) j))) (l:=Hc.length+1) (ib:=σ.length+2) hv hm (by show (A.set (σ.length+1) (.rw [.i ((0:Nat):Int)])).set mb (nO M)=A;rw [show ((0:Nat):Int)=0 from rfl,set_self T,set_self a6]) (fun j=>by simp) (fun j=>aV (aC (aC an oO) oO) rfl)
  (fun j=>(hT.setM (x:=nO (zn M (W.allR m) j)) hmb).take (Og (take_set a4 oO)))
  (fun j=>(aC (aC D oO) oO).trans (congrArg some hL)) (fun h j=>jw (G8 (Dh Y _ j)) (jw (o:=.rw [.i _]) (by exact ⟨rfl,rfl⟩) h)) rfl ?_ ?_
 ·intro j hj X QB iq a7 hil a2 ad
  obtain ⟨a,t⟩:∃ a,a=(W.allR m)[j]:=⟨_,rfl⟩
  obtain ⟨Mj,w⟩:∃ Mj,Mj=zn M (W.allR m) j:=⟨_,rfl⟩
  have v:a.length=W.ns+1:=by rw [t];exact Ud (cP _)
  have z:BQ Mj ((j*(W.ns+1):Nat):Int):=by rw [w];exact Yx hM0 (fun r hr=>Ud hr) j oO
  have ah:zn M (W.allR m) (j+1)=Qj Mj a (W.ns+1):=by
   have hg:(W.allR m).getD j []=a:=by rw [cE,cC hj,t];rfl
   unfold zn
   rw [hg,v,w]
  rw [← t] at a2
  have hbig:j*(W.ns+1)≤93750*7:=Nat.mul_le_mul oO oO
  obtain ⟨HX,d⟩:∃ HX,HX=(A.set (σ.length+1) (.rw [.i (j:Nat)])).set mb (nO Mj)++X:=⟨_,rfl⟩
  have g:HX[iq]?=some (.rw (gu a)):=by rw [d,w];exact a2
  have Z:HX[Hc.length+1]?=some L:=by rw [d];exact aA (aC (aC D oO) oO)
  have ag:HX[σ.length]?=some (aB.rw [.map (some mb)]):=by rw [d];exact aA (aC (aC aj oO) oO)
  have a9:HX[σ.length+1]?=some (aB.rw [.i (j:Nat)]):=by rw [d];exact aA (aC (aS T) oO)
  have ai:HX[mb]?=some (nO Mj):=by rw [d];exact aA (aS (aC a6 oO))
  have P:HX.all (fun o=>!aU o)=true:=by rw [d];exact bF (ku (ku R rfl) rfl) a7
  have hrd:lQ (some (Hc.length+1)) (A.length+X.length)=true:=(show Nat.blt _ _=true from Nat.blt_eq.mpr oO)
  show bK _ _ _ _ _ _ _ _ ((A.set (σ.length+1) (.rw [.i (j:Nat)])).set mb (nO (zn M (W.allR m) j))++X)
  rw [← w,← d]
  refine KZ ?_
  refine xG Z hL fun B hB=>?_
  obtain ⟨HB,f⟩:∃ HB,HB=HX.set (Hc.length+1) B:=⟨_,rfl⟩
  have y:HB.all (fun o=>!aU o)=true:=by rw [f];exact ku P (by rw [hB];rfl)
  have a3:HB[σ.length]?=some (aB.rw [.map (some mb)]):=by rw [f];exact aC ag oO
  have a1:HB[σ.length+1]?=some (aB.rw [.i (j:Nat)]):=by rw [f];exact aC a9 oO
  have am:HB[mb]?=some (nO Mj):=by rw [f];exact aC ai oO
  have F:HB[iq]?=some (.rw (gu a)):=by rw [f];exact aC g fun e=>by rw [← e,Z,hL] at g;cases g
  rw [← f]
  have hput:putCells HB (σ.length+1) 0 [.i ((j:Nat)+1)]=some (HB.set (σ.length+1) (.rw [.i ((j:Nat)+1)])):=fM a1 oS oS rfl
  obtain ⟨HN,u⟩:∃ HN,HN=HB.set (σ.length+1) (.rw [.i ((j:Nat)+1)]):=⟨_,rfl⟩
  have a5:HN[σ.length]?=some (aB.rw [.map (some mb)]):=by rw [u];exact aC a3 oO
  have G:HN[mb]?=some (nO Mj):=by rw [u];exact aC am oO
  have N:HN.all (fun o=>!aU o)=true:=by rw [u];exact ku y rfl
  have O:σ.length+1 ≠ iq:=oO
  have I:HN[iq]?=some (.rw (gu a)):=by rw [u];exact aC F O
  rw [← u] at hput
  have hc9:=aF (o:=0+0) a5
  refine KZ ?_
  refine dS (ι:=Nat) (fun i=>[(3,.p σ.length),(16,.s iq (1+W.ns) (1+W.ns)),(17,.i ((1+W.ns:Nat):Int)),(18,.i (i:Nat))])
   (fun i mk H=>i≤1+W.ns∧mk=[]∧H=HN.set mb (nO (Qj Mj a i))) (fun i=>1+W.ns - i) 0 tE ⟨bN _,rfl,by show HN=HN.set mb (nO Mj);rw [set_self G]⟩ ?_
  rintro i mk H ⟨hi,rfl,hH⟩
  have a3:H[σ.length]?=some (aB.rw [.map (some mb)]):=by rw [hH];exact aC a5 oO
  have ae:H[mb]?=some (nO (Qj Mj a i)):=by rw [hH];exact aS G
  have hniH:H.all (fun o=>!aU o)=true:=by rw [hH];exact ku N rfl
  have Q:H[iq]?=some (.rw (gu a)):=by rw [hH];exact Ez I G oS
  by_cases hin:i<1+W.ns
  ·have J:(i:Int)<((1+W.ns:Nat):Int):=oO
   have hcr:aH H iq i=some (.i ((a.getD i 0:Nat):Int)):=by
    rw [aF Q,gu,cN,cE,cC oO];rfl
   have E:=Qk z oO a i
   obtain ⟨af,aa,hg3⟩:=Yw E oO ((i:Int) - 1,((a.getD i 0:Nat):Int))
   refine KZ ?_
   refine .mk (dH [(3,.p σ.length),(7,.i (i:Nat)),(8,.i ((a.getD i 0:Nat):Int)),(16,.s iq (1+W.ns) (1+W.ns)),(17,.i ((1+W.ns:Nat):Int)),(18,.i (i:Nat))] H rfl tE ?_)
   refine Qr 23 3 7 8 263 3 265 mixed rfl rfl (fun _ _=>rfl) oK rfl rfl rfl (aF a3) ae rfl rfl oO af ⟨aa,oO⟩ hniH rfl ?_
   refine KZ ?_
   exact ⟨i+1,⟨oO,rfl,by rw [hH,cX];rfl⟩,oO,tE⟩
  ·obtain rfl:i=1+W.ns:=oO
   have J:¬ ((1+W.ns:Nat):Int)<((1+W.ns:Nat):Int):=oO
   refine KZ ?_
   have ao:H=((A.set (σ.length+1) (.rw [.i ((j+1:Nat):Int)])).set mb (nO (zn M (W.allR m) (j+1)))).set (Hc.length+1) B++X++[]:=by
    rw [hH,u,f,d,bL,Z8 oO oO oO oO oO oO,ah,e8 1 W.ns]
    rfl
   rw [ao,hB]
   exact ad _ _ _
 ·refine ⟨.ready,none,_,_,_,_,_,(aC (aC D oO) oO).trans (congrArg some hL),by simp,?_⟩
  show (dO 0 _) _ _ _ _
  refine uF ?_
  refine tC ?_
  obtain ⟨K,hK⟩:∃ K,K=((A.set (σ.length+1) (.rw [.i ((W.allR m).length:Nat)])).set mb (nO (zn M (W.allR m) (W.allR m).length))).set (Hc.length+1) .dead:=⟨_,rfl⟩
  rw [← hK]
  have a1:K[σ.length+1]?=some (aB.rw [.i ((W.allR m).length:Nat)]):=by rw [hK];exact aC (aC (aS T) oO) oO
  have V:Mks σ.length [Hc.length] K:=Mks.cons Mks.nil oS oO (by rw [hK];exact aC (aC (aC ac oO) oO) oO)
  have ak:K.take (σ.set mb (nO (zn M (W.allR m) (W.allR m).length))).length=σ.set mb (nO (zn M (W.allR m) (W.allR m).length)):=by
   rw [hK];exact take_set (Og (take_set a4 oO)) (by rw [ea];omega)
  clear hK
  refine ade ?_
  have al:=pO (mk:=[Hc.length]) ak fun x hx=>by rw [ea];exact (V.2 x hx).1
  refine TL V (v2:=.i ((W.allR m).length:Nat)) (σ2:=σ.set mb (nO (zn M (W.allR m) (W.allR m).length))) (.tmp rfl .nil) ?_ ⟨rfl,rfl⟩
  have e:=(List.take_append_drop (σ.set mb (nO (zn M (W.allR m) (W.allR m).length))).length (kE [Hc.length] K)).symm
  rw [al] at e
  rw [e]
  exact aX.dropAll oS (by rw [ea];exact jw (G8 (Dh Y _ _)) C) rfl
end Go.Proofs.YtajpgeklmcjciaaGreat
namespace Go.AH.Heat
open Go Go.AH
def sS (σ:Heap) (b i:Nat):Nat×Nat×Nat:=match (aJ σ b i 1).bind List.head? with|some v=>(match ru v with|some p=>(p.1,p.2.2.1,p.2.2.2)|none=>(0,0,0))|none=>(0,0,0)
def Z9 (σ:Heap) (b i n:Nat):Bool:=match aJ σ b i 1 with|some [v]=>(match ru v with|some p=>Nat.beq p.2.1 0 && Nat.beq p.2.2.1 n|none=>false)|_=>false
def Qs (σ:Heap) (b i n:Nat) (cs:List Value):Bool:=match aJ σ b i n with|some l=>Ag l cs|none=>false
def Ur (W:Wk) (σ:Heap) (bB bS:Nat):Bool :=
 (List.range W.nb).all (fun j=>Qs σ bB (j*2) 2 [.int .i64 (W.bf j).1,.int .i64 (W.bf j).2]) &&
  (List.range W.ns).all fun i=>Z9 σ bS i (W.nw i) && (List.range (W.nw i)).all fun k=>Z9 σ (sS σ bS i).1 k (W.nk i k) && Nat.ble (W.nk i k) (sS σ (sS σ bS i).1 k).2.2 &&
   (List.range (W.nk i k)).all fun q=>Qs σ (sS σ (sS σ bS i).1 k).1 (q*3) 3 (jh (W.kf i k q))
theorem BH {σ:Heap} {b i n:Nat} {cs:List Value} (h:Qs σ b i n cs=true):aJ σ b i n=some cs:=by
 unfold Qs at h
 split at h
 ·rename_i l hl;rw [hl,pG h]
 ·cases h
theorem YC {σ:Heap} {b i n:Nat} (h:Z9 σ b i n=true):aJ σ b i 1=some [.s ((sS σ b i).1) n (sS σ b i).2.2]:=by
 unfold Z9 at h
 unfold sS
 split at h
 ·rename_i v hv
  split at h
  ·rename_i p hp
   simp only [aE] at h
   have h1:=aM h.1
   have h2:=aM h.2
   rw [hv]
   simp only [Option.bind_some,List.head?_cons,hp]
   rw [kY hp,h1,h2]
  ·cases h
 ·cases h
theorem qN {n:Nat} {p:Nat→Bool} (h:(List.range n).all p=true):∀ i<n,p i=true:=fun i hi=>List.all_eq_true.1 h i (List.mem_range.2 hi)
theorem yC {W:Wk} {σ:Heap} {bB bS:Nat} (h:Ur W σ bB bS=true) :
  wM σ W bB bS (fun i=>(sS σ bS i).1) (fun i=>(sS σ bS i).2.2) (fun i k=>(sS σ (sS σ bS i).1 k).1) (fun i k=>(sS σ (sS σ bS i).1 k).2.2) ∧
   ∀ i<W.ns,∀ k<W.nw i,W.nk i k≤(sS σ (sS σ bS i).1 k).2.2:=by
 unfold Ur at h
 rw [aE] at h
 have hB:=qN h.1
 have hS:=qN h.2
 have c:∀ i<W.ns,Z9 σ bS i (W.nw i)=true:=fun i hi=>(aE _ _ ▸ hS i hi:_∧_).1
 have a:∀ i<W.ns,∀ k<W.nw i,(Z9 σ (sS σ bS i).1 k (W.nk i k) && Nat.ble (W.nk i k) (sS σ (sS σ bS i).1 k).2.2 && (List.range (W.nk i k)).all fun q=>Qs σ (sS σ (sS σ bS i).1 k).1 (q*3) 3 (jh (W.kf i k q)))=true:=fun i hi=>qN (aE _ _ ▸ hS i hi:_∧_).2
 refine ⟨⟨fun j hj=>BH (hB j hj),fun i hi=>YC (c i hi),fun i hi k hk=>?_,fun i hi k hk q hq=>?_⟩,fun i hi k hk=>?_⟩
 ·have:=a i hi k hk
  simp only [aE] at this
  exact YC this.1.1
 ·have:=a i hi k hk
  simp only [aE] at this
  exact BH (qN this.2 q hq)
 ·have:=a i hi k hk
  simp only [aE] at this
  exact cA this.1.2
def house:Wk where
 nb:=2
 bf:=fun j=>match j with|0=>(100,170)|_=>(150,300)
 ns:=2
 nw:=fun i=>match i with|0=>2|_=>1
 nk:=fun i k=>match i with|0=>(match k with|0=>2|_=>1)|_=>3
 kf:=fun i k q=>match i with
  |0=>(match k with|0=>(match q with|0=>(0,400,500)|_=>(180,450,600))|_=>(0,300,650))
  |_=>(match q with|0=>(0,200,300)|1=>(420,280,400)|_=>(550,350,480))
instance (r:Int×Int):Decidable (jM r):=by unfold jM;infer_instance
theorem La {n:Nat} {kf:Nat→Int×Int×Int} (h:(decide (0<n) && decide (n≤12) && decide ((kf 0).1=0) && (List.range n).all (fun q=>decide (0≤(kf q).1∧(kf q).1≤1000∧jM (kf q).2) && (decide (n≤q+1) || decide ((kf q).1<(kf (q+1)).1∧(kf q).2.1≤(kf (q+1)).2.1∧(kf (q+1)).2.1≤(kf q).2.2+1∧(kf q).2.2≤(kf (q+1)).2.2))))=true):ZT n kf:=by
 simp only [aE,decide_eq_true_eq] at h
 obtain ⟨⟨⟨h1,h2⟩,h3⟩,h4⟩:=h
 have h5:=qN h4
 simp only [aE,eq,decide_eq_true_eq] at h5
 refine ⟨h1,h2,h3,fun q hq=>⟨(h5 q hq).1.1,(h5 q hq).1.2.1,(h5 q hq).1.2.2,fun hq1=>?_⟩,fun q hq=>?_⟩
 ·rcases (h5 q hq).2 with h|h
  ·omega
  ·exact h.1
 ·rcases (h5 q oO).2 with h|h
  ·omega
  ·exact h.2
theorem qO:uf house:=by
 refine ⟨by decide,by decide,fun j hj=>?_,by decide,fun i hi=>?_,fun i hi=>?_,fun i hi k hk=>?_⟩
 ·match j,hj with
  |0,_=>decide
  |1,_=>decide
 ·match i,hi with
  |0,_=>decide
  |1,_=>decide
 ·match i,hi with
  |0,_=>decide
  |1,_=>decide
 ·match i,hi with
  |0,_ =>
   match k,hk with
   |0,_=>exact La oD
   |1,_=>exact La oD
  |1,_ =>
   match k,hk with
   |0,_=>exact La oD
def hm:Int×Int:=(410,420)
theorem Di:house.someB hm=[0,1]:=by decide +kernel
theorem Us:house.Az hm 0=[0,1]:=by decide +kernel
theorem Ut:house.Az hm 1=[0]:=by decide +kernel
theorem Oh:(house.allR hm).length=3:=by decide +kernel
theorem Qu {v:Value} (hv:isI v=true):v=.i (pV v):=by
 unfold isI at hv;split at hv
 ·rfl
 ·cases hv
end Go.AH.Heat
namespace Go.Proofs.YtajpgeklmcjciaaGreat
open Go Go.AH Go.AH.Heat
end Go.Proofs.YtajpgeklmcjciaaGreat
namespace Go.AH.Heat
open Go Go.AH
def niB (σ:Heap):Bool:=σ.all fun o=>!aU o
def Lc (σ:Heap) (v:Value):Option ((Nat×Nat)×(Nat×Nat)):=(asAgg v).bind fun l=>match l with
 |[vB,vS]=>(ru vB).bind fun x=>(ru vS).bind fun y=>bQ (Nat.beq x.2.1 0 && Nat.beq x.2.2.1 2 && Nat.beq y.2.1 0 && Nat.beq y.2.2.1 2 && Nat.blt x.1 σ.length && Nat.blt y.1 σ.length && Ur house σ x.1 y.1) (some ((x.1,x.2.2.2),(y.1,y.2.2.2)))
 |_=>none
def rowIs (σ:Heap) (b:Nat) (l:List Value):Bool:=match (σ[b]?).bind sW with|some cs=>Ag l cs|none=>false
def IL (σ:Heap) (tb:Nat):Option ((Nat×Nat)×(Nat×Nat)×(Nat×Nat)):=((σ[tb]?).bind sW).bind fun cs=>match cs with
 |[vB,vS,_,_,vF,vR]=>(ru vB).bind fun x=>(ru vS).bind fun y=>(ru vF).bind fun f=>(ru vR).bind fun r =>
   bQ (Ag [.slice (some ⟨x.1,0,none⟩) 2 x.2.2.2,.slice (some ⟨y.1,0,none⟩) 2 y.2.2.2,.int .i64 410,.int .i64 420,.slice (some ⟨f.1,0,none⟩) 3 3,.slice (some ⟨r.1,0,none⟩) 3 3] cs &&
    Nat.blt x.1 σ.length && Nat.blt y.1 σ.length && Ur house σ x.1 y.1 && rowIs σ f.1 (dD house.front 0 3) && rowIs σ r.1 (dD (house.jS hm) 0 3)) (some ((x.1,x.2.2.2),(y.1,y.2.2.2),(f.1,r.1)))
 |_=>none
def isHm (v:Value):Bool:=aep v (.agg #[.int .i64 410,.int .i64 420])
def Qv (s:Int):Option (List Nat):=bif decide (s=-1) then some [0,1] else bif decide (s=0) then some [0,1] else bif decide (s=1) then some [0] else none
def WT:aB→Bool
 |.map []=>true
 |_=>false
def WU (f:Nat) (args:List Value) (σ:Heap):Res:=match args with
 |[v]=>bif Nat.beq f 166 then (Lc σ v).bind fun _=>bQ (niB σ) (iJ (.int .i64 0) σ) else none
 |[v,u]=>bif Nat.beq f 79 then (Lc σ v).bind fun x=>bQ (isHm u && niB σ) (some (.tuple #[.pointer (some ⟨σ.length,0,none⟩),.int .i64 0],σ++yA house hm x.1.1 x.1.2 x.2.1 x.2.2 σ.length,σ.length))
  else bif Nat.beq f 80 then (qG v).bind fun p=>bQ (Nat.beq p.2 0 && niB σ && isI u) ((IL σ p.1).bind fun _=>(Qv (pV u)).bind fun l=>some (slN σ.length l.length,σ++[.rw (gu l)],σ.length))
  else bif Nat.beq f 236 then (qG v).bind fun p=>bQ (Nat.beq p.2 0) ((IL σ p.1).bind fun _=>match u with
   |.map none=>iJ (.int .i64 3) σ
   |.map (some mb)=>bQ (niB σ && (match σ[mb]? with|some o=>WT o|none=>false)) (some (.int .i64 3,σ.set mb (nO (zn [] (house.allR hm) 3)),mb))
   |_=>none)
  else none
 |_=>none
theorem AU {σ:Heap} {v:Value} {x:(Nat×Nat)×(Nat×Nat)} (h:Lc σ v=some x):v=.agg #[.s x.1.1 house.nb x.1.2,.s x.2.1 house.ns x.2.2]∧x.1.1 < σ.length∧x.2.1 < σ.length∧Ur house σ x.1.1 x.2.1=true:=by
 unfold Lc at h
 simp only [aL] at h
 obtain ⟨l,h1,h2⟩:=h
 split at h2
 ·simp only [aL,aN,aE] at h2
  obtain ⟨x',h3,y',h4,⟨⟨⟨⟨⟨⟨h5,h6⟩,h7⟩,h8⟩,h9⟩,c⟩,d⟩,a⟩:=h2
  cases a
  have h5:=aM h5
  have h6:=aM h6
  have h7:=aM h7
  have h8:=aM h8
  rw [mD h1,kY h3,kY h4,h5,h6,h7,h8]
  exact ⟨rfl,Nat.blt_eq.mp h9,Nat.blt_eq.mp c,d⟩
 ·cases h2
theorem Uu {σ:Heap} {b:Nat} {l:List Value} (h:rowIs σ b l=true):σ[b]?=some (.rw l):=by
 unfold rowIs at h
 split at h
 ·rename_i cs hcs
  obtain ⟨o,h1,h2⟩:=Option.bind_eq_some_iff.1 hcs
  rw [h1,oL h2,pG h]
 ·cases h
theorem Dj {σ:Heap} {tb:Nat} {x:(Nat×Nat)×(Nat×Nat)×(Nat×Nat)} (h:IL σ tb=some x):sH σ house hm tb x.2.2.1 x.2.2.2 x.1.1 x.1.2 x.2.1.1 x.2.1.2 (fun i=>(sS σ x.2.1.1 i).1) (fun i=>(sS σ x.2.1.1 i).2.2) (fun i k=>(sS σ (sS σ x.2.1.1 i).1 k).1) (fun i k=>(sS σ (sS σ x.2.1.1 i).1 k).2.2):=by
 unfold IL at h
 simp only [aL] at h
 obtain ⟨cs,⟨o,h0,h1⟩,h2⟩:=h
 split at h2
 ·simp only [aL,aN,aE] at h2
  obtain ⟨x',h3,y',h4,f,h5,r,h6,⟨⟨⟨⟨⟨g1,g2⟩,g3⟩,g4⟩,g5⟩,g6⟩,a⟩:=h2
  cases a
  have e:=pG g1
  rw [oL h1,← e] at h0
  exact ⟨h0,Uu g5,Uu g6,(yC g4).1,Nat.blt_eq.mp g2,Nat.blt_eq.mp g3⟩
 ·cases h2
theorem WV {s:Int} {l:List Nat} (h:Qv s=some l):s<0∧l=house.someB hm∨∃ i:Nat,s=i∧i<house.ns∧l=house.Az hm i:=by
 unfold Qv at h
 by_cases h1:s=-1
 ·rw [decide_eq_true h1] at h
  cases h
  exact .inl ⟨oO,Di.symm⟩
 ·rw [decide_eq_false h1] at h
  simp only [cond_false] at h
  by_cases h2:s=0
  ·rw [decide_eq_true h2] at h
   cases h
   exact .inr ⟨0,oO,by decide,Us.symm⟩
  ·rw [decide_eq_false h2] at h
   simp only [cond_false] at h
   by_cases h3:s=1
   ·rw [decide_eq_true h3] at h
    cases h
    exact .inr ⟨1,oO,by decide,Ut.symm⟩
   ·rw [decide_eq_false h3] at h;cases h
theorem aac {o:aB} (h:WT o=true):o=nO []:=by
 unfold WT at h
 split at h
 ·rfl
 ·cases h
end Go.AH.Heat
namespace Go.Proofs.YtajpgeklmcjciaaGreat
open Go Go.AH Go.AH.Heat
def adf:jk:=WU
theorem aad:iK Tryz.prog adf:=by
 intro f c σ r h
 have h:WU f c σ=some r:=h
 unfold WU at h
 split at h
 ·rename_i v
  cases hf:Nat.beq f 166 with
  |false=>rw [hf] at h;cases h
  |true =>
   rw [hf] at h
   have a:=aM hf
   subst a
   simp only [cond_true,aL,aN] at h
   obtain ⟨x,h1,h2,h3⟩:=h
   cases nP h3
   obtain ⟨h4,_,_,h7⟩:=AU h1
   obtain ⟨h8,h9⟩:=yC h7
   rw [h4]
   exact ⟨xI qO h8 h9 h2,Keep.refl⟩
 ·rename_i v u
  cases hf:Nat.beq f 79 with
  |true =>
   rw [hf] at h
   have a:=aM hf
   subst a
   simp only [cond_true,aL,aN,aE] at h
   obtain ⟨x,h1,⟨h2,d⟩,h3⟩:=h
   cases h3
   obtain ⟨h4,h5,h6,h7⟩:=AU h1
   obtain ⟨h8,h9⟩:=yC h7
   rw [h4,Ih h2]
   exact ⟨Qh (m:=hm) qO h8 h9 oD h5 h6 d,Keep.app⟩
  |false =>
   rw [hf] at h
   simp only [cond_false] at h
   clear hf
   cases hf:Nat.beq f 80 with
   |true =>
    rw [hf] at h
    have a:=aM hf
    subst a
    simp only [cond_true,aL,aN,aE] at h
    obtain ⟨p,h1,⟨⟨h2,h3⟩,h4⟩,x,h5,l,h6,h7⟩:=h
    cases h7
    have h2:=aM h2
    rw [jD h1,h2,Qu h4]
    exact ⟨IJ qO.ok oD (Dj h5) h3 (WV h6),Keep.app⟩
   |false =>
    rw [hf] at h
    simp only [cond_false] at h
    clear hf
    cases hf:Nat.beq f 236 with
    |false=>rw [hf] at h;cases h
    |true =>
     rw [hf] at h
     have a:=aM hf
     subst a
     simp only [cond_true,aL,aN] at h
     obtain ⟨p,h1,h2,x,h3,h4⟩:=h
     have h2:=aM h2
     rw [jD h1,h2]
     split at h4
     ·cases nP h4
      have:=count_nil qO oD (Dj h3)
      rw [Oh] at this
      exact ⟨this,Keep.refl⟩
     ·rename_i mb
      simp only [aN,aE] at h4
      obtain ⟨⟨h5,h6⟩,h7⟩:=h4
      cases h7
      split at h6
      ·rename_i o ho
       rw [aac h6] at ho
       have:=count_map qO oD (Dj h3) ho (fun q hq=>by simp at hq) h5
       rw [Oh] at this
       exact ⟨this,Keep.set⟩
      ·cases h6
     ·cases h4
 ·cases h
end Go.Proofs.YtajpgeklmcjciaaGreat
namespace Go.AH.Heat
open Go Go.AH
def wyC (W:Wk) (kB cK:Nat→Nat→Nat) (ks:Nat→Nat):Nat→List Value
 |0=>[]
 |i+1=>wyC W kB cK ks i++[.slice (some ⟨kB i (ks i),0,none⟩) (W.nk i (ks i)) (cK i (ks i))]
theorem IQ (W:Wk) (kB cK:Nat→Nat→Nat) (ks:Nat→Nat):∀ i,(wyC W kB cK ks i).length=i
 |0=>rfl
 |i+1=>by rw [wyC,aR,IQ W kB cK ks i];rfl
theorem Qw {W:Wk} {kB cK:Nat→Nat→Nat} {ks:Nat→Nat}:∀ {n i:Nat},i<n→(wyC W kB cK ks n)[i]?=some (.s (kB i (ks i)) (W.nk i (ks i)) (cK i (ks i)))
 |0,i,h=>by omega
 |n+1,i,h=>by
  have hl:=IQ W kB cK ks n
  rw [wyC]
  by_cases hi:i<n
  ·rw [bR oO];exact Qw hi
  ·obtain rfl:i=n:=oO
   rw [bE oO,hl,cY];rfl
end Go.AH.Heat
namespace Go.Proofs.YtajpgeklmcjciaaGreat
open Go Go.AH
attribute [local irreducible] bZ bK bM jB gy dO fC bW eU aX dV eH
open Go.AH.Heat
theorem Gg {A B:Prop} (k:B) (h:Hide B→A:=by intro h_k_;(repeat' (first|refine sCm ?_|(refine gU ?_;first|(refine bV ?_;first|refine st (aK rfl (by first|exact ig rfl|exact aF a0|exact aF a1|assumption)) rfl rfl ?_|refine st (bD rfl (by exact aV a0 rfl)) rfl rfl ?_)|refine sK8 ?_|refine sK0 ?_|refine PG ?_|refine LK ?_|refine sK1 ?_|(refine dX ?_;refine st (bG rfl rfl rfl (by first|exact hf1|exact xq (l:=[(bar:Int)]) (.inr (.inl aO)) (by simp) (bF hniH rfl))) rfl rfl ?_)|refine Hw ?_)|(refine gG ?_;first|refine JR ?_|refine JU ?_|(refine bV ?_;refine pI rfl (aK rfl (by first|exact aF a0|assumption)) rfl rfl ?_)|refine sK9 ?_|refine LQ ?_|(refine gIA ?_;refine pI rfl (nC rfl rfl (by omega)) rfl rfl ?_))|(refine fU ?_;first|refine frA (aK rfl (aF (aA a0))) rfl ?_ (hcs (by assumption))|refine frA (aZ rfl) rfl ?_ (hcl (by assumption))|refine frA (nC rfl rfl (by omega)) rfl ?_ (hcl (by assumption))|refine frA (aK rfl (by exact hw _)) rfl ?_ (hcs (by assumption))|refine frA (bD rfl (by exact hk3 _)) rfl ?_ hck|refine frN (nU (by rfl) (by rfl) (by rfl) (by rfl) rfl (by rfl)) uV hcL rfl rfl ?_|refine frA (eP rfl) rfl ?_ (kJ (by assumption))|refine frA (yR rfl rfl rfl) rfl ?_ (kJ (by assumption))|refine JQ ?_|(refine Ro ?_;refine frA (OI rfl) rfl ?_))|(refine fP ⟨by kernel_rfl,?_⟩)|refine dB (id:=8) ?_|refine dB (id:=14) ?_|refine aG ?_|refine dZ rfl ?_|refine eu rfl ?_));exact h_k_.h):A:=h ⟨k⟩
theorem YD {σ:Heap} {W:Wk} {bB bS cB cS:Nat} {wB cW:Nat→Nat} {kB cK:Nat→Nat→Nat} {bar rb c:Nat} {ks:Nat→Nat} (hv:uf W) (hA:wM σ W bB bS wB cW kB cK) (hK:∀ i<W.ns,∀ k<W.nw i,W.nk i k≤cK i k) (hbar:bar<W.nb) (hks:∀ i<W.ns,ks i<W.nw i) (hrb:∀ i<W.ns,aH σ rb i=some (.i (ks i:Nat))) (hbB:bB < σ.length) (hbS:bS < σ.length) (hrl:rb < σ.length) (hni:σ.all (fun o=>!aU o)=true) :
  Ev Tryz.prog 77 [.agg #[.s bB W.nb cB,.s bS W.ns cS],.agg #[.i (bar:Nat),.s rb W.ns c]] σ (.tuple #[slN σ.length W.ns,.i 0]) (σ++[.rw (wyC W kB cK ks W.ns)]):=by
 have hns3:=hv.s
 have hnb3:=hv.b2
 refine aI σ.length 74 Tryz.func77 rfl rfl rfl rfl rfl ?_
 have a0:(σ++[aB.rw [.s bB W.nb cB,.s bS W.ns cS]]++[aB.rw [.i (bar:Nat),.s rb W.ns c]])[σ.length]?=some (.rw [.s bB W.nb cB,.s bS W.ns cS]):=aA aO
 have a1:(σ++[aB.rw [.s bB W.nb cB,.s bS W.ns cS]]++[aB.rw [.i (bar:Nat),.s rb W.ns c]])[(σ++[aB.rw [.s bB W.nb cB,.s bS W.ns cS]]).length]?=some (.rw [.i (bar:Nat),.s rb W.ns c]):=aO
 have hniH:(σ++[aB.rw [.s bB W.nb cB,.s bS W.ns cS]]++[aB.rw [.i (bar:Nat),.s rb W.ns c]]).all (fun o=>!aU o)=true:=bF (bF hni rfl) rfl
 have hp:(σ++[aB.rw [.s bB W.nb cB,.s bS W.ns cS]]++[aB.rw [.i (bar:Nat),.s rb W.ns c]]).take σ.length=σ:=oS
 have hf1:=xI (σ:=σ++[aB.rw [.s bB W.nb cB,.s bS W.ns cS]]++[aB.rw [.i (bar:Nat),.s rb W.ns c]]) (cB:=cB) (cS:=cS) hv (hA.take hp) hK hniH
 have hne:¬ ((W.ns:Nat):Int) ≠ (W.ns:Nat):=oO
 have D:∀ y ∈ [(bar:Int)],(0:Int)≤y∧y≤((W.nb:Nat):Int) - 1:=fun y hy=>by
  simp only [fc] at hy
  subst hy;omega
 have v:¬ ¬ (∀ y ∈ [(bar:Int)],(0:Int)≤y∧y≤((W.nb:Nat):Int) - 1):=fun h=>h D
 refine Gg ?_
 obtain ⟨K,e⟩:∃ K,K=σ++[aB.rw [.s bB W.nb cB,.s bS W.ns cS]]++[aB.rw [.i (bar:Nat),.s rb W.ns c]]++[aB.rw [.i (bar:Nat)]]:=⟨_,rfl⟩
 refine .mk (dH [(2,.p σ.length),(3,.p (σ.length+1)),(4,.slice none 0 0),(5,.i 0)] K (by rw [e];rfl) ⟨rfl,(by (refine congrArg (fun n=>some (Value.p n)) ?_;simp;try omega)),rfl,rfl,trivial⟩ ?_)
 have G:K.take σ.length=σ:=by rw [e];exact aT hp
 have b0:K[σ.length]?=some (.rw [.s bB W.nb cB,.s bS W.ns cS]):=by rw [e];exact aA a0
 have b1:K[σ.length+1]?=some (.rw [.i (bar:Nat),.s rb W.ns c]):=by rw [e];exact aA (bJ oS)
 clear hf1 a0 a1 hniH hp D v e
 have a0:=b0
 have a1:=b1
 apply aG
 refine Gg ?_
 clear a0 a1
 refine TN 45 ?_
 refine dS (ι:=Nat×Nat) (fun k=>[(2,.p σ.length),(3,.p (σ.length+1)),(4,.slice none 0 0),(5,.i 0),(7,dW k.2 1 k.1),(35,.s rb W.ns c),(36,.i (W.ns:Nat)),(37,.i (k.1:Nat))])
  (fun k mk H=>k.1≤W.ns∧mk=[]∧H.take K.length=K∧K.length≤k.2∧H[k.2]?=some (.gr (wyC W kB cK ks k.1) 45)) (fun k=>W.ns - k.1) (0,K.length) tE ⟨bN _,rfl,by simp,aD _,aO⟩ ?_
 rintro ⟨i,g⟩ mk H ⟨hi,rfl,m,I,hg⟩
 dsimp only at hi I hg
 dsimp only
 have J:=take_len G
 have Q:=aQ hg
 have C:H.take σ.length=σ:=by
  have e1:(H.take K.length).take σ.length=σ:=by rw [m];exact G
  rwa [eJ,fj J] at e1
 by_cases a:i<W.ns
 ·have L:(i:Int)<(W.ns:Nat):=oO
  have j:=hks i a
  have hw2:=hv.w2 i a
  have a0:H[σ.length]?=some (.rw [.s bB W.nb cB,.s bS W.ns cS]):=by rw [iY m (aQ b0)];exact b0
  have a1:H[σ.length+1]?=some (.rw [.i (bar:Nat),.s rb W.ns c]):=by rw [iY m (aQ b1)];exact b1
  have hd1:aH H rb i=some (.i (ks i:Nat)):=by
   have:=hrb i a
   unfold aH at this ⊢
   rw [iY C hrl];exact this
  have f:=hA.take C
  have P:aH H bS (i+0)=some (.s (wB i) (W.nw i) (cW i)):=fQ (k:=0) (f.steps i a) oO
  have hk1:¬ ((ks i:Nat):Int)<0:=oO
  have hk2:¬ ((ks i:Nat):Int)≥(W.nw i:Nat):=oO
  refine Gg ?_
  refine .mk (dH [(2,.p σ.length),(3,.p (σ.length+1)),(4,.slice none 0 0),(5,.i 0),(7,dW g 1 i),(8,.i (i:Nat)),(9,.i (ks i:Nat)),(35,.s rb W.ns c),(36,.i (W.ns:Nat)),(37,.i (i:Nat))] H rfl tE ?_)
  have N:=f.kinks i a (ks i) j
  have E:kB i (ks i)<H.length:=dJ (N 0 (hv.k i a _ j).n1)
  have O:wB i<H.length:=dJ (f.ways i a (ks i) j)
  have hs1:σ.length<H.length:=aQ a0
  have z:bS<H.length:=oO
  have hgB:Nat.blt g H.length=true:=Nat.blt_eq.mpr Q
  have hcl:∀ {q o:Nat},q<H.length→closed H.length (.pointer (some ⟨q,o,none⟩))=true:=fun {q o} h=>(show Nat.blt q H.length=true from Nat.blt_eq.mpr h)
  have hcs:∀ {q o n c:Nat},q<H.length→closed H.length (.slice (some ⟨q,o,none⟩) n c)=true:=fun h=>bP (Nat.blt_eq.mpr h)
  have hw:∀ X,aH (H++X) bS (i+0)=some (.s (wB i) (W.nw i) (cW i)):=fun X=>by rw [jP z];exact P
  have hk3:∀ X,aJ (H++X) (wB i) (ks i) 1=some [.s (kB i (ks i)) (W.nk i (ks i)) (cK i (ks i))]:=fun X=>by rw [iT O];exact f.ways i a (ks i) j
  have hck:closed H.length (.agg #[.s (kB i (ks i)) (W.nk i (ks i)) (cK i (ks i))])=true:=by
   have:=bP (n:=H.length) (i:=kB i (ks i)) (o:=0) (l:=W.nk i (ks i)) (c:=cK i (ks i)) (Nat.blt_eq.mpr E)
   simp [closed,iZ,dP,this]
  have hcL:dP H.length [.s (kB i (ks i)) (W.nk i (ks i)) (cK i (ks i))]=true:=by
   have:=bP (n:=H.length) (i:=kB i (ks i)) (o:=0) (l:=W.nk i (ks i)) (c:=cK i (ks i)) (Nat.blt_eq.mpr E)
   simp [dP,this]
  have M:∀ Y,(H++Y)[g]?=some (.gr (wyC W kB cK ks i) 45):=fun Y=>aA hg
  have u:(wyC W kB cK ks i).length=i*1:=by rw [IQ,cI]
  have w:aJ (H++[aB.rw [.s (kB i (ks i)) (W.nk i (ks i)) (cK i (ks i))]]) (H++[]).length 0 (1*1)=some [.s (kB i (ks i)) (W.nk i (ks i)) (cK i (ks i))]:=by rw [bL];exact dU rfl
  refine fA oK rfl (?_)
  refine Gg ?_
  refine st (iQ (t:=40) oR oR rfl (by exact M _) (by exact u) rfl (by exact w) oO oR oO oO) rfl rfl ?_
  refine Gg ?_
  have d:∀ k,gJ (fun _=>true) (addN [] k [aB.rw [.s (kB i (ks i)) (W.nk i (ks i)) (cK i (ks i))]])=[aB.rw [.s (kB i (ks i)) (W.nk i (ks i)) (cK i (ks i))]]:=fun _=>rfl
  refine ⟨(i+1,H.length+1),⟨by dsimp only;omega,rfl,?_,by dsimp only;omega,?_⟩,by dsimp only;omega,⟨rfl,rfl,rfl,rfl,congrArg some ?_,rfl,rfl,rfl,trivial⟩⟩
  ·rw [d];exact aT (take_set (aT m) I)
  ·rw [d];exact bJ oS
  ·rw [d];dsimp only;simp
 ·obtain rfl:i=W.ns:=oO
  have L:¬ ((W.ns:Nat):Int)<(W.ns:Nat):=oO
  refine Gg ?_
  have s0:fK σ.length [g] σ.length=⟨g,0,0⟩:=by simp [fK]
  refine dK (v2:=.tuple #[slN σ.length W.ns,.i 0]) (.tmp rfl (.tmp rfl .nil)) (aX.src [.rw (wyC W kB cK ks W.ns)] [g] C rfl (by simp [dF];omega) ⟨?_,trivial⟩ (sJ (Ep oS s0) (.i 0))) ⟨rfl,rfl⟩
  refine sG s0 (.inr ⟨_,hg⟩) rfl fun x h1 h2=>?_
  have hx:x<W.ns:=by rw [IQ] at h1;exact h1
  have F:=Qw (W:=W) (kB:=kB) (cK:=cK) (ks:=ks) hx
  rw [cC h1] at F
  rw [Option.some.inj F]
  exact kX (by have:=dJ (hA.kinks x hx (ks x) (hks x hx) 0 (hv.k x hx _ (hks x hx)).n1);simp;omega) (fE (dJ (hA.kinks x hx (ks x) (hks x hx) 0 (hv.k x hx _ (hks x hx)).n1))) (aD _)
end Go.Proofs.YtajpgeklmcjciaaGreat
namespace Go.AH
open Go
section
variable {P:Program} (w:World)
end
section
variable {P:Program} {n0 N:Nat} {rd:Option Nat} {e:Env} {mk:List Nat} {σ:Heap} {K:Env→List Nat→Heap→Prop} {all rest:List Oper}
end
section ops
variable {P:Program} {rd:Option Nat} {ty:TypeId} {e:Env} {σ:Heap} {x y z a b:Operand} {v u:Value}
abbrev slq (i o sz n:Nat):Value:=.slice (some ⟨i,o,some sz⟩) n n
theorem afc {n:Nat} {ρ:Rho} {i o sz k c':Nat} (hi:i<n) (hc:k≤c'∧(sz=0→k=c')) (hs:(ρ i).o+o+c'*sz≤(ρ i).s):gq n ρ (slq i o sz k) (.slice (some ⟨(ρ i).b,(ρ i).o+o,none⟩) k c') :=
 VQ.gslice (q:=false) i o k k c' sz hc hs hi rfl
theorem Oi {place:Nat→Option (Nat×Nat)}:∀ {vs:List (Nat×Value)} {cs cs':List Value},rJ place cs vs=some cs'→cs'.length=cs.length
 |[],cs,cs',h=>by cases h;rfl
 |(i,v)::vs,cs,cs',h=>by
  simp only [rJ] at h
  split at h
  ·cases h
  ·rename_i c a _
   cases hb:(Nat.beq (dR v).length a && Nat.ble (c+(dR v).length) cs.length) with
   |false=>rw [hb] at h;cases h
   |true =>
    rw [hb] at h
    simp only [aE] at hb
    rw [Oi (place:=place) h,pX (cA hb.2)]
theorem Ld {t el size bytes len:Nat} {agg:Bool} {z:Value} {ps:List (Nat×Operand)} {vs:List (Nat×Value)} {cs:List Value} [ha:Sl P t el] [ht:Ty P el size agg z bytes] (hz:plain z=true)
  (hsz:z.cells.size=size) (h0:Nat.blt 0 (len*size)=true) (h1:Nat.ble (len*size) 16777216=true) (h:tJ e ps=some vs) (hf:rJ (fun i=>some (i*size,size)) (iG (dR z) len) vs=some cs) :
  bW P rd (.buildSlice t len ps.toArray) ty e σ (slq σ.length 0 size len) (σ++[.gr cs el]) :=
 bY oS fun op ho _ G w0 ρ A w hs hx=>by
  obtain ⟨g1,g2⟩:=uY (A:=A) (n:=σ.length) (ρ:=ρ) (fun p hp u hu=>hx p.2 (by simp only [Op.operands];simp;exact ⟨p.1,hp⟩) u hu) h
  obtain ⟨ie,i1,i2,i3,_⟩:=ht.info
  obtain ⟨rc,g3,g4⟩:=vX vs _ _ _ _ (zW (n:=σ.length) (ρ:=ρ) (k:=len) hz hsz) g1 g2 hf
  have hcl:cs.length=len*size:=by
   have hv:=(kQ (aY (n:=0) (ρ:=fun k=>⟨k,0,0⟩) z hz)).1
   have hv:(dR z).length=z.cells.size:=by simpa using hv
   rw [Oi hf,pY,hv,hsz]
  have d:rc.size=len*size:=by have:=g4.1;simp at this;omega
  have c:=lu hs (.cells rc el) (.gr cs el) (len*size) (by
   intro _
   refine ⟨fun hg=>by have h1:=(hs.fgn _ hg).1;have:=hs.size;simp only at h1;omega,rfl,rc,gX w _,d,oO,fun k hk a=>?_⟩
   exact (g4.2 k (oU hk) a).mono oS fun q hq=>iP hq)
  refine ⟨upd ρ σ.length w.heap.size (len*size),.s w.heap.size len len,w.alloc (.cells rc el),.inl ?_,?_,by simp,fun i hi=>iP hi,c⟩
  ·have h0':=Nat.blt_eq.mp h0
   have h1':=cA h1
   have:=run_buildSlice (P:=P) w t el len (ps.toArray.map fun p=>(p.1,A.eval p.2)) rc ie z ha.und i1 i3 (by rw [i2];omega) (by rw [i2];omega) (by
    rw [i2]
    have em:(Array.range (len*size)).map (z.cells[· % z.cells.size]!)=madeCells z.cells (len*size):=rfl
    rw [em];simpa using g3)
   simp only [List.map_toArray] at this
   simp [execOp,ho,this]
  ·have:=afc (n:=(σ++[aB.gr cs el]).length) (ρ:=upd ρ σ.length w.heap.size (len*size)) (i:=σ.length) (o:=0) (sz:=size) (k:=len) (c':=len) oS ⟨aD _,fun _=>rfl⟩ (by simp [upd])
   rw [oh] at this
   simpa using this
end ops
end Go.AH
namespace Go.AH.Heat
open Go Go.AH
def Wk.rg (W:Wk) (ks:Nat→Nat) (r:Int×Int):Nat→Int×Int
 |0=>r
 |i+1=>W.nxt i (ks i) (W.rg ks r i)
def rgC (f:Nat→Int×Int):Nat→List Value
 |0=>[]
 |i+1=>rgC f i++[.int .i64 (f i).1,.int .i64 (f i).2]
theorem uQ (f:Nat→Int×Int):∀ i,(rgC f i).length=i*2
 |0=>rfl
 |i+1=>by rw [rgC,aR,uQ f i,Nat.succ_mul];rfl
theorem yD (f:Nat→Int×Int):∀ i,dL (rgC f i)=true
 |0=>rfl
 |i+1=>by rw [rgC,nV,yD f i];rfl
theorem WW {f:Nat→Int×Int}:∀ {n i:Nat},i<n→((rgC f n).drop (i*2)).take 2=[.i (f i).1,.i (f i).2]
 |0,i,h=>by omega
 |n+1,i,h=>by
  have hl:=uQ f n
  rw [rgC]
  by_cases hi:i<n
  ·have h2:i*2+2≤n*2:=oO
   rw [fS oO,fp (by rw [e6];omega)]
   exact WW hi
  ·obtain rfl:i=n:=oO
   rw [← hl,List.drop_left];rfl
theorem agp {W:Wk} (hv:uf W) {ks:Nat→Nat} (hks:∀ i<W.ns,ks i<W.nw i) {r:Int×Int} (hr:jM r):∀ i≤W.ns,jM (W.rg ks r i)
 |0,_=>hr
 |i+1,h=>acT hv oO (hks i oO) (agp hv hks hr i oO)
end Go.AH.Heat
namespace Go.Proofs.YtajpgeklmcjciaaGreat
open Go Go.AH
attribute [local irreducible] bZ bK bM jB gy dO fC bW eU aX dV eH
open Go.AH.Heat
theorem Dk {A B:Prop} (k:B) (h:Hide B→A:=by intro h_k_;(repeat' (first|refine sCm ?_|(refine gU ?_;first|refine st (DC rfl rfl (by omega) (by omega)) rfl rfl ?_|(refine bV ?_;refine st (bD rfl (by assumption)) rfl rfl ?_)|refine sK0 ?_|refine sK1 ?_|refine JV ?_)|(refine fU ?_;first|refine frA (eP rfl) rfl ?_ (kJ (by assumption))|refine frA (bD rfl (by exact hq7 _)) rfl ?_ hck|refine frA (aZ rfl) rfl ?_ (hcl (by assumption))|refine frA (aK rfl (by exact hq8 _)) rfl ?_ rfl|refine frA (aK rfl (by exact hq9 _)) rfl ?_ rfl|(refine aaS ?_;refine frA (ER rfl rfl) rfl ?_)|(refine EX ?_;refine frA (oG (by rfl) rfl (by rfl)) rfl ?_)|(refine qF ?_;refine frA (bG rfl rfl rfl (by first|exact hfa _|exact hfb _)) rfl ?_)|refine VU ?_)|(refine fP ⟨by kernel_rfl,?_⟩)|refine dB (id:=1) ?_|refine dB (id:=2) ?_|refine dB (id:=6) ?_|refine aG ?_|refine dZ rfl ?_|refine eu rfl ?_));exact h_k_.h):A:=h ⟨k⟩
theorem WX {σ:Heap} {W:Wk} {bB bS:Nat} {wB cW:Nat→Nat} {kB cK:Nat→Nat→Nat} {ks:Nat→Nat} {wb c n:Nat} {r:Int×Int} (hv:uf W) (hA:wM σ W bB bS wB cW kB cK) (hks:∀ i<W.ns,ks i<W.nw i) (hr:jM r) (hn:W.ns=n+1)
  (hwb:∀ i<W.ns,aJ σ wb i 1=some [.s (kB i (ks i)) (W.nk i (ks i)) (cK i (ks i))]) (hni:σ.all (fun o=>!aU o)=true) :
  Ev Tryz.prog 78 [.agg #[.i r.1,.i r.2],.s wb (n+1) c] σ (.s σ.length (n+2) (n+2)) (σ++[.rw (rgC (W.rg ks r) (n+2))]):=by
 have hns3:=hv.s
 refine aI σ.length 38 Tryz.func78 rfl rfl rfl rfl rfl ?_
 have a0:(σ++[aB.rw [.i r.1,.i r.2]])[σ.length]?=some (.rw [.i r.1,.i r.2]):=aO
 have hp:(σ++[aB.rw [.i r.1,.i r.2]]).take σ.length=σ:=oS
 refine Dk ?_
 refine .mk (aG ?_)
 refine st (bD rfl (aV a0 rfl)) rfl rfl ?_
 refine st (Ld oR oR oR oR rfl oR) rfl rfl ?_
 refine Dk ?_
 obtain ⟨K,hK⟩:∃ K,K=σ++[aB.rw [.i r.1,.i r.2]]++[aB.gr [.i r.1,.i r.2] 23]:=⟨_,rfl⟩
 refine .mk (dH [(1,.s wb (n+1) c),(4,.slice none 0 0),(5,dW (σ.length+1) 2 1)] K (by rw [hK];rfl) ⟨rfl,rfl,by simp [Env.get];rfl,trivial⟩ ?_)
 have J:K.take σ.length=σ:=by rw [hK];exact aT hp
 have E:K[σ.length+1]?=some (.gr (rgC (W.rg ks r) 1) 23):=by rw [hK];exact bJ oS
 have j:K.all (fun o=>!aU o)=true:=by rw [hK];exact bF (bF hni rfl) rfl
 clear hK a0 hp
 apply aG
 refine Dk ?_
 refine dS (ι:=Nat×Nat) (fun k=>[(4,.slice none 0 0),(5,dW k.2 2 (k.1+1)),(11,.s wb (n+1) c),(12,.i ((n+1:Nat):Int)),(13,.i (k.1:Nat))])
  (fun k mk H=>k.1≤n+1∧mk=[]∧H.take σ.length=σ∧H.all (fun o=>!aU o)=true∧σ.length≤k.2∧H[k.2]?=some (.gr (rgC (W.rg ks r) (k.1+1)) 23)) (fun k=>n+1 - k.1) (0,σ.length+1) tE ⟨bN _,rfl,J,j,by dsimp only;omega,E⟩ ?_
 clear J E j K
 rintro ⟨i,g⟩ mk H ⟨hi,rfl,hp,hniH,I,hg⟩
 dsimp only at hi I hg
 dsimp only
 have S:=aQ hg
 have hσl:=take_len hp
 by_cases hin:i<n+1
 ·have L:(i:Int)<((n+1:Nat):Int):=oO
  have m:i<W.ns:=oO
  have w:=hks i m
  have P:=hA.take hp
  have N:=P.kinks i m (ks i) w
  have f:=hv.k i m _ w
  have hkB:kB i (ks i)<H.length:=dJ (N 0 f.n1)
  have hd1:aJ H wb i 1=some [.s (kB i (ks i)) (W.nk i (ks i)) (cK i (ks i))]:=fH hp (hwb i m)
  have Q:=agp hv hks hr i oO
  have hput:∀ c,putCells (H++[aB.rw [c]]) H.length 0 [.s (kB i (ks i)) (W.nk i (ks i)) (cK i (ks i))]=some (H++[aB.rw [.s (kB i (ks i)) (W.nk i (ks i)) (cK i (ks i))]]):=fun c=>iW (aD _) (cU _)
  have F:∀ X,aJ (H++X) g ((i:Int).toNat*2) 2=some [.i (W.rg ks r i).1,.i (W.rg ks r i).2]:=fun X=>by
   rw [iT S,cM]
   unfold aJ
   rw [hg]
   simp only [uQ,show Nat.ble (i*2+2) ((i+1)*2)=true from Nat.ble_eq.mpr oO,cond_true,WW (show i<i+1 by omega)]
  have R:=F [aB.rw [.s (kB i (ks i)) (W.nk i (ks i)) (cK i (ks i))]]
  refine Dk ?_
  obtain ⟨H2,d⟩:∃ H2,H2=H++[aB.rw [.s (kB i (ks i)) (W.nk i (ks i)) (cK i (ks i))]]++[aB.rw [.i (W.rg ks r i).1,.i (W.rg ks r i).2]]:=⟨_,rfl⟩
  refine .mk (dH [(4,.slice none 0 0),(5,dW g 2 (i+1)),(7,.p H.length),(8,.p (H.length+1)),(11,.s wb (n+1) c),(12,.i ((n+1:Nat):Int)),(13,.i (i:Nat))] H2 d.symm ⟨rfl,rfl,rfl,by simp [Env.get],rfl,rfl,rfl,trivial⟩ ?_)
  have hH2l:H2.length=H.length+2:=by rw [d];simp
  have hp2:H2.take σ.length=σ:=by rw [d];exact aT (aT hp)
  have x:H2.all (fun o=>!aU o)=true:=by rw [d];exact bF (bF hniH rfl) rfl
  have O:H2[g]?=some (.gr (rgC (W.rg ks r) (i+1)) 23):=by rw [d];exact aA (aA hg)
  have b7:H2[H.length]?=some (aB.rw [.s (kB i (ks i)) (W.nk i (ks i)) (cK i (ks i))]):=by rw [d];exact aA aO
  have b8:H2[H.length+1]?=some (aB.rw [.i (W.rg ks r i).1,.i (W.rg ks r i).2]):=by rw [d];exact bJ oS
  obtain ⟨nx,v⟩:∃ nx,nx=W.rg ks r (i+1):=⟨_,rfl⟩
  have C:(qp (W.nk i (ks i)) (W.kf i (ks i)) (W.rg ks r i).1).1=nx.1:=by rw [v];rfl
  have D:(qp (W.nk i (ks i)) (W.kf i (ks i)) (W.rg ks r i).2).2=nx.2:=by rw [v];rfl
  generalize W.rg ks r i=ri at *
  have hrg1:0≤ri.1∧ri.1≤ri.2∧ri.2≤1000:=Q
  have G:∀ X,BD (H2++X) (kB i (ks i)) (W.nk i (ks i)) (W.kf i (ks i)):=fun X q hq=>(hA.take (aT hp2)).kinks i m (ks i) w q hq
  have hfa:=fun X=>AO (σ:=H2++X) (c:=cK i (ks i)) (h:=ri.1) f.n1 (by have:=f.n2;omega) (by rw [f.z];omega) (G X)
  have hfb:=fun X=>AO (σ:=H2++X) (c:=cK i (ks i)) (h:=ri.2) f.n1 (by have:=f.n2;omega) (by rw [f.z];omega) (G X)
  have hq7:∀ X,aJ (H2++X) H.length 0 1=some [.s (kB i (ks i)) (W.nk i (ks i)) (cK i (ks i))]:=fun X=>aV (aA b7) rfl
  have hq8:∀ X,aH (H2++X) (H.length+1) (0+0)=some (.i ri.1):=fun X=>aF (aA b8)
  have hq9:∀ X,aH (H2++X) (H.length+1) (0+1)=some (.i ri.2):=fun X=>aF (aA b8)
  have hgB:Nat.blt g H2.length=true:=Nat.blt_eq.mpr oO
  have hs1:H.length<H2.length:=oO
  have hs2:H.length+1<H2.length:=oO
  have hcl:∀ {q o:Nat},q<H2.length→closed H2.length (.pointer (some ⟨q,o,none⟩))=true:=fun {q o} h=>(show Nat.blt q H2.length=true from Nat.blt_eq.mpr h)
  have hck:closed H2.length (.agg #[.s (kB i (ks i)) (W.nk i (ks i)) (cK i (ks i))])=true:=by
   have:=bP (n:=H2.length) (i:=kB i (ks i)) (o:=0) (l:=W.nk i (ks i)) (c:=cK i (ks i)) (Nat.blt_eq.mpr oO)
   simp [closed,iZ,dP,this]
  have M:∀ Y,(H2++Y)[g]?=some (.gr (rgC (W.rg ks r) (i+1)) 23):=fun Y=>aA O
  have u:(rgC (W.rg ks r) (i+1)).length=(i+1)*2:=uQ _ _
  have y:aJ (H2++[aB.rw [.i (qp (W.nk i (ks i)) (W.kf i (ks i)) ri.1).1,.i (qp (W.nk i (ks i)) (W.kf i (ks i)) ri.2).2]]) (H2++[]).length 0 (1*2)=some [.i (qp (W.nk i (ks i)) (W.kf i (ks i)) ri.1).1,.i (qp (W.nk i (ks i)) (W.kf i (ks i)) ri.2).2]:=by rw [bL];exact dU rfl
  clear d hd1 F R hput b7 b8
  refine fA oK rfl ?_
  refine Dk ?_
  refine st (iQ (t:=47) oR oR rfl (by exact M _) (by exact u) rfl (by exact y) oO oR oO oO) rfl rfl ?_
  refine Dk ?_
  have a:∀ k X,gJ (fun _=>true) (addN [] k [X])=[X]:=fun _ _=>rfl
  refine ⟨(i+1,H2.length+1),⟨by dsimp only;omega,rfl,?_,?_,by dsimp only;omega,?_⟩,by dsimp only;omega,⟨rfl,congrArg some ?_,rfl,rfl,rfl,trivial⟩⟩
  ·rw [a];exact aT (take_set (aT hp2) I)
  ·rw [a];exact bF (ku (bF x rfl) rfl) rfl
  ·rw [a]
   dsimp only
   have e:rgC (W.rg ks r) (i+1+1)=rgC (W.rg ks r) (i+1)++[.i nx.1,.i nx.2]:=by rw [v];rfl
   rw [e,← C,← D]
   exact bJ oS
  ·rw [a];dsimp only;simp
 ·obtain rfl:i=n+1:=oO
  have L:¬ ((n+1:Nat):Int)<((n+1:Nat):Int):=oO
  refine Dk ?_
  have s0:fK σ.length [g] σ.length=⟨g,0,0⟩:=by simp [fK]
  exact dK (v2:=.s σ.length (n+2) (n+2)) (.tmp rfl .nil) (aX.src [.rw (rgC (W.rg ks r) (n+2))] [g] hp rfl (by simp [dF];omega) ⟨oN s0 (.inr ⟨_,hg⟩) (yD _ _),trivial⟩ (jV oS s0)) ⟨rfl,rfl⟩
open Go.AH.Heat Go.AH.Warp
theorem Uw {A B:Prop} (k:B) (h:Hide B→A:=by intro h_k_;(repeat' (first|refine sCm ?_|(refine gU ?_;first|(refine bV ?_;first|refine st (aK rfl (by exact aF a0)) rfl rfl ?_|refine st (bD rfl (by assumption)) rfl rfl ?_)|refine sK0 ?_|refine sK3 ?_|refine sK4 ?_|refine JV ?_)|refine dB (id:=1) ?_|refine dB (id:=2) ?_|refine dB (id:=5) ?_|refine aG ?_|refine sK2 ?_|refine sK6 ?_|fail));exact h_k_.h):A:=h ⟨k⟩
theorem G9 {σ:Heap} {B:Bld} {sb cS:Nat} (hv:xK B) (hS:L8 σ B sb) :
  Ev Tryz.prog 175 [.agg #[.s sb B.n cS,.i B.most]] σ (.p σ.length) (σ++[.rw (B.cs sb cS (σ.length+1) (B.n+1)),.rw (rgC B.tu (B.n+1))]):=by
 refine aI σ.length 42 Tryz.func175 rfl rfl rfl rfl rfl ?_
 refine Uw ?_
 have a0:(σ++[aB.rw [.s sb B.n cS,.i B.most]])[σ.length]?=some (.rw [.s sb B.n cS,.i B.most]):=aO
 refine .mk (aG ?_)
 refine st (bD rfl (aV a0 rfl)) rfl rfl ?_
 refine st (oG oR rfl oR) rfl rfl ?_
 refine st (Ld oR oR oR oR rfl oR) rfl rfl ?_
 refine Uw ?_
 obtain ⟨H0,e⟩:∃ H0,H0=σ++[aB.rw [.s sb B.n cS,.i B.most]]++[aB.gr (rgC B.tu 1) 23]++[aB.rw [.s sb B.n cS,.i B.most,dW (σ.length+1) 2 1]]:=⟨_,rfl⟩
 have e1:(σ++[aB.rw [.s sb B.n cS,.i B.most]]).length=σ.length+1:=oS
 refine .mk (dH [(1,.p σ.length),(3,.p (σ.length+2))] H0 (by rw [e,← e1];rfl) ⟨rfl,by simp [Env.get],trivial⟩ ?_)
 have z:H0.take σ.length=σ:=by rw [e];simp
 have a0:H0[σ.length]?=some (.rw [.s sb B.n cS,.i B.most]):=by rw [e];exact aA (aA aO)
 have w:H0[σ.length+1]?=some (.gr (rgC B.tu 1) 23):=by rw [e];exact aA (bJ e1)
 have y:H0[σ.length+2]?=some (.rw [.s sb B.n cS,.i B.most,dW (σ.length+1) 2 1]):=by rw [e];exact bJ oS
 clear e e1
 apply aG
 refine Uw ?_
 refine dS (ι:=Nat×Nat) (fun k=>[(3,.p (σ.length+2)),(12,.s sb B.n cS),(13,.i (B.n:Nat)),(14,.i (k.1:Nat))])
  (fun k mk H=>k.1≤B.n∧mk=[]∧H.take σ.length=σ∧H[σ.length+2]?=some (.rw [.s sb B.n cS,.i B.most,dW k.2 2 (k.1+1)])∧σ.length+1≤k.2∧H[k.2]?=some (.gr (rgC B.tu (k.1+1)) 23)) (fun k=>B.n - k.1) (0,σ.length+1) tE ⟨bN _,rfl,z,y,aD _,w⟩ ?_
 clear z a0 w y H0
 rintro ⟨i,g⟩ mk H ⟨hi,rfl,hp,hr,M,hg⟩
 dsimp only at hi M hg hr
 dsimp only
 have hn20:=hv.n
 have hHl:=aQ hg
 have G:=aQ hr
 by_cases C:i<B.n
 ·have D:(i:Int)<(B.n:Nat):=oO
  have hst:=hv.st i C
  have hd1:aJ H sb (0+i*4) 4=some [.i (B.ang i),.i (B.tlo i),.i (B.thi i),.i (B.hard i)]:=by rw [bA];exact fH hp (hS.st i C)
  refine Uw ?_
  obtain ⟨H2,c⟩:∃ H2,H2=H++[aB.rw [.i (B.ang i),.i (B.tlo i),.i (B.thi i),.i (B.hard i)]]:=⟨_,rfl⟩
  refine .mk (dH [(3,.p (σ.length+2)),(5,.p H.length),(12,.s sb B.n cS),(13,.i (B.n:Nat)),(14,.i (i:Nat))] H2 c.symm tE ?_)
  have f:H2.length=H.length+1:=by rw [c];simp
  have b3:H2[σ.length+2]?=some (.rw [.s sb B.n cS,.i B.most,dW g 2 (i+1)]):=by rw [c];exact aA hr
  have b5:H2[H.length]?=some (.rw [.i (B.ang i),.i (B.tlo i),.i (B.thi i),.i (B.hard i)]):=by rw [c];exact aO
  have J:H2[g]?=some (.gr (rgC B.tu (i+1)) 23):=by rw [c];exact aA hg
  have hp2:H2.take σ.length=σ:=by rw [c];exact aT hp
  have a:∀ {o:Nat},closed H2.length (.pointer (some ⟨σ.length+2,o,none⟩))=true:=fun {o}=>Nat.blt_eq.mpr (by rw [f];exact Nat.lt_succ_of_lt G)
  have m:∀ {o:Nat},closed H2.length (.pointer (some ⟨H.length,o,none⟩))=true:=fun {o}=>Nat.blt_eq.mpr (by rw [f];exact Nat.lt_succ_self _)
  have u:closed H2.length (dW g 2 (i+1))=true:=kJ (Nat.blt_eq.mpr oO)
  have hq3:∀ X,aH (H2++X) (σ.length+2) (0+2)=some (dW g 2 (i+1)):=fun X=>aF (aA b3)
  have F:∀ X,aH (H2++X) H.length (0+0)=some (.i (B.ang i)):=fun X=>aF (aA b5)
  have N:∀ X,aH (H2++X) H.length (0+1+0)=some (.i (B.tlo i)):=fun X=>aF (aA b5)
  have K:∀ X,aH (H2++X) H.length (0+1+1)=some (.i (B.thi i)):=fun X=>aF (aA b5)
  have d:g ≠ σ.length+2:=by intro h;rw [h,hr] at hg;cases hg
  have E:(H2++[aB.rw [.i (B.tlo i - B.ang i),.i (B.thi i - B.ang i)]])[g]?=some (.gr (rgC B.tu (i+1)) 23):=aA J
  have j:(rgC B.tu (i+1)).length=(i+1)*2:=uQ _ _
  have t:aJ (H2++[aB.rw [.i (B.tlo i - B.ang i),.i (B.thi i - B.ang i)]]) (H2++([]:Heap)).length 0 (1*2)=some [.i (B.tlo i - B.ang i),.i (B.thi i - B.ang i)]:=by rw [bL];exact dU rfl
  have hput:∀ v x,putCells ((H2++[aB.rw [.i (B.tlo i - B.ang i),.i (B.thi i - B.ang i)]]).set g .dead++x) (σ.length+2) (0+2) [v]=some (((H2++[aB.rw [.i (B.tlo i - B.ang i),.i (B.thi i - B.ang i)]]).set g .dead++x).set (σ.length+2) (.rw [.s sb B.n cS,.i B.most,v])):=fun v x=>fM (aA (aC (aA b3) d)) oS oS rfl
  clear c hd1
  refine Late.Bh 0 18 (id:=5) oK rfl ?_
  repeat' (first|refine sCm ?_|(refine gU ?_;first|refine st (iQ oR oR rfl (by exact E) (by exact j) rfl (by exact t) oO oR oO oD) rfl rfl ?_|(refine gV ?_;refine stN (bU rfl rfl rfl rfl (by exact hput _ _)) rfl ?_))|(refine fU ?_;first|refine qX ?_;refine frA (eP rfl) rfl ?_ a|refine OH ?_;refine frA (jT rfl) rfl ?_ a|refine fFA ?_;refine frA (aZ rfl) rfl ?_ a|refine fFA ?_;refine frA (aZ rfl) rfl ?_ m|refine gB ?_;refine frA (aK rfl (by exact hq3 _)) rfl ?_ u|refine gB ?_;refine frA (aK rfl (by exact F _)) rfl ?_ rfl|refine gB ?_;refine frA (aK rfl (by exact N _)) rfl ?_ rfl|refine gB ?_;refine frA (aK rfl (by exact K _)) rfl ?_ rfl|refine LM ?_|(refine EX ?_;refine fr (oG oR rfl oR) oR rfl ?_)|refine VU ?_)|(refine fP ⟨oK,?_⟩)|refine aG ?_|refine Late.split ?_ rfl rfl rfl rfl ?_)
  all_goals
   refine ⟨(i+1,H2.length+1),⟨by dsimp only;omega,rfl,take_set (aT (take_set (aT hp2) oO)) oO,?_,by dsimp only;omega,?_⟩,by dsimp only;omega,tE⟩
   ·rw [aS (aA (aC (aA b3) d))]
    show some (aB.rw [_,_,dW (List.length (H2++[_])) 2 (i+1+1)])=_
    rw [aR];rfl
   ·exact aC (bJ oS) (by dsimp only;omega)
 ·obtain rfl:i=B.n:=oO
  have D:¬ ((B.n:Nat):Int)<(B.n:Nat):=oO
  refine Uw ?_
  have d:g ≠ σ.length+2:=by intro h;rw [h,hr] at hg;cases hg
  have L:sb < σ.length:=dJ (hS.st 0 oO)
  have s0:fK σ.length [σ.length+2,g] σ.length=⟨σ.length+2,0,0⟩:=by simp [fK]
  have s1:fK σ.length [σ.length+2,g] (σ.length+1)=⟨g,0,0⟩:=by simp [fK];omega
  have I:jG (σ.length+2) (fK σ.length [σ.length+2,g]) (.p σ.length) (.p (σ.length+2)):=by
   have:=VQ.ptr (q:=true) (n:=σ.length+2) (ρ:=fK σ.length [σ.length+2,g]) σ.length 0 oO;rw [s0] at this;exact this
  refine dK (v2:=.p σ.length) (σ2:=σ++[aB.rw (B.cs sb cS (σ.length+1) (B.n+1)),aB.rw (rgC B.tu (B.n+1))]) (.tmp rfl .nil) (aX.src [.rw (B.cs sb cS (σ.length+1) (B.n+1)),.rw (rgC B.tu (B.n+1))] [σ.length+2,g] hp rfl (by simp [dF];omega) ⟨sG s0 (.inl hr) rfl fun x h1 h2=>?_,uJ s1 (.inr ⟨_,hg⟩) (yD _ _),trivial⟩ I) ⟨rfl,rfl⟩
  have hx:x<3:=h1
  rcases (by omega:x=0∨x=1∨x=2) with rfl|rfl|rfl
  ·exact kX (by simp;omega) (fE L) (aD _)
  ·exact .int _ _
  ·exact jV oS s1
theorem AV {K:Heap} {x y:aB}:(K++[x,y])[K.length]?=some x:=oS
theorem wJ {K:Heap} {x y:aB}:(K++[x,y])[K.length+1]?=some y:=by rw [bE oO];simp
theorem Gh {H:Heap} {b n i:Nat} {f:Nat→Int×Int} (h:H[b]?=some (.rw (rgC f n))) (hi:i<n):aJ H b (i*2) 2=some [.i (f i).1,.i (f i).2]:=by
 have hl:=uQ f n
 unfold aJ
 rw [h]
 have hb:Nat.ble (i*2+2) (rgC f n).length=true:=by rw [hl,Nat.ble_eq];omega
 simp only [hb,cond_true,WW hi]
theorem afd {K:Heap} {B:Bld} {sb cS:Nat} (hS:L8 K B sb):kZ (K++[.rw (B.cs sb cS (K.length+1) (B.n+1)),.rw (rgC B.tu (B.n+1))]) B K.length sb cS (K.length+1) (B.n+1) :=
 ⟨AV,fun j hj=>by have h4:=hS.st j hj;rw [iT (dJ h4)];exact h4,fun j hj=>Gh wJ oO⟩
theorem Ux {σ H:Heap} {B:Bld} {sb cS i j:Nat} {f:Value} (hp:H.take σ.length=σ) (hb:H[i]?=some (.rw (B.cs sb cS j (B.n+1)))) (ht:H[j]?=some (.rw (rgC B.tu (B.n+1)))) (hi:σ.length≤i) (hj:σ.length≤j) (hij:i ≠ j) (hsb:sb < σ.length) (hf:AH.plain f=true) :
  aX σ H (.tuple #[.p i,f]) (.tuple #[.p σ.length,f]) (σ++[.rw (B.cs sb cS (σ.length+1) (B.n+1)),.rw (rgC B.tu (B.n+1))]):=by
 have s0:fK σ.length [i,j] σ.length=⟨i,0,0⟩:=by simp [fK]
 have s1:fK σ.length [i,j] (σ.length+1)=⟨j,0,0⟩:=by simp [fK];omega
 have a:jG (σ.length+2) (fK σ.length [i,j]) (.p σ.length) (.p i):=by
  have:=VQ.ptr (q:=true) (n:=σ.length+2) (ρ:=fK σ.length [i,j]) σ.length 0 oO;rw [s0] at this;exact this
 refine aX.src [.rw (B.cs sb cS (σ.length+1) (B.n+1)),.rw (rgC B.tu (B.n+1))] [i,j] hp rfl (by simp [dF];omega) ⟨sG s0 (.inl hb) rfl fun x h1 h2=>?_,uJ s1 (.inl ht) (yD _ _),trivial⟩ (sJ a (aY _ hf))
 have hx:x<3:=h1
 rcases (by omega:x=0∨x=1∨x=2) with rfl|rfl|rfl
 ·exact kX (by simp;omega) (fE hsb) (aD _)
 ·exact .int _ _
 ·exact kX oS s1 (aD _)
theorem aae {σ:Heap} {a l h d:Int} (hs:-100≤a∧a≤100∧-100≤l∧l≤h∧h≤100∧1≤d∧d≤9) (hni:σ.all (fun o=>!aU o)=true):Ev Tryz.prog 193 [.agg #[.i a,.i l,.i h,.i d]] σ (.bool false) σ:=by
 refine aI σ.length 30 Tryz.func193 rfl rfl rfl rfl rfl ?_
 have a0:(σ++[aB.rw [.i a,.i l,.i h,.i d]])[σ.length]?=some (.rw [.i a,.i l,.i h,.i d]):=aO
 have a1:(σ++[aB.rw [.i a,.i l,.i h,.i d]]++[aB.rw (ints [a,l,h])])[σ.length]?=some (.rw [.i a,.i l,.i h,.i d]):=aA aO
 have hf1:=AQ (σ:=σ++[aB.rw [.i a,.i l,.i h,.i d]]++[aB.rw (ints [a,l,h])]) (l:=[a,l,h]) (lo:=-100) (hi:=100) (x:=(σ++[aB.rw [.i a,.i l,.i h,.i d]]).length) (c:=3) (.inr (.inl aO)) oS (bF (bF hni rfl) rfl)
 have hf2:=AQ (σ:=σ++[aB.rw [.i a,.i l,.i h,.i d]]++[aB.rw (ints [a,l,h])]++[aB.rw (ints [d])]) (l:=[d]) (lo:=1) (hi:=9) (x:=(σ++[aB.rw [.i a,.i l,.i h,.i d]]++[aB.rw (ints [a,l,h])]).length) (c:=1) (.inr (.inl aO)) oS (bF (bF (bF hni rfl) rfl) rfl)
 rw [decide_eq_true (by simp;omega)] at hf1 hf2
 have hgt:¬ l > h:=oO
 repeat' (first|refine sCm ?_|(refine gU ?_;first|(refine bV ?_;refine st (aK rfl (by exact ig rfl)) rfl rfl ?_)|(refine nN ?_;refine st (jA rfl (by first|rfl|exact cZ oA) rfl) rfl rfl ?_)|(refine yP ?_;refine st (kW rfl) rfl rfl ?_)|(refine dX ?_;refine st (bG rfl rfl rfl (by exact hf1)) rfl rfl ?_)|refine Hw ?_)|(refine gG ?_;first|(refine gFA ?_;refine stG rfl (by first|rfl|exact cZ oA) (aZ rfl) rfl rfl ?_)|(refine bV ?_;refine stG rfl (by first|rfl|exact cZ oA) (aK rfl (by exact aF a1)) rfl rfl ?_)|(refine BK ?_;refine stG rfl oR (jm rfl rfl rfl) rfl rfl ?_)|(refine yP ?_;refine stG rfl (by exact cZ oA) (kW rfl) rfl rfl ?_)|(refine dX ?_;refine stG rfl (by exact cZ oA) (bG rfl rfl rfl (by exact hf2)) rfl rfl ?_)|(refine Ba ?_;refine stG rfl (by exact cZ oA) (nU oR oR oR oR rfl oR) rfl rfl ?_))|refine aG ?_)
 exact dK (.tmp rfl .nil) (.plain oS rfl) ⟨rfl,rfl⟩
theorem L9 {σ:Heap} {B:Bld} {sb cS:Nat} (hv:xK B) (hS:L8 σ B sb) (hni:σ.all (fun o=>!aU o)=true) :
  Ev Tryz.prog 92 [.agg #[.s sb B.n cS,.i B.most]] σ (.i 0) σ:=by
 refine aI σ.length 26 Tryz.func92 rfl rfl rfl rfl rfl ?_
 have hn:=hv.n
 have hm:=hv.most
 have a0:(σ++[aB.rw [.s sb B.n cS,.i B.most]])[σ.length]?=some (.rw [.s sb B.n cS,.i B.most]):=aO
 have hn0:¬ (B.n:Int)=0:=oO
 have hn3:¬ (B.n:Int) > 20:=oO
 have hf1:=acM (σ:=σ++[aB.rw [.s sb B.n cS,.i B.most]]) (b:=sb) (n:=B.n) (c:=cS) (p:=[]) (q:=[]) (f:=193) (el:=fun i=>[.i (B.ang i),.i (B.tlo i),.i (B.thi i),.i (B.hard i)]) (pb:=fun _=>false) (fun j hj=>by have h4:=hS.st j hj;rw [iT (dJ h4)];exact h4) (fun j hj=>aae (hv.st j hj) (bF hni rfl)) oO
 rw [show decide (∃ j<B.n,(fun _:Nat=>false) j=true)=false by simp] at hf1
 have hf2:=AQ (σ:=σ++[aB.rw [.s sb B.n cS,.i B.most]]++[aB.rw (ints [B.most])]) (l:=[B.most]) (lo:=0) (hi:=200) (x:=(σ++[aB.rw [.s sb B.n cS,.i B.most]]).length) (c:=1) (.inr (.inl aO)) oS (bF (bF hni rfl) rfl)
 rw [decide_eq_true (by simp;omega)] at hf2
 repeat' (first|refine sCm ?_|(refine gU ?_;first|(refine bV ?_;refine st (aK rfl (by exact ig rfl)) rfl rfl ?_)|refine sK0 ?_|(refine nN ?_;refine st (jA rfl (by exact cZ oA) rfl) rfl rfl ?_)|(refine yP ?_;refine st (kW rfl) rfl rfl ?_)|(refine dX ?_;refine st (bG rfl rfl rfl (by first|exact hf1|exact hf2)) rfl rfl ?_)|refine Hw ?_)|(refine gG ?_;first|(refine gFA ?_;refine stG rfl (by exact cZ oA) (aZ rfl) rfl rfl ?_)|(refine bV ?_;refine stG rfl (by exact cZ oA) (aK rfl (by exact ig rfl)) rfl rfl ?_)|refine SL ?_|(refine ET ?_;refine stG rfl (by exact cZ oA) (lJ rfl) rfl rfl ?_))|refine aG ?_|refine sK6 ?_|fail)
 exact dK (.tmp rfl .nil) (.plain oS rfl) ⟨rfl,rfl⟩
theorem adg {σ:Heap} {B:Bld} {sb cS:Nat} (hv:xK B) (hS:L8 σ B sb) (hni:σ.all (fun o=>!aU o)=true) :
  Ev Tryz.prog 85 [.agg #[.s sb B.n cS,.i B.most]] σ (.tuple #[.p σ.length,.i 0]) (σ++[.rw (B.cs sb cS (σ.length+1) (B.n+1)),.rw (rgC B.tu (B.n+1))]):=by
 refine aI σ.length 12 Tryz.func85 rfl rfl rfl rfl rfl ?_
 have a0:(σ++[aB.rw [.s sb B.n cS,.i B.most]])[σ.length]?=some (.rw [.s sb B.n cS,.i B.most]):=aO
 have a:L8 (σ++[aB.rw [.s sb B.n cS,.i B.most]]) B sb:=⟨fun j hj=>by have h4:=hS.st j hj;rw [iT (dJ h4)];exact h4⟩
 have hf1:=L9 (cS:=cS) hv a (bF hni rfl)
 have hf2:=G9 (cS:=cS) hv a
 repeat' (first|refine sCm ?_|(refine gU ?_;first|(refine bV ?_;refine st (bD rfl (by exact aV a0 rfl)) rfl rfl ?_)|refine sK0 ?_|(refine dX ?_;refine st (bG rfl rfl rfl (by first|exact hf1|exact hf2)) rfl rfl ?_))|refine aG ?_|refine nZ rfl oR ?_)
 have c:sb < σ.length:=dJ (hS.st 0 (by have:=hv.n;omega))
 refine dK (.tmp rfl (.tmp rfl .nil)) (Ux oS AV wJ oS (by simp;omega) oO c rfl) ⟨rfl,rfl⟩
theorem ahy {σ:Heap} {B:Bld} {sb cS i:Nat} (hv:xK B) (hS:L8 σ B sb) (hi:i<B.n) (hni:σ.all (fun o=>!aU o)=true) :
  Ev Tryz.prog 110 [.agg #[.s sb B.n cS,.i B.most],.i (i:Nat)] σ (.tuple #[.p σ.length,.i 0]) (σ++[.rw (B.cs sb cS (σ.length+1) (B.n+1)),.rw (rgC B.tu (B.n+1))]):=by
 refine aI σ.length 28 Tryz.func110 rfl rfl rfl rfl rfl ?_
 have a0:∀ X,(σ++[aB.rw [.s sb B.n cS,.i B.most]]++X)[σ.length]?=some (.rw [.s sb B.n cS,.i B.most]):=fun X=>aA aO
 have a1:=a0 []
 rw [bL] at a1
 have a2:=a0 [.rw (B.cs sb cS ((σ++[aB.rw [.s sb B.n cS,.i B.most]]).length+1) (B.n+1)),.rw (rgC B.tu (B.n+1))]
 have c:L8 (σ++[aB.rw [.s sb B.n cS,.i B.most]]) B sb:=⟨fun j hj=>by have h4:=hS.st j hj;rw [iT (dJ h4)];exact h4⟩
 have hf1:=adg (cS:=cS) hv c (bF hni rfl)
 have hi0:¬ ((i:Nat):Int)<0:=oO
 have hi1:¬ ((i:Nat):Int)≥(B.n:Nat):=oO
 clear a0
 have a0:=a1
 repeat' (first|refine sCm ?_|(refine gU ?_;first|(refine bV ?_;refine st (bD rfl (by exact aV a0 rfl)) rfl rfl ?_)|refine sK0 ?_|(refine nN ?_;refine st (jA rfl oR rfl) rfl rfl ?_)|(refine dX ?_;refine st (bG rfl rfl rfl (by exact hf1)) rfl rfl ?_))|(refine gG ?_;first|(refine zx ?_;refine stG rfl oR (eP rfl) rfl rfl ?_)|(refine gFA ?_;refine stG rfl oR (aZ rfl) rfl rfl ?_)|(refine bV ?_;refine stG rfl oR (aK rfl (by exact aF a2)) rfl rfl ?_)|(refine BK ?_;refine stG rfl oR (jm rfl rfl rfl) rfl rfl ?_)|(refine ET ?_;refine stG rfl oR (lJ rfl) rfl rfl ?_))|refine aG ?_|refine sK6 ?_|fail)
 have a:sb < σ.length:=dJ (hS.st 0 (by have:=hv.n;omega))
 refine dK (.tmp rfl (.tmp rfl .nil)) (Ux oS AV wJ oS (by simp;omega) oO a rfl) ⟨rfl,rfl⟩
end Go.Proofs.YtajpgeklmcjciaaGreat
namespace Go.AH
open Go
def Frm (σ:Heap) (b:Nat) (H:Heap):Prop:=σ.length≤H.length∧∀ i < σ.length,i ≠ b→H[i]?=σ[i]?
theorem Frm.set {σ:Heap} {b:Nat} {o:aB}:Frm σ b (σ.set b o):=⟨by simp,fun i _ a=>by rw [eN (Ne.symm a)]⟩
theorem Frm.refl {σ:Heap} {b:Nat}:Frm σ b σ:=⟨aD _,fun _ _ _=>rfl⟩
def rM (D:Int→Bool) (L:List Int):List Int:=L.filter fun x=>!D x
theorem oV {D:Int→Bool} {L:List Int} {x:Int}:rM D (L++[x])=if D x then rM D L else rM D L++[x]:=by
 unfold rM
 cases h:D x <;> simp [h]
theorem aaf (D:Int→Bool) (L:List Int):(rM D L).length≤L.length:=List.length_filter_le _ _
theorem xA {L:List Int} {j:Nat} (h:j<L.length):L.take (j+1)=L.take j++[gi L j]:=by
 rw [List.take_add_one];simp [gi,h]
theorem afe {L M:List Int} {j:Nat} (h:M.drop j=L.drop j) (hj:j<L.length) (hM:M.length=L.length):gi M j=gi L j:=by
 have h1:(M.drop j)[0]?=(L.drop j)[0]?:=by rw [h]
 rw [eO,eO,cV] at h1
 unfold gi
 rw [cE,cE,h1]
theorem gi_in {L:List Int} {j:Nat} (h:j<L.length):gi L j ∈ L:=by unfold gi;rw [cE,cC h];exact cP h
theorem AX:∀ m,iG (dR (Value.i 0)) m=ints (List.replicate m 0)
 |0=>rfl
 |m+1=>by rw [List.replicate_succ];show dR (Value.i 0)++iG _ m=_;rw [AX m];rfl
end Go.AH
namespace Go.Proofs.YtajpgeklmcjciaaGreat
open Go Go.AH
attribute [local irreducible] bZ bK bM jB gy dO fC bW eU aX dV eH
open Go.AH.Heat Go.AH.Warp
theorem Qx {A B:Prop} (k:B) (h:Hide B→A:=by intro h_k_;(repeat' (first|refine sCm ?_|(refine gU ?_;first|(refine bV ?_;refine st (aK rfl (by exact hd1)) rfl rfl ?_)|refine sK0 ?_|refine sK1 ?_|(refine dX ?_;refine st (bG rfl rfl rfl (by exact hcall k hkn)) rfl rfl ?_))|refine aG ?_|refine qR rfl (by first|rfl|exact eX (by assumption)|assumption) ?_|refine nZ rfl (by first|rfl|exact cZ (by assumption)|assumption) ?_));exact h_k_.h):A:=h ⟨k⟩
theorem adh {σ:Heap} {b n c:Nat} {el:Nat→Value} {f:FuncId} [GoFn Tryz.prog f] {p q:List Value} {pb:Nat→Bool} (hb:∀ j<n,aH σ b j=some (el j)) (hcall:∀ j<n,Ev Tryz.prog f (p++[el j]++q) σ (.bool (pb j)) σ) (hn:n≤1000000) :
  Ev Tryz.prog 102 [.s b n c,.func (.func f) p.toArray q.toArray] σ (.i (fIx pb n)) σ:=by
 refine aI σ.length 19 Tryz.func102 rfl rfl rfl rfl rfl ?_
 refine Qx ?_
 refine dS (ι:=Nat) (fun k=>[(0,.s b n c),(1,.func (.func f) p.toArray q.toArray),(7,.i (n:Nat)),(8,.i (k:Nat))]) (fun k mk H=>k≤n∧mk=[]∧σ=H∧∀ j<k,pb j=false) (fun k=>n - k) 0 tE ⟨bN _,rfl,rfl,fun j h=>oO⟩ ?_
 rintro k mk H ⟨hk,rfl,rfl,a⟩
 by_cases hkn:k<n
 ·have g:(k:Int)<(n:Nat):=oO
  have hd1:aH σ b k=some (el k):=hb k hkn
  by_cases hp:pb k=true
  ·refine Qx ?_
   refine dK (.tmp rfl .nil) .all ⟨?_,rfl⟩
   simp only [jY]
   rw [Es hkn hp a]
  ·have d:pb k=false:=by simpa using hp
   refine Qx ?_
   exact ⟨k+1,⟨oO,rfl,rfl,fun j hj=>by
    by_cases e:j=k
    ·rw [e];exact d
    ·exact a j oO⟩,oO,tE⟩
 ·obtain rfl:k=n:=oO
  have g:¬ (k:Int)<(k:Nat):=oO
  refine Qx ?_
  refine dK (.tmp rfl .nil) .all ⟨?_,rfl⟩
  simp only [jY]
  rw [AB a]
theorem Gi {A B:Prop} (k:B) (h:Hide B→A:=by intro h_k_;(repeat' (first|refine sCm ?_|(refine gU ?_;first|(refine bV ?_;refine st (aK rfl (by exact hd1)) rfl rfl ?_)|refine sK0 ?_|(refine yP ?_;refine st (kW rfl) rfl rfl ?_)|refine sK1 ?_|(refine OG ?_;first|refine st (MZ rfl rfl (by omega)) rfl rfl ?_|refine st (Bf rfl rfl (by omega) (by omega)) rfl rfl ?_)|(refine dX ?_;refine st (bG rfl rfl rfl (by first|exact hf1|exact hf2)) rfl rfl ?_)|(refine gV ?_;refine stN (bU rfl rfl rfl rfl (by exact hput)) rfl ?_))|refine aG ?_|refine sK2 ?_|refine sK6 ?_|fail));exact h_k_.h):A:=h ⟨k⟩
theorem ahz {σ:Heap} {b n c:Nat} {L:List Int} {f:FuncId} [GoFn Tryz.prog f] {p q:List Value} {D:Int→Bool} (hL:L.length=n) (hnc:n≤c) (hn2:n≤1000) (hb:σ[b]?=some (.rw (ints L)))
  (hcall:∀ H,Frm σ b H→∀ x ∈ L,Ev Tryz.prog f (p++[.i x]++q) H (.bool (D x)) H) :
  Ev Tryz.prog 221 [.s b n c,.func (.func f) p.toArray q.toArray] σ (.s b (rM D L).length c) (σ.set b (.rw (ints (rM D L++List.replicate (n - (rM D L).length) 0)))):=by
 refine aI σ.length 42 Tryz.func221 rfl rfl rfl rfl rfl ?_
 have hbl:=aQ hb
 have hf1:=adh (σ:=σ) (b:=b) (n:=n) (c:=c) (f:=f) (p:=p) (q:=q) (el:=fun j=>.i (gi L j)) (pb:=fun j=>D (gi L j)) (fun j hj=>by rw [aF hb];exact gQ oO) (fun j hj=>hcall σ .refl _ (gi_in oO)) oO
 by_cases w:∃ j<n,D (gi L j)=true
 ·obtain ⟨i0,hi0,C,v,F⟩:∃ i0<n,fIx (fun j=>D (gi L j)) n=(i0:Nat)∧D (gi L i0)=true∧∀ j<i0,D (gi L j)=false:=by
   have h1:=Qg (p:=fun j=>D (gi L j)) (n:=n)
   unfold fIx at h1 ⊢
   cases hfd:(List.range n).find? (fun j=>D (gi L j)) with
   |none =>
    rw [List.find?_eq_none] at hfd
    obtain ⟨j,hj,hD⟩:=w
    exact absurd hD (hfd j (List.mem_range.2 hj))
   |some i =>
    rw [List.find?_range_eq_some] at hfd
    exact ⟨i,List.mem_range.1 hfd.2.1,rfl,hfd.1,fun j hj=>by simpa using hfd.2.2 j hj⟩
  rw [C] at hf1
  have hne:¬ ((i0:Nat):Int)=-1:=oO
  refine Gi ?_
  have a:∀ j,j≤i0→rM D (L.take j)=L.take j:=by
   intro j
   induction j with
   |zero=>intro _;simp [rM]
   |succ j ih=>intro h;rw [xA oO,oV,F j oO,ih oO];simp
  refine dS (ι:=Nat×Nat) (fun k=>[(0,.s b n c),(1,.func (.func f) p.toArray q.toArray),(5,.i (k.1:Nat)),(6,.i (k.2:Nat))])
   (fun k mk H=>k.1<k.2∧k.2≤n∧mk=[]∧∃ M:List Int,H=σ.set b (.rw (ints M))∧M.length=n∧M.take k.1=rM D (L.take k.2)∧k.1=(rM D (L.take k.2)).length∧M.drop k.2=L.drop k.2) (fun k=>n - k.2) (i0,i0+1) tE ⟨by dsimp only;omega,by dsimp only;omega,rfl,L,(set_self hb).symm,hL,?_,?_,rfl⟩ ?_
  ·dsimp only;rw [xA oO,oV,v,a i0 (aD _)];rfl
  ·dsimp only;rw [xA oO,oV,v,a i0 (aD _)];simp;omega
  clear hf1 a
  rintro ⟨i,j⟩ mk H ⟨G,E,rfl,M,rfl,hM,m,o,t⟩
  dsimp only at G E m o t
  dsimp only
  have u:(σ.set b (.rw (ints M)))[b]?=some (.rw (ints M)):=aS hb
  by_cases g:j<n
  ·have z:(j:Int)<(n:Nat):=oO
   have hiI:(i:Int)<(n:Nat):=oO
   have hd1:aH (σ.set b (.rw (ints M))) b j=some (.i (gi L j)):=by rw [aF u,gQ oO,afe t oO oO]
   have hf2:=hcall (σ.set b (.rw (ints M))) .set (gi L j) (gi_in oO)
   have hput:putCells (σ.set b (.rw (ints M))) b i [.i (gi L j)]=some ((σ.set b (.rw (ints M))).set b (.rw (ints (M.set i (gi L j))))) :=
    fM u (by rw [cO];simp;omega) (by rw [cO];omega) (BG oO)
   rw [cX] at hput
   by_cases hD:D (gi L j)=true
   ·rw [hD] at hf2
    refine Gi ?_
    refine ⟨(i,j+1),⟨by dsimp only;omega,g,rfl,M,rfl,hM,?_,?_,?_⟩,by dsimp only;omega,tE⟩
    ·dsimp only;rw [xA oO,oV,if_pos hD];exact m
    ·dsimp only;rw [xA oO,oV,if_pos hD];exact o
    ·dsimp only;rw [← fk,← fk,t]
   ·have hD:D (gi L j)=false:=by simpa using hD
    rw [hD] at hf2
    refine Gi ?_
    refine ⟨(i+1,j+1),⟨by dsimp only;omega,g,rfl,M.set i (gi L j),rfl,by simpa using hM,?_,?_,?_⟩,by dsimp only;omega,tE⟩
    ·dsimp only;rw [xA (L:=L) oO,oV,hD,← m,List.take_add_one,List.take_set_of_le (aD _)];simp [show i<M.length by omega]
    ·dsimp only;rw [xA oO,oV,hD];simp;omega
    ·dsimp only;rw [List.drop_set_of_lt oO,← fk,← fk,t]
  ·obtain rfl:j=n:=oO
   have z:¬ ((j:Nat):Int)<(j:Nat):=oO
   rw [List.take_of_length_le (l:=L) (i:=j) oO] at m o
   rw [← o]
   have hz:(iG (dR (Value.i 0)) (j - i))=ints (List.replicate (j - i) 0):=AX _
   have d:putCells (σ.set b (.rw (ints M))) b i (ints (List.replicate (j - i) 0))=some (σ.set b (.rw (ints (rM D L++List.replicate (j - i) 0)))):=by
    rw [fM u (by rw [cO,cO];simp;omega) (by rw [cO];omega) rfl,cX]
    have e:splice (ints M) i (ints (List.replicate (j - i) 0))=ints (rM D L++List.replicate (j - i) 0):=by
     rw [← m]
     simp only [splice,ints,eC,List.map_take,cQ,fN]
     rw [eL (by simp;omega),bL]
    rw [e]
   refine Gi ?_
   refine gU ?_
   refine stN (DL oR oR rfl oO (by rw [hz];exact jZ _) (by rw [hz,show 0+i*1=i by omega];exact d)) rfl ?_
   refine Gi ?_
   exact dK (.tmp rfl .nil) .all ⟨rfl,rfl⟩
 ·have y:∀ j<n,D (gi L j)=false:=fun j hj=>by
   cases h:D (gi L j) with
   |false=>rfl
   |true=>exact absurd ⟨j,hj,h⟩ w
  rw [AB y] at hf1
  have hk:rM D L=L:=by
   have:∀ j,j≤n→rM D (L.take j)=L.take j:=by
    intro j
    induction j with
    |zero=>intro _;simp [rM]
    |succ j ih=>intro h;rw [xA oO,oV,y j oO,ih oO];simp
   have h1:=this n (aD _)
   rwa [List.take_of_length_le (l:=L) (i:=n) oO] at h1
  rw [hk,hL,cY,List.replicate_zero,bL,set_self hb]
  refine Gi ?_
  exact dK (.tmp rfl .nil) .all ⟨rfl,rfl⟩
end Go.Proofs.YtajpgeklmcjciaaGreat
namespace Go.AH.Warp
open Go Go.AH
def He (K:List Int):Value:=.tuple (if K=[] then #[.agg #[.int .i64 0,.int .i64 0],.int .i64 18] else #[.agg #[.int .i64 (gi K 0),.int .i64 (gi K (K.length - 1))],.int .i64 0])
end Go.AH.Warp
namespace Go.Proofs.YtajpgeklmcjciaaGreat
open Go Go.AH
attribute [local irreducible] bZ bK bM jB gy dO fC bW eU aX dV eH
open Go.AH.Heat Go.AH.Warp
theorem adi {H:Heap} {fb:Nat} {g:FuncId} [GoFn Tryz.prog g] {p q:List Value} {x:Int} {r:Bool} (hbox:H[fb]?=some (.rw [.func (.func g) p.toArray q.toArray])) (hc:Ev Tryz.prog g (p++[.i x]++q) H (.bool r) H) :
  Ev Tryz.prog 222 [.i x,.p fb] H (.bool (!r)) H:=by
 refine aI H.length 8 Tryz.func222 rfl rfl rfl rfl rfl ?_
 have a0:=hbox
 repeat' (first|refine sCm ?_|(refine gU ?_;first|(refine bV ?_;refine st (aK rfl (by exact aF a0)) rfl rfl ?_)|(refine yP ?_;refine st (kW rfl) rfl rfl ?_)|(refine dX ?_;refine st (bG rfl rfl rfl (by exact hc)) rfl rfl ?_))|refine aG ?_)
 exact dK (.tmp rfl .nil) .all ⟨rfl,rfl⟩
theorem WY {A B:Prop} (k:B) (h:Hide B→A:=by intro h_k_;(repeat' (first|refine sCm ?_|(refine gU ?_;first|refine sK7 ?_|(refine dX ?_;refine st (bG rfl rfl rfl (by exact hf1)) rfl rfl ?_)|(refine gV ?_;refine stN (bU rfl rfl rfl rfl (by exact hput _ _)) rfl ?_))|(refine fU ?_;first|refine qX ?_;refine frA (eP rfl) rfl ?_ hcls|refine fIA ?_;refine frA (ny rfl rfl (by omega) (by omega)) rfl ?_ hclp|refine gB ?_;refine frA (aK rfl (by exact hq0 _)) rfl ?_ rfl|refine gB ?_;refine frA (aK rfl (by exact hq1 _)) rfl ?_ rfl|refine LM ?_|(refine Ro ?_;refine fr (lJ rfl) (by rfl) rfl ?_)|(refine EX ?_;refine fr (oG (by rfl) rfl (by rfl)) (by rfl) rfl ?_))|(refine fP ⟨by kernel_rfl,?_⟩)|refine dB (id:=2) ?_|refine aG ?_));exact h_k_.h):A:=h ⟨k⟩
theorem aff {σ:Heap} {b n c:Nat} {L:List Int} {g:FuncId} [GoFn Tryz.prog g] {p q:List Value} {G:Int→Bool} (hL:L.length=n) (hnc:n≤c) (hn2:n≤1000) (hb:σ[b]?=some (.rw (ints L)))
  (hcall:∀ H,Frm σ b H→∀ x ∈ L,Ev Tryz.prog g (p++[.i x]++q) H (.bool (G x)) H) :
  Ev Tryz.prog 113 [.s b n c,.func (.func g) p.toArray q.toArray] σ (He (L.filter G)) (σ.set b (.rw (ints (L.filter G++List.replicate (n - (L.filter G).length) 0)))):=by
 refine aI σ.length 23 Tryz.func113 rfl rfl rfl rfl rfl ?_
 have y:=aQ hb
 have d:∀ H,Frm (σ++[aB.rw [.func (.func g) p.toArray q.toArray]]++[aB.rw [.i 0,.i 0]]) b H→Frm σ b H∧H[σ.length]?=some (.rw [.func (.func g) p.toArray q.toArray]):=fun H h=>by
  refine ⟨⟨by have:=h.1;simp at this;omega,fun i hi F=>?_⟩,?_⟩
  ·rw [h.2 i (by simp;omega) F,cD,bR hi]
  ·rw [h.2 σ.length oS oO];exact aA aO
 have z:=aaf (fun x=>!G x) L
 have e:rM (fun x=>!G x) L=L.filter G:=congrArg (fun f=>L.filter f) (funext fun x=>Bool.not_not (G x))
 have hf1:=ahz (σ:=σ++[aB.rw [.func (.func g) p.toArray q.toArray]]++[aB.rw [.i 0,.i 0]]) (p:=[]) (q:=[.p σ.length]) (f:=222) (D:=fun x=>!G x) hL hnc hn2 (aA (aA hb)) (fun H hH x hx=>adi (d H hH).2 (hcall H (d H hH).1 x hx))
 rw [e] at hf1 z
 refine WY ?_
 generalize L.filter G=K at hf1 z ⊢
 obtain ⟨H,hH⟩:∃ H,H=(σ++[aB.rw [.func (.func g) p.toArray q.toArray]]++[aB.rw [.i 0,.i 0]]).set b (.rw (ints (K++List.replicate (n - K.length) 0))):=⟨_,rfl⟩
 refine .mk (dH [(0,.s b K.length c),(4,.p (σ.length+1)),(5,.i 0)] H hH.symm ⟨rfl,(by refine congrArg (fun n=>some (Value.p n)) ?_;simp),rfl,trivial⟩ ?_)
 have t:H=σ.set b (.rw (ints (K++List.replicate (n - K.length) 0)))++[aB.rw [.func (.func g) p.toArray q.toArray],aB.rw [.i 0,.i 0]]:=by
  rw [hH,cD,cH _ _ y];rfl
 have j:∀ (v:Value) (cs:List Value),AH.plain v=true→aX σ (H.set (σ.length+1) (.rw cs)) v v (σ.set b (.rw (ints (K++List.replicate (n - K.length) 0)))):=fun v cs hv=>by
  have:=aX.upd (σ:=σ) (i:=b) (cs:=ints L) (cs':=ints (K++List.replicate (n - K.length) 0)) (x:=[aB.rw [.func (.func g) p.toArray q.toArray],aB.rw cs]) (v:=v) (bC _) y hv
  rw [set_self hb] at this
  rw [t,fL _ _ oS]
  simpa using this
 have m:H[σ.length+1]?=some (.rw [.i 0,.i 0]):=by rw [hH,eN oO];exact bJ oS
 have hput:∀ u v,putCells H (σ.length+1) 0 [u,v]=some (H.set (σ.length+1) (.rw [u,v])):=fun u v=>fM m oS oS rfl
 have a:∀ (i:Nat),i<K.length→∀ X:Heap,aH (H++X) b i=some (.i (gi K i)):=fun i hi X=>by
  have E:(H++X)[b]?=some (.rw (ints (K++List.replicate (n - K.length) 0))):=by rw [t];exact aA (aA (aS hb))
  rw [aF E,gQ (by simp;omega)]
  simp [gi,cE,bR hi]
 clear hf1 d
 apply aG
 repeat' (first|refine sCm ?_|(refine gU ?_;first|refine sK0 ?_|refine sK4 ?_|(refine gV ?_;refine stN (bU rfl rfl rfl rfl (by exact hput _ _)) rfl ?_))|refine dB (id:=4) ?_|refine aG ?_|(refine iR rfl ?_ ?_ <;> intro _))
 ·have w:K=[]:=List.eq_nil_of_length_eq_zero oO
  refine dK (.cellN inferInstance rfl (aV (aS m) rfl) (.tmp rfl .nil)) (j _ _ rfl) ⟨?_,rfl⟩
  unfold He;rw [if_pos w];rfl
 ·refine .mk (dH [(0,.s b K.length c),(4,.p (σ.length+1)),(5,.i 0)] H rfl tE ?_)
  have C:b<H.length∧σ.length+1<H.length:=⟨by rw [t];simp;omega,aQ m⟩
  have hq0:=a 0 oO
  have hq1:∀ X:Heap,aH (H++X) b (0+((K.length:Int) - 1).toNat*1)=some (.i (gi K (K.length - 1))):=fun X=>by rw [show 0+((K.length:Int) - 1).toNat*1=K.length - 1 by omega];exact a _ oO X
  have hcls:closed H.length (.s b K.length c)=true:=bP (Nat.blt_eq.mpr C.1)
  have hclp:∀ {o:Nat},closed H.length (.pointer (some ⟨b,o,none⟩))=true:=fun {o}=>Nat.blt_eq.mpr C.1
  have w:K ≠ []:=fun h=>by subst h;simp at *
  refine fA oK rfl ?_
  refine WY ?_
  rw [show H++gJ (fun _=>true) []=H from bL H]
  refine WY ?_
  refine dK (.cellN inferInstance rfl (aV (aS m) rfl) (.tmp rfl .nil)) (j _ _ rfl) ⟨?_,rfl⟩
  unfold He;rw [if_neg w];rfl
theorem adk {A B:Prop} (k:B) (h:Hide B→A:=by intro h_k_;(repeat' (first|(refine gU ?_;first|refine Py ?_|refine Pz ?_|(refine bV ?_;refine st (aK rfl (by exact hc1)) rfl rfl ?_)|refine LP ?_|refine sK0 ?_|(refine nN ?_;first|refine st (kR rfl (by exact eX (by assumption)) rfl) rfl rfl ?_|refine st (jA rfl (by exact cZ (by assumption)) rfl) rfl rfl ?_)|(refine gIA ?_;refine st (nD rfl rfl (by omega) (by omega)) rfl rfl ?_))|(refine gG ?_;first|(refine zx ?_;refine stG rfl (by exact eX (by assumption)) (eP rfl) rfl rfl ?_)|(refine bV ?_;refine stG rfl (by exact eX (by assumption)) (aK rfl (by exact hc2)) rfl rfl ?_)|(refine ES ?_;refine stG rfl (by exact eX (by assumption)) (vJ rfl rfl (by omega) (by omega)) rfl rfl ?_)|(refine BK ?_;refine stG rfl (by exact eX (by assumption)) (jm rfl rfl rfl) rfl rfl ?_)|(refine gIA ?_;refine stG rfl (by exact eX (by assumption)) (nD rfl rfl (by omega) (by omega)) rfl rfl ?_)|refine stS rfl (by exact cZ (by assumption)) rfl ?_)|refine xR ?_|refine aG ?_|refine kP ?_|refine tC ?_|refine Gy ?_));exact h_k_.h):A:=h ⟨k⟩
theorem aag {H:Heap} {u v:Nat} {R S:Nat→Int} {x:Int} (hu:H[u]?=some (.rw (ints (dG R)))) (hw:H[v]?=some (.rw (ints (dG S)))) (hx:-200≤x∧x≤200) :
  Ev Tryz.prog 115 [.i x,.p u,.p v] H (.bool (decide (R (x+200).toNat<nev) && decide (S (x+200).toNat<nev))) H:=by
 refine aI H.length 17 Tryz.func115 rfl rfl rfl rfl rfl ?_
 have hc1:aH H u (0+(x+200).toNat*1)=some (.i (R (x+200).toNat)):=by rw [bA,cI,aF hu,gQ (by rw [eG];omega),uO oO]
 have hc2:aH H v (0+(x+200).toNat*1)=some (.i (S (x+200).toNat)):=by rw [bA,cI,aF hw,gQ (by rw [eG];omega),uO oO]
 by_cases h1:R (x+200).toNat<1099511627776
 ·refine adk ?_
  refine dK (.tmp rfl .nil) .all ⟨?_,rfl⟩
  simp only [jY,nev]
  rw [decide_eq_true h1,Bool.true_and]
 ·refine adk ?_
  refine dK (.tmp rfl .nil) .all ⟨?_,rfl⟩
  simp only [jY,nev]
  rw [decide_eq_false h1,Bool.false_and]
theorem Le {A B:Prop} (k:B) (h:Hide B→A:=by intro h_k_;(repeat' (first|refine sCm ?_|(refine gU ?_;first|(refine bV ?_;refine st (bD rfl (by exact aV a0 rfl)) rfl rfl ?_)|refine sK0 ?_|refine sK7 ?_|(refine dX ?_;refine st (bG rfl rfl rfl (by first|exact hf1|exact hf2|exact hf3|exact hf4)) rfl rfl ?_)|(refine gV ?_;refine stN (bU rfl rfl rfl rfl (by exact hput3 _ _ _)) rfl ?_))|refine dB (id:=4) ?_|refine dB (id:=5) ?_|refine aG ?_|refine nZ rfl (by rfl) ?_));exact h_k_.h):A:=h ⟨k⟩
theorem aah {σ:Heap} {B:Bld} {sb cS i:Nat} (hv:xK B) (hS:L8 σ B sb) (hi:i<B.n) (hni:σ.all (fun o=>!aU o)=true) :
  Ev Tryz.prog 53 [.agg #[.s sb B.n cS,.i B.most],.i (i:Nat)] σ (He ((numsL (-200) 401).filter fun x=>decide (iy B.b (i+1) (x+200).toNat<nev) && decide (iU B.b (B.n - (i+1)) (x+200).toNat<nev))) σ:=by
 refine aI σ.length 34 Tryz.func53 rfl rfl rfl rfl rfl ?_
 have a0:(σ++[aB.rw [.s sb B.n cS,.i B.most]]++[aB.rw [.i 0,.i 0]])[σ.length]?=some (.rw [.s sb B.n cS,.i B.most]):=aA aO
 have hn20:=hv.n
 have E:L8 (σ++[aB.rw [.s sb B.n cS,.i B.most]]++[aB.rw [.i 0,.i 0]]) B sb:=⟨fun j hj=>by have h4:=hS.st j hj;rw [cD,iT (dJ h4)];exact h4⟩
 have hf1:=ahy (cS:=cS) hv E hi (bF (bF hni rfl) rfl)
 refine Le ?_
 obtain ⟨H0,y⟩:∃ H0,H0=σ++[aB.rw [.s sb B.n cS,.i B.most]]++[aB.rw [.i 0,.i 0]]:=⟨_,rfl⟩
 have m:H0.length=σ.length+2:=by rw [y];simp
 rw [← y] at a0 E hf1 ⊢
 obtain ⟨H1,w⟩:∃ H1,H1=H0++[aB.rw (B.cs sb cS (H0.length+1) (B.n+1)),aB.rw (rgC B.tu (B.n+1))]:=⟨_,rfl⟩
 refine .mk (dH [(1,.i (i:Nat)),(4,.p (σ.length+1)),(6,.p (σ.length+2))] H1 w.symm ⟨rfl,(by (refine congrArg (fun n=>some (Value.p n)) ?_;simp;try omega)),(by rw [← m];rfl),trivial⟩ ?_)
 have hp1:H1.take σ.length=σ:=by rw [w,y];simp
 have M:H1.all (fun o=>!aU o)=true:=by rw [w,y];exact bF (bF (bF hni rfl) rfl) rfl
 have T:H1[σ.length+1]?=some (.rw [.i 0,.i 0]):=by rw [w,y];exact aA (bJ oS)
 have J:kZ H1 B (σ.length+2) sb cS (σ.length+3) (B.n+1):=by
  rw [w,← m,show σ.length+3=H0.length+1 by omega];exact afd E
 clear hf1 a0 E w y m
 clear H0
 have hf1:=Qp (sn:=i+1) hv J oO
 have hf2:=IK (sn:=i+1) hv J oO
 generalize hR:iy B.b (i+1)=R at hf1 ⊢
 generalize hS:iU B.b (B.n - (i+1))=S at hf2 ⊢
 obtain ⟨cR,z⟩:∃ cR,cR=ints (dG R):=⟨_,rfl⟩
 obtain ⟨f,C⟩:∃ f,f=ints (dG S):=⟨_,rfl⟩
 have F:cR.length=401:=by rw [z,cO,eG]
 have D:f.length=401:=by rw [C,cO,eG]
 have P:cR.all (·.oneCell')=true:=by rw [z];exact jZ _
 have Q:f.all (·.oneCell')=true:=by rw [C];exact jZ _
 rw [← z] at hf1
 rw [← C] at hf2
 have e:putCells (H1++[aB.rw (List.replicate 401 (.i 0))]++[aB.rw (List.replicate 401 (.i 0))]) H1.length 0 cR=some (H1++[aB.rw cR]++[aB.rw (List.replicate 401 (.i 0))]):=by
  rw [fM (cs:=List.replicate 401 (.i 0)) (cs':=cR) oS (by rw [F];simp) oS (by simp [splice,F])]
  simp
 have d:putCells (H1++[aB.rw cR]++[aB.rw (List.replicate 401 (.i 0))]) (H1++[aB.rw (List.replicate 401 (.i 0))]).length 0 f=some (H1++[aB.rw cR]++[aB.rw f]):=by
  rw [fM (cs:=List.replicate 401 (.i 0)) (cs':=f) (bJ oS) (by rw [D];simp) oS (by simp [splice,D])]
  rw [fL _ _ oS]
  simp
 apply aG
 refine Le ?_
 refine stN (bU (size:=401) rfl rfl (by exact F) (by exact P) (by exact e)) rfl ?_
 refine stN (bU (size:=401) rfl rfl (by exact D) (by exact Q) (by exact d)) rfl ?_
 refine Le ?_
 obtain ⟨H2,t⟩:∃ H2,H2=H1++[aB.rw cR]++[aB.rw f]:=⟨_,rfl⟩
 refine .mk (dH [(4,.p (σ.length+1)),(6,.p (σ.length+2)),(8,.p H1.length),(9,.p (H1.length+1))] H2 t.symm ⟨rfl,rfl,rfl,(by (refine congrArg (fun n=>some (Value.p n)) ?_;simp;try omega)),trivial⟩ ?_)
 have hp2:H2.take σ.length=σ:=by rw [t];exact aT (aT hp1)
 have U:H2[σ.length+1]?=some (.rw [.i 0,.i 0]):=by rw [t];exact aA (aA T)
 have O:H2[H1.length]?=some (.rw (ints (dG R))):=by rw [t,z];exact aA aO
 have N:H2[H1.length+1]?=some (.rw (ints (dG S))):=by rw [t,C];exact bJ oS
 generalize H1.length=u at O N ⊢
 clear e d P Q F D hf1 hf2 z C J T M hp1 t
 have hf3:=ac7 (σ:=H2) (v:=.p (σ.length+2))
 have V:∀ x ∈ numsL (-200) 401,-200≤x∧x≤200:=fun x hx=>by
  unfold numsL at hx
  obtain ⟨j,hj,rfl⟩:=List.mem_map.1 hx
  have:=List.mem_range.1 hj
  omega
 have hu0:=aQ O
 have hw0:=aQ N
 have hf4:=aff (σ:=H2++[.rw (ints (numsL (-200) 401))]) (b:=H2.length) (n:=401) (c:=401) (L:=numsL (-200) 401) (g:=115) (p:=[]) (q:=[.p u,.p (u+1)]) (G:=fun x=>decide (R (x+200).toNat<nev) && decide (S (x+200).toNat<nev))
  (Gf _ _) (aD _) oO aO (fun H hH x hx=>aag (R:=R) (S:=S) ((hH.2 u (by simp;omega) oO).trans (aA O)) ((hH.2 (u+1) (by simp;omega) oO).trans (aA N)) (V x hx))
 generalize (numsL (-200) 401).filter (fun x=>decide (R (x+200).toNat<nev) && decide (S (x+200).toNat<nev))=K at hf4 ⊢
 rw [fL _ _ (aD _),cY,List.set_cons_zero] at hf4
 have I:∀ X,(H2++X)[σ.length+1]?=some (.rw [.i 0,.i 0]):=fun X=>aA U
 have hput3:∀ X a b,putCells (H2++X) (σ.length+1) 0 [a,b]=some ((H2++X).set (σ.length+1) (.rw [a,b])):=fun X a b=>fM (I X) oS oS rfl
 unfold He at hf4 ⊢
 apply aG
 by_cases hK:K=[]
 ·rw [if_pos hK] at hf4 ⊢
  refine Le ?_
  exact dK (v2:=.tuple #[.agg #[.i 0,.i 0],.i 18]) (.cellN inferInstance rfl (aV (aS (I _)) rfl) (.tmp rfl .nil)) (aX.plain (take_set (aT hp2) oO) rfl) ⟨rfl,rfl⟩
 ·rw [if_neg hK] at hf4 ⊢
  refine Le ?_
  exact dK (v2:=.tuple #[.agg #[.i (gi K 0),.i (gi K (K.length - 1))],.i 0]) (.cellN inferInstance rfl (aV (aS (I _)) rfl) (.tmp rfl .nil)) (aX.plain (take_set (aT hp2) oO) rfl) ⟨rfl,rfl⟩
end Go.Proofs.YtajpgeklmcjciaaGreat
namespace Go.AH
open Go
theorem vk {σ:Heap} {cs vs:List Value} {o:Nat} (h:Nat.ble (o+vs.length) cs.length=true) (h0:Nat.blt 0 cs.length=true):putCells (σ++[.rw cs]) σ.length o vs=some (σ++[.rw (splice cs o vs)]):=by
 rw [fM oS (cA h) (Nat.blt_eq.mp h0) rfl];simp
end Go.AH
namespace Go.Proofs.YtajpgeklmcjciaaGreat
open Go Go.AH
attribute [local irreducible] bZ bK bM jB gy dO fC bW eU aX dV eH
open Go.AH.Heat Go.AH.Warp
theorem afg {σ:Heap} {x y:Int×Int}:Ev Tryz.prog 181 [.agg #[.i x.1,.i x.2],.agg #[.i y.1,.i y.2]] σ (.agg #[.i (Bl.meet x y).1,.i (Bl.meet x y).2]) σ:=by
 refine aI σ.length 16 Tryz.func181 rfl rfl rfl rfl rfl ?_
 have hc1:∀ A B,aH (σ++[aB.rw [.i x.1,.i x.2]]++[A]++[B]) σ.length (0+0)=some (.i x.1):=fun A B=>aF (aA (aA aO))
 have hc2:∀ A B,aH (σ++[aB.rw [.i x.1,.i x.2]]++[A]++[B]) σ.length (0+1)=some (.i x.2):=fun A B=>aF (aA (aA aO))
 have hc3:∀ A B,aH (σ++[A]++[aB.rw [.i y.1,.i y.2]]++[B]) (σ++[A]).length (0+0)=some (.i y.1):=fun A B=>aF (aA aO)
 have a:∀ A B,aH (σ++[A]++[aB.rw [.i y.1,.i y.2]]++[B]) (σ++[A]).length (0+1)=some (.i y.2):=fun A B=>aF (aA aO)
 repeat' (first|refine sCm ?_|(refine gU ?_;first|(refine bV ?_;refine st (aK rfl (by first|exact hc3 _ _|exact hc1 _ _|exact hc2 _ _|exact a _ _)) rfl rfl ?_)|(refine gMax ?_;refine st (Cc rfl rfl) rfl rfl ?_)|(refine aaO ?_;refine st (Ce rfl rfl) rfl rfl ?_)|refine sK4 ?_|refine JV ?_)|refine aG ?_)
 exact dK (.cellN inferInstance rfl (dU rfl) .nil) (aX.plain oS rfl) ⟨rfl,rfl⟩
theorem Gj {A B:Prop} (k:B) (h:Hide B→A:=by intro h_k_;(repeat' (first|refine sCm ?_|(refine gU ?_;first|(refine bV ?_;first|refine st (aK rfl (by first|exact hc1 _|exact hc2 _|exact hc3 _ _)) rfl rfl ?_|refine st (bD rfl (by exact dU rfl)) rfl rfl ?_)|refine sK0 ?_|refine sK3 ?_|(refine gNeg ?_;refine st (UZ rfl) rfl rfl ?_)|refine sK4 ?_|(refine gV ?_;refine stN (bU rfl rfl rfl rfl (by first|exact iW (aD _) (cU _)|exact vk rfl rfl|exact hput0 _ _ _)) rfl ?_))|refine aG ?_|refine qR rfl (by first|rfl|exact eX (by assumption)|exact eX (by omega)) ?_|refine nZ rfl (by first|rfl|exact cZ (by assumption)|exact cZ (by omega)) ?_));exact h_k_.h):A:=h ⟨k⟩
theorem adl {σ:Heap} {B:Bld} {nb sb cS tb cT:Nat} (hv:xK B) (hB:kZ σ B nb sb cS tb cT) {i:Nat} (hi:i<B.n) {d:Int} :
  Ev Tryz.prog 182 [.p nb,.i (i:Nat),.i d] σ (.agg #[.i (Bl.borne (B.hard i) B.most d).1,.i (Bl.borne (B.hard i) B.most d).2]) σ:=by
 refine aI σ.length 49 Tryz.func182 rfl rfl rfl rfl rfl ?_
 have hc1:∀ A,aH (σ++[A]) nb (0+0+0)=some (.s sb B.n cS):=fun A=>aF (hB.app (X:=[A])).nb
 have hc2:∀ A,aH (σ++[A]) sb (0+i*4+2+1)=some (.i (B.hard i)):=fun A=>by rw [bA];exact fQ (k:=3) ((hB.app (X:=[A])).st i hi) oO
 have hc3:∀ A C,aH (σ++[A]++[C]) nb (0+0+1)=some (.i B.most):=fun A C=>by rw [cD];exact aF (hB.app (X:=[A]++[C])).nb
 have hc4:∀ A,aH (σ++[A]) sb (0+i*4+3)=some (.i (B.hard i)):=fun A=>by rw [bA];exact fQ (k:=3) ((hB.app (X:=[A])).st i hi) oO
 have c:=hv.st i hi
 have hmo:=hv.most
 have hiI:(i:Int)<(B.n:Int):=oO
 have hh:=c.2.2.2.2.2
 have w1:IntKind.i64.wrap (0 - B.hard i)=-B.hard i:=by rw [wrap64 oO oO];omega
 have w2:IntKind.i64.wrap (0 - B.most)=-B.most:=by rw [wrap64 oO oO];omega
 have hput0:∀ (C:aB) (x y:Value),putCells (σ++[aB.rw [.i 0,.i 0]]++[C]) σ.length 0 [x,y]=some (σ++[aB.rw [x,y]]++[C]):=fun C x y=>by
  rw [fM (cs:=[.i 0,.i 0]) (cs':=[x,y]) (aA aO) oS oS rfl];simp
 have hcl:∀ (C:aB) (x y:Value),aJ (σ++[aB.rw [x,y]]++[C]) σ.length 0 2=some [x,y]:=fun C x y=>aV (aA aO) rfl
 have a:∀ {lo hi:Int},(Bl.borne (B.hard i) B.most d)=(lo,hi)→(Value.agg #[.i lo,.i hi]=Value.agg #[.i (Bl.borne (B.hard i) B.most d).1,.i (Bl.borne (B.hard i) B.most d).2]):=fun h=>by rw [h]
 rcases (by omega:d > 0∨d<0∨(¬ d > 0∧¬ d<0)) with g1|g1|⟨g1,g2⟩
 ·have g2:¬ d<0:=oO
  have g4:¬ d=-B.most:=oO
  by_cases g3:d=B.most
  ·refine Gj ?_
   refine dK (.cellN inferInstance rfl (hcl _ _ _) .nil) (aX.plain oS rfl) ⟨a ?_,rfl⟩
   unfold Bl.borne
   dsimp only
   refine Prod.ext ?_ ?_ <;> dsimp only <;> (repeat' split) <;> first|rfl|omega
  ·refine Gj ?_
   refine dK (.cellN inferInstance rfl (hcl _ _ _) .nil) (aX.plain oS rfl) ⟨a ?_,rfl⟩
   unfold Bl.borne
   dsimp only
   refine Prod.ext ?_ ?_ <;> dsimp only <;> (repeat' split) <;> first|rfl|omega
 ·have g2:¬ d > 0:=oO
  have g3:¬ d=B.most:=oO
  by_cases g4:d=-B.most
  ·refine Gj ?_
   refine dK (.cellN inferInstance rfl (hcl _ _ _) .nil) (aX.plain oS rfl) ⟨a ?_,rfl⟩
   unfold Bl.borne
   dsimp only
   refine Prod.ext ?_ ?_ <;> dsimp only <;> (repeat' split) <;> first|rfl|omega
  ·refine Gj ?_
   refine dK (.cellN inferInstance rfl (hcl _ _ _) .nil) (aX.plain oS rfl) ⟨a ?_,rfl⟩
   unfold Bl.borne
   dsimp only
   refine Prod.ext ?_ ?_ <;> dsimp only <;> (repeat' split) <;> omega
 ·by_cases g3:d=B.most
  ·have g4:d=-B.most:=oO
   refine Gj ?_
   refine dK (.cellN inferInstance rfl (hcl _ _ _) .nil) (aX.plain oS rfl) ⟨a ?_,rfl⟩
   unfold Bl.borne
   dsimp only
   refine Prod.ext ?_ ?_ <;> dsimp only <;> (repeat' split) <;> rfl
  ·have g4:¬ d=-B.most:=oO
   refine Gj ?_
   refine dK (.cellN inferInstance rfl (hcl _ _ _) .nil) (aX.plain oS rfl) ⟨a ?_,rfl⟩
   unfold Bl.borne
   dsimp only
   refine Prod.ext ?_ ?_ <;> dsimp only <;> (repeat' split) <;> first|rfl|omega
end Go.Proofs.YtajpgeklmcjciaaGreat
namespace Go.AH.Warp
open Go Go.AH Go.AH.Heat
def mP (n:Nat) (f:Nat→Int):List Int:=(List.range n).map f
theorem EC (n:Nat) (f:Nat→Int):(mP n f).length=n:=by simp [mP]
theorem Dl {n:Nat} {f g:Nat→Int} (h:∀ i<n,f i=g i):mP n f=mP n g:=eD fun i hi=>h i (List.mem_range.1 hi)
theorem adn {n:Nat} {f:Nat→Int} {i:Nat} {v:Int}:(mP n f).set i v=mP n fun x=>if x=i then v else f x:=by
 refine fx fun x=>?_
 unfold mP
 rw [List.getElem?_set]
 simp only [cN,cQ,List.length_range]
 by_cases h:i=x
 ·subst h
  by_cases h2:i<n
  ·rw [ft h2];simp [h2]
  ·rw [eM (oU h2)];simp [h2]
 ·by_cases h2:x<n
  ·rw [ft h2];simp [h,Ne.symm h]
  ·rw [eM (oU h2)];simp [h]
theorem aai (n:Nat):ints (List.replicate n 0)=ints (mP n fun _=>0):=by
 unfold mP;rw [List.map_const',List.length_range]
theorem ado:∀ m,([.i 0,.i 0]:List Value)++rgC (fun _=>((0:Int),(0:Int))) m=rgC (fun _=>(0,0)) m++[.i 0,.i 0]
 |0=>rfl
 |m+1=>by simp only [rgC];rw [← cD,ado m]
theorem Oj:∀ m,iG (dR (.agg #[.i 0,.i 0])) m=rgC (fun _=>(0,0)) m
 |0=>rfl
 |m+1=>by
  show [.i 0,.i 0]++iG _ m=_
  rw [Oj m,ado];rfl
theorem BI {f g:Nat→Int×Int}:∀ {n:Nat},(∀ i<n,f i=g i)→rgC f n=rgC g n
 |0,_=>rfl
 |n+1,h=>by simp only [rgC];rw [BI fun i hi=>h i oO,h n oO]
theorem YE {f:Nat→Int×Int} {x:Int×Int}:∀ {n i:Nat},i<n→splice (rgC f n) (i*2) [.i x.1,.i x.2]=rgC (fun j=>if j=i then x else f j) n
 |0,i,h=>by omega
 |n+1,i,h=>by
  have hl:=uQ f n
  by_cases hi:i<n
  ·simp only [rgC]
   rw [if_neg oO,← YE hi]
   simp only [splice,eg,eb]
   rw [fp oO,fS oO]
   simp
  ·obtain rfl:i=n:=oO
   simp only [rgC,if_true]
   rw [BI (f:=fun j=>if j=i then x else f j) (g:=f) fun j hj=>by rw [if_neg oO]]
   simp only [splice,eg,eb]
   rw [fp oO,List.take_of_length_le oO,eL (by simp;omega)]
   simp
theorem adp {b:Bl} {d:Nat→Int} (ho:b.Ok):∀ i≤b.n,-9≤(b.now d i).1∧(b.now d i).1≤9∧-9≤(b.now d i).2∧(b.now d i).2≤9
 |0,_=>by simp [Bl.now]
 |i+1,hi=>by
  have ih:=adp ho i oO (d:=d)
  have hb:=Bl.Uh (hard:=b.hard i) (most:=b.most) (d:=d i) (ho i oO)
  simp only [Bl.now,Bl.next,Bl.meet]
  repeat' split
  all_goals dsimp only
  all_goals omega
theorem YF {b:Bl} {d:Nat→Int} (ho:b.Ok) {i:Nat} (hi:i<b.n):-9≤(b.rng d i).1∧(b.rng d i).1≤9∧-9≤(b.rng d i).2∧(b.rng d i).2≤9:=by
 have ih:=adp ho i oO (d:=d)
 have hb:=Bl.Uh (hard:=b.hard i) (most:=b.most) (d:=d i) (ho i hi)
 simp only [Bl.rng,Bl.meet]
 omega
theorem Gl {b:Bl} {d:Nat→Int} (ho:b.Ok):∀ k≤b.n,-9≤b.mM d k∧b.mM d k≤9
 |0,_=>by simp [Bl.mM]
 |k+1,hk=>by
  have ih:=Gl ho k oO (d:=d)
  have hr:=YF (d:=d) ho (i:=b.n - (k+1)) oO
  simp only [Bl.mM]
  split <;> omega
theorem YG {d:Nat→Int} {n:Nat} (h:∀ i<n,-200≤d i∧d i≤200):∀ i≤n,-200*(i:Int)≤uy d i∧uy d i≤200*(i:Int)
 |0,_=>by simp [uy]
 |i+1,hi=>by
  have:=YG h i oO
  have:=h i oO
  simp only [uy];omega
end Go.AH.Warp
namespace Go.Proofs.YtajpgeklmcjciaaGreat
open Go Go.AH
attribute [local irreducible] bZ bK bM jB gy dO fC bW eU aX dV eH
open Go.AH.Heat Go.AH.Warp
theorem lK {A B:Prop} (k:B) (h:Hide B→A:=by intro h_k_;(repeat' (first|refine sCm ?_|(refine gU ?_;first|refine st (zY (l:=B.n+1) (by rfl) (by rfl) rfl rfl (by omega) (by omega) (by omega)) rfl rfl ?_|(refine bV ?_;first|refine st (aK rfl (by first|exact hcb|exact hd1|exact aF a8|exact aF a11|exact aF (q11 _))) rfl rfl ?_|refine st (bD rfl (by first|exact aV a8 rfl|exact qgr _|assumption)) rfl rfl ?_)|refine LP ?_|refine sK8 ?_|refine sK0 ?_|(refine nN ?_;first|refine st (kR rfl (by exact eX (by assumption)) rfl) rfl rfl ?_|refine st (jA rfl (by exact cZ (by assumption)) rfl) rfl rfl ?_)|(refine gIA ?_;first|refine st (nC rfl rfl (by omega)) rfl rfl ?_|refine st (iV rfl rfl (by omega)) rfl rfl ?_)|(refine gMax ?_;refine st (Cc rfl rfl) rfl rfl ?_)|(refine aaO ?_;refine st (Ce rfl rfl) rfl rfl ?_)|refine sK4 ?_|(refine aaP ?_;refine st (zY (by rfl) (by rfl) rfl rfl (by omega) (by omega) (by omega)) rfl rfl ?_)|(refine gV ?_;refine stN (bU rfl rfl rfl rfl (by first|exact vk rfl rfl|exact hput|exact hputA _ _ _|exact hputB _ _ _|exact hputC _ _ _ _|exact hput _)) rfl ?_))|(refine gG ?_;first|(refine zx ?_;refine stG rfl (by exact eX (by assumption)) (eP rfl) rfl rfl ?_)|(refine gFA ?_;refine stG rfl (by exact eX (by assumption)) (aZ rfl) rfl rfl ?_)|(refine bV ?_;refine stG rfl (by exact eX (by assumption)) (aK rfl (by first|exact aF a8|exact aF (q11 _))) rfl rfl ?_)|(refine BK ?_;refine stG rfl (by exact eX (by assumption)) (jm rfl rfl rfl) rfl rfl ?_)|refine stS rfl (by exact cZ (by assumption)) rfl ?_)|(refine fU ?_;first|refine qX ?_;refine frA (eP rfl) rfl ?_ (hcl (by assumption))|refine qX ?_;refine frA (eP rfl) rfl ?_ (hcs (by assumption))|refine OH ?_;refine frA (jT rfl) rfl ?_ (hcl (by assumption))|refine fFA ?_;refine frA (aZ rfl) rfl ?_ (hcl (by assumption))|refine gB ?_;refine frA (aK rfl (by exact hq3 _)) rfl ?_ (hcs (by assumption))|refine fIA ?_;refine frA (ny rfl rfl (by omega) (by omega)) rfl ?_ (hcl (by assumption))|refine gB ?_;refine frA (bD rfl (by exact hq1 _)) rfl ?_ rfl|refine gB ?_;refine frA (bD rfl (by exact hq2 _)) rfl ?_ rfl|refine qX ?_;refine frA (eP rfl) rfl ?_ hcln|refine qX ?_;refine frA (eP rfl) rfl ?_ rfl|refine gB ?_;refine frA (bD rfl (by exact hq8 _)) rfl ?_ rfl|refine qF ?_;refine frA (bG rfl rfl rfl (by exact hfa _)) rfl ?_ rfl|refine qF ?_;refine frA (bG rfl rfl rfl (by exact hfb _)) rfl ?_ rfl|(refine fAdd ?_;refine fr (qP rfl rfl (by omega)) (by rfl) rfl ?_)|(refine zV ?_;refine Chain.fr1A (kC rfl) rfl rfl rfl ?_))|(refine fP ⟨by kernel_rfl,?_⟩)|refine dB (id:=9) ?_|refine dB (id:=10) ?_|refine dB (id:=11) ?_|refine dB (id:=12) ?_|refine dB (id:=32) ?_|refine dB (id:=33) ?_|refine aG ?_|refine Chain.Wh ?_|refine Chain.wZ 12 [true,true] [.i lo,.i hi] (by kernel_rfl) (by kernel_rfl) (by kernel_rfl) (by kernel_rfl) rfl rfl (bU rfl rfl rfl rfl (by exact hp1)) ?_|refine Chain.wZ 13 [true,true] [.i r.1,.i r.2] (by kernel_rfl) (by kernel_rfl) (by kernel_rfl) (by kernel_rfl) rfl rfl (bU rfl rfl rfl rfl (by exact hp2)) ?_|refine sK2 ?_|refine sK6 ?_|fail));exact h_k_.h):A:=h ⟨k⟩
theorem adq {σ:Heap} {B:Bld} {nb sb cS tb cT xb c:Nat} (hv:xK B) (hB:kZ σ B nb sb cS tb cT) {d:Nat→Int} (hx:∀ i<B.n,aH σ xb i=some (.i (d i))) (hxb:xb < σ.length) (hdb:∀ i<B.n,-200≤d i∧d i≤200) :
  Ev Tryz.prog 87 [.p nb,.s xb B.n c] σ (.s σ.length B.n B.n) (σ++[.rw (ints (mP B.n (B.b.pull d)))]):=by
 refine aI σ.length 149 Tryz.func87 rfl rfl rfl rfl rfl ?_
 have hn20:=hv.n
 have M:nb < σ.length:=aQ hB.nb
 have Q:=YG hdb
 refine lK ?_
 obtain ⟨H0,m⟩:∃ H0,H0=σ++[aB.rw (rgC (fun _=>(0,0)) (B.n+1))]++[aB.rw [.i (-9),.i 9]]:=⟨_,rfl⟩
 have hz:iG (dR (.agg #[.i 0,.i 0])) (B.n+1)=rgC (fun _=>(0,0)) (B.n+1):=Oj _
 refine dH [(0,.p nb),(1,.s xb B.n c),(5,.i (B.n:Nat)),(6,.s σ.length (B.n+1) (B.n+1)),(7,.i (uy d 0)),(8,.p (σ.length+1)),(26,.s xb B.n c),(27,.i (B.n:Nat)),(28,.i (0:Nat))] H0 (by rw [m,← hz];rfl) ⟨rfl,rfl,rfl,rfl,rfl,(by (refine congrArg (fun n=>some (Value.p n)) ?_;simp;try omega)),rfl,rfl,rfl,trivial⟩ ?_
 have I:H0.take σ.length=σ:=by rw [m];simp
 have N:H0[σ.length]?=some (.rw (rgC (fun j=>if j<0 then B.b.rng d j else (0,0)) (B.n+1))):=by
  rw [m,BI (f:=fun j=>if j<0 then B.b.rng d j else (0,0)) (g:=fun _=>(0,0)) fun j _=>if_neg (Nat.not_lt_zero _)];exact aA aO
 have ad:H0[σ.length+1]?=some (.rw [.i (B.b.now d 0).1,.i (B.b.now d 0).2]):=by rw [m];exact bJ oS
 clear m hz
 refine dS (ι:=Nat) (fun k=>[(0,.p nb),(1,.s xb B.n c),(5,.i (B.n:Nat)),(6,.s σ.length (B.n+1) (B.n+1)),(7,.i (uy d k)),(8,.p (σ.length+1)),(26,.s xb B.n c),(27,.i (B.n:Nat)),(28,.i (k:Nat))])
  (fun k mk H=>k≤B.n∧mk=[]∧H.take σ.length=σ∧H[σ.length]?=some (.rw (rgC (fun j=>if j<k then B.b.rng d j else (0,0)) (B.n+1)))∧H[σ.length+1]?=some (.rw [.i (B.b.now d k).1,.i (B.b.now d k).2])) (fun k=>B.n - k) 0 tE ⟨bN _,rfl,I,N,ad⟩ ?_
 clear I N ad H0
 rintro k mk H ⟨hk,rfl,hp,hr,E⟩
 by_cases hkn:k<B.n
 ·have Z:(k:Int)<(B.n:Nat):=oO
  have hd1:aH H xb k=some (.i (d k)):=by
   have:=hx k hkn
   unfold aH at this ⊢
   rw [iY hp hxb];exact this
  have R:=Q k hk
  have aa:=hdb k hkn
  have hbk:=Q (k+1) hkn
  have hbe:uy d k+d k=Bl.sO d k:=rfl
  have hbe2:uy d (k+1)=Bl.sO d k:=rfl
  refine lK ?_
  refine .mk (dH [(0,.p nb),(1,.s xb B.n c),(5,.i (B.n:Nat)),(6,.s σ.length (B.n+1) (B.n+1)),(7,.i (Bl.sO d k)),(8,.p (σ.length+1)),(9,.i (k:Nat)),(10,.i (d k)),(26,.s xb B.n c),(27,.i (B.n:Nat)),(28,.i (k:Nat))] H rfl tE ?_)
  have ap:=aQ E
  have ag:nb<H.length:=Nat.lt_trans M oO
  have hcln:∀ {o:Nat},closed H.length (.pointer (some ⟨nb,o,none⟩))=true:=fun {o}=>Nat.blt_eq.mpr ag
  have hq8:∀ X,aJ (H++X) (σ.length+1) 0 2=some [.i (B.b.now d k).1,.i (B.b.now d k).2]:=fun X=>aV (aA E) rfl
  have z:=hB.take hp
  have hfa:=fun X=>adl (σ:=H++X) (d:=d k) hv (z.app (X:=X)) hkn
  have hfb:=fun X=>afg (σ:=H++X) (x:=B.b.now d k) (y:=Bl.borne (B.hard k) B.most (d k))
  rw [show Bl.meet (B.b.now d k) (Bl.borne (B.hard k) B.most (d k))=B.b.rng d k from rfl] at hfb
  have hput:putCells (H++gJ (fun _=>true) []) (σ.length+1) 0 [.i (B.b.rng d k).1,.i (B.b.rng d k).2]=some (H.set (σ.length+1) (.rw [.i (B.b.rng d k).1,.i (B.b.rng d k).2])):=by
   rw [show H++gJ (fun _=>true) []=H from bL H];exact fM E oS oS rfl
  refine fA oK rfl (?_)
  refine lK ?_
  obtain ⟨H1,e⟩:∃ H1,H1=H.set (σ.length+1) (.rw [.i (B.b.rng d k).1,.i (B.b.rng d k).2]):=⟨_,rfl⟩
  refine .mk (dH [(0,.p nb),(1,.s xb B.n c),(5,.i (B.n:Nat)),(6,.s σ.length (B.n+1) (B.n+1)),(7,.i (Bl.sO d k)),(8,.p (σ.length+1)),(9,.i (k:Nat)),(10,.i (d k)),(26,.s xb B.n c),(27,.i (B.n:Nat)),(28,.i (k:Nat))] H1 e.symm tE ?_)
  have a8:H1[σ.length+1]?=some (.rw [.i (B.b.rng d k).1,.i (B.b.rng d k).2]):=by rw [e];exact aS E
  have P:H1[σ.length]?=some (.rw (rgC (fun j=>if j<k then B.b.rng d j else (0,0)) (B.n+1))):=by rw [e];exact aC hr oO
  have hp1:H1.take σ.length=σ:=by rw [e];exact take_set hp oO
  clear hput hfb hfa hq8 hcln ag ap z e hd1 hr E hp H
  have hput:putCells H1 σ.length (0+k*2) [.i (B.b.rng d k).1,.i (B.b.rng d k).2]=some (H1.set σ.length (.rw (rgC (fun j=>if j<k+1 then B.b.rng d j else (0,0)) (B.n+1)))):=by
   refine fM P (by rw [uQ];simp;omega) (by rw [uQ];omega) ?_
   rw [bA,YE oO]
   refine BI fun j _=>?_
   by_cases hj:j=k
   ·rw [if_pos hj,if_pos oO,hj]
   ·rw [if_neg hj]
    by_cases a6:j<k
    ·rw [if_pos a6,if_pos oO]
    ·rw [if_neg a6,if_neg oO]
  have hk1:(k:Int)<((B.n+1:Nat):Int):=oO
  apply aG
  refine lK ?_
  obtain ⟨H2,L⟩:∃ H2,H2=H1.set σ.length (.rw (rgC (fun j=>if j<k+1 then B.b.rng d j else (0,0)) (B.n+1))):=⟨_,rfl⟩
  refine .mk (dH [(0,.p nb),(1,.s xb B.n c),(5,.i (B.n:Nat)),(6,.s σ.length (B.n+1) (B.n+1)),(7,.i (Bl.sO d k)),(8,.p (σ.length+1)),(9,.i (k:Nat)),(10,.i (d k)),(26,.s xb B.n c),(27,.i (B.n:Nat)),(28,.i (k:Nat))] H2 L.symm tE ?_)
  have b8:H2[σ.length+1]?=some (.rw [.i (B.b.rng d k).1,.i (B.b.rng d k).2]):=by rw [L];exact aC a8 oO
  have ae:H2[σ.length]?=some (.rw (rgC (fun j=>if j<k+1 then B.b.rng d j else (0,0)) (B.n+1))):=by rw [L];exact aS P
  have hp2:H2.take σ.length=σ:=by rw [L];exact take_set hp1 oO
  clear hput L a8 P hp1 H1
  have z:=hB.take hp2
  have hcb:aH H2 nb (0+2)=some (.s tb (B.n+1) cT):=aF z.nb
  have al:aJ H2 tb (0+(k+1)*2) 2=some [.i (B.b.lo k),.i (B.b.hi k)]:=by rw [bA];exact z.tu (k+1) oO
  have hk2:(k:Int)+1<((B.n+1:Nat):Int):=oO
  apply aG
  refine lK ?_
  obtain ⟨H3,F⟩:∃ H3,H3=H2++[aB.rw [.i (B.b.lo k),.i (B.b.hi k)]]:=⟨_,rfl⟩
  obtain ⟨tl,C⟩:∃ tl,tl=H2.length:=⟨_,rfl⟩
  refine .mk (dH [(0,.p nb),(1,.s xb B.n c),(5,.i (B.n:Nat)),(6,.s σ.length (B.n+1) (B.n+1)),(7,.i (Bl.sO d k)),(8,.p (σ.length+1)),(9,.i (k:Nat)),(11,.p tl),(26,.s xb B.n c),(27,.i (B.n:Nat)),(28,.i (k:Nat))] H3 (by rw [F];rfl) ⟨rfl,rfl,rfl,rfl,rfl,rfl,rfl,by rw [C];rfl,rfl,rfl,rfl,trivial⟩ ?_)
  have a8:H3[σ.length+1]?=some (.rw [.i (B.b.rng d k).1,.i (B.b.rng d k).2]):=by rw [F];exact aA b8
  have a11:H3[tl]?=some (.rw [.i (B.b.lo k),.i (B.b.hi k)]):=by rw [F,C];exact aO
  have af:H3[σ.length]?=some (.rw (rgC (fun j=>if j<k+1 then B.b.rng d j else (0,0)) (B.n+1))):=by rw [F];exact aA ae
  have au:H3.take σ.length=σ:=by rw [F];exact aT hp2
  have hneq:tl ≠ σ.length+1:=by rw [C];have:=aQ b8;omega
  clear F C al hcb z ae hp2 b8 H2
  have qgr:∀ x,aJ (H3.set (σ.length+1) x) σ.length (0+k*2) 2=some [.i (B.b.rng d k).1,.i (B.b.rng d k).2]:=fun x=>by
   rw [bA,Gh (aC af oO) oO,if_pos oO]
  have t:∀ x y:Int,Bl.next (B.b.rng d k) (Bl.sO d k) (B.b.lo k) (B.b.hi k)=(x,y)→∀ (K:Heap),K=H3.set (σ.length+1) (.rw [.i x,.i y])→(k+1≤B.n∧([]:List Nat)=[]∧K.take σ.length=σ∧K[σ.length]?=some (.rw (rgC (fun j=>if j<k+1 then B.b.rng d j else (0,0)) (B.n+1)))∧K[σ.length+1]?=some (.rw [.i (B.b.now d (k+1)).1,.i (B.b.now d (k+1)).2])):=fun x y ak K hK=>by
   rw [B.b.acV,ak,hK]
   exact ⟨hkn,rfl,take_set au oO,aC af oO,aS a8⟩
  generalize B.b.rng d k=r at a8 qgr t ⊢
  have Y:Bl.lo B.b k=B.b.lo k:=rfl
  generalize B.b.lo k=lo at a11 t ⊢
  generalize B.b.hi k=hi at a11 t ⊢
  generalize w:Bl.sO d k=bd at t ⊢
  have hputA:∀ x y u,putCells (H3.set (σ.length+1) (.rw [x,y])) (σ.length+1) 0 [u]=some (H3.set (σ.length+1) (.rw [u,y])):=fun x y u=>by
   rw [fM (aS a8) oS oS rfl,cX];rfl
  have hputB:∀ x y u,putCells (H3.set (σ.length+1) (.rw [x,y])) (σ.length+1) 1 [u]=some (H3.set (σ.length+1) (.rw [x,u])):=fun x y u=>by
   rw [fM (aS a8) oS oS rfl,cX];rfl
  have hputC:∀ x y u v,putCells (H3.set (σ.length+1) (.rw [x,y])) (σ.length+1) 0 [u,v]=some (H3.set (σ.length+1) (.rw [u,v])):=fun x y u v=>by
   rw [fM (aS a8) oS oS rfl,cX];rfl
  have aq:H3=H3.set (σ.length+1) (.rw [.i r.1,.i r.2]):=(set_self a8).symm
  have q11:∀ x,(H3.set (σ.length+1) x)[tl]?=some (.rw [.i lo,.i hi]):=fun x=>aC a11 oO
  clear a8 a11
  rw [aq]
  apply aG
  by_cases g1:bd > lo
  ·by_cases g2:bd<hi
   ·have g3:¬ lo=hi:=oO
    refine lK ?_
    exact ⟨k+1,t r.1 r.2 (by unfold Bl.next;rw [if_pos ⟨g1,g2⟩]) _ rfl,oO,⟨rfl,rfl,rfl,rfl,congrArg (fun x=>some (Value.i x)) w.symm,rfl,rfl,rfl,rfl,trivial⟩⟩
   ·by_cases g3:lo=hi
    ·refine lK ?_
     exact ⟨k+1,t (-9) 9 (by unfold Bl.next;rw [if_neg oO,if_pos g3]) _ rfl,oO,⟨rfl,rfl,rfl,rfl,congrArg (fun x=>some (Value.i x)) w.symm,rfl,rfl,rfl,rfl,trivial⟩⟩
    ·refine lK ?_
     exact ⟨k+1,t r.1 9 (by unfold Bl.next;rw [if_neg oO,if_neg g3,if_neg g2,if_pos g1]) _ rfl,oO,⟨rfl,rfl,rfl,rfl,congrArg (fun x=>some (Value.i x)) w.symm,rfl,rfl,rfl,rfl,trivial⟩⟩
  ·by_cases g2:bd<hi
   ·by_cases g3:lo=hi
    ·refine lK ?_
     exact ⟨k+1,t (-9) 9 (by unfold Bl.next;rw [if_neg oO,if_pos g3]) _ rfl,oO,⟨rfl,rfl,rfl,rfl,congrArg (fun x=>some (Value.i x)) w.symm,rfl,rfl,rfl,rfl,trivial⟩⟩
    ·refine lK ?_
     exact ⟨k+1,t (-9) r.2 (by unfold Bl.next;rw [if_neg oO,if_neg g3,if_pos g2,if_neg g1]) _ rfl,oO,⟨rfl,rfl,rfl,rfl,congrArg (fun x=>some (Value.i x)) w.symm,rfl,rfl,rfl,rfl,trivial⟩⟩
   ·by_cases g3:lo=hi
    ·refine lK ?_
     exact ⟨k+1,t (-9) 9 (by unfold Bl.next;rw [if_neg oO,if_pos g3]) _ rfl,oO,⟨rfl,rfl,rfl,rfl,congrArg (fun x=>some (Value.i x)) w.symm,rfl,rfl,rfl,rfl,trivial⟩⟩
    ·refine lK ?_
     exact ⟨k+1,t r.1 r.2 (by unfold Bl.next;rw [if_neg oO,if_neg g3,if_neg g2,if_neg g1]) _ rfl,oO,⟨rfl,rfl,rfl,rfl,congrArg (fun x=>some (Value.i x)) w.symm,rfl,rfl,rfl,rfl,trivial⟩⟩
 ·obtain rfl:k=B.n:=oO
  have Z:¬ ((B.n:Nat):Int)<(B.n:Nat):=oO
  clear E
  refine lK ?_
  obtain ⟨ob,W⟩:∃ ob,ob=H.length:=⟨_,rfl⟩
  obtain ⟨H0,m⟩:∃ H0,H0=H++[aB.rw (ints (mP B.n fun _=>0))]:=⟨_,rfl⟩
  have hz:iG (dR (.i 0)) B.n=ints (mP B.n fun _=>0):=by rw [AX,aai]
  have an:=aQ hr
  refine dH [(0,.p nb),(1,.s xb B.n c),(5,.i (B.n:Nat)),(6,.s σ.length (B.n+1) (B.n+1)),(7,.i (uy d 0)),(12,.s ob B.n B.n),(13,.i 0),(89,.s xb B.n c),(90,.i (B.n:Nat)),(91,.i (0:Nat))] H0 (by rw [m,← hz]) ⟨rfl,rfl,rfl,rfl,rfl,congrArg (fun n=>some (Value.s n B.n B.n)) W.symm,rfl,rfl,rfl,rfl,trivial⟩ ?_
  have I:H0.take σ.length=σ:=by rw [m];exact aT hp
  have N:H0[σ.length]?=some (.rw (rgC (fun j=>if j<B.n then B.b.rng d j else (0,0)) (B.n+1))):=by rw [m];exact aA hr
  have U:H0[ob]?=some (.rw (ints (mP B.n fun _=>0))):=by rw [m,W];exact aO
  have hobl:σ.length+1≤ob:=oO
  clear m hz hr hp W an H
  refine dS (ι:=Nat) (fun k=>[(0,.p nb),(1,.s xb B.n c),(5,.i (B.n:Nat)),(6,.s σ.length (B.n+1) (B.n+1)),(7,.i (uy d k)),(12,.s ob B.n B.n),(13,.i 0),(89,.s xb B.n c),(90,.i (B.n:Nat)),(91,.i (k:Nat))])
   (fun k mk H=>k≤B.n∧mk=[]∧H=H0) (fun k=>B.n - k) 0 tE ⟨bN _,rfl,rfl⟩ ?_
  rintro k mk H ⟨hk,rfl,rfl⟩
  by_cases hkn:k<B.n
  ·have Z:(k:Int)<(B.n:Nat):=oO
   have hd1:aH H xb k=some (.i (d k)):=by
    have:=hx k hkn
    unfold aH at this ⊢
    rw [iY I hxb];exact this
   have R:=Q k hk
   have aa:=hdb k hkn
   refine lK ?_
   exact ⟨k+1,⟨hkn,rfl,rfl⟩,oO,tE⟩
  ·obtain rfl:k=B.n:=oO
   have Z:¬ ((B.n:Nat):Int)<(B.n:Nat):=oO
   have hn64:(B.n:Int) - 1=((B.n:Nat):Int) - 1 - (0:Nat):=oO
   refine lK ?_
   have a7:mP B.n (fun _=>0)=mP B.n fun j=>if B.n≤j+0 then B.b.pull d j else 0:=Dl fun j hj=>by rw [if_neg oO]
   rw [a7] at U
   refine dS (ι:=Nat) (fun k=>[(0,.p nb),(1,.s xb B.n c),(5,.i (B.n:Nat)),(6,.s σ.length (B.n+1) (B.n+1)),(7,.i (uy d (B.n - k))),(12,.s ob B.n B.n),(13,.i (B.b.mM d k)),(16,.i ((B.n:Int) - 1 - (k:Nat)))])
    (fun k mk H=>k≤B.n∧mk=[]∧H.take σ.length=σ∧H[σ.length]?=some (.rw (rgC (fun j=>if j<B.n then B.b.rng d j else (0,0)) (B.n+1)))∧H[ob]?=some (.rw (ints (mP B.n fun j=>if B.n≤j+k then B.b.pull d j else 0)))) (fun k=>B.n - k) 0 ⟨rfl,rfl,rfl,rfl,rfl,rfl,rfl,congrArg (fun x=>some (Value.i x)) oO,trivial⟩ ⟨bN _,rfl,I,N,U⟩ ?_
   clear I N U a7 H
   rintro k mk H ⟨hk,rfl,hp,hr,ho⟩
   by_cases hkn:k<B.n
   ·obtain ⟨i,T⟩:∃ i:Nat,i=B.n - (k+1):=⟨_,rfl⟩
    have O:i<B.n:=oO
    rw [show (B.n:Int) - 1 - (k:Nat)=((i:Nat):Int) by omega]
    have ao:((i:Nat):Int)≥0:=oO
    refine lK ?_
    obtain ⟨lo,Y⟩:∃ x,x=B.b.lo i:=⟨_,rfl⟩
    obtain ⟨hi,ac⟩:∃ x,x=B.b.hi i:=⟨_,rfl⟩
    obtain ⟨r,hrd⟩:∃ x,x=B.b.rng d i:=⟨_,rfl⟩
    have hl1:nb<H.length:=fi M (take_len hp)
    have hl2:σ.length<H.length:=aQ hr
    have z:=hB.take hp
    have ah:aJ H tb (0+(i+1)*2) 2=some [.i lo,.i hi]:=by rw [bA,Y,ac];exact z.tu (i+1) oO
    have aj:tb<H.length:=dJ ah
    have hcl:∀ {q o:Nat},q<H.length→closed H.length (.pointer (some ⟨q,o,none⟩))=true:=fun {q o} h=>Nat.blt_eq.mpr h
    have hcs:∀ {q o n c:Nat},q<H.length→closed H.length (.slice (some ⟨q,o,none⟩) n c)=true:=fun h=>bP (Nat.blt_eq.mpr h)
    have hq1:∀ X,aJ (H++X) tb (0+(i+1)*2) 2=some [.i lo,.i hi]:=fun X=>by rw [iT aj];exact ah
    have hq2:∀ X,aJ (H++X) σ.length (0+i*2) 2=some [.i r.1,.i r.2]:=fun X=>by
     rw [bA,Gh (aA hr) oO,if_pos O,hrd]
    have hq3:∀ X,aH (H++X) nb (0+2)=some (.s tb (B.n+1) cT):=fun X=>aF (aA z.nb)
    have hp1:putCells (H++[aB.rw [.i 0,.i 0],aB.rw [.i 0,.i 0]]) (H.length+0) 0 [.i lo,.i hi]=some (H++[aB.rw [.i lo,.i hi],aB.rw [.i 0,.i 0]]):=by
     refine (fM (cs:=[.i 0,.i 0]) (cs':=[.i lo,.i hi]) oS oS oS rfl).trans ?_
     simp
    have hp2:putCells (H++[aB.rw [.i lo,.i hi],aB.rw [.i 0,.i 0]]) (H.length+1) 0 [.i r.1,.i r.2]=some (H++[aB.rw [.i lo,.i hi],aB.rw [.i r.1,.i r.2]]):=by
     refine (fM (cs:=[.i 0,.i 0]) (cs':=[.i r.1,.i r.2]) oS oS oS rfl).trans ?_
     simp
    have hi1:(i:Int)<((B.n+1:Nat):Int):=oO
    have hi2:(i:Int)+1<((B.n+1:Nat):Int):=oO
    refine .mk ?_
    refine Chain.Bz (id:=32) oK rfl (?_)
    refine lK ?_
    obtain ⟨H1,e⟩:∃ H1,H1=H++[aB.rw [.i lo,.i hi],aB.rw [.i r.1,.i r.2]]:=⟨_,rfl⟩
    obtain ⟨tl,C⟩:∃ tl,tl=H.length:=⟨_,rfl⟩
    refine .mk (dH [(0,.p nb),(1,.s xb B.n c),(5,.i (B.n:Nat)),(6,.s σ.length (B.n+1) (B.n+1)),(7,.i (uy d (B.n - k))),(12,.s ob B.n B.n),(13,.i (B.b.mM d k)),(16,.i (i:Nat)),(17,.p tl),(18,.p (tl+1))] H1 (by rw [e];rfl) ⟨rfl,rfl,rfl,rfl,rfl,rfl,rfl,rfl,by rw [C];rfl,by rw [C];rfl,trivial⟩ ?_)
    have a8:H1[tl]?=some (.rw [.i lo,.i hi]):=by rw [e,C];exact AV
    have a11:H1[tl+1]?=some (.rw [.i r.1,.i r.2]):=by rw [e,C];exact wJ
    have a4:H1.take σ.length=σ:=by rw [e];exact aT hp
    have P:H1[σ.length]?=some (.rw (rgC (fun j=>if j<B.n then B.b.rng d j else (0,0)) (B.n+1))):=by rw [e];exact aA hr
    have a9:H1[ob]?=some (.rw (ints (mP B.n fun j=>if B.n≤j+k then B.b.pull d j else 0))):=by rw [e];exact aA ho
    have R:=Q (B.n - k) oO
    have aa:=hdb i O
    have ai:=Q i oO
    have w:uy d (B.n - k)=Bl.sO d i:=by unfold Bl.sO;rw [T];congr 1;omega
    have am:=Gl (d:=d) hv.ok k hk
    have a5:=Gl (d:=d) hv.ok (k+1) hkn
    have D:B.b.mM d (k+1)=if Bl.sO d i > lo∧Bl.sO d i<hi then B.b.mM d k else max r.1 (min r.2 (B.b.mM d k)):=by
     simp only [Bl.mM]
     rw [show Bl.n B.b - (k+1)=i from T.symm,← Y,← ac,← hrd]
    have J:B.b.pull d i=B.b.mM d (k+1) - B.b.mM d k:=by
     unfold Bl.pull
     rw [show Bl.n B.b - i=k+1 by show B.n - i=_;omega,Nat.add_sub_cancel]
    have a:Bl.sO d i - d i=uy d (B.n - (k+1)):=by
     rw [← T];show uy d (i+1) - d i=_;simp only [uy];omega
    have hput:∀ v,putCells H1 ob i [.i v]=some (H1.set ob (.rw (ints ((mP B.n fun j=>if B.n≤j+k then B.b.pull d j else 0).set i v)))):=fun v =>
     fM a9 (by rw [cO,EC];simp;omega) (by rw [cO,EC];omega) (by rw [BG (by rw [EC];exact O)])
    have G:∀ v:Int,v=B.b.mM d (k+1) - B.b.mM d k→(k+1≤B.n∧([]:List Nat)=[]∧(H1.set ob (.rw (ints ((mP B.n fun j=>if B.n≤j+k then B.b.pull d j else 0).set i v)))).take σ.length=σ∧(H1.set ob (.rw (ints ((mP B.n fun j=>if B.n≤j+k then B.b.pull d j else 0).set i v))))[σ.length]?=some (.rw (rgC (fun j=>if j<B.n then B.b.rng d j else (0,0)) (B.n+1)))∧(H1.set ob (.rw (ints ((mP B.n fun j=>if B.n≤j+k then B.b.pull d j else 0).set i v))))[ob]?=some (.rw (ints (mP B.n fun j=>if B.n≤j+(k+1) then B.b.pull d j else 0)))):=fun v ar=>by
     refine ⟨hkn,rfl,take_set a4 oO,aC P oO,?_⟩
     rw [aS a9,adn]
     congr 3
     refine Dl fun j hj=>?_
     by_cases a3:j=i
     ·rw [if_pos a3,if_pos oO,a3,J,ar]
     ·rw [if_neg a3]
      by_cases h2:B.n≤j+k
      ·rw [if_pos h2,if_pos oO]
      ·rw [if_neg h2,if_neg oO]
    rw [w]
    generalize hs1d:B.b.mM d (k+1)=s1 at D G a5 ⊢
    generalize B.b.mM d k=s0 at D G am ⊢
    rw [w] at R
    have hr9:-9≤r.1∧r.1≤9∧-9≤r.2∧r.2≤9:=by rw [hrd];exact YF hv.ok O
    have V:-200*(i:Int)≤Bl.sO d i - d i∧Bl.sO d i - d i≤200*(i:Int):=by
     have:Bl.sO d i - d i=uy d i:=by unfold Bl.sO;simp only [uy];omega
     rw [this];exact ai
    generalize Bl.sO d i=bd at D R V a ⊢
    have hd1:aH (H1.set ob (.rw (ints ((mP B.n fun j=>if B.n≤j+k then B.b.pull d j else 0).set i (s1 - s0))))) xb i=some (.i (d i)):=by
     have h4:=hx i O
     have h5:=(G (s1 - s0) rfl).2.2.1
     unfold aH at h4 ⊢
     rw [iY h5 hxb];exact h4
    apply aG
    have a2:(i:Int) - 1=(B.n:Int) - 1 - ((k+1:Nat):Int):=oO
    by_cases g1:bd > lo
    ·by_cases g2:bd<hi
     ·rw [if_pos ⟨g1,g2⟩] at D
      subst D
      refine lK ?_
      exact ⟨k+1,G _ rfl,oO,⟨rfl,rfl,rfl,rfl,congrArg (fun x=>some (Value.i x)) a,rfl,congrArg (fun x=>some (Value.i x)) hs1d.symm,congrArg (fun x=>some (Value.i x)) a2,trivial⟩⟩
     ·rw [if_neg oO] at D
      subst D
      refine lK ?_
      exact ⟨k+1,G _ rfl,oO,⟨rfl,rfl,rfl,rfl,congrArg (fun x=>some (Value.i x)) a,rfl,congrArg (fun x=>some (Value.i x)) hs1d.symm,congrArg (fun x=>some (Value.i x)) a2,trivial⟩⟩
    ·rw [if_neg oO] at D
     subst D
     refine lK ?_
     exact ⟨k+1,G _ rfl,oO,⟨rfl,rfl,rfl,rfl,congrArg (fun x=>some (Value.i x)) a,rfl,congrArg (fun x=>some (Value.i x)) hs1d.symm,congrArg (fun x=>some (Value.i x)) a2,trivial⟩⟩
   ·obtain rfl:k=B.n:=oO
    have ao:¬ (B.n:Int) - 1 - ((B.n:Nat):Int)≥0:=oO
    have S:(mP B.n fun j=>if B.n≤j+B.n then B.b.pull d j else 0)=mP B.n (B.b.pull d):=Dl fun j _=>if_pos oO
    rw [S] at ho
    refine lK ?_
    have s0:fK σ.length [ob] σ.length=⟨ob,0,0⟩:=by simp [fK]
    exact dK (v2:=.s σ.length B.n B.n) (.tmp rfl .nil) (aX.src [.rw (ints (mP B.n (B.b.pull d)))] [ob] hp rfl (by simp [dF];omega) ⟨uJ s0 (.inl ho) (bC _),trivial⟩ (kX oS s0 (aD _))) ⟨rfl,rfl⟩
end Go.Proofs.YtajpgeklmcjciaaGreat
