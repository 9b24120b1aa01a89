/- Lemmas. No conditions. -/
import Derived.Test.YtajpgeklmcjciaaGreatPyQ1
import Derived.WideKeyEntry
set_option maxRecDepth 100000
set_option maxHeartbeats 8000000
open Go.Proofs.Tryz
open Go Go.AH
namespace Go.Proofs.YtajpgeklmcjciaaGreat
attribute [local irreducible] dA bJ bK jh fQ dK eH bY eu aW dR dW
open Go.AH.Heat
theorem mY {A B:Prop} (k:B) (h:Hide B->A:=by intro z_;(repeat' (first|refine sCm ?_|(refine gU ?_;first|(refine cO ?_;first|refine st (aJ rfl (by first|exact ig rfl|exact aF a0|exact aF a2|exact aF hN.b0|exact aF hN.b3|assumption)) rfl rfl ?_|refine st (bG rfl (by first|exact aV a0 rfl|exact aV a1 rfl|exact dZ rfl|assumption)) rfl rfl ?_)|refine sK4 ?_|refine sK0 ?_|(refine gIA ?_;first|refine st (qR rfl rfl (by omega)) rfl rfl ?_|refine st (iE rfl rfl (by omega)) rfl rfl ?_)|refine FP ?_|(refine Pm ?_;refine st (Fq rfl) rfl rfl ?_)|(refine dV ?_;refine st (bC rfl rfl rfl (by exact hf1)) rfl rfl ?_)|(refine gZ ?_;refine stN (bW rfl rfl rfl rfl (by first|exact iH (aD _) (cL _)|exact hputL _)) rfl ?_))|(refine fU ?_;first|refine frA (aJ rfl (aF (hN.app _).b3)) rfl ?_ (hcl (by omega))|refine frA (aJ rfl (aF (hN.app _).b2)) rfl ?_ hcs|refine frA (aJ rfl (aF (hN.app _).b0)) rfl ?_ hcb|refine frA (iE rfl rfl (by omega)) rfl ?_ (hclr _)|refine frA (jB rfl) rfl ?_ (hcl (by omega))|refine frA (bD rfl) rfl ?_ (hcl (by omega))|refine frA (bG rfl (hrow _)) rfl ?_ hrc|(refine eU ?_;refine frA (aJ rfl (by exact hqX _)) rfl ?_)|(refine fAdd ?_;refine frA (pI rfl rfl (by omega)) rfl ?_)|(refine Sj ?_;refine frA (lY rfl) rfl ?_)|(refine zY ?_;refine fr1 (jG rfl) rfl rfl rfl ?_))|(refine fP ⟨by kernel_rfl,?_⟩)|refine bU (id:=1) ?_|refine bU (id:=2) ?_|refine bU (id:=3) ?_|refine bU (id:=13) ?_|refine bU (id:=16) ?_|refine bU (id:=22) ?_|refine bU (id:=27) ?_|refine bU (id:=29) ?_|refine bU (id:=33) ?_|refine bU (id:=36) ?_|refine aG ?_|refine sK5 ?_|refine fA rfl ?_|refine fM rfl ?_));exact z_.h):A:=h ⟨k⟩
theorem Oh {A B:Prop} (k:B) (h:Hide B->A:=by intro z_;(repeat' (first|refine sCm ?_|(refine gU ?_;first|(refine cO ?_;first|refine st (aJ rfl (by exact aF a2)) (by exact hrd) rfl ?_|refine st (bG rfl (by first|exact aV a0 rfl|exact aV a1 rfl)) (by exact hrd) rfl ?_)|(refine dV ?_;refine st (bC rfl rfl rfl (by first|exact hf1|exact hf2)) (by exact hrd) rfl ?_)|(refine yT ?_;refine st (jG rfl) (by exact hrd) rfl ?_)|(refine gZ ?_;refine stN (bW rfl rfl rfl rfl (by exact iH (aD _) (cL _))) (by exact hrd) ?_))|(refine fU ?_;first|refine frA (aJ rfl (aF (hN.app _).b3)) rfl ?_ (hcl (by omega))|refine frA (aJ rfl (aF (hN.app _).b2)) rfl ?_ hcs|refine frA (iE rfl rfl (by omega)) rfl ?_ (hclr _)|refine frA (jB rfl) rfl ?_ (hcl (by omega))|refine frA (bD rfl) rfl ?_ (hcl (by omega))|(refine eU ?_;first|refine frA (aJ rfl (by exact hqX _)) rfl ?_|refine frA (bG rfl (by exact h20X _)) rfl ?_))|(refine fP ⟨by kernel_rfl,?_⟩)|refine aG ?_|refine eY (by kernel_rfl) (by exact hrd) ?_|refine fA rfl ?_|refine fM rfl ?_));exact z_.h):A:=h ⟨k⟩
theorem WU {U:Heap} {W:Wk} {bB bS cB cS:Nat} {wB cW:Nat->Nat} {kB cK:Nat->Nat->Nat} (hW:W.Ok) (hA:Di U W bB bS wB cW kB cK) {m:Int×Int} (hm:oL m) (hbB:bB < U.length) (hbS:bS < U.length) :
  Ev prog 168 [.agg #[.s bB W.nb cB,.s bS W.ns cS],.agg #[.i m.1,.i m.2]] U (.p U.length)
   (U++[.rw [.s bB W.nb cB,.s bS W.ns cS,.i m.1,.i m.2,.s (U.length+1) (W.ns+1) (W.ns+1),.s (U.length+2) (W.ns+1) (W.ns+1)],.rw (dH W.front 0 (W.ns+1)),.rw (dH (W.kM m) 0 (W.ns+1))]):=by
 have hnb3:=hW.nb
 have hns3:=hW.ns
 refine aH U.length 145 func168 (h:=?_)
 refine mY ?_
 obtain ⟨H1,an⟩:=xy (U++[aC.rw [.s bB W.nb cB,.s bS W.ns cS]]++[aC.rw [.i m.1,.i m.2]])
 have ap:H1.length=U.length+2:=by rw [an];simp
 have hp:H1.take U.length=U:=by rw [an];simp
 have a0:H1[U.length]?=some (.rw [.s bB W.nb cB,.s bS W.ns cS]):=by rw [an];simp
 have a1:H1[U.length+1]?=some (.rw [.i m.1,.i m.2]):=by rw [an];simp
 refine .mk (dB [(2,.p U.length),(3,.p (U.length+1)),(4,.pointer none)] H1 an.symm ⟨rfl,(by (refine congrArg (fun n=>some (Value.p n)) ?_;simp;try omega)),rfl,trivial⟩ ?_)
 clear an
 apply aG
 refine mY ?_
 obtain ⟨H2,bk⟩:=xy (H1++[aC.rw [.s bB W.nb cB,.s bS W.ns cS,.i m.1,.i m.2,.slice none 0 0,.slice none 0 0]]++[aC.rw [.p (U.length+2)]])
 refine .mk (dB [(2,.p U.length),(3,.p (U.length+1)),(4,.pointer none),(5,.p (U.length+3))] H2 (by rw [bk,<- ap];rfl) ⟨rfl,rfl,rfl,(by (refine congrArg (fun n=>some (Value.p n)) ?_;simp;try omega)),trivial⟩ ?_)
 apply aG
 refine mY ?_
 have hN:NT U (H2++[aC.rw (r8 zro)]) [.s bB W.nb cB,.s bS W.ns cS] [.i m.1,.i m.2] [.s bB W.nb cB,.s bS W.ns cS,.i m.1,.i m.2,.slice none 0 0,.slice none 0 0] zro:=by
  rw [bk]
  refine ⟨aP (aP (aP hp)),aA (aA (aA a0)),aA (aA (aA a1)),aA (aA (bP ap)),aA (bP (by simp [ap])),bP (by simp [ap])⟩
 obtain ⟨H,hH⟩:=xy (H2++[aC.rw (r8 zro)])
 rw [<- hH] at hN
 refine .mk (dB [(2,.p U.length),(3,.p (U.length+1)),(4,.pointer none),(5,.p (U.length+3)),(6,.p (U.length+4))] H (by rw [hH,FZ];rfl) ⟨rfl,rfl,rfl,rfl,(by refine congrArg (fun n=>some (Value.p n)) ?_;rw [bk];simp [ap]),trivial⟩ ?_)
 clear hH bk a0 a1 hp ap
 apply aG
 refine mY ?_
 refine dO (ι:=Nat) (fun k=>[(2,.p U.length),(3,.p (U.length+1)),(4,.pointer none),(5,.p (U.length+3)),(6,.p (U.length+4)),(27,.s bB W.nb cB),(28,.i (W.nb:Nat)),(29,.i (k:Nat))]) (fun k mk H=>k<=W.nb/\mk=[]/\NT U H [.s bB W.nb cB,.s bS W.ns cS] [.i m.1,.i m.2] [.s bB W.nb cB,.s bS W.ns cS,.i m.1,.i m.2,.slice none 0 0,.slice none 0 0] (wS W.bf k zro)) (fun k=>W.nb - k) 0 tE ⟨bL _,rfl,hN⟩ ?_
 clear hN H
 rintro k mk H ⟨hk,rfl,hN⟩
 have O:(wS W.bf k zro).length=1001:=wU lD fun j hj=>hW.b j oO
 generalize hnow:wS W.bf k zro=now at hN O
 by_cases hkn:k<W.nb
 ·have b6:(k:Int)<(W.nb:Nat):=oO
  have hd1:aK H bB (0+k*2) 2=some [.i (W.bf k).1,.i (W.bf k).2]:=by rw [aR];exact (hA.take hN.pre).bars k hkn
  have bq:=hW.b k hkn
  have hf1:=Qj (U:=H++[aC.rw [.i (W.bf k).1,.i (W.bf k).2]]) (hN.app _).b4 O bq.1 bq.2.2 (by have:=bq.2.1;omega)
  refine mY ?_
  refine ⟨k+1,⟨oO,rfl,?_⟩,oO,tE⟩
  simp only [wS]
  rw [hnow]
  exact (hN.app _).setR _
 ·obtain rfl:k=W.nb:=oO
  have b6:¬ ((W.nb:Nat):Int)<(W.nb:Nat):=oO
  have ch:now=W.front 0:=hnow.symm
  subst ch
  clear hnow
  have hcl:∀ {q o:Nat},q < U.length+5->closed H.length (.pointer (some ⟨q,o,none⟩))=true:=fun {q o} h=>(show Nat.blt q H.length=true from Nat.blt_eq.mpr (by have:=hN.len;omega))
  have hrow:∀ X,aK (H++X) (U.length+4) 0 1001=some (r8 (W.front 0)):=fun X=>aV (hN.app X).b4 (by rw [jc,O])
  have M:(r8 (W.front 0)).length=1001:=by rw [jc,O]
  have hone:=F6 (W.front 0)
  have hrc:dU H.length (r8 (W.front 0))=true:=(aY (nK _)).1
  have hro:okL (r8 (W.front 0))=true:=(aY (n:=0) (nK _)).2
  have P:aK (H++[aC.rw (r8 (W.front 0))]) (H++([]:Heap)).length 0 1001=some (r8 (W.front 0)):=by rw [bN];exact dZ M
  have bh:(H++[aC.rw (r8 (W.front 0))]).length+1=H.length+2:=oS
  have hput:∀ v x,putCells (H++[aC.rw (r8 (W.front 0))]++x) (U.length+2) (0+4) [v]=some ((H++[aC.rw (r8 (W.front 0))]++x).set (U.length+2) (.rw [.s bB W.nb cB,.s bS W.ns cS,.i m.1,.i m.2,v,.slice none 0 0])):=fun v x=>fF ((hN.app _).app _).b2 oS oS rfl
  repeat' (first|refine sCm ?_|(refine gU ?_;first|refine st (y9 oR rfl rfl (by exact P) oO (by exact hone) oO oD) rfl rfl ?_|(refine cO ?_;refine st (aJ rfl (by exact aF ((hN.app _).app _).b3)) rfl rfl ?_)|refine sK0 ?_|(refine gZ ?_;refine stN (bW rfl rfl rfl rfl (by exact hput _ _)) rfl ?_))|(refine fU ?_;first|refine frA (aJ rfl (aF (hN.app _).b3)) rfl ?_ (hcl oO)|refine frA (jB rfl) rfl ?_ (hcl oO)|refine frA (bD rfl) rfl ?_ (hcl oO)|refine frA (bG rfl (hrow _)) rfl ?_ hrc|refine frN (Df oR oR oR oR rfl M) xZ hrc hro rfl ?_|(refine eU ?_;refine frA (aJ rfl (by exact aF (hN.app _).b2)) rfl ?_))|(refine fP ⟨oK,?_⟩)|refine bU (id:=9) ?_|refine aG ?_|refine Late.Bo 0 36 (id:=8) oK rfl ?_|refine Late.split ?_ rfl rfl rfl rfl ?_|refine fM rfl ?_)
  all_goals refine .mk (dB [(2,.p U.length),(3,.p (U.length+1)),(4,.pointer none),(5,.p (U.length+3)),(6,.p (U.length+4))] ((H++[aC.rw (r8 (W.front 0))]++[aC.dead,aC.gr (r8 (W.front 0)) 258]).set (U.length+2) (.rw [.s bB W.nb cB,.s bS W.ns cS,.i m.1,.i m.2,eP (H.length+2) 1001 1,.slice none 0 0])) (by rw [<- bh];rfl) tE ?tail)
  have b5:NT U ((H++[aC.rw (r8 (W.front 0))]++[aC.dead,aC.gr (r8 (W.front 0)) 258]).set (U.length+2) (.rw [.s bB W.nb cB,.s bS W.ns cS,.i m.1,.i m.2,eP (H.length+2) 1001 1,.slice none 0 0])) [.s bB W.nb cB,.s bS W.ns cS] [.i m.1,.i m.2] [.s bB W.nb cB,.s bS W.ns cS,.i m.1,.i m.2,eP (H.length+2) 1001 1,.slice none 0 0] (W.front 0):=((hN.app _).app _).setT _
  have bg:((H++[aC.rw (r8 (W.front 0))]++[aC.dead,aC.gr (r8 (W.front 0)) 258]).set (U.length+2) (.rw [.s bB W.nb cB,.s bS W.ns cS,.i m.1,.i m.2,eP (H.length+2) 1001 1,.slice none 0 0]))[H.length+2]?=some (.gr (dH W.front 0 1) 258):=by
   have:=hN.len
   refine aB ?_ oO
   rw [bE oS]
   simp [dH]
  have c8:U.length+5<=H.length+2:=by have:=hN.len;omega
  generalize ((H++[aC.rw (r8 (W.front 0))]++[aC.dead,aC.gr (r8 (W.front 0)) 258]).set (U.length+2) (.rw [.s bB W.nb cB,.s bS W.ns cS,.i m.1,.i m.2,eP (H.length+2) 1001 1,.slice none 0 0]))=H9 at b5 bg
  generalize H.length+2=j9 at b5 bg c8
  clear hput P hrc hro hone M hrow hcl O hN b6 hkn hk bh H
  have hN:=b5
  apply aG
  refine mY ?_
  clear hN
  refine dO (ι:=Nat) (fun k=>[(2,.p U.length),(3,.p (U.length+1)),(4,.pointer none),(5,.p (U.length+3)),(6,.p (U.length+4)),(47,.s bS W.ns cS),(48,.i (W.ns:Nat)),(49,.i (k:Nat))]) (fun k mk H=>k<=W.ns/\Mks (U.length+5) mk H/\∃ j,U.length+5<=j/\NT U H [.s bB W.nb cB,.s bS W.ns cS] [.i m.1,.i m.2] [.s bB W.nb cB,.s bS W.ns cS,.i m.1,.i m.2,eP j 1001 (k+1),.slice none 0 0] (W.front k)/\H[j]?=some (.gr (dH W.front 0 (k+1)) 258)) (fun k=>W.ns - k) 0 tE ⟨bL _,.nil,j9,c8,b5,bg⟩ ?_
  clear bg b5 c8 H9 j9
  rintro k mk H ⟨hk,hM,j,hj,hN,hg⟩
  by_cases hkn:k<W.ns
  ·have b6:(k:Int)<(W.ns:Nat):=oO
   have O:=kY hW k oO
   have hd1:aK H bS k 1=some [.s (wB k) (W.nw k) (cW k)]:=(hA.take hN.pre).steps k hkn
   refine mY ?_
   have bp:(H++[aC.rw [.s (wB k) (W.nw k) (cW k)]]++[aC.rw (r8 zro)])[H.length]?=some (.rw [.s (wB k) (W.nw k) (cW k)]):=aA aN
   have K:(H++[aC.rw [.s (wB k) (W.nw k) (cW k)]]++[aC.rw (r8 zro)])[H.length+1]?=some (.rw (r8 zro)):=bP oS
   have R:=(hN.app [aC.rw [.s (wB k) (W.nw k) (cW k)]]).app [aC.rw (r8 zro)]
   have aa:=(hM.app [aC.rw [.s (wB k) (W.nw k) (cW k)]]).app [aC.rw (r8 zro)]
   have ak:(H++[aC.rw [.s (wB k) (W.nw k) (cW k)]]++[aC.rw (r8 zro)])[j]?=_:=aA (aA hg)
   have bb:=aS hg
   have bc:=hN.len
   refine .mk (dB [(2,.p U.length),(3,.p (U.length+1)),(4,.pointer none),(5,.p (U.length+3)),(6,.p (U.length+4)),(10,.p H.length),(11,.p (H.length+1)),(47,.s bS W.ns cS),(48,.i (W.ns:Nat)),(49,.i (k:Nat))] (H++[aC.rw [.s (wB k) (W.nw k) (cW k)]]++[aC.rw (r8 zro)]) (by rw [FZ];rfl) ⟨rfl,rfl,rfl,rfl,rfl,rfl,(by (refine congrArg (fun n=>some (Value.p n)) ?_;simp;try omega)),rfl,rfl,rfl,trivial⟩ ?_)
   generalize (H++[aC.rw [.s (wB k) (W.nw k) (cW k)]]++[aC.rw (r8 zro)])=Ha at bp K R aa ak
   generalize H.length=p at bp K bb bc
   clear hd1 hg hN hM H
   have a0:=bp
   apply aG
   refine mY ?_
   clear a0 bp
   refine dO (ι:=Nat) (fun i=>[(2,.p U.length),(3,.p (U.length+1)),(4,.pointer none),(5,.p (U.length+3)),(6,.p (U.length+4)),(11,.p (p+1)),(47,.s bS W.ns cS),(48,.i (W.ns:Nat)),(49,.i (k:Nat)),(54,.s (wB k) (W.nw k) (cW k)),(55,.i (W.nw k:Nat)),(56,.i (i:Nat))])
    (fun i mk H=>i<=W.nw k/\Mks (U.length+5) mk H/\NT U H [.s bB W.nb cB,.s bS W.ns cS] [.i m.1,.i m.2] [.s bB W.nb cB,.s bS W.ns cS,.i m.1,.i m.2,eP j 1001 (k+1),.slice none 0 0] (W.front k)/\H[j]?=some (.gr (dH W.front 0 (k+1)) 258)/\H[p+1]?=some (.rw (r8 (wyF (W.front k) (W.own k) (W.aft k) (W.nk k) i zro)))) (fun i=>W.nw k - i) 0 tE ⟨bL _,aa,R,ak,K⟩ ?_
   clear K ak aa R Ha
   rintro i mk H ⟨hi,hM,hN,hg,K⟩
   have c2:=hW.nw k hkn
   by_cases Y:i<W.nw k
   ·have cf:(i:Int)<(W.nw k:Nat):=oO
    have hd1:aK H (wB k) i 1=some [.s (kB k i) (W.nk k i) (cK k i)]:=(hA.take hN.pre).ways k hkn i Y
    refine mY ?_
    have hf1:=KE (U:=H++[aC.rw [.s (kB k i) (W.nk k i) (cK k i)]]) (v:=.s (kB k i) (W.nk k i) (cK k i))
    refine .mk ?_
    apply aG
    refine mY ?_
    have b8:(H++[aC.rw [.s (kB k i) (W.nk k i) (cK k i)]]).length=H.length+1:=oS
    have N:=(hN.app [aC.rw [.s (kB k i) (W.nk k i) (cK k i)]]).app [aC.rw [.s (kB k i) (W.nk k i) (cK k i)]]
    have a7:=(hM.app [aC.rw [.s (kB k i) (W.nk k i) (cK k i)]]).app [aC.rw [.s (kB k i) (W.nk k i) (cK k i)]]
    have a6:(H++[aC.rw [.s (kB k i) (W.nk k i) (cK k i)]]++[aC.rw [.s (kB k i) (W.nk k i) (cK k i)]])[j]?=_:=aA (aA hg)
    have ac:(H++[aC.rw [.s (kB k i) (W.nk k i) (cK k i)]]++[aC.rw [.s (kB k i) (W.nk k i) (cK k i)]])[p+1]?=_:=aA (aA K)
    have a5:(H++[aC.rw [.s (kB k i) (W.nk k i) (cK k i)]]++[aC.rw [.s (kB k i) (W.nk k i) (cK k i)]])[H.length+1]?=some (.rw [.s (kB k i) (W.nk k i) (cK k i)]):=bP oS
    have hp11:p+1<H.length:=aS K
    have hjl2:=aS hg
    refine dB [(2,.p U.length),(3,.p (U.length+1)),(4,.pointer none),(5,.p (U.length+3)),(6,.p (U.length+4)),(11,.p (p+1)),(47,.s bS W.ns cS),(48,.i (W.ns:Nat)),(49,.i (k:Nat)),(54,.s (wB k) (W.nw k) (cW k)),(55,.i (W.nw k:Nat)),(56,.i (i:Nat)),(61,.func (.func 258) #[] #[.p (H.length+1)])] (H++[aC.rw [.s (kB k i) (W.nk k i) (cK k i)]]++[aC.rw [.s (kB k i) (W.nk k i) (cK k i)]]) rfl ⟨rfl,rfl,rfl,rfl,rfl,rfl,rfl,rfl,rfl,rfl,rfl,rfl,by rw [<- b8];rfl,trivial⟩ ?_
    generalize (H++[aC.rw [.s (kB k i) (W.nk k i) (cK k i)]]++[aC.rw [.s (kB k i) (W.nk k i) (cK k i)]])=Hc at N a7 a6 ac a5
    generalize H.length+1=b at a5
    clear b8 hf1 hd1 hM hN hg K
    refine jU (p:=[]) (q:=[.p b]) rfl fun L hL=>?_
    obtain ⟨A,d⟩:=xy (Hc++[aC.dfr,L])
    have dd:A.length=Hc.length+2:=by rw [d];simp
    have ad:NT U A [.s bB W.nb cB,.s bS W.ns cS] [.i m.1,.i m.2] [.s bB W.nb cB,.s bS W.ns cS,.i m.1,.i m.2,eP j 1001 (k+1),.slice none 0 0] (W.front k):=by rw [d];exact N.app _
    have bz:Mks (U.length+5) mk A:=by rw [d];exact a7.app _
    have c5:A[j]?=some (.gr (dH W.front 0 (k+1)) 258):=by rw [d];exact aA a6
    have e:A[p+1]?=some (.rw (r8 (wyF (W.front k) (W.own k) (W.aft k) (W.nk k) i zro))):=by rw [d];exact aA ac
    have ar:A[b]?=some (.rw [.s (kB k i) (W.nk k i) (cK k i)]):=by rw [d];exact aA a5
    have c1:A[Hc.length]?=some .dfr:=by rw [d,bE (aD _)];simp
    have G:A[Hc.length+1]?=some L:=by rw [d,bE oO];simp
    have d1:∀ r:List Value,aC.rw r ≠ L:=fun r h=>by rw [hL] at h;cases h
    rw [<- d]
    generalize u:wyF (W.front k) (W.own k) (W.aft k) (W.nk k) i zro=row0 at e
    have J:row0.length=1001:=by rw [<- u];exact BF lD fun x hx q hq=>Dh hW oO oO hq
    have a4:p+1 ≠ b:=fun h=>by rw [h,ar] at e;have:=aC.rw.inj (Option.some.inj e);have h2:=congrArg List.length this;rw [jc,J] at h2;simp at h2
    have a:p+1 ≠ Hc.length+1:=fun h=>by rw [h,G] at e;exact d1 _ (Option.some.inj e).symm
    have ax:=hW.k k hkn i Y
    refine Dc (S:=fun q=>A.set (p+1) (.rw (r8 (spF (W.front k) (W.own k i) (W.aft k i) q row0)))) (n:=W.nk k i) (c:=cK k i) (kf:=W.kf k i) (ik:=kB k i) (l:=Hc.length+1) (ib:=b) (set_self e) (fun q=>by simp) (fun q=>aV (aB ar a4) rfl) (fun q x hx=>?_) (fun q hq=>⟨(ax q hq).1,(ax q hq).2.1⟩) (by have:=hW.nk k hkn i Y;omega) (fun q=>(aB G a).trans (congrArg some hL)) (fun h q=>iW (WQ _ _) h) ⟨rfl,rfl⟩ ?_ ?_
    ·exact dJ (take_set ad.pre oO) (hA.kinks k hkn i Y x hx)
    ·intro q hq X QB aw
     obtain ⟨row,hrow⟩:=xy (spF (W.front k) (W.own k i) (W.aft k i) q row0)
     have M:row.length=1001:=by rw [hrow];exact BD J fun x hx=>Dh hW oO Y oO
     have cn:spF (W.front k) (W.own k i) (W.aft k i) (q+1) row0=if kS (W.own k i q).1 (W.own k i q).2 (W.front k) then vW (W.aft k i q).1 (W.aft k i q).2 row else row:=by rw [hrow];rfl
     have ag:=Aq hW hkn Y hq
     have ae:=Dh hW hkn Y hq
     obtain ⟨HX,D⟩:=xy (A.set (p+1) (.rw (r8 row))++X)
     have c0:NT U HX [.s bB W.nb cB,.s bS W.ns cS] [.i m.1,.i m.2] [.s bB W.nb cB,.s bS W.ns cS,.i m.1,.i m.2,eP j 1001 (k+1),.slice none 0 0] (W.front k):=by rw [D];exact (ad.setX oO _).app X
     have bv:HX[p+1]?=some (.rw (r8 row)):=by rw [D];exact aA (aQ e)
     have b7:HX[Hc.length+1]?=some L:=by rw [D];exact aA (aB G a)
     have hrd:lJ (some (Hc.length+1)) (A.length+X.length)=true:=(show Nat.blt _ _=true from Nat.blt_eq.mpr oO)
     have hle:A.length+X.length=HX.length:=by rw [D];simp
     rw [<- hrow,<- D]
     refine Oh ?_
     refine vX (aA (aA b7)) hL fun B hB=>?_
     obtain ⟨HB,w⟩:=xy ((HX++[aC.rw [.i (W.kf k i q).1,.i (yx (W.kf k i) (W.nk k i) q)]]++[aC.rw [.i (W.kf k i q).2.1,.i (W.kf k i q).2.2]]).set (Hc.length+1) B)
     have d4:=aS b7
     have dc:NT U HB [.s bB W.nb cB,.s bS W.ns cS] [.i m.1,.i m.2] [.s bB W.nb cB,.s bS W.ns cS,.i m.1,.i m.2,eP j 1001 (k+1),.slice none 0 0] (W.front k):=by rw [w];exact ((c0.app _).app _).setX (by have:=N.len;omega) _
     have bs:HB[p+1]?=some (.rw (r8 row)):=by rw [w];exact aB (aA (aA bv)) oO
     have a0:HB[HX.length]?=some (.rw [.i (W.kf k i q).1,.i (yx (W.kf k i) (W.nk k i) q)]):=by rw [w];exact aB (aA aN) oO
     have a1:HB[HX.length+1]?=some (.rw [.i (W.kf k i q).2.1,.i (W.kf k i q).2.2]):=by rw [w];exact aB (bP oS) oO
     have hf1:=TY (U:=HB) (i:=U.length+4) (.inr (.inl dc.b4)) (by rw [kY hW k oO]) ag.1 ag.2.2 (by have:=ag.2.1;omega)
     refine dB [(6,.p (U.length+4)),(11,.p (p+1)),(14,.p HX.length),(15,.p (HX.length+1))] HB (by rw [w];rfl) ⟨rfl,rfl,rfl,(by (refine congrArg (fun n=>some (Value.p n)) ?_;simp;try omega)),trivial⟩ ?_
     by_cases a8:kS (W.own k i q).1 (W.own k i q).2 (W.front k)=true
     ·have hf2:=Qj (U:=HB) (i:=p+1) bs M ae.1 ae.2.2 (by have:=ae.2.1;omega)
      refine Oh ?_
      have aj:HB.set (p+1) (.rw (r8 (vW (W.aft k i q).1 (W.aft k i q).2 row)))=(A.set (p+1) (.rw (r8 (spF (W.front k) (W.own k i) (W.aft k i) (q+1) row0)))).set (Hc.length+1) B++X++[aC.rw [.i (W.kf k i q).1,.i (yx (W.kf k i) (W.nk k i) q)],aC.rw [.i (W.kf k i q).2.1,.i (W.kf k i q).2.2]]:=by
       rw [cn,if_pos a8,w,D];exact FX (aS e) (aS G) a
      rw [aj,hB];exact aw _ _ _
     ·have db:kS (W.own k i q).1 (W.own k i q).2 (W.front k)=false:=by simpa using a8
      refine Oh ?_
      have aj:HB=(A.set (p+1) (.rw (r8 (spF (W.front k) (W.own k i) (W.aft k i) (q+1) row0)))).set (Hc.length+1) B++X++[aC.rw [.i (W.kf k i q).1,.i (yx (W.kf k i) (W.nk k i) q)],aC.rw [.i (W.kf k i q).2.1,.i (W.kf k i q).2.2]]:=by
       rw [cn,if_neg a8,w,D];exact KD (aS G)
      rw [aj,hB];exact aw _ _ _
    ·refine ⟨.ready,none,_,_,_,_,_,(aB G a).trans (congrArg some hL),by simp,?_⟩
     have cz:=N.len
     have df:=aS a6
     have d9:=aS ac
     show (dK 6 _) _ _ _ _
     refine mY ?_
     refine ⟨i+1,⟨oO,?_,(ad.setX oO _).setX oO _,aB (aB c5 oO) oO,?_⟩,oO,tE⟩
     ·refine Mks.cons ((bz.set e oS).set (aB G a) (by rw [hL];simp)) (a7.new (aD _)) oO (aB (aB c1 oO) oO)
     ·refine aB ?_ oO
      rw [aQ e,<- u];rfl
   ·obtain rfl:i=W.nw k:=oO
    have cf:¬ ((W.nw k:Nat):Int)<(W.nw k:Nat):=oO
    refine mY ?_
    have d8:wyF (W.front k) (W.own k) (W.aft k) (W.nk k) (W.nw k) zro=W.front (k+1):=rfl
    rw [d8] at K
    have ay:=kY hW (k+1) oO
    have C:(r8 (W.front (k+1))).length=1001:=by rw [jc,ay]
    have hone:=F6 (W.front (k+1))
    have hd1:aK H (p+1) 0 1001=some (r8 (W.front (k+1))):=aV K C
    have T:putCells H (U.length+4) 0 (r8 (W.front (k+1)))=some (H.set (U.length+4) (.rw (r8 (W.front (k+1))))):=fF hN.b4 (by rw [C,jc,O];omega) (by rw [jc,O];omega) (by simp [splice,jc,O,ay])
    refine .mk ?_
    apply aG
    refine mY ?_
    refine stN (bW (size:=1001) rfl rfl (by exact C) (by exact hone) (by exact T)) rfl ?_
    refine kU ?_
    refine rG ?_
    have cq:=hN.setR (W.front (k+1))
    have cg:=aB (x:=.rw (r8 (W.front (k+1)))) hg (show U.length+4 ≠ j by omega)
    have cl:=hM.set (x:=.rw (r8 (W.front (k+1)))) hN.b4 oS
    refine dB [(2,.p U.length),(3,.p (U.length+1)),(4,.pointer none),(5,.p (U.length+3)),(6,.p (U.length+4)),(47,.s bS W.ns cS),(48,.i (W.ns:Nat)),(49,.i (k:Nat))] (H.set (U.length+4) (.rw (r8 (W.front (k+1))))) rfl tE ?_
    generalize (H.set (U.length+4) (.rw (r8 (W.front (k+1)))))=H3 at cq cg cl
    clear T hd1 K hg hN hM cf Y hi H
    have hN:=cq
    have bc:=hN.len
    have bb:=aS cg
    have hcl:∀ {q o:Nat},q < U.length+5->closed H3.length (.pointer (some ⟨q,o,none⟩))=true:=fun {q o} h=>(show Nat.blt q H3.length=true from Nat.blt_eq.mpr oO)
    have hcs:closed H3.length (eP j 1001 (k+1))=true:=mQ (Nat.blt_eq.mpr bb)
    have hrow:∀ X,aK (H3++X) (U.length+4) 0 1001=some (r8 (W.front (k+1))):=fun X=>aV (hN.app X).b4 C
    have M:=C
    have hrc:dU H3.length (r8 (W.front (k+1)))=true:=(aY (nK _)).1
    have hro:okL (r8 (W.front (k+1)))=true:=(aY (n:=0) (nK _)).2
    have P:aK (H3++[aC.rw (r8 (W.front (k+1)))]) (H3++([]:Heap)).length 0 1001=some (r8 (W.front (k+1))):=by rw [bN];exact dZ M
    have hgX:(H3++[aC.rw (r8 (W.front (k+1)))])[j]?=some (.gr (dH W.front 0 (k+1)) 258):=aA cg
    have hgl:(dH W.front 0 (k+1)).length=(k+1)*1001:=qK fun x _ hx=>kY hW x oO
    have bh:(H3++[aC.rw (r8 (W.front (k+1)))]).length=H3.length+1:=oS
    have hput:∀ v x,putCells ((H3++[aC.rw (r8 (W.front (k+1)))]).set j .dead++x) (U.length+2) (0+4) [v]=some (((H3++[aC.rw (r8 (W.front (k+1)))]).set j .dead++x).set (U.length+2) (.rw [.s bB W.nb cB,.s bS W.ns cS,.i m.1,.i m.2,v,.slice none 0 0])):=fun v x=>fF (((hN.app _).setX hj _).app _).b2 oS oS rfl
    repeat' (first|refine sCm ?_|(refine gU ?_;first|refine st (jO oR oR rfl (by exact hgX) (by exact hgl) rfl (by exact P) oO (by exact hone) oO oD) rfl rfl ?_|(refine cO ?_;refine st (aJ rfl (by exact aF (((hN.app _).setX hj _).app _).b3)) rfl rfl ?_)|(refine gZ ?_;refine stN (bW rfl rfl rfl rfl (by exact hput _ _)) rfl ?_))|(refine fU ?_;first|refine frA (aJ rfl (aF (hN.app _).b3)) rfl ?_ (hcl oO)|refine frA (aJ rfl (aF (hN.app _).b2)) rfl ?_ hcs|refine frA (jB rfl) rfl ?_ (hcl oO)|refine frA (bD rfl) rfl ?_ (hcl oO)|refine frA (bG rfl (hrow _)) rfl ?_ hrc|refine frN (Df oR oR oR oR rfl M) xZ hrc hro rfl ?_)|(refine fP ⟨oK,?_⟩)|refine bU (id:=24) ?_|refine Late.Bo 0 70 (id:=23) oK rfl ?_|refine Late.split ?_ rfl rfl rfl rfl ?_)
    all_goals refine .mk (dB [(2,.p U.length),(3,.p (U.length+1)),(4,.pointer none),(5,.p (U.length+3)),(6,.p (U.length+4)),(47,.s bS W.ns cS),(48,.i (W.ns:Nat)),(49,.i (k:Nat))] (((H3++[aC.rw (r8 (W.front (k+1)))]).set j .dead++[aC.gr (dH W.front 0 (k+1)++r8 (W.front (k+1))) 258]).set (U.length+2) (.rw [.s bB W.nb cB,.s bS W.ns cS,.i m.1,.i m.2,eP (H3.length+1) 1001 (k+1+1),.slice none 0 0])) (by rw [<- bh];rfl) tE ?tail2)
    apply aG
    refine mY ?_
    refine ⟨k+1,⟨oO,?_,H3.length+1,oO,(((hN.app _).setX hj _).app _).setT _,?_⟩,oO,tE⟩
    ·exact (((cl.app _).set hgX oS).app _).set (((hN.app _).setX hj _).app _).b2 oS
    ·refine aB ?_ oO
     rw [WR (k+1)]
     refine bP ?_
     simp
  ·obtain rfl:k=W.ns:=oO
   have b6:¬ ((W.ns:Nat):Int)<(W.ns:Nat):=oO
   have bc:=hN.len
   have bb:=aS hg
   have hcl:∀ {q o:Nat},q < U.length+5->closed H.length (.pointer (some ⟨q,o,none⟩))=true:=fun {q o} h=>(show Nat.blt q H.length=true from Nat.blt_eq.mpr oO)
   have hcb:closed H.length (.s bS W.ns cS)=true:=cZ (Nat.blt_eq.mpr oO)
   have ZZ:∀ v x y,putCells (H++x++y) (U.length+2) (0+5) [v]=some ((H++x++y).set (U.length+2) (.rw [.s bB W.nb cB,.s bS W.ns cS,.i m.1,.i m.2,eP j 1001 (W.ns+1),v])):=fun v x y=>fF ((hN.app _).app _).b2 oS oS rfl
   have cd:(W.ns:Int)+1=((W.ns+1:Nat):Int):=oO
   repeat' (first|refine sCm ?_|(refine gU ?_;first|(refine cO ?_;refine st (aJ rfl (by exact aF ((hN.app _).app _).b3)) rfl rfl ?_)|refine sK0 ?_|(refine abO ?_;refine st (qY oR oR rfl rfl oO oO oO) rfl rfl ?_)|(refine gZ ?_;refine stN (bW rfl rfl rfl rfl (by exact ZZ _ _ _)) rfl ?_))|(refine fU ?_;first|refine frA (aJ rfl (aF (hN.app _).b3)) rfl ?_ (hcl oO)|refine frA (aJ rfl (aF (hN.app _).b0)) rfl ?_ hcb|refine frA (bD rfl) rfl ?_ (hcl oO)|(refine fAdd ?_;refine frA (pI rfl rfl oO) rfl ?_)|(refine Sj ?_;refine frA (lY rfl) rfl ?_))|(refine fP ⟨oK,?_⟩)|refine bU (id:=26) ?_|refine aG ?_|refine Late.Bo 0 81 (id:=25) oK rfl ?_|refine Late.split ?_ rfl rfl rfl rfl ?_|refine fM rfl ?_)
   all_goals refine .mk (dB [(2,.p U.length),(3,.p (U.length+1)),(4,.pointer none),(5,.p (U.length+3)),(6,.p (U.length+4)),(47,.s bS W.ns cS),(48,.i (W.ns:Nat))] ((H++[aC.rw (dH (fun _=>zro) 0 (W.ns+1))]).set (U.length+2) (.rw [.s bB W.nb cB,.s bS W.ns cS,.i m.1,.i m.2,eP j 1001 (W.ns+1),.s H.length (W.ns+1) (W.ns+1)])) (by rw [<- afS,show H++gV (fun _=>true) []=H from bN H];rfl) tE ?tail3)
   have al:=(hN.app [aC.rw (dH (fun _=>zro) 0 (W.ns+1))]).setT [.s bB W.nb cB,.s bS W.ns cS,.i m.1,.i m.2,eP j 1001 (W.ns+1),.s H.length (W.ns+1) (W.ns+1)]
   have bw:((H++[aC.rw (dH (fun _=>zro) 0 (W.ns+1))]).set (U.length+2) (.rw [.s bB W.nb cB,.s bS W.ns cS,.i m.1,.i m.2,eP j 1001 (W.ns+1),.s H.length (W.ns+1) (W.ns+1)]))[j]?=_:=aB (aA hg) oO
   have bo:((H++[aC.rw (dH (fun _=>zro) 0 (W.ns+1))]).set (U.length+2) (.rw [.s bB W.nb cB,.s bS W.ns cS,.i m.1,.i m.2,eP j 1001 (W.ns+1),.s H.length (W.ns+1) (W.ns+1)]))[H.length]?=some (.rw (dH (fun _=>zro) 0 (W.ns+1))):=aB aN oO
   have br:Mks (U.length+5) mk ((H++[aC.rw (dH (fun _=>zro) 0 (W.ns+1))]).set (U.length+2) (.rw [.s bB W.nb cB,.s bS W.ns cS,.i m.1,.i m.2,eP j 1001 (W.ns+1),.s H.length (W.ns+1) (W.ns+1)])):=(hM.app _).set (hN.app _).b2 oS
   generalize ((H++[aC.rw (dH (fun _=>zro) 0 (W.ns+1))]).set (U.length+2) (.rw [.s bB W.nb cB,.s bS W.ns cS,.i m.1,.i m.2,eP j 1001 (W.ns+1),.s H.length (W.ns+1) (W.ns+1)]))=H5 at al bw bo br
   generalize H.length=r at al bo bc bb
   clear ZZ hcb hcl hN hg hM b6 hkn hk cd H
   have cb:=kY hW W.ns (aD _)
   have Uq:putCells H5 (U.length+4) 0 (fZ (dM (.int .i8 0)) 1001)=some (H5.set (U.length+4) (.rw (r8 zro))):=by
    rw [WT _ rfl,<- FZ]
    exact fF al.b4 (by rw [jc,jc,cb,lD];omega) (by rw [jc,cb];omega) (by simp [splice,jc,cb,lD])
   apply aG
   refine mY ?_
   refine stN (DX oR oR rfl oO (by rw [WT _ rfl];exact afR _ _ rfl) (by exact Uq)) rfl ?_
   refine kU ?_
   refine rG ?_
   have a9:=al.setR zro
   have bx:=aB (x:=.rw (r8 zro)) bw (show U.length+4 ≠ j by omega)
   have c7:=aB (x:=.rw (r8 zro)) bo (show U.length+4 ≠ r by omega)
   have c3:=br.set (x:=.rw (r8 zro)) al.b4 oS
   refine dB [(2,.p U.length),(3,.p (U.length+1)),(4,.pointer none),(5,.p (U.length+3)),(6,.p (U.length+4)),(47,.s bS W.ns cS),(48,.i (W.ns:Nat))] (H5.set (U.length+4) (.rw (r8 zro))) rfl tE ?_
   generalize (H5.set (U.length+4) (.rw (r8 zro)))=H6 at a9 bx c7 c3
   clear Uq al bw bo br H5
   have hd1:aK H6 (U.length+1) (0+0) 2=some [.i m.1,.i m.2]:=aV a9.b1 rfl
   have a1:=a9.b1
   have hf1:=Qj (U:=H6) a9.b4 lD hm.1 hm.2.2 (by have:=hm.2.1;omega)
   obtain ⟨H7,ao⟩:=xy (H6.set (U.length+4) (.rw (r8 (vW m.1 m.2 zro))))
   obtain ⟨E,ah⟩:=xy (vW m.1 m.2 zro)
   have hN:NT U H7 [.s bB W.nb cB,.s bS W.ns cS] [.i m.1,.i m.2] [.s bB W.nb cB,.s bS W.ns cS,.i m.1,.i m.2,eP j 1001 (W.ns+1),.s r (W.ns+1) (W.ns+1)] E:=by rw [ao,<- ah];exact a9.setR _
   have cw:H7[j]?=some (.gr (dH W.front 0 (W.ns+1)) 258):=by rw [ao];exact aB bx (show U.length+4 ≠ j by omega)
   have az:H7[r]?=some (.rw (dH (fun _=>zro) 0 (W.ns+1))):=by rw [ao];exact aB c7 (show U.length+4 ≠ r by omega)
   have cp:Mks (U.length+5) mk H7:=by rw [ao];exact c3.set a9.b4 oS
   rw [<- ao] at hf1
   have af:E.length=1001:=by rw [ah];exact Oe hW hm 0 (bL _)
   have ba:=aS az
   have hcl:∀ {q o:Nat},q < U.length+5->closed H7.length (.pointer (some ⟨q,o,none⟩))=true:=fun {q o} h=>(show Nat.blt q H7.length=true from Nat.blt_eq.mpr oO)
   have hcs:closed H7.length (.s r (W.ns+1) (W.ns+1))=true:=cZ (Nat.blt_eq.mpr ba)
   have hcb:closed H7.length (.s bS W.ns cS)=true:=cZ (Nat.blt_eq.mpr oO)
   have hrow:∀ X,aK (H7++X) (U.length+4) 0 1001=some (r8 E):=fun X=>aV (hN.app X).b4 (by rw [jc,af])
   have hrc:dU H7.length (r8 E)=true:=(aY (nK _)).1
   have C:(r8 E).length=1001:=by rw [jc,af]
   have hone:=F6 E
   have Vv:putCells (H7++([]:Heap)) r (0+W.ns*1001) (r8 E)=some ((H7++([]:Heap)).set r (.rw (dH (W.qc m 0) 0 (W.ns+1)))):=aax (aA az) (fun _ _=>lD) (Nat.lt_succ_self _) af fun x hx=>by
    unfold Wk.qc
    split
    ·rename_i h;rw [if_pos oO,ah,show x=W.ns by omega];unfold Wk.kM;rw [cM];rfl
    ·rename_i h;rw [if_neg oO]
   refine mY ?_
   refine .mk ?_
   apply aG
   refine mY ?_
   refine stN (bW (size:=1001) rfl rfl (by exact C) (by exact hone) (by exact Vv)) rfl ?_
   refine kU ?_
   refine rG ?_
   rw [bN]
   have bl:=hN.setX (i:=r) oO (.rw (dH (W.qc m 0) 0 (W.ns+1)))
   have c6:=aB (x:=.rw (dH (W.qc m 0) 0 (W.ns+1))) cw (show r ≠ j by omega)
   have be:=aQ (x:=.rw (dH (W.qc m 0) 0 (W.ns+1))) az
   have cc:=cp.set (x:=.rw (dH (W.qc m 0) 0 (W.ns+1))) az oS
   refine dB [(2,.p U.length),(3,.p (U.length+1)),(4,.pointer none),(5,.p (U.length+3)),(6,.p (U.length+4))] (H7.set r (.rw (dH (W.qc m 0) 0 (W.ns+1)))) rfl tE ?_
   generalize (H7.set r (.rw (dH (W.qc m 0) 0 (W.ns+1))))=H8 at bl c6 be cc
   clear Vv hone C hrc hrow hcb hcs hcl ba hf1 ao hN cw az cp a9 bx c7 c3 a1 hd1 H6 H7
   have hN:=bl
   have aq:((W.ns:Nat):Int) - 1=((W.ns - 0:Nat):Int) - 1:=oO
   refine mY ?_
   refine .mk ?_
   apply aG
   refine mY ?_
   have co:(H8++[aC.rw [.i (((W.ns - 0:Nat):Int) - 1)]])[H8.length]?=some (.rw [.i (((W.ns - 0:Nat):Int) - 1)]):=aN
   have au:=aS be
   refine dB [(2,.p U.length),(3,.p (U.length+1)),(4,.pointer none),(5,.p (U.length+3)),(6,.p (U.length+4)),(16,.p H8.length)] (H8++[aC.rw [.i (((W.ns - 0:Nat):Int) - 1)]]) (by rw [<- aq];rfl) tE ?_
   refine dO (ι:=Nat×Nat) (fun k=>[(2,.p U.length),(3,.p (U.length+1)),(4,.pointer none),(5,.p (U.length+3)),(6,.p (U.length+4)),(16,.p k.2)])
    (fun k mk H=>k.1<=W.ns/\Mks (U.length+5) mk H/\NT U H [.s bB W.nb cB,.s bS W.ns cS] [.i m.1,.i m.2] [.s bB W.nb cB,.s bS W.ns cS,.i m.1,.i m.2,eP j 1001 (W.ns+1),.s r (W.ns+1) (W.ns+1)] E/\H[j]?=some (.gr (dH W.front 0 (W.ns+1)) 258)/\H[r]?=some (.rw (dH (W.qc m k.1) 0 (W.ns+1)))/\H[k.2]?=some (.rw [.i (((W.ns - k.1:Nat):Int) - 1)])/\r<k.2) (fun k=>W.ns - k.1) (0,H8.length) tE ⟨bL _,cc.app _,bl.app _,aA c6,aA be,co,au⟩ ?_
   clear co au hN bl c6 be cc aq H8 mk
   rintro ⟨k,q⟩ mk H ⟨hk,hM,hN,hg,hr,hq,d3⟩
   dsimp only at hk hr hq d3
   dsimp only
   have a2:=hq
   by_cases hkn:k<W.ns
   ·obtain ⟨i,hi⟩:∃ i:Nat,i=W.ns - k - 1:=⟨_,rfl⟩
    have d0:((W.ns - k:Nat):Int) - 1=(i:Nat):=oO
    rw [d0] at hq a2
    have cf:(i:Int)>=0:=oO
    have am:=aS hr
    have cv:=aS hq
    have hcl:∀ {q o:Nat},q < U.length+5->closed H.length (.pointer (some ⟨q,o,none⟩))=true:=fun {q o} h=>(show Nat.blt q H.length=true from Nat.blt_eq.mpr oO)
    have hcs:closed H.length (.s r (W.ns+1) (W.ns+1))=true:=cZ (Nat.blt_eq.mpr am)
    have hclr:∀ o:Nat,closed H.length (.pointer (some ⟨r,o,none⟩))=true:=fun o=>(show Nat.blt r H.length=true from Nat.blt_eq.mpr am)
    have hqX:∀ X,aI (H++X) q (0+0)=some (.i (i:Nat)):=fun X=>aF (aA hq)
    have hputL:∀ v,putCells (H++[aC.rw [.pointer none]]) (H++([]:Heap)).length 0 [v]=some (H++[aC.rw [v]]):=fun v=>by rw [bN];exact iH (aD _) (cL _)
    have I:i<W.ns:=oO
    refine mY ?_
    have R:=hN.app [aC.rw [.pointer (some ⟨r,0+(i+1)*1001,none⟩)]]
    have aa:=hM.app [aC.rw [.pointer (some ⟨r,0+(i+1)*1001,none⟩)]]
    have ak:(H++[aC.rw [.pointer (some ⟨r,0+(i+1)*1001,none⟩)]])[j]?=some (.gr (dH W.front 0 (W.ns+1)) 258):=aA hg
    have c4:(H++[aC.rw [.pointer (some ⟨r,0+(i+1)*1001,none⟩)]])[r]?=some (.rw (dH (W.qc m k) 0 (W.ns+1))):=aA hr
    have bj:(H++[aC.rw [.pointer (some ⟨r,0+(i+1)*1001,none⟩)]])[q]?=some (.rw [.i (i:Nat)]):=aA hq
    have a3:(H++[aC.rw [.pointer (some ⟨r,0+(i+1)*1001,none⟩)]])[H.length]?=some (.rw [.pointer (some ⟨r,0+(i+1)*1001,none⟩)]):=aN
    refine .mk (dB [(2,.p U.length),(3,.p (U.length+1)),(4,.pointer none),(5,.p (U.length+3)),(6,.p (U.length+4)),(16,.p q),(17,.p H.length)] (H++[aC.rw [.pointer (some ⟨r,0+(i+1)*1001,none⟩)]]) rfl ⟨rfl,rfl,rfl,rfl,rfl,rfl,by rw [show H++gV (bV #[]) []=H from bN H];rfl,trivial⟩ ?_)
    generalize (H++[aC.rw [.pointer (some ⟨r,0+(i+1)*1001,none⟩)]])=Ha at R aa ak c4 bj a3
    generalize H.length=p at a3 am cv
    clear hputL hqX hclr hcs hcl a2 hq hr hg hN hM H
    have hN:=R
    have hw:=eX (k:=0) ((hA.take hN.pre).steps i I) oO
    have a2:=bj
    have d6:=aS a3
    apply aG
    refine mY ?_
    clear hw hN a2
    refine dO (ι:=Nat) (fun x=>[(2,.p U.length),(3,.p (U.length+1)),(4,.pointer none),(5,.p (U.length+3)),(6,.p (U.length+4)),(16,.p q),(17,.p p),(121,.s (wB i) (W.nw i) (cW i)),(122,.i (W.nw i:Nat)),(123,.i (x:Nat))])
     (fun x mk H=>x<=W.nw i/\Mks (U.length+5) mk H/\NT U H [.s bB W.nb cB,.s bS W.ns cS] [.i m.1,.i m.2] [.s bB W.nb cB,.s bS W.ns cS,.i m.1,.i m.2,eP j 1001 (W.ns+1),.s r (W.ns+1) (W.ns+1)] E/\H[j]?=some (.gr (dH W.front 0 (W.ns+1)) 258)/\H[r]?=some (.rw (dH (fun t=>if t=i then wyF (W.kM m (i+1)) (W.aft i) (W.own i) (W.nk i) x zro else W.qc m k t) 0 (W.ns+1)))/\H[q]?=some (.rw [.i (i:Nat)])/\H[p]?=some (.rw [.pointer (some ⟨r,0+(i+1)*1001,none⟩)])) (fun x=>W.nw i - x) 0 tE ⟨bL _,aa,R,ak,?_,bj,a3⟩ ?_
    ·rw [c4,qL]
     intro t _ _
     split
     ·rename_i h;unfold Wk.qc;rw [if_neg oO];rfl
     ·rfl
    clear a3 bj c4 ak aa R d6 Ha mk
    rintro x mk H ⟨hx,hM,hN,hg,hr,hq,a3⟩
    have c2:=hW.nw i I
    by_cases Q:x<W.nw i
    ·have d7:(x:Int)<(W.nw i:Nat):=oO
     have hd1:aK H (wB i) x 1=some [.s (kB i x) (W.nk i x) (cK i x)]:=(hA.take hN.pre).ways i I x Q
     refine mY ?_
     have hf1:=KE (U:=H++[aC.rw [.s (kB i x) (W.nk i x) (cK i x)]]) (v:=.s (kB i x) (W.nk i x) (cK i x))
     refine .mk ?_
     apply aG
     refine mY ?_
     have b8:(H++[aC.rw [.s (kB i x) (W.nk i x) (cK i x)]]).length=H.length+1:=oS
     have N:=(hN.app [aC.rw [.s (kB i x) (W.nk i x) (cK i x)]]).app [aC.rw [.s (kB i x) (W.nk i x) (cK i x)]]
     have a7:=(hM.app [aC.rw [.s (kB i x) (W.nk i x) (cK i x)]]).app [aC.rw [.s (kB i x) (W.nk i x) (cK i x)]]
     have a6:(H++[aC.rw [.s (kB i x) (W.nk i x) (cK i x)]]++[aC.rw [.s (kB i x) (W.nk i x) (cK i x)]])[j]?=_:=aA (aA hg)
     have hrc:(H++[aC.rw [.s (kB i x) (W.nk i x) (cK i x)]]++[aC.rw [.s (kB i x) (W.nk i x) (cK i x)]])[r]?=_:=aA (aA hr)
     have bn:(H++[aC.rw [.s (kB i x) (W.nk i x) (cK i x)]]++[aC.rw [.s (kB i x) (W.nk i x) (cK i x)]])[q]?=_:=aA (aA hq)
     have bd:(H++[aC.rw [.s (kB i x) (W.nk i x) (cK i x)]]++[aC.rw [.s (kB i x) (W.nk i x) (cK i x)]])[p]?=_:=aA (aA a3)
     have a5:(H++[aC.rw [.s (kB i x) (W.nk i x) (cK i x)]]++[aC.rw [.s (kB i x) (W.nk i x) (cK i x)]])[H.length+1]?=some (.rw [.s (kB i x) (W.nk i x) (cK i x)]):=bP oS
     refine dB [(2,.p U.length),(3,.p (U.length+1)),(4,.pointer none),(5,.p (U.length+3)),(6,.p (U.length+4)),(16,.p q),(17,.p p),(121,.s (wB i) (W.nw i) (cW i)),(122,.i (W.nw i:Nat)),(123,.i (x:Nat)),(128,.func (.func 258) #[] #[.p (H.length+1)])] (H++[aC.rw [.s (kB i x) (W.nk i x) (cK i x)]]++[aC.rw [.s (kB i x) (W.nk i x) (cK i x)]]) rfl ⟨rfl,rfl,rfl,rfl,rfl,rfl,rfl,rfl,rfl,rfl,by rw [<- b8];rfl,trivial⟩ ?_
     generalize (H++[aC.rw [.s (kB i x) (W.nk i x) (cK i x)]]++[aC.rw [.s (kB i x) (W.nk i x) (cK i x)]])=Hc at N a7 a6 hrc bn bd a5
     generalize H.length+1=b at a5
     clear b8 hf1 hd1 hM hN hg hr hq a3 H
     refine jU (p:=[]) (q:=[.p b]) rfl fun L hL=>?_
     obtain ⟨A,d⟩:=xy (Hc++[aC.dfr,L])
     have dd:A.length=Hc.length+2:=by rw [d];simp
     have ad:NT U A [.s bB W.nb cB,.s bS W.ns cS] [.i m.1,.i m.2] [.s bB W.nb cB,.s bS W.ns cS,.i m.1,.i m.2,eP j 1001 (W.ns+1),.s r (W.ns+1) (W.ns+1)] E:=by rw [d];exact N.app _
     have bz:Mks (U.length+5) mk A:=by rw [d];exact a7.app _
     have c5:A[j]?=some (.gr (dH W.front 0 (W.ns+1)) 258):=by rw [d];exact aA a6
     have ck:A[q]?=some (.rw [.i (i:Nat)]):=by rw [d];exact aA bn
     have cr:A[p]?=some (.rw [.pointer (some ⟨r,0+(i+1)*1001,none⟩)]):=by rw [d];exact aA bd
     have ar:A[b]?=some (.rw [.s (kB i x) (W.nk i x) (cK i x)]):=by rw [d];exact aA a5
     have c1:A[Hc.length]?=some .dfr:=by rw [d,bE (aD _)];simp
     have G:A[Hc.length+1]?=some L:=by rw [d,bE oO];simp
     rw [<- d]
     obtain ⟨row0,u⟩:=xy (wyF (W.kM m (i+1)) (W.aft i) (W.own i) (W.nk i) x zro)
     have J:row0.length=1001:=by rw [u];exact BF lD fun y hy q hq=>Aq hW I oO hq
     obtain ⟨F,hF⟩:∃ F:Nat->Nat->List Int,F=fun y t=>if t=i then spF (W.kM m (i+1)) (W.aft i x) (W.own i x) y row0 else W.qc m k t:=⟨_,rfl⟩
     have ci:∀ y≤W.nk i x,∀ t,(F y t).length=1001:=fun y hy t=>by
      rw [hF];dsimp only;split
      ·exact BD J fun z hz=>Aq hW I Q oO
      ·exact aaz hW hm _ _
     have ai:A[r]?=some (.rw (dH (F 0) 0 (W.ns+1))):=by rw [d,hF];dsimp only;simp only [spF];rw [u];exact aA hrc
     have cy:∀ y≤W.nk i x,(dH (F y) 0 (W.ns+1)).length=(W.ns+1)*1001:=fun y hy=>qK fun t _ _=>ci y hy t
     have a4:r ≠ b:=fun h=>by rw [h,ar] at ai;have:=aC.rw.inj (Option.some.inj ai);have h2:=congrArg List.length this;rw [cy 0 (bL _)] at h2;simp at h2;omega
     have a:r ≠ Hc.length+1:=by have:=aS hrc;omega
     have av:r ≠ q:=oO
     have b9:r ≠ p:=oO
     have hne5:r ≠ j:=oO
     have ax:=hW.k i I x Q
     refine Dc (S:=fun y=>A.set r (.rw (dH (F y) 0 (W.ns+1)))) (n:=W.nk i x) (c:=cK i x) (kf:=W.kf i x) (ik:=kB i x) (l:=Hc.length+1) (ib:=b) (set_self ai) (fun q=>by simp) (fun q=>aV (aB ar a4) rfl) (fun q y hy=>?_) (fun q hq=>⟨(ax q hq).1,(ax q hq).2.1⟩) (by have:=hW.nk i I x Q;omega) (fun q=>(aB G a).trans (congrArg some hL)) (fun h q=>iW (Ql _ _ _ _) h) ⟨rfl,rfl⟩ ?_ ?_
     ·exact dJ (take_set ad.pre oO) (hA.kinks i I x Q y hy)
     ·intro y hy X QB aw
      obtain ⟨row,hrow⟩:=xy (spF (W.kM m (i+1)) (W.aft i x) (W.own i x) y row0)
      have M:row.length=1001:=by rw [hrow];exact BD J fun z hz=>Aq hW I Q oO
      have ag:=Aq hW I Q hy
      have ae:=Dh hW I Q hy
      obtain ⟨HX,D⟩:=xy (A.set r (.rw (dH (F y) 0 (W.ns+1)))++X)
      have c0:NT U HX [.s bB W.nb cB,.s bS W.ns cS] [.i m.1,.i m.2] [.s bB W.nb cB,.s bS W.ns cS,.i m.1,.i m.2,eP j 1001 (W.ns+1),.s r (W.ns+1) (W.ns+1)] E:=by rw [D];exact (ad.setX oO _).app X
      have d5:HX[r]?=some (.rw (dH (F y) 0 (W.ns+1))):=by rw [D];exact aA (aQ ai)
      have ce:HX[q]?=some (.rw [.i (i:Nat)]):=by rw [D];exact aA (aB ck av)
      have ca:HX[p]?=some (.rw [.pointer (some ⟨r,0+(i+1)*1001,none⟩)]):=by rw [D];exact aA (aB cr b9)
      have b7:HX[Hc.length+1]?=some L:=by rw [D];exact aA (aB G a)
      have hrd:lJ (some (Hc.length+1)) (A.length+X.length)=true:=(show Nat.blt _ _=true from Nat.blt_eq.mpr oO)
      rw [<- D]
      refine Oh ?_
      refine vX (aA (aA b7)) hL fun B hB=>?_
      obtain ⟨HB,w⟩:=xy ((HX++[aC.rw [.i (W.kf i x y).1,.i (yx (W.kf i x) (W.nk i x) y)]]++[aC.rw [.i (W.kf i x y).2.1,.i (W.kf i x y).2.2]]).set (Hc.length+1) B)
      have d4:=aS b7
      have hqc1:=aS bn
      have hpc1:=aS bd
      have hN:NT U HB [.s bB W.nb cB,.s bS W.ns cS] [.i m.1,.i m.2] [.s bB W.nb cB,.s bS W.ns cS,.i m.1,.i m.2,eP j 1001 (W.ns+1),.s r (W.ns+1) (W.ns+1)] E:=by rw [w];exact ((c0.app _).app _).setX (by have:=N.len;omega) _
      have bu:HB[r]?=some (.rw (dH (F y) 0 (W.ns+1))):=by rw [w];exact aB (aA (aA d5)) oO
      have cm:HB[q]?=some (.rw [.i (i:Nat)]):=by rw [w];exact aB (aA (aA ce)) oO
      have a2:HB[p]?=some (.rw [.pointer (some ⟨r,0+(i+1)*1001,none⟩)]):=by rw [w];exact aB (aA (aA ca)) oO
      have a0:HB[HX.length]?=some (.rw [.i (W.kf i x y).1,.i (yx (W.kf i x) (W.nk i x) y)]):=by rw [w];exact aB (aA aN) oO
      have a1:HB[HX.length+1]?=some (.rw [.i (W.kf i x y).2.1,.i (W.kf i x y).2.2]):=by rw [w];exact aB (bP oS) oO
      have d2:F y (i+1)=W.kM m (i+1):=by rw [hF];dsimp only;rw [if_neg oO];unfold Wk.qc;rw [if_pos oO]
      have cx:=lF (i:=i+1) (.inl bu) (fun t _=>ci y oO t) oO
      rw [d2] at cx
      have hf1:=yw cx (lG hW hm _) ae.1 ae.2.2 (by have:=ae.2.1;omega)
      refine dB [(5,.p (U.length+3)),(16,.p q),(17,.p p),(20,.p HX.length),(21,.p (HX.length+1))] HB (by rw [w];rfl) ⟨rfl,rfl,rfl,rfl,(by (refine congrArg (fun n=>some (Value.p n)) ?_;simp;try omega)),trivial⟩ ?_
      by_cases a8:kS (W.aft i x y).1 (W.aft i x y).2 (W.kM m (i+1))=true
      ·have am:=aS bu
       have cv:=aS cm
       have hcl:∀ {q o:Nat},q < U.length+5->closed HB.length (.pointer (some ⟨q,o,none⟩))=true:=fun {q o} h=>(show Nat.blt q HB.length=true from Nat.blt_eq.mpr (by have:=hN.len;omega))
       have hcs:closed HB.length (.s r (W.ns+1) (W.ns+1))=true:=cZ (Nat.blt_eq.mpr am)
       have hclr:∀ o:Nat,closed HB.length (.pointer (some ⟨r,o,none⟩))=true:=fun o=>(show Nat.blt r HB.length=true from Nat.blt_eq.mpr am)
       have hqX:∀ X,aI (HB++X) q (0+0)=some (.i (i:Nat)):=fun X=>aF (aA cm)
       have h20X:∀ X,aK (HB++X) HX.length 0 2=some [.i (W.kf i x y).1,.i (yx (W.kf i x) (W.nk i x) y)]:=fun X=>aV (aA a0) rfl
       have cj:F y i=row:=by rw [hF,hrow];dsimp only;rw [if_pos rfl]
       have de:=F5 (f:=F y) (g:=F y) (n:=W.ns+1) (i:=i) (row:=row) oO fun t _=>by
                                                             split;· rename_i h;rw [h,cj]
                                                             ·rfl
       have c9:=F5 (f:=F y) (g:=F (y+1)) (n:=W.ns+1) (i:=i) (row:=vW (W.own i x y).1 (W.own i x y).2 row) oO fun t _=>by
        rw [hF];dsimp only;split
        ·simp only [spF];rw [if_pos a8,<- hrow]
        ·rfl
       have bt:(dH (F y) 0 i).length=0+i*1001:=by rw [qK fun t _ _=>ci y oO t];omega
       have hf2:=adf (U:=HB++([]:Heap)) (i:=r) (A:=dH (F y) 0 i) (B:=dH (F y) (i+1) (W.ns+1 - i - 1)) (l:=row) (by rw [bN,bu,<- de]) bt (mX _ _ _) (mX _ _ _) M ag.1 ag.2.2 (by have:=ag.2.1;omega)
       rw [<- c9] at hf2
       have hiN:i<W.ns+1:=oO
       refine Oh ?_
       have aj:(HB++([]:Heap)).set r (.rw (dH (F (y+1)) 0 (W.ns+1)))=(A.set r (.rw (dH (F (y+1)) 0 (W.ns+1)))).set (Hc.length+1) B++X++[aC.rw [.i (W.kf i x y).1,.i (yx (W.kf i x) (W.nk i x) y)],aC.rw [.i (W.kf i x y).2.1,.i (W.kf i x y).2.2]]:=by
        rw [bN,w,D];exact FX (aS ai) (aS G) a
       rw [aj,hB];exact aw _ _ _
      ·have db:kS (W.aft i x y).1 (W.aft i x y).2 (W.kM m (i+1))=false:=by simpa using a8
       have c9:F (y+1)=F y:=by
        rw [hF];dsimp only;funext t;split
        ·simp only [spF];rw [if_neg a8]
        ·rfl
       refine Oh ?_
       have aj:HB=(A.set r (.rw (dH (F (y+1)) 0 (W.ns+1)))).set (Hc.length+1) B++X++[aC.rw [.i (W.kf i x y).1,.i (yx (W.kf i x) (W.nk i x) y)],aC.rw [.i (W.kf i x y).2.1,.i (W.kf i x y).2.2]]:=by
        rw [c9,w,D];exact KD (aS G)
       rw [aj,hB];exact aw _ _ _
     ·refine ⟨.ready,none,_,_,_,_,_,(aB G a).trans (congrArg some hL),by simp,?_⟩
      have cz:=N.len
      have df:=aS a6
      have d9:=aS bn
      have hc3:=aS bd
      show (dK 12 _) _ _ _ _
      refine mY ?_
      refine ⟨x+1,⟨oO,?_,(ad.setX oO _).setX oO _,aB (aB c5 oO) oO,?_,aB (aB ck av) oO,aB (aB cr b9) oO⟩,oO,tE⟩
      ·refine Mks.cons ((bz.set ai oS).set (aB G a) (by rw [hL];simp)) (a7.new (aD _)) oO (aB (aB c1 (by have:=aS hrc;omega)) oO)
      ·refine aB ?_ oO
       rw [aQ ai,hF,u];rfl
    ·obtain rfl:x=W.nw i:=oO
     have d7:¬ ((W.nw i:Nat):Int)<(W.nw i:Nat):=oO
     have a2:=hq
     have dg:(i:Int) - 1=((W.ns - (k+1):Nat):Int) - 1:=oO
     have cu:H[r]?=some (.rw (dH (W.qc m (k+1)) 0 (W.ns+1))):=by
      rw [hr,aay W m hkn hi,qL fun t _ ht=>WS W m hkn hi t oO]
     refine mY ?_
     refine ⟨(k+1,H.length),⟨by dsimp only;omega,hM.app _,hN.app _,aA hg,aA cu,?_,aS cu⟩,by dsimp only;omega,tE⟩
     dsimp only
     rw [<- dg]
     exact aN
   ·obtain rfl:k=W.ns:=oO
    have hq0:((W.ns - W.ns:Nat):Int) - 1=-1:=oO
    rw [hq0] at hq a2
    refine mY ?_
    have da:dH (W.qc m W.ns) 0 (W.ns+1)=dH (W.kM m) 0 (W.ns+1):=qL fun x _ _=>if_pos oO
    rw [da] at hr
    have k2:=rD hN.b2 (hM.not hN.b2 oS)
    have kj:=rD hg (hM.not hg oS)
    have kr:=rD hr (hM.not hr oS)
    have hjr:j ≠ r:=fun h=>by rw [h,hr] at hg;cases hg
    have s0:fK U.length [U.length+2,j,r] U.length=⟨U.length+2,0,0⟩:=by simp [fK]
    have s1:fK U.length [U.length+2,j,r] (U.length+1)=⟨j,0,0⟩:=by simp [fK];omega
    have s2:fK U.length [U.length+2,j,r] (U.length+2)=⟨r,0,0⟩:=by simp [fK];omega
    refine Qk hM (.tmp rfl .nil) (aW.src (v2:=.p U.length) [.rw [.s bB W.nb cB,.s bS W.ns cS,.i m.1,.i m.2,.s (U.length+1) (W.ns+1) (W.ns+1),.s (U.length+2) (W.ns+1) (W.ns+1)],.rw (dH W.front 0 (W.ns+1)),.rw (dH (W.kM m) 0 (W.ns+1))] [U.length+2,j,r] (nR hN.pre fun x hx=>by have:=(hM.2 x hx).1;omega) rfl ?_ ⟨?_,lC s1 (.inr ⟨_,kj⟩) (mX _ _ _),lC s2 (.inl kr) (mX _ _ _),trivial⟩ ?_) ⟨rfl,rfl⟩
    ·simp [dF];omega
    ·refine sF s0 (.inl k2) rfl fun x h1 h2=>?_
     match x,h1 with
     |0,_=>exact jY (by simp;omega) (gu hbB) (aD _)
     |1,_=>exact jY (by simp;omega) (gu hbS) (aD _)
     |2,_=>exact bF _ rfl
     |3,_=>exact bF _ rfl
     |4,_=>exact kX oS s1
     |5,_=>exact jY oS s2 (aD _)
     |x+6,h1=>exact absurd h1 oS
    ·have:=VQ.ptr (q:=true) (n:=U.length+3) (V:=fK U.length [U.length+2,j,r]) U.length 0 oO
     rw [s0] at this
     exact this
end Go.Proofs.YtajpgeklmcjciaaGreat
namespace Go.AH
theorem Uc {P:Program} {n0 N:Nat} {rd:Option Nat} {c:Code} {Q:Post} {e:Env} {mk:List Nat} {U:Heap} (el:TypeId) (h:bJ P n0 N rd c Q e mk (U++[.gr [] el])):bJ P n0 N rd c Q e mk U:=by
 intro G w0 ρ0 A w hi
 obtain ⟨g0,V,g1,g2,g3⟩:=hi
 exact h G w0 ρ0 A w ⟨by simp;omega,V,g1,YT g2 el,xQ g3 oS fun _ _=>rfl⟩
section
variable {α:Type} [DecidableEq α]
theorem Eu {l:List Nat} {g:Nat->α} {x:α} (h:∀ k ∈ l,g k ≠ x):(l.map g).findIdx? (fun q=>decide (x=q))=none:=by
 rw [List.findIdx?_eq_none_iff]
 intro y hy
 obtain ⟨k,hk,rfl⟩:=List.mem_map.1 hy
 simpa using fun e=>h k hk e.symm
theorem zf {g:Nat->α} (hg:∀ a b,g a=g b->a=b):∀ {l:List Nat} {x:Nat},x ∈ l->∃ j,(l.map g).findIdx? (fun q=>decide (g x=q))=some j/\l[j]?=some x/\(l.Nodup->l.eraseIdx j=l.filter (· ≠ x))
 |[],_,h=>by simp at h
 |a::l,x,h=>by
  by_cases c:a=x
  ·subst c
   refine ⟨0,by simp [e6],rfl,fun hn=>?_⟩
   have hn:=List.nodup_cons.1 hn
   simp only [List.eraseIdx_zero,List.tail_cons]
   rw [List.filter_cons,if_neg oS,List.filter_eq_self.2]
   intro y hy
   simp only [ne_eq,decide_not,eL,decide_eq_false_iff_not]
   intro e;rw [e] at hy;exact hn.1 hy
  ·have hx:x ∈ l:=by rcases List.mem_cons.1 h with e|e;exact absurd e.symm c;exact e
   obtain ⟨j,h1,h2,h3⟩:=zf hg hx
   have d:¬ g x=g a:=fun e=>c (hg _ _ e).symm
   refine ⟨j+1,by simp [e6,d,h1],by simpa using h2,fun hn=>?_⟩
   have hn:=List.nodup_cons.1 hn
   rw [List.eraseIdx_cons_succ,h3 hn.2,List.filter_cons,if_pos (oU c)]
theorem Oi {β:Type} (f:Nat->β):∀ (l:List Nat) (j:Nat),(l.map f).eraseIdx j=(l.eraseIdx j).map f
 |[],_=>rfl
 |_::_,0=>rfl
 |a::l,j+1=>by simp only [cG,List.eraseIdx_cons_succ];rw [Oi f l j]
def mpL (g:Nat->α) (v:Nat->Value) (l:List Nat):List (α×Value):=l.map fun k=>(g k,v k)
theorem Ew {γ:Type} (g:Nat->γ) (v:Nat->Value) (l:List Nat):(mpL g v l).map (·.1)=l.map g:=by simp [mpL]
theorem ail {g:Nat->α} {v:Nat->Value} (hg:∀ a b,g a=g b->a=b) {l:List Nat} {x:Nat} (h:x ∉ l):lN (mpL g v l) (g x) (v x)=mpL g v (l++[x]):=by
 unfold lN
 rw [Ew,Eu fun k hk e=>h (by rw [<- hg _ _ e];exact hk)]
 simp [mpL]
theorem afU {g:Nat->α} {v:Nat->Value} (hg:∀ a b,g a=g b->a=b) {l:List Nat} {x:Nat} (h:x ∈ l) (hn:l.Nodup):ny (mpL g v l) (g x)=mpL g v (l.filter (· ≠ x)):=by
 obtain ⟨j,h1,_,h3⟩:=zf hg h
 unfold ny
 rw [Ew,h1]
 simp only
 rw [<- h3 hn]
 unfold mpL
 rw [Oi]
theorem afV {g:Nat->α} {v:Nat->Value} (hg:∀ a b,g a=g b->a=b) {l:List Nat} {x:Nat} (h:x ∈ l):iO (mpL g v l) (g x)=some (v x):=by
 obtain ⟨j,h1,h2,_⟩:=zf hg h
 unfold iO
 rw [Ew,h1]
 simp [mpL,h2]
theorem adg {g:Nat->α} {v:Nat->Value} (hg:∀ a b,g a=g b->a=b) {l:List Nat} {x:Nat} (h:x ∉ l):iO (mpL g v l) (g x)=none:=by
 unfold iO
 rw [Ew,Eu fun k hk e=>h (by rw [<- hg _ _ e];exact hk)]
end
def slN (b:Nat) (n:Nat):Value:=match n with|0=>.slice none 0 0|n+1=>.slice (some ⟨b,0,none⟩) (n+1) (n+1)
theorem KG {n:Nat} {Z:Rho} {i j sz k:Nat} (hi:i<n) (hj:Z i=⟨j,0,0⟩):jS n Z (slN i k) (eP j sz k):=by
 cases k with
 |zero=>exact .nilSlice
 |succ k=>exact kX hi hj
namespace Heat
open Go.Proofs.YtajpgeklmcjciaaGreat
theorem wV (p:Nat->Bool) (n:Nat):(List.range (n+1)).filter p=(List.range n).filter p++(if p n then [n] else []):=by
 rw [ff,List.filter_append]
 congr 1
 by_cases h:p n=true <;> simp [h]
namespace Wk
variable (W:Wk) (m:Int×Int)
def bothR (i:Nat):List Int:=mulL (W.front i) (W.kM m i)
def noB:Bool:=decide (∀ i ∈ List.range 1001,gi (W.bothR m 0) i=gi zro i)
def nN (i k:Nat):Nat->Bool
 |0=>false
 |q+1=>nN i k q || (kS (W.own i k q).1 (W.own i k q).2 (W.bothR m i) && kS (W.aft i k q).1 (W.aft i k q).2 (W.kM m (i+1)))
def lead (i k:Nat):Bool:=W.nN m i k (W.nk i k)
def someB:List Nat:=if W.noB m then [] else (List.range W.nb).filter fun b=>kS (W.bf b).1 (W.bf b).2 (W.kM m 0)
def Oj (i:Nat):List Nat:=if W.noB m then [] else (List.range (W.nw i)).filter fun k=>W.lead m i k
end Wk
theorem adh {lo hi:Int} {l:List Int} (hl:l.length=1001) (h:oL (lo,hi)) (i:Nat):gi (vW lo hi l) i=if lo<=(i:Int)/\(i:Int)<=hi then 1 else gi l i:=by
 obtain ⟨h0,h1,h2⟩:=h
 dsimp only at h0 h1 h2
 unfold vW jK gi
 rw [cE,cE,cD]
 have a:(l.take lo.toNat).length=lo.toNat:=by simp;omega
 by_cases ha:i<lo.toNat
 ·rw [bO oO,ey,if_pos ha,if_neg oO]
 ·rw [bE oO,a]
  by_cases hb:i - lo.toNat<(hi+1 - lo).toNat
  ·rw [bO (oU hb),List.getElem?_replicate,if_pos hb,if_pos oO];rfl
  ·rw [bE (oU hb),ft,eJ,if_neg oO]
   congr 2;omega
theorem ain (i:Nat):gi zro i=0:=by
 unfold gi zro
 rw [cE,List.getElem?_replicate]
 split <;> rfl
def R01 (l:List Int):Prop:=∀ i,gi l i=0\/gi l i=1
theorem I9:R01 zro:=fun i=>.inl (ain i)
theorem KH {lo hi:Int} {l:List Int} (hl:l.length=1001) (h:oL (lo,hi)) (h1:R01 l):R01 (vW lo hi l):=fun i=>by
 rw [adh hl h];split
 ·exact .inr rfl
 ·exact h1 i
theorem KI {bf:Nat->Int×Int} {l:List Int} (hl:l.length=1001) (h0:R01 l):∀ {k:Nat},(∀ j<k,oL (bf j))->R01 (wS bf k l)
 |0,_=>h0
 |k+1,h=>KH (wU hl fun j hj=>h j oO) (h k oO) (KI hl h0 fun j hj=>h j oO)
theorem WV {now l:List Int} {fr to:Nat->Int×Int} (hl:l.length=1001) (h0:R01 l):∀ {n:Nat},(∀ q<n,oL (to q))->R01 (spF now fr to n l)
 |0,_=>h0
 |q+1,h=>by
  simp only [spF];split
  ·exact KH (BD hl fun j hj=>h j oO) (h q oO) (WV hl h0 fun j hj=>h j oO)
  ·exact WV hl h0 fun j hj=>h j oO
theorem WW {now l:List Int} {fr to:Nat->Nat->Int×Int} {nk:Nat->Nat} (hl:l.length=1001) (h0:R01 l):∀ {n:Nat},(∀ k<n,∀ q<nk k,oL (to k q))->R01 (wyF now fr to nk n l)
 |0,_=>h0
 |k+1,h=>WV (BF hl fun j hj=>h j oO) (WW hl h0 fun j hj=>h j oO) (h k oO)
theorem Ud {W:Wk} (h:W.Ok):∀ i≤W.ns,R01 (W.front i)
 |0,_=>KI lD I9 h.b
 |i+1,hi=>WW lD I9 fun k hk q hq=>Dh h oO hk hq
theorem adi {W:Wk} (h:W.Ok) {m:Int×Int} (hm:oL m):∀ k≤W.ns,R01 (W.Ua m k)
 |0,_=>KH lD hm I9
 |k+1,hk=>WW lD I9 fun j hj q hq=>Aq h oO hj hq
theorem Y0 {W:Wk} (h:W.Ok) {m:Int×Int} (hm:oL m) (i:Nat):R01 (W.kM m i):=adi h hm _ oO
theorem KJ {a b:List Int}:(mulL a b).length=a.length:=KF 1001 a b
theorem ahd {l:List Int} {n:Nat} (h:l.length=n):ZY .i8 (gi l) n (r8 l).toArray:=fun i hi=>Kw oO
def plG (i:Nat) (k:Nat):Int×Int:=((i:Int),(k:Int))
def plV (k:Nat):Value:=.int .i64 (k:Nat)
theorem Ja (i:Nat):∀ a b,plG i a=plG i b->a=b:=fun a b h=>by have:=congrArg Prod.snd h;simp only [plG] at this;omega
abbrev plM (i:Nat) (l:List Nat):aC:=jv kv (mpL (plG i) plV l)
def lefts (p:Nat->Bool) (n x:Nat):List Nat:=(List.range n).filter fun k=>decide (x<=k) || p k
theorem WX (p:Nat->Bool) (n:Nat):lefts p n 0=List.range n:=List.filter_eq_self.2 fun _ _=>by simp
theorem aaB (p:Nat->Bool) (n:Nat):lefts p n n=(List.range n).filter p:=by
 unfold lefts
 refine List.filter_congr fun k hk=>?_
 have:=List.mem_range.1 hk
 rw [decide_eq_false oO];rfl
theorem Ue (p:Nat->Bool) (n x:Nat):(lefts p n x).Nodup:=List.Nodup.sublist List.filter_sublist List.nodup_range
theorem aaC {p:Nat->Bool} {n x:Nat} (h:x<n):x ∈ lefts p n x:=by
 unfold lefts;rw [List.mem_filter];exact ⟨List.mem_range.2 h,by simp⟩
theorem Uf {p:Nat->Bool} {n x:Nat} (h:p x=true):lefts p n (x+1)=lefts p n x:=by
 unfold lefts
 refine List.filter_congr fun k _=>?_
 by_cases hk:k=x
 ·subst hk;rw [h];simp
 ·have:decide (x+1<=k)=decide (x<=k):=by
   by_cases h2:x<=k
   ·rw [decide_eq_true h2,decide_eq_true oO]
   ·rw [decide_eq_false h2,decide_eq_false oO]
  rw [this]
theorem Ug {p:Nat->Bool} {n x:Nat} (h:p x=false):lefts p n (x+1)=(lefts p n x).filter (· ≠ x):=by
 unfold lefts
 rw [List.filter_filter]
 refine List.filter_congr fun k _=>?_
 by_cases hk:k=x
 ·subst hk;rw [h];simp
 ·have:decide (x+1<=k)=decide (x<=k):=by
   by_cases h2:x<=k
   ·rw [decide_eq_true h2,decide_eq_true oO]
   ·rw [decide_eq_false h2,decide_eq_false oO]
  rw [this];simp [hk]
structure sG (U:Heap) (W:Wk) (m:Int×Int) (tb fb rb bB cB bS cS:Nat) (wB cW:Nat->Nat) (kB cK:Nat->Nat->Nat):Prop where
 t:U[tb]?=some (.rw [.slice (some ⟨bB,0,none⟩) W.nb cB,.slice (some ⟨bS,0,none⟩) W.ns cS,.int .i64 m.1,.int .i64 m.2,.slice (some ⟨fb,0,none⟩) (W.ns+1) (W.ns+1),.slice (some ⟨rb,0,none⟩) (W.ns+1) (W.ns+1)])
 f:U[fb]?=some (.rw (dH W.front 0 (W.ns+1)))
 r:U[rb]?=some (.rw (dH (W.kM m) 0 (W.ns+1)))
 w:Di U W bB bS wB cW kB cK
 bB:bB < U.length
 bS:bS < U.length
theorem sG.take {U H:Heap} {W:Wk} {m:Int×Int} {tb fb rb bB cB bS cS:Nat} {wB cW:Nat->Nat} {kB cK:Nat->Nat->Nat} (h:sG U W m tb fb rb bB cB bS cS wB cW kB cK) (hp:H.take U.length=U):sG H W m tb fb rb bB cB bS cS wB cW kB cK :=
 ⟨by rw [jL hp (aS h.t)];exact h.t,by rw [jL hp (aS h.f)];exact h.f,by rw [jL hp (aS h.r)];exact h.r,h.w.take hp,by have:=take_len hp;have:=h.bB;omega,by have:=take_len hp;have:=h.bS;omega⟩
end Heat
end Go.AH
namespace Go.AH.Heat
structure ST (U H:Heap) (tb:Nat) (sv:Int):Prop where
 pre:H.take U.length=U
 b0:H[U.length]?=some (.rw [.pointer (some ⟨tb,0,none⟩)])
 b1:H[U.length+1]?=some (.rw [.int .i64 sv])
section
variable {U H:Heap} {tb:Nat} {sv:Int}
theorem ST.app (h:ST U H tb sv) (X:Heap):ST U (H++X) tb sv:=⟨aP h.pre,aA h.b0,aA h.b1⟩
theorem ST.setX (h:ST U H tb sv) {i:Nat} (hi:U.length+2<=i) (o:aC):ST U (H.set i o) tb sv:=⟨take_set h.pre oO,aB h.b0 oO,aB h.b1 oO⟩
theorem ST.len (h:ST U H tb sv):U.length+2<=H.length:=by have:=aS h.b1;omega
end
theorem vY (l:List Nat):(gQ l).length=l.length:=by simp [gQ]
theorem BG (l:List Nat) (x:Nat):gQ (l++[x])=gQ l++[.i (x:Nat)]:=by simp [gQ]
theorem filter_le (p:Nat->Bool) (n:Nat):((List.range n).filter p).length<=n:=by have:=List.length_filter_le p (List.range n);simpa using this
end Go.AH.Heat
namespace Go.Proofs.YtajpgeklmcjciaaGreat
attribute [local irreducible] dA bJ bK jh fQ dK eH bY eu aW dR dW
open Go.AH.Heat
theorem pG {A B:Prop} (k:B) (h:Hide B->A:=by intro z_;(repeat' (first|refine sCm ?_|(refine gU ?_;first|refine st (JO (kv:=kv) (k:=plG i x) rfl (by exact hmp) rfl (by exact hget)) rfl rfl ?_|refine st (JQ (kv:=kv) (k:=plG i x) (by rfl) rfl (by exact hmp) rfl (by exact hget)) rfl rfl ?_|refine st (jO (by rfl) (by rfl) rfl (by exact hgX) (by exact hgl) rfl (by exact dZ rfl) (by omega) rfl (by omega) (by decide)) rfl rfl ?_|refine st (NP (xs:=r8 (W.bothR m 0)) (ys:=List.replicate 1001 (.int .i8 0)) (by rfl) rfl rfl hpx hpy hkx hky) rfl rfl ?_|(refine cO ?_;first|refine st (aJ rfl (by first|exact aF a0|exact aF hS.b0|exact aF hS.b1)) rfl rfl ?_|refine st (bG rfl (by first|exact aV a0 rfl|exact dZ rfl|assumption)) rfl rfl ?_)|refine sK0 ?_|(refine Iq ?_;refine st (Pn rfl) rfl rfl ?_)|(refine rW ?_;refine st (iV rfl) rfl rfl ?_)|(refine gIA ?_;first|refine st (qR rfl rfl (by omega)) rfl rfl ?_|refine st (iE rfl rfl (by omega)) rfl rfl ?_|refine st (pJ rfl rfl (by omega) (by omega)) rfl rfl ?_)|refine sK7 ?_|(refine Pj ?_;first|refine st (pV (by rfl) rfl (by rfl)) rfl rfl ?_|refine st (Ny (by rfl)) rfl rfl ?_)|(refine Pm ?_;refine st (yV rfl rfl rfl) rfl rfl ?_)|(refine dV ?_;refine st (bC rfl rfl rfl (by exact hf1)) rfl rfl ?_)|refine Me ?_|refine sK8 ?_)|(refine fU ?_;first|refine frA (aJ rfl (aF (hS.app _).b0)) rfl ?_ (hcl (by assumption))|refine frA (aJ rfl (aF (aA a0))) rfl ?_ (hcs (by assumption))|refine frA (aJ rfl (hw _)) rfl ?_ (hcs (by assumption))|refine frA (jB rfl) rfl ?_ (hcl (by assumption))|refine frA (bD rfl) rfl ?_ (hcl (by assumption))|refine frA (qR rfl rfl (by omega)) rfl ?_ (hcl (by assumption))|refine Qd ?_|(refine eU ?_;refine frA (aJ rfl (by exact aF (hS.app _).b1)) rfl ?_)|(refine Sj ?_;refine frA (lY rfl) rfl ?_))|(refine fP ⟨by kernel_rfl,?_⟩)|refine bU (id:=2) ?_|refine bU (id:=4) ?_|refine bU (id:=24) ?_|refine aG ?_|refine sK5 ?_|refine fA rfl ?_|refine fM rfl ?_));exact z_.h):A:=h ⟨k⟩
theorem Y1 {A B:Prop} (k:B) (h:Hide B->A:=by intro z_;(repeat' (first|refine sCm ?_|(refine gU ?_;first|(refine yT ?_;refine st (jG rfl) (by exact hrd) rfl ?_)|(refine gZ ?_;refine stN (bW rfl rfl rfl rfl (by first|exact iH (aD _) (cL _)|exact hput _ _)) (by exact hrd) ?_))|(refine fU ?_;first|refine Qd ?_|(refine eU ?_;refine frA (aJ rfl (by exact hqX _)) rfl ?_)|(refine DW ?_;first|refine frA (ji rfl rfl) rfl ?_|refine frA (jk rfl rfl) rfl ?_))|(refine fG ?_;first|refine frG (rfl) (by first|rfl|assumption) (aJ rfl (aF (hS.app _).b0)) (hcl (by assumption)) rfl ?_|refine frG (rfl) (by first|rfl|assumption) (aJ rfl (aF (aA a0))) (hcs (by assumption)) rfl ?_|refine frG (rfl) (by first|rfl|assumption) (jB rfl) (hcl (by assumption)) rfl ?_|refine frG (rfl) (by first|rfl|assumption) (bD rfl) (hcl (by assumption)) rfl ?_|refine frG (rfl) (by first|rfl|assumption) (iE rfl rfl (by omega)) (hcl (by assumption)) rfl ?_|(refine nH ?_;refine pR rfl (dY rfl) rfl ?_)|(refine eU ?_;first|refine pR rfl (aJ rfl (by first|exact aF (hS.app _).b0|exact aF (hS.app _).b1|exact hqX _)) rfl ?_|refine pR rfl (bG rfl (by first|exact h20X _|exact h21X _)) rfl ?_)|(refine fAdd ?_;refine pR rfl (pI rfl rfl (by omega)) rfl ?_)|(refine DW ?_;first|refine pR rfl (ji rfl rfl) rfl ?_|refine pR rfl (jk rfl rfl) rfl ?_)|(refine qX ?_;refine pR rfl (bC rfl rfl rfl (by first|exact hf1|exact hf2)) rfl ?_)|refine frSU rfl rfl ?_|refine ac0 rfl rfl ?_)|(refine fP ⟨by kernel_rfl,?_⟩)|refine aG ?_|refine eY (by kernel_rfl) (by exact hrd) ?_));exact z_.h):A:=h ⟨k⟩
theorem Jb {U:Heap} {W:Wk} {m:Int×Int} {tb fb rb bB cB bS cS:Nat} {wB cW:Nat->Nat} {kB cK:Nat->Nat->Nat} (hW:W.Ok) (hm:oL m) (hT:sG U W m tb fb rb bB cB bS cS wB cW kB cK) (hni:Ni U) {sv:Int} {l:List Nat}
  (hl:sv<0/\l=W.someB m\/∃ i:Nat,sv=i/\i<W.ns/\l=W.Oj m i) :
  Ev prog 80 [.p tb,.i sv] U (slN U.length l.length) (U++[.rw (gQ l)]):=by
 have hnb3:=hW.nb
 have hns3:=hW.ns
 refine aH U.length 150 func80 (h:=?_)
 refine pG ?_
 have hS:ST U (U++[aC.rw [.p tb]]++[aC.rw [.i sv]]) tb sv:=⟨by simp,aA aN,bP oS⟩
 refine .mk (dB [(2,.p U.length),(3,.p (U.length+1)),(4,.slice none 0 0),(5,.slice none 0 0)] (U++[aC.rw [.p tb]]++[aC.rw [.i sv]]) rfl ⟨rfl,(by (refine congrArg (fun n=>some (Value.p n)) ?_;simp;try omega)),rfl,rfl,trivial⟩ ?_)
 have hni1:(U++[aC.rw [.p tb]]++[aC.rw [.i sv]]).all (fun o=>!aU o)=true:=aX (aX hni rfl) rfl
 generalize (U++[aC.rw [.p tb]]++[aC.rw [.i sv]])=H at hS hni1
 have a:=hT.take hS.pre
 have hf1:=YZ H tb fb rb 0 0 (W.ns+1) (W.ns+1) (W.ns+1) (W.ns+1) 0 _ (W.front 0) (W.kM m 0) (.inr (.inl a.t)) rfl rfl oO oO (lF (.inl a.f) (fun j hj=>kY hW j oO) oO) (lF (.inl a.r) (fun j _=>lG hW hm j) oO) (kY hW 0 oO) (lG hW hm 0) (fun i _=>Ud hW 0 oO i) (fun i _=>Y0 hW hm 0 i)
 have K:(W.bothR m 0).length=1001:=by unfold Wk.bothR;rw [KJ];exact kY hW 0 oO
 have hpx:=nK (W.bothR m 0)
 have hpy:dN (List.replicate 1001 (.int .i8 0))=true:=by rw [<- FZ];exact nK _
 have hkx:=ahd K
 have hky:ZY .i8 (gi zro) 1001 (List.replicate 1001 (.int .i8 0)).toArray:=by rw [<- FZ];exact ahd lD
 apply aG
 by_cases a7:W.noB m=true
 ·have ae:decide (∀ i ∈ List.range 1001,gi (W.bothR m 0) i=gi zro i)=true:=a7
  have br:l=[]:=by
   rcases hl with ⟨_,rfl⟩|⟨i,_,_,rfl⟩
   ·exact if_pos a7
   ·exact if_pos a7
  subst br
  refine pG ?_
  exact dG (v2:=slN U.length 0) (.tmp rfl .nil) (aW.src [.rw []] [U.length] hS.pre rfl (by simp [dF]) ⟨.inl rfl,trivial⟩ .nilSlice) ⟨rfl,rfl⟩
 ·have ae:decide (∀ i ∈ List.range 1001,gi (W.bothR m 0) i=gi zro i)=false:=by simpa [Wk.noB] using a7
  refine pG ?_
  refine .mk (dB [(2,.p U.length),(3,.p (U.length+1)),(4,.slice none 0 0),(5,.slice none 0 0)] H rfl tE ?_)
  clear ae hky hkx hpy hpx hf1
  have a0:=a.t
  apply aG
  by_cases Uq:sv<0
  ·have aw:l=(List.range W.nb).filter fun b=>kS (W.bf b).1 (W.bf b).2 (W.kM m 0):=by
    rcases hl with ⟨_,rfl⟩|⟨i,h,_,_⟩
    ·exact if_neg a7
    ·omega
   have af:decide (sv<0)=true:=decide_eq_true Uq
   refine pG ?_
   refine Uc 3 ?_
   refine dO (ι:=Nat×Nat) (fun k=>[(4,.slice none 0 0),(5,eP k.2 1 ((List.range k.1).filter fun b=>kS (W.bf b).1 (W.bf b).2 (W.kM m 0)).length),(6,.func (.func 170) #[.p rb] #[]),(36,.s bB W.nb cB),(37,.i (W.nb:Nat)),(38,.i (k.1:Nat))])
    (fun k mk H=>k.1<=W.nb/\mk=[]/\ST U H tb sv/\U.length+2<=k.2/\H[k.2]?=some (.gr (gQ ((List.range k.1).filter fun b=>kS (W.bf b).1 (W.bf b).2 (W.kM m 0))) 3)) (fun k=>W.nb - k.1) (0,H.length) tE ⟨bL _,rfl,hS.app _,hS.len,aN⟩ ?_
   clear a0 hS hni1 a H
   rintro ⟨k,jo⟩ mk H ⟨hk,rfl,hS,P,hg⟩
   dsimp only at hk P hg
   dsimp only
   obtain ⟨lk,d⟩:=xy ((List.range k).filter fun b=>kS (W.bf b).1 (W.bf b).2 (W.kM m 0))
   rw [<- d] at hg
   rw [<- d]
   have ba:lk.length<=k:=by rw [d];exact filter_le _ _
   have a:=hT.take hS.pre
   by_cases hkn:k<W.nb
   ·have bs:(k:Int)<(W.nb:Nat):=oO
    have hd1:aK H bB (0+k*2) 2=some [.i (W.bf k).1,.i (W.bf k).2]:=by rw [aR];exact a.w.bars k hkn
    have ax:=hW.b k hkn
    have hf1:=yw (U:=H++[aC.rw [.i (W.bf k).1,.i (W.bf k).2]]) (lF (i:=0) (.inl (aA a.r)) (fun j _=>lG hW hm j) oO) (lG hW hm 0) ax.1 ax.2.2 (by have:=ax.2.1;omega)
    have hgX:(H++[aC.rw [.i (W.bf k).1,.i (W.bf k).2]]++[aC.rw [.i (k:Nat)]])[jo]?=some (.gr (gQ lk) 3):=aA (aA hg)
    have hgl:(gQ lk).length=lk.length*1:=by rw [vY,cH]
    by_cases an:kS (W.bf k).1 (W.bf k).2 (W.kM m 0)=true
    ·refine pG ?_
     have u:((List.range (k+1)).filter fun b=>kS (W.bf b).1 (W.bf b).2 (W.kM m 0))=lk++[k]:=by rw [wV,<- d,if_pos an]
     have e5:eP (H++[aC.rw [.i (W.bf k).1,.i (W.bf k).2]]++[aC.rw [.i (k:Nat)]]).length 1 (lk.length+1)=eP (H.length+2) 1 ((List.range (k+1)).filter fun b=>kS (W.bf b).1 (W.bf b).2 (W.kM m 0)).length:=by rw [u];simp
     have bg:=hS.len
     refine ⟨(k+1,H.length+2),⟨by dsimp only;omega,rfl,(((hS.app _).app _).setX P _).app _,by dsimp only;omega,?_⟩,by dsimp only;omega,⟨rfl,congrArg some e5,rfl,rfl,rfl,rfl,trivial⟩⟩
     dsimp only
     rw [u,BG]
     exact bP oS
    ·have hmf:kS (W.bf k).1 (W.bf k).2 (W.kM m 0)=false:=by simpa using an
     refine pG ?_
     have u:((List.range (k+1)).filter fun b=>kS (W.bf b).1 (W.bf b).2 (W.kM m 0))=lk:=by rw [wV,<- d,if_neg an,bN]
     refine ⟨(k+1,jo),⟨by dsimp only;omega,rfl,hS.app _,P,?_⟩,by dsimp only;omega,⟨rfl,by dsimp only;rw [u];rfl,rfl,rfl,rfl,rfl,trivial⟩⟩
     dsimp only
     rw [u]
     exact aA hg
   ·obtain rfl:k=W.nb:=oO
    have bs:¬ ((W.nb:Nat):Int)<(W.nb:Nat):=oO
    rw [<- aw] at d
    subst d
    refine pG ?_
    have s0:fK U.length [jo] U.length=⟨jo,0,0⟩:=by simp [fK]
    exact dG (v2:=slN U.length lk.length) (.tmp rfl .nil) (aW.src [.rw (gQ lk)] [jo] hS.pre rfl (by simp [dF];omega) ⟨lC s0 (.inr ⟨_,hg⟩) (oI _),trivial⟩ (KG oS s0)) ⟨rfl,rfl⟩
  ·obtain ⟨i,rfl,hi,aw⟩:∃ i:Nat,sv=i/\i<W.ns/\l=(List.range (W.nw i)).filter fun k=>W.lead m i k:=by
    rcases hl with ⟨h,_⟩|⟨i,h1,h2,h3⟩
    ·exact absurd h Uq
    ·exact ⟨i,h1,h2,by rw [h3];exact if_neg a7⟩
   have htb:tb < U.length:=aS hT.t
   have hrb:rb < U.length:=aS hT.r
   have hbS:bS < U.length:=hT.bS
   have hwB:wB i < U.length:=dS (hT.w.ways i hi 0 (hW.w1 i hi))
   have hnw3:=hW.nw i hi
   have af:decide ((i:Int)<0)=false:=decide_eq_false Uq
   refine pG ?_
   refine st y5 rfl rfl ?_
   refine st (jd rfl) rfl rfl ?_
   refine kU ?_
   refine rG ?_
   have hmp:(H++[aC.map []])[H.length]?=some (plM i (List.range 0)):=aN
   have Q:(H++[aC.map []]).all (fun o=>!aU o)=true:=aX hni1 rfl
   have aj:=hS.app [aC.map []]
   have a6:=hS.len
   refine dB [(2,.p U.length),(3,.p (U.length+1)),(4,.slice none 0 0),(5,.slice none 0 0),(9,.map (some H.length))] (H++[aC.map []]) rfl tE ?_
   generalize (H++[aC.map []])=M at hmp Q aj
   generalize H.length=mb at hmp a6
   clear hni1 a0 a hS H
   have hS:=aj
   have a:=hT.take hS.pre
   have a0:=a.t
   have a5:=take_len hS.pre
   have hcl:∀ {q o:Nat},q < U.length->closed M.length (.pointer (some ⟨q,o,none⟩))=true:=fun {q o} h=>(show Nat.blt q M.length=true from Nat.blt_eq.mpr oO)
   have hcs:∀ {q o n c:Nat},q < U.length->closed M.length (.slice (some ⟨q,o,none⟩) n c)=true:=fun h=>cZ (Nat.blt_eq.mpr oO)
   have hw:∀ X,aI (M++X) bS (i+0)=some (.s (wB i) (W.nw i) (cW i)):=fun X=>eX (k:=0) ((hT.w.take (aP hS.pre)).steps i hi) oO
   refine pG ?_
   rw [show M++gV (fun _=>true) []=M from bN M]
   refine dO (ι:=Nat) (fun x=>[(2,.p U.length),(3,.p (U.length+1)),(4,.slice none 0 0),(5,.slice none 0 0),(9,.map (some mb)),(61,.s (wB i) (W.nw i) (cW i)),(62,.i (W.nw i:Nat)),(63,.i (x:Nat))])
    (fun x mk H=>x<=W.nw i/\mk=[]/\ST U H tb i/\H.all (fun o=>!aU o)=true/\H[mb]?=some (plM i (List.range x))) (fun x=>W.nw i - x) 0 tE ⟨bL _,rfl,aj,Q,hmp⟩ ?_
   clear hw hcs hcl a5 a0 a hS aj Q hmp M
   rintro x mk H ⟨hx,rfl,hS,hni1,hmp⟩
   by_cases g:x<W.nw i
   ·have Y:(x:Int)<(W.nw i:Nat):=oO
    refine pG ?_
    refine stN (o7 (kv:=kv) (k:=plG i x) rfl (by exact hmp) rfl rfl hni1) rfl ?_
    have bt:lN (mpL (plG i) plV (List.range x)) (plG i x) (.i (x:Nat))=mpL (plG i) plV (List.range (x+1)):=by
     rw [ff];exact ail (Ja i) oS
    rw [bt]
    refine pG ?_
    exact ⟨x+1,⟨oO,rfl,hS.setX a6 _,jr hni1 rfl,aQ hmp⟩,oO,tE⟩
   ·obtain rfl:x=W.nw i:=oO
    have Y:¬ ((W.nw i:Nat):Int)<(W.nw i:Nat):=oO
    have a:=hT.take hS.pre
    have hf1:=YZ H tb fb rb 0 0 (W.ns+1) (W.ns+1) (W.ns+1) (W.ns+1) i _ (W.front i) (W.kM m i) (.inr (.inl a.t)) rfl rfl oO oO (lF (.inl a.f) (fun j hj=>kY hW j oO) oO) (lF (.inl a.r) (fun j _=>lG hW hm j) oO) (kY hW i oO) (lG hW hm i) (fun x _=>Ud hW i oO x) (fun x _=>Y0 hW hm i x)
    have K:(r8 (W.bothR m i)).length=1001:=by rw [jc];unfold Wk.bothR;rw [KJ];exact kY hW i oO
    have hone:=F6 (W.bothR m i)
    have N:putCells (H++[aC.rw (List.replicate 1001 (.int .i8 0))]) H.length 0 (r8 (W.bothR m i))=some (H++[aC.rw (r8 (W.bothR m i))]):=by
     rw [iH (by rw [K,ft];omega) (by rw [ft];omega)];simp [splice,K]
    refine pG ?_
    refine stN (bW (size:=1001) rfl rfl (by exact K) (by exact hone) (by exact N)) rfl ?_
    refine kU ?_
    refine rG ?_
    have J:(H++[aC.rw (r8 (W.bothR m i))])[H.length]?=some (.rw (r8 (W.bothR m i))):=aN
    have hni2:(H++[aC.rw (r8 (W.bothR m i))]).all (fun o=>!aU o)=true:=aX hni1 rfl
    have R:(H++[aC.rw (r8 (W.bothR m i))])[mb]?=some (plM i (lefts (W.lead m i) (W.nw i) 0)):=by rw [WX];exact aA hmp
    have al:=hS.app [aC.rw (r8 (W.bothR m i))]
    have b7:=aS hmp
    refine dB [(2,.p U.length),(3,.p (U.length+1)),(4,.slice none 0 0),(5,.slice none 0 0),(9,.map (some mb)),(11,.p H.length)] (H++[aC.rw (r8 (W.bothR m i))]) rfl tE ?_
    generalize (H++[aC.rw (r8 (W.bothR m i))])=H3 at J hni2 R al
    generalize H.length=p at J b7
    clear N hone K hf1 a hmp hni1 hS Y g hx H
    have hS:=al
    have a:=hT.take hS.pre
    have a0:=a.t
    have a5:=take_len hS.pre
    have hcl:∀ {q o:Nat},q < U.length->closed H3.length (.pointer (some ⟨q,o,none⟩))=true:=fun {q o} h=>(show Nat.blt q H3.length=true from Nat.blt_eq.mpr oO)
    have hcs:∀ {q o n c:Nat},q < U.length->closed H3.length (.slice (some ⟨q,o,none⟩) n c)=true:=fun h=>cZ (Nat.blt_eq.mpr oO)
    have hw:∀ X,aI (H3++X) bS (i+0)=some (.s (wB i) (W.nw i) (cW i)):=fun X=>eX (k:=0) ((hT.w.take (aP hS.pre)).steps i hi) oO
    refine pG ?_
    rw [show H3++gV (fun _=>true) []=H3 from bN H3]
    refine dO (ι:=Nat) (fun x=>[(2,.p U.length),(3,.p (U.length+1)),(4,.slice none 0 0),(5,.slice none 0 0),(9,.map (some mb)),(11,.p p),(83,.s (wB i) (W.nw i) (cW i)),(84,.i (W.nw i:Nat)),(85,.i (x:Nat))])
     (fun x mk H=>x<=W.nw i/\Mks (U.length+2) mk H/\ST U H tb i/\H.all (fun o=>!aU o)=true/\H[mb]?=some (plM i (lefts (W.lead m i) (W.nw i) x))/\H[p]?=some (.rw (r8 (W.bothR m i)))) (fun x=>W.nw i - x) 0 tE ⟨bL _,.nil,al,hni2,R,J⟩ ?_
    clear hw hcs hcl a5 a0 a hS al hni2 R J H3
    rintro x mk H ⟨hx,hM,hS,hni1,hmp,J⟩
    by_cases g:x<W.nw i
    ·have Y:(x:Int)<(W.nw i:Nat):=oO
     have hd1:aK H (wB i) x 1=some [.s (kB i x) (W.nk i x) (cK i x)]:=(hT.w.take hS.pre).ways i hi x g
     refine pG ?_
     have hf1:=KE (U:=H++[aC.rw [.s (kB i x) (W.nk i x) (cK i x)]]++[aC.rw [.bool false]]) (v:=.s (kB i x) (W.nk i x) (cK i x))
     have ag:(H++[aC.rw [.s (kB i x) (W.nk i x) (cK i x)]]++[aC.rw [.bool false]])[H.length]?=some (.rw [.s (kB i x) (W.nk i x) (cK i x)]):=aA aN
     have a0:=ag
     refine .mk (dB [(2,.p U.length),(3,.p (U.length+1)),(4,.slice none 0 0),(5,.slice none 0 0),(9,.map (some mb)),(11,.p p),(83,.s (wB i) (W.nw i) (cW i)),(84,.i (W.nw i:Nat)),(85,.i (x:Nat)),(12,.i (x:Nat)),(13,.p H.length),(14,.p (H.length+1))] (H++[aC.rw [.s (kB i x) (W.nk i x) (cK i x)]]++[aC.rw [.bool false]]) rfl ⟨rfl,rfl,rfl,rfl,rfl,rfl,rfl,rfl,rfl,rfl,rfl,(by (refine congrArg (fun n=>some (Value.p n)) ?_;simp;try omega)),trivial⟩ ?_)
     apply aG
     refine pG ?_
     have be:(H++[aC.rw [.s (kB i x) (W.nk i x) (cK i x)]]++[aC.rw [.bool false]]).length=H.length+2:=oS
     have ar:=((hS.app [aC.rw [.s (kB i x) (W.nk i x) (cK i x)]]).app [aC.rw [.bool false]]).app [aC.rw [.s (kB i x) (W.nk i x) (cK i x)]]
     have am:=((hM.app [aC.rw [.s (kB i x) (W.nk i x) (cK i x)]]).app [aC.rw [.bool false]]).app [aC.rw [.s (kB i x) (W.nk i x) (cK i x)]]
     have ac:(H++[aC.rw [.s (kB i x) (W.nk i x) (cK i x)]]++[aC.rw [.bool false]]++[aC.rw [.s (kB i x) (W.nk i x) (cK i x)]]).all (fun o=>!aU o)=true:=aX (aX (aX hni1 rfl) rfl) rfl
     have a3:(H++[aC.rw [.s (kB i x) (W.nk i x) (cK i x)]]++[aC.rw [.bool false]]++[aC.rw [.s (kB i x) (W.nk i x) (cK i x)]])[mb]?=_:=aA (aA (aA hmp))
     have O:(H++[aC.rw [.s (kB i x) (W.nk i x) (cK i x)]]++[aC.rw [.bool false]]++[aC.rw [.s (kB i x) (W.nk i x) (cK i x)]])[p]?=_:=aA (aA (aA J))
     have T:(H++[aC.rw [.s (kB i x) (W.nk i x) (cK i x)]]++[aC.rw [.bool false]]++[aC.rw [.s (kB i x) (W.nk i x) (cK i x)]])[H.length+1]?=some (.rw [.bool false]):=aA (bP oS)
     have ah:(H++[aC.rw [.s (kB i x) (W.nk i x) (cK i x)]]++[aC.rw [.bool false]]++[aC.rw [.s (kB i x) (W.nk i x) (cK i x)]])[H.length+2]?=some (.rw [.s (kB i x) (W.nk i x) (cK i x)]):=bP oS
     have a6:=hS.len
     have bj:=aS J
     refine dB [(2,.p U.length),(3,.p (U.length+1)),(4,.slice none 0 0),(5,.slice none 0 0),(9,.map (some mb)),(11,.p p),(83,.s (wB i) (W.nw i) (cW i)),(84,.i (W.nw i:Nat)),(85,.i (x:Nat)),(12,.i (x:Nat)),(14,.p (H.length+1)),(91,.func (.func 258) #[] #[.p (H.length+2)])] (H++[aC.rw [.s (kB i x) (W.nk i x) (cK i x)]]++[aC.rw [.bool false]]++[aC.rw [.s (kB i x) (W.nk i x) (cK i x)]]) rfl ⟨rfl,rfl,rfl,rfl,rfl,rfl,rfl,rfl,rfl,rfl,rfl,by rw [<- be];rfl,trivial⟩ ?_
     generalize (H++[aC.rw [.s (kB i x) (W.nk i x) (cK i x)]]++[aC.rw [.bool false]]++[aC.rw [.s (kB i x) (W.nk i x) (cK i x)]])=Hc at ar am ac a3 O T ah
     clear a0 ag be hf1 hd1 hM hS hni1 hmp J
     generalize H.length=z at T ah a6 bj
     clear H
     refine jU (p:=[]) (q:=[.p (z+2)]) rfl fun L hL=>?_
     obtain ⟨A,F⟩:=xy (Hc++[aC.dfr,L])
     have hAl:A.length=Hc.length+2:=by rw [F];simp
     have az:ST U A tb i:=by rw [F];exact ar.app _
     have bk:Mks (U.length+2) mk A:=by rw [F];exact am.app _
     have b9:Ni A:=by rw [F];exact aX ac (by rw [hL];rfl)
     have av:A[mb]?=some (plM i (lefts (W.lead m i) (W.nw i) x)):=by rw [F];exact aA a3
     have ad:A[p]?=some (.rw (r8 (W.bothR m i))):=by rw [F];exact aA O
     have D:A[z+1]?=some (.rw [.bool (W.nN m i x 0)]):=by rw [F];exact aA T
     have bh:A[z+2]?=some (.rw [.s (kB i x) (W.nk i x) (cK i x)]):=by rw [F];exact aA ah
     have bp:A[Hc.length]?=some .dfr:=by rw [F,bE (aD _)];simp
     have aa:A[Hc.length+1]?=some L:=by rw [F,bE oO];simp
     rw [<- F]
     have hbl1:=aS ah
     have E:z+1 ≠ Hc.length+1:=oO
     have bc:=hW.k i hi x g
     refine Dc (S:=fun y=>A.set (z+1) (.rw [.bool (W.nN m i x y)])) (n:=W.nk i x) (c:=cK i x) (kf:=W.kf i x) (ik:=kB i x) (l:=Hc.length+1) (ib:=z+2) (set_self D) (fun q=>by simp) (fun q=>aV (aB bh oO) rfl) (fun q y hy=>?_) (fun q hq=>⟨(bc q hq).1,(bc q hq).2.1⟩) (by have:=hW.nk i hi x g;omega) (fun q=>(aB aa E).trans (congrArg some hL)) (fun h q=>iW (o:=.rw [.bool _]) (by exact ⟨rfl,rfl⟩) h) ⟨rfl,rfl⟩ ?_ ?_
     ·exact dJ (take_set az.pre oO) (hT.w.kinks i hi x g y hy)
     ·intro y hy X QB bl
      have b6:=Aq hW hi g hy
      have ap:=Dh hW hi g hy
      obtain ⟨HX,a8⟩:=xy (A.set (z+1) (.rw [.bool (W.nN m i x y)])++X)
      have bq:ST U HX tb i:=by rw [a8];exact (az.setX oO _).app X
      have b4:HX[p]?=some (.rw (r8 (W.bothR m i))):=by rw [a8];exact aA (aB ad oO)
      have au:HX[z+1]?=some (.rw [.bool (W.nN m i x y)]):=by rw [a8];exact aA (aQ D)
      have bd:HX[Hc.length+1]?=some L:=by rw [a8];exact aA (aB aa E)
      have hrd:lJ (some (Hc.length+1)) (A.length+X.length)=true:=(show Nat.blt _ _=true from Nat.blt_eq.mpr oO)
      rw [<- a8]
      refine Y1 ?_
      refine vX (aA (aA bd)) hL fun B hB=>?_
      obtain ⟨HB,Vv⟩:=xy ((HX++[aC.rw [.i (W.kf i x y).1,.i (yx (W.kf i x) (W.nk i x) y)]]++[aC.rw [.i (W.kf i x y).2.1,.i (W.kf i x y).2.2]]).set (Hc.length+1) B)
      have hlx:=aS bd
      have hS:ST U HB tb i:=by rw [Vv];exact ((bq.app _).app _).setX oO _
      have ay:HB[p]?=some (.rw (r8 (W.bothR m i))):=by rw [Vv];exact aB (aA (aA b4)) oO
      have a9:HB[z+1]?=some (.rw [.bool (W.nN m i x y)]):=by rw [Vv];exact aB (aA (aA au)) oO
      have aq:HB[HX.length]?=some (.rw [.i (W.kf i x y).1,.i (yx (W.kf i x) (W.nk i x) y)]):=by rw [Vv];exact aB (aA aN) oO
      have b5:HB[HX.length+1]?=some (.rw [.i (W.kf i x y).2.1,.i (W.kf i x y).2.2]):=by rw [Vv];exact aB (bP oS) oO
      refine dB [(2,.p U.length),(3,.p (U.length+1)),(11,.p p),(14,.p (z+1)),(15,.p HX.length),(16,.p (HX.length+1))] HB (by rw [Vv];rfl) ⟨rfl,rfl,rfl,rfl,rfl,(by (refine congrArg (fun n=>some (Value.p n)) ?_;simp;try omega)),trivial⟩ ?_
      have a:=hT.take hS.pre
      have a0:=a.t
      have a5:=take_len hS.pre
      have hcl:∀ {q o:Nat},q < U.length->closed HB.length (.pointer (some ⟨q,o,none⟩))=true:=fun {q o} h=>(show Nat.blt q HB.length=true from Nat.blt_eq.mpr oO)
      have hcs:∀ {q o n c:Nat},q < U.length->closed HB.length (.slice (some ⟨q,o,none⟩) n c)=true:=fun h=>cZ (Nat.blt_eq.mpr oO)
      have hqX:∀ X,aI (HB++X) (z+1) (0+0)=some (.bool (W.nN m i x y)):=fun X=>aF (aA a9)
      have h20X:∀ X,aK (HB++X) HX.length 0 2=some [.i (W.kf i x y).1,.i (yx (W.kf i x) (W.nk i x) y)]:=fun X=>aV (aA aq) rfl
      have h21X:∀ X,aK (HB++X) (HX.length+1) 0 2=some [.i (W.kf i x y).2.1,.i (W.kf i x y).2.2]:=fun X=>aV (aA b5) rfl
      have hput:∀ v X,putCells (HB++X) (z+1) 0 [v]=some ((HB++X).set (z+1) (.rw [v])):=fun v X=>fF (aA a9) oS oS rfl
      have K:(W.bothR m i).length=1001:=by unfold Wk.bothR;rw [KJ];exact kY hW i oO
      have hf1:=TY (U:=HB++([]:Heap)) (i:=p) (.inr (.inl (aA ay))) K b6.1 b6.2.2 (by have:=b6.2.1;omega)
      have hf2:=yw (U:=HB++([]:Heap)) (lF (i:=i+1) (.inl (aA a.r)) (fun j _=>lG hW hm j) oO) (lG hW hm _) ap.1 ap.2.2 (by have:=ap.2.1;omega)
      have hi1:i+1<W.ns+1:=oO
      have ao:∀ {e:Env} {b:Bool},b=W.nN m i x (y+1)->QB .normal e [] ((HB++([]:Heap)).set (z+1) (.rw [.bool b])):=fun {e b} hb=>by
       have bn:(HB++([]:Heap)).set (z+1) (.rw [.bool b])=(A.set (z+1) (.rw [.bool (W.nN m i x (y+1))])).set (Hc.length+1) B++X++[aC.rw [.i (W.kf i x y).1,.i (yx (W.kf i x) (W.nk i x) y)],aC.rw [.i (W.kf i x y).2.1,.i (W.kf i x y).2.2]]:=by
        rw [bN,hb,Vv,a8];exact FX (aS D) (aS aa) E
       rw [bn,hB];exact bl _ _ _
      by_cases I:W.nN m i x y=true
      ·refine Y1 ?_
       exact ao (by simp only [Wk.nN];rw [I];rfl)
      ·have G:W.nN m i x y=false:=by simpa using I
       by_cases bb:kS (W.own i x y).1 (W.own i x y).2 (W.bothR m i)=true
       ·refine Y1 ?_
        exact ao (by simp only [Wk.nN];rw [G,bb];rfl)
       ·have b8:kS (W.own i x y).1 (W.own i x y).2 (W.bothR m i)=false:=by simpa using bb
        refine Y1 ?_
        exact ao (by simp only [Wk.nN];rw [G,b8];rfl)
     ·refine ⟨.ready,none,_,_,_,_,_,(aB aa E).trans (congrArg some hL),by simp,?_⟩
      show (dK 6 _) _ _ _ _
      refine uz ?_
      refine rG ?_
      have hcm:=aS a3
      have hcp:=aS O
      have hcl1:=ar.len
      have ak:=(az.setX (i:=z+1) oO (.rw [.bool (W.nN m i x (W.nk i x))])).setX (i:=Hc.length+1) oO .dead
      have ai:Mks (U.length+2) (Hc.length::mk) ((A.set (z+1) (.rw [.bool (W.nN m i x (W.nk i x))])).set (Hc.length+1) .dead):=Mks.cons ((bk.set D oS).set (aB aa E) (by rw [hL];simp)) (am.new (aD _)) oO (aB (aB bp oO) oO)
      have a4:((A.set (z+1) (.rw [.bool (W.nN m i x (W.nk i x))])).set (Hc.length+1) .dead).all (fun o=>!aU o)=true:=jr (jr b9 rfl) rfl
      have C:((A.set (z+1) (.rw [.bool (W.nN m i x (W.nk i x))])).set (Hc.length+1) .dead)[mb]?=some (plM i (lefts (W.lead m i) (W.nw i) x)):=aB (aB av oO) oO
      have ZZ:((A.set (z+1) (.rw [.bool (W.nN m i x (W.nk i x))])).set (Hc.length+1) .dead)[p]?=some (.rw (r8 (W.bothR m i))):=aB (aB ad oO) oO
      have a0:((A.set (z+1) (.rw [.bool (W.nN m i x (W.nk i x))])).set (Hc.length+1) .dead)[z+1]?=some (.rw [.bool (W.nN m i x (W.nk i x))]):=aB (aQ D) oO
      refine dB [(2,.p U.length),(3,.p (U.length+1)),(4,.slice none 0 0),(5,.slice none 0 0),(9,.map (some mb)),(11,.p p),(83,.s (wB i) (W.nw i) (cW i)),(84,.i (W.nw i:Nat)),(85,.i (x:Nat)),(12,.i (x:Nat)),(14,.p (z+1))] ((A.set (z+1) (.rw [.bool (W.nN m i x (W.nk i x))])).set (Hc.length+1) .dead) rfl tE ?_
      generalize ((A.set (z+1) (.rw [.bool (W.nN m i x (W.nk i x))])).set (Hc.length+1) .dead)=H at ak ai a4 C ZZ a0
      generalize Hc.length::mk=mk2 at ai
      have hS:=ak
      rw [show W.nN m i x (W.nk i x)=W.lead m i x from rfl] at a0
      by_cases I:W.lead m i x=true
      ·have bo:(!W.lead m i x)=false:=by rw [I];rfl
       refine pG ?_
       exact ⟨x+1,⟨oO,ai,ak,a4,by rw [Uf I];exact C,ZZ⟩,oO,tE⟩
      ·have G:W.lead m i x=false:=by simpa using I
       have bo:(!W.lead m i x)=true:=by rw [G];rfl
       refine pG ?_
       refine stN (Bj (kv:=kv) (k:=plG i x) rfl (by exact C) rfl) rfl ?_
       rw [afU (Ja i) (aaC g) (Ue _ _ _),<- Ug G]
       refine pG ?_
       exact ⟨x+1,⟨oO,ai.set C (by simp [jv]),ak.setX oO _,jr a4 rfl,aQ C,aB ZZ oO⟩,oO,tE⟩
    ·obtain rfl:x=W.nw i:=oO
     have Y:¬ ((W.nw i:Nat):Int)<(W.nw i:Nat):=oO
     have a:=hT.take hS.pre
     have a0:=a.t
     have a5:=take_len hS.pre
     have hcl:∀ {q o:Nat},q < U.length->closed H.length (.pointer (some ⟨q,o,none⟩))=true:=fun {q o} h=>(show Nat.blt q H.length=true from Nat.blt_eq.mpr oO)
     have hcs:∀ {q o n c:Nat},q < U.length->closed H.length (.slice (some ⟨q,o,none⟩) n c)=true:=fun h=>cZ (Nat.blt_eq.mpr oO)
     have hw:∀ X,aI (H++X) bS (i+0)=some (.s (wB i) (W.nw i) (cW i)):=fun X=>eX (k:=0) ((hT.w.take (aP hS.pre)).steps i hi) oO
     rw [aaB] at hmp
     have a6:=hS.len
     refine pG ?_
     rw [show H++gV (fun _=>true) []=H from bN H]
     refine Uc 3 ?_
     refine dO (ι:=Nat×Nat) (fun k=>[(3,.p (U.length+1)),(4,.slice none 0 0),(5,eP k.2 1 ((List.range k.1).filter fun y=>W.lead m i y).length),(9,.map (some mb)),(126,.i (W.nw i:Nat)),(127,.i (k.1:Nat))])
      (fun k mk H=>k.1<=W.nw i/\Mks (U.length+2) mk H/\ST U H tb i/\H[mb]?=some (plM i ((List.range (W.nw i)).filter fun y=>W.lead m i y))/\U.length+2<=k.2/\H[k.2]?=some (.gr (gQ ((List.range k.1).filter fun y=>W.lead m i y)) 3)) (fun k=>W.nw i - k.1) (0,H.length) tE ⟨bL _,hM.app _,hS.app _,aA hmp,hS.len,aN⟩ ?_
     clear hw hcs hcl a5 a0 a hS hM hni1 hmp J Y g hx a6 H mk
     rintro ⟨x,jo⟩ mk H ⟨hx,hM,hS,hmp,P,hg⟩
     dsimp only at hx P hg
     dsimp only
     obtain ⟨lk,d⟩:=xy ((List.range x).filter fun y=>W.lead m i y)
     rw [<- d] at hg
     rw [<- d]
     have ba:lk.length<=x:=by rw [d];exact filter_le _ _
     by_cases g:x<W.nw i
     ·have Y:(x:Int)<(W.nw i:Nat):=oO
      have hgX:(H++[aC.rw [.i (x:Nat)]])[jo]?=some (.gr (gQ lk) 3):=aA hg
      have hgl:(gQ lk).length=lk.length*1:=by rw [vY,cH]
      by_cases I:W.lead m i x=true
      ·have hget:iO (mpL (plG i) plV ((List.range (W.nw i)).filter fun y=>W.lead m i y)) (plG i x)=some (plV x):=afV (Ja i) (List.mem_filter.2 ⟨List.mem_range.2 g,I⟩)
       have u:((List.range (x+1)).filter fun y=>W.lead m i y)=lk++[x]:=by rw [wV,<- d,if_pos I]
       refine pG ?_
       have e5:eP (H++[aC.rw [.i (x:Nat)]]).length 1 (lk.length+1)=eP (H.length+1) 1 ((List.range (x+1)).filter fun y=>W.lead m i y).length:=by rw [u];simp
       have bg:=hS.len
       refine ⟨(x+1,H.length+1),⟨by dsimp only;omega,((hM.app _).set hgX oS).app _,((hS.app _).setX P _).app _,aA (aB (aA hmp) (fun h=>by rw [h,hmp] at hg;cases hg)),by dsimp only;omega,?_⟩,by dsimp only;omega,⟨rfl,rfl,congrArg some e5,rfl,rfl,rfl,trivial⟩⟩
       dsimp only
       rw [u,BG]
       exact bP oS
      ·have hget:iO (mpL (plG i) plV ((List.range (W.nw i)).filter fun y=>W.lead m i y)) (plG i x)=none:=adg (Ja i) (fun h=>I (List.mem_filter.1 h).2)
       have u:((List.range (x+1)).filter fun y=>W.lead m i y)=lk:=by rw [wV,<- d,if_neg I,bN]
       refine pG ?_
       refine ⟨(x+1,jo),⟨by dsimp only;omega,hM,hS,hmp,P,?_⟩,by dsimp only;omega,⟨rfl,rfl,by dsimp only;rw [u];rfl,rfl,rfl,rfl,trivial⟩⟩
       dsimp only
       rw [u]
       exact hg
     ·obtain rfl:x=W.nw i:=oO
      have Y:¬ ((W.nw i:Nat):Int)<(W.nw i:Nat):=oO
      rw [<- aw] at d
      subst d
      refine pG ?_
      have s0:fK U.length [jo] U.length=⟨jo,0,0⟩:=by simp [fK]
      have kj:=rD hg (hM.not hg oS)
      exact Qk hM (v2:=slN U.length lk.length) (.tmp rfl .nil) (aW.src [.rw (gQ lk)] [jo] (nR hS.pre fun x hx=>by have:=(hM.2 x hx).1;omega) rfl (by simp [dF];omega) ⟨lC s0 (.inr ⟨_,kj⟩) (oI _),trivial⟩ (KG oS s0)) ⟨rfl,rfl⟩
theorem _root_.Go.AH.Ol {lo hi:Int} {l:List Int}:(¬ (kR lo hi l>=0))↔(∀ y ∈ l,lo<=y/\y<=hi):=by
 rw [Oa]
 constructor
 ·intro h y hy
  obtain ⟨i,a,rfl⟩:=ew hy
  have:gi l i=l[i]:=by simp [gi,a]
  refine Classical.byContradiction fun hn=>h ⟨i,a,?_⟩
  rw [this];omega
 ·rintro h ⟨i,a,h2⟩
  have:gi l i=l[i]:=by simp [gi,a]
  have:=h l[i] (cP a)
  omega
theorem Uh (n lo hi:Int):Ev prog 173 [.i n,.p 0,.p 1] [.ro [.i lo],.ro [.i hi]] (.bool (decide (n<lo\/n > hi))) [.ro [.i lo],.ro [.i hi]]:=by
 refine aH 2 13 func173 (h:=?_)
 repeat' (first|refine sCm ?_|(refine gU ?_;first|refine Iw ?_|refine sK0 ?_|(refine lM ?_;first|refine st (kC rfl (by exact fE oA) rfl) rfl rfl ?_|refine st (je rfl (by exact bM oA) rfl) rfl rfl ?_))|(refine gG ?_;first|refine WE ?_|(refine cO ?_;refine stG rfl (by exact bM oA) (aJ rfl oR) rfl rfl ?_)|refine TJ ?_|refine aap ?_|((fail_if_success (refine VO rfl oR ?_));(refine zC rfl ?_ ?_ <;> intro _)))|refine aG ?_)
 all_goals
  refine dG (.tmp rfl .nil) (.plain rfl rfl) ⟨?_,rfl⟩
  simp only [jH,Value.bool.injEq]
  (simp;omega)
theorem Ui {U:Heap} {n lo hi:Int} {a b:Nat} (ha:dD U a [.i lo]) (hb:dD U b [.i hi]) (hni:Ni U) :
  Ev prog 173 [.i n,.p a,.p b] U (.bool (decide (n<lo\/n > hi))) U :=
 Ev.arrs [[.i lo],[.i hi]] [a,b] (Uh n lo hi) ⟨ha,hb,trivial⟩ ⟨.int _ _,by simpa [bsR] using VQ.ptr (q:=true) (n:=2) (V:=bsR [a,b]) 0 0 oO,by simpa [bsR] using VQ.ptr (q:=true) (n:=2) (V:=bsR [a,b]) 1 0 oO,trivial⟩ rfl rfl hni
theorem MI (l:List Int) (lo hi:Int) (c:Nat) (hN:l.length<=1000000) :
  Ev prog 102 [.s 0 l.length c,.func (.func 173) #[] #[.p 1,.p 2]] [.ro (ints l),.ro [.i lo],.ro [.i hi]] (.i (kR lo hi l)) [.ro (ints l),.ro [.i lo],.ro [.i hi]]:=by
 refine aH 3 19 func102 (h:=?_)
 repeat' (first|refine sCm ?_|refine aG ?_)
 refine jq (ι:=Nat) (fun i=>[(0,.s 0 l.length c),(1,.func (.func 173) #[] #[.p 1,.p 2]),(7,.i (l.length:Int)),(8,.i (i:Int))])
  (fun _=>[.ro (ints l),.ro [.i lo],.ro [.i hi]]) (fun i=>l.length - i) (fun i=>i<=l.length/\∀ j<i,¬ (gi l j<lo\/gi l j > hi)) 0 oS (.same tE) ⟨oO,fun j h=>oO⟩ ?_
 intro i ⟨hi',a⟩
 have d:i<l.length->aI [.ro (ints l),.ro [.i lo],.ro [.i hi]] 0 i=some (.i (gi l i)):=fun h=>iF h
 repeat' (first|refine sCm ?_|(refine gU ?_;first|(refine cO ?_;refine st (aJ rfl (by exact d oO)) rfl rfl ?_)|refine sK0 ?_|refine sK6 ?_|(refine dV ?_;refine st (bC rfl rfl rfl (by exact Ui (by exact .inl rfl) (by exact .inl rfl) rfl)) rfl rfl ?_))|refine aG ?_|(refine jm rfl ?_ ?_ <;> intro _))
 ·refine dG (.tmp rfl .nil) (.plain rfl rfl) ⟨?_,rfl⟩
  simp only [jH]
  rw [su oO oA a]
 ·refine ⟨rfl,i+1,⟨oO,fun j hj=>?_⟩,oO,.same tE⟩
  by_cases e:j=i
  ·subst e;assumption
  ·exact a j oO
 ·refine dG (.tmp rfl .nil) (.plain rfl rfl) ⟨?_,rfl⟩
  simp only [jH]
  rw [sD fun j hj=>a j oO]
theorem MJ {U:Heap} {l:List Int} {lo hi:Int} {x a b c:Nat} (hx:dD U x (ints l)) (ha:dD U a [.i lo]) (hb:dD U b [.i hi]) (hN:l.length<=1000000) (hni:Ni U) :
  Ev prog 102 [.s x l.length c,.func (.func 173) #[] #[.p a,.p b]] U (.i (kR lo hi l)) U :=
 Ev.arrs [ints l,[.i lo],[.i hi]] [x,a,b] (MI l lo hi c hN) ⟨hx,ha,hb,trivial⟩
  ⟨by simpa [bsR] using VQ.slice (q:=true) (n:=3) (V:=bsR [x,a,b]) 0 0 l.length c c (aD _) oO,
   vsub_fn2 (by simpa [bsR] using VQ.ptr (q:=true) (n:=3) (V:=bsR [x,a,b]) 1 0 oO) (by simpa [bsR] using VQ.ptr (q:=true) (n:=3) (V:=bsR [x,a,b]) 2 0 oO),trivial⟩ (by simp [aZ,dN,plain]) rfl hni
theorem F7 (l:List Int) (lo hi:Int) (c:Nat) (hN:l.length<=1000000) :
  Ev prog 172 [.s 0 l.length c,.func (.func 173) #[] #[.p 1,.p 2]] [.ro (ints l),.ro [.i lo],.ro [.i hi]] (.bool (decide (kR lo hi l>=0))) [.ro (ints l),.ro [.i lo],.ro [.i hi]]:=by
 refine aH 3 9 func172 (h:=?_)
 repeat' (first|refine sCm ?_|(refine gU ?_;first|refine sK0 ?_|(refine dV ?_;refine st (bC rfl rfl rfl (by exact MJ (by exact .inl rfl) (by exact .inl rfl) (by exact .inl rfl) oO rfl)) rfl rfl ?_))|refine aG ?_)
 refine dG (.tmp rfl .nil) (.plain rfl rfl) ⟨?_,rfl⟩
 rfl
theorem F8 {U:Heap} {l:List Int} {lo hi:Int} {x a b c:Nat} (hx:dD U x (ints l)) (ha:dD U a [.i lo]) (hb:dD U b [.i hi]) (hN:l.length<=1000000) (hni:Ni U) :
  Ev prog 172 [.s x l.length c,.func (.func 173) #[] #[.p a,.p b]] U (.bool (decide (kR lo hi l>=0))) U :=
 Ev.arrs [ints l,[.i lo],[.i hi]] [x,a,b] (F7 l lo hi c hN) ⟨hx,ha,hb,trivial⟩
  ⟨by simpa [bsR] using VQ.slice (q:=true) (n:=3) (V:=bsR [x,a,b]) 0 0 l.length c c (aD _) oO,
   vsub_fn2 (by simpa [bsR] using VQ.ptr (q:=true) (n:=3) (V:=bsR [x,a,b]) 1 0 oO) (by simpa [bsR] using VQ.ptr (q:=true) (n:=3) (V:=bsR [x,a,b]) 2 0 oO),trivial⟩ (by simp [aZ,dN,plain]) rfl hni
theorem WY (l:List Int) (lo hi:Int) (c:Nat) (hN:l.length<=1000000) :
  Ev prog 81 [.i lo,.i hi,.s 0 l.length c] [.ro (ints l)] (.bool (decide (¬ (kR lo hi l>=0)))) [.ro (ints l)]:=by
 refine aH 1 11 func81 (h:=?_)
 repeat' (first|refine sCm ?_|(refine gU ?_;first|refine TK ?_|refine sK7 ?_|(refine dV ?_;refine st (bC rfl rfl rfl (by exact F8 (by exact .inl rfl) (by exact .inr (.inl rfl)) (by exact .inr (.inl rfl)) oO rfl)) rfl rfl ?_))|refine aG ?_)
 refine dG (.tmp rfl .nil) (.plain rfl rfl) ⟨?_,rfl⟩
 rfl
theorem WZ {U:Heap} {l:List Int} {lo hi:Int} {x c:Nat} (hx:dD U x (ints l)) (hN:l.length<=1000000) (hni:Ni U) :
  Ev prog 81 [.i lo,.i hi,.s x l.length c] U (.bool (decide (¬ (kR lo hi l>=0)))) U :=
 Ev.arrs [ints l] [x] (WY l lo hi c hN) ⟨hx,trivial⟩ ⟨.int _ _,.int _ _,by simpa [bsR] using VQ.slice (q:=true) (n:=1) (V:=bsR [x]) 0 0 l.length c c (aD _) oO,trivial⟩ (by simp [aZ]) rfl hni
theorem Hl {U:Heap} {l:List Int} {lo hi:Int} {x c:Nat} (hx:dD U x (ints l)) (hN:l.length<=1000000) (hni:Ni U) :
  Ev prog 81 [.i lo,.i hi,.s x l.length c] U (.bool (decide (∀ y ∈ l,lo<=y/\y<=hi))) U:=by
 have h:=WZ (U:=U) (l:=l) (lo:=lo) (hi:=hi) (c:=c) hx hN hni
 have e:(¬ (kR lo hi l>=0))↔(∀ y ∈ l,lo<=y/\y<=hi):=Go.AH.Ol
 simpa [e] using h
end Go.Proofs.YtajpgeklmcjciaaGreat
namespace Go.AH.Heat
structure adk (n:Nat) (kf:Nat->Int×Int×Int):Prop where
 n1:0<n
 n2:n<=12
 z:(kf 0).1=0
 k:kOk n kf
 r:∀ q,q+1<n->(kf q).2.1<=(kf (q+1)).2.1/\(kf (q+1)).2.1<=(kf q).2.2+1/\(kf q).2.2<=(kf (q+1)).2.2
theorem MK {H:Heap} {a b c:Value}:aK (H++[aC.rw [a,b,c]]) H.length (0+1) 2=some [b,c]:=by
 unfold aK;rw [aN];rfl
theorem wW {H:Heap} {b o:Nat} {x y z:Value} (h:aK H b o 3=some [x,y,z]):aK H b (o+1) 2=some [y,z]:=by
 unfold aK at h ⊢
 cases hb:H[b]? with
 |none=>rw [hb] at h;cases h
 |some ob =>
  rw [hb] at h
  have a:∀ l:List Value,(bif Nat.ble (o+3) l.length then some ((l.drop o).take 3) else none)=some [x,y,z]->(bif Nat.ble (o+1+2) l.length then some ((l.drop (o+1)).take 2) else none)=some [y,z]:=fun l h=>by
   cases hl:Nat.ble (o+3) l.length with
   |false=>rw [hl] at h;cases h
   |true =>
    rw [hl] at h
    simp only [cond_true,Option.some.injEq] at h
    have e:l.drop (o+1)=(l.drop o).drop 1:=by rw [fg]
    have:=congrArg (List.drop 1) h
    rw [List.drop_take,<- e] at this
    simpa using this
  cases ob with
  |ro l=>exact a l h
  |rw l=>exact a l h
  |gr l t=>exact a l h
  |deep q sp=>exact absurd (show none=some _ from h) oS
  |_=>cases h
end Go.AH.Heat
namespace Go.Proofs.YtajpgeklmcjciaaGreat
attribute [local irreducible] dA bJ bK jh fQ dK eH bY eu aW dR dW
open Go.AH.Heat
theorem ahe {A B:Prop} (k:B) (h:Hide B->A:=by intro z_;(repeat' (first|refine sCm ?_|(refine gU ?_;first|refine Iw ?_|refine sK0 ?_|(refine lM ?_;first|refine st (ji rfl rfl) rfl rfl ?_|refine st (jk rfl rfl) rfl rfl ?_))|(refine gG ?_;first|refine MB ?_|(refine cO ?_;refine pY rfl (aJ rfl (by rfl)) rfl rfl ?_)|(refine dV ?_;refine pY rfl (bC rfl rfl rfl (by exact Hl (l:=[lo,hi]) (by exact .inr (.inl rfl)) (by simp) rfl)) rfl rfl ?_)|(refine Bc ?_;refine pY rfl (oW (by rfl) (by rfl) (by rfl) (by rfl) rfl (by rfl)) rfl rfl ?_)|refine Qe rfl rfl ?_)|refine aG ?_));exact z_.h):A:=h ⟨k⟩
theorem aaD (lo hi:Int):Ev prog 167 [.agg #[.i lo,.i hi]] [] (.bool (decide (0<=lo/\lo<=hi/\hi<=1000))) []:=by
 refine aH 0 16 func167 (h:=?_)
 by_cases hlh:lo<=hi
 ·refine ahe ?_
  refine dG (.tmp rfl .nil) (.plain rfl rfl) ⟨?_,rfl⟩
  simp only [jH,Value.bool.injEq]
  refine decide_eq_decide.2 ⟨fun h=>?_,fun h y hy=>?_⟩
  ·have h1:=h lo oS
   have h2:=h hi oS
   omega
  ·simp only [List.mem_cons,List.not_mem_nil,or_false] at hy
   rcases hy with rfl|rfl <;> omega
 ·refine ahe ?_
  refine dG (.tmp rfl .nil) (.plain rfl rfl) ⟨?_,rfl⟩
  simp only [jH,Value.bool.injEq]
  rw [eq_comm,decide_eq_false_iff_not];omega
theorem F9 {U:Heap} {lo hi:Int} (hni:Ni U):Ev prog 167 [.agg #[.i lo,.i hi]] U (.bool (decide (0<=lo/\lo<=hi/\hi<=1000))) U:=Ev.nil (aaD lo hi) rfl rfl hni
theorem Om {A B:Prop} (k:B) (h:Hide B->A:=by intro z_;(repeat' (first|refine sCm ?_|(refine gU ?_;first|refine st (Bh (l:=1) rfl rfl (by omega) (by omega)) rfl rfl ?_|(refine cO ?_;first|refine st (aJ rfl (by first|exact ig rfl|exact aF a0|exact aF a2|exact aF (aA a0))) rfl rfl ?_|refine st (bG rfl (by assumption)) rfl rfl ?_)|refine sK9 ?_|refine sK0 ?_|refine TL ?_|refine TK ?_|refine sK3 ?_|(refine dV ?_;refine st (bC rfl rfl rfl (by exact Hl (l:=[(kf (x+1)).2.1]) (.inr (.inl aN)) (by simp) hni2)) rfl rfl ?_)|refine Me ?_|refine sK8 ?_)|(refine gG ?_;first|refine Ko ?_|refine MB ?_|(refine cO ?_;first|refine pY rfl (aJ rfl (by first|exact ig rfl|exact aF (aA a2)|exact aF (aA aN))) rfl rfl ?_|refine pY rfl (bG rfl (by exact MK)) rfl rfl ?_)|refine FQ ?_|refine MC ?_|(refine lM ?_;first|refine pY rfl (ji rfl rfl) rfl rfl ?_|refine pY rfl (jk rfl rfl) rfl rfl ?_)|(refine rW ?_;refine pY rfl (Ba rfl) rfl rfl ?_)|(refine dV ?_;refine pY rfl (bC rfl rfl rfl (by exact F9 hni1)) rfl rfl ?_)|refine Qe rfl rfl ?_)|refine aG ?_|refine fA rfl ?_|refine fM rfl ?_));exact z_.h):A:=h ⟨k⟩
theorem Uj {U:Heap} {b n c:Nat} {kf:Nat->Int×Int×Int} (hv:adk n kf) (hc:n<=c) (hk:∀ q<n,aK U b (q*3) 3=some (jP (kf q))) (hni:Ni U) :
  Ev prog 104 [.agg #[.s b n c]] U (.i 0) U:=by
 have hn1:=hv.n1
 have hn2:=hv.n2
 refine aH U.length 90 func104 (h:=?_)
 have a0:(U++[aC.rw [.s b n c]])[U.length]?=some (.rw [.s b n c]):=aN
 have hn0:¬ (n:Int)=0:=oO
 have hn3:¬ (n:Int) > 12:=oO
 refine Om ?_
 refine dO (ι:=Nat) (fun k=>[(1,.p U.length),(3,.i (if k=0 then 0 else (kf (k - 1)).1+1)),(20,.s b n c),(21,.i (n:Nat)),(22,.i (k:Nat))])
  (fun k mk H=>k<=n/\mk=[]/\H.take (U++[aC.rw [.s b n c]]).length=U++[aC.rw [.s b n c]]/\H.all (fun o=>!aU o)=true) (fun k=>n - k) 0 tE ⟨bL _,rfl,eb,aX hni rfl⟩ ?_
 clear a0
 rintro k mk H ⟨hkn,rfl,hp,a⟩
 have d:H.take U.length=U:=by
  have:=congrArg (List.take U.length) hp
  rw [eA] at this
  simpa using this
 have a0:H[U.length]?=some (.rw [.s b n c]):=by rw [jL hp oS];exact aN
 by_cases g:k<n
 ·have C:(k:Int)<(n:Nat):=oO
  have hd1:aK H b (0+k*3) 3=some (jP (kf k)):=by rw [aR];exact dJ d (hk k g)
  have f:=hv.k k g
  have v:0<=(kf k).2.1/\(kf k).2.1<=(kf k).2.2/\(kf k).2.2<=1000:=f.2.2.1
  obtain ⟨nx,j⟩:=xy ((if k=0 then 0 else (kf (k - 1)).1+1))
  have h1:¬ (kf k).1<nx:=by
   rw [j];split
   ·omega
   ·have:=(hv.k (k - 1) oO).2.2.2 oO
    rw [show k - 1+1=k by omega] at this;omega
  have h2:¬ (kf k).1 > 1000:=oO
  have h3:k=0->¬ (kf k).1 > 0:=fun h=>by rw [h,hv.z];omega
  have hni1:(H++[aC.rw (jP (kf k))]).all (fun o=>!aU o)=true:=aX a rfl
  rw [<- j]
  by_cases u:k=0
  ·have e:(k:Int)=0:=oO
   have h3:=h3 u
   refine Om ?_
   exact ⟨k+1,⟨oO,rfl,aP hp,hni1⟩,oO,⟨rfl,by rw [if_neg oO,Nat.add_sub_cancel];rfl,rfl,rfl,rfl,trivial⟩⟩
  ·have e:¬ (k:Int)=0:=oO
   refine Om ?_
   exact ⟨k+1,⟨oO,rfl,aP hp,hni1⟩,oO,⟨rfl,by rw [if_neg oO,Nat.add_sub_cancel];rfl,rfl,rfl,rfl,trivial⟩⟩
 ·obtain rfl:k=n:=oO
  have C:¬ (k:Int)<(k:Nat):=oO
  refine Om ?_
  refine dO (ι:=Nat) (fun x=>[(1,.p U.length),(57,.slice (some ⟨b,0+1*3,none⟩) (k - 1) (c - 1)),(58,.i ((k - 1:Nat):Int)),(59,.i (x:Nat))])
   (fun x mk H=>x<=k - 1/\mk=[]/\H.take (U++[aC.rw [.s b k c]]).length=U++[aC.rw [.s b k c]]/\H.all (fun o=>!aU o)=true) (fun x=>k - 1 - x) 0 tE ⟨bL _,rfl,hp,a⟩ ?_
  clear a0 d hp a H
  rintro x mk H ⟨hx,rfl,hp,a⟩
  have d:H.take U.length=U:=by
   have:=congrArg (List.take U.length) hp
   rw [eA] at this
   simpa using this
  have a0:H[U.length]?=some (.rw [.s b k c]):=by rw [jL hp oS];exact aN
  by_cases hxk:x<k - 1
  ·have w:(x:Int)<((k - 1:Nat):Int):=oO
   have hd1:aK H b (0+1*3+x*3) 3=some (jP (kf (x+1))):=by rw [show 0+1*3+x*3=(x+1)*3 by omega];exact dJ d (hk (x+1) oO)
   have hd2:aK (H++[aC.rw (jP (kf (x+1)))]) b (0+x*3+1) 2=some [.i (kf x).2.1,.i (kf x).2.2]:=by
    rw [aR];exact wW (dJ (aP d) (hk x oO))
   have hr:=hv.r x oO
   have f:=hv.k x oO
   have v:0<=(kf x).2.1/\(kf x).2.1<=(kf x).2.2/\(kf x).2.2<=1000:=f.2.2.1
   have hw1:¬ ¬ (∀ y ∈ [(kf (x+1)).2.1],(kf x).2.1<=y/\y<=(kf x).2.2+1):=by simp;omega
   have a2:(H++[aC.rw (jP (kf (x+1)))]++[aC.rw [.i (kf x).2.1,.i (kf x).2.2]])[H.length]?=some (.rw (jP (kf (x+1)))):=aA aN
   have a1:(H++[aC.rw (jP (kf (x+1)))]++[aC.rw [.i (kf x).2.1,.i (kf x).2.2]])[H.length+1]?=some (.rw [.i (kf x).2.1,.i (kf x).2.2]):=bP oS
   have hh:¬ (kf (x+1)).2.2<(kf x).2.2:=oO
   have hni2:(H++[aC.rw (jP (kf (x+1)))]++[aC.rw [.i (kf x).2.1,.i (kf x).2.2]]++[aC.rw [.i (kf (x+1)).2.1]]).all (fun o=>!aU o)=true:=aX (aX (aX a rfl) rfl) rfl
   refine Om ?_
   exact ⟨x+1,⟨oO,rfl,aP (aP (aP hp)),hni2⟩,oO,tE⟩
  ·obtain rfl:x=k - 1:=oO
   have w:¬ ((k - 1:Nat):Int)<((k - 1:Nat):Int):=oO
   refine Om ?_
   exact dG (.tmp rfl .nil) (.plain d rfl) ⟨rfl,rfl⟩
end Go.Proofs.YtajpgeklmcjciaaGreat
namespace Go.AH
def fIx (p:Nat->Bool) (n:Nat):Int:=match (List.range n).find? p with|some i=>i|none=>-1
theorem Ey {p:Nat->Bool} {n i:Nat} (hi:i<n) (h:p i=true) (hall:∀ j<i,p j=false):fIx p n=i:=by
 have:(List.range n).find? p=some i:=by
  rw [List.find?_range_eq_some]
  exact ⟨h,List.mem_range.2 hi,fun j hj=>by rw [hall j hj];rfl⟩
 unfold fIx;rw [this]
theorem Au {p:Nat->Bool} {n:Nat} (hall:∀ j<n,p j=false):fIx p n=-1:=by
 have:(List.range n).find? p=none:=by rw [List.find?_eq_none];intro x hx;rw [hall x (List.mem_range.1 hx)];simp
 unfold fIx;rw [this]
theorem Qm {p:Nat->Bool} {n:Nat}:fIx p n>=0↔∃ j<n,p j=true:=by
 unfold fIx
 cases h:(List.range n).find? p with
 |none =>
  rw [List.find?_eq_none] at h
  constructor
  ·intro h2;simp at h2
  ·rintro ⟨j,hj,hp⟩;exact absurd hp (h j (List.mem_range.2 hj))
 |some i =>
  have h1:=List.find?_some h
  have h2:=List.mem_of_find?_eq_some h
  exact ⟨fun _=>⟨i,List.mem_range.1 h2,h1⟩,fun _=>by simp only;omega⟩
end Go.AH
namespace Go.Proofs.YtajpgeklmcjciaaGreat
attribute [local irreducible] dA bJ bK jh fQ dK eH bY eu aW dR dW
theorem zH {A B:Prop} (k:B) (h:Hide B->A:=by intro z_;(repeat' (first|refine sCm ?_|(refine gU ?_;first|(refine cO ?_;first|refine st (aJ rfl (by exact hd1)) rfl rfl ?_|refine st (bG rfl (by exact hd1)) rfl rfl ?_)|refine sK0 ?_|(refine gIA ?_;first|refine st (qR rfl rfl (by omega)) rfl rfl ?_|refine st (iE rfl rfl (by omega)) rfl rfl ?_)|(refine dV ?_;refine st (bC rfl rfl rfl (by exact hcall k hkn)) rfl rfl ?_))|refine aG ?_|refine oV rfl (by first|rfl|exact fE (by assumption)|assumption) ?_|refine lg rfl (by first|rfl|exact bM (by assumption)|assumption) ?_));exact z_.h):A:=h ⟨k⟩
theorem adl {U:Heap} {b n c:Nat} {el:Nat->List Value} {f:FuncId} [GoFn prog f] {p q:List Value} {pb:Nat->Bool} (hb:∀ j<n,aK U b (j*2) 2=some (el j)) (hcall:∀ j<n,Ev prog f (p++[.agg (el j).toArray]++q) U (.bool (pb j)) U) (hn:n<=1000000) :
  Ev prog 284 [.s b n c,.func (.func f) p.toArray q.toArray] U (.i (fIx pb n)) U:=by
 refine aH U.length 19 func284 (h:=?_)
 refine zH ?_
 refine dO (ι:=Nat) (fun k=>[(0,.s b n c),(1,.func (.func f) p.toArray q.toArray),(7,.i (n:Nat)),(8,.i (k:Nat))]) (fun k mk H=>k<=n/\mk=[]/\U=H/\∀ j<k,pb j=false) (fun k=>n - k) 0 tE ⟨bL _,rfl,rfl,fun j h=>oO⟩ ?_
 rintro k mk H ⟨hk,rfl,rfl,a⟩
 by_cases hkn:k<n
 ·have g:(k:Int)<(n:Nat):=oO
  have hd1:aK U b (0+k*2) 2=some (el k):=by rw [aR];exact hb k hkn
  by_cases hp:pb k=true
  ·refine zH ?_
   refine dG (.tmp rfl .nil) .all ⟨?_,rfl⟩
   simp only [jH]
   rw [Ey hkn hp a]
  ·have e:pb k=false:=by simpa using hp
   refine zH ?_
   exact ⟨k+1,⟨oO,rfl,rfl,fun j hj=>by
    by_cases d:j=k
    ·rw [d];exact e
    ·exact a j oO⟩,oO,tE⟩
 ·obtain rfl:k=n:=oO
  have g:¬ (k:Int)<(k:Nat):=oO
  refine zH ?_
  refine dG (.tmp rfl .nil) .all ⟨?_,rfl⟩
  simp only [jH]
  rw [Au a]
theorem adn {A B:Prop} (k:B) (h:Hide B->A:=by intro z_;(repeat' (first|refine sCm ?_|(refine gU ?_;first|refine sK0 ?_|(refine dV ?_;refine st (bC rfl rfl rfl (by exact hf1)) rfl rfl ?_))|refine aG ?_));exact z_.h):A:=h ⟨k⟩
theorem ado {U:Heap} {b n c:Nat} {el:Nat->List Value} {f:FuncId} [GoFn prog f] {p q:List Value} {pb:Nat->Bool} (hb:∀ j<n,aK U b (j*2) 2=some (el j)) (hcall:∀ j<n,Ev prog f (p++[.agg (el j).toArray]++q) U (.bool (pb j)) U) (hn:n<=1000000) :
  Ev prog 249 [.s b n c,.func (.func f) p.toArray q.toArray] U (.bool (decide (∃ j<n,pb j=true))) U:=by
 have hf1:=adl (c:=c) hb hcall hn
 refine aH U.length 9 func249 (h:=?_)
 refine adn ?_
 refine dG (.tmp rfl .nil) .all ⟨?_,rfl⟩
 simp only [jH,Value.bool.injEq]
 exact decide_eq_decide.2 Qm
theorem adp {U:Heap} {b n c:Nat} {el:Nat->List Value} {f:FuncId} [GoFn prog f] {p q:List Value} {pb:Nat->Bool} (hb:∀ j<n,aK U b j 1=some (el j)) (hcall:∀ j<n,Ev prog f (p++[.agg (el j).toArray]++q) U (.bool (pb j)) U) (hn:n<=1000000) :
  Ev prog 287 [.s b n c,.func (.func f) p.toArray q.toArray] U (.i (fIx pb n)) U:=by
 refine aH U.length 19 func287 (h:=?_)
 refine zH ?_
 refine dO (ι:=Nat) (fun k=>[(0,.s b n c),(1,.func (.func f) p.toArray q.toArray),(7,.i (n:Nat)),(8,.i (k:Nat))]) (fun k mk H=>k<=n/\mk=[]/\U=H/\∀ j<k,pb j=false) (fun k=>n - k) 0 tE ⟨bL _,rfl,rfl,fun j h=>oO⟩ ?_
 rintro k mk H ⟨hk,rfl,rfl,a⟩
 by_cases hkn:k<n
 ·have g:(k:Int)<(n:Nat):=oO
  have hd1:aK U b k 1=some (el k):=hb k hkn
  by_cases hp:pb k=true
  ·refine zH ?_
   refine dG (.tmp rfl .nil) .all ⟨?_,rfl⟩
   simp only [jH]
   rw [Ey hkn hp a]
  ·have e:pb k=false:=by simpa using hp
   refine zH ?_
   exact ⟨k+1,⟨oO,rfl,rfl,fun j hj=>by
    by_cases d:j=k
    ·rw [d];exact e
    ·exact a j oO⟩,oO,tE⟩
 ·obtain rfl:k=n:=oO
  have g:¬ (k:Int)<(k:Nat):=oO
  refine zH ?_
  refine dG (.tmp rfl .nil) .all ⟨?_,rfl⟩
  simp only [jH]
  rw [Au a]
theorem adq {U:Heap} {b n c:Nat} {el:Nat->List Value} {f:FuncId} [GoFn prog f] {p q:List Value} {pb:Nat->Bool} (hb:∀ j<n,aK U b j 1=some (el j)) (hcall:∀ j<n,Ev prog f (p++[.agg (el j).toArray]++q) U (.bool (pb j)) U) (hn:n<=1000000) :
  Ev prog 255 [.s b n c,.func (.func f) p.toArray q.toArray] U (.bool (decide (∃ j<n,pb j=true))) U:=by
 have hf1:=adp (c:=c) hb hcall hn
 refine aH U.length 9 func255 (h:=?_)
 refine adn ?_
 refine dG (.tmp rfl .nil) .all ⟨?_,rfl⟩
 simp only [jH,Value.bool.injEq]
 exact decide_eq_decide.2 Qm
theorem adr {U:Heap} {b n c:Nat} {el:Nat->List Value} {f:FuncId} [GoFn prog f] {p q:List Value} {pb:Nat->Bool} (hb:∀ j<n,aK U b (j*4) 4=some (el j)) (hcall:∀ j<n,Ev prog f (p++[.agg (el j).toArray]++q) U (.bool (pb j)) U) (hn:n<=1000000) :
  Ev prog 265 [.s b n c,.func (.func f) p.toArray q.toArray] U (.i (fIx pb n)) U:=by
 refine aH U.length 19 func265 (h:=?_)
 refine zH ?_
 refine dO (ι:=Nat) (fun k=>[(0,.s b n c),(1,.func (.func f) p.toArray q.toArray),(7,.i (n:Nat)),(8,.i (k:Nat))]) (fun k mk H=>k<=n/\mk=[]/\U=H/\∀ j<k,pb j=false) (fun k=>n - k) 0 tE ⟨bL _,rfl,rfl,fun j h=>oO⟩ ?_
 rintro k mk H ⟨hk,rfl,rfl,a⟩
 by_cases hkn:k<n
 ·have g:(k:Int)<(n:Nat):=oO
  have hd1:aK U b (0+k*4) 4=some (el k):=by rw [aR];exact hb k hkn
  by_cases hp:pb k=true
  ·refine zH ?_
   refine dG (.tmp rfl .nil) .all ⟨?_,rfl⟩
   simp only [jH]
   rw [Ey hkn hp a]
  ·have e:pb k=false:=by simpa using hp
   refine zH ?_
   exact ⟨k+1,⟨oO,rfl,rfl,fun j hj=>by
    by_cases d:j=k
    ·rw [d];exact e
    ·exact a j oO⟩,oO,tE⟩
 ·obtain rfl:k=n:=oO
  have g:¬ (k:Int)<(k:Nat):=oO
  refine zH ?_
  refine dG (.tmp rfl .nil) .all ⟨?_,rfl⟩
  simp only [jH]
  rw [Au a]
theorem ads {U:Heap} {b n c:Nat} {el:Nat->List Value} {f:FuncId} [GoFn prog f] {p q:List Value} {pb:Nat->Bool} (hb:∀ j<n,aK U b (j*4) 4=some (el j)) (hcall:∀ j<n,Ev prog f (p++[.agg (el j).toArray]++q) U (.bool (pb j)) U) (hn:n<=1000000) :
  Ev prog 194 [.s b n c,.func (.func f) p.toArray q.toArray] U (.bool (decide (∃ j<n,pb j=true))) U:=by
 have hf1:=adr (c:=c) hb hcall hn
 refine aH U.length 9 func194 (h:=?_)
 refine adn ?_
 refine dG (.tmp rfl .nil) .all ⟨?_,rfl⟩
 simp only [jH,Value.bool.injEq]
 exact decide_eq_decide.2 Qm
end Go.Proofs.YtajpgeklmcjciaaGreat
namespace Go.AH.Heat
structure Dj (W:Wk):Prop where
 b1:0<W.nb
 b2:W.nb<=6
 b:∀ j<W.nb,oL (W.bf j)
 s:W.ns<=6
 w1:∀ i<W.ns,0<W.nw i
 w2:∀ i<W.ns,W.nw i<=5
 k:∀ i<W.ns,∀ k<W.nw i,adk (W.nk i k) (W.kf i k)
theorem Dj.ok {W:Wk} (h:Dj W):W.Ok:=⟨h.b,fun i hi k hk=>(h.k i hi k hk).k,by have:=h.b2;omega,by have:=h.s;omega,fun i hi=>by have:=h.w2 i hi;omega,h.w1,fun i hi k hk=>by have:=(h.k i hi k hk).n2;omega⟩
end Go.AH.Heat
namespace Go.Proofs.YtajpgeklmcjciaaGreat
attribute [local irreducible] dA bJ bK jh fQ dK eH bY eu aW dR dW
open Go.AH.Heat
theorem aio {U:Heap} {b n c:Nat} (h1:0<n) (h2:n<=5):Ev prog 254 [.agg #[.s b n c]] U (.bool false) U:=by
 refine aH U.length 13 func254 (h:=?_)
 have a0:(U++[aC.rw [.s b n c]])[U.length]?=some (.rw [.s b n c]):=aN
 have hn0:¬ (n:Int)=0:=oO
 have hn3:¬ (n:Int) > 5:=oO
 repeat' (first|refine sCm ?_|(refine gU ?_;first|(refine cO ?_;refine st (aJ rfl (by exact ig rfl)) rfl rfl ?_)|refine sK0 ?_|refine TL ?_)|(refine gG ?_;first|refine MB ?_|(refine cO ?_;refine pY rfl (aJ rfl (by exact ig rfl)) rfl rfl ?_)|refine FQ ?_|refine MC ?_)|refine aG ?_)
 refine dG (.tmp rfl .nil) (.plain oS rfl) ⟨?_,rfl⟩
 simp [jH];omega
theorem W9 {U:Heap} {lo hi:Int} (h:oL (lo,hi)) (hni:Ni U):Ev prog 256 [.agg #[.i lo,.i hi]] U (.bool false) U:=by
 refine aH U.length 6 func256 (h:=?_)
 obtain ⟨g1,g2,g3⟩:=h
 dsimp only at g1 g2 g3
 repeat' (first|refine sCm ?_|(refine gU ?_;first|(refine cO ?_;refine st (bG rfl (by exact dZ rfl)) rfl rfl ?_)|refine TK ?_|(refine dV ?_;refine st (bC rfl rfl rfl (by exact F9 (aX hni rfl))) rfl rfl ?_))|refine aG ?_)
 refine dG (.tmp rfl .nil) (.plain oS rfl) ⟨?_,rfl⟩
 simp [jH];omega
theorem KL {A B:Prop} (k:B) (h:Hide B->A:=by intro z_;(repeat' (first|refine sCm ?_|(refine gU ?_;first|(refine cO ?_;first|refine st (aJ rfl (by exact ig rfl)) rfl rfl ?_|refine st (bG rfl (by first|exact dZ rfl|assumption)) rfl rfl ?_)|refine sK0 ?_|refine TL ?_|refine sK6 ?_|(refine dV ?_;refine st (bC rfl rfl rfl (by first|exact hf1|exact hf2)) rfl rfl ?_)|refine sK8 ?_)|(refine gG ?_;first|refine Ko ?_|refine MB ?_|(refine cO ?_;refine pY rfl (aJ rfl (by exact ig rfl)) rfl rfl ?_)|refine FQ ?_|refine MC ?_|(refine dV ?_;refine pY rfl (bC rfl rfl rfl (by exact hf1)) rfl rfl ?_))|refine aG ?_|refine fA rfl ?_|refine fM rfl ?_));exact z_.h):A:=h ⟨k⟩
theorem BQ {U:Heap} {W:Wk} {bB bS cB cS:Nat} {wB cW:Nat->Nat} {kB cK:Nat->Nat->Nat} (hv:Dj W) (hA:Di U W bB bS wB cW kB cK) (hK:∀ i<W.ns,∀ k<W.nw i,W.nk i k<=cK i k) (hni:Ni U) :
  Ev prog 166 [.agg #[.s bB W.nb cB,.s bS W.ns cS]] U (.i 0) U:=by
 have h1:=hv.b1
 have h2:=hv.b2
 have h3:=hv.s
 refine aH U.length 57 func166 (h:=?_)
 have a0:(U++[aC.rw [.s bB W.nb cB,.s bS W.ns cS]])[U.length]?=some (.rw [.s bB W.nb cB,.s bS W.ns cS]):=aN
 have hp:(U++[aC.rw [.s bB W.nb cB,.s bS W.ns cS]]).take U.length=U:=oS
 have hni1:(U++[aC.rw [.s bB W.nb cB,.s bS W.ns cS]]).all (fun o=>!aU o)=true:=aX hni rfl
 have d:=hA.take hp
 have hn0:¬ (W.nb:Int)=0:=oO
 have hn3:¬ (W.nb:Int) > 6:=oO
 have hn4:¬ (W.ns:Int) > 6:=oO
 have hf1:=adq (U:=U++[aC.rw [.s bB W.nb cB,.s bS W.ns cS]]) (c:=cS) (p:=[]) (q:=[]) (f:=254) (pb:=fun _=>false) d.steps (fun j hj=>aio (hv.w1 j hj) (hv.w2 j hj)) oO
 have hf2:=ado (U:=U++[aC.rw [.s bB W.nb cB,.s bS W.ns cS]]) (c:=cB) (p:=[]) (q:=[]) (f:=256) (pb:=fun _=>false) d.bars (fun j hj=>W9 (hv.b j hj) hni1) oO
 have e1:∀ n,decide (∃ j<n,(fun _:Nat=>false) j=true)=false:=fun n=>by simp
 rw [e1] at hf1 hf2
 refine KL ?_
 refine dO (ι:=Nat) (fun k=>[(37,.s bS W.ns cS),(38,.i (W.ns:Nat)),(39,.i (k:Nat))]) (fun k mk H=>k<=W.ns/\mk=[]/\H.take U.length=U/\H.all (fun o=>!aU o)=true) (fun k=>W.ns - k) 0 tE ⟨bL _,rfl,hp,hni1⟩ ?_
 clear hf1 hf2 d hni1 hp a0
 rintro k mk H ⟨hk,rfl,hp,hni1⟩
 by_cases hkn:k<W.ns
 ·have e:(k:Int)<(W.ns:Nat):=oO
  have hd1:aK H bS k 1=some [.s (wB k) (W.nw k) (cW k)]:=(hA.take hp).steps k hkn
  have hw2:=hv.w2 k hkn
  refine KL ?_
  refine dO (ι:=Nat) (fun x=>[(37,.s bS W.ns cS),(38,.i (W.ns:Nat)),(39,.i (k:Nat)),(44,.s (wB k) (W.nw k) (cW k)),(45,.i (W.nw k:Nat)),(46,.i (x:Nat))]) (fun x mk H=>x<=W.nw k/\mk=[]/\H.take U.length=U/\H.all (fun o=>!aU o)=true) (fun x=>W.nw k - x) 0 tE ⟨bL _,rfl,aP hp,aX hni1 rfl⟩ ?_
  clear hd1 hp hni1 H
  rintro x mk H ⟨hx,rfl,hp,hni1⟩
  by_cases a:x<W.nw k
  ·have g:(x:Int)<(W.nw k:Nat):=oO
   have hd1:aK H (wB k) x 1=some [.s (kB k x) (W.nk k x) (cK k x)]:=(hA.take hp).ways k hkn x a
   have hf1:=Uj (U:=H++[aC.rw [.s (kB k x) (W.nk k x) (cK k x)]]) (hv.k k hkn x a) (hK k hkn x a) (fun q hq=>(hA.take (aP hp)).kinks k hkn x a q hq) (aX hni1 rfl)
   refine KL ?_
   exact ⟨x+1,⟨oO,rfl,aP hp,aX hni1 rfl⟩,oO,tE⟩
  ·obtain rfl:x=W.nw k:=oO
   have g:¬ ((W.nw k:Nat):Int)<(W.nw k:Nat):=oO
   refine KL ?_
   exact ⟨k+1,⟨oO,rfl,hp,hni1⟩,oO,tE⟩
 ·obtain rfl:k=W.ns:=oO
  have e:¬ ((W.ns:Nat):Int)<(W.ns:Nat):=oO
  refine KL ?_
  exact dG (.tmp rfl .nil) (.plain hp rfl) ⟨rfl,rfl⟩
theorem afW {n:Nat} {Z:Rho} {i j:Nat} (hi:i<n) (hj:Z i=⟨j,0,0⟩):jS n Z (.p i) (.p j):=by
 have:=VQ.ptr (q:=true) (n:=n) (V:=Z) i 0 hi
 simpa [hj] using this
theorem Qn {U:Heap} {W:Wk} {m:Int×Int} {bB bS cB cS:Nat} {wB cW:Nat->Nat} {kB cK:Nat->Nat->Nat} (hv:Dj W) (hA:Di U W bB bS wB cW kB cK) (hK:∀ i<W.ns,∀ k<W.nw i,W.nk i k<=cK i k) (hm:oL m) (hbB:bB < U.length) (hbS:bS < U.length) (hni:Ni U) :
  Ev prog 79 [.agg #[.s bB W.nb cB,.s bS W.ns cS],.agg #[.i m.1,.i m.2]] U (.tuple #[.p U.length,.i 0]) (U++[.rw [.s bB W.nb cB,.s bS W.ns cS,.i m.1,.i m.2,.s (U.length+1) (W.ns+1) (W.ns+1),.s (U.length+2) (W.ns+1) (W.ns+1)],.rw (dH W.front 0 (W.ns+1)),.rw (dH (W.kM m) 0 (W.ns+1))]):=by
 refine aH U.length 18 func79 (h:=?_)
 obtain ⟨H,hH⟩:=xy (U++[aC.rw [.s bB W.nb cB,.s bS W.ns cS]]++[aC.rw [.i m.1,.i m.2]])
 have a:H.length=U.length+2:=by rw [hH];simp
 have hp:H.take U.length=U:=by rw [hH];simp
 have a0:(U++[aC.rw [.s bB W.nb cB,.s bS W.ns cS]]++[aC.rw [.i m.1,.i m.2]])[U.length]?=some (.rw [.s bB W.nb cB,.s bS W.ns cS]):=aA aN
 have a1:(U++[aC.rw [.s bB W.nb cB,.s bS W.ns cS]]++[aC.rw [.i m.1,.i m.2]])[(U++[aC.rw [.s bB W.nb cB,.s bS W.ns cS]]).length]?=some (.rw [.i m.1,.i m.2]):=aN
 have c:(U++[aC.rw [.s bB W.nb cB,.s bS W.ns cS]]++[aC.rw [.i m.1,.i m.2]]).all (fun o=>!aU o)=true:=aX (aX hni rfl) rfl
 have hf1:=BQ (U:=U++[aC.rw [.s bB W.nb cB,.s bS W.ns cS]]++[aC.rw [.i m.1,.i m.2]]) (cB:=cB) (cS:=cS) hv (by rw [<- hH];exact hA.take hp) hK c
 have hf2:=F9 (U:=U++[aC.rw [.s bB W.nb cB,.s bS W.ns cS]]++[aC.rw [.i m.1,.i m.2]]) (lo:=m.1) (hi:=m.2) c
 have hf3:=WU (U:=U++[aC.rw [.s bB W.nb cB,.s bS W.ns cS]]++[aC.rw [.i m.1,.i m.2]]) (cB:=cB) (cS:=cS) (m:=m) hv.ok (by rw [<- hH];exact hA.take hp) hm (by rw [<- hH,a];omega) (by rw [<- hH,a];omega)
 have d:decide (0<=m.1/\m.1<=m.2/\m.2<=1000)=true:=decide_eq_true hm
 rw [d] at hf2
 repeat' (first|refine sCm ?_|(refine gU ?_;first|(refine cO ?_;refine st (bG rfl (by first|exact aV a0 rfl|exact aV a1 rfl)) rfl rfl ?_)|refine sK0 ?_|(refine rW ?_;refine st (iV rfl) rfl rfl ?_)|(refine dV ?_;refine st (bC rfl rfl rfl (by first|exact hf1|exact hf2|exact hf3)) rfl rfl ?_))|refine aG ?_|refine fM rfl ?_)
 rw [<- hH]
 have s0:fK U.length [U.length+2,U.length+3,U.length+4] U.length=⟨U.length+2,0,0⟩:=by simp [fK]
 have s1:fK U.length [U.length+2,U.length+3,U.length+4] (U.length+1)=⟨U.length+3,0,0⟩:=by simp [fK]
 have s2:fK U.length [U.length+2,U.length+3,U.length+4] (U.length+2)=⟨U.length+4,0,0⟩:=by simp [fK]
 have g0:(H++[.rw [.s bB W.nb cB,.s bS W.ns cS,.i m.1,.i m.2,.s (H.length+1) (W.ns+1) (W.ns+1),.s (H.length+2) (W.ns+1) (W.ns+1)],.rw (dH W.front 0 (W.ns+1)),.rw (dH (W.kM m) 0 (W.ns+1))])[U.length+2]?=some (.rw [.s bB W.nb cB,.s bS W.ns cS,.i m.1,.i m.2,.s (H.length+1) (W.ns+1) (W.ns+1),.s (H.length+2) (W.ns+1) (W.ns+1)]):=by rw [bE oO,<- a];simp
 have g1:(H++[.rw [.s bB W.nb cB,.s bS W.ns cS,.i m.1,.i m.2,.s (H.length+1) (W.ns+1) (W.ns+1),.s (H.length+2) (W.ns+1) (W.ns+1)],.rw (dH W.front 0 (W.ns+1)),.rw (dH (W.kM m) 0 (W.ns+1))])[U.length+3]?=some (.rw (dH W.front 0 (W.ns+1))):=by rw [bE oO,show U.length+3 - H.length=1 by omega];rfl
 have g2:(H++[.rw [.s bB W.nb cB,.s bS W.ns cS,.i m.1,.i m.2,.s (H.length+1) (W.ns+1) (W.ns+1),.s (H.length+2) (W.ns+1) (W.ns+1)],.rw (dH W.front 0 (W.ns+1)),.rw (dH (W.kM m) 0 (W.ns+1))])[U.length+4]?=some (.rw (dH (W.kM m) 0 (W.ns+1))):=by rw [bE oO,show U.length+4 - H.length=2 by omega];rfl
 refine dG (.tmp rfl (.tmp rfl .nil)) (aW.src (v2:=.tuple #[.p U.length,.i 0]) [.rw [.s bB W.nb cB,.s bS W.ns cS,.i m.1,.i m.2,.s (U.length+1) (W.ns+1) (W.ns+1),.s (U.length+2) (W.ns+1) (W.ns+1)],.rw (dH W.front 0 (W.ns+1)),.rw (dH (W.kM m) 0 (W.ns+1))] [U.length+2,U.length+3,U.length+4] (aP hp) rfl (by simp [dF]) ⟨?_,lC s1 (.inl g1) (mX _ _ _),lC s2 (.inl g2) (mX _ _ _),trivial⟩ ?_) ⟨rfl,rfl⟩
 ·refine sF s0 (.inl g0) rfl fun x h1 h2=>?_
  match x,h1 with
  |0,_=>exact jY (by simp;omega) (gu hbB) (aD _)
  |1,_=>exact jY (by simp;omega) (gu hbS) (aD _)
  |2,_=>exact bF _ rfl
  |3,_=>exact bF _ rfl
  |4,_=>exact jY oS (by rw [s1,a]) (aD _)
  |5,_=>exact jY oS (by rw [s2,a]) (aD _)
  |x+6,h1=>exact absurd h1 oS
 ·refine .tuple _ _ rfl fun i h _=>?_
  match i,h with
  |0,_=>exact afW oS (by rw [s0,a])
  |1,_=>exact .i 0
def _root_.Go.AH.Heat.yA (W:Wk) (m:Int×Int) (bB cB bS cS h:Nat):Heap :=
 [.rw [.slice (some ⟨bB,0,none⟩) W.nb cB,.slice (some ⟨bS,0,none⟩) W.ns cS,.int .i64 m.1,.int .i64 m.2,.slice (some ⟨h+1,0,none⟩) (W.ns+1) (W.ns+1),.slice (some ⟨h+2,0,none⟩) (W.ns+1) (W.ns+1)],.rw (dH W.front 0 (W.ns+1)),.rw (dH (W.kM m) 0 (W.ns+1))]
theorem _root_.Go.AH.Heat.KN {U:Heap} {W:Wk} {m:Int×Int} {bB bS cB cS:Nat} {wB cW:Nat->Nat} {kB cK:Nat->Nat->Nat} (hA:Di U W bB bS wB cW kB cK) (hbB:bB < U.length) (hbS:bS < U.length):sG (U++yA W m bB cB bS cS U.length) W m U.length (U.length+1) (U.length+2) bB cB bS cS wB cW kB cK:=by
 refine ⟨?_,?_,?_,hA.take oS,by simp [yA];omega,by simp [yA];omega⟩
 ·rw [bE oO,cM];rfl
 ·rw [bE oO,show U.length+1 - U.length=1 by omega];rfl
 ·rw [bE oO,show U.length+2 - U.length=2 by omega];rfl
theorem _root_.Go.AH.Heat.sH {n:Nat} {Z:Rho} {a b a' b':Value} (h1:jS n Z a a') (h2:jS n Z b b'):jS n Z (.tuple #[a,b]) (.tuple #[a',b']):=by
 refine .tuple _ _ rfl fun i h _=>?_
 match i,h with
 |0,_=>exact h1
 |1,_=>exact h2
theorem Xa {A B:Prop} (k:B) (h:Hide B->A:=by intro z_;(repeat' (first|refine sCm ?_|(refine gU ?_;first|(refine cO ?_;refine st (bG rfl (by first|exact aV a0 rfl|exact aV a1 rfl)) rfl rfl ?_)|refine sK0 ?_|(refine dV ?_;refine st (bC rfl rfl rfl (by first|exact hf1|exact hf2)) rfl rfl ?_))|refine bU (id:=4) ?_|refine aG ?_|refine fA rfl ?_|refine fM rfl ?_));exact z_.h):A:=h ⟨k⟩
theorem afX {U:Heap} {W:Wk} {m:Int×Int} {bB bS cB cS:Nat} {wB cW:Nat->Nat} {kB cK:Nat->Nat->Nat} (hv:Dj W) (hA:Di U W bB bS wB cW kB cK) (hK:∀ i<W.ns,∀ k<W.nw i,W.nk i k<=cK i k) (hm:oL m) (hbB:bB < U.length) (hbS:bS < U.length) (hni:Ni U) {l:List Nat} (hl:l=W.someB m) :
  Ev prog 134 [.agg #[.s bB W.nb cB,.s bS W.ns cS],.agg #[.i m.1,.i m.2]] U (.tuple #[slN U.length l.length,.i (if l.length=0 then 17 else 0)]) (U++[.rw (gQ l)]):=by
 refine aH U.length 24 func134 (h:=?_)
 have a0:(U++[aC.rw [.s bB W.nb cB,.s bS W.ns cS]]++[aC.rw [.i m.1,.i m.2]])[U.length]?=some (.rw [.s bB W.nb cB,.s bS W.ns cS]):=aA aN
 have a1:(U++[aC.rw [.s bB W.nb cB,.s bS W.ns cS]]++[aC.rw [.i m.1,.i m.2]])[(U++[aC.rw [.s bB W.nb cB,.s bS W.ns cS]]).length]?=some (.rw [.i m.1,.i m.2]):=aN
 have a:(U++[aC.rw [.s bB W.nb cB,.s bS W.ns cS]]++[aC.rw [.i m.1,.i m.2]]).all (fun o=>!aU o)=true:=aX (aX hni rfl) rfl
 have hp:(U++[aC.rw [.s bB W.nb cB,.s bS W.ns cS]]++[aC.rw [.i m.1,.i m.2]]).take U.length=U:=oS
 have hle:=take_len hp
 have hlb:l.length<=6:=by
  have:=hv.b2
  rw [hl];unfold Wk.someB
  split
  ·exact bL _
  ·exact eg (filter_le _ _) this
 have hf1:=Qn (U:=U++[aC.rw [.s bB W.nb cB,.s bS W.ns cS]]++[aC.rw [.i m.1,.i m.2]]) (m:=m) (cB:=cB) (cS:=cS) hv (hA.take hp) hK hm oO oO a
 obtain ⟨H,hH⟩:=xy (U++[aC.rw [.s bB W.nb cB,.s bS W.ns cS]]++[aC.rw [.i m.1,.i m.2]])
 refine Xa ?_
 refine .mk (dB [(2,.p U.length),(3,.p (U.length+1)),(4,.slice none 0 0),(5,.i 0),(6,.p H.length)] (H++yA W m bB cB bS cS H.length) (by rw [hH];rfl) ⟨rfl,(by (refine congrArg (fun n=>some (Value.p n)) ?_;simp;try omega)),rfl,rfl,by rw [hH];rfl,trivial⟩ ?_)
 rw [<- hH] at a0 a1 a hp
 have hT:=KN (cB:=cB) (cS:=cS) (m:=m) (hA.take hp) (show bB<H.length by have:=take_len hp;omega) (by have:=take_len hp;omega)
 have c:(H++yA W m bB cB bS cS H.length).all (fun o=>!aU o)=true:=aX a rfl
 have d:(H++yA W m bB cB bS cS H.length).take U.length=U:=aP hp
 generalize H++yA W m bB cB bS cS H.length=K at hT c d
 clear hf1
 have hf2:=Jb (sv:=-1) hv.ok hm hT c (.inl ⟨oO,hl⟩)
 apply aG
 clear hl
 rcases l with _|⟨x,r⟩
 ·refine Xa ?_
  exact dG (v2:=.tuple #[.slice none 0 0,.i 17]) (.tmp rfl (.tmp rfl .nil)) (aW.src [.rw []] [U.length] (aP d) rfl (by simp [dF]) ⟨.inl rfl,trivial⟩ (sH .nilSlice (.i 17))) ⟨rfl,rfl⟩
 ·obtain ⟨k,hk⟩:=xy r.length
  have hk0:¬ ((k+1:Nat):Int)=0:=oO
  rw [show (x::r).length=k+1 by rw [hk];rfl] at hf2
  rw [show (x::r).length=k+1 by rw [hk];rfl]
  refine Xa ?_
  have s0:fK U.length [K.length] U.length=⟨K.length,0,0⟩:=by simp [fK]
  have hKl:=take_len d
  exact dG (v2:=.tuple #[slN U.length (k+1),.i 0]) (.tmp rfl (.tmp rfl .nil)) (aW.src [.rw (gQ (x::r))] [K.length] (aP d) rfl (by simp [dF];omega) ⟨lC s0 (.inl aN) (oI _),trivial⟩ (sH (jY oS s0 (aD _)) (.i 0))) ⟨rfl,rfl⟩
end Go.Proofs.YtajpgeklmcjciaaGreat
namespace Go.AH.Heat
def slW (q w:Nat->Nat):Nat->List Value
 |0=>[]
 |k+1=>slW q w k++[.slice (some ⟨q k,0,none⟩) (w k) (w k)]
theorem sZ (q w:Nat->Nat):∀ k,(slW q w k).length=k
 |0=>rfl
 |k+1=>by rw [slW,bA,sZ q w k];rfl
theorem Qo {q w:Nat->Nat}:∀ {k j:Nat},j<k->(slW q w k)[j]?=some (.s (q j) (w j) (w j))
 |0,j,h=>by omega
 |k+1,j,h=>by
  have hl:=sZ q w k
  rw [slW]
  by_cases hj:j<k
  ·rw [bO oO];exact Qo hj
  ·obtain rfl:j=k:=oO
   rw [bE oO,hl,cM];rfl
theorem Ez {q w:Nat->Nat} {k j:Nat} (h:j<(slW q w k).length):(slW q w k)[j]=.s (q j) (w j) (w j):=by
 have hl:=sZ q w k
 have:=Qo (q:=q) (w:=w) (k:=k) (j:=j) oO
 rw [cA h] at this
 exact Option.some.inj this
theorem Oo {q q' w:Nat->Nat}:∀ {k:Nat},(∀ j<k,q j=q' j)->slW q w k=slW q' w k
 |0,_=>rfl
 |k+1,h=>by rw [slW,slW,Oo fun j hj=>h j oO,h k oO]
theorem adt (l:List Nat):(gQ l).all (·.oneCell')=true:=by simp [gQ,Value.oneCell']
theorem osubs_of {U:Heap} {n:Nat} {Z:Rho}:∀ {news:Heap} {k:Nat},(∀ (j:Nat) (o:aC),news[j]?=some o->xX U n Z (Z (k+j)) o)->D5 U n Z k news
 |[],_,_=>trivial
 |o::r,k,h=>⟨h 0 o rfl,osubs_of (k:=k+1) fun j o' hj=>by
   have:=h (j+1) o' hj
   rwa [show k+(j+1)=k+1+j by omega] at this⟩
def KO (l:Nat->List Nat) (n:Nat):Heap:=(List.range n).map fun j=>.rw (gQ (l j))
theorem Gf (l:Nat->List Nat) (n:Nat):(KO l n).length=n:=by simp [KO]
theorem aaE {l:Nat->List Nat} {n j:Nat} {o:aC} (h:(KO l n)[j]?=some o):j<n/\o=.rw (gQ (l j)):=by
 have hj:j<n:=by have:=(List.getElem?_eq_some_iff.1 h).1;rwa [Gf] at this
 refine ⟨hj,?_⟩
 unfold KO at h
 rw [cJ,dq hj] at h
 exact (Option.some.inj h).symm
theorem aW.rowsW {σin H:Heap} {t:TypeId} {l:Nat->List Nat} {q:Nat->Nat} {g n:Nat} {f:Value} (hp:H.take σin.length=σin) (hg:H[g]?=some (.gr (slW q (fun j=>(l j).length) n) t)) (hgs:σin.length<=g)
  (hq:∀ j<n,σin.length<=q j/\H[q j]?=some (.rw (gQ (l j)))) (hd:∀ i<n,∀ j<n,q i=q j->i=j) (hf:AH.plain f=true) :
  aW σin H (.tuple #[eP g 1 n,f]) (.tuple #[slN σin.length n,f]) (σin++([.rw (slW (fun j=>σin.length+1+j) (fun j=>(l j).length) n)]++KO l n)):=by
 have r:∀ j<n,q j ≠ g:=fun j hj e=>by have:=(hq j hj).2;rw [e,hg] at this;cases this
 have hll:(g::(List.range n).map q).length=n+1:=oS
 have h0:fK σin.length (g::(List.range n).map q) σin.length=⟨g,0,0⟩:=by simp [fK]
 have hj:∀ j<n,fK σin.length (g::(List.range n).map q) (σin.length+1+j)=⟨q j,0,0⟩:=fun j hj=>by
  unfold fK
  rw [if_neg oO,show σin.length+1+j - σin.length=j+1 by omega,fy,cJ,dq hj];rfl
 refine aW.src _ (g::(List.range n).map q) hp (by simp [Gf]) ?_ (osubs_of fun j o ho=>?_) (sH (KG oS h0) (bF _ hf))
 ·unfold dF
  rw [aE,dT,decide_eq_true_eq]
  refine ⟨fun x hx=>fc ?_,List.nodup_cons.2 ⟨fun hm=>?_,?_⟩⟩
  ·rcases List.mem_cons.1 hx with rfl|hx
   ·exact hgs
   ·obtain ⟨j,hj,rfl⟩:=List.mem_map.1 hx
    exact (hq j (List.mem_range.1 hj)).1
  ·obtain ⟨j,hj,e⟩:=List.mem_map.1 hm
   exact r j (List.mem_range.1 hj) e
  ·unfold List.Nodup
   rw [List.pairwise_map]
   exact List.Pairwise.imp_of_mem (fun hi hj d e=>d (hd _ (List.mem_range.1 hi) _ (List.mem_range.1 hj) e)) (List.nodup_range (n:=n))
 ·match j,ho with
  |0,ho =>
   cases ho
   refine sF h0 (.inr ⟨t,hg⟩) (by rw [sZ,sZ]) fun a h1 h2=>?_
   rw [Ez h1,Ez h2]
   have p:a<n:=by rw [sZ] at h1;exact h1
   exact jY (by simp [Gf];omega) (hj a p) (aD _)
  |j+1,ho =>
   obtain ⟨c,rfl⟩:=aaE (show (KO l n)[j]?=some o from ho)
   rw [show σin.length+(j+1)=σin.length+1+j by omega]
   exact lC (hj j c) (.inl (hq j c).2) (oI _)
def Y2 (K:Heap) (n:Nat) (l:Nat->List Nat) (k:Nat×Nat×(Nat->Nat)) (mk:List Nat) (H:Heap):Prop :=
 k.1<=n/\mk=[]/\H.take K.length=K/\H.all (fun o=>!aU o)=true/\K.length<=k.2.1/\H[k.2.1]?=some (.gr (slW k.2.2 (fun j=>(l j).length) k.1) 52)/\(∀ j<k.1,K.length<=k.2.2 j/\H[k.2.2 j]?=some (.rw (gQ (l j))))/\(∀ i<k.1,∀ j<k.1,k.2.2 i=k.2.2 j->i=j)
theorem Y2.next {K H:Heap} {n:Nat} {l:Nat->List Nat} {k g:Nat} {q:Nat->Nat} {A B C:aC} {S:List Value} (h:Y2 K n l (k,g,q) [] H) (hk:k<n) (hA:aU A=false) (hC:aU C=false) (hB:B=.rw (gQ (l k))) (hS:S=[.s (H.length+1) (l k).length (l k).length]) :
  Y2 K n l (k+1,H.length+3,fun j=>if j=k then H.length+1 else q j) [] ((H++[A]++[B]++[C]).set g .dead++[.gr (slW q (fun j=>(l j).length) k++S) 52]):=by
 obtain ⟨_,_,h1,h2,h3,h4,h5,h6⟩:=h
 subst hB hS
 dsimp only at h3 h4 h5 h6
 have hgl:=aS h4
 have hle:=take_len h1
 refine ⟨hk,rfl,aP (take_set (aP (aP (aP h1))) h3),aX (jr (aX (aX (aX h2 (by simp [hA])) rfl) (by simp [hC])) rfl) rfl,by dsimp only;omega,?_,?_,?_⟩ <;> dsimp only
 ·rw [slW,if_pos rfl,Oo (q:=fun j=>if j=k then H.length+1 else q j) (q':=q) fun j hj=>if_neg oO]
  exact bP oS
 ·intro j hj
  by_cases a:j=k
  ·subst a
   rw [if_pos rfl]
   exact ⟨oO,aA (aB (aA (bP oS)) oO)⟩
  ·rw [if_neg a]
   have h7:=(h5 j oO).2
   refine ⟨(h5 j oO).1,aA (aB (aA (aA (aA h7))) fun e=>?_)⟩
   rw [<- e,h4] at h7;cases h7
 ·intro i hi j hj
  have d:∀ j<k,q j<H.length:=fun j hj=>aS (h5 j hj).2
  by_cases c:i=k
  ·subst c
   by_cases a:j=i
   ·exact fun _=>a.symm
   ·rw [if_pos rfl,if_neg a]
    have:=d j oO
    omega
  ·by_cases a:j=k
   ·subst a
    rw [if_neg c,if_pos rfl]
    have:=d i oO
    omega
   ·rw [if_neg c,if_neg a]
    exact h6 i oO j oO
end Go.AH.Heat
namespace Go.Proofs.YtajpgeklmcjciaaGreat
attribute [local irreducible] dA bJ bK jh fQ dK eH bY eu aW dR dW
open Go.AH.Heat
theorem KP {A B:Prop} (k:B) (h:Hide B->A:=by intro z_;(repeat' (first|refine sCm ?_|(refine gU ?_;first|refine st (ac5 rfl rfl rfl) rfl rfl ?_|refine st (Po rfl rfl (cL _) (by exact hcl1 _) (by exact hone) (by exact hput _ (by rw [pW];exact cH _) (cL _))) rfl rfl ?_|refine st (qY (by rfl) (by rfl) rfl rfl (aD _) (by omega) (by omega)) rfl rfl ?_|refine st (jO (t:=58) (by rfl) (by rfl) rfl (by exact hgX _ _ _) (by exact hgl1) rfl (dZ rfl) (by omega) rfl (by omega) (by omega)) rfl rfl ?_|(refine cO ?_;first|refine st (aJ rfl (by exact aF a0)) rfl rfl ?_|refine st (bG rfl (by first|exact aV a0 rfl|exact aV a1 rfl)) rfl rfl ?_)|refine sK0 ?_|(refine dV ?_;refine st (bC rfl rfl rfl (by first|exact hf1|exact hf2|exact hf3)) rfl rfl ?_)|refine Me ?_)|refine bU (id:=4) ?_|refine aG ?_|refine fA rfl ?_|refine fM rfl ?_));exact z_.h):A:=h ⟨k⟩
theorem aaF {U:Heap} {W:Wk} {m:Int×Int} {bB bS cB cS:Nat} {wB cW:Nat->Nat} {kB cK:Nat->Nat->Nat} (hv:Dj W) (hA:Di U W bB bS wB cW kB cK) (hK:∀ i<W.ns,∀ k<W.nw i,W.nk i k<=cK i k) (hm:oL m) (hbB:bB < U.length) (hbS:bS < U.length) (hni:Ni U) (hl:W.someB m ≠ []) {l:Nat->List Nat} (hlW:∀ i<W.ns,l i=W.Oj m i) :
  Ev prog 21 [.agg #[.s bB W.nb cB,.s bS W.ns cS],.agg #[.i m.1,.i m.2]] U (.tuple #[slN U.length W.ns,.i 0]) (U++([.rw (slW (fun j=>U.length+1+j) (fun j=>(l j).length) W.ns)]++KO l W.ns)):=by
 refine aH U.length 46 func21 (h:=?_)
 have a0:(U++[aC.rw [.s bB W.nb cB,.s bS W.ns cS]]++[aC.rw [.i m.1,.i m.2]])[U.length]?=some (.rw [.s bB W.nb cB,.s bS W.ns cS]):=aA aN
 have a1:(U++[aC.rw [.s bB W.nb cB,.s bS W.ns cS]]++[aC.rw [.i m.1,.i m.2]])[(U++[aC.rw [.s bB W.nb cB,.s bS W.ns cS]]).length]?=some (.rw [.i m.1,.i m.2]):=aN
 have a:(U++[aC.rw [.s bB W.nb cB,.s bS W.ns cS]]++[aC.rw [.i m.1,.i m.2]]).all (fun o=>!aU o)=true:=aX (aX hni rfl) rfl
 have hp:(U++[aC.rw [.s bB W.nb cB,.s bS W.ns cS]]++[aC.rw [.i m.1,.i m.2]]).take U.length=U:=oS
 have v:=take_len hp
 have hf1:=Qn (U:=U++[aC.rw [.s bB W.nb cB,.s bS W.ns cS]]++[aC.rw [.i m.1,.i m.2]]) (m:=m) (cB:=cB) (cS:=cS) hv (hA.take hp) hK hm oO oO a
 obtain ⟨H,hH⟩:=xy (U++[aC.rw [.s bB W.nb cB,.s bS W.ns cS]]++[aC.rw [.i m.1,.i m.2]])
 refine KP ?_
 refine .mk (dB [(2,.p U.length),(3,.p (U.length+1)),(4,.slice none 0 0),(5,.i 0),(6,.p H.length)] (H++yA W m bB cB bS cS H.length) (by rw [hH];rfl) ⟨rfl,(by (refine congrArg (fun n=>some (Value.p n)) ?_;simp;try omega)),rfl,rfl,by rw [hH];rfl,trivial⟩ ?_)
 rw [<- hH] at a0 a1 a hp
 have hT:=KN (cB:=cB) (cS:=cS) (m:=m) (hA.take hp) (show bB<H.length by have:=take_len hp;omega) (by have:=take_len hp;omega)
 have c:(H++yA W m bB cB bS cS H.length).all (fun o=>!aU o)=true:=aX a rfl
 have u:(H++yA W m bB cB bS cS H.length).take U.length=U:=aP hp
 have w:(H++yA W m bB cB bS cS H.length)[U.length]?=some (.rw [.s bB W.nb cB,.s bS W.ns cS]):=aA a0
 generalize H++yA W m bB cB bS cS H.length=K at hT c u w
 generalize H.length=tb at hT
 generalize tb+1=fb at hT
 generalize tb+2=rb at hT
 clear hf1 a0 a1 a hp hH H hA hni hK v
 have hf2:=Jb (sv:=-1) hv.ok hm hT c (.inl ⟨oO,rfl⟩)
 obtain ⟨k0,E⟩:∃ k0,(W.someB m).length=k0+1:=by
  rcases hc:W.someB m with _|⟨x,r⟩
  ·exact absurd hc hl
  ·exact ⟨r.length,rfl⟩
 rw [E] at hf2
 have F:¬ ((k0+1:Nat):Int)=0:=oO
 apply aG
 have a0:(K++[aC.rw (gQ (W.someB m))])[U.length]?=some (.rw [.s bB W.nb cB,.s bS W.ns cS]):=aA w
 refine KP ?_
 have D:=hT.take (aP (X:=[aC.rw (gQ (W.someB m))]) (eb (l:=K)))
 have f:(K++[aC.rw (gQ (W.someB m))]).take U.length=U:=aP u
 have e:(K++[aC.rw (gQ (W.someB m))]).all (fun o=>!aU o)=true:=aX c rfl
 generalize K++[aC.rw (gQ (W.someB m))]=K2 at a0 D f e
 clear hf2 E F hT c u w
 have v:=take_len f
 have hns3:=hv.s
 refine Uc 52 ?_
 refine dO (ι:=Nat×Nat×(Nat->Nat)) (fun k=>[(2,.p U.length),(3,.p (U.length+1)),(4,.slice none 0 0),(5,.i 0),(6,.p tb),(8,eP k.2.1 1 k.1),(27,.i (W.ns:Nat)),(28,.i (k.1:Nat))])
  (Y2 K2 W.ns l)
  (fun k=>W.ns - k.1) (0,K2.length,id) tE ⟨bL _,rfl,by simp,aX e rfl,aD _,aN,fun j hj=>absurd hj (Nat.not_lt_zero _),fun j hj=>absurd hj (Nat.not_lt_zero _)⟩ ?_
 rintro ⟨k,g,q⟩ mk H hP
 obtain ⟨hk,rfl,y,a,hgl,hg,hq,hd⟩:=id hP
 dsimp only at hk hgl hg hq hd
 dsimp only
 have hKl:=take_len y
 by_cases hkn:k<W.ns
 ·have G:(k:Int)<(W.ns:Nat):=oO
  have hf3:=Jb (sv:=(k:Nat)) hv.ok hm (D.take y) a (.inr ⟨k,rfl,hkn,hlW k hkn⟩)
  obtain ⟨lk,d⟩:=xy (l k)
  rw [<- d] at hf3
  have z:lk.length<=5:=by
   rw [d,hlW k hkn];unfold Wk.Oj
   split
   ·exact bL _
   ·exact eg (filter_le _ _) (hv.w2 k hkn)
  have hgX:∀ A B C:aC,(H++[A]++[B]++[C])[g]?=some (.gr (slW q (fun j=>(l j).length) k) 52):=fun A B C=>aA (aA (aA hg))
  have hgl1:(slW q (fun j=>(l j).length) k).length=k*1:=by rw [sZ,cH]
  have hcl1:∀ Y,aK (H++[aC.rw (gQ lk)]++Y) H.length 0 (lk.length*1)=some (gQ lk):=fun Y=>aV (aA aN) (by rw [vY,cH])
  have hone:(gQ lk).all (·.oneCell')=true:=adt lk
  have hput:∀ cs:List Value,cs.length=lk.length->0<lk.length->putCells (H++[aC.rw (gQ lk)]++[.rw cs]) (H++[aC.rw (gQ lk)]).length 0 (gQ lk)=some (H++[aC.rw (gQ lk)]++[.rw (gQ lk)]):=fun cs hcs h0=>by
   rw [iH (by rw [hcs,vY];exact aD _) oO];simp [splice,vY,hcs]
  rcases lk with _|⟨x,r⟩
  ·refine KP ?_
   have eB:aC.rw (fZ (dM (Value.int IntKind.i64 0)) 0)=.rw (gQ (l k)):=by rw [<- d];rfl
   have eS:splice (fZ (dM (Value.slice none 0 0)) 1) (0*1) (dM (Value.s ((H++[aC.rw (gQ [])]).length) 0 0))=[.s (H.length+1) (l k).length (l k).length]:=by rw [<- d,bA];rfl
   exact ⟨(k+1,H.length+3,fun j=>if j=k then H.length+1 else q j),hP.next hkn rfl rfl eB eS,by dsimp only;omega,⟨rfl,rfl,rfl,rfl,rfl,congrArg (fun n=>some (eP n 1 (k+1))) oS,rfl,rfl,trivial⟩⟩
  ·have hr5:r.length+1<=5:=z
   refine KP ?_
   have eB:aC.rw (gQ (x::r))=.rw (gQ (l k)):=by rw [<- d]
   have eS:splice (fZ (dM (Value.slice none 0 0)) 1) (0*1) (dM (Value.s ((H++[aC.rw (gQ (x::r))]).length) (r.length+1) (r.length+1)))=[.s (H.length+1) (l k).length (l k).length]:=by rw [<- d,bA];rfl
   exact ⟨(k+1,H.length+3,fun j=>if j=k then H.length+1 else q j),hP.next hkn rfl rfl eB eS,by dsimp only;omega,⟨rfl,rfl,rfl,rfl,rfl,congrArg (fun n=>some (eP n 1 (k+1))) oS,rfl,rfl,trivial⟩⟩
 ·obtain rfl:k=W.ns:=oO
  have G:¬ ((W.ns:Nat):Int)<(W.ns:Nat):=oO
  have I:H.take U.length=U:=by
   have e1:(H.take K2.length).take U.length=U:=by rw [y];exact f
   rwa [eA,fo v] at e1
  refine KP ?_
  exact dG (v2:=.tuple #[slN U.length W.ns,.i 0]) (.tmp rfl (.tmp rfl .nil)) (aW.rowsW I hg oO (fun j hj=>⟨by have:=(hq j hj).1;omega,(hq j hj).2⟩) hd rfl) ⟨rfl,rfl⟩
end Go.Proofs.YtajpgeklmcjciaaGreat
namespace Go.AH.Heat
def wX (kf:Nat->Int×Int×Int) (h:Int):Nat->Nat
 |0=>0
 |i+1=>if (kf (i+1)).1<=h then i+1 else wX kf h i
theorem EC (kf:Nat->Int×Int×Int) (h:Int):∀ i,wX kf h i<=i
 |0=>aD _
 |i+1=>by unfold wX;split;exact aD _;have:=EC kf h i;omega
def Aw (n:Nat) (kf:Nat->Int×Int×Int) (h:Int):Int×Int:=(kf (wX kf h (n - 1))).2
def ED (U:Heap) (ik n:Nat) (kf:Nat->Int×Int×Int):Prop:=∀ q<n,aK U ik (q*3) 3=some (jP (kf q))
theorem ED.app {U:Heap} {ik n:Nat} {kf:Nat->Int×Int×Int} (h:ED U ik n kf) (X:Heap):ED (U++X) ik n kf:=fun q hq=>by rw [jl (dS (h q hq))];exact h q hq
end Go.AH.Heat
namespace Go.Proofs.YtajpgeklmcjciaaGreat
attribute [local irreducible] dA bJ bK jh fQ dK eH bY eu aW dR dW
open Go.AH.Heat
theorem Xb {A B:Prop} (k:B) (h:Hide B->A:=by intro z_;(repeat' (first|refine sCm ?_|(refine gU ?_;first|(refine cO ?_;first|refine st (aJ rfl (by first|exact aF a0|exact hq0)) rfl rfl ?_|refine st (bG rfl (by exact hq2)) rfl rfl ?_)|refine sK4 ?_|refine sK0 ?_|refine sK3 ?_|(refine gZ ?_;refine stN (bW rfl rfl rfl rfl (by exact hput)) rfl ?_))|refine aG ?_|refine fA rfl ?_|refine fM rfl ?_));exact z_.h):A:=h ⟨k⟩
theorem Uk {U:Heap} {ik n c:Nat} {kf:Nat->Int×Int×Int} {h:Int} (hv:0<n) (hn:n<=1000000) (hz:(kf 0).1<=h) (hk:ED U ik n kf) :
  Ev prog 82 [.agg #[.s ik n c],.i h] U (.agg #[.i (Aw n kf h).1,.i (Aw n kf h).2]) U:=by
 refine aH U.length 26 func82 (h:=?_)
 have a0:(U++[aC.rw [.s ik n c]]++[aC.rw [.i 0,.i 0]])[U.length]?=some (.rw [.s ik n c]):=aA aN
 have hput:putCells (U++[aC.rw [.s ik n c]]++[aC.rw [.i 0,.i 0]]) (U.length+1) 0 [.i (Aw n kf h).1,.i (Aw n kf h).2]=some (U++[aC.rw [.s ik n c]]++[aC.rw [.i (Aw n kf h).1,.i (Aw n kf h).2]]):=by
  have:=iH (U:=U++[aC.rw [.s ik n c]]) (cs:=[.i 0,.i 0]) (vs:=[.i (Aw n kf h).1,.i (Aw n kf h).2]) (aD _) (cL _)
  rwa [bA] at this
 refine Xb ?_
 have a:=(hk.app [aC.rw [.s ik n c]]).app [aC.rw [.i 0,.i 0]]
 obtain ⟨K,hK⟩:=xy (U++[aC.rw [.s ik n c]]++[aC.rw [.i 0,.i 0]])
 rw [<- hK] at a0 a hput
 refine dO (ι:=Nat) (fun i=>[(1,.i h),(2,.p U.length),(4,.p (U.length+1)),(5,.i (i:Nat))])
  (fun i mk H=>i<n/\mk=[]/\wX kf h (n - 1)=wX kf h i/\H=K) (fun i=>i) (n - 1) ⟨rfl,rfl,congrArg (fun m=>some (Value.p m)) oS,congrArg (fun m=>some (Value.i m)) oO,trivial⟩ ⟨oO,rfl,rfl,hK.symm⟩ ?_
 rintro i mk H ⟨hi,rfl,hl,rfl⟩
 have d:=a i hi
 have hq0:aI H ik (0+i*3+0)=some (.i (kf i).1):=by rw [aR];exact eX d oO
 have hq2:aK H ik (0+i*3+1) 2=some [.i (kf i).2.1,.i (kf i).2.2]:=by rw [aR];exact wW d
 by_cases hgt:(kf i).1 > h
 ·have hi1:1<=i:=by
   rcases i with _|i
   ·omega
   ·omega
  refine Xb ?_
  refine ⟨i - 1,⟨oO,rfl,?_,rfl⟩,oO,⟨rfl,rfl,rfl,congrArg (fun m=>some (Value.i m)) oO,trivial⟩⟩
  rw [hl]
  obtain ⟨j,rfl⟩:∃ j,i=j+1:=⟨i - 1,oO⟩
  rw [wX,if_neg oO];rfl
 ·have he:wX kf h (n - 1)=i:=by
   rw [hl]
   rcases i with _|i
   ·rfl
   ·rw [wX,if_pos oO]
  have e1:(Aw n kf h).1=(kf i).2.1:=by unfold Aw;rw [he]
  have e2:(Aw n kf h).2=(kf i).2.2:=by unfold Aw;rw [he]
  rw [e1,e2] at hput
  rw [e1,e2]
  refine Xb ?_
  exact dG (.cellN inferInstance rfl (aV (bP oS) rfl) .nil) (aW.plain oS rfl) ⟨rfl,rfl⟩
end Go.Proofs.YtajpgeklmcjciaaGreat
namespace Go.AH
def setB (w:World) (r:Nat) (o:Obj):World:={ w with heap:=w.heap.setIfInBounds r o }
theorem aaG (w:World) (r:Nat) (o o':Obj):setB (setB w r o) r o'=setB w r o':=by simp [setB]
theorem adu {w:World} {r:Nat} {o o':Obj} (h:w.heap[r]?=some o):(setB w r o').heap[r]?=some o':=(MapKept.heap_set h).1
theorem aaH {w:World} {r:Nat} {o:Obj} (h:w.heap[r]?=some o):setB w r o=w:=by
 unfold setB
 have:w.heap.setIfInBounds r o=w.heap:=by
  apply Array.ext_getElem?
  intro i
  by_cases hi:i=r
  ·subst hi;rw [(MapKept.heap_set (o':=o) h).1,h]
  ·rw [(MapKept.heap_set (o':=o) h).2 i hi]
 rw [this]
section
variable {α:Type} {kv:α->Value} {P:Program}
theorem Xc [DecidableEq α] {t kt et size bytes:Nat} {agg:Bool} {z:Value} [hm:Mp P t kt et] [hk:KT P kt kv] [ht:Ty P et size agg z bytes] (hz:plain z=true) {w:World} {r n clock:Nat} {V:Rho} {ents:Array MapEntry} {l:List (α×Value)} {k:α}
  (hh:w.heap[r]?=some (.map ents clock)) (hM:ZF n V (l.map fun p=>(kv p.1,p.2)) ents clock) {v0:Value} (hv:iO l k=some v0\/iO l k=none/\v0=z) :
  ∃ (u0:Value) (b:Nat) (w1:World),gJ n V v0 u0 /\
   (∀ (ev:Operand->Value) (o:Oper) (x y:Operand),o.op=.mapEntry t x y->ev x=.map (some r)->ev y=kv k->(execOp ev o).run P w=.ok (.value (.tuple #[u0,goInt b])) w1) /\
   (∀ (ev:Operand->Value) (o:Oper) (x y:Operand),o.op=.lookup t x y false->ev x=.map (some r)->ev y=kv k->(execOp ev o).run P w=.ok (.value u0) w/\(execOp ev o).run P w1=.ok (.value u0) w1) /\
   (∀ val:Value,∃ w2,(∀ (ev:Operand->Value) (o:Oper) (x s u:Operand),o.op=.entryStore t x s u->ev x=.map (some r)->ev s=goInt b->ev u=val->(execOp ev o).run P w1=.ok .skip w2) /\
    (∀ (ev:Operand->Value) (o:Oper) (x y u:Operand),o.op=.mapUpdate t x y u->ev x=.map (some r)->ev y=kv k->ev u=val->(execOp ev o).run P w=.ok .skip w2)):=by
 obtain ⟨hl,D⟩:=oZ hM
 have d:=hk.find w k ents.toList (l.map (·.1)) hl D
 obtain ⟨m1,m2,m3⟩:=hM
 simp only [cU] at m1
 have Q:(ents.toList.map (·.born)).Nodup:=by
  unfold List.Nodup
  rw [List.pairwise_map,List.pairwise_iff_getElem]
  intro i j hi hj Uq
  have:=m3 i j (oU hi) (oU hj) Uq
  simp only [dC]
  omega
 cases hf:(l.map (·.1)).findIdx? (fun q=>decide (k=q)) with
 |none =>
  rw [hf] at d
  have hg:iO l k=none:=by unfold iO;rw [hf]
  have M:v0=z:=by
   rcases hv with h|⟨_,h⟩
   ·rw [hg] at h;cases h
   ·exact h
  subst M
  have Vv:(ents.push ⟨kv k,v0,clock⟩).toList.length=(l.map (·.1)++[k]).length:=by simp [m1]
  have g:=fun w=>hk.find w k (ents.push ⟨kv k,v0,clock⟩).toList (l.map (·.1)++[k]) Vv (fun j h1 h2=>by
   by_cases hj:j<l.length
   ·have:=D j (by simp;omega) (oU hj)
    simp only [dC] at this ⊢
    rw [Array.getElem_push_lt oO,eQ (oU hj)];exact this
   ·have G:j=ents.size:=by simp at h2;omega
    subst G
    simp only [dC,Array.getElem_push_eq]
    rw [eO (by simp;omega)];simp)
  have C:(l.map (·.1)++[k]).findIdx? (fun q=>decide (k=q))=some l.length:=by
   rw [List.findIdx?_append,hf];simp
  rw [C] at g
  have S:(ents.push ⟨kv k,v0,clock⟩).toList[l.length]?=some ⟨kv k,v0,clock⟩:=by simp [<- m1]
  simp only [S,du] at g
  simp only [Array.toList_push] at g
  have N:=adu (o':=.map (ents.push ⟨kv k,v0,clock⟩) (clock+1)) hh
  refine ⟨v0,clock,setB w r (.map (ents.push ⟨kv k,v0,clock⟩) (clock+1)),bF v0 hz,fun ev o x y ho hx hy=>?_,fun ev o x y ho hx hy=>⟨?_,?_⟩,fun val=>⟨setB w r (.map (ents.push ⟨kv k,val,clock⟩) (clock+1)),fun ev o x s u ho hx hs hu=>?_,fun ev o x y u ho hx hy hu=>?_⟩⟩
  ·simp [execOp,ho,Instr.mapEntry,run_underlying hm.und,hx,hy,MapKept.run_getObj_map hh,hk.check,d,ht.zeroV,MapKept.run_setObj_map _ hh,Result.andThen,setB]
  ·simp [execOp,ho,Instr.lookup,run_underlying hm.und,hx,hy,MapKept.run_getObj_map hh,hk.check,d,Result.andThen,ht.zeroV]
  ·simp [execOp,ho,Instr.lookup,run_underlying hm.und,hx,hy,MapKept.run_getObj_map N,hk.check,g,Result.andThen]
  ·have C:(ents.push ⟨kv k,v0,clock⟩).findIdx? (fun e=>((e.born:Nat):Int) == ((clock:Nat):Int))=some ents.size:=by
    rw [WideElems.findIdx_arr]
    exact WideElems.findIdx_born (l:=(ents.push ⟨kv k,v0,clock⟩).toList) (j:=ents.size) (e0:=⟨kv k,v0,clock⟩) (by
     simp only [Array.toList_push,eq,cG,cY]
     refine List.nodup_append.2 ⟨Q,by simp,fun a ha c hc e1=>?_⟩
     simp only [fj] at hc
     obtain ⟨x,hx,rfl⟩:=List.mem_map.1 ha
     obtain ⟨i,hi,rfl⟩:=List.mem_iff_getElem.1 hx
     have T:i<ents.size:=by simpa using hi
     have:=(m2 i (by simp;omega) T).2.2.2
     simp only [dC] at e1
     omega) oS
   have F:(ents.push ⟨kv k,v0,clock⟩).modify ents.size (fun e=>{ e with val:=val })=ents.push ⟨kv k,val,clock⟩:=by
    apply Array.ext'
    rw [Array.toList_modify,Array.toList_push,Array.toList_push,<- Array.length_toList,WideElems.modify_last]
   have v:=MapKept.run_setObj_map (P:=P) (.map (ents.push ⟨kv k,val,clock⟩) (clock+1)) N
   have e2:({ setB w r (.map (ents.push ⟨kv k,v0,clock⟩) (clock+1)) with heap:=(setB w r (.map (ents.push ⟨kv k,v0,clock⟩) (clock+1))).heap.setIfInBounds r (.map (ents.push ⟨kv k,val,clock⟩) (clock+1)) }:World)=setB w r (.map (ents.push ⟨kv k,val,clock⟩) (clock+1)):=aaG _ _ _ _
   rw [e2] at v
   simp [execOp,ho,Instr.entryStore,hx,hs,hu,MapKept.run_getObj_map N,Go.asInt,Go.asIntOf,goInt,C,F,v,Result.andThen]
  ·simp [execOp,ho,Instr.mapUpdate,run_underlying hm.und,hx,hy,hu,MapKept.run_getObj_map hh,hk.check,d,MapKept.run_setObj_map _ hh,Result.andThen,setB]
 |some j =>
  rw [hf] at d
  have L:j<l.length:=by have:=(List.findIdx?_eq_some_iff_findIdx_eq.1 hf).1;simpa using this
  have R:(l.map (·.1))[j]'(oU L)=k:=by
   have:=List.findIdx?_eq_some_iff_getElem.1 hf
   obtain ⟨h1,h2,_⟩:=this
   exact (of_decide_eq_true h2).symm
  have G:j<ents.size:=oO
  have f:ents.toList[j]?=some ents[j]:=by simp [G]
  simp only [f,du] at d
  have E:ents[j].key=kv k:=by
   have:=D j (oU G) (oU L)
   rw [R] at this
   simpa using this
  have I:∀ w,(Instr.keyThatStays (kv k) (kv k)).run P w=.ok (kv k) w:=fun w=>by simp [Instr.keyThatStays,hk.same]
  have O:iO l k=some l[j].2:=by unfold iO;rw [hf];simp [L]
  have M:v0=l[j].2:=by
   rcases hv with h|⟨h,_⟩
   ·rw [O] at h;exact (Option.some.inj h).symm
   ·rw [O] at h;cases h
  have K:=(m2 j (oU L) G).2.2.1
  simp only [cQ] at K
  have J:ents.modify j (fun e=>{ e with key:=kv k })=ents:=by
   apply Array.ext'
   rw [Array.toList_modify,ChangeMaps.modify_eq_set _ _ _ _ f]
   have:({ ents[j] with key:=kv k }:MapEntry)=ents[j]:=by rw [<- E]
   rw [this]
   exact WideElems.set_self _ _ _ f
  have v:∀ o:Obj,(setObj r o).run P w=.ok () (setB w r o):=fun o=>MapKept.run_setObj_map o hh
  have H:(setObj r (.map ents clock)).run P w=.ok () w:=by rw [v,aaH hh]
  refine ⟨ents[j].val,ents[j].born,w,by rw [M];exact K,fun ev o x y ho hx hy=>?_,fun ev o x y ho hx hy=>⟨?_,?_⟩,fun val=>⟨setB w r (.map (ents.modify j fun e=>{ e with key:=kv k,val:=val }) clock),fun ev o x s u ho hx hs hu=>?_,fun ev o x y u ho hx hy hu=>?_⟩⟩
  ·simp [execOp,ho,Instr.mapEntry,run_underlying hm.und,hx,hy,MapKept.run_getObj_map hh,hk.check,d,G,E,I,J,H,Result.andThen]
  ·simp [execOp,ho,Instr.lookup,run_underlying hm.und,hx,hy,MapKept.run_getObj_map hh,hk.check,d,Result.andThen]
  ·simp [execOp,ho,Instr.lookup,run_underlying hm.und,hx,hy,MapKept.run_getObj_map hh,hk.check,d,Result.andThen]
  ·have C:ents.findIdx? (fun e=>((e.born:Nat):Int) == ((ents[j].born:Nat):Int))=some j:=by
    rw [WideElems.findIdx_arr]
    exact WideElems.findIdx_born Q f
   have F:ents.modify j (fun e=>{ e with val:=val })=ents.modify j (fun e'=>{ e' with key:=kv k,val:=val }):=by
    apply Array.ext'
    rw [Array.toList_modify,Array.toList_modify,ChangeMaps.modify_eq_set _ _ _ _ f,ChangeMaps.modify_eq_set _ _ _ _ f,<- E]
   simp [execOp,ho,Instr.entryStore,hx,hs,hu,MapKept.run_getObj_map hh,Go.asInt,Go.asIntOf,goInt,C,F,v,Result.andThen]
  ·simp [execOp,ho,Instr.mapUpdate,run_underlying hm.und,hx,hy,hu,MapKept.run_getObj_map hh,hk.check,d,G,E,I,v,Result.andThen]
end
end Go.AH
