/- An entry of a map that is told by its stamp: `m[k] += x` in a drawn region, whatever the order. -/
import Derived.Test.YtajpgeklmcjciaaGreatPxQ2
import Derived.WideKeyEntry
set_option maxRecDepth 100000
set_option maxHeartbeats 1000000
namespace Go.Proofs.YtajpgeklmcjciaaGreat
open Go Go.AH
attribute [local irreducible] dA bP bT jL gX dQ fF bZ fB aY dY fA
open Go.AH.Heat
theorem nT {A B:Prop} (k:B) (h:Hide B→A:=by intro h_k_;(repeat' (first|refine sCm ?_|(refine gU ?_;first|(refine bW ?_;first|refine st (aJ rfl (by first|exact iG rfl|exact aF a0|exact aF a2|exact aF hN.b0|exact aF hN.b3|assumption)) rfl rfl ?_|refine st (bD rfl (by first|exact aV a0 rfl|exact aV a1 rfl|exact dX rfl|assumption)) rfl rfl ?_)|(refine CJ ?_;refine st (jB rfl rfl (by omega) (by omega)) rfl rfl ?_)|(refine gIA ?_;first|refine st (iw rfl rfl (by omega)) rfl rfl ?_|refine st (eY rfl rfl (by omega)) rfl rfl ?_)|(refine oQ ?_;refine st (iE (by rfl) rfl (by rfl)) rfl rfl ?_)|(refine Oy ?_;refine st (E8 rfl) rfl rfl ?_)|(refine eG ?_;refine st (bH rfl rfl rfl (by exact hf1)) rfl rfl ?_)|(refine dZ ?_;refine stN (bF rfl rfl rfl rfl (by first|exact fQ (aD _) (cH _)|exact hputL _)) rfl ?_))|(refine fU ?_;first|refine frA (aJ rfl (aF (hN.app _).b3)) rfl ?_ (hcl (by omega))|refine frA (aJ rfl (aF (hN.app _).b2)) rfl ?_ hcs|refine frA (aJ rfl (aF (hN.app _).b0)) rfl ?_ hcb|refine frA (eY rfl rfl (by omega)) rfl ?_ (hclr _)|refine frA (kE rfl) rfl ?_ (hcl (by omega))|refine frA (aW rfl) rfl ?_ (hcl (by omega))|refine frA (bD rfl (hrow _)) rfl ?_ hrc|(refine gY ?_;refine frA (aJ rfl (by exact hqX _)) rfl ?_)|(refine fAdd ?_;refine frA (uJ rfl rfl (by omega)) rfl ?_)|(refine QX ?_;refine frA (jC rfl) rfl ?_)|(refine Ae ?_;refine fr1 (lU rfl) rfl rfl rfl ?_))|(refine gu ⟨by kernel_rfl,?_⟩)|refine dD (id:=1) ?_|refine dD (id:=2) ?_|refine dD (id:=3) ?_|refine dD (id:=13) ?_|refine dD (id:=16) ?_|refine dD (id:=22) ?_|refine dD (id:=27) ?_|refine dD (id:=29) ?_|refine dD (id:=33) ?_|refine dD (id:=36) ?_|refine aG ?_|refine dI (by kernel_rfl) rfl ?_|refine eP rfl ?_|refine eU rfl ?_));exact h_k_.h):A:=h ⟨k⟩
theorem NQ {A B:Prop} (k:B) (h:Hide B→A:=by intro h_k_;(repeat' (first|refine sCm ?_|(refine gU ?_;first|(refine bW ?_;first|refine st (aJ rfl (by exact aF a2)) (by exact hrd) rfl ?_|refine st (bD rfl (by first|exact aV a0 rfl|exact aV a1 rfl)) (by exact hrd) rfl ?_)|(refine eG ?_;refine st (bH rfl rfl rfl (by first|exact hf1|exact hf2)) (by exact hrd) rfl ?_)|(refine Jh ?_;refine st (lU rfl) (by exact hrd) rfl ?_)|(refine dZ ?_;refine stN (bF rfl rfl rfl rfl (by exact fQ (aD _) (cH _))) (by exact hrd) ?_))|(refine fU ?_;first|refine frA (aJ rfl (aF (hN.app _).b3)) rfl ?_ (hcl (by omega))|refine frA (aJ rfl (aF (hN.app _).b2)) rfl ?_ hcs|refine frA (eY rfl rfl (by omega)) rfl ?_ (hclr _)|refine frA (kE rfl) rfl ?_ (hcl (by omega))|refine frA (aW rfl) rfl ?_ (hcl (by omega))|(refine gY ?_;first|refine frA (aJ rfl (by exact hqX _)) rfl ?_|refine frA (bD rfl (by exact h20X _)) rfl ?_))|(refine gu ⟨by kernel_rfl,?_⟩)|refine aG ?_|refine dI (by kernel_rfl) (by exact hrd) ?_|refine eP rfl ?_|refine eU rfl ?_));exact h_k_.h):A:=h ⟨k⟩
theorem VU {σ:Heap} {W:Wk} {bB bS cB cS:Nat} {wB cW:Nat→Nat} {kB cK:Nat→Nat→Nat} (hW:W.Ok) (hA:xg σ W bB bS wB cW kB cK) {m:Int×Int} (hm:jX m) (hbB:bB < σ.length) (hbS:bS < σ.length) :
  Ev Tryz.prog 168 [.agg #[.s bB W.nb cB,.s bS W.ns cS],.agg #[.i m.1,.i m.2]] σ (.p σ.length)
   (σ++[.rw [.s bB W.nb cB,.s bS W.ns cS,.i m.1,.i m.2,.s (σ.length+1) (W.ns+1) (W.ns+1),.s (σ.length+2) (W.ns+1) (W.ns+1)],.rw (dF W.front 0 (W.ns+1)),.rw (dF (W.kD m) 0 (W.ns+1))]):=by
 have hnb3:=hW.nb
 have hns3:=hW.ns
 refine aI σ.length 145 Tryz.func168 rfl rfl rfl rfl rfl ?_
 refine nT ?_
 obtain ⟨H1,am⟩:∃ H,H=σ++[aB.rw [.s bB W.nb cB,.s bS W.ns cS]]++[aB.rw [.i m.1,.i m.2]]:=⟨_,rfl⟩
 have ap:H1.length=σ.length+2:=by rw [am];simp
 have hp:H1.take σ.length=σ:=by rw [am];simp
 have a0:H1[σ.length]?=some (.rw [.s bB W.nb cB,.s bS W.ns cS]):=by rw [am];simp
 have a1:H1[σ.length+1]?=some (.rw [.i m.1,.i m.2]):=by rw [am];simp
 refine .mk (dJ [(2,.p σ.length),(3,.p (σ.length+1)),(4,.pointer none)] H1 am.symm ⟨rfl,(by (refine congrArg (fun n=>some (Value.p n)) ?_;simp;try omega)),rfl,trivial⟩ ?_)
 clear am
 apply aG
 refine nT ?_
 obtain ⟨H2,bc⟩:∃ H,H=H1++[aB.rw [.s bB W.nb cB,.s bS W.ns cS,.i m.1,.i m.2,.slice none 0 0,.slice none 0 0]]++[aB.rw [.p (σ.length+2)]]:=⟨_,rfl⟩
 refine .mk (dJ [(2,.p σ.length),(3,.p (σ.length+1)),(4,.pointer none),(5,.p (σ.length+3))] H2 (by rw [bc,← ap];rfl) ⟨rfl,rfl,rfl,(by (refine congrArg (fun n=>some (Value.p n)) ?_;simp;try omega)),trivial⟩ ?_)
 apply aG
 refine nT ?_
 have hN:NT σ (H2++[aB.rw (r8 zro)]) [.s bB W.nb cB,.s bS W.ns cS] [.i m.1,.i m.2] [.s bB W.nb cB,.s bS W.ns cS,.i m.1,.i m.2,.slice none 0 0,.slice none 0 0] zro:=by
  rw [bc]
  refine ⟨aT (aT (aT hp)),aA (aA (aA a0)),aA (aA (aA a1)),aA (aA (bK ap)),aA (bK (by simp [ap])),bK (by simp [ap])⟩
 obtain ⟨H,hH⟩:∃ H,H=H2++[aB.rw (r8 zro)]:=⟨_,rfl⟩
 rw [← hH] at hN
 refine .mk (dJ [(2,.p σ.length),(3,.p (σ.length+1)),(4,.pointer none),(5,.p (σ.length+3)),(6,.p (σ.length+4))] H (by rw [hH,FY];rfl) ⟨rfl,rfl,rfl,rfl,(by refine congrArg (fun n=>some (Value.p n)) ?_;rw [bc];simp [ap]),trivial⟩ ?_)
 clear hH bc a0 a1 hp ap
 apply aG
 refine nT ?_
 refine dV (ι:=Nat) (fun k=>[(2,.p σ.length),(3,.p (σ.length+1)),(4,.pointer none),(5,.p (σ.length+3)),(6,.p (σ.length+4)),(27,.s bB W.nb cB),(28,.i (W.nb:Nat)),(29,.i (k:Nat))]) (fun k mk H=>k≤W.nb∧mk=[]∧NT σ H [.s bB W.nb cB,.s bS W.ns cS] [.i m.1,.i m.2] [.s bB W.nb cB,.s bS W.ns cS,.i m.1,.i m.2,.slice none 0 0,.slice none 0 0] (rQ W.bf k zro)) (fun k=>W.nb - k) 0 tE ⟨bN _,rfl,hN⟩ ?_
 clear hN H
 rintro k mk H ⟨hk,rfl,hN⟩
 have P:(rQ W.bf k zro).length=1001:=uD kJ fun j hj=>hW.b j oO
 generalize hnow:rQ W.bf k zro=now at hN P
 by_cases hkn:k<W.nb
 ·have b7:(k:Int)<(W.nb:Nat):=oO
  have hd1:aK H bB (0+k*2) 2=some [.i (W.bf k).1,.i (W.bf k).2]:=by rw [bA];exact (hA.take hN.pre).bars k hkn
  have bw:=hW.b k hkn
  have hf1:=PV (σ:=H++[aB.rw [.i (W.bf k).1,.i (W.bf k).2]]) (hN.app _).b4 P bw.1 bw.2.2 (by have:=bw.2.1;omega)
  refine nT ?_
  refine ⟨k+1,⟨oO,rfl,?_⟩,oO,tE⟩
  simp only [rQ]
  rw [hnow]
  exact (hN.app _).setR _
 ·obtain rfl:k=W.nb:=oO
  have b7:¬ ((W.nb:Nat):Int)<(W.nb:Nat):=oO
  have ci:now=W.front 0:=hnow.symm
  subst ci
  clear hnow
  have hcl:∀ {q o:Nat},q < σ.length+5→closed H.length (.pointer (some ⟨q,o,none⟩))=true:=fun {q o} h=>(show Nat.blt q H.length=true from Nat.blt_eq.mpr (by have:=hN.len;omega))
  have hrow:∀ X,aK (H++X) (σ.length+4) 0 1001=some (r8 (W.front 0)):=fun X=>aV (hN.app X).b4 (by rw [jv,P])
  have M:(r8 (W.front 0)).length=1001:=by rw [jv,P]
  have hone:=F5 (W.front 0)
  have hrc:dR H.length (r8 (W.front 0))=true:=(aX (oJ _)).1
  have hro:okL (r8 (W.front 0))=true:=(aX (n:=0) (oJ _)).2
  have O:aK (H++[aB.rw (r8 (W.front 0))]) (H++([]:Heap)).length 0 1001=some (r8 (W.front 0)):=by rw [bL];exact dX M
  have bd:(H++[aB.rw (r8 (W.front 0))]).length+1=H.length+2:=oS
  have hput:∀ v x,putCells (H++[aB.rw (r8 (W.front 0))]++x) (σ.length+2) (0+4) [v]=some ((H++[aB.rw (r8 (W.front 0))]++x).set (σ.length+2) (.rw [.s bB W.nb cB,.s bS W.ns cS,.i m.1,.i m.2,v,.slice none 0 0])):=fun v x=>fZ ((hN.app _).app _).b2 oS oS rfl
  repeat' (first|refine sCm ?_|(refine gU ?_;first|refine st (wR oR rfl rfl (by exact O) oO (by exact hone) oO oD) rfl rfl ?_|(refine bW ?_;refine st (aJ rfl (by exact aF ((hN.app _).app _).b3)) rfl rfl ?_)|(refine dZ ?_;refine stN (bF rfl rfl rfl rfl (by exact hput _ _)) rfl ?_))|(refine fU ?_;first|refine frA (aJ rfl (aF (hN.app _).b3)) rfl ?_ (hcl oO)|refine frA (kE rfl) rfl ?_ (hcl oO)|refine frA (aW rfl) rfl ?_ (hcl oO)|refine frA (bD rfl (hrow _)) rfl ?_ hrc|refine frN (tq oR oR oR oR rfl M) lS hrc hro rfl ?_|(refine gY ?_;refine frA (aJ rfl (by exact aF (hN.app _).b2)) rfl ?_))|(refine gu ⟨oK,?_⟩)|refine dD (id:=9) ?_|refine aG ?_|refine Late.Bz 0 36 (id:=8) oK rfl ?_|refine Late.split ?_ rfl rfl rfl rfl ?_|refine eU rfl ?_)
  all_goals refine .mk (dJ [(2,.p σ.length),(3,.p (σ.length+1)),(4,.pointer none),(5,.p (σ.length+3)),(6,.p (σ.length+4))] ((H++[aB.rw (r8 (W.front 0))]++[aB.dead,aB.gr (r8 (W.front 0)) 258]).set (σ.length+2) (.rw [.s bB W.nb cB,.s bS W.ns cS,.i m.1,.i m.2,eu (H.length+2) 1001 1,.slice none 0 0])) (by rw [← bd];rfl) tE ?tail)
  have ar:NT σ ((H++[aB.rw (r8 (W.front 0))]++[aB.dead,aB.gr (r8 (W.front 0)) 258]).set (σ.length+2) (.rw [.s bB W.nb cB,.s bS W.ns cS,.i m.1,.i m.2,eu (H.length+2) 1001 1,.slice none 0 0])) [.s bB W.nb cB,.s bS W.ns cS] [.i m.1,.i m.2] [.s bB W.nb cB,.s bS W.ns cS,.i m.1,.i m.2,eu (H.length+2) 1001 1,.slice none 0 0] (W.front 0):=((hN.app _).app _).setT _
  have bn:((H++[aB.rw (r8 (W.front 0))]++[aB.dead,aB.gr (r8 (W.front 0)) 258]).set (σ.length+2) (.rw [.s bB W.nb cB,.s bS W.ns cS,.i m.1,.i m.2,eu (H.length+2) 1001 1,.slice none 0 0]))[H.length+2]?=some (.gr (dF W.front 0 1) 258):=by
   have:=hN.len
   refine aC ?_ oO
   rw [bE oS]
   simp [dF]
  have c6:σ.length+5≤H.length+2:=by have:=hN.len;omega
  generalize ((H++[aB.rw (r8 (W.front 0))]++[aB.dead,aB.gr (r8 (W.front 0)) 258]).set (σ.length+2) (.rw [.s bB W.nb cB,.s bS W.ns cS,.i m.1,.i m.2,eu (H.length+2) 1001 1,.slice none 0 0]))=H9 at ar bn
  generalize H.length+2=j9 at ar bn c6
  clear hput O hrc hro hone M hrow hcl P hN b7 hkn hk bd H
  have hN:=ar
  apply aG
  refine nT ?_
  clear hN
  refine dV (ι:=Nat) (fun k=>[(2,.p σ.length),(3,.p (σ.length+1)),(4,.pointer none),(5,.p (σ.length+3)),(6,.p (σ.length+4)),(47,.s bS W.ns cS),(48,.i (W.ns:Nat)),(49,.i (k:Nat))]) (fun k mk H=>k≤W.ns∧Mks (σ.length+5) mk H∧∃ j,σ.length+5≤j∧NT σ H [.s bB W.nb cB,.s bS W.ns cS] [.i m.1,.i m.2] [.s bB W.nb cB,.s bS W.ns cS,.i m.1,.i m.2,eu j 1001 (k+1),.slice none 0 0] (W.front k)∧H[j]?=some (.gr (dF W.front 0 (k+1)) 258)) (fun k=>W.ns - k) 0 tE ⟨bN _,.nil,j9,c6,ar,bn⟩ ?_
  clear bn ar c6 H9 j9
  rintro k mk H ⟨hk,hM,j,hj,hN,hg⟩
  by_cases hkn:k<W.ns
  ·have b7:(k:Int)<(W.ns:Nat):=oO
   have P:=kY hW k oO
   have hd1:aK H bS k 1=some [.s (wB k) (W.nw k) (cW k)]:=(hA.take hN.pre).steps k hkn
   refine nT ?_
   have bh:(H++[aB.rw [.s (wB k) (W.nw k) (cW k)]]++[aB.rw (r8 zro)])[H.length]?=some (.rw [.s (wB k) (W.nw k) (cW k)]):=aA aO
   have I:(H++[aB.rw [.s (wB k) (W.nw k) (cW k)]]++[aB.rw (r8 zro)])[H.length+1]?=some (.rw (r8 zro)):=bK oS
   have a3:=(hN.app [aB.rw [.s (wB k) (W.nw k) (cW k)]]).app [aB.rw (r8 zro)]
   have ah:=(hM.app [aB.rw [.s (wB k) (W.nw k) (cW k)]]).app [aB.rw (r8 zro)]
   have ai:(H++[aB.rw [.s (wB k) (W.nw k) (cW k)]]++[aB.rw (r8 zro)])[j]?=_:=aA (aA hg)
   have b8:=aQ hg
   have bp:=hN.len
   refine .mk (dJ [(2,.p σ.length),(3,.p (σ.length+1)),(4,.pointer none),(5,.p (σ.length+3)),(6,.p (σ.length+4)),(10,.p H.length),(11,.p (H.length+1)),(47,.s bS W.ns cS),(48,.i (W.ns:Nat)),(49,.i (k:Nat))] (H++[aB.rw [.s (wB k) (W.nw k) (cW k)]]++[aB.rw (r8 zro)]) (by rw [FY];rfl) ⟨rfl,rfl,rfl,rfl,rfl,rfl,(by (refine congrArg (fun n=>some (Value.p n)) ?_;simp;try omega)),rfl,rfl,rfl,trivial⟩ ?_)
   generalize (H++[aB.rw [.s (wB k) (W.nw k) (cW k)]]++[aB.rw (r8 zro)])=Ha at bh I a3 ah ai
   generalize H.length=p at bh I b8 bp
   clear hd1 hg hN hM H
   have a0:=bh
   apply aG
   refine nT ?_
   clear a0 bh
   refine dV (ι:=Nat) (fun i=>[(2,.p σ.length),(3,.p (σ.length+1)),(4,.pointer none),(5,.p (σ.length+3)),(6,.p (σ.length+4)),(11,.p (p+1)),(47,.s bS W.ns cS),(48,.i (W.ns:Nat)),(49,.i (k:Nat)),(54,.s (wB k) (W.nw k) (cW k)),(55,.i (W.nw k:Nat)),(56,.i (i:Nat))])
    (fun i mk H=>i≤W.nw k∧Mks (σ.length+5) mk H∧NT σ H [.s bB W.nb cB,.s bS W.ns cS] [.i m.1,.i m.2] [.s bB W.nb cB,.s bS W.ns cS,.i m.1,.i m.2,eu j 1001 (k+1),.slice none 0 0] (W.front k)∧H[j]?=some (.gr (dF W.front 0 (k+1)) 258)∧H[p+1]?=some (.rw (r8 (wyF (W.front k) (W.own k) (W.aft k) (W.nk k) i zro)))) (fun i=>W.nw k - i) 0 tE ⟨bN _,ah,a3,ai,I⟩ ?_
   clear I ai ah a3 Ha
   rintro i mk H ⟨hi,hM,hN,hg,I⟩
   have bq:=hW.nw k hkn
   by_cases Y:i<W.nw k
   ·have bt:(i:Int)<(W.nw k:Nat):=oO
    have hd1:aK H (wB k) i 1=some [.s (kB k i) (W.nk k i) (cK k i)]:=(hA.take hN.pre).ways k hkn i Y
    refine nT ?_
    have hf1:=Ky (σ:=H++[aB.rw [.s (kB k i) (W.nk k i) (cK k i)]]) (v:=.s (kB k i) (W.nk k i) (cK k i))
    refine .mk ?_
    apply aG
    refine nT ?_
    have az:(H++[aB.rw [.s (kB k i) (W.nk k i) (cK k i)]]).length=H.length+1:=oS
    have N:=(hN.app [aB.rw [.s (kB k i) (W.nk k i) (cK k i)]]).app [aB.rw [.s (kB k i) (W.nk k i) (cK k i)]]
    have a4:=(hM.app [aB.rw [.s (kB k i) (W.nk k i) (cK k i)]]).app [aB.rw [.s (kB k i) (W.nk k i) (cK k i)]]
    have aj:(H++[aB.rw [.s (kB k i) (W.nk k i) (cK k i)]]++[aB.rw [.s (kB k i) (W.nk k i) (cK k i)]])[j]?=_:=aA (aA hg)
    have a6:(H++[aB.rw [.s (kB k i) (W.nk k i) (cK k i)]]++[aB.rw [.s (kB k i) (W.nk k i) (cK k i)]])[p+1]?=_:=aA (aA I)
    have ac:(H++[aB.rw [.s (kB k i) (W.nk k i) (cK k i)]]++[aB.rw [.s (kB k i) (W.nk k i) (cK k i)]])[H.length+1]?=some (.rw [.s (kB k i) (W.nk k i) (cK k i)]):=bK oS
    have hp11:p+1<H.length:=aQ I
    have hjl2:=aQ hg
    refine dJ [(2,.p σ.length),(3,.p (σ.length+1)),(4,.pointer none),(5,.p (σ.length+3)),(6,.p (σ.length+4)),(11,.p (p+1)),(47,.s bS W.ns cS),(48,.i (W.ns:Nat)),(49,.i (k:Nat)),(54,.s (wB k) (W.nw k) (cW k)),(55,.i (W.nw k:Nat)),(56,.i (i:Nat)),(61,.func (.func 258) #[] #[.p (H.length+1)])] (H++[aB.rw [.s (kB k i) (W.nk k i) (cK k i)]]++[aB.rw [.s (kB k i) (W.nk k i) (cK k i)]]) rfl ⟨rfl,rfl,rfl,rfl,rfl,rfl,rfl,rfl,rfl,rfl,rfl,rfl,by rw [← az];rfl,trivial⟩ ?_
    generalize (H++[aB.rw [.s (kB k i) (W.nk k i) (cK k i)]]++[aB.rw [.s (kB k i) (W.nk k i) (cK k i)]])=Hc at N a4 aj a6 ac
    generalize H.length+1=b at ac
    clear az hf1 hd1 hM hN hg I
    refine kU (p:=[]) (q:=[.p b]) rfl fun L hL=>?_
    obtain ⟨A,e⟩:∃ A,A=Hc++[aB.dfr,L]:=⟨_,rfl⟩
    have d1:A.length=Hc.length+2:=by rw [e];simp
    have a8:NT σ A [.s bB W.nb cB,.s bS W.ns cS] [.i m.1,.i m.2] [.s bB W.nb cB,.s bS W.ns cS,.i m.1,.i m.2,eu j 1001 (k+1),.slice none 0 0] (W.front k):=by rw [e];exact N.app _
    have ca:Mks (σ.length+5) mk A:=by rw [e];exact a4.app _
    have c9:A[j]?=some (.gr (dF W.front 0 (k+1)) 258):=by rw [e];exact aA aj
    have d:A[p+1]?=some (.rw (r8 (wyF (W.front k) (W.own k) (W.aft k) (W.nk k) i zro))):=by rw [e];exact aA a6
    have ba:A[b]?=some (.rw [.s (kB k i) (W.nk k i) (cK k i)]):=by rw [e];exact aA ac
    have bu:A[Hc.length]?=some .dfr:=by rw [e,bE (aD _)];simp
    have G:A[Hc.length+1]?=some L:=by rw [e,bE oO];simp
    have d2:∀ r:List Value,aB.rw r ≠ L:=fun r h=>by rw [hL] at h;cases h
    rw [← e]
    generalize u:wyF (W.front k) (W.own k) (W.aft k) (W.nk k) i zro=row0 at d
    have J:row0.length=1001:=by rw [← u];exact zy kJ fun x hx q hq=>AQ hW oO oO hq
    have ak:p+1 ≠ b:=fun h=>by rw [h,ba] at d;have:=aB.rw.inj (Option.some.inj d);have h2:=congrArg List.length this;rw [jv,J] at h2;simp at h2
    have a:p+1 ≠ Hc.length+1:=fun h=>by rw [h,G] at d;exact d2 _ (Option.some.inj d).symm
    have b9:=hW.k k hkn i Y
    refine Dj (S:=fun q=>A.set (p+1) (.rw (r8 (spF (W.front k) (W.own k i) (W.aft k i) q row0)))) (n:=W.nk k i) (c:=cK k i) (kf:=W.kf k i) (ik:=kB k i) (l:=Hc.length+1) (ib:=b) (set_self d) (fun q=>by simp) (fun q=>aV (aC ba ak) rfl) (fun q x hx=>?_) (fun q hq=>⟨(b9 q hq).1,(b9 q hq).2.1⟩) (by have:=hW.nk k hkn i Y;omega) (fun q=>(aC G a).trans (congrArg some hL)) (fun h q=>jI (VO _ _) h) ⟨rfl,rfl⟩ ?_ ?_
    ·exact fM (take_set a8.pre oO) (hA.kinks k hkn i Y x hx)
    ·intro q hq X QB ay
     obtain ⟨row,hrow⟩:∃ row,row=spF (W.front k) (W.own k i) (W.aft k i) q row0:=⟨_,rfl⟩
     have M:row.length=1001:=by rw [hrow];exact xK J fun x hx=>AQ hW oO Y oO
     have ck:spF (W.front k) (W.own k i) (W.aft k i) (q+1) row0=if jV (W.own k i q).1 (W.own k i q).2 (W.front k) then uz (W.aft k i q).1 (W.aft k i q).2 row else row:=by rw [hrow];rfl
     have ag:=xZ hW hkn Y hq
     have a7:=AQ hW hkn Y hq
     obtain ⟨HX,D⟩:∃ HX,HX=A.set (p+1) (.rw (r8 row))++X:=⟨_,rfl⟩
     have c1:NT σ HX [.s bB W.nb cB,.s bS W.ns cS] [.i m.1,.i m.2] [.s bB W.nb cB,.s bS W.ns cS,.i m.1,.i m.2,eu j 1001 (k+1),.slice none 0 0] (W.front k):=by rw [D];exact (a8.setX oO _).app X
     have c8:HX[p+1]?=some (.rw (r8 row)):=by rw [D];exact aA (aS d)
     have av:HX[Hc.length+1]?=some L:=by rw [D];exact aA (aC G a)
     have hrd:mG (some (Hc.length+1)) (A.length+X.length)=true:=(show Nat.blt _ _=true from Nat.blt_eq.mpr oO)
     have hle:A.length+X.length=HX.length:=by rw [D];simp
     rw [← hrow,← D]
     refine NQ ?_
     refine xY (aA (aA av)) hL fun B hB=>?_
     obtain ⟨HB,C⟩:∃ HB,HB=(HX++[aB.rw [.i (W.kf k i q).1,.i (wZ (W.kf k i) (W.nk k i) q)]]++[aB.rw [.i (W.kf k i q).2.1,.i (W.kf k i q).2.2]]).set (Hc.length+1) B:=⟨_,rfl⟩
     have d7:=aQ av
     have d8:NT σ HB [.s bB W.nb cB,.s bS W.ns cS] [.i m.1,.i m.2] [.s bB W.nb cB,.s bS W.ns cS,.i m.1,.i m.2,eu j 1001 (k+1),.slice none 0 0] (W.front k):=by rw [C];exact ((c1.app _).app _).setX (by have:=N.len;omega) _
     have ch:HB[p+1]?=some (.rw (r8 row)):=by rw [C];exact aC (aA (aA c8)) oO
     have a0:HB[HX.length]?=some (.rw [.i (W.kf k i q).1,.i (wZ (W.kf k i) (W.nk k i) q)]):=by rw [C];exact aC (aA aO) oO
     have a1:HB[HX.length+1]?=some (.rw [.i (W.kf k i q).2.1,.i (W.kf k i q).2.2]):=by rw [C];exact aC (bK oS) oO
     have hf1:=Tf (σ:=HB) (i:=σ.length+4) (.inr (.inl d8.b4)) (by rw [kY hW k oO]) ag.1 ag.2.2 (by have:=ag.2.1;omega)
     refine dJ [(6,.p (σ.length+4)),(11,.p (p+1)),(14,.p HX.length),(15,.p (HX.length+1))] HB (by rw [C];rfl) ⟨rfl,rfl,rfl,(by (refine congrArg (fun n=>some (Value.p n)) ?_;simp;try omega)),trivial⟩ ?_
     by_cases af:jV (W.own k i q).1 (W.own k i q).2 (W.front k)=true
     ·have hf2:=PV (σ:=HB) (i:=p+1) ch M a7.1 a7.2.2 (by have:=a7.2.1;omega)
      refine NQ ?_
      have aa:HB.set (p+1) (.rw (r8 (uz (W.aft k i q).1 (W.aft k i q).2 row)))=(A.set (p+1) (.rw (r8 (spF (W.front k) (W.own k i) (W.aft k i) (q+1) row0)))).set (Hc.length+1) B++X++[aB.rw [.i (W.kf k i q).1,.i (wZ (W.kf k i) (W.nk k i) q)],aB.rw [.i (W.kf k i q).2.1,.i (W.kf k i q).2.2]]:=by
       rw [ck,if_pos af,C,D];exact FV (aQ d) (aQ G) a
      rw [aa,hB];exact ay _ _ _
     ·have dc:jV (W.own k i q).1 (W.own k i q).2 (W.front k)=false:=by simpa using af
      refine NQ ?_
      have aa:HB=(A.set (p+1) (.rw (r8 (spF (W.front k) (W.own k i) (W.aft k i) (q+1) row0)))).set (Hc.length+1) B++X++[aB.rw [.i (W.kf k i q).1,.i (wZ (W.kf k i) (W.nk k i) q)],aB.rw [.i (W.kf k i q).2.1,.i (W.kf k i q).2.2]]:=by
       rw [ck,if_neg af,C,D];exact Kw (aQ G)
      rw [aa,hB];exact ay _ _ _
    ·refine ⟨.ready,none,_,_,_,_,_,(aC G a).trans (congrArg some hL),by simp,?_⟩
     have d4:=N.len
     have d0:=aQ aj
     have d9:=aQ a6
     show (dQ 6 _) _ _ _ _
     refine nT ?_
     refine ⟨i+1,⟨oO,?_,(a8.setX oO _).setX oO _,aC (aC c9 oO) oO,?_⟩,oO,tE⟩
     ·refine Mks.cons ((ca.set d oS).set (aC G a) (by rw [hL];simp)) (a4.new (aD _)) oO (aC (aC bu oO) oO)
     ·refine aC ?_ oO
      rw [aS d,← u];rfl
   ·obtain rfl:i=W.nw k:=oO
    have bt:¬ ((W.nw k:Nat):Int)<(W.nw k:Nat):=oO
    refine nT ?_
    have dd:wyF (W.front k) (W.own k) (W.aft k) (W.nk k) (W.nw k) zro=W.front (k+1):=rfl
    rw [dd] at I
    have bb:=kY hW (k+1) oO
    have w:(r8 (W.front (k+1))).length=1001:=by rw [jv,bb]
    have hone:=F5 (W.front (k+1))
    have hd1:aK H (p+1) 0 1001=some (r8 (W.front (k+1))):=aV I w
    have U:putCells H (σ.length+4) 0 (r8 (W.front (k+1)))=some (H.set (σ.length+4) (.rw (r8 (W.front (k+1))))):=fZ hN.b4 (by rw [w,jv,P];omega) (by rw [jv,P];omega) (by simp [splice,jv,P,bb])
    refine .mk ?_
    apply aG
    refine nT ?_
    refine stN (bF (size:=1001) rfl rfl (by exact w) (by exact hone) (by exact U)) rfl ?_
    refine l9 ?_
    refine uX ?_
    have cm:=hN.setR (W.front (k+1))
    have bs:=aC (x:=.rw (r8 (W.front (k+1)))) hg (show σ.length+4 ≠ j by omega)
    have cp:=hM.set (x:=.rw (r8 (W.front (k+1)))) hN.b4 oS
    refine dJ [(2,.p σ.length),(3,.p (σ.length+1)),(4,.pointer none),(5,.p (σ.length+3)),(6,.p (σ.length+4)),(47,.s bS W.ns cS),(48,.i (W.ns:Nat)),(49,.i (k:Nat))] (H.set (σ.length+4) (.rw (r8 (W.front (k+1))))) rfl tE ?_
    generalize (H.set (σ.length+4) (.rw (r8 (W.front (k+1)))))=H3 at cm bs cp
    clear U hd1 I hg hN hM bt Y hi H
    have hN:=cm
    have bp:=hN.len
    have b8:=aQ bs
    have hcl:∀ {q o:Nat},q < σ.length+5→closed H3.length (.pointer (some ⟨q,o,none⟩))=true:=fun {q o} h=>(show Nat.blt q H3.length=true from Nat.blt_eq.mpr oO)
    have hcs:closed H3.length (eu j 1001 (k+1))=true:=kW (Nat.blt_eq.mpr b8)
    have hrow:∀ X,aK (H3++X) (σ.length+4) 0 1001=some (r8 (W.front (k+1))):=fun X=>aV (hN.app X).b4 w
    have M:=w
    have hrc:dR H3.length (r8 (W.front (k+1)))=true:=(aX (oJ _)).1
    have hro:okL (r8 (W.front (k+1)))=true:=(aX (n:=0) (oJ _)).2
    have O:aK (H3++[aB.rw (r8 (W.front (k+1)))]) (H3++([]:Heap)).length 0 1001=some (r8 (W.front (k+1))):=by rw [bL];exact dX M
    have hgX:(H3++[aB.rw (r8 (W.front (k+1)))])[j]?=some (.gr (dF W.front 0 (k+1)) 258):=aA bs
    have hgl:(dF W.front 0 (k+1)).length=(k+1)*1001:=qZ fun x _ hx=>kY hW x oO
    have bd:(H3++[aB.rw (r8 (W.front (k+1)))]).length=H3.length+1:=oS
    have hput:∀ v x,putCells ((H3++[aB.rw (r8 (W.front (k+1)))]).set j .dead++x) (σ.length+2) (0+4) [v]=some (((H3++[aB.rw (r8 (W.front (k+1)))]).set j .dead++x).set (σ.length+2) (.rw [.s bB W.nb cB,.s bS W.ns cS,.i m.1,.i m.2,v,.slice none 0 0])):=fun v x=>fZ (((hN.app _).setX hj _).app _).b2 oS oS rfl
    repeat' (first|refine sCm ?_|(refine gU ?_;first|refine st (jh oR oR rfl (by exact hgX) (by exact hgl) rfl (by exact O) oO (by exact hone) oO oD) rfl rfl ?_|(refine bW ?_;refine st (aJ rfl (by exact aF (((hN.app _).setX hj _).app _).b3)) rfl rfl ?_)|(refine dZ ?_;refine stN (bF rfl rfl rfl rfl (by exact hput _ _)) rfl ?_))|(refine fU ?_;first|refine frA (aJ rfl (aF (hN.app _).b3)) rfl ?_ (hcl oO)|refine frA (aJ rfl (aF (hN.app _).b2)) rfl ?_ hcs|refine frA (kE rfl) rfl ?_ (hcl oO)|refine frA (aW rfl) rfl ?_ (hcl oO)|refine frA (bD rfl (hrow _)) rfl ?_ hrc|refine frN (tq oR oR oR oR rfl M) lS hrc hro rfl ?_)|(refine gu ⟨oK,?_⟩)|refine dD (id:=24) ?_|refine Late.Bz 0 70 (id:=23) oK rfl ?_|refine Late.split ?_ rfl rfl rfl rfl ?_)
    all_goals refine .mk (dJ [(2,.p σ.length),(3,.p (σ.length+1)),(4,.pointer none),(5,.p (σ.length+3)),(6,.p (σ.length+4)),(47,.s bS W.ns cS),(48,.i (W.ns:Nat)),(49,.i (k:Nat))] (((H3++[aB.rw (r8 (W.front (k+1)))]).set j .dead++[aB.gr (dF W.front 0 (k+1)++r8 (W.front (k+1))) 258]).set (σ.length+2) (.rw [.s bB W.nb cB,.s bS W.ns cS,.i m.1,.i m.2,eu (H3.length+1) 1001 (k+1+1),.slice none 0 0])) (by rw [← bd];rfl) tE ?tail2)
    apply aG
    refine nT ?_
    refine ⟨k+1,⟨oO,?_,H3.length+1,oO,(((hN.app _).setX hj _).app _).setT _,?_⟩,oO,tE⟩
    ·exact (((cp.app _).set hgX oS).app _).set (((hN.app _).setX hj _).app _).b2 oS
    ·refine aC ?_ oO
     rw [VP (k+1)]
     refine bK ?_
     simp
  ·obtain rfl:k=W.ns:=oO
   have b7:¬ ((W.ns:Nat):Int)<(W.ns:Nat):=oO
   have bp:=hN.len
   have b8:=aQ hg
   have hcl:∀ {q o:Nat},q < σ.length+5→closed H.length (.pointer (some ⟨q,o,none⟩))=true:=fun {q o} h=>(show Nat.blt q H.length=true from Nat.blt_eq.mpr oO)
   have hcb:closed H.length (.s bS W.ns cS)=true:=bQ (Nat.blt_eq.mpr oO)
   have R:∀ v x y,putCells (H++x++y) (σ.length+2) (0+5) [v]=some ((H++x++y).set (σ.length+2) (.rw [.s bB W.nb cB,.s bS W.ns cS,.i m.1,.i m.2,eu j 1001 (W.ns+1),v])):=fun v x y=>fZ ((hN.app _).app _).b2 oS oS rfl
   have cc:(W.ns:Int)+1=((W.ns+1:Nat):Int):=oO
   repeat' (first|refine sCm ?_|(refine gU ?_;first|(refine bW ?_;refine st (aJ rfl (by exact aF ((hN.app _).app _).b3)) rfl rfl ?_)|(refine aav ?_;refine st (Ah oR oR rfl rfl oO oO oO) rfl rfl ?_)|(refine dZ ?_;refine stN (bF rfl rfl rfl rfl (by exact R _ _ _)) rfl ?_))|(refine fU ?_;first|refine frA (aJ rfl (aF (hN.app _).b3)) rfl ?_ (hcl oO)|refine frA (aJ rfl (aF (hN.app _).b0)) rfl ?_ hcb|refine frA (aW rfl) rfl ?_ (hcl oO)|(refine fAdd ?_;refine frA (uJ rfl rfl oO) rfl ?_)|(refine QX ?_;refine frA (jC rfl) rfl ?_))|(refine gu ⟨oK,?_⟩)|refine dD (id:=26) ?_|refine aG ?_|refine Late.Bz 0 81 (id:=25) oK rfl ?_|refine Late.split ?_ rfl rfl rfl rfl ?_|refine eU rfl ?_)
   all_goals refine .mk (dJ [(2,.p σ.length),(3,.p (σ.length+1)),(4,.pointer none),(5,.p (σ.length+3)),(6,.p (σ.length+4)),(47,.s bS W.ns cS),(48,.i (W.ns:Nat))] ((H++[aB.rw (dF (fun _=>zro) 0 (W.ns+1))]).set (σ.length+2) (.rw [.s bB W.nb cB,.s bS W.ns cS,.i m.1,.i m.2,eu j 1001 (W.ns+1),.s H.length (W.ns+1) (W.ns+1)])) (by rw [← aeD,show H++gZ (fun _=>true) []=H from bL H];rfl) tE ?tail3)
   have ao:=(hN.app [aB.rw (dF (fun _=>zro) 0 (W.ns+1))]).setT [.s bB W.nb cB,.s bS W.ns cS,.i m.1,.i m.2,eu j 1001 (W.ns+1),.s H.length (W.ns+1) (W.ns+1)]
   have bv:((H++[aB.rw (dF (fun _=>zro) 0 (W.ns+1))]).set (σ.length+2) (.rw [.s bB W.nb cB,.s bS W.ns cS,.i m.1,.i m.2,eu j 1001 (W.ns+1),.s H.length (W.ns+1) (W.ns+1)]))[j]?=_:=aC (aA hg) oO
   have bj:((H++[aB.rw (dF (fun _=>zro) 0 (W.ns+1))]).set (σ.length+2) (.rw [.s bB W.nb cB,.s bS W.ns cS,.i m.1,.i m.2,eu j 1001 (W.ns+1),.s H.length (W.ns+1) (W.ns+1)]))[H.length]?=some (.rw (dF (fun _=>zro) 0 (W.ns+1))):=aC aO oO
   have cd:Mks (σ.length+5) mk ((H++[aB.rw (dF (fun _=>zro) 0 (W.ns+1))]).set (σ.length+2) (.rw [.s bB W.nb cB,.s bS W.ns cS,.i m.1,.i m.2,eu j 1001 (W.ns+1),.s H.length (W.ns+1) (W.ns+1)])):=(hM.app _).set (hN.app _).b2 oS
   generalize ((H++[aB.rw (dF (fun _=>zro) 0 (W.ns+1))]).set (σ.length+2) (.rw [.s bB W.nb cB,.s bS W.ns cS,.i m.1,.i m.2,eu j 1001 (W.ns+1),.s H.length (W.ns+1) (W.ns+1)]))=H5 at ao bv bj cd
   generalize H.length=r at ao bj bp b8
   clear R hcb hcl hN hg hM b7 hkn hk cc H
   have c0:=kY hW W.ns (aD _)
   have T:putCells H5 (σ.length+4) 0 (iR (dU (.int .i8 0)) 1001)=some (H5.set (σ.length+4) (.rw (r8 zro))):=by
    rw [VT _ rfl,← FY]
    exact fZ ao.b4 (by rw [jv,jv,c0,kJ];omega) (by rw [jv,c0];omega) (by simp [splice,jv,c0,kJ])
   apply aG
   refine nT ?_
   refine stN (DU oR oR rfl oO (by rw [VT _ rfl];exact aeC _ _ rfl) (by exact T)) rfl ?_
   refine l9 ?_
   refine uX ?_
   have a5:=ao.setR zro
   have c4:=aC (x:=.rw (r8 zro)) bv (show σ.length+4 ≠ j by omega)
   have c3:=aC (x:=.rw (r8 zro)) bj (show σ.length+4 ≠ r by omega)
   have cf:=cd.set (x:=.rw (r8 zro)) ao.b4 oS
   refine dJ [(2,.p σ.length),(3,.p (σ.length+1)),(4,.pointer none),(5,.p (σ.length+3)),(6,.p (σ.length+4)),(47,.s bS W.ns cS),(48,.i (W.ns:Nat))] (H5.set (σ.length+4) (.rw (r8 zro))) rfl tE ?_
   generalize (H5.set (σ.length+4) (.rw (r8 zro)))=H6 at a5 c4 c3 cf
   clear T ao bv bj cd H5
   have hd1:aK H6 (σ.length+1) (0+0) 2=some [.i m.1,.i m.2]:=aV a5.b1 rfl
   have a1:=a5.b1
   have hf1:=PV (σ:=H6) a5.b4 kJ hm.1 hm.2.2 (by have:=hm.2.1;omega)
   obtain ⟨H7,al⟩:∃ H7,H7=H6.set (σ.length+4) (.rw (r8 (uz m.1 m.2 zro))):=⟨_,rfl⟩
   obtain ⟨E,a9⟩:∃ E,E=uz m.1 m.2 zro:=⟨_,rfl⟩
   have hN:NT σ H7 [.s bB W.nb cB,.s bS W.ns cS] [.i m.1,.i m.2] [.s bB W.nb cB,.s bS W.ns cS,.i m.1,.i m.2,eu j 1001 (W.ns+1),.s r (W.ns+1) (W.ns+1)] E:=by rw [al,← a9];exact a5.setR _
   have cu:H7[j]?=some (.gr (dF W.front 0 (W.ns+1)) 258):=by rw [al];exact aC c4 (show σ.length+4 ≠ j by omega)
   have au:H7[r]?=some (.rw (dF (fun _=>zro) 0 (W.ns+1))):=by rw [al];exact aC c3 (show σ.length+4 ≠ r by omega)
   have cr:Mks (σ.length+5) mk H7:=by rw [al];exact cf.set a5.b4 oS
   rw [← al] at hf1
   have ae:E.length=1001:=by rw [a9];exact FX hW hm 0 (bN _)
   have aq:=aQ au
   have hcl:∀ {q o:Nat},q < σ.length+5→closed H7.length (.pointer (some ⟨q,o,none⟩))=true:=fun {q o} h=>(show Nat.blt q H7.length=true from Nat.blt_eq.mpr oO)
   have hcs:closed H7.length (.s r (W.ns+1) (W.ns+1))=true:=bQ (Nat.blt_eq.mpr aq)
   have hcb:closed H7.length (.s bS W.ns cS)=true:=bQ (Nat.blt_eq.mpr oO)
   have hrow:∀ X,aK (H7++X) (σ.length+4) 0 1001=some (r8 E):=fun X=>aV (hN.app X).b4 (by rw [jv,ae])
   have hrc:dR H7.length (r8 E)=true:=(aX (oJ _)).1
   have w:(r8 E).length=1001:=by rw [jv,ae]
   have hone:=F5 E
   have V:putCells (H7++([]:Heap)) r (0+W.ns*1001) (r8 E)=some ((H7++([]:Heap)).set r (.rw (dF (W.qC m 0) 0 (W.ns+1)))):=Zr (aA au) (fun _ _=>kJ) (Nat.lt_succ_self _) ae fun x hx=>by
    unfold Wk.qC
    split
    ·rename_i h;rw [if_pos oO,a9,show x=W.ns by omega];unfold Wk.kD;rw [cY];rfl
    ·rename_i h;rw [if_neg oO]
   refine nT ?_
   refine .mk ?_
   apply aG
   refine nT ?_
   refine stN (bF (size:=1001) rfl rfl (by exact w) (by exact hone) (by exact V)) rfl ?_
   refine l9 ?_
   refine uX ?_
   rw [bL]
   have bg:=hN.setX (i:=r) oO (.rw (dF (W.qC m 0) 0 (W.ns+1)))
   have bz:=aC (x:=.rw (dF (W.qC m 0) 0 (W.ns+1))) cu (show r ≠ j by omega)
   have bk:=aS (x:=.rw (dF (W.qC m 0) 0 (W.ns+1))) au
   have cb:=cr.set (x:=.rw (dF (W.qC m 0) 0 (W.ns+1))) au oS
   refine dJ [(2,.p σ.length),(3,.p (σ.length+1)),(4,.pointer none),(5,.p (σ.length+3)),(6,.p (σ.length+4))] (H7.set r (.rw (dF (W.qC m 0) 0 (W.ns+1)))) rfl tE ?_
   generalize (H7.set r (.rw (dF (W.qC m 0) 0 (W.ns+1))))=H8 at bg bz bk cb
   clear V hone w hrc hrow hcb hcs hcl aq hf1 al hN cu au cr a5 c4 c3 cf a1 hd1 H6 H7
   have hN:=bg
   have aw:((W.ns:Nat):Int) - 1=((W.ns - 0:Nat):Int) - 1:=oO
   refine nT ?_
   refine .mk ?_
   apply aG
   refine nT ?_
   have cl:(H8++[aB.rw [.i (((W.ns - 0:Nat):Int) - 1)]])[H8.length]?=some (.rw [.i (((W.ns - 0:Nat):Int) - 1)]):=aO
   have b5:=aQ bk
   refine dJ [(2,.p σ.length),(3,.p (σ.length+1)),(4,.pointer none),(5,.p (σ.length+3)),(6,.p (σ.length+4)),(16,.p H8.length)] (H8++[aB.rw [.i (((W.ns - 0:Nat):Int) - 1)]]) (by rw [← aw];rfl) tE ?_
   refine dV (ι:=Nat×Nat) (fun k=>[(2,.p σ.length),(3,.p (σ.length+1)),(4,.pointer none),(5,.p (σ.length+3)),(6,.p (σ.length+4)),(16,.p k.2)])
    (fun k mk H=>k.1≤W.ns∧Mks (σ.length+5) mk H∧NT σ H [.s bB W.nb cB,.s bS W.ns cS] [.i m.1,.i m.2] [.s bB W.nb cB,.s bS W.ns cS,.i m.1,.i m.2,eu j 1001 (W.ns+1),.s r (W.ns+1) (W.ns+1)] E∧H[j]?=some (.gr (dF W.front 0 (W.ns+1)) 258)∧H[r]?=some (.rw (dF (W.qC m k.1) 0 (W.ns+1)))∧H[k.2]?=some (.rw [.i (((W.ns - k.1:Nat):Int) - 1)])∧r<k.2) (fun k=>W.ns - k.1) (0,H8.length) tE ⟨bN _,cb.app _,bg.app _,aA bz,aA bk,cl,b5⟩ ?_
   clear cl b5 hN bg bz bk cb aw H8 mk
   rintro ⟨k,q⟩ mk H ⟨hk,hM,hN,hg,hr,hq,db⟩
   dsimp only at hk hr hq db
   dsimp only
   have a2:=hq
   by_cases hkn:k<W.ns
   ·obtain ⟨i,hi⟩:∃ i:Nat,i=W.ns - k - 1:=⟨_,rfl⟩
    have de:((W.ns - k:Nat):Int) - 1=(i:Nat):=oO
    rw [de] at hq a2
    have bt:(i:Int)≥0:=oO
    have an:=aQ hr
    have cx:=aQ hq
    have hcl:∀ {q o:Nat},q < σ.length+5→closed H.length (.pointer (some ⟨q,o,none⟩))=true:=fun {q o} h=>(show Nat.blt q H.length=true from Nat.blt_eq.mpr oO)
    have hcs:closed H.length (.s r (W.ns+1) (W.ns+1))=true:=bQ (Nat.blt_eq.mpr an)
    have hclr:∀ o:Nat,closed H.length (.pointer (some ⟨r,o,none⟩))=true:=fun o=>(show Nat.blt r H.length=true from Nat.blt_eq.mpr an)
    have hqX:∀ X,aH (H++X) q (0+0)=some (.i (i:Nat)):=fun X=>aF (aA hq)
    have hputL:∀ v,putCells (H++[aB.rw [.pointer none]]) (H++([]:Heap)).length 0 [v]=some (H++[aB.rw [v]]):=fun v=>by rw [bL];exact fQ (aD _) (cH _)
    have K:i<W.ns:=oO
    refine nT ?_
    have a3:=hN.app [aB.rw [.pointer (some ⟨r,0+(i+1)*1001,none⟩)]]
    have ah:=hM.app [aB.rw [.pointer (some ⟨r,0+(i+1)*1001,none⟩)]]
    have ai:(H++[aB.rw [.pointer (some ⟨r,0+(i+1)*1001,none⟩)]])[j]?=some (.gr (dF W.front 0 (W.ns+1)) 258):=aA hg
    have br:(H++[aB.rw [.pointer (some ⟨r,0+(i+1)*1001,none⟩)]])[r]?=some (.rw (dF (W.qC m k) 0 (W.ns+1))):=aA hr
    have bl:(H++[aB.rw [.pointer (some ⟨r,0+(i+1)*1001,none⟩)]])[q]?=some (.rw [.i (i:Nat)]):=aA hq
    have Z:(H++[aB.rw [.pointer (some ⟨r,0+(i+1)*1001,none⟩)]])[H.length]?=some (.rw [.pointer (some ⟨r,0+(i+1)*1001,none⟩)]):=aO
    refine .mk (dJ [(2,.p σ.length),(3,.p (σ.length+1)),(4,.pointer none),(5,.p (σ.length+3)),(6,.p (σ.length+4)),(16,.p q),(17,.p H.length)] (H++[aB.rw [.pointer (some ⟨r,0+(i+1)*1001,none⟩)]]) rfl ⟨rfl,rfl,rfl,rfl,rfl,rfl,by rw [show H++gZ (bY #[]) []=H from bL H];rfl,trivial⟩ ?_)
    generalize (H++[aB.rw [.pointer (some ⟨r,0+(i+1)*1001,none⟩)]])=Ha at a3 ah ai br bl Z
    generalize H.length=p at Z an cx
    clear hputL hqX hclr hcs hcl a2 hq hr hg hN hM H
    have hN:=a3
    have hw:=gy (k:=0) ((hA.take hN.pre).steps i K) oO
    have a2:=bl
    have cy:=aQ Z
    apply aG
    refine nT ?_
    clear hw hN a2
    refine dV (ι:=Nat) (fun x=>[(2,.p σ.length),(3,.p (σ.length+1)),(4,.pointer none),(5,.p (σ.length+3)),(6,.p (σ.length+4)),(16,.p q),(17,.p p),(121,.s (wB i) (W.nw i) (cW i)),(122,.i (W.nw i:Nat)),(123,.i (x:Nat))])
     (fun x mk H=>x≤W.nw i∧Mks (σ.length+5) mk H∧NT σ H [.s bB W.nb cB,.s bS W.ns cS] [.i m.1,.i m.2] [.s bB W.nb cB,.s bS W.ns cS,.i m.1,.i m.2,eu j 1001 (W.ns+1),.s r (W.ns+1) (W.ns+1)] E∧H[j]?=some (.gr (dF W.front 0 (W.ns+1)) 258)∧H[r]?=some (.rw (dF (fun t=>if t=i then wyF (W.kD m (i+1)) (W.aft i) (W.own i) (W.nk i) x zro else W.qC m k t) 0 (W.ns+1)))∧H[q]?=some (.rw [.i (i:Nat)])∧H[p]?=some (.rw [.pointer (some ⟨r,0+(i+1)*1001,none⟩)])) (fun x=>W.nw i - x) 0 tE ⟨bN _,ah,a3,ai,?_,bl,Z⟩ ?_
    ·rw [br,ru]
     intro t _ _
     split
     ·rename_i h;unfold Wk.qC;rw [if_neg oO];rfl
     ·rfl
    clear Z bl br ai ah a3 cy Ha mk
    rintro x mk H ⟨hx,hM,hN,hg,hr,hq,Z⟩
    have bq:=hW.nw i K
    by_cases Q:x<W.nw i
    ·have df:(x:Int)<(W.nw i:Nat):=oO
     have hd1:aK H (wB i) x 1=some [.s (kB i x) (W.nk i x) (cK i x)]:=(hA.take hN.pre).ways i K x Q
     refine nT ?_
     have hf1:=Ky (σ:=H++[aB.rw [.s (kB i x) (W.nk i x) (cK i x)]]) (v:=.s (kB i x) (W.nk i x) (cK i x))
     refine .mk ?_
     apply aG
     refine nT ?_
     have az:(H++[aB.rw [.s (kB i x) (W.nk i x) (cK i x)]]).length=H.length+1:=oS
     have N:=(hN.app [aB.rw [.s (kB i x) (W.nk i x) (cK i x)]]).app [aB.rw [.s (kB i x) (W.nk i x) (cK i x)]]
     have a4:=(hM.app [aB.rw [.s (kB i x) (W.nk i x) (cK i x)]]).app [aB.rw [.s (kB i x) (W.nk i x) (cK i x)]]
     have aj:(H++[aB.rw [.s (kB i x) (W.nk i x) (cK i x)]]++[aB.rw [.s (kB i x) (W.nk i x) (cK i x)]])[j]?=_:=aA (aA hg)
     have hrc:(H++[aB.rw [.s (kB i x) (W.nk i x) (cK i x)]]++[aB.rw [.s (kB i x) (W.nk i x) (cK i x)]])[r]?=_:=aA (aA hr)
     have bo:(H++[aB.rw [.s (kB i x) (W.nk i x) (cK i x)]]++[aB.rw [.s (kB i x) (W.nk i x) (cK i x)]])[q]?=_:=aA (aA hq)
     have be:(H++[aB.rw [.s (kB i x) (W.nk i x) (cK i x)]]++[aB.rw [.s (kB i x) (W.nk i x) (cK i x)]])[p]?=_:=aA (aA Z)
     have ac:(H++[aB.rw [.s (kB i x) (W.nk i x) (cK i x)]]++[aB.rw [.s (kB i x) (W.nk i x) (cK i x)]])[H.length+1]?=some (.rw [.s (kB i x) (W.nk i x) (cK i x)]):=bK oS
     refine dJ [(2,.p σ.length),(3,.p (σ.length+1)),(4,.pointer none),(5,.p (σ.length+3)),(6,.p (σ.length+4)),(16,.p q),(17,.p p),(121,.s (wB i) (W.nw i) (cW i)),(122,.i (W.nw i:Nat)),(123,.i (x:Nat)),(128,.func (.func 258) #[] #[.p (H.length+1)])] (H++[aB.rw [.s (kB i x) (W.nk i x) (cK i x)]]++[aB.rw [.s (kB i x) (W.nk i x) (cK i x)]]) rfl ⟨rfl,rfl,rfl,rfl,rfl,rfl,rfl,rfl,rfl,rfl,by rw [← az];rfl,trivial⟩ ?_
     generalize (H++[aB.rw [.s (kB i x) (W.nk i x) (cK i x)]]++[aB.rw [.s (kB i x) (W.nk i x) (cK i x)]])=Hc at N a4 aj hrc bo be ac
     generalize H.length+1=b at ac
     clear az hf1 hd1 hM hN hg hr hq Z H
     refine kU (p:=[]) (q:=[.p b]) rfl fun L hL=>?_
     obtain ⟨A,e⟩:∃ A,A=Hc++[aB.dfr,L]:=⟨_,rfl⟩
     have d1:A.length=Hc.length+2:=by rw [e];simp
     have a8:NT σ A [.s bB W.nb cB,.s bS W.ns cS] [.i m.1,.i m.2] [.s bB W.nb cB,.s bS W.ns cS,.i m.1,.i m.2,eu j 1001 (W.ns+1),.s r (W.ns+1) (W.ns+1)] E:=by rw [e];exact N.app _
     have ca:Mks (σ.length+5) mk A:=by rw [e];exact a4.app _
     have c9:A[j]?=some (.gr (dF W.front 0 (W.ns+1)) 258):=by rw [e];exact aA aj
     have cq:A[q]?=some (.rw [.i (i:Nat)]):=by rw [e];exact aA bo
     have cv:A[p]?=some (.rw [.pointer (some ⟨r,0+(i+1)*1001,none⟩)]):=by rw [e];exact aA be
     have ba:A[b]?=some (.rw [.s (kB i x) (W.nk i x) (cK i x)]):=by rw [e];exact aA ac
     have bu:A[Hc.length]?=some .dfr:=by rw [e,bE (aD _)];simp
     have G:A[Hc.length+1]?=some L:=by rw [e,bE oO];simp
     rw [← e]
     obtain ⟨row0,u⟩:∃ row0,row0=wyF (W.kD m (i+1)) (W.aft i) (W.own i) (W.nk i) x zro:=⟨_,rfl⟩
     have J:row0.length=1001:=by rw [u];exact zy kJ fun y hy q hq=>xZ hW K oO hq
     obtain ⟨F,hF⟩:∃ F:Nat→Nat→List Int,F=fun y t=>if t=i then spF (W.kD m (i+1)) (W.aft i x) (W.own i x) y row0 else W.qC m k t:=⟨_,rfl⟩
     have cg:∀ y≤W.nk i x,∀ t,(F y t).length=1001:=fun y hy t=>by
      rw [hF];dsimp only;split
      ·exact xK J fun z hz=>xZ hW K Q oO
      ·exact Zt hW hm _ _
     have ad:A[r]?=some (.rw (dF (F 0) 0 (W.ns+1))):=by rw [e,hF];dsimp only;simp only [spF];rw [u];exact aA hrc
     have d3:∀ y≤W.nk i x,(dF (F y) 0 (W.ns+1)).length=(W.ns+1)*1001:=fun y hy=>qZ fun t _ _=>cg y hy t
     have ak:r ≠ b:=fun h=>by rw [h,ba] at ad;have:=aB.rw.inj (Option.some.inj ad);have h2:=congrArg List.length this;rw [d3 0 (bN _)] at h2;simp at h2;omega
     have a:r ≠ Hc.length+1:=by have:=aQ hrc;omega
     have ax:r ≠ q:=oO
     have b6:r ≠ p:=oO
     have hne5:r ≠ j:=oO
     have b9:=hW.k i K x Q
     refine Dj (S:=fun y=>A.set r (.rw (dF (F y) 0 (W.ns+1)))) (n:=W.nk i x) (c:=cK i x) (kf:=W.kf i x) (ik:=kB i x) (l:=Hc.length+1) (ib:=b) (set_self ad) (fun q=>by simp) (fun q=>aV (aC ba ak) rfl) (fun q y hy=>?_) (fun q hq=>⟨(b9 q hq).1,(b9 q hq).2.1⟩) (by have:=hW.nk i K x Q;omega) (fun q=>(aC G a).trans (congrArg some hL)) (fun h q=>jI (PW _ _ _ _) h) ⟨rfl,rfl⟩ ?_ ?_
     ·exact fM (take_set a8.pre oO) (hA.kinks i K x Q y hy)
     ·intro y hy X QB ay
      obtain ⟨row,hrow⟩:∃ row,row=spF (W.kD m (i+1)) (W.aft i x) (W.own i x) y row0:=⟨_,rfl⟩
      have M:row.length=1001:=by rw [hrow];exact xK J fun z hz=>xZ hW K Q oO
      have ag:=xZ hW K Q hy
      have a7:=AQ hW K Q hy
      obtain ⟨HX,D⟩:∃ HX,HX=A.set r (.rw (dF (F y) 0 (W.ns+1)))++X:=⟨_,rfl⟩
      have c1:NT σ HX [.s bB W.nb cB,.s bS W.ns cS] [.i m.1,.i m.2] [.s bB W.nb cB,.s bS W.ns cS,.i m.1,.i m.2,eu j 1001 (W.ns+1),.s r (W.ns+1) (W.ns+1)] E:=by rw [D];exact (a8.setX oO _).app X
      have d5:HX[r]?=some (.rw (dF (F y) 0 (W.ns+1))):=by rw [D];exact aA (aS ad)
      have bx:HX[q]?=some (.rw [.i (i:Nat)]):=by rw [D];exact aA (aC cq ax)
      have c5:HX[p]?=some (.rw [.pointer (some ⟨r,0+(i+1)*1001,none⟩)]):=by rw [D];exact aA (aC cv b6)
      have av:HX[Hc.length+1]?=some L:=by rw [D];exact aA (aC G a)
      have hrd:mG (some (Hc.length+1)) (A.length+X.length)=true:=(show Nat.blt _ _=true from Nat.blt_eq.mpr oO)
      rw [← D]
      refine NQ ?_
      refine xY (aA (aA av)) hL fun B hB=>?_
      obtain ⟨HB,C⟩:∃ HB,HB=(HX++[aB.rw [.i (W.kf i x y).1,.i (wZ (W.kf i x) (W.nk i x) y)]]++[aB.rw [.i (W.kf i x y).2.1,.i (W.kf i x y).2.2]]).set (Hc.length+1) B:=⟨_,rfl⟩
      have d7:=aQ av
      have hqc1:=aQ bo
      have hpc1:=aQ be
      have hN:NT σ HB [.s bB W.nb cB,.s bS W.ns cS] [.i m.1,.i m.2] [.s bB W.nb cB,.s bS W.ns cS,.i m.1,.i m.2,eu j 1001 (W.ns+1),.s r (W.ns+1) (W.ns+1)] E:=by rw [C];exact ((c1.app _).app _).setX (by have:=N.len;omega) _
      have cj:HB[r]?=some (.rw (dF (F y) 0 (W.ns+1))):=by rw [C];exact aC (aA (aA d5)) oO
      have cw:HB[q]?=some (.rw [.i (i:Nat)]):=by rw [C];exact aC (aA (aA bx)) oO
      have a2:HB[p]?=some (.rw [.pointer (some ⟨r,0+(i+1)*1001,none⟩)]):=by rw [C];exact aC (aA (aA c5)) oO
      have a0:HB[HX.length]?=some (.rw [.i (W.kf i x y).1,.i (wZ (W.kf i x) (W.nk i x) y)]):=by rw [C];exact aC (aA aO) oO
      have a1:HB[HX.length+1]?=some (.rw [.i (W.kf i x y).2.1,.i (W.kf i x y).2.2]):=by rw [C];exact aC (bK oS) oO
      have dg:F y (i+1)=W.kD m (i+1):=by rw [hF];dsimp only;rw [if_neg oO];unfold Wk.qC;rw [if_pos oO]
      have co:=lY (i:=i+1) (.inl cj) (fun t _=>cg y oO t) oO
      rw [dg] at co
      have hf1:=yM co (lZ hW hm _) a7.1 a7.2.2 (by have:=a7.2.1;omega)
      refine dJ [(5,.p (σ.length+3)),(16,.p q),(17,.p p),(20,.p HX.length),(21,.p (HX.length+1))] HB (by rw [C];rfl) ⟨rfl,rfl,rfl,rfl,(by (refine congrArg (fun n=>some (Value.p n)) ?_;simp;try omega)),trivial⟩ ?_
      by_cases af:jV (W.aft i x y).1 (W.aft i x y).2 (W.kD m (i+1))=true
      ·have an:=aQ cj
       have cx:=aQ cw
       have hcl:∀ {q o:Nat},q < σ.length+5→closed HB.length (.pointer (some ⟨q,o,none⟩))=true:=fun {q o} h=>(show Nat.blt q HB.length=true from Nat.blt_eq.mpr (by have:=hN.len;omega))
       have hcs:closed HB.length (.s r (W.ns+1) (W.ns+1))=true:=bQ (Nat.blt_eq.mpr an)
       have hclr:∀ o:Nat,closed HB.length (.pointer (some ⟨r,o,none⟩))=true:=fun o=>(show Nat.blt r HB.length=true from Nat.blt_eq.mpr an)
       have hqX:∀ X,aH (HB++X) q (0+0)=some (.i (i:Nat)):=fun X=>aF (aA cw)
       have h20X:∀ X,aK (HB++X) HX.length 0 2=some [.i (W.kf i x y).1,.i (wZ (W.kf i x) (W.nk i x) y)]:=fun X=>aV (aA a0) rfl
       have ce:F y i=row:=by rw [hF,hrow];dsimp only;rw [if_pos rfl]
       have cz:=FZ (f:=F y) (g:=F y) (n:=W.ns+1) (i:=i) (row:=row) oO fun t _=>by
                                                             split;· rename_i h;rw [h,ce]
                                                             ·rfl
       have c7:=FZ (f:=F y) (g:=F (y+1)) (n:=W.ns+1) (i:=i) (row:=uz (W.own i x y).1 (W.own i x y).2 row) oO fun t _=>by
        rw [hF];dsimp only;split
        ·simp only [spF];rw [if_pos af,← hrow]
        ·rfl
       have c2:(dF (F y) 0 i).length=0+i*1001:=by rw [qZ fun t _ _=>cg y oO t];omega
       have hf2:=ab8 (σ:=HB++([]:Heap)) (i:=r) (A:=dF (F y) 0 i) (B:=dF (F y) (i+1) (W.ns+1 - i - 1)) (l:=row) (by rw [bL,cj,← cz]) c2 (nS _ _ _) (nS _ _ _) M ag.1 ag.2.2 (by have:=ag.2.1;omega)
       rw [← c7] at hf2
       have hiN:i<W.ns+1:=oO
       refine NQ ?_
       have aa:(HB++([]:Heap)).set r (.rw (dF (F (y+1)) 0 (W.ns+1)))=(A.set r (.rw (dF (F (y+1)) 0 (W.ns+1)))).set (Hc.length+1) B++X++[aB.rw [.i (W.kf i x y).1,.i (wZ (W.kf i x) (W.nk i x) y)],aB.rw [.i (W.kf i x y).2.1,.i (W.kf i x y).2.2]]:=by
        rw [bL,C,D];exact FV (aQ ad) (aQ G) a
       rw [aa,hB];exact ay _ _ _
      ·have dc:jV (W.aft i x y).1 (W.aft i x y).2 (W.kD m (i+1))=false:=by simpa using af
       have c7:F (y+1)=F y:=by
        rw [hF];dsimp only;funext t;split
        ·simp only [spF];rw [if_neg af]
        ·rfl
       refine NQ ?_
       have aa:HB=(A.set r (.rw (dF (F (y+1)) 0 (W.ns+1)))).set (Hc.length+1) B++X++[aB.rw [.i (W.kf i x y).1,.i (wZ (W.kf i x) (W.nk i x) y)],aB.rw [.i (W.kf i x y).2.1,.i (W.kf i x y).2.2]]:=by
        rw [c7,C,D];exact Kw (aQ G)
       rw [aa,hB];exact ay _ _ _
     ·refine ⟨.ready,none,_,_,_,_,_,(aC G a).trans (congrArg some hL),by simp,?_⟩
      have d4:=N.len
      have d0:=aQ aj
      have d9:=aQ bo
      have hc3:=aQ be
      show (dQ 12 _) _ _ _ _
      refine nT ?_
      refine ⟨x+1,⟨oO,?_,(a8.setX oO _).setX oO _,aC (aC c9 oO) oO,?_,aC (aC cq ax) oO,aC (aC cv b6) oO⟩,oO,tE⟩
      ·refine Mks.cons ((ca.set ad oS).set (aC G a) (by rw [hL];simp)) (a4.new (aD _)) oO (aC (aC bu (by have:=aQ hrc;omega)) oO)
      ·refine aC ?_ oO
       rw [aS ad,hF,u];rfl
    ·obtain rfl:x=W.nw i:=oO
     have df:¬ ((W.nw i:Nat):Int)<(W.nw i:Nat):=oO
     have a2:=hq
     have da:(i:Int) - 1=((W.ns - (k+1):Nat):Int) - 1:=oO
     have cn:H[r]?=some (.rw (dF (W.qC m (k+1)) 0 (W.ns+1))):=by
      rw [hr,NM W m hkn hi,ru fun t _ ht=>VR W m hkn hi t oO]
     refine nT ?_
     refine ⟨(k+1,H.length),⟨by dsimp only;omega,hM.app _,hN.app _,aA hg,aA cn,?_,aQ cn⟩,by dsimp only;omega,tE⟩
     dsimp only
     rw [← da]
     exact aO
   ·obtain rfl:k=W.ns:=oO
    have hq0:((W.ns - W.ns:Nat):Int) - 1=-1:=oO
    rw [hq0] at hq a2
    refine nT ?_
    have d6:dF (W.qC m W.ns) 0 (W.ns+1)=dF (W.kD m) 0 (W.ns+1):=ru fun x _ _=>if_pos oO
    rw [d6] at hr
    have k2:=rP hN.b2 (hM.not hN.b2 oS)
    have kj:=rP hg (hM.not hg oS)
    have kr:=rP hr (hM.not hr oS)
    have hjr:j ≠ r:=fun h=>by rw [h,hr] at hg;cases hg
    have s0:fV σ.length [σ.length+2,j,r] σ.length=⟨σ.length+2,0,0⟩:=by simp [fV]
    have s1:fV σ.length [σ.length+2,j,r] (σ.length+1)=⟨j,0,0⟩:=by simp [fV];omega
    have s2:fV σ.length [σ.length+2,j,r] (σ.length+2)=⟨r,0,0⟩:=by simp [fV];omega
    refine Ti hM (.tmp rfl .nil) (aY.src (v2:=.p σ.length) [.rw [.s bB W.nb cB,.s bS W.ns cS,.i m.1,.i m.2,.s (σ.length+1) (W.ns+1) (W.ns+1),.s (σ.length+2) (W.ns+1) (W.ns+1)],.rw (dF W.front 0 (W.ns+1)),.rw (dF (W.kD m) 0 (W.ns+1))] [σ.length+2,j,r] (qo hN.pre fun x hx=>by have:=(hM.2 x hx).1;omega) rfl ?_ ⟨?_,pJ s1 (.inr ⟨_,kj⟩) (nS _ _ _),pJ s2 (.inl kr) (nS _ _ _),trivial⟩ ?_) ⟨rfl,rfl⟩
    ·simp [dG];omega
    ·refine tC s0 (.inl k2) rfl fun x h1 h2=>?_
     match x,h1 with
     |0,_=>exact lI (by simp;omega) (fJ hbB) (aD _)
     |1,_=>exact lI (by simp;omega) (fJ hbS) (aD _)
     |2,_=>exact aZ _ rfl
     |3,_=>exact aZ _ rfl
     |4,_=>exact kG oS s1
     |5,_=>exact lI oS s2 (aD _)
     |x+6,h1=>exact absurd h1 oS
    ·have:=VQ.ptr (q:=true) (n:=σ.length+3) (ρ:=fV σ.length [σ.length+2,j,r]) σ.length 0 oO
     rw [s0] at this
     exact this
end Go.Proofs.YtajpgeklmcjciaaGreat
namespace Go.AH
open Go
theorem Tm {P:Program} {n0 N:Nat} {rd:Option Nat} {c:Code} {Q:Post} {e:Env} {mk:List Nat} {σ:Heap} (el:TypeId) (h:bP P n0 N rd c Q e mk (σ++[.gr [] el])):bP P n0 N rd c Q e mk σ:=by
 intro G w0 ρ0 A w hi
 obtain ⟨g0,ρ,g1,g2,g3⟩:=hi
 exact h G w0 ρ0 A w ⟨by simp;omega,ρ,g1,XO g2 el,yx g3 oS fun _ _=>rfl⟩
section
variable {α:Type} [DecidableEq α]
theorem Et {l:List Nat} {g:Nat→α} {x:α} (h:∀ k ∈ l,g k ≠ x):(l.map g).findIdx? (fun q=>decide (x=q))=none:=by
 rw [List.findIdx?_eq_none_iff]
 intro y hy
 obtain ⟨k,hk,rfl⟩:=List.mem_map.1 hy
 simpa using fun e=>h k hk e.symm
theorem zA {g:Nat→α} (hg:∀ a b,g a=g b→a=b):∀ {l:List Nat} {x:Nat},x ∈ l→∃ j,(l.map g).findIdx? (fun q=>decide (g x=q))=some j∧l[j]?=some x∧(l.Nodup→l.eraseIdx j=l.filter (· ≠ x))
 |[],_,h=>by simp at h
 |a::l,x,h=>by
  by_cases c:a=x
  ·subst c
   refine ⟨0,by simp [fe],rfl,fun hn=>?_⟩
   have hn:=List.nodup_cons.1 hn
   simp only [List.eraseIdx_zero,List.tail_cons]
   rw [List.filter_cons,if_neg oS,List.filter_eq_self.2]
   intro y hy
   simp only [ne_eq,decide_not,eQ,decide_eq_false_iff_not]
   intro e;rw [e] at hy;exact hn.1 hy
  ·have hx:x ∈ l:=by rcases List.mem_cons.1 h with e|e;exact absurd e.symm c;exact e
   obtain ⟨j,h1,h2,h3⟩:=zA hg hx
   have d:¬ g x=g a:=fun e=>c (hg _ _ e).symm
   refine ⟨j+1,by simp [fe,d,h1],by simpa using h2,fun hn=>?_⟩
   have hn:=List.nodup_cons.1 hn
   rw [List.eraseIdx_cons_succ,h3 hn.2,List.filter_cons,if_pos (oU c)]
theorem NR {β:Type} (f:Nat→β):∀ (l:List Nat) (j:Nat),(l.map f).eraseIdx j=(l.eraseIdx j).map f
 |[],_=>rfl
 |_::_,0=>rfl
 |a::l,j+1=>by simp only [cG,List.eraseIdx_cons_succ];rw [NR f l j]
def mpL (g:Nat→α) (v:Nat→Value) (l:List Nat):List (α×Value):=l.map fun k=>(g k,v k)
theorem Eu (g:Nat→α) (v:Nat→Value) (l:List Nat):(mpL g v l).map (·.1)=l.map g:=by simp [mpL]
theorem ag7 {g:Nat→α} {v:Nat→Value} (hg:∀ a b,g a=g b→a=b) {l:List Nat} {x:Nat} (h:x ∉ l):mF (mpL g v l) (g x) (v x)=mpL g v (l++[x]):=by
 unfold mF
 rw [Eu,Et fun k hk e=>h (by rw [← hg _ _ e];exact hk)]
 simp [mpL]
theorem aeF {g:Nat→α} {v:Nat→Value} (hg:∀ a b,g a=g b→a=b) {l:List Nat} {x:Nat} (h:x ∈ l) (hn:l.Nodup):nZ (mpL g v l) (g x)=mpL g v (l.filter (· ≠ x)):=by
 obtain ⟨j,h1,_,h3⟩:=zA hg h
 unfold nZ
 rw [Eu,h1]
 simp only
 rw [← h3 hn]
 unfold mpL
 rw [NR]
theorem aeG {g:Nat→α} {v:Nat→Value} (hg:∀ a b,g a=g b→a=b) {l:List Nat} {x:Nat} (h:x ∈ l):iT (mpL g v l) (g x)=some (v x):=by
 obtain ⟨j,h1,h2,_⟩:=zA hg h
 unfold iT
 rw [Eu,h1]
 simp [mpL,h2]
theorem ab9 {g:Nat→α} {v:Nat→Value} (hg:∀ a b,g a=g b→a=b) {l:List Nat} {x:Nat} (h:x ∉ l):iT (mpL g v l) (g x)=none:=by
 unfold iT
 rw [Eu,Et fun k hk e=>h (by rw [← hg _ _ e];exact hk)]
end
def slN (b:Nat) (n:Nat):Value:=match n with|0=>.slice none 0 0|n+1=>.slice (some ⟨b,0,none⟩) (n+1) (n+1)
theorem Ew {n:Nat} {π:Rho} {i j sz k:Nat} (hi:i<n) (hj:π i=⟨j,0,0⟩):jS n π (slN i k) (eu j sz k):=by
 cases k with
 |zero=>exact .nilSlice
 |succ k=>exact kG hi hj
namespace Heat
open Go.Proofs.YtajpgeklmcjciaaGreat
theorem xM (p:Nat→Bool) (n:Nat):(List.range (n+1)).filter p=(List.range n).filter p++(if p n then [n] else []):=by
 rw [fy,List.filter_append]
 congr 1
 by_cases h:p n=true <;> simp [h]
namespace Wk
variable (W:Wk) (m:Int×Int)
def bothR (i:Nat):List Int:=mulL (W.front i) (W.kD m i)
def noB:Bool:=decide (∀ i ∈ List.range 1001,gi (W.bothR m 0) i=gi zro i)
def nH (i k:Nat):Nat→Bool
 |0=>false
 |q+1=>nH i k q || (jV (W.own i k q).1 (W.own i k q).2 (W.bothR m i) && jV (W.aft i k q).1 (W.aft i k q).2 (W.kD m (i+1)))
def lead (i k:Nat):Bool:=W.nH m i k (W.nk i k)
def someB:List Nat:=if W.noB m then [] else (List.range W.nb).filter fun b=>jV (W.bf b).1 (W.bf b).2 (W.kD m 0)
def AU (i:Nat):List Nat:=if W.noB m then [] else (List.range (W.nw i)).filter fun k=>W.lead m i k
end Wk
theorem AV {lo hi:Int} {l:List Int} (hl:l.length=1001) (h:jX (lo,hi)) (i:Nat):gi (uz lo hi l) i=if lo≤(i:Int)∧(i:Int)≤hi then 1 else gi l i:=by
 obtain ⟨h0,h1,h2⟩:=h
 dsimp only at h0 h1 h2
 unfold uz jQ gi
 rw [cE,cE,cD]
 have a:(l.take lo.toNat).length=lo.toNat:=by simp;omega
 by_cases ha:i<lo.toNat
 ·rw [bR oO,eE,if_pos ha,if_neg oO]
 ·rw [bE oO,a]
  by_cases hb:i - lo.toNat<(hi+1 - lo).toNat
  ·rw [bR (oU hb),List.getElem?_replicate,if_pos hb,if_pos oO];rfl
  ·rw [bE (oU hb),fN,eO,if_neg oO]
   congr 2;omega
theorem acd (i:Nat):gi zro i=0:=by
 unfold gi zro
 rw [cE,List.getElem?_replicate]
 split <;> rfl
def R01 (l:List Int):Prop:=∀ i,gi l i=0∨gi l i=1
theorem IG:R01 zro:=fun i=>.inl (acd i)
theorem KA {lo hi:Int} {l:List Int} (hl:l.length=1001) (h:jX (lo,hi)) (h1:R01 l):R01 (uz lo hi l):=fun i=>by
 rw [AV hl h];split
 ·exact .inr rfl
 ·exact h1 i
theorem KC {bf:Nat→Int×Int} {l:List Int} (hl:l.length=1001) (h0:R01 l):∀ {k:Nat},(∀ j<k,jX (bf j))→R01 (rQ bf k l)
 |0,_=>h0
 |k+1,h=>KA (uD hl fun j hj=>h j oO) (h k oO) (KC hl h0 fun j hj=>h j oO)
theorem VW {now l:List Int} {fr to:Nat→Int×Int} (hl:l.length=1001) (h0:R01 l):∀ {n:Nat},(∀ q<n,jX (to q))→R01 (spF now fr to n l)
 |0,_=>h0
 |q+1,h=>by
  simp only [spF];split
  ·exact KA (xK hl fun j hj=>h j oO) (h q oO) (VW hl h0 fun j hj=>h j oO)
  ·exact VW hl h0 fun j hj=>h j oO
theorem VX {now l:List Int} {fr to:Nat→Nat→Int×Int} {nk:Nat→Nat} (hl:l.length=1001) (h0:R01 l):∀ {n:Nat},(∀ k<n,∀ q<nk k,jX (to k q))→R01 (wyF now fr to nk n l)
 |0,_=>h0
 |k+1,h=>VW (zy hl fun j hj=>h j oO) (VX hl h0 fun j hj=>h j oO) (h k oO)
theorem Tn {W:Wk} (h:W.Ok):∀ i≤W.ns,R01 (W.front i)
 |0,_=>KC kJ IG h.b
 |i+1,hi=>VX kJ IG fun k hk q hq=>AQ h oO hk hq
theorem ace {W:Wk} (h:W.Ok) {m:Int×Int} (hm:jX m):∀ k≤W.ns,R01 (W.NK m k)
 |0,_=>KA kJ hm IG
 |k+1,hk=>VX kJ IG fun j hj q hq=>xZ h oO hj hq
theorem X8 {W:Wk} (h:W.Ok) {m:Int×Int} (hm:jX m) (i:Nat):R01 (W.kD m i):=ace h hm _ oO
theorem KD {a b:List Int}:(mulL a b).length=a.length:=Kz 1001 a b
theorem afR {l:List Int} {n:Nat} (h:l.length=n):YS .i8 (gi l) n (r8 l).toArray:=fun i hi=>Ko oO
def plG (i:Nat) (k:Nat):Int×Int:=((i:Int),(k:Int))
def plV (k:Nat):Value:=.int .i64 (k:Nat)
theorem II (i:Nat):∀ a b,plG i a=plG i b→a=b:=fun a b h=>by have:=congrArg Prod.snd h;simp only [plG] at this;omega
abbrev plM (i:Nat) (l:List Nat):aB:=jD kv (mpL (plG i) plV l)
def lefts (p:Nat→Bool) (n x:Nat):List Nat:=(List.range n).filter fun k=>decide (x≤k) || p k
theorem VY (p:Nat→Bool) (n:Nat):lefts p n 0=List.range n:=List.filter_eq_self.2 fun _ _=>by simp
theorem Zv (p:Nat→Bool) (n:Nat):lefts p n n=(List.range n).filter p:=by
 unfold lefts
 refine List.filter_congr fun k hk=>?_
 have:=List.mem_range.1 hk
 rw [decide_eq_false oO];rfl
theorem Tq (p:Nat→Bool) (n x:Nat):(lefts p n x).Nodup:=List.Nodup.sublist List.filter_sublist List.nodup_range
theorem Zw {p:Nat→Bool} {n x:Nat} (h:x<n):x ∈ lefts p n x:=by
 unfold lefts;rw [List.mem_filter];exact ⟨List.mem_range.2 h,by simp⟩
theorem Tt {p:Nat→Bool} {n x:Nat} (h:p x=true):lefts p n (x+1)=lefts p n x:=by
 unfold lefts
 refine List.filter_congr fun k _=>?_
 by_cases hk:k=x
 ·subst hk;rw [h];simp
 ·have:decide (x+1≤k)=decide (x≤k):=by
   by_cases h2:x≤k
   ·rw [decide_eq_true h2,decide_eq_true oO]
   ·rw [decide_eq_false h2,decide_eq_false oO]
  rw [this]
theorem Tv {p:Nat→Bool} {n x:Nat} (h:p x=false):lefts p n (x+1)=(lefts p n x).filter (· ≠ x):=by
 unfold lefts
 rw [List.filter_filter]
 refine List.filter_congr fun k _=>?_
 by_cases hk:k=x
 ·subst hk;rw [h];simp
 ·have:decide (x+1≤k)=decide (x≤k):=by
   by_cases h2:x≤k
   ·rw [decide_eq_true h2,decide_eq_true oO]
   ·rw [decide_eq_false h2,decide_eq_false oO]
  rw [this];simp [hk]
structure tH (σ:Heap) (W:Wk) (m:Int×Int) (tb fb rb bB cB bS cS:Nat) (wB cW:Nat→Nat) (kB cK:Nat→Nat→Nat):Prop where
 t:σ[tb]?=some (.rw [.slice (some ⟨bB,0,none⟩) W.nb cB,.slice (some ⟨bS,0,none⟩) W.ns cS,.int .i64 m.1,.int .i64 m.2,.slice (some ⟨fb,0,none⟩) (W.ns+1) (W.ns+1),.slice (some ⟨rb,0,none⟩) (W.ns+1) (W.ns+1)])
 f:σ[fb]?=some (.rw (dF W.front 0 (W.ns+1)))
 r:σ[rb]?=some (.rw (dF (W.kD m) 0 (W.ns+1)))
 w:xg σ W bB bS wB cW kB cK
 bB:bB < σ.length
 bS:bS < σ.length
theorem tH.take {σ H:Heap} {W:Wk} {m:Int×Int} {tb fb rb bB cB bS cS:Nat} {wB cW:Nat→Nat} {kB cK:Nat→Nat→Nat} (h:tH σ W m tb fb rb bB cB bS cS wB cW kB cK) (hp:H.take σ.length=σ):tH H W m tb fb rb bB cB bS cS wB cW kB cK :=
 ⟨by rw [jm hp (aQ h.t)];exact h.t,by rw [jm hp (aQ h.f)];exact h.f,by rw [jm hp (aQ h.r)];exact h.r,h.w.take hp,by have:=take_len hp;have:=h.bB;omega,by have:=take_len hp;have:=h.bS;omega⟩
end Heat
end Go.AH
namespace Go.AH.Heat
open Go Go.AH
structure ST (σ H:Heap) (tb:Nat) (sv:Int):Prop where
 pre:H.take σ.length=σ
 b0:H[σ.length]?=some (.rw [.pointer (some ⟨tb,0,none⟩)])
 b1:H[σ.length+1]?=some (.rw [.int .i64 sv])
section
variable {σ H:Heap} {tb:Nat} {sv:Int}
theorem ST.app (h:ST σ H tb sv) (X:Heap):ST σ (H++X) tb sv:=⟨aT h.pre,aA h.b0,aA h.b1⟩
theorem ST.setX (h:ST σ H tb sv) {i:Nat} (hi:σ.length+2≤i) (o:aB):ST σ (H.set i o) tb sv:=⟨take_set h.pre oO,aC h.b0 oO,aC h.b1 oO⟩
theorem ST.len (h:ST σ H tb sv):σ.length+2≤H.length:=by have:=aQ h.b1;omega
end
theorem wS (l:List Nat):(gV l).length=l.length:=by simp [gV]
theorem BI (l:List Nat) (x:Nat):gV (l++[x])=gV l++[.i (x:Nat)]:=by simp [gV]
theorem filter_le (p:Nat→Bool) (n:Nat):((List.range n).filter p).length≤n:=by have:=List.length_filter_le p (List.range n);simpa using this
end Go.AH.Heat
namespace Go.Proofs.YtajpgeklmcjciaaGreat
open Go Go.AH
attribute [local irreducible] dA bP bT jL gX dQ fF bZ fB aY dY fA
open Go.AH.Heat
theorem qw {A B:Prop} (k:B) (h:Hide B→A:=by intro h_k_;(repeat' (first|refine sCm ?_|(refine gU ?_;first|refine st (Jz (kv:=kv) (k:=plG i x) rfl (by exact hmp) rfl (by exact hget)) rfl rfl ?_|refine st (JA (kv:=kv) (k:=plG i x) (by rfl) rfl (by exact hmp) rfl (by exact hget)) rfl rfl ?_|refine st (jh (by rfl) (by rfl) rfl (by exact hgX) (by exact hgl) rfl (by exact dX rfl) (by omega) rfl (by omega) (by decide)) rfl rfl ?_|refine st (Nb (xs:=r8 (W.bothR m 0)) (ys:=List.replicate 1001 (.int .i8 0)) (by rfl) rfl rfl hpx hpy hkx hky) rfl rfl ?_|(refine bW ?_;first|refine st (aJ rfl (by first|exact aF a0|exact aF hS.b0|exact aF hS.b1)) rfl rfl ?_|refine st (bD rfl (by first|exact aV a0 rfl|exact dX rfl|assumption)) rfl rfl ?_)|(refine wY ?_;refine st (OA rfl) rfl rfl ?_)|(refine rV ?_;refine st (lH rfl) rfl rfl ?_)|(refine gIA ?_;first|refine st (iw rfl rfl (by omega)) rfl rfl ?_|refine st (eY rfl rfl (by omega)) rfl rfl ?_|refine st (nX rfl rfl (by omega) (by omega)) rfl rfl ?_)|(refine EX ?_;refine st (iO rfl rfl) rfl rfl ?_)|(refine oQ ?_;first|refine st (iE (by rfl) rfl (by rfl)) rfl rfl ?_|refine st (MO (by rfl)) rfl rfl ?_)|(refine Oy ?_;refine st (y7 rfl rfl rfl) rfl rfl ?_)|(refine eG ?_;refine st (bH rfl rfl rfl (by exact hf1)) rfl rfl ?_)|(refine lV ?_;refine st (fO (by rfl) (by rfl) (by rfl) (by rfl) rfl (by rfl)) rfl rfl ?_)|(refine dZ ?_;refine stN (bF rfl rfl rfl rfl (by exact fQ (aD _) (cH _))) rfl ?_))|(refine fU ?_;first|refine frA (aJ rfl (aF (hS.app _).b0)) rfl ?_ (hcl (by assumption))|refine frA (aJ rfl (aF (aA a0))) rfl ?_ (hcs (by assumption))|refine frA (aJ rfl (hw _)) rfl ?_ (hcs (by assumption))|refine frA (kE rfl) rfl ?_ (hcl (by assumption))|refine frA (aW rfl) rfl ?_ (hcl (by assumption))|refine frA (iw rfl rfl (by omega)) rfl ?_ (hcl (by assumption))|(refine jM ?_;refine frA (bV rfl) rfl ?_)|(refine gY ?_;refine frA (aJ rfl (by exact aF (hS.app _).b1)) rfl ?_)|(refine QX ?_;refine frA (jC rfl) rfl ?_))|(refine gu ⟨by kernel_rfl,?_⟩)|refine dD (id:=2) ?_|refine dD (id:=4) ?_|refine dD (id:=24) ?_|refine aG ?_|refine dI (by kernel_rfl) rfl ?_|refine eP rfl ?_|refine eU rfl ?_));exact h_k_.h):A:=h ⟨k⟩
theorem X9 {A B:Prop} (k:B) (h:Hide B→A:=by intro h_k_;(repeat' (first|refine sCm ?_|(refine gU ?_;first|(refine Jh ?_;refine st (lU rfl) (by exact hrd) rfl ?_)|(refine dZ ?_;refine stN (bF rfl rfl rfl rfl (by first|exact fQ (aD _) (cH _)|exact hput _ _)) (by exact hrd) ?_))|(refine fU ?_;first|(refine jM ?_;refine frA (bV rfl) rfl ?_)|(refine gY ?_;refine frA (aJ rfl (by exact hqX _)) rfl ?_)|(refine DT ?_;first|refine frA (jH rfl rfl) rfl ?_|refine frA (gW rfl rfl) rfl ?_))|(refine fG ?_;first|refine frG (rfl) (by first|rfl|assumption) (aJ rfl (aF (hS.app _).b0)) (hcl (by assumption)) rfl ?_|refine frG (rfl) (by first|rfl|assumption) (aJ rfl (aF (aA a0))) (hcs (by assumption)) rfl ?_|refine frG (rfl) (by first|rfl|assumption) (kE rfl) (hcl (by assumption)) rfl ?_|refine frG (rfl) (by first|rfl|assumption) (aW rfl) (hcl (by assumption)) rfl ?_|refine frG (rfl) (by first|rfl|assumption) (eY rfl rfl (by omega)) (hcl (by assumption)) rfl ?_|(refine jM ?_;refine qy rfl (bV rfl) rfl ?_)|(refine gY ?_;first|refine qy rfl (aJ rfl (by first|exact aF (hS.app _).b0|exact aF (hS.app _).b1|exact hqX _)) rfl ?_|refine qy rfl (bD rfl (by first|exact h20X _|exact h21X _)) rfl ?_)|(refine fAdd ?_;refine qy rfl (uJ rfl rfl (by omega)) rfl ?_)|(refine DT ?_;first|refine qy rfl (jH rfl rfl) rfl ?_|refine qy rfl (gW rfl rfl) rfl ?_)|(refine qR ?_;refine qy rfl (bH rfl rfl rfl (by first|exact hf1|exact hf2)) rfl ?_)|refine frSU rfl rfl ?_|refine abD rfl rfl ?_)|(refine gu ⟨by kernel_rfl,?_⟩)|refine aG ?_|refine dI (by kernel_rfl) (by exact hrd) ?_));exact h_k_.h):A:=h ⟨k⟩
theorem IJ {σ:Heap} {W:Wk} {m:Int×Int} {tb fb rb bB cB bS cS:Nat} {wB cW:Nat→Nat} {kB cK:Nat→Nat→Nat} (hW:W.Ok) (hm:jX m) (hT:tH σ W m tb fb rb bB cB bS cS wB cW kB cK) (hni:σ.all (fun o=>!aU o)=true) {sv:Int} {l:List Nat}
  (hl:sv<0∧l=W.someB m∨∃ i:Nat,sv=i∧i<W.ns∧l=W.AU m i) :
  Ev Tryz.prog 80 [.p tb,.i sv] σ (slN σ.length l.length) (σ++[.rw (gV l)]):=by
 have hnb3:=hW.nb
 have hns3:=hW.ns
 refine aI σ.length 150 Tryz.func80 rfl rfl rfl rfl rfl ?_
 refine qw ?_
 have hS:ST σ (σ++[aB.rw [.p tb]]++[aB.rw [.i sv]]) tb sv:=⟨by simp,aA aO,bK oS⟩
 refine .mk (dJ [(2,.p σ.length),(3,.p (σ.length+1)),(4,.slice none 0 0),(5,.slice none 0 0)] (σ++[aB.rw [.p tb]]++[aB.rw [.i sv]]) rfl ⟨rfl,(by (refine congrArg (fun n=>some (Value.p n)) ?_;simp;try omega)),rfl,rfl,trivial⟩ ?_)
 have hni1:(σ++[aB.rw [.p tb]]++[aB.rw [.i sv]]).all (fun o=>!aU o)=true:=bG (bG hni rfl) rfl
 generalize (σ++[aB.rw [.p tb]]++[aB.rw [.i sv]])=H at hS hni1
 have a:=hT.take hS.pre
 have hf1:=X7 H tb fb rb 0 0 (W.ns+1) (W.ns+1) (W.ns+1) (W.ns+1) 0 _ (W.front 0) (W.kD m 0) (.inr (.inl a.t)) rfl rfl oO oO (lY (.inl a.f) (fun j hj=>kY hW j oO) oO) (lY (.inl a.r) (fun j _=>lZ hW hm j) oO) (kY hW 0 oO) (lZ hW hm 0) (fun i _=>Tn hW 0 oO i) (fun i _=>X8 hW hm 0 i)
 have M:(W.bothR m 0).length=1001:=by unfold Wk.bothR;rw [KD];exact kY hW 0 oO
 have hpx:=oJ (W.bothR m 0)
 have hpy:dN (List.replicate 1001 (.int .i8 0))=true:=by rw [← FY];exact oJ _
 have hkx:=afR M
 have hky:YS .i8 (gi zro) 1001 (List.replicate 1001 (.int .i8 0)).toArray:=by rw [← FY];exact afR kJ
 apply aG
 by_cases a6:W.noB m=true
 ·have a9:decide (∀ i ∈ List.range 1001,gi (W.bothR m 0) i=gi zro i)=true:=a6
  have bs:l=[]:=by
   rcases hl with ⟨_,rfl⟩|⟨i,_,_,rfl⟩
   ·exact if_pos a6
   ·exact if_pos a6
  subst bs
  refine qw ?_
  exact dM (v2:=slN σ.length 0) (.tmp rfl .nil) (aY.src [.rw []] [σ.length] hS.pre rfl (by simp [dG]) ⟨.inl rfl,trivial⟩ .nilSlice) ⟨rfl,rfl⟩
 ·have a9:decide (∀ i ∈ List.range 1001,gi (W.bothR m 0) i=gi zro i)=false:=by simpa [Wk.noB] using a6
  refine qw ?_
  refine .mk (dJ [(2,.p σ.length),(3,.p (σ.length+1)),(4,.slice none 0 0),(5,.slice none 0 0)] H rfl tE ?_)
  clear a9 hky hkx hpy hpx hf1
  have a0:=a.t
  apply aG
  by_cases P:sv<0
  ·have az:l=(List.range W.nb).filter fun b=>jV (W.bf b).1 (W.bf b).2 (W.kD m 0):=by
    rcases hl with ⟨_,rfl⟩|⟨i,h,_,_⟩
    ·exact if_neg a6
    ·omega
   have aa:decide (sv<0)=true:=decide_eq_true P
   refine qw ?_
   refine Tm 3 ?_
   refine dV (ι:=Nat×Nat) (fun k=>[(4,.slice none 0 0),(5,eu k.2 1 ((List.range k.1).filter fun b=>jV (W.bf b).1 (W.bf b).2 (W.kD m 0)).length),(6,.func (.func 170) #[.p rb] #[]),(36,.s bB W.nb cB),(37,.i (W.nb:Nat)),(38,.i (k.1:Nat))])
    (fun k mk H=>k.1≤W.nb∧mk=[]∧ST σ H tb sv∧σ.length+2≤k.2∧H[k.2]?=some (.gr (gV ((List.range k.1).filter fun b=>jV (W.bf b).1 (W.bf b).2 (W.kD m 0))) 3)) (fun k=>W.nb - k.1) (0,H.length) tE ⟨bN _,rfl,hS.app _,hS.len,aO⟩ ?_
   clear a0 hS hni1 a H
   rintro ⟨k,jo⟩ mk H ⟨hk,rfl,hS,O,hg⟩
   dsimp only at hk O hg
   dsimp only
   obtain ⟨lk,d⟩:∃ lk,lk=(List.range k).filter fun b=>jV (W.bf b).1 (W.bf b).2 (W.kD m 0):=⟨_,rfl⟩
   rw [← d] at hg
   rw [← d]
   have av:lk.length≤k:=by rw [d];exact filter_le _ _
   have a:=hT.take hS.pre
   by_cases hkn:k<W.nb
   ·have bj:(k:Int)<(W.nb:Nat):=oO
    have hd1:aK H bB (0+k*2) 2=some [.i (W.bf k).1,.i (W.bf k).2]:=by rw [bA];exact a.w.bars k hkn
    have ao:=hW.b k hkn
    have hf1:=yM (σ:=H++[aB.rw [.i (W.bf k).1,.i (W.bf k).2]]) (lY (i:=0) (.inl (aA a.r)) (fun j _=>lZ hW hm j) oO) (lZ hW hm 0) ao.1 ao.2.2 (by have:=ao.2.1;omega)
    have hgX:(H++[aB.rw [.i (W.bf k).1,.i (W.bf k).2]]++[aB.rw [.i (k:Nat)]])[jo]?=some (.gr (gV lk) 3):=aA (aA hg)
    have hgl:(gV lk).length=lk.length*1:=by rw [wS,cJ]
    by_cases b9:jV (W.bf k).1 (W.bf k).2 (W.kD m 0)=true
    ·refine qw ?_
     have D:((List.range (k+1)).filter fun b=>jV (W.bf b).1 (W.bf b).2 (W.kD m 0))=lk++[k]:=by rw [xM,← d,if_pos b9]
     have e5:eu (H++[aB.rw [.i (W.bf k).1,.i (W.bf k).2]]++[aB.rw [.i (k:Nat)]]).length 1 (lk.length+1)=eu (H.length+2) 1 ((List.range (k+1)).filter fun b=>jV (W.bf b).1 (W.bf b).2 (W.kD m 0)).length:=by rw [D];simp
     have bt:=hS.len
     refine ⟨(k+1,H.length+2),⟨by dsimp only;omega,rfl,(((hS.app _).app _).setX O _).app _,by dsimp only;omega,?_⟩,by dsimp only;omega,⟨rfl,congrArg some e5,rfl,rfl,rfl,rfl,trivial⟩⟩
     dsimp only
     rw [D,BI]
     exact bK oS
    ·have hmf:jV (W.bf k).1 (W.bf k).2 (W.kD m 0)=false:=by simpa using b9
     refine qw ?_
     have D:((List.range (k+1)).filter fun b=>jV (W.bf b).1 (W.bf b).2 (W.kD m 0))=lk:=by rw [xM,← d,if_neg b9,bL]
     refine ⟨(k+1,jo),⟨by dsimp only;omega,rfl,hS.app _,O,?_⟩,by dsimp only;omega,⟨rfl,by dsimp only;rw [D];rfl,rfl,rfl,rfl,rfl,trivial⟩⟩
     dsimp only
     rw [D]
     exact aA hg
   ·obtain rfl:k=W.nb:=oO
    have bj:¬ ((W.nb:Nat):Int)<(W.nb:Nat):=oO
    rw [← az] at d
    subst d
    refine qw ?_
    have s0:fV σ.length [jo] σ.length=⟨jo,0,0⟩:=by simp [fV]
    exact dM (v2:=slN σ.length lk.length) (.tmp rfl .nil) (aY.src [.rw (gV lk)] [jo] hS.pre rfl (by simp [dG];omega) ⟨pJ s0 (.inr ⟨_,hg⟩) (pI _),trivial⟩ (Ew oS s0)) ⟨rfl,rfl⟩
  ·obtain ⟨i,rfl,hi,az⟩:∃ i:Nat,sv=i∧i<W.ns∧l=(List.range (W.nw i)).filter fun k=>W.lead m i k:=by
    rcases hl with ⟨h,_⟩|⟨i,h1,h2,h3⟩
    ·exact absurd h P
    ·exact ⟨i,h1,h2,by rw [h3];exact if_neg a6⟩
   have htb:tb < σ.length:=aQ hT.t
   have hrb:rb < σ.length:=aQ hT.r
   have hbS:bS < σ.length:=hT.bS
   have hwB:wB i < σ.length:=dL (hT.w.ways i hi 0 (hW.w1 i hi))
   have hnw3:=hW.nw i hi
   have aa:decide ((i:Int)<0)=false:=decide_eq_false P
   refine qw ?_
   refine st zi rfl rfl ?_
   refine st (iZ rfl) rfl rfl ?_
   refine l9 ?_
   refine uX ?_
   have hmp:(H++[aB.map []])[H.length]?=some (plM i (List.range 0)):=aO
   have Q:(H++[aB.map []]).all (fun o=>!aU o)=true:=bG hni1 rfl
   have ah:=hS.app [aB.map []]
   have a5:=hS.len
   refine dJ [(2,.p σ.length),(3,.p (σ.length+1)),(4,.slice none 0 0),(5,.slice none 0 0),(9,.map (some H.length))] (H++[aB.map []]) rfl tE ?_
   generalize (H++[aB.map []])=K at hmp Q ah
   generalize H.length=mb at hmp a5
   clear hni1 a0 a hS H
   have hS:=ah
   have a:=hT.take hS.pre
   have a0:=a.t
   have a7:=take_len hS.pre
   have hcl:∀ {q o:Nat},q < σ.length→closed K.length (.pointer (some ⟨q,o,none⟩))=true:=fun {q o} h=>(show Nat.blt q K.length=true from Nat.blt_eq.mpr oO)
   have hcs:∀ {q o n c:Nat},q < σ.length→closed K.length (.slice (some ⟨q,o,none⟩) n c)=true:=fun h=>bQ (Nat.blt_eq.mpr oO)
   have hw:∀ X,aH (K++X) bS (i+0)=some (.s (wB i) (W.nw i) (cW i)):=fun X=>gy (k:=0) ((hT.w.take (aT hS.pre)).steps i hi) oO
   refine qw ?_
   rw [show K++gZ (fun _=>true) []=K from bL K]
   refine dV (ι:=Nat) (fun x=>[(2,.p σ.length),(3,.p (σ.length+1)),(4,.slice none 0 0),(5,.slice none 0 0),(9,.map (some mb)),(61,.s (wB i) (W.nw i) (cW i)),(62,.i (W.nw i:Nat)),(63,.i (x:Nat))])
    (fun x mk H=>x≤W.nw i∧mk=[]∧ST σ H tb i∧H.all (fun o=>!aU o)=true∧H[mb]?=some (plM i (List.range x))) (fun x=>W.nw i - x) 0 tE ⟨bN _,rfl,ah,Q,hmp⟩ ?_
   clear hw hcs hcl a7 a0 a hS ah Q hmp K
   rintro x mk H ⟨hx,rfl,hS,hni1,hmp⟩
   by_cases g:x<W.nw i
   ·have a3:(x:Int)<(W.nw i:Nat):=oO
    refine qw ?_
    refine stN (qc (kv:=kv) (k:=plG i x) rfl (by exact hmp) rfl rfl hni1) rfl ?_
    have bl:mF (mpL (plG i) plV (List.range x)) (plG i x) (.i (x:Nat))=mpL (plG i) plV (List.range (x+1)):=by
     rw [fy];exact ag7 (II i) oS
    rw [bl]
    refine qw ?_
    exact ⟨x+1,⟨oO,rfl,hS.setX a5 _,kN hni1 rfl,aS hmp⟩,oO,tE⟩
   ·obtain rfl:x=W.nw i:=oO
    have a3:¬ ((W.nw i:Nat):Int)<(W.nw i:Nat):=oO
    have a:=hT.take hS.pre
    have hf1:=X7 H tb fb rb 0 0 (W.ns+1) (W.ns+1) (W.ns+1) (W.ns+1) i _ (W.front i) (W.kD m i) (.inr (.inl a.t)) rfl rfl oO oO (lY (.inl a.f) (fun j hj=>kY hW j oO) oO) (lY (.inl a.r) (fun j _=>lZ hW hm j) oO) (kY hW i oO) (lZ hW hm i) (fun x _=>Tn hW i oO x) (fun x _=>X8 hW hm i x)
    have M:(r8 (W.bothR m i)).length=1001:=by rw [jv];unfold Wk.bothR;rw [KD];exact kY hW i oO
    have hone:=F5 (W.bothR m i)
    have N:putCells (H++[aB.rw (List.replicate 1001 (.int .i8 0))]) H.length 0 (r8 (W.bothR m i))=some (H++[aB.rw (r8 (W.bothR m i))]):=by
     rw [fQ (by rw [M,fN];omega) (by rw [fN];omega)];simp [splice,M]
    refine qw ?_
    refine stN (bF (size:=1001) rfl rfl (by exact M) (by exact hone) (by exact N)) rfl ?_
    refine l9 ?_
    refine uX ?_
    have J:(H++[aB.rw (r8 (W.bothR m i))])[H.length]?=some (.rw (r8 (W.bothR m i))):=aO
    have hni2:(H++[aB.rw (r8 (W.bothR m i))]).all (fun o=>!aU o)=true:=bG hni1 rfl
    have Y:(H++[aB.rw (r8 (W.bothR m i))])[mb]?=some (plM i (lefts (W.lead m i) (W.nw i) 0)):=by rw [VY];exact aA hmp
    have ak:=hS.app [aB.rw (r8 (W.bothR m i))]
    have aq:=aQ hmp
    refine dJ [(2,.p σ.length),(3,.p (σ.length+1)),(4,.slice none 0 0),(5,.slice none 0 0),(9,.map (some mb)),(11,.p H.length)] (H++[aB.rw (r8 (W.bothR m i))]) rfl tE ?_
    generalize (H++[aB.rw (r8 (W.bothR m i))])=H3 at J hni2 Y ak
    generalize H.length=p at J aq
    clear N hone M hf1 a hmp hni1 hS a3 g hx H
    have hS:=ak
    have a:=hT.take hS.pre
    have a0:=a.t
    have a7:=take_len hS.pre
    have hcl:∀ {q o:Nat},q < σ.length→closed H3.length (.pointer (some ⟨q,o,none⟩))=true:=fun {q o} h=>(show Nat.blt q H3.length=true from Nat.blt_eq.mpr oO)
    have hcs:∀ {q o n c:Nat},q < σ.length→closed H3.length (.slice (some ⟨q,o,none⟩) n c)=true:=fun h=>bQ (Nat.blt_eq.mpr oO)
    have hw:∀ X,aH (H3++X) bS (i+0)=some (.s (wB i) (W.nw i) (cW i)):=fun X=>gy (k:=0) ((hT.w.take (aT hS.pre)).steps i hi) oO
    refine qw ?_
    rw [show H3++gZ (fun _=>true) []=H3 from bL H3]
    refine dV (ι:=Nat) (fun x=>[(2,.p σ.length),(3,.p (σ.length+1)),(4,.slice none 0 0),(5,.slice none 0 0),(9,.map (some mb)),(11,.p p),(83,.s (wB i) (W.nw i) (cW i)),(84,.i (W.nw i:Nat)),(85,.i (x:Nat))])
     (fun x mk H=>x≤W.nw i∧Mks (σ.length+2) mk H∧ST σ H tb i∧H.all (fun o=>!aU o)=true∧H[mb]?=some (plM i (lefts (W.lead m i) (W.nw i) x))∧H[p]?=some (.rw (r8 (W.bothR m i)))) (fun x=>W.nw i - x) 0 tE ⟨bN _,.nil,ak,hni2,Y,J⟩ ?_
    clear hw hcs hcl a7 a0 a hS ak hni2 Y J H3
    rintro x mk H ⟨hx,hM,hS,hni1,hmp,J⟩
    by_cases g:x<W.nw i
    ·have a3:(x:Int)<(W.nw i:Nat):=oO
     have hd1:aK H (wB i) x 1=some [.s (kB i x) (W.nk i x) (cK i x)]:=(hT.w.take hS.pre).ways i hi x g
     refine qw ?_
     have hf1:=Ky (σ:=H++[aB.rw [.s (kB i x) (W.nk i x) (cK i x)]]++[aB.rw [.bool false]]) (v:=.s (kB i x) (W.nk i x) (cK i x))
     have ae:(H++[aB.rw [.s (kB i x) (W.nk i x) (cK i x)]]++[aB.rw [.bool false]])[H.length]?=some (.rw [.s (kB i x) (W.nk i x) (cK i x)]):=aA aO
     have a0:=ae
     refine .mk (dJ [(2,.p σ.length),(3,.p (σ.length+1)),(4,.slice none 0 0),(5,.slice none 0 0),(9,.map (some mb)),(11,.p p),(83,.s (wB i) (W.nw i) (cW i)),(84,.i (W.nw i:Nat)),(85,.i (x:Nat)),(12,.i (x:Nat)),(13,.p H.length),(14,.p (H.length+1))] (H++[aB.rw [.s (kB i x) (W.nk i x) (cK i x)]]++[aB.rw [.bool false]]) rfl ⟨rfl,rfl,rfl,rfl,rfl,rfl,rfl,rfl,rfl,rfl,rfl,(by (refine congrArg (fun n=>some (Value.p n)) ?_;simp;try omega)),trivial⟩ ?_)
     apply aG
     refine qw ?_
     have bc:(H++[aB.rw [.s (kB i x) (W.nk i x) (cK i x)]]++[aB.rw [.bool false]]).length=H.length+2:=oS
     have aw:=((hS.app [aB.rw [.s (kB i x) (W.nk i x) (cK i x)]]).app [aB.rw [.bool false]]).app [aB.rw [.s (kB i x) (W.nk i x) (cK i x)]]
     have am:=((hM.app [aB.rw [.s (kB i x) (W.nk i x) (cK i x)]]).app [aB.rw [.bool false]]).app [aB.rw [.s (kB i x) (W.nk i x) (cK i x)]]
     have ac:(H++[aB.rw [.s (kB i x) (W.nk i x) (cK i x)]]++[aB.rw [.bool false]]++[aB.rw [.s (kB i x) (W.nk i x) (cK i x)]]).all (fun o=>!aU o)=true:=bG (bG (bG hni1 rfl) rfl) rfl
     have a4:(H++[aB.rw [.s (kB i x) (W.nk i x) (cK i x)]]++[aB.rw [.bool false]]++[aB.rw [.s (kB i x) (W.nk i x) (cK i x)]])[mb]?=_:=aA (aA (aA hmp))
     have R:(H++[aB.rw [.s (kB i x) (W.nk i x) (cK i x)]]++[aB.rw [.bool false]]++[aB.rw [.s (kB i x) (W.nk i x) (cK i x)]])[p]?=_:=aA (aA (aA J))
     have V:(H++[aB.rw [.s (kB i x) (W.nk i x) (cK i x)]]++[aB.rw [.bool false]]++[aB.rw [.s (kB i x) (W.nk i x) (cK i x)]])[H.length+1]?=some (.rw [.bool false]):=aA (bK oS)
     have aj:(H++[aB.rw [.s (kB i x) (W.nk i x) (cK i x)]]++[aB.rw [.bool false]]++[aB.rw [.s (kB i x) (W.nk i x) (cK i x)]])[H.length+2]?=some (.rw [.s (kB i x) (W.nk i x) (cK i x)]):=bK oS
     have a5:=hS.len
     have bh:=aQ J
     refine dJ [(2,.p σ.length),(3,.p (σ.length+1)),(4,.slice none 0 0),(5,.slice none 0 0),(9,.map (some mb)),(11,.p p),(83,.s (wB i) (W.nw i) (cW i)),(84,.i (W.nw i:Nat)),(85,.i (x:Nat)),(12,.i (x:Nat)),(14,.p (H.length+1)),(91,.func (.func 258) #[] #[.p (H.length+2)])] (H++[aB.rw [.s (kB i x) (W.nk i x) (cK i x)]]++[aB.rw [.bool false]]++[aB.rw [.s (kB i x) (W.nk i x) (cK i x)]]) rfl ⟨rfl,rfl,rfl,rfl,rfl,rfl,rfl,rfl,rfl,rfl,rfl,by rw [← bc];rfl,trivial⟩ ?_
     generalize (H++[aB.rw [.s (kB i x) (W.nk i x) (cK i x)]]++[aB.rw [.bool false]]++[aB.rw [.s (kB i x) (W.nk i x) (cK i x)]])=Hc at aw am ac a4 R V aj
     clear a0 ae bc hf1 hd1 hM hS hni1 hmp J
     generalize H.length=z at V aj a5 bh
     clear H
     refine kU (p:=[]) (q:=[.p (z+2)]) rfl fun L hL=>?_
     obtain ⟨A,I⟩:∃ A,A=Hc++[aB.dfr,L]:=⟨_,rfl⟩
     have hAl:A.length=Hc.length+2:=by rw [I];simp
     have b6:ST σ A tb i:=by rw [I];exact aw.app _
     have bq:Mks (σ.length+2) mk A:=by rw [I];exact am.app _
     have au:A.all (fun o=>!aU o)=true:=by rw [I];exact bG ac (by rw [hL];rfl)
     have b7:A[mb]?=some (plM i (lefts (W.lead m i) (W.nw i) x)):=by rw [I];exact aA a4
     have af:A[p]?=some (.rw (r8 (W.bothR m i))):=by rw [I];exact aA R
     have G:A[z+1]?=some (.rw [.bool (W.nH m i x 0)]):=by rw [I];exact aA V
     have br:A[z+2]?=some (.rw [.s (kB i x) (W.nk i x) (cK i x)]):=by rw [I];exact aA aj
     have bn:A[Hc.length]?=some .dfr:=by rw [I,bE (aD _)];simp
     have ag:A[Hc.length+1]?=some L:=by rw [I,bE oO];simp
     rw [← I]
     have hbl1:=aQ aj
     have E:z+1 ≠ Hc.length+1:=oO
     have be:=hW.k i hi x g
     refine Dj (S:=fun y=>A.set (z+1) (.rw [.bool (W.nH m i x y)])) (n:=W.nk i x) (c:=cK i x) (kf:=W.kf i x) (ik:=kB i x) (l:=Hc.length+1) (ib:=z+2) (set_self G) (fun q=>by simp) (fun q=>aV (aC br oO) rfl) (fun q y hy=>?_) (fun q hq=>⟨(be q hq).1,(be q hq).2.1⟩) (by have:=hW.nk i hi x g;omega) (fun q=>(aC ag E).trans (congrArg some hL)) (fun h q=>jI (o:=.rw [.bool _]) (by exact ⟨rfl,rfl⟩) h) ⟨rfl,rfl⟩ ?_ ?_
     ·exact fM (take_set b6.pre oO) (hT.w.kinks i hi x g y hy)
     ·intro y hy X QB bo
      have ba:=xZ hW hi g hy
      have ar:=AQ hW hi g hy
      obtain ⟨HX,a8⟩:∃ HX,HX=A.set (z+1) (.rw [.bool (W.nH m i x y)])++X:=⟨_,rfl⟩
      have bk:ST σ HX tb i:=by rw [a8];exact (b6.setX oO _).app X
      have b8:HX[p]?=some (.rw (r8 (W.bothR m i))):=by rw [a8];exact aA (aC af oO)
      have b4:HX[z+1]?=some (.rw [.bool (W.nH m i x y)]):=by rw [a8];exact aA (aS G)
      have bb:HX[Hc.length+1]?=some L:=by rw [a8];exact aA (aC ag E)
      have hrd:mG (some (Hc.length+1)) (A.length+X.length)=true:=(show Nat.blt _ _=true from Nat.blt_eq.mpr oO)
      rw [← a8]
      refine X9 ?_
      refine xY (aA (aA bb)) hL fun B hB=>?_
      obtain ⟨HB,U⟩:∃ HB,HB=(HX++[aB.rw [.i (W.kf i x y).1,.i (wZ (W.kf i x) (W.nk i x) y)]]++[aB.rw [.i (W.kf i x y).2.1,.i (W.kf i x y).2.2]]).set (Hc.length+1) B:=⟨_,rfl⟩
      have hlx:=aQ bb
      have hS:ST σ HB tb i:=by rw [U];exact ((bk.app _).app _).setX oO _
      have b5:HB[p]?=some (.rw (r8 (W.bothR m i))):=by rw [U];exact aC (aA (aA b8)) oO
      have ad:HB[z+1]?=some (.rw [.bool (W.nH m i x y)]):=by rw [U];exact aC (aA (aA b4)) oO
      have ax:HB[HX.length]?=some (.rw [.i (W.kf i x y).1,.i (wZ (W.kf i x) (W.nk i x) y)]):=by rw [U];exact aC (aA aO) oO
      have ay:HB[HX.length+1]?=some (.rw [.i (W.kf i x y).2.1,.i (W.kf i x y).2.2]):=by rw [U];exact aC (bK oS) oO
      refine dJ [(2,.p σ.length),(3,.p (σ.length+1)),(11,.p p),(14,.p (z+1)),(15,.p HX.length),(16,.p (HX.length+1))] HB (by rw [U];rfl) ⟨rfl,rfl,rfl,rfl,rfl,(by (refine congrArg (fun n=>some (Value.p n)) ?_;simp;try omega)),trivial⟩ ?_
      have a:=hT.take hS.pre
      have a0:=a.t
      have a7:=take_len hS.pre
      have hcl:∀ {q o:Nat},q < σ.length→closed HB.length (.pointer (some ⟨q,o,none⟩))=true:=fun {q o} h=>(show Nat.blt q HB.length=true from Nat.blt_eq.mpr oO)
      have hcs:∀ {q o n c:Nat},q < σ.length→closed HB.length (.slice (some ⟨q,o,none⟩) n c)=true:=fun h=>bQ (Nat.blt_eq.mpr oO)
      have hqX:∀ X,aH (HB++X) (z+1) (0+0)=some (.bool (W.nH m i x y)):=fun X=>aF (aA ad)
      have h20X:∀ X,aK (HB++X) HX.length 0 2=some [.i (W.kf i x y).1,.i (wZ (W.kf i x) (W.nk i x) y)]:=fun X=>aV (aA ax) rfl
      have h21X:∀ X,aK (HB++X) (HX.length+1) 0 2=some [.i (W.kf i x y).2.1,.i (W.kf i x y).2.2]:=fun X=>aV (aA ay) rfl
      have hput:∀ v X,putCells (HB++X) (z+1) 0 [v]=some ((HB++X).set (z+1) (.rw [v])):=fun v X=>fZ (aA ad) oS oS rfl
      have M:(W.bothR m i).length=1001:=by unfold Wk.bothR;rw [KD];exact kY hW i oO
      have hf1:=Tf (σ:=HB++([]:Heap)) (i:=p) (.inr (.inl (aA b5))) M ba.1 ba.2.2 (by have:=ba.2.1;omega)
      have hf2:=yM (σ:=HB++([]:Heap)) (lY (i:=i+1) (.inl (aA a.r)) (fun j _=>lZ hW hm j) oO) (lZ hW hm _) ar.1 ar.2.2 (by have:=ar.2.1;omega)
      have hi1:i+1<W.ns+1:=oO
      have ap:∀ {e:Env} {b:Bool},b=W.nH m i x (y+1)→QB .normal e [] ((HB++([]:Heap)).set (z+1) (.rw [.bool b])):=fun {e b} hb=>by
       have bp:(HB++([]:Heap)).set (z+1) (.rw [.bool b])=(A.set (z+1) (.rw [.bool (W.nH m i x (y+1))])).set (Hc.length+1) B++X++[aB.rw [.i (W.kf i x y).1,.i (wZ (W.kf i x) (W.nk i x) y)],aB.rw [.i (W.kf i x y).2.1,.i (W.kf i x y).2.2]]:=by
        rw [bL,hb,U,a8];exact FV (aQ G) (aQ ag) E
       rw [bp,hB];exact bo _ _ _
      by_cases u:W.nH m i x y=true
      ·refine X9 ?_
       exact ap (by simp only [Wk.nH];rw [u];rfl)
      ·have C:W.nH m i x y=false:=by simpa using u
       by_cases bd:jV (W.own i x y).1 (W.own i x y).2 (W.bothR m i)=true
       ·refine X9 ?_
        exact ap (by simp only [Wk.nH];rw [C,bd];rfl)
       ·have an:jV (W.own i x y).1 (W.own i x y).2 (W.bothR m i)=false:=by simpa using bd
        refine X9 ?_
        exact ap (by simp only [Wk.nH];rw [C,an];rfl)
     ·refine ⟨.ready,none,_,_,_,_,_,(aC ag E).trans (congrArg some hL),by simp,?_⟩
      show (dQ 6 _) _ _ _ _
      refine wX ?_
      refine uX ?_
      have hcm:=aQ a4
      have hcp:=aQ R
      have hcl1:=aw.len
      have al:=(b6.setX (i:=z+1) oO (.rw [.bool (W.nH m i x (W.nk i x))])).setX (i:=Hc.length+1) oO .dead
      have ai:Mks (σ.length+2) (Hc.length::mk) ((A.set (z+1) (.rw [.bool (W.nH m i x (W.nk i x))])).set (Hc.length+1) .dead):=Mks.cons ((bq.set G oS).set (aC ag E) (by rw [hL];simp)) (am.new (aD _)) oO (aC (aC bn oO) oO)
      have Z:((A.set (z+1) (.rw [.bool (W.nH m i x (W.nk i x))])).set (Hc.length+1) .dead).all (fun o=>!aU o)=true:=kN (kN au rfl) rfl
      have F:((A.set (z+1) (.rw [.bool (W.nH m i x (W.nk i x))])).set (Hc.length+1) .dead)[mb]?=some (plM i (lefts (W.lead m i) (W.nw i) x)):=aC (aC b7 oO) oO
      have T:((A.set (z+1) (.rw [.bool (W.nH m i x (W.nk i x))])).set (Hc.length+1) .dead)[p]?=some (.rw (r8 (W.bothR m i))):=aC (aC af oO) oO
      have a0:((A.set (z+1) (.rw [.bool (W.nH m i x (W.nk i x))])).set (Hc.length+1) .dead)[z+1]?=some (.rw [.bool (W.nH m i x (W.nk i x))]):=aC (aS G) oO
      refine dJ [(2,.p σ.length),(3,.p (σ.length+1)),(4,.slice none 0 0),(5,.slice none 0 0),(9,.map (some mb)),(11,.p p),(83,.s (wB i) (W.nw i) (cW i)),(84,.i (W.nw i:Nat)),(85,.i (x:Nat)),(12,.i (x:Nat)),(14,.p (z+1))] ((A.set (z+1) (.rw [.bool (W.nH m i x (W.nk i x))])).set (Hc.length+1) .dead) rfl tE ?_
      generalize ((A.set (z+1) (.rw [.bool (W.nH m i x (W.nk i x))])).set (Hc.length+1) .dead)=H at al ai Z F T a0
      generalize Hc.length::mk=mk2 at ai
      have hS:=al
      rw [show W.nH m i x (W.nk i x)=W.lead m i x from rfl] at a0
      by_cases u:W.lead m i x=true
      ·have bg:(!W.lead m i x)=false:=by rw [u];rfl
       refine qw ?_
       exact ⟨x+1,⟨oO,ai,al,Z,by rw [Tt u];exact F,T⟩,oO,tE⟩
      ·have C:W.lead m i x=false:=by simpa using u
       have bg:(!W.lead m i x)=true:=by rw [C];rfl
       refine qw ?_
       refine stN (Bv (kv:=kv) (k:=plG i x) rfl (by exact F) rfl) rfl ?_
       rw [aeF (II i) (Zw g) (Tq _ _ _),← Tv C]
       refine qw ?_
       exact ⟨x+1,⟨oO,ai.set F (by simp [jD]),al.setX oO _,kN Z rfl,aS F,aC T oO⟩,oO,tE⟩
    ·obtain rfl:x=W.nw i:=oO
     have a3:¬ ((W.nw i:Nat):Int)<(W.nw i:Nat):=oO
     have a:=hT.take hS.pre
     have a0:=a.t
     have a7:=take_len hS.pre
     have hcl:∀ {q o:Nat},q < σ.length→closed H.length (.pointer (some ⟨q,o,none⟩))=true:=fun {q o} h=>(show Nat.blt q H.length=true from Nat.blt_eq.mpr oO)
     have hcs:∀ {q o n c:Nat},q < σ.length→closed H.length (.slice (some ⟨q,o,none⟩) n c)=true:=fun h=>bQ (Nat.blt_eq.mpr oO)
     have hw:∀ X,aH (H++X) bS (i+0)=some (.s (wB i) (W.nw i) (cW i)):=fun X=>gy (k:=0) ((hT.w.take (aT hS.pre)).steps i hi) oO
     rw [Zv] at hmp
     have a5:=hS.len
     refine qw ?_
     rw [show H++gZ (fun _=>true) []=H from bL H]
     refine Tm 3 ?_
     refine dV (ι:=Nat×Nat) (fun k=>[(3,.p (σ.length+1)),(4,.slice none 0 0),(5,eu k.2 1 ((List.range k.1).filter fun y=>W.lead m i y).length),(9,.map (some mb)),(126,.i (W.nw i:Nat)),(127,.i (k.1:Nat))])
      (fun k mk H=>k.1≤W.nw i∧Mks (σ.length+2) mk H∧ST σ H tb i∧H[mb]?=some (plM i ((List.range (W.nw i)).filter fun y=>W.lead m i y))∧σ.length+2≤k.2∧H[k.2]?=some (.gr (gV ((List.range k.1).filter fun y=>W.lead m i y)) 3)) (fun k=>W.nw i - k.1) (0,H.length) tE ⟨bN _,hM.app _,hS.app _,aA hmp,hS.len,aO⟩ ?_
     clear hw hcs hcl a7 a0 a hS hM hni1 hmp J a3 g hx a5 H mk
     rintro ⟨x,jo⟩ mk H ⟨hx,hM,hS,hmp,O,hg⟩
     dsimp only at hx O hg
     dsimp only
     obtain ⟨lk,d⟩:∃ lk,lk=(List.range x).filter fun y=>W.lead m i y:=⟨_,rfl⟩
     rw [← d] at hg
     rw [← d]
     have av:lk.length≤x:=by rw [d];exact filter_le _ _
     by_cases g:x<W.nw i
     ·have a3:(x:Int)<(W.nw i:Nat):=oO
      have hgX:(H++[aB.rw [.i (x:Nat)]])[jo]?=some (.gr (gV lk) 3):=aA hg
      have hgl:(gV lk).length=lk.length*1:=by rw [wS,cJ]
      by_cases u:W.lead m i x=true
      ·have hget:iT (mpL (plG i) plV ((List.range (W.nw i)).filter fun y=>W.lead m i y)) (plG i x)=some (plV x):=aeG (II i) (List.mem_filter.2 ⟨List.mem_range.2 g,u⟩)
       have D:((List.range (x+1)).filter fun y=>W.lead m i y)=lk++[x]:=by rw [xM,← d,if_pos u]
       refine qw ?_
       have e5:eu (H++[aB.rw [.i (x:Nat)]]).length 1 (lk.length+1)=eu (H.length+1) 1 ((List.range (x+1)).filter fun y=>W.lead m i y).length:=by rw [D];simp
       have bt:=hS.len
       refine ⟨(x+1,H.length+1),⟨by dsimp only;omega,((hM.app _).set hgX oS).app _,((hS.app _).setX O _).app _,aA (aC (aA hmp) (fun h=>by rw [h,hmp] at hg;cases hg)),by dsimp only;omega,?_⟩,by dsimp only;omega,⟨rfl,rfl,congrArg some e5,rfl,rfl,rfl,trivial⟩⟩
       dsimp only
       rw [D,BI]
       exact bK oS
      ·have hget:iT (mpL (plG i) plV ((List.range (W.nw i)).filter fun y=>W.lead m i y)) (plG i x)=none:=ab9 (II i) (fun h=>u (List.mem_filter.1 h).2)
       have D:((List.range (x+1)).filter fun y=>W.lead m i y)=lk:=by rw [xM,← d,if_neg u,bL]
       refine qw ?_
       refine ⟨(x+1,jo),⟨by dsimp only;omega,hM,hS,hmp,O,?_⟩,by dsimp only;omega,⟨rfl,rfl,by dsimp only;rw [D];rfl,rfl,rfl,rfl,trivial⟩⟩
       dsimp only
       rw [D]
       exact hg
     ·obtain rfl:x=W.nw i:=oO
      have a3:¬ ((W.nw i:Nat):Int)<(W.nw i:Nat):=oO
      rw [← az] at d
      subst d
      refine qw ?_
      have s0:fV σ.length [jo] σ.length=⟨jo,0,0⟩:=by simp [fV]
      have kj:=rP hg (hM.not hg oS)
      exact Ti hM (v2:=slN σ.length lk.length) (.tmp rfl .nil) (aY.src [.rw (gV lk)] [jo] (qo hS.pre fun x hx=>by have:=(hM.2 x hx).1;omega) rfl (by simp [dG];omega) ⟨pJ s0 (.inr ⟨_,kj⟩) (pI _),trivial⟩ (Ew oS s0)) ⟨rfl,rfl⟩
end Go.Proofs.YtajpgeklmcjciaaGreat
namespace Go.AH
open Go
theorem NS {lo hi:Int} {l:List Int}:(¬ (lM lo hi l≥0))↔(∀ y ∈ l,lo≤y∧y≤hi):=by
 rw [Ns]
 constructor
 ·intro h y hy
  obtain ⟨i,a,rfl⟩:=ey hy
  have:gi l i=l[i]:=by simp [gi,a]
  refine Classical.byContradiction fun hn=>h ⟨i,a,?_⟩
  rw [this];omega
 ·rintro h ⟨i,a,h2⟩
  have:gi l i=l[i]:=by simp [gi,a]
  have:=h l[i] (cQ a)
  omega
end Go.AH
namespace Go.Proofs.YtajpgeklmcjciaaGreat
open Go Go.AH
attribute [local irreducible] dA bP bT jL gX dQ fF bZ fB aY dY fA
theorem Tz (n lo hi:Int):Ev Tryz.prog 173 [.i n,.p 0,.p 1] [.ro [.i lo],.ro [.i hi]] (.bool (decide (n<lo∨n > hi))) [.ro [.i lo],.ro [.i hi]]:=by
 refine aI 2 13 Tryz.func173 rfl rfl rfl rfl rfl ?_
 repeat' (first|refine sCm ?_|(refine gU ?_;first|(refine bW ?_;refine st (aJ rfl oR) rfl rfl ?_)|(refine kQ ?_;first|refine st (lu rfl (by exact dW oA) rfl) rfl rfl ?_|refine st (jK rfl (by exact bM oA) rfl) rfl rfl ?_))|(refine gG ?_;first|(refine kP ?_;refine stG rfl (by exact bM oA) (bV rfl) rfl rfl ?_)|(refine bW ?_;refine stG rfl (by exact bM oA) (aJ rfl oR) rfl rfl ?_)|(refine nK ?_;refine stG rfl (by exact bM oA) (fE rfl rfl rfl) rfl rfl ?_)|refine stS rfl (by exact dW oA) rfl ?_|((fail_if_success (refine stGk rfl oR ?_));(refine Aa rfl ?_ ?_ <;> intro _)))|refine aG ?_)
 all_goals
  refine dM (.tmp rfl .nil) (.plain rfl rfl) ⟨?_,rfl⟩
  simp only [kL,Value.bool.injEq]
  (simp;omega)
theorem TA {σ:Heap} {n lo hi:Int} {a b:Nat} (ha:dP σ a [.i lo]) (hb:dP σ b [.i hi]) (hni:σ.all (fun o=>!aU o)=true) :
  Ev Tryz.prog 173 [.i n,.p a,.p b] σ (.bool (decide (n<lo∨n > hi))) σ :=
 Ev.arrs [[.i lo],[.i hi]] [a,b] (Tz n lo hi) ⟨ha,hb,trivial⟩ ⟨.int _ _,by simpa [bsR] using VQ.ptr (q:=true) (n:=2) (ρ:=bsR [a,b]) 0 0 oO,by simpa [bsR] using VQ.ptr (q:=true) (n:=2) (ρ:=bsR [a,b]) 1 0 oO,trivial⟩ rfl rfl hni
theorem LH (l:List Int) (lo hi:Int) (c:Nat) (hN:l.length≤1000000) :
  Ev Tryz.prog 102 [.s 0 l.length c,.func (.func 173) #[] #[.p 1,.p 2]] [.ro (ints l),.ro [.i lo],.ro [.i hi]] (.i (lM lo hi l)) [.ro (ints l),.ro [.i lo],.ro [.i hi]]:=by
 refine aI 3 19 Tryz.func102 rfl rfl rfl rfl rfl ?_
 repeat' (first|refine sCm ?_|refine aG ?_)
 refine jd (ι:=Nat) (fun i=>[(0,.s 0 l.length c),(1,.func (.func 173) #[] #[.p 1,.p 2]),(7,.i (l.length:Int)),(8,.i (i:Int))])
  (fun _=>[.ro (ints l),.ro [.i lo],.ro [.i hi]]) (fun i=>l.length - i) (fun i=>i≤l.length∧∀ j<i,¬ (gi l j<lo∨gi l j > hi)) 0 oS (.same tE) ⟨oO,fun j h=>oO⟩ ?_
 intro i ⟨hi',a⟩
 have e:i<l.length→aH [.ro (ints l),.ro [.i lo],.ro [.i hi]] 0 i=some (.i (gi l i)):=fun h=>ig h
 repeat' (first|refine sCm ?_|(refine gU ?_;first|(refine bW ?_;refine st (aJ rfl (by exact e oO)) rfl rfl ?_)|(refine gIA ?_;refine st (iw rfl rfl oO) rfl rfl ?_)|(refine eG ?_;refine st (bH rfl rfl rfl (by exact TA (by exact .inl rfl) (by exact .inl rfl) rfl)) rfl rfl ?_))|refine aG ?_|(refine ji rfl ?_ ?_ <;> intro _))
 ·refine dM (.tmp rfl .nil) (.plain rfl rfl) ⟨?_,rfl⟩
  simp only [kL]
  rw [sS oO oA a]
 ·refine ⟨rfl,i+1,⟨oO,fun j hj=>?_⟩,oO,.same tE⟩
  by_cases d:j=i
  ·subst d;assumption
  ·exact a j oO
 ·refine dM (.tmp rfl .nil) (.plain rfl rfl) ⟨?_,rfl⟩
  simp only [kL]
  rw [sU fun j hj=>a j oO]
theorem LJ {σ:Heap} {l:List Int} {lo hi:Int} {x a b c:Nat} (hx:dP σ x (ints l)) (ha:dP σ a [.i lo]) (hb:dP σ b [.i hi]) (hN:l.length≤1000000) (hni:σ.all (fun o=>!aU o)=true) :
  Ev Tryz.prog 102 [.s x l.length c,.func (.func 173) #[] #[.p a,.p b]] σ (.i (lM lo hi l)) σ :=
 Ev.arrs [ints l,[.i lo],[.i hi]] [x,a,b] (LH l lo hi c hN) ⟨hx,ha,hb,trivial⟩
  ⟨by simpa [bsR] using VQ.slice (q:=true) (n:=3) (ρ:=bsR [x,a,b]) 0 0 l.length c c (aD _) oO,
   vsub_fn2 (by simpa [bsR] using VQ.ptr (q:=true) (n:=3) (ρ:=bsR [x,a,b]) 1 0 oO) (by simpa [bsR] using VQ.ptr (q:=true) (n:=3) (ρ:=bsR [x,a,b]) 2 0 oO),trivial⟩ (by simp [bC,dN,plain]) rfl hni
theorem F6 (l:List Int) (lo hi:Int) (c:Nat) (hN:l.length≤1000000) :
  Ev Tryz.prog 172 [.s 0 l.length c,.func (.func 173) #[] #[.p 1,.p 2]] [.ro (ints l),.ro [.i lo],.ro [.i hi]] (.bool (decide (lM lo hi l≥0))) [.ro (ints l),.ro [.i lo],.ro [.i hi]]:=by
 refine aI 3 9 Tryz.func172 rfl rfl rfl rfl rfl ?_
 repeat' (first|refine sCm ?_|(refine gU ?_;(refine eG ?_;refine st (bH rfl rfl rfl (by exact LJ (by exact .inl rfl) (by exact .inl rfl) (by exact .inl rfl) oO rfl)) rfl rfl ?_))|refine aG ?_)
 refine dM (.tmp rfl .nil) (.plain rfl rfl) ⟨?_,rfl⟩
 rfl
theorem F7 {σ:Heap} {l:List Int} {lo hi:Int} {x a b c:Nat} (hx:dP σ x (ints l)) (ha:dP σ a [.i lo]) (hb:dP σ b [.i hi]) (hN:l.length≤1000000) (hni:σ.all (fun o=>!aU o)=true) :
  Ev Tryz.prog 172 [.s x l.length c,.func (.func 173) #[] #[.p a,.p b]] σ (.bool (decide (lM lo hi l≥0))) σ :=
 Ev.arrs [ints l,[.i lo],[.i hi]] [x,a,b] (F6 l lo hi c hN) ⟨hx,ha,hb,trivial⟩
  ⟨by simpa [bsR] using VQ.slice (q:=true) (n:=3) (ρ:=bsR [x,a,b]) 0 0 l.length c c (aD _) oO,
   vsub_fn2 (by simpa [bsR] using VQ.ptr (q:=true) (n:=3) (ρ:=bsR [x,a,b]) 1 0 oO) (by simpa [bsR] using VQ.ptr (q:=true) (n:=3) (ρ:=bsR [x,a,b]) 2 0 oO),trivial⟩ (by simp [bC,dN,plain]) rfl hni
theorem VZ (l:List Int) (lo hi:Int) (c:Nat) (hN:l.length≤1000000) :
  Ev Tryz.prog 81 [.i lo,.i hi,.s 0 l.length c] [.ro (ints l)] (.bool (decide (¬ (lM lo hi l≥0)))) [.ro (ints l)]:=by
 refine aI 1 11 Tryz.func81 rfl rfl rfl rfl rfl ?_
 repeat' (first|refine sCm ?_|(refine gU ?_;first|(refine rV ?_;refine st (nU rfl) rfl rfl ?_)|(refine EX ?_;refine st (iO rfl rfl) rfl rfl ?_)|(refine eG ?_;refine st (bH rfl rfl rfl (by exact F7 (by exact .inl rfl) (by exact .inr (.inl rfl)) (by exact .inr (.inl rfl)) oO rfl)) rfl rfl ?_))|refine aG ?_)
 refine dM (.tmp rfl .nil) (.plain rfl rfl) ⟨?_,rfl⟩
 rfl
theorem V3 {σ:Heap} {l:List Int} {lo hi:Int} {x c:Nat} (hx:dP σ x (ints l)) (hN:l.length≤1000000) (hni:σ.all (fun o=>!aU o)=true) :
  Ev Tryz.prog 81 [.i lo,.i hi,.s x l.length c] σ (.bool (decide (¬ (lM lo hi l≥0)))) σ :=
 Ev.arrs [ints l] [x] (VZ l lo hi c hN) ⟨hx,trivial⟩ ⟨.int _ _,.int _ _,by simpa [bsR] using VQ.slice (q:=true) (n:=1) (ρ:=bsR [x]) 0 0 l.length c c (aD _) oO,trivial⟩ (by simp [bC]) rfl hni
theorem xO {σ:Heap} {l:List Int} {lo hi:Int} {x c:Nat} (hx:dP σ x (ints l)) (hN:l.length≤1000000) (hni:σ.all (fun o=>!aU o)=true) :
  Ev Tryz.prog 81 [.i lo,.i hi,.s x l.length c] σ (.bool (decide (∀ y ∈ l,lo≤y∧y≤hi))) σ:=by
 have h:=V3 (σ:=σ) (l:=l) (lo:=lo) (hi:=hi) (c:=c) hx hN hni
 have e:(¬ (lM lo hi l≥0))↔(∀ y ∈ l,lo≤y∧y≤hi):=Go.AH.NS
 simpa [e] using h
end Go.Proofs.YtajpgeklmcjciaaGreat
namespace Go.AH.Heat
open Go Go.AH
structure Zx (n:Nat) (kf:Nat→Int×Int×Int):Prop where
 n1:0<n
 n2:n≤12
 z:(kf 0).1=0
 k:kOk n kf
 r:∀ q,q+1<n→(kf q).2.1≤(kf (q+1)).2.1∧(kf (q+1)).2.1≤(kf q).2.2+1∧(kf q).2.2≤(kf (q+1)).2.2
theorem LK {H:Heap} {a b c:Value}:aK (H++[aB.rw [a,b,c]]) H.length (0+1) 2=some [b,c]:=by
 unfold aK;rw [aO];rfl
theorem xP {H:Heap} {b o:Nat} {x y z:Value} (h:aK H b o 3=some [x,y,z]):aK H b (o+1) 2=some [y,z]:=by
 unfold aK at h ⊢
 cases hb:H[b]? with
 |none=>rw [hb] at h;cases h
 |some ob =>
  rw [hb] at h
  have a:∀ l:List Value,(bif Nat.ble (o+3) l.length then some ((l.drop o).take 3) else none)=some [x,y,z]→(bif Nat.ble (o+1+2) l.length then some ((l.drop (o+1)).take 2) else none)=some [y,z]:=fun l h=>by
   cases hl:Nat.ble (o+3) l.length with
   |false=>rw [hl] at h;cases h
   |true =>
    rw [hl] at h
    simp only [cond_true,Option.some.injEq] at h
    have e:l.drop (o+1)=(l.drop o).drop 1:=by rw [fk]
    have:=congrArg (List.drop 1) h
    rw [List.drop_take,← e] at this
    simpa using this
  cases ob with
  |ro l=>exact a l h
  |rw l=>exact a l h
  |gr l t=>exact a l h
  |deep q sp=>exact absurd (show none=some _ from h) oS
  |_=>cases h
end Go.AH.Heat
namespace Go.Proofs.YtajpgeklmcjciaaGreat
open Go Go.AH
attribute [local irreducible] dA bP bT jL gX dQ fF bZ fB aY dY fA
open Go.AH.Heat
theorem afS {A B:Prop} (k:B) (h:Hide B→A:=by intro h_k_;(repeat' (first|refine sCm ?_|(refine gU ?_;first|(refine bW ?_;refine st (aJ rfl (by rfl)) rfl rfl ?_)|(refine kQ ?_;first|refine st (jH rfl rfl) rfl rfl ?_|refine st (gW rfl rfl) rfl rfl ?_))|(refine gG ?_;first|(refine gFA ?_;refine iI rfl (aW rfl) rfl rfl ?_)|(refine bW ?_;refine iI rfl (aJ rfl (by rfl)) rfl rfl ?_)|(refine eG ?_;refine iI rfl (bH rfl rfl rfl (by exact xO (l:=[lo,hi]) (by exact .inr (.inl rfl)) (by simp) rfl)) rfl rfl ?_)|(refine lV ?_;refine iI rfl (fO (by rfl) (by rfl) (by rfl) (by rfl) rfl (by rfl)) rfl rfl ?_)|refine Sj rfl rfl ?_)|refine aG ?_));exact h_k_.h):A:=h ⟨k⟩
theorem Zy (lo hi:Int):Ev Tryz.prog 167 [.agg #[.i lo,.i hi]] [] (.bool (decide (0≤lo∧lo≤hi∧hi≤1000))) []:=by
 refine aI 0 16 Tryz.func167 rfl rfl rfl rfl rfl ?_
 by_cases hlh:lo≤hi
 ·refine afS ?_
  refine dM (.tmp rfl .nil) (.plain rfl rfl) ⟨?_,rfl⟩
  simp only [kL,Value.bool.injEq]
  refine decide_eq_decide.2 ⟨fun h=>?_,fun h y hy=>?_⟩
  ·have h1:=h lo oS
   have h2:=h hi oS
   omega
  ·simp only [List.mem_cons,List.not_mem_nil,or_false] at hy
   rcases hy with rfl|rfl <;> omega
 ·refine afS ?_
  refine dM (.tmp rfl .nil) (.plain rfl rfl) ⟨?_,rfl⟩
  simp only [kL,Value.bool.injEq]
  rw [eq_comm,decide_eq_false_iff_not];omega
theorem F8 {σ:Heap} {lo hi:Int} (hni:σ.all (fun o=>!aU o)=true):Ev Tryz.prog 167 [.agg #[.i lo,.i hi]] σ (.bool (decide (0≤lo∧lo≤hi∧hi≤1000))) σ:=Ev.nil (Zy lo hi) rfl rfl hni
theorem NU {A B:Prop} (k:B) (h:Hide B→A:=by intro h_k_;(repeat' (first|refine sCm ?_|(refine gU ?_;first|refine st (Bq (l:=1) rfl rfl (by omega) (by omega)) rfl rfl ?_|(refine bW ?_;first|refine st (aJ rfl (by first|exact iG rfl|exact aF a0|exact aF a2|exact aF (aA a0))) rfl rfl ?_|refine st (bD rfl (by assumption)) rfl rfl ?_)|(refine yD ?_;refine st (kK rfl rfl (by omega) (by omega)) rfl rfl ?_)|(refine kQ ?_;refine st (gW rfl rfl) rfl rfl ?_)|(refine rV ?_;refine st (nU rfl) rfl rfl ?_)|(refine gIA ?_;refine st (eY rfl rfl (by omega)) rfl rfl ?_)|(refine eG ?_;refine st (bH rfl rfl rfl (by exact xO (l:=[(kf (x+1)).2.1]) (.inr (.inl aO)) (by simp) hni2)) rfl rfl ?_)|(refine lV ?_;refine st (fO (by rfl) (by rfl) (by rfl) (by rfl) rfl (by rfl)) rfl rfl ?_)|(refine dZ ?_;refine stN (bF rfl rfl rfl rfl (by exact fQ (aD _) (cH _))) rfl ?_))|(refine gG ?_;first|(refine kP ?_;refine iI rfl (bV rfl) rfl rfl ?_)|(refine gFA ?_;refine iI rfl (aW rfl) rfl rfl ?_)|(refine bW ?_;first|refine iI rfl (aJ rfl (by first|exact iG rfl|exact aF (aA a2)|exact aF (aA aO))) rfl rfl ?_|refine iI rfl (bD rfl (by exact LK)) rfl rfl ?_)|(refine nK ?_;refine iI rfl (fE rfl rfl rfl) rfl rfl ?_)|(refine wY ?_;refine iI rfl (jC rfl) rfl rfl ?_)|(refine kQ ?_;first|refine iI rfl (jH rfl rfl) rfl rfl ?_|refine iI rfl (gW rfl rfl) rfl rfl ?_)|(refine rV ?_;refine iI rfl (nU rfl) rfl rfl ?_)|(refine eG ?_;refine iI rfl (bH rfl rfl rfl (by exact F8 hni1)) rfl rfl ?_)|refine Sj rfl rfl ?_)|refine aG ?_|refine eP rfl ?_|refine eU rfl ?_));exact h_k_.h):A:=h ⟨k⟩
theorem TB {σ:Heap} {b n c:Nat} {kf:Nat→Int×Int×Int} (hv:Zx n kf) (hc:n≤c) (hk:∀ q<n,aK σ b (q*3) 3=some (jA (kf q))) (hni:σ.all (fun o=>!aU o)=true) :
  Ev Tryz.prog 104 [.agg #[.s b n c]] σ (.i 0) σ:=by
 have hn1:=hv.n1
 have hn2:=hv.n2
 refine aI σ.length 90 Tryz.func104 rfl rfl rfl rfl rfl ?_
 have a0:(σ++[aB.rw [.s b n c]])[σ.length]?=some (.rw [.s b n c]):=aO
 have hn0:¬ (n:Int)=0:=oO
 have hn3:¬ (n:Int) > 12:=oO
 refine NU ?_
 refine dV (ι:=Nat) (fun k=>[(1,.p σ.length),(3,.i (if k=0 then 0 else (kf (k - 1)).1+1)),(20,.s b n c),(21,.i (n:Nat)),(22,.i (k:Nat))])
  (fun k mk H=>k≤n∧mk=[]∧H.take (σ++[aB.rw [.s b n c]]).length=σ++[aB.rw [.s b n c]]∧H.all (fun o=>!aU o)=true) (fun k=>n - k) 0 tE ⟨bN _,rfl,eZ,bG hni rfl⟩ ?_
 clear a0
 rintro k mk H ⟨hkn,rfl,hp,a⟩
 have d:H.take σ.length=σ:=by
  have:=congrArg (List.take σ.length) hp
  rw [eJ] at this
  simpa using this
 have a0:H[σ.length]?=some (.rw [.s b n c]):=by rw [jm hp oS];exact aO
 by_cases j:k<n
 ·have w:(k:Int)<(n:Nat):=oO
  have hd1:aK H b (0+k*3) 3=some (jA (kf k)):=by rw [bA];exact fM d (hk k j)
  have f:=hv.k k j
  have u:0≤(kf k).2.1∧(kf k).2.1≤(kf k).2.2∧(kf k).2.2≤1000:=f.2.2.1
  obtain ⟨nx,g⟩:∃ nx,nx=(if k=0 then 0 else (kf (k - 1)).1+1):=⟨_,rfl⟩
  have h1:¬ (kf k).1<nx:=by
   rw [g];split
   ·omega
   ·have:=(hv.k (k - 1) oO).2.2.2 oO
    rw [show k - 1+1=k by omega] at this;omega
  have h2:¬ (kf k).1 > 1000:=oO
  have h3:k=0→¬ (kf k).1 > 0:=fun h=>by rw [h,hv.z];omega
  have hni1:(H++[aB.rw (jA (kf k))]).all (fun o=>!aU o)=true:=bG a rfl
  rw [← g]
  by_cases C:k=0
  ·have e:(k:Int)=0:=oO
   have h3:=h3 C
   refine NU ?_
   exact ⟨k+1,⟨oO,rfl,aT hp,hni1⟩,oO,⟨rfl,by rw [if_neg oO,Nat.add_sub_cancel];rfl,rfl,rfl,rfl,trivial⟩⟩
  ·have e:¬ (k:Int)=0:=oO
   refine NU ?_
   exact ⟨k+1,⟨oO,rfl,aT hp,hni1⟩,oO,⟨rfl,by rw [if_neg oO,Nat.add_sub_cancel];rfl,rfl,rfl,rfl,trivial⟩⟩
 ·obtain rfl:k=n:=oO
  have w:¬ (k:Int)<(k:Nat):=oO
  refine NU ?_
  refine dV (ι:=Nat) (fun x=>[(1,.p σ.length),(57,.slice (some ⟨b,0+1*3,none⟩) (k - 1) (c - 1)),(58,.i ((k - 1:Nat):Int)),(59,.i (x:Nat))])
   (fun x mk H=>x≤k - 1∧mk=[]∧H.take (σ++[aB.rw [.s b k c]]).length=σ++[aB.rw [.s b k c]]∧H.all (fun o=>!aU o)=true) (fun x=>k - 1 - x) 0 tE ⟨bN _,rfl,hp,a⟩ ?_
  clear a0 d hp a H
  rintro x mk H ⟨hx,rfl,hp,a⟩
  have d:H.take σ.length=σ:=by
   have:=congrArg (List.take σ.length) hp
   rw [eJ] at this
   simpa using this
  have a0:H[σ.length]?=some (.rw [.s b k c]):=by rw [jm hp oS];exact aO
  by_cases hxk:x<k - 1
  ·have v:(x:Int)<((k - 1:Nat):Int):=oO
   have hd1:aK H b (0+1*3+x*3) 3=some (jA (kf (x+1))):=by rw [show 0+1*3+x*3=(x+1)*3 by omega];exact fM d (hk (x+1) oO)
   have hd2:aK (H++[aB.rw (jA (kf (x+1)))]) b (0+x*3+1) 2=some [.i (kf x).2.1,.i (kf x).2.2]:=by
    rw [bA];exact xP (fM (aT d) (hk x oO))
   have hr:=hv.r x oO
   have f:=hv.k x oO
   have u:0≤(kf x).2.1∧(kf x).2.1≤(kf x).2.2∧(kf x).2.2≤1000:=f.2.2.1
   have hw1:¬ ¬ (∀ y ∈ [(kf (x+1)).2.1],(kf x).2.1≤y∧y≤(kf x).2.2+1):=by simp;omega
   have a2:(H++[aB.rw (jA (kf (x+1)))]++[aB.rw [.i (kf x).2.1,.i (kf x).2.2]])[H.length]?=some (.rw (jA (kf (x+1)))):=aA aO
   have a1:(H++[aB.rw (jA (kf (x+1)))]++[aB.rw [.i (kf x).2.1,.i (kf x).2.2]])[H.length+1]?=some (.rw [.i (kf x).2.1,.i (kf x).2.2]):=bK oS
   have hh:¬ (kf (x+1)).2.2<(kf x).2.2:=oO
   have hni2:(H++[aB.rw (jA (kf (x+1)))]++[aB.rw [.i (kf x).2.1,.i (kf x).2.2]]++[aB.rw [.i (kf (x+1)).2.1]]).all (fun o=>!aU o)=true:=bG (bG (bG a rfl) rfl) rfl
   refine NU ?_
   exact ⟨x+1,⟨oO,rfl,aT (aT (aT hp)),hni2⟩,oO,tE⟩
  ·obtain rfl:x=k - 1:=oO
   have v:¬ ((k - 1:Nat):Int)<((k - 1:Nat):Int):=oO
   refine NU ?_
   exact dM (.tmp rfl .nil) (.plain d rfl) ⟨rfl,rfl⟩
end Go.Proofs.YtajpgeklmcjciaaGreat
namespace Go.AH
open Go
def fIx (p:Nat→Bool) (n:Nat):Int:=match (List.range n).find? p with|some i=>i|none=>-1
theorem Ey {p:Nat→Bool} {n i:Nat} (hi:i<n) (h:p i=true) (hall:∀ j<i,p j=false):fIx p n=i:=by
 have:(List.range n).find? p=some i:=by
  rw [List.find?_range_eq_some]
  exact ⟨h,List.mem_range.2 hi,fun j hj=>by rw [hall j hj];rfl⟩
 unfold fIx;rw [this]
theorem AX {p:Nat→Bool} {n:Nat} (hall:∀ j<n,p j=false):fIx p n=-1:=by
 have:(List.range n).find? p=none:=by rw [List.find?_eq_none];intro x hx;rw [hall x (List.mem_range.1 hx)];simp
 unfold fIx;rw [this]
theorem PX {p:Nat→Bool} {n:Nat}:fIx p n≥0↔∃ j<n,p j=true:=by
 unfold fIx
 cases h:(List.range n).find? p with
 |none =>
  rw [List.find?_eq_none] at h
  constructor
  ·intro h2;simp at h2
  ·rintro ⟨j,hj,hp⟩;exact absurd hp (h j (List.mem_range.2 hj))
 |some i =>
  have h1:=List.find?_some h
  have h2:=List.mem_of_find?_eq_some h
  exact ⟨fun _=>⟨i,List.mem_range.1 h2,h1⟩,fun _=>by simp only;omega⟩
end Go.AH
namespace Go.Proofs.YtajpgeklmcjciaaGreat
open Go Go.AH
attribute [local irreducible] dA bP bT jL gX dQ fF bZ fB aY dY fA
theorem zN {A B:Prop} (k:B) (h:Hide B→A:=by intro h_k_;(repeat' (first|refine sCm ?_|(refine gU ?_;first|(refine bW ?_;first|refine st (aJ rfl (by exact hd1)) rfl rfl ?_|refine st (bD rfl (by exact hd1)) rfl rfl ?_)|(refine gIA ?_;first|refine st (iw rfl rfl (by omega)) rfl rfl ?_|refine st (eY rfl rfl (by omega)) rfl rfl ?_)|(refine eG ?_;refine st (bH rfl rfl rfl (by exact hcall k hkn)) rfl rfl ?_))|refine aG ?_|refine jc rfl (by first|rfl|exact dW (by assumption)|assumption) ?_|refine iM rfl (by first|rfl|exact bM (by assumption)|assumption) ?_));exact h_k_.h):A:=h ⟨k⟩
theorem acf {σ:Heap} {b n c:Nat} {el:Nat→List Value} {f:FuncId} [GoFn Tryz.prog f] {p q:List Value} {pb:Nat→Bool} (hb:∀ j<n,aK σ b (j*2) 2=some (el j)) (hcall:∀ j<n,Ev Tryz.prog f (p++[.agg (el j).toArray]++q) σ (.bool (pb j)) σ) (hn:n≤1000000) :
  Ev Tryz.prog 284 [.s b n c,.func (.func f) p.toArray q.toArray] σ (.i (fIx pb n)) σ:=by
 refine aI σ.length 19 Tryz.func284 rfl rfl rfl rfl rfl ?_
 refine zN ?_
 refine dV (ι:=Nat) (fun k=>[(0,.s b n c),(1,.func (.func f) p.toArray q.toArray),(7,.i (n:Nat)),(8,.i (k:Nat))]) (fun k mk H=>k≤n∧mk=[]∧σ=H∧∀ j<k,pb j=false) (fun k=>n - k) 0 tE ⟨bN _,rfl,rfl,fun j h=>oO⟩ ?_
 rintro k mk H ⟨hk,rfl,rfl,a⟩
 by_cases hkn:k<n
 ·have e:(k:Int)<(n:Nat):=oO
  have hd1:aK σ b (0+k*2) 2=some (el k):=by rw [bA];exact hb k hkn
  by_cases hp:pb k=true
  ·refine zN ?_
   refine dM (.tmp rfl .nil) .all ⟨?_,rfl⟩
   simp only [kL]
   rw [Ey hkn hp a]
  ·have d:pb k=false:=by simpa using hp
   refine zN ?_
   exact ⟨k+1,⟨oO,rfl,rfl,fun j hj=>by
    by_cases g:j=k
    ·rw [g];exact d
    ·exact a j oO⟩,oO,tE⟩
 ·obtain rfl:k=n:=oO
  have e:¬ (k:Int)<(k:Nat):=oO
  refine zN ?_
  refine dM (.tmp rfl .nil) .all ⟨?_,rfl⟩
  simp only [kL]
  rw [AX a]
theorem acg {A B:Prop} (k:B) (h:Hide B→A:=by intro h_k_;(repeat' (first|refine sCm ?_|(refine gU ?_;(refine eG ?_;refine st (bH rfl rfl rfl (by exact hf1)) rfl rfl ?_))|refine aG ?_));exact h_k_.h):A:=h ⟨k⟩
theorem ach {σ:Heap} {b n c:Nat} {el:Nat→List Value} {f:FuncId} [GoFn Tryz.prog f] {p q:List Value} {pb:Nat→Bool} (hb:∀ j<n,aK σ b (j*2) 2=some (el j)) (hcall:∀ j<n,Ev Tryz.prog f (p++[.agg (el j).toArray]++q) σ (.bool (pb j)) σ) (hn:n≤1000000) :
  Ev Tryz.prog 249 [.s b n c,.func (.func f) p.toArray q.toArray] σ (.bool (decide (∃ j<n,pb j=true))) σ:=by
 have hf1:=acf (c:=c) hb hcall hn
 refine aI σ.length 9 Tryz.func249 rfl rfl rfl rfl rfl ?_
 refine acg ?_
 refine dM (.tmp rfl .nil) .all ⟨?_,rfl⟩
 simp only [kL,Value.bool.injEq]
 exact decide_eq_decide.2 PX
theorem aci {σ:Heap} {b n c:Nat} {el:Nat→List Value} {f:FuncId} [GoFn Tryz.prog f] {p q:List Value} {pb:Nat→Bool} (hb:∀ j<n,aK σ b j 1=some (el j)) (hcall:∀ j<n,Ev Tryz.prog f (p++[.agg (el j).toArray]++q) σ (.bool (pb j)) σ) (hn:n≤1000000) :
  Ev Tryz.prog 287 [.s b n c,.func (.func f) p.toArray q.toArray] σ (.i (fIx pb n)) σ:=by
 refine aI σ.length 19 Tryz.func287 rfl rfl rfl rfl rfl ?_
 refine zN ?_
 refine dV (ι:=Nat) (fun k=>[(0,.s b n c),(1,.func (.func f) p.toArray q.toArray),(7,.i (n:Nat)),(8,.i (k:Nat))]) (fun k mk H=>k≤n∧mk=[]∧σ=H∧∀ j<k,pb j=false) (fun k=>n - k) 0 tE ⟨bN _,rfl,rfl,fun j h=>oO⟩ ?_
 rintro k mk H ⟨hk,rfl,rfl,a⟩
 by_cases hkn:k<n
 ·have e:(k:Int)<(n:Nat):=oO
  have hd1:aK σ b k 1=some (el k):=hb k hkn
  by_cases hp:pb k=true
  ·refine zN ?_
   refine dM (.tmp rfl .nil) .all ⟨?_,rfl⟩
   simp only [kL]
   rw [Ey hkn hp a]
  ·have d:pb k=false:=by simpa using hp
   refine zN ?_
   exact ⟨k+1,⟨oO,rfl,rfl,fun j hj=>by
    by_cases g:j=k
    ·rw [g];exact d
    ·exact a j oO⟩,oO,tE⟩
 ·obtain rfl:k=n:=oO
  have e:¬ (k:Int)<(k:Nat):=oO
  refine zN ?_
  refine dM (.tmp rfl .nil) .all ⟨?_,rfl⟩
  simp only [kL]
  rw [AX a]
theorem acj {σ:Heap} {b n c:Nat} {el:Nat→List Value} {f:FuncId} [GoFn Tryz.prog f] {p q:List Value} {pb:Nat→Bool} (hb:∀ j<n,aK σ b j 1=some (el j)) (hcall:∀ j<n,Ev Tryz.prog f (p++[.agg (el j).toArray]++q) σ (.bool (pb j)) σ) (hn:n≤1000000) :
  Ev Tryz.prog 255 [.s b n c,.func (.func f) p.toArray q.toArray] σ (.bool (decide (∃ j<n,pb j=true))) σ:=by
 have hf1:=aci (c:=c) hb hcall hn
 refine aI σ.length 9 Tryz.func255 rfl rfl rfl rfl rfl ?_
 refine acg ?_
 refine dM (.tmp rfl .nil) .all ⟨?_,rfl⟩
 simp only [kL,Value.bool.injEq]
 exact decide_eq_decide.2 PX
theorem acn {σ:Heap} {b n c:Nat} {el:Nat→List Value} {f:FuncId} [GoFn Tryz.prog f] {p q:List Value} {pb:Nat→Bool} (hb:∀ j<n,aK σ b (j*4) 4=some (el j)) (hcall:∀ j<n,Ev Tryz.prog f (p++[.agg (el j).toArray]++q) σ (.bool (pb j)) σ) (hn:n≤1000000) :
  Ev Tryz.prog 265 [.s b n c,.func (.func f) p.toArray q.toArray] σ (.i (fIx pb n)) σ:=by
 refine aI σ.length 19 Tryz.func265 rfl rfl rfl rfl rfl ?_
 refine zN ?_
 refine dV (ι:=Nat) (fun k=>[(0,.s b n c),(1,.func (.func f) p.toArray q.toArray),(7,.i (n:Nat)),(8,.i (k:Nat))]) (fun k mk H=>k≤n∧mk=[]∧σ=H∧∀ j<k,pb j=false) (fun k=>n - k) 0 tE ⟨bN _,rfl,rfl,fun j h=>oO⟩ ?_
 rintro k mk H ⟨hk,rfl,rfl,a⟩
 by_cases hkn:k<n
 ·have e:(k:Int)<(n:Nat):=oO
  have hd1:aK σ b (0+k*4) 4=some (el k):=by rw [bA];exact hb k hkn
  by_cases hp:pb k=true
  ·refine zN ?_
   refine dM (.tmp rfl .nil) .all ⟨?_,rfl⟩
   simp only [kL]
   rw [Ey hkn hp a]
  ·have d:pb k=false:=by simpa using hp
   refine zN ?_
   exact ⟨k+1,⟨oO,rfl,rfl,fun j hj=>by
    by_cases g:j=k
    ·rw [g];exact d
    ·exact a j oO⟩,oO,tE⟩
 ·obtain rfl:k=n:=oO
  have e:¬ (k:Int)<(k:Nat):=oO
  refine zN ?_
  refine dM (.tmp rfl .nil) .all ⟨?_,rfl⟩
  simp only [kL]
  rw [AX a]
theorem aco {σ:Heap} {b n c:Nat} {el:Nat→List Value} {f:FuncId} [GoFn Tryz.prog f] {p q:List Value} {pb:Nat→Bool} (hb:∀ j<n,aK σ b (j*4) 4=some (el j)) (hcall:∀ j<n,Ev Tryz.prog f (p++[.agg (el j).toArray]++q) σ (.bool (pb j)) σ) (hn:n≤1000000) :
  Ev Tryz.prog 194 [.s b n c,.func (.func f) p.toArray q.toArray] σ (.bool (decide (∃ j<n,pb j=true))) σ:=by
 have hf1:=acn (c:=c) hb hcall hn
 refine aI σ.length 9 Tryz.func194 rfl rfl rfl rfl rfl ?_
 refine acg ?_
 refine dM (.tmp rfl .nil) .all ⟨?_,rfl⟩
 simp only [kL,Value.bool.injEq]
 exact decide_eq_decide.2 PX
end Go.Proofs.YtajpgeklmcjciaaGreat
namespace Go.AH.Heat
open Go Go.AH
structure uF (W:Wk):Prop where
 b1:0<W.nb
 b2:W.nb≤6
 b:∀ j<W.nb,jX (W.bf j)
 s:W.ns≤6
 w1:∀ i<W.ns,0<W.nw i
 w2:∀ i<W.ns,W.nw i≤5
 k:∀ i<W.ns,∀ k<W.nw i,Zx (W.nk i k) (W.kf i k)
theorem uF.ok {W:Wk} (h:uF W):W.Ok:=⟨h.b,fun i hi k hk=>(h.k i hi k hk).k,by have:=h.b2;omega,by have:=h.s;omega,fun i hi=>by have:=h.w2 i hi;omega,h.w1,fun i hi k hk=>by have:=(h.k i hi k hk).n2;omega⟩
end Go.AH.Heat
namespace Go.Proofs.YtajpgeklmcjciaaGreat
open Go Go.AH
attribute [local irreducible] dA bP bT jL gX dQ fF bZ fB aY dY fA
open Go.AH.Heat
theorem ag8 {σ:Heap} {b n c:Nat} (h1:0<n) (h2:n≤5):Ev Tryz.prog 254 [.agg #[.s b n c]] σ (.bool false) σ:=by
 refine aI σ.length 13 Tryz.func254 rfl rfl rfl rfl rfl ?_
 have a0:(σ++[aB.rw [.s b n c]])[σ.length]?=some (.rw [.s b n c]):=aO
 have hn0:¬ (n:Int)=0:=oO
 have hn3:¬ (n:Int) > 5:=oO
 repeat' (first|refine sCm ?_|(refine gU ?_;first|(refine bW ?_;refine st (aJ rfl (by exact iG rfl)) rfl rfl ?_)|(refine kQ ?_;refine st (gW rfl rfl) rfl rfl ?_))|(refine gG ?_;first|(refine gFA ?_;refine iI rfl (aW rfl) rfl rfl ?_)|(refine bW ?_;refine iI rfl (aJ rfl (by exact iG rfl)) rfl rfl ?_)|(refine nK ?_;refine iI rfl (fE rfl rfl rfl) rfl rfl ?_)|(refine wY ?_;refine iI rfl (jC rfl) rfl rfl ?_))|refine aG ?_)
 refine dM (.tmp rfl .nil) (.plain oS rfl) ⟨?_,rfl⟩
 simp [kL];omega
theorem V4 {σ:Heap} {lo hi:Int} (h:jX (lo,hi)) (hni:σ.all (fun o=>!aU o)=true):Ev Tryz.prog 256 [.agg #[.i lo,.i hi]] σ (.bool false) σ:=by
 refine aI σ.length 6 Tryz.func256 rfl rfl rfl rfl rfl ?_
 obtain ⟨g1,g2,g3⟩:=h
 dsimp only at g1 g2 g3
 repeat' (first|refine sCm ?_|(refine gU ?_;first|(refine bW ?_;refine st (bD rfl (by exact dX rfl)) rfl rfl ?_)|(refine rV ?_;refine st (nU rfl) rfl rfl ?_)|(refine eG ?_;refine st (bH rfl rfl rfl (by exact F8 (bG hni rfl))) rfl rfl ?_))|refine aG ?_)
 refine dM (.tmp rfl .nil) (.plain oS rfl) ⟨?_,rfl⟩
 simp [kL];omega
theorem KE {A B:Prop} (k:B) (h:Hide B→A:=by intro h_k_;(repeat' (first|refine sCm ?_|(refine gU ?_;first|(refine bW ?_;first|refine st (aJ rfl (by exact iG rfl)) rfl rfl ?_|refine st (bD rfl (by first|exact dX rfl|assumption)) rfl rfl ?_)|(refine kQ ?_;refine st (gW rfl rfl) rfl rfl ?_)|(refine gIA ?_;refine st (iw rfl rfl (by omega)) rfl rfl ?_)|(refine eG ?_;refine st (bH rfl rfl rfl (by first|exact hf1|exact hf2)) rfl rfl ?_)|(refine dZ ?_;refine stN (bF rfl rfl rfl rfl (by exact fQ (aD _) (cH _))) rfl ?_))|(refine gG ?_;first|(refine kP ?_;refine iI rfl (bV rfl) rfl rfl ?_)|(refine gFA ?_;refine iI rfl (aW rfl) rfl rfl ?_)|(refine bW ?_;refine iI rfl (aJ rfl (by exact iG rfl)) rfl rfl ?_)|(refine nK ?_;refine iI rfl (fE rfl rfl rfl) rfl rfl ?_)|(refine wY ?_;refine iI rfl (jC rfl) rfl rfl ?_)|(refine eG ?_;refine iI rfl (bH rfl rfl rfl (by exact hf1)) rfl rfl ?_))|refine aG ?_|refine eP rfl ?_|refine eU rfl ?_));exact h_k_.h):A:=h ⟨k⟩
theorem x9 {σ:Heap} {W:Wk} {bB bS cB cS:Nat} {wB cW:Nat→Nat} {kB cK:Nat→Nat→Nat} (hv:uF W) (hA:xg σ W bB bS wB cW kB cK) (hK:∀ i<W.ns,∀ k<W.nw i,W.nk i k≤cK i k) (hni:σ.all (fun o=>!aU o)=true) :
  Ev Tryz.prog 166 [.agg #[.s bB W.nb cB,.s bS W.ns cS]] σ (.i 0) σ:=by
 have h1:=hv.b1
 have h2:=hv.b2
 have h3:=hv.s
 refine aI σ.length 57 Tryz.func166 rfl rfl rfl rfl rfl ?_
 have a0:(σ++[aB.rw [.s bB W.nb cB,.s bS W.ns cS]])[σ.length]?=some (.rw [.s bB W.nb cB,.s bS W.ns cS]):=aO
 have hp:(σ++[aB.rw [.s bB W.nb cB,.s bS W.ns cS]]).take σ.length=σ:=oS
 have hni1:(σ++[aB.rw [.s bB W.nb cB,.s bS W.ns cS]]).all (fun o=>!aU o)=true:=bG hni rfl
 have d:=hA.take hp
 have hn0:¬ (W.nb:Int)=0:=oO
 have hn3:¬ (W.nb:Int) > 6:=oO
 have hn4:¬ (W.ns:Int) > 6:=oO
 have hf1:=acj (σ:=σ++[aB.rw [.s bB W.nb cB,.s bS W.ns cS]]) (c:=cS) (p:=[]) (q:=[]) (f:=254) (pb:=fun _=>false) d.steps (fun j hj=>ag8 (hv.w1 j hj) (hv.w2 j hj)) oO
 have hf2:=ach (σ:=σ++[aB.rw [.s bB W.nb cB,.s bS W.ns cS]]) (c:=cB) (p:=[]) (q:=[]) (f:=256) (pb:=fun _=>false) d.bars (fun j hj=>V4 (hv.b j hj) hni1) oO
 have e1:∀ n,decide (∃ j<n,(fun _:Nat=>false) j=true)=false:=fun n=>by simp
 rw [e1] at hf1 hf2
 refine KE ?_
 refine dV (ι:=Nat) (fun k=>[(37,.s bS W.ns cS),(38,.i (W.ns:Nat)),(39,.i (k:Nat))]) (fun k mk H=>k≤W.ns∧mk=[]∧H.take σ.length=σ∧H.all (fun o=>!aU o)=true) (fun k=>W.ns - k) 0 tE ⟨bN _,rfl,hp,hni1⟩ ?_
 clear hf1 hf2 d hni1 hp a0
 rintro k mk H ⟨hk,rfl,hp,hni1⟩
 by_cases hkn:k<W.ns
 ·have g:(k:Int)<(W.ns:Nat):=oO
  have hd1:aK H bS k 1=some [.s (wB k) (W.nw k) (cW k)]:=(hA.take hp).steps k hkn
  have hw2:=hv.w2 k hkn
  refine KE ?_
  refine dV (ι:=Nat) (fun x=>[(37,.s bS W.ns cS),(38,.i (W.ns:Nat)),(39,.i (k:Nat)),(44,.s (wB k) (W.nw k) (cW k)),(45,.i (W.nw k:Nat)),(46,.i (x:Nat))]) (fun x mk H=>x≤W.nw k∧mk=[]∧H.take σ.length=σ∧H.all (fun o=>!aU o)=true) (fun x=>W.nw k - x) 0 tE ⟨bN _,rfl,aT hp,bG hni1 rfl⟩ ?_
  clear hd1 hp hni1 H
  rintro x mk H ⟨hx,rfl,hp,hni1⟩
  by_cases a:x<W.nw k
  ·have e:(x:Int)<(W.nw k:Nat):=oO
   have hd1:aK H (wB k) x 1=some [.s (kB k x) (W.nk k x) (cK k x)]:=(hA.take hp).ways k hkn x a
   have hf1:=TB (σ:=H++[aB.rw [.s (kB k x) (W.nk k x) (cK k x)]]) (hv.k k hkn x a) (hK k hkn x a) (fun q hq=>(hA.take (aT hp)).kinks k hkn x a q hq) (bG hni1 rfl)
   refine KE ?_
   exact ⟨x+1,⟨oO,rfl,aT hp,bG hni1 rfl⟩,oO,tE⟩
  ·obtain rfl:x=W.nw k:=oO
   have e:¬ ((W.nw k:Nat):Int)<(W.nw k:Nat):=oO
   refine KE ?_
   exact ⟨k+1,⟨oO,rfl,hp,hni1⟩,oO,tE⟩
 ·obtain rfl:k=W.ns:=oO
  have g:¬ ((W.ns:Nat):Int)<(W.ns:Nat):=oO
  refine KE ?_
  exact dM (.tmp rfl .nil) (.plain hp rfl) ⟨rfl,rfl⟩
theorem aeH {n:Nat} {π:Rho} {i j:Nat} (hi:i<n) (hj:π i=⟨j,0,0⟩):jS n π (.p i) (.p j):=by
 have:=VQ.ptr (q:=true) (n:=n) (ρ:=π) i 0 hi
 simpa [hj] using this
theorem PY {σ:Heap} {W:Wk} {m:Int×Int} {bB bS cB cS:Nat} {wB cW:Nat→Nat} {kB cK:Nat→Nat→Nat} (hv:uF W) (hA:xg σ W bB bS wB cW kB cK) (hK:∀ i<W.ns,∀ k<W.nw i,W.nk i k≤cK i k) (hm:jX m) (hbB:bB < σ.length) (hbS:bS < σ.length) (hni:σ.all (fun o=>!aU o)=true) :
  Ev Tryz.prog 79 [.agg #[.s bB W.nb cB,.s bS W.ns cS],.agg #[.i m.1,.i m.2]] σ (.tuple #[.p σ.length,.i 0]) (σ++[.rw [.s bB W.nb cB,.s bS W.ns cS,.i m.1,.i m.2,.s (σ.length+1) (W.ns+1) (W.ns+1),.s (σ.length+2) (W.ns+1) (W.ns+1)],.rw (dF W.front 0 (W.ns+1)),.rw (dF (W.kD m) 0 (W.ns+1))]):=by
 refine aI σ.length 18 Tryz.func79 rfl rfl rfl rfl rfl ?_
 obtain ⟨H,hH⟩:∃ H,H=σ++[aB.rw [.s bB W.nb cB,.s bS W.ns cS]]++[aB.rw [.i m.1,.i m.2]]:=⟨_,rfl⟩
 have a:H.length=σ.length+2:=by rw [hH];simp
 have hp:H.take σ.length=σ:=by rw [hH];simp
 have a0:(σ++[aB.rw [.s bB W.nb cB,.s bS W.ns cS]]++[aB.rw [.i m.1,.i m.2]])[σ.length]?=some (.rw [.s bB W.nb cB,.s bS W.ns cS]):=aA aO
 have a1:(σ++[aB.rw [.s bB W.nb cB,.s bS W.ns cS]]++[aB.rw [.i m.1,.i m.2]])[(σ++[aB.rw [.s bB W.nb cB,.s bS W.ns cS]]).length]?=some (.rw [.i m.1,.i m.2]):=aO
 have c:(σ++[aB.rw [.s bB W.nb cB,.s bS W.ns cS]]++[aB.rw [.i m.1,.i m.2]]).all (fun o=>!aU o)=true:=bG (bG hni rfl) rfl
 have hf1:=x9 (σ:=σ++[aB.rw [.s bB W.nb cB,.s bS W.ns cS]]++[aB.rw [.i m.1,.i m.2]]) (cB:=cB) (cS:=cS) hv (by rw [← hH];exact hA.take hp) hK c
 have hf2:=F8 (σ:=σ++[aB.rw [.s bB W.nb cB,.s bS W.ns cS]]++[aB.rw [.i m.1,.i m.2]]) (lo:=m.1) (hi:=m.2) c
 have hf3:=VU (σ:=σ++[aB.rw [.s bB W.nb cB,.s bS W.ns cS]]++[aB.rw [.i m.1,.i m.2]]) (cB:=cB) (cS:=cS) (m:=m) hv.ok (by rw [← hH];exact hA.take hp) hm (by rw [← hH,a];omega) (by rw [← hH,a];omega)
 have d:decide (0≤m.1∧m.1≤m.2∧m.2≤1000)=true:=decide_eq_true hm
 rw [d] at hf2
 repeat' (first|refine sCm ?_|(refine gU ?_;first|(refine bW ?_;refine st (bD rfl (by first|exact aV a0 rfl|exact aV a1 rfl)) rfl rfl ?_)|(refine rV ?_;refine st (lH rfl) rfl rfl ?_)|(refine eG ?_;refine st (bH rfl rfl rfl (by first|exact hf1|exact hf2|exact hf3)) rfl rfl ?_))|refine aG ?_|refine eU rfl ?_)
 rw [← hH]
 have s0:fV σ.length [σ.length+2,σ.length+3,σ.length+4] σ.length=⟨σ.length+2,0,0⟩:=by simp [fV]
 have s1:fV σ.length [σ.length+2,σ.length+3,σ.length+4] (σ.length+1)=⟨σ.length+3,0,0⟩:=by simp [fV]
 have s2:fV σ.length [σ.length+2,σ.length+3,σ.length+4] (σ.length+2)=⟨σ.length+4,0,0⟩:=by simp [fV]
 have g0:(H++[.rw [.s bB W.nb cB,.s bS W.ns cS,.i m.1,.i m.2,.s (H.length+1) (W.ns+1) (W.ns+1),.s (H.length+2) (W.ns+1) (W.ns+1)],.rw (dF W.front 0 (W.ns+1)),.rw (dF (W.kD m) 0 (W.ns+1))])[σ.length+2]?=some (.rw [.s bB W.nb cB,.s bS W.ns cS,.i m.1,.i m.2,.s (H.length+1) (W.ns+1) (W.ns+1),.s (H.length+2) (W.ns+1) (W.ns+1)]):=by rw [bE oO,← a];simp
 have g1:(H++[.rw [.s bB W.nb cB,.s bS W.ns cS,.i m.1,.i m.2,.s (H.length+1) (W.ns+1) (W.ns+1),.s (H.length+2) (W.ns+1) (W.ns+1)],.rw (dF W.front 0 (W.ns+1)),.rw (dF (W.kD m) 0 (W.ns+1))])[σ.length+3]?=some (.rw (dF W.front 0 (W.ns+1))):=by rw [bE oO,show σ.length+3 - H.length=1 by omega];rfl
 have g2:(H++[.rw [.s bB W.nb cB,.s bS W.ns cS,.i m.1,.i m.2,.s (H.length+1) (W.ns+1) (W.ns+1),.s (H.length+2) (W.ns+1) (W.ns+1)],.rw (dF W.front 0 (W.ns+1)),.rw (dF (W.kD m) 0 (W.ns+1))])[σ.length+4]?=some (.rw (dF (W.kD m) 0 (W.ns+1))):=by rw [bE oO,show σ.length+4 - H.length=2 by omega];rfl
 refine dM (.tmp rfl (.tmp rfl .nil)) (aY.src (v2:=.tuple #[.p σ.length,.i 0]) [.rw [.s bB W.nb cB,.s bS W.ns cS,.i m.1,.i m.2,.s (σ.length+1) (W.ns+1) (W.ns+1),.s (σ.length+2) (W.ns+1) (W.ns+1)],.rw (dF W.front 0 (W.ns+1)),.rw (dF (W.kD m) 0 (W.ns+1))] [σ.length+2,σ.length+3,σ.length+4] (aT hp) rfl (by simp [dG]) ⟨?_,pJ s1 (.inl g1) (nS _ _ _),pJ s2 (.inl g2) (nS _ _ _),trivial⟩ ?_) ⟨rfl,rfl⟩
 ·refine tC s0 (.inl g0) rfl fun x h1 h2=>?_
  match x,h1 with
  |0,_=>exact lI (by simp;omega) (fJ hbB) (aD _)
  |1,_=>exact lI (by simp;omega) (fJ hbS) (aD _)
  |2,_=>exact aZ _ rfl
  |3,_=>exact aZ _ rfl
  |4,_=>exact lI oS (by rw [s1,a]) (aD _)
  |5,_=>exact lI oS (by rw [s2,a]) (aD _)
  |x+6,h1=>exact absurd h1 oS
 ·refine .tuple _ _ rfl fun i h _=>?_
  match i,h with
  |0,_=>exact aeH oS (by rw [s0,a])
  |1,_=>exact .i 0
end Go.Proofs.YtajpgeklmcjciaaGreat
namespace Go.AH.Heat
open Go Go.AH
def yN (W:Wk) (m:Int×Int) (bB cB bS cS h:Nat):Heap :=
 [.rw [.slice (some ⟨bB,0,none⟩) W.nb cB,.slice (some ⟨bS,0,none⟩) W.ns cS,.int .i64 m.1,.int .i64 m.2,.slice (some ⟨h+1,0,none⟩) (W.ns+1) (W.ns+1),.slice (some ⟨h+2,0,none⟩) (W.ns+1) (W.ns+1)],.rw (dF W.front 0 (W.ns+1)),.rw (dF (W.kD m) 0 (W.ns+1))]
theorem KF {σ:Heap} {W:Wk} {m:Int×Int} {bB bS cB cS:Nat} {wB cW:Nat→Nat} {kB cK:Nat→Nat→Nat} (hA:xg σ W bB bS wB cW kB cK) (hbB:bB < σ.length) (hbS:bS < σ.length):tH (σ++yN W m bB cB bS cS σ.length) W m σ.length (σ.length+1) (σ.length+2) bB cB bS cS wB cW kB cK:=by
 refine ⟨?_,?_,?_,hA.take oS,by simp [yN];omega,by simp [yN];omega⟩
 ·rw [bE oO,cY];rfl
 ·rw [bE oO,show σ.length+1 - σ.length=1 by omega];rfl
 ·rw [bE oO,show σ.length+2 - σ.length=2 by omega];rfl
theorem tJ {n:Nat} {π:Rho} {a b a' b':Value} (h1:jS n π a a') (h2:jS n π b b'):jS n π (.tuple #[a,b]) (.tuple #[a',b']):=by
 refine .tuple _ _ rfl fun i h _=>?_
 match i,h with
 |0,_=>exact h1
 |1,_=>exact h2
end Go.AH.Heat
namespace Go.Proofs.YtajpgeklmcjciaaGreat
open Go Go.AH
attribute [local irreducible] dA bP bT jL gX dQ fF bZ fB aY dY fA
open Go.AH.Heat
theorem V5 {A B:Prop} (k:B) (h:Hide B→A:=by intro h_k_;(repeat' (first|refine sCm ?_|(refine gU ?_;first|(refine bW ?_;refine st (bD rfl (by first|exact aV a0 rfl|exact aV a1 rfl)) rfl rfl ?_)|(refine eG ?_;refine st (bH rfl rfl rfl (by first|exact hf1|exact hf2)) rfl rfl ?_))|refine dD (id:=4) ?_|refine aG ?_|refine eP rfl ?_|refine eU rfl ?_));exact h_k_.h):A:=h ⟨k⟩
theorem aeI {σ:Heap} {W:Wk} {m:Int×Int} {bB bS cB cS:Nat} {wB cW:Nat→Nat} {kB cK:Nat→Nat→Nat} (hv:uF W) (hA:xg σ W bB bS wB cW kB cK) (hK:∀ i<W.ns,∀ k<W.nw i,W.nk i k≤cK i k) (hm:jX m) (hbB:bB < σ.length) (hbS:bS < σ.length) (hni:σ.all (fun o=>!aU o)=true) {l:List Nat} (hl:l=W.someB m) :
  Ev Tryz.prog 134 [.agg #[.s bB W.nb cB,.s bS W.ns cS],.agg #[.i m.1,.i m.2]] σ (.tuple #[slN σ.length l.length,.i (if l.length=0 then 17 else 0)]) (σ++[.rw (gV l)]):=by
 refine aI σ.length 24 Tryz.func134 rfl rfl rfl rfl rfl ?_
 have a0:(σ++[aB.rw [.s bB W.nb cB,.s bS W.ns cS]]++[aB.rw [.i m.1,.i m.2]])[σ.length]?=some (.rw [.s bB W.nb cB,.s bS W.ns cS]):=aA aO
 have a1:(σ++[aB.rw [.s bB W.nb cB,.s bS W.ns cS]]++[aB.rw [.i m.1,.i m.2]])[(σ++[aB.rw [.s bB W.nb cB,.s bS W.ns cS]]).length]?=some (.rw [.i m.1,.i m.2]):=aO
 have a:(σ++[aB.rw [.s bB W.nb cB,.s bS W.ns cS]]++[aB.rw [.i m.1,.i m.2]]).all (fun o=>!aU o)=true:=bG (bG hni rfl) rfl
 have hp:(σ++[aB.rw [.s bB W.nb cB,.s bS W.ns cS]]++[aB.rw [.i m.1,.i m.2]]).take σ.length=σ:=oS
 have hle:=take_len hp
 have hlb:l.length≤6:=by
  have:=hv.b2
  rw [hl];unfold Wk.someB
  split
  ·exact bN _
  ·exact ej (filter_le _ _) this
 have hf1:=PY (σ:=σ++[aB.rw [.s bB W.nb cB,.s bS W.ns cS]]++[aB.rw [.i m.1,.i m.2]]) (m:=m) (cB:=cB) (cS:=cS) hv (hA.take hp) hK hm oO oO a
 obtain ⟨H,hH⟩:∃ H,H=σ++[aB.rw [.s bB W.nb cB,.s bS W.ns cS]]++[aB.rw [.i m.1,.i m.2]]:=⟨_,rfl⟩
 refine V5 ?_
 refine .mk (dJ [(2,.p σ.length),(3,.p (σ.length+1)),(4,.slice none 0 0),(5,.i 0),(6,.p H.length)] (H++yN W m bB cB bS cS H.length) (by rw [hH];rfl) ⟨rfl,(by (refine congrArg (fun n=>some (Value.p n)) ?_;simp;try omega)),rfl,rfl,by rw [hH];rfl,trivial⟩ ?_)
 rw [← hH] at a0 a1 a hp
 have hT:=KF (cB:=cB) (cS:=cS) (m:=m) (hA.take hp) (show bB<H.length by have:=take_len hp;omega) (by have:=take_len hp;omega)
 have c:(H++yN W m bB cB bS cS H.length).all (fun o=>!aU o)=true:=bG a rfl
 have d:(H++yN W m bB cB bS cS H.length).take σ.length=σ:=aT hp
 generalize H++yN W m bB cB bS cS H.length=K at hT c d
 clear hf1
 have hf2:=IJ (sv:=-1) hv.ok hm hT c (.inl ⟨oO,hl⟩)
 apply aG
 clear hl
 rcases l with _|⟨x,r⟩
 ·refine V5 ?_
  exact dM (v2:=.tuple #[.slice none 0 0,.i 17]) (.tmp rfl (.tmp rfl .nil)) (aY.src [.rw []] [σ.length] (aT d) rfl (by simp [dG]) ⟨.inl rfl,trivial⟩ (tJ .nilSlice (.i 17))) ⟨rfl,rfl⟩
 ·obtain ⟨k,hk⟩:∃ k,k=r.length:=⟨_,rfl⟩
  have hk0:¬ ((k+1:Nat):Int)=0:=oO
  rw [show (x::r).length=k+1 by rw [hk];rfl] at hf2
  rw [show (x::r).length=k+1 by rw [hk];rfl]
  refine V5 ?_
  have s0:fV σ.length [K.length] σ.length=⟨K.length,0,0⟩:=by simp [fV]
  have hKl:=take_len d
  exact dM (v2:=.tuple #[slN σ.length (k+1),.i 0]) (.tmp rfl (.tmp rfl .nil)) (aY.src [.rw (gV (x::r))] [K.length] (aT d) rfl (by simp [dG];omega) ⟨pJ s0 (.inl aO) (pI _),trivial⟩ (tJ (lI oS s0 (aD _)) (.i 0))) ⟨rfl,rfl⟩
end Go.Proofs.YtajpgeklmcjciaaGreat
namespace Go.AH.Heat
open Go Go.AH
def slW (q w:Nat→Nat):Nat→List Value
 |0=>[]
 |k+1=>slW q w k++[.slice (some ⟨q k,0,none⟩) (w k) (w k)]
theorem zB (q w:Nat→Nat):∀ k,(slW q w k).length=k
 |0=>rfl
 |k+1=>by rw [slW,aR,zB q w k];rfl
theorem Ya {q w:Nat→Nat}:∀ {k j:Nat},j<k→(slW q w k)[j]?=some (.s (q j) (w j) (w j))
 |0,j,h=>by omega
 |k+1,j,h=>by
  have hl:=zB q w k
  rw [slW]
  by_cases hj:j<k
  ·rw [bR oO];exact Ya hj
  ·obtain rfl:j=k:=oO
   rw [bE oO,hl,cY];rfl
theorem TD {q w:Nat→Nat} {k j:Nat} (h:j<(slW q w k).length):(slW q w k)[j]=.s (q j) (w j) (w j):=by
 have hl:=zB q w k
 have:=Ya (q:=q) (w:=w) (k:=k) (j:=j) oO
 rw [cC h] at this
 exact Option.some.inj this
theorem NV {q q' w:Nat→Nat}:∀ {k:Nat},(∀ j<k,q j=q' j)→slW q w k=slW q' w k
 |0,_=>rfl
 |k+1,h=>by rw [slW,slW,NV fun j hj=>h j oO,h k oO]
theorem acp (l:List Nat):(gV l).all (·.oneCell')=true:=by simp [gV,Value.oneCell']
theorem osubs_of {σ:Heap} {n:Nat} {π:Rho}:∀ {news:Heap} {k:Nat},(∀ (j:Nat) (o:aB),news[j]?=some o→yC σ n π (π (k+j)) o)→DX σ n π k news
 |[],_,_=>trivial
 |o::r,k,h=>⟨h 0 o rfl,osubs_of (k:=k+1) fun j o' hj=>by
   have:=h (j+1) o' hj
   rwa [show k+(j+1)=k+1+j by omega] at this⟩
def Ez (l:Nat→List Nat) (n:Nat):Heap:=(List.range n).map fun j=>.rw (gV (l j))
theorem F9 (l:Nat→List Nat) (n:Nat):(Ez l n).length=n:=by simp [Ez]
theorem Zz {l:Nat→List Nat} {n j:Nat} {o:aB} (h:(Ez l n)[j]?=some o):j<n∧o=.rw (gV (l j)):=by
 have hj:j<n:=by have:=(List.getElem?_eq_some_iff.1 h).1;rwa [F9] at this
 refine ⟨hj,?_⟩
 unfold Ez at h
 rw [cP,ft hj] at h
 exact (Option.some.inj h).symm
theorem aY.rowsW {σin H:Heap} {t:TypeId} {l:Nat→List Nat} {q:Nat→Nat} {g n:Nat} {f:Value} (hp:H.take σin.length=σin) (hg:H[g]?=some (.gr (slW q (fun j=>(l j).length) n) t)) (hgs:σin.length≤g)
  (hq:∀ j<n,σin.length≤q j∧H[q j]?=some (.rw (gV (l j)))) (hd:∀ i<n,∀ j<n,q i=q j→i=j) (hf:AH.plain f=true) :
  aY σin H (.tuple #[eu g 1 n,f]) (.tuple #[slN σin.length n,f]) (σin++([.rw (slW (fun j=>σin.length+1+j) (fun j=>(l j).length) n)]++Ez l n)):=by
 have r:∀ j<n,q j ≠ g:=fun j hj e=>by have:=(hq j hj).2;rw [e,hg] at this;cases this
 have hll:(g::(List.range n).map q).length=n+1:=oS
 have h0:fV σin.length (g::(List.range n).map q) σin.length=⟨g,0,0⟩:=by simp [fV]
 have hj:∀ j<n,fV σin.length (g::(List.range n).map q) (σin.length+1+j)=⟨q j,0,0⟩:=fun j hj=>by
  unfold fV
  rw [if_neg oO,show σin.length+1+j - σin.length=j+1 by omega,List.getElem?_cons_succ,cP,ft hj];rfl
 refine aY.src _ (g::(List.range n).map q) hp (by simp [F9]) ?_ (osubs_of fun j o ho=>?_) (tJ (Ew oS h0) (aZ _ hf))
 ·unfold dG
  rw [aE,eo,decide_eq_true_eq]
  refine ⟨fun x hx=>fq ?_,List.nodup_cons.2 ⟨fun hm=>?_,?_⟩⟩
  ·rcases List.mem_cons.1 hx with rfl|hx
   ·exact hgs
   ·obtain ⟨j,hj,rfl⟩:=List.mem_map.1 hx
    exact (hq j (List.mem_range.1 hj)).1
  ·obtain ⟨j,hj,e⟩:=List.mem_map.1 hm
   exact r j (List.mem_range.1 hj) e
  ·unfold List.Nodup
   rw [List.pairwise_map]
   exact List.Pairwise.imp_of_mem (fun hi hj d e=>d (hd _ (List.mem_range.1 hi) _ (List.mem_range.1 hj) e)) (List.nodup_range (n:=n))
 ·match j,ho with
  |0,ho =>
   cases ho
   refine tC h0 (.inr ⟨t,hg⟩) (by rw [zB,zB]) fun a h1 h2=>?_
   rw [TD h1,TD h2]
   have p:a<n:=by rw [zB] at h1;exact h1
   exact lI (by simp [F9];omega) (hj a p) (aD _)
  |j+1,ho =>
   obtain ⟨c,rfl⟩:=Zz (show (Ez l n)[j]?=some o from ho)
   rw [show σin.length+(j+1)=σin.length+1+j by omega]
   exact pJ (hj j c) (.inl (hq j c).2) (pI _)
def Yb (K:Heap) (n:Nat) (l:Nat→List Nat) (k:Nat×Nat×(Nat→Nat)) (mk:List Nat) (H:Heap):Prop :=
 k.1≤n∧mk=[]∧H.take K.length=K∧H.all (fun o=>!aU o)=true∧K.length≤k.2.1∧H[k.2.1]?=some (.gr (slW k.2.2 (fun j=>(l j).length) k.1) 52)∧(∀ j<k.1,K.length≤k.2.2 j∧H[k.2.2 j]?=some (.rw (gV (l j))))∧(∀ i<k.1,∀ j<k.1,k.2.2 i=k.2.2 j→i=j)
theorem Yb.next {K H:Heap} {n:Nat} {l:Nat→List Nat} {k g:Nat} {q:Nat→Nat} {A B C:aB} {S:List Value} (h:Yb K n l (k,g,q) [] H) (hk:k<n) (hA:aU A=false) (hC:aU C=false) (hB:B=.rw (gV (l k))) (hS:S=[.s (H.length+1) (l k).length (l k).length]) :
  Yb K n l (k+1,H.length+3,fun j=>if j=k then H.length+1 else q j) [] ((H++[A]++[B]++[C]).set g .dead++[.gr (slW q (fun j=>(l j).length) k++S) 52]):=by
 obtain ⟨_,_,h1,h2,h3,h4,h5,h6⟩:=h
 subst hB hS
 dsimp only at h3 h4 h5 h6
 have hgl:=aQ h4
 have hle:=take_len h1
 refine ⟨hk,rfl,aT (take_set (aT (aT (aT h1))) h3),bG (kN (bG (bG (bG h2 (by simp [hA])) rfl) (by simp [hC])) rfl) rfl,by dsimp only;omega,?_,?_,?_⟩ <;> dsimp only
 ·rw [slW,if_pos rfl,NV (q:=fun j=>if j=k then H.length+1 else q j) (q':=q) fun j hj=>if_neg oO]
  exact bK oS
 ·intro j hj
  by_cases a:j=k
  ·subst a
   rw [if_pos rfl]
   exact ⟨oO,aA (aC (aA (bK oS)) oO)⟩
  ·rw [if_neg a]
   have h7:=(h5 j oO).2
   refine ⟨(h5 j oO).1,aA (aC (aA (aA (aA h7))) fun e=>?_)⟩
   rw [← e,h4] at h7;cases h7
 ·intro i hi j hj
  have d:∀ j<k,q j<H.length:=fun j hj=>aQ (h5 j hj).2
  by_cases c:i=k
  ·subst c
   by_cases a:j=i
   ·exact fun _=>a.symm
   ·rw [if_pos rfl,if_neg a]
    have:=d j oO
    omega
  ·by_cases a:j=k
   ·subst a
    rw [if_neg c,if_pos rfl]
    have:=d i oO
    omega
   ·rw [if_neg c,if_neg a]
    exact h6 i oO j oO
end Go.AH.Heat
namespace Go.Proofs.YtajpgeklmcjciaaGreat
open Go Go.AH
attribute [local irreducible] dA bP bT jL gX dQ fF bZ fB aY dY fA
open Go.AH.Heat
theorem KG {A B:Prop} (k:B) (h:Hide B→A:=by intro h_k_;(repeat' (first|refine sCm ?_|(refine gU ?_;first|refine st (ab3 rfl rfl rfl) rfl rfl ?_|refine st (Xi rfl rfl (cH _) (by exact hcl1 _) (by exact hone) (by exact hput _ (by rw [qB];exact cJ _) (cH _))) rfl rfl ?_|refine st (Ah (by rfl) (by rfl) rfl rfl (aD _) (by omega) (by omega)) rfl rfl ?_|refine st (jh (t:=58) (by rfl) (by rfl) rfl (by exact hgX _ _ _) (by exact hgl1) rfl (dX rfl) (by omega) rfl (by omega) (by omega)) rfl rfl ?_|(refine bW ?_;first|refine st (aJ rfl (by exact aF a0)) rfl rfl ?_|refine st (bD rfl (by first|exact aV a0 rfl|exact aV a1 rfl)) rfl rfl ?_)|(refine eG ?_;refine st (bH rfl rfl rfl (by first|exact hf1|exact hf2|exact hf3)) rfl rfl ?_)|(refine lV ?_;refine st (fO (by rfl) (by rfl) (by rfl) (by rfl) rfl (by rfl)) rfl rfl ?_))|refine dD (id:=4) ?_|refine aG ?_|refine eP rfl ?_|refine eU rfl ?_));exact h_k_.h):A:=h ⟨k⟩
theorem NW {σ:Heap} {W:Wk} {m:Int×Int} {bB bS cB cS:Nat} {wB cW:Nat→Nat} {kB cK:Nat→Nat→Nat} (hv:uF W) (hA:xg σ W bB bS wB cW kB cK) (hK:∀ i<W.ns,∀ k<W.nw i,W.nk i k≤cK i k) (hm:jX m) (hbB:bB < σ.length) (hbS:bS < σ.length) (hni:σ.all (fun o=>!aU o)=true) (hl:W.someB m ≠ []) {l:Nat→List Nat} (hlW:∀ i<W.ns,l i=W.AU m i) :
  Ev Tryz.prog 21 [.agg #[.s bB W.nb cB,.s bS W.ns cS],.agg #[.i m.1,.i m.2]] σ (.tuple #[slN σ.length W.ns,.i 0]) (σ++([.rw (slW (fun j=>σ.length+1+j) (fun j=>(l j).length) W.ns)]++Ez l W.ns)):=by
 refine aI σ.length 46 Tryz.func21 rfl rfl rfl rfl rfl ?_
 have a0:(σ++[aB.rw [.s bB W.nb cB,.s bS W.ns cS]]++[aB.rw [.i m.1,.i m.2]])[σ.length]?=some (.rw [.s bB W.nb cB,.s bS W.ns cS]):=aA aO
 have a1:(σ++[aB.rw [.s bB W.nb cB,.s bS W.ns cS]]++[aB.rw [.i m.1,.i m.2]])[(σ++[aB.rw [.s bB W.nb cB,.s bS W.ns cS]]).length]?=some (.rw [.i m.1,.i m.2]):=aO
 have a:(σ++[aB.rw [.s bB W.nb cB,.s bS W.ns cS]]++[aB.rw [.i m.1,.i m.2]]).all (fun o=>!aU o)=true:=bG (bG hni rfl) rfl
 have hp:(σ++[aB.rw [.s bB W.nb cB,.s bS W.ns cS]]++[aB.rw [.i m.1,.i m.2]]).take σ.length=σ:=oS
 have w:=take_len hp
 have hf1:=PY (σ:=σ++[aB.rw [.s bB W.nb cB,.s bS W.ns cS]]++[aB.rw [.i m.1,.i m.2]]) (m:=m) (cB:=cB) (cS:=cS) hv (hA.take hp) hK hm oO oO a
 obtain ⟨H,hH⟩:∃ H,H=σ++[aB.rw [.s bB W.nb cB,.s bS W.ns cS]]++[aB.rw [.i m.1,.i m.2]]:=⟨_,rfl⟩
 refine KG ?_
 refine .mk (dJ [(2,.p σ.length),(3,.p (σ.length+1)),(4,.slice none 0 0),(5,.i 0),(6,.p H.length)] (H++yN W m bB cB bS cS H.length) (by rw [hH];rfl) ⟨rfl,(by (refine congrArg (fun n=>some (Value.p n)) ?_;simp;try omega)),rfl,rfl,by rw [hH];rfl,trivial⟩ ?_)
 rw [← hH] at a0 a1 a hp
 have hT:=KF (cB:=cB) (cS:=cS) (m:=m) (hA.take hp) (show bB<H.length by have:=take_len hp;omega) (by have:=take_len hp;omega)
 have c:(H++yN W m bB cB bS cS H.length).all (fun o=>!aU o)=true:=bG a rfl
 have f:(H++yN W m bB cB bS cS H.length).take σ.length=σ:=aT hp
 have u:(H++yN W m bB cB bS cS H.length)[σ.length]?=some (.rw [.s bB W.nb cB,.s bS W.ns cS]):=aA a0
 generalize H++yN W m bB cB bS cS H.length=K at hT c f u
 generalize H.length=tb at hT
 generalize tb+1=fb at hT
 generalize tb+2=rb at hT
 clear hf1 a0 a1 a hp hH H hA hni hK w
 have hf2:=IJ (sv:=-1) hv.ok hm hT c (.inl ⟨oO,rfl⟩)
 obtain ⟨k0,E⟩:∃ k0,(W.someB m).length=k0+1:=by
  rcases hc:W.someB m with _|⟨x,r⟩
  ·exact absurd hc hl
  ·exact ⟨r.length,rfl⟩
 rw [E] at hf2
 have F:¬ ((k0+1:Nat):Int)=0:=oO
 apply aG
 have a0:(K++[aB.rw (gV (W.someB m))])[σ.length]?=some (.rw [.s bB W.nb cB,.s bS W.ns cS]):=aA u
 refine KG ?_
 have D:=hT.take (aT (X:=[aB.rw (gV (W.someB m))]) (eZ (l:=K)))
 have z:(K++[aB.rw (gV (W.someB m))]).take σ.length=σ:=aT f
 have e:(K++[aB.rw (gV (W.someB m))]).all (fun o=>!aU o)=true:=bG c rfl
 generalize K++[aB.rw (gV (W.someB m))]=K2 at a0 D z e
 clear hf2 E F hT c f u
 have w:=take_len z
 have hns3:=hv.s
 refine Tm 52 ?_
 refine dV (ι:=Nat×Nat×(Nat→Nat)) (fun k=>[(2,.p σ.length),(3,.p (σ.length+1)),(4,.slice none 0 0),(5,.i 0),(6,.p tb),(8,eu k.2.1 1 k.1),(27,.i (W.ns:Nat)),(28,.i (k.1:Nat))])
  (Yb K2 W.ns l)
  (fun k=>W.ns - k.1) (0,K2.length,id) tE ⟨bN _,rfl,by simp,bG e rfl,aD _,aO,fun j hj=>absurd hj (Nat.not_lt_zero _),fun j hj=>absurd hj (Nat.not_lt_zero _)⟩ ?_
 rintro ⟨k,g,q⟩ mk H hP
 obtain ⟨hk,rfl,y,a,hgl,hg,hq,hd⟩:=id hP
 dsimp only at hk hgl hg hq hd
 dsimp only
 have hKl:=take_len y
 by_cases hkn:k<W.ns
 ·have I:(k:Int)<(W.ns:Nat):=oO
  have hf3:=IJ (sv:=(k:Nat)) hv.ok hm (D.take y) a (.inr ⟨k,rfl,hkn,hlW k hkn⟩)
  obtain ⟨lk,d⟩:∃ lk,lk=l k:=⟨_,rfl⟩
  rw [← d] at hf3
  have v:lk.length≤5:=by
   rw [d,hlW k hkn];unfold Wk.AU
   split
   ·exact bN _
   ·exact ej (filter_le _ _) (hv.w2 k hkn)
  have hgX:∀ A B C:aB,(H++[A]++[B]++[C])[g]?=some (.gr (slW q (fun j=>(l j).length) k) 52):=fun A B C=>aA (aA (aA hg))
  have hgl1:(slW q (fun j=>(l j).length) k).length=k*1:=by rw [zB,cJ]
  have hcl1:∀ Y,aK (H++[aB.rw (gV lk)]++Y) H.length 0 (lk.length*1)=some (gV lk):=fun Y=>aV (aA aO) (by rw [wS,cJ])
  have hone:(gV lk).all (·.oneCell')=true:=acp lk
  have hput:∀ cs:List Value,cs.length=lk.length→0<lk.length→putCells (H++[aB.rw (gV lk)]++[.rw cs]) (H++[aB.rw (gV lk)]).length 0 (gV lk)=some (H++[aB.rw (gV lk)]++[.rw (gV lk)]):=fun cs hcs h0=>by
   rw [fQ (by rw [hcs,wS];exact aD _) oO];simp [splice,wS,hcs]
  rcases lk with _|⟨x,r⟩
  ·refine KG ?_
   have eB:aB.rw (iR (dU (Value.int IntKind.i64 0)) 0)=.rw (gV (l k)):=by rw [← d];rfl
   have eS:splice (iR (dU (Value.slice none 0 0)) 1) (0*1) (dU (Value.s ((H++[aB.rw (gV [])]).length) 0 0))=[.s (H.length+1) (l k).length (l k).length]:=by rw [← d,aR];rfl
   exact ⟨(k+1,H.length+3,fun j=>if j=k then H.length+1 else q j),hP.next hkn rfl rfl eB eS,by dsimp only;omega,⟨rfl,rfl,rfl,rfl,rfl,congrArg (fun n=>some (eu n 1 (k+1))) oS,rfl,rfl,trivial⟩⟩
  ·have hr5:r.length+1≤5:=v
   refine KG ?_
   have eB:aB.rw (gV (x::r))=.rw (gV (l k)):=by rw [← d]
   have eS:splice (iR (dU (Value.slice none 0 0)) 1) (0*1) (dU (Value.s ((H++[aB.rw (gV (x::r))]).length) (r.length+1) (r.length+1)))=[.s (H.length+1) (l k).length (l k).length]:=by rw [← d,aR];rfl
   exact ⟨(k+1,H.length+3,fun j=>if j=k then H.length+1 else q j),hP.next hkn rfl rfl eB eS,by dsimp only;omega,⟨rfl,rfl,rfl,rfl,rfl,congrArg (fun n=>some (eu n 1 (k+1))) oS,rfl,rfl,trivial⟩⟩
 ·obtain rfl:k=W.ns:=oO
  have I:¬ ((W.ns:Nat):Int)<(W.ns:Nat):=oO
  have G:H.take σ.length=σ:=by
   have e1:(H.take K2.length).take σ.length=σ:=by rw [y];exact z
   rwa [eJ,fj w] at e1
  refine KG ?_
  exact dM (v2:=.tuple #[slN σ.length W.ns,.i 0]) (.tmp rfl (.tmp rfl .nil)) (aY.rowsW G hg oO (fun j hj=>⟨by have:=(hq j hj).1;omega,(hq j hj).2⟩) hd rfl) ⟨rfl,rfl⟩
end Go.Proofs.YtajpgeklmcjciaaGreat
namespace Go.AH.Heat
open Go Go.AH
def oL (kf:Nat→Int×Int×Int) (h:Int):Nat→Nat
 |0=>0
 |i+1=>if (kf (i+1)).1≤h then i+1 else oL kf h i
theorem AY (kf:Nat→Int×Int×Int) (h:Int):∀ i,oL kf h i≤i
 |0=>aD _
 |i+1=>by unfold oL;split;exact aD _;have:=AY kf h i;omega
def qJ (n:Nat) (kf:Nat→Int×Int×Int) (h:Int):Int×Int:=(kf (oL kf h (n - 1))).2
def BJ (σ:Heap) (ik n:Nat) (kf:Nat→Int×Int×Int):Prop:=∀ q<n,aK σ ik (q*3) 3=some (jA (kf q))
theorem BJ.app {σ:Heap} {ik n:Nat} {kf:Nat→Int×Int×Int} (h:BJ σ ik n kf) (X:Heap):BJ (σ++X) ik n kf:=fun q hq=>by rw [jk (dL (h q hq))];exact h q hq
end Go.AH.Heat
namespace Go.Proofs.YtajpgeklmcjciaaGreat
open Go Go.AH
attribute [local irreducible] dA bP bT jL gX dQ fF bZ fB aY dY fA
open Go.AH.Heat
theorem V6 {A B:Prop} (k:B) (h:Hide B→A:=by intro h_k_;(repeat' (first|refine sCm ?_|(refine gU ?_;first|(refine bW ?_;first|refine st (aJ rfl (by first|exact aF a0|exact hq0)) rfl rfl ?_|refine st (bD rfl (by exact hq2)) rfl rfl ?_)|(refine CJ ?_;refine st (jB rfl rfl (by omega) (by omega)) rfl rfl ?_)|(refine gIA ?_;refine st (eY rfl rfl (by omega)) rfl rfl ?_)|(refine dZ ?_;refine stN (bF rfl rfl rfl rfl (by exact hput)) rfl ?_))|refine aG ?_|refine eP rfl ?_|refine eU rfl ?_));exact h_k_.h):A:=h ⟨k⟩
theorem AZ {σ:Heap} {ik n c:Nat} {kf:Nat→Int×Int×Int} {h:Int} (hv:0<n) (hn:n≤1000000) (hz:(kf 0).1≤h) (hk:BJ σ ik n kf) :
  Ev Tryz.prog 82 [.agg #[.s ik n c],.i h] σ (.agg #[.i (qJ n kf h).1,.i (qJ n kf h).2]) σ:=by
 refine aI σ.length 26 Tryz.func82 rfl rfl rfl rfl rfl ?_
 have a0:(σ++[aB.rw [.s ik n c]]++[aB.rw [.i 0,.i 0]])[σ.length]?=some (.rw [.s ik n c]):=aA aO
 have hput:putCells (σ++[aB.rw [.s ik n c]]++[aB.rw [.i 0,.i 0]]) (σ.length+1) 0 [.i (qJ n kf h).1,.i (qJ n kf h).2]=some (σ++[aB.rw [.s ik n c]]++[aB.rw [.i (qJ n kf h).1,.i (qJ n kf h).2]]):=by
  have:=fQ (σ:=σ++[aB.rw [.s ik n c]]) (cs:=[.i 0,.i 0]) (vs:=[.i (qJ n kf h).1,.i (qJ n kf h).2]) (aD _) (cH _)
  rwa [aR] at this
 refine V6 ?_
 have d:=(hk.app [aB.rw [.s ik n c]]).app [aB.rw [.i 0,.i 0]]
 obtain ⟨K,hK⟩:∃ K,K=σ++[aB.rw [.s ik n c]]++[aB.rw [.i 0,.i 0]]:=⟨_,rfl⟩
 rw [← hK] at a0 d hput
 refine dV (ι:=Nat) (fun i=>[(1,.i h),(2,.p σ.length),(4,.p (σ.length+1)),(5,.i (i:Nat))])
  (fun i mk H=>i<n∧mk=[]∧oL kf h (n - 1)=oL kf h i∧H=K) (fun i=>i) (n - 1) ⟨rfl,rfl,congrArg (fun m=>some (Value.p m)) oS,congrArg (fun m=>some (Value.i m)) oO,trivial⟩ ⟨oO,rfl,rfl,hK.symm⟩ ?_
 rintro i mk H ⟨hi,rfl,hl,rfl⟩
 have a:=d i hi
 have hq0:aH H ik (0+i*3+0)=some (.i (kf i).1):=by rw [bA];exact gy a oO
 have hq2:aK H ik (0+i*3+1) 2=some [.i (kf i).2.1,.i (kf i).2.2]:=by rw [bA];exact xP a
 by_cases hgt:(kf i).1 > h
 ·have hi1:1≤i:=by
   rcases i with _|i
   ·omega
   ·omega
  refine V6 ?_
  refine ⟨i - 1,⟨oO,rfl,?_,rfl⟩,oO,⟨rfl,rfl,rfl,congrArg (fun m=>some (Value.i m)) oO,trivial⟩⟩
  rw [hl]
  obtain ⟨j,rfl⟩:∃ j,i=j+1:=⟨i - 1,oO⟩
  rw [oL,if_neg oO];rfl
 ·have he:oL kf h (n - 1)=i:=by
   rw [hl]
   rcases i with _|i
   ·rfl
   ·rw [oL,if_pos oO]
  have e1:(qJ n kf h).1=(kf i).2.1:=by unfold qJ;rw [he]
  have e2:(qJ n kf h).2=(kf i).2.2:=by unfold qJ;rw [he]
  rw [e1,e2] at hput
  rw [e1,e2]
  refine V6 ?_
  exact dM (.cellN inferInstance rfl (aV (bK oS) rfl) .nil) (aY.plain oS rfl) ⟨rfl,rfl⟩
end Go.Proofs.YtajpgeklmcjciaaGreat
namespace Go.AH
open Go
def setB (w:World) (r:Nat) (o:Obj):World:={ w with heap:=w.heap.setIfInBounds r o }
theorem ZA (w:World) (r:Nat) (o o':Obj):setB (setB w r o) r o'=setB w r o':=by simp [setB]
theorem acr {w:World} {r:Nat} {o o':Obj} (h:w.heap[r]?=some o):(setB w r o').heap[r]?=some o':=(MapKept.heap_set h).1
theorem ZB {w:World} {r:Nat} {o:Obj} (h:w.heap[r]?=some o):setB w r o=w:=by
 unfold setB
 have:w.heap.setIfInBounds r o=w.heap:=by
  apply Array.ext_getElem?
  intro i
  by_cases hi:i=r
  ·subst hi;rw [(MapKept.heap_set (o':=o) h).1,h]
  ·rw [(MapKept.heap_set (o':=o) h).2 i hi]
 rw [this]
section
variable {α:Type} {kv:α→Value} {P:Program}
theorem V7 [DecidableEq α] {t kt et size bytes:Nat} {agg:Bool} {z:Value} [hm:Mp P t kt et] [hk:KT P kt kv] [ht:Ty P et size agg z bytes] (hz:plain z=true) {w:World} {r n clock:Nat} {ρ:Rho} {ents:Array MapEntry} {l:List (α×Value)} {k:α}
  (hh:w.heap[r]?=some (.map ents clock)) (hM:YB n ρ (l.map fun p=>(kv p.1,p.2)) ents clock) {v0:Value} (hv:iT l k=some v0∨iT l k=none∧v0=z) :
  ∃ (u0:Value) (b:Nat) (w1:World),gQ n ρ v0 u0 ∧
   (∀ (ev:Operand→Value) (o:Oper) (x y:Operand),o.op=.mapEntry t x y→ev x=.map (some r)→ev y=kv k→(execOp ev o).run P w=.ok (.value (.tuple #[u0,goInt b])) w1) ∧
   (∀ (ev:Operand→Value) (o:Oper) (x y:Operand),o.op=.lookup t x y false→ev x=.map (some r)→ev y=kv k→(execOp ev o).run P w=.ok (.value u0) w∧(execOp ev o).run P w1=.ok (.value u0) w1) ∧
   (∀ val:Value,∃ w2,(∀ (ev:Operand→Value) (o:Oper) (x s u:Operand),o.op=.entryStore t x s u→ev x=.map (some r)→ev s=goInt b→ev u=val→(execOp ev o).run P w1=.ok .skip w2) ∧
    (∀ (ev:Operand→Value) (o:Oper) (x y u:Operand),o.op=.mapUpdate t x y u→ev x=.map (some r)→ev y=kv k→ev u=val→(execOp ev o).run P w=.ok .skip w2)):=by
 obtain ⟨hl,D⟩:=pY hM
 have d:=hk.find w k ents.toList (l.map (·.1)) hl D
 obtain ⟨m1,m2,m3⟩:=hM
 simp only [cU] at m1
 have Q:(ents.toList.map (·.born)).Nodup:=by
  unfold List.Nodup
  rw [List.pairwise_map,List.pairwise_iff_getElem]
  intro i j hi hj R
  have:=m3 i j (oU hi) (oU hj) R
  simp only [ee]
  omega
 cases hf:(l.map (·.1)).findIdx? (fun q=>decide (k=q)) with
 |none =>
  rw [hf] at d
  have hg:iT l k=none:=by unfold iT;rw [hf]
  have M:v0=z:=by
   rcases hv with h|⟨_,h⟩
   ·rw [hg] at h;cases h
   ·exact h
  subst M
  have T:(ents.push ⟨kv k,v0,clock⟩).toList.length=(l.map (·.1)++[k]).length:=by simp [m1]
  have g:=fun w=>hk.find w k (ents.push ⟨kv k,v0,clock⟩).toList (l.map (·.1)++[k]) T (fun j h1 h2=>by
   by_cases hj:j<l.length
   ·have:=D j (by simp;omega) (oU hj)
    simp only [ee] at this ⊢
    rw [Array.getElem_push_lt oO,eW (oU hj)];exact this
   ·have G:j=ents.size:=by simp at h2;omega
    subst G
    simp only [ee,Array.getElem_push_eq]
    rw [eV (by simp;omega)];simp)
  have C:(l.map (·.1)++[k]).findIdx? (fun q=>decide (k=q))=some l.length:=by
   rw [List.findIdx?_append,hf];simp
  rw [C] at g
  have S:(ents.push ⟨kv k,v0,clock⟩).toList[l.length]?=some ⟨kv k,v0,clock⟩:=by simp [← m1]
  simp only [S,eh] at g
  simp only [Array.toList_push] at g
  have N:=acr (o':=.map (ents.push ⟨kv k,v0,clock⟩) (clock+1)) hh
  refine ⟨v0,clock,setB w r (.map (ents.push ⟨kv k,v0,clock⟩) (clock+1)),aZ v0 hz,fun ev o x y ho hx hy=>?_,fun ev o x y ho hx hy=>⟨?_,?_⟩,fun val=>⟨setB w r (.map (ents.push ⟨kv k,val,clock⟩) (clock+1)),fun ev o x s u ho hx hs hu=>?_,fun ev o x y u ho hx hy hu=>?_⟩⟩
  ·simp [execOp,ho,Instr.mapEntry,run_underlying hm.und,hx,hy,MapKept.run_getObj_map hh,hk.check,d,ht.zeroV,MapKept.run_setObj_map _ hh,Result.andThen,setB]
  ·simp [execOp,ho,Instr.lookup,run_underlying hm.und,hx,hy,MapKept.run_getObj_map hh,hk.check,d,Result.andThen,ht.zeroV]
  ·simp [execOp,ho,Instr.lookup,run_underlying hm.und,hx,hy,MapKept.run_getObj_map N,hk.check,g,Result.andThen]
  ·have C:(ents.push ⟨kv k,v0,clock⟩).findIdx? (fun e=>((e.born:Nat):Int) == ((clock:Nat):Int))=some ents.size:=by
    rw [WideElems.findIdx_arr]
    exact WideElems.findIdx_born (l:=(ents.push ⟨kv k,v0,clock⟩).toList) (j:=ents.size) (e0:=⟨kv k,v0,clock⟩) (by
     simp only [Array.toList_push,eC,cG,dz]
     refine List.nodup_append.2 ⟨Q,by simp,fun a ha c hc e1=>?_⟩
     simp only [fc] at hc
     obtain ⟨x,hx,rfl⟩:=List.mem_map.1 ha
     obtain ⟨i,hi,rfl⟩:=List.mem_iff_getElem.1 hx
     have U:i<ents.size:=by simpa using hi
     have:=(m2 i (by simp;omega) U).2.2.2
     simp only [ee] at e1
     omega) oS
   have F:(ents.push ⟨kv k,v0,clock⟩).modify ents.size (fun e=>{ e with val:=val })=ents.push ⟨kv k,val,clock⟩:=by
    apply Array.ext'
    rw [Array.toList_modify,Array.toList_push,Array.toList_push,← Array.length_toList,WideElems.modify_last]
   have v:=MapKept.run_setObj_map (P:=P) (.map (ents.push ⟨kv k,val,clock⟩) (clock+1)) N
   have e2:({ setB w r (.map (ents.push ⟨kv k,v0,clock⟩) (clock+1)) with heap:=(setB w r (.map (ents.push ⟨kv k,v0,clock⟩) (clock+1))).heap.setIfInBounds r (.map (ents.push ⟨kv k,val,clock⟩) (clock+1)) }:World)=setB w r (.map (ents.push ⟨kv k,val,clock⟩) (clock+1)):=ZA _ _ _ _
   rw [e2] at v
   simp [execOp,ho,Instr.entryStore,hx,hs,hu,MapKept.run_getObj_map N,Go.asInt,Go.asIntOf,goInt,C,F,v,Result.andThen]
  ·simp [execOp,ho,Instr.mapUpdate,run_underlying hm.und,hx,hy,hu,MapKept.run_getObj_map hh,hk.check,d,MapKept.run_setObj_map _ hh,Result.andThen,setB]
 |some j =>
  rw [hf] at d
  have L:j<l.length:=by have:=(List.findIdx?_eq_some_iff_findIdx_eq.1 hf).1;simpa using this
  have V:(l.map (·.1))[j]'(oU L)=k:=by
   have:=List.findIdx?_eq_some_iff_getElem.1 hf
   obtain ⟨h1,h2,_⟩:=this
   exact (of_decide_eq_true h2).symm
  have G:j<ents.size:=oO
  have f:ents.toList[j]?=some ents[j]:=by simp [G]
  simp only [f,eh] at d
  have E:ents[j].key=kv k:=by
   have:=D j (oU G) (oU L)
   rw [V] at this
   simpa using this
  have I:∀ w,(Instr.keyThatStays (kv k) (kv k)).run P w=.ok (kv k) w:=fun w=>by simp [Instr.keyThatStays,hk.same]
  have O:iT l k=some l[j].2:=by unfold iT;rw [hf];simp [L]
  have M:v0=l[j].2:=by
   rcases hv with h|⟨h,_⟩
   ·rw [O] at h;exact (Option.some.inj h).symm
   ·rw [O] at h;cases h
  have J:=(m2 j (oU L) G).2.2.1
  simp only [cM] at J
  have K:ents.modify j (fun e=>{ e with key:=kv k })=ents:=by
   apply Array.ext'
   rw [Array.toList_modify,ChangeMaps.modify_eq_set _ _ _ _ f]
   have:({ ents[j] with key:=kv k }:MapEntry)=ents[j]:=by rw [← E]
   rw [this]
   exact WideElems.set_self _ _ _ f
  have v:∀ o:Obj,(setObj r o).run P w=.ok () (setB w r o):=fun o=>MapKept.run_setObj_map o hh
  have H:(setObj r (.map ents clock)).run P w=.ok () w:=by rw [v,ZB hh]
  refine ⟨ents[j].val,ents[j].born,w,by rw [M];exact J,fun ev o x y ho hx hy=>?_,fun ev o x y ho hx hy=>⟨?_,?_⟩,fun val=>⟨setB w r (.map (ents.modify j fun e=>{ e with key:=kv k,val:=val }) clock),fun ev o x s u ho hx hs hu=>?_,fun ev o x y u ho hx hy hu=>?_⟩⟩
  ·simp [execOp,ho,Instr.mapEntry,run_underlying hm.und,hx,hy,MapKept.run_getObj_map hh,hk.check,d,G,E,I,K,H,Result.andThen]
  ·simp [execOp,ho,Instr.lookup,run_underlying hm.und,hx,hy,MapKept.run_getObj_map hh,hk.check,d,Result.andThen]
  ·simp [execOp,ho,Instr.lookup,run_underlying hm.und,hx,hy,MapKept.run_getObj_map hh,hk.check,d,Result.andThen]
  ·have C:ents.findIdx? (fun e=>((e.born:Nat):Int) == ((ents[j].born:Nat):Int))=some j:=by
    rw [WideElems.findIdx_arr]
    exact WideElems.findIdx_born Q f
   have F:ents.modify j (fun e=>{ e with val:=val })=ents.modify j (fun e'=>{ e' with key:=kv k,val:=val }):=by
    apply Array.ext'
    rw [Array.toList_modify,Array.toList_modify,ChangeMaps.modify_eq_set _ _ _ _ f,ChangeMaps.modify_eq_set _ _ _ _ f,← E]
   simp [execOp,ho,Instr.entryStore,hx,hs,hu,MapKept.run_getObj_map hh,Go.asInt,Go.asIntOf,goInt,C,F,v,Result.andThen]
  ·simp [execOp,ho,Instr.mapUpdate,run_underlying hm.und,hx,hy,hu,MapKept.run_getObj_map hh,hk.check,d,G,E,I,v,Result.andThen]
end
end Go.AH
