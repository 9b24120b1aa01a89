/- An entry of a map that is told by its stamp: `m[k] += x` in a drawn region, whatever the order. -/
import Derived.Test.YtajpgeklmcjciaaGreatPxQ2
import Derived.WideKeyEntry
set_option maxRecDepth 100000
set_option maxHeartbeats 8000000
namespace Go.Proofs.YtajpgeklmcjciaaGreat
open Go Go.AH
attribute [local irreducible] bZ bK bM jB gy dO fC bW eU aX dV eH
open Go.AH.Heat
theorem mZ {A B:Prop} (k:B) (h:Hide B→A:=by intro h_k_;(repeat' (first|refine sCm ?_|(refine gU ?_;first|(refine bV ?_;first|refine st (aK rfl (by first|exact ig rfl|exact aF a0|exact aF a2|exact aF hN.b0|exact aF hN.b3|assumption)) rfl rfl ?_|refine st (bD rfl (by first|exact aV a0 rfl|exact aV a1 rfl|exact dU rfl|assumption)) rfl rfl ?_)|refine sK8 ?_|refine sK0 ?_|(refine gIA ?_;first|refine st (nC rfl rfl (by omega)) rfl rfl ?_|refine st (iV rfl rfl (by omega)) rfl rfl ?_)|refine sK4 ?_|(refine OG ?_;refine st (EY rfl) rfl rfl ?_)|(refine dX ?_;refine st (bG rfl rfl rfl (by exact hf1)) rfl rfl ?_)|(refine gV ?_;refine stN (bU rfl rfl rfl rfl (by first|exact iW (aD _) (cU _)|exact hputL _)) rfl ?_))|(refine fU ?_;first|refine frA (aK rfl (aF (hN.app _).b3)) rfl ?_ (hcl (by omega))|refine frA (aK rfl (aF (hN.app _).b2)) rfl ?_ hcs|refine frA (aK rfl (aF (hN.app _).b0)) rfl ?_ hcb|refine frA (iV rfl rfl (by omega)) rfl ?_ (hclr _)|refine frA (jT rfl) rfl ?_ (hcl (by omega))|refine frA (aZ rfl) rfl ?_ (hcl (by omega))|refine frA (bD rfl (hrow _)) rfl ?_ hrc|(refine gB ?_;refine frA (aK rfl (by exact hqX _)) rfl ?_)|(refine fAdd ?_;refine frA (qP rfl rfl (by omega)) rfl ?_)|(refine Ro ?_;refine frA (lJ rfl) rfl ?_)|(refine zV ?_;refine fr1 (kC rfl) rfl rfl rfl ?_))|(refine fP ⟨by kernel_rfl,?_⟩)|refine dB (id:=1) ?_|refine dB (id:=2) ?_|refine dB (id:=3) ?_|refine dB (id:=13) ?_|refine dB (id:=16) ?_|refine dB (id:=22) ?_|refine dB (id:=27) ?_|refine dB (id:=29) ?_|refine dB (id:=33) ?_|refine dB (id:=36) ?_|refine aG ?_|refine sK5 ?_|refine dZ rfl ?_|refine eu rfl ?_));exact h_k_.h):A:=h ⟨k⟩
theorem NY {A B:Prop} (k:B) (h:Hide B→A:=by intro h_k_;(repeat' (first|refine sCm ?_|(refine gU ?_;first|(refine bV ?_;first|refine st (aK rfl (by exact aF a2)) (by exact hrd) rfl ?_|refine st (bD rfl (by first|exact aV a0 rfl|exact aV a1 rfl)) (by exact hrd) rfl ?_)|(refine dX ?_;refine st (bG rfl rfl rfl (by first|exact hf1|exact hf2)) (by exact hrd) rfl ?_)|(refine Cj ?_;refine st (kC rfl) (by exact hrd) rfl ?_)|(refine gV ?_;refine stN (bU rfl rfl rfl rfl (by exact iW (aD _) (cU _))) (by exact hrd) ?_))|(refine fU ?_;first|refine frA (aK rfl (aF (hN.app _).b3)) rfl ?_ (hcl (by omega))|refine frA (aK rfl (aF (hN.app _).b2)) rfl ?_ hcs|refine frA (iV rfl rfl (by omega)) rfl ?_ (hclr _)|refine frA (jT rfl) rfl ?_ (hcl (by omega))|refine frA (aZ rfl) rfl ?_ (hcl (by omega))|(refine gB ?_;first|refine frA (aK rfl (by exact hqX _)) rfl ?_|refine frA (bD rfl (by exact h20X _)) rfl ?_))|(refine fP ⟨by kernel_rfl,?_⟩)|refine aG ?_|refine fA (by kernel_rfl) (by exact hrd) ?_|refine dZ rfl ?_|refine eu rfl ?_));exact h_k_.h):A:=h ⟨k⟩
theorem Wq {σ:Heap} {W:Wk} {bB bS cB cS:Nat} {wB cW:Nat→Nat} {kB cK:Nat→Nat→Nat} (hW:W.Ok) (hA:wM σ W bB bS wB cW kB cK) {m:Int×Int} (hm:jM m) (hbB:bB < σ.length) (hbS:bS < σ.length) :
  Ev Tryz.prog 168 [.agg #[.s bB W.nb cB,.s bS W.ns cS],.agg #[.i m.1,.i m.2]] σ (.p σ.length)
   (σ++[.rw [.s bB W.nb cB,.s bS W.ns cS,.i m.1,.i m.2,.s (σ.length+1) (W.ns+1) (W.ns+1),.s (σ.length+2) (W.ns+1) (W.ns+1)],.rw (dD W.front 0 (W.ns+1)),.rw (dD (W.jS m) 0 (W.ns+1))]):=by
 have hnb3:=hW.nb
 have hns3:=hW.ns
 refine aI σ.length 145 Tryz.func168 rfl rfl rfl rfl rfl ?_
 refine mZ ?_
 obtain ⟨H1,ap⟩:∃ H,H=σ++[aB.rw [.s bB W.nb cB,.s bS W.ns cS]]++[aB.rw [.i m.1,.i m.2]]:=⟨_,rfl⟩
 have al:H1.length=σ.length+2:=by rw [ap];simp
 have hp:H1.take σ.length=σ:=by rw [ap];simp
 have a0:H1[σ.length]?=some (.rw [.s bB W.nb cB,.s bS W.ns cS]):=by rw [ap];simp
 have a1:H1[σ.length+1]?=some (.rw [.i m.1,.i m.2]):=by rw [ap];simp
 refine .mk (dH [(2,.p σ.length),(3,.p (σ.length+1)),(4,.pointer none)] H1 ap.symm ⟨rfl,(by (refine congrArg (fun n=>some (Value.p n)) ?_;simp;try omega)),rfl,trivial⟩ ?_)
 clear ap
 apply aG
 refine mZ ?_
 obtain ⟨H2,bl⟩:∃ H,H=H1++[aB.rw [.s bB W.nb cB,.s bS W.ns cS,.i m.1,.i m.2,.slice none 0 0,.slice none 0 0]]++[aB.rw [.p (σ.length+2)]]:=⟨_,rfl⟩
 refine .mk (dH [(2,.p σ.length),(3,.p (σ.length+1)),(4,.pointer none),(5,.p (σ.length+3))] H2 (by rw [bl,← al];rfl) ⟨rfl,rfl,rfl,(by (refine congrArg (fun n=>some (Value.p n)) ?_;simp;try omega)),trivial⟩ ?_)
 apply aG
 refine mZ ?_
 have hN:NT σ (H2++[aB.rw (r8 zro)]) [.s bB W.nb cB,.s bS W.ns cS] [.i m.1,.i m.2] [.s bB W.nb cB,.s bS W.ns cS,.i m.1,.i m.2,.slice none 0 0,.slice none 0 0] zro:=by
  rw [bl]
  refine ⟨aT (aT (aT hp)),aA (aA (aA a0)),aA (aA (aA a1)),aA (aA (bJ al)),aA (bJ (by simp [al])),bJ (by simp [al])⟩
 obtain ⟨H,hH⟩:∃ H,H=H2++[aB.rw (r8 zro)]:=⟨_,rfl⟩
 rw [← hH] at hN
 refine .mk (dH [(2,.p σ.length),(3,.p (σ.length+1)),(4,.pointer none),(5,.p (σ.length+3)),(6,.p (σ.length+4))] H (by rw [hH,FV];rfl) ⟨rfl,rfl,rfl,rfl,(by refine congrArg (fun n=>some (Value.p n)) ?_;rw [bl];simp [al]),trivial⟩ ?_)
 clear hH bl a0 a1 hp al
 apply aG
 refine mZ ?_
 refine dS (ι:=Nat) (fun k=>[(2,.p σ.length),(3,.p (σ.length+1)),(4,.pointer none),(5,.p (σ.length+3)),(6,.p (σ.length+4)),(27,.s bB W.nb cB),(28,.i (W.nb:Nat)),(29,.i (k:Nat))]) (fun k mk H=>k≤W.nb∧mk=[]∧NT σ H [.s bB W.nb cB,.s bS W.ns cS] [.i m.1,.i m.2] [.s bB W.nb cB,.s bS W.ns cS,.i m.1,.i m.2,.slice none 0 0,.slice none 0 0] (rD W.bf k zro)) (fun k=>W.nb - k) 0 tE ⟨bN _,rfl,hN⟩ ?_
 clear hN H
 rintro k mk H ⟨hk,rfl,hN⟩
 have O:(rD W.bf k zro).length=1001:=tZ jX fun j hj=>hW.b j oO
 generalize hnow:rD W.bf k zro=now at hN O
 by_cases hkn:k<W.nb
 ·have ba:(k:Int)<(W.nb:Nat):=oO
  have hd1:aJ H bB (0+k*2) 2=some [.i (W.bf k).1,.i (W.bf k).2]:=by rw [bA];exact (hA.take hN.pre).bars k hkn
  have br:=hW.b k hkn
  have hf1:=Qd (σ:=H++[aB.rw [.i (W.bf k).1,.i (W.bf k).2]]) (hN.app _).b4 O br.1 br.2.2 (by have:=br.2.1;omega)
  refine mZ ?_
  refine ⟨k+1,⟨oO,rfl,?_⟩,oO,tE⟩
  simp only [rD]
  rw [hnow]
  exact (hN.app _).setR _
 ·obtain rfl:k=W.nb:=oO
  have ba:¬ ((W.nb:Nat):Int)<(W.nb:Nat):=oO
  have cd:now=W.front 0:=hnow.symm
  subst cd
  clear hnow
  have hcl:∀ {q o:Nat},q < σ.length+5→closed H.length (.pointer (some ⟨q,o,none⟩))=true:=fun {q o} h=>(show Nat.blt q H.length=true from Nat.blt_eq.mpr (by have:=hN.len;omega))
  have hrow:∀ X,aJ (H++X) (σ.length+4) 0 1001=some (r8 (W.front 0)):=fun X=>aV (hN.app X).b4 (by rw [jd,O])
  have M:(r8 (W.front 0)).length=1001:=by rw [jd,O]
  have hone:=FX (W.front 0)
  have hrc:dP H.length (r8 (W.front 0))=true:=(aW (nR _)).1
  have hro:okL (r8 (W.front 0))=true:=(aW (n:=0) (nR _)).2
  have N:aJ (H++[aB.rw (r8 (W.front 0))]) (H++([]:Heap)).length 0 1001=some (r8 (W.front 0)):=by rw [bL];exact dU M
  have bo:(H++[aB.rw (r8 (W.front 0))]).length+1=H.length+2:=oS
  have hput:∀ v x,putCells (H++[aB.rw (r8 (W.front 0))]++x) (σ.length+2) (0+4) [v]=some ((H++[aB.rw (r8 (W.front 0))]++x).set (σ.length+2) (.rw [.s bB W.nb cB,.s bS W.ns cS,.i m.1,.i m.2,v,.slice none 0 0])):=fun v x=>fM ((hN.app _).app _).b2 oS oS rfl
  repeat' (first|refine sCm ?_|(refine gU ?_;first|refine st (wG oR rfl rfl (by exact N) oO (by exact hone) oO oD) rfl rfl ?_|(refine bV ?_;refine st (aK rfl (by exact aF ((hN.app _).app _).b3)) rfl rfl ?_)|refine sK0 ?_|(refine gV ?_;refine stN (bU rfl rfl rfl rfl (by exact hput _ _)) rfl ?_))|(refine fU ?_;first|refine frA (aK rfl (aF (hN.app _).b3)) rfl ?_ (hcl oO)|refine frA (jT rfl) rfl ?_ (hcl oO)|refine frA (aZ rfl) rfl ?_ (hcl oO)|refine frA (bD rfl (hrow _)) rfl ?_ hrc|refine frN (sF oR oR oR oR rfl M) uV hrc hro rfl ?_|(refine gB ?_;refine frA (aK rfl (by exact aF (hN.app _).b2)) rfl ?_))|(refine fP ⟨oK,?_⟩)|refine dB (id:=9) ?_|refine aG ?_|refine Late.Bh 0 36 (id:=8) oK rfl ?_|refine Late.split ?_ rfl rfl rfl rfl ?_|refine eu rfl ?_)
  all_goals refine .mk (dH [(2,.p σ.length),(3,.p (σ.length+1)),(4,.pointer none),(5,.p (σ.length+3)),(6,.p (σ.length+4))] ((H++[aB.rw (r8 (W.front 0))]++[aB.dead,aB.gr (r8 (W.front 0)) 258]).set (σ.length+2) (.rw [.s bB W.nb cB,.s bS W.ns cS,.i m.1,.i m.2,dW (H.length+2) 1001 1,.slice none 0 0])) (by rw [← bo];rfl) tE ?tail)
  have b7:NT σ ((H++[aB.rw (r8 (W.front 0))]++[aB.dead,aB.gr (r8 (W.front 0)) 258]).set (σ.length+2) (.rw [.s bB W.nb cB,.s bS W.ns cS,.i m.1,.i m.2,dW (H.length+2) 1001 1,.slice none 0 0])) [.s bB W.nb cB,.s bS W.ns cS] [.i m.1,.i m.2] [.s bB W.nb cB,.s bS W.ns cS,.i m.1,.i m.2,dW (H.length+2) 1001 1,.slice none 0 0] (W.front 0):=((hN.app _).app _).setT _
  have bk:((H++[aB.rw (r8 (W.front 0))]++[aB.dead,aB.gr (r8 (W.front 0)) 258]).set (σ.length+2) (.rw [.s bB W.nb cB,.s bS W.ns cS,.i m.1,.i m.2,dW (H.length+2) 1001 1,.slice none 0 0]))[H.length+2]?=some (.gr (dD W.front 0 1) 258):=by
   have:=hN.len
   refine aC ?_ oO
   rw [bE oS]
   simp [dD]
  have c4:σ.length+5≤H.length+2:=by have:=hN.len;omega
  generalize ((H++[aB.rw (r8 (W.front 0))]++[aB.dead,aB.gr (r8 (W.front 0)) 258]).set (σ.length+2) (.rw [.s bB W.nb cB,.s bS W.ns cS,.i m.1,.i m.2,dW (H.length+2) 1001 1,.slice none 0 0]))=H9 at b7 bk
  generalize H.length+2=j9 at b7 bk c4
  clear hput N hrc hro hone M hrow hcl O hN ba hkn hk bo H
  have hN:=b7
  apply aG
  refine mZ ?_
  clear hN
  refine dS (ι:=Nat) (fun k=>[(2,.p σ.length),(3,.p (σ.length+1)),(4,.pointer none),(5,.p (σ.length+3)),(6,.p (σ.length+4)),(47,.s bS W.ns cS),(48,.i (W.ns:Nat)),(49,.i (k:Nat))]) (fun k mk H=>k≤W.ns∧Mks (σ.length+5) mk H∧∃ j,σ.length+5≤j∧NT σ H [.s bB W.nb cB,.s bS W.ns cS] [.i m.1,.i m.2] [.s bB W.nb cB,.s bS W.ns cS,.i m.1,.i m.2,dW j 1001 (k+1),.slice none 0 0] (W.front k)∧H[j]?=some (.gr (dD W.front 0 (k+1)) 258)) (fun k=>W.ns - k) 0 tE ⟨bN _,.nil,j9,c4,b7,bk⟩ ?_
  clear bk b7 c4 H9 j9
  rintro k mk H ⟨hk,hM,j,hj,hN,hg⟩
  by_cases hkn:k<W.ns
  ·have ba:(k:Int)<(W.ns:Nat):=oO
   have O:=kM hW k oO
   have hd1:aJ H bS k 1=some [.s (wB k) (W.nw k) (cW k)]:=(hA.take hN.pre).steps k hkn
   refine mZ ?_
   have bn:(H++[aB.rw [.s (wB k) (W.nw k) (cW k)]]++[aB.rw (r8 zro)])[H.length]?=some (.rw [.s (wB k) (W.nw k) (cW k)]):=aA aO
   have J:(H++[aB.rw [.s (wB k) (W.nw k) (cW k)]]++[aB.rw (r8 zro)])[H.length+1]?=some (.rw (r8 zro)):=bJ oS
   have a3:=(hN.app [aB.rw [.s (wB k) (W.nw k) (cW k)]]).app [aB.rw (r8 zro)]
   have af:=(hM.app [aB.rw [.s (wB k) (W.nw k) (cW k)]]).app [aB.rw (r8 zro)]
   have a5:(H++[aB.rw [.s (wB k) (W.nw k) (cW k)]]++[aB.rw (r8 zro)])[j]?=_:=aA (aA hg)
   have b5:=aQ hg
   have bg:=hN.len
   refine .mk (dH [(2,.p σ.length),(3,.p (σ.length+1)),(4,.pointer none),(5,.p (σ.length+3)),(6,.p (σ.length+4)),(10,.p H.length),(11,.p (H.length+1)),(47,.s bS W.ns cS),(48,.i (W.ns:Nat)),(49,.i (k:Nat))] (H++[aB.rw [.s (wB k) (W.nw k) (cW k)]]++[aB.rw (r8 zro)]) (by rw [FV];rfl) ⟨rfl,rfl,rfl,rfl,rfl,rfl,(by (refine congrArg (fun n=>some (Value.p n)) ?_;simp;try omega)),rfl,rfl,rfl,trivial⟩ ?_)
   generalize (H++[aB.rw [.s (wB k) (W.nw k) (cW k)]]++[aB.rw (r8 zro)])=Ha at bn J a3 af a5
   generalize H.length=p at bn J b5 bg
   clear hd1 hg hN hM H
   have a0:=bn
   apply aG
   refine mZ ?_
   clear a0 bn
   refine dS (ι:=Nat) (fun i=>[(2,.p σ.length),(3,.p (σ.length+1)),(4,.pointer none),(5,.p (σ.length+3)),(6,.p (σ.length+4)),(11,.p (p+1)),(47,.s bS W.ns cS),(48,.i (W.ns:Nat)),(49,.i (k:Nat)),(54,.s (wB k) (W.nw k) (cW k)),(55,.i (W.nw k:Nat)),(56,.i (i:Nat))])
    (fun i mk H=>i≤W.nw k∧Mks (σ.length+5) mk H∧NT σ H [.s bB W.nb cB,.s bS W.ns cS] [.i m.1,.i m.2] [.s bB W.nb cB,.s bS W.ns cS,.i m.1,.i m.2,dW j 1001 (k+1),.slice none 0 0] (W.front k)∧H[j]?=some (.gr (dD W.front 0 (k+1)) 258)∧H[p+1]?=some (.rw (r8 (wyF (W.front k) (W.own k) (W.aft k) (W.nk k) i zro)))) (fun i=>W.nw k - i) 0 tE ⟨bN _,af,a3,a5,J⟩ ?_
   clear J a5 af a3 Ha
   rintro i mk H ⟨hi,hM,hN,hg,J⟩
   have cj:=hW.nw k hkn
   by_cases Y:i<W.nw k
   ·have bq:(i:Int)<(W.nw k:Nat):=oO
    have hd1:aJ H (wB k) i 1=some [.s (kB k i) (W.nk k i) (cK k i)]:=(hA.take hN.pre).ways k hkn i Y
    refine mZ ?_
    have hf1:=KC (σ:=H++[aB.rw [.s (kB k i) (W.nk k i) (cK k i)]]) (v:=.s (kB k i) (W.nk k i) (cK k i))
    refine .mk ?_
    apply aG
    refine mZ ?_
    have b6:(H++[aB.rw [.s (kB k i) (W.nk k i) (cK k i)]]).length=H.length+1:=oS
    have P:=(hN.app [aB.rw [.s (kB k i) (W.nk k i) (cK k i)]]).app [aB.rw [.s (kB k i) (W.nk k i) (cK k i)]]
    have a6:=(hM.app [aB.rw [.s (kB k i) (W.nk k i) (cK k i)]]).app [aB.rw [.s (kB k i) (W.nk k i) (cK k i)]]
    have a8:(H++[aB.rw [.s (kB k i) (W.nk k i) (cK k i)]]++[aB.rw [.s (kB k i) (W.nk k i) (cK k i)]])[j]?=_:=aA (aA hg)
    have ae:(H++[aB.rw [.s (kB k i) (W.nk k i) (cK k i)]]++[aB.rw [.s (kB k i) (W.nk k i) (cK k i)]])[p+1]?=_:=aA (aA J)
    have aj:(H++[aB.rw [.s (kB k i) (W.nk k i) (cK k i)]]++[aB.rw [.s (kB k i) (W.nk k i) (cK k i)]])[H.length+1]?=some (.rw [.s (kB k i) (W.nk k i) (cK k i)]):=bJ oS
    have hp11:p+1<H.length:=aQ J
    have hjl2:=aQ hg
    refine dH [(2,.p σ.length),(3,.p (σ.length+1)),(4,.pointer none),(5,.p (σ.length+3)),(6,.p (σ.length+4)),(11,.p (p+1)),(47,.s bS W.ns cS),(48,.i (W.ns:Nat)),(49,.i (k:Nat)),(54,.s (wB k) (W.nw k) (cW k)),(55,.i (W.nw k:Nat)),(56,.i (i:Nat)),(61,.func (.func 258) #[] #[.p (H.length+1)])] (H++[aB.rw [.s (kB k i) (W.nk k i) (cK k i)]]++[aB.rw [.s (kB k i) (W.nk k i) (cK k i)]]) rfl ⟨rfl,rfl,rfl,rfl,rfl,rfl,rfl,rfl,rfl,rfl,rfl,rfl,by rw [← b6];rfl,trivial⟩ ?_
    generalize (H++[aB.rw [.s (kB k i) (W.nk k i) (cK k i)]]++[aB.rw [.s (kB k i) (W.nk k i) (cK k i)]])=Hc at P a6 a8 ae aj
    generalize H.length+1=b at aj
    clear b6 hf1 hd1 hM hN hg J
    refine kG (p:=[]) (q:=[.p b]) rfl fun L hL=>?_
    obtain ⟨A,e⟩:∃ A,A=Hc++[aB.dfr,L]:=⟨_,rfl⟩
    have da:A.length=Hc.length+2:=by rw [e];simp
    have ad:NT σ A [.s bB W.nb cB,.s bS W.ns cS] [.i m.1,.i m.2] [.s bB W.nb cB,.s bS W.ns cS,.i m.1,.i m.2,dW j 1001 (k+1),.slice none 0 0] (W.front k):=by rw [e];exact P.app _
    have ch:Mks (σ.length+5) mk A:=by rw [e];exact a6.app _
    have bz:A[j]?=some (.gr (dD W.front 0 (k+1)) 258):=by rw [e];exact aA a8
    have d:A[p+1]?=some (.rw (r8 (wyF (W.front k) (W.own k) (W.aft k) (W.nk k) i zro))):=by rw [e];exact aA ae
    have b8:A[b]?=some (.rw [.s (kB k i) (W.nk k i) (cK k i)]):=by rw [e];exact aA aj
    have c7:A[Hc.length]?=some .dfr:=by rw [e,bE (aD _)];simp
    have E:A[Hc.length+1]?=some L:=by rw [e,bE oO];simp
    have d8:∀ r:List Value,aB.rw r ≠ L:=fun r h=>by rw [hL] at h;cases h
    rw [← e]
    generalize u:wyF (W.front k) (W.own k) (W.aft k) (W.nk k) i zro=row0 at d
    have K:row0.length=1001:=by rw [← u];exact y9 jX fun x hx q hq=>Aw hW oO oO hq
    have a9:p+1 ≠ b:=fun h=>by rw [h,b8] at d;have:=aB.rw.inj (Option.some.inj d);have h2:=congrArg List.length this;rw [jd,K] at h2;simp at h2
    have a:p+1 ≠ Hc.length+1:=fun h=>by rw [h,E] at d;exact d8 _ (Option.some.inj d).symm
    have ar:=hW.k k hkn i Y
    refine Dc (S:=fun q=>A.set (p+1) (.rw (r8 (spF (W.front k) (W.own k i) (W.aft k i) q row0)))) (n:=W.nk k i) (c:=cK k i) (kf:=W.kf k i) (ik:=kB k i) (l:=Hc.length+1) (ib:=b) (set_self d) (fun q=>by simp) (fun q=>aV (aC b8 a9) rfl) (fun q x hx=>?_) (fun q hq=>⟨(ar q hq).1,(ar q hq).2.1⟩) (by have:=hW.nk k hkn i Y;omega) (fun q=>(aC E a).trans (congrArg some hL)) (fun h q=>jw (Wi _ _) h) ⟨rfl,rfl⟩ ?_ ?_
    ·exact fH (take_set ad.pre oO) (hA.kinks k hkn i Y x hx)
    ·intro q hq X QB au
     obtain ⟨row,hrow⟩:∃ row,row=spF (W.front k) (W.own k i) (W.aft k i) q row0:=⟨_,rfl⟩
     have M:row.length=1001:=by rw [hrow];exact xg K fun x hx=>Aw hW oO Y oO
     have cn:spF (W.front k) (W.own k i) (W.aft k i) (q+1) row0=if jK (W.own k i q).1 (W.own k i q).2 (W.front k) then tY (W.aft k i q).1 (W.aft k i q).2 row else row:=by rw [hrow];rfl
     have ag:=xH hW hkn Y hq
     have ai:=Aw hW hkn Y hq
     obtain ⟨HX,D⟩:∃ HX,HX=A.set (p+1) (.rw (r8 row))++X:=⟨_,rfl⟩
     have cg:NT σ HX [.s bB W.nb cB,.s bS W.ns cS] [.i m.1,.i m.2] [.s bB W.nb cB,.s bS W.ns cS,.i m.1,.i m.2,dW j 1001 (k+1),.slice none 0 0] (W.front k):=by rw [D];exact (ad.setX oO _).app X
     have bu:HX[p+1]?=some (.rw (r8 row)):=by rw [D];exact aA (aS d)
     have ay:HX[Hc.length+1]?=some L:=by rw [D];exact aA (aC E a)
     have hrd:lQ (some (Hc.length+1)) (A.length+X.length)=true:=(show Nat.blt _ _=true from Nat.blt_eq.mpr oO)
     have hle:A.length+X.length=HX.length:=by rw [D];simp
     rw [← hrow,← D]
     refine NY ?_
     refine xG (aA (aA ay)) hL fun B hB=>?_
     obtain ⟨HB,w⟩:∃ HB,HB=(HX++[aB.rw [.i (W.kf k i q).1,.i (wL (W.kf k i) (W.nk k i) q)]]++[aB.rw [.i (W.kf k i q).2.1,.i (W.kf k i q).2.2]]).set (Hc.length+1) B:=⟨_,rfl⟩
     have d7:=aQ ay
     have d0:NT σ HB [.s bB W.nb cB,.s bS W.ns cS] [.i m.1,.i m.2] [.s bB W.nb cB,.s bS W.ns cS,.i m.1,.i m.2,dW j 1001 (k+1),.slice none 0 0] (W.front k):=by rw [w];exact ((cg.app _).app _).setX (by have:=P.len;omega) _
     have bw:HB[p+1]?=some (.rw (r8 row)):=by rw [w];exact aC (aA (aA bu)) oO
     have a0:HB[HX.length]?=some (.rw [.i (W.kf k i q).1,.i (wL (W.kf k i) (W.nk k i) q)]):=by rw [w];exact aC (aA aO) oO
     have a1:HB[HX.length+1]?=some (.rw [.i (W.kf k i q).2.1,.i (W.kf k i q).2.2]):=by rw [w];exact aC (bJ oS) oO
     have hf1:=TK (σ:=HB) (i:=σ.length+4) (.inr (.inl d0.b4)) (by rw [kM hW k oO]) ag.1 ag.2.2 (by have:=ag.2.1;omega)
     refine dH [(6,.p (σ.length+4)),(11,.p (p+1)),(14,.p HX.length),(15,.p (HX.length+1))] HB (by rw [w];rfl) ⟨rfl,rfl,rfl,(by (refine congrArg (fun n=>some (Value.p n)) ?_;simp;try omega)),trivial⟩ ?_
     by_cases ak:jK (W.own k i q).1 (W.own k i q).2 (W.front k)=true
     ·have hf2:=Qd (σ:=HB) (i:=p+1) bw M ai.1 ai.2.2 (by have:=ai.2.1;omega)
      refine NY ?_
      have aa:HB.set (p+1) (.rw (r8 (tY (W.aft k i q).1 (W.aft k i q).2 row)))=(A.set (p+1) (.rw (r8 (spF (W.front k) (W.own k i) (W.aft k i) (q+1) row0)))).set (Hc.length+1) B++X++[aB.rw [.i (W.kf k i q).1,.i (wL (W.kf k i) (W.nk k i) q)],aB.rw [.i (W.kf k i q).2.1,.i (W.kf k i q).2.2]]:=by
       rw [cn,if_pos ak,w,D];exact FQ (aQ d) (aQ E) a
      rw [aa,hB];exact au _ _ _
     ·have d2:jK (W.own k i q).1 (W.own k i q).2 (W.front k)=false:=by simpa using ak
      refine NY ?_
      have aa:HB=(A.set (p+1) (.rw (r8 (spF (W.front k) (W.own k i) (W.aft k i) (q+1) row0)))).set (Hc.length+1) B++X++[aB.rw [.i (W.kf k i q).1,.i (wL (W.kf k i) (W.nk k i) q)],aB.rw [.i (W.kf k i q).2.1,.i (W.kf k i q).2.2]]:=by
       rw [cn,if_neg ak,w,D];exact KA (aQ E)
      rw [aa,hB];exact au _ _ _
    ·refine ⟨.ready,none,_,_,_,_,_,(aC E a).trans (congrArg some hL),by simp,?_⟩
     have df:=P.len
     have d6:=aQ a8
     have d5:=aQ ae
     show (dO 6 _) _ _ _ _
     refine mZ ?_
     refine ⟨i+1,⟨oO,?_,(ad.setX oO _).setX oO _,aC (aC bz oO) oO,?_⟩,oO,tE⟩
     ·refine Mks.cons ((ch.set d oS).set (aC E a) (by rw [hL];simp)) (a6.new (aD _)) oO (aC (aC c7 oO) oO)
     ·refine aC ?_ oO
      rw [aS d,← u];rfl
   ·obtain rfl:i=W.nw k:=oO
    have bq:¬ ((W.nw k:Nat):Int)<(W.nw k:Nat):=oO
    refine mZ ?_
    have d3:wyF (W.front k) (W.own k) (W.aft k) (W.nk k) (W.nw k) zro=W.front (k+1):=rfl
    rw [d3] at J
    have ax:=kM hW (k+1) oO
    have C:(r8 (W.front (k+1))).length=1001:=by rw [jd,ax]
    have hone:=FX (W.front (k+1))
    have hd1:aJ H (p+1) 0 1001=some (r8 (W.front (k+1))):=aV J C
    have U:putCells H (σ.length+4) 0 (r8 (W.front (k+1)))=some (H.set (σ.length+4) (.rw (r8 (W.front (k+1))))):=fM hN.b4 (by rw [C,jd,O];omega) (by rw [jd,O];omega) (by simp [splice,jd,O,ax])
    refine .mk ?_
    apply aG
    refine mZ ?_
    refine stN (bU (size:=1001) rfl rfl (by exact C) (by exact hone) (by exact U)) rfl ?_
    refine kP ?_
    refine tC ?_
    have cr:=hN.setR (W.front (k+1))
    have bt:=aC (x:=.rw (r8 (W.front (k+1)))) hg (show σ.length+4 ≠ j by omega)
    have cp:=hM.set (x:=.rw (r8 (W.front (k+1)))) hN.b4 oS
    refine dH [(2,.p σ.length),(3,.p (σ.length+1)),(4,.pointer none),(5,.p (σ.length+3)),(6,.p (σ.length+4)),(47,.s bS W.ns cS),(48,.i (W.ns:Nat)),(49,.i (k:Nat))] (H.set (σ.length+4) (.rw (r8 (W.front (k+1))))) rfl tE ?_
    generalize (H.set (σ.length+4) (.rw (r8 (W.front (k+1)))))=H3 at cr bt cp
    clear U hd1 J hg hN hM bq Y hi H
    have hN:=cr
    have bg:=hN.len
    have b5:=aQ bt
    have hcl:∀ {q o:Nat},q < σ.length+5→closed H3.length (.pointer (some ⟨q,o,none⟩))=true:=fun {q o} h=>(show Nat.blt q H3.length=true from Nat.blt_eq.mpr oO)
    have hcs:closed H3.length (dW j 1001 (k+1))=true:=kJ (Nat.blt_eq.mpr b5)
    have hrow:∀ X,aJ (H3++X) (σ.length+4) 0 1001=some (r8 (W.front (k+1))):=fun X=>aV (hN.app X).b4 C
    have M:=C
    have hrc:dP H3.length (r8 (W.front (k+1)))=true:=(aW (nR _)).1
    have hro:okL (r8 (W.front (k+1)))=true:=(aW (n:=0) (nR _)).2
    have N:aJ (H3++[aB.rw (r8 (W.front (k+1)))]) (H3++([]:Heap)).length 0 1001=some (r8 (W.front (k+1))):=by rw [bL];exact dU M
    have hgX:(H3++[aB.rw (r8 (W.front (k+1)))])[j]?=some (.gr (dD W.front 0 (k+1)) 258):=aA bt
    have hgl:(dD W.front 0 (k+1)).length=(k+1)*1001:=qL fun x _ hx=>kM hW x oO
    have bo:(H3++[aB.rw (r8 (W.front (k+1)))]).length=H3.length+1:=oS
    have hput:∀ v x,putCells ((H3++[aB.rw (r8 (W.front (k+1)))]).set j .dead++x) (σ.length+2) (0+4) [v]=some (((H3++[aB.rw (r8 (W.front (k+1)))]).set j .dead++x).set (σ.length+2) (.rw [.s bB W.nb cB,.s bS W.ns cS,.i m.1,.i m.2,v,.slice none 0 0])):=fun v x=>fM (((hN.app _).setX hj _).app _).b2 oS oS rfl
    repeat' (first|refine sCm ?_|(refine gU ?_;first|refine st (iQ oR oR rfl (by exact hgX) (by exact hgl) rfl (by exact N) oO (by exact hone) oO oD) rfl rfl ?_|(refine bV ?_;refine st (aK rfl (by exact aF (((hN.app _).setX hj _).app _).b3)) rfl rfl ?_)|(refine gV ?_;refine stN (bU rfl rfl rfl rfl (by exact hput _ _)) rfl ?_))|(refine fU ?_;first|refine frA (aK rfl (aF (hN.app _).b3)) rfl ?_ (hcl oO)|refine frA (aK rfl (aF (hN.app _).b2)) rfl ?_ hcs|refine frA (jT rfl) rfl ?_ (hcl oO)|refine frA (aZ rfl) rfl ?_ (hcl oO)|refine frA (bD rfl (hrow _)) rfl ?_ hrc|refine frN (sF oR oR oR oR rfl M) uV hrc hro rfl ?_)|(refine fP ⟨oK,?_⟩)|refine dB (id:=24) ?_|refine Late.Bh 0 70 (id:=23) oK rfl ?_|refine Late.split ?_ rfl rfl rfl rfl ?_)
    all_goals refine .mk (dH [(2,.p σ.length),(3,.p (σ.length+1)),(4,.pointer none),(5,.p (σ.length+3)),(6,.p (σ.length+4)),(47,.s bS W.ns cS),(48,.i (W.ns:Nat)),(49,.i (k:Nat))] (((H3++[aB.rw (r8 (W.front (k+1)))]).set j .dead++[aB.gr (dD W.front 0 (k+1)++r8 (W.front (k+1))) 258]).set (σ.length+2) (.rw [.s bB W.nb cB,.s bS W.ns cS,.i m.1,.i m.2,dW (H3.length+1) 1001 (k+1+1),.slice none 0 0])) (by rw [← bo];rfl) tE ?tail2)
    apply aG
    refine mZ ?_
    refine ⟨k+1,⟨oO,?_,H3.length+1,oO,(((hN.app _).setX hj _).app _).setT _,?_⟩,oO,tE⟩
    ·exact (((cp.app _).set hgX oS).app _).set (((hN.app _).setX hj _).app _).b2 oS
    ·refine aC ?_ oO
     rw [Wj (k+1)]
     refine bJ ?_
     simp
  ·obtain rfl:k=W.ns:=oO
   have ba:¬ ((W.ns:Nat):Int)<(W.ns:Nat):=oO
   have bg:=hN.len
   have b5:=aQ hg
   have hcl:∀ {q o:Nat},q < σ.length+5→closed H.length (.pointer (some ⟨q,o,none⟩))=true:=fun {q o} h=>(show Nat.blt q H.length=true from Nat.blt_eq.mpr oO)
   have hcb:closed H.length (.s bS W.ns cS)=true:=bP (Nat.blt_eq.mpr oO)
   have Q:∀ v x y,putCells (H++x++y) (σ.length+2) (0+5) [v]=some ((H++x++y).set (σ.length+2) (.rw [.s bB W.nb cB,.s bS W.ns cS,.i m.1,.i m.2,dW j 1001 (W.ns+1),v])):=fun v x y=>fM ((hN.app _).app _).b2 oS oS rfl
   have c6:(W.ns:Int)+1=((W.ns+1:Nat):Int):=oO
   repeat' (first|refine sCm ?_|(refine gU ?_;first|(refine bV ?_;refine st (aK rfl (by exact aF ((hN.app _).app _).b3)) rfl rfl ?_)|refine sK0 ?_|(refine aaP ?_;refine st (zY oR oR rfl rfl oO oO oO) rfl rfl ?_)|(refine gV ?_;refine stN (bU rfl rfl rfl rfl (by exact Q _ _ _)) rfl ?_))|(refine fU ?_;first|refine frA (aK rfl (aF (hN.app _).b3)) rfl ?_ (hcl oO)|refine frA (aK rfl (aF (hN.app _).b0)) rfl ?_ hcb|refine frA (aZ rfl) rfl ?_ (hcl oO)|(refine fAdd ?_;refine frA (qP rfl rfl oO) rfl ?_)|(refine Ro ?_;refine frA (lJ rfl) rfl ?_))|(refine fP ⟨oK,?_⟩)|refine dB (id:=26) ?_|refine aG ?_|refine Late.Bh 0 81 (id:=25) oK rfl ?_|refine Late.split ?_ rfl rfl rfl rfl ?_|refine eu rfl ?_)
   all_goals refine .mk (dH [(2,.p σ.length),(3,.p (σ.length+1)),(4,.pointer none),(5,.p (σ.length+3)),(6,.p (σ.length+4)),(47,.s bS W.ns cS),(48,.i (W.ns:Nat))] ((H++[aB.rw (dD (fun _=>zro) 0 (W.ns+1))]).set (σ.length+2) (.rw [.s bB W.nb cB,.s bS W.ns cS,.i m.1,.i m.2,dW j 1001 (W.ns+1),.s H.length (W.ns+1) (W.ns+1)])) (by rw [← ae0,show H++gJ (fun _=>true) []=H from bL H];rfl) tE ?tail3)
   have an:=(hN.app [aB.rw (dD (fun _=>zro) 0 (W.ns+1))]).setT [.s bB W.nb cB,.s bS W.ns cS,.i m.1,.i m.2,dW j 1001 (W.ns+1),.s H.length (W.ns+1) (W.ns+1)]
   have ce:((H++[aB.rw (dD (fun _=>zro) 0 (W.ns+1))]).set (σ.length+2) (.rw [.s bB W.nb cB,.s bS W.ns cS,.i m.1,.i m.2,dW j 1001 (W.ns+1),.s H.length (W.ns+1) (W.ns+1)]))[j]?=_:=aC (aA hg) oO
   have bp:((H++[aB.rw (dD (fun _=>zro) 0 (W.ns+1))]).set (σ.length+2) (.rw [.s bB W.nb cB,.s bS W.ns cS,.i m.1,.i m.2,dW j 1001 (W.ns+1),.s H.length (W.ns+1) (W.ns+1)]))[H.length]?=some (.rw (dD (fun _=>zro) 0 (W.ns+1))):=aC aO oO
   have c0:Mks (σ.length+5) mk ((H++[aB.rw (dD (fun _=>zro) 0 (W.ns+1))]).set (σ.length+2) (.rw [.s bB W.nb cB,.s bS W.ns cS,.i m.1,.i m.2,dW j 1001 (W.ns+1),.s H.length (W.ns+1) (W.ns+1)])):=(hM.app _).set (hN.app _).b2 oS
   generalize ((H++[aB.rw (dD (fun _=>zro) 0 (W.ns+1))]).set (σ.length+2) (.rw [.s bB W.nb cB,.s bS W.ns cS,.i m.1,.i m.2,dW j 1001 (W.ns+1),.s H.length (W.ns+1) (W.ns+1)]))=H5 at an ce bp c0
   generalize H.length=r at an bp bg b5
   clear Q hcb hcl hN hg hM ba hkn hk c6 H
   have cf:=kM hW W.ns (aD _)
   have T:putCells H5 (σ.length+4) 0 (iG (dR (.int .i8 0)) 1001)=some (H5.set (σ.length+4) (.rw (r8 zro))):=by
    rw [Wp _ rfl,← FV]
    exact fM an.b4 (by rw [jd,jd,cf,jX];omega) (by rw [jd,cf];omega) (by simp [splice,jd,cf,jX])
   apply aG
   refine mZ ?_
   refine stN (DL oR oR rfl oO (by rw [Wp _ rfl];exact aeZ _ _ rfl) (by exact T)) rfl ?_
   refine kP ?_
   refine tC ?_
   have ah:=an.setR zro
   have ci:=aC (x:=.rw (r8 zro)) ce (show σ.length+4 ≠ j by omega)
   have bx:=aC (x:=.rw (r8 zro)) bp (show σ.length+4 ≠ r by omega)
   have cb:=c0.set (x:=.rw (r8 zro)) an.b4 oS
   refine dH [(2,.p σ.length),(3,.p (σ.length+1)),(4,.pointer none),(5,.p (σ.length+3)),(6,.p (σ.length+4)),(47,.s bS W.ns cS),(48,.i (W.ns:Nat))] (H5.set (σ.length+4) (.rw (r8 zro))) rfl tE ?_
   generalize (H5.set (σ.length+4) (.rw (r8 zro)))=H6 at ah ci bx cb
   clear T an ce bp c0 H5
   have hd1:aJ H6 (σ.length+1) (0+0) 2=some [.i m.1,.i m.2]:=aV ah.b1 rfl
   have a1:=ah.b1
   have hf1:=Qd (σ:=H6) ah.b4 jX hm.1 hm.2.2 (by have:=hm.2.1;omega)
   obtain ⟨H7,ao⟩:∃ H7,H7=H6.set (σ.length+4) (.rw (r8 (tY m.1 m.2 zro))):=⟨_,rfl⟩
   obtain ⟨G,ac⟩:∃ G,G=tY m.1 m.2 zro:=⟨_,rfl⟩
   have hN:NT σ H7 [.s bB W.nb cB,.s bS W.ns cS] [.i m.1,.i m.2] [.s bB W.nb cB,.s bS W.ns cS,.i m.1,.i m.2,dW j 1001 (W.ns+1),.s r (W.ns+1) (W.ns+1)] G:=by rw [ao,← ac];exact ah.setR _
   have cm:H7[j]?=some (.gr (dD W.front 0 (W.ns+1)) 258):=by rw [ao];exact aC ci (show σ.length+4 ≠ j by omega)
   have bb:H7[r]?=some (.rw (dD (fun _=>zro) 0 (W.ns+1))):=by rw [ao];exact aC bx (show σ.length+4 ≠ r by omega)
   have cq:Mks (σ.length+5) mk H7:=by rw [ao];exact cb.set ah.b4 oS
   rw [← ao] at hf1
   have a7:G.length=1001:=by rw [ac];exact FU hW hm 0 (bN _)
   have aq:=aQ bb
   have hcl:∀ {q o:Nat},q < σ.length+5→closed H7.length (.pointer (some ⟨q,o,none⟩))=true:=fun {q o} h=>(show Nat.blt q H7.length=true from Nat.blt_eq.mpr oO)
   have hcs:closed H7.length (.s r (W.ns+1) (W.ns+1))=true:=bP (Nat.blt_eq.mpr aq)
   have hcb:closed H7.length (.s bS W.ns cS)=true:=bP (Nat.blt_eq.mpr oO)
   have hrow:∀ X,aJ (H7++X) (σ.length+4) 0 1001=some (r8 G):=fun X=>aV (hN.app X).b4 (by rw [jd,a7])
   have hrc:dP H7.length (r8 G)=true:=(aW (nR _)).1
   have C:(r8 G).length=1001:=by rw [jd,a7]
   have hone:=FX G
   have V:putCells (H7++([]:Heap)) r (0+W.ns*1001) (r8 G)=some ((H7++([]:Heap)).set r (.rw (dD (W.qc m 0) 0 (W.ns+1)))):=ZN (aA bb) (fun _ _=>jX) (Nat.lt_succ_self _) a7 fun x hx=>by
    unfold Wk.qc
    split
    ·rename_i h;rw [if_pos oO,ac,show x=W.ns by omega];unfold Wk.jS;rw [cY];rfl
    ·rename_i h;rw [if_neg oO]
   refine mZ ?_
   refine .mk ?_
   apply aG
   refine mZ ?_
   refine stN (bU (size:=1001) rfl rfl (by exact C) (by exact hone) (by exact V)) rfl ?_
   refine kP ?_
   refine tC ?_
   rw [bL]
   have bc:=hN.setX (i:=r) oO (.rw (dD (W.qc m 0) 0 (W.ns+1)))
   have c2:=aC (x:=.rw (dD (W.qc m 0) 0 (W.ns+1))) cm (show r ≠ j by omega)
   have bd:=aS (x:=.rw (dD (W.qc m 0) 0 (W.ns+1))) bb
   have c8:=cq.set (x:=.rw (dD (W.qc m 0) 0 (W.ns+1))) bb oS
   refine dH [(2,.p σ.length),(3,.p (σ.length+1)),(4,.pointer none),(5,.p (σ.length+3)),(6,.p (σ.length+4))] (H7.set r (.rw (dD (W.qc m 0) 0 (W.ns+1)))) rfl tE ?_
   generalize (H7.set r (.rw (dD (W.qc m 0) 0 (W.ns+1))))=H8 at bc c2 bd c8
   clear V hone C hrc hrow hcb hcs hcl aq hf1 ao hN cm bb cq ah ci bx cb a1 hd1 H6 H7
   have hN:=bc
   have aw:((W.ns:Nat):Int) - 1=((W.ns - 0:Nat):Int) - 1:=oO
   refine mZ ?_
   refine .mk ?_
   apply aG
   refine mZ ?_
   have cl:(H8++[aB.rw [.i (((W.ns - 0:Nat):Int) - 1)]])[H8.length]?=some (.rw [.i (((W.ns - 0:Nat):Int) - 1)]):=aO
   have av:=aQ bd
   refine dH [(2,.p σ.length),(3,.p (σ.length+1)),(4,.pointer none),(5,.p (σ.length+3)),(6,.p (σ.length+4)),(16,.p H8.length)] (H8++[aB.rw [.i (((W.ns - 0:Nat):Int) - 1)]]) (by rw [← aw];rfl) tE ?_
   refine dS (ι:=Nat×Nat) (fun k=>[(2,.p σ.length),(3,.p (σ.length+1)),(4,.pointer none),(5,.p (σ.length+3)),(6,.p (σ.length+4)),(16,.p k.2)])
    (fun k mk H=>k.1≤W.ns∧Mks (σ.length+5) mk H∧NT σ H [.s bB W.nb cB,.s bS W.ns cS] [.i m.1,.i m.2] [.s bB W.nb cB,.s bS W.ns cS,.i m.1,.i m.2,dW j 1001 (W.ns+1),.s r (W.ns+1) (W.ns+1)] G∧H[j]?=some (.gr (dD W.front 0 (W.ns+1)) 258)∧H[r]?=some (.rw (dD (W.qc m k.1) 0 (W.ns+1)))∧H[k.2]?=some (.rw [.i (((W.ns - k.1:Nat):Int) - 1)])∧r<k.2) (fun k=>W.ns - k.1) (0,H8.length) tE ⟨bN _,c8.app _,bc.app _,aA c2,aA bd,cl,av⟩ ?_
   clear cl av hN bc c2 bd c8 aw H8 mk
   rintro ⟨k,q⟩ mk H ⟨hk,hM,hN,hg,hr,hq,db⟩
   dsimp only at hk hr hq db
   dsimp only
   have a2:=hq
   by_cases hkn:k<W.ns
   ·obtain ⟨i,hi⟩:∃ i:Nat,i=W.ns - k - 1:=⟨_,rfl⟩
    have dc:((W.ns - k:Nat):Int) - 1=(i:Nat):=oO
    rw [dc] at hq a2
    have bq:(i:Int)≥0:=oO
    have am:=aQ hr
    have ck:=aQ hq
    have hcl:∀ {q o:Nat},q < σ.length+5→closed H.length (.pointer (some ⟨q,o,none⟩))=true:=fun {q o} h=>(show Nat.blt q H.length=true from Nat.blt_eq.mpr oO)
    have hcs:closed H.length (.s r (W.ns+1) (W.ns+1))=true:=bP (Nat.blt_eq.mpr am)
    have hclr:∀ o:Nat,closed H.length (.pointer (some ⟨r,o,none⟩))=true:=fun o=>(show Nat.blt r H.length=true from Nat.blt_eq.mpr am)
    have hqX:∀ X,aH (H++X) q (0+0)=some (.i (i:Nat)):=fun X=>aF (aA hq)
    have hputL:∀ v,putCells (H++[aB.rw [.pointer none]]) (H++([]:Heap)).length 0 [v]=some (H++[aB.rw [v]]):=fun v=>by rw [bL];exact iW (aD _) (cU _)
    have I:i<W.ns:=oO
    refine mZ ?_
    have a3:=hN.app [aB.rw [.pointer (some ⟨r,0+(i+1)*1001,none⟩)]]
    have af:=hM.app [aB.rw [.pointer (some ⟨r,0+(i+1)*1001,none⟩)]]
    have a5:(H++[aB.rw [.pointer (some ⟨r,0+(i+1)*1001,none⟩)]])[j]?=some (.gr (dD W.front 0 (W.ns+1)) 258):=aA hg
    have bs:(H++[aB.rw [.pointer (some ⟨r,0+(i+1)*1001,none⟩)]])[r]?=some (.rw (dD (W.qc m k) 0 (W.ns+1))):=aA hr
    have bh:(H++[aB.rw [.pointer (some ⟨r,0+(i+1)*1001,none⟩)]])[q]?=some (.rw [.i (i:Nat)]):=aA hq
    have R:(H++[aB.rw [.pointer (some ⟨r,0+(i+1)*1001,none⟩)]])[H.length]?=some (.rw [.pointer (some ⟨r,0+(i+1)*1001,none⟩)]):=aO
    refine .mk (dH [(2,.p σ.length),(3,.p (σ.length+1)),(4,.pointer none),(5,.p (σ.length+3)),(6,.p (σ.length+4)),(16,.p q),(17,.p H.length)] (H++[aB.rw [.pointer (some ⟨r,0+(i+1)*1001,none⟩)]]) rfl ⟨rfl,rfl,rfl,rfl,rfl,rfl,by rw [show H++gJ (bT #[]) []=H from bL H];rfl,trivial⟩ ?_)
    generalize (H++[aB.rw [.pointer (some ⟨r,0+(i+1)*1001,none⟩)]])=Ha at a3 af a5 bs bh R
    generalize H.length=p at R am ck
    clear hputL hqX hclr hcs hcl a2 hq hr hg hN hM H
    have hN:=a3
    have hw:=fQ (k:=0) ((hA.take hN.pre).steps i I) oO
    have a2:=bh
    have d1:=aQ R
    apply aG
    refine mZ ?_
    clear hw hN a2
    refine dS (ι:=Nat) (fun x=>[(2,.p σ.length),(3,.p (σ.length+1)),(4,.pointer none),(5,.p (σ.length+3)),(6,.p (σ.length+4)),(16,.p q),(17,.p p),(121,.s (wB i) (W.nw i) (cW i)),(122,.i (W.nw i:Nat)),(123,.i (x:Nat))])
     (fun x mk H=>x≤W.nw i∧Mks (σ.length+5) mk H∧NT σ H [.s bB W.nb cB,.s bS W.ns cS] [.i m.1,.i m.2] [.s bB W.nb cB,.s bS W.ns cS,.i m.1,.i m.2,dW j 1001 (W.ns+1),.s r (W.ns+1) (W.ns+1)] G∧H[j]?=some (.gr (dD W.front 0 (W.ns+1)) 258)∧H[r]?=some (.rw (dD (fun t=>if t=i then wyF (W.jS m (i+1)) (W.aft i) (W.own i) (W.nk i) x zro else W.qc m k t) 0 (W.ns+1)))∧H[q]?=some (.rw [.i (i:Nat)])∧H[p]?=some (.rw [.pointer (some ⟨r,0+(i+1)*1001,none⟩)])) (fun x=>W.nw i - x) 0 tE ⟨bN _,af,a3,a5,?_,bh,R⟩ ?_
    ·rw [bs,qM]
     intro t _ _
     split
     ·rename_i h;unfold Wk.qc;rw [if_neg oO];rfl
     ·rfl
    clear R bh bs a5 af a3 d1 Ha mk
    rintro x mk H ⟨hx,hM,hN,hg,hr,hq,R⟩
    have cj:=hW.nw i I
    by_cases Z:x<W.nw i
    ·have cy:(x:Int)<(W.nw i:Nat):=oO
     have hd1:aJ H (wB i) x 1=some [.s (kB i x) (W.nk i x) (cK i x)]:=(hA.take hN.pre).ways i I x Z
     refine mZ ?_
     have hf1:=KC (σ:=H++[aB.rw [.s (kB i x) (W.nk i x) (cK i x)]]) (v:=.s (kB i x) (W.nk i x) (cK i x))
     refine .mk ?_
     apply aG
     refine mZ ?_
     have b6:(H++[aB.rw [.s (kB i x) (W.nk i x) (cK i x)]]).length=H.length+1:=oS
     have P:=(hN.app [aB.rw [.s (kB i x) (W.nk i x) (cK i x)]]).app [aB.rw [.s (kB i x) (W.nk i x) (cK i x)]]
     have a6:=(hM.app [aB.rw [.s (kB i x) (W.nk i x) (cK i x)]]).app [aB.rw [.s (kB i x) (W.nk i x) (cK i x)]]
     have a8:(H++[aB.rw [.s (kB i x) (W.nk i x) (cK i x)]]++[aB.rw [.s (kB i x) (W.nk i x) (cK i x)]])[j]?=_:=aA (aA hg)
     have hrc:(H++[aB.rw [.s (kB i x) (W.nk i x) (cK i x)]]++[aB.rw [.s (kB i x) (W.nk i x) (cK i x)]])[r]?=_:=aA (aA hr)
     have be:(H++[aB.rw [.s (kB i x) (W.nk i x) (cK i x)]]++[aB.rw [.s (kB i x) (W.nk i x) (cK i x)]])[q]?=_:=aA (aA hq)
     have bj:(H++[aB.rw [.s (kB i x) (W.nk i x) (cK i x)]]++[aB.rw [.s (kB i x) (W.nk i x) (cK i x)]])[p]?=_:=aA (aA R)
     have aj:(H++[aB.rw [.s (kB i x) (W.nk i x) (cK i x)]]++[aB.rw [.s (kB i x) (W.nk i x) (cK i x)]])[H.length+1]?=some (.rw [.s (kB i x) (W.nk i x) (cK i x)]):=bJ oS
     refine dH [(2,.p σ.length),(3,.p (σ.length+1)),(4,.pointer none),(5,.p (σ.length+3)),(6,.p (σ.length+4)),(16,.p q),(17,.p p),(121,.s (wB i) (W.nw i) (cW i)),(122,.i (W.nw i:Nat)),(123,.i (x:Nat)),(128,.func (.func 258) #[] #[.p (H.length+1)])] (H++[aB.rw [.s (kB i x) (W.nk i x) (cK i x)]]++[aB.rw [.s (kB i x) (W.nk i x) (cK i x)]]) rfl ⟨rfl,rfl,rfl,rfl,rfl,rfl,rfl,rfl,rfl,rfl,by rw [← b6];rfl,trivial⟩ ?_
     generalize (H++[aB.rw [.s (kB i x) (W.nk i x) (cK i x)]]++[aB.rw [.s (kB i x) (W.nk i x) (cK i x)]])=Hc at P a6 a8 hrc be bj aj
     generalize H.length+1=b at aj
     clear b6 hf1 hd1 hM hN hg hr hq R H
     refine kG (p:=[]) (q:=[.p b]) rfl fun L hL=>?_
     obtain ⟨A,e⟩:∃ A,A=Hc++[aB.dfr,L]:=⟨_,rfl⟩
     have da:A.length=Hc.length+2:=by rw [e];simp
     have ad:NT σ A [.s bB W.nb cB,.s bS W.ns cS] [.i m.1,.i m.2] [.s bB W.nb cB,.s bS W.ns cS,.i m.1,.i m.2,dW j 1001 (W.ns+1),.s r (W.ns+1) (W.ns+1)] G:=by rw [e];exact P.app _
     have ch:Mks (σ.length+5) mk A:=by rw [e];exact a6.app _
     have bz:A[j]?=some (.gr (dD W.front 0 (W.ns+1)) 258):=by rw [e];exact aA a8
     have co:A[q]?=some (.rw [.i (i:Nat)]):=by rw [e];exact aA be
     have cx:A[p]?=some (.rw [.pointer (some ⟨r,0+(i+1)*1001,none⟩)]):=by rw [e];exact aA bj
     have b8:A[b]?=some (.rw [.s (kB i x) (W.nk i x) (cK i x)]):=by rw [e];exact aA aj
     have c7:A[Hc.length]?=some .dfr:=by rw [e,bE (aD _)];simp
     have E:A[Hc.length+1]?=some L:=by rw [e,bE oO];simp
     rw [← e]
     obtain ⟨row0,u⟩:∃ row0,row0=wyF (W.jS m (i+1)) (W.aft i) (W.own i) (W.nk i) x zro:=⟨_,rfl⟩
     have K:row0.length=1001:=by rw [u];exact y9 jX fun y hy q hq=>xH hW I oO hq
     obtain ⟨F,hF⟩:∃ F:Nat→Nat→List Int,F=fun y t=>if t=i then spF (W.jS m (i+1)) (W.aft i x) (W.own i x) y row0 else W.qc m k t:=⟨_,rfl⟩
     have bv:∀ y≤W.nk i x,∀ t,(F y t).length=1001:=fun y hy t=>by
      rw [hF];dsimp only;split
      ·exact xg K fun z hz=>xH hW I Z oO
      ·exact ZO hW hm _ _
     have a4:A[r]?=some (.rw (dD (F 0) 0 (W.ns+1))):=by rw [e,hF];dsimp only;simp only [spF];rw [u];exact aA hrc
     have de:∀ y≤W.nk i x,(dD (F y) 0 (W.ns+1)).length=(W.ns+1)*1001:=fun y hy=>qL fun t _ _=>bv y hy t
     have a9:r ≠ b:=fun h=>by rw [h,b8] at a4;have:=aB.rw.inj (Option.some.inj a4);have h2:=congrArg List.length this;rw [de 0 (bN _)] at h2;simp at h2;omega
     have a:r ≠ Hc.length+1:=by have:=aQ hrc;omega
     have az:r ≠ q:=oO
     have b9:r ≠ p:=oO
     have hne5:r ≠ j:=oO
     have ar:=hW.k i I x Z
     refine Dc (S:=fun y=>A.set r (.rw (dD (F y) 0 (W.ns+1)))) (n:=W.nk i x) (c:=cK i x) (kf:=W.kf i x) (ik:=kB i x) (l:=Hc.length+1) (ib:=b) (set_self a4) (fun q=>by simp) (fun q=>aV (aC b8 a9) rfl) (fun q y hy=>?_) (fun q hq=>⟨(ar q hq).1,(ar q hq).2.1⟩) (by have:=hW.nk i I x Z;omega) (fun q=>(aC E a).trans (congrArg some hL)) (fun h q=>jw (Qe _ _ _ _) h) ⟨rfl,rfl⟩ ?_ ?_
     ·exact fH (take_set ad.pre oO) (hA.kinks i I x Z y hy)
     ·intro y hy X QB au
      obtain ⟨row,hrow⟩:∃ row,row=spF (W.jS m (i+1)) (W.aft i x) (W.own i x) y row0:=⟨_,rfl⟩
      have M:row.length=1001:=by rw [hrow];exact xg K fun z hz=>xH hW I Z oO
      have ag:=xH hW I Z hy
      have ai:=Aw hW I Z hy
      obtain ⟨HX,D⟩:∃ HX,HX=A.set r (.rw (dD (F y) 0 (W.ns+1)))++X:=⟨_,rfl⟩
      have cg:NT σ HX [.s bB W.nb cB,.s bS W.ns cS] [.i m.1,.i m.2] [.s bB W.nb cB,.s bS W.ns cS,.i m.1,.i m.2,dW j 1001 (W.ns+1),.s r (W.ns+1) (W.ns+1)] G:=by rw [D];exact (ad.setX oO _).app X
      have dd:HX[r]?=some (.rw (dD (F y) 0 (W.ns+1))):=by rw [D];exact aA (aS a4)
      have c5:HX[q]?=some (.rw [.i (i:Nat)]):=by rw [D];exact aA (aC co az)
      have c1:HX[p]?=some (.rw [.pointer (some ⟨r,0+(i+1)*1001,none⟩)]):=by rw [D];exact aA (aC cx b9)
      have ay:HX[Hc.length+1]?=some L:=by rw [D];exact aA (aC E a)
      have hrd:lQ (some (Hc.length+1)) (A.length+X.length)=true:=(show Nat.blt _ _=true from Nat.blt_eq.mpr oO)
      rw [← D]
      refine NY ?_
      refine xG (aA (aA ay)) hL fun B hB=>?_
      obtain ⟨HB,w⟩:∃ HB,HB=(HX++[aB.rw [.i (W.kf i x y).1,.i (wL (W.kf i x) (W.nk i x) y)]]++[aB.rw [.i (W.kf i x y).2.1,.i (W.kf i x y).2.2]]).set (Hc.length+1) B:=⟨_,rfl⟩
      have d7:=aQ ay
      have hqc1:=aQ be
      have hpc1:=aQ bj
      have hN:NT σ HB [.s bB W.nb cB,.s bS W.ns cS] [.i m.1,.i m.2] [.s bB W.nb cB,.s bS W.ns cS,.i m.1,.i m.2,dW j 1001 (W.ns+1),.s r (W.ns+1) (W.ns+1)] G:=by rw [w];exact ((cg.app _).app _).setX (by have:=P.len;omega) _
      have cc:HB[r]?=some (.rw (dD (F y) 0 (W.ns+1))):=by rw [w];exact aC (aA (aA dd)) oO
      have cw:HB[q]?=some (.rw [.i (i:Nat)]):=by rw [w];exact aC (aA (aA c5)) oO
      have a2:HB[p]?=some (.rw [.pointer (some ⟨r,0+(i+1)*1001,none⟩)]):=by rw [w];exact aC (aA (aA c1)) oO
      have a0:HB[HX.length]?=some (.rw [.i (W.kf i x y).1,.i (wL (W.kf i x) (W.nk i x) y)]):=by rw [w];exact aC (aA aO) oO
      have a1:HB[HX.length+1]?=some (.rw [.i (W.kf i x y).2.1,.i (W.kf i x y).2.2]):=by rw [w];exact aC (bJ oS) oO
      have dg:F y (i+1)=W.jS m (i+1):=by rw [hF];dsimp only;rw [if_neg oO];unfold Wk.qc;rw [if_pos oO]
      have cv:=lG (i:=i+1) (.inl cc) (fun t _=>bv y oO t) oO
      rw [dg] at cv
      have hf1:=yx cv (lH hW hm _) ai.1 ai.2.2 (by have:=ai.2.1;omega)
      refine dH [(5,.p (σ.length+3)),(16,.p q),(17,.p p),(20,.p HX.length),(21,.p (HX.length+1))] HB (by rw [w];rfl) ⟨rfl,rfl,rfl,rfl,(by (refine congrArg (fun n=>some (Value.p n)) ?_;simp;try omega)),trivial⟩ ?_
      by_cases ak:jK (W.aft i x y).1 (W.aft i x y).2 (W.jS m (i+1))=true
      ·have am:=aQ cc
       have ck:=aQ cw
       have hcl:∀ {q o:Nat},q < σ.length+5→closed HB.length (.pointer (some ⟨q,o,none⟩))=true:=fun {q o} h=>(show Nat.blt q HB.length=true from Nat.blt_eq.mpr (by have:=hN.len;omega))
       have hcs:closed HB.length (.s r (W.ns+1) (W.ns+1))=true:=bP (Nat.blt_eq.mpr am)
       have hclr:∀ o:Nat,closed HB.length (.pointer (some ⟨r,o,none⟩))=true:=fun o=>(show Nat.blt r HB.length=true from Nat.blt_eq.mpr am)
       have hqX:∀ X,aH (HB++X) q (0+0)=some (.i (i:Nat)):=fun X=>aF (aA cw)
       have h20X:∀ X,aJ (HB++X) HX.length 0 2=some [.i (W.kf i x y).1,.i (wL (W.kf i x) (W.nk i x) y)]:=fun X=>aV (aA a0) rfl
       have c3:F y i=row:=by rw [hF,hrow];dsimp only;rw [if_pos rfl]
       have d4:=FW (f:=F y) (g:=F y) (n:=W.ns+1) (i:=i) (row:=row) oO fun t _=>by
                                                             split;· rename_i h;rw [h,c3]
                                                             ·rfl
       have ca:=FW (f:=F y) (g:=F (y+1)) (n:=W.ns+1) (i:=i) (row:=tY (W.own i x y).1 (W.own i x y).2 row) oO fun t _=>by
        rw [hF];dsimp only;split
        ·simp only [spF];rw [if_pos ak,← hrow]
        ·rfl
       have c9:(dD (F y) 0 i).length=0+i*1001:=by rw [qL fun t _ _=>bv y oO t];omega
       have hf2:=acC (σ:=HB++([]:Heap)) (i:=r) (A:=dD (F y) 0 i) (B:=dD (F y) (i+1) (W.ns+1 - i - 1)) (l:=row) (by rw [bL,cc,← d4]) c9 (mY _ _ _) (mY _ _ _) M ag.1 ag.2.2 (by have:=ag.2.1;omega)
       rw [← ca] at hf2
       have hiN:i<W.ns+1:=oO
       refine NY ?_
       have aa:(HB++([]:Heap)).set r (.rw (dD (F (y+1)) 0 (W.ns+1)))=(A.set r (.rw (dD (F (y+1)) 0 (W.ns+1)))).set (Hc.length+1) B++X++[aB.rw [.i (W.kf i x y).1,.i (wL (W.kf i x) (W.nk i x) y)],aB.rw [.i (W.kf i x y).2.1,.i (W.kf i x y).2.2]]:=by
        rw [bL,w,D];exact FQ (aQ a4) (aQ E) a
       rw [aa,hB];exact au _ _ _
      ·have d2:jK (W.aft i x y).1 (W.aft i x y).2 (W.jS m (i+1))=false:=by simpa using ak
       have ca:F (y+1)=F y:=by
        rw [hF];dsimp only;funext t;split
        ·simp only [spF];rw [if_neg ak]
        ·rfl
       refine NY ?_
       have aa:HB=(A.set r (.rw (dD (F (y+1)) 0 (W.ns+1)))).set (Hc.length+1) B++X++[aB.rw [.i (W.kf i x y).1,.i (wL (W.kf i x) (W.nk i x) y)],aB.rw [.i (W.kf i x y).2.1,.i (W.kf i x y).2.2]]:=by
        rw [ca,w,D];exact KA (aQ E)
       rw [aa,hB];exact au _ _ _
     ·refine ⟨.ready,none,_,_,_,_,_,(aC E a).trans (congrArg some hL),by simp,?_⟩
      have df:=P.len
      have d6:=aQ a8
      have d5:=aQ be
      have hc3:=aQ bj
      show (dO 12 _) _ _ _ _
      refine mZ ?_
      refine ⟨x+1,⟨oO,?_,(ad.setX oO _).setX oO _,aC (aC bz oO) oO,?_,aC (aC co az) oO,aC (aC cx b9) oO⟩,oO,tE⟩
      ·refine Mks.cons ((ch.set a4 oS).set (aC E a) (by rw [hL];simp)) (a6.new (aD _)) oO (aC (aC c7 (by have:=aQ hrc;omega)) oO)
      ·refine aC ?_ oO
       rw [aS a4,hF,u];rfl
    ·obtain rfl:x=W.nw i:=oO
     have cy:¬ ((W.nw i:Nat):Int)<(W.nw i:Nat):=oO
     have a2:=hq
     have d9:(i:Int) - 1=((W.ns - (k+1):Nat):Int) - 1:=oO
     have cu:H[r]?=some (.rw (dD (W.qc m (k+1)) 0 (W.ns+1))):=by
      rw [hr,NV W m hkn hi,qM fun t _ ht=>Wn W m hkn hi t oO]
     refine mZ ?_
     refine ⟨(k+1,H.length),⟨by dsimp only;omega,hM.app _,hN.app _,aA hg,aA cu,?_,aQ cu⟩,by dsimp only;omega,tE⟩
     dsimp only
     rw [← d9]
     exact aO
   ·obtain rfl:k=W.ns:=oO
    have hq0:((W.ns - W.ns:Nat):Int) - 1=-1:=oO
    rw [hq0] at hq a2
    refine mZ ?_
    have cz:dD (W.qc m W.ns) 0 (W.ns+1)=dD (W.jS m) 0 (W.ns+1):=qM fun x _ _=>if_pos oO
    rw [cz] at hr
    have k2:=rC hN.b2 (hM.not hN.b2 oS)
    have kj:=rC hg (hM.not hg oS)
    have kr:=rC hr (hM.not hr oS)
    have hjr:j ≠ r:=fun h=>by rw [h,hr] at hg;cases hg
    have s0:fK σ.length [σ.length+2,j,r] σ.length=⟨σ.length+2,0,0⟩:=by simp [fK]
    have s1:fK σ.length [σ.length+2,j,r] (σ.length+1)=⟨j,0,0⟩:=by simp [fK];omega
    have s2:fK σ.length [σ.length+2,j,r] (σ.length+2)=⟨r,0,0⟩:=by simp [fK];omega
    refine TL hM (.tmp rfl .nil) (aX.src (v2:=.p σ.length) [.rw [.s bB W.nb cB,.s bS W.ns cS,.i m.1,.i m.2,.s (σ.length+1) (W.ns+1) (W.ns+1),.s (σ.length+2) (W.ns+1) (W.ns+1)],.rw (dD W.front 0 (W.ns+1)),.rw (dD (W.jS m) 0 (W.ns+1))] [σ.length+2,j,r] (pO hN.pre fun x hx=>by have:=(hM.2 x hx).1;omega) rfl ?_ ⟨?_,oN s1 (.inr ⟨_,kj⟩) (mY _ _ _),oN s2 (.inl kr) (mY _ _ _),trivial⟩ ?_) ⟨rfl,rfl⟩
    ·simp [dF];omega
    ·refine sG s0 (.inl k2) rfl fun x h1 h2=>?_
     match x,h1 with
     |0,_=>exact kX (by simp;omega) (fE hbB) (aD _)
     |1,_=>exact kX (by simp;omega) (fE hbS) (aD _)
     |2,_=>exact aY _ rfl
     |3,_=>exact aY _ rfl
     |4,_=>exact jV oS s1
     |5,_=>exact kX oS s2 (aD _)
     |x+6,h1=>exact absurd h1 oS
    ·have:=VQ.ptr (q:=true) (n:=σ.length+3) (ρ:=fK σ.length [σ.length+2,j,r]) σ.length 0 oO
     rw [s0] at this
     exact this
end Go.Proofs.YtajpgeklmcjciaaGreat
namespace Go.AH
open Go
theorem TN {P:Program} {n0 N:Nat} {rd:Option Nat} {c:Code} {Q:Post} {e:Env} {mk:List Nat} {σ:Heap} (el:TypeId) (h:bK P n0 N rd c Q e mk (σ++[.gr [] el])):bK P n0 N rd c Q e mk σ:=by
 intro G w0 ρ0 A w hi
 obtain ⟨g0,ρ,g1,g2,g3⟩:=hi
 exact h G w0 ρ0 A w ⟨by simp;omega,ρ,g1,Yb g2 el,xW g3 oS fun _ _=>rfl⟩
section
variable {α:Type} [DecidableEq α]
theorem En {l:List Nat} {g:Nat→α} {x:α} (h:∀ k ∈ l,g k ≠ x):(l.map g).findIdx? (fun q=>decide (x=q))=none:=by
 rw [List.findIdx?_eq_none_iff]
 intro y hy
 obtain ⟨k,hk,rfl⟩:=List.mem_map.1 hy
 simpa using fun e=>h k hk e.symm
theorem zf {g:Nat→α} (hg:∀ a b,g a=g b→a=b):∀ {l:List Nat} {x:Nat},x ∈ l→∃ j,(l.map g).findIdx? (fun q=>decide (g x=q))=some j∧l[j]?=some x∧(l.Nodup→l.eraseIdx j=l.filter (· ≠ x))
 |[],_,h=>by simp at h
 |a::l,x,h=>by
  by_cases c:a=x
  ·subst c
   refine ⟨0,by simp [fe],rfl,fun hn=>?_⟩
   have hn:=List.nodup_cons.1 hn
   simp only [List.eraseIdx_zero,List.tail_cons]
   rw [List.filter_cons,if_neg oS,List.filter_eq_self.2]
   intro y hy
   simp only [ne_eq,decide_not,eQ,decide_eq_false_iff_not]
   intro e;rw [e] at hy;exact hn.1 hy
  ·have hx:x ∈ l:=by rcases List.mem_cons.1 h with e|e;exact absurd e.symm c;exact e
   obtain ⟨j,h1,h2,h3⟩:=zf hg hx
   have d:¬ g x=g a:=fun e=>c (hg _ _ e).symm
   refine ⟨j+1,by simp [fe,d,h1],by simpa using h2,fun hn=>?_⟩
   have hn:=List.nodup_cons.1 hn
   rw [List.eraseIdx_cons_succ,h3 hn.2,List.filter_cons,if_pos (oU c)]
theorem NZ {β:Type} (f:Nat→β):∀ (l:List Nat) (j:Nat),(l.map f).eraseIdx j=(l.eraseIdx j).map f
 |[],_=>rfl
 |_::_,0=>rfl
 |a::l,j+1=>by simp only [cG,List.eraseIdx_cons_succ];rw [NZ f l j]
def mpL (g:Nat→α) (v:Nat→Value) (l:List Nat):List (α×Value):=l.map fun k=>(g k,v k)
theorem Eo {γ:Type} (g:Nat→γ) (v:Nat→Value) (l:List Nat):(mpL g v l).map (·.1)=l.map g:=by simp [mpL]
theorem ahv {g:Nat→α} {v:Nat→Value} (hg:∀ a b,g a=g b→a=b) {l:List Nat} {x:Nat} (h:x ∉ l):lN (mpL g v l) (g x) (v x)=mpL g v (l++[x]):=by
 unfold lN
 rw [Eo,En fun k hk e=>h (by rw [← hg _ _ e];exact hk)]
 simp [mpL]
theorem ae2 {g:Nat→α} {v:Nat→Value} (hg:∀ a b,g a=g b→a=b) {l:List Nat} {x:Nat} (h:x ∈ l) (hn:l.Nodup):nG (mpL g v l) (g x)=mpL g v (l.filter (· ≠ x)):=by
 obtain ⟨j,h1,_,h3⟩:=zf hg h
 unfold nG
 rw [Eo,h1]
 simp only
 rw [← h3 hn]
 unfold mpL
 rw [NZ]
theorem ae3 {g:Nat→α} {v:Nat→Value} (hg:∀ a b,g a=g b→a=b) {l:List Nat} {x:Nat} (h:x ∈ l):iH (mpL g v l) (g x)=some (v x):=by
 obtain ⟨j,h1,h2,_⟩:=zf hg h
 unfold iH
 rw [Eo,h1]
 simp [mpL,h2]
theorem acD {g:Nat→α} {v:Nat→Value} (hg:∀ a b,g a=g b→a=b) {l:List Nat} {x:Nat} (h:x ∉ l):iH (mpL g v l) (g x)=none:=by
 unfold iH
 rw [Eo,En fun k hk e=>h (by rw [← hg _ _ e];exact hk)]
end
def slN (b:Nat) (n:Nat):Value:=match n with|0=>.slice none 0 0|n+1=>.slice (some ⟨b,0,none⟩) (n+1) (n+1)
theorem Ep {n:Nat} {π:Rho} {i j sz k:Nat} (hi:i<n) (hj:π i=⟨j,0,0⟩):jG n π (slN i k) (dW j sz k):=by
 cases k with
 |zero=>exact .nilSlice
 |succ k=>exact jV hi hj
namespace Heat
open Go.Proofs.YtajpgeklmcjciaaGreat
theorem xk (p:Nat→Bool) (n:Nat):(List.range (n+1)).filter p=(List.range n).filter p++(if p n then [n] else []):=by
 rw [fy,List.filter_append]
 congr 1
 by_cases h:p n=true <;> simp [h]
namespace Wk
variable (W:Wk) (m:Int×Int)
def bothR (i:Nat):List Int:=mulL (W.front i) (W.jS m i)
def noB:Bool:=decide (∀ i ∈ List.range 1001,gi (W.bothR m 0) i=gi zro i)
def mJ (i k:Nat):Nat→Bool
 |0=>false
 |q+1=>mJ i k q || (jK (W.own i k q).1 (W.own i k q).2 (W.bothR m i) && jK (W.aft i k q).1 (W.aft i k q).2 (W.jS m (i+1)))
def lead (i k:Nat):Bool:=W.mJ m i k (W.nk i k)
def someB:List Nat:=if W.noB m then [] else (List.range W.nb).filter fun b=>jK (W.bf b).1 (W.bf b).2 (W.jS m 0)
def Az (i:Nat):List Nat:=if W.noB m then [] else (List.range (W.nw i)).filter fun k=>W.lead m i k
end Wk
theorem AA {lo hi:Int} {l:List Int} (hl:l.length=1001) (h:jM (lo,hi)) (i:Nat):gi (tY lo hi l) i=if lo≤(i:Int)∧(i:Int)≤hi then 1 else gi l i:=by
 obtain ⟨h0,h1,h2⟩:=h
 dsimp only at h0 h1 h2
 unfold tY jE gi
 rw [cE,cE,cD]
 have a:(l.take lo.toNat).length=lo.toNat:=by simp;omega
 by_cases ha:i<lo.toNat
 ·rw [bR oO,eE,if_pos ha,if_neg oO]
 ·rw [bE oO,a]
  by_cases hb:i - lo.toNat<(hi+1 - lo).toNat
  ·rw [bR (oU hb),List.getElem?_replicate,if_pos hb,if_pos oO];rfl
  ·rw [bE (oU hb),fN,eO,if_neg oO]
   congr 2;omega
theorem acE (i:Nat):gi zro i=0:=by
 unfold gi zro
 rw [cE,List.getElem?_replicate]
 split <;> rfl
def R01 (l:List Int):Prop:=∀ i,gi l i=0∨gi l i=1
theorem IG:R01 zro:=fun i=>.inl (acE i)
theorem KE {lo hi:Int} {l:List Int} (hl:l.length=1001) (h:jM (lo,hi)) (h1:R01 l):R01 (tY lo hi l):=fun i=>by
 rw [AA hl h];split
 ·exact .inr rfl
 ·exact h1 i
theorem KF {bf:Nat→Int×Int} {l:List Int} (hl:l.length=1001) (h0:R01 l):∀ {k:Nat},(∀ j<k,jM (bf j))→R01 (rD bf k l)
 |0,_=>h0
 |k+1,h=>KE (tZ hl fun j hj=>h j oO) (h k oO) (KF hl h0 fun j hj=>h j oO)
theorem Ws {now l:List Int} {fr to:Nat→Int×Int} (hl:l.length=1001) (h0:R01 l):∀ {n:Nat},(∀ q<n,jM (to q))→R01 (spF now fr to n l)
 |0,_=>h0
 |q+1,h=>by
  simp only [spF];split
  ·exact KE (xg hl fun j hj=>h j oO) (h q oO) (Ws hl h0 fun j hj=>h j oO)
  ·exact Ws hl h0 fun j hj=>h j oO
theorem Wu {now l:List Int} {fr to:Nat→Nat→Int×Int} {nk:Nat→Nat} (hl:l.length=1001) (h0:R01 l):∀ {n:Nat},(∀ k<n,∀ q<nk k,jM (to k q))→R01 (wyF now fr to nk n l)
 |0,_=>h0
 |k+1,h=>Ws (y9 hl fun j hj=>h j oO) (Wu hl h0 fun j hj=>h j oO) (h k oO)
theorem TP {W:Wk} (h:W.Ok):∀ i≤W.ns,R01 (W.front i)
 |0,_=>KF jX IG h.b
 |i+1,hi=>Wu jX IG fun k hk q hq=>Aw h oO hk hq
theorem acF {W:Wk} (h:W.Ok) {m:Int×Int} (hm:jM m):∀ k≤W.ns,R01 (W.NU m k)
 |0,_=>KE jX hm IG
 |k+1,hk=>Wu jX IG fun j hj q hq=>xH h oO hj hq
theorem Yq {W:Wk} (h:W.Ok) {m:Int×Int} (hm:jM m) (i:Nat):R01 (W.jS m i):=acF h hm _ oO
theorem KG {a b:List Int}:(mulL a b).length=a.length:=KD 1001 a b
theorem agi {l:List Int} {n:Nat} (h:l.length=n):Zb .i8 (gi l) n (r8 l).toArray:=fun i hi=>Kt oO
def plG (i:Nat) (k:Nat):Int×Int:=((i:Int),(k:Int))
def plV (k:Nat):Value:=.int .i64 (k:Nat)
theorem II (i:Nat):∀ a b,plG i a=plG i b→a=b:=fun a b h=>by have:=congrArg Prod.snd h;simp only [plG] at this;omega
abbrev plM (i:Nat) (l:List Nat):aB:=ji kv (mpL (plG i) plV l)
def lefts (p:Nat→Bool) (n x:Nat):List Nat:=(List.range n).filter fun k=>decide (x≤k) || p k
theorem Wv (p:Nat→Bool) (n:Nat):lefts p n 0=List.range n:=List.filter_eq_self.2 fun _ _=>by simp
theorem ZQ (p:Nat→Bool) (n:Nat):lefts p n n=(List.range n).filter p:=by
 unfold lefts
 refine List.filter_congr fun k hk=>?_
 have:=List.mem_range.1 hk
 rw [decide_eq_false oO];rfl
theorem TQ (p:Nat→Bool) (n x:Nat):(lefts p n x).Nodup:=List.Nodup.sublist List.filter_sublist List.nodup_range
theorem ZR {p:Nat→Bool} {n x:Nat} (h:x<n):x ∈ lefts p n x:=by
 unfold lefts;rw [List.mem_filter];exact ⟨List.mem_range.2 h,by simp⟩
theorem TR {p:Nat→Bool} {n x:Nat} (h:p x=true):lefts p n (x+1)=lefts p n x:=by
 unfold lefts
 refine List.filter_congr fun k _=>?_
 by_cases hk:k=x
 ·subst hk;rw [h];simp
 ·have:decide (x+1≤k)=decide (x≤k):=by
   by_cases h2:x≤k
   ·rw [decide_eq_true h2,decide_eq_true oO]
   ·rw [decide_eq_false h2,decide_eq_false oO]
  rw [this]
theorem TS {p:Nat→Bool} {n x:Nat} (h:p x=false):lefts p n (x+1)=(lefts p n x).filter (· ≠ x):=by
 unfold lefts
 rw [List.filter_filter]
 refine List.filter_congr fun k _=>?_
 by_cases hk:k=x
 ·subst hk;rw [h];simp
 ·have:decide (x+1≤k)=decide (x≤k):=by
   by_cases h2:x≤k
   ·rw [decide_eq_true h2,decide_eq_true oO]
   ·rw [decide_eq_false h2,decide_eq_false oO]
  rw [this];simp [hk]
structure sH (σ:Heap) (W:Wk) (m:Int×Int) (tb fb rb bB cB bS cS:Nat) (wB cW:Nat→Nat) (kB cK:Nat→Nat→Nat):Prop where
 t:σ[tb]?=some (.rw [.slice (some ⟨bB,0,none⟩) W.nb cB,.slice (some ⟨bS,0,none⟩) W.ns cS,.int .i64 m.1,.int .i64 m.2,.slice (some ⟨fb,0,none⟩) (W.ns+1) (W.ns+1),.slice (some ⟨rb,0,none⟩) (W.ns+1) (W.ns+1)])
 f:σ[fb]?=some (.rw (dD W.front 0 (W.ns+1)))
 r:σ[rb]?=some (.rw (dD (W.jS m) 0 (W.ns+1)))
 w:wM σ W bB bS wB cW kB cK
 bB:bB < σ.length
 bS:bS < σ.length
theorem sH.take {σ H:Heap} {W:Wk} {m:Int×Int} {tb fb rb bB cB bS cS:Nat} {wB cW:Nat→Nat} {kB cK:Nat→Nat→Nat} (h:sH σ W m tb fb rb bB cB bS cS wB cW kB cK) (hp:H.take σ.length=σ):sH H W m tb fb rb bB cB bS cS wB cW kB cK :=
 ⟨by rw [iY hp (aQ h.t)];exact h.t,by rw [iY hp (aQ h.f)];exact h.f,by rw [iY hp (aQ h.r)];exact h.r,h.w.take hp,by have:=take_len hp;have:=h.bB;omega,by have:=take_len hp;have:=h.bS;omega⟩
end Heat
end Go.AH
namespace Go.AH.Heat
open Go Go.AH
structure ST (σ H:Heap) (tb:Nat) (sv:Int):Prop where
 pre:H.take σ.length=σ
 b0:H[σ.length]?=some (.rw [.pointer (some ⟨tb,0,none⟩)])
 b1:H[σ.length+1]?=some (.rw [.int .i64 sv])
section
variable {σ H:Heap} {tb:Nat} {sv:Int}
theorem ST.app (h:ST σ H tb sv) (X:Heap):ST σ (H++X) tb sv:=⟨aT h.pre,aA h.b0,aA h.b1⟩
theorem ST.setX (h:ST σ H tb sv) {i:Nat} (hi:σ.length+2≤i) (o:aB):ST σ (H.set i o) tb sv:=⟨take_set h.pre oO,aC h.b0 oO,aC h.b1 oO⟩
theorem ST.len (h:ST σ H tb sv):σ.length+2≤H.length:=by have:=aQ h.b1;omega
end
theorem wH (l:List Nat):(gu l).length=l.length:=by simp [gu]
theorem BA (l:List Nat) (x:Nat):gu (l++[x])=gu l++[.i (x:Nat)]:=by simp [gu]
theorem filter_le (p:Nat→Bool) (n:Nat):((List.range n).filter p).length≤n:=by have:=List.length_filter_le p (List.range n);simpa using this
end Go.AH.Heat
namespace Go.Proofs.YtajpgeklmcjciaaGreat
open Go Go.AH
attribute [local irreducible] bZ bK bM jB gy dO fC bW eU aX dV eH
open Go.AH.Heat
theorem pU {A B:Prop} (k:B) (h:Hide B→A:=by intro h_k_;(repeat' (first|refine sCm ?_|(refine gU ?_;first|refine st (Jy (kv:=kv) (k:=plG i x) rfl (by exact hmp) rfl (by exact hget)) rfl rfl ?_|refine st (Jz (kv:=kv) (k:=plG i x) (by rfl) rfl (by exact hmp) rfl (by exact hget)) rfl rfl ?_|refine st (iQ (by rfl) (by rfl) rfl (by exact hgX) (by exact hgl) rfl (by exact dU rfl) (by omega) rfl (by omega) (by decide)) rfl rfl ?_|refine st (Np (xs:=r8 (W.bothR m 0)) (ys:=List.replicate 1001 (.int .i8 0)) (by rfl) rfl rfl hpx hpy hkx hky) rfl rfl ?_|(refine bV ?_;first|refine st (aK rfl (by first|exact aF a0|exact aF hS.b0|exact aF hS.b1)) rfl rfl ?_|refine st (bD rfl (by first|exact aV a0 rfl|exact dU rfl|assumption)) rfl rfl ?_)|refine sK0 ?_|(refine ET ?_;refine st (OI rfl) rfl rfl ?_)|(refine yP ?_;refine st (kW rfl) rfl rfl ?_)|(refine gIA ?_;first|refine st (nC rfl rfl (by omega)) rfl rfl ?_|refine st (iV rfl rfl (by omega)) rfl rfl ?_|refine st (ny rfl rfl (by omega) (by omega)) rfl rfl ?_)|refine sK7 ?_|(refine OE ?_;first|refine st (oG (by rfl) rfl (by rfl)) rfl rfl ?_|refine st (MW (by rfl)) rfl rfl ?_)|(refine OG ?_;refine st (yR rfl rfl rfl) rfl rfl ?_)|(refine dX ?_;refine st (bG rfl rfl rfl (by exact hf1)) rfl rfl ?_)|refine Hw ?_|refine JV ?_)|(refine fU ?_;first|refine frA (aK rfl (aF (hS.app _).b0)) rfl ?_ (hcl (by assumption))|refine frA (aK rfl (aF (aA a0))) rfl ?_ (hcs (by assumption))|refine frA (aK rfl (hw _)) rfl ?_ (hcs (by assumption))|refine frA (jT rfl) rfl ?_ (hcl (by assumption))|refine frA (aZ rfl) rfl ?_ (hcl (by assumption))|refine frA (nC rfl rfl (by omega)) rfl ?_ (hcl (by assumption))|refine JQ ?_|(refine gB ?_;refine frA (aK rfl (by exact aF (hS.app _).b1)) rfl ?_)|(refine Ro ?_;refine frA (lJ rfl) rfl ?_))|(refine fP ⟨by kernel_rfl,?_⟩)|refine dB (id:=2) ?_|refine dB (id:=4) ?_|refine dB (id:=24) ?_|refine aG ?_|refine sK5 ?_|refine dZ rfl ?_|refine eu rfl ?_));exact h_k_.h):A:=h ⟨k⟩
theorem Yr {A B:Prop} (k:B) (h:Hide B→A:=by intro h_k_;(repeat' (first|refine sCm ?_|(refine gU ?_;first|(refine Cj ?_;refine st (kC rfl) (by exact hrd) rfl ?_)|(refine gV ?_;refine stN (bU rfl rfl rfl rfl (by first|exact iW (aD _) (cU _)|exact hput _ _)) (by exact hrd) ?_))|(refine fU ?_;first|refine JQ ?_|(refine gB ?_;refine frA (aK rfl (by exact hqX _)) rfl ?_)|(refine DK ?_;first|refine frA (jr rfl rfl) rfl ?_|refine frA (jv rfl rfl) rfl ?_))|(refine fG ?_;first|refine frG (rfl) (by first|rfl|assumption) (aK rfl (aF (hS.app _).b0)) (hcl (by assumption)) rfl ?_|refine frG (rfl) (by first|rfl|assumption) (aK rfl (aF (aA a0))) (hcs (by assumption)) rfl ?_|refine frG (rfl) (by first|rfl|assumption) (jT rfl) (hcl (by assumption)) rfl ?_|refine frG (rfl) (by first|rfl|assumption) (aZ rfl) (hcl (by assumption)) rfl ?_|refine frG (rfl) (by first|rfl|assumption) (iV rfl rfl (by omega)) (hcl (by assumption)) rfl ?_|(refine qX ?_;refine pW rfl (eP rfl) rfl ?_)|(refine gB ?_;first|refine pW rfl (aK rfl (by first|exact aF (hS.app _).b0|exact aF (hS.app _).b1|exact hqX _)) rfl ?_|refine pW rfl (bD rfl (by first|exact h20X _|exact h21X _)) rfl ?_)|(refine fAdd ?_;refine pW rfl (qP rfl rfl (by omega)) rfl ?_)|(refine DK ?_;first|refine pW rfl (jr rfl rfl) rfl ?_|refine pW rfl (jv rfl rfl) rfl ?_)|(refine qF ?_;refine pW rfl (bG rfl rfl rfl (by first|exact hf1|exact hf2)) rfl ?_)|refine frSU rfl rfl ?_|refine abY rfl rfl ?_)|(refine fP ⟨by kernel_rfl,?_⟩)|refine aG ?_|refine fA (by kernel_rfl) (by exact hrd) ?_));exact h_k_.h):A:=h ⟨k⟩
theorem IJ {σ:Heap} {W:Wk} {m:Int×Int} {tb fb rb bB cB bS cS:Nat} {wB cW:Nat→Nat} {kB cK:Nat→Nat→Nat} (hW:W.Ok) (hm:jM m) (hT:sH σ W m tb fb rb bB cB bS cS wB cW kB cK) (hni:σ.all (fun o=>!aU o)=true) {sv:Int} {l:List Nat}
  (hl:sv<0∧l=W.someB m∨∃ i:Nat,sv=i∧i<W.ns∧l=W.Az m i) :
  Ev Tryz.prog 80 [.p tb,.i sv] σ (slN σ.length l.length) (σ++[.rw (gu l)]):=by
 have hnb3:=hW.nb
 have hns3:=hW.ns
 refine aI σ.length 150 Tryz.func80 rfl rfl rfl rfl rfl ?_
 refine pU ?_
 have hS:ST σ (σ++[aB.rw [.p tb]]++[aB.rw [.i sv]]) tb sv:=⟨by simp,aA aO,bJ oS⟩
 refine .mk (dH [(2,.p σ.length),(3,.p (σ.length+1)),(4,.slice none 0 0),(5,.slice none 0 0)] (σ++[aB.rw [.p tb]]++[aB.rw [.i sv]]) rfl ⟨rfl,(by (refine congrArg (fun n=>some (Value.p n)) ?_;simp;try omega)),rfl,rfl,trivial⟩ ?_)
 have hni1:(σ++[aB.rw [.p tb]]++[aB.rw [.i sv]]).all (fun o=>!aU o)=true:=bF (bF hni rfl) rfl
 generalize (σ++[aB.rw [.p tb]]++[aB.rw [.i sv]])=H at hS hni1
 have a:=hT.take hS.pre
 have hf1:=Yp H tb fb rb 0 0 (W.ns+1) (W.ns+1) (W.ns+1) (W.ns+1) 0 _ (W.front 0) (W.jS m 0) (.inr (.inl a.t)) rfl rfl oO oO (lG (.inl a.f) (fun j hj=>kM hW j oO) oO) (lG (.inl a.r) (fun j _=>lH hW hm j) oO) (kM hW 0 oO) (lH hW hm 0) (fun i _=>TP hW 0 oO i) (fun i _=>Yq hW hm 0 i)
 have M:(W.bothR m 0).length=1001:=by unfold Wk.bothR;rw [KG];exact kM hW 0 oO
 have hpx:=nR (W.bothR m 0)
 have hpy:dL (List.replicate 1001 (.int .i8 0))=true:=by rw [← FV];exact nR _
 have hkx:=agi M
 have hky:Zb .i8 (gi zro) 1001 (List.replicate 1001 (.int .i8 0)).toArray:=by rw [← FV];exact agi jX
 apply aG
 by_cases a7:W.noB m=true
 ·have aa:decide (∀ i ∈ List.range 1001,gi (W.bothR m 0) i=gi zro i)=true:=a7
  have bg:l=[]:=by
   rcases hl with ⟨_,rfl⟩|⟨i,_,_,rfl⟩
   ·exact if_pos a7
   ·exact if_pos a7
  subst bg
  refine pU ?_
  exact dK (v2:=slN σ.length 0) (.tmp rfl .nil) (aX.src [.rw []] [σ.length] hS.pre rfl (by simp [dF]) ⟨.inl rfl,trivial⟩ .nilSlice) ⟨rfl,rfl⟩
 ·have aa:decide (∀ i ∈ List.range 1001,gi (W.bothR m 0) i=gi zro i)=false:=by simpa [Wk.noB] using a7
  refine pU ?_
  refine .mk (dH [(2,.p σ.length),(3,.p (σ.length+1)),(4,.slice none 0 0),(5,.slice none 0 0)] H rfl tE ?_)
  clear aa hky hkx hpy hpx hf1
  have a0:=a.t
  apply aG
  by_cases R:sv<0
  ·have ao:l=(List.range W.nb).filter fun b=>jK (W.bf b).1 (W.bf b).2 (W.jS m 0):=by
    rcases hl with ⟨_,rfl⟩|⟨i,h,_,_⟩
    ·exact if_neg a7
    ·omega
   have af:decide (sv<0)=true:=decide_eq_true R
   refine pU ?_
   refine TN 3 ?_
   refine dS (ι:=Nat×Nat) (fun k=>[(4,.slice none 0 0),(5,dW k.2 1 ((List.range k.1).filter fun b=>jK (W.bf b).1 (W.bf b).2 (W.jS m 0)).length),(6,.func (.func 170) #[.p rb] #[]),(36,.s bB W.nb cB),(37,.i (W.nb:Nat)),(38,.i (k.1:Nat))])
    (fun k mk H=>k.1≤W.nb∧mk=[]∧ST σ H tb sv∧σ.length+2≤k.2∧H[k.2]?=some (.gr (gu ((List.range k.1).filter fun b=>jK (W.bf b).1 (W.bf b).2 (W.jS m 0))) 3)) (fun k=>W.nb - k.1) (0,H.length) tE ⟨bN _,rfl,hS.app _,hS.len,aO⟩ ?_
   clear a0 hS hni1 a H
   rintro ⟨k,jo⟩ mk H ⟨hk,rfl,hS,Y,hg⟩
   dsimp only at hk Y hg
   dsimp only
   obtain ⟨lk,d⟩:∃ lk,lk=(List.range k).filter fun b=>jK (W.bf b).1 (W.bf b).2 (W.jS m 0):=⟨_,rfl⟩
   rw [← d] at hg
   rw [← d]
   have an:lk.length≤k:=by rw [d];exact filter_le _ _
   have a:=hT.take hS.pre
   by_cases hkn:k<W.nb
   ·have bs:(k:Int)<(W.nb:Nat):=oO
    have hd1:aJ H bB (0+k*2) 2=some [.i (W.bf k).1,.i (W.bf k).2]:=by rw [bA];exact a.w.bars k hkn
    have aw:=hW.b k hkn
    have hf1:=yx (σ:=H++[aB.rw [.i (W.bf k).1,.i (W.bf k).2]]) (lG (i:=0) (.inl (aA a.r)) (fun j _=>lH hW hm j) oO) (lH hW hm 0) aw.1 aw.2.2 (by have:=aw.2.1;omega)
    have hgX:(H++[aB.rw [.i (W.bf k).1,.i (W.bf k).2]]++[aB.rw [.i (k:Nat)]])[jo]?=some (.gr (gu lk) 3):=aA (aA hg)
    have hgl:(gu lk).length=lk.length*1:=by rw [wH,cI]
    by_cases b8:jK (W.bf k).1 (W.bf k).2 (W.jS m 0)=true
    ·refine pU ?_
     have G:((List.range (k+1)).filter fun b=>jK (W.bf b).1 (W.bf b).2 (W.jS m 0))=lk++[k]:=by rw [xk,← d,if_pos b8]
     have e5:dW (H++[aB.rw [.i (W.bf k).1,.i (W.bf k).2]]++[aB.rw [.i (k:Nat)]]).length 1 (lk.length+1)=dW (H.length+2) 1 ((List.range (k+1)).filter fun b=>jK (W.bf b).1 (W.bf b).2 (W.jS m 0)).length:=by rw [G];simp
     have bo:=hS.len
     refine ⟨(k+1,H.length+2),⟨by dsimp only;omega,rfl,(((hS.app _).app _).setX Y _).app _,by dsimp only;omega,?_⟩,by dsimp only;omega,⟨rfl,congrArg some e5,rfl,rfl,rfl,rfl,trivial⟩⟩
     dsimp only
     rw [G,BA]
     exact bJ oS
    ·have hmf:jK (W.bf k).1 (W.bf k).2 (W.jS m 0)=false:=by simpa using b8
     refine pU ?_
     have G:((List.range (k+1)).filter fun b=>jK (W.bf b).1 (W.bf b).2 (W.jS m 0))=lk:=by rw [xk,← d,if_neg b8,bL]
     refine ⟨(k+1,jo),⟨by dsimp only;omega,rfl,hS.app _,Y,?_⟩,by dsimp only;omega,⟨rfl,by dsimp only;rw [G];rfl,rfl,rfl,rfl,rfl,trivial⟩⟩
     dsimp only
     rw [G]
     exact aA hg
   ·obtain rfl:k=W.nb:=oO
    have bs:¬ ((W.nb:Nat):Int)<(W.nb:Nat):=oO
    rw [← ao] at d
    subst d
    refine pU ?_
    have s0:fK σ.length [jo] σ.length=⟨jo,0,0⟩:=by simp [fK]
    exact dK (v2:=slN σ.length lk.length) (.tmp rfl .nil) (aX.src [.rw (gu lk)] [jo] hS.pre rfl (by simp [dF];omega) ⟨oN s0 (.inr ⟨_,hg⟩) (oM _),trivial⟩ (Ep oS s0)) ⟨rfl,rfl⟩
  ·obtain ⟨i,rfl,hi,ao⟩:∃ i:Nat,sv=i∧i<W.ns∧l=(List.range (W.nw i)).filter fun k=>W.lead m i k:=by
    rcases hl with ⟨h,_⟩|⟨i,h1,h2,h3⟩
    ·exact absurd h R
    ·exact ⟨i,h1,h2,by rw [h3];exact if_neg a7⟩
   have htb:tb < σ.length:=aQ hT.t
   have hrb:rb < σ.length:=aQ hT.r
   have hbS:bS < σ.length:=hT.bS
   have hwB:wB i < σ.length:=dJ (hT.w.ways i hi 0 (hW.w1 i hi))
   have hnw3:=hW.nw i hi
   have af:decide ((i:Int)<0)=false:=decide_eq_false R
   refine pU ?_
   refine st yX rfl rfl ?_
   refine st (kK rfl) rfl rfl ?_
   refine kP ?_
   refine tC ?_
   have hmp:(H++[aB.map []])[H.length]?=some (plM i (List.range 0)):=aO
   have a4:(H++[aB.map []]).all (fun o=>!aU o)=true:=bF hni1 rfl
   have ai:=hS.app [aB.map []]
   have a6:=hS.len
   refine dH [(2,.p σ.length),(3,.p (σ.length+1)),(4,.slice none 0 0),(5,.slice none 0 0),(9,.map (some H.length))] (H++[aB.map []]) rfl tE ?_
   generalize (H++[aB.map []])=N at hmp a4 ai
   generalize H.length=mb at hmp a6
   clear hni1 a0 a hS H
   have hS:=ai
   have a:=hT.take hS.pre
   have a0:=a.t
   have a8:=take_len hS.pre
   have hcl:∀ {q o:Nat},q < σ.length→closed N.length (.pointer (some ⟨q,o,none⟩))=true:=fun {q o} h=>(show Nat.blt q N.length=true from Nat.blt_eq.mpr oO)
   have hcs:∀ {q o n c:Nat},q < σ.length→closed N.length (.slice (some ⟨q,o,none⟩) n c)=true:=fun h=>bP (Nat.blt_eq.mpr oO)
   have hw:∀ X,aH (N++X) bS (i+0)=some (.s (wB i) (W.nw i) (cW i)):=fun X=>fQ (k:=0) ((hT.w.take (aT hS.pre)).steps i hi) oO
   refine pU ?_
   rw [show N++gJ (fun _=>true) []=N from bL N]
   refine dS (ι:=Nat) (fun x=>[(2,.p σ.length),(3,.p (σ.length+1)),(4,.slice none 0 0),(5,.slice none 0 0),(9,.map (some mb)),(61,.s (wB i) (W.nw i) (cW i)),(62,.i (W.nw i:Nat)),(63,.i (x:Nat))])
    (fun x mk H=>x≤W.nw i∧mk=[]∧ST σ H tb i∧H.all (fun o=>!aU o)=true∧H[mb]?=some (plM i (List.range x))) (fun x=>W.nw i - x) 0 tE ⟨bN _,rfl,ai,a4,hmp⟩ ?_
   clear hw hcs hcl a8 a0 a hS ai a4 hmp N
   rintro x mk H ⟨hx,rfl,hS,hni1,hmp⟩
   by_cases g:x<W.nw i
   ·have O:(x:Int)<(W.nw i:Nat):=oO
    refine pU ?_
    refine stN (pq (kv:=kv) (k:=plG i x) rfl (by exact hmp) rfl rfl hni1) rfl ?_
    have bk:lN (mpL (plG i) plV (List.range x)) (plG i x) (.i (x:Nat))=mpL (plG i) plV (List.range (x+1)):=by
     rw [fy];exact ahv (II i) oS
    rw [bk]
    refine pU ?_
    exact ⟨x+1,⟨oO,rfl,hS.setX a6 _,ku hni1 rfl,aS hmp⟩,oO,tE⟩
   ·obtain rfl:x=W.nw i:=oO
    have O:¬ ((W.nw i:Nat):Int)<(W.nw i:Nat):=oO
    have a:=hT.take hS.pre
    have hf1:=Yp H tb fb rb 0 0 (W.ns+1) (W.ns+1) (W.ns+1) (W.ns+1) i _ (W.front i) (W.jS m i) (.inr (.inl a.t)) rfl rfl oO oO (lG (.inl a.f) (fun j hj=>kM hW j oO) oO) (lG (.inl a.r) (fun j _=>lH hW hm j) oO) (kM hW i oO) (lH hW hm i) (fun x _=>TP hW i oO x) (fun x _=>Yq hW hm i x)
    have M:(r8 (W.bothR m i)).length=1001:=by rw [jd];unfold Wk.bothR;rw [KG];exact kM hW i oO
    have hone:=FX (W.bothR m i)
    have K:putCells (H++[aB.rw (List.replicate 1001 (.int .i8 0))]) H.length 0 (r8 (W.bothR m i))=some (H++[aB.rw (r8 (W.bothR m i))]):=by
     rw [iW (by rw [M,fN];omega) (by rw [fN];omega)];simp [splice,M]
    refine pU ?_
    refine stN (bU (size:=1001) rfl rfl (by exact M) (by exact hone) (by exact K)) rfl ?_
    refine kP ?_
    refine tC ?_
    have J:(H++[aB.rw (r8 (W.bothR m i))])[H.length]?=some (.rw (r8 (W.bothR m i))):=aO
    have hni2:(H++[aB.rw (r8 (W.bothR m i))]).all (fun o=>!aU o)=true:=bF hni1 rfl
    have U:(H++[aB.rw (r8 (W.bothR m i))])[mb]?=some (plM i (lefts (W.lead m i) (W.nw i) 0)):=by rw [Wv];exact aA hmp
    have ak:=hS.app [aB.rw (r8 (W.bothR m i))]
    have b4:=aQ hmp
    refine dH [(2,.p σ.length),(3,.p (σ.length+1)),(4,.slice none 0 0),(5,.slice none 0 0),(9,.map (some mb)),(11,.p H.length)] (H++[aB.rw (r8 (W.bothR m i))]) rfl tE ?_
    generalize (H++[aB.rw (r8 (W.bothR m i))])=H3 at J hni2 U ak
    generalize H.length=p at J b4
    clear K hone M hf1 a hmp hni1 hS O g hx H
    have hS:=ak
    have a:=hT.take hS.pre
    have a0:=a.t
    have a8:=take_len hS.pre
    have hcl:∀ {q o:Nat},q < σ.length→closed H3.length (.pointer (some ⟨q,o,none⟩))=true:=fun {q o} h=>(show Nat.blt q H3.length=true from Nat.blt_eq.mpr oO)
    have hcs:∀ {q o n c:Nat},q < σ.length→closed H3.length (.slice (some ⟨q,o,none⟩) n c)=true:=fun h=>bP (Nat.blt_eq.mpr oO)
    have hw:∀ X,aH (H3++X) bS (i+0)=some (.s (wB i) (W.nw i) (cW i)):=fun X=>fQ (k:=0) ((hT.w.take (aT hS.pre)).steps i hi) oO
    refine pU ?_
    rw [show H3++gJ (fun _=>true) []=H3 from bL H3]
    refine dS (ι:=Nat) (fun x=>[(2,.p σ.length),(3,.p (σ.length+1)),(4,.slice none 0 0),(5,.slice none 0 0),(9,.map (some mb)),(11,.p p),(83,.s (wB i) (W.nw i) (cW i)),(84,.i (W.nw i:Nat)),(85,.i (x:Nat))])
     (fun x mk H=>x≤W.nw i∧Mks (σ.length+2) mk H∧ST σ H tb i∧H.all (fun o=>!aU o)=true∧H[mb]?=some (plM i (lefts (W.lead m i) (W.nw i) x))∧H[p]?=some (.rw (r8 (W.bothR m i)))) (fun x=>W.nw i - x) 0 tE ⟨bN _,.nil,ak,hni2,U,J⟩ ?_
    clear hw hcs hcl a8 a0 a hS ak hni2 U J H3
    rintro x mk H ⟨hx,hM,hS,hni1,hmp,J⟩
    by_cases g:x<W.nw i
    ·have O:(x:Int)<(W.nw i:Nat):=oO
     have hd1:aJ H (wB i) x 1=some [.s (kB i x) (W.nk i x) (cK i x)]:=(hT.w.take hS.pre).ways i hi x g
     refine pU ?_
     have hf1:=KC (σ:=H++[aB.rw [.s (kB i x) (W.nk i x) (cK i x)]]++[aB.rw [.bool false]]) (v:=.s (kB i x) (W.nk i x) (cK i x))
     have ad:(H++[aB.rw [.s (kB i x) (W.nk i x) (cK i x)]]++[aB.rw [.bool false]])[H.length]?=some (.rw [.s (kB i x) (W.nk i x) (cK i x)]):=aA aO
     have a0:=ad
     refine .mk (dH [(2,.p σ.length),(3,.p (σ.length+1)),(4,.slice none 0 0),(5,.slice none 0 0),(9,.map (some mb)),(11,.p p),(83,.s (wB i) (W.nw i) (cW i)),(84,.i (W.nw i:Nat)),(85,.i (x:Nat)),(12,.i (x:Nat)),(13,.p H.length),(14,.p (H.length+1))] (H++[aB.rw [.s (kB i x) (W.nk i x) (cK i x)]]++[aB.rw [.bool false]]) rfl ⟨rfl,rfl,rfl,rfl,rfl,rfl,rfl,rfl,rfl,rfl,rfl,(by (refine congrArg (fun n=>some (Value.p n)) ?_;simp;try omega)),trivial⟩ ?_)
     apply aG
     refine pU ?_
     have be:(H++[aB.rw [.s (kB i x) (W.nk i x) (cK i x)]]++[aB.rw [.bool false]]).length=H.length+2:=oS
     have au:=((hS.app [aB.rw [.s (kB i x) (W.nk i x) (cK i x)]]).app [aB.rw [.bool false]]).app [aB.rw [.s (kB i x) (W.nk i x) (cK i x)]]
     have az:=((hM.app [aB.rw [.s (kB i x) (W.nk i x) (cK i x)]]).app [aB.rw [.bool false]]).app [aB.rw [.s (kB i x) (W.nk i x) (cK i x)]]
     have ae:(H++[aB.rw [.s (kB i x) (W.nk i x) (cK i x)]]++[aB.rw [.bool false]]++[aB.rw [.s (kB i x) (W.nk i x) (cK i x)]]).all (fun o=>!aU o)=true:=bF (bF (bF hni1 rfl) rfl) rfl
     have V:(H++[aB.rw [.s (kB i x) (W.nk i x) (cK i x)]]++[aB.rw [.bool false]]++[aB.rw [.s (kB i x) (W.nk i x) (cK i x)]])[mb]?=_:=aA (aA (aA hmp))
     have Z:(H++[aB.rw [.s (kB i x) (W.nk i x) (cK i x)]]++[aB.rw [.bool false]]++[aB.rw [.s (kB i x) (W.nk i x) (cK i x)]])[p]?=_:=aA (aA (aA J))
     have a3:(H++[aB.rw [.s (kB i x) (W.nk i x) (cK i x)]]++[aB.rw [.bool false]]++[aB.rw [.s (kB i x) (W.nk i x) (cK i x)]])[H.length+1]?=some (.rw [.bool false]):=aA (bJ oS)
     have al:(H++[aB.rw [.s (kB i x) (W.nk i x) (cK i x)]]++[aB.rw [.bool false]]++[aB.rw [.s (kB i x) (W.nk i x) (cK i x)]])[H.length+2]?=some (.rw [.s (kB i x) (W.nk i x) (cK i x)]):=bJ oS
     have a6:=hS.len
     have bh:=aQ J
     refine dH [(2,.p σ.length),(3,.p (σ.length+1)),(4,.slice none 0 0),(5,.slice none 0 0),(9,.map (some mb)),(11,.p p),(83,.s (wB i) (W.nw i) (cW i)),(84,.i (W.nw i:Nat)),(85,.i (x:Nat)),(12,.i (x:Nat)),(14,.p (H.length+1)),(91,.func (.func 258) #[] #[.p (H.length+2)])] (H++[aB.rw [.s (kB i x) (W.nk i x) (cK i x)]]++[aB.rw [.bool false]]++[aB.rw [.s (kB i x) (W.nk i x) (cK i x)]]) rfl ⟨rfl,rfl,rfl,rfl,rfl,rfl,rfl,rfl,rfl,rfl,rfl,by rw [← be];rfl,trivial⟩ ?_
     generalize (H++[aB.rw [.s (kB i x) (W.nk i x) (cK i x)]]++[aB.rw [.bool false]]++[aB.rw [.s (kB i x) (W.nk i x) (cK i x)]])=Hc at au az ae V Z a3 al
     clear a0 ad be hf1 hd1 hM hS hni1 hmp J
     generalize H.length=z at a3 al a6 bh
     clear H
     refine kG (p:=[]) (q:=[.p (z+2)]) rfl fun L hL=>?_
     obtain ⟨A,C⟩:∃ A,A=Hc++[aB.dfr,L]:=⟨_,rfl⟩
     have hAl:A.length=Hc.length+2:=by rw [C];simp
     have av:ST σ A tb i:=by rw [C];exact au.app _
     have bt:Mks (σ.length+2) mk A:=by rw [C];exact az.app _
     have b6:A.all (fun o=>!aU o)=true:=by rw [C];exact bF ae (by rw [hL];rfl)
     have b9:A[mb]?=some (plM i (lefts (W.lead m i) (W.nw i) x)):=by rw [C];exact aA V
     have a9:A[p]?=some (.rw (r8 (W.bothR m i))):=by rw [C];exact aA Z
     have F:A[z+1]?=some (.rw [.bool (W.mJ m i x 0)]):=by rw [C];exact aA a3
     have bl:A[z+2]?=some (.rw [.s (kB i x) (W.nk i x) (cK i x)]):=by rw [C];exact aA al
     have bq:A[Hc.length]?=some .dfr:=by rw [C,bE (aD _)];simp
     have ag:A[Hc.length+1]?=some L:=by rw [C,bE oO];simp
     rw [← C]
     have hbl1:=aQ al
     have u:z+1 ≠ Hc.length+1:=oO
     have bb:=hW.k i hi x g
     refine Dc (S:=fun y=>A.set (z+1) (.rw [.bool (W.mJ m i x y)])) (n:=W.nk i x) (c:=cK i x) (kf:=W.kf i x) (ik:=kB i x) (l:=Hc.length+1) (ib:=z+2) (set_self F) (fun q=>by simp) (fun q=>aV (aC bl oO) rfl) (fun q y hy=>?_) (fun q hq=>⟨(bb q hq).1,(bb q hq).2.1⟩) (by have:=hW.nk i hi x g;omega) (fun q=>(aC ag u).trans (congrArg some hL)) (fun h q=>jw (o:=.rw [.bool _]) (by exact ⟨rfl,rfl⟩) h) ⟨rfl,rfl⟩ ?_ ?_
     ·exact fH (take_set av.pre oO) (hT.w.kinks i hi x g y hy)
     ·intro y hy X QB bj
      have aq:=xH hW hi g hy
      have ar:=Aw hW hi g hy
      obtain ⟨HX,a5⟩:∃ HX,HX=A.set (z+1) (.rw [.bool (W.mJ m i x y)])++X:=⟨_,rfl⟩
      have br:ST σ HX tb i:=by rw [a5];exact (av.setX oO _).app X
      have ax:HX[p]?=some (.rw (r8 (W.bothR m i))):=by rw [a5];exact aA (aC a9 oO)
      have ap:HX[z+1]?=some (.rw [.bool (W.mJ m i x y)]):=by rw [a5];exact aA (aS F)
      have bc:HX[Hc.length+1]?=some L:=by rw [a5];exact aA (aC ag u)
      have hrd:lQ (some (Hc.length+1)) (A.length+X.length)=true:=(show Nat.blt _ _=true from Nat.blt_eq.mpr oO)
      rw [← a5]
      refine Yr ?_
      refine xG (aA (aA bc)) hL fun B hB=>?_
      obtain ⟨HB,P⟩:∃ HB,HB=(HX++[aB.rw [.i (W.kf i x y).1,.i (wL (W.kf i x) (W.nk i x) y)]]++[aB.rw [.i (W.kf i x y).2.1,.i (W.kf i x y).2.2]]).set (Hc.length+1) B:=⟨_,rfl⟩
      have hlx:=aQ bc
      have hS:ST σ HB tb i:=by rw [P];exact ((br.app _).app _).setX oO _
      have am:HB[p]?=some (.rw (r8 (W.bothR m i))):=by rw [P];exact aC (aA (aA ax)) oO
      have ac:HB[z+1]?=some (.rw [.bool (W.mJ m i x y)]):=by rw [P];exact aC (aA (aA ap)) oO
      have b7:HB[HX.length]?=some (.rw [.i (W.kf i x y).1,.i (wL (W.kf i x) (W.nk i x) y)]):=by rw [P];exact aC (aA aO) oO
      have ay:HB[HX.length+1]?=some (.rw [.i (W.kf i x y).2.1,.i (W.kf i x y).2.2]):=by rw [P];exact aC (bJ oS) oO
      refine dH [(2,.p σ.length),(3,.p (σ.length+1)),(11,.p p),(14,.p (z+1)),(15,.p HX.length),(16,.p (HX.length+1))] HB (by rw [P];rfl) ⟨rfl,rfl,rfl,rfl,rfl,(by (refine congrArg (fun n=>some (Value.p n)) ?_;simp;try omega)),trivial⟩ ?_
      have a:=hT.take hS.pre
      have a0:=a.t
      have a8:=take_len hS.pre
      have hcl:∀ {q o:Nat},q < σ.length→closed HB.length (.pointer (some ⟨q,o,none⟩))=true:=fun {q o} h=>(show Nat.blt q HB.length=true from Nat.blt_eq.mpr oO)
      have hcs:∀ {q o n c:Nat},q < σ.length→closed HB.length (.slice (some ⟨q,o,none⟩) n c)=true:=fun h=>bP (Nat.blt_eq.mpr oO)
      have hqX:∀ X,aH (HB++X) (z+1) (0+0)=some (.bool (W.mJ m i x y)):=fun X=>aF (aA ac)
      have h20X:∀ X,aJ (HB++X) HX.length 0 2=some [.i (W.kf i x y).1,.i (wL (W.kf i x) (W.nk i x) y)]:=fun X=>aV (aA b7) rfl
      have h21X:∀ X,aJ (HB++X) (HX.length+1) 0 2=some [.i (W.kf i x y).2.1,.i (W.kf i x y).2.2]:=fun X=>aV (aA ay) rfl
      have hput:∀ v X,putCells (HB++X) (z+1) 0 [v]=some ((HB++X).set (z+1) (.rw [v])):=fun v X=>fM (aA ac) oS oS rfl
      have M:(W.bothR m i).length=1001:=by unfold Wk.bothR;rw [KG];exact kM hW i oO
      have hf1:=TK (σ:=HB++([]:Heap)) (i:=p) (.inr (.inl (aA am))) M aq.1 aq.2.2 (by have:=aq.2.1;omega)
      have hf2:=yx (σ:=HB++([]:Heap)) (lG (i:=i+1) (.inl (aA a.r)) (fun j _=>lH hW hm j) oO) (lH hW hm _) ar.1 ar.2.2 (by have:=ar.2.1;omega)
      have hi1:i+1<W.ns+1:=oO
      have ba:∀ {e:Env} {b:Bool},b=W.mJ m i x (y+1)→QB .normal e [] ((HB++([]:Heap)).set (z+1) (.rw [.bool b])):=fun {e b} hb=>by
       have bp:(HB++([]:Heap)).set (z+1) (.rw [.bool b])=(A.set (z+1) (.rw [.bool (W.mJ m i x (y+1))])).set (Hc.length+1) B++X++[aB.rw [.i (W.kf i x y).1,.i (wL (W.kf i x) (W.nk i x) y)],aB.rw [.i (W.kf i x y).2.1,.i (W.kf i x y).2.2]]:=by
        rw [bL,hb,P,a5];exact FQ (aQ F) (aQ ag) u
       rw [bp,hB];exact bj _ _ _
      by_cases E:W.mJ m i x y=true
      ·refine Yr ?_
       exact ba (by simp only [Wk.mJ];rw [E];rfl)
      ·have I:W.mJ m i x y=false:=by simpa using E
       by_cases bd:jK (W.own i x y).1 (W.own i x y).2 (W.bothR m i)=true
       ·refine Yr ?_
        exact ba (by simp only [Wk.mJ];rw [I,bd];rfl)
       ·have b5:jK (W.own i x y).1 (W.own i x y).2 (W.bothR m i)=false:=by simpa using bd
        refine Yr ?_
        exact ba (by simp only [Wk.mJ];rw [I,b5];rfl)
     ·refine ⟨.ready,none,_,_,_,_,_,(aC ag u).trans (congrArg some hL),by simp,?_⟩
      show (dO 6 _) _ _ _ _
      refine uF ?_
      refine tC ?_
      have hcm:=aQ V
      have hcp:=aQ Z
      have hcl1:=au.len
      have aj:=(av.setX (i:=z+1) oO (.rw [.bool (W.mJ m i x (W.nk i x))])).setX (i:=Hc.length+1) oO .dead
      have ah:Mks (σ.length+2) (Hc.length::mk) ((A.set (z+1) (.rw [.bool (W.mJ m i x (W.nk i x))])).set (Hc.length+1) .dead):=Mks.cons ((bt.set F oS).set (aC ag u) (by rw [hL];simp)) (az.new (aD _)) oO (aC (aC bq oO) oO)
      have Q:((A.set (z+1) (.rw [.bool (W.mJ m i x (W.nk i x))])).set (Hc.length+1) .dead).all (fun o=>!aU o)=true:=ku (ku b6 rfl) rfl
      have D:((A.set (z+1) (.rw [.bool (W.mJ m i x (W.nk i x))])).set (Hc.length+1) .dead)[mb]?=some (plM i (lefts (W.lead m i) (W.nw i) x)):=aC (aC b9 oO) oO
      have T:((A.set (z+1) (.rw [.bool (W.mJ m i x (W.nk i x))])).set (Hc.length+1) .dead)[p]?=some (.rw (r8 (W.bothR m i))):=aC (aC a9 oO) oO
      have a0:((A.set (z+1) (.rw [.bool (W.mJ m i x (W.nk i x))])).set (Hc.length+1) .dead)[z+1]?=some (.rw [.bool (W.mJ m i x (W.nk i x))]):=aC (aS F) oO
      refine dH [(2,.p σ.length),(3,.p (σ.length+1)),(4,.slice none 0 0),(5,.slice none 0 0),(9,.map (some mb)),(11,.p p),(83,.s (wB i) (W.nw i) (cW i)),(84,.i (W.nw i:Nat)),(85,.i (x:Nat)),(12,.i (x:Nat)),(14,.p (z+1))] ((A.set (z+1) (.rw [.bool (W.mJ m i x (W.nk i x))])).set (Hc.length+1) .dead) rfl tE ?_
      generalize ((A.set (z+1) (.rw [.bool (W.mJ m i x (W.nk i x))])).set (Hc.length+1) .dead)=H at aj ah Q D T a0
      generalize Hc.length::mk=mk2 at ah
      have hS:=aj
      rw [show W.mJ m i x (W.nk i x)=W.lead m i x from rfl] at a0
      by_cases E:W.lead m i x=true
      ·have bn:(!W.lead m i x)=false:=by rw [E];rfl
       refine pU ?_
       exact ⟨x+1,⟨oO,ah,aj,Q,by rw [TR E];exact D,T⟩,oO,tE⟩
      ·have I:W.lead m i x=false:=by simpa using E
       have bn:(!W.lead m i x)=true:=by rw [I];rfl
       refine pU ?_
       refine stN (Bg (kv:=kv) (k:=plG i x) rfl (by exact D) rfl) rfl ?_
       rw [ae2 (II i) (ZR g) (TQ _ _ _),← TS I]
       refine pU ?_
       exact ⟨x+1,⟨oO,ah.set D (by simp [ji]),aj.setX oO _,ku Q rfl,aS D,aC T oO⟩,oO,tE⟩
    ·obtain rfl:x=W.nw i:=oO
     have O:¬ ((W.nw i:Nat):Int)<(W.nw i:Nat):=oO
     have a:=hT.take hS.pre
     have a0:=a.t
     have a8:=take_len hS.pre
     have hcl:∀ {q o:Nat},q < σ.length→closed H.length (.pointer (some ⟨q,o,none⟩))=true:=fun {q o} h=>(show Nat.blt q H.length=true from Nat.blt_eq.mpr oO)
     have hcs:∀ {q o n c:Nat},q < σ.length→closed H.length (.slice (some ⟨q,o,none⟩) n c)=true:=fun h=>bP (Nat.blt_eq.mpr oO)
     have hw:∀ X,aH (H++X) bS (i+0)=some (.s (wB i) (W.nw i) (cW i)):=fun X=>fQ (k:=0) ((hT.w.take (aT hS.pre)).steps i hi) oO
     rw [ZQ] at hmp
     have a6:=hS.len
     refine pU ?_
     rw [show H++gJ (fun _=>true) []=H from bL H]
     refine TN 3 ?_
     refine dS (ι:=Nat×Nat) (fun k=>[(3,.p (σ.length+1)),(4,.slice none 0 0),(5,dW k.2 1 ((List.range k.1).filter fun y=>W.lead m i y).length),(9,.map (some mb)),(126,.i (W.nw i:Nat)),(127,.i (k.1:Nat))])
      (fun k mk H=>k.1≤W.nw i∧Mks (σ.length+2) mk H∧ST σ H tb i∧H[mb]?=some (plM i ((List.range (W.nw i)).filter fun y=>W.lead m i y))∧σ.length+2≤k.2∧H[k.2]?=some (.gr (gu ((List.range k.1).filter fun y=>W.lead m i y)) 3)) (fun k=>W.nw i - k.1) (0,H.length) tE ⟨bN _,hM.app _,hS.app _,aA hmp,hS.len,aO⟩ ?_
     clear hw hcs hcl a8 a0 a hS hM hni1 hmp J O g hx a6 H mk
     rintro ⟨x,jo⟩ mk H ⟨hx,hM,hS,hmp,Y,hg⟩
     dsimp only at hx Y hg
     dsimp only
     obtain ⟨lk,d⟩:∃ lk,lk=(List.range x).filter fun y=>W.lead m i y:=⟨_,rfl⟩
     rw [← d] at hg
     rw [← d]
     have an:lk.length≤x:=by rw [d];exact filter_le _ _
     by_cases g:x<W.nw i
     ·have O:(x:Int)<(W.nw i:Nat):=oO
      have hgX:(H++[aB.rw [.i (x:Nat)]])[jo]?=some (.gr (gu lk) 3):=aA hg
      have hgl:(gu lk).length=lk.length*1:=by rw [wH,cI]
      by_cases E:W.lead m i x=true
      ·have hget:iH (mpL (plG i) plV ((List.range (W.nw i)).filter fun y=>W.lead m i y)) (plG i x)=some (plV x):=ae3 (II i) (List.mem_filter.2 ⟨List.mem_range.2 g,E⟩)
       have G:((List.range (x+1)).filter fun y=>W.lead m i y)=lk++[x]:=by rw [xk,← d,if_pos E]
       refine pU ?_
       have e5:dW (H++[aB.rw [.i (x:Nat)]]).length 1 (lk.length+1)=dW (H.length+1) 1 ((List.range (x+1)).filter fun y=>W.lead m i y).length:=by rw [G];simp
       have bo:=hS.len
       refine ⟨(x+1,H.length+1),⟨by dsimp only;omega,((hM.app _).set hgX oS).app _,((hS.app _).setX Y _).app _,aA (aC (aA hmp) (fun h=>by rw [h,hmp] at hg;cases hg)),by dsimp only;omega,?_⟩,by dsimp only;omega,⟨rfl,rfl,congrArg some e5,rfl,rfl,rfl,trivial⟩⟩
       dsimp only
       rw [G,BA]
       exact bJ oS
      ·have hget:iH (mpL (plG i) plV ((List.range (W.nw i)).filter fun y=>W.lead m i y)) (plG i x)=none:=acD (II i) (fun h=>E (List.mem_filter.1 h).2)
       have G:((List.range (x+1)).filter fun y=>W.lead m i y)=lk:=by rw [xk,← d,if_neg E,bL]
       refine pU ?_
       refine ⟨(x+1,jo),⟨by dsimp only;omega,hM,hS,hmp,Y,?_⟩,by dsimp only;omega,⟨rfl,rfl,by dsimp only;rw [G];rfl,rfl,rfl,rfl,trivial⟩⟩
       dsimp only
       rw [G]
       exact hg
     ·obtain rfl:x=W.nw i:=oO
      have O:¬ ((W.nw i:Nat):Int)<(W.nw i:Nat):=oO
      rw [← ao] at d
      subst d
      refine pU ?_
      have s0:fK σ.length [jo] σ.length=⟨jo,0,0⟩:=by simp [fK]
      have kj:=rC hg (hM.not hg oS)
      exact TL hM (v2:=slN σ.length lk.length) (.tmp rfl .nil) (aX.src [.rw (gu lk)] [jo] (pO hS.pre fun x hx=>by have:=(hM.2 x hx).1;omega) rfl (by simp [dF];omega) ⟨oN s0 (.inr ⟨_,kj⟩) (oM _),trivial⟩ (Ep oS s0)) ⟨rfl,rfl⟩
end Go.Proofs.YtajpgeklmcjciaaGreat
namespace Go.AH
open Go
theorem N7 {lo hi:Int} {l:List Int}:(¬ (lg lo hi l≥0))↔(∀ y ∈ l,lo≤y∧y≤hi):=by
 rw [NC]
 constructor
 ·intro h y hy
  obtain ⟨i,a,rfl⟩:=ey hy
  have:gi l i=l[i]:=by simp [gi,a]
  refine Classical.byContradiction fun hn=>h ⟨i,a,?_⟩
  rw [this];omega
 ·rintro h ⟨i,a,h2⟩
  have:gi l i=l[i]:=by simp [gi,a]
  have:=h l[i] (cP a)
  omega
end Go.AH
namespace Go.Proofs.YtajpgeklmcjciaaGreat
open Go Go.AH
attribute [local irreducible] bZ bK bM jB gy dO fC bW eU aX dV eH
theorem TT (n lo hi:Int):Ev Tryz.prog 173 [.i n,.p 0,.p 1] [.ro [.i lo],.ro [.i hi]] (.bool (decide (n<lo∨n > hi))) [.ro [.i lo],.ro [.i hi]]:=by
 refine aI 2 13 Tryz.func173 rfl rfl rfl rfl rfl ?_
 repeat' (first|refine sCm ?_|(refine gU ?_;first|refine Hu ?_|refine sK0 ?_|(refine nN ?_;first|refine st (kR rfl (by exact eX oA) rfl) rfl rfl ?_|refine st (jA rfl (by exact cZ oA) rfl) rfl rfl ?_))|(refine gG ?_;first|refine Zv ?_|(refine bV ?_;refine stG rfl (by exact cZ oA) (aK rfl oR) rfl rfl ?_)|refine SL ?_|refine stS rfl (by exact eX oA) rfl ?_|((fail_if_success (refine Vf rfl oR ?_));(refine zS rfl ?_ ?_ <;> intro _)))|refine aG ?_)
 all_goals
  refine dK (.tmp rfl .nil) (.plain rfl rfl) ⟨?_,rfl⟩
  simp only [jY,Value.bool.injEq]
  (simp;omega)
theorem TU {σ:Heap} {n lo hi:Int} {a b:Nat} (ha:dN σ a [.i lo]) (hb:dN σ b [.i hi]) (hni:σ.all (fun o=>!aU o)=true) :
  Ev Tryz.prog 173 [.i n,.p a,.p b] σ (.bool (decide (n<lo∨n > hi))) σ :=
 Ev.arrs [[.i lo],[.i hi]] [a,b] (TT n lo hi) ⟨ha,hb,trivial⟩ ⟨.int _ _,by simpa [bsR] using VQ.ptr (q:=true) (n:=2) (ρ:=bsR [a,b]) 0 0 oO,by simpa [bsR] using VQ.ptr (q:=true) (n:=2) (ρ:=bsR [a,b]) 1 0 oO,trivial⟩ rfl rfl hni
theorem LV (l:List Int) (lo hi:Int) (c:Nat) (hN:l.length≤1000000) :
  Ev Tryz.prog 102 [.s 0 l.length c,.func (.func 173) #[] #[.p 1,.p 2]] [.ro (ints l),.ro [.i lo],.ro [.i hi]] (.i (lg lo hi l)) [.ro (ints l),.ro [.i lo],.ro [.i hi]]:=by
 refine aI 3 19 Tryz.func102 rfl rfl rfl rfl rfl ?_
 repeat' (first|refine sCm ?_|refine aG ?_)
 refine iM (ι:=Nat) (fun i=>[(0,.s 0 l.length c),(1,.func (.func 173) #[] #[.p 1,.p 2]),(7,.i (l.length:Int)),(8,.i (i:Int))])
  (fun _=>[.ro (ints l),.ro [.i lo],.ro [.i hi]]) (fun i=>l.length - i) (fun i=>i≤l.length∧∀ j<i,¬ (gi l j<lo∨gi l j > hi)) 0 oS (.same tE) ⟨oO,fun j h=>oO⟩ ?_
 intro i ⟨hi',a⟩
 have d:i<l.length→aH [.ro (ints l),.ro [.i lo],.ro [.i hi]] 0 i=some (.i (gi l i)):=fun h=>gQ h
 repeat' (first|refine sCm ?_|(refine gU ?_;first|(refine bV ?_;refine st (aK rfl (by exact d oO)) rfl rfl ?_)|refine sK0 ?_|refine sK1 ?_|(refine dX ?_;refine st (bG rfl rfl rfl (by exact TU (by exact .inl rfl) (by exact .inl rfl) rfl)) rfl rfl ?_))|refine aG ?_|(refine iR rfl ?_ ?_ <;> intro _))
 ·refine dK (.tmp rfl .nil) (.plain rfl rfl) ⟨?_,rfl⟩
  simp only [jY]
  rw [rX oO oA a]
 ·refine ⟨rfl,i+1,⟨oO,fun j hj=>?_⟩,oO,.same tE⟩
  by_cases e:j=i
  ·subst e;assumption
  ·exact a j oO
 ·refine dK (.tmp rfl .nil) (.plain rfl rfl) ⟨?_,rfl⟩
  simp only [jY]
  rw [rY fun j hj=>a j oO]
theorem LW {σ:Heap} {l:List Int} {lo hi:Int} {x a b c:Nat} (hx:dN σ x (ints l)) (ha:dN σ a [.i lo]) (hb:dN σ b [.i hi]) (hN:l.length≤1000000) (hni:σ.all (fun o=>!aU o)=true) :
  Ev Tryz.prog 102 [.s x l.length c,.func (.func 173) #[] #[.p a,.p b]] σ (.i (lg lo hi l)) σ :=
 Ev.arrs [ints l,[.i lo],[.i hi]] [x,a,b] (LV l lo hi c hN) ⟨hx,ha,hb,trivial⟩
  ⟨by simpa [bsR] using VQ.slice (q:=true) (n:=3) (ρ:=bsR [x,a,b]) 0 0 l.length c c (aD _) oO,
   vsub_fn2 (by simpa [bsR] using VQ.ptr (q:=true) (n:=3) (ρ:=bsR [x,a,b]) 1 0 oO) (by simpa [bsR] using VQ.ptr (q:=true) (n:=3) (ρ:=bsR [x,a,b]) 2 0 oO),trivial⟩ (by simp [bC,dL,plain]) rfl hni
theorem FY (l:List Int) (lo hi:Int) (c:Nat) (hN:l.length≤1000000) :
  Ev Tryz.prog 172 [.s 0 l.length c,.func (.func 173) #[] #[.p 1,.p 2]] [.ro (ints l),.ro [.i lo],.ro [.i hi]] (.bool (decide (lg lo hi l≥0))) [.ro (ints l),.ro [.i lo],.ro [.i hi]]:=by
 refine aI 3 9 Tryz.func172 rfl rfl rfl rfl rfl ?_
 repeat' (first|refine sCm ?_|(refine gU ?_;first|refine sK0 ?_|(refine dX ?_;refine st (bG rfl rfl rfl (by exact LW (by exact .inl rfl) (by exact .inl rfl) (by exact .inl rfl) oO rfl)) rfl rfl ?_))|refine aG ?_)
 refine dK (.tmp rfl .nil) (.plain rfl rfl) ⟨?_,rfl⟩
 rfl
theorem FZ {σ:Heap} {l:List Int} {lo hi:Int} {x a b c:Nat} (hx:dN σ x (ints l)) (ha:dN σ a [.i lo]) (hb:dN σ b [.i hi]) (hN:l.length≤1000000) (hni:σ.all (fun o=>!aU o)=true) :
  Ev Tryz.prog 172 [.s x l.length c,.func (.func 173) #[] #[.p a,.p b]] σ (.bool (decide (lg lo hi l≥0))) σ :=
 Ev.arrs [ints l,[.i lo],[.i hi]] [x,a,b] (FY l lo hi c hN) ⟨hx,ha,hb,trivial⟩
  ⟨by simpa [bsR] using VQ.slice (q:=true) (n:=3) (ρ:=bsR [x,a,b]) 0 0 l.length c c (aD _) oO,
   vsub_fn2 (by simpa [bsR] using VQ.ptr (q:=true) (n:=3) (ρ:=bsR [x,a,b]) 1 0 oO) (by simpa [bsR] using VQ.ptr (q:=true) (n:=3) (ρ:=bsR [x,a,b]) 2 0 oO),trivial⟩ (by simp [bC,dL,plain]) rfl hni
theorem Wx (l:List Int) (lo hi:Int) (c:Nat) (hN:l.length≤1000000) :
  Ev Tryz.prog 81 [.i lo,.i hi,.s 0 l.length c] [.ro (ints l)] (.bool (decide (¬ (lg lo hi l≥0)))) [.ro (ints l)]:=by
 refine aI 1 11 Tryz.func81 rfl rfl rfl rfl rfl ?_
 repeat' (first|refine sCm ?_|(refine gU ?_;first|refine LK ?_|refine sK7 ?_|(refine dX ?_;refine st (bG rfl rfl rfl (by exact FZ (by exact .inl rfl) (by exact .inr (.inl rfl)) (by exact .inr (.inl rfl)) oO rfl)) rfl rfl ?_))|refine aG ?_)
 refine dK (.tmp rfl .nil) (.plain rfl rfl) ⟨?_,rfl⟩
 rfl
theorem Wy {σ:Heap} {l:List Int} {lo hi:Int} {x c:Nat} (hx:dN σ x (ints l)) (hN:l.length≤1000000) (hni:σ.all (fun o=>!aU o)=true) :
  Ev Tryz.prog 81 [.i lo,.i hi,.s x l.length c] σ (.bool (decide (¬ (lg lo hi l≥0)))) σ :=
 Ev.arrs [ints l] [x] (Wx l lo hi c hN) ⟨hx,trivial⟩ ⟨.int _ _,.int _ _,by simpa [bsR] using VQ.slice (q:=true) (n:=1) (ρ:=bsR [x]) 0 0 l.length c c (aD _) oO,trivial⟩ (by simp [bC]) rfl hni
theorem xq {σ:Heap} {l:List Int} {lo hi:Int} {x c:Nat} (hx:dN σ x (ints l)) (hN:l.length≤1000000) (hni:σ.all (fun o=>!aU o)=true) :
  Ev Tryz.prog 81 [.i lo,.i hi,.s x l.length c] σ (.bool (decide (∀ y ∈ l,lo≤y∧y≤hi))) σ:=by
 have h:=Wy (σ:=σ) (l:=l) (lo:=lo) (hi:=hi) (c:=c) hx hN hni
 have e:(¬ (lg lo hi l≥0))↔(∀ y ∈ l,lo≤y∧y≤hi):=Go.AH.N7
 simpa [e] using h
end Go.Proofs.YtajpgeklmcjciaaGreat
namespace Go.AH.Heat
open Go Go.AH
structure ZT (n:Nat) (kf:Nat→Int×Int×Int):Prop where
 n1:0<n
 n2:n≤12
 z:(kf 0).1=0
 k:kOk n kf
 r:∀ q,q+1<n→(kf q).2.1≤(kf (q+1)).2.1∧(kf (q+1)).2.1≤(kf q).2.2+1∧(kf q).2.2≤(kf (q+1)).2.2
theorem LX {H:Heap} {a b c:Value}:aJ (H++[aB.rw [a,b,c]]) H.length (0+1) 2=some [b,c]:=by
 unfold aJ;rw [aO];rfl
theorem xu {H:Heap} {b o:Nat} {x y z:Value} (h:aJ H b o 3=some [x,y,z]):aJ H b (o+1) 2=some [y,z]:=by
 unfold aJ at h ⊢
 cases hb:H[b]? with
 |none=>rw [hb] at h;cases h
 |some ob =>
  rw [hb] at h
  have a:∀ l:List Value,(bif Nat.ble (o+3) l.length then some ((l.drop o).take 3) else none)=some [x,y,z]→(bif Nat.ble (o+1+2) l.length then some ((l.drop (o+1)).take 2) else none)=some [y,z]:=fun l h=>by
   cases hl:Nat.ble (o+3) l.length with
   |false=>rw [hl] at h;cases h
   |true =>
    rw [hl] at h
    simp only [cond_true,Option.some.injEq] at h
    have e:l.drop (o+1)=(l.drop o).drop 1:=by rw [fk]
    have:=congrArg (List.drop 1) h
    rw [List.drop_take,← e] at this
    simpa using this
  cases ob with
  |ro l=>exact a l h
  |rw l=>exact a l h
  |gr l t=>exact a l h
  |deep q sp=>exact absurd (show none=some _ from h) oS
  |_=>cases h
end Go.AH.Heat
namespace Go.Proofs.YtajpgeklmcjciaaGreat
open Go Go.AH
attribute [local irreducible] bZ bK bM jB gy dO fC bW eU aX dV eH
open Go.AH.Heat
theorem agj {A B:Prop} (k:B) (h:Hide B→A:=by intro h_k_;(repeat' (first|refine sCm ?_|(refine gU ?_;first|refine Hu ?_|refine sK0 ?_|(refine nN ?_;first|refine st (jr rfl rfl) rfl rfl ?_|refine st (jv rfl rfl) rfl rfl ?_))|(refine gG ?_;first|refine JU ?_|(refine bV ?_;refine pI rfl (aK rfl (by rfl)) rfl rfl ?_)|(refine dX ?_;refine pI rfl (bG rfl rfl rfl (by exact xq (l:=[lo,hi]) (by exact .inr (.inl rfl)) (by simp) rfl)) rfl rfl ?_)|(refine Ba ?_;refine pI rfl (nU (by rfl) (by rfl) (by rfl) (by rfl) rfl (by rfl)) rfl rfl ?_)|refine SN rfl rfl ?_)|refine aG ?_));exact h_k_.h):A:=h ⟨k⟩
theorem ZU (lo hi:Int):Ev Tryz.prog 167 [.agg #[.i lo,.i hi]] [] (.bool (decide (0≤lo∧lo≤hi∧hi≤1000))) []:=by
 refine aI 0 16 Tryz.func167 rfl rfl rfl rfl rfl ?_
 by_cases hlh:lo≤hi
 ·refine agj ?_
  refine dK (.tmp rfl .nil) (.plain rfl rfl) ⟨?_,rfl⟩
  simp only [jY,Value.bool.injEq]
  refine decide_eq_decide.2 ⟨fun h=>?_,fun h y hy=>?_⟩
  ·have h1:=h lo oS
   have h2:=h hi oS
   omega
  ·simp only [List.mem_cons,List.not_mem_nil,or_false] at hy
   rcases hy with rfl|rfl <;> omega
 ·refine agj ?_
  refine dK (.tmp rfl .nil) (.plain rfl rfl) ⟨?_,rfl⟩
  simp only [jY,Value.bool.injEq]
  rw [eq_comm,decide_eq_false_iff_not];omega
theorem F5 {σ:Heap} {lo hi:Int} (hni:σ.all (fun o=>!aU o)=true):Ev Tryz.prog 167 [.agg #[.i lo,.i hi]] σ (.bool (decide (0≤lo∧lo≤hi∧hi≤1000))) σ:=Ev.nil (ZU lo hi) rfl rfl hni
theorem N8 {A B:Prop} (k:B) (h:Hide B→A:=by intro h_k_;(repeat' (first|refine sCm ?_|(refine gU ?_;first|refine st (Bf (l:=1) rfl rfl (by omega) (by omega)) rfl rfl ?_|(refine bV ?_;first|refine st (aK rfl (by first|exact ig rfl|exact aF a0|exact aF a2|exact aF (aA a0))) rfl rfl ?_|refine st (bD rfl (by assumption)) rfl rfl ?_)|refine LP ?_|refine sK0 ?_|refine PG ?_|refine LK ?_|refine sK3 ?_|(refine dX ?_;refine st (bG rfl rfl rfl (by exact xq (l:=[(kf (x+1)).2.1]) (.inr (.inl aO)) (by simp) hni2)) rfl rfl ?_)|refine Hw ?_|refine JV ?_)|(refine gG ?_;first|refine JR ?_|refine JU ?_|(refine bV ?_;first|refine pI rfl (aK rfl (by first|exact ig rfl|exact aF (aA a2)|exact aF (aA aO))) rfl rfl ?_|refine pI rfl (bD rfl (by exact LX)) rfl rfl ?_)|refine sK9 ?_|refine LQ ?_|(refine nN ?_;first|refine pI rfl (jr rfl rfl) rfl rfl ?_|refine pI rfl (jv rfl rfl) rfl rfl ?_)|(refine yP ?_;refine pI rfl (A8 rfl) rfl rfl ?_)|(refine dX ?_;refine pI rfl (bG rfl rfl rfl (by exact F5 hni1)) rfl rfl ?_)|refine SN rfl rfl ?_)|refine aG ?_|refine dZ rfl ?_|refine eu rfl ?_));exact h_k_.h):A:=h ⟨k⟩
theorem TV {σ:Heap} {b n c:Nat} {kf:Nat→Int×Int×Int} (hv:ZT n kf) (hc:n≤c) (hk:∀ q<n,aJ σ b (q*3) 3=some (jh (kf q))) (hni:σ.all (fun o=>!aU o)=true) :
  Ev Tryz.prog 104 [.agg #[.s b n c]] σ (.i 0) σ:=by
 have hn1:=hv.n1
 have hn2:=hv.n2
 refine aI σ.length 90 Tryz.func104 rfl rfl rfl rfl rfl ?_
 have a0:(σ++[aB.rw [.s b n c]])[σ.length]?=some (.rw [.s b n c]):=aO
 have hn0:¬ (n:Int)=0:=oO
 have hn3:¬ (n:Int) > 12:=oO
 refine N8 ?_
 refine dS (ι:=Nat) (fun k=>[(1,.p σ.length),(3,.i (if k=0 then 0 else (kf (k - 1)).1+1)),(20,.s b n c),(21,.i (n:Nat)),(22,.i (k:Nat))])
  (fun k mk H=>k≤n∧mk=[]∧H.take (σ++[aB.rw [.s b n c]]).length=σ++[aB.rw [.s b n c]]∧H.all (fun o=>!aU o)=true) (fun k=>n - k) 0 tE ⟨bN _,rfl,eZ,bF hni rfl⟩ ?_
 clear a0
 rintro k mk H ⟨hkn,rfl,hp,a⟩
 have d:H.take σ.length=σ:=by
  have:=congrArg (List.take σ.length) hp
  rw [eJ] at this
  simpa using this
 have a0:H[σ.length]?=some (.rw [.s b n c]):=by rw [iY hp oS];exact aO
 by_cases j:k<n
 ·have w:(k:Int)<(n:Nat):=oO
  have hd1:aJ H b (0+k*3) 3=some (jh (kf k)):=by rw [bA];exact fH d (hk k j)
  have f:=hv.k k j
  have C:0≤(kf k).2.1∧(kf k).2.1≤(kf k).2.2∧(kf k).2.2≤1000:=f.2.2.1
  obtain ⟨nx,g⟩:∃ nx,nx=(if k=0 then 0 else (kf (k - 1)).1+1):=⟨_,rfl⟩
  have h1:¬ (kf k).1<nx:=by
   rw [g];split
   ·omega
   ·have:=(hv.k (k - 1) oO).2.2.2 oO
    rw [show k - 1+1=k by omega] at this;omega
  have h2:¬ (kf k).1 > 1000:=oO
  have h3:k=0→¬ (kf k).1 > 0:=fun h=>by rw [h,hv.z];omega
  have hni1:(H++[aB.rw (jh (kf k))]).all (fun o=>!aU o)=true:=bF a rfl
  rw [← g]
  by_cases v:k=0
  ·have e:(k:Int)=0:=oO
   have h3:=h3 v
   refine N8 ?_
   exact ⟨k+1,⟨oO,rfl,aT hp,hni1⟩,oO,⟨rfl,by rw [if_neg oO,Nat.add_sub_cancel];rfl,rfl,rfl,rfl,trivial⟩⟩
  ·have e:¬ (k:Int)=0:=oO
   refine N8 ?_
   exact ⟨k+1,⟨oO,rfl,aT hp,hni1⟩,oO,⟨rfl,by rw [if_neg oO,Nat.add_sub_cancel];rfl,rfl,rfl,rfl,trivial⟩⟩
 ·obtain rfl:k=n:=oO
  have w:¬ (k:Int)<(k:Nat):=oO
  refine N8 ?_
  refine dS (ι:=Nat) (fun x=>[(1,.p σ.length),(57,.slice (some ⟨b,0+1*3,none⟩) (k - 1) (c - 1)),(58,.i ((k - 1:Nat):Int)),(59,.i (x:Nat))])
   (fun x mk H=>x≤k - 1∧mk=[]∧H.take (σ++[aB.rw [.s b k c]]).length=σ++[aB.rw [.s b k c]]∧H.all (fun o=>!aU o)=true) (fun x=>k - 1 - x) 0 tE ⟨bN _,rfl,hp,a⟩ ?_
  clear a0 d hp a H
  rintro x mk H ⟨hx,rfl,hp,a⟩
  have d:H.take σ.length=σ:=by
   have:=congrArg (List.take σ.length) hp
   rw [eJ] at this
   simpa using this
  have a0:H[σ.length]?=some (.rw [.s b k c]):=by rw [iY hp oS];exact aO
  by_cases hxk:x<k - 1
  ·have u:(x:Int)<((k - 1:Nat):Int):=oO
   have hd1:aJ H b (0+1*3+x*3) 3=some (jh (kf (x+1))):=by rw [show 0+1*3+x*3=(x+1)*3 by omega];exact fH d (hk (x+1) oO)
   have hd2:aJ (H++[aB.rw (jh (kf (x+1)))]) b (0+x*3+1) 2=some [.i (kf x).2.1,.i (kf x).2.2]:=by
    rw [bA];exact xu (fH (aT d) (hk x oO))
   have hr:=hv.r x oO
   have f:=hv.k x oO
   have C:0≤(kf x).2.1∧(kf x).2.1≤(kf x).2.2∧(kf x).2.2≤1000:=f.2.2.1
   have hw1:¬ ¬ (∀ y ∈ [(kf (x+1)).2.1],(kf x).2.1≤y∧y≤(kf x).2.2+1):=by simp;omega
   have a2:(H++[aB.rw (jh (kf (x+1)))]++[aB.rw [.i (kf x).2.1,.i (kf x).2.2]])[H.length]?=some (.rw (jh (kf (x+1)))):=aA aO
   have a1:(H++[aB.rw (jh (kf (x+1)))]++[aB.rw [.i (kf x).2.1,.i (kf x).2.2]])[H.length+1]?=some (.rw [.i (kf x).2.1,.i (kf x).2.2]):=bJ oS
   have hh:¬ (kf (x+1)).2.2<(kf x).2.2:=oO
   have hni2:(H++[aB.rw (jh (kf (x+1)))]++[aB.rw [.i (kf x).2.1,.i (kf x).2.2]]++[aB.rw [.i (kf (x+1)).2.1]]).all (fun o=>!aU o)=true:=bF (bF (bF a rfl) rfl) rfl
   refine N8 ?_
   exact ⟨x+1,⟨oO,rfl,aT (aT (aT hp)),hni2⟩,oO,tE⟩
  ·obtain rfl:x=k - 1:=oO
   have u:¬ ((k - 1:Nat):Int)<((k - 1:Nat):Int):=oO
   refine N8 ?_
   exact dK (.tmp rfl .nil) (.plain d rfl) ⟨rfl,rfl⟩
end Go.Proofs.YtajpgeklmcjciaaGreat
namespace Go.AH
open Go
def fIx (p:Nat→Bool) (n:Nat):Int:=match (List.range n).find? p with|some i=>i|none=>-1
theorem Es {p:Nat→Bool} {n i:Nat} (hi:i<n) (h:p i=true) (hall:∀ j<i,p j=false):fIx p n=i:=by
 have:(List.range n).find? p=some i:=by
  rw [List.find?_range_eq_some]
  exact ⟨h,List.mem_range.2 hi,fun j hj=>by rw [hall j hj];rfl⟩
 unfold fIx;rw [this]
theorem AB {p:Nat→Bool} {n:Nat} (hall:∀ j<n,p j=false):fIx p n=-1:=by
 have:(List.range n).find? p=none:=by rw [List.find?_eq_none];intro x hx;rw [hall x (List.mem_range.1 hx)];simp
 unfold fIx;rw [this]
theorem Qg {p:Nat→Bool} {n:Nat}:fIx p n≥0↔∃ j<n,p j=true:=by
 unfold fIx
 cases h:(List.range n).find? p with
 |none =>
  rw [List.find?_eq_none] at h
  constructor
  ·intro h2;simp at h2
  ·rintro ⟨j,hj,hp⟩;exact absurd hp (h j (List.mem_range.2 hj))
 |some i =>
  have h1:=List.find?_some h
  have h2:=List.mem_of_find?_eq_some h
  exact ⟨fun _=>⟨i,List.mem_range.1 h2,h1⟩,fun _=>by simp only;omega⟩
end Go.AH
namespace Go.Proofs.YtajpgeklmcjciaaGreat
open Go Go.AH
attribute [local irreducible] bZ bK bM jB gy dO fC bW eU aX dV eH
theorem zF {A B:Prop} (k:B) (h:Hide B→A:=by intro h_k_;(repeat' (first|refine sCm ?_|(refine gU ?_;first|(refine bV ?_;first|refine st (aK rfl (by exact hd1)) rfl rfl ?_|refine st (bD rfl (by exact hd1)) rfl rfl ?_)|refine sK0 ?_|(refine gIA ?_;first|refine st (nC rfl rfl (by omega)) rfl rfl ?_|refine st (iV rfl rfl (by omega)) rfl rfl ?_)|(refine dX ?_;refine st (bG rfl rfl rfl (by exact hcall k hkn)) rfl rfl ?_))|refine aG ?_|refine qR rfl (by first|rfl|exact eX (by assumption)|assumption) ?_|refine nZ rfl (by first|rfl|exact cZ (by assumption)|assumption) ?_));exact h_k_.h):A:=h ⟨k⟩
theorem acG {σ:Heap} {b n c:Nat} {el:Nat→List Value} {f:FuncId} [GoFn Tryz.prog f] {p q:List Value} {pb:Nat→Bool} (hb:∀ j<n,aJ σ b (j*2) 2=some (el j)) (hcall:∀ j<n,Ev Tryz.prog f (p++[.agg (el j).toArray]++q) σ (.bool (pb j)) σ) (hn:n≤1000000) :
  Ev Tryz.prog 284 [.s b n c,.func (.func f) p.toArray q.toArray] σ (.i (fIx pb n)) σ:=by
 refine aI σ.length 19 Tryz.func284 rfl rfl rfl rfl rfl ?_
 refine zF ?_
 refine dS (ι:=Nat) (fun k=>[(0,.s b n c),(1,.func (.func f) p.toArray q.toArray),(7,.i (n:Nat)),(8,.i (k:Nat))]) (fun k mk H=>k≤n∧mk=[]∧σ=H∧∀ j<k,pb j=false) (fun k=>n - k) 0 tE ⟨bN _,rfl,rfl,fun j h=>oO⟩ ?_
 rintro k mk H ⟨hk,rfl,rfl,a⟩
 by_cases hkn:k<n
 ·have g:(k:Int)<(n:Nat):=oO
  have hd1:aJ σ b (0+k*2) 2=some (el k):=by rw [bA];exact hb k hkn
  by_cases hp:pb k=true
  ·refine zF ?_
   refine dK (.tmp rfl .nil) .all ⟨?_,rfl⟩
   simp only [jY]
   rw [Es hkn hp a]
  ·have d:pb k=false:=by simpa using hp
   refine zF ?_
   exact ⟨k+1,⟨oO,rfl,rfl,fun j hj=>by
    by_cases e:j=k
    ·rw [e];exact d
    ·exact a j oO⟩,oO,tE⟩
 ·obtain rfl:k=n:=oO
  have g:¬ (k:Int)<(k:Nat):=oO
  refine zF ?_
  refine dK (.tmp rfl .nil) .all ⟨?_,rfl⟩
  simp only [jY]
  rw [AB a]
theorem acH {A B:Prop} (k:B) (h:Hide B→A:=by intro h_k_;(repeat' (first|refine sCm ?_|(refine gU ?_;first|refine sK0 ?_|(refine dX ?_;refine st (bG rfl rfl rfl (by exact hf1)) rfl rfl ?_))|refine aG ?_));exact h_k_.h):A:=h ⟨k⟩
theorem acI {σ:Heap} {b n c:Nat} {el:Nat→List Value} {f:FuncId} [GoFn Tryz.prog f] {p q:List Value} {pb:Nat→Bool} (hb:∀ j<n,aJ σ b (j*2) 2=some (el j)) (hcall:∀ j<n,Ev Tryz.prog f (p++[.agg (el j).toArray]++q) σ (.bool (pb j)) σ) (hn:n≤1000000) :
  Ev Tryz.prog 249 [.s b n c,.func (.func f) p.toArray q.toArray] σ (.bool (decide (∃ j<n,pb j=true))) σ:=by
 have hf1:=acG (c:=c) hb hcall hn
 refine aI σ.length 9 Tryz.func249 rfl rfl rfl rfl rfl ?_
 refine acH ?_
 refine dK (.tmp rfl .nil) .all ⟨?_,rfl⟩
 simp only [jY,Value.bool.injEq]
 exact decide_eq_decide.2 Qg
theorem acJ {σ:Heap} {b n c:Nat} {el:Nat→List Value} {f:FuncId} [GoFn Tryz.prog f] {p q:List Value} {pb:Nat→Bool} (hb:∀ j<n,aJ σ b j 1=some (el j)) (hcall:∀ j<n,Ev Tryz.prog f (p++[.agg (el j).toArray]++q) σ (.bool (pb j)) σ) (hn:n≤1000000) :
  Ev Tryz.prog 287 [.s b n c,.func (.func f) p.toArray q.toArray] σ (.i (fIx pb n)) σ:=by
 refine aI σ.length 19 Tryz.func287 rfl rfl rfl rfl rfl ?_
 refine zF ?_
 refine dS (ι:=Nat) (fun k=>[(0,.s b n c),(1,.func (.func f) p.toArray q.toArray),(7,.i (n:Nat)),(8,.i (k:Nat))]) (fun k mk H=>k≤n∧mk=[]∧σ=H∧∀ j<k,pb j=false) (fun k=>n - k) 0 tE ⟨bN _,rfl,rfl,fun j h=>oO⟩ ?_
 rintro k mk H ⟨hk,rfl,rfl,a⟩
 by_cases hkn:k<n
 ·have g:(k:Int)<(n:Nat):=oO
  have hd1:aJ σ b k 1=some (el k):=hb k hkn
  by_cases hp:pb k=true
  ·refine zF ?_
   refine dK (.tmp rfl .nil) .all ⟨?_,rfl⟩
   simp only [jY]
   rw [Es hkn hp a]
  ·have d:pb k=false:=by simpa using hp
   refine zF ?_
   exact ⟨k+1,⟨oO,rfl,rfl,fun j hj=>by
    by_cases e:j=k
    ·rw [e];exact d
    ·exact a j oO⟩,oO,tE⟩
 ·obtain rfl:k=n:=oO
  have g:¬ (k:Int)<(k:Nat):=oO
  refine zF ?_
  refine dK (.tmp rfl .nil) .all ⟨?_,rfl⟩
  simp only [jY]
  rw [AB a]
theorem acK {σ:Heap} {b n c:Nat} {el:Nat→List Value} {f:FuncId} [GoFn Tryz.prog f] {p q:List Value} {pb:Nat→Bool} (hb:∀ j<n,aJ σ b j 1=some (el j)) (hcall:∀ j<n,Ev Tryz.prog f (p++[.agg (el j).toArray]++q) σ (.bool (pb j)) σ) (hn:n≤1000000) :
  Ev Tryz.prog 255 [.s b n c,.func (.func f) p.toArray q.toArray] σ (.bool (decide (∃ j<n,pb j=true))) σ:=by
 have hf1:=acJ (c:=c) hb hcall hn
 refine aI σ.length 9 Tryz.func255 rfl rfl rfl rfl rfl ?_
 refine acH ?_
 refine dK (.tmp rfl .nil) .all ⟨?_,rfl⟩
 simp only [jY,Value.bool.injEq]
 exact decide_eq_decide.2 Qg
theorem acL {σ:Heap} {b n c:Nat} {el:Nat→List Value} {f:FuncId} [GoFn Tryz.prog f] {p q:List Value} {pb:Nat→Bool} (hb:∀ j<n,aJ σ b (j*4) 4=some (el j)) (hcall:∀ j<n,Ev Tryz.prog f (p++[.agg (el j).toArray]++q) σ (.bool (pb j)) σ) (hn:n≤1000000) :
  Ev Tryz.prog 265 [.s b n c,.func (.func f) p.toArray q.toArray] σ (.i (fIx pb n)) σ:=by
 refine aI σ.length 19 Tryz.func265 rfl rfl rfl rfl rfl ?_
 refine zF ?_
 refine dS (ι:=Nat) (fun k=>[(0,.s b n c),(1,.func (.func f) p.toArray q.toArray),(7,.i (n:Nat)),(8,.i (k:Nat))]) (fun k mk H=>k≤n∧mk=[]∧σ=H∧∀ j<k,pb j=false) (fun k=>n - k) 0 tE ⟨bN _,rfl,rfl,fun j h=>oO⟩ ?_
 rintro k mk H ⟨hk,rfl,rfl,a⟩
 by_cases hkn:k<n
 ·have g:(k:Int)<(n:Nat):=oO
  have hd1:aJ σ b (0+k*4) 4=some (el k):=by rw [bA];exact hb k hkn
  by_cases hp:pb k=true
  ·refine zF ?_
   refine dK (.tmp rfl .nil) .all ⟨?_,rfl⟩
   simp only [jY]
   rw [Es hkn hp a]
  ·have d:pb k=false:=by simpa using hp
   refine zF ?_
   exact ⟨k+1,⟨oO,rfl,rfl,fun j hj=>by
    by_cases e:j=k
    ·rw [e];exact d
    ·exact a j oO⟩,oO,tE⟩
 ·obtain rfl:k=n:=oO
  have g:¬ (k:Int)<(k:Nat):=oO
  refine zF ?_
  refine dK (.tmp rfl .nil) .all ⟨?_,rfl⟩
  simp only [jY]
  rw [AB a]
theorem acM {σ:Heap} {b n c:Nat} {el:Nat→List Value} {f:FuncId} [GoFn Tryz.prog f] {p q:List Value} {pb:Nat→Bool} (hb:∀ j<n,aJ σ b (j*4) 4=some (el j)) (hcall:∀ j<n,Ev Tryz.prog f (p++[.agg (el j).toArray]++q) σ (.bool (pb j)) σ) (hn:n≤1000000) :
  Ev Tryz.prog 194 [.s b n c,.func (.func f) p.toArray q.toArray] σ (.bool (decide (∃ j<n,pb j=true))) σ:=by
 have hf1:=acL (c:=c) hb hcall hn
 refine aI σ.length 9 Tryz.func194 rfl rfl rfl rfl rfl ?_
 refine acH ?_
 refine dK (.tmp rfl .nil) .all ⟨?_,rfl⟩
 simp only [jY,Value.bool.injEq]
 exact decide_eq_decide.2 Qg
end Go.Proofs.YtajpgeklmcjciaaGreat
namespace Go.AH.Heat
open Go Go.AH
structure uf (W:Wk):Prop where
 b1:0<W.nb
 b2:W.nb≤6
 b:∀ j<W.nb,jM (W.bf j)
 s:W.ns≤6
 w1:∀ i<W.ns,0<W.nw i
 w2:∀ i<W.ns,W.nw i≤5
 k:∀ i<W.ns,∀ k<W.nw i,ZT (W.nk i k) (W.kf i k)
theorem uf.ok {W:Wk} (h:uf W):W.Ok:=⟨h.b,fun i hi k hk=>(h.k i hi k hk).k,by have:=h.b2;omega,by have:=h.s;omega,fun i hi=>by have:=h.w2 i hi;omega,h.w1,fun i hi k hk=>by have:=(h.k i hi k hk).n2;omega⟩
end Go.AH.Heat
namespace Go.Proofs.YtajpgeklmcjciaaGreat
open Go Go.AH
attribute [local irreducible] bZ bK bM jB gy dO fC bW eU aX dV eH
open Go.AH.Heat
theorem ahw {σ:Heap} {b n c:Nat} (h1:0<n) (h2:n≤5):Ev Tryz.prog 254 [.agg #[.s b n c]] σ (.bool false) σ:=by
 refine aI σ.length 13 Tryz.func254 rfl rfl rfl rfl rfl ?_
 have a0:(σ++[aB.rw [.s b n c]])[σ.length]?=some (.rw [.s b n c]):=aO
 have hn0:¬ (n:Int)=0:=oO
 have hn3:¬ (n:Int) > 5:=oO
 repeat' (first|refine sCm ?_|(refine gU ?_;first|(refine bV ?_;refine st (aK rfl (by exact ig rfl)) rfl rfl ?_)|refine sK0 ?_|refine PG ?_)|(refine gG ?_;first|refine JU ?_|(refine bV ?_;refine pI rfl (aK rfl (by exact ig rfl)) rfl rfl ?_)|refine sK9 ?_|refine LQ ?_)|refine aG ?_)
 refine dK (.tmp rfl .nil) (.plain oS rfl) ⟨?_,rfl⟩
 simp [jY];omega
theorem WA {σ:Heap} {lo hi:Int} (h:jM (lo,hi)) (hni:σ.all (fun o=>!aU o)=true):Ev Tryz.prog 256 [.agg #[.i lo,.i hi]] σ (.bool false) σ:=by
 refine aI σ.length 6 Tryz.func256 rfl rfl rfl rfl rfl ?_
 obtain ⟨g1,g2,g3⟩:=h
 dsimp only at g1 g2 g3
 repeat' (first|refine sCm ?_|(refine gU ?_;first|(refine bV ?_;refine st (bD rfl (by exact dU rfl)) rfl rfl ?_)|refine LK ?_|(refine dX ?_;refine st (bG rfl rfl rfl (by exact F5 (bF hni rfl))) rfl rfl ?_))|refine aG ?_)
 refine dK (.tmp rfl .nil) (.plain oS rfl) ⟨?_,rfl⟩
 simp [jY];omega
theorem KH {A B:Prop} (k:B) (h:Hide B→A:=by intro h_k_;(repeat' (first|refine sCm ?_|(refine gU ?_;first|(refine bV ?_;first|refine st (aK rfl (by exact ig rfl)) rfl rfl ?_|refine st (bD rfl (by first|exact dU rfl|assumption)) rfl rfl ?_)|refine sK0 ?_|refine PG ?_|refine sK1 ?_|(refine dX ?_;refine st (bG rfl rfl rfl (by first|exact hf1|exact hf2)) rfl rfl ?_)|refine JV ?_)|(refine gG ?_;first|refine JR ?_|refine JU ?_|(refine bV ?_;refine pI rfl (aK rfl (by exact ig rfl)) rfl rfl ?_)|refine sK9 ?_|refine LQ ?_|(refine dX ?_;refine pI rfl (bG rfl rfl rfl (by exact hf1)) rfl rfl ?_))|refine aG ?_|refine dZ rfl ?_|refine eu rfl ?_));exact h_k_.h):A:=h ⟨k⟩
theorem xI {σ:Heap} {W:Wk} {bB bS cB cS:Nat} {wB cW:Nat→Nat} {kB cK:Nat→Nat→Nat} (hv:uf W) (hA:wM σ W bB bS wB cW kB cK) (hK:∀ i<W.ns,∀ k<W.nw i,W.nk i k≤cK i k) (hni:σ.all (fun o=>!aU o)=true) :
  Ev Tryz.prog 166 [.agg #[.s bB W.nb cB,.s bS W.ns cS]] σ (.i 0) σ:=by
 have h1:=hv.b1
 have h2:=hv.b2
 have h3:=hv.s
 refine aI σ.length 57 Tryz.func166 rfl rfl rfl rfl rfl ?_
 have a0:(σ++[aB.rw [.s bB W.nb cB,.s bS W.ns cS]])[σ.length]?=some (.rw [.s bB W.nb cB,.s bS W.ns cS]):=aO
 have hp:(σ++[aB.rw [.s bB W.nb cB,.s bS W.ns cS]]).take σ.length=σ:=oS
 have hni1:(σ++[aB.rw [.s bB W.nb cB,.s bS W.ns cS]]).all (fun o=>!aU o)=true:=bF hni rfl
 have d:=hA.take hp
 have hn0:¬ (W.nb:Int)=0:=oO
 have hn3:¬ (W.nb:Int) > 6:=oO
 have hn4:¬ (W.ns:Int) > 6:=oO
 have hf1:=acK (σ:=σ++[aB.rw [.s bB W.nb cB,.s bS W.ns cS]]) (c:=cS) (p:=[]) (q:=[]) (f:=254) (pb:=fun _=>false) d.steps (fun j hj=>ahw (hv.w1 j hj) (hv.w2 j hj)) oO
 have hf2:=acI (σ:=σ++[aB.rw [.s bB W.nb cB,.s bS W.ns cS]]) (c:=cB) (p:=[]) (q:=[]) (f:=256) (pb:=fun _=>false) d.bars (fun j hj=>WA (hv.b j hj) hni1) oO
 have e1:∀ n,decide (∃ j<n,(fun _:Nat=>false) j=true)=false:=fun n=>by simp
 rw [e1] at hf1 hf2
 refine KH ?_
 refine dS (ι:=Nat) (fun k=>[(37,.s bS W.ns cS),(38,.i (W.ns:Nat)),(39,.i (k:Nat))]) (fun k mk H=>k≤W.ns∧mk=[]∧H.take σ.length=σ∧H.all (fun o=>!aU o)=true) (fun k=>W.ns - k) 0 tE ⟨bN _,rfl,hp,hni1⟩ ?_
 clear hf1 hf2 d hni1 hp a0
 rintro k mk H ⟨hk,rfl,hp,hni1⟩
 by_cases hkn:k<W.ns
 ·have g:(k:Int)<(W.ns:Nat):=oO
  have hd1:aJ H bS k 1=some [.s (wB k) (W.nw k) (cW k)]:=(hA.take hp).steps k hkn
  have hw2:=hv.w2 k hkn
  refine KH ?_
  refine dS (ι:=Nat) (fun x=>[(37,.s bS W.ns cS),(38,.i (W.ns:Nat)),(39,.i (k:Nat)),(44,.s (wB k) (W.nw k) (cW k)),(45,.i (W.nw k:Nat)),(46,.i (x:Nat))]) (fun x mk H=>x≤W.nw k∧mk=[]∧H.take σ.length=σ∧H.all (fun o=>!aU o)=true) (fun x=>W.nw k - x) 0 tE ⟨bN _,rfl,aT hp,bF hni1 rfl⟩ ?_
  clear hd1 hp hni1 H
  rintro x mk H ⟨hx,rfl,hp,hni1⟩
  by_cases a:x<W.nw k
  ·have e:(x:Int)<(W.nw k:Nat):=oO
   have hd1:aJ H (wB k) x 1=some [.s (kB k x) (W.nk k x) (cK k x)]:=(hA.take hp).ways k hkn x a
   have hf1:=TV (σ:=H++[aB.rw [.s (kB k x) (W.nk k x) (cK k x)]]) (hv.k k hkn x a) (hK k hkn x a) (fun q hq=>(hA.take (aT hp)).kinks k hkn x a q hq) (bF hni1 rfl)
   refine KH ?_
   exact ⟨x+1,⟨oO,rfl,aT hp,bF hni1 rfl⟩,oO,tE⟩
  ·obtain rfl:x=W.nw k:=oO
   have e:¬ ((W.nw k:Nat):Int)<(W.nw k:Nat):=oO
   refine KH ?_
   exact ⟨k+1,⟨oO,rfl,hp,hni1⟩,oO,tE⟩
 ·obtain rfl:k=W.ns:=oO
  have g:¬ ((W.ns:Nat):Int)<(W.ns:Nat):=oO
  refine KH ?_
  exact dK (.tmp rfl .nil) (.plain hp rfl) ⟨rfl,rfl⟩
theorem ae4 {n:Nat} {π:Rho} {i j:Nat} (hi:i<n) (hj:π i=⟨j,0,0⟩):jG n π (.p i) (.p j):=by
 have:=VQ.ptr (q:=true) (n:=n) (ρ:=π) i 0 hi
 simpa [hj] using this
theorem Qh {σ:Heap} {W:Wk} {m:Int×Int} {bB bS cB cS:Nat} {wB cW:Nat→Nat} {kB cK:Nat→Nat→Nat} (hv:uf W) (hA:wM σ W bB bS wB cW kB cK) (hK:∀ i<W.ns,∀ k<W.nw i,W.nk i k≤cK i k) (hm:jM m) (hbB:bB < σ.length) (hbS:bS < σ.length) (hni:σ.all (fun o=>!aU o)=true) :
  Ev Tryz.prog 79 [.agg #[.s bB W.nb cB,.s bS W.ns cS],.agg #[.i m.1,.i m.2]] σ (.tuple #[.p σ.length,.i 0]) (σ++[.rw [.s bB W.nb cB,.s bS W.ns cS,.i m.1,.i m.2,.s (σ.length+1) (W.ns+1) (W.ns+1),.s (σ.length+2) (W.ns+1) (W.ns+1)],.rw (dD W.front 0 (W.ns+1)),.rw (dD (W.jS m) 0 (W.ns+1))]):=by
 refine aI σ.length 18 Tryz.func79 rfl rfl rfl rfl rfl ?_
 obtain ⟨H,hH⟩:∃ H,H=σ++[aB.rw [.s bB W.nb cB,.s bS W.ns cS]]++[aB.rw [.i m.1,.i m.2]]:=⟨_,rfl⟩
 have a:H.length=σ.length+2:=by rw [hH];simp
 have hp:H.take σ.length=σ:=by rw [hH];simp
 have a0:(σ++[aB.rw [.s bB W.nb cB,.s bS W.ns cS]]++[aB.rw [.i m.1,.i m.2]])[σ.length]?=some (.rw [.s bB W.nb cB,.s bS W.ns cS]):=aA aO
 have a1:(σ++[aB.rw [.s bB W.nb cB,.s bS W.ns cS]]++[aB.rw [.i m.1,.i m.2]])[(σ++[aB.rw [.s bB W.nb cB,.s bS W.ns cS]]).length]?=some (.rw [.i m.1,.i m.2]):=aO
 have c:(σ++[aB.rw [.s bB W.nb cB,.s bS W.ns cS]]++[aB.rw [.i m.1,.i m.2]]).all (fun o=>!aU o)=true:=bF (bF hni rfl) rfl
 have hf1:=xI (σ:=σ++[aB.rw [.s bB W.nb cB,.s bS W.ns cS]]++[aB.rw [.i m.1,.i m.2]]) (cB:=cB) (cS:=cS) hv (by rw [← hH];exact hA.take hp) hK c
 have hf2:=F5 (σ:=σ++[aB.rw [.s bB W.nb cB,.s bS W.ns cS]]++[aB.rw [.i m.1,.i m.2]]) (lo:=m.1) (hi:=m.2) c
 have hf3:=Wq (σ:=σ++[aB.rw [.s bB W.nb cB,.s bS W.ns cS]]++[aB.rw [.i m.1,.i m.2]]) (cB:=cB) (cS:=cS) (m:=m) hv.ok (by rw [← hH];exact hA.take hp) hm (by rw [← hH,a];omega) (by rw [← hH,a];omega)
 have d:decide (0≤m.1∧m.1≤m.2∧m.2≤1000)=true:=decide_eq_true hm
 rw [d] at hf2
 repeat' (first|refine sCm ?_|(refine gU ?_;first|(refine bV ?_;refine st (bD rfl (by first|exact aV a0 rfl|exact aV a1 rfl)) rfl rfl ?_)|refine sK0 ?_|(refine yP ?_;refine st (kW rfl) rfl rfl ?_)|(refine dX ?_;refine st (bG rfl rfl rfl (by first|exact hf1|exact hf2|exact hf3)) rfl rfl ?_))|refine aG ?_|refine eu rfl ?_)
 rw [← hH]
 have s0:fK σ.length [σ.length+2,σ.length+3,σ.length+4] σ.length=⟨σ.length+2,0,0⟩:=by simp [fK]
 have s1:fK σ.length [σ.length+2,σ.length+3,σ.length+4] (σ.length+1)=⟨σ.length+3,0,0⟩:=by simp [fK]
 have s2:fK σ.length [σ.length+2,σ.length+3,σ.length+4] (σ.length+2)=⟨σ.length+4,0,0⟩:=by simp [fK]
 have g0:(H++[.rw [.s bB W.nb cB,.s bS W.ns cS,.i m.1,.i m.2,.s (H.length+1) (W.ns+1) (W.ns+1),.s (H.length+2) (W.ns+1) (W.ns+1)],.rw (dD W.front 0 (W.ns+1)),.rw (dD (W.jS m) 0 (W.ns+1))])[σ.length+2]?=some (.rw [.s bB W.nb cB,.s bS W.ns cS,.i m.1,.i m.2,.s (H.length+1) (W.ns+1) (W.ns+1),.s (H.length+2) (W.ns+1) (W.ns+1)]):=by rw [bE oO,← a];simp
 have g1:(H++[.rw [.s bB W.nb cB,.s bS W.ns cS,.i m.1,.i m.2,.s (H.length+1) (W.ns+1) (W.ns+1),.s (H.length+2) (W.ns+1) (W.ns+1)],.rw (dD W.front 0 (W.ns+1)),.rw (dD (W.jS m) 0 (W.ns+1))])[σ.length+3]?=some (.rw (dD W.front 0 (W.ns+1))):=by rw [bE oO,show σ.length+3 - H.length=1 by omega];rfl
 have g2:(H++[.rw [.s bB W.nb cB,.s bS W.ns cS,.i m.1,.i m.2,.s (H.length+1) (W.ns+1) (W.ns+1),.s (H.length+2) (W.ns+1) (W.ns+1)],.rw (dD W.front 0 (W.ns+1)),.rw (dD (W.jS m) 0 (W.ns+1))])[σ.length+4]?=some (.rw (dD (W.jS m) 0 (W.ns+1))):=by rw [bE oO,show σ.length+4 - H.length=2 by omega];rfl
 refine dK (.tmp rfl (.tmp rfl .nil)) (aX.src (v2:=.tuple #[.p σ.length,.i 0]) [.rw [.s bB W.nb cB,.s bS W.ns cS,.i m.1,.i m.2,.s (σ.length+1) (W.ns+1) (W.ns+1),.s (σ.length+2) (W.ns+1) (W.ns+1)],.rw (dD W.front 0 (W.ns+1)),.rw (dD (W.jS m) 0 (W.ns+1))] [σ.length+2,σ.length+3,σ.length+4] (aT hp) rfl (by simp [dF]) ⟨?_,oN s1 (.inl g1) (mY _ _ _),oN s2 (.inl g2) (mY _ _ _),trivial⟩ ?_) ⟨rfl,rfl⟩
 ·refine sG s0 (.inl g0) rfl fun x h1 h2=>?_
  match x,h1 with
  |0,_=>exact kX (by simp;omega) (fE hbB) (aD _)
  |1,_=>exact kX (by simp;omega) (fE hbS) (aD _)
  |2,_=>exact aY _ rfl
  |3,_=>exact aY _ rfl
  |4,_=>exact kX oS (by rw [s1,a]) (aD _)
  |5,_=>exact kX oS (by rw [s2,a]) (aD _)
  |x+6,h1=>exact absurd h1 oS
 ·refine .tuple _ _ rfl fun i h _=>?_
  match i,h with
  |0,_=>exact ae4 oS (by rw [s0,a])
  |1,_=>exact .i 0
end Go.Proofs.YtajpgeklmcjciaaGreat
namespace Go.AH.Heat
open Go Go.AH
def yA (W:Wk) (m:Int×Int) (bB cB bS cS h:Nat):Heap :=
 [.rw [.slice (some ⟨bB,0,none⟩) W.nb cB,.slice (some ⟨bS,0,none⟩) W.ns cS,.int .i64 m.1,.int .i64 m.2,.slice (some ⟨h+1,0,none⟩) (W.ns+1) (W.ns+1),.slice (some ⟨h+2,0,none⟩) (W.ns+1) (W.ns+1)],.rw (dD W.front 0 (W.ns+1)),.rw (dD (W.jS m) 0 (W.ns+1))]
theorem KI {σ:Heap} {W:Wk} {m:Int×Int} {bB bS cB cS:Nat} {wB cW:Nat→Nat} {kB cK:Nat→Nat→Nat} (hA:wM σ W bB bS wB cW kB cK) (hbB:bB < σ.length) (hbS:bS < σ.length):sH (σ++yA W m bB cB bS cS σ.length) W m σ.length (σ.length+1) (σ.length+2) bB cB bS cS wB cW kB cK:=by
 refine ⟨?_,?_,?_,hA.take oS,by simp [yA];omega,by simp [yA];omega⟩
 ·rw [bE oO,cY];rfl
 ·rw [bE oO,show σ.length+1 - σ.length=1 by omega];rfl
 ·rw [bE oO,show σ.length+2 - σ.length=2 by omega];rfl
theorem sJ {n:Nat} {π:Rho} {a b a' b':Value} (h1:jG n π a a') (h2:jG n π b b'):jG n π (.tuple #[a,b]) (.tuple #[a',b']):=by
 refine .tuple _ _ rfl fun i h _=>?_
 match i,h with
 |0,_=>exact h1
 |1,_=>exact h2
end Go.AH.Heat
namespace Go.Proofs.YtajpgeklmcjciaaGreat
open Go Go.AH
attribute [local irreducible] bZ bK bM jB gy dO fC bW eU aX dV eH
open Go.AH.Heat
theorem WB {A B:Prop} (k:B) (h:Hide B→A:=by intro h_k_;(repeat' (first|refine sCm ?_|(refine gU ?_;first|(refine bV ?_;refine st (bD rfl (by first|exact aV a0 rfl|exact aV a1 rfl)) rfl rfl ?_)|refine sK0 ?_|(refine dX ?_;refine st (bG rfl rfl rfl (by first|exact hf1|exact hf2)) rfl rfl ?_))|refine dB (id:=4) ?_|refine aG ?_|refine dZ rfl ?_|refine eu rfl ?_));exact h_k_.h):A:=h ⟨k⟩
theorem ae5 {σ:Heap} {W:Wk} {m:Int×Int} {bB bS cB cS:Nat} {wB cW:Nat→Nat} {kB cK:Nat→Nat→Nat} (hv:uf W) (hA:wM σ W bB bS wB cW kB cK) (hK:∀ i<W.ns,∀ k<W.nw i,W.nk i k≤cK i k) (hm:jM m) (hbB:bB < σ.length) (hbS:bS < σ.length) (hni:σ.all (fun o=>!aU o)=true) {l:List Nat} (hl:l=W.someB m) :
  Ev Tryz.prog 134 [.agg #[.s bB W.nb cB,.s bS W.ns cS],.agg #[.i m.1,.i m.2]] σ (.tuple #[slN σ.length l.length,.i (if l.length=0 then 17 else 0)]) (σ++[.rw (gu l)]):=by
 refine aI σ.length 24 Tryz.func134 rfl rfl rfl rfl rfl ?_
 have a0:(σ++[aB.rw [.s bB W.nb cB,.s bS W.ns cS]]++[aB.rw [.i m.1,.i m.2]])[σ.length]?=some (.rw [.s bB W.nb cB,.s bS W.ns cS]):=aA aO
 have a1:(σ++[aB.rw [.s bB W.nb cB,.s bS W.ns cS]]++[aB.rw [.i m.1,.i m.2]])[(σ++[aB.rw [.s bB W.nb cB,.s bS W.ns cS]]).length]?=some (.rw [.i m.1,.i m.2]):=aO
 have a:(σ++[aB.rw [.s bB W.nb cB,.s bS W.ns cS]]++[aB.rw [.i m.1,.i m.2]]).all (fun o=>!aU o)=true:=bF (bF hni rfl) rfl
 have hp:(σ++[aB.rw [.s bB W.nb cB,.s bS W.ns cS]]++[aB.rw [.i m.1,.i m.2]]).take σ.length=σ:=oS
 have hle:=take_len hp
 have hlb:l.length≤6:=by
  have:=hv.b2
  rw [hl];unfold Wk.someB
  split
  ·exact bN _
  ·exact ej (filter_le _ _) this
 have hf1:=Qh (σ:=σ++[aB.rw [.s bB W.nb cB,.s bS W.ns cS]]++[aB.rw [.i m.1,.i m.2]]) (m:=m) (cB:=cB) (cS:=cS) hv (hA.take hp) hK hm oO oO a
 obtain ⟨H,hH⟩:∃ H,H=σ++[aB.rw [.s bB W.nb cB,.s bS W.ns cS]]++[aB.rw [.i m.1,.i m.2]]:=⟨_,rfl⟩
 refine WB ?_
 refine .mk (dH [(2,.p σ.length),(3,.p (σ.length+1)),(4,.slice none 0 0),(5,.i 0),(6,.p H.length)] (H++yA W m bB cB bS cS H.length) (by rw [hH];rfl) ⟨rfl,(by (refine congrArg (fun n=>some (Value.p n)) ?_;simp;try omega)),rfl,rfl,by rw [hH];rfl,trivial⟩ ?_)
 rw [← hH] at a0 a1 a hp
 have hT:=KI (cB:=cB) (cS:=cS) (m:=m) (hA.take hp) (show bB<H.length by have:=take_len hp;omega) (by have:=take_len hp;omega)
 have c:(H++yA W m bB cB bS cS H.length).all (fun o=>!aU o)=true:=bF a rfl
 have d:(H++yA W m bB cB bS cS H.length).take σ.length=σ:=aT hp
 generalize H++yA W m bB cB bS cS H.length=K at hT c d
 clear hf1
 have hf2:=IJ (sv:=-1) hv.ok hm hT c (.inl ⟨oO,hl⟩)
 apply aG
 clear hl
 rcases l with _|⟨x,r⟩
 ·refine WB ?_
  exact dK (v2:=.tuple #[.slice none 0 0,.i 17]) (.tmp rfl (.tmp rfl .nil)) (aX.src [.rw []] [σ.length] (aT d) rfl (by simp [dF]) ⟨.inl rfl,trivial⟩ (sJ .nilSlice (.i 17))) ⟨rfl,rfl⟩
 ·obtain ⟨k,hk⟩:∃ k,k=r.length:=⟨_,rfl⟩
  have hk0:¬ ((k+1:Nat):Int)=0:=oO
  rw [show (x::r).length=k+1 by rw [hk];rfl] at hf2
  rw [show (x::r).length=k+1 by rw [hk];rfl]
  refine WB ?_
  have s0:fK σ.length [K.length] σ.length=⟨K.length,0,0⟩:=by simp [fK]
  have hKl:=take_len d
  exact dK (v2:=.tuple #[slN σ.length (k+1),.i 0]) (.tmp rfl (.tmp rfl .nil)) (aX.src [.rw (gu (x::r))] [K.length] (aT d) rfl (by simp [dF];omega) ⟨oN s0 (.inl aO) (oM _),trivial⟩ (sJ (kX oS s0 (aD _)) (.i 0))) ⟨rfl,rfl⟩
end Go.Proofs.YtajpgeklmcjciaaGreat
namespace Go.AH.Heat
open Go Go.AH
def slW (q w:Nat→Nat):Nat→List Value
 |0=>[]
 |k+1=>slW q w k++[.slice (some ⟨q k,0,none⟩) (w k) (w k)]
theorem zh (q w:Nat→Nat):∀ k,(slW q w k).length=k
 |0=>rfl
 |k+1=>by rw [slW,aR,zh q w k];rfl
theorem Yt {q w:Nat→Nat}:∀ {k j:Nat},j<k→(slW q w k)[j]?=some (.s (q j) (w j) (w j))
 |0,j,h=>by omega
 |k+1,j,h=>by
  have hl:=zh q w k
  rw [slW]
  by_cases hj:j<k
  ·rw [bR oO];exact Yt hj
  ·obtain rfl:j=k:=oO
   rw [bE oO,hl,cY];rfl
theorem TW {q w:Nat→Nat} {k j:Nat} (h:j<(slW q w k).length):(slW q w k)[j]=.s (q j) (w j) (w j):=by
 have hl:=zh q w k
 have:=Yt (q:=q) (w:=w) (k:=k) (j:=j) oO
 rw [cC h] at this
 exact Option.some.inj this
theorem N9 {q q' w:Nat→Nat}:∀ {k:Nat},(∀ j<k,q j=q' j)→slW q w k=slW q' w k
 |0,_=>rfl
 |k+1,h=>by rw [slW,slW,N9 fun j hj=>h j oO,h k oO]
theorem acN (l:List Nat):(gu l).all (·.oneCell')=true:=by simp [gu,Value.oneCell']
theorem osubs_of {σ:Heap} {n:Nat} {π:Rho}:∀ {news:Heap} {k:Nat},(∀ (j:Nat) (o:aB),news[j]?=some o→xZ σ n π (π (k+j)) o)→DT σ n π k news
 |[],_,_=>trivial
 |o::r,k,h=>⟨h 0 o rfl,osubs_of (k:=k+1) fun j o' hj=>by
   have:=h (j+1) o' hj
   rwa [show k+(j+1)=k+1+j by omega] at this⟩
def Et (l:Nat→List Nat) (n:Nat):Heap:=(List.range n).map fun j=>.rw (gu (l j))
theorem F6 (l:Nat→List Nat) (n:Nat):(Et l n).length=n:=by simp [Et]
theorem ZV {l:Nat→List Nat} {n j:Nat} {o:aB} (h:(Et l n)[j]?=some o):j<n∧o=.rw (gu (l j)):=by
 have hj:j<n:=by have:=(List.getElem?_eq_some_iff.1 h).1;rwa [F6] at this
 refine ⟨hj,?_⟩
 unfold Et at h
 rw [cN,ft hj] at h
 exact (Option.some.inj h).symm
theorem aX.rowsW {σin H:Heap} {t:TypeId} {l:Nat→List Nat} {q:Nat→Nat} {g n:Nat} {f:Value} (hp:H.take σin.length=σin) (hg:H[g]?=some (.gr (slW q (fun j=>(l j).length) n) t)) (hgs:σin.length≤g)
  (hq:∀ j<n,σin.length≤q j∧H[q j]?=some (.rw (gu (l j)))) (hd:∀ i<n,∀ j<n,q i=q j→i=j) (hf:AH.plain f=true) :
  aX σin H (.tuple #[dW g 1 n,f]) (.tuple #[slN σin.length n,f]) (σin++([.rw (slW (fun j=>σin.length+1+j) (fun j=>(l j).length) n)]++Et l n)):=by
 have r:∀ j<n,q j ≠ g:=fun j hj e=>by have:=(hq j hj).2;rw [e,hg] at this;cases this
 have hll:(g::(List.range n).map q).length=n+1:=oS
 have h0:fK σin.length (g::(List.range n).map q) σin.length=⟨g,0,0⟩:=by simp [fK]
 have hj:∀ j<n,fK σin.length (g::(List.range n).map q) (σin.length+1+j)=⟨q j,0,0⟩:=fun j hj=>by
  unfold fK
  rw [if_neg oO,show σin.length+1+j - σin.length=j+1 by omega,List.getElem?_cons_succ,cN,ft hj];rfl
 refine aX.src _ (g::(List.range n).map q) hp (by simp [F6]) ?_ (osubs_of fun j o ho=>?_) (sJ (Ep oS h0) (aY _ hf))
 ·unfold dF
  rw [aE,eo,decide_eq_true_eq]
  refine ⟨fun x hx=>fq ?_,List.nodup_cons.2 ⟨fun hm=>?_,?_⟩⟩
  ·rcases List.mem_cons.1 hx with rfl|hx
   ·exact hgs
   ·obtain ⟨j,hj,rfl⟩:=List.mem_map.1 hx
    exact (hq j (List.mem_range.1 hj)).1
  ·obtain ⟨j,hj,e⟩:=List.mem_map.1 hm
   exact r j (List.mem_range.1 hj) e
  ·unfold List.Nodup
   rw [List.pairwise_map]
   exact List.Pairwise.imp_of_mem (fun hi hj p e=>p (hd _ (List.mem_range.1 hi) _ (List.mem_range.1 hj) e)) (List.nodup_range (n:=n))
 ·match j,ho with
  |0,ho =>
   cases ho
   refine sG h0 (.inr ⟨t,hg⟩) (by rw [zh,zh]) fun a h1 h2=>?_
   rw [TW h1,TW h2]
   have d:a<n:=by rw [zh] at h1;exact h1
   exact kX (by simp [F6];omega) (hj a d) (aD _)
  |j+1,ho =>
   obtain ⟨c,rfl⟩:=ZV (show (Et l n)[j]?=some o from ho)
   rw [show σin.length+(j+1)=σin.length+1+j by omega]
   exact oN (hj j c) (.inl (hq j c).2) (oM _)
def Yu (K:Heap) (n:Nat) (l:Nat→List Nat) (k:Nat×Nat×(Nat→Nat)) (mk:List Nat) (H:Heap):Prop :=
 k.1≤n∧mk=[]∧H.take K.length=K∧H.all (fun o=>!aU o)=true∧K.length≤k.2.1∧H[k.2.1]?=some (.gr (slW k.2.2 (fun j=>(l j).length) k.1) 52)∧(∀ j<k.1,K.length≤k.2.2 j∧H[k.2.2 j]?=some (.rw (gu (l j))))∧(∀ i<k.1,∀ j<k.1,k.2.2 i=k.2.2 j→i=j)
theorem Yu.next {K H:Heap} {n:Nat} {l:Nat→List Nat} {k g:Nat} {q:Nat→Nat} {A B C:aB} {S:List Value} (h:Yu K n l (k,g,q) [] H) (hk:k<n) (hA:aU A=false) (hC:aU C=false) (hB:B=.rw (gu (l k))) (hS:S=[.s (H.length+1) (l k).length (l k).length]) :
  Yu K n l (k+1,H.length+3,fun j=>if j=k then H.length+1 else q j) [] ((H++[A]++[B]++[C]).set g .dead++[.gr (slW q (fun j=>(l j).length) k++S) 52]):=by
 obtain ⟨_,_,h1,h2,h3,h4,h5,h6⟩:=h
 subst hB hS
 dsimp only at h3 h4 h5 h6
 have hgl:=aQ h4
 have hle:=take_len h1
 refine ⟨hk,rfl,aT (take_set (aT (aT (aT h1))) h3),bF (ku (bF (bF (bF h2 (by simp [hA])) rfl) (by simp [hC])) rfl) rfl,by dsimp only;omega,?_,?_,?_⟩ <;> dsimp only
 ·rw [slW,if_pos rfl,N9 (q:=fun j=>if j=k then H.length+1 else q j) (q':=q) fun j hj=>if_neg oO]
  exact bJ oS
 ·intro j hj
  by_cases a:j=k
  ·subst a
   rw [if_pos rfl]
   exact ⟨oO,aA (aC (aA (bJ oS)) oO)⟩
  ·rw [if_neg a]
   have h7:=(h5 j oO).2
   refine ⟨(h5 j oO).1,aA (aC (aA (aA (aA h7))) fun e=>?_)⟩
   rw [← e,h4] at h7;cases h7
 ·intro i hi j hj
  have d:∀ j<k,q j<H.length:=fun j hj=>aQ (h5 j hj).2
  by_cases c:i=k
  ·subst c
   by_cases a:j=i
   ·exact fun _=>a.symm
   ·rw [if_pos rfl,if_neg a]
    have:=d j oO
    omega
  ·by_cases a:j=k
   ·subst a
    rw [if_neg c,if_pos rfl]
    have:=d i oO
    omega
   ·rw [if_neg c,if_neg a]
    exact h6 i oO j oO
end Go.AH.Heat
namespace Go.Proofs.YtajpgeklmcjciaaGreat
open Go Go.AH
attribute [local irreducible] bZ bK bM jB gy dO fC bW eU aX dV eH
open Go.AH.Heat
theorem KJ {A B:Prop} (k:B) (h:Hide B→A:=by intro h_k_;(repeat' (first|refine sCm ?_|(refine gU ?_;first|refine st (acw rfl rfl rfl) rfl rfl ?_|refine st (XB rfl rfl (cU _) (by exact hcl1 _) (by exact hone) (by exact hput _ (by rw [pY];exact cI _) (cU _))) rfl rfl ?_|refine st (zY (by rfl) (by rfl) rfl rfl (aD _) (by omega) (by omega)) rfl rfl ?_|refine st (iQ (t:=58) (by rfl) (by rfl) rfl (by exact hgX _ _ _) (by exact hgl1) rfl (dU rfl) (by omega) rfl (by omega) (by omega)) rfl rfl ?_|(refine bV ?_;first|refine st (aK rfl (by exact aF a0)) rfl rfl ?_|refine st (bD rfl (by first|exact aV a0 rfl|exact aV a1 rfl)) rfl rfl ?_)|refine sK0 ?_|(refine dX ?_;refine st (bG rfl rfl rfl (by first|exact hf1|exact hf2|exact hf3)) rfl rfl ?_)|refine Hw ?_)|refine dB (id:=4) ?_|refine aG ?_|refine dZ rfl ?_|refine eu rfl ?_));exact h_k_.h):A:=h ⟨k⟩
theorem Oa {σ:Heap} {W:Wk} {m:Int×Int} {bB bS cB cS:Nat} {wB cW:Nat→Nat} {kB cK:Nat→Nat→Nat} (hv:uf W) (hA:wM σ W bB bS wB cW kB cK) (hK:∀ i<W.ns,∀ k<W.nw i,W.nk i k≤cK i k) (hm:jM m) (hbB:bB < σ.length) (hbS:bS < σ.length) (hni:σ.all (fun o=>!aU o)=true) (hl:W.someB m ≠ []) {l:Nat→List Nat} (hlW:∀ i<W.ns,l i=W.Az m i) :
  Ev Tryz.prog 21 [.agg #[.s bB W.nb cB,.s bS W.ns cS],.agg #[.i m.1,.i m.2]] σ (.tuple #[slN σ.length W.ns,.i 0]) (σ++([.rw (slW (fun j=>σ.length+1+j) (fun j=>(l j).length) W.ns)]++Et l W.ns)):=by
 refine aI σ.length 46 Tryz.func21 rfl rfl rfl rfl rfl ?_
 have a0:(σ++[aB.rw [.s bB W.nb cB,.s bS W.ns cS]]++[aB.rw [.i m.1,.i m.2]])[σ.length]?=some (.rw [.s bB W.nb cB,.s bS W.ns cS]):=aA aO
 have a1:(σ++[aB.rw [.s bB W.nb cB,.s bS W.ns cS]]++[aB.rw [.i m.1,.i m.2]])[(σ++[aB.rw [.s bB W.nb cB,.s bS W.ns cS]]).length]?=some (.rw [.i m.1,.i m.2]):=aO
 have a:(σ++[aB.rw [.s bB W.nb cB,.s bS W.ns cS]]++[aB.rw [.i m.1,.i m.2]]).all (fun o=>!aU o)=true:=bF (bF hni rfl) rfl
 have hp:(σ++[aB.rw [.s bB W.nb cB,.s bS W.ns cS]]++[aB.rw [.i m.1,.i m.2]]).take σ.length=σ:=oS
 have y:=take_len hp
 have hf1:=Qh (σ:=σ++[aB.rw [.s bB W.nb cB,.s bS W.ns cS]]++[aB.rw [.i m.1,.i m.2]]) (m:=m) (cB:=cB) (cS:=cS) hv (hA.take hp) hK hm oO oO a
 obtain ⟨H,hH⟩:∃ H,H=σ++[aB.rw [.s bB W.nb cB,.s bS W.ns cS]]++[aB.rw [.i m.1,.i m.2]]:=⟨_,rfl⟩
 refine KJ ?_
 refine .mk (dH [(2,.p σ.length),(3,.p (σ.length+1)),(4,.slice none 0 0),(5,.i 0),(6,.p H.length)] (H++yA W m bB cB bS cS H.length) (by rw [hH];rfl) ⟨rfl,(by (refine congrArg (fun n=>some (Value.p n)) ?_;simp;try omega)),rfl,rfl,by rw [hH];rfl,trivial⟩ ?_)
 rw [← hH] at a0 a1 a hp
 have hT:=KI (cB:=cB) (cS:=cS) (m:=m) (hA.take hp) (show bB<H.length by have:=take_len hp;omega) (by have:=take_len hp;omega)
 have c:(H++yA W m bB cB bS cS H.length).all (fun o=>!aU o)=true:=bF a rfl
 have z:(H++yA W m bB cB bS cS H.length).take σ.length=σ:=aT hp
 have f:(H++yA W m bB cB bS cS H.length)[σ.length]?=some (.rw [.s bB W.nb cB,.s bS W.ns cS]):=aA a0
 generalize H++yA W m bB cB bS cS H.length=K at hT c z f
 generalize H.length=tb at hT
 generalize tb+1=fb at hT
 generalize tb+2=rb at hT
 clear hf1 a0 a1 a hp hH H hA hni hK y
 have hf2:=IJ (sv:=-1) hv.ok hm hT c (.inl ⟨oO,rfl⟩)
 obtain ⟨k0,D⟩:∃ k0,(W.someB m).length=k0+1:=by
  rcases hc:W.someB m with _|⟨x,r⟩
  ·exact absurd hc hl
  ·exact ⟨r.length,rfl⟩
 rw [D] at hf2
 have G:¬ ((k0+1:Nat):Int)=0:=oO
 apply aG
 have a0:(K++[aB.rw (gu (W.someB m))])[σ.length]?=some (.rw [.s bB W.nb cB,.s bS W.ns cS]):=aA f
 refine KJ ?_
 have E:=hT.take (aT (X:=[aB.rw (gu (W.someB m))]) (eZ (l:=K)))
 have w:(K++[aB.rw (gu (W.someB m))]).take σ.length=σ:=aT z
 have e:(K++[aB.rw (gu (W.someB m))]).all (fun o=>!aU o)=true:=bF c rfl
 generalize K++[aB.rw (gu (W.someB m))]=K2 at a0 E w e
 clear hf2 D G hT c z f
 have y:=take_len w
 have hns3:=hv.s
 refine TN 52 ?_
 refine dS (ι:=Nat×Nat×(Nat→Nat)) (fun k=>[(2,.p σ.length),(3,.p (σ.length+1)),(4,.slice none 0 0),(5,.i 0),(6,.p tb),(8,dW k.2.1 1 k.1),(27,.i (W.ns:Nat)),(28,.i (k.1:Nat))])
  (Yu K2 W.ns l)
  (fun k=>W.ns - k.1) (0,K2.length,id) tE ⟨bN _,rfl,by simp,bF e rfl,aD _,aO,fun j hj=>absurd hj (Nat.not_lt_zero _),fun j hj=>absurd hj (Nat.not_lt_zero _)⟩ ?_
 rintro ⟨k,g,q⟩ mk H hP
 obtain ⟨hk,rfl,v,a,hgl,hg,hq,hd⟩:=id hP
 dsimp only at hk hgl hg hq hd
 dsimp only
 have hKl:=take_len v
 by_cases hkn:k<W.ns
 ·have F:(k:Int)<(W.ns:Nat):=oO
  have hf3:=IJ (sv:=(k:Nat)) hv.ok hm (E.take v) a (.inr ⟨k,rfl,hkn,hlW k hkn⟩)
  obtain ⟨lk,d⟩:∃ lk,lk=l k:=⟨_,rfl⟩
  rw [← d] at hf3
  have u:lk.length≤5:=by
   rw [d,hlW k hkn];unfold Wk.Az
   split
   ·exact bN _
   ·exact ej (filter_le _ _) (hv.w2 k hkn)
  have hgX:∀ A B C:aB,(H++[A]++[B]++[C])[g]?=some (.gr (slW q (fun j=>(l j).length) k) 52):=fun A B C=>aA (aA (aA hg))
  have hgl1:(slW q (fun j=>(l j).length) k).length=k*1:=by rw [zh,cI]
  have hcl1:∀ Y,aJ (H++[aB.rw (gu lk)]++Y) H.length 0 (lk.length*1)=some (gu lk):=fun Y=>aV (aA aO) (by rw [wH,cI])
  have hone:(gu lk).all (·.oneCell')=true:=acN lk
  have hput:∀ cs:List Value,cs.length=lk.length→0<lk.length→putCells (H++[aB.rw (gu lk)]++[.rw cs]) (H++[aB.rw (gu lk)]).length 0 (gu lk)=some (H++[aB.rw (gu lk)]++[.rw (gu lk)]):=fun cs hcs h0=>by
   rw [iW (by rw [hcs,wH];exact aD _) oO];simp [splice,wH,hcs]
  rcases lk with _|⟨x,r⟩
  ·refine KJ ?_
   have eB:aB.rw (iG (dR (Value.int IntKind.i64 0)) 0)=.rw (gu (l k)):=by rw [← d];rfl
   have eS:splice (iG (dR (Value.slice none 0 0)) 1) (0*1) (dR (Value.s ((H++[aB.rw (gu [])]).length) 0 0))=[.s (H.length+1) (l k).length (l k).length]:=by rw [← d,aR];rfl
   exact ⟨(k+1,H.length+3,fun j=>if j=k then H.length+1 else q j),hP.next hkn rfl rfl eB eS,by dsimp only;omega,⟨rfl,rfl,rfl,rfl,rfl,congrArg (fun n=>some (dW n 1 (k+1))) oS,rfl,rfl,trivial⟩⟩
  ·have hr5:r.length+1≤5:=u
   refine KJ ?_
   have eB:aB.rw (gu (x::r))=.rw (gu (l k)):=by rw [← d]
   have eS:splice (iG (dR (Value.slice none 0 0)) 1) (0*1) (dR (Value.s ((H++[aB.rw (gu (x::r))]).length) (r.length+1) (r.length+1)))=[.s (H.length+1) (l k).length (l k).length]:=by rw [← d,aR];rfl
   exact ⟨(k+1,H.length+3,fun j=>if j=k then H.length+1 else q j),hP.next hkn rfl rfl eB eS,by dsimp only;omega,⟨rfl,rfl,rfl,rfl,rfl,congrArg (fun n=>some (dW n 1 (k+1))) oS,rfl,rfl,trivial⟩⟩
 ·obtain rfl:k=W.ns:=oO
  have F:¬ ((W.ns:Nat):Int)<(W.ns:Nat):=oO
  have I:H.take σ.length=σ:=by
   have e1:(H.take K2.length).take σ.length=σ:=by rw [v];exact w
   rwa [eJ,fj y] at e1
  refine KJ ?_
  exact dK (v2:=.tuple #[slN σ.length W.ns,.i 0]) (.tmp rfl (.tmp rfl .nil)) (aX.rowsW I hg oO (fun j hj=>⟨by have:=(hq j hj).1;omega,(hq j hj).2⟩) hd rfl) ⟨rfl,rfl⟩
end Go.Proofs.YtajpgeklmcjciaaGreat
namespace Go.AH.Heat
open Go Go.AH
def nS (kf:Nat→Int×Int×Int) (h:Int):Nat→Nat
 |0=>0
 |i+1=>if (kf (i+1)).1≤h then i+1 else nS kf h i
theorem AL (kf:Nat→Int×Int×Int) (h:Int):∀ i,nS kf h i≤i
 |0=>aD _
 |i+1=>by unfold nS;split;exact aD _;have:=AL kf h i;omega
def qp (n:Nat) (kf:Nat→Int×Int×Int) (h:Int):Int×Int:=(kf (nS kf h (n - 1))).2
def BD (σ:Heap) (ik n:Nat) (kf:Nat→Int×Int×Int):Prop:=∀ q<n,aJ σ ik (q*3) 3=some (jh (kf q))
theorem BD.app {σ:Heap} {ik n:Nat} {kf:Nat→Int×Int×Int} (h:BD σ ik n kf) (X:Heap):BD (σ++X) ik n kf:=fun q hq=>by rw [iT (dJ (h q hq))];exact h q hq
end Go.AH.Heat
namespace Go.Proofs.YtajpgeklmcjciaaGreat
open Go Go.AH
attribute [local irreducible] bZ bK bM jB gy dO fC bW eU aX dV eH
open Go.AH.Heat
theorem WC {A B:Prop} (k:B) (h:Hide B→A:=by intro h_k_;(repeat' (first|refine sCm ?_|(refine gU ?_;first|(refine bV ?_;first|refine st (aK rfl (by first|exact aF a0|exact hq0)) rfl rfl ?_|refine st (bD rfl (by exact hq2)) rfl rfl ?_)|refine sK8 ?_|refine sK0 ?_|refine sK3 ?_|(refine gV ?_;refine stN (bU rfl rfl rfl rfl (by exact hput)) rfl ?_))|refine aG ?_|refine dZ rfl ?_|refine eu rfl ?_));exact h_k_.h):A:=h ⟨k⟩
theorem AO {σ:Heap} {ik n c:Nat} {kf:Nat→Int×Int×Int} {h:Int} (hv:0<n) (hn:n≤1000000) (hz:(kf 0).1≤h) (hk:BD σ ik n kf) :
  Ev Tryz.prog 82 [.agg #[.s ik n c],.i h] σ (.agg #[.i (qp n kf h).1,.i (qp n kf h).2]) σ:=by
 refine aI σ.length 26 Tryz.func82 rfl rfl rfl rfl rfl ?_
 have a0:(σ++[aB.rw [.s ik n c]]++[aB.rw [.i 0,.i 0]])[σ.length]?=some (.rw [.s ik n c]):=aA aO
 have hput:putCells (σ++[aB.rw [.s ik n c]]++[aB.rw [.i 0,.i 0]]) (σ.length+1) 0 [.i (qp n kf h).1,.i (qp n kf h).2]=some (σ++[aB.rw [.s ik n c]]++[aB.rw [.i (qp n kf h).1,.i (qp n kf h).2]]):=by
  have:=iW (σ:=σ++[aB.rw [.s ik n c]]) (cs:=[.i 0,.i 0]) (vs:=[.i (qp n kf h).1,.i (qp n kf h).2]) (aD _) (cU _)
  rwa [aR] at this
 refine WC ?_
 have a:=(hk.app [aB.rw [.s ik n c]]).app [aB.rw [.i 0,.i 0]]
 obtain ⟨K,hK⟩:∃ K,K=σ++[aB.rw [.s ik n c]]++[aB.rw [.i 0,.i 0]]:=⟨_,rfl⟩
 rw [← hK] at a0 a hput
 refine dS (ι:=Nat) (fun i=>[(1,.i h),(2,.p σ.length),(4,.p (σ.length+1)),(5,.i (i:Nat))])
  (fun i mk H=>i<n∧mk=[]∧nS kf h (n - 1)=nS kf h i∧H=K) (fun i=>i) (n - 1) ⟨rfl,rfl,congrArg (fun m=>some (Value.p m)) oS,congrArg (fun m=>some (Value.i m)) oO,trivial⟩ ⟨oO,rfl,rfl,hK.symm⟩ ?_
 rintro i mk H ⟨hi,rfl,hl,rfl⟩
 have d:=a i hi
 have hq0:aH H ik (0+i*3+0)=some (.i (kf i).1):=by rw [bA];exact fQ d oO
 have hq2:aJ H ik (0+i*3+1) 2=some [.i (kf i).2.1,.i (kf i).2.2]:=by rw [bA];exact xu d
 by_cases hgt:(kf i).1 > h
 ·have hi1:1≤i:=by
   rcases i with _|i
   ·omega
   ·omega
  refine WC ?_
  refine ⟨i - 1,⟨oO,rfl,?_,rfl⟩,oO,⟨rfl,rfl,rfl,congrArg (fun m=>some (Value.i m)) oO,trivial⟩⟩
  rw [hl]
  obtain ⟨j,rfl⟩:∃ j,i=j+1:=⟨i - 1,oO⟩
  rw [nS,if_neg oO];rfl
 ·have he:nS kf h (n - 1)=i:=by
   rw [hl]
   rcases i with _|i
   ·rfl
   ·rw [nS,if_pos oO]
  have e1:(qp n kf h).1=(kf i).2.1:=by unfold qp;rw [he]
  have e2:(qp n kf h).2=(kf i).2.2:=by unfold qp;rw [he]
  rw [e1,e2] at hput
  rw [e1,e2]
  refine WC ?_
  exact dK (.cellN inferInstance rfl (aV (bJ oS) rfl) .nil) (aX.plain oS rfl) ⟨rfl,rfl⟩
end Go.Proofs.YtajpgeklmcjciaaGreat
namespace Go.AH
open Go
def setB (w:World) (r:Nat) (o:Obj):World:={ w with heap:=w.heap.setIfInBounds r o }
theorem ZW (w:World) (r:Nat) (o o':Obj):setB (setB w r o) r o'=setB w r o':=by simp [setB]
theorem acO {w:World} {r:Nat} {o o':Obj} (h:w.heap[r]?=some o):(setB w r o').heap[r]?=some o':=(MapKept.heap_set h).1
theorem ZX {w:World} {r:Nat} {o:Obj} (h:w.heap[r]?=some o):setB w r o=w:=by
 unfold setB
 have:w.heap.setIfInBounds r o=w.heap:=by
  apply Array.ext_getElem?
  intro i
  by_cases hi:i=r
  ·subst hi;rw [(MapKept.heap_set (o':=o) h).1,h]
  ·rw [(MapKept.heap_set (o':=o) h).2 i hi]
 rw [this]
section
variable {α:Type} {kv:α→Value} {P:Program}
theorem WE [DecidableEq α] {t kt et size bytes:Nat} {agg:Bool} {z:Value} [hm:Mp P t kt et] [hk:KT P kt kv] [ht:Ty P et size agg z bytes] (hz:plain z=true) {w:World} {r n clock:Nat} {ρ:Rho} {ents:Array MapEntry} {l:List (α×Value)} {k:α}
  (hh:w.heap[r]?=some (.map ents clock)) (hM:YT n ρ (l.map fun p=>(kv p.1,p.2)) ents clock) {v0:Value} (hv:iH l k=some v0∨iH l k=none∧v0=z) :
  ∃ (u0:Value) (b:Nat) (w1:World),gq n ρ v0 u0 ∧
   (∀ (ev:Operand→Value) (o:Oper) (x y:Operand),o.op=.mapEntry t x y→ev x=.map (some r)→ev y=kv k→(execOp ev o).run P w=.ok (.value (.tuple #[u0,goInt b])) w1) ∧
   (∀ (ev:Operand→Value) (o:Oper) (x y:Operand),o.op=.lookup t x y false→ev x=.map (some r)→ev y=kv k→(execOp ev o).run P w=.ok (.value u0) w∧(execOp ev o).run P w1=.ok (.value u0) w1) ∧
   (∀ val:Value,∃ w2,(∀ (ev:Operand→Value) (o:Oper) (x s u:Operand),o.op=.entryStore t x s u→ev x=.map (some r)→ev s=goInt b→ev u=val→(execOp ev o).run P w1=.ok .skip w2) ∧
    (∀ (ev:Operand→Value) (o:Oper) (x y u:Operand),o.op=.mapUpdate t x y u→ev x=.map (some r)→ev y=kv k→ev u=val→(execOp ev o).run P w=.ok .skip w2)):=by
 obtain ⟨hl,D⟩:=o8 hM
 have d:=hk.find w k ents.toList (l.map (·.1)) hl D
 obtain ⟨m1,m2,m3⟩:=hM
 simp only [cQ] at m1
 have O:(ents.toList.map (·.born)).Nodup:=by
  unfold List.Nodup
  rw [List.pairwise_map,List.pairwise_iff_getElem]
  intro i j hi hj V
  have:=m3 i j (oU hi) (oU hj) V
  simp only [ee]
  omega
 cases hf:(l.map (·.1)).findIdx? (fun q=>decide (k=q)) with
 |none =>
  rw [hf] at d
  have hg:iH l k=none:=by unfold iH;rw [hf]
  have M:v0=z:=by
   rcases hv with h|⟨_,h⟩
   ·rw [hg] at h;cases h
   ·exact h
  subst M
  have U:(ents.push ⟨kv k,v0,clock⟩).toList.length=(l.map (·.1)++[k]).length:=by simp [m1]
  have g:=fun w=>hk.find w k (ents.push ⟨kv k,v0,clock⟩).toList (l.map (·.1)++[k]) U (fun j h1 h2=>by
   by_cases hj:j<l.length
   ·have:=D j (by simp;omega) (oU hj)
    simp only [ee] at this ⊢
    rw [Array.getElem_push_lt oO,eW (oU hj)];exact this
   ·have F:j=ents.size:=by simp at h2;omega
    subst F
    simp only [ee,Array.getElem_push_eq]
    rw [eV (by simp;omega)];simp)
  have C:(l.map (·.1)++[k]).findIdx? (fun q=>decide (k=q))=some l.length:=by
   rw [List.findIdx?_append,hf];simp
  rw [C] at g
  have S:(ents.push ⟨kv k,v0,clock⟩).toList[l.length]?=some ⟨kv k,v0,clock⟩:=by simp [← m1]
  simp only [S,eh] at g
  simp only [Array.toList_push] at g
  have N:=acO (o':=.map (ents.push ⟨kv k,v0,clock⟩) (clock+1)) hh
  refine ⟨v0,clock,setB w r (.map (ents.push ⟨kv k,v0,clock⟩) (clock+1)),aY v0 hz,fun ev o x y ho hx hy=>?_,fun ev o x y ho hx hy=>⟨?_,?_⟩,fun val=>⟨setB w r (.map (ents.push ⟨kv k,val,clock⟩) (clock+1)),fun ev o x s u ho hx hs hu=>?_,fun ev o x y u ho hx hy hu=>?_⟩⟩
  ·simp [execOp,ho,Instr.mapEntry,run_underlying hm.und,hx,hy,MapKept.run_getObj_map hh,hk.check,d,ht.zeroV,MapKept.run_setObj_map _ hh,Result.andThen,setB]
  ·simp [execOp,ho,Instr.lookup,run_underlying hm.und,hx,hy,MapKept.run_getObj_map hh,hk.check,d,Result.andThen,ht.zeroV]
  ·simp [execOp,ho,Instr.lookup,run_underlying hm.und,hx,hy,MapKept.run_getObj_map N,hk.check,g,Result.andThen]
  ·have C:(ents.push ⟨kv k,v0,clock⟩).findIdx? (fun e=>((e.born:Nat):Int) == ((clock:Nat):Int))=some ents.size:=by
    rw [WideElems.findIdx_arr]
    exact WideElems.findIdx_born (l:=(ents.push ⟨kv k,v0,clock⟩).toList) (j:=ents.size) (e0:=⟨kv k,v0,clock⟩) (by
     simp only [Array.toList_push,eC,cG,dz]
     refine List.nodup_append.2 ⟨O,by simp,fun a ha c hc e1=>?_⟩
     simp only [fc] at hc
     obtain ⟨x,hx,rfl⟩:=List.mem_map.1 ha
     obtain ⟨i,hi,rfl⟩:=List.mem_iff_getElem.1 hx
     have R:i<ents.size:=by simpa using hi
     have:=(m2 i (by simp;omega) R).2.2.2
     simp only [ee] at e1
     omega) oS
   have G:(ents.push ⟨kv k,v0,clock⟩).modify ents.size (fun e=>{ e with val:=val })=ents.push ⟨kv k,val,clock⟩:=by
    apply Array.ext'
    rw [Array.toList_modify,Array.toList_push,Array.toList_push,← Array.length_toList,WideElems.modify_last]
   have v:=MapKept.run_setObj_map (P:=P) (.map (ents.push ⟨kv k,val,clock⟩) (clock+1)) N
   have e2:({ setB w r (.map (ents.push ⟨kv k,v0,clock⟩) (clock+1)) with heap:=(setB w r (.map (ents.push ⟨kv k,v0,clock⟩) (clock+1))).heap.setIfInBounds r (.map (ents.push ⟨kv k,val,clock⟩) (clock+1)) }:World)=setB w r (.map (ents.push ⟨kv k,val,clock⟩) (clock+1)):=ZW _ _ _ _
   rw [e2] at v
   simp [execOp,ho,Instr.entryStore,hx,hs,hu,MapKept.run_getObj_map N,Go.asInt,Go.asIntOf,goInt,C,G,v,Result.andThen]
  ·simp [execOp,ho,Instr.mapUpdate,run_underlying hm.und,hx,hy,hu,MapKept.run_getObj_map hh,hk.check,d,MapKept.run_setObj_map _ hh,Result.andThen,setB]
 |some j =>
  rw [hf] at d
  have L:j<l.length:=by have:=(List.findIdx?_eq_some_iff_findIdx_eq.1 hf).1;simpa using this
  have T:(l.map (·.1))[j]'(oU L)=k:=by
   have:=List.findIdx?_eq_some_iff_getElem.1 hf
   obtain ⟨h1,h2,_⟩:=this
   exact (of_decide_eq_true h2).symm
  have F:j<ents.size:=oO
  have f:ents.toList[j]?=some ents[j]:=by simp [F]
  simp only [f,eh] at d
  have E:ents[j].key=kv k:=by
   have:=D j (oU F) (oU L)
   rw [T] at this
   simpa using this
  have K:∀ w,(Instr.keyThatStays (kv k) (kv k)).run P w=.ok (kv k) w:=fun w=>by simp [Instr.keyThatStays,hk.same]
  have Q:iH l k=some l[j].2:=by unfold iH;rw [hf];simp [L]
  have M:v0=l[j].2:=by
   rcases hv with h|⟨h,_⟩
   ·rw [Q] at h;exact (Option.some.inj h).symm
   ·rw [Q] at h;cases h
  have I:=(m2 j (oU L) F).2.2.1
  simp only [cL] at I
  have J:ents.modify j (fun e=>{ e with key:=kv k })=ents:=by
   apply Array.ext'
   rw [Array.toList_modify,ChangeMaps.modify_eq_set _ _ _ _ f]
   have:({ ents[j] with key:=kv k }:MapEntry)=ents[j]:=by rw [← E]
   rw [this]
   exact WideElems.set_self _ _ _ f
  have v:∀ o:Obj,(setObj r o).run P w=.ok () (setB w r o):=fun o=>MapKept.run_setObj_map o hh
  have H:(setObj r (.map ents clock)).run P w=.ok () w:=by rw [v,ZX hh]
  refine ⟨ents[j].val,ents[j].born,w,by rw [M];exact I,fun ev o x y ho hx hy=>?_,fun ev o x y ho hx hy=>⟨?_,?_⟩,fun val=>⟨setB w r (.map (ents.modify j fun e=>{ e with key:=kv k,val:=val }) clock),fun ev o x s u ho hx hs hu=>?_,fun ev o x y u ho hx hy hu=>?_⟩⟩
  ·simp [execOp,ho,Instr.mapEntry,run_underlying hm.und,hx,hy,MapKept.run_getObj_map hh,hk.check,d,F,E,K,J,H,Result.andThen]
  ·simp [execOp,ho,Instr.lookup,run_underlying hm.und,hx,hy,MapKept.run_getObj_map hh,hk.check,d,Result.andThen]
  ·simp [execOp,ho,Instr.lookup,run_underlying hm.und,hx,hy,MapKept.run_getObj_map hh,hk.check,d,Result.andThen]
  ·have C:ents.findIdx? (fun e=>((e.born:Nat):Int) == ((ents[j].born:Nat):Int))=some j:=by
    rw [WideElems.findIdx_arr]
    exact WideElems.findIdx_born O f
   have G:ents.modify j (fun e=>{ e with val:=val })=ents.modify j (fun e'=>{ e' with key:=kv k,val:=val }):=by
    apply Array.ext'
    rw [Array.toList_modify,Array.toList_modify,ChangeMaps.modify_eq_set _ _ _ _ f,ChangeMaps.modify_eq_set _ _ _ _ f,← E]
   simp [execOp,ho,Instr.entryStore,hx,hs,hu,MapKept.run_getObj_map hh,Go.asInt,Go.asIntOf,goInt,C,G,v,Result.andThen]
  ·simp [execOp,ho,Instr.mapUpdate,run_underlying hm.und,hx,hy,hu,MapKept.run_getObj_map hh,hk.check,d,F,E,K,v,Result.andThen]
end
end Go.AH
