/- From heats to rims: what TopSpunHeats does last: the history, the ways, the ranges. -/
import Derived.Test.YtajpgeklmcjciaaGreatPxQ5
import Derived.Test.YtajpgeklmcjciaaGreatPxQ4
import Derived.Test.YtajpgeklmcjciaaGreatPxMJ
import Derived.Test.YtajpgeklmcjciaaGreatPxQ2
import Derived.Test.YtajpgeklmcjciaaGreatPxQ3
import Derived.Test.YtajpgeklmcjciaaGreatPxQ1
set_option maxRecDepth 100000
set_option maxHeartbeats 1000000
namespace Go.AH.Warp
open Go Go.AH Go.AH.Heat
def yR (g:Nat→Nat→Int):Nat→List Value
 |0=>[]
 |k+1=>yR g k++ints (dH (g k))
theorem Gq (g:Nat→Nat→Int):∀ k,(yR g k).length=k*401
 |0=>rfl
 |k+1=>by rw [yR,aR,Gq g k,cZ,eX];omega
theorem Gs {g:Nat→Nat→Int}:∀ {k i j:Nat},i<k→j<401→(yR g k)[i*401+j]?=some (.i (g i j))
 |0,i,j,h,_=>by omega
 |k+1,i,j,h,hj=>by
  have hl:=Gq g k
  rw [yR]
  by_cases hi:i<k
  ·rw [bR oO];exact Gs hi hj
  ·obtain rfl:i=k:=oO
   rw [bE oO,hl,show i*401+j - i*401=j by omega,ig (by rw [eX];exact hj),vC hj]
end Go.AH.Warp
namespace Go.Proofs.YtajpgeklmcjciaaGreat
open Go Go.AH
attribute [local irreducible] dA bP bT jL gX dQ fF bZ fB aY dY fA
open Go.AH.Heat Go.AH.Warp
theorem Qk {A B:Prop} (k:B) (h:Hide B→A:=by intro h_k_;(repeat' (first|refine sCm ?_|(refine gU ?_;first|refine st (Bq (l:=1) rfl rfl (by omega) (by omega)) rfl rfl ?_|(refine bW ?_;refine st (aJ rfl (by first|exact hd1|exact hd0)) rfl rfl ?_)|(refine gIA ?_;first|refine st (eY rfl rfl (by omega)) rfl rfl ?_|refine st (nX rfl rfl (by omega) (by omega)) rfl rfl ?_)|(refine eG ?_;refine st (bH rfl rfl rfl (by first|exact hc1|exact hc2)) rfl rfl ?_))|refine aG ?_|refine jc rfl (by first|rfl|exact dW (by assumption)) ?_|refine iM rfl (by first|rfl|exact bM (by assumption)) ?_));exact h_k_.h):A:=h ⟨k⟩
theorem ZQ {σ:Heap} {xb n c:Nat} {lo:Int} {F:Int→Int} {g:FuncId} [GoFn Tryz.prog g] {p q:List Value} (hx:∀ i≤n,aH σ xb i=some (.i (lo+(i:Nat)))) (hc:n+1≤c) (hn:n≤1000)
  (hcall:∀ x,lo≤x→x≤lo+n→Ev Tryz.prog g (p++[.i x]++q) σ (.i (F x)) σ) :
  Ev Tryz.prog 178 [.s xb (n+1) c,.func (.func g) p.toArray q.toArray] σ (.i (lst F lo n)) σ:=by
 refine aI σ.length 28 Tryz.func178 rfl rfl rfl rfl rfl ?_
 have hd0:aH σ xb 0=some (.i lo):=by have:=hx 0 (bN _);simpa using this
 have hn1:(1:Int)≤((n+1:Nat):Int):=oO
 refine Qk ?_
 refine dV (ι:=Nat) (fun k=>[(1,.func (.func g) p.toArray q.toArray),(5,.i (lst F lo k)),(12,.slice (some ⟨xb,1,none⟩) n (c - 1)),(13,.i (n:Nat)),(14,.i (k:Nat))])
  (fun k mk H=>k≤n∧mk=[]∧σ=H) (fun k=>n - k) 0 tE ⟨bN _,rfl,rfl⟩ ?_
 rintro k mk H ⟨hk,rfl,rfl⟩
 by_cases a:k<n
 ·have e:(k:Int)<(n:Nat):=oO
  have hd1:aH σ xb (1+k*1)=some (.i (lo+((k+1:Nat):Int))):=by rw [cJ,e8];exact hx (k+1) oO
  have hl:=P7 F lo k
  have hc1:=hcall (lo+((k+1:Nat):Int)) oO oO
  have hc2:=hcall (lst F lo k) oO oO
  by_cases d:F (lo+((k+1:Nat):Int))<F (lst F lo k)
  ·refine Qk ?_
   exact ⟨k+1,⟨a,rfl,rfl⟩,oO,⟨rfl,congrArg (fun x=>some (Value.i x)) (by simp only [lst];rw [if_pos d]),rfl,rfl,rfl,trivial⟩⟩
  ·refine Qk ?_
   exact ⟨k+1,⟨a,rfl,rfl⟩,oO,⟨rfl,congrArg (fun x=>some (Value.i x)) (by simp only [lst];rw [if_neg d]),rfl,rfl,rfl,trivial⟩⟩
 ·obtain rfl:k=n:=oO
  have e:¬ ((k:Nat):Int)<(k:Nat):=oO
  refine Qk ?_
  exact dM (.tmp rfl .nil) .all ⟨rfl,rfl⟩
theorem ac2 {σ:Heap} {B:Bld} {nb sb cS tb cT rb ob xb gb i:Nat} {t:TypeId} {f x:Int} (hv:yg B) (hB:lK σ B nb sb cS tb cT) (hi:i<B.n) (hf:-200≤f∧f≤200) (hx:-200≤x∧x≤200)
  (hr:σ[rb]?=some (.rw [eu gb 401 (B.n+1)])) (hg:σ[gb]?=some (.gr (yR (fun k=>jl B.b (B.n - k)) (B.n+1)) t)) (ha:σ[ob]?=some (.rw [.i (i:Nat),.i f])) (hxb:σ[xb]?=some (.rw [.p nb])) :
  Ev Tryz.prog 179 [.i x,.p rb,.p ob,.p xb] σ (.i (B.b.LQ i f x)) σ:=by
 refine aI σ.length 24 Tryz.func179 rfl rfl rfl rfl rfl ?_
 have hn20:=hv.n
 have hrl:=aQ hr
 have hgl:=aQ hg
 have hal:=aQ ha
 have hxl:=aQ hxb
 have hnl:=aQ hB.nb
 have hcl:∀ {q o:Nat},q < σ.length→closed σ.length (.pointer (some ⟨q,o,none⟩))=true:=fun {q o} h=>Nat.blt_eq.mpr h
 have e:Nat.blt gb σ.length=true:=Nat.blt_eq.mpr hgl
 have hq1:∀ X,aH (σ++X) rb 0=some (eu gb 401 (B.n+1)):=fun X=>aF (aA hr)
 have hq2:∀ X,aH (σ++X) ob (0+0)=some (.i (i:Nat)):=fun X=>aF (aA ha)
 have hq3:∀ X,aH (σ++X) ob (0+1)=some (.i f):=fun X=>aF (aA ha)
 have hq4:∀ X,aH (σ++X) xb 0=some (.p nb):=fun X=>aF (aA hxb)
 have hq5:∀ X,aH (σ++X) gb (((i:Int)+1).toNat*401+(x+200).toNat*1)=some (.i (B.b.vt (B.n - (i+1)) x)):=fun X=>by
  rw [Ku (aA hg),show ((i:Int)+1).toNat=i+1 by omega,cJ,Gs oO oO]
  unfold jl
  rw [show (((x+200).toNat:Nat):Int) - 200=x by omega]
 have hfa:=fun X=>P8 (σ:=σ++X) (i:=i) (d:=x - f) hv hB.app hi oO
 have g:=(B.b.acC hv.ok (B.n - (i+1)) (by show _≤B.n;omega) x)
 have a:0≤B.b.vt (B.n - (i+1)) x∧B.b.vt (B.n - (i+1)) x≤1099511627776:=g
 have c:0≤B.hard i*ab (x - f)∧B.hard i*ab (x - f)≤9000:=by
  have h1:=hv.st i hi
  have h0:0≤ab (x - f)∧ab (x - f)≤1000:=by unfold ab;omega
  refine ⟨er oO h0.1,?_⟩
  exact Int.le_trans (fo (by omega:B.hard i≤9) h0.2 h0.1 oO) oO
 have j:B.b.LQ i f x=B.b.vt (B.n - (i+1)) x+B.hard i*ab (x - f):=rfl
 rw [j]
 generalize B.b.vt (B.n - (i+1)) x=vg at hq5 a ⊢
 generalize B.hard i*ab (x - f)=co at hfa c ⊢
 have hi1:(i:Int)+1<((B.n+1:Nat):Int):=oO
 repeat' (first|refine sCm ?_|(refine fU ?_;first|refine jM ?_;refine frA (bV rfl) rfl ?_ rfl|refine fFA ?_;refine frA (aW rfl) rfl ?_ (hcl oA)|refine gY ?_;refine frA (aJ rfl (by exact hq1 _)) rfl ?_ (kW e)|refine gY ?_;refine frA (aJ rfl (by exact hq2 _)) rfl ?_ rfl|refine gY ?_;refine frA (aJ rfl (by exact hq3 _)) rfl ?_ rfl|refine gY ?_;refine frA (aJ rfl (by exact hq4 _)) rfl ?_ (hcl oA)|refine gY ?_;refine frA (aJ rfl (by exact hq5 _)) rfl ?_ rfl|refine fIA ?_;refine frA (DK rfl rfl oO oO) rfl ?_ (hcl oA)|refine fIA ?_;refine frA (nY rfl rfl oO oO) rfl ?_ (hcl oA)|refine qR ?_;refine frA (bH rfl rfl rfl (by exact hfa _)) rfl ?_ rfl|(refine Ip ?_;refine fr (iZ rfl) oR rfl ?_)|(refine fAdd ?_;first|refine fr (uJ rfl rfl oO) oR rfl ?_|refine fr (kK rfl rfl oO oO) oR rfl ?_)|(refine fSub ?_;refine fr (jB rfl rfl oO oO) oR rfl ?_))|(refine gu ⟨oK,?_⟩)|refine aG ?_|refine dI oK rfl ?_)
 rw [show σ++gZ (fun _=>true) []=σ from bL σ]
 exact dM (.tmp rfl .nil) .all ⟨rfl,rfl⟩
end Go.Proofs.YtajpgeklmcjciaaGreat
namespace Go.AH.Warp
open Go Go.AH Go.AH.Heat
structure RowsB (σ H:Heap) (nb:Nat) (F:Nat→Nat→Int) (k gb:Nat):Prop where
 pre:H.take σ.length=σ
 b0:H[σ.length]?=some (.rw [.pointer (some ⟨nb,0,none⟩)])
 b1:(k=0∧H[σ.length+1]?=some (.rw [.slice none 0 0]))∨(0<k∧σ.length+2≤gb∧H[σ.length+1]?=some (.rw [eu gb 401 k])∧H[gb]?=some (.gr (yR F k) 203))
def ent (b:Bl) (j:Nat):(Int×Int)×Value:=(((j:Nat),b.pos j),.int .i64 (b.pos (j+1)))
def rX (b:Bl) (a m:Nat):List ((Int×Int)×Value):=(List.range' a m).map (ent b)
theorem ZR (b:Bl) (a m:Nat):rX b a (m+1)=rX b a m++[ent b (a+m)]:=by
 unfold rX;rw [List.range'_1_concat,eC];rfl
theorem Oc (b:Bl) (a m:Nat):rX b a (m+1)=ent b a::rX b (a+1) m:=by
 unfold rX;rw [List.range'_succ,cG]
theorem ZT {b:Bl} {a m:Nat} {k:Nat} {x:Int} (h:a+m≤k):((rX b a m).map (·.1)).findIdx? (fun q=>decide ((((k:Nat):Int),x)=q))=none:=by
 rw [List.findIdx?_eq_none_iff]
 intro q hq
 simp only [rX,List.map_map,List.mem_map,List.mem_range'_1] at hq
 obtain ⟨j,hj,rfl⟩:=hq
 simp only [Function.comp,ent,decide_eq_false_iff_not,Prod.mk.injEq,not_and]
 omega
theorem aeU (b:Bl) (i:Nat):mF (rX b 0 i) ((i:Nat),b.pos i) (.i (b.pos (i+1)))=rX b 0 (i+1):=by
 unfold mF
 rw [ZT oO,ZR,bA];rfl
theorem ac3 (b:Bl) (i m:Nat):iT (rX b i (m+1)) ((i:Nat),b.pos i)=some (.i (b.pos (i+1))):=by
 unfold iT
 rw [Oc]
 simp [ent,fe]
theorem ac4 (b:Bl) (i m:Nat):nZ (rX b i (m+1)) ((i:Nat),b.pos i)=rX b (i+1) m:=by
 unfold nZ
 rw [Oc]
 simp [ent,fe]
structure BB (σ H:Heap) (B:Bld) (nb gb mb:Nat) (M:List ((Int×Int)×Value)) (i:Nat):Prop where
 pre:H.take σ.length=σ
 b0:H[σ.length]?=some (.rw [.pointer (some ⟨nb,0,none⟩)])
 b1:H[σ.length+1]?=some (.rw [eu gb 401 (B.n+1)])
 g:H[gb]?=some (.gr (yR (fun k=>jl B.b (B.n - k)) (B.n+1)) 203)
 m:H[mb]?=some (jD kv M)
 o:H[mb+1]?=some (.rw [.int .i64 (i:Nat),.int .i64 (B.b.pos i)])
 ni:H.all (fun o=>!aU o)=true
def EI (B:Bld) (l:Nat):Value:=if B.b.vt B.n 0<nev then .tuple #[.slice (some ⟨l,0,none⟩) B.n B.n,.int .i64 (B.b.vt B.n 0)] else .tuple #[.slice none 0 0,.int .i64 (B.b.vt B.n 0)]
def EJ (B:Bld):Heap:=if B.b.vt B.n 0<nev then [.rw (ints (nM B.n B.b.blow))] else []
end Go.AH.Warp
namespace Go.Proofs.YtajpgeklmcjciaaGreat
open Go Go.AH
attribute [local irreducible] dA bP bT jL gX dQ fF bZ fB aY dY fA
open Go.AH.Heat Go.AH.Warp
theorem oC {A B:Prop} (k:B) (h:Hide B→A:=by intro h_k_;(repeat' (first|refine sCm ?_|(refine gU ?_;first|refine st (jh (by rfl) (by rfl) rfl (by exact hgX) (by exact hgl) rfl (by exact hcl2) (by omega) (by exact hone) (by omega) (by decide)) rfl rfl ?_|refine st (wR (by rfl) rfl rfl (by exact hcl2) (by omega) (by exact hone) (by omega) (by decide)) rfl rfl ?_|(refine bW ?_;first|refine st (aJ rfl (by first|exact iG rfl|exact aF a0|exact aF a1|exact aF a9|exact aF a13|exact hd1|assumption)) rfl rfl ?_|refine st (bD rfl (by first|exact aV a9 rfl|exact aV a13 rfl|assumption)) rfl rfl ?_)|(refine CJ ?_;refine st (jB rfl rfl (by omega) (by omega)) rfl rfl ?_)|(refine nK ?_;refine st (OB rfl rfl) rfl rfl ?_)|(refine gIA ?_;first|refine st (DK rfl rfl (by omega) (by omega)) rfl rfl ?_|refine st (nY rfl rfl (by omega) (by omega)) rfl rfl ?_)|(refine EX ?_;refine st (iO rfl rfl) rfl rfl ?_)|(refine oQ ?_;refine st (iE (by rfl) rfl (by rfl)) rfl rfl ?_)|(refine eG ?_;refine st (bH rfl rfl rfl (by first|exact hf1|exact hf2|exact hf3)) rfl rfl ?_)|(refine lV ?_;refine st (fO (by rfl) (by rfl) (by rfl) (by rfl) rfl (by rfl)) rfl rfl ?_)|(refine dZ ?_;refine stN (bF rfl rfl rfl rfl (by first|exact vX rfl rfl|exact hput _ _|exact hput2 _ _)) rfl ?_))|(refine fU ?_;first|refine gY ?_;refine frA (aJ rfl (by exact hq1 _)) rfl ?_ hc1|refine gY ?_;refine frA (aJ rfl (by exact hq0 _)) rfl ?_ hc0|refine jM ?_;refine frA (bV rfl) rfl ?_ rfl|refine qR ?_;refine frA (bH rfl rfl rfl (by exact hfa _)) rfl ?_ hcr|refine xA ?_;refine frN (tq (by rfl) (by rfl) (by rfl) (by rfl) rfl hrl) lS hrc hro rfl ?_)|(refine gu ⟨by kernel_rfl,?_⟩)|refine dD (id:=6) ?_|refine dD (id:=8) ?_|refine dD (id:=14) ?_|refine dD (id:=16) ?_|refine dD (id:=23) ?_|refine dD (id:=24) ?_|refine aG ?_|refine jc rfl (by first|rfl|exact dW (by assumption)) ?_|refine iM rfl (by first|rfl|exact bM (by assumption)) ?_));exact h_k_.h):A:=h ⟨k⟩
theorem Ql {σ:Heap} {B:Bld} {nb sb cS tb cT:Nat} (hv:yg B) (hB:lK σ B nb sb cS tb cT) (hni:σ.all (fun o=>!aU o)=true) :
  Ev Tryz.prog 86 [.p nb] σ (EI B σ.length) (σ++EJ B):=by
 refine aI σ.length 88 Tryz.func86 rfl rfl rfl rfl rfl ?_
 have hn20:=hv.n
 have V:nb < σ.length:=aQ hB.nb
 have O:aH (σ++[aB.rw [.p nb]]) nb (0+0+0)=some (.s sb B.n cS):=aF (hB.app (X:=[aB.rw [.p nb]])).nb
 refine oC ?_
 refine dV (ι:=Nat×Nat) (fun k=>[(1,.p σ.length),(2,.slice none 0 0),(3,.i 0),(4,.i (B.n:Nat)),(5,.p (σ.length+1)),(22,.i ((B.n:Int)+1)),(23,.i (k.1:Nat))])
  (fun k mk H=>k.1≤B.n+1∧mk=[]∧RowsB σ H nb (fun k=>jl B.b (B.n - k)) k.1 k.2∧H.all (fun o=>!aU o)=true) (fun k=>B.n+1 - k.1) (0,0) ⟨rfl,rfl,rfl,rfl,(by (refine congrArg (fun n=>some (Value.p n)) ?_;simp;try omega)),rfl,rfl,trivial⟩ ⟨bN _,rfl,⟨by simp,aA aO,.inl ⟨rfl,bK oS⟩⟩,bG (bG hni rfl) rfl⟩ ?_
 clear O
 rintro ⟨k,gb⟩ mk H ⟨hk,rfl,hR,hniH⟩
 dsimp only at hk hR ⊢
 have b2:σ.length+2≤H.length:=by rcases hR.b1 with ⟨_,h⟩|⟨_,_,h,_⟩ <;> exact aQ h
 by_cases b5:k<B.n+1
 ·have ai:(k:Int)<(B.n:Int)+1:=oO
  refine oC ?_
  refine .mk (dJ [(1,.p σ.length),(2,.slice none 0 0),(3,.i 0),(4,.i (B.n:Nat)),(5,.p (σ.length+1)),(6,.i (k:Nat)),(22,.i ((B.n:Int)+1)),(23,.i (k:Nat))] H rfl tE ?_)
  obtain ⟨cr,a⟩:∃ cr,cr=ints (dH (jl B.b (B.n - k))):=⟨_,rfl⟩
  have hfa:=fun X=>IK (σ:=H++X) (sn:=k) hv ((hB.take hR.pre).app (X:=X)) oO
  rw [← a] at hfa
  have hrl:cr.length=401:=by rw [a,cZ,eX]
  have hone:cr.all (·.oneCell')=true:=by rw [a];exact kM _
  have hcr:closed H.length (.agg cr.toArray)=true:=by
   have:=(aX (n:=H.length) (bC (dH (jl B.b (B.n - k))))).1
   rw [← a] at this
   simpa [closed,jq] using this
  have hrc:dR H.length cr=true:=by rw [a];exact (aX (bC _)).1
  have hro:okL cr=true:=by rw [a];exact (aX (n:=H.length) (bC _)).2
  have hq0:∀ X,aH (H++X) σ.length 0=some (.p nb):=fun X=>aF (aA hR.b0)
  have hc0:closed H.length (.p nb)=true:=Nat.blt_eq.mpr (fi V oO)
  have hcl2:aK (H++[aB.rw cr]) (H++([]:Heap)).length 0 401=some cr:=by rw [bL];exact dX hrl
  rcases hR.b1 with ⟨rfl,r⟩|⟨hk0,am,r,hg⟩
  ·have hq1:∀ X,aH (H++X) (σ.length+1) 0=some (.slice none 0 0):=fun X=>aF (aA r)
   have hc1:closed H.length (.slice none 0 0)=true:=rfl
   have hput:∀ X v,putCells (H++[aB.rw cr]++X) (σ.length+1) 0 [v]=some ((H++[aB.rw cr]++X).set (σ.length+1) (.rw [v])):=fun X v=>fZ (aA (aA r)) oS oS rfl
   refine dI oK rfl ?_
   refine oC ?_
   refine ⟨(0+1,(H++[aB.rw cr]).length+1),⟨by dsimp only;omega,rfl,⟨take_set (aT (aT hR.pre)) oO,aC (aA (aA hR.b0)) oO,.inr ⟨oO,by simp;omega,aS (aA (aA r)),?_⟩⟩,kN (bG (bG hniH rfl) rfl) rfl⟩,by dsimp only;omega,tE⟩
   refine aC ?_ (by simp;omega)
   rw [bE oO]
   simp only [yR,eR,Nat.sub_zero]
   rw [a];simp
  ·have hq1:∀ X,aH (H++X) (σ.length+1) 0=some (eu gb 401 k):=fun X=>aF (aA r)
   have hc1:closed H.length (eu gb 401 k)=true:=kW (Nat.blt_eq.mpr (aQ hg))
   have hgX:(H++[aB.rw cr])[gb]?=some (.gr (yR (fun k=>jl B.b (B.n - k)) k) 203):=aA hg
   have hgl:(yR (fun k=>jl B.b (B.n - k)) k).length=k*401:=Gq _ _
   have hput:∀ X v,putCells ((H++[aB.rw cr]).set gb .dead++X) (σ.length+1) 0 [v]=some (((H++[aB.rw cr]).set gb .dead++X).set (σ.length+1) (.rw [v])):=fun X v=>fZ (aA (aC (aA r) oO)) oS oS rfl
   refine dI oK rfl ?_
   refine oC ?_
   refine ⟨(k+1,(H++[aB.rw cr]).length),⟨by dsimp only;omega,rfl,⟨take_set (aT (take_set (aT hR.pre) oO)) oO,aC (aA (aC (aA hR.b0) oO)) oO,.inr ⟨oO,by simp;omega,aS (aA (aC (aA r) oO)),?_⟩⟩,kN (bG (kN (bG hniH rfl) rfl) rfl) rfl⟩,by dsimp only;omega,tE⟩
   refine aC ?_ (by simp;omega)
   rw [show (H++[aB.rw cr]).length=((H++[aB.rw cr]).set gb .dead).length by simp,bE (aD _),cY,yR,← a];rfl
 ·obtain rfl:k=B.n+1:=oO
  have ai:¬ ((B.n+1:Nat):Int)<(B.n:Int)+1:=oO
  rcases hR.b1 with ⟨h0,_⟩|⟨_,am,r,hg⟩
  ·omega
  have hp:=hR.pre
  have a8:=hR.b0
  clear hR
  have a1:=r
  have hd1:aH H gb (Int.toNat 0*401+Int.toNat 200*1)=some (.i (B.b.vt B.n 0)):=by
   rw [Ku hg,show Int.toNat 0*401+Int.toNat 200*1=0*401+200 from rfl,Gs oO oO];rfl
  have ap:(0:Int)<((B.n+1:Nat):Int):=oO
  refine oC ?_
  refine .mk (dJ [(1,.p σ.length),(2,.slice none 0 0),(3,.i 0),(4,.i (B.n:Nat)),(5,.p (σ.length+1))] H rfl tE ?_)
  apply aG
  by_cases C:B.b.vt B.n 0<nev
  ·have aj:¬ B.b.vt B.n 0≥1099511627776:=by have:B.b.vt B.n 0<1099511627776:=C;omega
   unfold EI EJ
   rw [if_pos C,if_pos C]
   refine oC ?_
   refine st zi rfl rfl ?_
   refine oC ?_
   have T:=aQ hg
   have Q:BB σ (H++[aB.map []]++[aB.rw [.i 0,.i 0]]) B nb gb H.length (rX B.b 0 0) 0 :=
    ⟨aT (aT hp),aA (aA a8),aA (aA r),aA (aA hg),aA aO,bK oS,bG (bG hniH rfl) rfl⟩
   obtain ⟨mb,L⟩:∃ mb,mb=H.length:=⟨_,rfl⟩
   rw [← L] at Q T
   refine dV (ι:=Nat) (fun i=>[(1,.p σ.length),(2,.slice none 0 0),(3,.i 0),(4,.i (B.n:Nat)),(5,.p (σ.length+1)),(7,.i (B.b.vt B.n 0)),(8,.map (some mb)),(9,.p (mb+1))])
    (fun i mk H=>i≤B.n∧mk=[]∧BB σ H B nb gb mb (rX B.b 0 i) i) (fun i=>B.n - i) 0 ⟨rfl,rfl,rfl,rfl,rfl,rfl,congrArg (fun n=>some (Value.map (some n))) L.symm,(by refine congrArg (fun n=>some (Value.p n)) ?_;rw [L];simp),trivial⟩ ⟨bN _,rfl,Q⟩ ?_
   clear Q L hd1 ap a1 hniH r a8 hp hg ai hk b5 b2 H
   have ac:=B.b.acD hv.ok C
   rintro i mk H ⟨hi,rfl,hS⟩
   have a0:=hS.b0
   have a9:=hS.o
   have ao:=aQ hS.m
   by_cases D:i<B.n
   ·have a4:(i:Int)<(B.n:Nat):=oO
    refine oC ?_
    refine .mk (dJ [(1,.p σ.length),(2,.slice none 0 0),(3,.i 0),(4,.i (B.n:Nat)),(5,.p (σ.length+1)),(7,.i (B.b.vt B.n 0)),(8,.map (some mb)),(9,.p (mb+1))] H rfl tE ?_)
    obtain ⟨f,hf⟩:∃ f,f=B.b.pos i:=⟨_,rfl⟩
    have Z:=ac i (by show i≤B.n;omega)
    have af:-200≤f∧f≤200:=by
     rw [hf]
     rcases i with _|j
     ·show -200≤(0:Int)∧(0:Int)≤200;omega
     ·have h1:=Z.2.2 j oO
      have h2:=hv.tube (i:=j) oO
      omega
    rw [← hf] at a9
    have ag:=hB.take hS.pre
    have hf1:=KP (σ:=H) hv ag D af
    obtain ⟨n0,P⟩:∃ n0,B.b.sN i f=n0+1:=by
     rcases hc:B.b.sN i f with _|n0
     ·have h1:=Z.1
      rw [show Bl.n B.b - i=B.b.n - i from rfl,B.b.Yg (by show i<B.n;omega),← hf,hc] at h1
      exact absurd h1 (by simp [pO])
     ·exact ⟨n0,rfl⟩
    have htu:=hv.tube D
    have hmo:=hv.most
    have hsl:-200≤B.b.sLo i f∧B.b.sLo i f≤400:=by unfold Bl.sLo;show -200≤max (B.b.lo i) (f - B.most)∧max (B.b.lo i) (f - B.most)≤400;omega
    have aq:B.b.sN i f=(min (B.b.hi i) (f+B.most)+1 - B.b.sLo i f).toNat:=rfl
    have hf2:=N7 (σ:=H++[.rw [.i (B.b.sLo i f)]]++[.rw [.i (min (B.b.hi i) (f+B.most))]]) (lo:=B.b.sLo i f) (hi:=min (B.b.hi i) (f+B.most)) (lb:=H.length) (hb:=H.length+1) (n:=n0+1) oO oO oO (by rw [← P];exact aq) oO (aA aO) (bK oS) oO
    obtain ⟨H3,z⟩:∃ H3,H3=H++[aB.rw [.i (B.b.sLo i f)]]++[aB.rw [.i (min (B.b.hi i) (f+B.most))]]++[aB.rw (ints (numsL (B.b.sLo i f) (n0+1)))]:=⟨_,rfl⟩
    have Y:H3[(H++[aB.rw [.i (B.b.sLo i f)]]++[aB.rw [.i (min (B.b.hi i) (f+B.most))]]).length]?=some (.rw (ints (numsL (B.b.sLo i f) (n0+1)))):=by rw [z];exact aO
    have w:H3.take H.length=H:=by rw [z];exact aT (aT oS)
    have ay:H3[σ.length]?=some (.rw [.p nb])∧H3[σ.length+1]?=some (.rw [eu gb 401 (B.n+1)])∧H3[gb]?=some (.gr (yR (fun k=>jl B.b (B.n - k)) (B.n+1)) 203)∧H3[mb]?=some (jD kv (rX B.b 0 i))∧H3[mb+1]?=some (.rw [.i (i:Nat),.i f]):=by
     rw [z]
     exact ⟨aA (aA (aA hS.b0)),aA (aA (aA hS.b1)),aA (aA (aA hS.g)),aA (aA (aA hS.m)),aA (aA (aA a9))⟩
    obtain ⟨c0,c1,cg,cm,co⟩:=ay
    have J:H3.all (fun o=>!aU o)=true:=by rw [z];exact bG (bG (bG hS.ni rfl) rfl) rfl
    have ax:H3.take σ.length=σ:=by rw [z];exact aT (aT (aT hS.pre))
    have hf3:=ZQ (σ:=H3) (c:=n0+1) (n:=n0) (lo:=B.b.sLo i f) (F:=B.b.LQ i f) (g:=179) (p:=[]) (q:=[.p (σ.length+1),.p (mb+1),.p σ.length])
     (fun j hj=>by rw [aF Y,ig (by rw [Gi];omega),acK oO]) (aD _) oO (fun x h1 h2=>ac2 hv (ag.take w) D af (by
      have h3:=(B.b.KO (i:=i) (f:=f) (g:=x)).1 ⟨h1,by rw [P];omega⟩
      omega) c1 cg co c0)
    have R:lst (B.b.LQ i f) (B.b.sLo i f) n0=B.b.pos (i+1):=by
     show _=lst (B.b.LQ i (B.b.pos i)) (B.b.sLo i (B.b.pos i)) (B.b.sN i (B.b.pos i) - 1)
     rw [← hf,P,Nat.add_sub_cancel]
    rw [R] at hf3
    rw [z] at hf3
    apply aG
    refine oC ?_
    clear hf1 hf2 hf3
    refine .mk (dJ [(1,.p σ.length),(2,.slice none 0 0),(3,.i 0),(4,.i (B.n:Nat)),(5,.p (σ.length+1)),(7,.i (B.b.vt B.n 0)),(8,.map (some mb)),(9,.p (mb+1)),(11,.i (B.b.pos (i+1)))] H3 z.symm tE ?_)
    clear z w Y a0 a9 hS
    have a9:=co
    have an:H3.set mb (jD kv (mF (rX B.b 0 i) (((i:Nat):Int),f) (.i (B.b.pos (i+1)))))=H3.set mb (jD kv (rX B.b 0 (i+1))):=by rw [hf,aeU]
    apply aG
    refine oC ?_
    refine stN (qc (i:=mb) (l:=rX B.b 0 i) (k:=(((i:Nat):Int),f)) (v:=.i (B.b.pos (i+1))) rfl cm rfl rfl J) rfl ?_
    rw [an]
    clear a9
    have a9:(H3.set mb (jD kv (rX B.b 0 (i+1))))[mb+1]?=some (.rw [.i (i:Nat),.i f]):=aC co oO
    have hput2:∀ x y,putCells (H3.set mb (jD kv (rX B.b 0 (i+1)))) (mb+1) 0 [x,y]=some ((H3.set mb (jD kv (rX B.b 0 (i+1)))).set (mb+1) (.rw [x,y])):=fun x y=>fZ a9 oS oS rfl
    refine oC ?_
    exact ⟨i+1,⟨D,rfl,⟨take_set (take_set ax oO) oO,aC (aC c0 oO) oO,aC (aC c1 oO) oO,aC (aC cg oO) oO,aC (aS cm) oO,aS a9,kN (kN J rfl) rfl⟩⟩,oO,tE⟩
   ·obtain rfl:i=B.n:=oO
    have a4:¬ ((B.n:Nat):Int)<(B.n:Nat):=oO
    refine oC ?_
    refine Tm 2 ?_
    have S:=aQ hS.o
    refine dV (ι:=Nat×Nat×Nat) (fun k=>[(3,.i 0),(7,.i (B.b.vt B.n 0)),(8,.map (some mb)),(9,.p (mb+1)),(12,eu k.2.1 1 k.1),(13,.p k.2.2)])
     (fun k mk H=>k.1≤B.n∧mk=[]∧H.take σ.length=σ∧H[mb]?=some (jD kv (rX B.b k.1 (B.n - k.1)))∧H[mb+1]?=some (.rw [.i (B.n:Nat),.i (B.b.pos B.n)])∧mb+2≤k.2.1∧mb+2≤k.2.2∧H[k.2.1]?=some (.gr (ints (nM k.1 B.b.blow)) 2)∧H[k.2.2]?=some (.rw [.i (k.1:Nat),.i (B.b.pos k.1)])∧H.all (fun o=>!aU o)=true) (fun k=>B.n - k.1) (0,H.length+1,H.length) tE
     ⟨bN _,rfl,aT (aT hS.pre),aA (aA hS.m),aA (aA hS.o),by dsimp only;omega,by dsimp only;omega,bK oS,aA aO,bG (bG hS.ni rfl) rfl⟩ ?_
    clear S a4 D ao a9 a0 hS hi H
    rintro ⟨i,go,d⟩ mk H ⟨hi,rfl,hp,hm,ho,az,al,hg,hs,hniH⟩
    dsimp only at hi hm az al hg hs ⊢
    have a9:=ho
    have a13:=hs
    have hgs:go ≠ d:=fun e=>by rw [e,hs] at hg;cases hg
    have a5:∀ j≤B.n,-200≤B.b.pos j∧B.b.pos j≤200:=fun j hj=>by
     rcases j with _|j
     ·show -200≤(0:Int)∧(0:Int)≤200;omega
     ·have h1:=(ac (j+1) hj).2.2 j oO
      have h2:=hv.tube (i:=j) oO
      omega
    by_cases D:i<B.n
    ·have aw:¬ (((i:Nat):Int)=((B.n:Nat):Int)∧B.b.pos i=B.b.pos B.n):=fun h=>by omega
     obtain ⟨m,ak⟩:∃ m,B.n - i=m+1:=⟨B.n - i - 1,oO⟩
     rw [ak] at hm
     have E:=ac3 B.b i m
     have hp1:=a5 i oO
     have hp2:=a5 (i+1) oO
     have hsbl:=aQ hs
     have hgol:=aQ hg
     refine oC ?_
     refine st (MX (kv:=kv) (i:=mb) (l:=rX B.b i (m+1)) (k:=(((i:Nat):Int),B.b.pos i)) rfl (by exact hm) rfl (by exact E)) rfl rfl ?_
     refine oC ?_
     refine stN (Bv (kv:=kv) (i:=mb) (l:=rX B.b i (m+1)) (k:=(((i:Nat):Int),B.b.pos i)) rfl (by exact hm) rfl) rfl ?_
     rw [ac4]
     obtain ⟨H1,t⟩:∃ H1,H1=H.set mb (jD kv (rX B.b (i+1) m)):=⟨_,rfl⟩
     refine oC ?_
     refine .mk (dJ [(3,.i 0),(7,.i (B.b.vt B.n 0)),(8,.map (some mb)),(9,.p (mb+1)),(12,eu go 1 i),(13,.p d),(14,.i (B.b.pos (i+1)))] H1 t.symm tE ?_)
     have G:H1.take σ.length=σ:=by rw [t];exact take_set hp oO
     have ah:H1[mb]?=some (jD kv (rX B.b (i+1) m)):=by rw [t];exact aS hm
     have aa:H1[mb+1]?=some (.rw [.i (B.n:Nat),.i (B.b.pos B.n)]):=by rw [t];exact aC ho oO
     have ad:H1[go]?=some (.gr (ints (nM i B.b.blow)) 2):=by rw [t];exact aC hg oO
     have U:H1[d]?=some (.rw [.i (i:Nat),.i (B.b.pos i)]):=by rw [t];exact aC hs oO
     have I:H1.all (fun o=>!aU o)=true:=by rw [t];exact kN hniH rfl
     have hl1:H1.length=H.length:=by rw [t];simp
     clear t a9 a13 E hm ho hg hs hniH hp
     have a13:=U
     have av:B.b.pos (i+1) - B.b.pos i=B.b.blow i:=rfl
     have hgX:(H1++[aB.rw [.i (B.b.pos (i+1) - B.b.pos i)]])[go]?=some (.gr (ints (nM i B.b.blow)) 2):=aA ad
     have hgl:(ints (nM i B.b.blow)).length=i*1:=by rw [cZ,EH,cJ]
     have hcl2:aK (H1++[aB.rw [.i (B.b.pos (i+1) - B.b.pos i)]]) H1.length 0 (1*1)=some [.i (B.b.pos (i+1) - B.b.pos i)]:=dX rfl
     have hone:([.i (B.b.pos (i+1) - B.b.pos i)]:List Value).all (·.oneCell')=true:=rfl
     apply aG
     refine oC ?_
     have ae:ints (nM i B.b.blow)++[.i (B.b.pos (i+1) - B.b.pos i)]=ints (nM (i+1) B.b.blow):=by
      rw [av];simp [nM,ints,fy]
     obtain ⟨H2,u⟩:∃ H2,H2=(H1++[aB.rw [.i (B.b.pos (i+1) - B.b.pos i)]]).set go .dead++[aB.gr (ints (nM (i+1) B.b.blow)) 2]:=⟨_,rfl⟩
     obtain ⟨g2,K⟩:∃ g2,g2=(H1++[aB.rw [.i (B.b.pos (i+1) - B.b.pos i)]]).length:=⟨_,rfl⟩
     refine .mk (dJ [(3,.i 0),(7,.i (B.b.vt B.n 0)),(8,.map (some mb)),(9,.p (mb+1)),(12,eu g2 1 (i+1)),(13,.p d),(14,.i (B.b.pos (i+1)))] H2 (by rw [u,← ae];rfl) ⟨rfl,rfl,rfl,rfl,by rw [K];rfl,rfl,rfl,trivial⟩ ?_)
     have hg2l:g2=H1.length+1:=by rw [K];simp
     have M:H2.take σ.length=σ:=by rw [u];exact aT (take_set (aT G) oO)
     have b3:H2[mb]?=some (jD kv (rX B.b (i+1) m)):=by rw [u];exact aA (aC (aA ah) oO)
     have b4:H2[mb+1]?=some (.rw [.i (B.n:Nat),.i (B.b.pos B.n)]):=by rw [u];exact aA (aC (aA aa) oO)
     have au:H2[g2]?=some (.gr (ints (nM (i+1) B.b.blow)) 2):=by rw [u];exact bK (by rw [K];simp)
     have W:H2[d]?=some (.rw [.i (i:Nat),.i (B.b.pos i)]):=by rw [u];exact aA (aC (aA U) oO)
     have N:H2.all (fun o=>!aU o)=true:=by rw [u];exact bG (kN (bG I rfl) rfl) rfl
     have hl2:H2.length=H1.length+2:=by rw [u];simp
     clear hone hcl2 hgl hgX a13 G ah aa ad U I u ae K
     have a13:=W
     have hput2:∀ x y,putCells H2 d 0 [x,y]=some (H2.set d (.rw [x,y])):=fun x y=>fZ W oS oS rfl
     have a14:aK (H2.set d (.rw [.i ((i+1:Nat):Int),.i (B.b.pos (i+1))])) d 0 2=some [.i ((i+1:Nat):Int),.i (B.b.pos (i+1))]:=aV (aS W) rfl
     have ar:(H2.set d (.rw [.i ((i+1:Nat):Int),.i (B.b.pos (i+1))])).length=H2.length:=oS
     apply aG
     refine oC ?_
     exact ⟨(i+1,g2,(H2.set d (.rw [.i ((i+1:Nat):Int),.i (B.b.pos (i+1))])).length),⟨D,rfl,aT (take_set M oO),by dsimp only;rw [show B.n - (i+1)=m by omega];exact aA (aC b3 oO),aA (aC b4 oO),by dsimp only;omega,by dsimp only;rw [ar];omega,aA (aC au (show d ≠ g2 by omega)),aO,bG (kN N rfl) rfl⟩,by dsimp only;omega,tE⟩
    ·obtain rfl:i=B.n:=oO
     have aw:¬ ¬ (((B.n:Nat):Int)=((B.n:Nat):Int)∧B.b.pos B.n=B.b.pos B.n):=fun h=>h ⟨rfl,rfl⟩
     refine oC ?_
     have s0:fV σ.length [go] σ.length=⟨go,0,0⟩:=by simp [fV]
     have hmbl:σ.length≤mb:=oO
     exact dM (v2:=.tuple #[.s σ.length B.n B.n,.i (B.b.vt B.n 0)]) (.tmp rfl (.tmp rfl .nil)) (aY.src [.rw (ints (nM B.n B.b.blow))] [go] hp rfl (by simp [dG];omega) ⟨vk s0 (.inr ⟨_,hg⟩) (bC _),trivial⟩ (tJ (kG oS s0) (.i _))) ⟨rfl,rfl⟩
  ·have aj:B.b.vt B.n 0≥1099511627776:=by have:¬ B.b.vt B.n 0<1099511627776:=C;omega
   unfold EI EJ
   rw [if_neg C,if_neg C,bL]
   refine oC ?_
   exact dM (v2:=.tuple #[.slice none 0 0,.i (B.b.vt B.n 0)]) (.tmp rfl (.tmp rfl .nil)) (aY.plain hp rfl) ⟨rfl,rfl⟩
def ac5 (B:Bld) (nb i:Nat):Heap:=[.rw [.int .i64 (i:Nat)],.rw (ints (dH (iJ B.b i))),.rw (ints (dH (jl B.b (B.n - (i+1))))),.rw [.func (.func 180) #[.pointer (some ⟨nb,0,none⟩)] #[]],.rw [.int .i64 (B.b.lo i),.int .i64 (B.b.hi i)]]
theorem WE {A B:Prop} (k:B) (h:Hide B→A:=by intro h_k_;(repeat' (first|refine sCm ?_|(refine gU ?_;(refine EX ?_;refine st (iO rfl rfl) rfl rfl ?_))|(refine fU ?_;first|refine jM ?_;refine frA (bV rfl) rfl ?_ (hcl (by assumption))|refine Oz ?_;refine frA (kE rfl) rfl ?_ (hcl (by assumption))|refine fFA ?_;refine frA (aW rfl) rfl ?_ (hcl (by assumption))|refine gY ?_;refine frA (aJ rfl (by exact hq1 _)) rfl ?_ rfl|refine gY ?_;refine frA (aJ rfl (by exact hq2 _)) rfl ?_ (hcs (by assumption))|refine gY ?_;refine frA (bD rfl (by exact hq3 _)) rfl ?_ rfl|refine fIA ?_;refine frA (nX rfl rfl (by omega) (by omega)) rfl ?_ (hcl (by assumption))|refine qR ?_;refine frA (bH rfl rfl rfl (by exact hfa _)) rfl ?_ hcR|refine qR ?_;refine frA (bH rfl rfl rfl (by exact hfb _)) rfl ?_ hcS|refine fMkF ?_;refine frA (iO rfl rfl) rfl ?_ hcf2|(refine fAdd ?_;refine fr (uJ rfl rfl (by omega)) (by rfl) rfl ?_)|(refine Ae ?_;refine Chain.fr1A (lU rfl) rfl rfl rfl ?_))|(refine gu ⟨by kernel_rfl,?_⟩)|refine dD (id:=1) ?_|refine dD (id:=2) ?_|refine aG ?_|refine Chain.VN ?_|refine Chain.xJ 7 [true,true] cR (by kernel_rfl) (by kernel_rfl) (by kernel_rfl) (by kernel_rfl) hrR hoR (bF (size:=401) rfl rfl (by exact hlR) (by exact h1R) (by exact hp1)) ?_|refine Chain.xJ 8 [true,true] cS2 (by kernel_rfl) (by kernel_rfl) (by kernel_rfl) (by kernel_rfl) hrS hoS (bF (size:=401) rfl rfl (by exact hlS) (by exact h1S) (by exact hp2)) ?_|refine Chain.xJ 10 [true,true] [.func (.func 180) #[.p nb] #[]] (by kernel_rfl) (by kernel_rfl) (by kernel_rfl) (by kernel_rfl) hcf rfl (bF rfl rfl rfl rfl (by exact hp1)) ?_|refine Chain.xJ 11 [true,true] [.i (B.b.lo i),.i (B.b.hi i)] (by kernel_rfl) (by kernel_rfl) (by kernel_rfl) (by kernel_rfl) rfl rfl (bF rfl rfl rfl rfl (by exact hp2)) ?_));exact h_k_.h):A:=h ⟨k⟩
theorem aeV {σ:Heap} {B:Bld} {nb sb cS tb cT i:Nat} (hv:yg B) (hB:lK σ B nb sb cS tb cT) (hi:i<B.n) :
  Ev Tryz.prog 242 [.p nb,.i (i:Nat)] σ (.func (.func 283) #[] #[.p (σ.length+4),.p (σ.length+1),.p (σ.length+2),.p (σ.length+3),.p σ.length]) (σ++ac5 B nb i):=by
 refine aI σ.length 27 Tryz.func242 rfl rfl rfl rfl rfl ?_
 have hn20:=hv.n
 have hnbl:nb < σ.length:=aQ hB.nb
 refine WE ?_
 obtain ⟨H,hH⟩:∃ H,H=σ++[aB.rw [.i (i:Nat)]]:=⟨_,rfl⟩
 refine .mk (dJ [(0,.p nb),(3,.p σ.length)] H hH.symm tE ?_)
 have u:H.length=σ.length+1:=by rw [hH];simp
 have b3:H[σ.length]?=some (.rw [.i (i:Nat)]):=by rw [hH];exact aO
 have hp:H.take σ.length=σ:=by rw [hH];simp
 have g:nb<H.length:=oO
 have r:σ.length<H.length:=oO
 have t:=hB.take hp
 have hcl:∀ {q o:Nat},q<H.length→closed H.length (.pointer (some ⟨q,o,none⟩))=true:=fun {q o} h=>Nat.blt_eq.mpr h
 have hq1:∀ X,aH (H++X) σ.length 0=some (.i (i:Nat)):=fun X=>aF (aA b3)
 have hfa:=fun X=>Qb (σ:=H++X) (sn:=i) hv (t.app (X:=X)) oO
 have hfb:=fun X=>IK (σ:=H++X) (sn:=i+1) hv (t.app (X:=X)) oO
 obtain ⟨cR,a⟩:∃ cR,cR=ints (dH (iJ B.b i)):=⟨_,rfl⟩
 obtain ⟨cS2,d⟩:∃ cS2,cS2=ints (dH (jl B.b (B.n - (i+1)))):=⟨_,rfl⟩
 rw [← a] at hfa
 rw [← d] at hfb
 have hlR:cR.length=401:=by rw [a,cZ,eX]
 have hlS:cS2.length=401:=by rw [d,cZ,eX]
 have h1R:cR.all (·.oneCell')=true:=by rw [a];exact kM _
 have h1S:cS2.all (·.oneCell')=true:=by rw [d];exact kM _
 have hrR:dR H.length cR=true:=by rw [a];exact (aX (bC _)).1
 have hrS:dR H.length cS2=true:=by rw [d];exact (aX (bC _)).1
 have hoR:okL cR=true:=by rw [a];exact (aX (n:=H.length) (bC _)).2
 have hoS:okL cS2=true:=by rw [d];exact (aX (n:=H.length) (bC _)).2
 have hcR:closed H.length (.agg cR.toArray)=true:=by simpa [closed,jq] using hrR
 have hcS:closed H.length (.agg cS2.toArray)=true:=by simpa [closed,jq] using hrS
 have hp1:putCells (H++[aB.rw (List.replicate 401 (.i 0)),aB.rw (List.replicate 401 (.i 0))]) (H.length+0) 0 cR=some (H++[aB.rw cR,aB.rw (List.replicate 401 (.i 0))]):=by
  rw [fZ (cs:=List.replicate 401 (.i 0)) (cs':=cR) oS (by rw [hlR];simp) oS (by simp [splice,hlR])]
  simp
 have hp2:putCells (H++[aB.rw cR,aB.rw (List.replicate 401 (.i 0))]) (H.length+1) 0 cS2=some (H++[aB.rw cR,aB.rw cS2]):=by
  rw [fZ (cs:=List.replicate 401 (.i 0)) (cs':=cS2) oS (by rw [hlS];simp) oS (by simp [splice,hlS])]
  simp
 refine Chain.BH (id:=1) oK rfl (?_)
 refine WE ?_
 clear hp1 hp2 hcS hcR hoS hoR hrS hrR h1S h1R hlS hlR hfb hfa hq1 hcl r g
 obtain ⟨H2,e⟩:∃ H2,H2=H++[aB.rw cR,aB.rw cS2]:=⟨_,rfl⟩
 refine .mk (dJ [(0,.p nb),(3,.p σ.length),(5,.p H.length),(6,.p (H.length+1))] H2 (by rw [e];rfl) tE ?_)
 have j:H2.length=σ.length+3:=by rw [e];simp [u]
 have w:H2[σ.length]?=some (.rw [.i (i:Nat)]):=by rw [e];exact aA b3
 have v:H2.take σ.length=σ:=by rw [e];exact aT hp
 have g:nb<H2.length:=oO
 have r:σ.length<H2.length:=oO
 have f:=hB.take v
 have hcl:∀ {q o:Nat},q<H2.length→closed H2.length (.pointer (some ⟨q,o,none⟩))=true:=fun {q o} h=>Nat.blt_eq.mpr h
 have hcs:∀ {q o n c:Nat},q<H2.length→closed H2.length (.slice (some ⟨q,o,none⟩) n c)=true:=fun h=>bQ (Nat.blt_eq.mpr h)
 have hq1:∀ X,aH (H2++X) σ.length 0=some (.i (i:Nat)):=fun X=>aF (aA w)
 have hq2:∀ X,aH (H2++X) nb (0+2)=some (.s tb (B.n+1) cT):=fun X=>aF (aA f.nb)
 have m:aK H2 tb (0+(i+1)*2) 2=some [.i (B.b.lo i),.i (B.b.hi i)]:=by rw [bA];exact f.tu (i+1) oO
 have y:tb<H2.length:=dL m
 have hq3:∀ X,aK (H2++X) tb (0+(i+1)*2) 2=some [.i (B.b.lo i),.i (B.b.hi i)]:=fun X=>by rw [jk y];exact m
 have hcf:dR H2.length [.func (.func 180) #[.p nb] #[]]=true:=by
  have:=hcl (o:=0) g
  simp [dR,closed,jq] at this ⊢
  exact this
 have hcf2:closed H2.length (.func (.func 180) #[.p nb] #[])=true:=by
  have:=hcl (o:=0) g
  simp [dR,closed,jq] at this ⊢
  exact this
 have hi1:(i:Int)+1<((B.n+1:Nat):Int):=oO
 have hp1:putCells (H2++[aB.rw [Value.nilFunc],aB.rw [.i 0,.i 0]]) (H2.length+0) 0 [.func (.func 180) #[.p nb] #[]]=some (H2++[aB.rw [.func (.func 180) #[.p nb] #[]],aB.rw [.i 0,.i 0]]):=by
  refine (fZ (cs:=[Value.nilFunc]) (cs':=[.func (.func 180) #[.p nb] #[]]) oS oS oS rfl).trans ?_
  simp
 have hp2:putCells (H2++[aB.rw [.func (.func 180) #[.p nb] #[]],aB.rw [.i 0,.i 0]]) (H2.length+1) 0 [.i (B.b.lo i),.i (B.b.hi i)]=some (H2++[aB.rw [.func (.func 180) #[.p nb] #[]],aB.rw [.i (B.b.lo i),.i (B.b.hi i)]]):=by
  refine (fZ (cs:=[.i 0,.i 0]) (cs':=[.i (B.b.lo i),.i (B.b.hi i)]) oS oS oS rfl).trans ?_
  simp
 refine Chain.BH (id:=2) oK rfl (?_)
 refine WE ?_
 refine dM (.tmp rfl .nil) .all ⟨?_,?_⟩
 ·show Value.func (.func 283) #[] #[.p (H2.length+1),.p H.length,.p (H.length+1),.p (H2.length+0),.p σ.length]=_
  rw [j,u]
 ·show H2++[aB.rw [.func (.func 180) #[.p nb] #[]],aB.rw [.i (B.b.lo i),.i (B.b.hi i)]]=_
  rw [e,hH,a,d]
  simp [ac5]
end Go.Proofs.YtajpgeklmcjciaaGreat
namespace Go.AH.Warp
open Go Go.AH Go.AH.Heat
def chB (h m:Int):Bld where
 n:=4
 ang:=fun i=>match i with|0=>0|1=>4|2=>5|_=>1
 tlo:=fun _=>-1
 thi:=fun _=>1
 hard:=fun i=>match i with|1=>h|_=>1
 most:=m
theorem l7 {h m:Int} (hh:1≤h∧h≤9) (hm:0≤m∧m≤200):yg (chB h m):=by
 refine ⟨(show 1≤4∧4≤20 by decide),fun i hi=>?_,hm⟩
 match i,hi with
 |0,_=>exact (show -100≤(0:Int)∧(0:Int)≤100∧-100≤(-1:Int)∧(-1:Int)≤1∧(1:Int)≤100∧1≤(1:Int)∧(1:Int)≤9 by decide)
 |1,_=>exact (show -100≤(4:Int)∧(4:Int)≤100∧-100≤(-1:Int)∧(-1:Int)≤1∧(1:Int)≤100∧1≤h∧h≤9 by omega)
 |2,_=>exact (show -100≤(5:Int)∧(5:Int)≤100∧-100≤(-1:Int)∧(-1:Int)≤1∧(1:Int)≤100∧1≤(1:Int)∧(1:Int)≤9 by decide)
 |3,_=>exact (show -100≤(1:Int)∧(1:Int)≤100∧-100≤(-1:Int)∧(-1:Int)≤1∧(1:Int)≤100∧1≤(1:Int)∧(1:Int)≤9 by decide)
def rowP (lo:Nat) (l:List Int):List Int:=List.replicate lo nev++(l++List.replicate (401 - lo - l.length) nev)
def Hl:Nat→List Int
 |0=>rowP 189 [15,14,13,12,11,10,9,8,7,6,5,6,7,8,9,10,11,12,13,14,15,16,17]
 |1=>rowP 185 [13,12,11,10,9,8,7,6,5,4,3,2,3,4,5,6,7,8,9,10,11,12,13]
 |2=>rowP 184 [14,13,12,11,10,9,8,7,6,5,4,3,2,3,4,5,6,7,8,9,10,11,12]
 |3=>rowP 188 [10,9,8,7,6,5,4,3,2,1,0,0,0,1,2,3,4,5,6,7,8,9,10]
 |_=>List.replicate 401 0
theorem ahc:dH (jl (chB 1 10).b (4 - 0))=Hl 0:=by decide +kernel
theorem ahd:dH (jl (chB 1 10).b (4 - 1))=Hl 1:=by decide +kernel
theorem ahe:dH (jl (chB 1 10).b (4 - 2))=Hl 2:=by decide +kernel
theorem ahf:dH (jl (chB 1 10).b (4 - 3))=Hl 3:=by decide +kernel
theorem ahg:dH (jl (chB 1 10).b (4 - 4))=Hl 4:=by decide +kernel
theorem Ug {sn:Nat} (h:sn≤4):dH (jl (chB 1 10).b (4 - sn))=Hl sn:=by
 match sn,h with
 |0,_=>exact ahc
 |1,_=>exact ahd
 |2,_=>exact ahe
 |3,_=>exact ahf
 |4,_=>exact ahg
def Lc:Nat→List Int
 |0=>rowP 189 [19,18,17,16,15,14,13,12,11,10,9,10,11,12,13,14,15,16,17,18,19,22,25]
 |1=>rowP 185 [33,30,27,24,21,18,15,12,9,6,3,2,3,6,9,12,15,18,21,24,27,30,33]
 |2=>rowP 184 [14,13,12,11,10,9,8,7,6,5,4,3,2,3,4,5,6,7,8,9,10,11,12]
 |3=>rowP 188 [10,9,8,7,6,5,4,3,2,1,0,0,0,1,2,3,4,5,6,7,8,9,10]
 |_=>List.replicate 401 0
theorem ahh:dH (jl (chB 3 10).b (4 - 0))=Lc 0:=by decide +kernel
theorem ahi:dH (jl (chB 3 10).b (4 - 1))=Lc 1:=by decide +kernel
theorem ahj:dH (jl (chB 3 10).b (4 - 2))=Lc 2:=by decide +kernel
theorem ahk:dH (jl (chB 3 10).b (4 - 3))=Lc 3:=by decide +kernel
theorem ahl:dH (jl (chB 3 10).b (4 - 4))=Lc 4:=by decide +kernel
theorem ac6 {sn:Nat} (h:sn≤4):dH (jl (chB 3 10).b (4 - sn))=Lc sn:=by
 match sn,h with
 |0,_=>exact ahh
 |1,_=>exact ahi
 |2,_=>exact ahj
 |3,_=>exact ahk
 |4,_=>exact ahl
def Ld:Nat→List Int
 |0=>rowP 0 []
 |1=>rowP 0 []
 |2=>rowP 0 []
 |3=>rowP 197 [1,0,0,0,1]
 |_=>List.replicate 401 0
theorem ahm:dH (jl (chB 1 1).b (4 - 0))=Ld 0:=by decide +kernel
theorem ahn:dH (jl (chB 1 1).b (4 - 1))=Ld 1:=by decide +kernel
theorem aho:dH (jl (chB 1 1).b (4 - 2))=Ld 2:=by decide +kernel
theorem ahp:dH (jl (chB 1 1).b (4 - 3))=Ld 3:=by decide +kernel
theorem ahq:dH (jl (chB 1 1).b (4 - 4))=Ld 4:=by decide +kernel
theorem ac7 {sn:Nat} (h:sn≤4):dH (jl (chB 1 1).b (4 - sn))=Ld sn:=by
 match sn,h with
 |0,_=>exact ahm
 |1,_=>exact ahn
 |2,_=>exact aho
 |3,_=>exact ahp
 |4,_=>exact ahq
def Ho:Nat→List Int
 |0=>rowP 200 [0]
 |1=>rowP 199 [1,0,1]
 |2=>rowP 195 [5,4,3]
 |3=>rowP 194 [6,5,4]
 |_=>rowP 198 [6,7,8]
theorem ac8 {sn:Nat} (h:sn≤4):dH (iJ (chB 1 10).b sn)=dH fun x=>(chB 1 10).b.ct sn ((x:Int) - 200) :=
 qK fun x hx=>Qc (l7 oD oD).ok (fun i hi=>((l7 oD oD).tube hi).1) sn h x hx
theorem ahr:(dH fun x=>(chB 1 10).b.ct 0 ((x:Int) - 200))=Ho 0:=by decide +kernel
theorem ahs:(dH fun x=>(chB 1 10).b.ct 1 ((x:Int) - 200))=Ho 1:=by decide +kernel
theorem aht:(dH fun x=>(chB 1 10).b.ct 2 ((x:Int) - 200))=Ho 2:=by decide +kernel
theorem ahu:(dH fun x=>(chB 1 10).b.ct 3 ((x:Int) - 200))=Ho 3:=by decide +kernel
theorem ahv:(dH fun x=>(chB 1 10).b.ct 4 ((x:Int) - 200))=Ho 4:=by decide +kernel
theorem Uh {sn:Nat} (h:sn≤4):dH (iJ (chB 1 10).b sn)=Ho sn:=by
 rw [ac8 h]
 match sn,h with
 |0,_=>exact ahr
 |1,_=>exact ahs
 |2,_=>exact aht
 |3,_=>exact ahu
 |4,_=>exact ahv
def zO (B:Bld) (σ:Heap) (nb:Nat):Option ((Nat×Nat)×(Nat×Nat)):=((σ[nb]?).bind uf).bind fun cs=>match cs with
 |[vS,_,vT]=>(rO vS).bind fun x=>(rO vT).bind fun y =>
   bU (Aq (B.cs x.1 x.2.2.2 y.1 y.2.2.2) cs && (List.range B.n).all (fun i=>Qe σ x.1 (i*4) 4 [.int .i64 (B.ang i),.int .i64 (B.tlo i),.int .i64 (B.thi i),.int .i64 (B.hard i)]) &&
    (List.range (B.n+1)).all (fun i=>Qe σ y.1 (i*2) 2 [.int .i64 (B.tu i).1,.int .i64 (B.tu i).2])) (some ((x.1,x.2.2.2),(y.1,y.2.2.2)))
 |_=>none
theorem wW {B:Bld} {σ:Heap} {nb:Nat} {x:(Nat×Nat)×(Nat×Nat)} (h:zO B σ nb=some x):lK σ B nb x.1.1 x.1.2 x.2.1 x.2.2:=by
 unfold zO at h
 simp only [aL] at h
 obtain ⟨cs,⟨o,h0,h1⟩,h2⟩:=h
 split at h2
 ·simp only [aL,aN,aE] at h2
  obtain ⟨x',h3,y',h4,⟨⟨g1,g2⟩,g3⟩,a⟩:=h2
  cases a
  have e:=qj g1
  rw [pG h1,← e] at h0
  exact ⟨h0,fun i hi=>BM (rC g2 i hi),fun i hi=>BM (rC g3 i oO)⟩
 ·cases h2
def Le (B:Bld) (σ:Heap) (v:Value):Option (Nat×Nat):=(asAgg v).bind fun l=>match l with
 |[vS,_]=>(rO vS).bind fun x =>
   bU (Aq [.slice (some ⟨x.1,0,none⟩) B.n x.2.2.2,.int .i64 B.most] l && (List.range B.n).all (fun i=>Qe σ x.1 (i*4) 4 [.int .i64 (B.ang i),.int .i64 (B.tlo i),.int .i64 (B.thi i),.int .i64 (B.hard i)])) (some (x.1,x.2.2.2))
 |_=>none
theorem Ui {B:Bld} {σ:Heap} {v:Value} {x:Nat×Nat} (h:Le B σ v=some x):v=.agg #[.s x.1 B.n x.2,.i B.most]∧LU σ B x.1:=by
 unfold Le at h
 simp only [aL] at h
 obtain ⟨l,h1,h2⟩:=h
 split at h2
 ·simp only [aL,aN,aE] at h2
  obtain ⟨x',h3,⟨g1,g2⟩,a⟩:=h2
  cases a
  have e:=qj g1
  exact ⟨by rw [nC h1,← e],⟨fun i hi=>BM (rC g2 i hi)⟩⟩
 ·cases h2
def tuL:List Value:=[.int .i64 0,.int .i64 0,.int .i64 (-1),.int .i64 1,.int .i64 (-5),.int .i64 (-3),.int .i64 (-6),.int .i64 (-4),.int .i64 (-2),.int .i64 0]
theorem ahw (h m:Int):rgC (chB h m).tu ((chB h m).n+1)=tuL:=by
 simp [rgC,chB,Bld.tu,Bld.b,tuL]
def Uj (m:Int) (σ:Heap) (x:Nat×Nat):Res:=some (.pointer (some ⟨σ.length,0,none⟩),σ++[.rw [.slice (some ⟨x.1,0,none⟩) 4 x.2,.int .i64 m,.slice (some ⟨σ.length+1,0,none⟩) 5 5],.rw tuL],σ.length)
def chX:List Int:=[-1,-3,0,2]
theorem ahx:nM 4 ((chB 1 10).b.pull (gi chX))=[0,0,-2,1]:=by decide +kernel
theorem ac9:Hg ((numsL (-200) 401).filter fun x=>decide ((chB 1 10).b.ct 2 x<nev) && decide (jl (chB 1 10).b (4 - 2) (x+200).toNat<nev))=.tuple #[.agg #[.i (-5),.i (-3)],.i 0]:=by
 have h:((numsL (-200) 401).filter fun x=>decide ((chB 1 10).b.ct 2 x<nev) && decide (jl (chB 1 10).b (4 - 2) (x+200).toNat<nev))=[-5,-4,-3]:=by decide +kernel
 rw [h];rfl
theorem aeW:Hg ((numsL (-200) 401).filter fun x=>decide (iJ (chB 1 10).b (1+1) (x+200).toNat<nev) && decide (jl (chB 1 10).b (4 - (1+1)) (x+200).toNat<nev))=.tuple #[.agg #[.i (-5),.i (-3)],.i 0]:=by
 refine Eq.trans (congrArg Hg (List.filter_congr fun x hx=>?_)) ac9
 unfold numsL at hx
 obtain ⟨j,hj,rfl⟩:=List.mem_map.1 hx
 have hj:=List.mem_range.1 hj
 rw [Qc (l7 (h:=1) (m:=10) oD oD).ok (fun i hi=>((l7 (h:=1) (m:=10) oD oD).tube hi).1) (1+1) (show 1+1≤4 by omega) _ oO,show (((-200+(j:Nat)+200:Int).toNat:Nat):Int) - 200=-200+(j:Nat) by omega]
def chLo (i:Nat):Int:=match i with|0=>-1|1=>-5|2=>-6|_=>-2
def chHi (i:Nat):Int:=match i with|0=>1|1=>-3|2=>-4|_=>0
theorem Yo {h m:Int} {i:Nat} (hi:i<4):(chB h m).b.lo i=chLo i∧(chB h m).b.hi i=chHi i:=by
 match i,hi with
 |0,_=>exact ⟨rfl,rfl⟩
 |1,_=>exact ⟨rfl,rfl⟩
 |2,_=>exact ⟨rfl,rfl⟩
 |3,_=>exact ⟨rfl,rfl⟩
def ada (σ:Heap) (p:Nat×Nat) (u:Value):Res:=bU (Nat.beq p.2 0 && isI u && decide (0≤qx u) && decide (qx u<4)) ((zO (chB 1 10) σ p.1).bind fun _ =>
 some (.func (.func 283) #[] #[.pointer (some ⟨σ.length+4,0,none⟩),.pointer (some ⟨σ.length+1,0,none⟩),.pointer (some ⟨σ.length+2,0,none⟩),.pointer (some ⟨σ.length+3,0,none⟩),.pointer (some ⟨σ.length,0,none⟩)],
  σ++[.rw [u],.rw (ints (Ho (qx u).toNat)),.rw (ints (Hl ((qx u).toNat+1))),.rw [.func (.func 180) #[.pointer (some ⟨p.1,0,none⟩)] #[]],.rw [.int .i64 (chLo (qx u).toNat),.int .i64 (chHi (qx u).toNat)]],σ.length))
theorem Yp:EJ (chB 1 10)=[.rw [.i (-1),.i (-3),.i 0,.i 2]]∧∀ l,EI (chB 1 10) l=.tuple #[.s l 4 4,.i 6]:=by
 have h1:(chB 1 10).b.vt (chB 1 10).n 0=6:=by decide +kernel
 have h2:nM (chB 1 10).n (chB 1 10).b.blow=[-1,-3,0,2]:=by decide +kernel
 unfold EJ EI
 rw [h1,h2]
 exact ⟨if_pos oD,fun l=>if_pos oD⟩
theorem Yq:EJ (chB 3 10)=[.rw [.i (-1),.i (-2),.i (-1),.i 2]]∧∀ l,EI (chB 3 10) l=.tuple #[.s l 4 4,.i 10]:=by
 have h1:(chB 3 10).b.vt (chB 3 10).n 0=10:=by decide +kernel
 have h2:nM (chB 3 10).n (chB 3 10).b.blow=[-1,-2,-1,2]:=by decide +kernel
 unfold EJ EI
 rw [h1,h2]
 exact ⟨if_pos oD,fun l=>if_pos oD⟩
theorem Yr:EJ (chB 1 1)=[]∧∀ l,EI (chB 1 1) l=.tuple #[.slice none 0 0,.i 1099511627776]:=by
 have h1:(chB 1 1).b.vt (chB 1 1).n 0=nev:=by decide +kernel
 unfold EJ EI
 rw [h1]
 exact ⟨if_neg oD,fun l=>if_neg oD⟩
def bestF (σ:Heap) (p:Nat×Nat):Res:=bU (Nat.beq p.2 0 && niB σ) (match zO (chB 1 10) σ p.1 with
 |some _=>some (.tuple #[.slice (some ⟨σ.length,0,none⟩) 4 4,.int .i64 6],σ++[.rw [.int .i64 (-1),.int .i64 (-3),.int .i64 0,.int .i64 2]],σ.length)
 |none=>match zO (chB 3 10) σ p.1 with
  |some _=>some (.tuple #[.slice (some ⟨σ.length,0,none⟩) 4 4,.int .i64 10],σ++[.rw [.int .i64 (-1),.int .i64 (-2),.int .i64 (-1),.int .i64 2]],σ.length)
  |none=>(zO (chB 1 1) σ p.1).bind fun _=>iV (.tuple #[.slice none 0 0,.int .i64 1099511627776]) σ)
def adb (σ:Heap) (p:Nat×Nat) (u:Value):Res:=(rO u).bind fun q=>bU (Nat.beq p.2 0 && Nat.beq q.2.1 0 && Nat.beq q.2.2.1 4 && Qe σ q.1 0 4 (ints chX)) ((zO (chB 1 10) σ p.1).bind fun _=>some (.slice (some ⟨σ.length,0,none⟩) 4 4,σ++[.rw [.int .i64 0,.int .i64 0,.int .i64 (-2),.int .i64 1]],σ.length))
def Yt (f:Nat) (args:List Value) (σ:Heap):Res:=match args with
 |[v,u]=>bif Nat.beq f 242 then (qU v).bind fun p=>ada σ p u
  else bif Nat.beq f 87 then (qU v).bind fun p=>adb σ p u
  else bif Nat.beq f 53 then (Le (chB 1 10) σ v).bind fun _=>bU (niB σ && eqV u (.int .i64 1)) (iV (.tuple #[.agg #[.int .i64 (-5),.int .i64 (-3)],.int .i64 0]) σ)
  else (qU v).bind fun p=>bU (Nat.beq p.2 0 && isI u && decide (0≤qx u) && decide (qx u≤4))
   (bif Nat.beq f 112 then (match zO (chB 1 10) σ p.1 with
     |some _=>iV (.agg (ints (Hl (qx u).toNat)).toArray) σ
     |none=>match zO (chB 3 10) σ p.1 with
      |some _=>iV (.agg (ints (Lc (qx u).toNat)).toArray) σ
      |none=>(zO (chB 1 1) σ p.1).bind fun _=>iV (.agg (ints (Ld (qx u).toNat)).toArray) σ)
    else bif Nat.beq f 111 then (zO (chB 1 10) σ p.1).bind fun _=>iV (.agg (ints (Ho (qx u).toNat)).toArray) σ
    else none)
 |[v]=>bif Nat.beq f 175 then (match Le (chB 1 10) σ v with
   |some x=>Uj 10 σ x
   |none=>match Le (chB 3 10) σ v with
    |some x=>Uj 10 σ x
    |none=>(Le (chB 1 1) σ v).bind fun x=>Uj 1 σ x)
  else bif Nat.beq f 86 then (qU v).bind fun p=>bestF σ p
  else bif Nat.beq f 114 then some (.slice (some ⟨σ.length,0,none⟩) 401 401,σ++[.rw (ints (numsL (-200) 401))],σ.length)
  else none
 |_=>none
end Go.AH.Warp
namespace Go.Proofs.YtajpgeklmcjciaaGreat
open Go Go.AH Go.AH.Heat Go.AH.Warp
theorem WG {h m:Int} {T:Nat→List Int} (hv:yg (chB h m)) (hT:∀ {sn:Nat},sn≤4→dH (jl (chB h m).b (4 - sn))=T sn) {σ:Heap} {nb:Nat} {x:(Nat×Nat)×(Nat×Nat)} (hb:zO (chB h m) σ nb=some x) {u:Value} (h1:isI u=true) (h2:0≤qx u) (h3:qx u≤4) :
  Ev Tryz.prog 112 [.p nb,u] σ (.agg (ints (T (qx u).toNat)).toArray) σ:=by
 have e:u=.i ((qx u).toNat:Nat):=(Qg h1).trans (congrArg (Value.int .i64) oO)
 have hs:(qx u).toNat≤4:=oO
 have:=IK hv (wW hb) (sn:=(qx u).toNat) hs
 rw [show (chB h m).n - (qx u).toNat=4 - (qx u).toNat from rfl,hT hs,← e] at this
 exact this
theorem ade {a m:Int} (hv:yg (chB a m)) {σ:Heap} {v:Value} {x:Nat×Nat} (hb:Le (chB a m) σ v=some x) {r:Value×Heap×Nat} (h:Uj m σ x=some r):Ev Tryz.prog 175 [v] σ r.1 r.2.1∧Keep r.2.2 σ r.2.1:=by
 unfold Uj at h
 cases h
 obtain ⟨h1,h2⟩:=Ui hb
 rw [h1]
 have:=Hf (cS:=x.2) hv h2
 rw [ahw] at this
 exact ⟨this,Keep.app⟩
theorem ahy {σ:Heap} {p:Nat×Nat} {u:Value} {r:Value×Heap×Nat} (h:ada σ p u=some r):Ev Tryz.prog 242 [.pointer (some ⟨p.1,p.2,none⟩),u] σ r.1 r.2.1∧Keep r.2.2 σ r.2.1:=by
 unfold ada at h
 simp only [aL,aN,aE,decide_eq_true_eq] at h
 obtain ⟨⟨⟨⟨h1,h2⟩,h3⟩,h4⟩,x,h5,h6⟩:=h
 cases h6
 have h1:=aM h1
 have e:u=.i ((qx u).toNat:Nat):=(Qg h2).trans (congrArg (Value.int .i64) oO)
 have hi:(qx u).toNat<4:=oO
 have:=aeV (l7 (h:=1) (m:=10) oD oD) (wW h5) (i:=(qx u).toNat) hi
 unfold ac5 at this
 rw [Uh oO,show (chB 1 10).n - ((qx u).toNat+1)=4 - ((qx u).toNat+1) from rfl,Ug oO,(Yo hi).1,(Yo hi).2,← e] at this
 rw [h1]
 exact ⟨this,Keep.app⟩
theorem ahz {σ:Heap} {p:Nat×Nat} {r:Value×Heap×Nat} (h:bestF σ p=some r):Ev Tryz.prog 86 [.pointer (some ⟨p.1,p.2,none⟩)] σ r.1 r.2.1∧Keep r.2.2 σ r.2.1:=by
 unfold bestF at h
 simp only [aN,aE] at h
 obtain ⟨⟨h1,h2⟩,h3⟩:=h
 have h1:=aM h1
 rw [h1]
 split at h3
 ·rename_i x hx
  cases h3
  have:=Ql (l7 (h:=1) (m:=10) oD oD) (wW hx) h2
  rw [Yp.1,Yp.2] at this
  exact ⟨this,Keep.app⟩
 ·split at h3
  ·rename_i x hx
   cases h3
   have:=Ql (l7 (h:=3) (m:=10) oD oD) (wW hx) h2
   rw [Yq.1,Yq.2] at this
   exact ⟨this,Keep.app⟩
  ·simp only [aL] at h3
   obtain ⟨x,hx,h4⟩:=h3
   cases oI h4
   have:=Ql (l7 (h:=1) (m:=1) oD oD) (wW hx) h2
   rw [Yr.1,Yr.2,bL] at this
   exact ⟨this,Keep.refl⟩
theorem aeX {σ:Heap} {p:Nat×Nat} {u:Value} {r:Value×Heap×Nat} (h:adb σ p u=some r):Ev Tryz.prog 87 [.pointer (some ⟨p.1,p.2,none⟩),u] σ r.1 r.2.1∧Keep r.2.2 σ r.2.1:=by
 unfold adb at h
 simp only [aL,aN,aE] at h
 obtain ⟨q,h1,⟨⟨⟨h2,h3⟩,h4⟩,h5⟩,x,h6,h7⟩:=h
 cases h7
 have h2:=aM h2
 have h3:=aM h3
 have h4:=aM h4
 have hc:=BM h5
 have hv:=l7 (h:=1) (m:=10) oD oD
 have:=ac1 (c:=q.2.2.2) (xb:=q.1) (d:=gi chX) hv (wW h6) (fun i hi=>by
  have:=gy (k:=i) hc (by have:i<4:=hi;omega)
  rw [bA] at this
  rw [this]
  have hi:i<4:=hi
  match i,hi with
  |0,_=>rfl
  |1,_=>rfl
  |2,_=>rfl
  |3,_=>rfl) (dL hc) (fun i hi=>by
  have hi:i<4:=hi
  match i,hi with
  |0,_=>exact oD
  |1,_=>exact oD
  |2,_=>exact oD
  |3,_=>exact oD)
 rw [lJ h1,h2,h3,h4]
 rw [show (chB 1 10).n=4 from rfl,ahx] at this
 exact ⟨this,Keep.app⟩
def afY:jE:=Yt
theorem adf:iW Tryz.prog afY:=by
 intro f c σ r h0
 have h:Yt f c σ=some r:=h0
 clear h0
 revert h
 match c with
 |[v,u] =>
  intro h
  unfold Yt at h
  cases hf:Nat.beq f 242 with
  |true =>
   rw [hf] at h
   have a:=aM hf
   subst a
   simp only [cond_true,aL] at h
   obtain ⟨p,h1,h2⟩:=h
   rw [jP h1]
   exact ahy h2
  |false =>
  rw [hf] at h
  simp only [cond_false] at h
  clear hf
  cases hf:Nat.beq f 87 with
  |true =>
   rw [hf] at h
   have a:=aM hf
   subst a
   simp only [cond_true,aL] at h
   obtain ⟨p,h1,h2⟩:=h
   rw [jP h1]
   exact aeX h2
  |false =>
  rw [hf] at h
  simp only [cond_false] at h
  clear hf
  cases hf:Nat.beq f 53 with
  |true =>
   rw [hf] at h
   have a:=aM hf
   subst a
   simp only [cond_true,aL,aN,aE] at h
   obtain ⟨x,h1,⟨h2,h3⟩,h4⟩:=h
   cases oI h4
   obtain ⟨h5,h6⟩:=Ui h1
   rw [h5,Vy h3]
   have:=ZO (i:=1) (cS:=x.2) (l7 (h:=1) (m:=10) oD oD) h6 (show 1<4 by omega) h2
   rw [show (chB 1 10).n - (1+1)=4 - (1+1) from rfl,aeW] at this
   exact ⟨this,Keep.refl⟩
  |false =>
  rw [hf] at h
  simp only [cond_false] at h
  clear hf
  simp only [aL,aN,aE,decide_eq_true_eq] at h
  obtain ⟨p,h1,⟨⟨⟨h2,h3⟩,h4⟩,h5⟩,h6⟩:=h
  have h2:=aM h2
  rw [jP h1,h2]
  cases hf:Nat.beq f 112 with
  |true =>
   rw [hf] at h6
   have a:=aM hf
   subst a
   simp only [cond_true] at h6
   split at h6
   ·rename_i x hx
    cases oI h6
    exact ⟨WG (l7 oD oD) Ug hx h3 h4 h5,Keep.refl⟩
   ·split at h6
    ·rename_i x hx
     cases oI h6
     exact ⟨WG (l7 oD oD) ac6 hx h3 h4 h5,Keep.refl⟩
    ·simp only [aL] at h6
     obtain ⟨x,hx,h7⟩:=h6
     cases oI h7
     exact ⟨WG (l7 oD oD) ac7 hx h3 h4 h5,Keep.refl⟩
  |false =>
   rw [hf] at h6
   simp only [cond_false] at h6
   clear hf
   cases hf:Nat.beq f 111 with
   |false=>rw [hf] at h6;cases h6
   |true =>
    rw [hf] at h6
    have a:=aM hf
    subst a
    simp only [cond_true,aL] at h6
    obtain ⟨x,hx,h7⟩:=h6
    cases oI h7
    have hs:(qx u).toNat≤4:=oO
    have:=Qb (l7 (h:=1) (m:=10) oD oD) (wW hx) (sn:=(qx u).toNat) hs
    rw [Uh hs] at this
    have e:u=.i ((qx u).toNat:Nat):=(Qg h3).trans (congrArg (Value.int .i64) oO)
    rw [← e] at this
    exact ⟨this,Keep.refl⟩
 |[v] =>
  intro h
  unfold Yt at h
  dsimp only at h
  cases hf:Nat.beq f 175 with
  |false =>
   rw [hf] at h
   simp only [cond_false] at h
   clear hf
   cases hf:Nat.beq f 86 with
   |true =>
    rw [hf] at h
    have a:=aM hf
    subst a
    simp only [cond_true,aL] at h
    obtain ⟨p,h1,h2⟩:=h
    rw [jP h1]
    exact ahz h2
   |false =>
   rw [hf] at h
   simp only [cond_false] at h
   clear hf
   cases hf:Nat.beq f 114 with
   |false=>rw [hf] at h;cases h
   |true =>
    rw [hf] at h
    have a:=aM hf
    subst a
    cases h
    exact ⟨acM,Keep.app⟩
  |true =>
   rw [hf] at h
   have a:=aM hf
   subst a
   simp only [cond_true] at h
   split at h
   ·rename_i x hx
    exact ade (l7 oD oD) hx h
   ·split at h
    ·rename_i x hx
     exact ade (l7 oD oD) hx h
    ·simp only [aL] at h
     obtain ⟨x,hx,h7⟩:=h
     exact ade (l7 oD oD) hx h7
 |[]=>intro h;cases h
 |_::_::_::_=>intro h;cases h
def ahA:Known:=⟨66,[],[],.bool true,[]⟩
theorem ZU:jJ Tryz.prog ahA:=⟨mO (orc:=afY) tabOk adf mixed (n:=400) (lo:=0) oK,oK,oK⟩
open Go Go.AH
attribute [local irreducible] dA bP bT jL gX dQ fF bZ fB aY dY fA
open Go.AH.Heat
theorem Qm {A B:Prop} (k:B) (h:Hide B→A:=by intro h_k_;(repeat' (first|refine sCm ?_|(refine gU ?_;first|(refine bW ?_;refine st (aJ rfl (by rfl)) rfl rfl ?_)|(refine kQ ?_;first|refine st (jH rfl rfl) rfl rfl ?_|refine st (gW rfl rfl) rfl rfl ?_))|(refine gG ?_;first|(refine gFA ?_;refine iI rfl (aW rfl) rfl rfl ?_)|(refine bW ?_;refine iI rfl (aJ rfl (by rfl)) rfl rfl ?_)|(refine nK ?_;refine iI rfl (fE rfl rfl rfl) rfl rfl ?_)|refine Sj rfl rfl ?_)|refine aG ?_));exact h_k_.h):A:=h ⟨k⟩
theorem WH (lo hi:Int):Ev Tryz.prog 101 [.agg #[.i lo,.i hi]] [] (.bool (decide (0≤lo∧lo≤hi∧hi≤1000))) []:=by
 refine aI 0 18 Tryz.func101 rfl rfl rfl rfl rfl ?_
 by_cases h1:lo≥0
 ·by_cases h2:lo≤hi
  ·by_cases h3:hi≤1000
   ·refine Qm ?_
    refine dM (.tmp rfl .nil) (.plain rfl rfl) ⟨?_,rfl⟩
    simp [kL,h1,h2,h3]
   ·refine Qm ?_
    refine dM (.tmp rfl .nil) (.plain rfl rfl) ⟨?_,rfl⟩
    simp [kL,h1,h2,h3]
  ·refine Qm ?_
   refine dM (.tmp rfl .nil) (.plain rfl rfl) ⟨?_,rfl⟩
   simp [kL,h2]
 ·refine Qm ?_
  refine dM (.tmp rfl .nil) (.plain rfl rfl) ⟨?_,rfl⟩
  simp only [kL,Value.bool.injEq]
  rw [eq_comm,decide_eq_false_iff_not];omega
theorem Lh {σ:Heap} {lo hi:Int} (hni:σ.all (fun o=>!aU o)=true):Ev Tryz.prog 101 [.agg #[.i lo,.i hi]] σ (.bool (decide (0≤lo∧lo≤hi∧hi≤1000))) σ:=Ev.nil (WH lo hi) rfl rfl hni
theorem zG {A B:Prop} (k:B) (h:Hide B→A:=by intro h_k_;(repeat' (first|refine sCm ?_|(refine gU ?_;first|(refine bW ?_;first|refine st (aJ rfl (by first|exact iG rfl|exact aF a0|exact aF a1|exact aF a2)) rfl rfl ?_|refine st (bD rfl (by assumption)) rfl rfl ?_)|(refine kQ ?_;refine st (gW rfl rfl) rfl rfl ?_)|(refine gIA ?_;refine st (eY rfl rfl (by omega)) rfl rfl ?_)|(refine dZ ?_;refine stN (bF rfl rfl rfl rfl (by exact fQ (aD _) (cH _))) rfl ?_))|(refine gG ?_;first|(refine gFA ?_;refine iI rfl (aW rfl) rfl rfl ?_)|(refine bW ?_;refine iI rfl (aJ rfl (by first|exact iG rfl|exact aF a1|exact aF a2)) rfl rfl ?_)|(refine yD ?_;refine iI rfl (kK rfl rfl (by omega) (by omega)) rfl rfl ?_)|(refine nK ?_;refine iI rfl (fE rfl rfl rfl) rfl rfl ?_)|(refine wY ?_;refine iI rfl (jC rfl) rfl rfl ?_))|(refine fU ?_;first|refine frA (aJ rfl (aF (aA a0))) rfl ?_ (hcs (by assumption))|refine frA (aW rfl) rfl ?_ (hcl (by assumption))|refine frA (eY rfl rfl (by omega)) rfl ?_ (hcl (by assumption))|refine frA (bD rfl (by exact hq1 _)) rfl ?_ rfl|refine frA (bD rfl (by exact hq2 _)) rfl ?_ rfl|refine frA (nX rfl rfl (by omega) (by omega)) rfl ?_ (hcl (by assumption))|(refine jM ?_;refine frA (bV rfl) rfl ?_)|(refine fSub ?_;refine frA (jB rfl rfl (by omega) (by omega)) rfl ?_)|(refine EZ ?_;refine frA (fE rfl rfl rfl) rfl ?_)|(refine DT ?_;first|refine frA (jH rfl rfl) rfl ?_|refine frA (gW rfl rfl) rfl ?_)|(refine Ae ?_;refine Chain.fr1A (lU rfl) rfl rfl rfl ?_))|(refine fG ?_;first|refine frG (rfl) (by first|rfl|exact dW (by assumption)|exact bM (by assumption)) (aJ rfl (aF (aA a0))) (hcs (by assumption)) rfl ?_|refine frG (rfl) (by first|rfl|exact dW (by assumption)|exact bM (by assumption)) (aW rfl) (hcl (by assumption)) rfl ?_|refine frG (rfl) (by first|rfl|exact dW (by assumption)|exact bM (by assumption)) (aJ rfl (by exact hq3 _)) (rfl) rfl ?_|refine frG (rfl) (by first|rfl|exact dW (by assumption)|exact bM (by assumption)) (aJ rfl (by exact hq4 _)) (rfl) rfl ?_|refine frG (rfl) (by first|rfl|exact dW (by assumption)|exact bM (by assumption)) (bD rfl (by exact hq5 _)) (rfl) rfl ?_|refine frG (rfl) (by first|rfl|exact dW (by assumption)|exact bM (by assumption)) (nX rfl rfl (by omega) (by omega)) (hcl (by assumption)) rfl ?_|(refine jM ?_;refine qy rfl (bV rfl) rfl ?_)|(refine fSub ?_;refine qy rfl (jB rfl rfl (by omega) (by omega)) rfl ?_)|(refine EZ ?_;refine qy rfl (fE rfl rfl rfl) rfl ?_)|(refine DT ?_;first|refine qy rfl (jH rfl rfl) rfl ?_|refine qy rfl (gW rfl rfl) rfl ?_)|(refine adJ ?_;refine qy rfl (lH rfl) rfl ?_)|(refine qR ?_;refine qy rfl (bH rfl rfl rfl (by exact hf1 _ rfl)) rfl ?_)|refine abD rfl rfl ?_)|(refine gu ⟨by kernel_rfl,?_⟩)|refine dD (id:=7) ?_|refine dD (id:=12) ?_|refine dD (id:=13) ?_|refine aG ?_|refine Chain.VN ?_|refine Chain.xJ 13 [true,true] [.i (kf (x - 1)).2.1,.i (kf (x - 1)).2.2] (by kernel_rfl) (by kernel_rfl) (by kernel_rfl) (by kernel_rfl) rfl rfl (bF rfl rfl rfl rfl (by exact hp1)) ?_|refine Chain.xJ 14 [true,true] [.i (kf x).2.1,.i (kf x).2.2] (by kernel_rfl) (by kernel_rfl) (by kernel_rfl) (by kernel_rfl) rfl rfl (bF rfl rfl rfl rfl (by exact hp2)) ?_|refine eP rfl ?_|refine eU rfl ?_));exact h_k_.h):A:=h ⟨k⟩
theorem ZV {σ:Heap} {b n c:Nat} {kf:Nat→Int×Int×Int} (hv:Zx n kf) (hk:∀ q<n,aK σ b (q*3) 3=some (jA (kf q))) (hni:σ.all (fun o=>!aU o)=true) :
  Ev Tryz.prog 43 [.agg #[.s b n c]] σ (.i 0) σ:=by
 have m:=hv.n1
 have hn2:=hv.n2
 have hbl:b < σ.length:=dL (hk 0 m)
 refine aI σ.length 104 Tryz.func43 rfl rfl rfl rfl rfl ?_
 have a0:(σ++[aB.rw [.s b n c]])[σ.length]?=some (.rw [.s b n c]):=aO
 have hn0:¬ (n:Int)<1:=oO
 have hn3:¬ (n:Int) > 12:=oO
 refine zG ?_
 refine dV (ι:=Nat) (fun k=>[(1,.p σ.length),(3,.i (k:Nat))])
  (fun k mk H=>k≤n∧mk=[]∧H.take (σ++[aB.rw [.s b n c]]).length=σ++[aB.rw [.s b n c]]∧H.all (fun o=>!aU o)=true) (fun k=>n - k) 0 tE ⟨bN _,rfl,eZ,bG hni rfl⟩ ?_
 clear a0
 rintro k mk H ⟨hkn,rfl,hp,g⟩
 have a:H.take σ.length=σ:=by
  have:=congrArg (List.take σ.length) hp
  rw [eJ] at this
  simpa using this
 have a0:H[σ.length]?=some (.rw [.s b n c]):=by rw [jm hp oS];exact aO
 by_cases j:k<n
 ·have F:(k:Int)<(n:Nat):=oO
  have hd1:aK H b (0+k*3) 3=some (jA (kf k)):=by rw [bA];exact fM a (hk k j)
  have t:=hv.k k j
  have w:0≤(kf k).2.1∧(kf k).2.1≤(kf k).2.2∧(kf k).2.2≤1000:=t.2.2.1
  refine zG ?_
  obtain ⟨H1,d⟩:∃ H1,H1=H++[aB.rw (jA (kf k))]:=⟨_,rfl⟩
  refine .mk (dJ [(1,.p σ.length),(3,.i (k:Nat)),(4,.p H.length)] H1 d.symm tE ?_)
  have E:=take_len a
  have hH1l:H1.length=H.length+1:=by rw [d];simp
  have C:b<H1.length:=oO
  have v:σ.length<H1.length:=by have:=aQ a0;omega
  have hs2:H.length<H1.length:=oO
  have hcl:∀ {q o:Nat},q<H1.length→closed H1.length (.pointer (some ⟨q,o,none⟩))=true:=fun {q o} h=>(show Nat.blt q H1.length=true from Nat.blt_eq.mpr h)
  have hcs:∀ {q o n c:Nat},q<H1.length→closed H1.length (.slice (some ⟨q,o,none⟩) n c)=true:=fun h=>bQ (Nat.blt_eq.mpr h)
  have b4:H1[H.length]?=some (.rw (jA (kf k))):=by rw [d];exact aO
  replace a0:H1[σ.length]?=some (.rw [.s b n c]):=by rw [d];exact aA a0
  have hp1:H1.take (σ++[aB.rw [.s b n c]]).length=σ++[aB.rw [.s b n c]]:=by rw [d];exact aT hp
  have e:H1.all (fun o=>!aU o)=true:=by rw [d];exact bG g rfl
  have y:H1.take σ.length=σ:=by rw [d];exact aT a
  have hq3:∀ X,aH (H1++X) H.length 0=some (.i (kf k).1):=fun X=>aF (aA b4)
  have hq5:∀ X,aK (H1++X) H.length 1 2=some [.i (kf k).2.1,.i (kf k).2.2]:=fun X=>by
   unfold aK;rw [aA b4];rfl
  have hf1:∀ X,X.all (fun o=>!aU o)=true→Ev Tryz.prog 101 [.agg #[.i (kf k).2.1,.i (kf k).2.2]] (H1++X) (.bool true) (H1++X):=fun X hX=>by
   have:=Lh (σ:=H1++X) (lo:=(kf k).2.1) (hi:=(kf k).2.2) (bG e hX)
   rwa [decide_eq_true w] at this
  have hg1:¬ (kf k).1 > 1000:=oO
  clear hd1 d
  by_cases G:k=0
  ·subst G
   have hz:=hv.z
   refine dI oK rfl (?_)
   refine zG ?_
   rw [show H1++gZ (fun _=>true) []=H1 from bL H1]
   exact ⟨0+1,⟨oO,rfl,hp1,e⟩,oO,tE⟩
  ·obtain ⟨k',rfl⟩:∃ k',k=k'+1:=⟨k - 1,oO⟩
   have hlt:=(hv.k k' oO).2.2.2 j
   have hg0:((k'+1:Nat):Int) > 0:=oO
   have hle:¬ (kf (k'+1)).1≤(kf k').1:=oO
   have hq4:∀ X,aH (H1++X) b (0+(((k'+1:Nat):Int) - 1).toNat*3+0)=some (.i (kf k').1):=fun X=>by
    rw [show 0+(((k'+1:Nat):Int) - 1).toNat*3+0=k'*3+0 by omega]
    exact gy (k:=0) (fM (aT y) (hk k' oO)) oO
   refine dI oK rfl (?_)
   refine zG ?_
   rw [show H1++gZ (fun _=>true) []=H1 from bL H1]
   exact ⟨k'+1+1,⟨oO,rfl,hp1,e⟩,oO,tE⟩
 ·obtain rfl:k=n:=oO
  have F:¬ (k:Int)<(k:Nat):=oO
  refine zG ?_
  refine dV (ι:=Nat) (fun x=>[(1,.p σ.length),(5,.i (x:Nat))])
   (fun x mk H=>1≤x∧x≤k∧mk=[]∧H.take (σ++[aB.rw [.s b k c]]).length=σ++[aB.rw [.s b k c]]) (fun x=>k - x) 1 tE ⟨aD _,m,rfl,hp⟩ ?_
  clear a0 a hp g H
  rintro x mk H ⟨hx1,hx,rfl,hp⟩
  have a:H.take σ.length=σ:=by
   have:=congrArg (List.take σ.length) hp
   rw [eJ] at this
   simpa using this
  have a0:H[σ.length]?=some (.rw [.s b k c]):=by rw [jm hp oS];exact aO
  have E:=take_len a
  by_cases hxk:x<k
  ·have D:(x:Int)<(k:Nat):=oO
   refine zG ?_
   refine .mk (dJ [(1,.p σ.length),(5,.i (x:Nat))] H rfl tE ?_)
   have C:b<H.length:=oO
   have v:σ.length<H.length:=aQ a0
   have hcl:∀ {q o:Nat},q<H.length→closed H.length (.pointer (some ⟨q,o,none⟩))=true:=fun {q o} h=>(show Nat.blt q H.length=true from Nat.blt_eq.mpr h)
   have hcs:∀ {q o n c:Nat},q<H.length→closed H.length (.slice (some ⟨q,o,none⟩) n c)=true:=fun h=>bQ (Nat.blt_eq.mpr h)
   have hq1:∀ X,aK (H++X) b (0+((x:Int) - 1).toNat*3+1) 2=some [.i (kf (x - 1)).2.1,.i (kf (x - 1)).2.2]:=fun X=>by
    rw [show 0+((x:Int) - 1).toNat*3+1=(x - 1)*3+1 by omega]
    exact xP (fM (aT a) (hk (x - 1) oO))
   have hq2:∀ X,aK (H++X) b (0+x*3+1) 2=some [.i (kf x).2.1,.i (kf x).2.2]:=fun X=>by
    rw [bA]
    exact xP (fM (aT a) (hk x oO))
   have hp1:putCells (H++[aB.rw [.i 0,.i 0],aB.rw [.i 0,.i 0]]) (H.length+0) 0 [.i (kf (x - 1)).2.1,.i (kf (x - 1)).2.2]=some (H++[aB.rw [.i (kf (x - 1)).2.1,.i (kf (x - 1)).2.2],aB.rw [.i 0,.i 0]]):=by
    refine (fZ (cs:=[.i 0,.i 0]) (cs':=[.i (kf (x - 1)).2.1,.i (kf (x - 1)).2.2]) oS oS oS rfl).trans ?_
    simp
   have hp2:putCells (H++[aB.rw [.i (kf (x - 1)).2.1,.i (kf (x - 1)).2.2],aB.rw [.i 0,.i 0]]) (H.length+1) 0 [.i (kf x).2.1,.i (kf x).2.2]=some (H++[aB.rw [.i (kf (x - 1)).2.1,.i (kf (x - 1)).2.2],aB.rw [.i (kf x).2.1,.i (kf x).2.2]]):=by
    refine (fZ (cs:=[.i 0,.i 0]) (cs':=[.i (kf x).2.1,.i (kf x).2.2]) oS oS oS rfl).trans ?_
    simp
   refine Chain.BH (id:=12) oK rfl (?_)
   refine zG ?_
   refine .mk (dJ [(1,.p σ.length),(5,.i (x:Nat)),(6,.p H.length),(7,.p (H.length+1))] (H++[aB.rw [.i (kf (x - 1)).2.1,.i (kf (x - 1)).2.2],aB.rw [.i (kf x).2.1,.i (kf x).2.2]]) rfl tE ?_)
   obtain ⟨H2,f⟩:∃ H2,H2=H++[aB.rw [.i (kf (x - 1)).2.1,.i (kf (x - 1)).2.2],aB.rw [.i (kf x).2.1,.i (kf x).2.2]]:=⟨_,rfl⟩
   rw [← f]
   have a1:H2[H.length]?=some (aB.rw [.i (kf (x - 1)).2.1,.i (kf (x - 1)).2.2]):=by rw [f];simp
   have a2:H2[H.length+1]?=some (aB.rw [.i (kf x).2.1,.i (kf x).2.2]):=by rw [f];simp
   have u:H2.take (σ++[aB.rw [.s b k c]]).length=σ++[aB.rw [.s b k c]]:=by rw [f];exact aT hp
   clear hp1 hp2 hq1 hq2 hcl hcs a0 f
   have hr:=hv.r (x - 1) oO
   rw [show x - 1+1=x by omega] at hr
   have t:0≤(kf (x - 1)).2.1∧(kf (x - 1)).2.1≤(kf (x - 1)).2.2∧(kf (x - 1)).2.2≤1000:=(hv.k (x - 1) oO).2.2.1
   have h1:¬ (kf x).2.1<(kf (x - 1)).2.1:=oO
   have h2:¬ (kf x).2.2<(kf (x - 1)).2.2:=oO
   have h3:¬ (kf x).2.1 > (kf (x - 1)).2.2+1:=oO
   apply aG
   refine zG ?_
   exact ⟨x+1,⟨oO,oO,rfl,u⟩,oO,tE⟩
  ·obtain rfl:x=k:=oO
   have D:¬ (x:Int)<(x:Nat):=oO
   refine zG ?_
   exact dM (.tmp rfl .nil) (.plain a rfl) ⟨rfl,rfl⟩
theorem zH {A B:Prop} (k:B) (h:Hide B→A:=by intro h_k_;(repeat' (first|refine sCm ?_|(refine gU ?_;first|(refine bW ?_;first|refine st (aJ rfl (by first|exact iG rfl|exact aF a0|exact hd1)) rfl rfl ?_|refine st (bD rfl (by first|exact hd1|exact hd2)) rfl rfl ?_)|(refine kQ ?_;refine st (gW rfl rfl) rfl rfl ?_)|(refine rV ?_;refine st (lH rfl) rfl rfl ?_)|(refine gIA ?_;first|refine st (iw rfl rfl (by omega)) rfl rfl ?_|refine st (eY rfl rfl (by omega)) rfl rfl ?_)|(refine eG ?_;refine st (bH rfl rfl rfl (by exact hf1)) rfl rfl ?_))|(refine gG ?_;first|(refine kP ?_;refine iI rfl (bV rfl) rfl rfl ?_)|(refine gFA ?_;refine iI rfl (aW rfl) rfl rfl ?_)|(refine bW ?_;refine iI rfl (aJ rfl (by first|exact iG rfl|exact aF a0|exact hd1)) rfl rfl ?_)|(refine nK ?_;refine iI rfl (fE rfl rfl rfl) rfl rfl ?_)|(refine wY ?_;refine iI rfl (jC rfl) rfl rfl ?_)|(refine gIA ?_;refine iI rfl (iw rfl rfl (by omega)) rfl rfl ?_))|refine aG ?_|refine eP rfl ?_|refine eU rfl ?_));exact h_k_.h):A:=h ⟨k⟩
theorem Hq {σ:Heap} {W:Wk} {bB bS cB cS:Nat} {wB cW:Nat→Nat} {kB cK:Nat→Nat→Nat} (hv:uF W) (hA:xg σ W bB bS wB cW kB cK) (hni:σ.all (fun o=>!aU o)=true) :
  Ev Tryz.prog 76 [.agg #[.s bB W.nb cB,.s bS W.ns cS]] σ (.i 0) σ:=by
 have h1:=hv.b1
 have h2:=hv.b2
 have h3:=hv.s
 refine aI σ.length 101 Tryz.func76 rfl rfl rfl rfl rfl ?_
 have a0:(σ++[aB.rw [.s bB W.nb cB,.s bS W.ns cS]])[σ.length]?=some (.rw [.s bB W.nb cB,.s bS W.ns cS]):=aO
 have hp:(σ++[aB.rw [.s bB W.nb cB,.s bS W.ns cS]]).take σ.length=σ:=oS
 have d:(σ++[aB.rw [.s bB W.nb cB,.s bS W.ns cS]]).all (fun o=>!aU o)=true:=bG hni rfl
 have e:=hA.take hp
 have hn0:¬ (W.nb:Int)<1:=oO
 have hn3:¬ (W.nb:Int) > 6:=oO
 have hn4:¬ (W.ns:Int) > 6:=oO
 refine zH ?_
 obtain ⟨K,hK⟩:∃ K,K=σ++[aB.rw [.s bB W.nb cB,.s bS W.ns cS]]:=⟨_,rfl⟩
 rw [← hK] at a0 hp d e
 refine dV (ι:=Nat) (fun k=>[(1,.p σ.length),(3,.i (k:Nat))]) (fun k mk H=>k≤W.ns∧mk=[]∧H=K) (fun k=>W.ns - k) 0 tE ⟨bN _,rfl,hK.symm⟩ ?_
 rintro k mk H ⟨hk,rfl,rfl⟩
 by_cases a:k<W.ns
 ·have g:(k:Int)<(W.ns:Nat):=oO
  have hd1:aH H bS (k+0)=some (.s (wB k) (W.nw k) (cW k)):=gy (k:=0) (e.steps k a) oO
  have hw1:¬ ((W.nw k:Nat):Int)<1:=by have:=hv.w1 k a;omega
  have n:¬ ((W.nw k:Nat):Int) > 5:=by have:=hv.w2 k a;omega
  refine zH ?_
  exact ⟨k+1,⟨oO,rfl,rfl⟩,oO,tE⟩
 ·obtain rfl:k=W.ns:=oO
  have g:¬ ((W.ns:Nat):Int)<(W.ns:Nat):=oO
  refine zH ?_
  refine dV (ι:=Nat) (fun k=>[(1,.p σ.length),(4,.i (k:Nat))]) (fun k mk K=>k≤W.nb∧mk=[]∧K=H) (fun k=>W.nb - k) 0 tE ⟨bN _,rfl,rfl⟩ ?_
  rintro k mk K ⟨hk,rfl,rfl⟩
  by_cases a:k<W.nb
  ·have g:(k:Int)<(W.nb:Nat):=oO
   have hd1:aK K bB (0+k*2) 2=some [.i (W.bf k).1,.i (W.bf k).2]:=by rw [bA];exact e.bars k a
   have hf1:=Lh (σ:=K) (lo:=(W.bf k).1) (hi:=(W.bf k).2) d
   have j:0≤(W.bf k).1∧(W.bf k).1≤(W.bf k).2∧(W.bf k).2≤1000:=hv.b k a
   rw [decide_eq_true j] at hf1
   refine zH ?_
   exact ⟨k+1,⟨oO,rfl,rfl⟩,oO,tE⟩
  ·obtain rfl:k=W.nb:=oO
   have g:¬ ((W.nb:Nat):Int)<(W.nb:Nat):=oO
   refine zH ?_
   refine dV (ι:=Nat) (fun i=>[(1,.p σ.length),(5,.i (i:Nat))]) (fun i mk H=>i≤W.ns∧mk=[]∧H=K) (fun i=>W.ns - i) 0 tE ⟨bN _,rfl,rfl⟩ ?_
   rintro i mk H ⟨hi,rfl,rfl⟩
   by_cases f:i<W.ns
   ·have m:(i:Int)<(W.ns:Nat):=oO
    have hd1:aH H bS (i+0)=some (.s (wB i) (W.nw i) (cW i)):=gy (k:=0) (e.steps i f) oO
    refine zH ?_
    refine dV (ι:=Nat) (fun k=>[(1,.p σ.length),(5,.i (i:Nat)),(6,.i (k:Nat))]) (fun k mk K=>k≤W.nw i∧mk=[]∧K=H) (fun k=>W.nw i - k) 0 tE ⟨bN _,rfl,rfl⟩ ?_
    rintro k mk K ⟨hk,rfl,rfl⟩
    by_cases a:k<W.nw i
    ·have n:=hv.w2 i f
     have g:(k:Int)<(W.nw i:Nat):=oO
     have hd2:aK K (wB i) k 1=some [.s (kB i k) (W.nk i k) (cK i k)]:=e.ways i f k a
     have hf1:=ZV (σ:=K) (b:=kB i k) (c:=cK i k) (hv.k i f k a) (e.kinks i f k a) d
     refine zH ?_
     exact ⟨k+1,⟨oO,rfl,rfl⟩,oO,tE⟩
    ·obtain rfl:k=W.nw i:=oO
     have g:¬ ((W.nw i:Nat):Int)<(W.nw i:Nat):=oO
     refine zH ?_
     exact ⟨i+1,⟨oO,rfl,rfl⟩,oO,tE⟩
   ·obtain rfl:i=W.ns:=oO
    have m:¬ ((W.ns:Nat):Int)<(W.ns:Nat):=oO
    refine zH ?_
    exact dM (.tmp rfl .nil) (.plain hp rfl) ⟨rfl,rfl⟩
end Go.Proofs.YtajpgeklmcjciaaGreat
namespace Go.AH.Heat
open Go Go.AH
def wyL (i:Nat):List Nat:=match i with|0=>[0,1]|_=>[0]
def adg (f:Nat) (args:List Value) (σ:Heap):Res:=match args with
 |[v]=>bif Nat.beq f 76 then (KY σ v).bind fun _=>bU (niB σ) (iV (.int .i64 0) σ) else none
 |[v,u]=>bif Nat.beq f 134 then (KY σ v).bind fun _=>bU (isHm u && niB σ) (some (.tuple #[.slice (some ⟨σ.length,0,none⟩) 2 2,.int .i64 0],σ++[.rw [.int .i64 0,.int .i64 1]],σ.length))
  else bif Nat.beq f 21 then (KY σ v).bind fun _=>bU (isHm u && niB σ) (some (.tuple #[.slice (some ⟨σ.length,0,none⟩) 2 2,.int .i64 0],σ++[.rw [.slice (some ⟨σ.length+1,0,none⟩) 2 2,.slice (some ⟨σ.length+2,0,none⟩) 1 1],.rw [.int .i64 0,.int .i64 1],.rw [.int .i64 0]],σ.length))
  else none
 |_=>none
end Go.AH.Heat
namespace Go.Proofs.YtajpgeklmcjciaaGreat
open Go Go.AH Go.AH.Heat
def WI:jE:=fun f args σ=>match adg f args σ with|some r=>some r|none=>acS f args σ
theorem ZW:iW Tryz.prog WI:=by
 intro f e σ r h
 unfold WI at h
 split at h
 ·rename_i r' a
  cases h
  unfold adg at a
  split at a
  ·rename_i v
   cases hf:Nat.beq f 76 with
   |false=>rw [hf] at a;cases a
   |true =>
    rw [hf] at a
    have c:=aM hf
    subst c
    simp only [cond_true,aL,aN] at a
    obtain ⟨x,h1,h2,h3⟩:=a
    cases oI h3
    obtain ⟨h4,_,_,h7⟩:=Bc h1
    obtain ⟨h8,h9⟩:=yP h7
    rw [h4]
    exact ⟨Hq rD h8 h2,Keep.refl⟩
  ·rename_i v u
   cases hf:Nat.beq f 134 with
   |true =>
    rw [hf] at a
    have c:=aM hf
    subst c
    simp only [cond_true,aL,aN,aE] at a
    obtain ⟨x,h1,⟨h2,d⟩,h3⟩:=a
    cases h3
    obtain ⟨h4,h5,h6,h7⟩:=Bc h1
    obtain ⟨h8,h9⟩:=yP h7
    rw [h4,Ih h2]
    exact ⟨aeI (m:=hm) rD h8 h9 oD h5 h6 d Dn.symm,Keep.app⟩
   |false =>
    rw [hf] at a
    simp only [cond_false] at a
    clear hf
    cases hf:Nat.beq f 21 with
    |false=>rw [hf] at a;cases a
    |true =>
     rw [hf] at a
     have c:=aM hf
     subst c
     simp only [cond_true,aL,aN,aE] at a
     obtain ⟨x,h1,⟨h2,d⟩,h3⟩:=a
     cases h3
     obtain ⟨h4,h5,h6,h7⟩:=Bc h1
     obtain ⟨h8,h9⟩:=yP h7
     rw [h4,Ih h2]
     exact ⟨NW (m:=hm) rD h8 h9 oD h5 h6 d (by rw [Dn];simp) (l:=wyL) (fun i hi=>by
      match i,hi with
      |0,_=>exact Ub.symm
      |1,_=>exact Uc.symm),Keep.app⟩
  ·cases a
 ·exact ZK f e σ r h
def ahB:Known:=⟨65,[],[],.bool true,[]⟩
theorem ZX:jJ Tryz.prog ahB:=⟨mO (orc:=WI) tabOk ZW mixed (n:=400) (lo:=0) oK,oK,oK⟩
end Go.Proofs.YtajpgeklmcjciaaGreat
namespace Go.AH.Heat
open Go Go.AH
theorem adh {W:Wk} {kB cK:Nat→Nat→Nat} {ks:Nat→Nat} {σ:Heap} {b n i:Nat} (h:σ[b]?=some (.rw (wyC W kB cK ks n))) (hi:i<n):aK σ b i 1=some [.s (kB i (ks i)) (W.nk i (ks i)) (cK i (ks i))] :=
 yX (by rw [aF h];exact Qi hi)
end Go.AH.Heat
namespace Go.Proofs.YtajpgeklmcjciaaGreat
open Go Go.AH
attribute [local irreducible] dA bP bT jL gX dQ fF bZ fB aY dY fA
open Go.AH.Heat
theorem ZY {σ:Heap} {W:Wk} {bB bS cB cS:Nat} {wB cW:Nat→Nat} {kB cK:Nat→Nat→Nat} {bar rb c:Nat} {ks:Nat→Nat} (hv:uF W) (hA:xg σ W bB bS wB cW kB cK) (hK:∀ i<W.ns,∀ k<W.nw i,W.nk i k≤cK i k) (hbar:bar<W.nb) (hks:∀ i<W.ns,ks i<W.nw i) (hrb:∀ i<W.ns,aH σ rb i=some (.i (ks i:Nat))) (hbB:bB < σ.length) (hbS:bS < σ.length) (hrl:rb < σ.length) (hni:σ.all (fun o=>!aU o)=true) {n:Nat} (hn:W.ns=n+1) :
  Ev Tryz.prog 20 [.agg #[.s bB W.nb cB,.s bS W.ns cS],.agg #[.i (bar:Nat),.s rb W.ns c]] σ (.tuple #[.s σ.length (n+2) (n+2),.i 0]) (σ++[.rw (rgC (W.rg ks (W.bf bar)) (n+2))]):=by
 have hnb3:=hv.b2
 refine aI σ.length 25 Tryz.func20 rfl rfl rfl rfl rfl ?_
 have a0:(σ++[aB.rw [.s bB W.nb cB,.s bS W.ns cS]]++[aB.rw [.i (bar:Nat),.s rb W.ns c]])[σ.length]?=some (.rw [.s bB W.nb cB,.s bS W.ns cS]):=aA aO
 have a1:(σ++[aB.rw [.s bB W.nb cB,.s bS W.ns cS]]++[aB.rw [.i (bar:Nat),.s rb W.ns c]])[(σ++[aB.rw [.s bB W.nb cB,.s bS W.ns cS]]).length]?=some (.rw [.i (bar:Nat),.s rb W.ns c]):=aO
 have hniH:(σ++[aB.rw [.s bB W.nb cB,.s bS W.ns cS]]++[aB.rw [.i (bar:Nat),.s rb W.ns c]]).all (fun o=>!aU o)=true:=bG (bG hni rfl) rfl
 have hp:(σ++[aB.rw [.s bB W.nb cB,.s bS W.ns cS]]++[aB.rw [.i (bar:Nat),.s rb W.ns c]]).take σ.length=σ:=oS
 have hle:=take_len hp
 have a:∀ i<W.ns,aH (σ++[aB.rw [.s bB W.nb cB,.s bS W.ns cS]]++[aB.rw [.i (bar:Nat),.s rb W.ns c]]) rb i=some (.i (ks i:Nat)):=fun i hi=>by
  rw [cD,jZ hrl];exact hrb i hi
 have hf1:=Yk (σ:=σ++[aB.rw [.s bB W.nb cB,.s bS W.ns cS]]++[aB.rw [.i (bar:Nat),.s rb W.ns c]]) (cB:=cB) (cS:=cS) (c:=c) hv (hA.take hp) hK hbar hks a oO oO oO hniH
 have d:slN (σ++[aB.rw [.s bB W.nb cB,.s bS W.ns cS]]++[aB.rw [.i (bar:Nat),.s rb W.ns c]]).length W.ns=.s ((σ++[aB.rw [.slice (some ⟨bB,0,none⟩) W.nb cB,.slice (some ⟨bS,0,none⟩) W.ns cS]]++[aB.rw [.i (bar:Nat),.slice (some ⟨rb,0,none⟩) W.ns c]]).length) W.ns W.ns:=by rw [hn];rfl
 rw [d] at hf1
 have hd1:aK (σ++[aB.rw [.s bB W.nb cB,.s bS W.ns cS]]++[aB.rw [.i (bar:Nat),.s rb W.ns c]]++[aB.rw (wyC W kB cK ks W.ns)]) bB (0+bar*2) 2=some [.i (W.bf bar).1,.i (W.bf bar).2]:=by rw [bA];exact (hA.take (aT hp)).bars bar hbar
 have hf2:=WB (σ:=σ++[aB.rw [.s bB W.nb cB,.s bS W.ns cS]]++[aB.rw [.i (bar:Nat),.s rb W.ns c]]++[aB.rw (wyC W kB cK ks W.ns)]) (wb:=(σ++[aB.rw [.s bB W.nb cB,.s bS W.ns cS]]++[aB.rw [.i (bar:Nat),.s rb W.ns c]]).length) (c:=W.ns) (r:=W.bf bar) hv (hA.take (aT hp)) hks (hv.b bar hbar) hn (fun i hi=>adh aO hi) (bG hniH rfl)
 rw [← hn] at hf2
 repeat' (first|refine sCm ?_|(refine gU ?_;first|(refine bW ?_;first|refine st (aJ rfl (by first|exact aF (aA a0)|exact aF (aA a1))) rfl rfl ?_|refine st (bD rfl (by first|exact aV a0 rfl|exact aV a1 rfl|assumption)) rfl rfl ?_)|(refine gIA ?_;refine st (eY rfl rfl oO) rfl rfl ?_)|(refine eG ?_;refine st (bH rfl rfl rfl (by first|exact hf1|exact hf2)) rfl rfl ?_))|refine aG ?_|refine eU rfl ?_)
 have s0:fV σ.length [(σ++[aB.rw [.s bB W.nb cB,.s bS W.ns cS]]++[aB.rw [.i (bar:Nat),.s rb W.ns c]]++[aB.rw (wyC W kB cK ks W.ns)]).length] σ.length=⟨(σ++[aB.rw [.s bB W.nb cB,.s bS W.ns cS]]++[aB.rw [.i (bar:Nat),.s rb W.ns c]]++[aB.rw (wyC W kB cK ks W.ns)]).length,0,0⟩:=by simp [fV]
 exact dM (v2:=.tuple #[.s σ.length (n+2) (n+2),.i 0]) (.tmp rfl (.tmp rfl .nil)) (aY.src [.rw (rgC (W.rg ks (W.bf bar)) (n+2))] [(σ++[aB.rw [.s bB W.nb cB,.s bS W.ns cS]]++[aB.rw [.i (bar:Nat),.s rb W.ns c]]++[aB.rw (wyC W kB cK ks W.ns)]).length] (aT (aT hp)) rfl (by simp [dG]) ⟨pJ s0 (.inl aO) (yQ _ _),trivial⟩ (tJ (lI oS s0 (aD _)) (.i 0))) ⟨rfl,rfl⟩
end Go.Proofs.YtajpgeklmcjciaaGreat
namespace Go.AH.Heat
open Go Go.AH
def Wk.nowH (W:Wk) (ks:Nat→Nat) (hs:Nat→Int) (r:Int×Int):Nat→Int×Int
 |0=>r
 |i+1=>qJ (W.nk i (ks i)) (W.kf i (ks i)) (hs i)
theorem aeY {W:Wk} (hv:uF W) {ks:Nat→Nat} (hks:∀ i<W.ns,ks i<W.nw i) {hs:Nat→Int} {r:Int×Int} (hr:jX r):∀ i≤W.ns,jX (W.nowH ks hs r i)
 |0,_=>hr
 |i+1,h=>by
  have a:=hv.k i oO (ks i) (hks i oO)
  have l1:=AY (W.kf i (ks i)) (hs i) (W.nk i (ks i) - 1)
  have:=a.n1
  exact (a.k _ oO).2.2.1
end Go.AH.Heat
namespace Go.Proofs.YtajpgeklmcjciaaGreat
open Go Go.AH
attribute [local irreducible] dA bP bT jL gX dQ fF bZ fB aY dY fA
open Go.AH.Heat
theorem Du {A B:Prop} (k:B) (h:Hide B→A:=by intro h_k_;(repeat' (first|refine sCm ?_|(refine gU ?_;first|(refine bW ?_;first|refine st (aJ rfl (by first|exact aF (aA a0)|exact aF (aA a1)|exact aF a9|assumption)) rfl rfl ?_|refine st (bD rfl (by first|exact aV a0 rfl|exact aV a1 rfl|assumption)) rfl rfl ?_)|(refine rV ?_;refine st (nU rfl) rfl rfl ?_)|(refine gIA ?_;first|refine st (iw rfl rfl (by omega)) rfl rfl ?_|refine st (eY rfl rfl (by omega)) rfl rfl ?_)|(refine eG ?_;refine st (bH rfl rfl rfl (by first|exact hf1|exact hf2|exact xO (l:=[hs i]) (.inr (.inl aO)) (by simp) (bG hniH rfl))) rfl rfl ?_)|(refine lV ?_;refine st (fO (by rfl) (by rfl) (by rfl) (by rfl) rfl (by rfl)) rfl rfl ?_)|(refine dZ ?_;refine stN (bF rfl rfl rfl rfl (by exact fQ (aD _) (cH _))) rfl ?_))|refine dD (id:=7) ?_|refine dD (id:=12) ?_|refine aG ?_|refine eP rfl ?_|refine eU rfl ?_));exact h_k_.h):A:=h ⟨k⟩
theorem Ic {σ:Heap} {W:Wk} {bB bS cB cS:Nat} {wB cW:Nat→Nat} {kB cK:Nat→Nat→Nat} {bar rb c:Nat} {ks:Nat→Nat} (hv:uF W) (hA:xg σ W bB bS wB cW kB cK) (hK:∀ i<W.ns,∀ k<W.nw i,W.nk i k≤cK i k) (hbar:bar<W.nb) (hks:∀ i<W.ns,ks i<W.nw i) (hrb:∀ i<W.ns,aH σ rb i=some (.i (ks i:Nat))) (hbB:bB < σ.length) (hbS:bS < σ.length) (hrl:rb < σ.length) (hni:σ.all (fun o=>!aU o)=true) {hb ch n:Nat} {hs:Nat→Int} (hn:W.ns=n+1) (hh:∀ i≤W.ns,aH σ hb i=some (.i (hs i))) (hhl:hb < σ.length) (hin:∀ i≤W.ns,(W.nowH ks hs (W.bf bar) i).1≤hs i∧hs i≤(W.nowH ks hs (W.bf bar) i).2) :
  Ev Tryz.prog 22 [.agg #[.s bB W.nb cB,.s bS W.ns cS],.agg #[.i (bar:Nat),.s rb W.ns c],.s hb (W.ns+1) ch] σ (.i 0) σ:=by
 have hnb3:=hv.b2
 have hns3:=hv.s
 refine aI σ.length 61 Tryz.func22 rfl rfl rfl rfl rfl ?_
 have a0:(σ++[aB.rw [.s bB W.nb cB,.s bS W.ns cS]]++[aB.rw [.i (bar:Nat),.s rb W.ns c]])[σ.length]?=some (.rw [.s bB W.nb cB,.s bS W.ns cS]):=aA aO
 have a1:(σ++[aB.rw [.s bB W.nb cB,.s bS W.ns cS]]++[aB.rw [.i (bar:Nat),.s rb W.ns c]])[(σ++[aB.rw [.s bB W.nb cB,.s bS W.ns cS]]).length]?=some (.rw [.i (bar:Nat),.s rb W.ns c]):=aO
 have hniH:(σ++[aB.rw [.s bB W.nb cB,.s bS W.ns cS]]++[aB.rw [.i (bar:Nat),.s rb W.ns c]]).all (fun o=>!aU o)=true:=bG (bG hni rfl) rfl
 have hp:(σ++[aB.rw [.s bB W.nb cB,.s bS W.ns cS]]++[aB.rw [.i (bar:Nat),.s rb W.ns c]]).take σ.length=σ:=oS
 have G:=take_len hp
 have g:∀ i<W.ns,aH (σ++[aB.rw [.s bB W.nb cB,.s bS W.ns cS]]++[aB.rw [.i (bar:Nat),.s rb W.ns c]]) rb i=some (.i (ks i:Nat)):=fun i hi=>by
  rw [cD,jZ hrl];exact hrb i hi
 have hf1:=Yk (σ:=σ++[aB.rw [.s bB W.nb cB,.s bS W.ns cS]]++[aB.rw [.i (bar:Nat),.s rb W.ns c]]) (cB:=cB) (cS:=cS) (c:=c) hv (hA.take hp) hK hbar hks g oO oO oO hniH
 have F:slN (σ++[aB.rw [.s bB W.nb cB,.s bS W.ns cS]]++[aB.rw [.i (bar:Nat),.s rb W.ns c]]).length W.ns=.s ((σ++[aB.rw [.slice (some ⟨bB,0,none⟩) W.nb cB,.slice (some ⟨bS,0,none⟩) W.ns cS]]++[aB.rw [.i (bar:Nat),.slice (some ⟨rb,0,none⟩) W.ns c]]).length) W.ns W.ns:=by rw [hn];rfl
 rw [F] at hf1
 have hd1:aK (σ++[aB.rw [.s bB W.nb cB,.s bS W.ns cS]]++[aB.rw [.i (bar:Nat),.s rb W.ns c]]++[aB.rw (wyC W kB cK ks W.ns)]) bB (0+bar*2) 2=some [.i (W.bf bar).1,.i (W.bf bar).2]:=by rw [bA];exact (hA.take (aT hp)).bars bar hbar
 have hlen1:¬ (((W.ns+1:Nat):Int) ≠ ((W.ns:Nat):Int)+1):=oO
 refine Du ?_
 obtain ⟨K,f⟩:∃ K,K=σ++[aB.rw [.s bB W.nb cB,.s bS W.ns cS]]++[aB.rw [.i (bar:Nat),.s rb W.ns c]]++[aB.rw (wyC W kB cK ks W.ns)]++[aB.rw [.i (W.bf bar).1,.i (W.bf bar).2]]:=⟨_,rfl⟩
 obtain ⟨wy,e⟩:∃ wy,wy=(σ++[aB.rw [.s bB W.nb cB,.s bS W.ns cS]]++[aB.rw [.i (bar:Nat),.s rb W.ns c]]).length:=⟨_,rfl⟩
 refine .mk (dJ [(2,.s hb (W.ns+1) ch),(6,.i 0),(7,.s wy W.ns W.ns),(9,.p (wy+1))] K (by rw [f];rfl) ⟨rfl,rfl,by rw [e];rfl,by rw [e];simp [Env.get],trivial⟩ ?_)
 have hwl:wy=σ.length+2:=by rw [e];simp
 have D:K.take σ.length=σ:=by rw [f];exact aT (aT hp)
 have j:K.all (fun o=>!aU o)=true:=by rw [f];exact bG (bG hniH rfl) rfl
 have b7:K[wy]?=some (.rw (wyC W kB cK ks W.ns)):=by rw [f,e];exact aA aO
 have b9:K[wy+1]?=some (.rw [.i (W.bf bar).1,.i (W.bf bar).2]):=by rw [f,e];exact bK oS
 clear hf1 a0 a1 hniH hp G g F hd1 f e
 apply aG
 refine Du ?_
 refine dV (ι:=Nat) (fun i=>[(6,.i 0),(7,.s wy W.ns W.ns),(9,.p (wy+1)),(35,.s hb (W.ns+1) ch),(36,.i ((W.ns+1:Nat):Int)),(37,.i (i:Nat))])
  (fun i mk H=>i≤W.ns+1∧mk=[]∧H.take σ.length=σ∧H.all (fun o=>!aU o)=true∧H[wy]?=some (.rw (wyC W kB cK ks W.ns))∧∃ x y:Int,H[wy+1]?=some (.rw [.i x,.i y])∧(i≤W.ns→(x,y)=(W.nowH ks hs (W.bf bar) i))) (fun i=>W.ns+1 - i) 0 tE ⟨bN _,rfl,D,j,b7,_,_,b9,fun _=>rfl⟩ ?_
 clear D j b7 b9 K
 rintro i mk H ⟨hi,rfl,hp,hniH,b7,x,y,a9,t⟩
 by_cases hiN:i<W.ns+1
 ·have I:(i:Int)<((W.ns+1:Nat):Int):=oO
  have t:=t oO
  have r:=hin i oO
  rw [← t] at r
  have hd1:aH H hb i=some (.i (hs i)):=by
   have:=hh i oO
   unfold aH at this ⊢
   rw [jm hp hhl];exact this
  have L:¬ ¬ (∀ z ∈ [hs i],x≤z∧z≤y):=fun h=>h fun z hz=>by
   simp only [fc] at hz
   subst hz;exact r
  refine Du ?_
  obtain ⟨H1,d⟩:∃ H1,H1=H++[aB.rw [.i (hs i)]]:=⟨_,rfl⟩
  refine .mk (dJ [(6,.i 0),(7,.s wy W.ns W.ns),(9,.p (wy+1)),(10,.i (i:Nat)),(11,.i (hs i)),(35,.s hb (W.ns+1) ch),(36,.i ((W.ns+1:Nat):Int)),(37,.i (i:Nat))] H1 d.symm tE ?_)
  have hp1:H1.take σ.length=σ:=by rw [d];exact aT hp
  have q:H1.all (fun o=>!aU o)=true:=by rw [d];exact bG hniH rfl
  have c7:H1[wy]?=some (.rw (wyC W kB cK ks W.ns)):=by rw [d];exact aA b7
  have c9:H1[wy+1]?=some (.rw [.i x,.i y]):=by rw [d];exact aA a9
  clear d hd1 L a9 b7 hniH
  apply aG
  by_cases a:i<W.ns
  ·have u:(i:Int)<(W.ns:Nat):=oO
   have E:=hks i a
   have C:=hv.k i a _ E
   have hd1:=adh c7 a
   have J:0≤hs i:=by
    have:=aeY hv hks (hs:=hs) (hv.b bar hbar) i oO
    rw [← t] at this
    have h1:0≤x:=this.1
    omega
   have hf2:=AZ (σ:=H1) (c:=cK i (ks i)) (h:=hs i) C.n1 (by have:=C.n2;omega) (by rw [C.z];exact J) ((hA.take hp1).kinks i a (ks i) E)
   have m:∀ v w,putCells H1 (wy+1) 0 [v,w]=some (H1.set (wy+1) (.rw [v,w])):=fun v w=>fZ c9 oS oS rfl
   refine Du ?_
   refine stN (bF rfl rfl rfl rfl (by exact m _ _)) rfl ?_
   refine Du ?_
   exact ⟨i+1,⟨oO,rfl,take_set hp1 oO,kN q rfl,aC c7 oO,_,_,aS c9,fun _=>rfl⟩,oO,tE⟩
  ·have u:¬ (i:Int)<(W.ns:Nat):=oO
   refine Du ?_
   exact ⟨i+1,⟨oO,rfl,hp1,q,c7,x,y,c9,fun h=>oO⟩,oO,tE⟩
 ·obtain rfl:i=W.ns+1:=oO
  have I:¬ ((W.ns+1:Nat):Int)<((W.ns+1:Nat):Int):=oO
  refine Du ?_
  exact dM (.tmp rfl .nil) (.plain hp rfl) ⟨rfl,rfl⟩
end Go.Proofs.YtajpgeklmcjciaaGreat
namespace Go.Proofs.YtajpgeklmcjciaaGreat
open Go Go.AH
def stn:Value:=.agg #[.int .i64 3000,.int .i64 1500,.int .i64 10,.int .i64 540000,.int .i64 720000]
def pul:List Value:=[.int .i64 200,.int .i64 250,.int .i64 260,.int .i64 300,.int .i64 390]
def pul2:List Value:=[.int .i64 200,.int .i64 250,.int .i64 260,.int .i64 300,.int .i64 400]
def s5:Value:=.slice (some ⟨0,0,none⟩) 5 5
def knA0:Known:=⟨151,[stn,s5,.int .i64 0],[pul],.tuple #[.agg #[.int .i64 2710,.int .i64 3000],.int .i64 0],[]⟩
theorem aeZ:jJ Tryz.prog knA0:=⟨mO (orc:=orc) tabOk oV mixed (n:=200) (lo:=1) oK,oK,oK⟩
def knA1:Known:=⟨151,[stn,s5,.int .i64 1],[pul],.tuple #[.agg #[.int .i64 2170,.int .i64 2870],.int .i64 0],[]⟩
theorem ae0:jJ Tryz.prog knA1:=⟨mO (orc:=orc) tabOk oV mixed (n:=200) (lo:=1) oK,oK,oK⟩
def knA2:Known:=⟨151,[stn,s5,.int .i64 2],[pul],.tuple #[.agg #[.int .i64 2087,.int .i64 2759],.int .i64 0],[]⟩
theorem ae1:jJ Tryz.prog knA2:=⟨mO (orc:=orc) tabOk oV mixed (n:=200) (lo:=1) oK,oK,oK⟩
def knA3:Known:=⟨151,[stn,s5,.int .i64 3],[pul],.tuple #[.agg #[.int .i64 1810,.int .i64 2390],.int .i64 0],[]⟩
theorem ae2:jJ Tryz.prog knA3:=⟨mO (orc:=orc) tabOk oV mixed (n:=200) (lo:=1) oK,oK,oK⟩
def knA4:Known:=⟨151,[stn,s5,.int .i64 4],[pul],.tuple #[.agg #[.int .i64 1500,.int .i64 1836],.int .i64 0],[]⟩
theorem ae3:jJ Tryz.prog knA4:=⟨mO (orc:=orc) tabOk oV mixed (n:=200) (lo:=1) oK,oK,oK⟩
def knG1:Known:=⟨152,[stn,s5],[pul],.tuple #[.int .i64 0,.int .i64 5],[]⟩
theorem ae4:jJ Tryz.prog knG1:=⟨mO (orc:=orc) tabOk oV mixed (n:=200) (lo:=1) oK,oK,oK⟩
def knG2:Known:=⟨152,[stn,s5],[pul2],.tuple #[.int .i64 1809,.int .i64 0],[]⟩
theorem ae5:jJ Tryz.prog knG2:=⟨mO (orc:=orc) tabOk oV mixed (n:=200) (lo:=1) oK,oK,oK⟩
def run4 (a b c d e f g h:Int):List Value:=[.int .i64 a,.int .i64 b,.int .i64 c,.int .i64 d,.int .i64 e,.int .i64 f,.int .i64 g,.int .i64 h]
def s4:Value:=.slice (some ⟨1,0,none⟩) 4 4
def knP:Known:=⟨14,[stn,s5],[pul],.tuple #[.slice (some ⟨1,0,none⟩) 4 4,.int .i64 0],[.rw [.int .i64 3000,.int .i64 0,.int .i64 2709,.int .i64 2,.int .i64 2086,.int .i64 3,.int .i64 1809,.int .i64 4]]⟩
theorem ahD:jJ Tryz.prog knP:=⟨mO (orc:=orc) tabOk oV mixed (n:=200) (lo:=1) oK,oK,oK⟩
def knX:Known:=⟨154,[stn,s5],[pul],.tuple #[.slice (some ⟨1,0,none⟩) 4 4,.int .i64 0],[.rw [.int .i64 3000,.int .i64 2709,.int .i64 2086,.int .i64 1809]]⟩
theorem ahE:jJ Tryz.prog knX:=⟨mO (orc:=orc) tabOk oV mixed (n:=200) (lo:=1) oK,oK,oK⟩
def knC1:Known:=⟨23,[stn,s5,s4],[pul,run4 3000 0 2800 1 2100 3 1836 4],.int .i64 19,[]⟩
theorem ae6:jJ Tryz.prog knC1:=⟨mO (orc:=orc) tabOk oV mixed (n:=200) (lo:=2) oK,oK,oK⟩
def knC2:Known:=⟨23,[stn,s5,s4],[pul,run4 3000 0 2800 1 2169 3 1836 4],.int .i64 0,[]⟩
theorem ae7:jJ Tryz.prog knC2:=⟨mO (orc:=orc) tabOk oV mixed (n:=200) (lo:=2) oK,oK,oK⟩
def knV:Known:=⟨15,[stn,s5,s4],[pul,run4 3000 0 2709 2 2086 3 1809 4],.tuple #[.agg #[.int .i64 540000,.int .i64 709410],.int .i64 0],[]⟩
theorem ahF:jJ Tryz.prog knV:=⟨mO (orc:=orc) tabOk oV mixed (n:=200) (lo:=2) oK,oK,oK⟩
def knQ:Known:=⟨155,[stn,s5,.slice (some ⟨1,0,none⟩) 3 3],[pul,[.int .i64 3000,.int .i64 2800,.int .i64 2000]],.int .i64 14,[]⟩
theorem ahG:jJ Tryz.prog knQ:=⟨mO (orc:=orc) tabOk oV mixed (n:=200) (lo:=2) oK,oK,oK⟩
def knF1:Known:=⟨156,[stn,s5,.int .i64 1],[pul],.tuple #[.int .i64 2710,.int .i64 0],[]⟩
theorem ae8:jJ Tryz.prog knF1:=⟨mO (orc:=orc) tabOk oV mixed (n:=200) (lo:=1) oK,oK,oK⟩
def knF2:Known:=⟨156,[stn,s5,.int .i64 2],[pul],.tuple #[.int .i64 2087,.int .i64 0],[]⟩
theorem ae9:jJ Tryz.prog knF2:=⟨mO (orc:=orc) tabOk oV mixed (n:=200) (lo:=1) oK,oK,oK⟩
def knF4:Known:=⟨156,[stn,s5,.int .i64 4],[pul],.tuple #[.int .i64 1500,.int .i64 0],[]⟩
theorem afa:jJ Tryz.prog knF4:=⟨mO (orc:=orc) tabOk oV mixed (n:=200) (lo:=1) oK,oK,oK⟩
def knK:Known:=⟨157,[stn,s5],[pul],.tuple #[.slice (some ⟨1,0,none⟩) 5 5,.int .i64 0],[.rw [.int .i64 2,.int .i64 1,.int .i64 1,.int .i64 2,.int .i64 2]]⟩
theorem ahH:jJ Tryz.prog knK:=⟨mO (orc:=orc) tabOk oV mixed (n:=200) (lo:=1) oK,oK,oK⟩
def ksW:List Known:=[knA0,knA1,knA2,knA3,knA4,knG1,knG2,knP,knX,knC1,knC2,knV,knQ,knF1,knF2,knF4,knK]
theorem ahI:∀ k ∈ ksW,jJ Tryz.prog k:=by intro k hk;simp only [ksW,List.mem_cons,List.not_mem_nil,or_false] at hk;rcases hk with rfl|rfl|rfl|rfl|rfl|rfl|rfl|rfl|rfl|rfl|rfl|rfl|rfl|rfl|rfl|rfl|rfl <;> first|exact aeZ|exact ae0|exact ae1|exact ae2|exact ae3|exact ae4|exact ae5|exact ahD|exact ahE|exact ae6|exact ae7|exact ahF|exact ahG|exact ae8|exact ae9|exact afa|exact ahH
def knW:Known:=⟨67,[],[],.bool true,[]⟩
theorem ahJ:jJ Tryz.prog knW:=⟨mO (orc:=aap orc (Jb ksW)) tabOk (aaq oV (MG ahI)) mixed (n:=200) (lo:=0) oK,oK,oK⟩
attribute [local irreducible] dA bP bT jL gX dQ fF bZ fB aY dY fA
open Go.AH.Heat Go.AH.Warp
theorem qp {σ X:Heap} {i:Nat} {cs:List Value} (h:dP σ i cs):dP (σ++X) i cs:=by
 rcases h with h|h|⟨t,h⟩
 ·exact .inl (aA h)
 ·exact .inr (.inl (aA h))
 ·exact .inr (.inr ⟨t,aA h⟩)
theorem jT {σ H:Heap} {i:Nat} {cs:List Value} (hp:H.take σ.length=σ) (h:dP σ i cs):dP H i cs:=by
 have hi:=jR h
 unfold dP at h ⊢
 rw [jm hp hi];exact h
theorem Z4 {n:Nat} {π:Rho} {a b a' b':Value} (h1:jS n π a a') (h2:jS n π b b'):jS n π (.agg #[a,b]) (.agg #[a',b']):=by
 refine .agg _ _ rfl fun i h _=>?_
 simp at h
 rcases (by omega:i=0∨i=1) with rfl|rfl
 ·exact h1
 ·exact h2
theorem Dv {σ:Heap} (hni:σ.all (fun o=>!aU o)=true):Ev Tryz.prog 12 [] σ (.bool true) σ:=by
 have hf1:Ev Tryz.prog 65 [] σ (.bool true) σ:=Ev.nil ZX.1 rfl rfl hni
 have hf2:Ev Tryz.prog 66 [] σ (.bool true) σ:=Ev.nil ZU.1 rfl rfl hni
 have hf3:Ev Tryz.prog 67 [] σ (.bool true) σ:=Ev.nil ahJ.1 rfl rfl hni
 refine aI σ.length 8 Tryz.func12 rfl rfl rfl rfl rfl ?_
 repeat' (first|refine sCm ?_|(refine gU ?_;first|(refine kQ ?_;refine st (lu rfl oR rfl) rfl rfl ?_)|(refine eG ?_;refine st (bH rfl rfl rfl (by exact hf1)) rfl rfl ?_))|(refine gG ?_;(refine eG ?_;refine stG rfl oR (bH rfl rfl rfl (by first|exact hf2|exact hf3)) rfl rfl ?_))|refine aG ?_)
 exact dM (.tmp rfl .nil) .all ⟨rfl,rfl⟩
theorem afZ {A B:Prop} (k:B) (h:Hide B→A:=by intro h_k_;(repeat' (first|refine sCm ?_|(refine gU ?_;first|(refine oQ ?_;refine st (iE (by rfl) rfl (by rfl)) rfl rfl ?_)|(refine dZ ?_;refine stN (bF rfl rfl rfl rfl (by exact vX rfl rfl)) rfl ?_))|refine aG ?_));exact h_k_.h):A:=h ⟨k⟩
theorem ahK {σ:Heap} {lo hi:Int}:Ev Tryz.prog 131 [.i lo,.i hi] σ (.agg #[.i lo,.i hi]) σ:=by
 refine aI σ.length 8 Tryz.func131 rfl rfl rfl rfl rfl ?_
 refine afZ ?_
 exact dM (.cellN inferInstance rfl (dX rfl) .nil) (aY.plain oS rfl) ⟨rfl,rfl⟩
theorem afb {σ:Heap} {k lo hi:Int}:Ev Tryz.prog 75 [.i k,.i lo,.i hi] σ (.agg #[.i k,.i lo,.i hi]) σ:=by
 refine aI σ.length 12 Tryz.func75 rfl rfl rfl rfl rfl ?_
 have hf1:=ahK (σ:=σ++[aB.rw [.i 0,.i 0,.i 0]]) (lo:=lo) (hi:=hi)
 repeat' (first|refine sCm ?_|(refine gU ?_;first|(refine oQ ?_;refine st (iE oR rfl oR) rfl rfl ?_)|(refine eG ?_;refine st (bH rfl rfl rfl (by exact hf1)) rfl rfl ?_)|(refine dZ ?_;refine stN (bF rfl rfl rfl rfl (by exact vX rfl rfl)) rfl ?_))|refine aG ?_)
 exact dM (.cellN inferInstance rfl (dX rfl) .nil) (aY.plain oS rfl) ⟨rfl,rfl⟩
theorem Z5 {σ:Heap} {bar:Int} {b n c:Nat} (hb:b < σ.length):Ev Tryz.prog 19 [.i bar,.s b n c] σ (.agg #[.i bar,.s b n c]) σ:=by
 refine aI σ.length 8 Tryz.func19 rfl rfl rfl rfl rfl ?_
 refine afZ ?_
 have h:=aY.src (σin:=σ) (σ:=σ++[aB.rw [.i bar,.s b n c]]) (v:=.agg #[.i bar,.s b n c]) (v2:=.agg #[.i bar,.s b n c]) [] [] oS rfl rfl trivial (Z4 (.i bar) (lI (by simp;omega) (fJ hb) (aD _)))
 rw [bL] at h
 exact dM (.cellN inferInstance rfl (dX rfl) .nil) h ⟨rfl,rfl⟩
theorem af0 {A B:Prop} (k:B) (h:Hide B→A:=by intro h_k_;(repeat' (first|refine sCm ?_|(refine gU ?_;(refine kQ ?_;first|refine st (lu rfl (by exact dW (by assumption)) rfl) rfl rfl ?_|refine st (jK rfl (by exact bM (by assumption)) rfl) rfl rfl ?_))|(refine gG ?_;first|(refine kP ?_;refine stG rfl (by exact dW (by assumption)) (bV rfl) rfl rfl ?_)|(refine bW ?_;refine stG rfl (by exact dW (by assumption)) (bD rfl (by exact dX rfl)) rfl rfl ?_)|(refine nK ?_;refine stG rfl (by exact dW (by assumption)) (fE rfl rfl rfl) rfl rfl ?_)|(refine eG ?_;refine stG rfl (by exact dW (by assumption)) (bH rfl rfl rfl (by exact hf1)) rfl rfl ?_)|refine stS rfl (by exact bM (by assumption)) rfl ?_)|refine aG ?_));exact h_k_.h):A:=h ⟨k⟩
theorem WJ {σ:Heap} {s:St} {l:List Int} {x c:Nat} (hx:dP σ x (ints l)) (hni:σ.all (fun o=>!aU o)=true) :
  Ev Tryz.prog 11 [s.val,.s x l.length c] σ (.bool (decide (l.length≤20∧iL s l=0))) σ:=by
 have hniH:(σ++[aB.rw s.cells]).all (fun o=>!aU o)=true:=bG hni rfl
 have hxl:x < σ.length:=jR hx
 have a:dP (σ++[aB.rw s.cells]) x (ints l):=qp hx
 have hf1:=sV (s:=s) (c:=c) a hniH
 refine aI σ.length 14 Tryz.func11 rfl rfl rfl rfl rfl ?_
 by_cases h1:(l.length:Int)≤20
 ·refine af0 ?_
  refine dM (.tmp rfl .nil) (.plain oS rfl) ⟨?_,rfl⟩
  simp [kL];omega
 ·refine af0 ?_
  refine dM (.tmp rfl .nil) (.plain oS rfl) ⟨?_,rfl⟩
  simp [kL];omega
theorem Uk {A B:Prop} (k:B) (h:Hide B→A:=by intro h_k_;(repeat' (first|refine sCm ?_|(refine gU ?_;first|(refine bW ?_;first|refine st (aJ rfl (by first|exact iG rfl|exact aF a0|exact hd1|exact hd2)) rfl rfl ?_|refine st (bD rfl (by exact aV a0 rfl)) rfl rfl ?_)|(refine kQ ?_;refine st (jK rfl (by exact bM (by assumption)) rfl) rfl rfl ?_)|(refine gIA ?_;refine st (iw rfl rfl (by omega)) rfl rfl ?_)|(refine eG ?_;refine st (bH rfl rfl rfl (by exact hf1)) rfl rfl ?_))|(refine gG ?_;first|(refine gFA ?_;refine stG rfl (by exact bM (by assumption)) (aW rfl) rfl rfl ?_)|(refine bW ?_;refine stG rfl (by exact bM (by assumption)) (aJ rfl (by exact iG rfl)) rfl rfl ?_)|(refine nK ?_;refine stG rfl (by exact bM (by assumption)) (fE rfl rfl rfl) rfl rfl ?_)|(refine wY ?_;refine stG rfl (by exact bM (by assumption)) (jC rfl) rfl rfl ?_))|refine aG ?_|refine jc rfl (by first|rfl|exact dW (by assumption)) ?_|refine iM rfl (by first|rfl|exact bM (by assumption)) ?_));exact h_k_.h):A:=h ⟨k⟩
theorem WL {σ:Heap} {W:Wk} {bB bS cB cS:Nat} {wB cW:Nat→Nat} {kB cK:Nat→Nat→Nat} (hv:uF W) (hA:xg σ W bB bS wB cW kB cK) (hni:σ.all (fun o=>!aU o)=true) :
  Ev Tryz.prog 18 [.agg #[.s bB W.nb cB,.s bS W.ns cS]] σ (.bool true) σ:=by
 refine aI σ.length 56 Tryz.func18 rfl rfl rfl rfl rfl ?_
 have h2:=hv.b2
 have h3:=hv.s
 have a0:(σ++[aB.rw [.s bB W.nb cB,.s bS W.ns cS]])[σ.length]?=some (.rw [.s bB W.nb cB,.s bS W.ns cS]):=aO
 have hp:(σ++[aB.rw [.s bB W.nb cB,.s bS W.ns cS]]).take σ.length=σ:=oS
 have a:(σ++[aB.rw [.s bB W.nb cB,.s bS W.ns cS]]).all (fun o=>!aU o)=true:=bG hni rfl
 have d:=hA.take hp
 have hn3:¬ (W.nb:Int) > 10:=oO
 have hn4:¬ (W.ns:Int) > 10:=oO
 refine Uk ?_
 obtain ⟨K,hK⟩:∃ K,K=σ++[aB.rw [.s bB W.nb cB,.s bS W.ns cS]]:=⟨_,rfl⟩
 rw [← hK] at a0 hp a d
 refine dV (ι:=Nat) (fun k=>[(1,.p σ.length),(3,.i (k:Nat))]) (fun k mk H=>k≤W.ns∧mk=[]∧H=K) (fun k=>W.ns - k) 0 tE ⟨bN _,rfl,hK.symm⟩ ?_
 rintro i mk H ⟨hi,rfl,rfl⟩
 by_cases c:i<W.ns
 ·have f:(i:Int)<(W.ns:Nat):=oO
  have hd1:aH H bS (i+0)=some (.s (wB i) (W.nw i) (cW i)):=gy (k:=0) (d.steps i c) oO
  have hw2:=hv.w2 i c
  have hw3:¬ ((W.nw i:Nat):Int) > 10:=oO
  refine Uk ?_
  refine dV (ι:=Nat) (fun k=>[(1,.p σ.length),(3,.i (i:Nat)),(4,.i (k:Nat))]) (fun k mk K=>k≤W.nw i∧mk=[]∧K=H) (fun k=>W.nw i - k) 0 tE ⟨bN _,rfl,rfl⟩ ?_
  rintro k mk K ⟨hk,rfl,rfl⟩
  by_cases e:k<W.nw i
  ·have g:(k:Int)<(W.nw i:Nat):=oO
   have hd2:aH K (wB i) (k+0)=some (.s (kB i k) (W.nk i k) (cK i k)):=gy (k:=0) (d.ways i c k e) oO
   have hk2:=(hv.k i c k e).n2
   have hk3:¬ ((W.nk i k:Nat):Int) > 20:=oO
   refine Uk ?_
   exact ⟨k+1,⟨oO,rfl,rfl⟩,oO,tE⟩
  ·obtain rfl:k=W.nw i:=oO
   have g:¬ ((W.nw i:Nat):Int)<(W.nw i:Nat):=oO
   refine Uk ?_
   exact ⟨i+1,⟨oO,rfl,rfl⟩,oO,tE⟩
 ·obtain rfl:i=W.ns:=oO
  have f:¬ ((W.ns:Nat):Int)<(W.ns:Nat):=oO
  have hf1:=Hq (cB:=cB) (cS:=cS) hv d a
  refine Uk ?_
  exact dM (.tmp rfl .nil) (.plain hp rfl) ⟨rfl,rfl⟩
theorem Qn {A B:Prop} (k:B) (h:Hide B→A:=by intro h_k_;(repeat' (first|refine sCm ?_|(refine gU ?_;first|(refine bW ?_;refine st (bD rfl (by rfl)) rfl rfl ?_)|(refine kQ ?_;refine st (gW rfl rfl) rfl rfl ?_)|(refine eG ?_;refine st (bH rfl rfl rfl (by exact sV (by exact .inl rfl) rfl)) rfl rfl ?_))|(refine gG ?_;first|(refine kP ?_;refine iI rfl (bV rfl) rfl rfl ?_)|(refine nK ?_;refine iI rfl (fE rfl rfl rfl) rfl rfl ?_)|(refine wY ?_;refine iI rfl (jC rfl) rfl rfl ?_))|refine aG ?_|refine eP rfl ?_|refine eU rfl ?_));exact h_k_.h):A:=h ⟨k⟩
theorem Ul (s:St) (l:List Int) (c:Nat) (pl:List (Int×Int)) (c2:Nat) (h:iL s l ≠ 0) :
  Ev Tryz.prog 13 [s.val,.s 0 l.length c,.s 1 pl.length c2] [.ro (ints l),.ro (dK pl)] (.i (iL s l)) [.ro (ints l),.ro (dK pl)]:=by
 refine aI 2 122 Tryz.func13 rfl rfl rfl rfl rfl ?_
 refine Qn ?_
 refine dM (.tmp rfl .nil) (.plain rfl rfl) ⟨rfl,rfl⟩
theorem Qo (s:St) (l:List Int) (c:Nat) (pl:List (Int×Int)) (c2:Nat) (h:iL s l=0) (hp:pl.length<1∨pl.length > 20) :
  Ev Tryz.prog 13 [s.val,.s 0 l.length c,.s 1 pl.length c2] [.ro (ints l),.ro (dK pl)] (.i 6) [.ro (ints l),.ro (dK pl)]:=by
 refine aI 2 122 Tryz.func13 rfl rfl rfl rfl rfl ?_
 repeat' (first|refine sCm ?_|(refine gU ?_;first|(refine bW ?_;refine st (bD rfl oR) rfl rfl ?_)|(refine kQ ?_;first|refine st (jH rfl rfl) rfl rfl ?_|refine st (gW rfl rfl) rfl rfl ?_)|(refine eG ?_;refine st (bH rfl rfl rfl (by exact sV (by exact .inl rfl) rfl)) rfl rfl ?_))|(refine gG ?_;first|(refine kP ?_;refine iI rfl (bV rfl) rfl rfl ?_)|(refine nK ?_;refine iI rfl (fE rfl rfl rfl) rfl rfl ?_)|(refine wY ?_;refine iI rfl (jC rfl) rfl rfl ?_)|refine Sj rfl rfl ?_|((fail_if_success (refine stGkA rfl ?_));(refine Aa rfl ?_ ?_ <;> intro _)))|refine aG ?_|refine eP rfl ?_|refine eU rfl ?_)
 all_goals refine dM (.tmp rfl .nil) (.plain rfl rfl) ⟨rfl,rfl⟩
theorem Um (s:St) (l:List Int) (c:Nat) (pl:List (Int×Int)) (c2:Nat) (h:iL s l=0) (hp1:1≤pl.length) (hp2:pl.length≤20) :
  Ev Tryz.prog 13 [s.val,.s 0 l.length c,.s 1 pl.length c2] [.ro (ints l),.ro (dK pl)] (.i (if someB pl.length (lF s l pl)=true then 3 else if someB pl.length (ou s l pl)=true then 19 else 0)) [.ro (ints l),.ro (dK pl)]:=by
 obtain ⟨h12,h1,hs,ht⟩:=nR h
 have q:=JY ht
 have hs1:1≤s.short:=by unfold fD at hs;omega
 have n:s.short≤s.long:=by unfold fD at hs;omega
 have hs3:s.long≤100000:=by unfold fD at hs;omega
 refine aI 2 122 Tryz.func13 rfl rfl rfl rfl rfl ?_
 refine Qn ?_
 refine jd (ι:=Nat) (fun i=>[(1,.s 0 l.length c),(2,.s 1 pl.length c2),(3,.p 2),(7,.i (i:Int))])
  (fun _=>[.ro (ints l),.ro (dK pl),.rw s.cells]) (fun i=>pl.length - i) (fun i=>i≤pl.length∧∀ j<i,¬ lF s l pl j) 0 oS (.same tE) ⟨oO,fun j hj=>oO⟩ ?_
 rintro i ⟨hi,d⟩
 have hc1:i<pl.length→aH [.ro (ints l),.ro (dK pl),.rw s.cells] 1 (0+i*2+0)=some (.i (gp pl i).1):=fun h=>by simpa [aH] using sW h
 have hc2:i<pl.length→aH [.ro (ints l),.ro (dK pl),.rw s.cells] 1 (0+i*2+1)=some (.i (gp pl i).2):=fun h=>by simpa [aH] using BG h
 have m:(0<i∧i<pl.length)→aH [.ro (ints l),.ro (dK pl),.rw s.cells] 1 (0+((i:Int) - 1).toNat*2+0)=some (.i (gp pl (i - 1)).1):=fun h=>by
  rw [show ((i:Int) - 1).toNat=i - 1 from by omega]
  simpa [aH] using sW (pl:=pl) (i:=i - 1) oO
 repeat' (first|refine sCm ?_|(refine fU ?_;first|(refine jM ?_;refine frA (bV rfl) rfl ?_)|(refine EZ ?_;refine frA (fE rfl rfl rfl) rfl ?_)|(refine DT ?_;first|refine frA (jH rfl rfl) rfl ?_|refine frA (gW rfl rfl) rfl ?_))|(refine fG ?_;first|(refine jM ?_;refine qy rfl (bV rfl) rfl ?_)|(refine fFA ?_;refine qy rfl (aW rfl) rfl ?_)|(refine gY ?_;refine qy rfl (aJ rfl (by first|rfl|exact hc1 oO|exact hc2 oO|exact m oO)) rfl ?_)|(refine fSub ?_;refine qy rfl (jB rfl rfl oO oO) rfl ?_)|(refine EZ ?_;refine qy rfl (fE rfl rfl rfl) rfl ?_)|(refine QX ?_;refine qy rfl (jC rfl) rfl ?_)|(refine DT ?_;first|refine qy rfl (jH rfl rfl) rfl ?_|refine qy rfl (gW rfl rfl) rfl ?_)|(refine fIA ?_;first|refine qy rfl (eY rfl rfl oO) rfl ?_|refine qy rfl (nX rfl rfl oO oO) rfl ?_)|refine frSU rfl rfl ?_|refine abD rfl rfl ?_|((fail_if_success (refine frGkA rfl ?_));(refine aaw rfl ?_ ?_ <;> intro _)))|(refine gu ⟨oK,?_⟩)|refine aG ?_|refine dI oK rfl ?_|refine eP rfl ?_|(refine ji rfl ?_ ?_ <;> intro _))
 any_goals (first|(refine dM (.tmp rfl .nil) (.plain rfl rfl) ⟨?_,rfl⟩;rw [if_pos (qH (i:=i) oO (by unfold lF;omega))];rfl)|exact ⟨rfl,i+1,⟨oO,xH d (by unfold lF;omega)⟩,oO,.same tE⟩|skip)
 have a:∀ j<pl.length,¬ lF s l pl j:=fun j hj=>d j oO
 clear hc1 hc2 m d
 rw [if_neg (by rw [nP a];simp)]
 refine jd (ι:=Nat) (fun i=>[(1,.s 0 l.length c),(2,.s 1 pl.length c2),(3,.p 2),(8,.i (i:Int))])
  (fun _=>[.ro (ints l),.ro (dK pl),.rw s.cells]) (fun i=>pl.length - i) (fun i=>i≤pl.length∧∀ j<i,¬ ou s l pl j) 0 oS (.same tE) ⟨oO,fun j hj=>oO⟩ ?_
 clear hi
 rintro i ⟨hi,d⟩
 have hb:∀ i<pl.length,-1000000≤(gp pl i).1∧(gp pl i).1≤1000000:=fun i hi=>by have:=oz a i hi;omega
 by_cases g:i<pl.length
 ·have hr:=oz a i g
  have he:=PI n a g
  have hk:(gp pl i).2.toNat<l.length:=oO
  have hn:=q _ hk
  have r:s.short≤(gp pl i).1∧(gp pl i).1≤s.long:=oO
  have o:s.short≤wP s.short pl i∧wP s.short pl i≤s.long:=oO
  have hc1:aH [.ro (ints l),.ro (dK pl),.rw s.cells] 1 (0+i*2+0)=some (.i (gp pl i).1):=by simpa [aH] using sW g
  have hc2:aH [.ro (ints l),.ro (dK pl),.rw s.cells] 1 (0+i*2+1)=some (.i (gp pl i).2):=by simpa [aH] using BG g
  have m:aH [.ro (ints l),.ro (dK pl),.rw s.cells] 0 (0+(gp pl i).2.toNat*1)=some (.i (gi l (gp pl i).2.toNat)):=by simpa [aH] using ig hk
  have e:=abV hs hk hn r
  have f:=abV hs hk hn o
  repeat' (first|refine sCm ?_|(refine gU ?_;first|(refine bW ?_;refine st (aJ rfl oA) rfl rfl ?_)|(refine gIA ?_;first|refine st (eY rfl rfl oO) rfl rfl ?_|refine st (nX rfl rfl oO oO) rfl rfl ?_))|(refine fU ?_;first|(refine jM ?_;refine frA (bV rfl) rfl ?_)|(refine fFA ?_;refine frA (aW rfl) rfl ?_)|(refine gY ?_;first|refine frA (aJ rfl oA) rfl ?_|refine frA (bD rfl oR) rfl ?_)|(refine DT ?_;first|refine frA (jH rfl rfl) rfl ?_|refine frA (gW rfl rfl) rfl ?_)|(refine adJ ?_;refine frA (nU rfl) rfl ?_)|(refine fIA ?_;refine frA (eY rfl rfl oO) rfl ?_)|(refine qR ?_;refine frA (bH rfl rfl rfl (by exact Ep oA oA oA rfl)) rfl ?_))|(refine fG ?_;first|(refine jM ?_;refine qy rfl (bV rfl) rfl ?_)|(refine gY ?_;refine qy rfl (bD rfl oR) rfl ?_)|(refine adJ ?_;refine qy rfl (nU rfl) rfl ?_)|(refine qR ?_;refine qy rfl (bH rfl rfl rfl (by first|exact Ep oA oA oA rfl|exact Ny (by exact .inl rfl) oO oO oA rfl)) rfl ?_)|refine abD rfl rfl ?_|((fail_if_success (refine frGkA rfl ?_));(refine aaw rfl ?_ ?_ <;> intro _)))|(refine gu ⟨oK,?_⟩)|refine aG ?_|refine dI oK rfl ?_|refine eP rfl ?_|(refine ji rfl ?_ ?_ <;> intro _))
  ·rename_i hq
   refine dM (.tmp rfl .nil) (.plain rfl rfl) ⟨?_,rfl⟩
   rw [if_pos (qH g (fun h=>hq (e.1 h.1)))];rfl
  ·rename_i hq0 hq
   refine dM (.tmp rfl .nil) (.plain rfl rfl) ⟨?_,rfl⟩
   rw [if_pos (qH g (fun h=>hq (f.1 h.2)))];rfl
  ·rename_i hq0 hq
   exact ⟨rfl,i+1,⟨oO,xH d (fun h=>h ⟨e.2 (Classical.not_not.1 hq0),f.2 (Classical.not_not.1 hq)⟩)⟩,oO,.same tE⟩
 ·refine Qn ?_
  refine dM (.tmp rfl .nil) (.plain rfl rfl) ⟨?_,rfl⟩
  rw [if_neg (by rw [nP fun j hj=>d j oO];simp)];rfl
theorem WM (s:St) (l:List Int) (c:Nat) (pl:List (Int×Int)) (c2:Nat) :
  Ev Tryz.prog 13 [s.val,.s 0 l.length c,.s 1 pl.length c2] [.ro (ints l),.ro (dK pl)] (.i (sZ s l pl)) [.ro (ints l),.ro (dK pl)]:=by
 unfold sZ
 by_cases h:iL s l=0
 ·rw [if_neg oO]
  by_cases hp:pl.length<1∨pl.length > 20
  ·rw [if_pos hp];exact Qo s l c pl c2 h hp
  ·rw [if_neg hp];exact Um s l c pl c2 h oO oO
 ·rw [if_pos h];exact Ul s l c pl c2 h
theorem Lj {σ:Heap} {s:St} {l:List Int} {pl:List (Int×Int)} {x y c c2:Nat} (hx:dP σ x (ints l)) (hy:dP σ y (dK pl)) (hni:σ.all (fun o=>!aU o)=true) :
  Ev Tryz.prog 13 [s.val,.s x l.length c,.s y pl.length c2] σ (.i (sZ s l pl)) σ :=
 Ev.arrs [ints l,dK pl] [x,y] (WM s l c pl c2) ⟨hx,hy,trivial⟩
  ⟨aZ _ rfl,by simpa [bsR] using VQ.slice (q:=true) (n:=2) (ρ:=bsR [x,y]) 0 0 l.length c c (aD _) oO,by simpa [bsR] using VQ.slice (q:=true) (n:=2) (ρ:=bsR [x,y]) 1 0 pl.length c2 c2 (aD _) oO,trivial⟩ (by simp [bC,iy]) rfl hni
theorem Ll (l:List Int):∀ k j,j<k→minN l k≤gi l j∧gi l j≤J5 l k
 |0,j,h=>by omega
 |k+1,j,h=>by
  simp only [minN,J5]
  by_cases hk:k=0
  ·subst hk
   obtain rfl:j=0:=oO
   simp
  ·by_cases hj:j=k
   ·subst hj
    simp only [hk,if_false]
    omega
   ·have:=Ll l k j oO
    simp only [hk,if_false]
    omega
theorem Yu {a b:List Int} {i:Nat} (h:i<a.length):gi (a++b) i=gi a i:=by
 unfold gi;rw [cE,cE,bR h]
theorem Un {a b:List Int} {i:Nat}:gi (a++b) (a.length+i)=gi b i:=by
 unfold gi;rw [cE,cE,bE oO,Nat.add_sub_cancel_left]
theorem Yv {s:St} {l:List Int} {pl:List (Int×Int)}:∀ {n j:Nat},j<n→gi (allL s l pl n) (j*2)=gi l (gp pl j).2.toNat*((gp pl j).1+s.off)∧gi (allL s l pl n) (j*2+1)=gi l (gp pl j).2.toNat*(wP s.short pl j - s.off)
 |0,j,h=>by omega
 |n+1,j,h=>by
  have hl:=uy s l pl n
  simp only [allL]
  by_cases hj:j<n
  ·rw [Yu oO,Yu oO]
   exact Yv hj
  ·obtain rfl:j=n:=oO
   rw [show j*2=(allL s l pl j).length+0 by omega,show (allL s l pl j).length+0+1=(allL s l pl j).length+1 by omega,Un,Un]
   exact ⟨rfl,rfl⟩
def Gt (s:St) (l:List Int) (pl:List (Int×Int)):Int×Int:=(minN (allL s l pl pl.length) (pl.length*2),J5 (allL s l pl pl.length) (pl.length*2))
theorem afc {s:St} {l:List Int} {pl:List (Int×Int)} {j:Nat} (hj:j<pl.length) {x:Int} (ht:0≤gi l (gp pl j).2.toNat) (h1:wP s.short pl j - s.off≤x) (h2:x≤(gp pl j).1+s.off) :
  (Gt s l pl).1≤x*gi l (gp pl j).2.toNat∧x*gi l (gp pl j).2.toNat≤(Gt s l pl).2:=by
 obtain ⟨e1,e2⟩:=Yv (s:=s) (l:=l) (pl:=pl) hj
 have h3:=(Ll (allL s l pl pl.length) (pl.length*2) (j*2+1) oO).1
 have h4:=(Ll (allL s l pl pl.length) (pl.length*2) (j*2) oO).2
 rw [e2,Int.mul_comm] at h3
 rw [e1,Int.mul_comm] at h4
 have h5:=Int.mul_le_mul_of_nonneg_right h1 ht
 have h6:=Int.mul_le_mul_of_nonneg_right h2 ht
 exact ⟨Int.le_trans h3 h5,Int.le_trans h6 h4⟩
theorem Qp {σ:Heap} {s:St} {l:List Int} {pl:List (Int×Int)} {x y c c2:Nat} (hx:dP σ x (ints l)) (hy:dP σ y (dK pl)) (hr:-9223372036854775808≤s.short∧s.short≤9223372036854775807) (h:sZ s l pl=0) (hni:σ.all (fun o=>!aU o)=true) :
  Ev Tryz.prog 15 [s.val,.s x l.length c,.s y pl.length c2] σ (.tuple #[afO (Gt s l pl),.i 0]) σ :=
 Ev.arrs [ints l,dK pl] [x,y] (PO s l c pl c2 hr h) ⟨hx,hy,trivial⟩
  ⟨aZ _ rfl,by simpa [bsR] using VQ.slice (q:=true) (n:=2) (ρ:=bsR [x,y]) 0 0 l.length c c (aD _) oO,by simpa [bsR] using VQ.slice (q:=true) (n:=2) (ρ:=bsR [x,y]) 1 0 pl.length c2 c2 (aD _) oO,trivial⟩ (by simp [bC,iy]) rfl hni
end Go.Proofs.YtajpgeklmcjciaaGreat
namespace Go.AH.Heat
open Go Go.AH
def iY (t:Int) (q:Nat):Int×Int×Int:=(84*(q:Int),min 1000 ((100*(84*(q:Int))*t).tdiv 1000000),min 1000 (((100*(84*((q+1:Nat):Int)) - 1)*t).tdiv 1000000))
def ku (kf:Nat→Int×Int×Int):Nat→List Value
 |0=>[]
 |n+1=>ku kf n++jA (kf n)
theorem tX (kf:Nat→Int×Int×Int):∀ n,(ku kf n).length=n*3
 |0=>rfl
 |n+1=>by rw [ku,aR,tX kf n];simp [jA];omega
theorem EK (kf:Nat→Int×Int×Int):∀ n,dN (ku kf n)=true
 |0=>rfl
 |n+1=>by rw [ku,oN,EK kf n];rfl
theorem Oe {kf:Nat→Int×Int×Int}:∀ {n q:Nat},q<n→((ku kf n).drop (q*3)).take 3=jA (kf q)
 |0,q,h=>by omega
 |n+1,q,h=>by
  have hl:=tX kf n
  rw [ku]
  by_cases hq:q<n
  ·rw [fS oO,fp (by rw [e6];omega)]
   exact Oe hq
  ·obtain rfl:q=n:=oO
   rw [List.drop_append,eL oO,hl,cY]
   simp [jA]
theorem Qq {H:Heap} {b n q:Nat} {kf:Nat→Int×Int×Int} (h:H[b]?=some (.rw (ku kf n))) (hq:q<n):aK H b (q*3) 3=some (jA (kf q)):=by
 have hl:=tX kf n
 unfold aK
 rw [h]
 have hb:Nat.ble (q*3+3) (ku kf n).length=true:=by rw [hl,Nat.ble_eq];omega
 simp only [hb,cond_true,Oe hq]
theorem Uo {t:Int} (ht:1≤t∧t≤10000) (q:Nat):100*(84*(q:Int))*t=8400*((q:Int)*t)∧(100*(84*((q+1:Nat):Int)) - 1)*t=8400*((q:Int)*t)+8399*t∧0≤(q:Int)*t:=by
 refine ⟨by rw [show (100:Int)*(84*(q:Int))=8400*(q:Int) by omega,Int.mul_assoc],?_,er oO oO⟩
 rw [show (100*(84*((q+1:Nat):Int)) - 1)=8400*(q:Int)+8399 by omega,Int.add_mul,Int.mul_assoc]
theorem EL {t:Int} (ht:1≤t∧t≤10000) (q:Nat):iY t q=(84*(q:Int),min 1000 (8400*((q:Int)*t) / 1000000),min 1000 ((8400*((q:Int)*t)+8399*t) / 1000000)):=by
 obtain ⟨h1,h2,h3⟩:=Uo ht q
 unfold iY
 rw [h1,h2,cL oO,cL oO]
theorem adi {t:Int} (ht:1≤t∧t≤10000):Zx 12 (iY t):=by
 refine ⟨oO,oO,by simp [iY],fun q hq=>?_,fun q hq=>?_⟩
 all_goals
  have h0:0≤(q:Int)*t:=er oO oO
  have h1:((q+1:Nat):Int)*t=(q:Int)*t+t:=by rw [Int.natCast_add,Int.add_mul];omega
  rw [EL ht,EL ht,h1]
  generalize (q:Int)*t=p at h0 ⊢
 ·simp only [jX];omega
 ·dsimp only;omega
end Go.AH.Heat
namespace Go.Proofs.YtajpgeklmcjciaaGreat
open Go Go.AH
attribute [local irreducible] dA bP bT jL gX dQ fF bZ fB aY dY fA
open Go.AH.Heat Go.AH.Warp
theorem Z7 {n:Nat} {π:Rho} {a a':Value} (h1:jS n π a a'):jS n π (.agg #[a]) (.agg #[a']):=by
 refine .agg _ _ rfl fun i h _=>?_
 simp at h
 subst h
 exact h1
theorem Ur {A B:Prop} (k:B) (h:Hide B→A:=by intro h_k_;(repeat' (first|refine sCm ?_|(refine gU ?_;first|refine st (jh (by rfl) (by rfl) rfl (by exact hgX _) (by exact hgl) rfl (by exact hcl2) (by omega) (by exact hone) (by omega) (by decide)) rfl rfl ?_|refine st (wR (by rfl) rfl rfl (by exact hcl2) (by omega) (by exact hone) (by omega) (by decide)) rfl rfl ?_|(refine bW ?_;refine st (bD rfl (by exact aV a3 rfl)) rfl rfl ?_)|(refine aat ?_;refine st (zX rfl rfl (by omega) (by omega)) rfl rfl ?_)|(refine dZ ?_;refine stN (bF rfl rfl rfl rfl (by first|exact hput _ _ _|exact hputr _)) rfl ?_))|(refine fU ?_;first|refine fFA ?_;refine frA (aW rfl) rfl ?_ hcl3|refine gY ?_;refine frA (aJ rfl (by exact hq1 _)) rfl ?_ hc1|refine jM ?_;refine frA (bV rfl) rfl ?_ rfl|refine qR ?_;refine frA (bH rfl rfl rfl (by exact hfa _)) rfl ?_ rfl|(refine fSub ?_;refine fr (jB rfl rfl (by omega) (by omega)) (by rfl) rfl ?_)|(refine fMul ?_;refine fr (zX rfl rfl (by omega) (by omega)) (by rfl) rfl ?_)|(refine EZ ?_;refine fr (Ak rfl rfl (by omega) (by omega) (by omega)) (by rfl) rfl ?_)|(refine UO ?_;refine fr (sG rfl rfl) (by rfl) rfl ?_)|(refine xA ?_;refine frN (fO (by rfl) (by rfl) (by rfl) (by rfl) rfl (by rfl)) lS rfl rfl rfl ?_))|(refine gu ⟨by kernel_rfl,?_⟩)|refine dD (id:=6) ?_|refine aG ?_|refine jc rfl (by first|rfl|exact dW (by assumption)) ?_|refine iM rfl (by rfl) ?_));exact h_k_.h):A:=h ⟨k⟩
theorem Z8 {σ:Heap} {t:Int} (ht:1≤t∧t≤10000):Ev Tryz.prog 17 [.i t] σ (.agg #[.s σ.length 12 12]) (σ++[.rw (ku (iY t) 12)]):=by
 refine aI σ.length 37 Tryz.func17 rfl rfl rfl rfl rfl ?_
 refine Ur ?_
 refine dV (ι:=Nat×Nat) (fun k=>[(0,.i t),(2,.p σ.length),(3,.p (σ.length+1)),(4,.i (k.1:Nat))])
  (fun k mk H=>k.1≤12∧mk=[]∧H.take σ.length=σ∧H[σ.length]?=some (.rw [.slice none 0 0])∧((k.1=0∧H[σ.length+1]?=some (.rw [.slice none 0 0]))∨(0<k.1∧σ.length+2≤k.2∧H[σ.length+1]?=some (.rw [eu k.2 3 k.1])∧H[k.2]?=some (.gr (ku (iY t) k.1) 148)))) (fun k=>12 - k.1) (0,0) ⟨rfl,rfl,(by (refine congrArg (fun n=>some (Value.p n)) ?_;simp;try omega)),rfl,trivial⟩ ⟨bN _,rfl,by simp,aA aO,.inl ⟨rfl,bK oS⟩⟩ ?_
 rintro ⟨k,gb⟩ mk H ⟨hk,rfl,hp,h0,hb⟩
 dsimp only at hk hb ⊢
 have g:σ.length+2≤H.length:=by rcases hb with ⟨_,h⟩|⟨_,_,h,_⟩ <;> exact aQ h
 by_cases hkn:k<12
 ·have m:(k:Int)<12:=oO
  obtain ⟨m1,m2,m3⟩:=Uo ht k
  have m4:(k:Int)*t≤12*10000:=fo oO ht.2 oO oO
  have d:(iY t k).1=84*(k:Int):=rfl
  have e:(iY t k).2.1=min 1000 ((100*(84*(k:Int))*t).tdiv 1000000):=rfl
  have c:(iY t k).2.2=min 1000 (((100*(84*((k+1:Nat):Int)) - 1)*t).tdiv 1000000):=rfl
  have q1:0≤(100*(84*(k:Int))*t).tdiv 1000000∧(100*(84*(k:Int))*t).tdiv 1000000≤1000000:=by rw [m1,cL oO];omega
  have q2:0≤((100*(84*((k+1:Nat):Int)) - 1)*t).tdiv 1000000∧((100*(84*((k+1:Nat):Int)) - 1)*t).tdiv 1000000≤1000000:=by rw [m2,cL oO];omega
  have m5:0≤100*(84*(k:Int))*t∧100*(84*(k:Int))*t≤2000000000:=oO
  have m6:0≤(100*(84*((k+1:Nat):Int)) - 1)*t∧(100*(84*((k+1:Nat):Int)) - 1)*t≤2000000000:=oO
  refine Ur ?_
  refine .mk (dJ [(0,.i t),(2,.p σ.length),(3,.p (σ.length+1)),(4,.i (k:Nat)),(5,.i (84*(k:Int))),(6,.i (84*((k+1:Nat):Int)))] H rfl tE ?_)
  have hfa:=fun X=>afb (σ:=H++X) (k:=(iY t k).1) (lo:=(iY t k).2.1) (hi:=(iY t k).2.2)
  rw [d,e,c] at hfa
  have hcl3:∀ {o:Nat},closed H.length (.pointer (some ⟨σ.length+1,o,none⟩))=true:=fun {o}=>Nat.blt_eq.mpr g
  have j:ku (iY t) (k+1)=ku (iY t) k++[.i (84*(k:Int)),.i (min 1000 ((100*(84*(k:Int))*t).tdiv 1000000)),.i (min 1000 (((100*(84*((k+1:Nat):Int)) - 1)*t).tdiv 1000000))]:=rfl
  clear d e c
  clear m1 m2 m3 m4
  have hone:([.i (84*(k:Int)),.i (min 1000 ((100*(84*(k:Int))*t).tdiv 1000000)),.i (min 1000 (((100*(84*((k+1:Nat):Int)) - 1)*t).tdiv 1000000))]:List Value).all (·.oneCell')=true:=rfl
  have hcl2:aK (H++[aB.rw [.i (84*(k:Int)),.i (min 1000 ((100*(84*(k:Int))*t).tdiv 1000000)),.i (min 1000 (((100*(84*((k+1:Nat):Int)) - 1)*t).tdiv 1000000))]]) (H++([]:Heap)).length 0 (1*3)=some [.i (84*(k:Int)),.i (min 1000 ((100*(84*(k:Int))*t).tdiv 1000000)),.i (min 1000 (((100*(84*((k+1:Nat):Int)) - 1)*t).tdiv 1000000))]:=by rw [bL];exact dX rfl
  rcases hb with ⟨rfl,a⟩|⟨hk0,f,a,hg⟩
  ·have hq1:∀ X,aH (H++X) (σ.length+1) (0+0)=some (.slice none 0 0):=fun X=>aF (aA a)
   have hc1:closed H.length (.slice none 0 0)=true:=rfl
   have hput:∀ (X:Heap) (A:aB) v,putCells (H++[A]++X) (σ.length+1) (0+0) [v]=some ((H++[A]++X).set (σ.length+1) (.rw [v])):=fun X A v=>fZ (aA (aA a)) oS oS rfl
   refine dI oK rfl ?_
   refine Ur ?_
   refine ⟨(0+1,(H++[aB.rw [.i (84*((0:Nat):Int)),.i (min 1000 ((100*(84*((0:Nat):Int))*t).tdiv 1000000)),.i (min 1000 (((100*(84*((0+1:Nat):Int)) - 1)*t).tdiv 1000000))]]).length+1),⟨by dsimp only;omega,rfl,take_set (aT (aT hp)) oO,aC (aA (aA h0)) oO,.inr ⟨by dsimp only;omega,by simp;omega,aS (aA (aA a)),?_⟩⟩,by dsimp only;omega,tE⟩
   refine aC ?_ (by simp;omega)
   exact wV
  ·have hq1:∀ X,aH (H++X) (σ.length+1) (0+0)=some (eu gb 3 k):=fun X=>aF (aA a)
   have hc1:closed H.length (eu gb 3 k)=true:=kW (Nat.blt_eq.mpr (aQ hg))
   have hgX:∀ A:aB,(H++[A])[gb]?=some (.gr (ku (iY t) k) 148):=fun A=>aA hg
   have hgl:(ku (iY t) k).length=k*3:=tX _ _
   have hput:∀ (X:Heap) (A:aB) v,putCells ((H++[A]).set gb .dead++X) (σ.length+1) (0+0) [v]=some (((H++[A]).set gb .dead++X).set (σ.length+1) (.rw [v])):=fun X A v=>fZ (aA (aC (aA a) oO)) oS oS rfl
   refine dI oK rfl ?_
   refine Ur ?_
   refine ⟨(k+1,(H++[aB.rw [.i (84*(k:Int)),.i (min 1000 ((100*(84*(k:Int))*t).tdiv 1000000)),.i (min 1000 (((100*(84*((k+1:Nat):Int)) - 1)*t).tdiv 1000000))]]).length),⟨by dsimp only;omega,rfl,take_set (aT (take_set (aT hp) oO)) oO,aC (aA (aC (aA h0) oO)) oO,.inr ⟨by dsimp only;omega,by simp;omega,aS (aA (aC (aA a) oO)),?_⟩⟩,by dsimp only;omega,tE⟩
   refine aC ?_ (by simp;omega)
   rw [j]
   exact bK oS
 ·obtain rfl:k=12:=oO
  have m:¬ ((12:Nat):Int)<12:=oO
  rcases hb with ⟨h,_⟩|⟨_,f,a,hg⟩
  ·omega
  have a3:=a
  have hputr:∀ v,putCells H σ.length 0 [v]=some (H.set σ.length (.rw [v])):=fun v=>fZ h0 oS oS rfl
  refine Ur ?_
  have s0:fV σ.length [gb] σ.length=⟨gb,0,0⟩:=by simp [fV]
  exact dM (v2:=.agg #[.s σ.length 12 12]) (.cellN inferInstance rfl (aV (aS h0) rfl) .nil) (aY.src [.rw (ku (iY t) 12)] [gb] (take_set hp (aD _)) rfl (by simp [dG];omega) ⟨vk s0 (.inr ⟨_,aC hg oO⟩) (EK _ _),trivial⟩ (Z7 (kG oS s0))) ⟨rfl,rfl⟩
end Go.Proofs.YtajpgeklmcjciaaGreat
namespace Go.AH.Heat
open Go Go.AH Go.Proofs.YtajpgeklmcjciaaGreat
def uH (l:List Int) (bar:Int×Int):Wk:={ nb:=1,bf:=fun _=>bar,ns:=1,nw:=fun _=>l.length,nk:=fun _ _=>12,kf:=fun _ k=>iY (gi l k) }
theorem Gu {l:List Int} {bar:Int×Int} (hl:0<l.length∧l.length≤5) (ht:∀ i<l.length,1≤gi l i∧gi l i≤10000) (hb:jX bar):uF (uH l bar) :=
 ⟨by show 0<1;omega,by show 1≤6;omega,fun _ _=>hb,by show 1≤6;omega,fun _ _=>hl.1,fun _ _=>hl.2,fun i _ k hk=>adi (ht k hk)⟩
theorem BO {t h:Int} (h0:0≤h):∀ n:Nat,84*(oL (iY t) h n:Int)≤h∧oL (iY t) h n≤n∧(oL (iY t) h n<n→h<84*((oL (iY t) h n:Int)+1))
 |0=>⟨by simp [oL];exact h0,aD _,fun h=>absurd h (by simp [oL])⟩
 |n+1=>by
  obtain ⟨h1,h2,h3⟩:=BO h0 (t:=t) n
  unfold oL
  have e:(iY t (n+1)).1=84*((n+1:Nat):Int):=rfl
  rw [e]
  by_cases h4:84*((n+1:Nat):Int)≤h
  ·rw [if_pos h4];exact ⟨h4,aD _,fun h=>oO⟩
  ·rw [if_neg h4]
   refine ⟨h1,oO,fun _=>?_⟩
   by_cases h5:oL (iY t) h n<n
   ·exact h3 h5
   ·omega
theorem EM {t x y:Int} (ht:1≤t∧t≤10000) (hx:0≤x) (hxy:x≤y) (hy:y≤100000) :
  (qJ 12 (iY t) (min 1000 (x / 100))).1≤min 1000 (y*t / 1000000)∧min 1000 (x*t / 1000000)≤(qJ 12 (iY t) (min 1000 (y / 100))).2:=by
 have hm:∀ {a b:Int},a≤b→a*t≤b*t:=fun h=>Int.mul_le_mul_of_nonneg_right h oO
 refine ⟨?_,?_⟩
 ·obtain ⟨h1,h2,h3⟩:=BO (t:=t) (h:=min 1000 (x / 100)) oO 11
  unfold qJ
  rw [show 12 - 1=11 from rfl]
  generalize oL (iY t) (min 1000 (x / 100)) 11=q at h1 h2 h3 ⊢
  rw [EL ht]
  dsimp only
  have h4:8400*(q:Int)≤y:=oO
  have h5:=hm h4
  rw [Int.mul_assoc] at h5
  omega
 ·obtain ⟨h1,h2,h3⟩:=BO (t:=t) (h:=min 1000 (y / 100)) oO 11
  unfold qJ
  rw [show 12 - 1=11 from rfl]
  generalize oL (iY t) (min 1000 (y / 100)) 11=q at h1 h2 h3 ⊢
  rw [EL ht]
  dsimp only
  have h4:x≤8400*(q:Int)+8399:=by
   by_cases hq:q<11
   ·have:=h3 hq;omega
   ·omega
  have h5:=hm h4
  rw [Int.add_mul,Int.mul_assoc] at h5
  omega
theorem Gv {lo hi:Int} {l:List Int} {i:Nat} (hl:l.length=1001) (h:jX (lo,hi)) (h1:gi l i=1):gi (uz lo hi l) i=1:=by
 rw [AV hl h];split
 ·rfl
 ·exact h1
theorem Yw {now l:List Int} {fr to:Nat→Int×Int} (hl:l.length=1001) {q i:Nat}:∀ {n:Nat},(∀ j<n,jX (to j))→q<n→jV (fr q).1 (fr q).2 now=true→(to q).1≤(i:Int)→(i:Int)≤(to q).2→gi (spF now fr to n l) i=1
 |0,_,h,_,_,_=>by omega
 |n+1,h,hq,hm,h1,h2=>by
  have a:=xK (now:=now) (fr:=fr) hl (n:=n) fun j hj=>h j oO
  simp only [spF]
  by_cases c:q=n
  ·subst c
   rw [if_pos hm,AV a (h q oO),if_pos ⟨h1,h2⟩]
  ·have ih:=Yw hl (fun j hj=>h j oO) (by omega:q<n) hm h1 h2
   split
   ·exact Gv a (h n oO) ih
   ·exact ih
theorem Us {now l:List Int} {fr to:Nat→Int×Int} (hl:l.length=1001) {i:Nat} (h1:gi l i=1):∀ {n:Nat},(∀ j<n,jX (to j))→gi (spF now fr to n l) i=1
 |0,_=>h1
 |n+1,h=>by
  have a:=xK (now:=now) (fr:=fr) hl (n:=n) fun j hj=>h j oO
  have ih:=Us (now:=now) (fr:=fr) hl h1 (n:=n) fun j hj=>h j oO
  simp only [spF]
  split
  ·exact Gv a (h n oO) ih
  ·exact ih
theorem Yx {now l:List Int} {fr to:Nat→Nat→Int×Int} {nk:Nat→Nat} (hl:l.length=1001) {k q i:Nat}:∀ {n:Nat},(∀ k<n,∀ j<nk k,jX (to k j))→k<n→q<nk k→jV (fr k q).1 (fr k q).2 now=true→(to k q).1≤(i:Int)→(i:Int)≤(to k q).2→gi (wyF now fr to nk n l) i=1
 |0,_,h,_,_,_,_=>by omega
 |n+1,h,hk,hq,hm,h1,h2=>by
  have a:=zy (now:=now) (fr:=fr) hl (n:=n) fun j hj=>h j oO
  simp only [wyF]
  by_cases c:k=n
  ·subst c
   exact Yw a (h k oO) hq hm h1 h2
  ·exact Us a (Yx hl (fun j hj=>h j oO) (by omega:k<n) hq hm h1 h2) (h n oO)
theorem Lm {lo hi:Int} {l:List Int} {i:Nat} (h0:0≤lo) (h1:lo≤(i:Int)) (h2:(i:Int)≤hi) (h:gi l i=1):jV lo hi l=true :=
 FU.2 ⟨i,oO,oO,h⟩
theorem adk:∀ {k i:Nat} {a b:List Int},i<k→i<a.length→i<b.length→gi (nG k a b) i=gi a i*gi b i
 |0,_,_,_,h,_,_=>by omega
 |k+1,i,[],b,_,h,_=>by simp at h
 |k+1,i,x::a,[],_,_,h=>by simp at h
 |k+1,0,x::a,y::b,_,_,_=>by simp [nG,gi]
 |k+1,i+1,x::a,y::b,h,h1,h2=>by
  have:=adk (k:=k) (i:=i) (a:=a) (b:=b) oO (oU h1) (oU h2)
  simpa [nG,gi] using this
theorem one_step {W:Wk} (hv:uF W) (hn:W.ns=1) {m:Int×Int} (hm:jX m) {b k q i j:Nat} (hb:b<W.nb) (hbi:(W.bf b).1≤(i:Int)∧(i:Int)≤(W.bf b).2) (hk:k<W.nw 0) (hq:q<W.nk 0 k)
  (ho:(W.own 0 k q).1≤(i:Int)∧(i:Int)≤(W.own 0 k q).2) (ha:(W.aft 0 k q).1≤(j:Int)∧(j:Int)≤(W.aft 0 k q).2) (hj:m.1≤(j:Int)∧(j:Int)≤m.2) :
  W.someB m ≠ []∧k ∈ W.AU m 0:=by
 have a:=hv.ok
 have g:=a.b b hb
 have hi:i<1001:=by have:=g.2.2;omega
 have s:gi (W.kD m 1) j=1:=by
  show gi (W.NK m (W.ns - 1)) j=1
  rw [hn]
  show gi (uz m.1 m.2 zro) j=1
  rw [AV kJ hm,if_pos hj]
 have p:=xZ a (i:=0) oO hk hq
 have v:=AQ a (i:=0) oO hk hq
 have d:jV (W.aft 0 k q).1 (W.aft 0 k q).2 (W.kD m 1)=true:=Lm v.1 ha.1 ha.2 s
 have c:gi (W.kD m 0) i=1:=by
  have e:=NM W m (k:=0) (i:=0) oO oO
  rw [← e]
  exact Yx kJ (fun k hk q hq=>xZ a oO hk hq) hk hq d ho.1 ho.2
 have o:gi (W.front 0) i=1:=by
  show gi (rQ W.bf W.nb zro) i=1
  have:∀ n,b<n→n≤W.nb→gi (rQ W.bf n zro) i=1:=by
   intro n
   induction n with
   |zero=>intro h;omega
   |succ n ih =>
    intro h h2
    have hl:=uD (bf:=W.bf) kJ (k:=n) fun j hj=>a.b j oO
    simp only [rQ]
    by_cases t:b=n
    ·subst t
     rw [AV hl (a.b b hb),if_pos hbi]
    ·exact Gv hl (a.b n oO) (ih oO oO)
  exact this W.nb hb (aD _)
 have hrl:(W.kD m 0).length=1001:=FX a hm _ oO
 have hfl:(W.front 0).length=1001:=kY a 0 oO
 have f:gi (W.bothR m 0) i=1:=by
  unfold Wk.bothR mulL
  rw [adk hi oO oO,o,c];rfl
 have w:W.noB m=false:=by
  unfold Wk.noB
  refine decide_eq_false fun h=>?_
  have:=h i (List.mem_range.2 hi)
  rw [f,acd] at this
  exact absurd this oD
 unfold Wk.someB Wk.AU
 rw [w]
 refine ⟨fun h=>?_,?_⟩
 ·have:b ∈ (List.range W.nb).filter fun b=>jV (W.bf b).1 (W.bf b).2 (W.kD m 0):=List.mem_filter.2 ⟨List.mem_range.2 hb,Lm g.1 hbi.1 hbi.2 c⟩
  simp only [Bool.false_eq_true,if_false] at h
  rw [h] at this
  simp at this
 ·simp only [Bool.false_eq_true,if_false]
  refine List.mem_filter.2 ⟨List.mem_range.2 hk,?_⟩
  unfold Wk.lead
  have r:jV (W.own 0 k q).1 (W.own 0 k q).2 (W.bothR m 0)=true:=Lm p.1 ho.1 ho.2 f
  have:∀ n,q<n→W.nH m 0 k n=true:=by
   intro n
   induction n with
   |zero=>intro h;omega
   |succ n ih =>
    intro h
    simp only [Wk.nH]
    by_cases u:q=n
    ·subst u;rw [r,d];simp
    ·rw [ih oO];simp
  exact this _ hq
end Go.AH.Heat
namespace Go.AH
open Go
section
variable {P:Program} {n0 N:Nat} {K:Env→List Nat→Heap→Prop} {e:Env} {mk:List Nat} {σ:Heap} {all:List Oper} {listed:List Bool} {fuel:Nat}
def Yy (all:List Oper) (listed:List Bool) (i j k:Nat):Bool:=match Region.ready .any all.toArray listed.toArray with|[a,b,c]=>Nat.beq a i && (Nat.beq b j && Nat.beq c k)|_=>false
theorem adl (i j k:Nat) {o o2 o3:Oper} (hi:all[i]?=some o) (hj:all[j]?=some o2) (hk3:all[k]?=some o3) (h:dA P n0 N none all [o] (fun e' mk' σ'=>yI P n0 N all fuel (listed.set i true) K e' mk' σ') e mk σ)
  (h2:dA P n0 N none all [o2] (fun e' mk' σ'=>yI P n0 N all fuel (listed.set j true) K e' mk' σ') e mk σ) (h3:dA P n0 N none all [o3] (fun e' mk' σ'=>yI P n0 N all fuel (listed.set k true) K e' mk' σ') e mk σ) (hr:Yy all listed i j k=true:=by decide +kernel):yI P n0 N all (fuel+1) listed K e mk σ:=by
 intro G w0 ρ0 A w g
 have m:Region.ready .any all.toArray listed.toArray=[i,j,k]:=by
  unfold Yy at hr
  split at hr
  ·rename_i a b c hk
   rw [aE,aE] at hr
   rw [hk,aM hr.1,aM hr.2.1,aM hr.2.2]
  ·cases hr
 have go:∀ (q:Nat) (o:Oper),all[q]?=some o→dA P n0 N none all [o] (fun e' mk' σ'=>yI P n0 N all fuel (listed.set q true) K e' mk' σ') e mk σ →
   wpOpIn Fence.wide 0 P all.toArray (fun ex A' w'=>ex=.normal∧∃ e' mk' σ',K e' mk' σ'∧Inv n0 N G w0 ρ0 e' mk' σ' A' w') q (wpAnyIn Fence.wide 0 P .any all.toArray (fun ex A' w'=>ex=.normal∧∃ e' mk' σ',K e' mk' σ'∧Inv n0 N G w0 ρ0 e' mk' σ' A' w') fuel (listed.toArray.setIfInBounds q true)) A w:=by
  intro q o hq h
  have:=h G w0 ρ0 A w g (fun ex A' w'=>match ex with|.normal=>wpAnyIn Fence.wide 0 P .any all.toArray (fun ex A' w'=>ex=.normal∧∃ e' mk' σ',K e' mk' σ'∧Inv n0 N G w0 ρ0 e' mk' σ' A' w') fuel (listed.toArray.setIfInBounds q true) A' w'|_=>False) (fun e' mk' σ' A' w' hk d=>by
   have:=hk G w0 ρ0 A' w' d
   simpa using this)
  unfold wpOpIn
  simp only [bO,hq]
  simp only [wpL] at this
  split
  ·rename_i hw
   rw [if_pos hw] at this
   exact pz (fun c a w hq=>hq.elim) (fun a w hq=>hq.elim) this
  ·rename_i hw
   rw [if_neg hw] at this
   exact ⟨fun f _=>kZ ρ0 none _,this⟩
 refine wpAnyIn_all m oS fun q hq=>?_
 rcases List.mem_cons.1 hq with rfl|hq
 ·exact go q o hi h
 rcases List.mem_cons.1 hq with rfl|hq
 ·exact go q o2 hj h2
 ·rw [List.mem_singleton.1 hq] at *
  exact go k o3 hk3 h3
end
end Go.AH
namespace Go.AH.Heat
open Go Go.AH Go.Proofs.YtajpgeklmcjciaaGreat
theorem Z9 {l:List Int} {lo hi x:Int} {pu:Nat} (hl:0<l.length∧l.length≤5) (ht:∀ i<l.length,1≤gi l i∧gi l i≤10000) (hb:jX (lo,hi)) (hp:pu<l.length) (hx:0≤x∧x≤100000) (h1:lo≤min 1000 (x / 100)) (h2:min 1000 (x / 100)≤hi) :
  (uH l (lo,hi)).someB (min 1000 (x*gi l pu / 1000000),min 1000 (x*gi l pu / 1000000)) ≠ []∧pu ∈ (uH l (lo,hi)).AU (min 1000 (x*gi l pu / 1000000),min 1000 (x*gi l pu / 1000000)) 0:=by
 have hv:=Gu hl ht hb
 have h0:0≤x*gi l pu:=er hx.1 (by have:=ht pu hp;omega)
 obtain ⟨a1,a2⟩:=EM (ht pu hp) hx.1 (dE x) hx.2
 obtain ⟨k1,k2,k3⟩:=BO (t:=gi l pu) (h:=min 1000 (x / 100)) oO 11
 unfold qJ at a1 a2
 rw [show 12 - 1=11 from rfl] at a1 a2
 obtain ⟨q,hq⟩:∃ q,q=oL (iY (gi l pu)) (min 1000 (x / 100)) 11:=⟨_,rfl⟩
 rw [← hq] at a1 a2 k1 k2 k3
 obtain ⟨m0,c⟩:∃ m0,m0=min 1000 (x / 100):=⟨_,rfl⟩
 obtain ⟨m1,d⟩:∃ m1,m1=min 1000 (x*gi l pu / 1000000):=⟨_,rfl⟩
 rw [← c] at h1 h2 k1 k3
 rw [← d] at a1 a2 ⊢
 have hm0b:0≤m0∧m0≤1000:=oO
 have a:0≤m1∧m1≤1000:=oO
 refine one_step hv rfl (m:=(m1,m1)) (b:=0) (k:=pu) (q:=q) (i:=m0.toNat) (j:=m1.toNat) ⟨a.1,dE _,a.2⟩ (show 0<1 by omega) ?_ hp (show q<12 by omega) ?_ ?_ ?_
 ·show lo≤(m0.toNat:Int)∧(m0.toNat:Int)≤hi
  omega
 ·show (iY (gi l pu) q).1≤(m0.toNat:Int)∧(m0.toNat:Int)≤wZ (iY (gi l pu)) 12 q
  have e:(iY (gi l pu) q).1=84*(q:Int):=rfl
  refine ⟨by rw [e];omega,?_⟩
  unfold wZ
  by_cases hq2:q=11
  ·subst hq2;simp;omega
  ·have e2:(iY (gi l pu) (q+1)).1=84*((q+1:Nat):Int):=rfl
   have:=k3 oO
   split
   ·rw [e2];omega
   ·omega
 ·show (iY (gi l pu) q).2.1≤(m1.toNat:Int)∧(m1.toNat:Int)≤(iY (gi l pu) q).2.2
  rw [Int.toNat_of_nonneg a.1]
  exact ⟨a1,a2⟩
 ·show m1≤(m1.toNat:Int)∧(m1.toNat:Int)≤m1
  rw [Int.toNat_of_nonneg a.1]
  exact ⟨dE _,dE _⟩
end Go.AH.Heat
namespace Go.AH
open Go
def Qr:Code→Nat→Bool
 |.region i _ _,k=>Nat.beq i k
 |.seq a _,k=>Qr a k
 |.block _ c,k=>Qr c k
 |.loop c,k=>Qr c k
 |_,_=>false
def af2 (k:Nat):Code→Code
 |.seq a b=>bif Qr a k then .seq a b else af2 k b
 |c=>c
def fbody (fn:Func):Code:=match fn.body with|some c=>c|none=>.skip
end Go.AH
namespace Go.Proofs.YtajpgeklmcjciaaGreat
open Go Go.AH
attribute [local irreducible] dA bP bT jL gX dQ fF bZ fB aY dY fA
open Go.AH.Heat Go.AH.Warp
theorem IU {σ:Heap} {y i:Nat} {pl:List (Int×Int)} (h:dP σ y (dK pl)) (hi:i<pl.length):aH σ y (0+i*2+0)=some (.i (gp pl i).1):=by
 rw [bA,cV]
 have h1:=sW hi
 rcases h with h|h|⟨t,h⟩ <;> simpa [aH,h] using h1
theorem IV {σ:Heap} {y i:Nat} {pl:List (Int×Int)} (h:dP σ y (dK pl)) (hi:i<pl.length):aH σ y (0+i*2+1)=some (.i (gp pl i).2):=by
 rw [bA]
 have h1:=BG hi
 rcases h with h|h|⟨t,h⟩ <;> simpa [aH,h] using h1
theorem IW {σ K H:Heap} (h1:H.take K.length=K) (h2:K.take σ.length=σ):H.take σ.length=σ:=by
 have hl:=take_len h2
 have h3:(H.take K.length).take σ.length=K.take σ.length:=by rw [h1]
 rw [eJ,h2,fj hl] at h3
 exact h3
theorem Lp {A B:Prop} (k:B) (h:Hide B→A:=by intro h_k_;(repeat' (first|refine sCm ?_|(refine gU ?_;first|(refine bW ?_;refine st (aJ rfl (by assumption)) rfl rfl ?_)|(refine kQ ?_;first|refine st (lu rfl (by first|rfl|exact dW (by assumption)) rfl) rfl rfl ?_|refine st (jK rfl (by rfl) rfl) rfl rfl ?_)|(refine gIA ?_;refine st (nX rfl rfl (by omega) (by omega)) rfl rfl ?_))|(refine gG ?_;first|(refine kP ?_;refine stG rfl (by first|rfl|exact dW (by assumption)) (bV rfl) rfl rfl ?_)|(refine gFA ?_;refine stG rfl (by first|rfl|exact dW (by assumption)) (aW rfl) rfl rfl ?_)|(refine bW ?_;first|refine stG rfl (by first|rfl|exact dW (by assumption)) (aJ rfl (by first|exact hd1|exact hd2)) rfl rfl ?_|refine stG rfl (by rfl) (bD rfl (by first|exact aV a6 rfl|exact aV a7 rfl)) rfl rfl ?_)|(refine nK ?_;refine stG rfl (by first|rfl|exact dW (by assumption)) (fE rfl rfl rfl) rfl rfl ?_)|(refine wY ?_;refine stG rfl (by rfl) (jC rfl) rfl rfl ?_)|(refine gIA ?_;refine stG rfl (by first|rfl|exact dW (by assumption)) (nX rfl rfl (by omega) (by omega)) rfl rfl ?_)|(refine eG ?_;refine stG rfl (by first|rfl|exact dW (by assumption)) (bH rfl rfl rfl (by first|exact hf1|exact hf2)) rfl rfl ?_))|(refine fU ?_;first|refine jM ?_;refine frA (bV rfl) rfl ?_ hcls|refine fFA ?_;refine frA (aW rfl) rfl ?_ hclp|refine fFA ?_;refine frA (aW rfl) rfl ?_ hclg|refine fIA ?_;refine frA (eY rfl rfl (by omega)) rfl ?_ hclg|refine gY ?_;refine frA (aJ rfl (by exact hqo _)) rfl ?_ rfl|refine gY ?_;refine frA (aJ rfl (by exact hqf _)) rfl ?_ rfl|(refine jM ?_;refine fr (bV rfl) (by rfl) rfl ?_)|(refine Ip ?_;refine fr (iZ rfl) (by rfl) rfl ?_)|(refine fAdd ?_;refine fr (kK rfl rfl (by omega) (by omega)) (by rfl) rfl ?_)|(refine fSub ?_;refine fr (jB rfl rfl (by omega) (by omega)) (by rfl) rfl ?_)|(refine fMul ?_;refine fr (zX rfl rfl (by omega) (by omega)) (by rfl) rfl ?_)|(refine EZ ?_;refine fr (Ak rfl rfl (by omega) (by omega) (by omega)) (by rfl) rfl ?_)|(refine DT ?_;first|refine fr (lu rfl (by rfl) rfl) (by rfl) rfl ?_|refine fr (jK rfl (by rfl) rfl) (by rfl) rfl ?_)|(refine UO ?_;refine fr (sG rfl rfl) (by rfl) rfl ?_))|(refine fG ?_;first|refine frG (rfl) (by rfl) (bV rfl) (hcl1) rfl ?_|refine frG (rfl) (by rfl) (nX rfl rfl (by omega) (by omega)) (hcl2) rfl ?_|refine frG (rfl) (by rfl) (aJ rfl (by exact hqz _)) (hcl3) rfl ?_|refine frG (rfl) (by rfl) (bV rfl) (rfl) rfl ?_|refine frG (rfl) (by rfl) (iw rfl rfl (by omega)) (hcl4) rfl ?_|refine frG (rfl) (by rfl) (aJ rfl (by exact hqk _)) (rfl) rfl ?_|refine frG (rfl) (by rfl) (bV rfl) (hcls) rfl ?_|refine frG (rfl) (by rfl) (eY rfl rfl (by omega)) (hclg) rfl ?_|refine frG (rfl) (by rfl) (aW rfl) (hclg) rfl ?_|refine frG (rfl) (by rfl) (aJ rfl (by exact hqf _)) (rfl) rfl ?_|(refine EZ ?_;refine frG rfl (by rfl) (fE rfl rfl rfl) (by rfl) rfl ?_)|refine frS rfl (by rfl) rfl ?_)|(refine gu ⟨by kernel_rfl,?_⟩)|refine dD (id:=37) ?_|refine dD (id:=38) ?_|refine dD (id:=39) ?_|refine aG ?_|refine jc rfl (by first|rfl|exact dW (by assumption)) ?_|refine iM rfl (by first|rfl|exact bM (by assumption)) ?_));exact h_k_.h):A:=h ⟨k⟩
theorem aac {σ H8:Heap} {s:St} {l:List Int} {p:List (Int×Int)} {py pc i pu gb bB bS wb hi5 rc rb gb2 yb:Nat} {kb:Nat→Nat} {en fm tr lo hb' m0 m1:Int} {wl0:List Nat}
  (hp:H8.take σ.length=σ) (hni8:H8.all (fun o=>!aU o)=true) (hs:H8[σ.length]?=some (.rw s.cells)) (hy8:dP H8 py (dK p)) (hip:i<p.length)
  (hA8:xg H8 (uH l (lo,hb')) bB bS (fun _=>gb) (fun _=>l.length) (fun _ k=>kb k) (fun _ _=>12)) (hw9:H8[wb]?=some (.rw [.s bB 1 1,.s bS 1 1]))
  (hh8:H8[hi5]?=some (.rw [.i m0,.i m1])) (hrb8:H8[rb]?=some (.rw [.i (pu:Nat)])) (hrc8:H8[rc]?=some (.rw [.i 0,.s rb 1 1]))
  (hgb8:H8[gb2]?=some (.rw (rgC ((uH l (lo,hb')).rg (fun _=>pu) ((uH l (lo,hb')).bf 0)) (0+2)))) (hz8:H8[yb]?=some (.rw [.s (yb+1) wl0.length wl0.length])) (hn8:H8[yb+1]?=some (.rw (gV wl0)))
  (hl:0<l.length∧l.length≤5) (hno:∀ i<l.length,1≤gi l i∧gi l i≤10000) (hpl:pu<l.length) (hrg:jX (lo,hb')) (hpu:(gp p i).2=(pu:Int)) (hfm:fm=(gp p i).1)
  (hlo:lo=(en - s.off).tdiv 100) (hhb:hb'=min 1000 ((fm+s.off).tdiv 100)) (hbd:1≤en - s.off∧en≤fm∧fm+s.off≤100000∧en - s.off≤tr∧tr≤fm+s.off∧0≤s.off)
  (em0:m0=min 1000 (tr / 100)) (em1:m1=min 1000 (tr*gi l pu / 1000000)) (hin8:pu ∈ wl0) (hwn:wl0.length≤1000) :
  bP Tryz.prog σ.length 312 none (af2 31 (fbody Tryz.f3)) (jL Tryz.prog σ [ResultVar.tmp 12] fun v' s=>v'=.bool true∧s=σ) [(13,.s py p.length pc),(6,.p σ.length),(18,.i (i:Nat)),(19,.i en),(24,.i (gi l pu)),(26,.p wb),(28,.s hi5 2 2),(29,.p rc),(30,.s gb2 2 2),(31,.i 0),(32,.s yb 1 1),(33,.i 0)] [] H8:=by
 have a:=hno pu hpl
 have C:uF (uH l (lo,hb')):=Gu hl hno hrg
 have q:bB<H8.length:=dL (hA8.bars 0 (show 0<1 by omega))
 have r:bS<H8.length:=dL (hA8.steps 0 (show 0<1 by omega))
 have hf1:Ev Tryz.prog 22 [.agg #[.s bB 1 1,.s bS 1 1],.agg #[.i 0,.s rb 1 1],.s hi5 2 2] H8 (.i 0) H8:=by
  refine Ic (bar:=0) (ks:=fun _=>pu) (cB:=1) (cS:=1) (n:=0) (hs:=fun i=>if i=0 then m0 else m1) C hA8 (fun _ _ _ _=>aD _) (show 0<1 by omega) (fun _ _=>hpl) (fun i hi=>?_) q r (aQ hrb8) hni8 rfl (fun i hi=>?_) (aQ hh8) (fun i hi=>?_)
  ·obtain rfl:i=0:=by have:i<1:=hi;omega
   exact aF hrb8
  ·have:i≤1:=hi
   rcases (by omega:i=0∨i=1) with rfl|rfl
   ·exact aF hh8
   ·exact aF hh8
  ·have:i≤1:=hi
   rcases (by omega:i=0∨i=1) with rfl|rfl
   ·show lo≤m0∧m0≤hb'
    rw [em0,hlo,hhb,cL oO,cL oO]
    omega
   ·have:=EM (x:=tr) (y:=tr) a oO (dE _) oO
    rw [← em0,← em1] at this
    exact this
 have a6:=hw9
 have a7:=hrc8
 conv=>arg 5;whnf
 refine Lp ?_
 refine dV (ι:=Nat×Bool) (fun k=>[(13,.s py p.length pc),(6,.p σ.length),(18,.i (i:Nat)),(19,.i en),(24,.i (gi l pu)),(30,.s gb2 2 2),(32,.s yb 1 1),(34,.bool k.2),(35,.i (k.1:Nat))])
  (fun k mk H=>k.1≤wl0.length∧mk=[]∧H=H8∧(k.2=true↔∃ j<k.1,gn wl0 j=pu)) (fun k=>wl0.length - k.1) (0,false) tE ⟨bN _,rfl,rfl,by simp⟩ ?_
 clear a6 a7 hf1
 rintro ⟨k,fd⟩ mk H ⟨hk,rfl,rfl,m⟩
 dsimp only at hk m ⊢
 have hz0:aK H yb 0 1=some [.s (yb+1) wl0.length wl0.length]:=aV hz8 rfl
 have hz1:aH H yb 0=some (.s (yb+1) wl0.length wl0.length):=aF hz8
 by_cases w:k<wl0.length
 ·have D:(k:Int)<(wl0.length:Nat):=oO
  have hd1:aH H (yb+1) k=some (.i (gn wl0 k:Nat)):=by rw [aF hn8];exact AL w
  have hd2:aH H py (0+i*2+1)=some (.i (pu:Nat)):=by rw [← hpu];exact IV hy8 hip
  refine Lp ?_
  have hcl1:∀ {o n c:Nat},closed H.length (.slice (some ⟨yb,o,none⟩) n c)=true:=fun {o n c}=>bQ (Nat.blt_eq.mpr (aQ hz8))
  have hcl2:∀ {o:Nat},closed H.length (.pointer (some ⟨yb,o,none⟩))=true:=fun {o}=>Nat.blt_eq.mpr (aQ hz8)
  have hcl3:∀ {o n c:Nat},closed H.length (.slice (some ⟨yb+1,o,none⟩) n c)=true:=fun {o n c}=>bQ (Nat.blt_eq.mpr (aQ hn8))
  have hcl4:∀ {o:Nat},closed H.length (.pointer (some ⟨yb+1,o,none⟩))=true:=fun {o}=>Nat.blt_eq.mpr (aQ hn8)
  have hcls:∀ {o n c:Nat},closed H.length (.slice (some ⟨py,o,none⟩) n c)=true:=fun {o n c}=>bQ (Nat.blt_eq.mpr (jR hy8))
  have hclg:∀ {o:Nat},closed H.length (.pointer (some ⟨py,o,none⟩))=true:=fun {o}=>Nat.blt_eq.mpr (jR hy8)
  have hclp:∀ {o:Nat},closed H.length (.pointer (some ⟨σ.length,o,none⟩))=true:=fun {o}=>Nat.blt_eq.mpr (aQ hs)
  have hqz:∀ X,aH (H++X) yb (0+Int.toNat 0*1)=some (.s (yb+1) wl0.length wl0.length):=fun X=>aF (aA hz8)
  have hqk:∀ X,aH (H++X) (yb+1) k=some (.i (gn wl0 k:Nat)):=fun X=>by
   rw [aF (aA hn8)];exact AL w
  have hqf:∀ X,aH (H++X) py (0+i*2+1)=some (.i (pu:Nat)):=fun X=>by rw [← hpu];exact IV (qp hy8) hip
  refine .mk (dJ [(13,.s py p.length pc),(6,.p σ.length),(18,.i (i:Nat)),(19,.i en),(24,.i (gi l pu)),(30,.s gb2 2 2),(32,.s yb 1 1),(34,.bool fd),(35,.i (k:Nat))] H rfl tE ?_)
  cases fd
  ·refine dI oK rfl (?_)
   refine Lp ?_
   refine ⟨(k+1,decide (((gn wl0 k:Nat):Int)=(pu:Nat))),⟨by dsimp only;omega,rfl,bL H,?_⟩,by dsimp only;omega,tE⟩
   dsimp only
   rw [decide_eq_true_iff]
   refine ⟨fun h=>⟨k,oO,oO⟩,fun ⟨j,hj,h⟩=>?_⟩
   by_cases E:j=k
   ·rw [← E];omega
   ·exact absurd (m.2 ⟨j,oO,h⟩) oS
  ·refine dI oK rfl (?_)
   refine Lp ?_
   refine ⟨(k+1,true),⟨by dsimp only;omega,rfl,bL H,?_⟩,by dsimp only;omega,tE⟩
   obtain ⟨j,hj,h⟩:=m.1 rfl
   exact ⟨fun _=>⟨j,by dsimp only;omega,h⟩,fun _=>rfl⟩
 ·obtain rfl:k=wl0.length:=oO
  have D:¬ ((wl0.length:Nat):Int)<(wl0.length:Nat):=oO
  obtain rfl:fd=true:=by
   rw [m]
   obtain ⟨j,hj,h⟩:=ey hin8
   exact ⟨j,hj,by simp [gn,hj,h]⟩
  refine Lp ?_
  have hcls:∀ {o n c:Nat},closed H.length (.slice (some ⟨py,o,none⟩) n c)=true:=fun {o n c}=>bQ (Nat.blt_eq.mpr (jR hy8))
  have hclg:∀ {o:Nat},closed H.length (.pointer (some ⟨py,o,none⟩))=true:=fun {o}=>Nat.blt_eq.mpr (jR hy8)
  have hclp:∀ {o:Nat},closed H.length (.pointer (some ⟨σ.length,o,none⟩))=true:=fun {o}=>Nat.blt_eq.mpr (aQ hs)
  have hqo:∀ X,aH (H++X) σ.length (0+2)=some (.i s.off):=fun X=>aF (aA hs)
  have hqf:∀ X,aH (H++X) py (0+i*2+0)=some (.i fm):=fun X=>by rw [hfm];exact IU (qp hy8) hip
  have k1:0≤(en - s.off)*gi l pu∧(en - s.off)*gi l pu≤100000*10000:=⟨er oO oO,fo oO a.2 oO oO⟩
  have k2:0≤(fm+s.off)*gi l pu∧(fm+s.off)*gi l pu≤100000*10000:=⟨er oO oO,fo oO a.2 oO oO⟩
  have k3:0≤((en - s.off)*gi l pu).tdiv 1000000∧((en - s.off)*gi l pu).tdiv 1000000≤1000:=by rw [cL oO];omega
  have k4:0≤((fm+s.off)*gi l pu).tdiv 1000000∧((fm+s.off)*gi l pu).tdiv 1000000≤1000:=by rw [cL oO];omega
  refine .mk (dJ [(13,.s py p.length pc),(6,.p σ.length),(18,.i (i:Nat)),(19,.i en),(24,.i (gi l pu)),(30,.s gb2 2 2),(34,.bool true)] H rfl tE ?_)
  refine dI oK rfl (?_)
  refine Lp ?_
  obtain ⟨f,e⟩:∃ f,f=min 1000 (((en - s.off)*gi l pu).tdiv 1000000):=⟨_,rfl⟩
  obtain ⟨g,d⟩:∃ g,g=min 1000 (((fm+s.off)*gi l pu).tdiv 1000000):=⟨_,rfl⟩
  obtain ⟨r1,t⟩:∃ r1,r1=((uH l (lo,hb')).rg (fun _=>pu) ((uH l (lo,hb')).bf 0) 1):=⟨_,rfl⟩
  refine .mk (dJ [(30,.s gb2 2 2),(34,.bool true),(36,.i f),(37,.i g)] H (bL H) ⟨rfl,rfl,congrArg (fun x=>some (Value.i x)) e.symm,congrArg (fun x=>some (Value.i x)) d.symm,trivial⟩ ?_)
  have v:=(EM (x:=en - s.off) (y:=en - s.off) a oO oO oO).1
  have u:=(EM (x:=fm+s.off) (y:=fm+s.off) a oO oO oO).2
  have e0:min 1000 ((en - s.off) / 100)=lo:=by
   have:=hrg;simp only [jX] at this
   rw [hlo] at this ⊢;rw [cL oO] at this ⊢;omega
  have e1:min 1000 ((fm+s.off) / 100)=hb':=by rw [hhb,cL oO]
  rw [e0] at v
  rw [e1] at u
  have z:r1=((qJ 12 (iY (gi l pu)) lo).1,(qJ 12 (iY (gi l pu)) hb').2):=t
  have g1:r1.1≤f:=by
   rw [z,e,cL oO];exact v
  have g2:r1.2≥g:=by
   rw [z,d,cL oO];exact u
  have hd1:aH H gb2 2=some (.i r1.1):=by rw [aF hgb8,t];rfl
  have hd2:aH H gb2 3=some (.i r1.2):=by rw [aF hgb8,t];rfl
  have hf2:=Dv hni8
  apply aG
  refine Lp ?_
  exact dM (.tmp rfl .nil) (.plain hp rfl) ⟨rfl,rfl⟩
end Go.Proofs.YtajpgeklmcjciaaGreat
