/- From heats to rims: what TopSpunHeats does last: the history, the ways, the ranges. -/
import Derived.Test.YtajpgeklmcjciaaGreatPxQ5
import Derived.Test.YtajpgeklmcjciaaGreatPxQ4
import Derived.Test.YtajpgeklmcjciaaGreatPxMJ
import Derived.Test.YtajpgeklmcjciaaGreatPxQ2
import Derived.Test.YtajpgeklmcjciaaGreatPxQ3
import Derived.Test.YtajpgeklmcjciaaGreatPxQ1
set_option maxRecDepth 100000
set_option maxHeartbeats 8000000
namespace Go.AH.Warp
open Go Go.AH Go.AH.Heat
def yE (g:Nat→Nat→Int):Nat→List Value
 |0=>[]
 |k+1=>yE g k++ints (dG (g k))
theorem Gm (g:Nat→Nat→Int):∀ k,(yE g k).length=k*401
 |0=>rfl
 |k+1=>by rw [yE,aR,Gm g k,cO,eG];omega
theorem Gn {g:Nat→Nat→Int}:∀ {k i j:Nat},i<k→j<401→(yE g k)[i*401+j]?=some (.i (g i j))
 |0,i,j,h,_=>by omega
 |k+1,i,j,h,hj=>by
  have hl:=Gm g k
  rw [yE]
  by_cases hi:i<k
  ·rw [bR oO];exact Gn hi hj
  ·obtain rfl:i=k:=oO
   rw [bE oO,hl,show i*401+j - i*401=j by omega,gQ (by rw [eG];exact hj),uO hj]
end Go.AH.Warp
namespace Go.Proofs.YtajpgeklmcjciaaGreat
open Go Go.AH
attribute [local irreducible] bZ bK bM jB gy dO fC bW eU aX dV eH
open Go.AH.Heat Go.AH.Warp
theorem Qy {A B:Prop} (k:B) (h:Hide B→A:=by intro h_k_;(repeat' (first|refine sCm ?_|(refine gU ?_;first|refine st (Bf (l:=1) rfl rfl (by omega) (by omega)) rfl rfl ?_|(refine bV ?_;refine st (aK rfl (by first|exact hd1|exact hd0)) rfl rfl ?_)|refine sK0 ?_|(refine gIA ?_;first|refine st (iV rfl rfl (by omega)) rfl rfl ?_|refine st (ny rfl rfl (by omega) (by omega)) rfl rfl ?_)|(refine dX ?_;refine st (bG rfl rfl rfl (by first|exact hc1|exact hc2)) rfl rfl ?_))|refine aG ?_|refine sK2 ?_|refine sK6 ?_|fail));exact h_k_.h):A:=h ⟨k⟩
theorem aaj {σ:Heap} {xb n c:Nat} {lo:Int} {F:Int→Int} {g:FuncId} [GoFn Tryz.prog g] {p q:List Value} (hx:∀ i≤n,aH σ xb i=some (.i (lo+(i:Nat)))) (hc:n+1≤c) (hn:n≤1000)
  (hcall:∀ x,lo≤x→x≤lo+n→Ev Tryz.prog g (p++[.i x]++q) σ (.i (F x)) σ) :
  Ev Tryz.prog 178 [.s xb (n+1) c,.func (.func g) p.toArray q.toArray] σ (.i (lst F lo n)) σ:=by
 refine aI σ.length 28 Tryz.func178 rfl rfl rfl rfl rfl ?_
 have hd0:aH σ xb 0=some (.i lo):=by have:=hx 0 (bN _);simpa using this
 have hn1:(1:Int)≤((n+1:Nat):Int):=oO
 refine Qy ?_
 refine dS (ι:=Nat) (fun k=>[(1,.func (.func g) p.toArray q.toArray),(5,.i (lst F lo k)),(12,.slice (some ⟨xb,1,none⟩) n (c - 1)),(13,.i (n:Nat)),(14,.i (k:Nat))])
  (fun k mk H=>k≤n∧mk=[]∧σ=H) (fun k=>n - k) 0 tE ⟨bN _,rfl,rfl⟩ ?_
 rintro k mk H ⟨hk,rfl,rfl⟩
 by_cases d:k<n
 ·have e:(k:Int)<(n:Nat):=oO
  have hd1:aH σ xb (1+k*1)=some (.i (lo+((k+1:Nat):Int))):=by rw [cI,e8];exact hx (k+1) oO
  have hl:=Ql F lo k
  have hc1:=hcall (lo+((k+1:Nat):Int)) oO oO
  have hc2:=hcall (lst F lo k) oO oO
  by_cases a:F (lo+((k+1:Nat):Int))<F (lst F lo k)
  ·refine Qy ?_
   exact ⟨k+1,⟨d,rfl,rfl⟩,oO,⟨rfl,congrArg (fun x=>some (Value.i x)) (by simp only [lst];rw [if_pos a]),rfl,rfl,rfl,trivial⟩⟩
  ·refine Qy ?_
   exact ⟨k+1,⟨d,rfl,rfl⟩,oO,⟨rfl,congrArg (fun x=>some (Value.i x)) (by simp only [lst];rw [if_neg a]),rfl,rfl,rfl,trivial⟩⟩
 ·obtain rfl:k=n:=oO
  have e:¬ ((k:Nat):Int)<(k:Nat):=oO
  refine Qy ?_
  exact dK (.tmp rfl .nil) .all ⟨rfl,rfl⟩
theorem adr {σ:Heap} {B:Bld} {nb sb cS tb cT rb ob xb gb i:Nat} {t:TypeId} {f x:Int} (hv:xK B) (hB:kZ σ B nb sb cS tb cT) (hi:i<B.n) (hf:-200≤f∧f≤200) (hx:-200≤x∧x≤200)
  (hr:σ[rb]?=some (.rw [dW gb 401 (B.n+1)])) (hg:σ[gb]?=some (.gr (yE (fun k=>iU B.b (B.n - k)) (B.n+1)) t)) (ha:σ[ob]?=some (.rw [.i (i:Nat),.i f])) (hxb:σ[xb]?=some (.rw [.p nb])) :
  Ev Tryz.prog 179 [.i x,.p rb,.p ob,.p xb] σ (.i (B.b.L6 i f x)) σ:=by
 refine aI σ.length 24 Tryz.func179 rfl rfl rfl rfl rfl ?_
 have hn20:=hv.n
 have hrl:=aQ hr
 have hgl:=aQ hg
 have hal:=aQ ha
 have hxl:=aQ hxb
 have hnl:=aQ hB.nb
 have hcl:∀ {q o:Nat},q < σ.length→closed σ.length (.pointer (some ⟨q,o,none⟩))=true:=fun {q o} h=>Nat.blt_eq.mpr h
 have g:Nat.blt gb σ.length=true:=Nat.blt_eq.mpr hgl
 have hq1:∀ X,aH (σ++X) rb 0=some (dW gb 401 (B.n+1)):=fun X=>aF (aA hr)
 have hq2:∀ X,aH (σ++X) ob (0+0)=some (.i (i:Nat)):=fun X=>aF (aA ha)
 have hq3:∀ X,aH (σ++X) ob (0+1)=some (.i f):=fun X=>aF (aA ha)
 have hq4:∀ X,aH (σ++X) xb 0=some (.p nb):=fun X=>aF (aA hxb)
 have hq5:∀ X,aH (σ++X) gb (((i:Int)+1).toNat*401+(x+200).toNat*1)=some (.i (B.b.vt (B.n - (i+1)) x)):=fun X=>by
  rw [Kz (aA hg),show ((i:Int)+1).toNat=i+1 by omega,cI,Gn oO oO]
  unfold iU
  rw [show (((x+200).toNat:Nat):Int) - 200=x by omega]
 have hfa:=fun X=>Qm (σ:=σ++X) (i:=i) (d:=x - f) hv hB.app hi oO
 have c:=(B.b.acX hv.ok (B.n - (i+1)) (by show _≤B.n;omega) x)
 have a:0≤B.b.vt (B.n - (i+1)) x∧B.b.vt (B.n - (i+1)) x≤1099511627776:=c
 have e:0≤B.hard i*ab (x - f)∧B.hard i*ab (x - f)≤9000:=by
  have h1:=hv.st i hi
  have h0:0≤ab (x - f)∧ab (x - f)≤1000:=by unfold ab;omega
  refine ⟨er oO h0.1,?_⟩
  exact Int.le_trans (fo (by omega:B.hard i≤9) h0.2 h0.1 oO) oO
 have j:B.b.L6 i f x=B.b.vt (B.n - (i+1)) x+B.hard i*ab (x - f):=rfl
 rw [j]
 generalize B.b.vt (B.n - (i+1)) x=vg at hq5 a ⊢
 generalize B.hard i*ab (x - f)=co at hfa e ⊢
 have hi1:(i:Int)+1<((B.n+1:Nat):Int):=oO
 repeat' (first|refine sCm ?_|(refine fU ?_;first|refine qX ?_;refine frA (eP rfl) rfl ?_ rfl|refine fFA ?_;refine frA (aZ rfl) rfl ?_ (hcl oA)|refine gB ?_;refine frA (aK rfl (by exact hq1 _)) rfl ?_ (kJ g)|refine gB ?_;refine frA (aK rfl (by exact hq2 _)) rfl ?_ rfl|refine gB ?_;refine frA (aK rfl (by exact hq3 _)) rfl ?_ rfl|refine gB ?_;refine frA (aK rfl (by exact hq4 _)) rfl ?_ (hcl oA)|refine gB ?_;refine frA (aK rfl (by exact hq5 _)) rfl ?_ rfl|refine fIA ?_;refine frA (DC rfl rfl oO oO) rfl ?_ (hcl oA)|refine fIA ?_;refine frA (nD rfl rfl oO oO) rfl ?_ (hcl oA)|refine qF ?_;refine frA (bG rfl rfl rfl (by exact hfa _)) rfl ?_ rfl|(refine Ip ?_;refine fr (kK rfl) oR rfl ?_)|(refine fAdd ?_;first|refine fr (qP rfl rfl oO) oR rfl ?_|refine fr (vJ rfl rfl oO oO) oR rfl ?_)|refine LM ?_)|(refine fP ⟨oK,?_⟩)|refine aG ?_|refine sK5 ?_|fail)
 rw [show σ++gJ (fun _=>true) []=σ from bL σ]
 exact dK (.tmp rfl .nil) .all ⟨rfl,rfl⟩
end Go.Proofs.YtajpgeklmcjciaaGreat
namespace Go.AH.Warp
open Go Go.AH Go.AH.Heat
structure RowsB (σ H:Heap) (nb:Nat) (F:Nat→Nat→Int) (k gb:Nat):Prop where
 pre:H.take σ.length=σ
 b0:H[σ.length]?=some (.rw [.pointer (some ⟨nb,0,none⟩)])
 b1:(k=0∧H[σ.length+1]?=some (.rw [.slice none 0 0]))∨(0<k∧σ.length+2≤gb∧H[σ.length+1]?=some (.rw [dW gb 401 k])∧H[gb]?=some (.gr (yE F k) 203))
def ent (b:Bl) (j:Nat):(Int×Int)×Value:=(((j:Nat),b.pos j),.int .i64 (b.pos (j+1)))
def rG (b:Bl) (a m:Nat):List ((Int×Int)×Value):=(List.range' a m).map (ent b)
theorem aak (b:Bl) (a m:Nat):rG b a (m+1)=rG b a m++[ent b (a+m)]:=by
 unfold rG;rw [List.range'_1_concat,eC];rfl
theorem Ol (b:Bl) (a m:Nat):rG b a (m+1)=ent b a::rG b (a+1) m:=by
 unfold rG;rw [List.range'_succ,cG]
theorem aal {b:Bl} {a m:Nat} {k:Nat} {x:Int} (h:a+m≤k):((rG b a m).map (·.1)).findIdx? (fun q=>decide ((((k:Nat):Int),x)=q))=none:=by
 rw [List.findIdx?_eq_none_iff]
 intro q hq
 simp only [rG,List.map_map,List.mem_map,List.mem_range'_1] at hq
 obtain ⟨j,hj,rfl⟩:=hq
 simp only [Function.comp,ent,decide_eq_false_iff_not,Prod.mk.injEq,not_and]
 omega
theorem afh (b:Bl) (i:Nat):lN (rG b 0 i) ((i:Nat),b.pos i) (.i (b.pos (i+1)))=rG b 0 (i+1):=by
 unfold lN
 rw [aal oO,aak,bA];rfl
theorem ads (b:Bl) (i m:Nat):iH (rG b i (m+1)) ((i:Nat),b.pos i)=some (.i (b.pos (i+1))):=by
 unfold iH
 rw [Ol]
 simp [ent,fe]
theorem adt (b:Bl) (i m:Nat):nG (rG b i (m+1)) ((i:Nat),b.pos i)=rG b (i+1) m:=by
 unfold nG
 rw [Ol]
 simp [ent,fe]
structure BB (σ H:Heap) (B:Bld) (nb gb mb:Nat) (M:List ((Int×Int)×Value)) (i:Nat):Prop where
 pre:H.take σ.length=σ
 b0:H[σ.length]?=some (.rw [.pointer (some ⟨nb,0,none⟩)])
 b1:H[σ.length+1]?=some (.rw [dW gb 401 (B.n+1)])
 g:H[gb]?=some (.gr (yE (fun k=>iU B.b (B.n - k)) (B.n+1)) 203)
 m:H[mb]?=some (ji kv M)
 o:H[mb+1]?=some (.rw [.int .i64 (i:Nat),.int .i64 (B.b.pos i)])
 ni:H.all (fun o=>!aU o)=true
def ED (B:Bld) (l:Nat):Value:=if B.b.vt B.n 0<nev then .tuple #[.slice (some ⟨l,0,none⟩) B.n B.n,.int .i64 (B.b.vt B.n 0)] else .tuple #[.slice none 0 0,.int .i64 (B.b.vt B.n 0)]
def EF (B:Bld):Heap:=if B.b.vt B.n 0<nev then [.rw (ints (mP B.n B.b.blow))] else []
end Go.AH.Warp
namespace Go.Proofs.YtajpgeklmcjciaaGreat
open Go Go.AH
attribute [local irreducible] bZ bK bM jB gy dO fC bW eU aX dV eH
open Go.AH.Heat Go.AH.Warp
theorem nK {A B:Prop} (k:B) (h:Hide B→A:=by intro h_k_;(repeat' (first|refine sCm ?_|(refine gU ?_;first|refine st (iQ (by rfl) (by rfl) rfl (by exact hgX) (by exact hgl) rfl (by exact hcl2) (by omega) (by exact hone) (by omega) (by decide)) rfl rfl ?_|refine st (wG (by rfl) rfl rfl (by exact hcl2) (by omega) (by exact hone) (by omega) (by decide)) rfl rfl ?_|(refine bV ?_;first|refine st (aK rfl (by first|exact ig rfl|exact aF a0|exact aF a1|exact aF a9|exact aF a13|exact hd1|assumption)) rfl rfl ?_|refine st (bD rfl (by first|exact aV a9 rfl|exact aV a13 rfl|assumption)) rfl rfl ?_)|refine sK8 ?_|(refine BK ?_;first|refine st (jm rfl rfl rfl) rfl rfl ?_|refine st (OJ rfl rfl) rfl rfl ?_)|(refine gIA ?_;first|refine st (DC rfl rfl (by omega) (by omega)) rfl rfl ?_|refine st (nD rfl rfl (by omega) (by omega)) rfl rfl ?_)|refine sK7 ?_|refine sK4 ?_|(refine dX ?_;refine st (bG rfl rfl rfl (by first|exact hf1|exact hf2|exact hf3)) rfl rfl ?_)|refine Hw ?_|(refine gV ?_;refine stN (bU rfl rfl rfl rfl (by first|exact vk rfl rfl|exact hput _ _|exact hput2 _ _)) rfl ?_))|(refine fU ?_;first|refine gB ?_;refine frA (aK rfl (by exact hq1 _)) rfl ?_ hc1|refine gB ?_;refine frA (aK rfl (by exact hq0 _)) rfl ?_ hc0|refine qX ?_;refine frA (eP rfl) rfl ?_ rfl|refine qF ?_;refine frA (bG rfl rfl rfl (by exact hfa _)) rfl ?_ hcr|refine Xy ?_;refine frN (sF (by rfl) (by rfl) (by rfl) (by rfl) rfl hrl) uV hrc hro rfl ?_)|(refine fP ⟨by kernel_rfl,?_⟩)|refine dB (id:=6) ?_|refine dB (id:=8) ?_|refine dB (id:=14) ?_|refine dB (id:=16) ?_|refine dB (id:=23) ?_|refine dB (id:=24) ?_|refine aG ?_|refine sK2 ?_|refine sK6 ?_|fail));exact h_k_.h):A:=h ⟨k⟩
theorem Qz {σ:Heap} {B:Bld} {nb sb cS tb cT:Nat} (hv:xK B) (hB:kZ σ B nb sb cS tb cT) (hni:σ.all (fun o=>!aU o)=true) :
  Ev Tryz.prog 86 [.p nb] σ (ED B σ.length) (σ++EF B):=by
 refine aI σ.length 88 Tryz.func86 rfl rfl rfl rfl rfl ?_
 have hn20:=hv.n
 have P:nb < σ.length:=aQ hB.nb
 have V:aH (σ++[aB.rw [.p nb]]) nb (0+0+0)=some (.s sb B.n cS):=aF (hB.app (X:=[aB.rw [.p nb]])).nb
 refine nK ?_
 refine dS (ι:=Nat×Nat) (fun k=>[(1,.p σ.length),(2,.slice none 0 0),(3,.i 0),(4,.i (B.n:Nat)),(5,.p (σ.length+1)),(22,.i ((B.n:Int)+1)),(23,.i (k.1:Nat))])
  (fun k mk H=>k.1≤B.n+1∧mk=[]∧RowsB σ H nb (fun k=>iU B.b (B.n - k)) k.1 k.2∧H.all (fun o=>!aU o)=true) (fun k=>B.n+1 - k.1) (0,0) ⟨rfl,rfl,rfl,rfl,(by (refine congrArg (fun n=>some (Value.p n)) ?_;simp;try omega)),rfl,rfl,trivial⟩ ⟨bN _,rfl,⟨by simp,aA aO,.inl ⟨rfl,bJ oS⟩⟩,bF (bF hni rfl) rfl⟩ ?_
 clear V
 rintro ⟨k,gb⟩ mk H ⟨hk,rfl,hR,hniH⟩
 dsimp only at hk hR ⊢
 have ax:σ.length+2≤H.length:=by rcases hR.b1 with ⟨_,h⟩|⟨_,_,h,_⟩ <;> exact aQ h
 by_cases av:k<B.n+1
 ·have af:(k:Int)<(B.n:Int)+1:=oO
  refine nK ?_
  refine .mk (dH [(1,.p σ.length),(2,.slice none 0 0),(3,.i 0),(4,.i (B.n:Nat)),(5,.p (σ.length+1)),(6,.i (k:Nat)),(22,.i ((B.n:Int)+1)),(23,.i (k:Nat))] H rfl tE ?_)
  obtain ⟨cr,a⟩:∃ cr,cr=ints (dG (iU B.b (B.n - k))):=⟨_,rfl⟩
  have hfa:=fun X=>IK (σ:=H++X) (sn:=k) hv ((hB.take hR.pre).app (X:=X)) oO
  rw [← a] at hfa
  have hrl:cr.length=401:=by rw [a,cO,eG]
  have hone:cr.all (·.oneCell')=true:=by rw [a];exact jZ _
  have hcr:closed H.length (.agg cr.toArray)=true:=by
   have:=(aW (n:=H.length) (bC (dG (iU B.b (B.n - k))))).1
   rw [← a] at this
   simpa [closed,iZ] using this
  have hrc:dP H.length cr=true:=by rw [a];exact (aW (bC _)).1
  have hro:okL cr=true:=by rw [a];exact (aW (n:=H.length) (bC _)).2
  have hq0:∀ X,aH (H++X) σ.length 0=some (.p nb):=fun X=>aF (aA hR.b0)
  have hc0:closed H.length (.p nb)=true:=Nat.blt_eq.mpr (fi P oO)
  have hcl2:aJ (H++[aB.rw cr]) (H++([]:Heap)).length 0 401=some cr:=by rw [bL];exact dU hrl
  rcases hR.b1 with ⟨rfl,r⟩|⟨hk0,ar,r,hg⟩
  ·have hq1:∀ X,aH (H++X) (σ.length+1) 0=some (.slice none 0 0):=fun X=>aF (aA r)
   have hc1:closed H.length (.slice none 0 0)=true:=rfl
   have hput:∀ X v,putCells (H++[aB.rw cr]++X) (σ.length+1) 0 [v]=some ((H++[aB.rw cr]++X).set (σ.length+1) (.rw [v])):=fun X v=>fM (aA (aA r)) oS oS rfl
   refine fA oK rfl ?_
   refine nK ?_
   refine ⟨(0+1,(H++[aB.rw cr]).length+1),⟨by dsimp only;omega,rfl,⟨take_set (aT (aT hR.pre)) oO,aC (aA (aA hR.b0)) oO,.inr ⟨oO,by simp;omega,aS (aA (aA r)),?_⟩⟩,ku (bF (bF hniH rfl) rfl) rfl⟩,by dsimp only;omega,tE⟩
   refine aC ?_ (by simp;omega)
   rw [bE oO]
   simp only [yE,eR,Nat.sub_zero]
   rw [a];simp
  ·have hq1:∀ X,aH (H++X) (σ.length+1) 0=some (dW gb 401 k):=fun X=>aF (aA r)
   have hc1:closed H.length (dW gb 401 k)=true:=kJ (Nat.blt_eq.mpr (aQ hg))
   have hgX:(H++[aB.rw cr])[gb]?=some (.gr (yE (fun k=>iU B.b (B.n - k)) k) 203):=aA hg
   have hgl:(yE (fun k=>iU B.b (B.n - k)) k).length=k*401:=Gm _ _
   have hput:∀ X v,putCells ((H++[aB.rw cr]).set gb .dead++X) (σ.length+1) 0 [v]=some (((H++[aB.rw cr]).set gb .dead++X).set (σ.length+1) (.rw [v])):=fun X v=>fM (aA (aC (aA r) oO)) oS oS rfl
   refine fA oK rfl ?_
   refine nK ?_
   refine ⟨(k+1,(H++[aB.rw cr]).length),⟨by dsimp only;omega,rfl,⟨take_set (aT (take_set (aT hR.pre) oO)) oO,aC (aA (aC (aA hR.b0) oO)) oO,.inr ⟨oO,by simp;omega,aS (aA (aC (aA r) oO)),?_⟩⟩,ku (bF (ku (bF hniH rfl) rfl) rfl) rfl⟩,by dsimp only;omega,tE⟩
   refine aC ?_ (by simp;omega)
   rw [show (H++[aB.rw cr]).length=((H++[aB.rw cr]).set gb .dead).length by simp,bE (aD _),cY,yE,← a];rfl
 ·obtain rfl:k=B.n+1:=oO
  have af:¬ ((B.n+1:Nat):Int)<(B.n:Int)+1:=oO
  rcases hR.b1 with ⟨h0,_⟩|⟨_,ar,r,hg⟩
  ·omega
  have hp:=hR.pre
  have a4:=hR.b0
  clear hR
  have a1:=r
  have hd1:aH H gb (Int.toNat 0*401+Int.toNat 200*1)=some (.i (B.b.vt B.n 0)):=by
   rw [Kz hg,show Int.toNat 0*401+Int.toNat 200*1=0*401+200 from rfl,Gn oO oO];rfl
  have b4:(0:Int)<((B.n+1:Nat):Int):=oO
  refine nK ?_
  refine .mk (dH [(1,.p σ.length),(2,.slice none 0 0),(3,.i 0),(4,.i (B.n:Nat)),(5,.p (σ.length+1))] H rfl tE ?_)
  apply aG
  by_cases C:B.b.vt B.n 0<nev
  ·have ap:¬ B.b.vt B.n 0≥1099511627776:=by have:B.b.vt B.n 0<1099511627776:=C;omega
   unfold ED EF
   rw [if_pos C,if_pos C]
   refine nK ?_
   refine st yX rfl rfl ?_
   refine nK ?_
   have M:=aQ hg
   have W:BB σ (H++[aB.map []]++[aB.rw [.i 0,.i 0]]) B nb gb H.length (rG B.b 0 0) 0 :=
    ⟨aT (aT hp),aA (aA a4),aA (aA r),aA (aA hg),aA aO,bJ oS,bF (bF hniH rfl) rfl⟩
   obtain ⟨mb,L⟩:∃ mb,mb=H.length:=⟨_,rfl⟩
   rw [← L] at W M
   refine dS (ι:=Nat) (fun i=>[(1,.p σ.length),(2,.slice none 0 0),(3,.i 0),(4,.i (B.n:Nat)),(5,.p (σ.length+1)),(7,.i (B.b.vt B.n 0)),(8,.map (some mb)),(9,.p (mb+1))])
    (fun i mk H=>i≤B.n∧mk=[]∧BB σ H B nb gb mb (rG B.b 0 i) i) (fun i=>B.n - i) 0 ⟨rfl,rfl,rfl,rfl,rfl,rfl,congrArg (fun n=>some (Value.map (some n))) L.symm,(by refine congrArg (fun n=>some (Value.p n)) ?_;rw [L];simp),trivial⟩ ⟨bN _,rfl,W⟩ ?_
   clear W L hd1 b4 a1 hniH r a4 hp hg af hk av ax H
   have aa:=B.b.acY hv.ok C
   rintro i mk H ⟨hi,rfl,hS⟩
   have a0:=hS.b0
   have a9:=hS.o
   have az:=aQ hS.m
   by_cases D:i<B.n
   ·have Y:(i:Int)<(B.n:Nat):=oO
    refine nK ?_
    refine .mk (dH [(1,.p σ.length),(2,.slice none 0 0),(3,.i 0),(4,.i (B.n:Nat)),(5,.p (σ.length+1)),(7,.i (B.b.vt B.n 0)),(8,.map (some mb)),(9,.p (mb+1))] H rfl tE ?_)
    obtain ⟨f,hf⟩:∃ f,f=B.b.pos i:=⟨_,rfl⟩
    have Z:=aa i (by show i≤B.n;omega)
    have ac:-200≤f∧f≤200:=by
     rw [hf]
     rcases i with _|j
     ·show -200≤(0:Int)∧(0:Int)≤200;omega
     ·have h1:=Z.2.2 j oO
      have h2:=hv.tube (i:=j) oO
      omega
    rw [← hf] at a9
    have ad:=hB.take hS.pre
    have hf1:=KU (σ:=H) hv ad D ac
    obtain ⟨n0,S⟩:∃ n0,B.b.sN i f=n0+1:=by
     rcases hc:B.b.sN i f with _|n0
     ·have h1:=Z.1
      rw [show Bl.n B.b - i=B.b.n - i from rfl,B.b.Yz (by show i<B.n;omega),← hf,hc] at h1
      exact absurd h1 (by simp [oQ])
     ·exact ⟨n0,rfl⟩
    have htu:=hv.tube D
    have hmo:=hv.most
    have hsl:-200≤B.b.sLo i f∧B.b.sLo i f≤400:=by unfold Bl.sLo;show -200≤max (B.b.lo i) (f - B.most)∧max (B.b.lo i) (f - B.most)≤400;omega
    have au:B.b.sN i f=(min (B.b.hi i) (f+B.most)+1 - B.b.sLo i f).toNat:=rfl
    have hf2:=Oe (σ:=H++[.rw [.i (B.b.sLo i f)]]++[.rw [.i (min (B.b.hi i) (f+B.most))]]) (lo:=B.b.sLo i f) (hi:=min (B.b.hi i) (f+B.most)) (lb:=H.length) (hb:=H.length+1) (n:=n0+1) oO oO oO (by rw [← S];exact au) oO (aA aO) (bJ oS) oO
    obtain ⟨H3,z⟩:∃ H3,H3=H++[aB.rw [.i (B.b.sLo i f)]]++[aB.rw [.i (min (B.b.hi i) (f+B.most))]]++[aB.rw (ints (numsL (B.b.sLo i f) (n0+1)))]:=⟨_,rfl⟩
    have a8:H3[(H++[aB.rw [.i (B.b.sLo i f)]]++[aB.rw [.i (min (B.b.hi i) (f+B.most))]]).length]?=some (.rw (ints (numsL (B.b.sLo i f) (n0+1)))):=by rw [z];exact aO
    have w:H3.take H.length=H:=by rw [z];exact aT (aT oS)
    have ak:H3[σ.length]?=some (.rw [.p nb])∧H3[σ.length+1]?=some (.rw [dW gb 401 (B.n+1)])∧H3[gb]?=some (.gr (yE (fun k=>iU B.b (B.n - k)) (B.n+1)) 203)∧H3[mb]?=some (ji kv (rG B.b 0 i))∧H3[mb+1]?=some (.rw [.i (i:Nat),.i f]):=by
     rw [z]
     exact ⟨aA (aA (aA hS.b0)),aA (aA (aA hS.b1)),aA (aA (aA hS.g)),aA (aA (aA hS.m)),aA (aA (aA a9))⟩
    obtain ⟨c0,c1,cg,cm,co⟩:=ak
    have G:H3.all (fun o=>!aU o)=true:=by rw [z];exact bF (bF (bF hS.ni rfl) rfl) rfl
    have b3:H3.take σ.length=σ:=by rw [z];exact aT (aT (aT hS.pre))
    have hf3:=aaj (σ:=H3) (c:=n0+1) (n:=n0) (lo:=B.b.sLo i f) (F:=B.b.L6 i f) (g:=179) (p:=[]) (q:=[.p (σ.length+1),.p (mb+1),.p σ.length])
     (fun j hj=>by rw [aF a8,gQ (by rw [Gf];omega),ac5 oO]) (aD _) oO (fun x h1 h2=>adr hv (ad.take w) D ac (by
      have h3:=(B.b.KR (i:=i) (f:=f) (g:=x)).1 ⟨h1,by rw [S];omega⟩
      omega) c1 cg co c0)
    have Q:lst (B.b.L6 i f) (B.b.sLo i f) n0=B.b.pos (i+1):=by
     show _=lst (B.b.L6 i (B.b.pos i)) (B.b.sLo i (B.b.pos i)) (B.b.sN i (B.b.pos i) - 1)
     rw [← hf,S,Nat.add_sub_cancel]
    rw [Q] at hf3
    rw [z] at hf3
    apply aG
    refine nK ?_
    clear hf1 hf2 hf3
    refine .mk (dH [(1,.p σ.length),(2,.slice none 0 0),(3,.i 0),(4,.i (B.n:Nat)),(5,.p (σ.length+1)),(7,.i (B.b.vt B.n 0)),(8,.map (some mb)),(9,.p (mb+1)),(11,.i (B.b.pos (i+1)))] H3 z.symm tE ?_)
    clear z w a8 a0 a9 hS
    have a9:=co
    have an:H3.set mb (ji kv (lN (rG B.b 0 i) (((i:Nat):Int),f) (.i (B.b.pos (i+1)))))=H3.set mb (ji kv (rG B.b 0 (i+1))):=by rw [hf,afh]
    apply aG
    refine nK ?_
    refine stN (pq (i:=mb) (l:=rG B.b 0 i) (k:=(((i:Nat):Int),f)) (v:=.i (B.b.pos (i+1))) rfl cm rfl rfl G) rfl ?_
    rw [an]
    clear a9
    have a9:(H3.set mb (ji kv (rG B.b 0 (i+1))))[mb+1]?=some (.rw [.i (i:Nat),.i f]):=aC co oO
    have hput2:∀ x y,putCells (H3.set mb (ji kv (rG B.b 0 (i+1)))) (mb+1) 0 [x,y]=some ((H3.set mb (ji kv (rG B.b 0 (i+1)))).set (mb+1) (.rw [x,y])):=fun x y=>fM a9 oS oS rfl
    refine nK ?_
    exact ⟨i+1,⟨D,rfl,⟨take_set (take_set b3 oO) oO,aC (aC c0 oO) oO,aC (aC c1 oO) oO,aC (aC cg oO) oO,aC (aS cm) oO,aS a9,ku (ku G rfl) rfl⟩⟩,oO,tE⟩
   ·obtain rfl:i=B.n:=oO
    have Y:¬ ((B.n:Nat):Int)<(B.n:Nat):=oO
    refine nK ?_
    refine TN 2 ?_
    have N:=aQ hS.o
    refine dS (ι:=Nat×Nat×Nat) (fun k=>[(3,.i 0),(7,.i (B.b.vt B.n 0)),(8,.map (some mb)),(9,.p (mb+1)),(12,dW k.2.1 1 k.1),(13,.p k.2.2)])
     (fun k mk H=>k.1≤B.n∧mk=[]∧H.take σ.length=σ∧H[mb]?=some (ji kv (rG B.b k.1 (B.n - k.1)))∧H[mb+1]?=some (.rw [.i (B.n:Nat),.i (B.b.pos B.n)])∧mb+2≤k.2.1∧mb+2≤k.2.2∧H[k.2.1]?=some (.gr (ints (mP k.1 B.b.blow)) 2)∧H[k.2.2]?=some (.rw [.i (k.1:Nat),.i (B.b.pos k.1)])∧H.all (fun o=>!aU o)=true) (fun k=>B.n - k.1) (0,H.length+1,H.length) tE
     ⟨bN _,rfl,aT (aT hS.pre),aA (aA hS.m),aA (aA hS.o),by dsimp only;omega,by dsimp only;omega,bJ oS,aA aO,bF (bF hS.ni rfl) rfl⟩ ?_
    clear N Y D az a9 a0 hS hi H
    rintro ⟨i,go,d⟩ mk H ⟨hi,rfl,hp,hm,ho,aw,ao,hg,hs,hniH⟩
    dsimp only at hi hm aw ao hg hs ⊢
    have a9:=ho
    have a13:=hs
    have hgs:go ≠ d:=fun e=>by rw [e,hs] at hg;cases hg
    have ag:∀ j≤B.n,-200≤B.b.pos j∧B.b.pos j≤200:=fun j hj=>by
     rcases j with _|j
     ·show -200≤(0:Int)∧(0:Int)≤200;omega
     ·have h1:=(aa (j+1) hj).2.2 j oO
      have h2:=hv.tube (i:=j) oO
      omega
    by_cases D:i<B.n
    ·have am:¬ (((i:Nat):Int)=((B.n:Nat):Int)∧B.b.pos i=B.b.pos B.n):=fun h=>by omega
     obtain ⟨m,ay⟩:∃ m,B.n - i=m+1:=⟨B.n - i - 1,oO⟩
     rw [ay] at hm
     have I:=ads B.b i m
     have hp1:=ag i oO
     have hp2:=ag (i+1) oO
     have hsbl:=aQ hs
     have hgol:=aQ hg
     refine nK ?_
     refine st (Nj (kv:=kv) (i:=mb) (l:=rG B.b i (m+1)) (k:=(((i:Nat):Int),B.b.pos i)) rfl (by exact hm) rfl (by exact I)) rfl rfl ?_
     refine nK ?_
     refine stN (Bg (kv:=kv) (i:=mb) (l:=rG B.b i (m+1)) (k:=(((i:Nat):Int),B.b.pos i)) rfl (by exact hm) rfl) rfl ?_
     rw [adt]
     obtain ⟨H1,u⟩:∃ H1,H1=H.set mb (ji kv (rG B.b (i+1) m)):=⟨_,rfl⟩
     refine nK ?_
     refine .mk (dH [(3,.i 0),(7,.i (B.b.vt B.n 0)),(8,.map (some mb)),(9,.p (mb+1)),(12,dW go 1 i),(13,.p d),(14,.i (B.b.pos (i+1)))] H1 u.symm tE ?_)
     have J:H1.take σ.length=σ:=by rw [u];exact take_set hp oO
     have ah:H1[mb]?=some (ji kv (rG B.b (i+1) m)):=by rw [u];exact aS hm
     have a5:H1[mb+1]?=some (.rw [.i (B.n:Nat),.i (B.b.pos B.n)]):=by rw [u];exact aC ho oO
     have ae:H1[go]?=some (.gr (ints (mP i B.b.blow)) 2):=by rw [u];exact aC hg oO
     have U:H1[d]?=some (.rw [.i (i:Nat),.i (B.b.pos i)]):=by rw [u];exact aC hs oO
     have E:H1.all (fun o=>!aU o)=true:=by rw [u];exact ku hniH rfl
     have hl1:H1.length=H.length:=by rw [u];simp
     clear u a9 a13 I hm ho hg hs hniH hp
     have a13:=U
     have al:B.b.pos (i+1) - B.b.pos i=B.b.blow i:=rfl
     have hgX:(H1++[aB.rw [.i (B.b.pos (i+1) - B.b.pos i)]])[go]?=some (.gr (ints (mP i B.b.blow)) 2):=aA ae
     have hgl:(ints (mP i B.b.blow)).length=i*1:=by rw [cO,EC,cI]
     have hcl2:aJ (H1++[aB.rw [.i (B.b.pos (i+1) - B.b.pos i)]]) H1.length 0 (1*1)=some [.i (B.b.pos (i+1) - B.b.pos i)]:=dU rfl
     have hone:([.i (B.b.pos (i+1) - B.b.pos i)]:List Value).all (·.oneCell')=true:=rfl
     apply aG
     refine nK ?_
     have ai:ints (mP i B.b.blow)++[.i (B.b.pos (i+1) - B.b.pos i)]=ints (mP (i+1) B.b.blow):=by
      rw [al];simp [mP,ints,fy]
     obtain ⟨H2,t⟩:∃ H2,H2=(H1++[aB.rw [.i (B.b.pos (i+1) - B.b.pos i)]]).set go .dead++[aB.gr (ints (mP (i+1) B.b.blow)) 2]:=⟨_,rfl⟩
     obtain ⟨g2,K⟩:∃ g2,g2=(H1++[aB.rw [.i (B.b.pos (i+1) - B.b.pos i)]]).length:=⟨_,rfl⟩
     refine .mk (dH [(3,.i 0),(7,.i (B.b.vt B.n 0)),(8,.map (some mb)),(9,.p (mb+1)),(12,dW g2 1 (i+1)),(13,.p d),(14,.i (B.b.pos (i+1)))] H2 (by rw [t,← ai];rfl) ⟨rfl,rfl,rfl,rfl,by rw [K];rfl,rfl,rfl,trivial⟩ ?_)
     have hg2l:g2=H1.length+1:=by rw [K];simp
     have O:H2.take σ.length=σ:=by rw [t];exact aT (take_set (aT J) oO)
     have aq:H2[mb]?=some (ji kv (rG B.b (i+1) m)):=by rw [t];exact aA (aC (aA ah) oO)
     have b2:H2[mb+1]?=some (.rw [.i (B.n:Nat),.i (B.b.pos B.n)]):=by rw [t];exact aA (aC (aA a5) oO)
     have aj:H2[g2]?=some (.gr (ints (mP (i+1) B.b.blow)) 2):=by rw [t];exact bJ (by rw [K];simp)
     have R:H2[d]?=some (.rw [.i (i:Nat),.i (B.b.pos i)]):=by rw [t];exact aA (aC (aA U) oO)
     have T:H2.all (fun o=>!aU o)=true:=by rw [t];exact bF (ku (bF E rfl) rfl) rfl
     have hl2:H2.length=H1.length+2:=by rw [t];simp
     clear hone hcl2 hgl hgX a13 J ah a5 ae U E t ai K
     have a13:=R
     have hput2:∀ x y,putCells H2 d 0 [x,y]=some (H2.set d (.rw [x,y])):=fun x y=>fM R oS oS rfl
     have a14:aJ (H2.set d (.rw [.i ((i+1:Nat):Int),.i (B.b.pos (i+1))])) d 0 2=some [.i ((i+1:Nat):Int),.i (B.b.pos (i+1))]:=aV (aS R) rfl
     have b5:(H2.set d (.rw [.i ((i+1:Nat):Int),.i (B.b.pos (i+1))])).length=H2.length:=oS
     apply aG
     refine nK ?_
     exact ⟨(i+1,g2,(H2.set d (.rw [.i ((i+1:Nat):Int),.i (B.b.pos (i+1))])).length),⟨D,rfl,aT (take_set O oO),by dsimp only;rw [show B.n - (i+1)=m by omega];exact aA (aC aq oO),aA (aC b2 oO),by dsimp only;omega,by dsimp only;rw [b5];omega,aA (aC aj (show d ≠ g2 by omega)),aO,bF (ku T rfl) rfl⟩,by dsimp only;omega,tE⟩
    ·obtain rfl:i=B.n:=oO
     have am:¬ ¬ (((B.n:Nat):Int)=((B.n:Nat):Int)∧B.b.pos B.n=B.b.pos B.n):=fun h=>h ⟨rfl,rfl⟩
     refine nK ?_
     have s0:fK σ.length [go] σ.length=⟨go,0,0⟩:=by simp [fK]
     have hmbl:σ.length≤mb:=oO
     exact dK (v2:=.tuple #[.s σ.length B.n B.n,.i (B.b.vt B.n 0)]) (.tmp rfl (.tmp rfl .nil)) (aX.src [.rw (ints (mP B.n B.b.blow))] [go] hp rfl (by simp [dF];omega) ⟨uJ s0 (.inr ⟨_,hg⟩) (bC _),trivial⟩ (sJ (jV oS s0) (.i _))) ⟨rfl,rfl⟩
  ·have ap:B.b.vt B.n 0≥1099511627776:=by have:¬ B.b.vt B.n 0<1099511627776:=C;omega
   unfold ED EF
   rw [if_neg C,if_neg C,bL]
   refine nK ?_
   exact dK (v2:=.tuple #[.slice none 0 0,.i (B.b.vt B.n 0)]) (.tmp rfl (.tmp rfl .nil)) (aX.plain hp rfl) ⟨rfl,rfl⟩
def adu (B:Bld) (nb i:Nat):Heap:=[.rw [.int .i64 (i:Nat)],.rw (ints (dG (iy B.b i))),.rw (ints (dG (iU B.b (B.n - (i+1))))),.rw [.func (.func 180) #[.pointer (some ⟨nb,0,none⟩)] #[]],.rw [.int .i64 (B.b.lo i),.int .i64 (B.b.hi i)]]
theorem WZ {A B:Prop} (k:B) (h:Hide B→A:=by intro h_k_;(repeat' (first|refine sCm ?_|(refine gU ?_;refine sK7 ?_)|(refine fU ?_;first|refine qX ?_;refine frA (eP rfl) rfl ?_ (hcl (by assumption))|refine OH ?_;refine frA (jT rfl) rfl ?_ (hcl (by assumption))|refine fFA ?_;refine frA (aZ rfl) rfl ?_ (hcl (by assumption))|refine gB ?_;refine frA (aK rfl (by exact hq1 _)) rfl ?_ rfl|refine gB ?_;refine frA (aK rfl (by exact hq2 _)) rfl ?_ (hcs (by assumption))|refine gB ?_;refine frA (bD rfl (by exact hq3 _)) rfl ?_ rfl|refine fIA ?_;refine frA (ny rfl rfl (by omega) (by omega)) rfl ?_ (hcl (by assumption))|refine qF ?_;refine frA (bG rfl rfl rfl (by exact hfa _)) rfl ?_ hcR|refine qF ?_;refine frA (bG rfl rfl rfl (by exact hfb _)) rfl ?_ hcS|refine fMkF ?_;refine frA (zN rfl rfl) rfl ?_ hcf2|(refine fAdd ?_;refine fr (qP rfl rfl (by omega)) (by rfl) rfl ?_)|(refine zV ?_;refine Chain.fr1A (kC rfl) rfl rfl rfl ?_))|(refine fP ⟨by kernel_rfl,?_⟩)|refine dB (id:=1) ?_|refine dB (id:=2) ?_|refine aG ?_|refine Chain.Wh ?_|refine Chain.wZ 7 [true,true] cR (by kernel_rfl) (by kernel_rfl) (by kernel_rfl) (by kernel_rfl) hrR hoR (bU (size:=401) rfl rfl (by exact hlR) (by exact h1R) (by exact hp1)) ?_|refine Chain.wZ 8 [true,true] cS2 (by kernel_rfl) (by kernel_rfl) (by kernel_rfl) (by kernel_rfl) hrS hoS (bU (size:=401) rfl rfl (by exact hlS) (by exact h1S) (by exact hp2)) ?_|refine Chain.wZ 10 [true,true] [.func (.func 180) #[.p nb] #[]] (by kernel_rfl) (by kernel_rfl) (by kernel_rfl) (by kernel_rfl) hcf rfl (bU rfl rfl rfl rfl (by exact hp1)) ?_|refine Chain.wZ 11 [true,true] [.i (B.b.lo i),.i (B.b.hi i)] (by kernel_rfl) (by kernel_rfl) (by kernel_rfl) (by kernel_rfl) rfl rfl (bU rfl rfl rfl rfl (by exact hp2)) ?_));exact h_k_.h):A:=h ⟨k⟩
theorem afi {σ:Heap} {B:Bld} {nb sb cS tb cT i:Nat} (hv:xK B) (hB:kZ σ B nb sb cS tb cT) (hi:i<B.n) :
  Ev Tryz.prog 242 [.p nb,.i (i:Nat)] σ (.func (.func 283) #[] #[.p (σ.length+4),.p (σ.length+1),.p (σ.length+2),.p (σ.length+3),.p σ.length]) (σ++adu B nb i):=by
 refine aI σ.length 27 Tryz.func242 rfl rfl rfl rfl rfl ?_
 have hn20:=hv.n
 have hnbl:nb < σ.length:=aQ hB.nb
 refine WZ ?_
 obtain ⟨H,hH⟩:∃ H,H=σ++[aB.rw [.i (i:Nat)]]:=⟨_,rfl⟩
 refine .mk (dH [(0,.p nb),(3,.p σ.length)] H hH.symm tE ?_)
 have t:H.length=σ.length+1:=by rw [hH];simp
 have b3:H[σ.length]?=some (.rw [.i (i:Nat)]):=by rw [hH];exact aO
 have hp:H.take σ.length=σ:=by rw [hH];simp
 have g:nb<H.length:=oO
 have m:σ.length<H.length:=oO
 have u:=hB.take hp
 have hcl:∀ {q o:Nat},q<H.length→closed H.length (.pointer (some ⟨q,o,none⟩))=true:=fun {q o} h=>Nat.blt_eq.mpr h
 have hq1:∀ X,aH (H++X) σ.length 0=some (.i (i:Nat)):=fun X=>aF (aA b3)
 have hfa:=fun X=>Qp (σ:=H++X) (sn:=i) hv (u.app (X:=X)) oO
 have hfb:=fun X=>IK (σ:=H++X) (sn:=i+1) hv (u.app (X:=X)) oO
 obtain ⟨cR,d⟩:∃ cR,cR=ints (dG (iy B.b i)):=⟨_,rfl⟩
 obtain ⟨cS2,a⟩:∃ cS2,cS2=ints (dG (iU B.b (B.n - (i+1)))):=⟨_,rfl⟩
 rw [← d] at hfa
 rw [← a] at hfb
 have hlR:cR.length=401:=by rw [d,cO,eG]
 have hlS:cS2.length=401:=by rw [a,cO,eG]
 have h1R:cR.all (·.oneCell')=true:=by rw [d];exact jZ _
 have h1S:cS2.all (·.oneCell')=true:=by rw [a];exact jZ _
 have hrR:dP H.length cR=true:=by rw [d];exact (aW (bC _)).1
 have hrS:dP H.length cS2=true:=by rw [a];exact (aW (bC _)).1
 have hoR:okL cR=true:=by rw [d];exact (aW (n:=H.length) (bC _)).2
 have hoS:okL cS2=true:=by rw [a];exact (aW (n:=H.length) (bC _)).2
 have hcR:closed H.length (.agg cR.toArray)=true:=by simpa [closed,iZ] using hrR
 have hcS:closed H.length (.agg cS2.toArray)=true:=by simpa [closed,iZ] using hrS
 have hp1:putCells (H++[aB.rw (List.replicate 401 (.i 0)),aB.rw (List.replicate 401 (.i 0))]) (H.length+0) 0 cR=some (H++[aB.rw cR,aB.rw (List.replicate 401 (.i 0))]):=by
  rw [fM (cs:=List.replicate 401 (.i 0)) (cs':=cR) oS (by rw [hlR];simp) oS (by simp [splice,hlR])]
  simp
 have hp2:putCells (H++[aB.rw cR,aB.rw (List.replicate 401 (.i 0))]) (H.length+1) 0 cS2=some (H++[aB.rw cR,aB.rw cS2]):=by
  rw [fM (cs:=List.replicate 401 (.i 0)) (cs':=cS2) oS (by rw [hlS];simp) oS (by simp [splice,hlS])]
  simp
 refine Chain.Bz (id:=1) oK rfl (?_)
 refine WZ ?_
 clear hp1 hp2 hcS hcR hoS hoR hrS hrR h1S h1R hlS hlR hfb hfa hq1 hcl m g
 obtain ⟨H2,e⟩:∃ H2,H2=H++[aB.rw cR,aB.rw cS2]:=⟨_,rfl⟩
 refine .mk (dH [(0,.p nb),(3,.p σ.length),(5,.p H.length),(6,.p (H.length+1))] H2 (by rw [e];rfl) tE ?_)
 have j:H2.length=σ.length+3:=by rw [e];simp [t]
 have v:H2[σ.length]?=some (.rw [.i (i:Nat)]):=by rw [e];exact aA b3
 have w:H2.take σ.length=σ:=by rw [e];exact aT hp
 have g:nb<H2.length:=oO
 have m:σ.length<H2.length:=oO
 have f:=hB.take w
 have hcl:∀ {q o:Nat},q<H2.length→closed H2.length (.pointer (some ⟨q,o,none⟩))=true:=fun {q o} h=>Nat.blt_eq.mpr h
 have hcs:∀ {q o n c:Nat},q<H2.length→closed H2.length (.slice (some ⟨q,o,none⟩) n c)=true:=fun h=>bP (Nat.blt_eq.mpr h)
 have hq1:∀ X,aH (H2++X) σ.length 0=some (.i (i:Nat)):=fun X=>aF (aA v)
 have hq2:∀ X,aH (H2++X) nb (0+2)=some (.s tb (B.n+1) cT):=fun X=>aF (aA f.nb)
 have r:aJ H2 tb (0+(i+1)*2) 2=some [.i (B.b.lo i),.i (B.b.hi i)]:=by rw [bA];exact f.tu (i+1) oO
 have y:tb<H2.length:=dJ r
 have hq3:∀ X,aJ (H2++X) tb (0+(i+1)*2) 2=some [.i (B.b.lo i),.i (B.b.hi i)]:=fun X=>by rw [iT y];exact r
 have hcf:dP H2.length [.func (.func 180) #[.p nb] #[]]=true:=by
  have:=hcl (o:=0) g
  simp [dP,closed,iZ] at this ⊢
  exact this
 have hcf2:closed H2.length (.func (.func 180) #[.p nb] #[])=true:=by
  have:=hcl (o:=0) g
  simp [dP,closed,iZ] at this ⊢
  exact this
 have hi1:(i:Int)+1<((B.n+1:Nat):Int):=oO
 have hp1:putCells (H2++[aB.rw [Value.nilFunc],aB.rw [.i 0,.i 0]]) (H2.length+0) 0 [.func (.func 180) #[.p nb] #[]]=some (H2++[aB.rw [.func (.func 180) #[.p nb] #[]],aB.rw [.i 0,.i 0]]):=by
  refine (fM (cs:=[Value.nilFunc]) (cs':=[.func (.func 180) #[.p nb] #[]]) oS oS oS rfl).trans ?_
  simp
 have hp2:putCells (H2++[aB.rw [.func (.func 180) #[.p nb] #[]],aB.rw [.i 0,.i 0]]) (H2.length+1) 0 [.i (B.b.lo i),.i (B.b.hi i)]=some (H2++[aB.rw [.func (.func 180) #[.p nb] #[]],aB.rw [.i (B.b.lo i),.i (B.b.hi i)]]):=by
  refine (fM (cs:=[.i 0,.i 0]) (cs':=[.i (B.b.lo i),.i (B.b.hi i)]) oS oS oS rfl).trans ?_
  simp
 refine Chain.Bz (id:=2) oK rfl (?_)
 refine WZ ?_
 refine dK (.tmp rfl .nil) .all ⟨?_,?_⟩
 ·show Value.func (.func 283) #[] #[.p (H2.length+1),.p H.length,.p (H.length+1),.p (H2.length+0),.p σ.length]=_
  rw [j,t]
 ·show H2++[aB.rw [.func (.func 180) #[.p nb] #[]],aB.rw [.i (B.b.lo i),.i (B.b.hi i)]]=_
  rw [e,hH,d,a]
  simp [adu]
end Go.Proofs.YtajpgeklmcjciaaGreat
namespace Go.AH.Warp
open Go Go.AH Go.AH.Heat
def chB (h m:Int):Bld where
 n:=4
 ang:=fun i=>match i with|0=>0|1=>4|2=>5|_=>1
 tlo:=fun _=>-1
 thi:=fun _=>1
 hard:=fun i=>match i with|1=>h|_=>1
 most:=m
theorem lI {h m:Int} (hh:1≤h∧h≤9) (hm:0≤m∧m≤200):xK (chB h m):=by
 refine ⟨(show 1≤4∧4≤20 by decide),fun i hi=>?_,hm⟩
 match i,hi with
 |0,_=>exact (show -100≤(0:Int)∧(0:Int)≤100∧-100≤(-1:Int)∧(-1:Int)≤1∧(1:Int)≤100∧1≤(1:Int)∧(1:Int)≤9 by decide)
 |1,_=>exact (show -100≤(4:Int)∧(4:Int)≤100∧-100≤(-1:Int)∧(-1:Int)≤1∧(1:Int)≤100∧1≤h∧h≤9 by omega)
 |2,_=>exact (show -100≤(5:Int)∧(5:Int)≤100∧-100≤(-1:Int)∧(-1:Int)≤1∧(1:Int)≤100∧1≤(1:Int)∧(1:Int)≤9 by decide)
 |3,_=>exact (show -100≤(1:Int)∧(1:Int)≤100∧-100≤(-1:Int)∧(-1:Int)≤1∧(1:Int)≤100∧1≤(1:Int)∧(1:Int)≤9 by decide)
def rowP (lo:Nat) (l:List Int):List Int:=List.replicate lo nev++(l++List.replicate (401 - lo - l.length) nev)
def Hf:Nat→List Int
 |0=>rowP 189 [15,14,13,12,11,10,9,8,7,6,5,6,7,8,9,10,11,12,13,14,15,16,17]
 |1=>rowP 185 [13,12,11,10,9,8,7,6,5,4,3,2,3,4,5,6,7,8,9,10,11,12,13]
 |2=>rowP 184 [14,13,12,11,10,9,8,7,6,5,4,3,2,3,4,5,6,7,8,9,10,11,12]
 |3=>rowP 188 [10,9,8,7,6,5,4,3,2,1,0,0,0,1,2,3,4,5,6,7,8,9,10]
 |_=>List.replicate 401 0
theorem ahA:dG (iU (chB 1 10).b (4 - 0))=Hf 0:=by decide +kernel
theorem ahB:dG (iU (chB 1 10).b (4 - 1))=Hf 1:=by decide +kernel
theorem ahC:dG (iU (chB 1 10).b (4 - 2))=Hf 2:=by decide +kernel
theorem ahD:dG (iU (chB 1 10).b (4 - 3))=Hf 3:=by decide +kernel
theorem ahE:dG (iU (chB 1 10).b (4 - 4))=Hf 4:=by decide +kernel
theorem Uy {sn:Nat} (h:sn≤4):dG (iU (chB 1 10).b (4 - sn))=Hf sn:=by
 match sn,h with
 |0,_=>exact ahA
 |1,_=>exact ahB
 |2,_=>exact ahC
 |3,_=>exact ahD
 |4,_=>exact ahE
def Lh:Nat→List Int
 |0=>rowP 189 [19,18,17,16,15,14,13,12,11,10,9,10,11,12,13,14,15,16,17,18,19,22,25]
 |1=>rowP 185 [33,30,27,24,21,18,15,12,9,6,3,2,3,6,9,12,15,18,21,24,27,30,33]
 |2=>rowP 184 [14,13,12,11,10,9,8,7,6,5,4,3,2,3,4,5,6,7,8,9,10,11,12]
 |3=>rowP 188 [10,9,8,7,6,5,4,3,2,1,0,0,0,1,2,3,4,5,6,7,8,9,10]
 |_=>List.replicate 401 0
theorem ahF:dG (iU (chB 3 10).b (4 - 0))=Lh 0:=by decide +kernel
theorem ahG:dG (iU (chB 3 10).b (4 - 1))=Lh 1:=by decide +kernel
theorem ahH:dG (iU (chB 3 10).b (4 - 2))=Lh 2:=by decide +kernel
theorem ahI:dG (iU (chB 3 10).b (4 - 3))=Lh 3:=by decide +kernel
theorem ahJ:dG (iU (chB 3 10).b (4 - 4))=Lh 4:=by decide +kernel
theorem adv {sn:Nat} (h:sn≤4):dG (iU (chB 3 10).b (4 - sn))=Lh sn:=by
 match sn,h with
 |0,_=>exact ahF
 |1,_=>exact ahG
 |2,_=>exact ahH
 |3,_=>exact ahI
 |4,_=>exact ahJ
def Lj:Nat→List Int
 |0=>rowP 0 []
 |1=>rowP 0 []
 |2=>rowP 0 []
 |3=>rowP 197 [1,0,0,0,1]
 |_=>List.replicate 401 0
theorem ahK:dG (iU (chB 1 1).b (4 - 0))=Lj 0:=by decide +kernel
theorem ahL:dG (iU (chB 1 1).b (4 - 1))=Lj 1:=by decide +kernel
theorem ahM:dG (iU (chB 1 1).b (4 - 2))=Lj 2:=by decide +kernel
theorem ahN:dG (iU (chB 1 1).b (4 - 3))=Lj 3:=by decide +kernel
theorem ahO:dG (iU (chB 1 1).b (4 - 4))=Lj 4:=by decide +kernel
theorem adw {sn:Nat} (h:sn≤4):dG (iU (chB 1 1).b (4 - sn))=Lj sn:=by
 match sn,h with
 |0,_=>exact ahK
 |1,_=>exact ahL
 |2,_=>exact ahM
 |3,_=>exact ahN
 |4,_=>exact ahO
def Hg:Nat→List Int
 |0=>rowP 200 [0]
 |1=>rowP 199 [1,0,1]
 |2=>rowP 195 [5,4,3]
 |3=>rowP 194 [6,5,4]
 |_=>rowP 198 [6,7,8]
theorem adx {sn:Nat} (h:sn≤4):dG (iy (chB 1 10).b sn)=dG fun x=>(chB 1 10).b.ct sn ((x:Int) - 200) :=
 qw fun x hx=>Qq (lI oD oD).ok (fun i hi=>((lI oD oD).tube hi).1) sn h x hx
theorem ahP:(dG fun x=>(chB 1 10).b.ct 0 ((x:Int) - 200))=Hg 0:=by decide +kernel
theorem ahQ:(dG fun x=>(chB 1 10).b.ct 1 ((x:Int) - 200))=Hg 1:=by decide +kernel
theorem ahR:(dG fun x=>(chB 1 10).b.ct 2 ((x:Int) - 200))=Hg 2:=by decide +kernel
theorem ahS:(dG fun x=>(chB 1 10).b.ct 3 ((x:Int) - 200))=Hg 3:=by decide +kernel
theorem ahT:(dG fun x=>(chB 1 10).b.ct 4 ((x:Int) - 200))=Hg 4:=by decide +kernel
theorem Uz {sn:Nat} (h:sn≤4):dG (iy (chB 1 10).b sn)=Hg sn:=by
 rw [adx h]
 match sn,h with
 |0,_=>exact ahP
 |1,_=>exact ahQ
 |2,_=>exact ahR
 |3,_=>exact ahS
 |4,_=>exact ahT
def zG (B:Bld) (σ:Heap) (nb:Nat):Option ((Nat×Nat)×(Nat×Nat)):=((σ[nb]?).bind sW).bind fun cs=>match cs with
 |[vS,_,vT]=>(ru vS).bind fun x=>(ru vT).bind fun y =>
   bQ (Ag (B.cs x.1 x.2.2.2 y.1 y.2.2.2) cs && (List.range B.n).all (fun i=>Qs σ x.1 (i*4) 4 [.int .i64 (B.ang i),.int .i64 (B.tlo i),.int .i64 (B.thi i),.int .i64 (B.hard i)]) &&
    (List.range (B.n+1)).all (fun i=>Qs σ y.1 (i*2) 2 [.int .i64 (B.tu i).1,.int .i64 (B.tu i).2])) (some ((x.1,x.2.2.2),(y.1,y.2.2.2)))
 |_=>none
theorem wK {B:Bld} {σ:Heap} {nb:Nat} {x:(Nat×Nat)×(Nat×Nat)} (h:zG B σ nb=some x):kZ σ B nb x.1.1 x.1.2 x.2.1 x.2.2:=by
 unfold zG at h
 simp only [aL] at h
 obtain ⟨cs,⟨o,h0,h1⟩,h2⟩:=h
 split at h2
 ·simp only [aL,aN,aE] at h2
  obtain ⟨x',h3,y',h4,⟨⟨g1,g2⟩,g3⟩,a⟩:=h2
  cases a
  have e:=pG g1
  rw [oL h1,← e] at h0
  exact ⟨h0,fun i hi=>BH (qN g2 i hi),fun i hi=>BH (qN g3 i oO)⟩
 ·cases h2
def Ll (B:Bld) (σ:Heap) (v:Value):Option (Nat×Nat):=(asAgg v).bind fun l=>match l with
 |[vS,_]=>(ru vS).bind fun x =>
   bQ (Ag [.slice (some ⟨x.1,0,none⟩) B.n x.2.2.2,.int .i64 B.most] l && (List.range B.n).all (fun i=>Qs σ x.1 (i*4) 4 [.int .i64 (B.ang i),.int .i64 (B.tlo i),.int .i64 (B.thi i),.int .i64 (B.hard i)])) (some (x.1,x.2.2.2))
 |_=>none
theorem UA {B:Bld} {σ:Heap} {v:Value} {x:Nat×Nat} (h:Ll B σ v=some x):v=.agg #[.s x.1 B.n x.2,.i B.most]∧L8 σ B x.1:=by
 unfold Ll at h
 simp only [aL] at h
 obtain ⟨l,h1,h2⟩:=h
 split at h2
 ·simp only [aL,aN,aE] at h2
  obtain ⟨x',h3,⟨g1,g2⟩,a⟩:=h2
  cases a
  have e:=pG g1
  exact ⟨by rw [mD h1,← e],⟨fun i hi=>BH (qN g2 i hi)⟩⟩
 ·cases h2
def tuL:List Value:=[.int .i64 0,.int .i64 0,.int .i64 (-1),.int .i64 1,.int .i64 (-5),.int .i64 (-3),.int .i64 (-6),.int .i64 (-4),.int .i64 (-2),.int .i64 0]
theorem ahU (h m:Int):rgC (chB h m).tu ((chB h m).n+1)=tuL:=by
 simp [rgC,chB,Bld.tu,Bld.b,tuL]
def UC (m:Int) (σ:Heap) (x:Nat×Nat):Res:=some (.pointer (some ⟨σ.length,0,none⟩),σ++[.rw [.slice (some ⟨x.1,0,none⟩) 4 x.2,.int .i64 m,.slice (some ⟨σ.length+1,0,none⟩) 5 5],.rw tuL],σ.length)
def chX:List Int:=[-1,-3,0,2]
theorem ahV:mP 4 ((chB 1 10).b.pull (gi chX))=[0,0,-2,1]:=by decide +kernel
theorem ady:He ((numsL (-200) 401).filter fun x=>decide ((chB 1 10).b.ct 2 x<nev) && decide (iU (chB 1 10).b (4 - 2) (x+200).toNat<nev))=.tuple #[.agg #[.i (-5),.i (-3)],.i 0]:=by
 have h:((numsL (-200) 401).filter fun x=>decide ((chB 1 10).b.ct 2 x<nev) && decide (iU (chB 1 10).b (4 - 2) (x+200).toNat<nev))=[-5,-4,-3]:=by decide +kernel
 rw [h];rfl
theorem afj:He ((numsL (-200) 401).filter fun x=>decide (iy (chB 1 10).b (1+1) (x+200).toNat<nev) && decide (iU (chB 1 10).b (4 - (1+1)) (x+200).toNat<nev))=.tuple #[.agg #[.i (-5),.i (-3)],.i 0]:=by
 refine Eq.trans (congrArg He (List.filter_congr fun x hx=>?_)) ady
 unfold numsL at hx
 obtain ⟨j,hj,rfl⟩:=List.mem_map.1 hx
 have hj:=List.mem_range.1 hj
 rw [Qq (lI (h:=1) (m:=10) oD oD).ok (fun i hi=>((lI (h:=1) (m:=10) oD oD).tube hi).1) (1+1) (show 1+1≤4 by omega) _ oO,show (((-200+(j:Nat)+200:Int).toNat:Nat):Int) - 200=-200+(j:Nat) by omega]
def chLo (i:Nat):Int:=match i with|0=>-1|1=>-5|2=>-6|_=>-2
def chHi (i:Nat):Int:=match i with|0=>1|1=>-3|2=>-4|_=>0
theorem YH {h m:Int} {i:Nat} (hi:i<4):(chB h m).b.lo i=chLo i∧(chB h m).b.hi i=chHi i:=by
 match i,hi with
 |0,_=>exact ⟨rfl,rfl⟩
 |1,_=>exact ⟨rfl,rfl⟩
 |2,_=>exact ⟨rfl,rfl⟩
 |3,_=>exact ⟨rfl,rfl⟩
def adz (σ:Heap) (p:Nat×Nat) (u:Value):Res:=bQ (Nat.beq p.2 0 && isI u && decide (0≤pV u) && decide (pV u<4)) ((zG (chB 1 10) σ p.1).bind fun _ =>
 some (.func (.func 283) #[] #[.pointer (some ⟨σ.length+4,0,none⟩),.pointer (some ⟨σ.length+1,0,none⟩),.pointer (some ⟨σ.length+2,0,none⟩),.pointer (some ⟨σ.length+3,0,none⟩),.pointer (some ⟨σ.length,0,none⟩)],
  σ++[.rw [u],.rw (ints (Hg (pV u).toNat)),.rw (ints (Hf ((pV u).toNat+1))),.rw [.func (.func 180) #[.pointer (some ⟨p.1,0,none⟩)] #[]],.rw [.int .i64 (chLo (pV u).toNat),.int .i64 (chHi (pV u).toNat)]],σ.length))
theorem YI:EF (chB 1 10)=[.rw [.i (-1),.i (-3),.i 0,.i 2]]∧∀ l,ED (chB 1 10) l=.tuple #[.s l 4 4,.i 6]:=by
 have h1:(chB 1 10).b.vt (chB 1 10).n 0=6:=by decide +kernel
 have h2:mP (chB 1 10).n (chB 1 10).b.blow=[-1,-3,0,2]:=by decide +kernel
 unfold EF ED
 rw [h1,h2]
 exact ⟨if_pos oD,fun l=>if_pos oD⟩
theorem YJ:EF (chB 3 10)=[.rw [.i (-1),.i (-2),.i (-1),.i 2]]∧∀ l,ED (chB 3 10) l=.tuple #[.s l 4 4,.i 10]:=by
 have h1:(chB 3 10).b.vt (chB 3 10).n 0=10:=by decide +kernel
 have h2:mP (chB 3 10).n (chB 3 10).b.blow=[-1,-2,-1,2]:=by decide +kernel
 unfold EF ED
 rw [h1,h2]
 exact ⟨if_pos oD,fun l=>if_pos oD⟩
theorem YK:EF (chB 1 1)=[]∧∀ l,ED (chB 1 1) l=.tuple #[.slice none 0 0,.i 1099511627776]:=by
 have h1:(chB 1 1).b.vt (chB 1 1).n 0=nev:=by decide +kernel
 unfold EF ED
 rw [h1]
 exact ⟨if_neg oD,fun l=>if_neg oD⟩
def cbestF (σ:Heap) (p:Nat×Nat):Res:=bQ (Nat.beq p.2 0 && niB σ) (match zG (chB 1 10) σ p.1 with
 |some _=>some (.tuple #[.slice (some ⟨σ.length,0,none⟩) 4 4,.int .i64 6],σ++[.rw [.int .i64 (-1),.int .i64 (-3),.int .i64 0,.int .i64 2]],σ.length)
 |none=>match zG (chB 3 10) σ p.1 with
  |some _=>some (.tuple #[.slice (some ⟨σ.length,0,none⟩) 4 4,.int .i64 10],σ++[.rw [.int .i64 (-1),.int .i64 (-2),.int .i64 (-1),.int .i64 2]],σ.length)
  |none=>(zG (chB 1 1) σ p.1).bind fun _=>iJ (.tuple #[.slice none 0 0,.int .i64 1099511627776]) σ)
def adA (σ:Heap) (p:Nat×Nat) (u:Value):Res:=(ru u).bind fun q=>bQ (Nat.beq p.2 0 && Nat.beq q.2.1 0 && Nat.beq q.2.2.1 4 && Qs σ q.1 0 4 (ints chX)) ((zG (chB 1 10) σ p.1).bind fun _=>some (.slice (some ⟨σ.length,0,none⟩) 4 4,σ++[.rw [.int .i64 0,.int .i64 0,.int .i64 (-2),.int .i64 1]],σ.length))
def YL (f:Nat) (args:List Value) (σ:Heap):Res:=match args with
 |[v,u]=>bif Nat.beq f 242 then (qG v).bind fun p=>adz σ p u
  else bif Nat.beq f 87 then (qG v).bind fun p=>adA σ p u
  else bif Nat.beq f 53 then (Ll (chB 1 10) σ v).bind fun _=>bQ (niB σ && eqV u (.int .i64 1)) (iJ (.tuple #[.agg #[.int .i64 (-5),.int .i64 (-3)],.int .i64 0]) σ)
  else (qG v).bind fun p=>bQ (Nat.beq p.2 0 && isI u && decide (0≤pV u) && decide (pV u≤4))
   (bif Nat.beq f 112 then (match zG (chB 1 10) σ p.1 with
     |some _=>iJ (.agg (ints (Hf (pV u).toNat)).toArray) σ
     |none=>match zG (chB 3 10) σ p.1 with
      |some _=>iJ (.agg (ints (Lh (pV u).toNat)).toArray) σ
      |none=>(zG (chB 1 1) σ p.1).bind fun _=>iJ (.agg (ints (Lj (pV u).toNat)).toArray) σ)
    else bif Nat.beq f 111 then (zG (chB 1 10) σ p.1).bind fun _=>iJ (.agg (ints (Hg (pV u).toNat)).toArray) σ
    else none)
 |[v]=>bif Nat.beq f 175 then (match Ll (chB 1 10) σ v with
   |some x=>UC 10 σ x
   |none=>match Ll (chB 3 10) σ v with
    |some x=>UC 10 σ x
    |none=>(Ll (chB 1 1) σ v).bind fun x=>UC 1 σ x)
  else bif Nat.beq f 86 then (qG v).bind fun p=>cbestF σ p
  else bif Nat.beq f 114 then some (.slice (some ⟨σ.length,0,none⟩) 401 401,σ++[.rw (ints (numsL (-200) 401))],σ.length)
  else none
 |_=>none
end Go.AH.Warp
namespace Go.Proofs.YtajpgeklmcjciaaGreat
open Go Go.AH Go.AH.Heat Go.AH.Warp
theorem W9 {h m:Int} {T:Nat→List Int} (hv:xK (chB h m)) (hT:∀ {sn:Nat},sn≤4→dG (iU (chB h m).b (4 - sn))=T sn) {σ:Heap} {nb:Nat} {x:(Nat×Nat)×(Nat×Nat)} (hb:zG (chB h m) σ nb=some x) {u:Value} (h1:isI u=true) (h2:0≤pV u) (h3:pV u≤4) :
  Ev Tryz.prog 112 [.p nb,u] σ (.agg (ints (T (pV u).toNat)).toArray) σ:=by
 have e:u=.i ((pV u).toNat:Nat):=(Qu h1).trans (congrArg (Value.int .i64) oO)
 have hs:(pV u).toNat≤4:=oO
 have:=IK hv (wK hb) (sn:=(pV u).toNat) hs
 rw [show (chB h m).n - (pV u).toNat=4 - (pV u).toNat from rfl,hT hs,← e] at this
 exact this
theorem adB {a m:Int} (hv:xK (chB a m)) {σ:Heap} {v:Value} {x:Nat×Nat} (hb:Ll (chB a m) σ v=some x) {r:Value×Heap×Nat} (h:UC m σ x=some r):Ev Tryz.prog 175 [v] σ r.1 r.2.1∧Keep r.2.2 σ r.2.1:=by
 unfold UC at h
 cases h
 obtain ⟨h1,h2⟩:=UA hb
 rw [h1]
 have:=G9 (cS:=x.2) hv h2
 rw [ahU] at this
 exact ⟨this,Keep.app⟩
theorem ahW {σ:Heap} {p:Nat×Nat} {u:Value} {r:Value×Heap×Nat} (h:adz σ p u=some r):Ev Tryz.prog 242 [.pointer (some ⟨p.1,p.2,none⟩),u] σ r.1 r.2.1∧Keep r.2.2 σ r.2.1:=by
 unfold adz at h
 simp only [aL,aN,aE,decide_eq_true_eq] at h
 obtain ⟨⟨⟨⟨h1,h2⟩,h3⟩,h4⟩,x,h5,h6⟩:=h
 cases h6
 have h1:=aM h1
 have e:u=.int .i64 ((pV u).toNat:Nat):=(Qu h2).trans (congrArg (Value.int .i64) oO)
 have hi:(pV u).toNat<4:=oO
 have:=afi (lI (h:=1) (m:=10) oD oD) (wK h5) (i:=(pV u).toNat) hi
 unfold adu at this
 simp only [Value.i] at this
 rw [Uz oO,show (chB 1 10).n - ((pV u).toNat+1)=4 - ((pV u).toNat+1) from rfl,Uy oO,(YH hi).1,(YH hi).2,← e] at this
 rw [h1]
 exact ⟨this,Keep.app⟩
theorem ahX {σ:Heap} {p:Nat×Nat} {r:Value×Heap×Nat} (h:cbestF σ p=some r):Ev Tryz.prog 86 [.pointer (some ⟨p.1,p.2,none⟩)] σ r.1 r.2.1∧Keep r.2.2 σ r.2.1:=by
 unfold cbestF at h
 simp only [aN,aE] at h
 obtain ⟨⟨h1,h2⟩,h3⟩:=h
 have h1:=aM h1
 rw [h1]
 split at h3
 ·rename_i x hx
  cases h3
  have:=Qz (lI (h:=1) (m:=10) oD oD) (wK hx) h2
  rw [YI.1,YI.2] at this
  exact ⟨this,Keep.app⟩
 ·split at h3
  ·rename_i x hx
   cases h3
   have:=Qz (lI (h:=3) (m:=10) oD oD) (wK hx) h2
   rw [YJ.1,YJ.2] at this
   exact ⟨this,Keep.app⟩
  ·simp only [aL] at h3
   obtain ⟨x,hx,h4⟩:=h3
   cases nP h4
   have:=Qz (lI (h:=1) (m:=1) oD oD) (wK hx) h2
   rw [YK.1,YK.2,bL] at this
   exact ⟨this,Keep.refl⟩
theorem afk {σ:Heap} {p:Nat×Nat} {u:Value} {r:Value×Heap×Nat} (h:adA σ p u=some r):Ev Tryz.prog 87 [.pointer (some ⟨p.1,p.2,none⟩),u] σ r.1 r.2.1∧Keep r.2.2 σ r.2.1:=by
 unfold adA at h
 simp only [aL,aN,aE] at h
 obtain ⟨q,h1,⟨⟨⟨h2,h3⟩,h4⟩,h5⟩,x,h6,h7⟩:=h
 cases h7
 have h2:=aM h2
 have h3:=aM h3
 have h4:=aM h4
 have hc:=BH h5
 have hv:=lI (h:=1) (m:=10) oD oD
 have:=adq (c:=q.2.2.2) (xb:=q.1) (d:=gi chX) hv (wK h6) (fun i hi=>by
  have:=fQ (k:=i) hc (by have:i<4:=hi;omega)
  rw [bA] at this
  rw [this]
  have hi:i<4:=hi
  match i,hi with
  |0,_=>rfl
  |1,_=>rfl
  |2,_=>rfl
  |3,_=>rfl) (dJ hc) (fun i hi=>by
  have hi:i<4:=hi
  match i,hi with
  |0,_=>exact oD
  |1,_=>exact oD
  |2,_=>exact oD
  |3,_=>exact oD)
 rw [kY h1,h2,h3,h4]
 rw [show (chB 1 10).n=4 from rfl,ahV] at this
 exact ⟨this,Keep.app⟩
def agq:jk:=YL
theorem adC:iK Tryz.prog agq:=by
 intro f c σ r h0
 have h:YL f c σ=some r:=h0
 clear h0
 revert h
 match c with
 |[v,u] =>
  intro h
  unfold YL at h
  cases hf:Nat.beq f 242 with
  |true =>
   rw [hf] at h
   have a:=aM hf
   subst a
   simp only [cond_true,aL] at h
   obtain ⟨p,h1,h2⟩:=h
   rw [jD h1]
   exact ahW h2
  |false =>
  rw [hf] at h
  simp only [cond_false] at h
  clear hf
  cases hf:Nat.beq f 87 with
  |true =>
   rw [hf] at h
   have a:=aM hf
   subst a
   simp only [cond_true,aL] at h
   obtain ⟨p,h1,h2⟩:=h
   rw [jD h1]
   exact afk h2
  |false =>
  rw [hf] at h
  simp only [cond_false] at h
  clear hf
  cases hf:Nat.beq f 53 with
  |true =>
   rw [hf] at h
   have a:=aM hf
   subst a
   simp only [cond_true,aL,aN,aE] at h
   obtain ⟨x,h1,⟨h2,h3⟩,h4⟩:=h
   cases nP h4
   obtain ⟨h5,h6⟩:=UA h1
   rw [h5,VP h3]
   have:=aah (i:=1) (cS:=x.2) (lI (h:=1) (m:=10) oD oD) h6 (show 1<4 by omega) h2
   rw [show (chB 1 10).n - (1+1)=4 - (1+1) from rfl,afj] at this
   exact ⟨this,Keep.refl⟩
  |false =>
  rw [hf] at h
  simp only [cond_false] at h
  clear hf
  simp only [aL,aN,aE,decide_eq_true_eq] at h
  obtain ⟨p,h1,⟨⟨⟨h2,h3⟩,h4⟩,h5⟩,h6⟩:=h
  have h2:=aM h2
  rw [jD h1,h2]
  cases hf:Nat.beq f 112 with
  |true =>
   rw [hf] at h6
   have a:=aM hf
   subst a
   simp only [cond_true] at h6
   split at h6
   ·rename_i x hx
    cases nP h6
    exact ⟨W9 (lI oD oD) Uy hx h3 h4 h5,Keep.refl⟩
   ·split at h6
    ·rename_i x hx
     cases nP h6
     exact ⟨W9 (lI oD oD) adv hx h3 h4 h5,Keep.refl⟩
    ·simp only [aL] at h6
     obtain ⟨x,hx,h7⟩:=h6
     cases nP h7
     exact ⟨W9 (lI oD oD) adw hx h3 h4 h5,Keep.refl⟩
  |false =>
   rw [hf] at h6
   simp only [cond_false] at h6
   clear hf
   cases hf:Nat.beq f 111 with
   |false=>rw [hf] at h6;cases h6
   |true =>
    rw [hf] at h6
    have a:=aM hf
    subst a
    simp only [cond_true,aL] at h6
    obtain ⟨x,hx,h7⟩:=h6
    cases nP h7
    have hs:(pV u).toNat≤4:=oO
    have:=Qp (lI (h:=1) (m:=10) oD oD) (wK hx) (sn:=(pV u).toNat) hs
    rw [Uz hs] at this
    have e:u=.i ((pV u).toNat:Nat):=(Qu h3).trans (congrArg (Value.int .i64) oO)
    rw [← e] at this
    exact ⟨this,Keep.refl⟩
 |[v] =>
  intro h
  unfold YL at h
  dsimp only at h
  cases hf:Nat.beq f 175 with
  |false =>
   rw [hf] at h
   simp only [cond_false] at h
   clear hf
   cases hf:Nat.beq f 86 with
   |true =>
    rw [hf] at h
    have a:=aM hf
    subst a
    simp only [cond_true,aL] at h
    obtain ⟨p,h1,h2⟩:=h
    rw [jD h1]
    exact ahX h2
   |false =>
   rw [hf] at h
   simp only [cond_false] at h
   clear hf
   cases hf:Nat.beq f 114 with
   |false=>rw [hf] at h;cases h
   |true =>
    rw [hf] at h
    have a:=aM hf
    subst a
    cases h
    exact ⟨ac7,Keep.app⟩
  |true =>
   rw [hf] at h
   have a:=aM hf
   subst a
   simp only [cond_true] at h
   split at h
   ·rename_i x hx
    exact adB (lI oD oD) hx h
   ·split at h
    ·rename_i x hx
     exact adB (lI oD oD) hx h
    ·simp only [aL] at h
     obtain ⟨x,hx,h7⟩:=h
     exact adB (lI oD oD) hx h7
 |[]=>intro h;cases h
 |_::_::_::_=>intro h;cases h
def ahY:Known:=⟨66,[],[],.bool true,[]⟩
theorem aam:jy Tryz.prog ahY:=⟨lU (orc:=agq) tabOk adC mixed (n:=400) (lo:=0) oK,oK,oK⟩
open Go Go.AH
attribute [local irreducible] bZ bK bM jB gy dO fC bW eU aX dV eH
open Go.AH.Heat
theorem QA {A B:Prop} (k:B) (h:Hide B→A:=by intro h_k_;(repeat' (first|refine sCm ?_|(refine gU ?_;first|refine Hu ?_|refine sK0 ?_|(refine nN ?_;first|refine st (jr rfl rfl) rfl rfl ?_|refine st (jv rfl rfl) rfl rfl ?_))|(refine gG ?_;first|refine JU ?_|(refine bV ?_;refine pI rfl (aK rfl (by rfl)) rfl rfl ?_)|refine sK9 ?_|refine SN rfl rfl ?_)|refine aG ?_));exact h_k_.h):A:=h ⟨k⟩
theorem Xa (lo hi:Int):Ev Tryz.prog 101 [.agg #[.i lo,.i hi]] [] (.bool (decide (0≤lo∧lo≤hi∧hi≤1000))) []:=by
 refine aI 0 18 Tryz.func101 rfl rfl rfl rfl rfl ?_
 by_cases h1:lo≥0
 ·by_cases h2:lo≤hi
  ·by_cases h3:hi≤1000
   ·refine QA ?_
    refine dK (.tmp rfl .nil) (.plain rfl rfl) ⟨?_,rfl⟩
    simp [jY,h1,h2,h3]
   ·refine QA ?_
    refine dK (.tmp rfl .nil) (.plain rfl rfl) ⟨?_,rfl⟩
    simp [jY,h1,h2,h3]
  ·refine QA ?_
   refine dK (.tmp rfl .nil) (.plain rfl rfl) ⟨?_,rfl⟩
   simp [jY,h2]
 ·refine QA ?_
  refine dK (.tmp rfl .nil) (.plain rfl rfl) ⟨?_,rfl⟩
  simp only [jY,Value.bool.injEq]
  rw [eq_comm,decide_eq_false_iff_not];omega
theorem Lm {σ:Heap} {lo hi:Int} (hni:σ.all (fun o=>!aU o)=true):Ev Tryz.prog 101 [.agg #[.i lo,.i hi]] σ (.bool (decide (0≤lo∧lo≤hi∧hi≤1000))) σ:=Ev.nil (Xa lo hi) rfl rfl hni
theorem zq {A B:Prop} (k:B) (h:Hide B→A:=by intro h_k_;(repeat' (first|refine sCm ?_|(refine gU ?_;first|(refine bV ?_;first|refine st (aK rfl (by first|exact ig rfl|exact aF a0|exact aF a1|exact aF a2)) rfl rfl ?_|refine st (bD rfl (by assumption)) rfl rfl ?_)|refine sK0 ?_|refine PG ?_|refine sK3 ?_|refine JV ?_)|(refine gG ?_;first|refine JU ?_|(refine bV ?_;refine pI rfl (aK rfl (by first|exact ig rfl|exact aF a1|exact aF a2)) rfl rfl ?_)|(refine ES ?_;refine pI rfl (vJ rfl rfl (by omega) (by omega)) rfl rfl ?_)|refine sK9 ?_|refine LQ ?_)|(refine fU ?_;first|refine frA (aK rfl (aF (aA a0))) rfl ?_ (hcs (by assumption))|refine frA (aZ rfl) rfl ?_ (hcl (by assumption))|refine frA (iV rfl rfl (by omega)) rfl ?_ (hcl (by assumption))|refine frA (bD rfl (by exact hq1 _)) rfl ?_ rfl|refine frA (bD rfl (by exact hq2 _)) rfl ?_ rfl|refine frA (ny rfl rfl (by omega) (by omega)) rfl ?_ (hcl (by assumption))|refine JQ ?_|(refine fSub ?_;refine frA (yK rfl rfl (by omega) (by omega)) rfl ?_)|(refine EW ?_;refine frA (jm rfl rfl rfl) rfl ?_)|(refine DK ?_;first|refine frA (jr rfl rfl) rfl ?_|refine frA (jv rfl rfl) rfl ?_)|(refine zV ?_;refine Chain.fr1A (kC rfl) rfl rfl rfl ?_))|(refine fG ?_;first|refine frG (rfl) (by first|rfl|exact eX (by assumption)|exact cZ (by assumption)) (aK rfl (aF (aA a0))) (hcs (by assumption)) rfl ?_|refine frG (rfl) (by first|rfl|exact eX (by assumption)|exact cZ (by assumption)) (aZ rfl) (hcl (by assumption)) rfl ?_|refine frG (rfl) (by first|rfl|exact eX (by assumption)|exact cZ (by assumption)) (aK rfl (by exact hq3 _)) (rfl) rfl ?_|refine frG (rfl) (by first|rfl|exact eX (by assumption)|exact cZ (by assumption)) (aK rfl (by exact hq4 _)) (rfl) rfl ?_|refine frG (rfl) (by first|rfl|exact eX (by assumption)|exact cZ (by assumption)) (bD rfl (by exact hq5 _)) (rfl) rfl ?_|refine frG (rfl) (by first|rfl|exact eX (by assumption)|exact cZ (by assumption)) (ny rfl rfl (by omega) (by omega)) (hcl (by assumption)) rfl ?_|(refine qX ?_;refine pW rfl (eP rfl) rfl ?_)|(refine fSub ?_;refine pW rfl (yK rfl rfl (by omega) (by omega)) rfl ?_)|(refine EW ?_;refine pW rfl (jm rfl rfl rfl) rfl ?_)|(refine DK ?_;first|refine pW rfl (jr rfl rfl) rfl ?_|refine pW rfl (jv rfl rfl) rfl ?_)|(refine ad7 ?_;refine pW rfl (kW rfl) rfl ?_)|(refine qF ?_;refine pW rfl (bG rfl rfl rfl (by exact hf1 _ rfl)) rfl ?_)|refine abY rfl rfl ?_)|(refine fP ⟨by kernel_rfl,?_⟩)|refine dB (id:=7) ?_|refine dB (id:=12) ?_|refine dB (id:=13) ?_|refine aG ?_|refine Chain.Wh ?_|refine Chain.wZ 13 [true,true] [.i (kf (x - 1)).2.1,.i (kf (x - 1)).2.2] (by kernel_rfl) (by kernel_rfl) (by kernel_rfl) (by kernel_rfl) rfl rfl (bU rfl rfl rfl rfl (by exact hp1)) ?_|refine Chain.wZ 14 [true,true] [.i (kf x).2.1,.i (kf x).2.2] (by kernel_rfl) (by kernel_rfl) (by kernel_rfl) (by kernel_rfl) rfl rfl (bU rfl rfl rfl rfl (by exact hp2)) ?_|refine dZ rfl ?_|refine eu rfl ?_));exact h_k_.h):A:=h ⟨k⟩
theorem aan {σ:Heap} {b n c:Nat} {kf:Nat→Int×Int×Int} (hv:ZT n kf) (hk:∀ q<n,aJ σ b (q*3) 3=some (jh (kf q))) (hni:σ.all (fun o=>!aU o)=true) :
  Ev Tryz.prog 43 [.agg #[.s b n c]] σ (.i 0) σ:=by
 have t:=hv.n1
 have hn2:=hv.n2
 have hbl:b < σ.length:=dJ (hk 0 t)
 refine aI σ.length 104 Tryz.func43 rfl rfl rfl rfl rfl ?_
 have a0:(σ++[aB.rw [.s b n c]])[σ.length]?=some (.rw [.s b n c]):=aO
 have hn0:¬ (n:Int)<1:=oO
 have hn3:¬ (n:Int) > 12:=oO
 refine zq ?_
 refine dS (ι:=Nat) (fun k=>[(1,.p σ.length),(3,.i (k:Nat))])
  (fun k mk H=>k≤n∧mk=[]∧H.take (σ++[aB.rw [.s b n c]]).length=σ++[aB.rw [.s b n c]]∧H.all (fun o=>!aU o)=true) (fun k=>n - k) 0 tE ⟨bN _,rfl,eZ,bF hni rfl⟩ ?_
 clear a0
 rintro k mk H ⟨hkn,rfl,hp,g⟩
 have a:H.take σ.length=σ:=by
  have:=congrArg (List.take σ.length) hp
  rw [eJ] at this
  simpa using this
 have a0:H[σ.length]?=some (.rw [.s b n c]):=by rw [iY hp oS];exact aO
 by_cases j:k<n
 ·have C:(k:Int)<(n:Nat):=oO
  have hd1:aJ H b (0+k*3) 3=some (jh (kf k)):=by rw [bA];exact fH a (hk k j)
  have m:=hv.k k j
  have F:0≤(kf k).2.1∧(kf k).2.1≤(kf k).2.2∧(kf k).2.2≤1000:=m.2.2.1
  refine zq ?_
  obtain ⟨H1,d⟩:∃ H1,H1=H++[aB.rw (jh (kf k))]:=⟨_,rfl⟩
  refine .mk (dH [(1,.p σ.length),(3,.i (k:Nat)),(4,.p H.length)] H1 d.symm tE ?_)
  have G:=take_len a
  have hH1l:H1.length=H.length+1:=by rw [d];simp
  have v:b<H1.length:=oO
  have E:σ.length<H1.length:=by have:=aQ a0;omega
  have hs2:H.length<H1.length:=oO
  have hcl:∀ {q o:Nat},q<H1.length→closed H1.length (.pointer (some ⟨q,o,none⟩))=true:=fun {q o} h=>(show Nat.blt q H1.length=true from Nat.blt_eq.mpr h)
  have hcs:∀ {q o n c:Nat},q<H1.length→closed H1.length (.slice (some ⟨q,o,none⟩) n c)=true:=fun h=>bP (Nat.blt_eq.mpr h)
  have b4:H1[H.length]?=some (.rw (jh (kf k))):=by rw [d];exact aO
  replace a0:H1[σ.length]?=some (.rw [.s b n c]):=by rw [d];exact aA a0
  have hp1:H1.take (σ++[aB.rw [.s b n c]]).length=σ++[aB.rw [.s b n c]]:=by rw [d];exact aT hp
  have e:H1.all (fun o=>!aU o)=true:=by rw [d];exact bF g rfl
  have D:H1.take σ.length=σ:=by rw [d];exact aT a
  have hq3:∀ X,aH (H1++X) H.length 0=some (.i (kf k).1):=fun X=>aF (aA b4)
  have hq5:∀ X,aJ (H1++X) H.length 1 2=some [.i (kf k).2.1,.i (kf k).2.2]:=fun X=>by
   unfold aJ;rw [aA b4];rfl
  have hf1:∀ X,X.all (fun o=>!aU o)=true→Ev Tryz.prog 101 [.agg #[.i (kf k).2.1,.i (kf k).2.2]] (H1++X) (.bool true) (H1++X):=fun X hX=>by
   have:=Lm (σ:=H1++X) (lo:=(kf k).2.1) (hi:=(kf k).2.2) (bF e hX)
   rwa [decide_eq_true F] at this
  have hg1:¬ (kf k).1 > 1000:=oO
  clear hd1 d
  by_cases y:k=0
  ·subst y
   have hz:=hv.z
   refine fA oK rfl (?_)
   refine zq ?_
   rw [show H1++gJ (fun _=>true) []=H1 from bL H1]
   exact ⟨0+1,⟨oO,rfl,hp1,e⟩,oO,tE⟩
  ·obtain ⟨k',rfl⟩:∃ k',k=k'+1:=⟨k - 1,oO⟩
   have hlt:=(hv.k k' oO).2.2.2 j
   have hg0:((k'+1:Nat):Int) > 0:=oO
   have hle:¬ (kf (k'+1)).1≤(kf k').1:=oO
   have hq4:∀ X,aH (H1++X) b (0+(((k'+1:Nat):Int) - 1).toNat*3+0)=some (.i (kf k').1):=fun X=>by
    rw [show 0+(((k'+1:Nat):Int) - 1).toNat*3+0=k'*3+0 by omega]
    exact fQ (k:=0) (fH (aT D) (hk k' oO)) oO
   refine fA oK rfl (?_)
   refine zq ?_
   rw [show H1++gJ (fun _=>true) []=H1 from bL H1]
   exact ⟨k'+1+1,⟨oO,rfl,hp1,e⟩,oO,tE⟩
 ·obtain rfl:k=n:=oO
  have C:¬ (k:Int)<(k:Nat):=oO
  refine zq ?_
  refine dS (ι:=Nat) (fun x=>[(1,.p σ.length),(5,.i (x:Nat))])
   (fun x mk H=>1≤x∧x≤k∧mk=[]∧H.take (σ++[aB.rw [.s b k c]]).length=σ++[aB.rw [.s b k c]]) (fun x=>k - x) 1 tE ⟨aD _,t,rfl,hp⟩ ?_
  clear a0 a hp g H
  rintro x mk H ⟨hx1,hx,rfl,hp⟩
  have a:H.take σ.length=σ:=by
   have:=congrArg (List.take σ.length) hp
   rw [eJ] at this
   simpa using this
  have a0:H[σ.length]?=some (.rw [.s b k c]):=by rw [iY hp oS];exact aO
  have G:=take_len a
  by_cases hxk:x<k
  ·have u:(x:Int)<(k:Nat):=oO
   refine zq ?_
   refine .mk (dH [(1,.p σ.length),(5,.i (x:Nat))] H rfl tE ?_)
   have v:b<H.length:=oO
   have E:σ.length<H.length:=aQ a0
   have hcl:∀ {q o:Nat},q<H.length→closed H.length (.pointer (some ⟨q,o,none⟩))=true:=fun {q o} h=>(show Nat.blt q H.length=true from Nat.blt_eq.mpr h)
   have hcs:∀ {q o n c:Nat},q<H.length→closed H.length (.slice (some ⟨q,o,none⟩) n c)=true:=fun h=>bP (Nat.blt_eq.mpr h)
   have hq1:∀ X,aJ (H++X) b (0+((x:Int) - 1).toNat*3+1) 2=some [.i (kf (x - 1)).2.1,.i (kf (x - 1)).2.2]:=fun X=>by
    rw [show 0+((x:Int) - 1).toNat*3+1=(x - 1)*3+1 by omega]
    exact xu (fH (aT a) (hk (x - 1) oO))
   have hq2:∀ X,aJ (H++X) b (0+x*3+1) 2=some [.i (kf x).2.1,.i (kf x).2.2]:=fun X=>by
    rw [bA]
    exact xu (fH (aT a) (hk x oO))
   have hp1:putCells (H++[aB.rw [.i 0,.i 0],aB.rw [.i 0,.i 0]]) (H.length+0) 0 [.i (kf (x - 1)).2.1,.i (kf (x - 1)).2.2]=some (H++[aB.rw [.i (kf (x - 1)).2.1,.i (kf (x - 1)).2.2],aB.rw [.i 0,.i 0]]):=by
    refine (fM (cs:=[.i 0,.i 0]) (cs':=[.i (kf (x - 1)).2.1,.i (kf (x - 1)).2.2]) oS oS oS rfl).trans ?_
    simp
   have hp2:putCells (H++[aB.rw [.i (kf (x - 1)).2.1,.i (kf (x - 1)).2.2],aB.rw [.i 0,.i 0]]) (H.length+1) 0 [.i (kf x).2.1,.i (kf x).2.2]=some (H++[aB.rw [.i (kf (x - 1)).2.1,.i (kf (x - 1)).2.2],aB.rw [.i (kf x).2.1,.i (kf x).2.2]]):=by
    refine (fM (cs:=[.i 0,.i 0]) (cs':=[.i (kf x).2.1,.i (kf x).2.2]) oS oS oS rfl).trans ?_
    simp
   refine Chain.Bz (id:=12) oK rfl (?_)
   refine zq ?_
   refine .mk (dH [(1,.p σ.length),(5,.i (x:Nat)),(6,.p H.length),(7,.p (H.length+1))] (H++[aB.rw [.i (kf (x - 1)).2.1,.i (kf (x - 1)).2.2],aB.rw [.i (kf x).2.1,.i (kf x).2.2]]) rfl tE ?_)
   obtain ⟨H2,f⟩:∃ H2,H2=H++[aB.rw [.i (kf (x - 1)).2.1,.i (kf (x - 1)).2.2],aB.rw [.i (kf x).2.1,.i (kf x).2.2]]:=⟨_,rfl⟩
   rw [← f]
   have a1:H2[H.length]?=some (aB.rw [.i (kf (x - 1)).2.1,.i (kf (x - 1)).2.2]):=by rw [f];simp
   have a2:H2[H.length+1]?=some (aB.rw [.i (kf x).2.1,.i (kf x).2.2]):=by rw [f];simp
   have w:H2.take (σ++[aB.rw [.s b k c]]).length=σ++[aB.rw [.s b k c]]:=by rw [f];exact aT hp
   clear hp1 hp2 hq1 hq2 hcl hcs a0 f
   have hr:=hv.r (x - 1) oO
   rw [show x - 1+1=x by omega] at hr
   have m:0≤(kf (x - 1)).2.1∧(kf (x - 1)).2.1≤(kf (x - 1)).2.2∧(kf (x - 1)).2.2≤1000:=(hv.k (x - 1) oO).2.2.1
   have h1:¬ (kf x).2.1<(kf (x - 1)).2.1:=oO
   have h2:¬ (kf x).2.2<(kf (x - 1)).2.2:=oO
   have h3:¬ (kf x).2.1 > (kf (x - 1)).2.2+1:=oO
   apply aG
   refine zq ?_
   exact ⟨x+1,⟨oO,oO,rfl,w⟩,oO,tE⟩
  ·obtain rfl:x=k:=oO
   have u:¬ (x:Int)<(x:Nat):=oO
   refine zq ?_
   exact dK (.tmp rfl .nil) (.plain a rfl) ⟨rfl,rfl⟩
theorem zu {A B:Prop} (k:B) (h:Hide B→A:=by intro h_k_;(repeat' (first|refine sCm ?_|(refine gU ?_;first|(refine bV ?_;first|refine st (aK rfl (by first|exact ig rfl|exact aF a0|exact hd1)) rfl rfl ?_|refine st (bD rfl (by first|exact hd1|exact hd2)) rfl rfl ?_)|refine sK0 ?_|refine PG ?_|(refine yP ?_;refine st (kW rfl) rfl rfl ?_)|(refine gIA ?_;first|refine st (nC rfl rfl (by omega)) rfl rfl ?_|refine st (iV rfl rfl (by omega)) rfl rfl ?_)|(refine dX ?_;refine st (bG rfl rfl rfl (by exact hf1)) rfl rfl ?_))|(refine gG ?_;first|refine JR ?_|refine JU ?_|(refine bV ?_;refine pI rfl (aK rfl (by first|exact ig rfl|exact aF a0|exact hd1)) rfl rfl ?_)|refine sK9 ?_|refine LQ ?_|(refine gIA ?_;refine pI rfl (nC rfl rfl (by omega)) rfl rfl ?_))|refine aG ?_|refine dZ rfl ?_|refine eu rfl ?_));exact h_k_.h):A:=h ⟨k⟩
theorem Hl {σ:Heap} {W:Wk} {bB bS cB cS:Nat} {wB cW:Nat→Nat} {kB cK:Nat→Nat→Nat} (hv:uf W) (hA:wM σ W bB bS wB cW kB cK) (hni:σ.all (fun o=>!aU o)=true) :
  Ev Tryz.prog 76 [.agg #[.s bB W.nb cB,.s bS W.ns cS]] σ (.i 0) σ:=by
 have h1:=hv.b1
 have h2:=hv.b2
 have h3:=hv.s
 refine aI σ.length 101 Tryz.func76 rfl rfl rfl rfl rfl ?_
 have a0:(σ++[aB.rw [.s bB W.nb cB,.s bS W.ns cS]])[σ.length]?=some (.rw [.s bB W.nb cB,.s bS W.ns cS]):=aO
 have hp:(σ++[aB.rw [.s bB W.nb cB,.s bS W.ns cS]]).take σ.length=σ:=oS
 have d:(σ++[aB.rw [.s bB W.nb cB,.s bS W.ns cS]]).all (fun o=>!aU o)=true:=bF hni rfl
 have e:=hA.take hp
 have hn0:¬ (W.nb:Int)<1:=oO
 have hn3:¬ (W.nb:Int) > 6:=oO
 have hn4:¬ (W.ns:Int) > 6:=oO
 refine zu ?_
 obtain ⟨K,hK⟩:∃ K,K=σ++[aB.rw [.s bB W.nb cB,.s bS W.ns cS]]:=⟨_,rfl⟩
 rw [← hK] at a0 hp d e
 refine dS (ι:=Nat) (fun k=>[(1,.p σ.length),(3,.i (k:Nat))]) (fun k mk H=>k≤W.ns∧mk=[]∧H=K) (fun k=>W.ns - k) 0 tE ⟨bN _,rfl,hK.symm⟩ ?_
 rintro k mk H ⟨hk,rfl,rfl⟩
 by_cases a:k<W.ns
 ·have f:(k:Int)<(W.ns:Nat):=oO
  have hd1:aH H bS (k+0)=some (.s (wB k) (W.nw k) (cW k)):=fQ (k:=0) (e.steps k a) oO
  have hw1:¬ ((W.nw k:Nat):Int)<1:=by have:=hv.w1 k a;omega
  have m:¬ ((W.nw k:Nat):Int) > 5:=by have:=hv.w2 k a;omega
  refine zu ?_
  exact ⟨k+1,⟨oO,rfl,rfl⟩,oO,tE⟩
 ·obtain rfl:k=W.ns:=oO
  have f:¬ ((W.ns:Nat):Int)<(W.ns:Nat):=oO
  refine zu ?_
  refine dS (ι:=Nat) (fun k=>[(1,.p σ.length),(4,.i (k:Nat))]) (fun k mk K=>k≤W.nb∧mk=[]∧K=H) (fun k=>W.nb - k) 0 tE ⟨bN _,rfl,rfl⟩ ?_
  rintro k mk K ⟨hk,rfl,rfl⟩
  by_cases a:k<W.nb
  ·have f:(k:Int)<(W.nb:Nat):=oO
   have hd1:aJ K bB (0+k*2) 2=some [.i (W.bf k).1,.i (W.bf k).2]:=by rw [bA];exact e.bars k a
   have hf1:=Lm (σ:=K) (lo:=(W.bf k).1) (hi:=(W.bf k).2) d
   have n:0≤(W.bf k).1∧(W.bf k).1≤(W.bf k).2∧(W.bf k).2≤1000:=hv.b k a
   rw [decide_eq_true n] at hf1
   refine zu ?_
   exact ⟨k+1,⟨oO,rfl,rfl⟩,oO,tE⟩
  ·obtain rfl:k=W.nb:=oO
   have f:¬ ((W.nb:Nat):Int)<(W.nb:Nat):=oO
   refine zu ?_
   refine dS (ι:=Nat) (fun i=>[(1,.p σ.length),(5,.i (i:Nat))]) (fun i mk H=>i≤W.ns∧mk=[]∧H=K) (fun i=>W.ns - i) 0 tE ⟨bN _,rfl,rfl⟩ ?_
   rintro i mk H ⟨hi,rfl,rfl⟩
   by_cases g:i<W.ns
   ·have j:(i:Int)<(W.ns:Nat):=oO
    have hd1:aH H bS (i+0)=some (.s (wB i) (W.nw i) (cW i)):=fQ (k:=0) (e.steps i g) oO
    refine zu ?_
    refine dS (ι:=Nat) (fun k=>[(1,.p σ.length),(5,.i (i:Nat)),(6,.i (k:Nat))]) (fun k mk K=>k≤W.nw i∧mk=[]∧K=H) (fun k=>W.nw i - k) 0 tE ⟨bN _,rfl,rfl⟩ ?_
    rintro k mk K ⟨hk,rfl,rfl⟩
    by_cases a:k<W.nw i
    ·have m:=hv.w2 i g
     have f:(k:Int)<(W.nw i:Nat):=oO
     have hd2:aJ K (wB i) k 1=some [.s (kB i k) (W.nk i k) (cK i k)]:=e.ways i g k a
     have hf1:=aan (σ:=K) (b:=kB i k) (c:=cK i k) (hv.k i g k a) (e.kinks i g k a) d
     refine zu ?_
     exact ⟨k+1,⟨oO,rfl,rfl⟩,oO,tE⟩
    ·obtain rfl:k=W.nw i:=oO
     have f:¬ ((W.nw i:Nat):Int)<(W.nw i:Nat):=oO
     refine zu ?_
     exact ⟨i+1,⟨oO,rfl,rfl⟩,oO,tE⟩
   ·obtain rfl:i=W.ns:=oO
    have j:¬ ((W.ns:Nat):Int)<(W.ns:Nat):=oO
    refine zu ?_
    exact dK (.tmp rfl .nil) (.plain hp rfl) ⟨rfl,rfl⟩
end Go.Proofs.YtajpgeklmcjciaaGreat
