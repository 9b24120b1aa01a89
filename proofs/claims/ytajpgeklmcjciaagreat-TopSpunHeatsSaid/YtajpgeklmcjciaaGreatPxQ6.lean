/- From heats to rims: what TopSpunHeats does last: the history, the ways, the ranges. -/
import Derived.Test.YtajpgeklmcjciaaGreatPxQ5
import Derived.Test.YtajpgeklmcjciaaGreatPxQ4
import Derived.Test.YtajpgeklmcjciaaGreatPxMJ
import Derived.Test.YtajpgeklmcjciaaGreatPxQ2
import Derived.Test.YtajpgeklmcjciaaGreatPxQ3
import Derived.Test.YtajpgeklmcjciaaGreatPxQ1
set_option maxRecDepth 100000
set_option maxHeartbeats 1000000
namespace Go.AH.Warp
open Go Go.AH Go.AH.Heat
def yD (g:Nat→Nat→Int):Nat→List Value
 |0=>[]
 |k+1=>yD g k++ints (dG (g k))
theorem Gj (g:Nat→Nat→Int):∀ k,(yD g k).length=k*401
 |0=>rfl
 |k+1=>by rw [yD,aR,Gj g k,bZ,eG];omega
theorem Gl {g:Nat→Nat→Int}:∀ {k i j:Nat},i<k→j<401→(yD g k)[i*401+j]?=some (.i (g i j))
 |0,i,j,h,_=>by omega
 |k+1,i,j,h,hj=>by
  have hl:=Gj g k
  rw [yD]
  by_cases hi:i<k
  ·rw [bR oO];exact Gl hi hj
  ·obtain rfl:i=k:=oO
   rw [bE oO,hl,show i*401+j - i*401=j by omega,gQ (by rw [eG];exact hj),uN hj]
end Go.AH.Warp
namespace Go.Proofs.YtajpgeklmcjciaaGreat
open Go Go.AH
attribute [local irreducible] cO bK bP jB gy dO fB bW eU aX dV eH
open Go.AH.Heat Go.AH.Warp
theorem Qw {A B:Prop} (k:B) (h:Hide B→A:=by intro h_k_;(repeat' (first|refine sCm ?_|(refine gU ?_;first|refine st (Bd (l:=1) rfl rfl (by omega) (by omega)) rfl rfl ?_|(refine bV ?_;refine st (aK rfl (by first|exact hd1|exact hd0)) rfl rfl ?_)|refine sK0 ?_|(refine gIA ?_;first|refine st (iV rfl rfl (by omega)) rfl rfl ?_|refine st (ny rfl rfl (by omega) (by omega)) rfl rfl ?_)|(refine dX ?_;refine st (bG rfl rfl rfl (by first|exact hc1|exact hc2)) rfl rfl ?_))|refine aG ?_|refine sK2 ?_|refine sK6 ?_));exact h_k_.h):A:=h ⟨k⟩
theorem aah {σ:Heap} {xb n c:Nat} {lo:Int} {F:Int→Int} {g:FuncId} [GoFn Tryz.prog g] {p q:List Value} (hx:∀ i≤n,aH σ xb i=some (.i (lo+(i:Nat)))) (hc:n+1≤c) (hn:n≤1000)
  (hcall:∀ x,lo≤x→x≤lo+n→Ev Tryz.prog g (p++[.i x]++q) σ (.i (F x)) σ) :
  Ev Tryz.prog 178 [.s xb (n+1) c,.func (.func g) p.toArray q.toArray] σ (.i (lst F lo n)) σ:=by
 refine aI σ.length 28 Tryz.func178 rfl rfl rfl rfl rfl ?_
 have hd0:aH σ xb 0=some (.i lo):=by have:=hx 0 (bN _);simpa using this
 have hn1:(1:Int)≤((n+1:Nat):Int):=oO
 refine Qw ?_
 refine dS (ι:=Nat) (fun k=>[(1,.func (.func g) p.toArray q.toArray),(5,.i (lst F lo k)),(12,.slice (some ⟨xb,1,none⟩) n (c - 1)),(13,.i (n:Nat)),(14,.i (k:Nat))])
  (fun k mk H=>k≤n∧mk=[]∧σ=H) (fun k=>n - k) 0 tE ⟨bN _,rfl,rfl⟩ ?_
 rintro k mk H ⟨hk,rfl,rfl⟩
 by_cases a:k<n
 ·have e:(k:Int)<(n:Nat):=oO
  have hd1:aH σ xb (1+k*1)=some (.i (lo+((k+1:Nat):Int))):=by rw [cI,e8];exact hx (k+1) oO
  have hl:=Qj F lo k
  have hc1:=hcall (lo+((k+1:Nat):Int)) oO oO
  have hc2:=hcall (lst F lo k) oO oO
  by_cases d:F (lo+((k+1:Nat):Int))<F (lst F lo k)
  ·refine Qw ?_
   exact ⟨k+1,⟨a,rfl,rfl⟩,oO,⟨rfl,congrArg (fun x=>some (Value.i x)) (by simp only [lst];rw [if_pos d]),rfl,rfl,rfl,trivial⟩⟩
  ·refine Qw ?_
   exact ⟨k+1,⟨a,rfl,rfl⟩,oO,⟨rfl,congrArg (fun x=>some (Value.i x)) (by simp only [lst];rw [if_neg d]),rfl,rfl,rfl,trivial⟩⟩
 ·obtain rfl:k=n:=oO
  have e:¬ ((k:Nat):Int)<(k:Nat):=oO
  refine Qw ?_
  exact dK (.tmp rfl .nil) .all ⟨rfl,rfl⟩
theorem ado {σ:Heap} {B:Bld} {nb sb cS tb cT rb ob xb gb i:Nat} {t:TypeId} {f x:Int} (hv:xK B) (hB:kX σ B nb sb cS tb cT) (hi:i<B.n) (hf:-200≤f∧f≤200) (hx:-200≤x∧x≤200)
  (hr:σ[rb]?=some (.rw [dW gb 401 (B.n+1)])) (hg:σ[gb]?=some (.gr (yD (fun k=>iU B.b (B.n - k)) (B.n+1)) t)) (ha:σ[ob]?=some (.rw [.i (i:Nat),.i f])) (hxb:σ[xb]?=some (.rw [.p nb])) :
  Ev Tryz.prog 179 [.i x,.p rb,.p ob,.p xb] σ (.i (B.b.LZ i f x)) σ:=by
 refine aI σ.length 24 Tryz.func179 rfl rfl rfl rfl rfl ?_
 have hn20:=hv.n
 have hrl:=aQ hr
 have hgl:=aQ hg
 have hal:=aQ ha
 have hxl:=aQ hxb
 have hnl:=aQ hB.nb
 have hcl:∀ {q o:Nat},q < σ.length→closed σ.length (.pointer (some ⟨q,o,none⟩))=true:=fun {q o} h=>Nat.blt_eq.mpr h
 have e:Nat.blt gb σ.length=true:=Nat.blt_eq.mpr hgl
 have hq1:∀ X,aH (σ++X) rb 0=some (dW gb 401 (B.n+1)):=fun X=>aF (aA hr)
 have hq2:∀ X,aH (σ++X) ob (0+0)=some (.i (i:Nat)):=fun X=>aF (aA ha)
 have hq3:∀ X,aH (σ++X) ob (0+1)=some (.i f):=fun X=>aF (aA ha)
 have hq4:∀ X,aH (σ++X) xb 0=some (.p nb):=fun X=>aF (aA hxb)
 have hq5:∀ X,aH (σ++X) gb (((i:Int)+1).toNat*401+(x+200).toNat*1)=some (.i (B.b.vt (B.n - (i+1)) x)):=fun X=>by
  rw [Ky (aA hg),show ((i:Int)+1).toNat=i+1 by omega,cI,Gl oO oO]
  unfold iU
  rw [show (((x+200).toNat:Nat):Int) - 200=x by omega]
 have hfa:=fun X=>Qk (σ:=σ++X) (i:=i) (d:=x - f) hv hB.app hi oO
 have c:=(B.b.acU hv.ok (B.n - (i+1)) (by show _≤B.n;omega) x)
 have a:0≤B.b.vt (B.n - (i+1)) x∧B.b.vt (B.n - (i+1)) x≤1099511627776:=c
 have j:0≤B.hard i*ab (x - f)∧B.hard i*ab (x - f)≤9000:=by
  have h1:=hv.st i hi
  have h0:0≤ab (x - f)∧ab (x - f)≤1000:=by unfold ab;omega
  refine ⟨er oO h0.1,?_⟩
  exact Int.le_trans (fo (by omega:B.hard i≤9) h0.2 h0.1 oO) oO
 have g:B.b.LZ i f x=B.b.vt (B.n - (i+1)) x+B.hard i*ab (x - f):=rfl
 rw [g]
 generalize B.b.vt (B.n - (i+1)) x=vg at hq5 a ⊢
 generalize B.hard i*ab (x - f)=co at hfa j ⊢
 have hi1:(i:Int)+1<((B.n+1:Nat):Int):=oO
 repeat' (first|refine sCm ?_|(refine fU ?_;first|refine qV ?_;refine frA (eP rfl) rfl ?_ rfl|refine fFA ?_;refine frA (bF rfl) rfl ?_ (hcl oA)|refine gB ?_;refine frA (aK rfl (by exact hq1 _)) rfl ?_ (kG e)|refine gB ?_;refine frA (aK rfl (by exact hq2 _)) rfl ?_ rfl|refine gB ?_;refine frA (aK rfl (by exact hq3 _)) rfl ?_ rfl|refine gB ?_;refine frA (aK rfl (by exact hq4 _)) rfl ?_ (hcl oA)|refine gB ?_;refine frA (aK rfl (by exact hq5 _)) rfl ?_ rfl|refine fIA ?_;refine frA (Dz rfl rfl oO oO) rfl ?_ (hcl oA)|refine fIA ?_;refine frA (nD rfl rfl oO oO) rfl ?_ (hcl oA)|refine qE ?_;refine frA (bG rfl rfl rfl (by exact hfa _)) rfl ?_ rfl|(refine Ij ?_;refine fr (kH rfl) oR rfl ?_)|(refine fAdd ?_;first|refine fr (ug rfl rfl oO) oR rfl ?_|refine fr (vH rfl rfl oO oO) oR rfl ?_)|refine LK ?_)|(refine fP ⟨oK,?_⟩)|refine aG ?_|refine sK5 ?_)
 rw [show σ++gJ (fun _=>true) []=σ from bL σ]
 exact dK (.tmp rfl .nil) .all ⟨rfl,rfl⟩
end Go.Proofs.YtajpgeklmcjciaaGreat
namespace Go.AH.Warp
open Go Go.AH Go.AH.Heat
structure RowsB (σ H:Heap) (nb:Nat) (F:Nat→Nat→Int) (k gb:Nat):Prop where
 pre:H.take σ.length=σ
 b0:H[σ.length]?=some (.rw [.pointer (some ⟨nb,0,none⟩)])
 b1:(k=0∧H[σ.length+1]?=some (.rw [.slice none 0 0]))∨(0<k∧σ.length+2≤gb∧H[σ.length+1]?=some (.rw [dW gb 401 k])∧H[gb]?=some (.gr (yD F k) 203))
def ent (b:Bl) (j:Nat):(Int×Int)×Value:=(((j:Nat),b.pos j),.int .i64 (b.pos (j+1)))
def rE (b:Bl) (a m:Nat):List ((Int×Int)×Value):=(List.range' a m).map (ent b)
theorem aai (b:Bl) (a m:Nat):rE b a (m+1)=rE b a m++[ent b (a+m)]:=by
 unfold rE;rw [List.range'_1_concat,eC];rfl
theorem Ol (b:Bl) (a m:Nat):rE b a (m+1)=ent b a::rE b (a+1) m:=by
 unfold rE;rw [List.range'_succ,cG]
theorem aaj {b:Bl} {a m:Nat} {k:Nat} {x:Int} (h:a+m≤k):((rE b a m).map (·.1)).findIdx? (fun q=>decide ((((k:Nat):Int),x)=q))=none:=by
 rw [List.findIdx?_eq_none_iff]
 intro q hq
 simp only [rE,List.map_map,List.mem_map,List.mem_range'_1] at hq
 obtain ⟨j,hj,rfl⟩:=hq
 simp only [Function.comp,ent,decide_eq_false_iff_not,Prod.mk.injEq,not_and]
 omega
theorem afc (b:Bl) (i:Nat):lN (rE b 0 i) ((i:Nat),b.pos i) (.i (b.pos (i+1)))=rE b 0 (i+1):=by
 unfold lN
 rw [aaj oO,aai,bA];rfl
theorem adp (b:Bl) (i m:Nat):iH (rE b i (m+1)) ((i:Nat),b.pos i)=some (.i (b.pos (i+1))):=by
 unfold iH
 rw [Ol]
 simp [ent,fe]
theorem adq (b:Bl) (i m:Nat):nG (rE b i (m+1)) ((i:Nat),b.pos i)=rE b (i+1) m:=by
 unfold nG
 rw [Ol]
 simp [ent,fe]
structure BB (σ H:Heap) (B:Bld) (nb gb mb:Nat) (M:List ((Int×Int)×Value)) (i:Nat):Prop where
 pre:H.take σ.length=σ
 b0:H[σ.length]?=some (.rw [.pointer (some ⟨nb,0,none⟩)])
 b1:H[σ.length+1]?=some (.rw [dW gb 401 (B.n+1)])
 g:H[gb]?=some (.gr (yD (fun k=>iU B.b (B.n - k)) (B.n+1)) 203)
 m:H[mb]?=some (ji kv M)
 o:H[mb+1]?=some (.rw [.int .i64 (i:Nat),.int .i64 (B.b.pos i)])
 ni:H.all (fun o=>!aU o)=true
def EC (B:Bld) (l:Nat):Value:=if B.b.vt B.n 0<nev then .tuple #[.slice (some ⟨l,0,none⟩) B.n B.n,.int .i64 (B.b.vt B.n 0)] else .tuple #[.slice none 0 0,.int .i64 (B.b.vt B.n 0)]
def ED (B:Bld):Heap:=if B.b.vt B.n 0<nev then [.rw (ints (mP B.n B.b.blow))] else []
end Go.AH.Warp
namespace Go.Proofs.YtajpgeklmcjciaaGreat
open Go Go.AH
attribute [local irreducible] cO bK bP jB gy dO fB bW eU aX dV eH
open Go.AH.Heat Go.AH.Warp
theorem nK {A B:Prop} (k:B) (h:Hide B→A:=by intro h_k_;(repeat' (first|refine sCm ?_|(refine gU ?_;first|refine st (iQ (by rfl) (by rfl) rfl (by exact hgX) (by exact hgl) rfl (by exact hcl2) (by omega) (by exact hone) (by omega) (by decide)) rfl rfl ?_|refine st (wF (by rfl) rfl rfl (by exact hcl2) (by omega) (by exact hone) (by omega) (by decide)) rfl rfl ?_|(refine bV ?_;first|refine st (aK rfl (by first|exact ig rfl|exact aF a0|exact aF a1|exact aF a9|exact aF a13|exact hd1|assumption)) rfl rfl ?_|refine st (bC rfl (by first|exact aV a9 rfl|exact aV a13 rfl|assumption)) rfl rfl ?_)|refine sK8 ?_|(refine BJ ?_;first|refine st (jm rfl rfl rfl) rfl rfl ?_|refine st (OJ rfl rfl) rfl rfl ?_)|(refine gIA ?_;first|refine st (Dz rfl rfl (by omega) (by omega)) rfl rfl ?_|refine st (nD rfl rfl (by omega) (by omega)) rfl rfl ?_)|refine sK7 ?_|refine sK4 ?_|(refine dX ?_;refine st (bG rfl rfl rfl (by first|exact hf1|exact hf2|exact hf3)) rfl rfl ?_)|refine Hr ?_|(refine gV ?_;refine stN (bU rfl rfl rfl rfl (by first|exact uZ rfl rfl|exact hput _ _|exact hput2 _ _)) rfl ?_))|(refine fU ?_;first|refine gB ?_;refine frA (aK rfl (by exact hq1 _)) rfl ?_ hc1|refine gB ?_;refine frA (aK rfl (by exact hq0 _)) rfl ?_ hc0|refine qV ?_;refine frA (eP rfl) rfl ?_ rfl|refine qE ?_;refine frA (bG rfl rfl rfl (by exact hfa _)) rfl ?_ hcr|refine Xw ?_;refine frN (su (by rfl) (by rfl) (by rfl) (by rfl) rfl hrl) uU hrc hro rfl ?_)|(refine fP ⟨by kernel_rfl,?_⟩)|refine dA (id:=6) ?_|refine dA (id:=8) ?_|refine dA (id:=14) ?_|refine dA (id:=16) ?_|refine dA (id:=23) ?_|refine dA (id:=24) ?_|refine aG ?_|refine sK2 ?_|refine sK6 ?_));exact h_k_.h):A:=h ⟨k⟩
theorem Qx {σ:Heap} {B:Bld} {nb sb cS tb cT:Nat} (hv:xK B) (hB:kX σ B nb sb cS tb cT) (hni:σ.all (fun o=>!aU o)=true) :
  Ev Tryz.prog 86 [.p nb] σ (EC B σ.length) (σ++ED B):=by
 refine aI σ.length 88 Tryz.func86 rfl rfl rfl rfl rfl ?_
 have hn20:=hv.n
 have T:nb < σ.length:=aQ hB.nb
 have W:aH (σ++[aB.rw [.p nb]]) nb (0+0+0)=some (.s sb B.n cS):=aF (hB.app (X:=[aB.rw [.p nb]])).nb
 refine nK ?_
 refine dS (ι:=Nat×Nat) (fun k=>[(1,.p σ.length),(2,.slice none 0 0),(3,.i 0),(4,.i (B.n:Nat)),(5,.p (σ.length+1)),(22,.i ((B.n:Int)+1)),(23,.i (k.1:Nat))])
  (fun k mk H=>k.1≤B.n+1∧mk=[]∧RowsB σ H nb (fun k=>iU B.b (B.n - k)) k.1 k.2∧H.all (fun o=>!aU o)=true) (fun k=>B.n+1 - k.1) (0,0) ⟨rfl,rfl,rfl,rfl,(by (refine congrArg (fun n=>some (Value.p n)) ?_;simp;try omega)),rfl,rfl,trivial⟩ ⟨bN _,rfl,⟨by simp,aA aO,.inl ⟨rfl,bJ oS⟩⟩,bD (bD hni rfl) rfl⟩ ?_
 clear W
 rintro ⟨k,gb⟩ mk H ⟨hk,rfl,hR,hniH⟩
 dsimp only at hk hR ⊢
 have az:σ.length+2≤H.length:=by rcases hR.b1 with ⟨_,h⟩|⟨_,_,h,_⟩ <;> exact aQ h
 by_cases aj:k<B.n+1
 ·have ah:(k:Int)<(B.n:Int)+1:=oO
  refine nK ?_
  refine .mk (dH [(1,.p σ.length),(2,.slice none 0 0),(3,.i 0),(4,.i (B.n:Nat)),(5,.p (σ.length+1)),(6,.i (k:Nat)),(22,.i ((B.n:Int)+1)),(23,.i (k:Nat))] H rfl tE ?_)
  obtain ⟨cr,a⟩:∃ cr,cr=ints (dG (iU B.b (B.n - k))):=⟨_,rfl⟩
  have hfa:=fun X=>IG (σ:=H++X) (sn:=k) hv ((hB.take hR.pre).app (X:=X)) oO
  rw [← a] at hfa
  have hrl:cr.length=401:=by rw [a,bZ,eG]
  have hone:cr.all (·.oneCell')=true:=by rw [a];exact jY _
  have hcr:closed H.length (.agg cr.toArray)=true:=by
   have:=(aW (n:=H.length) (aZ (dG (iU B.b (B.n - k))))).1
   rw [← a] at this
   simpa [closed,iZ] using this
  have hrc:dP H.length cr=true:=by rw [a];exact (aW (aZ _)).1
  have hro:okL cr=true:=by rw [a];exact (aW (n:=H.length) (aZ _)).2
  have hq0:∀ X,aH (H++X) σ.length 0=some (.p nb):=fun X=>aF (aA hR.b0)
  have hc0:closed H.length (.p nb)=true:=Nat.blt_eq.mpr (fi T oO)
  have hcl2:aJ (H++[aB.rw cr]) (H++([]:Heap)).length 0 401=some cr:=by rw [bL];exact dU hrl
  rcases hR.b1 with ⟨rfl,r⟩|⟨hk0,aq,r,hg⟩
  ·have hq1:∀ X,aH (H++X) (σ.length+1) 0=some (.slice none 0 0):=fun X=>aF (aA r)
   have hc1:closed H.length (.slice none 0 0)=true:=rfl
   have hput:∀ X v,putCells (H++[aB.rw cr]++X) (σ.length+1) 0 [v]=some ((H++[aB.rw cr]++X).set (σ.length+1) (.rw [v])):=fun X v=>fM (aA (aA r)) oS oS rfl
   refine eY oK rfl ?_
   refine nK ?_
   refine ⟨(0+1,(H++[aB.rw cr]).length+1),⟨by dsimp only;omega,rfl,⟨take_set (aT (aT hR.pre)) oO,aC (aA (aA hR.b0)) oO,.inr ⟨oO,by simp;omega,aS (aA (aA r)),?_⟩⟩,jZ (bD (bD hniH rfl) rfl) rfl⟩,by dsimp only;omega,tE⟩
   refine aC ?_ (by simp;omega)
   rw [bE oO]
   simp only [yD,eR,Nat.sub_zero]
   rw [a];simp
  ·have hq1:∀ X,aH (H++X) (σ.length+1) 0=some (dW gb 401 k):=fun X=>aF (aA r)
   have hc1:closed H.length (dW gb 401 k)=true:=kG (Nat.blt_eq.mpr (aQ hg))
   have hgX:(H++[aB.rw cr])[gb]?=some (.gr (yD (fun k=>iU B.b (B.n - k)) k) 203):=aA hg
   have hgl:(yD (fun k=>iU B.b (B.n - k)) k).length=k*401:=Gj _ _
   have hput:∀ X v,putCells ((H++[aB.rw cr]).set gb .dead++X) (σ.length+1) 0 [v]=some (((H++[aB.rw cr]).set gb .dead++X).set (σ.length+1) (.rw [v])):=fun X v=>fM (aA (aC (aA r) oO)) oS oS rfl
   refine eY oK rfl ?_
   refine nK ?_
   refine ⟨(k+1,(H++[aB.rw cr]).length),⟨by dsimp only;omega,rfl,⟨take_set (aT (take_set (aT hR.pre) oO)) oO,aC (aA (aC (aA hR.b0) oO)) oO,.inr ⟨oO,by simp;omega,aS (aA (aC (aA r) oO)),?_⟩⟩,jZ (bD (jZ (bD hniH rfl) rfl) rfl) rfl⟩,by dsimp only;omega,tE⟩
   refine aC ?_ (by simp;omega)
   rw [show (H++[aB.rw cr]).length=((H++[aB.rw cr]).set gb .dead).length by simp,bE (aD _),cY,yD,← a];rfl
 ·obtain rfl:k=B.n+1:=oO
  have ah:¬ ((B.n+1:Nat):Int)<(B.n:Int)+1:=oO
  rcases hR.b1 with ⟨h0,_⟩|⟨_,aq,r,hg⟩
  ·omega
  have hp:=hR.pre
  have Z:=hR.b0
  clear hR
  have a1:=r
  have hd1:aH H gb (Int.toNat 0*401+Int.toNat 200*1)=some (.i (B.b.vt B.n 0)):=by
   rw [Ky hg,show Int.toNat 0*401+Int.toNat 200*1=0*401+200 from rfl,Gl oO oO];rfl
  have av:(0:Int)<((B.n+1:Nat):Int):=oO
  refine nK ?_
  refine .mk (dH [(1,.p σ.length),(2,.slice none 0 0),(3,.i 0),(4,.i (B.n:Nat)),(5,.p (σ.length+1))] H rfl tE ?_)
  apply aG
  by_cases C:B.b.vt B.n 0<nev
  ·have ax:¬ B.b.vt B.n 0≥1099511627776:=by have:B.b.vt B.n 0<1099511627776:=C;omega
   unfold EC ED
   rw [if_pos C,if_pos C]
   refine nK ?_
   refine st yU rfl rfl ?_
   refine nK ?_
   have S:=aQ hg
   have M:BB σ (H++[aB.map []]++[aB.rw [.i 0,.i 0]]) B nb gb H.length (rE B.b 0 0) 0 :=
    ⟨aT (aT hp),aA (aA Z),aA (aA r),aA (aA hg),aA aO,bJ oS,bD (bD hniH rfl) rfl⟩
   obtain ⟨mb,L⟩:∃ mb,mb=H.length:=⟨_,rfl⟩
   rw [← L] at M S
   refine dS (ι:=Nat) (fun i=>[(1,.p σ.length),(2,.slice none 0 0),(3,.i 0),(4,.i (B.n:Nat)),(5,.p (σ.length+1)),(7,.i (B.b.vt B.n 0)),(8,.map (some mb)),(9,.p (mb+1))])
    (fun i mk H=>i≤B.n∧mk=[]∧BB σ H B nb gb mb (rE B.b 0 i) i) (fun i=>B.n - i) 0 ⟨rfl,rfl,rfl,rfl,rfl,rfl,congrArg (fun n=>some (Value.map (some n))) L.symm,(by refine congrArg (fun n=>some (Value.p n)) ?_;rw [L];simp),trivial⟩ ⟨bN _,rfl,M⟩ ?_
   clear M L hd1 av a1 hniH r Z hp hg ah hk aj az H
   have aa:=B.b.acV hv.ok C
   rintro i mk H ⟨hi,rfl,hS⟩
   have a0:=hS.b0
   have a9:=hS.o
   have b4:=aQ hS.m
   by_cases D:i<B.n
   ·have a5:(i:Int)<(B.n:Nat):=oO
    refine nK ?_
    refine .mk (dH [(1,.p σ.length),(2,.slice none 0 0),(3,.i 0),(4,.i (B.n:Nat)),(5,.p (σ.length+1)),(7,.i (B.b.vt B.n 0)),(8,.map (some mb)),(9,.p (mb+1))] H rfl tE ?_)
    obtain ⟨f,hf⟩:∃ f,f=B.b.pos i:=⟨_,rfl⟩
    have ac:=aa i (by show i≤B.n;omega)
    have af:-200≤f∧f≤200:=by
     rw [hf]
     rcases i with _|j
     ·show -200≤(0:Int)∧(0:Int)≤200;omega
     ·have h1:=ac.2.2 j oO
      have h2:=hv.tube (i:=j) oO
      omega
    rw [← hf] at a9
    have ag:=hB.take hS.pre
    have hf1:=KR (σ:=H) hv ag D af
    obtain ⟨n0,U⟩:∃ n0,B.b.sN i f=n0+1:=by
     rcases hc:B.b.sN i f with _|n0
     ·have h1:=ac.1
      rw [show Bl.n B.b - i=B.b.n - i from rfl,B.b.Yx (by show i<B.n;omega),← hf,hc] at h1
      exact absurd h1 (by simp [oQ])
     ·exact ⟨n0,rfl⟩
    have htu:=hv.tube D
    have hmo:=hv.most
    have hsl:-200≤B.b.sLo i f∧B.b.sLo i f≤400:=by unfold Bl.sLo;show -200≤max (B.b.lo i) (f - B.most)∧max (B.b.lo i) (f - B.most)≤400;omega
    have aw:B.b.sN i f=(min (B.b.hi i) (f+B.most)+1 - B.b.sLo i f).toNat:=rfl
    have hf2:=Oe (σ:=H++[.rw [.i (B.b.sLo i f)]]++[.rw [.i (min (B.b.hi i) (f+B.most))]]) (lo:=B.b.sLo i f) (hi:=min (B.b.hi i) (f+B.most)) (lb:=H.length) (hb:=H.length+1) (n:=n0+1) oO oO oO (by rw [← U];exact aw) oO (aA aO) (bJ oS) oO
    obtain ⟨H3,z⟩:∃ H3,H3=H++[aB.rw [.i (B.b.sLo i f)]]++[aB.rw [.i (min (B.b.hi i) (f+B.most))]]++[aB.rw (ints (numsL (B.b.sLo i f) (n0+1)))]:=⟨_,rfl⟩
    have a4:H3[(H++[aB.rw [.i (B.b.sLo i f)]]++[aB.rw [.i (min (B.b.hi i) (f+B.most))]]).length]?=some (.rw (ints (numsL (B.b.sLo i f) (n0+1)))):=by rw [z];exact aO
    have w:H3.take H.length=H:=by rw [z];exact aT (aT oS)
    have ap:H3[σ.length]?=some (.rw [.p nb])∧H3[σ.length+1]?=some (.rw [dW gb 401 (B.n+1)])∧H3[gb]?=some (.gr (yD (fun k=>iU B.b (B.n - k)) (B.n+1)) 203)∧H3[mb]?=some (ji kv (rE B.b 0 i))∧H3[mb+1]?=some (.rw [.i (i:Nat),.i f]):=by
     rw [z]
     exact ⟨aA (aA (aA hS.b0)),aA (aA (aA hS.b1)),aA (aA (aA hS.g)),aA (aA (aA hS.m)),aA (aA (aA a9))⟩
    obtain ⟨c0,c1,cg,cm,co⟩:=ap
    have G:H3.all (fun o=>!aU o)=true:=by rw [z];exact bD (bD (bD hS.ni rfl) rfl) rfl
    have ay:H3.take σ.length=σ:=by rw [z];exact aT (aT (aT hS.pre))
    have hf3:=aah (σ:=H3) (c:=n0+1) (n:=n0) (lo:=B.b.sLo i f) (F:=B.b.LZ i f) (g:=179) (p:=[]) (q:=[.p (σ.length+1),.p (mb+1),.p σ.length])
     (fun j hj=>by rw [aF a4,gQ (by rw [F8];omega),ac2 oO]) (aD _) oO (fun x h1 h2=>ado hv (ag.take w) D af (by
      have h3:=(B.b.KQ (i:=i) (f:=f) (g:=x)).1 ⟨h1,by rw [U];omega⟩
      omega) c1 cg co c0)
    have R:lst (B.b.LZ i f) (B.b.sLo i f) n0=B.b.pos (i+1):=by
     show _=lst (B.b.LZ i (B.b.pos i)) (B.b.sLo i (B.b.pos i)) (B.b.sN i (B.b.pos i) - 1)
     rw [← hf,U,Nat.add_sub_cancel]
    rw [R] at hf3
    rw [z] at hf3
    apply aG
    refine nK ?_
    clear hf1 hf2 hf3
    refine .mk (dH [(1,.p σ.length),(2,.slice none 0 0),(3,.i 0),(4,.i (B.n:Nat)),(5,.p (σ.length+1)),(7,.i (B.b.vt B.n 0)),(8,.map (some mb)),(9,.p (mb+1)),(11,.i (B.b.pos (i+1)))] H3 z.symm tE ?_)
    clear z w a4 a0 a9 hS
    have a9:=co
    have b5:H3.set mb (ji kv (lN (rE B.b 0 i) (((i:Nat):Int),f) (.i (B.b.pos (i+1)))))=H3.set mb (ji kv (rE B.b 0 (i+1))):=by rw [hf,afc]
    apply aG
    refine nK ?_
    refine stN (pq (i:=mb) (l:=rE B.b 0 i) (k:=(((i:Nat):Int),f)) (v:=.i (B.b.pos (i+1))) rfl cm rfl rfl G) rfl ?_
    rw [b5]
    clear a9
    have a9:(H3.set mb (ji kv (rE B.b 0 (i+1))))[mb+1]?=some (.rw [.i (i:Nat),.i f]):=aC co oO
    have hput2:∀ x y,putCells (H3.set mb (ji kv (rE B.b 0 (i+1)))) (mb+1) 0 [x,y]=some ((H3.set mb (ji kv (rE B.b 0 (i+1)))).set (mb+1) (.rw [x,y])):=fun x y=>fM a9 oS oS rfl
    refine nK ?_
    exact ⟨i+1,⟨D,rfl,⟨take_set (take_set ay oO) oO,aC (aC c0 oO) oO,aC (aC c1 oO) oO,aC (aC cg oO) oO,aC (aS cm) oO,aS a9,jZ (jZ G rfl) rfl⟩⟩,oO,tE⟩
   ·obtain rfl:i=B.n:=oO
    have a5:¬ ((B.n:Nat):Int)<(B.n:Nat):=oO
    refine nK ?_
    refine TK 2 ?_
    have N:=aQ hS.o
    refine dS (ι:=Nat×Nat×Nat) (fun k=>[(3,.i 0),(7,.i (B.b.vt B.n 0)),(8,.map (some mb)),(9,.p (mb+1)),(12,dW k.2.1 1 k.1),(13,.p k.2.2)])
     (fun k mk H=>k.1≤B.n∧mk=[]∧H.take σ.length=σ∧H[mb]?=some (ji kv (rE B.b k.1 (B.n - k.1)))∧H[mb+1]?=some (.rw [.i (B.n:Nat),.i (B.b.pos B.n)])∧mb+2≤k.2.1∧mb+2≤k.2.2∧H[k.2.1]?=some (.gr (ints (mP k.1 B.b.blow)) 2)∧H[k.2.2]?=some (.rw [.i (k.1:Nat),.i (B.b.pos k.1)])∧H.all (fun o=>!aU o)=true) (fun k=>B.n - k.1) (0,H.length+1,H.length) tE
     ⟨bN _,rfl,aT (aT hS.pre),aA (aA hS.m),aA (aA hS.o),by dsimp only;omega,by dsimp only;omega,bJ oS,aA aO,bD (bD hS.ni rfl) rfl⟩ ?_
    clear N a5 D b4 a9 a0 hS hi H
    rintro ⟨i,go,d⟩ mk H ⟨hi,rfl,hp,hm,ho,al,b2,hg,hs,hniH⟩
    dsimp only at hi hm al b2 hg hs ⊢
    have a9:=ho
    have a13:=hs
    have hgs:go ≠ d:=fun e=>by rw [e,hs] at hg;cases hg
    have a8:∀ j≤B.n,-200≤B.b.pos j∧B.b.pos j≤200:=fun j hj=>by
     rcases j with _|j
     ·show -200≤(0:Int)∧(0:Int)≤200;omega
     ·have h1:=(aa (j+1) hj).2.2 j oO
      have h2:=hv.tube (i:=j) oO
      omega
    by_cases D:i<B.n
    ·have am:¬ (((i:Nat):Int)=((B.n:Nat):Int)∧B.b.pos i=B.b.pos B.n):=fun h=>by omega
     obtain ⟨m,ao⟩:∃ m,B.n - i=m+1:=⟨B.n - i - 1,oO⟩
     rw [ao] at hm
     have E:=adp B.b i m
     have hp1:=a8 i oO
     have hp2:=a8 (i+1) oO
     have hsbl:=aQ hs
     have hgol:=aQ hg
     refine nK ?_
     refine st (Nj (kv:=kv) (i:=mb) (l:=rE B.b i (m+1)) (k:=(((i:Nat):Int),B.b.pos i)) rfl (by exact hm) rfl (by exact E)) rfl rfl ?_
     refine nK ?_
     refine stN (Bf (kv:=kv) (i:=mb) (l:=rE B.b i (m+1)) (k:=(((i:Nat):Int),B.b.pos i)) rfl (by exact hm) rfl) rfl ?_
     rw [adq]
     obtain ⟨H1,u⟩:∃ H1,H1=H.set mb (ji kv (rE B.b (i+1) m)):=⟨_,rfl⟩
     refine nK ?_
     refine .mk (dH [(3,.i 0),(7,.i (B.b.vt B.n 0)),(8,.map (some mb)),(9,.p (mb+1)),(12,dW go 1 i),(13,.p d),(14,.i (B.b.pos (i+1)))] H1 u.symm tE ?_)
     have J:H1.take σ.length=σ:=by rw [u];exact take_set hp oO
     have ai:H1[mb]?=some (ji kv (rE B.b (i+1) m)):=by rw [u];exact aS hm
     have ad:H1[mb+1]?=some (.rw [.i (B.n:Nat),.i (B.b.pos B.n)]):=by rw [u];exact aC ho oO
     have Y:H1[go]?=some (.gr (ints (mP i B.b.blow)) 2):=by rw [u];exact aC hg oO
     have O:H1[d]?=some (.rw [.i (i:Nat),.i (B.b.pos i)]):=by rw [u];exact aC hs oO
     have I:H1.all (fun o=>!aU o)=true:=by rw [u];exact jZ hniH rfl
     have hl1:H1.length=H.length:=by rw [u];simp
     clear u a9 a13 E hm ho hg hs hniH hp
     have a13:=O
     have ar:B.b.pos (i+1) - B.b.pos i=B.b.blow i:=rfl
     have hgX:(H1++[aB.rw [.i (B.b.pos (i+1) - B.b.pos i)]])[go]?=some (.gr (ints (mP i B.b.blow)) 2):=aA Y
     have hgl:(ints (mP i B.b.blow)).length=i*1:=by rw [bZ,Ez,cI]
     have hcl2:aJ (H1++[aB.rw [.i (B.b.pos (i+1) - B.b.pos i)]]) H1.length 0 (1*1)=some [.i (B.b.pos (i+1) - B.b.pos i)]:=dU rfl
     have hone:([.i (B.b.pos (i+1) - B.b.pos i)]:List Value).all (·.oneCell')=true:=rfl
     apply aG
     refine nK ?_
     have ae:ints (mP i B.b.blow)++[.i (B.b.pos (i+1) - B.b.pos i)]=ints (mP (i+1) B.b.blow):=by
      rw [ar];simp [mP,ints,fy]
     obtain ⟨H2,t⟩:∃ H2,H2=(H1++[aB.rw [.i (B.b.pos (i+1) - B.b.pos i)]]).set go .dead++[aB.gr (ints (mP (i+1) B.b.blow)) 2]:=⟨_,rfl⟩
     obtain ⟨g2,K⟩:∃ g2,g2=(H1++[aB.rw [.i (B.b.pos (i+1) - B.b.pos i)]]).length:=⟨_,rfl⟩
     refine .mk (dH [(3,.i 0),(7,.i (B.b.vt B.n 0)),(8,.map (some mb)),(9,.p (mb+1)),(12,dW g2 1 (i+1)),(13,.p d),(14,.i (B.b.pos (i+1)))] H2 (by rw [t,← ae];rfl) ⟨rfl,rfl,rfl,rfl,by rw [K];rfl,rfl,rfl,trivial⟩ ?_)
     have hg2l:g2=H1.length+1:=by rw [K];simp
     have Q:H2.take σ.length=σ:=by rw [t];exact aT (take_set (aT J) oO)
     have ak:H2[mb]?=some (ji kv (rE B.b (i+1) m)):=by rw [t];exact aA (aC (aA ai) oO)
     have b3:H2[mb+1]?=some (.rw [.i (B.n:Nat),.i (B.b.pos B.n)]):=by rw [t];exact aA (aC (aA ad) oO)
     have an:H2[g2]?=some (.gr (ints (mP (i+1) B.b.blow)) 2):=by rw [t];exact bJ (by rw [K];simp)
     have V:H2[d]?=some (.rw [.i (i:Nat),.i (B.b.pos i)]):=by rw [t];exact aA (aC (aA O) oO)
     have P:H2.all (fun o=>!aU o)=true:=by rw [t];exact bD (jZ (bD I rfl) rfl) rfl
     have hl2:H2.length=H1.length+2:=by rw [t];simp
     clear hone hcl2 hgl hgX a13 J ai ad Y O I t ae K
     have a13:=V
     have hput2:∀ x y,putCells H2 d 0 [x,y]=some (H2.set d (.rw [x,y])):=fun x y=>fM V oS oS rfl
     have a14:aJ (H2.set d (.rw [.i ((i+1:Nat):Int),.i (B.b.pos (i+1))])) d 0 2=some [.i ((i+1:Nat):Int),.i (B.b.pos (i+1))]:=aV (aS V) rfl
     have au:(H2.set d (.rw [.i ((i+1:Nat):Int),.i (B.b.pos (i+1))])).length=H2.length:=oS
     apply aG
     refine nK ?_
     exact ⟨(i+1,g2,(H2.set d (.rw [.i ((i+1:Nat):Int),.i (B.b.pos (i+1))])).length),⟨D,rfl,aT (take_set Q oO),by dsimp only;rw [show B.n - (i+1)=m by omega];exact aA (aC ak oO),aA (aC b3 oO),by dsimp only;omega,by dsimp only;rw [au];omega,aA (aC an (show d ≠ g2 by omega)),aO,bD (jZ P rfl) rfl⟩,by dsimp only;omega,tE⟩
    ·obtain rfl:i=B.n:=oO
     have am:¬ ¬ (((B.n:Nat):Int)=((B.n:Nat):Int)∧B.b.pos B.n=B.b.pos B.n):=fun h=>h ⟨rfl,rfl⟩
     refine nK ?_
     have s0:fK σ.length [go] σ.length=⟨go,0,0⟩:=by simp [fK]
     have hmbl:σ.length≤mb:=oO
     exact dK (v2:=.tuple #[.s σ.length B.n B.n,.i (B.b.vt B.n 0)]) (.tmp rfl (.tmp rfl .nil)) (aX.src [.rw (ints (mP B.n B.b.blow))] [go] hp rfl (by simp [dF];omega) ⟨uH s0 (.inr ⟨_,hg⟩) (aZ _),trivial⟩ (sG (jU oS s0) (.i _))) ⟨rfl,rfl⟩
  ·have ax:B.b.vt B.n 0≥1099511627776:=by have:¬ B.b.vt B.n 0<1099511627776:=C;omega
   unfold EC ED
   rw [if_neg C,if_neg C,bL]
   refine nK ?_
   exact dK (v2:=.tuple #[.slice none 0 0,.i (B.b.vt B.n 0)]) (.tmp rfl (.tmp rfl .nil)) (aX.plain hp rfl) ⟨rfl,rfl⟩
def adr (B:Bld) (nb i:Nat):Heap:=[.rw [.int .i64 (i:Nat)],.rw (ints (dG (iy B.b i))),.rw (ints (dG (iU B.b (B.n - (i+1))))),.rw [.func (.func 180) #[.pointer (some ⟨nb,0,none⟩)] #[]],.rw [.int .i64 (B.b.lo i),.int .i64 (B.b.hi i)]]
theorem WX {A B:Prop} (k:B) (h:Hide B→A:=by intro h_k_;(repeat' (first|refine sCm ?_|(refine gU ?_;refine sK7 ?_)|(refine fU ?_;first|refine qV ?_;refine frA (eP rfl) rfl ?_ (hcl (by assumption))|refine OH ?_;refine frA (jS rfl) rfl ?_ (hcl (by assumption))|refine fFA ?_;refine frA (bF rfl) rfl ?_ (hcl (by assumption))|refine gB ?_;refine frA (aK rfl (by exact hq1 _)) rfl ?_ rfl|refine gB ?_;refine frA (aK rfl (by exact hq2 _)) rfl ?_ (hcs (by assumption))|refine gB ?_;refine frA (bC rfl (by exact hq3 _)) rfl ?_ rfl|refine fIA ?_;refine frA (ny rfl rfl (by omega) (by omega)) rfl ?_ (hcl (by assumption))|refine qE ?_;refine frA (bG rfl rfl rfl (by exact hfa _)) rfl ?_ hcR|refine qE ?_;refine frA (bG rfl rfl rfl (by exact hfb _)) rfl ?_ hcS|refine fMkF ?_;refine frA (zM rfl rfl) rfl ?_ hcf2|(refine fAdd ?_;refine fr (ug rfl rfl (by omega)) (by rfl) rfl ?_)|(refine zU ?_;refine Chain.fr1A (lu rfl) rfl rfl rfl ?_))|(refine fP ⟨by kernel_rfl,?_⟩)|refine dA (id:=1) ?_|refine dA (id:=2) ?_|refine aG ?_|refine Chain.V8 ?_|refine Chain.wZ 7 [true,true] cR (by kernel_rfl) (by kernel_rfl) (by kernel_rfl) (by kernel_rfl) hrR hoR (bU (size:=401) rfl rfl (by exact hlR) (by exact h1R) (by exact hp1)) ?_|refine Chain.wZ 8 [true,true] cS2 (by kernel_rfl) (by kernel_rfl) (by kernel_rfl) (by kernel_rfl) hrS hoS (bU (size:=401) rfl rfl (by exact hlS) (by exact h1S) (by exact hp2)) ?_|refine Chain.wZ 10 [true,true] [.func (.func 180) #[.p nb] #[]] (by kernel_rfl) (by kernel_rfl) (by kernel_rfl) (by kernel_rfl) hcf rfl (bU rfl rfl rfl rfl (by exact hp1)) ?_|refine Chain.wZ 11 [true,true] [.i (B.b.lo i),.i (B.b.hi i)] (by kernel_rfl) (by kernel_rfl) (by kernel_rfl) (by kernel_rfl) rfl rfl (bU rfl rfl rfl rfl (by exact hp2)) ?_));exact h_k_.h):A:=h ⟨k⟩
theorem afd {σ:Heap} {B:Bld} {nb sb cS tb cT i:Nat} (hv:xK B) (hB:kX σ B nb sb cS tb cT) (hi:i<B.n) :
  Ev Tryz.prog 242 [.p nb,.i (i:Nat)] σ (.func (.func 283) #[] #[.p (σ.length+4),.p (σ.length+1),.p (σ.length+2),.p (σ.length+3),.p σ.length]) (σ++adr B nb i):=by
 refine aI σ.length 27 Tryz.func242 rfl rfl rfl rfl rfl ?_
 have hn20:=hv.n
 have hnbl:nb < σ.length:=aQ hB.nb
 refine WX ?_
 obtain ⟨H,hH⟩:∃ H,H=σ++[aB.rw [.i (i:Nat)]]:=⟨_,rfl⟩
 refine .mk (dH [(0,.p nb),(3,.p σ.length)] H hH.symm tE ?_)
 have u:H.length=σ.length+1:=by rw [hH];simp
 have b3:H[σ.length]?=some (.rw [.i (i:Nat)]):=by rw [hH];exact aO
 have hp:H.take σ.length=σ:=by rw [hH];simp
 have g:nb<H.length:=oO
 have r:σ.length<H.length:=oO
 have t:=hB.take hp
 have hcl:∀ {q o:Nat},q<H.length→closed H.length (.pointer (some ⟨q,o,none⟩))=true:=fun {q o} h=>Nat.blt_eq.mpr h
 have hq1:∀ X,aH (H++X) σ.length 0=some (.i (i:Nat)):=fun X=>aF (aA b3)
 have hfa:=fun X=>Qn (σ:=H++X) (sn:=i) hv (t.app (X:=X)) oO
 have hfb:=fun X=>IG (σ:=H++X) (sn:=i+1) hv (t.app (X:=X)) oO
 obtain ⟨cR,a⟩:∃ cR,cR=ints (dG (iy B.b i)):=⟨_,rfl⟩
 obtain ⟨cS2,d⟩:∃ cS2,cS2=ints (dG (iU B.b (B.n - (i+1)))):=⟨_,rfl⟩
 rw [← a] at hfa
 rw [← d] at hfb
 have hlR:cR.length=401:=by rw [a,bZ,eG]
 have hlS:cS2.length=401:=by rw [d,bZ,eG]
 have h1R:cR.all (·.oneCell')=true:=by rw [a];exact jY _
 have h1S:cS2.all (·.oneCell')=true:=by rw [d];exact jY _
 have hrR:dP H.length cR=true:=by rw [a];exact (aW (aZ _)).1
 have hrS:dP H.length cS2=true:=by rw [d];exact (aW (aZ _)).1
 have hoR:okL cR=true:=by rw [a];exact (aW (n:=H.length) (aZ _)).2
 have hoS:okL cS2=true:=by rw [d];exact (aW (n:=H.length) (aZ _)).2
 have hcR:closed H.length (.agg cR.toArray)=true:=by simpa [closed,iZ] using hrR
 have hcS:closed H.length (.agg cS2.toArray)=true:=by simpa [closed,iZ] using hrS
 have hp1:putCells (H++[aB.rw (List.replicate 401 (.i 0)),aB.rw (List.replicate 401 (.i 0))]) (H.length+0) 0 cR=some (H++[aB.rw cR,aB.rw (List.replicate 401 (.i 0))]):=by
  rw [fM (cs:=List.replicate 401 (.i 0)) (cs':=cR) oS (by rw [hlR];simp) oS (by simp [splice,hlR])]
  simp
 have hp2:putCells (H++[aB.rw cR,aB.rw (List.replicate 401 (.i 0))]) (H.length+1) 0 cS2=some (H++[aB.rw cR,aB.rw cS2]):=by
  rw [fM (cs:=List.replicate 401 (.i 0)) (cs':=cS2) oS (by rw [hlS];simp) oS (by simp [splice,hlS])]
  simp
 refine Chain.Bv (id:=1) oK rfl (?_)
 refine WX ?_
 clear hp1 hp2 hcS hcR hoS hoR hrS hrR h1S h1R hlS hlR hfb hfa hq1 hcl r g
 obtain ⟨H2,f⟩:∃ H2,H2=H++[aB.rw cR,aB.rw cS2]:=⟨_,rfl⟩
 refine .mk (dH [(0,.p nb),(3,.p σ.length),(5,.p H.length),(6,.p (H.length+1))] H2 (by rw [f];rfl) tE ?_)
 have j:H2.length=σ.length+3:=by rw [f];simp [u]
 have y:H2[σ.length]?=some (.rw [.i (i:Nat)]):=by rw [f];exact aA b3
 have v:H2.take σ.length=σ:=by rw [f];exact aT hp
 have g:nb<H2.length:=oO
 have r:σ.length<H2.length:=oO
 have e:=hB.take v
 have hcl:∀ {q o:Nat},q<H2.length→closed H2.length (.pointer (some ⟨q,o,none⟩))=true:=fun {q o} h=>Nat.blt_eq.mpr h
 have hcs:∀ {q o n c:Nat},q<H2.length→closed H2.length (.slice (some ⟨q,o,none⟩) n c)=true:=fun h=>bM (Nat.blt_eq.mpr h)
 have hq1:∀ X,aH (H2++X) σ.length 0=some (.i (i:Nat)):=fun X=>aF (aA y)
 have hq2:∀ X,aH (H2++X) nb (0+2)=some (.s tb (B.n+1) cT):=fun X=>aF (aA e.nb)
 have m:aJ H2 tb (0+(i+1)*2) 2=some [.i (B.b.lo i),.i (B.b.hi i)]:=by rw [bA];exact e.tu (i+1) oO
 have w:tb<H2.length:=dJ m
 have hq3:∀ X,aJ (H2++X) tb (0+(i+1)*2) 2=some [.i (B.b.lo i),.i (B.b.hi i)]:=fun X=>by rw [iT w];exact m
 have hcf:dP H2.length [.func (.func 180) #[.p nb] #[]]=true:=by
  have:=hcl (o:=0) g
  simp [dP,closed,iZ] at this ⊢
  exact this
 have hcf2:closed H2.length (.func (.func 180) #[.p nb] #[])=true:=by
  have:=hcl (o:=0) g
  simp [dP,closed,iZ] at this ⊢
  exact this
 have hi1:(i:Int)+1<((B.n+1:Nat):Int):=oO
 have hp1:putCells (H2++[aB.rw [Value.nilFunc],aB.rw [.i 0,.i 0]]) (H2.length+0) 0 [.func (.func 180) #[.p nb] #[]]=some (H2++[aB.rw [.func (.func 180) #[.p nb] #[]],aB.rw [.i 0,.i 0]]):=by
  refine (fM (cs:=[Value.nilFunc]) (cs':=[.func (.func 180) #[.p nb] #[]]) oS oS oS rfl).trans ?_
  simp
 have hp2:putCells (H2++[aB.rw [.func (.func 180) #[.p nb] #[]],aB.rw [.i 0,.i 0]]) (H2.length+1) 0 [.i (B.b.lo i),.i (B.b.hi i)]=some (H2++[aB.rw [.func (.func 180) #[.p nb] #[]],aB.rw [.i (B.b.lo i),.i (B.b.hi i)]]):=by
  refine (fM (cs:=[.i 0,.i 0]) (cs':=[.i (B.b.lo i),.i (B.b.hi i)]) oS oS oS rfl).trans ?_
  simp
 refine Chain.Bv (id:=2) oK rfl (?_)
 refine WX ?_
 refine dK (.tmp rfl .nil) .all ⟨?_,?_⟩
 ·show Value.func (.func 283) #[] #[.p (H2.length+1),.p H.length,.p (H.length+1),.p (H2.length+0),.p σ.length]=_
  rw [j,u]
 ·show H2++[aB.rw [.func (.func 180) #[.p nb] #[]],aB.rw [.i (B.b.lo i),.i (B.b.hi i)]]=_
  rw [f,hH,a,d]
  simp [adr]
end Go.Proofs.YtajpgeklmcjciaaGreat
namespace Go.AH.Warp
open Go Go.AH Go.AH.Heat
def chB (h m:Int):Bld where
 n:=4
 ang:=fun i=>match i with|0=>0|1=>4|2=>5|_=>1
 tlo:=fun _=>-1
 thi:=fun _=>1
 hard:=fun i=>match i with|1=>h|_=>1
 most:=m
theorem lH {h m:Int} (hh:1≤h∧h≤9) (hm:0≤m∧m≤200):xK (chB h m):=by
 refine ⟨(show 1≤4∧4≤20 by decide),fun i hi=>?_,hm⟩
 match i,hi with
 |0,_=>exact (show -100≤(0:Int)∧(0:Int)≤100∧-100≤(-1:Int)∧(-1:Int)≤1∧(1:Int)≤100∧1≤(1:Int)∧(1:Int)≤9 by decide)
 |1,_=>exact (show -100≤(4:Int)∧(4:Int)≤100∧-100≤(-1:Int)∧(-1:Int)≤1∧(1:Int)≤100∧1≤h∧h≤9 by omega)
 |2,_=>exact (show -100≤(5:Int)∧(5:Int)≤100∧-100≤(-1:Int)∧(-1:Int)≤1∧(1:Int)≤100∧1≤(1:Int)∧(1:Int)≤9 by decide)
 |3,_=>exact (show -100≤(1:Int)∧(1:Int)≤100∧-100≤(-1:Int)∧(-1:Int)≤1∧(1:Int)≤100∧1≤(1:Int)∧(1:Int)≤9 by decide)
def rowP (lo:Nat) (l:List Int):List Int:=List.replicate lo nev++(l++List.replicate (401 - lo - l.length) nev)
def G8:Nat→List Int
 |0=>rowP 189 [15,14,13,12,11,10,9,8,7,6,5,6,7,8,9,10,11,12,13,14,15,16,17]
 |1=>rowP 185 [13,12,11,10,9,8,7,6,5,4,3,2,3,4,5,6,7,8,9,10,11,12,13]
 |2=>rowP 184 [14,13,12,11,10,9,8,7,6,5,4,3,2,3,4,5,6,7,8,9,10,11,12]
 |3=>rowP 188 [10,9,8,7,6,5,4,3,2,1,0,0,0,1,2,3,4,5,6,7,8,9,10]
 |_=>List.replicate 401 0
theorem ahv:dG (iU (chB 1 10).b (4 - 0))=G8 0:=by decide +kernel
theorem ahw:dG (iU (chB 1 10).b (4 - 1))=G8 1:=by decide +kernel
theorem ahx:dG (iU (chB 1 10).b (4 - 2))=G8 2:=by decide +kernel
theorem ahy:dG (iU (chB 1 10).b (4 - 3))=G8 3:=by decide +kernel
theorem ahz:dG (iU (chB 1 10).b (4 - 4))=G8 4:=by decide +kernel
theorem Uu {sn:Nat} (h:sn≤4):dG (iU (chB 1 10).b (4 - sn))=G8 sn:=by
 match sn,h with
 |0,_=>exact ahv
 |1,_=>exact ahw
 |2,_=>exact ahx
 |3,_=>exact ahy
 |4,_=>exact ahz
def Le:Nat→List Int
 |0=>rowP 189 [19,18,17,16,15,14,13,12,11,10,9,10,11,12,13,14,15,16,17,18,19,22,25]
 |1=>rowP 185 [33,30,27,24,21,18,15,12,9,6,3,2,3,6,9,12,15,18,21,24,27,30,33]
 |2=>rowP 184 [14,13,12,11,10,9,8,7,6,5,4,3,2,3,4,5,6,7,8,9,10,11,12]
 |3=>rowP 188 [10,9,8,7,6,5,4,3,2,1,0,0,0,1,2,3,4,5,6,7,8,9,10]
 |_=>List.replicate 401 0
theorem ahA:dG (iU (chB 3 10).b (4 - 0))=Le 0:=by decide +kernel
theorem ahB:dG (iU (chB 3 10).b (4 - 1))=Le 1:=by decide +kernel
theorem ahC:dG (iU (chB 3 10).b (4 - 2))=Le 2:=by decide +kernel
theorem ahD:dG (iU (chB 3 10).b (4 - 3))=Le 3:=by decide +kernel
theorem ahE:dG (iU (chB 3 10).b (4 - 4))=Le 4:=by decide +kernel
theorem ads {sn:Nat} (h:sn≤4):dG (iU (chB 3 10).b (4 - sn))=Le sn:=by
 match sn,h with
 |0,_=>exact ahA
 |1,_=>exact ahB
 |2,_=>exact ahC
 |3,_=>exact ahD
 |4,_=>exact ahE
def Lh:Nat→List Int
 |0=>rowP 0 []
 |1=>rowP 0 []
 |2=>rowP 0 []
 |3=>rowP 197 [1,0,0,0,1]
 |_=>List.replicate 401 0
theorem ahF:dG (iU (chB 1 1).b (4 - 0))=Lh 0:=by decide +kernel
theorem ahG:dG (iU (chB 1 1).b (4 - 1))=Lh 1:=by decide +kernel
theorem ahH:dG (iU (chB 1 1).b (4 - 2))=Lh 2:=by decide +kernel
theorem ahI:dG (iU (chB 1 1).b (4 - 3))=Lh 3:=by decide +kernel
theorem ahJ:dG (iU (chB 1 1).b (4 - 4))=Lh 4:=by decide +kernel
theorem adt {sn:Nat} (h:sn≤4):dG (iU (chB 1 1).b (4 - sn))=Lh sn:=by
 match sn,h with
 |0,_=>exact ahF
 |1,_=>exact ahG
 |2,_=>exact ahH
 |3,_=>exact ahI
 |4,_=>exact ahJ
def G9:Nat→List Int
 |0=>rowP 200 [0]
 |1=>rowP 199 [1,0,1]
 |2=>rowP 195 [5,4,3]
 |3=>rowP 194 [6,5,4]
 |_=>rowP 198 [6,7,8]
theorem adu {sn:Nat} (h:sn≤4):dG (iy (chB 1 10).b sn)=dG fun x=>(chB 1 10).b.ct sn ((x:Int) - 200) :=
 qp fun x hx=>Qo (lH oD oD).ok (fun i hi=>((lH oD oD).tube hi).1) sn h x hx
theorem ahK:(dG fun x=>(chB 1 10).b.ct 0 ((x:Int) - 200))=G9 0:=by decide +kernel
theorem ahL:(dG fun x=>(chB 1 10).b.ct 1 ((x:Int) - 200))=G9 1:=by decide +kernel
theorem ahM:(dG fun x=>(chB 1 10).b.ct 2 ((x:Int) - 200))=G9 2:=by decide +kernel
theorem ahN:(dG fun x=>(chB 1 10).b.ct 3 ((x:Int) - 200))=G9 3:=by decide +kernel
theorem ahO:(dG fun x=>(chB 1 10).b.ct 4 ((x:Int) - 200))=G9 4:=by decide +kernel
theorem Uw {sn:Nat} (h:sn≤4):dG (iy (chB 1 10).b sn)=G9 sn:=by
 rw [adu h]
 match sn,h with
 |0,_=>exact ahK
 |1,_=>exact ahL
 |2,_=>exact ahM
 |3,_=>exact ahN
 |4,_=>exact ahO
def zD (B:Bld) (σ:Heap) (nb:Nat):Option ((Nat×Nat)×(Nat×Nat)):=((σ[nb]?).bind sV).bind fun cs=>match cs with
 |[vS,_,vT]=>(qY vS).bind fun x=>(qY vT).bind fun y =>
   bQ (Af (B.cs x.1 x.2.2.2 y.1 y.2.2.2) cs && (List.range B.n).all (fun i=>Qq σ x.1 (i*4) 4 [.int .i64 (B.ang i),.int .i64 (B.tlo i),.int .i64 (B.thi i),.int .i64 (B.hard i)]) &&
    (List.range (B.n+1)).all (fun i=>Qq σ y.1 (i*2) 2 [.int .i64 (B.tu i).1,.int .i64 (B.tu i).2])) (some ((x.1,x.2.2.2),(y.1,y.2.2.2)))
 |_=>none
theorem wJ {B:Bld} {σ:Heap} {nb:Nat} {x:(Nat×Nat)×(Nat×Nat)} (h:zD B σ nb=some x):kX σ B nb x.1.1 x.1.2 x.2.1 x.2.2:=by
 unfold zD at h
 simp only [aL] at h
 obtain ⟨cs,⟨o,h0,h1⟩,h2⟩:=h
 split at h2
 ·simp only [aL,aN,aE] at h2
  obtain ⟨x',h3,y',h4,⟨⟨g1,g2⟩,g3⟩,a⟩:=h2
  cases a
  have e:=pG g1
  rw [oL h1,← e] at h0
  exact ⟨h0,fun i hi=>BG (qM g2 i hi),fun i hi=>BG (qM g3 i oO)⟩
 ·cases h2
def Lj (B:Bld) (σ:Heap) (v:Value):Option (Nat×Nat):=(asAgg v).bind fun l=>match l with
 |[vS,_]=>(qY vS).bind fun x =>
   bQ (Af [.slice (some ⟨x.1,0,none⟩) B.n x.2.2.2,.int .i64 B.most] l && (List.range B.n).all (fun i=>Qq σ x.1 (i*4) 4 [.int .i64 (B.ang i),.int .i64 (B.tlo i),.int .i64 (B.thi i),.int .i64 (B.hard i)])) (some (x.1,x.2.2.2))
 |_=>none
theorem Ux {B:Bld} {σ:Heap} {v:Value} {x:Nat×Nat} (h:Lj B σ v=some x):v=.agg #[.s x.1 B.n x.2,.i B.most]∧L6 σ B x.1:=by
 unfold Lj at h
 simp only [aL] at h
 obtain ⟨l,h1,h2⟩:=h
 split at h2
 ·simp only [aL,aN,aE] at h2
  obtain ⟨x',h3,⟨g1,g2⟩,a⟩:=h2
  cases a
  have e:=pG g1
  exact ⟨by rw [mD h1,← e],⟨fun i hi=>BG (qM g2 i hi)⟩⟩
 ·cases h2
def tuL:List Value:=[.int .i64 0,.int .i64 0,.int .i64 (-1),.int .i64 1,.int .i64 (-5),.int .i64 (-3),.int .i64 (-6),.int .i64 (-4),.int .i64 (-2),.int .i64 0]
theorem ahP (h m:Int):rgC (chB h m).tu ((chB h m).n+1)=tuL:=by
 simp [rgC,chB,Bld.tu,Bld.b,tuL]
def Uy (m:Int) (σ:Heap) (x:Nat×Nat):Res:=some (.pointer (some ⟨σ.length,0,none⟩),σ++[.rw [.slice (some ⟨x.1,0,none⟩) 4 x.2,.int .i64 m,.slice (some ⟨σ.length+1,0,none⟩) 5 5],.rw tuL],σ.length)
def chX:List Int:=[-1,-3,0,2]
theorem ahQ:mP 4 ((chB 1 10).b.pull (gi chX))=[0,0,-2,1]:=by decide +kernel
theorem adv:G7 ((numsL (-200) 401).filter fun x=>decide ((chB 1 10).b.ct 2 x<nev) && decide (iU (chB 1 10).b (4 - 2) (x+200).toNat<nev))=.tuple #[.agg #[.i (-5),.i (-3)],.i 0]:=by
 have h:((numsL (-200) 401).filter fun x=>decide ((chB 1 10).b.ct 2 x<nev) && decide (iU (chB 1 10).b (4 - 2) (x+200).toNat<nev))=[-5,-4,-3]:=by decide +kernel
 rw [h];rfl
theorem afe:G7 ((numsL (-200) 401).filter fun x=>decide (iy (chB 1 10).b (1+1) (x+200).toNat<nev) && decide (iU (chB 1 10).b (4 - (1+1)) (x+200).toNat<nev))=.tuple #[.agg #[.i (-5),.i (-3)],.i 0]:=by
 refine Eq.trans (congrArg G7 (List.filter_congr fun x hx=>?_)) adv
 unfold numsL at hx
 obtain ⟨j,hj,rfl⟩:=List.mem_map.1 hx
 have hj:=List.mem_range.1 hj
 rw [Qo (lH (h:=1) (m:=10) oD oD).ok (fun i hi=>((lH (h:=1) (m:=10) oD oD).tube hi).1) (1+1) (show 1+1≤4 by omega) _ oO,show (((-200+(j:Nat)+200:Int).toNat:Nat):Int) - 200=-200+(j:Nat) by omega]
def chLo (i:Nat):Int:=match i with|0=>-1|1=>-5|2=>-6|_=>-2
def chHi (i:Nat):Int:=match i with|0=>1|1=>-3|2=>-4|_=>0
theorem YF {h m:Int} {i:Nat} (hi:i<4):(chB h m).b.lo i=chLo i∧(chB h m).b.hi i=chHi i:=by
 match i,hi with
 |0,_=>exact ⟨rfl,rfl⟩
 |1,_=>exact ⟨rfl,rfl⟩
 |2,_=>exact ⟨rfl,rfl⟩
 |3,_=>exact ⟨rfl,rfl⟩
def adw (σ:Heap) (p:Nat×Nat) (u:Value):Res:=bQ (Nat.beq p.2 0 && isI u && decide (0≤pV u) && decide (pV u<4)) ((zD (chB 1 10) σ p.1).bind fun _ =>
 some (.func (.func 283) #[] #[.pointer (some ⟨σ.length+4,0,none⟩),.pointer (some ⟨σ.length+1,0,none⟩),.pointer (some ⟨σ.length+2,0,none⟩),.pointer (some ⟨σ.length+3,0,none⟩),.pointer (some ⟨σ.length,0,none⟩)],
  σ++[.rw [u],.rw (ints (G9 (pV u).toNat)),.rw (ints (G8 ((pV u).toNat+1))),.rw [.func (.func 180) #[.pointer (some ⟨p.1,0,none⟩)] #[]],.rw [.int .i64 (chLo (pV u).toNat),.int .i64 (chHi (pV u).toNat)]],σ.length))
theorem YG:ED (chB 1 10)=[.rw [.i (-1),.i (-3),.i 0,.i 2]]∧∀ l,EC (chB 1 10) l=.tuple #[.s l 4 4,.i 6]:=by
 have h1:(chB 1 10).b.vt (chB 1 10).n 0=6:=by decide +kernel
 have h2:mP (chB 1 10).n (chB 1 10).b.blow=[-1,-3,0,2]:=by decide +kernel
 unfold ED EC
 rw [h1,h2]
 exact ⟨if_pos oD,fun l=>if_pos oD⟩
theorem YH:ED (chB 3 10)=[.rw [.i (-1),.i (-2),.i (-1),.i 2]]∧∀ l,EC (chB 3 10) l=.tuple #[.s l 4 4,.i 10]:=by
 have h1:(chB 3 10).b.vt (chB 3 10).n 0=10:=by decide +kernel
 have h2:mP (chB 3 10).n (chB 3 10).b.blow=[-1,-2,-1,2]:=by decide +kernel
 unfold ED EC
 rw [h1,h2]
 exact ⟨if_pos oD,fun l=>if_pos oD⟩
theorem YI:ED (chB 1 1)=[]∧∀ l,EC (chB 1 1) l=.tuple #[.slice none 0 0,.i 1099511627776]:=by
 have h1:(chB 1 1).b.vt (chB 1 1).n 0=nev:=by decide +kernel
 unfold ED EC
 rw [h1]
 exact ⟨if_neg oD,fun l=>if_neg oD⟩
def bestF (σ:Heap) (p:Nat×Nat):Res:=bQ (Nat.beq p.2 0 && niB σ) (match zD (chB 1 10) σ p.1 with
 |some _=>some (.tuple #[.slice (some ⟨σ.length,0,none⟩) 4 4,.int .i64 6],σ++[.rw [.int .i64 (-1),.int .i64 (-3),.int .i64 0,.int .i64 2]],σ.length)
 |none=>match zD (chB 3 10) σ p.1 with
  |some _=>some (.tuple #[.slice (some ⟨σ.length,0,none⟩) 4 4,.int .i64 10],σ++[.rw [.int .i64 (-1),.int .i64 (-2),.int .i64 (-1),.int .i64 2]],σ.length)
  |none=>(zD (chB 1 1) σ p.1).bind fun _=>iJ (.tuple #[.slice none 0 0,.int .i64 1099511627776]) σ)
def adx (σ:Heap) (p:Nat×Nat) (u:Value):Res:=(qY u).bind fun q=>bQ (Nat.beq p.2 0 && Nat.beq q.2.1 0 && Nat.beq q.2.2.1 4 && Qq σ q.1 0 4 (ints chX)) ((zD (chB 1 10) σ p.1).bind fun _=>some (.slice (some ⟨σ.length,0,none⟩) 4 4,σ++[.rw [.int .i64 0,.int .i64 0,.int .i64 (-2),.int .i64 1]],σ.length))
def YJ (f:Nat) (args:List Value) (σ:Heap):Res:=match args with
 |[v,u]=>bif Nat.beq f 242 then (qF v).bind fun p=>adw σ p u
  else bif Nat.beq f 87 then (qF v).bind fun p=>adx σ p u
  else bif Nat.beq f 53 then (Lj (chB 1 10) σ v).bind fun _=>bQ (niB σ && eqV u (.int .i64 1)) (iJ (.tuple #[.agg #[.int .i64 (-5),.int .i64 (-3)],.int .i64 0]) σ)
  else (qF v).bind fun p=>bQ (Nat.beq p.2 0 && isI u && decide (0≤pV u) && decide (pV u≤4))
   (bif Nat.beq f 112 then (match zD (chB 1 10) σ p.1 with
     |some _=>iJ (.agg (ints (G8 (pV u).toNat)).toArray) σ
     |none=>match zD (chB 3 10) σ p.1 with
      |some _=>iJ (.agg (ints (Le (pV u).toNat)).toArray) σ
      |none=>(zD (chB 1 1) σ p.1).bind fun _=>iJ (.agg (ints (Lh (pV u).toNat)).toArray) σ)
    else bif Nat.beq f 111 then (zD (chB 1 10) σ p.1).bind fun _=>iJ (.agg (ints (G9 (pV u).toNat)).toArray) σ
    else none)
 |[v]=>bif Nat.beq f 175 then (match Lj (chB 1 10) σ v with
   |some x=>Uy 10 σ x
   |none=>match Lj (chB 3 10) σ v with
    |some x=>Uy 10 σ x
    |none=>(Lj (chB 1 1) σ v).bind fun x=>Uy 1 σ x)
  else bif Nat.beq f 86 then (qF v).bind fun p=>bestF σ p
  else bif Nat.beq f 114 then some (.slice (some ⟨σ.length,0,none⟩) 401 401,σ++[.rw (ints (numsL (-200) 401))],σ.length)
  else none
 |_=>none
end Go.AH.Warp
namespace Go.Proofs.YtajpgeklmcjciaaGreat
open Go Go.AH Go.AH.Heat Go.AH.Warp
theorem WY {h m:Int} {T:Nat→List Int} (hv:xK (chB h m)) (hT:∀ {sn:Nat},sn≤4→dG (iU (chB h m).b (4 - sn))=T sn) {σ:Heap} {nb:Nat} {x:(Nat×Nat)×(Nat×Nat)} (hb:zD (chB h m) σ nb=some x) {u:Value} (h1:isI u=true) (h2:0≤pV u) (h3:pV u≤4) :
  Ev Tryz.prog 112 [.p nb,u] σ (.agg (ints (T (pV u).toNat)).toArray) σ:=by
 have e:u=.i ((pV u).toNat:Nat):=(Qr h1).trans (congrArg (Value.int .i64) oO)
 have hs:(pV u).toNat≤4:=oO
 have:=IG hv (wJ hb) (sn:=(pV u).toNat) hs
 rw [show (chB h m).n - (pV u).toNat=4 - (pV u).toNat from rfl,hT hs,← e] at this
 exact this
theorem ady {a m:Int} (hv:xK (chB a m)) {σ:Heap} {v:Value} {x:Nat×Nat} (hb:Lj (chB a m) σ v=some x) {r:Value×Heap×Nat} (h:Uy m σ x=some r):Ev Tryz.prog 175 [v] σ r.1 r.2.1∧Keep r.2.2 σ r.2.1:=by
 unfold Uy at h
 cases h
 obtain ⟨h1,h2⟩:=Ux hb
 rw [h1]
 have:=G6 (cS:=x.2) hv h2
 rw [ahP] at this
 exact ⟨this,Keep.app⟩
theorem ahR {σ:Heap} {p:Nat×Nat} {u:Value} {r:Value×Heap×Nat} (h:adw σ p u=some r):Ev Tryz.prog 242 [.pointer (some ⟨p.1,p.2,none⟩),u] σ r.1 r.2.1∧Keep r.2.2 σ r.2.1:=by
 unfold adw at h
 simp only [aL,aN,aE,decide_eq_true_eq] at h
 obtain ⟨⟨⟨⟨h1,h2⟩,h3⟩,h4⟩,x,h5,h6⟩:=h
 cases h6
 have h1:=aM h1
 have e:u=.i ((pV u).toNat:Nat):=(Qr h2).trans (congrArg (Value.int .i64) oO)
 have hi:(pV u).toNat<4:=oO
 have:=afd (lH (h:=1) (m:=10) oD oD) (wJ h5) (i:=(pV u).toNat) hi
 unfold adr at this
 rw [Uw oO,show (chB 1 10).n - ((pV u).toNat+1)=4 - ((pV u).toNat+1) from rfl,Uu oO,(YF hi).1,(YF hi).2,← e] at this
 rw [h1]
 exact ⟨this,Keep.app⟩
theorem ahS {σ:Heap} {p:Nat×Nat} {r:Value×Heap×Nat} (h:bestF σ p=some r):Ev Tryz.prog 86 [.pointer (some ⟨p.1,p.2,none⟩)] σ r.1 r.2.1∧Keep r.2.2 σ r.2.1:=by
 unfold bestF at h
 simp only [aN,aE] at h
 obtain ⟨⟨h1,h2⟩,h3⟩:=h
 have h1:=aM h1
 rw [h1]
 split at h3
 ·rename_i x hx
  cases h3
  have:=Qx (lH (h:=1) (m:=10) oD oD) (wJ hx) h2
  rw [YG.1,YG.2] at this
  exact ⟨this,Keep.app⟩
 ·split at h3
  ·rename_i x hx
   cases h3
   have:=Qx (lH (h:=3) (m:=10) oD oD) (wJ hx) h2
   rw [YH.1,YH.2] at this
   exact ⟨this,Keep.app⟩
  ·simp only [aL] at h3
   obtain ⟨x,hx,h4⟩:=h3
   cases nP h4
   have:=Qx (lH (h:=1) (m:=1) oD oD) (wJ hx) h2
   rw [YI.1,YI.2,bL] at this
   exact ⟨this,Keep.refl⟩
theorem aff {σ:Heap} {p:Nat×Nat} {u:Value} {r:Value×Heap×Nat} (h:adx σ p u=some r):Ev Tryz.prog 87 [.pointer (some ⟨p.1,p.2,none⟩),u] σ r.1 r.2.1∧Keep r.2.2 σ r.2.1:=by
 unfold adx at h
 simp only [aL,aN,aE] at h
 obtain ⟨q,h1,⟨⟨⟨h2,h3⟩,h4⟩,h5⟩,x,h6,h7⟩:=h
 cases h7
 have h2:=aM h2
 have h3:=aM h3
 have h4:=aM h4
 have hc:=BG h5
 have hv:=lH (h:=1) (m:=10) oD oD
 have:=adn (c:=q.2.2.2) (xb:=q.1) (d:=gi chX) hv (wJ h6) (fun i hi=>by
  have:=fQ (k:=i) hc (by have:i<4:=hi;omega)
  rw [bA] at this
  rw [this]
  have hi:i<4:=hi
  match i,hi with
  |0,_=>rfl
  |1,_=>rfl
  |2,_=>rfl
  |3,_=>rfl) (dJ hc) (fun i hi=>by
  have hi:i<4:=hi
  match i,hi with
  |0,_=>exact oD
  |1,_=>exact oD
  |2,_=>exact oD
  |3,_=>exact oD)
 rw [kW h1,h2,h3,h4]
 rw [show (chB 1 10).n=4 from rfl,ahQ] at this
 exact ⟨this,Keep.app⟩
def agk:jk:=YJ
theorem adz:iK Tryz.prog agk:=by
 intro f c σ r h0
 have h:YJ f c σ=some r:=h0
 clear h0
 revert h
 match c with
 |[v,u] =>
  intro h
  unfold YJ at h
  cases hf:Nat.beq f 242 with
  |true =>
   rw [hf] at h
   have a:=aM hf
   subst a
   simp only [cond_true,aL] at h
   obtain ⟨p,h1,h2⟩:=h
   rw [jD h1]
   exact ahR h2
  |false =>
  rw [hf] at h
  simp only [cond_false] at h
  clear hf
  cases hf:Nat.beq f 87 with
  |true =>
   rw [hf] at h
   have a:=aM hf
   subst a
   simp only [cond_true,aL] at h
   obtain ⟨p,h1,h2⟩:=h
   rw [jD h1]
   exact aff h2
  |false =>
  rw [hf] at h
  simp only [cond_false] at h
  clear hf
  cases hf:Nat.beq f 53 with
  |true =>
   rw [hf] at h
   have a:=aM hf
   subst a
   simp only [cond_true,aL,aN,aE] at h
   obtain ⟨x,h1,⟨h2,h3⟩,h4⟩:=h
   cases nP h4
   obtain ⟨h5,h6⟩:=Ux h1
   rw [h5,VK h3]
   have:=aaf (i:=1) (cS:=x.2) (lH (h:=1) (m:=10) oD oD) h6 (show 1<4 by omega) h2
   rw [show (chB 1 10).n - (1+1)=4 - (1+1) from rfl,afe] at this
   exact ⟨this,Keep.refl⟩
  |false =>
  rw [hf] at h
  simp only [cond_false] at h
  clear hf
  simp only [aL,aN,aE,decide_eq_true_eq] at h
  obtain ⟨p,h1,⟨⟨⟨h2,h3⟩,h4⟩,h5⟩,h6⟩:=h
  have h2:=aM h2
  rw [jD h1,h2]
  cases hf:Nat.beq f 112 with
  |true =>
   rw [hf] at h6
   have a:=aM hf
   subst a
   simp only [cond_true] at h6
   split at h6
   ·rename_i x hx
    cases nP h6
    exact ⟨WY (lH oD oD) Uu hx h3 h4 h5,Keep.refl⟩
   ·split at h6
    ·rename_i x hx
     cases nP h6
     exact ⟨WY (lH oD oD) ads hx h3 h4 h5,Keep.refl⟩
    ·simp only [aL] at h6
     obtain ⟨x,hx,h7⟩:=h6
     cases nP h7
     exact ⟨WY (lH oD oD) adt hx h3 h4 h5,Keep.refl⟩
  |false =>
   rw [hf] at h6
   simp only [cond_false] at h6
   clear hf
   cases hf:Nat.beq f 111 with
   |false=>rw [hf] at h6;cases h6
   |true =>
    rw [hf] at h6
    have a:=aM hf
    subst a
    simp only [cond_true,aL] at h6
    obtain ⟨x,hx,h7⟩:=h6
    cases nP h7
    have hs:(pV u).toNat≤4:=oO
    have:=Qn (lH (h:=1) (m:=10) oD oD) (wJ hx) (sn:=(pV u).toNat) hs
    rw [Uw hs] at this
    have e:u=.i ((pV u).toNat:Nat):=(Qr h3).trans (congrArg (Value.int .i64) oO)
    rw [← e] at this
    exact ⟨this,Keep.refl⟩
 |[v] =>
  intro h
  unfold YJ at h
  dsimp only at h
  cases hf:Nat.beq f 175 with
  |false =>
   rw [hf] at h
   simp only [cond_false] at h
   clear hf
   cases hf:Nat.beq f 86 with
   |true =>
    rw [hf] at h
    have a:=aM hf
    subst a
    simp only [cond_true,aL] at h
    obtain ⟨p,h1,h2⟩:=h
    rw [jD h1]
    exact ahS h2
   |false =>
   rw [hf] at h
   simp only [cond_false] at h
   clear hf
   cases hf:Nat.beq f 114 with
   |false=>rw [hf] at h;cases h
   |true =>
    rw [hf] at h
    have a:=aM hf
    subst a
    cases h
    exact ⟨ac4,Keep.app⟩
  |true =>
   rw [hf] at h
   have a:=aM hf
   subst a
   simp only [cond_true] at h
   split at h
   ·rename_i x hx
    exact ady (lH oD oD) hx h
   ·split at h
    ·rename_i x hx
     exact ady (lH oD oD) hx h
    ·simp only [aL] at h
     obtain ⟨x,hx,h7⟩:=h
     exact ady (lH oD oD) hx h7
 |[]=>intro h;cases h
 |_::_::_::_=>intro h;cases h
def ahT:Known:=⟨66,[],[],.bool true,[]⟩
theorem aak:jy Tryz.prog ahT:=⟨lU (orc:=agk) tabOk adz mixed (n:=400) (lo:=0) oK,oK,oK⟩
open Go Go.AH
attribute [local irreducible] cO bK bP jB gy dO fB bW eU aX dV eH
open Go.AH.Heat
theorem Qy {A B:Prop} (k:B) (h:Hide B→A:=by intro h_k_;(repeat' (first|refine sCm ?_|(refine gU ?_;first|refine Hq ?_|refine sK0 ?_|(refine nN ?_;first|refine st (jr rfl rfl) rfl rfl ?_|refine st (jv rfl rfl) rfl rfl ?_))|(refine gG ?_;first|refine JR ?_|(refine bV ?_;refine pI rfl (aK rfl (by rfl)) rfl rfl ?_)|refine sK9 ?_|refine SK rfl rfl ?_)|refine aG ?_));exact h_k_.h):A:=h ⟨k⟩
theorem WZ (lo hi:Int):Ev Tryz.prog 101 [.agg #[.i lo,.i hi]] [] (.bool (decide (0≤lo∧lo≤hi∧hi≤1000))) []:=by
 refine aI 0 18 Tryz.func101 rfl rfl rfl rfl rfl ?_
 by_cases h1:lo≥0
 ·by_cases h2:lo≤hi
  ·by_cases h3:hi≤1000
   ·refine Qy ?_
    refine dK (.tmp rfl .nil) (.plain rfl rfl) ⟨?_,rfl⟩
    simp [jX,h1,h2,h3]
   ·refine Qy ?_
    refine dK (.tmp rfl .nil) (.plain rfl rfl) ⟨?_,rfl⟩
    simp [jX,h1,h2,h3]
  ·refine Qy ?_
   refine dK (.tmp rfl .nil) (.plain rfl rfl) ⟨?_,rfl⟩
   simp [jX,h2]
 ·refine Qy ?_
  refine dK (.tmp rfl .nil) (.plain rfl rfl) ⟨?_,rfl⟩
  simp only [jX,Value.bool.injEq]
  rw [eq_comm,decide_eq_false_iff_not];omega
theorem Ll {σ:Heap} {lo hi:Int} (hni:σ.all (fun o=>!aU o)=true):Ev Tryz.prog 101 [.agg #[.i lo,.i hi]] σ (.bool (decide (0≤lo∧lo≤hi∧hi≤1000))) σ:=Ev.nil (WZ lo hi) rfl rfl hni
theorem zn {A B:Prop} (k:B) (h:Hide B→A:=by intro h_k_;(repeat' (first|refine sCm ?_|(refine gU ?_;first|(refine bV ?_;first|refine st (aK rfl (by first|exact ig rfl|exact aF a0|exact aF a1|exact aF a2)) rfl rfl ?_|refine st (bC rfl (by assumption)) rfl rfl ?_)|refine sK0 ?_|refine PD ?_|refine sK3 ?_|refine JU ?_)|(refine gG ?_;first|refine JR ?_|(refine bV ?_;refine pI rfl (aK rfl (by first|exact ig rfl|exact aF a1|exact aF a2)) rfl rfl ?_)|(refine Je ?_;refine pI rfl (vH rfl rfl (by omega) (by omega)) rfl rfl ?_)|refine sK9 ?_|refine LP ?_)|(refine fU ?_;first|refine frA (aK rfl (aF (aA a0))) rfl ?_ (hcs (by assumption))|refine frA (bF rfl) rfl ?_ (hcl (by assumption))|refine frA (iV rfl rfl (by omega)) rfl ?_ (hcl (by assumption))|refine frA (bC rfl (by exact hq1 _)) rfl ?_ rfl|refine frA (bC rfl (by exact hq2 _)) rfl ?_ rfl|refine frA (ny rfl rfl (by omega) (by omega)) rfl ?_ (hcl (by assumption))|refine JO ?_|(refine fSub ?_;refine frA (yI rfl rfl (by omega) (by omega)) rfl ?_)|(refine ET ?_;refine frA (jm rfl rfl rfl) rfl ?_)|(refine DJ ?_;first|refine frA (jr rfl rfl) rfl ?_|refine frA (jv rfl rfl) rfl ?_)|(refine zU ?_;refine Chain.fr1A (lu rfl) rfl rfl rfl ?_))|(refine fG ?_;first|refine frG (rfl) (by first|rfl|exact fC (by assumption)|exact dB (by assumption)) (aK rfl (aF (aA a0))) (hcs (by assumption)) rfl ?_|refine frG (rfl) (by first|rfl|exact fC (by assumption)|exact dB (by assumption)) (bF rfl) (hcl (by assumption)) rfl ?_|refine frG (rfl) (by first|rfl|exact fC (by assumption)|exact dB (by assumption)) (aK rfl (by exact hq3 _)) (rfl) rfl ?_|refine frG (rfl) (by first|rfl|exact fC (by assumption)|exact dB (by assumption)) (aK rfl (by exact hq4 _)) (rfl) rfl ?_|refine frG (rfl) (by first|rfl|exact fC (by assumption)|exact dB (by assumption)) (bC rfl (by exact hq5 _)) (rfl) rfl ?_|refine frG (rfl) (by first|rfl|exact fC (by assumption)|exact dB (by assumption)) (ny rfl rfl (by omega) (by omega)) (hcl (by assumption)) rfl ?_|(refine qV ?_;refine pW rfl (eP rfl) rfl ?_)|(refine fSub ?_;refine pW rfl (yI rfl rfl (by omega) (by omega)) rfl ?_)|(refine ET ?_;refine pW rfl (jm rfl rfl rfl) rfl ?_)|(refine DJ ?_;first|refine pW rfl (jr rfl rfl) rfl ?_|refine pW rfl (jv rfl rfl) rfl ?_)|(refine ad2 ?_;refine pW rfl (kU rfl) rfl ?_)|(refine qE ?_;refine pW rfl (bG rfl rfl rfl (by exact hf1 _ rfl)) rfl ?_)|refine abW rfl rfl ?_)|(refine fP ⟨by kernel_rfl,?_⟩)|refine dA (id:=7) ?_|refine dA (id:=12) ?_|refine dA (id:=13) ?_|refine aG ?_|refine Chain.V8 ?_|refine Chain.wZ 13 [true,true] [.i (kf (x - 1)).2.1,.i (kf (x - 1)).2.2] (by kernel_rfl) (by kernel_rfl) (by kernel_rfl) (by kernel_rfl) rfl rfl (bU rfl rfl rfl rfl (by exact hp1)) ?_|refine Chain.wZ 14 [true,true] [.i (kf x).2.1,.i (kf x).2.2] (by kernel_rfl) (by kernel_rfl) (by kernel_rfl) (by kernel_rfl) rfl rfl (bU rfl rfl rfl rfl (by exact hp2)) ?_|refine dZ rfl ?_|refine eu rfl ?_));exact h_k_.h):A:=h ⟨k⟩
theorem aal {σ:Heap} {b n c:Nat} {kf:Nat→Int×Int×Int} (hv:ZQ n kf) (hk:∀ q<n,aJ σ b (q*3) 3=some (jh (kf q))) (hni:σ.all (fun o=>!aU o)=true) :
  Ev Tryz.prog 43 [.agg #[.s b n c]] σ (.i 0) σ:=by
 have m:=hv.n1
 have hn2:=hv.n2
 have hbl:b < σ.length:=dJ (hk 0 m)
 refine aI σ.length 104 Tryz.func43 rfl rfl rfl rfl rfl ?_
 have a0:(σ++[aB.rw [.s b n c]])[σ.length]?=some (.rw [.s b n c]):=aO
 have hn0:¬ (n:Int)<1:=oO
 have hn3:¬ (n:Int) > 12:=oO
 refine zn ?_
 refine dS (ι:=Nat) (fun k=>[(1,.p σ.length),(3,.i (k:Nat))])
  (fun k mk H=>k≤n∧mk=[]∧H.take (σ++[aB.rw [.s b n c]]).length=σ++[aB.rw [.s b n c]]∧H.all (fun o=>!aU o)=true) (fun k=>n - k) 0 tE ⟨bN _,rfl,eZ,bD hni rfl⟩ ?_
 clear a0
 rintro k mk H ⟨hkn,rfl,hp,g⟩
 have a:H.take σ.length=σ:=by
  have:=congrArg (List.take σ.length) hp
  rw [eJ] at this
  simpa using this
 have a0:H[σ.length]?=some (.rw [.s b n c]):=by rw [iY hp oS];exact aO
 by_cases j:k<n
 ·have E:(k:Int)<(n:Nat):=oO
  have hd1:aJ H b (0+k*3) 3=some (jh (kf k)):=by rw [bA];exact fH a (hk k j)
  have t:=hv.k k j
  have D:0≤(kf k).2.1∧(kf k).2.1≤(kf k).2.2∧(kf k).2.2≤1000:=t.2.2.1
  refine zn ?_
  obtain ⟨H1,d⟩:∃ H1,H1=H++[aB.rw (jh (kf k))]:=⟨_,rfl⟩
  refine .mk (dH [(1,.p σ.length),(3,.i (k:Nat)),(4,.p H.length)] H1 d.symm tE ?_)
  have F:=take_len a
  have hH1l:H1.length=H.length+1:=by rw [d];simp
  have u:b<H1.length:=oO
  have v:σ.length<H1.length:=by have:=aQ a0;omega
  have hs2:H.length<H1.length:=oO
  have hcl:∀ {q o:Nat},q<H1.length→closed H1.length (.pointer (some ⟨q,o,none⟩))=true:=fun {q o} h=>(show Nat.blt q H1.length=true from Nat.blt_eq.mpr h)
  have hcs:∀ {q o n c:Nat},q<H1.length→closed H1.length (.slice (some ⟨q,o,none⟩) n c)=true:=fun h=>bM (Nat.blt_eq.mpr h)
  have b4:H1[H.length]?=some (.rw (jh (kf k))):=by rw [d];exact aO
  replace a0:H1[σ.length]?=some (.rw [.s b n c]):=by rw [d];exact aA a0
  have hp1:H1.take (σ++[aB.rw [.s b n c]]).length=σ++[aB.rw [.s b n c]]:=by rw [d];exact aT hp
  have e:H1.all (fun o=>!aU o)=true:=by rw [d];exact bD g rfl
  have G:H1.take σ.length=σ:=by rw [d];exact aT a
  have hq3:∀ X,aH (H1++X) H.length 0=some (.i (kf k).1):=fun X=>aF (aA b4)
  have hq5:∀ X,aJ (H1++X) H.length 1 2=some [.i (kf k).2.1,.i (kf k).2.2]:=fun X=>by
   unfold aJ;rw [aA b4];rfl
  have hf1:∀ X,X.all (fun o=>!aU o)=true→Ev Tryz.prog 101 [.agg #[.i (kf k).2.1,.i (kf k).2.2]] (H1++X) (.bool true) (H1++X):=fun X hX=>by
   have:=Ll (σ:=H1++X) (lo:=(kf k).2.1) (hi:=(kf k).2.2) (bD e hX)
   rwa [decide_eq_true D] at this
  have hg1:¬ (kf k).1 > 1000:=oO
  clear hd1 d
  by_cases y:k=0
  ·subst y
   have hz:=hv.z
   refine eY oK rfl (?_)
   refine zn ?_
   rw [show H1++gJ (fun _=>true) []=H1 from bL H1]
   exact ⟨0+1,⟨oO,rfl,hp1,e⟩,oO,tE⟩
  ·obtain ⟨k',rfl⟩:∃ k',k=k'+1:=⟨k - 1,oO⟩
   have hlt:=(hv.k k' oO).2.2.2 j
   have hg0:((k'+1:Nat):Int) > 0:=oO
   have hle:¬ (kf (k'+1)).1≤(kf k').1:=oO
   have hq4:∀ X,aH (H1++X) b (0+(((k'+1:Nat):Int) - 1).toNat*3+0)=some (.i (kf k').1):=fun X=>by
    rw [show 0+(((k'+1:Nat):Int) - 1).toNat*3+0=k'*3+0 by omega]
    exact fQ (k:=0) (fH (aT G) (hk k' oO)) oO
   refine eY oK rfl (?_)
   refine zn ?_
   rw [show H1++gJ (fun _=>true) []=H1 from bL H1]
   exact ⟨k'+1+1,⟨oO,rfl,hp1,e⟩,oO,tE⟩
 ·obtain rfl:k=n:=oO
  have E:¬ (k:Int)<(k:Nat):=oO
  refine zn ?_
  refine dS (ι:=Nat) (fun x=>[(1,.p σ.length),(5,.i (x:Nat))])
   (fun x mk H=>1≤x∧x≤k∧mk=[]∧H.take (σ++[aB.rw [.s b k c]]).length=σ++[aB.rw [.s b k c]]) (fun x=>k - x) 1 tE ⟨aD _,m,rfl,hp⟩ ?_
  clear a0 a hp g H
  rintro x mk H ⟨hx1,hx,rfl,hp⟩
  have a:H.take σ.length=σ:=by
   have:=congrArg (List.take σ.length) hp
   rw [eJ] at this
   simpa using this
  have a0:H[σ.length]?=some (.rw [.s b k c]):=by rw [iY hp oS];exact aO
  have F:=take_len a
  by_cases hxk:x<k
  ·have C:(x:Int)<(k:Nat):=oO
   refine zn ?_
   refine .mk (dH [(1,.p σ.length),(5,.i (x:Nat))] H rfl tE ?_)
   have u:b<H.length:=oO
   have v:σ.length<H.length:=aQ a0
   have hcl:∀ {q o:Nat},q<H.length→closed H.length (.pointer (some ⟨q,o,none⟩))=true:=fun {q o} h=>(show Nat.blt q H.length=true from Nat.blt_eq.mpr h)
   have hcs:∀ {q o n c:Nat},q<H.length→closed H.length (.slice (some ⟨q,o,none⟩) n c)=true:=fun h=>bM (Nat.blt_eq.mpr h)
   have hq1:∀ X,aJ (H++X) b (0+((x:Int) - 1).toNat*3+1) 2=some [.i (kf (x - 1)).2.1,.i (kf (x - 1)).2.2]:=fun X=>by
    rw [show 0+((x:Int) - 1).toNat*3+1=(x - 1)*3+1 by omega]
    exact xu (fH (aT a) (hk (x - 1) oO))
   have hq2:∀ X,aJ (H++X) b (0+x*3+1) 2=some [.i (kf x).2.1,.i (kf x).2.2]:=fun X=>by
    rw [bA]
    exact xu (fH (aT a) (hk x oO))
   have hp1:putCells (H++[aB.rw [.i 0,.i 0],aB.rw [.i 0,.i 0]]) (H.length+0) 0 [.i (kf (x - 1)).2.1,.i (kf (x - 1)).2.2]=some (H++[aB.rw [.i (kf (x - 1)).2.1,.i (kf (x - 1)).2.2],aB.rw [.i 0,.i 0]]):=by
    refine (fM (cs:=[.i 0,.i 0]) (cs':=[.i (kf (x - 1)).2.1,.i (kf (x - 1)).2.2]) oS oS oS rfl).trans ?_
    simp
   have hp2:putCells (H++[aB.rw [.i (kf (x - 1)).2.1,.i (kf (x - 1)).2.2],aB.rw [.i 0,.i 0]]) (H.length+1) 0 [.i (kf x).2.1,.i (kf x).2.2]=some (H++[aB.rw [.i (kf (x - 1)).2.1,.i (kf (x - 1)).2.2],aB.rw [.i (kf x).2.1,.i (kf x).2.2]]):=by
    refine (fM (cs:=[.i 0,.i 0]) (cs':=[.i (kf x).2.1,.i (kf x).2.2]) oS oS oS rfl).trans ?_
    simp
   refine Chain.Bv (id:=12) oK rfl (?_)
   refine zn ?_
   refine .mk (dH [(1,.p σ.length),(5,.i (x:Nat)),(6,.p H.length),(7,.p (H.length+1))] (H++[aB.rw [.i (kf (x - 1)).2.1,.i (kf (x - 1)).2.2],aB.rw [.i (kf x).2.1,.i (kf x).2.2]]) rfl tE ?_)
   obtain ⟨H2,f⟩:∃ H2,H2=H++[aB.rw [.i (kf (x - 1)).2.1,.i (kf (x - 1)).2.2],aB.rw [.i (kf x).2.1,.i (kf x).2.2]]:=⟨_,rfl⟩
   rw [← f]
   have a1:H2[H.length]?=some (aB.rw [.i (kf (x - 1)).2.1,.i (kf (x - 1)).2.2]):=by rw [f];simp
   have a2:H2[H.length+1]?=some (aB.rw [.i (kf x).2.1,.i (kf x).2.2]):=by rw [f];simp
   have w:H2.take (σ++[aB.rw [.s b k c]]).length=σ++[aB.rw [.s b k c]]:=by rw [f];exact aT hp
   clear hp1 hp2 hq1 hq2 hcl hcs a0 f
   have hr:=hv.r (x - 1) oO
   rw [show x - 1+1=x by omega] at hr
   have t:0≤(kf (x - 1)).2.1∧(kf (x - 1)).2.1≤(kf (x - 1)).2.2∧(kf (x - 1)).2.2≤1000:=(hv.k (x - 1) oO).2.2.1
   have h1:¬ (kf x).2.1<(kf (x - 1)).2.1:=oO
   have h2:¬ (kf x).2.2<(kf (x - 1)).2.2:=oO
   have h3:¬ (kf x).2.1 > (kf (x - 1)).2.2+1:=oO
   apply aG
   refine zn ?_
   exact ⟨x+1,⟨oO,oO,rfl,w⟩,oO,tE⟩
  ·obtain rfl:x=k:=oO
   have C:¬ (x:Int)<(x:Nat):=oO
   refine zn ?_
   exact dK (.tmp rfl .nil) (.plain a rfl) ⟨rfl,rfl⟩
theorem zo {A B:Prop} (k:B) (h:Hide B→A:=by intro h_k_;(repeat' (first|refine sCm ?_|(refine gU ?_;first|(refine bV ?_;first|refine st (aK rfl (by first|exact ig rfl|exact aF a0|exact hd1)) rfl rfl ?_|refine st (bC rfl (by first|exact hd1|exact hd2)) rfl rfl ?_)|refine sK0 ?_|refine PD ?_|(refine yN ?_;refine st (kU rfl) rfl rfl ?_)|(refine gIA ?_;first|refine st (nC rfl rfl (by omega)) rfl rfl ?_|refine st (iV rfl rfl (by omega)) rfl rfl ?_)|(refine dX ?_;refine st (bG rfl rfl rfl (by exact hf1)) rfl rfl ?_))|(refine gG ?_;first|refine JQ ?_|refine JR ?_|(refine bV ?_;refine pI rfl (aK rfl (by first|exact ig rfl|exact aF a0|exact hd1)) rfl rfl ?_)|refine sK9 ?_|refine LP ?_|(refine gIA ?_;refine pI rfl (nC rfl rfl (by omega)) rfl rfl ?_))|refine aG ?_|refine dZ rfl ?_|refine eu rfl ?_));exact h_k_.h):A:=h ⟨k⟩
theorem He {σ:Heap} {W:Wk} {bB bS cB cS:Nat} {wB cW:Nat→Nat} {kB cK:Nat→Nat→Nat} (hv:tY W) (hA:wM σ W bB bS wB cW kB cK) (hni:σ.all (fun o=>!aU o)=true) :
  Ev Tryz.prog 76 [.agg #[.s bB W.nb cB,.s bS W.ns cS]] σ (.i 0) σ:=by
 have h1:=hv.b1
 have h2:=hv.b2
 have h3:=hv.s
 refine aI σ.length 101 Tryz.func76 rfl rfl rfl rfl rfl ?_
 have a0:(σ++[aB.rw [.s bB W.nb cB,.s bS W.ns cS]])[σ.length]?=some (.rw [.s bB W.nb cB,.s bS W.ns cS]):=aO
 have hp:(σ++[aB.rw [.s bB W.nb cB,.s bS W.ns cS]]).take σ.length=σ:=oS
 have d:(σ++[aB.rw [.s bB W.nb cB,.s bS W.ns cS]]).all (fun o=>!aU o)=true:=bD hni rfl
 have e:=hA.take hp
 have hn0:¬ (W.nb:Int)<1:=oO
 have hn3:¬ (W.nb:Int) > 6:=oO
 have hn4:¬ (W.ns:Int) > 6:=oO
 refine zo ?_
 obtain ⟨K,hK⟩:∃ K,K=σ++[aB.rw [.s bB W.nb cB,.s bS W.ns cS]]:=⟨_,rfl⟩
 rw [← hK] at a0 hp d e
 refine dS (ι:=Nat) (fun k=>[(1,.p σ.length),(3,.i (k:Nat))]) (fun k mk H=>k≤W.ns∧mk=[]∧H=K) (fun k=>W.ns - k) 0 tE ⟨bN _,rfl,hK.symm⟩ ?_
 rintro k mk H ⟨hk,rfl,rfl⟩
 by_cases a:k<W.ns
 ·have g:(k:Int)<(W.ns:Nat):=oO
  have hd1:aH H bS (k+0)=some (.s (wB k) (W.nw k) (cW k)):=fQ (k:=0) (e.steps k a) oO
  have hw1:¬ ((W.nw k:Nat):Int)<1:=by have:=hv.w1 k a;omega
  have j:¬ ((W.nw k:Nat):Int) > 5:=by have:=hv.w2 k a;omega
  refine zo ?_
  exact ⟨k+1,⟨oO,rfl,rfl⟩,oO,tE⟩
 ·obtain rfl:k=W.ns:=oO
  have g:¬ ((W.ns:Nat):Int)<(W.ns:Nat):=oO
  refine zo ?_
  refine dS (ι:=Nat) (fun k=>[(1,.p σ.length),(4,.i (k:Nat))]) (fun k mk K=>k≤W.nb∧mk=[]∧K=H) (fun k=>W.nb - k) 0 tE ⟨bN _,rfl,rfl⟩ ?_
  rintro k mk K ⟨hk,rfl,rfl⟩
  by_cases a:k<W.nb
  ·have g:(k:Int)<(W.nb:Nat):=oO
   have hd1:aJ K bB (0+k*2) 2=some [.i (W.bf k).1,.i (W.bf k).2]:=by rw [bA];exact e.bars k a
   have hf1:=Ll (σ:=K) (lo:=(W.bf k).1) (hi:=(W.bf k).2) d
   have n:0≤(W.bf k).1∧(W.bf k).1≤(W.bf k).2∧(W.bf k).2≤1000:=hv.b k a
   rw [decide_eq_true n] at hf1
   refine zo ?_
   exact ⟨k+1,⟨oO,rfl,rfl⟩,oO,tE⟩
  ·obtain rfl:k=W.nb:=oO
   have g:¬ ((W.nb:Nat):Int)<(W.nb:Nat):=oO
   refine zo ?_
   refine dS (ι:=Nat) (fun i=>[(1,.p σ.length),(5,.i (i:Nat))]) (fun i mk H=>i≤W.ns∧mk=[]∧H=K) (fun i=>W.ns - i) 0 tE ⟨bN _,rfl,rfl⟩ ?_
   rintro i mk H ⟨hi,rfl,rfl⟩
   by_cases f:i<W.ns
   ·have m:(i:Int)<(W.ns:Nat):=oO
    have hd1:aH H bS (i+0)=some (.s (wB i) (W.nw i) (cW i)):=fQ (k:=0) (e.steps i f) oO
    refine zo ?_
    refine dS (ι:=Nat) (fun k=>[(1,.p σ.length),(5,.i (i:Nat)),(6,.i (k:Nat))]) (fun k mk K=>k≤W.nw i∧mk=[]∧K=H) (fun k=>W.nw i - k) 0 tE ⟨bN _,rfl,rfl⟩ ?_
    rintro k mk K ⟨hk,rfl,rfl⟩
    by_cases a:k<W.nw i
    ·have j:=hv.w2 i f
     have g:(k:Int)<(W.nw i:Nat):=oO
     have hd2:aJ K (wB i) k 1=some [.s (kB i k) (W.nk i k) (cK i k)]:=e.ways i f k a
     have hf1:=aal (σ:=K) (b:=kB i k) (c:=cK i k) (hv.k i f k a) (e.kinks i f k a) d
     refine zo ?_
     exact ⟨k+1,⟨oO,rfl,rfl⟩,oO,tE⟩
    ·obtain rfl:k=W.nw i:=oO
     have g:¬ ((W.nw i:Nat):Int)<(W.nw i:Nat):=oO
     refine zo ?_
     exact ⟨i+1,⟨oO,rfl,rfl⟩,oO,tE⟩
   ·obtain rfl:i=W.ns:=oO
    have m:¬ ((W.ns:Nat):Int)<(W.ns:Nat):=oO
    refine zo ?_
    exact dK (.tmp rfl .nil) (.plain hp rfl) ⟨rfl,rfl⟩
end Go.Proofs.YtajpgeklmcjciaaGreat
namespace Go.AH.Heat
open Go Go.AH
def wyL (i:Nat):List Nat:=match i with|0=>[0,1]|_=>[0]
def adA (f:Nat) (args:List Value) (σ:Heap):Res:=match args with
 |[v]=>bif Nat.beq f 76 then (La σ v).bind fun _=>bQ (niB σ) (iJ (.int .i64 0) σ) else none
 |[v,u]=>bif Nat.beq f 134 then (La σ v).bind fun _=>bQ (isHm u && niB σ) (some (.tuple #[.slice (some ⟨σ.length,0,none⟩) 2 2,.int .i64 0],σ++[.rw [.int .i64 0,.int .i64 1]],σ.length))
  else bif Nat.beq f 21 then (La σ v).bind fun _=>bQ (isHm u && niB σ) (some (.tuple #[.slice (some ⟨σ.length,0,none⟩) 2 2,.int .i64 0],σ++[.rw [.slice (some ⟨σ.length+1,0,none⟩) 2 2,.slice (some ⟨σ.length+2,0,none⟩) 1 1],.rw [.int .i64 0,.int .i64 1],.rw [.int .i64 0]],σ.length))
  else none
 |_=>none
end Go.AH.Heat
namespace Go.Proofs.YtajpgeklmcjciaaGreat
open Go Go.AH Go.AH.Heat
def W9:jk:=fun f args σ=>match adA f args σ with|some r=>some r|none=>ada f args σ
theorem aam:iK Tryz.prog W9:=by
 intro f d σ r h
 unfold W9 at h
 split at h
 ·rename_i r' a
  cases h
  unfold adA at a
  split at a
  ·rename_i v
   cases hf:Nat.beq f 76 with
   |false=>rw [hf] at a;cases a
   |true =>
    rw [hf] at a
    have c:=aM hf
    subst c
    simp only [cond_true,aL,aN] at a
    obtain ⟨x,h1,h2,h3⟩:=a
    cases nP h3
    obtain ⟨h4,_,_,h7⟩:=AQ h1
    obtain ⟨h8,h9⟩:=yB h7
    rw [h4]
    exact ⟨He qN h8 h2,Keep.refl⟩
  ·rename_i v u
   cases hf:Nat.beq f 134 with
   |true =>
    rw [hf] at a
    have c:=aM hf
    subst c
    simp only [cond_true,aL,aN,aE] at a
    obtain ⟨x,h1,⟨h2,e⟩,h3⟩:=a
    cases h3
    obtain ⟨h4,h5,h6,h7⟩:=AQ h1
    obtain ⟨h8,h9⟩:=yB h7
    rw [h4,Ic h2]
    exact ⟨ae0 (m:=hm) qN h8 h9 oD h5 h6 e Dh.symm,Keep.app⟩
   |false =>
    rw [hf] at a
    simp only [cond_false] at a
    clear hf
    cases hf:Nat.beq f 21 with
    |false=>rw [hf] at a;cases a
    |true =>
     rw [hf] at a
     have c:=aM hf
     subst c
     simp only [cond_true,aL,aN,aE] at a
     obtain ⟨x,h1,⟨h2,e⟩,h3⟩:=a
     cases h3
     obtain ⟨h4,h5,h6,h7⟩:=AQ h1
     obtain ⟨h8,h9⟩:=yB h7
     rw [h4,Ic h2]
     exact ⟨Oa (m:=hm) qN h8 h9 oD h5 h6 e (by rw [Dh];simp) (l:=wyL) (fun i hi=>by
      match i,hi with
      |0,_=>exact Un.symm
      |1,_=>exact Uo.symm),Keep.app⟩
  ·cases a
 ·exact Z9 f d σ r h
def ahU:Known:=⟨65,[],[],.bool true,[]⟩
theorem aan:jy Tryz.prog ahU:=⟨lU (orc:=W9) tabOk aam mixed (n:=400) (lo:=0) oK,oK,oK⟩
end Go.Proofs.YtajpgeklmcjciaaGreat
namespace Go.AH.Heat
open Go Go.AH
theorem adB {W:Wk} {kB cK:Nat→Nat→Nat} {ks:Nat→Nat} {σ:Heap} {b n i:Nat} (h:σ[b]?=some (.rw (wyC W kB cK ks n))) (hi:i<n):aJ σ b i 1=some [.s (kB i (ks i)) (W.nk i (ks i)) (cK i (ks i))] :=
 yJ (by rw [aF h];exact Qu hi)
end Go.AH.Heat
namespace Go.Proofs.YtajpgeklmcjciaaGreat
open Go Go.AH
attribute [local irreducible] cO bK bP jB gy dO fB bW eU aX dV eH
open Go.AH.Heat
theorem aao {σ:Heap} {W:Wk} {bB bS cB cS:Nat} {wB cW:Nat→Nat} {kB cK:Nat→Nat→Nat} {bar rb c:Nat} {ks:Nat→Nat} (hv:tY W) (hA:wM σ W bB bS wB cW kB cK) (hK:∀ i<W.ns,∀ k<W.nw i,W.nk i k≤cK i k) (hbar:bar<W.nb) (hks:∀ i<W.ns,ks i<W.nw i) (hrb:∀ i<W.ns,aH σ rb i=some (.i (ks i:Nat))) (hbB:bB < σ.length) (hbS:bS < σ.length) (hrl:rb < σ.length) (hni:σ.all (fun o=>!aU o)=true) {n:Nat} (hn:W.ns=n+1) :
  Ev Tryz.prog 20 [.agg #[.s bB W.nb cB,.s bS W.ns cS],.agg #[.i (bar:Nat),.s rb W.ns c]] σ (.tuple #[.s σ.length (n+2) (n+2),.i 0]) (σ++[.rw (rgC (W.rg ks (W.bf bar)) (n+2))]):=by
 have hnb3:=hv.b2
 refine aI σ.length 25 Tryz.func20 rfl rfl rfl rfl rfl ?_
 have a0:(σ++[aB.rw [.s bB W.nb cB,.s bS W.ns cS]]++[aB.rw [.i (bar:Nat),.s rb W.ns c]])[σ.length]?=some (.rw [.s bB W.nb cB,.s bS W.ns cS]):=aA aO
 have a1:(σ++[aB.rw [.s bB W.nb cB,.s bS W.ns cS]]++[aB.rw [.i (bar:Nat),.s rb W.ns c]])[(σ++[aB.rw [.s bB W.nb cB,.s bS W.ns cS]]).length]?=some (.rw [.i (bar:Nat),.s rb W.ns c]):=aO
 have hniH:(σ++[aB.rw [.s bB W.nb cB,.s bS W.ns cS]]++[aB.rw [.i (bar:Nat),.s rb W.ns c]]).all (fun o=>!aU o)=true:=bD (bD hni rfl) rfl
 have hp:(σ++[aB.rw [.s bB W.nb cB,.s bS W.ns cS]]++[aB.rw [.i (bar:Nat),.s rb W.ns c]]).take σ.length=σ:=oS
 have hle:=take_len hp
 have a:∀ i<W.ns,aH (σ++[aB.rw [.s bB W.nb cB,.s bS W.ns cS]]++[aB.rw [.i (bar:Nat),.s rb W.ns c]]) rb i=some (.i (ks i:Nat)):=fun i hi=>by
  rw [cD,jO hrl];exact hrb i hi
 have hf1:=YB (σ:=σ++[aB.rw [.s bB W.nb cB,.s bS W.ns cS]]++[aB.rw [.i (bar:Nat),.s rb W.ns c]]) (cB:=cB) (cS:=cS) (c:=c) hv (hA.take hp) hK hbar hks a oO oO oO hniH
 have d:slN (σ++[aB.rw [.s bB W.nb cB,.s bS W.ns cS]]++[aB.rw [.i (bar:Nat),.s rb W.ns c]]).length W.ns=.s ((σ++[aB.rw [.slice (some ⟨bB,0,none⟩) W.nb cB,.slice (some ⟨bS,0,none⟩) W.ns cS]]++[aB.rw [.i (bar:Nat),.slice (some ⟨rb,0,none⟩) W.ns c]]).length) W.ns W.ns:=by rw [hn];rfl
 rw [d] at hf1
 have hd1:aJ (σ++[aB.rw [.s bB W.nb cB,.s bS W.ns cS]]++[aB.rw [.i (bar:Nat),.s rb W.ns c]]++[aB.rw (wyC W kB cK ks W.ns)]) bB (0+bar*2) 2=some [.i (W.bf bar).1,.i (W.bf bar).2]:=by rw [bA];exact (hA.take (aT hp)).bars bar hbar
 have hf2:=WV (σ:=σ++[aB.rw [.s bB W.nb cB,.s bS W.ns cS]]++[aB.rw [.i (bar:Nat),.s rb W.ns c]]++[aB.rw (wyC W kB cK ks W.ns)]) (wb:=(σ++[aB.rw [.s bB W.nb cB,.s bS W.ns cS]]++[aB.rw [.i (bar:Nat),.s rb W.ns c]]).length) (c:=W.ns) (r:=W.bf bar) hv (hA.take (aT hp)) hks (hv.b bar hbar) hn (fun i hi=>adB aO hi) (bD hniH rfl)
 rw [← hn] at hf2
 repeat' (first|refine sCm ?_|(refine gU ?_;first|(refine bV ?_;first|refine st (aK rfl (by first|exact aF (aA a0)|exact aF (aA a1))) rfl rfl ?_|refine st (bC rfl (by first|exact aV a0 rfl|exact aV a1 rfl|assumption)) rfl rfl ?_)|refine sK0 ?_|refine sK3 ?_|(refine dX ?_;refine st (bG rfl rfl rfl (by first|exact hf1|exact hf2)) rfl rfl ?_))|refine aG ?_|refine eu rfl ?_)
 have s0:fK σ.length [(σ++[aB.rw [.s bB W.nb cB,.s bS W.ns cS]]++[aB.rw [.i (bar:Nat),.s rb W.ns c]]++[aB.rw (wyC W kB cK ks W.ns)]).length] σ.length=⟨(σ++[aB.rw [.s bB W.nb cB,.s bS W.ns cS]]++[aB.rw [.i (bar:Nat),.s rb W.ns c]]++[aB.rw (wyC W kB cK ks W.ns)]).length,0,0⟩:=by simp [fK]
 exact dK (v2:=.tuple #[.s σ.length (n+2) (n+2),.i 0]) (.tmp rfl (.tmp rfl .nil)) (aX.src [.rw (rgC (W.rg ks (W.bf bar)) (n+2))] [(σ++[aB.rw [.s bB W.nb cB,.s bS W.ns cS]]++[aB.rw [.i (bar:Nat),.s rb W.ns c]]++[aB.rw (wyC W kB cK ks W.ns)]).length] (aT (aT hp)) rfl (by simp [dF]) ⟨oN s0 (.inl aO) (yC _ _),trivial⟩ (sG (kV oS s0 (aD _)) (.i 0))) ⟨rfl,rfl⟩
end Go.Proofs.YtajpgeklmcjciaaGreat
namespace Go.AH.Heat
open Go Go.AH
def Wk.nowH (W:Wk) (ks:Nat→Nat) (hs:Nat→Int) (r:Int×Int):Nat→Int×Int
 |0=>r
 |i+1=>qo (W.nk i (ks i)) (W.kf i (ks i)) (hs i)
theorem afg {W:Wk} (hv:tY W) {ks:Nat→Nat} (hks:∀ i<W.ns,ks i<W.nw i) {hs:Nat→Int} {r:Int×Int} (hr:jL r):∀ i≤W.ns,jL (W.nowH ks hs r i)
 |0,_=>hr
 |i+1,h=>by
  have a:=hv.k i oO (ks i) (hks i oO)
  have l1:=AB (W.kf i (ks i)) (hs i) (W.nk i (ks i) - 1)
  have:=a.n1
  exact (a.k _ oO).2.2.1
end Go.AH.Heat
namespace Go.Proofs.YtajpgeklmcjciaaGreat
open Go Go.AH
attribute [local irreducible] cO bK bP jB gy dO fB bW eU aX dV eH
open Go.AH.Heat
theorem Dl {A B:Prop} (k:B) (h:Hide B→A:=by intro h_k_;(repeat' (first|refine sCm ?_|(refine gU ?_;first|(refine bV ?_;first|refine st (aK rfl (by first|exact aF (aA a0)|exact aF (aA a1)|exact aF a9|assumption)) rfl rfl ?_|refine st (bC rfl (by first|exact aV a0 rfl|exact aV a1 rfl|assumption)) rfl rfl ?_)|refine sK0 ?_|refine LJ ?_|(refine gIA ?_;first|refine st (nC rfl rfl (by omega)) rfl rfl ?_|refine st (iV rfl rfl (by omega)) rfl rfl ?_)|(refine dX ?_;refine st (bG rfl rfl rfl (by first|exact hf1|exact hf2|exact xq (l:=[hs i]) (.inr (.inl aO)) (by simp) (bD hniH rfl))) rfl rfl ?_)|refine Hr ?_|refine JU ?_)|refine dA (id:=7) ?_|refine dA (id:=12) ?_|refine aG ?_|refine dZ rfl ?_|refine eu rfl ?_));exact h_k_.h):A:=h ⟨k⟩
theorem Hz {σ:Heap} {W:Wk} {bB bS cB cS:Nat} {wB cW:Nat→Nat} {kB cK:Nat→Nat→Nat} {bar rb c:Nat} {ks:Nat→Nat} (hv:tY W) (hA:wM σ W bB bS wB cW kB cK) (hK:∀ i<W.ns,∀ k<W.nw i,W.nk i k≤cK i k) (hbar:bar<W.nb) (hks:∀ i<W.ns,ks i<W.nw i) (hrb:∀ i<W.ns,aH σ rb i=some (.i (ks i:Nat))) (hbB:bB < σ.length) (hbS:bS < σ.length) (hrl:rb < σ.length) (hni:σ.all (fun o=>!aU o)=true) {hb ch n:Nat} {hs:Nat→Int} (hn:W.ns=n+1) (hh:∀ i≤W.ns,aH σ hb i=some (.i (hs i))) (hhl:hb < σ.length) (hin:∀ i≤W.ns,(W.nowH ks hs (W.bf bar) i).1≤hs i∧hs i≤(W.nowH ks hs (W.bf bar) i).2) :
  Ev Tryz.prog 22 [.agg #[.s bB W.nb cB,.s bS W.ns cS],.agg #[.i (bar:Nat),.s rb W.ns c],.s hb (W.ns+1) ch] σ (.i 0) σ:=by
 have hnb3:=hv.b2
 have hns3:=hv.s
 refine aI σ.length 61 Tryz.func22 rfl rfl rfl rfl rfl ?_
 have a0:(σ++[aB.rw [.s bB W.nb cB,.s bS W.ns cS]]++[aB.rw [.i (bar:Nat),.s rb W.ns c]])[σ.length]?=some (.rw [.s bB W.nb cB,.s bS W.ns cS]):=aA aO
 have a1:(σ++[aB.rw [.s bB W.nb cB,.s bS W.ns cS]]++[aB.rw [.i (bar:Nat),.s rb W.ns c]])[(σ++[aB.rw [.s bB W.nb cB,.s bS W.ns cS]]).length]?=some (.rw [.i (bar:Nat),.s rb W.ns c]):=aO
 have hniH:(σ++[aB.rw [.s bB W.nb cB,.s bS W.ns cS]]++[aB.rw [.i (bar:Nat),.s rb W.ns c]]).all (fun o=>!aU o)=true:=bD (bD hni rfl) rfl
 have hp:(σ++[aB.rw [.s bB W.nb cB,.s bS W.ns cS]]++[aB.rw [.i (bar:Nat),.s rb W.ns c]]).take σ.length=σ:=oS
 have I:=take_len hp
 have j:∀ i<W.ns,aH (σ++[aB.rw [.s bB W.nb cB,.s bS W.ns cS]]++[aB.rw [.i (bar:Nat),.s rb W.ns c]]) rb i=some (.i (ks i:Nat)):=fun i hi=>by
  rw [cD,jO hrl];exact hrb i hi
 have hf1:=YB (σ:=σ++[aB.rw [.s bB W.nb cB,.s bS W.ns cS]]++[aB.rw [.i (bar:Nat),.s rb W.ns c]]) (cB:=cB) (cS:=cS) (c:=c) hv (hA.take hp) hK hbar hks j oO oO oO hniH
 have F:slN (σ++[aB.rw [.s bB W.nb cB,.s bS W.ns cS]]++[aB.rw [.i (bar:Nat),.s rb W.ns c]]).length W.ns=.s ((σ++[aB.rw [.slice (some ⟨bB,0,none⟩) W.nb cB,.slice (some ⟨bS,0,none⟩) W.ns cS]]++[aB.rw [.i (bar:Nat),.slice (some ⟨rb,0,none⟩) W.ns c]]).length) W.ns W.ns:=by rw [hn];rfl
 rw [F] at hf1
 have hd1:aJ (σ++[aB.rw [.s bB W.nb cB,.s bS W.ns cS]]++[aB.rw [.i (bar:Nat),.s rb W.ns c]]++[aB.rw (wyC W kB cK ks W.ns)]) bB (0+bar*2) 2=some [.i (W.bf bar).1,.i (W.bf bar).2]:=by rw [bA];exact (hA.take (aT hp)).bars bar hbar
 have hlen1:¬ (((W.ns+1:Nat):Int) ≠ ((W.ns:Nat):Int)+1):=oO
 refine Dl ?_
 obtain ⟨K,d⟩:∃ K,K=σ++[aB.rw [.s bB W.nb cB,.s bS W.ns cS]]++[aB.rw [.i (bar:Nat),.s rb W.ns c]]++[aB.rw (wyC W kB cK ks W.ns)]++[aB.rw [.i (W.bf bar).1,.i (W.bf bar).2]]:=⟨_,rfl⟩
 obtain ⟨wy,f⟩:∃ wy,wy=(σ++[aB.rw [.s bB W.nb cB,.s bS W.ns cS]]++[aB.rw [.i (bar:Nat),.s rb W.ns c]]).length:=⟨_,rfl⟩
 refine .mk (dH [(2,.s hb (W.ns+1) ch),(6,.i 0),(7,.s wy W.ns W.ns),(9,.p (wy+1))] K (by rw [d];rfl) ⟨rfl,rfl,by rw [f];rfl,by rw [f];simp [Env.get],trivial⟩ ?_)
 have hwl:wy=σ.length+2:=by rw [f];simp
 have E:K.take σ.length=σ:=by rw [d];exact aT (aT hp)
 have r:K.all (fun o=>!aU o)=true:=by rw [d];exact bD (bD hniH rfl) rfl
 have b7:K[wy]?=some (.rw (wyC W kB cK ks W.ns)):=by rw [d,f];exact aA aO
 have b9:K[wy+1]?=some (.rw [.i (W.bf bar).1,.i (W.bf bar).2]):=by rw [d,f];exact bJ oS
 clear hf1 a0 a1 hniH hp I j F hd1 d f
 apply aG
 refine Dl ?_
 refine dS (ι:=Nat) (fun i=>[(6,.i 0),(7,.s wy W.ns W.ns),(9,.p (wy+1)),(35,.s hb (W.ns+1) ch),(36,.i ((W.ns+1:Nat):Int)),(37,.i (i:Nat))])
  (fun i mk H=>i≤W.ns+1∧mk=[]∧H.take σ.length=σ∧H.all (fun o=>!aU o)=true∧H[wy]?=some (.rw (wyC W kB cK ks W.ns))∧∃ x y:Int,H[wy+1]?=some (.rw [.i x,.i y])∧(i≤W.ns→(x,y)=(W.nowH ks hs (W.bf bar) i))) (fun i=>W.ns+1 - i) 0 tE ⟨bN _,rfl,E,r,b7,_,_,b9,fun _=>rfl⟩ ?_
 clear E r b7 b9 K
 rintro i mk H ⟨hi,rfl,hp,hniH,b7,x,y,a9,t⟩
 by_cases hiN:i<W.ns+1
 ·have J:(i:Int)<((W.ns+1:Nat):Int):=oO
  have t:=t oO
  have q:=hin i oO
  rw [← t] at q
  have hd1:aH H hb i=some (.i (hs i)):=by
   have:=hh i oO
   unfold aH at this ⊢
   rw [iY hp hhl];exact this
  have L:¬ ¬ (∀ z ∈ [hs i],x≤z∧z≤y):=fun h=>h fun z hz=>by
   simp only [fc] at hz
   subst hz;exact q
  refine Dl ?_
  obtain ⟨H1,e⟩:∃ H1,H1=H++[aB.rw [.i (hs i)]]:=⟨_,rfl⟩
  refine .mk (dH [(6,.i 0),(7,.s wy W.ns W.ns),(9,.p (wy+1)),(10,.i (i:Nat)),(11,.i (hs i)),(35,.s hb (W.ns+1) ch),(36,.i ((W.ns+1:Nat):Int)),(37,.i (i:Nat))] H1 e.symm tE ?_)
  have hp1:H1.take σ.length=σ:=by rw [e];exact aT hp
  have g:H1.all (fun o=>!aU o)=true:=by rw [e];exact bD hniH rfl
  have c7:H1[wy]?=some (.rw (wyC W kB cK ks W.ns)):=by rw [e];exact aA b7
  have c9:H1[wy+1]?=some (.rw [.i x,.i y]):=by rw [e];exact aA a9
  clear e hd1 L a9 b7 hniH
  apply aG
  by_cases a:i<W.ns
  ·have C:(i:Int)<(W.ns:Nat):=oO
   have D:=hks i a
   have u:=hv.k i a _ D
   have hd1:=adB c7 a
   have G:0≤hs i:=by
    have:=afg hv hks (hs:=hs) (hv.b bar hbar) i oO
    rw [← t] at this
    have h1:0≤x:=this.1
    omega
   have hf2:=AL (σ:=H1) (c:=cK i (ks i)) (h:=hs i) u.n1 (by have:=u.n2;omega) (by rw [u.z];exact G) ((hA.take hp1).kinks i a (ks i) D)
   have m:∀ v w,putCells H1 (wy+1) 0 [v,w]=some (H1.set (wy+1) (.rw [v,w])):=fun v w=>fM c9 oS oS rfl
   refine Dl ?_
   refine stN (bU rfl rfl rfl rfl (by exact m _ _)) rfl ?_
   refine Dl ?_
   exact ⟨i+1,⟨oO,rfl,take_set hp1 oO,jZ g rfl,aC c7 oO,_,_,aS c9,fun _=>rfl⟩,oO,tE⟩
  ·have C:¬ (i:Int)<(W.ns:Nat):=oO
   refine Dl ?_
   exact ⟨i+1,⟨oO,rfl,hp1,g,c7,x,y,c9,fun h=>oO⟩,oO,tE⟩
 ·obtain rfl:i=W.ns+1:=oO
  have J:¬ ((W.ns+1:Nat):Int)<((W.ns+1:Nat):Int):=oO
  refine Dl ?_
  exact dK (.tmp rfl .nil) (.plain hp rfl) ⟨rfl,rfl⟩
end Go.Proofs.YtajpgeklmcjciaaGreat
namespace Go.Proofs.YtajpgeklmcjciaaGreat
open Go Go.AH
def stn:Value:=.agg #[.int .i64 3000,.int .i64 1500,.int .i64 10,.int .i64 540000,.int .i64 720000]
def pul:List Value:=[.int .i64 200,.int .i64 250,.int .i64 260,.int .i64 300,.int .i64 390]
def pul2:List Value:=[.int .i64 200,.int .i64 250,.int .i64 260,.int .i64 300,.int .i64 400]
def s5:Value:=.slice (some ⟨0,0,none⟩) 5 5
def knA0:Known:=⟨151,[stn,s5,.int .i64 0],[pul],.tuple #[.agg #[.int .i64 2710,.int .i64 3000],.int .i64 0],[]⟩
theorem afh:jy Tryz.prog knA0:=⟨lU (orc:=orc) tabOk nY mixed (n:=200) (lo:=1) oK,oK,oK⟩
def knA1:Known:=⟨151,[stn,s5,.int .i64 1],[pul],.tuple #[.agg #[.int .i64 2170,.int .i64 2870],.int .i64 0],[]⟩
theorem afi:jy Tryz.prog knA1:=⟨lU (orc:=orc) tabOk nY mixed (n:=200) (lo:=1) oK,oK,oK⟩
def knA2:Known:=⟨151,[stn,s5,.int .i64 2],[pul],.tuple #[.agg #[.int .i64 2087,.int .i64 2759],.int .i64 0],[]⟩
theorem afj:jy Tryz.prog knA2:=⟨lU (orc:=orc) tabOk nY mixed (n:=200) (lo:=1) oK,oK,oK⟩
def knA3:Known:=⟨151,[stn,s5,.int .i64 3],[pul],.tuple #[.agg #[.int .i64 1810,.int .i64 2390],.int .i64 0],[]⟩
theorem afk:jy Tryz.prog knA3:=⟨lU (orc:=orc) tabOk nY mixed (n:=200) (lo:=1) oK,oK,oK⟩
def knA4:Known:=⟨151,[stn,s5,.int .i64 4],[pul],.tuple #[.agg #[.int .i64 1500,.int .i64 1836],.int .i64 0],[]⟩
theorem afl:jy Tryz.prog knA4:=⟨lU (orc:=orc) tabOk nY mixed (n:=200) (lo:=1) oK,oK,oK⟩
def knG1:Known:=⟨152,[stn,s5],[pul],.tuple #[.int .i64 0,.int .i64 5],[]⟩
theorem afm:jy Tryz.prog knG1:=⟨lU (orc:=orc) tabOk nY mixed (n:=200) (lo:=1) oK,oK,oK⟩
def knG2:Known:=⟨152,[stn,s5],[pul2],.tuple #[.int .i64 1809,.int .i64 0],[]⟩
theorem afn:jy Tryz.prog knG2:=⟨lU (orc:=orc) tabOk nY mixed (n:=200) (lo:=1) oK,oK,oK⟩
def run4 (a b c d e f g h:Int):List Value:=[.int .i64 a,.int .i64 b,.int .i64 c,.int .i64 d,.int .i64 e,.int .i64 f,.int .i64 g,.int .i64 h]
def s4:Value:=.slice (some ⟨1,0,none⟩) 4 4
def knP:Known:=⟨14,[stn,s5],[pul],.tuple #[.slice (some ⟨1,0,none⟩) 4 4,.int .i64 0],[.rw [.int .i64 3000,.int .i64 0,.int .i64 2709,.int .i64 2,.int .i64 2086,.int .i64 3,.int .i64 1809,.int .i64 4]]⟩
theorem ahW:jy Tryz.prog knP:=⟨lU (orc:=orc) tabOk nY mixed (n:=200) (lo:=1) oK,oK,oK⟩
def knX:Known:=⟨154,[stn,s5],[pul],.tuple #[.slice (some ⟨1,0,none⟩) 4 4,.int .i64 0],[.rw [.int .i64 3000,.int .i64 2709,.int .i64 2086,.int .i64 1809]]⟩
theorem ahX:jy Tryz.prog knX:=⟨lU (orc:=orc) tabOk nY mixed (n:=200) (lo:=1) oK,oK,oK⟩
def knC1:Known:=⟨23,[stn,s5,s4],[pul,run4 3000 0 2800 1 2100 3 1836 4],.int .i64 19,[]⟩
theorem afo:jy Tryz.prog knC1:=⟨lU (orc:=orc) tabOk nY mixed (n:=200) (lo:=2) oK,oK,oK⟩
def knC2:Known:=⟨23,[stn,s5,s4],[pul,run4 3000 0 2800 1 2169 3 1836 4],.int .i64 0,[]⟩
theorem afp:jy Tryz.prog knC2:=⟨lU (orc:=orc) tabOk nY mixed (n:=200) (lo:=2) oK,oK,oK⟩
def knV:Known:=⟨15,[stn,s5,s4],[pul,run4 3000 0 2709 2 2086 3 1809 4],.tuple #[.agg #[.int .i64 540000,.int .i64 709410],.int .i64 0],[]⟩
theorem ahY:jy Tryz.prog knV:=⟨lU (orc:=orc) tabOk nY mixed (n:=200) (lo:=2) oK,oK,oK⟩
def knQ:Known:=⟨155,[stn,s5,.slice (some ⟨1,0,none⟩) 3 3],[pul,[.int .i64 3000,.int .i64 2800,.int .i64 2000]],.int .i64 14,[]⟩
theorem ahZ:jy Tryz.prog knQ:=⟨lU (orc:=orc) tabOk nY mixed (n:=200) (lo:=2) oK,oK,oK⟩
def knF1:Known:=⟨156,[stn,s5,.int .i64 1],[pul],.tuple #[.int .i64 2710,.int .i64 0],[]⟩
theorem afq:jy Tryz.prog knF1:=⟨lU (orc:=orc) tabOk nY mixed (n:=200) (lo:=1) oK,oK,oK⟩
def knF2:Known:=⟨156,[stn,s5,.int .i64 2],[pul],.tuple #[.int .i64 2087,.int .i64 0],[]⟩
theorem afr:jy Tryz.prog knF2:=⟨lU (orc:=orc) tabOk nY mixed (n:=200) (lo:=1) oK,oK,oK⟩
def knF4:Known:=⟨156,[stn,s5,.int .i64 4],[pul],.tuple #[.int .i64 1500,.int .i64 0],[]⟩
theorem afs:jy Tryz.prog knF4:=⟨lU (orc:=orc) tabOk nY mixed (n:=200) (lo:=1) oK,oK,oK⟩
def knK:Known:=⟨157,[stn,s5],[pul],.tuple #[.slice (some ⟨1,0,none⟩) 5 5,.int .i64 0],[.rw [.int .i64 2,.int .i64 1,.int .i64 1,.int .i64 2,.int .i64 2]]⟩
theorem ah0:jy Tryz.prog knK:=⟨lU (orc:=orc) tabOk nY mixed (n:=200) (lo:=1) oK,oK,oK⟩
def ksW:List Known:=[knA0,knA1,knA2,knA3,knA4,knG1,knG2,knP,knX,knC1,knC2,knV,knQ,knF1,knF2,knF4,knK]
theorem ah1:∀ k ∈ ksW,jy Tryz.prog k:=by intro k hk;simp only [ksW,List.mem_cons,List.not_mem_nil,or_false] at hk;rcases hk with rfl|rfl|rfl|rfl|rfl|rfl|rfl|rfl|rfl|rfl|rfl|rfl|rfl|rfl|rfl|rfl|rfl <;> first|exact afh|exact afi|exact afj|exact afk|exact afl|exact afm|exact afn|exact ahW|exact ahX|exact afo|exact afp|exact ahY|exact ahZ|exact afq|exact afr|exact afs|exact ah0
def knW:Known:=⟨67,[],[],.bool true,[]⟩
theorem ah2:jy Tryz.prog knW:=⟨lU (orc:=aaH orc (I8 ksW)) tabOk (aaI nY (MN ah1)) mixed (n:=200) (lo:=0) oK,oK,oK⟩
attribute [local irreducible] cO bK bP jB gy dO fB bW eU aX dV eH
open Go.AH.Heat Go.AH.Warp
theorem pR {σ X:Heap} {i:Nat} {cs:List Value} (h:dN σ i cs):dN (σ++X) i cs:=by
 rcases h with h|h|⟨t,h⟩
 ·exact .inl (aA h)
 ·exact .inr (.inl (aA h))
 ·exact .inr (.inr ⟨t,aA h⟩)
theorem jH {σ H:Heap} {i:Nat} {cs:List Value} (hp:H.take σ.length=σ) (h:dN σ i cs):dN H i cs:=by
 have hi:=jF h
 unfold dN at h ⊢
 rw [iY hp hi];exact h
theorem aap {n:Nat} {π:Rho} {a b a' b':Value} (h1:jG n π a a') (h2:jG n π b b'):jG n π (.agg #[a,b]) (.agg #[a',b']):=by
 refine .agg _ _ rfl fun i h _=>?_
 simp at h
 rcases (by omega:i=0∨i=1) with rfl|rfl
 ·exact h1
 ·exact h2
theorem Dn {σ:Heap} (hni:σ.all (fun o=>!aU o)=true):Ev Tryz.prog 12 [] σ (.bool true) σ:=by
 have hf1:Ev Tryz.prog 65 [] σ (.bool true) σ:=Ev.nil aan.1 rfl rfl hni
 have hf2:Ev Tryz.prog 66 [] σ (.bool true) σ:=Ev.nil aak.1 rfl rfl hni
 have hf3:Ev Tryz.prog 67 [] σ (.bool true) σ:=Ev.nil ah2.1 rfl rfl hni
 refine aI σ.length 8 Tryz.func12 rfl rfl rfl rfl rfl ?_
 repeat' (first|refine sCm ?_|(refine gU ?_;first|(refine nN ?_;refine st (kP rfl oR rfl) rfl rfl ?_)|(refine dX ?_;refine st (bG rfl rfl rfl (by exact hf1)) rfl rfl ?_))|(refine gG ?_;(refine dX ?_;refine stG rfl oR (bG rfl rfl rfl (by first|exact hf2|exact hf3)) rfl rfl ?_))|refine aG ?_)
 exact dK (.tmp rfl .nil) .all ⟨rfl,rfl⟩
theorem agl {A B:Prop} (k:B) (h:Hide B→A:=by intro h_k_;(repeat' (first|refine sCm ?_|(refine gU ?_;first|refine sK4 ?_|(refine gV ?_;refine stN (bU rfl rfl rfl rfl (by exact uZ rfl rfl)) rfl ?_))|refine aG ?_));exact h_k_.h):A:=h ⟨k⟩
theorem ah3 {σ:Heap} {lo hi:Int}:Ev Tryz.prog 131 [.i lo,.i hi] σ (.agg #[.i lo,.i hi]) σ:=by
 refine aI σ.length 8 Tryz.func131 rfl rfl rfl rfl rfl ?_
 refine agl ?_
 exact dK (.cellN inferInstance rfl (dU rfl) .nil) (aX.plain oS rfl) ⟨rfl,rfl⟩
theorem afu {σ:Heap} {k lo hi:Int}:Ev Tryz.prog 75 [.i k,.i lo,.i hi] σ (.agg #[.i k,.i lo,.i hi]) σ:=by
 refine aI σ.length 12 Tryz.func75 rfl rfl rfl rfl rfl ?_
 have hf1:=ah3 (σ:=σ++[aB.rw [.i 0,.i 0,.i 0]]) (lo:=lo) (hi:=hi)
 repeat' (first|refine sCm ?_|(refine gU ?_;first|refine sK4 ?_|(refine dX ?_;refine st (bG rfl rfl rfl (by exact hf1)) rfl rfl ?_)|(refine gV ?_;refine stN (bU rfl rfl rfl rfl (by exact uZ rfl rfl)) rfl ?_))|refine aG ?_)
 exact dK (.cellN inferInstance rfl (dU rfl) .nil) (aX.plain oS rfl) ⟨rfl,rfl⟩
theorem aaq {σ:Heap} {bar:Int} {b n c:Nat} (hb:b < σ.length):Ev Tryz.prog 19 [.i bar,.s b n c] σ (.agg #[.i bar,.s b n c]) σ:=by
 refine aI σ.length 8 Tryz.func19 rfl rfl rfl rfl rfl ?_
 refine agl ?_
 have h:=aX.src (σin:=σ) (σ:=σ++[aB.rw [.i bar,.s b n c]]) (v:=.agg #[.i bar,.s b n c]) (v2:=.agg #[.i bar,.s b n c]) [] [] oS rfl rfl trivial (aap (.i bar) (kV (by simp;omega) (fE hb) (aD _)))
 rw [bL] at h
 exact dK (.cellN inferInstance rfl (dU rfl) .nil) h ⟨rfl,rfl⟩
theorem agm {A B:Prop} (k:B) (h:Hide B→A:=by intro h_k_;(repeat' (first|refine sCm ?_|(refine gU ?_;first|refine sK0 ?_|(refine nN ?_;first|refine st (kP rfl (by exact fC (by assumption)) rfl) rfl rfl ?_|refine st (jA rfl (by exact dB (by assumption)) rfl) rfl rfl ?_))|(refine gG ?_;first|(refine zq ?_;refine stG rfl (by exact fC (by assumption)) (eP rfl) rfl rfl ?_)|(refine bV ?_;refine stG rfl (by exact fC (by assumption)) (bC rfl (by exact dU rfl)) rfl rfl ?_)|(refine BJ ?_;refine stG rfl (by exact fC (by assumption)) (jm rfl rfl rfl) rfl rfl ?_)|(refine dX ?_;refine stG rfl (by exact fC (by assumption)) (bG rfl rfl rfl (by exact hf1)) rfl rfl ?_)|refine stS rfl (by exact dB (by assumption)) rfl ?_)|refine aG ?_));exact h_k_.h):A:=h ⟨k⟩
theorem Xa {σ:Heap} {s:St} {l:List Int} {x c:Nat} (hx:dN σ x (ints l)) (hni:σ.all (fun o=>!aU o)=true) :
  Ev Tryz.prog 11 [s.val,.s x l.length c] σ (.bool (decide (l.length≤20∧iD s l=0))) σ:=by
 have hniH:(σ++[aB.rw s.cells]).all (fun o=>!aU o)=true:=bD hni rfl
 have hxl:x < σ.length:=jF hx
 have a:dN (σ++[aB.rw s.cells]) x (ints l):=pR hx
 have hf1:=rX (s:=s) (c:=c) a hniH
 refine aI σ.length 14 Tryz.func11 rfl rfl rfl rfl rfl ?_
 by_cases h1:(l.length:Int)≤20
 ·refine agm ?_
  refine dK (.tmp rfl .nil) (.plain oS rfl) ⟨?_,rfl⟩
  simp [jX];omega
 ·refine agm ?_
  refine dK (.tmp rfl .nil) (.plain oS rfl) ⟨?_,rfl⟩
  simp [jX];omega
theorem Uz {A B:Prop} (k:B) (h:Hide B→A:=by intro h_k_;(repeat' (first|refine sCm ?_|(refine gU ?_;first|(refine bV ?_;first|refine st (aK rfl (by first|exact ig rfl|exact aF a0|exact hd1|exact hd2)) rfl rfl ?_|refine st (bC rfl (by exact aV a0 rfl)) rfl rfl ?_)|refine sK0 ?_|(refine nN ?_;refine st (jA rfl (by exact dB (by assumption)) rfl) rfl rfl ?_)|refine sK1 ?_|(refine dX ?_;refine st (bG rfl rfl rfl (by exact hf1)) rfl rfl ?_))|(refine gG ?_;first|(refine gFA ?_;refine stG rfl (by exact dB (by assumption)) (bF rfl) rfl rfl ?_)|(refine bV ?_;refine stG rfl (by exact dB (by assumption)) (aK rfl (by exact ig rfl)) rfl rfl ?_)|refine SI ?_|(refine ER ?_;refine stG rfl (by exact dB (by assumption)) (lJ rfl) rfl rfl ?_))|refine aG ?_|refine sK2 ?_|refine sK6 ?_));exact h_k_.h):A:=h ⟨k⟩
theorem Xb {σ:Heap} {W:Wk} {bB bS cB cS:Nat} {wB cW:Nat→Nat} {kB cK:Nat→Nat→Nat} (hv:tY W) (hA:wM σ W bB bS wB cW kB cK) (hni:σ.all (fun o=>!aU o)=true) :
  Ev Tryz.prog 18 [.agg #[.s bB W.nb cB,.s bS W.ns cS]] σ (.bool true) σ:=by
 refine aI σ.length 56 Tryz.func18 rfl rfl rfl rfl rfl ?_
 have h2:=hv.b2
 have h3:=hv.s
 have a0:(σ++[aB.rw [.s bB W.nb cB,.s bS W.ns cS]])[σ.length]?=some (.rw [.s bB W.nb cB,.s bS W.ns cS]):=aO
 have hp:(σ++[aB.rw [.s bB W.nb cB,.s bS W.ns cS]]).take σ.length=σ:=oS
 have a:(σ++[aB.rw [.s bB W.nb cB,.s bS W.ns cS]]).all (fun o=>!aU o)=true:=bD hni rfl
 have c:=hA.take hp
 have hn3:¬ (W.nb:Int) > 10:=oO
 have hn4:¬ (W.ns:Int) > 10:=oO
 refine Uz ?_
 obtain ⟨K,hK⟩:∃ K,K=σ++[aB.rw [.s bB W.nb cB,.s bS W.ns cS]]:=⟨_,rfl⟩
 rw [← hK] at a0 hp a c
 refine dS (ι:=Nat) (fun k=>[(1,.p σ.length),(3,.i (k:Nat))]) (fun k mk H=>k≤W.ns∧mk=[]∧H=K) (fun k=>W.ns - k) 0 tE ⟨bN _,rfl,hK.symm⟩ ?_
 rintro i mk H ⟨hi,rfl,rfl⟩
 by_cases d:i<W.ns
 ·have f:(i:Int)<(W.ns:Nat):=oO
  have hd1:aH H bS (i+0)=some (.s (wB i) (W.nw i) (cW i)):=fQ (k:=0) (c.steps i d) oO
  have hw2:=hv.w2 i d
  have hw3:¬ ((W.nw i:Nat):Int) > 10:=oO
  refine Uz ?_
  refine dS (ι:=Nat) (fun k=>[(1,.p σ.length),(3,.i (i:Nat)),(4,.i (k:Nat))]) (fun k mk K=>k≤W.nw i∧mk=[]∧K=H) (fun k=>W.nw i - k) 0 tE ⟨bN _,rfl,rfl⟩ ?_
  rintro k mk K ⟨hk,rfl,rfl⟩
  by_cases e:k<W.nw i
  ·have g:(k:Int)<(W.nw i:Nat):=oO
   have hd2:aH K (wB i) (k+0)=some (.s (kB i k) (W.nk i k) (cK i k)):=fQ (k:=0) (c.ways i d k e) oO
   have hk2:=(hv.k i d k e).n2
   have hk3:¬ ((W.nk i k:Nat):Int) > 20:=oO
   refine Uz ?_
   exact ⟨k+1,⟨oO,rfl,rfl⟩,oO,tE⟩
  ·obtain rfl:k=W.nw i:=oO
   have g:¬ ((W.nw i:Nat):Int)<(W.nw i:Nat):=oO
   refine Uz ?_
   exact ⟨i+1,⟨oO,rfl,rfl⟩,oO,tE⟩
 ·obtain rfl:i=W.ns:=oO
  have f:¬ ((W.ns:Nat):Int)<(W.ns:Nat):=oO
  have hf1:=He (cB:=cB) (cS:=cS) hv c a
  refine Uz ?_
  exact dK (.tmp rfl .nil) (.plain hp rfl) ⟨rfl,rfl⟩
theorem Qz {A B:Prop} (k:B) (h:Hide B→A:=by intro h_k_;(repeat' (first|refine sCm ?_|(refine gU ?_;first|(refine bV ?_;refine st (bC rfl (by rfl)) rfl rfl ?_)|refine sK0 ?_|refine PD ?_|(refine dX ?_;refine st (bG rfl rfl rfl (by exact rX (by exact .inl rfl) rfl)) rfl rfl ?_))|(refine gG ?_;first|refine JQ ?_|refine sK9 ?_|refine LP ?_)|refine aG ?_|refine dZ rfl ?_|refine eu rfl ?_));exact h_k_.h):A:=h ⟨k⟩
theorem UA (s:St) (l:List Int) (c:Nat) (pl:List (Int×Int)) (c2:Nat) (h:iD s l ≠ 0) :
  Ev Tryz.prog 13 [s.val,.s 0 l.length c,.s 1 pl.length c2] [.ro (ints l),.ro (dI pl)] (.i (iD s l)) [.ro (ints l),.ro (dI pl)]:=by
 refine aI 2 122 Tryz.func13 rfl rfl rfl rfl rfl ?_
 refine Qz ?_
 refine dK (.tmp rfl .nil) (.plain rfl rfl) ⟨rfl,rfl⟩
theorem QA (s:St) (l:List Int) (c:Nat) (pl:List (Int×Int)) (c2:Nat) (h:iD s l=0) (hp:pl.length<1∨pl.length > 20) :
  Ev Tryz.prog 13 [s.val,.s 0 l.length c,.s 1 pl.length c2] [.ro (ints l),.ro (dI pl)] (.i 6) [.ro (ints l),.ro (dI pl)]:=by
 refine aI 2 122 Tryz.func13 rfl rfl rfl rfl rfl ?_
 repeat' (first|refine sCm ?_|(refine gU ?_;first|(refine bV ?_;refine st (bC rfl oR) rfl rfl ?_)|refine sK0 ?_|(refine nN ?_;first|refine st (jr rfl rfl) rfl rfl ?_|refine st (jv rfl rfl) rfl rfl ?_)|(refine dX ?_;refine st (bG rfl rfl rfl (by exact rX (by exact .inl rfl) rfl)) rfl rfl ?_))|(refine gG ?_;first|refine JQ ?_|refine sK9 ?_|refine LP ?_|refine SK rfl rfl ?_|((fail_if_success (refine stGkA rfl ?_));(refine zQ rfl ?_ ?_ <;> intro _)))|refine aG ?_|refine dZ rfl ?_|refine eu rfl ?_)
 all_goals refine dK (.tmp rfl .nil) (.plain rfl rfl) ⟨rfl,rfl⟩
theorem UC (s:St) (l:List Int) (c:Nat) (pl:List (Int×Int)) (c2:Nat) (h:iD s l=0) (hp1:1≤pl.length) (hp2:pl.length≤20) :
  Ev Tryz.prog 13 [s.val,.s 0 l.length c,.s 1 pl.length c2] [.ro (ints l),.ro (dI pl)] (.i (if someB pl.length (kS s l pl)=true then 3 else if someB pl.length (nI s l pl)=true then 19 else 0)) [.ro (ints l),.ro (dI pl)]:=by
 obtain ⟨h12,h1,hs,ht⟩:=mX h
 have r:=J3 ht
 have hs1:1≤s.short:=by unfold fA at hs;omega
 have o:s.short≤s.long:=by unfold fA at hs;omega
 have hs3:s.long≤100000:=by unfold fA at hs;omega
 refine aI 2 122 Tryz.func13 rfl rfl rfl rfl rfl ?_
 refine Qz ?_
 refine iM (ι:=Nat) (fun i=>[(1,.s 0 l.length c),(2,.s 1 pl.length c2),(3,.p 2),(7,.i (i:Int))])
  (fun _=>[.ro (ints l),.ro (dI pl),.rw s.cells]) (fun i=>pl.length - i) (fun i=>i≤pl.length∧∀ j<i,¬ kS s l pl j) 0 oS (.same tE) ⟨oO,fun j hj=>oO⟩ ?_
 rintro i ⟨hi,d⟩
 have hc1:i<pl.length→aH [.ro (ints l),.ro (dI pl),.rw s.cells] 1 (0+i*2+0)=some (.i (gp pl i).1):=fun h=>by simpa [aH] using rY h
 have hc2:i<pl.length→aH [.ro (ints l),.ro (dI pl),.rw s.cells] 1 (0+i*2+1)=some (.i (gp pl i).2):=fun h=>by simpa [aH] using Bq h
 have m:(0<i∧i<pl.length)→aH [.ro (ints l),.ro (dI pl),.rw s.cells] 1 (0+((i:Int) - 1).toNat*2+0)=some (.i (gp pl (i - 1)).1):=fun h=>by
  rw [show ((i:Int) - 1).toNat=i - 1 from by omega]
  simpa [aH] using rY (pl:=pl) (i:=i - 1) oO
 repeat' (first|refine sCm ?_|(refine gU ?_;refine sK0 ?_)|(refine fU ?_;first|refine JO ?_|(refine ET ?_;refine frA (jm rfl rfl rfl) rfl ?_)|(refine DJ ?_;first|refine frA (jr rfl rfl) rfl ?_|refine frA (jv rfl rfl) rfl ?_))|(refine fG ?_;first|(refine qV ?_;refine pW rfl (eP rfl) rfl ?_)|(refine fFA ?_;refine pW rfl (bF rfl) rfl ?_)|(refine gB ?_;refine pW rfl (aK rfl (by first|rfl|exact hc1 oO|exact hc2 oO|exact m oO)) rfl ?_)|(refine fSub ?_;refine pW rfl (yI rfl rfl oO oO) rfl ?_)|(refine ET ?_;refine pW rfl (jm rfl rfl rfl) rfl ?_)|(refine Rk ?_;refine pW rfl (lJ rfl) rfl ?_)|(refine DJ ?_;first|refine pW rfl (jr rfl rfl) rfl ?_|refine pW rfl (jv rfl rfl) rfl ?_)|(refine fIA ?_;first|refine pW rfl (iV rfl rfl oO) rfl ?_|refine pW rfl (ny rfl rfl oO oO) rfl ?_)|refine frSU rfl rfl ?_|refine abW rfl rfl ?_|((fail_if_success (refine frGkA rfl ?_));(refine aaO rfl ?_ ?_ <;> intro _)))|(refine fP ⟨oK,?_⟩)|refine aG ?_|refine sK5 ?_|refine dZ rfl ?_|(refine iR rfl ?_ ?_ <;> intro _))
 any_goals (first|(refine dK (.tmp rfl .nil) (.plain rfl rfl) ⟨?_,rfl⟩;rw [if_pos (ql (i:=i) oO (by unfold kS;omega))];rfl)|exact ⟨rfl,i+1,⟨oO,wX d (by unfold kS;omega)⟩,oO,.same tE⟩|skip)
 have a:∀ j<pl.length,¬ kS s l pl j:=fun j hj=>d j oO
 clear hc1 hc2 m d
 rw [if_neg (by rw [mW a];simp)]
 refine iM (ι:=Nat) (fun i=>[(1,.s 0 l.length c),(2,.s 1 pl.length c2),(3,.p 2),(8,.i (i:Int))])
  (fun _=>[.ro (ints l),.ro (dI pl),.rw s.cells]) (fun i=>pl.length - i) (fun i=>i≤pl.length∧∀ j<i,¬ nI s l pl j) 0 oS (.same tE) ⟨oO,fun j hj=>oO⟩ ?_
 clear hi
 rintro i ⟨hi,d⟩
 have hb:∀ i<pl.length,-1000000≤(gp pl i).1∧(gp pl i).1≤1000000:=fun i hi=>by have:=nJ a i hi;omega
 by_cases g:i<pl.length
 ·have hr:=nJ a i g
  have he:=PZ o a g
  have hk:(gp pl i).2.toNat<l.length:=oO
  have hn:=r _ hk
  have q:s.short≤(gp pl i).1∧(gp pl i).1≤s.long:=oO
  have n:s.short≤wC s.short pl i∧wC s.short pl i≤s.long:=oO
  have hc1:aH [.ro (ints l),.ro (dI pl),.rw s.cells] 1 (0+i*2+0)=some (.i (gp pl i).1):=by simpa [aH] using rY g
  have hc2:aH [.ro (ints l),.ro (dI pl),.rw s.cells] 1 (0+i*2+1)=some (.i (gp pl i).2):=by simpa [aH] using Bq g
  have m:aH [.ro (ints l),.ro (dI pl),.rw s.cells] 0 (0+(gp pl i).2.toNat*1)=some (.i (gi l (gp pl i).2.toNat)):=by simpa [aH] using gQ hk
  have f:=ach hs hk hn q
  have e:=ach hs hk hn n
  repeat' (first|refine sCm ?_|(refine gU ?_;first|(refine bV ?_;refine st (aK rfl oA) rfl rfl ?_)|refine sK0 ?_|(refine gIA ?_;first|refine st (iV rfl rfl oO) rfl rfl ?_|refine st (ny rfl rfl oO oO) rfl rfl ?_))|(refine fU ?_;first|refine JO ?_|(refine fFA ?_;refine frA (bF rfl) rfl ?_)|(refine gB ?_;first|refine frA (aK rfl oA) rfl ?_|refine frA (bC rfl oR) rfl ?_)|(refine DJ ?_;first|refine frA (jr rfl rfl) rfl ?_|refine frA (jv rfl rfl) rfl ?_)|(refine ad2 ?_;refine frA (AZ rfl) rfl ?_)|(refine fIA ?_;refine frA (iV rfl rfl oO) rfl ?_)|(refine qE ?_;refine frA (bG rfl rfl rfl (by exact Ei oA oA oA rfl)) rfl ?_))|(refine fG ?_;first|(refine qV ?_;refine pW rfl (eP rfl) rfl ?_)|(refine gB ?_;refine pW rfl (bC rfl oR) rfl ?_)|(refine ad2 ?_;refine pW rfl (AZ rfl) rfl ?_)|(refine qE ?_;refine pW rfl (bG rfl rfl rfl (by first|exact Ei oA oA oA rfl|exact NI (by exact .inl rfl) oO oO oA rfl)) rfl ?_)|refine abW rfl rfl ?_|((fail_if_success (refine frGkA rfl ?_));(refine aaO rfl ?_ ?_ <;> intro _)))|(refine fP ⟨oK,?_⟩)|refine aG ?_|refine sK5 ?_|refine dZ rfl ?_|(refine iR rfl ?_ ?_ <;> intro _))
  ·rename_i hq
   refine dK (.tmp rfl .nil) (.plain rfl rfl) ⟨?_,rfl⟩
   rw [if_pos (ql g (fun h=>hq (f.1 h.1)))];rfl
  ·rename_i hq0 hq
   refine dK (.tmp rfl .nil) (.plain rfl rfl) ⟨?_,rfl⟩
   rw [if_pos (ql g (fun h=>hq (e.1 h.2)))];rfl
  ·rename_i hq0 hq
   exact ⟨rfl,i+1,⟨oO,wX d (fun h=>h ⟨f.2 (Classical.not_not.1 hq0),e.2 (Classical.not_not.1 hq)⟩)⟩,oO,.same tE⟩
 ·refine Qz ?_
  refine dK (.tmp rfl .nil) (.plain rfl rfl) ⟨?_,rfl⟩
  rw [if_neg (by rw [mW fun j hj=>d j oO];simp)];rfl
theorem Xc (s:St) (l:List Int) (c:Nat) (pl:List (Int×Int)) (c2:Nat) :
  Ev Tryz.prog 13 [s.val,.s 0 l.length c,.s 1 pl.length c2] [.ro (ints l),.ro (dI pl)] (.i (rZ s l pl)) [.ro (ints l),.ro (dI pl)]:=by
 unfold rZ
 by_cases h:iD s l=0
 ·rw [if_neg oO]
  by_cases hp:pl.length<1∨pl.length > 20
  ·rw [if_pos hp];exact QA s l c pl c2 h hp
  ·rw [if_neg hp];exact UC s l c pl c2 h oO oO
 ·rw [if_pos h];exact UA s l c pl c2 h
theorem Lm {σ:Heap} {s:St} {l:List Int} {pl:List (Int×Int)} {x y c c2:Nat} (hx:dN σ x (ints l)) (hy:dN σ y (dI pl)) (hni:σ.all (fun o=>!aU o)=true) :
  Ev Tryz.prog 13 [s.val,.s x l.length c,.s y pl.length c2] σ (.i (rZ s l pl)) σ :=
 Ev.arrs [ints l,dI pl] [x,y] (Xc s l c pl c2) ⟨hx,hy,trivial⟩
  ⟨aY _ rfl,by simpa [bsR] using VQ.slice (q:=true) (n:=2) (ρ:=bsR [x,y]) 0 0 l.length c c (aD _) oO,by simpa [bsR] using VQ.slice (q:=true) (n:=2) (ρ:=bsR [x,y]) 1 0 pl.length c2 c2 (aD _) oO,trivial⟩ (by simp [aZ,gW]) rfl hni
theorem Lp (l:List Int):∀ k j,j<k→minN l k≤gi l j∧gi l j≤J7 l k
 |0,j,h=>by omega
 |k+1,j,h=>by
  simp only [minN,J7]
  by_cases hk:k=0
  ·subst hk
   obtain rfl:j=0:=oO
   simp
  ·by_cases hj:j=k
   ·subst hj
    simp only [hk,if_false]
    omega
   ·have:=Lp l k j oO
    simp only [hk,if_false]
    omega
theorem YK {a b:List Int} {i:Nat} (h:i<a.length):gi (a++b) i=gi a i:=by
 unfold gi;rw [cE,cE,bR h]
theorem UD {a b:List Int} {i:Nat}:gi (a++b) (a.length+i)=gi b i:=by
 unfold gi;rw [cE,cE,bE oO,Nat.add_sub_cancel_left]
theorem YL {s:St} {l:List Int} {pl:List (Int×Int)}:∀ {n j:Nat},j<n→gi (allL s l pl n) (j*2)=gi l (gp pl j).2.toNat*((gp pl j).1+s.off)∧gi (allL s l pl n) (j*2+1)=gi l (gp pl j).2.toNat*(wC s.short pl j - s.off)
 |0,j,h=>by omega
 |n+1,j,h=>by
  have hl:=tN s l pl n
  simp only [allL]
  by_cases hj:j<n
  ·rw [YK oO,YK oO]
   exact YL hj
  ·obtain rfl:j=n:=oO
   rw [show j*2=(allL s l pl j).length+0 by omega,show (allL s l pl j).length+0+1=(allL s l pl j).length+1 by omega,UD,UD]
   exact ⟨rfl,rfl⟩
def Gm (s:St) (l:List Int) (pl:List (Int×Int)):Int×Int:=(minN (allL s l pl pl.length) (pl.length*2),J7 (allL s l pl pl.length) (pl.length*2))
theorem afv {s:St} {l:List Int} {pl:List (Int×Int)} {j:Nat} (hj:j<pl.length) {x:Int} (ht:0≤gi l (gp pl j).2.toNat) (h1:wC s.short pl j - s.off≤x) (h2:x≤(gp pl j).1+s.off) :
  (Gm s l pl).1≤x*gi l (gp pl j).2.toNat∧x*gi l (gp pl j).2.toNat≤(Gm s l pl).2:=by
 obtain ⟨e1,e2⟩:=YL (s:=s) (l:=l) (pl:=pl) hj
 have h3:=(Lp (allL s l pl pl.length) (pl.length*2) (j*2+1) oO).1
 have h4:=(Lp (allL s l pl pl.length) (pl.length*2) (j*2) oO).2
 rw [e2,Int.mul_comm] at h3
 rw [e1,Int.mul_comm] at h4
 have h5:=Int.mul_le_mul_of_nonneg_right h1 ht
 have h6:=Int.mul_le_mul_of_nonneg_right h2 ht
 exact ⟨Int.le_trans h3 h5,Int.le_trans h6 h4⟩
theorem QC {σ:Heap} {s:St} {l:List Int} {pl:List (Int×Int)} {x y c c2:Nat} (hx:dN σ x (ints l)) (hy:dN σ y (dI pl)) (hr:-9223372036854775808≤s.short∧s.short≤9223372036854775807) (h:rZ s l pl=0) (hni:σ.all (fun o=>!aU o)=true) :
  Ev Tryz.prog 15 [s.val,.s x l.length c,.s y pl.length c2] σ (.tuple #[af8 (Gm s l pl),.i 0]) σ :=
 Ev.arrs [ints l,dI pl] [x,y] (P8 s l c pl c2 hr h) ⟨hx,hy,trivial⟩
  ⟨aY _ rfl,by simpa [bsR] using VQ.slice (q:=true) (n:=2) (ρ:=bsR [x,y]) 0 0 l.length c c (aD _) oO,by simpa [bsR] using VQ.slice (q:=true) (n:=2) (ρ:=bsR [x,y]) 1 0 pl.length c2 c2 (aD _) oO,trivial⟩ (by simp [aZ,gW]) rfl hni
end Go.Proofs.YtajpgeklmcjciaaGreat
namespace Go.AH.Heat
open Go Go.AH
def iL (t:Int) (q:Nat):Int×Int×Int:=(84*(q:Int),min 1000 ((100*(84*(q:Int))*t).tdiv 1000000),min 1000 (((100*(84*((q+1:Nat):Int)) - 1)*t).tdiv 1000000))
def jP (kf:Nat→Int×Int×Int):Nat→List Value
 |0=>[]
 |n+1=>jP kf n++jh (kf n)
theorem sQ (kf:Nat→Int×Int×Int):∀ n,(jP kf n).length=n*3
 |0=>rfl
 |n+1=>by rw [jP,aR,sQ kf n];simp [jh];omega
theorem EF (kf:Nat→Int×Int×Int):∀ n,dL (jP kf n)=true
 |0=>rfl
 |n+1=>by rw [jP,nV,EF kf n];rfl
theorem Om {kf:Nat→Int×Int×Int}:∀ {n q:Nat},q<n→((jP kf n).drop (q*3)).take 3=jh (kf q)
 |0,q,h=>by omega
 |n+1,q,h=>by
  have hl:=sQ kf n
  rw [jP]
  by_cases hq:q<n
  ·rw [fS oO,fp (by rw [e6];omega)]
   exact Om hq
  ·obtain rfl:q=n:=oO
   rw [List.drop_append,eL oO,hl,cY]
   simp [jh]
theorem QD {H:Heap} {b n q:Nat} {kf:Nat→Int×Int×Int} (h:H[b]?=some (.rw (jP kf n))) (hq:q<n):aJ H b (q*3) 3=some (jh (kf q)):=by
 have hl:=sQ kf n
 unfold aJ
 rw [h]
 have hb:Nat.ble (q*3+3) (jP kf n).length=true:=by rw [hl,Nat.ble_eq];omega
 simp only [hb,cond_true,Om hq]
theorem UE {t:Int} (ht:1≤t∧t≤10000) (q:Nat):100*(84*(q:Int))*t=8400*((q:Int)*t)∧(100*(84*((q+1:Nat):Int)) - 1)*t=8400*((q:Int)*t)+8399*t∧0≤(q:Int)*t:=by
 refine ⟨by rw [show (100:Int)*(84*(q:Int))=8400*(q:Int) by omega,Int.mul_assoc],?_,er oO oO⟩
 rw [show (100*(84*((q+1:Nat):Int)) - 1)=8400*(q:Int)+8399 by omega,Int.add_mul,Int.mul_assoc]
theorem EG {t:Int} (ht:1≤t∧t≤10000) (q:Nat):iL t q=(84*(q:Int),min 1000 (8400*((q:Int)*t) / 1000000),min 1000 ((8400*((q:Int)*t)+8399*t) / 1000000)):=by
 obtain ⟨h1,h2,h3⟩:=UE ht q
 unfold iL
 rw [h1,h2,cJ oO,cJ oO]
theorem adC {t:Int} (ht:1≤t∧t≤10000):ZQ 12 (iL t):=by
 refine ⟨oO,oO,by simp [iL],fun q hq=>?_,fun q hq=>?_⟩
 all_goals
  have h0:0≤(q:Int)*t:=er oO oO
  have h1:((q+1:Nat):Int)*t=(q:Int)*t+t:=by rw [Int.natCast_add,Int.add_mul];omega
  rw [EG ht,EG ht,h1]
  generalize (q:Int)*t=p at h0 ⊢
 ·simp only [jL];omega
 ·dsimp only;omega
end Go.AH.Heat
namespace Go.Proofs.YtajpgeklmcjciaaGreat
open Go Go.AH
attribute [local irreducible] cO bK bP jB gy dO fB bW eU aX dV eH
open Go.AH.Heat Go.AH.Warp
theorem aar {n:Nat} {π:Rho} {a a':Value} (h1:jG n π a a'):jG n π (.agg #[a]) (.agg #[a']):=by
 refine .agg _ _ rfl fun i h _=>?_
 simp at h
 subst h
 exact h1
theorem UF {A B:Prop} (k:B) (h:Hide B→A:=by intro h_k_;(repeat' (first|refine sCm ?_|(refine gU ?_;first|refine st (iQ (by rfl) (by rfl) rfl (by exact hgX _) (by exact hgl) rfl (by exact hcl2) (by omega) (by exact hone) (by omega) (by decide)) rfl rfl ?_|refine st (wF (by rfl) rfl rfl (by exact hcl2) (by omega) (by exact hone) (by omega) (by decide)) rfl rfl ?_|(refine bV ?_;refine st (bC rfl (by exact aV a3 rfl)) rfl rfl ?_)|(refine aaL ?_;refine st (zL rfl rfl (by omega) (by omega)) rfl rfl ?_)|refine sK0 ?_|(refine gV ?_;refine stN (bU rfl rfl rfl rfl (by first|exact hput _ _ _|exact hputr _)) rfl ?_))|(refine fU ?_;first|refine fFA ?_;refine frA (bF rfl) rfl ?_ hcl3|refine gB ?_;refine frA (aK rfl (by exact hq1 _)) rfl ?_ hc1|refine qV ?_;refine frA (eP rfl) rfl ?_ rfl|refine qE ?_;refine frA (bG rfl rfl rfl (by exact hfa _)) rfl ?_ rfl|refine LK ?_|(refine fMul ?_;refine fr (zL rfl rfl (by omega) (by omega)) (by rfl) rfl ?_)|(refine ET ?_;refine fr (Ac rfl rfl (by omega) (by omega) (by omega)) (by rfl) rfl ?_)|refine VP ?_|refine VR ?_)|(refine fP ⟨by kernel_rfl,?_⟩)|refine dA (id:=6) ?_|refine aG ?_|refine sK2 ?_|refine nZ rfl (by rfl) ?_));exact h_k_.h):A:=h ⟨k⟩
theorem aas {σ:Heap} {t:Int} (ht:1≤t∧t≤10000):Ev Tryz.prog 17 [.i t] σ (.agg #[.s σ.length 12 12]) (σ++[.rw (jP (iL t) 12)]):=by
 refine aI σ.length 37 Tryz.func17 rfl rfl rfl rfl rfl ?_
 refine UF ?_
 refine dS (ι:=Nat×Nat) (fun k=>[(0,.i t),(2,.p σ.length),(3,.p (σ.length+1)),(4,.i (k.1:Nat))])
  (fun k mk H=>k.1≤12∧mk=[]∧H.take σ.length=σ∧H[σ.length]?=some (.rw [.slice none 0 0])∧((k.1=0∧H[σ.length+1]?=some (.rw [.slice none 0 0]))∨(0<k.1∧σ.length+2≤k.2∧H[σ.length+1]?=some (.rw [dW k.2 3 k.1])∧H[k.2]?=some (.gr (jP (iL t) k.1) 148)))) (fun k=>12 - k.1) (0,0) ⟨rfl,rfl,(by (refine congrArg (fun n=>some (Value.p n)) ?_;simp;try omega)),rfl,trivial⟩ ⟨bN _,rfl,by simp,aA aO,.inl ⟨rfl,bJ oS⟩⟩ ?_
 rintro ⟨k,gb⟩ mk H ⟨hk,rfl,hp,h0,hb⟩
 dsimp only at hk hb ⊢
 have j:σ.length+2≤H.length:=by rcases hb with ⟨_,h⟩|⟨_,_,h,_⟩ <;> exact aQ h
 by_cases hkn:k<12
 ·have g:(k:Int)<12:=oO
  obtain ⟨m1,m2,m3⟩:=UE ht k
  have m4:(k:Int)*t≤12*10000:=fo oO ht.2 oO oO
  have c:(iL t k).1=84*(k:Int):=rfl
  have e:(iL t k).2.1=min 1000 ((100*(84*(k:Int))*t).tdiv 1000000):=rfl
  have d:(iL t k).2.2=min 1000 (((100*(84*((k+1:Nat):Int)) - 1)*t).tdiv 1000000):=rfl
  have q1:0≤(100*(84*(k:Int))*t).tdiv 1000000∧(100*(84*(k:Int))*t).tdiv 1000000≤1000000:=by rw [m1,cJ oO];omega
  have q2:0≤((100*(84*((k+1:Nat):Int)) - 1)*t).tdiv 1000000∧((100*(84*((k+1:Nat):Int)) - 1)*t).tdiv 1000000≤1000000:=by rw [m2,cJ oO];omega
  have m5:0≤100*(84*(k:Int))*t∧100*(84*(k:Int))*t≤2000000000:=oO
  have m6:0≤(100*(84*((k+1:Nat):Int)) - 1)*t∧(100*(84*((k+1:Nat):Int)) - 1)*t≤2000000000:=oO
  refine UF ?_
  refine .mk (dH [(0,.i t),(2,.p σ.length),(3,.p (σ.length+1)),(4,.i (k:Nat)),(5,.i (84*(k:Int))),(6,.i (84*((k+1:Nat):Int)))] H rfl tE ?_)
  have hfa:=fun X=>afu (σ:=H++X) (k:=(iL t k).1) (lo:=(iL t k).2.1) (hi:=(iL t k).2.2)
  rw [c,e,d] at hfa
  have hcl3:∀ {o:Nat},closed H.length (.pointer (some ⟨σ.length+1,o,none⟩))=true:=fun {o}=>Nat.blt_eq.mpr j
  have f:jP (iL t) (k+1)=jP (iL t) k++[.i (84*(k:Int)),.i (min 1000 ((100*(84*(k:Int))*t).tdiv 1000000)),.i (min 1000 (((100*(84*((k+1:Nat):Int)) - 1)*t).tdiv 1000000))]:=rfl
  clear c e d
  clear m1 m2 m3 m4
  have hone:([.i (84*(k:Int)),.i (min 1000 ((100*(84*(k:Int))*t).tdiv 1000000)),.i (min 1000 (((100*(84*((k+1:Nat):Int)) - 1)*t).tdiv 1000000))]:List Value).all (·.oneCell')=true:=rfl
  have hcl2:aJ (H++[aB.rw [.i (84*(k:Int)),.i (min 1000 ((100*(84*(k:Int))*t).tdiv 1000000)),.i (min 1000 (((100*(84*((k+1:Nat):Int)) - 1)*t).tdiv 1000000))]]) (H++([]:Heap)).length 0 (1*3)=some [.i (84*(k:Int)),.i (min 1000 ((100*(84*(k:Int))*t).tdiv 1000000)),.i (min 1000 (((100*(84*((k+1:Nat):Int)) - 1)*t).tdiv 1000000))]:=by rw [bL];exact dU rfl
  rcases hb with ⟨rfl,a⟩|⟨hk0,m,a,hg⟩
  ·have hq1:∀ X,aH (H++X) (σ.length+1) (0+0)=some (.slice none 0 0):=fun X=>aF (aA a)
   have hc1:closed H.length (.slice none 0 0)=true:=rfl
   have hput:∀ (X:Heap) (A:aB) v,putCells (H++[A]++X) (σ.length+1) (0+0) [v]=some ((H++[A]++X).set (σ.length+1) (.rw [v])):=fun X A v=>fM (aA (aA a)) oS oS rfl
   refine eY oK rfl ?_
   refine UF ?_
   refine ⟨(0+1,(H++[aB.rw [.i (84*((0:Nat):Int)),.i (min 1000 ((100*(84*((0:Nat):Int))*t).tdiv 1000000)),.i (min 1000 (((100*(84*((0+1:Nat):Int)) - 1)*t).tdiv 1000000))]]).length+1),⟨by dsimp only;omega,rfl,take_set (aT (aT hp)) oO,aC (aA (aA h0)) oO,.inr ⟨by dsimp only;omega,by simp;omega,aS (aA (aA a)),?_⟩⟩,by dsimp only;omega,tE⟩
   refine aC ?_ (by simp;omega)
   exact wI
  ·have hq1:∀ X,aH (H++X) (σ.length+1) (0+0)=some (dW gb 3 k):=fun X=>aF (aA a)
   have hc1:closed H.length (dW gb 3 k)=true:=kG (Nat.blt_eq.mpr (aQ hg))
   have hgX:∀ A:aB,(H++[A])[gb]?=some (.gr (jP (iL t) k) 148):=fun A=>aA hg
   have hgl:(jP (iL t) k).length=k*3:=sQ _ _
   have hput:∀ (X:Heap) (A:aB) v,putCells ((H++[A]).set gb .dead++X) (σ.length+1) (0+0) [v]=some (((H++[A]).set gb .dead++X).set (σ.length+1) (.rw [v])):=fun X A v=>fM (aA (aC (aA a) oO)) oS oS rfl
   refine eY oK rfl ?_
   refine UF ?_
   refine ⟨(k+1,(H++[aB.rw [.i (84*(k:Int)),.i (min 1000 ((100*(84*(k:Int))*t).tdiv 1000000)),.i (min 1000 (((100*(84*((k+1:Nat):Int)) - 1)*t).tdiv 1000000))]]).length),⟨by dsimp only;omega,rfl,take_set (aT (take_set (aT hp) oO)) oO,aC (aA (aC (aA h0) oO)) oO,.inr ⟨by dsimp only;omega,by simp;omega,aS (aA (aC (aA a) oO)),?_⟩⟩,by dsimp only;omega,tE⟩
   refine aC ?_ (by simp;omega)
   rw [f]
   exact bJ oS
 ·obtain rfl:k=12:=oO
  have g:¬ ((12:Nat):Int)<12:=oO
  rcases hb with ⟨h,_⟩|⟨_,m,a,hg⟩
  ·omega
  have a3:=a
  have hputr:∀ v,putCells H σ.length 0 [v]=some (H.set σ.length (.rw [v])):=fun v=>fM h0 oS oS rfl
  refine UF ?_
  have s0:fK σ.length [gb] σ.length=⟨gb,0,0⟩:=by simp [fK]
  exact dK (v2:=.agg #[.s σ.length 12 12]) (.cellN inferInstance rfl (aV (aS h0) rfl) .nil) (aX.src [.rw (jP (iL t) 12)] [gb] (take_set hp (aD _)) rfl (by simp [dF];omega) ⟨uH s0 (.inr ⟨_,aC hg oO⟩) (EF _ _),trivial⟩ (aar (jU oS s0))) ⟨rfl,rfl⟩
end Go.Proofs.YtajpgeklmcjciaaGreat
namespace Go.AH.Heat
open Go Go.AH Go.Proofs.YtajpgeklmcjciaaGreat
def uf (l:List Int) (bar:Int×Int):Wk:={ nb:=1,bf:=fun _=>bar,ns:=1,nw:=fun _=>l.length,nk:=fun _ _=>12,kf:=fun _ k=>iL (gi l k) }
theorem Gn {l:List Int} {bar:Int×Int} (hl:0<l.length∧l.length≤5) (ht:∀ i<l.length,1≤gi l i∧gi l i≤10000) (hb:jL bar):tY (uf l bar) :=
 ⟨by show 0<1;omega,by show 1≤6;omega,fun _ _=>hb,by show 1≤6;omega,fun _ _=>hl.1,fun _ _=>hl.2,fun i _ k hk=>adC (ht k hk)⟩
theorem BI {t h:Int} (h0:0≤h):∀ n:Nat,84*(nS (iL t) h n:Int)≤h∧nS (iL t) h n≤n∧(nS (iL t) h n<n→h<84*((nS (iL t) h n:Int)+1))
 |0=>⟨by simp [nS];exact h0,aD _,fun h=>absurd h (by simp [nS])⟩
 |n+1=>by
  obtain ⟨h1,h2,h3⟩:=BI h0 (t:=t) n
  unfold nS
  have e:(iL t (n+1)).1=84*((n+1:Nat):Int):=rfl
  rw [e]
  by_cases h4:84*((n+1:Nat):Int)≤h
  ·rw [if_pos h4];exact ⟨h4,aD _,fun h=>oO⟩
  ·rw [if_neg h4]
   refine ⟨h1,oO,fun _=>?_⟩
   by_cases h5:nS (iL t) h n<n
   ·exact h3 h5
   ·omega
theorem EH {t x y:Int} (ht:1≤t∧t≤10000) (hx:0≤x) (hxy:x≤y) (hy:y≤100000) :
  (qo 12 (iL t) (min 1000 (x / 100))).1≤min 1000 (y*t / 1000000)∧min 1000 (x*t / 1000000)≤(qo 12 (iL t) (min 1000 (y / 100))).2:=by
 have hm:∀ {a b:Int},a≤b→a*t≤b*t:=fun h=>Int.mul_le_mul_of_nonneg_right h oO
 refine ⟨?_,?_⟩
 ·obtain ⟨h1,h2,h3⟩:=BI (t:=t) (h:=min 1000 (x / 100)) oO 11
  unfold qo
  rw [show 12 - 1=11 from rfl]
  generalize nS (iL t) (min 1000 (x / 100)) 11=q at h1 h2 h3 ⊢
  rw [EG ht]
  dsimp only
  have h4:8400*(q:Int)≤y:=oO
  have h5:=hm h4
  rw [Int.mul_assoc] at h5
  omega
 ·obtain ⟨h1,h2,h3⟩:=BI (t:=t) (h:=min 1000 (y / 100)) oO 11
  unfold qo
  rw [show 12 - 1=11 from rfl]
  generalize nS (iL t) (min 1000 (y / 100)) 11=q at h1 h2 h3 ⊢
  rw [EG ht]
  dsimp only
  have h4:x≤8400*(q:Int)+8399:=by
   by_cases hq:q<11
   ·have:=h3 hq;omega
   ·omega
  have h5:=hm h4
  rw [Int.add_mul,Int.mul_assoc] at h5
  omega
theorem Gp {lo hi:Int} {l:List Int} {i:Nat} (hl:l.length=1001) (h:jL (lo,hi)) (h1:gi l i=1):gi (tV lo hi l) i=1:=by
 rw [Az hl h];split
 ·rfl
 ·exact h1
theorem YM {now l:List Int} {fr to:Nat→Int×Int} (hl:l.length=1001) {q i:Nat}:∀ {n:Nat},(∀ j<n,jL (to j))→q<n→jJ (fr q).1 (fr q).2 now=true→(to q).1≤(i:Int)→(i:Int)≤(to q).2→gi (spF now fr to n l) i=1
 |0,_,h,_,_,_=>by omega
 |n+1,h,hq,hm,h1,h2=>by
  have a:=xg (now:=now) (fr:=fr) hl (n:=n) fun j hj=>h j oO
  simp only [spF]
  by_cases c:q=n
  ·subst c
   rw [if_pos hm,Az a (h q oO),if_pos ⟨h1,h2⟩]
  ·have ih:=YM hl (fun j hj=>h j oO) (by omega:q<n) hm h1 h2
   split
   ·exact Gp a (h n oO) ih
   ·exact ih
theorem UG {now l:List Int} {fr to:Nat→Int×Int} (hl:l.length=1001) {i:Nat} (h1:gi l i=1):∀ {n:Nat},(∀ j<n,jL (to j))→gi (spF now fr to n l) i=1
 |0,_=>h1
 |n+1,h=>by
  have a:=xg (now:=now) (fr:=fr) hl (n:=n) fun j hj=>h j oO
  have ih:=UG (now:=now) (fr:=fr) hl h1 (n:=n) fun j hj=>h j oO
  simp only [spF]
  split
  ·exact Gp a (h n oO) ih
  ·exact ih
theorem YN {now l:List Int} {fr to:Nat→Nat→Int×Int} {nk:Nat→Nat} (hl:l.length=1001) {k q i:Nat}:∀ {n:Nat},(∀ k<n,∀ j<nk k,jL (to k j))→k<n→q<nk k→jJ (fr k q).1 (fr k q).2 now=true→(to k q).1≤(i:Int)→(i:Int)≤(to k q).2→gi (wyF now fr to nk n l) i=1
 |0,_,h,_,_,_,_=>by omega
 |n+1,h,hk,hq,hm,h1,h2=>by
  have a:=y7 (now:=now) (fr:=fr) hl (n:=n) fun j hj=>h j oO
  simp only [wyF]
  by_cases c:k=n
  ·subst c
   exact YM a (h k oO) hq hm h1 h2
  ·exact UG a (YN hl (fun j hj=>h j oO) (by omega:k<n) hq hm h1 h2) (h n oO)
theorem Lr {lo hi:Int} {l:List Int} {i:Nat} (h0:0≤lo) (h1:lo≤(i:Int)) (h2:(i:Int)≤hi) (h:gi l i=1):jJ lo hi l=true :=
 FM.2 ⟨i,oO,oO,h⟩
theorem adD:∀ {k i:Nat} {a b:List Int},i<k→i<a.length→i<b.length→gi (mG k a b) i=gi a i*gi b i
 |0,_,_,_,h,_,_=>by omega
 |k+1,i,[],b,_,h,_=>by simp at h
 |k+1,i,x::a,[],_,_,h=>by simp at h
 |k+1,0,x::a,y::b,_,_,_=>by simp [mG,gi]
 |k+1,i+1,x::a,y::b,h,h1,h2=>by
  have:=adD (k:=k) (i:=i) (a:=a) (b:=b) oO (oU h1) (oU h2)
  simpa [mG,gi] using this
theorem one_step {W:Wk} (hv:tY W) (hn:W.ns=1) {m:Int×Int} (hm:jL m) {b k q i j:Nat} (hb:b<W.nb) (hbi:(W.bf b).1≤(i:Int)∧(i:Int)≤(W.bf b).2) (hk:k<W.nw 0) (hq:q<W.nk 0 k)
  (ho:(W.own 0 k q).1≤(i:Int)∧(i:Int)≤(W.own 0 k q).2) (ha:(W.aft 0 k q).1≤(j:Int)∧(j:Int)≤(W.aft 0 k q).2) (hj:m.1≤(j:Int)∧(j:Int)≤m.2) :
  W.someB m ≠ []∧k ∈ W.Aw m 0:=by
 have a:=hv.ok
 have c:=a.b b hb
 have hi:i<1001:=by have:=c.2.2;omega
 have p:gi (W.jR m 1) j=1:=by
  show gi (W.NU m (W.ns - 1)) j=1
  rw [hn]
  show gi (tV m.1 m.2 zro) j=1
  rw [Az jW hm,if_pos hj]
 have w:=xH a (i:=0) oO hk hq
 have o:=Au a (i:=0) oO hk hq
 have g:jJ (W.aft 0 k q).1 (W.aft 0 k q).2 (W.jR m 1)=true:=Lr o.1 ha.1 ha.2 p
 have f:gi (W.jR m 0) i=1:=by
  have e:=NV W m (k:=0) (i:=0) oO oO
  rw [← e]
  exact YN jW (fun k hk q hq=>xH a oO hk hq) hk hq g ho.1 ho.2
 have t:gi (W.front 0) i=1:=by
  show gi (ru W.bf W.nb zro) i=1
  have:∀ n,b<n→n≤W.nb→gi (ru W.bf n zro) i=1:=by
   intro n
   induction n with
   |zero=>intro h;omega
   |succ n ih =>
    intro h h2
    have hl:=tX (bf:=W.bf) jW (k:=n) fun j hj=>a.b j oO
    simp only [ru]
    by_cases u:b=n
    ·subst u
     rw [Az hl (a.b b hb),if_pos hbi]
    ·exact Gp hl (a.b n oO) (ih oO oO)
  exact this W.nb hb (aD _)
 have hrl:(W.jR m 0).length=1001:=FQ a hm _ oO
 have hfl:(W.front 0).length=1001:=kK a 0 oO
 have d:gi (W.bothR m 0) i=1:=by
  unfold Wk.bothR mulL
  rw [adD hi oO oO,t,f];rfl
 have v:W.noB m=false:=by
  unfold Wk.noB
  refine decide_eq_false fun h=>?_
  have:=h i (List.mem_range.2 hi)
  rw [d,acB] at this
  exact absurd this oD
 unfold Wk.someB Wk.Aw
 rw [v]
 refine ⟨fun h=>?_,?_⟩
 ·have:b ∈ (List.range W.nb).filter fun b=>jJ (W.bf b).1 (W.bf b).2 (W.jR m 0):=List.mem_filter.2 ⟨List.mem_range.2 hb,Lr c.1 hbi.1 hbi.2 f⟩
  simp only [Bool.false_eq_true,if_false] at h
  rw [h] at this
  simp at this
 ·simp only [Bool.false_eq_true,if_false]
  refine List.mem_filter.2 ⟨List.mem_range.2 hk,?_⟩
  unfold Wk.lead
  have s:jJ (W.own 0 k q).1 (W.own 0 k q).2 (W.bothR m 0)=true:=Lr w.1 ho.1 ho.2 d
  have:∀ n,q<n→W.mJ m 0 k n=true:=by
   intro n
   induction n with
   |zero=>intro h;omega
   |succ n ih =>
    intro h
    simp only [Wk.mJ]
    by_cases r:q=n
    ·subst r;rw [s,g];simp
    ·rw [ih oO];simp
  exact this _ hq
end Go.AH.Heat
namespace Go.AH
open Go
section
variable {P:Program} {n0 N:Nat} {K:Env→List Nat→Heap→Prop} {e:Env} {mk:List Nat} {σ:Heap} {all:List Oper} {listed:List Bool} {fuel:Nat}
def YO (all:List Oper) (listed:List Bool) (i j k:Nat):Bool:=match Region.ready .any all.toArray listed.toArray with|[a,b,c]=>Nat.beq a i && (Nat.beq b j && Nat.beq c k)|_=>false
theorem adE (i j k:Nat) {o o2 o3:Oper} (hi:all[i]?=some o) (hj:all[j]?=some o2) (hk3:all[k]?=some o3) (h:cO P n0 N none all [o] (fun e' mk' σ'=>yh P n0 N all fuel (listed.set i true) K e' mk' σ') e mk σ)
  (h2:cO P n0 N none all [o2] (fun e' mk' σ'=>yh P n0 N all fuel (listed.set j true) K e' mk' σ') e mk σ) (h3:cO P n0 N none all [o3] (fun e' mk' σ'=>yh P n0 N all fuel (listed.set k true) K e' mk' σ') e mk σ) (hr:YO all listed i j k=true:=by decide +kernel):yh P n0 N all (fuel+1) listed K e mk σ:=by
 intro G w0 ρ0 A w g
 have m:Region.ready .any all.toArray listed.toArray=[i,j,k]:=by
  unfold YO at hr
  split at hr
  ·rename_i a b c hk
   rw [aE,aE] at hr
   rw [hk,aM hr.1,aM hr.2.1,aM hr.2.2]
  ·cases hr
 have go:∀ (q:Nat) (o:Oper),all[q]?=some o→cO P n0 N none all [o] (fun e' mk' σ'=>yh P n0 N all fuel (listed.set q true) K e' mk' σ') e mk σ →
   wpOpIn Fence.wide 0 P all.toArray (fun ex A' w'=>ex=.normal∧∃ e' mk' σ',K e' mk' σ'∧Inv n0 N G w0 ρ0 e' mk' σ' A' w') q (wpAnyIn Fence.wide 0 P .any all.toArray (fun ex A' w'=>ex=.normal∧∃ e' mk' σ',K e' mk' σ'∧Inv n0 N G w0 ρ0 e' mk' σ' A' w') fuel (listed.toArray.setIfInBounds q true)) A w:=by
  intro q o hq h
  have:=h G w0 ρ0 A w g (fun ex A' w'=>match ex with|.normal=>wpAnyIn Fence.wide 0 P .any all.toArray (fun ex A' w'=>ex=.normal∧∃ e' mk' σ',K e' mk' σ'∧Inv n0 N G w0 ρ0 e' mk' σ' A' w') fuel (listed.toArray.setIfInBounds q true) A' w'|_=>False) (fun e' mk' σ' A' w' hk d=>by
   have:=hk G w0 ρ0 A' w' d
   simpa using this)
  unfold wpOpIn
  simp only [bO,hq]
  simp only [wpL] at this
  split
  ·rename_i hw
   rw [if_pos hw] at this
   exact oI (fun c a w hq=>hq.elim) (fun a w hq=>hq.elim) this
  ·rename_i hw
   rw [if_neg hw] at this
   exact ⟨fun f _=>kL ρ0 none _,this⟩
 refine wpAnyIn_all m oS fun q hq=>?_
 rcases List.mem_cons.1 hq with rfl|hq
 ·exact go q o hi h
 rcases List.mem_cons.1 hq with rfl|hq
 ·exact go q o2 hj h2
 ·rw [List.mem_singleton.1 hq] at *
  exact go k o3 hk3 h3
end
end Go.AH
namespace Go.AH.Heat
open Go Go.AH Go.Proofs.YtajpgeklmcjciaaGreat
theorem aat {l:List Int} {lo hi x:Int} {pu:Nat} (hl:0<l.length∧l.length≤5) (ht:∀ i<l.length,1≤gi l i∧gi l i≤10000) (hb:jL (lo,hi)) (hp:pu<l.length) (hx:0≤x∧x≤100000) (h1:lo≤min 1000 (x / 100)) (h2:min 1000 (x / 100)≤hi) :
  (uf l (lo,hi)).someB (min 1000 (x*gi l pu / 1000000),min 1000 (x*gi l pu / 1000000)) ≠ []∧pu ∈ (uf l (lo,hi)).Aw (min 1000 (x*gi l pu / 1000000),min 1000 (x*gi l pu / 1000000)) 0:=by
 have hv:=Gn hl ht hb
 have h0:0≤x*gi l pu:=er hx.1 (by have:=ht pu hp;omega)
 obtain ⟨a1,a2⟩:=EH (ht pu hp) hx.1 (dE x) hx.2
 obtain ⟨k1,k2,k3⟩:=BI (t:=gi l pu) (h:=min 1000 (x / 100)) oO 11
 unfold qo at a1 a2
 rw [show 12 - 1=11 from rfl] at a1 a2
 obtain ⟨q,hq⟩:∃ q,q=nS (iL (gi l pu)) (min 1000 (x / 100)) 11:=⟨_,rfl⟩
 rw [← hq] at a1 a2 k1 k2 k3
 obtain ⟨m0,d⟩:∃ m0,m0=min 1000 (x / 100):=⟨_,rfl⟩
 obtain ⟨m1,c⟩:∃ m1,m1=min 1000 (x*gi l pu / 1000000):=⟨_,rfl⟩
 rw [← d] at h1 h2 k1 k3
 rw [← c] at a1 a2 ⊢
 have hm0b:0≤m0∧m0≤1000:=oO
 have a:0≤m1∧m1≤1000:=oO
 refine one_step hv rfl (m:=(m1,m1)) (b:=0) (k:=pu) (q:=q) (i:=m0.toNat) (j:=m1.toNat) ⟨a.1,dE _,a.2⟩ (show 0<1 by omega) ?_ hp (show q<12 by omega) ?_ ?_ ?_
 ·show lo≤(m0.toNat:Int)∧(m0.toNat:Int)≤hi
  omega
 ·show (iL (gi l pu) q).1≤(m0.toNat:Int)∧(m0.toNat:Int)≤wL (iL (gi l pu)) 12 q
  have e:(iL (gi l pu) q).1=84*(q:Int):=rfl
  refine ⟨by rw [e];omega,?_⟩
  unfold wL
  by_cases hq2:q=11
  ·subst hq2;simp;omega
  ·have e2:(iL (gi l pu) (q+1)).1=84*((q+1:Nat):Int):=rfl
   have:=k3 oO
   split
   ·rw [e2];omega
   ·omega
 ·show (iL (gi l pu) q).2.1≤(m1.toNat:Int)∧(m1.toNat:Int)≤(iL (gi l pu) q).2.2
  rw [Int.toNat_of_nonneg a.1]
  exact ⟨a1,a2⟩
 ·show m1≤(m1.toNat:Int)∧(m1.toNat:Int)≤m1
  rw [Int.toNat_of_nonneg a.1]
  exact ⟨dE _,dE _⟩
end Go.AH.Heat
namespace Go.AH
open Go
def QE:Code→Nat→Bool
 |.region i _ _,k=>Nat.beq i k
 |.seq a _,k=>QE a k
 |.block _ c,k=>QE c k
 |.loop c,k=>QE c k
 |_,_=>false
def agn (k:Nat):Code→Code
 |.seq a b=>bif QE a k then .seq a b else agn k b
 |c=>c
def fbody (fn:Func):Code:=match fn.body with|some c=>c|none=>.skip
end Go.AH
namespace Go.Proofs.YtajpgeklmcjciaaGreat
open Go Go.AH
attribute [local irreducible] cO bK bP jB gy dO fB bW eU aX dV eH
open Go.AH.Heat Go.AH.Warp
theorem IK {σ:Heap} {y i:Nat} {pl:List (Int×Int)} (h:dN σ y (dI pl)) (hi:i<pl.length):aH σ y (0+i*2+0)=some (.i (gp pl i).1):=by
 rw [bA,cV]
 have h1:=rY hi
 rcases h with h|h|⟨t,h⟩ <;> simpa [aH,h] using h1
theorem IL {σ:Heap} {y i:Nat} {pl:List (Int×Int)} (h:dN σ y (dI pl)) (hi:i<pl.length):aH σ y (0+i*2+1)=some (.i (gp pl i).2):=by
 rw [bA]
 have h1:=Bq hi
 rcases h with h|h|⟨t,h⟩ <;> simpa [aH,h] using h1
theorem IQ {σ K H:Heap} (h1:H.take K.length=K) (h2:K.take σ.length=σ):H.take σ.length=σ:=by
 have hl:=take_len h2
 have h3:(H.take K.length).take σ.length=K.take σ.length:=by rw [h1]
 rw [eJ,h2,fj hl] at h3
 exact h3
theorem Lu {A B:Prop} (k:B) (h:Hide B→A:=by intro h_k_;(repeat' (first|refine sCm ?_|(refine gU ?_;first|(refine bV ?_;refine st (aK rfl (by assumption)) rfl rfl ?_)|refine sK0 ?_|(refine nN ?_;first|refine st (kP rfl (by first|rfl|exact fC (by assumption)) rfl) rfl rfl ?_|refine st (jA rfl (by rfl) rfl) rfl rfl ?_)|(refine gIA ?_;refine st (ny rfl rfl (by omega) (by omega)) rfl rfl ?_))|(refine gG ?_;first|(refine zq ?_;refine stG rfl (by first|rfl|exact fC (by assumption)) (eP rfl) rfl rfl ?_)|(refine gFA ?_;refine stG rfl (by first|rfl|exact fC (by assumption)) (bF rfl) rfl rfl ?_)|(refine bV ?_;first|refine stG rfl (by first|rfl|exact fC (by assumption)) (aK rfl (by first|exact hd1|exact hd2)) rfl rfl ?_|refine stG rfl (by rfl) (bC rfl (by first|exact aV a6 rfl|exact aV a7 rfl)) rfl rfl ?_)|(refine BJ ?_;refine stG rfl (by first|rfl|exact fC (by assumption)) (jm rfl rfl rfl) rfl rfl ?_)|(refine ER ?_;refine stG rfl (by rfl) (lJ rfl) rfl rfl ?_)|(refine gIA ?_;refine stG rfl (by first|rfl|exact fC (by assumption)) (ny rfl rfl (by omega) (by omega)) rfl rfl ?_)|(refine dX ?_;refine stG rfl (by first|rfl|exact fC (by assumption)) (bG rfl rfl rfl (by first|exact hf1|exact hf2)) rfl rfl ?_))|(refine fU ?_;first|refine qV ?_;refine frA (eP rfl) rfl ?_ hcls|refine fFA ?_;refine frA (bF rfl) rfl ?_ hclp|refine fFA ?_;refine frA (bF rfl) rfl ?_ hclg|refine fIA ?_;refine frA (iV rfl rfl (by omega)) rfl ?_ hclg|refine gB ?_;refine frA (aK rfl (by exact hqo _)) rfl ?_ rfl|refine gB ?_;refine frA (aK rfl (by exact hqf _)) rfl ?_ rfl|refine Py ?_|(refine Ij ?_;refine fr (kH rfl) (by rfl) rfl ?_)|refine Zu ?_|refine LK ?_|(refine fMul ?_;refine fr (zL rfl rfl (by omega) (by omega)) (by rfl) rfl ?_)|(refine ET ?_;refine fr (Ac rfl rfl (by omega) (by omega) (by omega)) (by rfl) rfl ?_)|(refine DJ ?_;first|refine fr (kP rfl (by rfl) rfl) (by rfl) rfl ?_|refine fr (jA rfl (by rfl) rfl) (by rfl) rfl ?_)|refine VP ?_)|(refine fG ?_;first|refine frG (rfl) (by rfl) (eP rfl) (hcl1) rfl ?_|refine frG (rfl) (by rfl) (ny rfl rfl (by omega) (by omega)) (hcl2) rfl ?_|refine frG (rfl) (by rfl) (aK rfl (by exact hqz _)) (hcl3) rfl ?_|refine frG (rfl) (by rfl) (eP rfl) (rfl) rfl ?_|refine frG (rfl) (by rfl) (nC rfl rfl (by omega)) (hcl4) rfl ?_|refine frG (rfl) (by rfl) (aK rfl (by exact hqk _)) (rfl) rfl ?_|refine frG (rfl) (by rfl) (eP rfl) (hcls) rfl ?_|refine frG (rfl) (by rfl) (iV rfl rfl (by omega)) (hclg) rfl ?_|refine frG (rfl) (by rfl) (bF rfl) (hclg) rfl ?_|refine frG (rfl) (by rfl) (aK rfl (by exact hqf _)) (rfl) rfl ?_|(refine ET ?_;refine frG rfl (by rfl) (jm rfl rfl rfl) (by rfl) rfl ?_)|refine frS rfl (by rfl) rfl ?_)|(refine fP ⟨by kernel_rfl,?_⟩)|refine dA (id:=37) ?_|refine dA (id:=38) ?_|refine dA (id:=39) ?_|refine aG ?_|refine sK2 ?_|refine sK6 ?_));exact h_k_.h):A:=h ⟨k⟩
theorem aau {σ H8:Heap} {s:St} {l:List Int} {p:List (Int×Int)} {py pc i pu gb bB bS wb hi5 rc rb gb2 yb:Nat} {kb:Nat→Nat} {en fm tr lo hb' m0 m1:Int} {wl0:List Nat}
  (hp:H8.take σ.length=σ) (hni8:H8.all (fun o=>!aU o)=true) (hs:H8[σ.length]?=some (.rw s.cells)) (hy8:dN H8 py (dI p)) (hip:i<p.length)
  (hA8:wM H8 (uf l (lo,hb')) bB bS (fun _=>gb) (fun _=>l.length) (fun _ k=>kb k) (fun _ _=>12)) (hw9:H8[wb]?=some (.rw [.s bB 1 1,.s bS 1 1]))
  (hh8:H8[hi5]?=some (.rw [.i m0,.i m1])) (hrb8:H8[rb]?=some (.rw [.i (pu:Nat)])) (hrc8:H8[rc]?=some (.rw [.i 0,.s rb 1 1]))
  (hgb8:H8[gb2]?=some (.rw (rgC ((uf l (lo,hb')).rg (fun _=>pu) ((uf l (lo,hb')).bf 0)) (0+2)))) (hz8:H8[yb]?=some (.rw [.s (yb+1) wl0.length wl0.length])) (hn8:H8[yb+1]?=some (.rw (gu wl0)))
  (hl:0<l.length∧l.length≤5) (hno:∀ i<l.length,1≤gi l i∧gi l i≤10000) (hpl:pu<l.length) (hrg:jL (lo,hb')) (hpu:(gp p i).2=(pu:Int)) (hfm:fm=(gp p i).1)
  (hlo:lo=(en - s.off).tdiv 100) (hhb:hb'=min 1000 ((fm+s.off).tdiv 100)) (hbd:1≤en - s.off∧en≤fm∧fm+s.off≤100000∧en - s.off≤tr∧tr≤fm+s.off∧0≤s.off)
  (em0:m0=min 1000 (tr / 100)) (em1:m1=min 1000 (tr*gi l pu / 1000000)) (hin8:pu ∈ wl0) (hwn:wl0.length≤1000) :
  bK Tryz.prog σ.length 312 none (agn 31 (fbody Tryz.f3)) (jB Tryz.prog σ [ResultVar.tmp 12] fun v' s=>v'=.bool true∧s=σ) [(13,.s py p.length pc),(6,.p σ.length),(18,.i (i:Nat)),(19,.i en),(24,.i (gi l pu)),(26,.p wb),(28,.s hi5 2 2),(29,.p rc),(30,.s gb2 2 2),(31,.i 0),(32,.s yb 1 1),(33,.i 0)] [] H8:=by
 have e:=hno pu hpl
 have C:tY (uf l (lo,hb')):=Gn hl hno hrg
 have t:bB<H8.length:=dJ (hA8.bars 0 (show 0<1 by omega))
 have q:bS<H8.length:=dJ (hA8.steps 0 (show 0<1 by omega))
 have hf1:Ev Tryz.prog 22 [.agg #[.s bB 1 1,.s bS 1 1],.agg #[.i 0,.s rb 1 1],.s hi5 2 2] H8 (.i 0) H8:=by
  refine Hz (bar:=0) (ks:=fun _=>pu) (cB:=1) (cS:=1) (n:=0) (hs:=fun i=>if i=0 then m0 else m1) C hA8 (fun _ _ _ _=>aD _) (show 0<1 by omega) (fun _ _=>hpl) (fun i hi=>?_) t q (aQ hrb8) hni8 rfl (fun i hi=>?_) (aQ hh8) (fun i hi=>?_)
  ·obtain rfl:i=0:=by have:i<1:=hi;omega
   exact aF hrb8
  ·have:i≤1:=hi
   rcases (by omega:i=0∨i=1) with rfl|rfl
   ·exact aF hh8
   ·exact aF hh8
  ·have:i≤1:=hi
   rcases (by omega:i=0∨i=1) with rfl|rfl
   ·show lo≤m0∧m0≤hb'
    rw [em0,hlo,hhb,cJ oO,cJ oO]
    omega
   ·have:=EH (x:=tr) (y:=tr) e oO (dE _) oO
    rw [← em0,← em1] at this
    exact this
 have a6:=hw9
 have a7:=hrc8
 conv=>arg 5;whnf
 refine Lu ?_
 refine dS (ι:=Nat×Bool) (fun k=>[(13,.s py p.length pc),(6,.p σ.length),(18,.i (i:Nat)),(19,.i en),(24,.i (gi l pu)),(30,.s gb2 2 2),(32,.s yb 1 1),(34,.bool k.2),(35,.i (k.1:Nat))])
  (fun k mk H=>k.1≤wl0.length∧mk=[]∧H=H8∧(k.2=true↔∃ j<k.1,gn wl0 j=pu)) (fun k=>wl0.length - k.1) (0,false) tE ⟨bN _,rfl,rfl,by simp⟩ ?_
 clear a6 a7 hf1
 rintro ⟨k,fd⟩ mk H ⟨hk,rfl,rfl,g⟩
 dsimp only at hk g ⊢
 have hz0:aJ H yb 0 1=some [.s (yb+1) wl0.length wl0.length]:=aV hz8 rfl
 have hz1:aH H yb 0=some (.s (yb+1) wl0.length wl0.length):=aF hz8
 by_cases w:k<wl0.length
 ·have D:(k:Int)<(wl0.length:Nat):=oO
  have hd1:aH H (yb+1) k=some (.i (gn wl0 k:Nat)):=by rw [aF hn8];exact Am w
  have hd2:aH H py (0+i*2+1)=some (.i (pu:Nat)):=by rw [← hpu];exact IL hy8 hip
  refine Lu ?_
  have hcl1:∀ {o n c:Nat},closed H.length (.slice (some ⟨yb,o,none⟩) n c)=true:=fun {o n c}=>bM (Nat.blt_eq.mpr (aQ hz8))
  have hcl2:∀ {o:Nat},closed H.length (.pointer (some ⟨yb,o,none⟩))=true:=fun {o}=>Nat.blt_eq.mpr (aQ hz8)
  have hcl3:∀ {o n c:Nat},closed H.length (.slice (some ⟨yb+1,o,none⟩) n c)=true:=fun {o n c}=>bM (Nat.blt_eq.mpr (aQ hn8))
  have hcl4:∀ {o:Nat},closed H.length (.pointer (some ⟨yb+1,o,none⟩))=true:=fun {o}=>Nat.blt_eq.mpr (aQ hn8)
  have hcls:∀ {o n c:Nat},closed H.length (.slice (some ⟨py,o,none⟩) n c)=true:=fun {o n c}=>bM (Nat.blt_eq.mpr (jF hy8))
  have hclg:∀ {o:Nat},closed H.length (.pointer (some ⟨py,o,none⟩))=true:=fun {o}=>Nat.blt_eq.mpr (jF hy8)
  have hclp:∀ {o:Nat},closed H.length (.pointer (some ⟨σ.length,o,none⟩))=true:=fun {o}=>Nat.blt_eq.mpr (aQ hs)
  have hqz:∀ X,aH (H++X) yb (0+Int.toNat 0*1)=some (.s (yb+1) wl0.length wl0.length):=fun X=>aF (aA hz8)
  have hqk:∀ X,aH (H++X) (yb+1) k=some (.i (gn wl0 k:Nat)):=fun X=>by
   rw [aF (aA hn8)];exact Am w
  have hqf:∀ X,aH (H++X) py (0+i*2+1)=some (.i (pu:Nat)):=fun X=>by rw [← hpu];exact IL (pR hy8) hip
  refine .mk (dH [(13,.s py p.length pc),(6,.p σ.length),(18,.i (i:Nat)),(19,.i en),(24,.i (gi l pu)),(30,.s gb2 2 2),(32,.s yb 1 1),(34,.bool fd),(35,.i (k:Nat))] H rfl tE ?_)
  cases fd
  ·refine eY oK rfl (?_)
   refine Lu ?_
   refine ⟨(k+1,decide (((gn wl0 k:Nat):Int)=(pu:Nat))),⟨by dsimp only;omega,rfl,bL H,?_⟩,by dsimp only;omega,tE⟩
   dsimp only
   rw [decide_eq_true_iff]
   refine ⟨fun h=>⟨k,oO,oO⟩,fun ⟨j,hj,h⟩=>?_⟩
   by_cases E:j=k
   ·rw [← E];omega
   ·exact absurd (g.2 ⟨j,oO,h⟩) oS
  ·refine eY oK rfl (?_)
   refine Lu ?_
   refine ⟨(k+1,true),⟨by dsimp only;omega,rfl,bL H,?_⟩,by dsimp only;omega,tE⟩
   obtain ⟨j,hj,h⟩:=g.1 rfl
   exact ⟨fun _=>⟨j,by dsimp only;omega,h⟩,fun _=>rfl⟩
 ·obtain rfl:k=wl0.length:=oO
  have D:¬ ((wl0.length:Nat):Int)<(wl0.length:Nat):=oO
  obtain rfl:fd=true:=by
   rw [g]
   obtain ⟨j,hj,h⟩:=ey hin8
   exact ⟨j,hj,by simp [gn,hj,h]⟩
  refine Lu ?_
  have hcls:∀ {o n c:Nat},closed H.length (.slice (some ⟨py,o,none⟩) n c)=true:=fun {o n c}=>bM (Nat.blt_eq.mpr (jF hy8))
  have hclg:∀ {o:Nat},closed H.length (.pointer (some ⟨py,o,none⟩))=true:=fun {o}=>Nat.blt_eq.mpr (jF hy8)
  have hclp:∀ {o:Nat},closed H.length (.pointer (some ⟨σ.length,o,none⟩))=true:=fun {o}=>Nat.blt_eq.mpr (aQ hs)
  have hqo:∀ X,aH (H++X) σ.length (0+2)=some (.i s.off):=fun X=>aF (aA hs)
  have hqf:∀ X,aH (H++X) py (0+i*2+0)=some (.i fm):=fun X=>by rw [hfm];exact IK (pR hy8) hip
  have k1:0≤(en - s.off)*gi l pu∧(en - s.off)*gi l pu≤100000*10000:=⟨er oO oO,fo oO e.2 oO oO⟩
  have k2:0≤(fm+s.off)*gi l pu∧(fm+s.off)*gi l pu≤100000*10000:=⟨er oO oO,fo oO e.2 oO oO⟩
  have k3:0≤((en - s.off)*gi l pu).tdiv 1000000∧((en - s.off)*gi l pu).tdiv 1000000≤1000:=by rw [cJ oO];omega
  have k4:0≤((fm+s.off)*gi l pu).tdiv 1000000∧((fm+s.off)*gi l pu).tdiv 1000000≤1000:=by rw [cJ oO];omega
  refine .mk (dH [(13,.s py p.length pc),(6,.p σ.length),(18,.i (i:Nat)),(19,.i en),(24,.i (gi l pu)),(30,.s gb2 2 2),(34,.bool true)] H rfl tE ?_)
  refine eY oK rfl (?_)
  refine Lu ?_
  obtain ⟨m,a⟩:∃ m,m=min 1000 (((en - s.off)*gi l pu).tdiv 1000000):=⟨_,rfl⟩
  obtain ⟨f,d⟩:∃ f,f=min 1000 (((fm+s.off)*gi l pu).tdiv 1000000):=⟨_,rfl⟩
  obtain ⟨r1,r⟩:∃ r1,r1=((uf l (lo,hb')).rg (fun _=>pu) ((uf l (lo,hb')).bf 0) 1):=⟨_,rfl⟩
  refine .mk (dH [(30,.s gb2 2 2),(34,.bool true),(36,.i m),(37,.i f)] H (bL H) ⟨rfl,rfl,congrArg (fun x=>some (Value.i x)) a.symm,congrArg (fun x=>some (Value.i x)) d.symm,trivial⟩ ?_)
  have v:=(EH (x:=en - s.off) (y:=en - s.off) e oO oO oO).1
  have z:=(EH (x:=fm+s.off) (y:=fm+s.off) e oO oO oO).2
  have e0:min 1000 ((en - s.off) / 100)=lo:=by
   have:=hrg;simp only [jL] at this
   rw [hlo] at this ⊢;rw [cJ oO] at this ⊢;omega
  have e1:min 1000 ((fm+s.off) / 100)=hb':=by rw [hhb,cJ oO]
  rw [e0] at v
  rw [e1] at z
  have u:r1=((qo 12 (iL (gi l pu)) lo).1,(qo 12 (iL (gi l pu)) hb').2):=r
  have g1:r1.1≤m:=by
   rw [u,a,cJ oO];exact v
  have g2:r1.2≥f:=by
   rw [u,d,cJ oO];exact z
  have hd1:aH H gb2 2=some (.i r1.1):=by rw [aF hgb8,r];rfl
  have hd2:aH H gb2 3=some (.i r1.2):=by rw [aF hgb8,r];rfl
  have hf2:=Dn hni8
  apply aG
  refine Lu ?_
  exact dK (.tmp rfl .nil) (.plain hp rfl) ⟨rfl,rfl⟩
end Go.Proofs.YtajpgeklmcjciaaGreat
