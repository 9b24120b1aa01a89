/- Lemmas. No conditions. -/
import Derived.Test.YtajpgeklmcjciaaGreatPyQ4
import Derived.Test.YtajpgeklmcjciaaGreatPyQ6
import Derived.Test.YtajpgeklmcjciaaGreatPyQ1
import Derived.Test.YtajpgeklmcjciaaGreatPyMM
import Derived.Deep.Slices
import Derived.OpenShut
set_option maxRecDepth 100000
set_option maxHeartbeats 8000000
open Go.Proofs.Tryz
open Go Go.AH
namespace Go.AH.Warp
open Go Go.AH Go.AH.Heat Go.Proofs.YtajpgeklmcjciaaGreat
def nX (n i:Nat) (rb:Nat->Nat):List Value:=(List.range (n+1)).map fun j=>if i<=j then .slice (some ⟨rb j,0,none⟩) 401 401 else .slice none 0 0
theorem sU (n i:Nat) (rb:Nat->Nat):(nX n i rb).length=n+1:=by simp [nX]
theorem OT {n i:Nat} {rb:Nat->Nat} {j:Nat} (h:i<=j) (hj:j<=n):(nX n i rb)[j]?=some (.s (rb j) 401 401):=by
 simp [nX,dq (show j<n+1 by omega),h]
theorem OU {n i:Nat} {rb:Nat->Nat} {b:Nat} (hi:i<=n):splice (nX n (i+1) rb) i [.s b 401 401]=nX n i (fun j=>if j=i then b else rb j):=by
 have hl:=sU n (i+1) rb
 refine eK fun j=>?_
 simp only [splice,dE,dx]
 by_cases h1:j<i
 ·rw [cD,bO (by simp;omega),List.getElem?_take_of_lt h1]
  simp [nX,dq (show j<n+1 by omega),show ¬ i<=j by omega,show ¬ i+1<=j by omega]
 ·by_cases h2:j=i
  ·subst h2
   rw [cD,bE (by simp;omega)]
   simp [nX,dq (show j<n+1 by omega),hl,show min j (n+1)=j by omega]
  ·by_cases h3:j<n+1
   ·rw [bE (by simp [hl];omega)]
    simp [nX,hl,h2,show min i (n+1)=i by omega,show i+1+(j - (i+1))=j by omega,dq h3,show i<=j by omega,show i+1<=j by omega]
   ·rw [di (by simp [hl];omega),di (by rw [sU];omega)]
theorem XR (n:Nat):fZ (dM (.slice none 0 0)) (n+1)=nX n (n+1) (fun _=>0):=by
 have h:∀ m,fZ (dM (.slice none 0 0)) m=List.replicate m (.slice none 0 0):=fun m=>by
  induction m with
  |zero=>rfl
  |succ m ih=>simp only [fZ,ih,List.replicate_succ];rfl
 rw [h]
 refine eK fun j=>?_
 by_cases hj:j<n+1
 ·rw [List.getElem?_replicate,if_pos hj]
  simp only [nX,cJ,dq hj,du,if_neg (show ¬ n+1<=j by omega)]
 ·rw [di (by simp;omega),di (by rw [sU];omega)]
theorem aev (b:Bl):ints (List.replicate 401 0)=ints (dw (iw b 0)):=by
 rw [<- Y8 b,ints,List.map_replicate]
structure RT (U H:Heap) (B:Bld) (sb cS i:Nat) (rb:Nat->Nat):Prop where
 pre:H.take U.length=U
 b0:H[U.length]?=some (.rw [.slice (some ⟨sb,0,none⟩) B.n cS,.int .i64 B.most])
 b1:H[U.length+1]?=some (.rw (nX B.n i rb))
 r:∀ j,i<=j->j<=B.n->U.length+2<=rb j/\H[rb j]?=some (.rw (ints (dw (iw B.b (B.n - j)))))
 d:∀ j k,i<=j->j<=B.n->i<=k->k<=B.n->rb j=rb k->j=k
 ni:H.all (fun o=>!aU o)=true
theorem OV (rb:Nat->Nat):∀ n,nX n 0 rb=slW rb (fun _=>401) (n+1)
 |0=>by simp [nX,slW]
 |n+1=>by
  have h:=OV rb n
  unfold nX at h ⊢
  rw [ff,eq,slW,<- h]
  simp
def xA (l:Nat->List Int) (n:Nat):Heap:=(List.range n).map fun j=>.rw (ints (l j))
theorem GR (l:Nat->List Int) (n:Nat):(xA l n).length=n:=by simp [xA]
theorem Vk {l:Nat->List Int} {n j:Nat} (h:j<n):(xA l n)[j]?=some (.rw (ints (l j))):=by simp [xA,dq h]
theorem abm {l:Nat->List Int} {n j:Nat} {o:aC} (h:(xA l n)[j]?=some o):j<n/\o=.rw (ints (l j)):=by
 have hj:j<n:=by have:=(List.getElem?_eq_some_iff.1 h).1;rwa [GR] at this
 exact ⟨hj,by rw [Vk hj] at h;exact (Option.some.inj h).symm⟩
theorem aW.xA {σin H:Heap} {l:Nat->List Int} {w:Nat->Nat} {q:Nat->Nat} {g n:Nat} (hp:H.take σin.length=σin) (hg:H[g]?=some (.rw (slW q w n))) (hgs:σin.length<=g) (hn:0<n)
  (hq:∀ j<n,σin.length<=q j/\q j ≠ g/\H[q j]?=some (.rw (ints (l j)))) (hd:∀ i<n,∀ j<n,q i=q j->i=j) :
  aW σin H (.s g n n) (.s σin.length n n) (σin++([.rw (slW (fun j=>σin.length+1+j) w n)]++Warp.xA l n)):=by
 have h0:fK σin.length (g::(List.range n).map q) σin.length=⟨g,0,0⟩:=by simp [fK]
 have hj:∀ j<n,fK σin.length (g::(List.range n).map q) (σin.length+1+j)=⟨q j,0,0⟩:=fun j hj=>by
  unfold fK
  rw [if_neg oO,show σin.length+1+j - σin.length=j+1 by omega,fy,cJ,dq hj];rfl
 refine aW.src _ (g::(List.range n).map q) hp (by simp [GR]) ?_ (Heat.osubs_of fun j o ho=>?_) (jY oS h0 (aD _))
 ·unfold dF
  rw [aE,dT,decide_eq_true_eq]
  refine ⟨fun x hx=>fc ?_,List.nodup_cons.2 ⟨fun hm=>?_,?_⟩⟩
  ·rcases List.mem_cons.1 hx with rfl|hx
   ·exact hgs
   ·obtain ⟨j,hj,rfl⟩:=List.mem_map.1 hx
    exact (hq j (List.mem_range.1 hj)).1
  ·obtain ⟨j,hj,e⟩:=List.mem_map.1 hm
   exact (hq j (List.mem_range.1 hj)).2.1 e
  ·unfold List.Nodup
   rw [List.pairwise_map]
   exact List.Pairwise.imp_of_mem (fun hi hj d e=>d (hd _ (List.mem_range.1 hi) _ (List.mem_range.1 hj) e)) (List.nodup_range (n:=n))
 ·match j,ho with
  |0,ho =>
   cases ho
   refine sF h0 (.inl hg) (by rw [sZ,sZ]) fun a h1 h2=>?_
   rw [Ez h1,Ez h2]
   have f:a<n:=by rw [sZ] at h1;exact h1
   exact jY (by simp [GR];omega) (hj a f) (aD _)
  |j+1,ho =>
   obtain ⟨c,rfl⟩:=abm (show (Warp.xA l n)[j]?=some o from ho)
   rw [show σin.length+(j+1)=σin.length+1+j by omega]
   exact lC (hj j c) (.inl (hq j c).2.2) (aZ _)
end Go.AH.Warp
namespace Go.Proofs.YtajpgeklmcjciaaGreat
attribute [local irreducible] dA bJ bK jh fQ dK eH bY eu aW dR dW
open Go.AH.Heat Go.AH.Warp
theorem zL {A B:Prop} (k:B) (h:Hide B->A:=by intro z_;(repeat' (first|refine sCm ?_|(refine gU ?_;first|refine st (qY (l:=B.n+1) (by rfl) (by rfl) rfl rfl (by omega) (by omega) (by omega)) rfl rfl ?_|refine st (qY (l:=401) (by rfl) (by rfl) rfl rfl (by decide) (by decide) (by decide)) rfl rfl ?_|(refine cO ?_;first|refine st (aJ rfl (by first|exact ig rfl|exact aF (a0 _)|exact aF (a6 _))) rfl rfl ?_|refine st (bG rfl (by exact aV a0 rfl)) rfl rfl ?_)|refine sK9 ?_|refine sK4 ?_|refine sK0 ?_|refine sK6 ?_|(refine gMax ?_;refine st (CG rfl rfl) rfl rfl ?_)|(refine ae9 ?_;refine st (Fg rfl rfl) rfl rfl ?_)|(refine dV ?_;refine st (bC rfl rfl rfl (by first|exact hf1|exact aiu)) rfl rfl ?_)|(refine gZ ?_;refine stN (bW rfl rfl rfl rfl (by first|exact iH (aD _) (cL _)|exact hput)) rfl ?_))|(refine fU ?_;first|refine nH ?_;refine frA (dY rfl) rfl ?_ hcs|refine fIA ?_;refine frA (iE rfl rfl (by omega)) rfl ?_ (hcl (by assumption))|refine fIA ?_;refine frA (pJ rfl rfl (by omega) (by omega)) rfl ?_ (hcl (by assumption))|refine eU ?_;refine frA (aJ rfl (by exact hq1 _)) rfl ?_ (hcs2 (by assumption))|refine eU ?_;refine frA (aJ rfl (by exact hq2 _)) rfl ?_ (hcs2 (by assumption))|refine eU ?_;refine frA (aJ rfl (by exact hq3 _)) rfl ?_ (hcs2 (by assumption))|refine eU ?_;refine frA (aJ rfl (by exact hq4 _)) rfl ?_ rfl|refine eU ?_;refine frA (aJ rfl (by exact hq5 _)) rfl ?_ rfl|refine eU ?_;refine frA (aJ rfl (by exact hq6 _)) rfl ?_ rfl|refine fFA ?_;refine frA (bD rfl) rfl ?_ (hcl (by assumption))|refine Iy ?_|(refine fAdd ?_;first|refine fr (pI rfl rfl (by omega)) (by rfl) rfl ?_|refine fr (uY rfl rfl (by omega) (by omega)) (by rfl) rfl ?_)|refine Iz ?_|(refine fMul ?_;refine fr (Cm rfl rfl (by omega) (by omega)) (by rfl) rfl ?_)|refine WG ?_|(refine qX ?_;refine fr (bC rfl rfl rfl (by exact hfa _ rfl)) (by rfl) rfl ?_))|(refine fP ⟨by kernel_rfl,?_⟩)|refine bU (id:=2) ?_|refine bU (id:=3) ?_|refine bU (id:=7) ?_|refine bU (id:=8) ?_|refine bU (id:=15) ?_|refine aG ?_|refine sK2 ?_|refine sK1 ?_|fail));exact z_.h):A:=h ⟨k⟩
theorem aew {U:Heap} {B:Bld} {sb cS:Nat} (hv:mJ B) (hS:kQ U B sb) (hni:Ni U) :
  Ev prog 88 [.agg #[.s sb B.n cS,.i B.most]] U (.s U.length (B.n+1) (B.n+1)) (U++([.rw (slW (fun j=>U.length+1+j) (fun _=>401) (B.n+1))]++xA (fun j=>dw (iw B.b (B.n - j))) (B.n+1))):=by
 have hn1:=hv.n
 have hm:=hv.most
 refine aH U.length 92 func88 (h:=?_)
 have a0:(U++[aC.rw [.s sb B.n cS,.i B.most]])[U.length]?=some (.rw [.s sb B.n cS,.i B.most]):=aN
 refine zL ?_
 refine .mk (aG ?_)
 refine zL ?_
 rw [XR]
 obtain ⟨K,hK⟩:=xy (U++[aC.rw [.s sb B.n cS,.i B.most]]++[aC.rw (nX B.n (B.n+1) fun _=>0)])
 have a3:K.length=U.length+2:=by rw [hK];simp
 refine .mk (dB [(1,.p U.length),(3,.i (B.n:Nat)),(4,.s (U.length+1) (B.n+1) (B.n+1))] K hK.symm ⟨rfl,rfl,by simp [Env.get],trivial⟩ ?_)
 have b0:K[U.length]?=some (.rw [.s sb B.n cS,.i B.most]):=by rw [hK];exact aA aN
 have b1:K[U.length+1]?=some (.rw (nX B.n (B.n+1) fun _=>0)):=by rw [hK];exact bP oS
 have Q:K.take U.length=U:=by rw [hK];exact aP oS
 have E:Ni K:=by rw [hK];exact aX (aX hni rfl) rfl
 clear a0 hK
 have hput:putCells (K++[aC.rw (fZ (dM (.i 0)) 401)]) (U.length+1) B.n [.s K.length 401 401]=some ((K++[aC.rw (fZ (dM (.i 0)) 401)]).set (U.length+1) (.rw (nX B.n B.n fun j=>if j=B.n then K.length else 0))) :=
  fF (aA b1) (by rw [sU];simp) (by rw [sU];omega) (OU (aD _))
 apply aG
 refine zL ?_
 have O:RT U ((K++[aC.rw (fZ (dM (.i 0)) 401)]).set (U.length+1) (.rw (nX B.n B.n fun j=>if j=B.n then K.length else 0))) B sb cS B.n (fun j=>if j=B.n then K.length else 0):=by
  refine ⟨take_set (aP Q) oO,aB (aA b0) oO,aQ (aA b1),fun j h1 h2=>?_,fun j k h1 h2 h3 h4 _=>oO,jr (aX E rfl) rfl⟩
  obtain rfl:j=B.n:=oO
  rw [if_pos rfl]
  refine ⟨oO,aB ?_ oO⟩
  rw [qO,cM,<- aev B.b]
  exact aN
 refine dO (ι:=Nat×(Nat->Nat)) (fun k=>[(1,.p U.length),(3,.i (B.n:Nat)),(4,.s (U.length+1) (B.n+1) (B.n+1)),(5,.i ((k.1:Nat) - 1))])
  (fun k mk H=>k.1<=B.n/\mk=[]/\RT U H B sb cS k.1 k.2) (fun k=>k.1) (B.n,fun j=>if j=B.n then K.length else 0) tE ⟨aD _,rfl,O⟩ ?_
 clear hput b0 b1 Q E a3 O K
 rintro ⟨x,rb⟩ mk H ⟨hx,rfl,hR⟩
 dsimp only at hx hR ⊢
 have a0:=hR.b0
 by_cases ag:x=0
 ·subst ag
  have S:¬ ((0:Nat):Int) - 1>=0:=oO
  refine zL ?_
  have R:=hR.b1
  rw [OV] at R
  refine dG (v2:=.s U.length (B.n+1) (B.n+1)) (.tmp rfl .nil) (aW.xA (l:=fun j=>dw (iw B.b (B.n - j))) hR.pre R oO oO (fun j hj=>?_) (fun j hj k hk h=>hR.d j k (bL _) oO (bL _) oO h)) ⟨rfl,rfl⟩
  have h2:=hR.r j (bL _) oO
  exact ⟨oO,oO,h2.2⟩
 ·obtain ⟨i,rfl⟩:∃ i,x=i+1:=⟨x - 1,oO⟩
  have S:((i+1:Nat):Int) - 1>=0:=oO
  have Vv:((i+1:Nat):Int) - 1=(i:Nat):=oO
  refine zL ?_
  have a7:U.length+1<H.length:=aS hR.b1
  obtain ⟨a,e⟩:∃ a:Nat->Nat,a=fun j=>if j=i then H.length else rb j:=⟨_,rfl⟩
  have hput:putCells (H++[aC.rw (ints noRow)]) (U.length+1) i [.s H.length 401 401]=some ((H++[aC.rw (ints noRow)]).set (U.length+1) (.rw (nX B.n i a))) :=
   fF (aA hR.b1) (by rw [sU];simp;omega) (by rw [sU];omega) (by rw [e];exact OU oO)
  refine .mk (dB [(1,.p U.length),(3,.i (B.n:Nat)),(4,.s (U.length+1) (B.n+1) (B.n+1)),(5,.i (i:Nat))] H rfl ⟨rfl,rfl,rfl,congrArg (fun x=>some (Value.i x)) Vv,trivial⟩ ?_)
  apply aG
  refine zL ?_
  obtain ⟨H1,u⟩:=xy ((H++[aC.rw (ints noRow)]).set (U.length+1) (.rw (nX B.n i a)))
  obtain ⟨rr,D⟩:=xy H.length
  refine .mk (dB [(1,.p U.length),(3,.i (B.n:Nat)),(4,.s (U.length+1) (B.n+1) (B.n+1)),(5,.i (i:Nat))] H1 u.symm tE ?_)
  have C:H1.length=rr+1:=by rw [u,D];simp
  have c0:H1[U.length]?=some (.rw [.s sb B.n cS,.i B.most]):=by rw [u];exact aB (aA hR.b0) oO
  have c1:H1[U.length+1]?=some (.rw (nX B.n i a)):=by rw [u];exact aQ (aA hR.b1)
  have cp:H1.take U.length=U:=by rw [u];exact take_set (aP hR.pre) oO
  have J:Ni H1:=by rw [u];exact jr (aX hR.ni rfl) rfl
  have cr:H1[rr]?=some (.rw (ints noRow)):=by rw [u,D];exact aB aN oO
  have Y:∀ j,i+1<=j->j<=B.n->U.length+2<=a j/\a j ≠ rr/\H1[a j]?=some (.rw (ints (dw (iw B.b (B.n - j))))):=fun j h1 h2=>by
   have h3:=hR.r j h1 h2
   have h4:a j=rb j:=by rw [e];exact if_neg oO
   have h5:=aS h3.2
   rw [h4,u,D]
   exact ⟨h3.1,oO,aB (aA h3.2) oO⟩
  have cd:∀ j k,i<=j->j<=B.n->i<=k->k<=B.n->a j=a k->j=k:=fun j k h1 h2 h3 h4 h=>by
   have Uq:∀ m,i+1<=m->m<=B.n->rb m<H.length:=fun m g1 g2=>aS (hR.r m g1 g2).2
   rw [e] at h
   by_cases hj:j=i <;> by_cases hk:k=i
   ·omega
   ·simp only [hj,if_true,if_neg hk] at h
    have:=Uq k oO h4;omega
   ·simp only [hk,if_true,if_neg hj] at h
    have:=Uq j oO h2;omega
   ·simp only [if_neg hj,if_neg hk] at h
    exact hR.d j k oO h2 oO h4 h
  have ZZ:a i=rr:=by rw [e,D];exact if_pos rfl
  have ah:U.length+2<=rr:=oO
  clear hput hR a0 u e D a7 S Vv rb H
  have hf1:=Ze (U:=H1) (cS:=cS) (k:=i) hv ⟨fun j hj=>dJ cp (hS.st j hj)⟩ oO
  have a0:=c0
  apply aG
  refine zL ?_
  obtain ⟨Hb,w⟩:=xy (H1++[aC.rw [.i (B.b.lo i),.i (B.b.hi i)]])
  obtain ⟨k,hk⟩:∃ k,k+1=B.n - i:=⟨B.n - (i+1),oO⟩
  have d0:Hb[U.length]?=some (.rw [.s sb B.n cS,.i B.most]):=by rw [w];exact aA c0
  have d1:Hb[U.length+1]?=some (.rw (nX B.n i a)):=by rw [w];exact aA c1
  have dp:Hb.take U.length=U:=by rw [w];exact aP cp
  have N:Ni Hb:=by rw [w];exact aX J rfl
  have dr:Hb[rr]?=some (.rw (ints (dw (jQ B.b (k+1) 0 nev)))):=by rw [w,<- Y9];exact aA cr
  have T:∀ j,i+1<=j->j<=B.n->U.length+2<=a j/\a j ≠ rr/\Hb[a j]?=some (.rw (ints (dw (iw B.b (B.n - j))))):=fun j h1 h2=>by
   have h3:=Y j h1 h2
   rw [w];exact ⟨h3.1,h3.2.1,aA h3.2.2⟩
  have dt:Hb[rr+1]?=some (.rw [.i (B.b.lo i),.i (B.b.hi i)]):=by rw [w];exact bP C
  have F:Hb=Hb.set rr (.rw (ints (dw (jQ B.b (k+1) 0 nev)))):=(set_self dr).symm
  refine dB [(1,.p U.length),(3,.i (B.n:Nat)),(4,.s (U.length+1) (B.n+1) (B.n+1)),(5,.i (i:Nat)),(6,.p (rr+1)),(7,.i (-200))] Hb (by rw [w];rfl) ⟨rfl,rfl,rfl,rfl,by rw [<- C];rfl,rfl,trivial⟩ ?_
  clear hf1 a0 c0 c1 cp J cr Y C w H1
  have htu:=hv.tube (show i<B.n by omega)
  have hst:=hv.st i oO
  refine dO (ι:=Nat) (fun j=>[(1,.p U.length),(3,.i (B.n:Nat)),(4,.s (U.length+1) (B.n+1) (B.n+1)),(5,.i (i:Nat)),(6,.p (rr+1)),(7,.i (-200+(j:Int)))])
   (fun j mk H=>j<=401/\mk=[]/\H=Hb.set rr (.rw (ints (dw (jQ B.b (k+1) j nev))))) (fun j=>401 - j) 0 tE ⟨bL _,rfl,F⟩ ?_
  rintro j mk H ⟨hj,rfl,rfl⟩
  have hrbl:=aS dr
  by_cases I:j<401
  ·have W:-200+(j:Int)<=200:=oO
   obtain ⟨f,hf⟩:=xy (-200+(j:Int))
   rw [<- hf] at W ⊢
   have a0:∀ v,(Hb.set rr (.rw (ints (dw (jQ B.b (k+1) j v)))))[U.length]?=some (.rw [.s sb B.n cS,.i B.most]):=fun v=>aB d0 oO
   have a6:∀ v,(Hb.set rr (.rw (ints (dw (jQ B.b (k+1) j v)))))[rr+1]?=some (.rw [.i (B.b.lo i),.i (B.b.hi i)]):=fun v=>aB dt oO
   refine zL ?_
   refine dO (ι:=Nat) (fun q=>[(1,.p U.length),(3,.i (B.n:Nat)),(4,.s (U.length+1) (B.n+1) (B.n+1)),(5,.i (i:Nat)),(6,.p (rr+1)),(7,.i f),(8,.i (B.b.sLo i f+(q:Int)))])
    (fun q mk H=>q<=B.b.sN i f/\mk=[]/\H=Hb.set rr (.rw (ints (dw (jQ B.b (k+1) j (mF (B.b.zN i f) (B.b.sLo i f) q)))))) (fun q=>B.b.sN i f - q) 0 ⟨rfl,rfl,rfl,rfl,rfl,rfl,congrArg (fun x=>some (Value.i x)) (Int.add_zero (B.b.sLo i f)).symm,trivial⟩ ⟨bL _,rfl,rfl⟩ ?_
   rintro q mk H ⟨hq,rfl,rfl⟩
   by_cases hq1:q<B.b.sN i f
   ·have hg:=(B.b.AP (i:=i) (f:=f) (g:=B.b.sLo i f+q)).1 ⟨oO,oO⟩
    obtain ⟨g,z⟩:=xy (B.b.sLo i f+(q:Int))
    rw [<- z] at hg ⊢
    have hg1:-B.most<=g - f/\g - f<=B.most:=hg.2.2
    have aa:g<=min (B.b.hi i) (f+B.most):=oO
    refine zL ?_
    obtain ⟨m,G⟩:=xy (mF (B.b.zN i f) (B.b.sLo i f) q)
    have ad:mF (B.b.zN i f) (B.b.sLo i f) (q+1)=min m (B.b.zN i f g):=by rw [G,z];rfl
    rw [<- G]
    have hvt:0<=B.b.vt k g/\B.b.vt k g<=1099511627776:=B.b.KZ hv.ok k (show k<=B.n by omega) g
    have hmn:m<=1099511627776:=by rw [G];exact BI _ _ _
    have hm0:0<=m:=by
     rw [G]
     refine EI oD fun y _ _=>?_
     unfold Bl.zN
     have h1:=B.b.KZ hv.ok (B.n - (i+1)) (by show B.n - (i+1)<=B.n;omega) y
     have h2:0<=B.hard i*ab (y - f):=dl oO (Bl.uT _)
     exact Int.add_nonneg h1.1 h2
    have P:0<=ab (g - f)/\ab (g - f)<=400:=by unfold ab;omega
    have hmul:0<=ab (g - f)*B.hard i/\ab (g - f)*B.hard i<=400*9:=⟨dl P.1 oO,eT P.2 oO oO oO⟩
    have a2:B.b.zN i f g=ab (g - f)*B.hard i+B.b.vt k g:=by
     unfold Bl.zN
     have ae:B.b.n - (i+1)=k:=by show B.n - (i+1)=k;omega
     rw [ae,Int.add_comm,Int.mul_comm];rfl
    have L:0+(f+200).toNat*1=j:=oO
    obtain ⟨H,hH⟩:=xy (Hb.set rr (.rw (ints (dw (jQ B.b (k+1) j m)))))
    refine .mk (dB [(1,.p U.length),(3,.i (B.n:Nat)),(4,.s (U.length+1) (B.n+1) (B.n+1)),(5,.i (i:Nat)),(6,.p (rr+1)),(7,.i f),(8,.i g)] H hH.symm tE ?_)
    have e0:H[U.length]?=some (.rw [.s sb B.n cS,.i B.most]):=by rw [hH];exact a0 _
    have e1:H[U.length+1]?=some (.rw (nX B.n i a)):=by rw [hH];exact aB d1 oO
    have er:H[rr]?=some (.rw (ints (dw (jQ B.b (k+1) j m)))):=by rw [hH];exact aQ dr
    have h3:=T (i+1) oO hx
    have M:H[a (i+1)]?=some (.rw (ints (dw (iw B.b k)))):=by
     rw [hH,show k=B.n - (i+1) by omega];exact aB h3.2.2 h3.2.1.symm
    have a5:Ni H:=by rw [hH];exact jr N rfl
    have ep:H.take U.length=U:=by rw [hH];exact take_set dp oO
    have ai:=aS e1
    have hl2:=aS er
    have hl3:=aS M
    have hl4:sb<H.length:=dS (dJ ep (hS.st i oO))
    have hl5:U.length<H.length:=oO
    have hcl:∀ {q o:Nat},q<H.length->closed H.length (.pointer (some ⟨q,o,none⟩))=true:=fun {q o} h=>(show Nat.blt q H.length=true from Nat.blt_eq.mpr h)
    have hcs2:∀ {q o n c:Nat},q<H.length->closed H.length (.slice (some ⟨q,o,none⟩) n c)=true:=fun h=>cZ (Nat.blt_eq.mpr h)
    have hcs:∀ {o n c:Nat},closed H.length (.slice (some ⟨U.length+1,o,none⟩) n c)=true:=cZ (Nat.blt_eq.mpr ai)
    have hq1:∀ X,aI (H++X) (U.length+1) (0+i*1)=some (.s rr 401 401):=fun X=>by rw [show 0+i*1=i by omega,aF (aA e1),OT (aD _) oO,ZZ]
    have hq2:∀ X,aI (H++X) (U.length+1) (0+((i:Int)+1).toNat*1)=some (.s (a (i+1)) 401 401):=fun X=>by
     rw [show 0+((i:Int)+1).toNat*1=i+1 by omega,aF (aA e1),OT oO oO]
    have hq3:∀ X,aI (H++X) U.length (0+0)=some (.s sb B.n cS):=fun X=>aF (aA e0)
    have hq4:∀ X,aI (H++X) rr (0+(f+200).toNat*1)=some (.i m):=fun X=>by rw [L,aF (aA er),iF (by rw [dQ];exact I),UD _ _ _ I]
    have hq5:∀ X,aI (H++X) sb (0+i*4+3)=some (.i (B.hard i)):=fun X=>by
     rw [aR];exact eX (k:=3) (dJ (aP ep) (hS.st i oO)) oO
    have hq6:∀ X,aI (H++X) (a (i+1)) (0+(g+200).toNat*1)=some (.i (B.b.vt k g)):=fun X=>by
     rw [show 0+(g+200).toNat*1=(g+200).toNat by omega,aF (aA M),iF (by rw [dQ];omega),rE oO]
     unfold iw
     rw [show (((g+200).toNat:Nat):Int) - 200=g by omega]
    have hfa:∀ X:Heap,X.all (fun o=>!aU o)=true->Ev prog 89 [.i (g - f)] (H++X) (.i (ab (g - f))) (H++X):=fun X hX=>OE oO (aX a5 hX)
    have hput:putCells (H++gV (fun _=>true) []) rr (0+(f+200).toNat*1) [.i (min m (ab (g - f)*B.hard i+B.b.vt k g))]=some (Hb.set rr (.rw (ints (dw (jQ B.b (k+1) j (mF (B.b.zN i f) (B.b.sLo i f) (q+1))))))):=by
     rw [show H++gV (fun _=>true) []=H from bN H,fF er (by rw [bQ,dQ];simp;omega) (by rw [bQ,dQ];omega) (by rw [L,wZ (by rw [dQ];exact I),Oy]),hH,cN,ad,a2]
    refine eY oK rfl (?_)
    refine zL ?_
    exact ⟨q+1,⟨oO,rfl,rfl⟩,oO,⟨rfl,rfl,rfl,rfl,rfl,rfl,congrArg (fun x=>some (Value.i x)) (by rw [z];omega),trivial⟩⟩
   ·have ac:q=B.b.sN i f:=oO
    have a4:=mt (B.b.AP (i:=i) (f:=f) (g:=B.b.sLo i f+q)).2 (fun h=>oO)
    obtain ⟨g,z⟩:=xy (B.b.sLo i f+(q:Int))
    have hg3:B.b.lo i<=g/\-B.most<=g - f:=by
     have:g=max (B.b.lo i) (f - B.most)+(q:Int):=z
     omega
    have hg4:¬ (B.b.lo i<=g/\g<=B.b.hi i/\-B.most<=g - f/\g - f<=B.most):=by rw [z];exact a4
    rw [<- z]
    have aa:¬ g<=min (B.b.hi i) (f+B.most):=oO
    refine zL ?_
    refine ⟨j+1,⟨oO,rfl,?_⟩,oO,⟨rfl,rfl,rfl,rfl,rfl,congrArg (fun x=>some (Value.i x)) (by rw [hf];omega),trivial⟩⟩
    rw [ac,<- B.b.Qy (show i<B.b.n from show i<B.n by omega),show B.b.n - i=k+1 from hk.symm,hf,Le]
  ·obtain rfl:j=401:=oO
   have W:¬ -200+((401:Nat):Int)<=200:=oO
   refine zL ?_
   refine ⟨(i,a),⟨by dsimp only;omega,rfl,?_⟩,by dsimp only;omega,tE⟩
   rw [Ox]
   refine ⟨take_set dp oO,aB d0 oO,aB d1 oO,fun m h1 h2=>?_,cd,jr N rfl⟩
   dsimp only
   by_cases af:m=i
   ·subst af
    rw [ZZ,<- hk]
    exact ⟨ah,aQ dr⟩
   ·have h3:=T m oO h2
    exact ⟨h3.1,aB h3.2.2 h3.2.1.symm⟩
theorem XT {U:Heap} {B:Bld} {sb cS:Nat} (hv:mJ B) (hS:kQ U B sb) (hni:Ni U):Ev prog 29 [.agg #[.s sb B.n cS,.i B.most]] U (.i (B.b.vt B.n 0)) U:=by
 have hn1:=hv.n
 refine aH U.length 9 func29 (h:=?_)
 have hf1:=aew (U:=U++[aC.rw [.s sb B.n cS,.i B.most]]) (cS:=cS) hv (kQ.app hS) (aX hni rfl)
 have a0:(U++[aC.rw [.s sb B.n cS,.i B.most]])[U.length]?=some (.rw [.s sb B.n cS,.i B.most]):=aN
 have c:(U++[aC.rw [.s sb B.n cS,.i B.most]]++([aC.rw (slW (fun j=>(U++[aC.rw [.s sb B.n cS,.i B.most]]).length+1+j) (fun _=>401) (B.n+1))]++xA (fun j=>dw (iw B.b (B.n - j))) (B.n+1)))[(U++[aC.rw [.s sb B.n cS,.i B.most]]).length]?=some (.rw (slW (fun j=>(U++[aC.rw [.s sb B.n cS,.i B.most]]).length+1+j) (fun _=>401) (B.n+1))):=by rw [<- cD];exact aA aN
 have a:(U++[aC.rw [.s sb B.n cS,.i B.most]]++([aC.rw (slW (fun j=>(U++[aC.rw [.s sb B.n cS,.i B.most]]).length+1+j) (fun _=>401) (B.n+1))]++xA (fun j=>dw (iw B.b (B.n - j))) (B.n+1)))[(U++[aC.rw [.s sb B.n cS,.i B.most]]).length+1]?=some (.rw (ints (dw (iw B.b B.n)))):=by
  rw [bE oO,show (U++[aC.rw [.s sb B.n cS,.i B.most]]).length+1 - (U++[aC.rw [.s sb B.n cS,.i B.most]]).length=0+1 by omega,List.singleton_append,fy,Vk oO]
  rfl
 have hd1:aI (U++[aC.rw [.s sb B.n cS,.i B.most]]++([aC.rw (slW (fun j=>(U++[aC.rw [.s sb B.n cS,.i B.most]]).length+1+j) (fun _=>401) (B.n+1))]++xA (fun j=>dw (iw B.b (B.n - j))) (B.n+1))) (U++[aC.rw [.s sb B.n cS,.i B.most]]).length 0=some (.s ((U++[aC.rw [.slice (some ⟨sb,0,none⟩) B.n cS,.i B.most]]).length+1) 401 401):=by
  rw [aF c,Qo oO]
 have d:aI (U++[aC.rw [.s sb B.n cS,.i B.most]]++([aC.rw (slW (fun j=>(U++[aC.rw [.s sb B.n cS,.i B.most]]).length+1+j) (fun _=>401) (B.n+1))]++xA (fun j=>dw (iw B.b (B.n - j))) (B.n+1))) ((U++[aC.rw [.s sb B.n cS,.i B.most]]).length+1) 200=some (.i (B.b.vt B.n 0)):=by
  rw [aF a,iF (by rw [dQ];omega),rE oO];rfl
 clear c a
 repeat' (first|refine sCm ?_|(refine gU ?_;first|(refine cO ?_;first|refine st (aJ rfl (by first|exact hd1|exact d)) rfl rfl ?_|refine st (bG rfl (by exact aV a0 rfl)) rfl rfl ?_)|(refine gIA ?_;refine st (pJ rfl rfl oO oO) rfl rfl ?_)|(refine dV ?_;refine st (bC rfl rfl rfl (by exact hf1)) rfl rfl ?_))|refine aG ?_)
 exact dG (.tmp rfl .nil) (.plain oS rfl) ⟨rfl,rfl⟩
theorem abn {n:Nat} {Z:Rho} {a b d a' b' d':Value} (h1:jS n Z a a') (h2:jS n Z b b') (h3:jS n Z d d'):jS n Z (.tuple #[a,b,d]) (.tuple #[a',b',d']):=by
 refine .tuple _ _ rfl fun i h _=>?_
 simp at h
 rcases (by omega:i=0\/i=1\/i=2) with rfl|rfl|rfl
 ·exact h1
 ·exact h2
 ·exact h3
theorem Zz {A B:Prop} (k:B) (h:Hide B->A:=by intro z_;(repeat' (first|refine sCm ?_|(refine gU ?_;first|refine st (qY (l:=B.n) (by rfl) (by rfl) rfl rfl (by omega) (by omega) (by omega)) rfl rfl ?_|(refine cO ?_;refine st (bG rfl (by exact aV a0 rfl)) rfl rfl ?_)|refine sK0 ?_|(refine dV ?_;refine st (bC rfl rfl rfl (by first|exact hf1|exact hf2)) rfl rfl ?_)|(refine gCopy ?_;refine st (Po rfl rfl (by omega) (by assumption) (by exact jD _) (by exact hput)) rfl rfl ?_))|refine bU (id:=4) ?_|refine bU (id:=7) ?_|refine bU (id:=8) ?_|refine aG ?_|refine sK1 ?_|fail));exact z_.h):A:=h ⟨k⟩
theorem aex {U:Heap} {B:Bld} {sb cS:Nat} (hv:mJ B) (hS:kQ U B sb) (hb:B.b.vt B.n 0<nev) (hni:Ni U) :
  Ev prog 26 [.agg #[.s sb B.n cS,.i B.most]] U (.tuple #[.s U.length B.n B.n,.i (B.b.vt B.n 0),.i 0]) (U++[.rw (ints (fO B.n B.b.blow))]):=by
 have hn1:=hv.n
 refine aH U.length 33 func26 (h:=?_)
 have a0:(U++[aC.rw [.s sb B.n cS,.i B.most]])[U.length]?=some (.rw [.s sb B.n cS,.i B.most]):=aN
 have hf1:=yF (U:=U++[aC.rw [.s sb B.n cS,.i B.most]]) (cS:=cS) hv (kQ.app hS) (aX hni rfl)
 refine Zz ?_
 obtain ⟨K,hK⟩:=xy (U++[aC.rw [.s sb B.n cS,.i B.most]]++[.rw (B.cs sb cS ((U++[aC.rw [.s sb B.n cS,.i B.most]]).length+1) (B.n+1)),.rw (rgC B.tu (B.n+1))])
 refine .mk (dB [(2,.slice none 0 0),(3,.i 0),(4,.i 0),(5,.p (U.length+1))] K hK.symm ⟨rfl,rfl,rfl,congrArg (fun n=>some (Value.p n)) oS,trivial⟩ ?_)
 have f:iY K B (U.length+1) sb cS (U.length+2) (B.n+1):=by
  rw [hK]
  have:=EM (K:=U++[aC.rw [.s sb B.n cS,.i B.most]]) (cS:=cS) (kQ.app hS)
  simpa using this
 have e:K.take U.length=U:=by rw [hK];exact aP oS
 have c:Ni K:=by rw [hK];exact aX (aX hni rfl) rfl
 have hf2:=EN hv f c
 have hc0:0<=B.b.vt B.n 0/\B.b.vt B.n 0<1099511627776:=⟨(B.b.KZ hv.ok B.n (aD _) 0).1,hb⟩
 unfold AU AV at hf2
 rw [if_pos hb,if_pos hb] at hf2
 have hcn:¬ B.b.vt B.n 0>=1099511627776:=oO
 clear hf1 a0 hK
 apply aG
 refine Zz ?_
 refine .mk (aG ?_)
 refine Zz ?_
 have a:(fZ (dM (Value.i 0)) B.n).length=B.n:=by rw [qO,bQ];simp
 have d:(ints (fO B.n B.b.blow)).length=B.n:=by rw [bQ,nO]
 have hd1:aK (K++[aC.rw (ints (fO B.n B.b.blow))]++[aC.rw (fZ (dM (.i 0)) B.n)]) K.length 0 (B.n*1)=some (ints (fO B.n B.b.blow)):=aV (aA aN) (by rw [d,cH])
 have hput:putCells (K++[aC.rw (ints (fO B.n B.b.blow))]++[aC.rw (fZ (dM (.i 0)) B.n)]) (K++[aC.rw (ints (fO B.n B.b.blow))]).length 0 (ints (fO B.n B.b.blow))=some (K++[aC.rw (ints (fO B.n B.b.blow))]++[aC.rw (ints (fO B.n B.b.blow))]):=by
  rw [iH (by rw [d,a];exact aD _) (by rw [a];omega)]
  simp [splice,d,a]
 have hone:=jD (fO B.n B.b.blow)
 refine .mk (aG ?_)
 refine Zz ?_
 have s0:fK U.length [(K++[aC.rw (ints (fO B.n B.b.blow))]).length] U.length=⟨(K++[aC.rw (ints (fO B.n B.b.blow))]).length,0,0⟩:=by simp [fK]
 exact dG (v2:=.tuple #[.s U.length B.n B.n,.i (B.b.vt B.n 0),.i 0]) (.tmp rfl (.tmp rfl (.tmp rfl .nil))) (aW.src [.rw (ints (fO B.n B.b.blow))] [(K++[aC.rw (ints (fO B.n B.b.blow))]).length] (aP (aP e)) rfl (by have:=take_len e;simp [dF];omega) ⟨lC s0 (.inl aN) (aZ _),trivial⟩ (abn (jY oS s0 (aD _)) (.i _) (.i 0))) ⟨rfl,rfl⟩
theorem aey {A B:Prop} (k:B) (h:Hide B->A:=by intro z_;(repeat' (first|refine sCm ?_|(refine gU ?_;first|(refine cO ?_;refine st (bG rfl (by exact aV a0 rfl)) rfl rfl ?_)|refine sK0 ?_|(refine dV ?_;refine st (bC rfl rfl rfl (by first|exact hf1|exact hf2|exact hf3)) rfl rfl ?_))|refine bU (id:=4) ?_|refine bU (id:=7) ?_|refine aG ?_|refine sK1 ?_|fail));exact z_.h):A:=h ⟨k⟩
theorem abo {U:Heap} {B:Bld} {sb cS:Nat} (hv:mJ B) (hS:kQ U B sb) (hb:B.b.vt B.n 0<nev) (hni:Ni U) :
  Ev prog 28 [.agg #[.s sb B.n cS,.i B.most]] U (.tuple #[.s U.length B.n B.n,.i 0]) (U++[.rw (ints (fO B.n (B.b.pull B.b.blow)))]):=by
 have hn1:=hv.n
 refine aH U.length 26 func28 (h:=?_)
 have a0:(U++[aC.rw [.s sb B.n cS,.i B.most]])[U.length]?=some (.rw [.s sb B.n cS,.i B.most]):=aN
 have hf1:=yF (U:=U++[aC.rw [.s sb B.n cS,.i B.most]]) (cS:=cS) hv (kQ.app hS) (aX hni rfl)
 refine aey ?_
 obtain ⟨K,hK⟩:=xy (U++[aC.rw [.s sb B.n cS,.i B.most]]++[.rw (B.cs sb cS ((U++[aC.rw [.s sb B.n cS,.i B.most]]).length+1) (B.n+1)),.rw (rgC B.tu (B.n+1))])
 refine .mk (dB [(2,.slice none 0 0),(3,.i 0),(4,.p (U.length+1))] K hK.symm ⟨rfl,rfl,congrArg (fun n=>some (Value.p n)) oS,trivial⟩ ?_)
 have e:iY K B (U.length+1) sb cS (U.length+2) (B.n+1):=by
  rw [hK]
  have:=EM (K:=U++[aC.rw [.s sb B.n cS,.i B.most]]) (cS:=cS) (kQ.app hS)
  simpa using this
 have f:K.take U.length=U:=by rw [hK];exact aP oS
 have d:Ni K:=by rw [hK];exact aX (aX hni rfl) rfl
 have hf2:=EN hv e d
 have hc0:0<=B.b.vt B.n 0/\B.b.vt B.n 0<1099511627776:=⟨(B.b.KZ hv.ok B.n (aD _) 0).1,hb⟩
 unfold AU AV at hf2
 rw [if_pos hb,if_pos hb] at hf2
 have hcn:¬ B.b.vt B.n 0>=1099511627776:=oO
 have a:=B.b.Gj hv.ok hb
 have hm:=hv.most
 have hf3:=UO (U:=K++[aC.rw (ints (fO B.n B.b.blow))]) (xb:=K.length) (c:=B.n) hv e.app (fun i hi=>by rw [aF aN];exact Lr hi) oS (fun i hi=>by
  have h1:-B.most<=B.b.blow i:=(a i hi).1
  have h2:B.b.blow i<=B.most:=(a i hi).2.1
  omega)
 clear hf1 a0 hK
 apply aG
 refine aey ?_
 refine .mk (aG ?_)
 refine aey ?_
 have s0:fK U.length [(K++[aC.rw (ints (fO B.n B.b.blow))]).length] U.length=⟨(K++[aC.rw (ints (fO B.n B.b.blow))]).length,0,0⟩:=by simp [fK]
 exact dG (v2:=.tuple #[.s U.length B.n B.n,.i 0]) (.tmp rfl (.tmp rfl .nil)) (aW.src [.rw (ints (fO B.n (B.b.pull B.b.blow)))] [(K++[aC.rw (ints (fO B.n B.b.blow))]).length] (aP (aP f)) rfl (by have:=take_len f;simp [dF];omega) ⟨lC s0 (.inl aN) (aZ _),trivial⟩ (sH (jY oS s0 (aD _)) (.i 0))) ⟨rfl,rfl⟩
end Go.Proofs.YtajpgeklmcjciaaGreat
namespace Go.AH.Warp
theorem zB {f:Nat->Int} {n:Nat} {C:Int} (h:∀ i<n,-C<=f i/\f i<=C):∀ k≤n,-C*(k:Int)<=bZ f k/\bZ f k<=C*(k:Int)
 |0,_=>by simp [bZ]
 |k+1,hk=>by
  have ih:=zB h k oO
  have:=h k oO
  have e:bZ f (k+1)=bZ f k+f k:=rfl
  have e1:C*((k+1:Nat):Int)=C*(k:Int)+C:=by rw [Int.natCast_succ,Int.mul_add,Int.mul_one]
  have e2:-C*((k+1:Nat):Int)=-C*(k:Int) - C:=by rw [Int.natCast_succ,Int.mul_add,Int.mul_one];omega
  omega
def Bl.up (b:Bl) (p:Nat->Int) (i:Nat):Int:=max 0 (p i)*b.lo i+min 0 (p i)*b.hi i
def Bl.dn (b:Bl) (p:Nat->Int) (i:Nat):Int:=b.most*max 0 (ab (Bl.tail p b.n i) - b.hard i)
theorem aez (b:Bl) (p:Nat->Int):b.bound p=bZ (fun i=>b.up p i - b.dn p i) b.n:=rfl
theorem aeA {B:Bld} {p:Nat->Int} (hv:mJ B) {i:Nat} (hi:i<B.n) (hp:-100<=p i/\p i<=100):(-20000<=max 0 (p i)*B.b.lo i/\max 0 (p i)*B.b.lo i<=20000)/\-20000<=min 0 (p i)*B.b.hi i/\min 0 (p i)*B.b.hi i<=20000:=by
 have ht:=hv.tube hi
 have a:∀ x y:Int,0<=x->x<=100->-200<=y->y<=200->-20000<=x*y/\x*y<=20000:=fun x y h1 h2 h3 h4=>by
  have h5:x*y<=x*200:=Int.mul_le_mul_of_nonneg_left h4 h1
  have h6:x*(-200)<=x*y:=Int.mul_le_mul_of_nonneg_left h3 h1
  omega
 refine ⟨a _ _ oO oO oO oO,?_⟩
 have:=a (-(min 0 (p i))) (B.b.hi i) oO oO oO oO
 rw [Int.neg_mul] at this
 omega
theorem Jf {B:Bld} {p:Nat->Int} (hn:B.n<=20) (hp:∀ i<B.n,-100<=p i/\p i<=100) {i:Nat} (hi:i<=B.n):-4000<=Bl.tail p B.n i/\Bl.tail p B.n i<=4000:=by
 have h1:=zB hp B.n (aD _)
 have h2:=zB hp i hi
 unfold Bl.tail
 omega
theorem aeB {B:Bld} {p:Nat->Int} (hv:mJ B) (hp:∀ i<B.n,-100<=p i/\p i<=100) {i:Nat} (hi:i<B.n):0<=B.b.dn p i/\B.b.dn p i<=800000:=by
 have ht:=Jf hv.n.2 hp (show i<=B.n by omega)
 have hm:=hv.most
 have hst:=hv.st i hi
 have hx:0<=max 0 (ab (Bl.tail p B.n i) - B.hard i)/\max 0 (ab (Bl.tail p B.n i) - B.hard i)<=4000:=by unfold ab;omega
 have h1:0<=B.most*max 0 (ab (Bl.tail p B.n i) - B.hard i):=dl hm.1 hx.1
 have h2:B.most*max 0 (ab (Bl.tail p B.n i) - B.hard i)<=200*4000:=eT hm.2 hx.2 hx.1 oO
 exact ⟨h1,Int.le_trans h2 oD⟩
theorem aeC {B:Bld} {p:Nat->Int} (hv:mJ B) (hp:∀ i<B.n,-100<=p i/\p i<=100) {k:Nat} (hk:k<=B.n):-20000000<=bZ (fun i=>B.b.up p i - B.b.dn p i) k/\bZ (fun i=>B.b.up p i - B.b.dn p i) k<=20000000:=by
 have h:=zB (f:=fun i=>B.b.up p i - B.b.dn p i) (n:=B.n) (C:=1000000) (fun i hi=>by
  have h1:=aeA hv hi (hp i hi)
  have h2:=aeB hv hp hi
  have e:B.b.up p i=max 0 (p i)*B.b.lo i+min 0 (p i)*B.b.hi i:=rfl
  omega) k hk
 have:=hv.n
 omega
end Go.AH.Warp
namespace Go.Proofs.YtajpgeklmcjciaaGreat
attribute [local irreducible] dA bJ bK jh fQ dK eH bY eu aW dR dW
open Go.AH.Heat Go.AH.Warp
theorem AY {A B:Prop} (k:B) (h:Hide B->A:=by intro z_;(repeat' (first|refine sCm ?_|(refine gU ?_;first|(refine cO ?_;first|refine st (aJ rfl (by first|exact ig rfl|exact hd1)) rfl rfl ?_|refine st (bG rfl (by first|exact aV a0 rfl|exact dZ rfl)) rfl rfl ?_)|refine sK9 ?_|refine sK0 ?_|(refine rW ?_;refine st (iV rfl) rfl rfl ?_)|refine sK6 ?_|(refine dV ?_;refine st (bC rfl rfl rfl (by exact hf1)) rfl rfl ?_)|refine sK8 ?_)|(refine fU ?_;first|refine nH ?_;refine frA (dY rfl) rfl ?_ (hcs (by assumption))|refine fIA ?_;refine frA (iE rfl rfl (by omega)) rfl ?_ (hcl (by assumption))|refine fFA ?_;refine frA (bD rfl) rfl ?_ (hcl (by assumption))|refine eU ?_;refine frA (aJ rfl (by exact hq1 _)) rfl ?_ rfl|refine eU ?_;refine frA (aJ rfl (by exact hq2 _)) rfl ?_ rfl|refine eU ?_;refine frA (aJ rfl (by exact hq3 _)) rfl ?_ rfl|refine eU ?_;refine frA (aJ rfl (by exact hq4 _)) rfl ?_ (hcs (by assumption))|refine Iy ?_|(refine Bf ?_;refine fr (jd rfl) (by rfl) rfl ?_)|refine TM ?_|refine Iz ?_|(refine fMul ?_;refine fr (Cm rfl rfl (by omega) (by omega)) (by rfl) rfl ?_)|refine aar ?_|refine WG ?_|(refine qX ?_;refine fr (bC rfl rfl rfl (by exact hfa _ rfl)) (by rfl) rfl ?_))|(refine fP ⟨by kernel_rfl,?_⟩)|refine bU (id:=10) ?_|refine bU (id:=15) ?_|refine bU (id:=16) ?_|refine bU (id:=21) ?_|refine aG ?_|refine sK2 ?_|refine sK1 ?_|fail));exact z_.h):A:=h ⟨k⟩
theorem Vl {U:Heap} {B:Bld} {sb cS xb c:Nat} {p:Nat->Int} (hv:mJ B) (hS:kQ U B sb) (hx:dD U xb (ints (fO B.n p))) (hp:∀ i<B.n,-100<=p i/\p i<=100) (hni:Ni U) :
  Ev prog 30 [.agg #[.s sb B.n cS,.i B.most],.s xb B.n c] U (.tuple #[.i (B.b.bound p),.i 0]) U:=by
 have hn1:=hv.n
 have hm:=hv.most
 refine aH U.length 92 func30 (h:=?_)
 obtain ⟨K,hK⟩:=xy (U++[aC.rw [.s sb B.n cS,.i B.most]])
 have a0:K[U.length]?=some (.rw [.s sb B.n cS,.i B.most]):=by rw [hK];exact aN
 have C:K.take U.length=U:=by rw [hK];simp
 have f:Ni K:=by rw [hK];exact aX hni rfl
 have G:kQ K B sb:=by rw [hK];exact kQ.app hS
 have N:dD K xb (ints (fO B.n p)):=by rw [hK];exact nS hx
 have hf1:=Hw (cS:=cS) hv G f
 have hlen:¬ ((B.n:Nat):Int) ≠ ((B.n:Nat):Int):=fun h=>h rfl
 rw [hK] at hf1
 refine AY ?_
 rw [<- hK]
 refine dO (ι:=Nat) (fun k=>[(1,.s xb B.n c),(2,.p U.length),(6,.i (k:Nat))])
  (fun k mk H=>k<=B.n/\mk=[]/\H=K) (fun k=>B.n - k) 0 tE ⟨bL _,rfl,rfl⟩ ?_
 clear hf1
 rintro k mk H ⟨hk,rfl,rfl⟩
 by_cases a:k<B.n
 ·have y:(k:Int)<(B.n:Nat):=oO
  have hd1:aI H xb k=some (.i (p k)):=BM N a
  have hf1:Ev prog 83 [.i (p k),.i (-100),.i 100] H (.bool true) H:=yG (hp k a) f
  refine AY ?_
  exact ⟨k+1,⟨oO,rfl,rfl⟩,oO,tE⟩
 ·obtain rfl:k=B.n:=oO
  have y:¬ ((B.n:Nat):Int)<(B.n:Nat):=oO
  refine AY ?_
  refine .mk (aG ?_)
  refine AY ?_
  refine dO (ι:=Nat) (fun k=>[(1,.s xb B.n c),(2,.p U.length),(7,.i (bZ (fun i=>B.b.up p i - B.b.dn p i) k)),(8,.i (k:Nat))])
   (fun k mk T=>k<=B.n/\mk=[]/\T.take H.length=H/\T.all (fun o=>!aU o)=true) (fun k=>B.n - k) 0 tE ⟨bL _,rfl,eb,f⟩ ?_
  rintro k mk T ⟨hk,rfl,w,u⟩
  have E:=a0
  have a0:=vk w E
  have d:=xw w C
  by_cases a:k<B.n
  ·have y:(k:Int)<(B.n:Nat):=oO
   have hf1:=Ze (U:=T) (cS:=cS) (k:=k) hv ⟨fun j hj=>dJ d (hS.st j hj)⟩ a
   refine AY ?_
   obtain ⟨T1,r⟩:=xy (T++[aC.rw [.i (B.b.lo k),.i (B.b.hi k)]])
   refine .mk (dB [(1,.s xb B.n c),(2,.p U.length),(7,.i (bZ (fun i=>B.b.up p i - B.b.dn p i) k)),(8,.i (k:Nat)),(9,.p T.length)] T1 r.symm tE ?_)
   have c9:T1[T.length]?=some (.rw [.i (B.b.lo k),.i (B.b.hi k)]):=by rw [r];exact aN
   have z:T1.take H.length=H:=by rw [r];exact aP w
   have m:Ni T1:=by rw [r];exact aX u rfl
   clear hf1 a0 d w u r
   generalize T.length=tb at c9 ⊢
   clear T
   have d:=xw z C
   have a0:=vk z E
   have hl1:tb<T1.length:=aS c9
   have hl2:xb<T1.length:=oJ (gB d hx)
   have hl3:U.length<T1.length:=aS a0
   have hl4:sb<T1.length:=dS (dJ d (hS.st k a))
   have hcl:∀ {q o:Nat},q<T1.length->closed T1.length (.pointer (some ⟨q,o,none⟩))=true:=fun {q o} h=>(show Nat.blt q T1.length=true from Nat.blt_eq.mpr h)
   have hcs:∀ {q o n c:Nat},q<T1.length->closed T1.length (.slice (some ⟨q,o,none⟩) n c)=true:=fun h=>cZ (Nat.blt_eq.mpr h)
   have hq1:∀ X,aI (T1++X) xb (0+k*1)=some (.i (p k)):=fun X=>by
    rw [show 0+k*1=k by omega];exact BM (nS (gB d hx)) a
   have hq2:∀ X,aI (T1++X) tb (0+0)=some (.i (B.b.lo k)):=fun X=>aF (aA c9)
   have hq3:∀ X,aI (T1++X) tb (0+1)=some (.i (B.b.hi k)):=fun X=>aF (aA c9)
   have L:=aeA hv a (hp k a)
   have hbn:=aeC hv hp (show k<=B.n by omega)
   refine eY oK rfl ?_
   refine AY ?_
   refine .mk (dB [(1,.s xb B.n c),(2,.p U.length),(7,.i (bZ (fun i=>B.b.up p i - B.b.dn p i) k+B.b.up p k)),(8,.i (k:Nat))] T1 (bN T1) tE ?_)
   have hupk:-40000<=B.b.up p k/\B.b.up p k<=40000:=by
    have e:B.b.up p k=max 0 (p k)*B.b.lo k+min 0 (p k)*B.b.hi k:=rfl
    omega
   clear hq2 hq3 L c9
   apply aG
   refine AY ?_
   refine dO (ι:=Nat) (fun q=>[(1,.s xb B.n c),(2,.p U.length),(7,.i (bZ (fun i=>B.b.up p i - B.b.dn p i) k+B.b.up p k)),(8,.i (k:Nat)),(10,.i (bZ p q - bZ p k)),(11,.i (q:Nat))])
    (fun q mk T=>k<=q/\q<=B.n/\mk=[]/\T=T1) (fun q=>B.n - q) k ⟨rfl,rfl,rfl,rfl,congrArg (fun x=>some (Value.i x)) (Int.sub_self _).symm,rfl,trivial⟩ ⟨aD _,oO,rfl,rfl⟩ ?_
   rintro q mk T ⟨hq,hqn,rfl,rfl⟩
   have D:=zB hp
   by_cases hql:q<B.n
   ·have I:(q:Int)<(B.n:Nat):=oO
    have hd1:aI T xb q=some (.i (p q)):=BM (gB d hx) hql
    have h1:=D q oO
    have h2:=D k oO
    have h3:=hp q hql
    refine AY ?_
    exact ⟨q+1,⟨by omega,by omega,rfl,rfl⟩,by omega,⟨rfl,rfl,rfl,rfl,congrArg (fun x=>some (Value.i x)) (show bZ p q - bZ p k+p q=bZ p q+p q - bZ p k by omega),rfl,trivial⟩⟩
   ·obtain rfl:q=B.n:=oO
    have I:¬ ((B.n:Nat):Int)<(B.n:Nat):=oO
    have hst:=hv.st k a
    have hti:=Jf hv.n.2 hp (show k<=B.n by omega)
    have F:bZ p B.n - bZ p k=Bl.tail p B.n k:=rfl
    rw [F]
    refine AY ?_
    have M:=aeB hv hp a
    have g:B.b.dn p k=B.most*max 0 (ab (Bl.tail p B.n k) - B.hard k):=rfl
    have hab:0<=ab (Bl.tail p B.n k)/\ab (Bl.tail p B.n k)<=4000:=by unfold ab;omega
    rw [g] at M
    have hq1:∀ X,aI (T++X) U.length (0+1)=some (.i B.most):=fun X=>aF (aA a0)
    have hq2:∀ X,aI (T++X) sb (0+k*4+3)=some (.i (B.hard k)):=fun X=>by
     rw [aR];exact eX (k:=3) (dJ (aP d) (hS.st k a)) oO
    have hq3:=hq2
    have hq4:∀ X,aI (T++X) U.length (0+0)=some (.s sb B.n cS):=fun X=>aF (aA a0)
    have hq5:=hq2
    have hfa:∀ X:Heap,X.all (fun o=>!aU o)=true->Ev prog 89 [.i (Bl.tail p B.n k)] (T++X) (.i (ab (Bl.tail p B.n k))) (T++X):=fun X hX=>OE oO (aX m hX)
    refine .mk (dB [(1,.s xb B.n c),(2,.p U.length),(7,.i (bZ (fun i=>B.b.up p i - B.b.dn p i) k+B.b.up p k)),(8,.i (k:Nat)),(10,.i (Bl.tail p B.n k))] T rfl tE ?_)
    obtain ⟨s1,J⟩:=xy (bZ (fun i=>B.b.up p i - B.b.dn p i) k+B.b.up p k)
    rw [<- J]
    have hs1b:-21000000<=s1/\s1<=21000000:=oO
    refine eY oK rfl ?_
    refine AY ?_
    rw [show T++gV (fun _=>true) []=T from bN T]
    refine ⟨k+1,⟨oO,rfl,z,m⟩,oO,⟨rfl,rfl,congrArg (fun x=>some (Value.i x)) ?_,rfl,trivial⟩⟩
    show s1 - B.most*max 0 (ab (Bl.tail p B.n k) - B.hard k)=bZ (fun i=>B.b.up p i - B.b.dn p i) k+(B.b.up p k - B.b.dn p k)
    rw [g];omega
  ·obtain rfl:k=B.n:=oO
   have y:¬ ((B.n:Nat):Int)<(B.n:Nat):=oO
   refine AY ?_
   exact dG (.tmp rfl (.tmp rfl .nil)) (.plain d rfl) ⟨rfl,rfl⟩
end Go.Proofs.YtajpgeklmcjciaaGreat
namespace Go.AH.Warp
theorem OW {B:Bld} {d:Nat->Int} (hf:B.b.Fits d) (hm:0<=B.most) {i:Nat}:∀ m,i+m<=B.n->-(B.most*(m:Int))<=bZ d (i+m) - bZ d i/\bZ d (i+m) - bZ d i<=B.most*(m:Int)
 |0,_=>by simp
 |m+1,h=>by
  have ih:=OW hf hm (i:=i) m oO
  have h1:-B.most<=d (i+m):=(hf (i+m) (by show i+m<B.n;omega)).1
  have h2:d (i+m)<=B.most:=(hf (i+m) (by show i+m<B.n;omega)).2.1
  have e:bZ d (i+(m+1))=bZ d (i+m)+d (i+m):=rfl
  have e2:B.most*((m+1:Nat):Int)=B.most*(m:Int)+B.most:=by rw [Int.natCast_succ,Int.mul_add,Int.mul_one]
  omega
theorem aeD {B:Bld} {d:Nat->Int} (hf:B.b.Fits d):∀ i≤B.n,(B.tu i).1<=bZ d i/\bZ d i<=(B.tu i).2
 |0,_=>by simp [Bld.tu,bZ]
 |i+1,h=>(hf i (by show i<B.n;omega)).2.2
theorem aeE {B:Bld} {d:Nat->Int} (hf:B.b.Fits d) (hm:0<=B.most) {i k:Nat} (hik:i<k) (hk:k<=B.n):(B.tu i).1 - (B.tu k).2<=B.most*((k:Int) - i)/\(B.tu k).1 - (B.tu i).2<=B.most*((k:Int) - i):=by
 have h1:=aeD hf i oO
 have h2:=aeD hf k hk
 have h3:=OW hf hm (i:=i) (k - i) oO
 rw [show i+(k - i)=k by omega,show ((k - i:Nat):Int)=(k:Int) - i by omega] at h3
 omega
theorem ahs {B:Bld} (hv:mJ B):∀ i≤B.n,-200<=(B.tu i).1/\(B.tu i).1<=200/\-200<=(B.tu i).2/\(B.tu i).2<=200
 |0,_=>by simp [Bld.tu]
 |i+1,h=>by
  have:=hv.tube (show i<B.n by omega)
  exact ⟨this.1,by show B.b.lo i<=200;omega,by show -200<=B.b.hi i;omega,this.2.2⟩
end Go.AH.Warp
namespace Go.Proofs.YtajpgeklmcjciaaGreat
attribute [local irreducible] dA bJ bK jh fQ dK eH bY eu aW dR dW
open Go.AH.Heat Go.AH.Warp
theorem Il {A B:Prop} (k:B) (h:Hide B->A:=by intro z_;(repeat' (first|refine sCm ?_|(refine gU ?_;first|(refine cO ?_;first|refine st (aJ rfl (by first|exact aF a0|exact hd1)) rfl rfl ?_|refine st (bG rfl (by exact aV a0 rfl)) rfl rfl ?_)|refine sK4 ?_|(refine abN ?_;refine st (Cm rfl rfl (by omega) (by omega)) rfl rfl ?_)|refine sK0 ?_|(refine dV ?_;refine st (bC rfl rfl rfl (by exact hf1)) rfl rfl ?_))|(refine fU ?_;first|refine nH ?_;refine frA (dY rfl) rfl ?_ hcp|refine L9 ?_;refine frA (jB rfl) rfl ?_ hcp|refine fFA ?_;refine frA (bD rfl) rfl ?_ hcp|refine eU ?_;refine frA (aJ rfl (by exact hq1 _)) rfl ?_ hcs|refine fIA ?_;refine frA (iE rfl rfl (by omega)) rfl ?_ hct|refine fFA ?_;refine frA (bD rfl) rfl ?_ hct|refine eU ?_;refine frA (aJ rfl (by exact hq2 _)) rfl ?_ rfl|refine eU ?_;refine frA (aJ rfl (by exact hq3 _)) rfl ?_ rfl|refine Iy ?_|refine Iz ?_|(refine Fp ?_;refine fr (iU rfl rfl rfl) (by rfl) rfl ?_)|(refine DW ?_;refine fr (je rfl (by exact bM (by assumption)) rfl) (by rfl) rfl ?_))|(refine fG ?_;first|refine frG (rfl) (by exact bM (by assumption)) (dY rfl) (hcp) rfl ?_|refine frG (rfl) (by exact bM (by assumption)) (jB rfl) (hcp) rfl ?_|refine frG (rfl) (by exact bM (by assumption)) (bD rfl) (hcp) rfl ?_|refine frG (rfl) (by exact bM (by assumption)) (aJ rfl (by exact hq1 _)) (hcs) rfl ?_|refine frG (rfl) (by exact bM (by assumption)) (iE rfl rfl (by omega)) (hct) rfl ?_|refine frG (rfl) (by exact bM (by assumption)) (bD rfl) (hct) rfl ?_|refine frG (rfl) (by exact bM (by assumption)) (aJ rfl (by exact hq4 _)) (rfl) rfl ?_|refine frG (rfl) (by exact bM (by assumption)) (aJ rfl (by exact hq5 _)) (rfl) rfl ?_|(refine nH ?_;refine frG rfl (by exact bM (by assumption)) (dY rfl) (by rfl) rfl ?_)|(refine fSub ?_;refine frG rfl (by exact bM (by assumption)) (xG rfl rfl (by omega) (by omega)) (by rfl) rfl ?_)|(refine Fp ?_;refine frG rfl (by exact bM (by assumption)) (iU rfl rfl rfl) (by rfl) rfl ?_))|(refine fP ⟨by kernel_rfl,?_⟩)|refine bU (id:=4) ?_|refine bU (id:=8) ?_|refine bU (id:=12) ?_|refine aG ?_|refine D8 ?_|refine D7 ?_|refine ZT ?_|refine sK2 ?_|refine sK1 ?_|fail));exact z_.h):A:=h ⟨k⟩
theorem abp {U:Heap} {B:Bld} {sb cS:Nat} {d:Nat->Int} (hv:mJ B) (hS:kQ U B sb) (hf:B.b.Fits d) (hni:Ni U) :
  Ev prog 27 [.agg #[.s sb B.n cS,.i B.most]] U (.tuple #[.i 0,.i 0,.i 5]) U:=by
 have hn1:=hv.n
 have hm:=hv.most
 refine aH U.length 94 func27 (h:=?_)
 have a0:(U++[aC.rw [.s sb B.n cS,.i B.most]])[U.length]?=some (.rw [.s sb B.n cS,.i B.most]):=aN
 have hf1:=yF (U:=U++[aC.rw [.s sb B.n cS,.i B.most]]) (cS:=cS) hv (kQ.app hS) (aX hni rfl)
 refine Il ?_
 obtain ⟨K,hK⟩:=xy (U++[aC.rw [.s sb B.n cS,.i B.most]]++[.rw (B.cs sb cS ((U++[aC.rw [.s sb B.n cS,.i B.most]]).length+1) (B.n+1)),.rw (rgC B.tu (B.n+1))])
 refine .mk (dB [(1,.p U.length),(5,.p (U.length+1))] K hK.symm ⟨rfl,congrArg (fun n=>some (Value.p n)) oS,trivial⟩ ?_)
 have e:iY K B (U.length+1) sb cS (U.length+2) (B.n+1):=by
  rw [hK]
  have:=EM (K:=U++[aC.rw [.s sb B.n cS,.i B.most]]) (cS:=cS) (kQ.app hS)
  simpa using this
 have q:K.take U.length=U:=by rw [hK];exact aP oS
 have b0:K[U.length]?=some (.rw [.s sb B.n cS,.i B.most]):=by rw [hK];exact aA a0
 clear hf1 a0 hK
 have a0:=b0
 have g:=e.nb
 have hd1:aI K (U.length+1) (0+2)=some (.s (U.length+2) (B.n+1) (B.n+1)):=aF g
 apply aG
 refine Il ?_
 refine dO (ι:=Nat) (fun i=>[(1,.p U.length),(5,.p (U.length+1)),(7,.i 0),(8,.i (-1)),(24,.i ((B.n+1:Nat):Int)),(25,.i (i:Nat))])
  (fun i mk T=>i<=B.n+1/\mk=[]/\T=K) (fun i=>B.n+1 - i) 0 tE ⟨bL _,rfl,rfl⟩ ?_
 rintro i mk T ⟨hi,rfl,rfl⟩
 by_cases hil:i<B.n+1
 ·have z:(i:Int)<((B.n+1:Nat):Int):=oO
  refine Il ?_
  refine .mk (aG ?_)
  refine Il ?_
  refine dO (ι:=Nat) (fun k=>[(1,.p U.length),(5,.p (U.length+1)),(7,.i 0),(8,.i (-1)),(9,.i (i:Nat)),(10,.i (k:Nat)),(24,.i ((B.n+1:Nat):Int)),(25,.i (i:Nat))])
   (fun k mk X=>i<k/\k<=B.n+1/\mk=[]/\X=T) (fun k=>B.n+1 - k) (i+1) tE ⟨Nat.lt_succ_self _,oO,rfl,rfl⟩ ?_
  rintro k mk X ⟨w,hk,rfl,rfl⟩
  by_cases hkl:k<B.n+1
  ·have y:(k:Int)<((B.n+1:Nat):Int):=oO
   have f:0<=B.most*((k:Int) - i)/\B.most*((k:Int) - i)<=200*20:=⟨dl hm.1 oO,eT hm.2 oO oO oO⟩
   refine Il ?_
   have r:=aeE hf hm.1 w oO
   have hti:=ahs hv i oO
   have htk:=ahs hv k oO
   obtain ⟨fa,m⟩:=xy (B.most*((k:Int) - i))
   rw [<- m] at r f
   refine .mk (dB [(1,.p U.length),(5,.p (U.length+1)),(7,.i 0),(8,.i (-1)),(9,.i (i:Nat)),(10,.i (k:Nat)),(11,.i fa),(24,.i ((B.n+1:Nat):Int)),(25,.i (i:Nat))] X rfl ⟨rfl,rfl,rfl,rfl,rfl,rfl,congrArg (fun x=>some (Value.i x)) m.symm,rfl,rfl,trivial⟩ ?_)
   have u:U.length+1<X.length:=aS g
   have j:U.length+2<X.length:=dS (e.tu 0 (bL _))
   have hcp:∀ {o:Nat},closed X.length (.pointer (some ⟨U.length+1,o,none⟩))=true:=fun {o}=>Nat.blt_eq.mpr u
   have hct:∀ {o:Nat},closed X.length (.pointer (some ⟨U.length+2,o,none⟩))=true:=fun {o}=>Nat.blt_eq.mpr j
   have hcs:∀ {o n c:Nat},closed X.length (.slice (some ⟨U.length+2,o,none⟩) n c)=true:=cZ (Nat.blt_eq.mpr j)
   have hq1:∀ Y,aI (X++Y) (U.length+1) (0+2)=some (.s (U.length+2) (B.n+1) (B.n+1)):=fun Y=>aF (aA g)
   have a:∀ Y,iY (X++Y) B (U.length+1) sb cS (U.length+2) (B.n+1):=fun Y=>e.app
   have hq2:∀ Y,aI (X++Y) (U.length+2) (0+i*2+0)=some (.i (B.tu i).1):=fun Y=>by rw [aR];exact eX (k:=0) ((a Y).tu i oO) oO
   have hq3:∀ Y,aI (X++Y) (U.length+2) (0+k*2+1)=some (.i (B.tu k).2):=fun Y=>by rw [aR];exact eX (k:=1) ((a Y).tu k oO) oO
   have hq4:∀ Y,aI (X++Y) (U.length+2) (0+k*2+0)=some (.i (B.tu k).1):=fun Y=>by rw [aR];exact eX (k:=0) ((a Y).tu k oO) oO
   have hq5:∀ Y,aI (X++Y) (U.length+2) (0+i*2+1)=some (.i (B.tu i).2):=fun Y=>by rw [aR];exact eX (k:=1) ((a Y).tu i oO) oO
   have hg1:¬ (B.tu i).1 - (B.tu k).2 > fa:=oO
   have hg2:¬ (B.tu k).1 - (B.tu i).2 > fa:=oO
   refine eY oK rfl ?_
   refine Il ?_
   exact ⟨k+1,⟨oO,oO,rfl,bN X⟩,oO,tE⟩
  ·obtain rfl:k=B.n+1:=oO
   have y:¬ ((B.n+1:Nat):Int)<((B.n+1:Nat):Int):=oO
   refine Il ?_
   exact ⟨i+1,⟨oO,rfl,rfl⟩,oO,tE⟩
 ·obtain rfl:i=B.n+1:=oO
  have z:¬ ((B.n+1:Nat):Int)<((B.n+1:Nat):Int):=oO
  refine Il ?_
  exact dG (.tmp rfl (.tmp rfl (.tmp rfl .nil))) (.plain q rfl) ⟨rfl,rfl⟩
theorem agC {U:Heap} {xb n c:Nat} (hxb:xb < U.length):Ev prog 90 [.s xb n c] U (.func (.func 184) #[] #[.p U.length]) (U++[.rw [.s xb n c]]):=by
 refine aH U.length 4 func90 (h:=?_)
 repeat' (first|refine sCm ?_|(refine gU ?_;refine sK7 ?_)|refine aG ?_)
 exact dG (.tmp rfl .nil) .all ⟨rfl,rfl⟩
theorem ZA {A B:Prop} (k:B) (h:Hide B->A:=by intro z_;(repeat' (first|refine sCm ?_|(refine gU ?_;first|(refine cO ?_;refine st (aJ rfl (by first|exact aF a1|exact hd1)) rfl rfl ?_)|refine sK4 ?_|refine sK0 ?_|(refine rW ?_;refine st (iV rfl) rfl rfl ?_)|refine sK6 ?_)|refine aG ?_|refine oV rfl (by rfl) ?_|refine sK1 ?_|fail));exact z_.h):A:=h ⟨k⟩
theorem abq {xb n c:Nat} {d:Nat->Int} (hn:n<=1000000) {U:Heap} {l bb N' p1 p2:Nat} {e':Env} {assign body:Code} {R:Value->Heap->Prop} (S:Nat->Heap)
  (h0:S 0=U) (hlen:∀ j,(S j).length=U.length) (hbb:∀ j,(S j)[bb]?=some (.rw [.s xb n c])) (hx:∀ j,dD (S j) xb (ints (fO n d)))
  (hL:∀ j,(S j)[l]?=some (.loop .ready none N' e' [p1,p2].toArray assign body)) (hcl:fD U.length U->∀ j,fD U.length (S j)) (hps:Nat.blt p1 N'=true) (hps2:Nat.blt p2 N'=true)
  (hround:∀ (j i:Nat) (_hj:j+i+1=n) (X:Heap) (QB:Post),(∀ e1 mk1 Y,QB .normal e1 mk1 ((S (j+1)).set l (.loop .busy none N' e' [p1,p2].toArray assign body)++X++Y)) ->
   bJ prog (U.length+X.length) N' (some l) assign (dR prog (U.length+X.length) N' l body QB) (lu [p1,p2] [.i (i:Nat),.i (d i)] e') [] (S j++X))
  (hR:R (.tuple #[]) (S n)):eu prog 184 [.func (.yield l) #[] #[],.p bb] U R:=by
 refine aH U.length 19 func184 (h:=?_)
 refine WO fun a=>?_
 have e:=hcl a
 clear a hcl
 rw [<- h0]
 have hll:l<(S 0).length:=aS (hL 0)
 have a1:=hbb 0
 refine ZA ?_
 clear a1
 refine dO (ι:=Nat) (fun k=>[(0,.func (.yield l) #[] #[]),(1,.p bb),(3,.i ((n:Nat) - 1 - (k:Nat)))])
  (fun k mk H=>k<=n/\mk=[]/\∃ ZZ:Heap,H=S k++ZZ) (fun k=>n - k) 0 ⟨rfl,rfl,congrArg (fun x=>some (Value.i x)) oO,trivial⟩ ⟨bL _,rfl,[],by simp⟩ ?_
 rintro k mk H ⟨hk,rfl,ZZ,hH⟩
 have hp:H.take (S k).length=S k:=by rw [hH];simp
 have q:(S k).length=(S 0).length:=by rw [hlen,hlen]
 have hHl:=take_len hp
 have a1:H[bb]?=some (.rw [.s xb n c]):=by rw [hH];exact aA (hbb k)
 by_cases hkn:k<n
 ·obtain ⟨i,hi⟩:∃ i,k+i+1=n:=⟨n - 1 - k,oO⟩
  have w:((n:Nat):Int) - 1 - (k:Nat)=(i:Nat):=oO
  rw [w]
  have u:(i:Int)>=0:=oO
  have hd1:aI H xb i=some (.i (d i)):=by rw [hH];exact BM (nS (hx k)) oO
  refine ZA ?_
  have o:H[l]?=some (.loop .ready none N' e' [p1,p2].toArray assign body):=by rw [hH];exact aA (hL k)
  refine yh (ps:=[p1,p2]) rfl rfl o rfl (by simp [hps,hps2]) rfl ?_
  have m:=hround k i hi ZZ
  rw [show U.length+ZZ.length=H.length by rw [hH,bA,hlen],<- hH] at m
  refine m _ fun e1 mk1 Y=>?_
  have r:l<(S (k+1)).length:=aS (hL _)
  refine vV (aA (aA (aQ (hL (k+1))))) rfl ?_
  have g:(((S (k+1)).set l (aC.loop .busy none N' e' [p1,p2].toArray assign body))++ZZ++Y).set l (kV .ready none (aC.loop .busy none N' e' [p1,p2].toArray assign body))=S (k+1)++(ZZ++Y):=by
   rw [cD,cI _ _ (oU r),cN]
   simp only [kV]
   rw [set_self (hL (k+1))]
  rw [g]
  refine ZA ?_
  exact ⟨k+1,⟨oO,rfl,ZZ++Y,rfl⟩,oO,⟨rfl,rfl,congrArg (fun x=>some (Value.i x)) oO,trivial⟩⟩
 ·obtain rfl:k=n:=oO
  have u:¬ ((k:Nat):Int) - 1 - (k:Nat)>=0:=oO
  refine ZA ?_
  have f:fD (S k).length (S k):=by have:=e k;rwa [<- hlen k] at this
  rw [hH]
  exact RZ (v2:=.tuple #[]) (σ2:=S k) .nil (aW.dropAll q.symm f rfl) hR
theorem aeF {A B:Prop} (k:B) (h:Hide B->A:=by intro z_;(repeat' (first|refine sCm ?_|(refine gU ?_;first|(refine cO ?_;first|refine st (aJ rfl (by exact aF a0)) rfl rfl ?_|refine st (bG rfl (by exact aV a0 rfl)) rfl rfl ?_)|refine sK0 ?_|(refine rW ?_;refine st (iV rfl) rfl rfl ?_)|(refine dV ?_;refine st (bC rfl rfl rfl (by first|exact hf1|exact hf2)) rfl rfl ?_)|refine sK8 ?_)|refine bU (id:=2) ?_|refine aG ?_|refine sK2 ?_|refine sK1 ?_|fail));exact z_.h):A:=h ⟨k⟩
theorem Rk {U:Heap} {B:Bld} {sb cS xb c:Nat} {l:List Int} (hv:mJ B) (hS:kQ U B sb) (hx:dD U xb (ints l)) (hN:l.length<=1000000) (hbad:l.length ≠ B.n\/¬ ∀ y ∈ l,-100<=y/\y<=100) (hni:Ni U) :
  ∃ e:Int,e ≠ 0/\Ev prog 31 [.agg #[.s sb B.n cS,.i B.most],.s xb l.length c] U (.tuple #[.i 0,.i e]) U:=by
 refine ⟨if l.length ≠ B.n then 15 else 3,by split <;> decide,?_⟩
 refine aH U.length 83 func31 (h:=?_)
 have a0:(U++[aC.rw [.s sb B.n cS,.i B.most]])[U.length]?=some (.rw [.s sb B.n cS,.i B.most]):=aN
 have hf1:=yF (U:=U++[aC.rw [.s sb B.n cS,.i B.most]]) (cS:=cS) hv (kQ.app hS) (aX hni rfl)
 refine aeF ?_
 obtain ⟨K,hK⟩:=xy (U++[aC.rw [.s sb B.n cS,.i B.most]]++[aC.rw (B.cs sb cS ((U++[aC.rw [.s sb B.n cS,.i B.most]]).length+1) (B.n+1)),aC.rw (rgC B.tu (B.n+1))]++[aC.rw [.p ((U++[aC.rw [.s sb B.n cS,.i B.most]]).length)]])
 refine .mk (dB [(1,.s xb l.length c),(2,.p U.length),(7,.i 0)] K (by rw [hK];rfl) tE ?_)
 have a:K.take U.length=U:=by rw [hK];exact aP (aP oS)
 have d:Ni K:=by rw [hK];exact aX (aX (aX hni rfl) rfl) rfl
 have b0:K[U.length]?=some (.rw [.s sb B.n cS,.i B.most]):=by rw [hK];exact aA (aA a0)
 clear hf1 a0 hK
 have a0:=b0
 have hf2:=oM (U:=K) (l:=l) (lo:=-100) (hi:=100) (c:=c) (gB a hx) hN d
 by_cases hl:l.length=B.n
 ·have g:¬ ((l.length:Nat):Int) ≠ (B.n:Nat):=oO
  have f:¬ ∀ y ∈ l,-100<=y/\y<=100:=hbad.resolve_left (fun h=>h hl)
  rw [decide_eq_false f] at hf2
  rw [if_neg (fun h=>h hl)]
  apply aG
  refine aeF ?_
  exact dG (.tmp rfl (.tmp rfl .nil)) (.plain a rfl) ⟨rfl,rfl⟩
 ·have g:((l.length:Nat):Int) ≠ (B.n:Nat):=oO
  rw [if_pos hl]
  apply aG
  refine aeF ?_
  exact dG (.tmp rfl (.tmp rfl .nil)) (.plain a rfl) ⟨rfl,rfl⟩
theorem _root_.Go.AH.Warp.aja {A X:Heap} {b l:Nat} {x x1 y y1 O T:aC} (h1:b+1<A.length) (h2:l<A.length) (hb:b+1<l) :
  (((((A.set b x).set (b+1) y++X).set l O++[T]).set (b+1) y1).set b x1)=(((A.set b x1).set (b+1) y1).set l O++X++[T]):=by
 have g1:b<A.length:=oO
 simp only [List.set_append,bA,dk,g1,h1,h2,if_true,show b+1<A.length+X.length by omega,show b<A.length+X.length by omega]
 congr 2
 refine eK fun i=>?_
 simp only [List.getElem?_set,dk]
 by_cases e1:b=i
 ·subst e1;simp [show ¬ b+1=b by omega,show ¬ l=b by omega,show b<A.length by omega]
 ·by_cases e2:b+1=i
  ·subst e2;simp [show ¬ l=b+1 by omega]
  ·simp [e1,e2]
theorem _root_.Go.AH.Warp.ajb {b:Bl} {p:Nat->Int} {i:Nat} (h:p i > 0):b.up p i=p i*b.lo i:=by
 unfold Bl.up;rw [ea oO,Int.min_eq_left oO];omega
theorem _root_.Go.AH.Warp.ajc {b:Bl} {p:Nat->Int} {i:Nat} (h:¬ p i > 0):b.up p i=p i*b.hi i:=by
 unfold Bl.up;rw [ec oO,Int.min_eq_right oO];omega
theorem Vm {A B:Prop} (k:B) (h:Hide B->A:=by intro z_;(repeat' (first|refine sCm ?_|(refine gU ?_;first|(refine cO ?_;first|refine st (aJ rfl (by first|exact aF a0|exact aF a8)) rfl rfl ?_|refine st (bG rfl (by exact aV a0 rfl)) rfl rfl ?_)|refine sK0 ?_|(refine rW ?_;refine st (iV rfl) rfl rfl ?_)|(refine dV ?_;refine st (bC rfl rfl rfl (by first|exact hf1|exact hf2|exact hf3)) rfl rfl ?_)|(refine gZ ?_;refine stN (bW rfl rfl rfl rfl (by first|exact hput8|exact iH (aD _) (cL _))) rfl ?_))|refine bU (id:=2) ?_|refine bU (id:=8) ?_|refine bU (id:=9) ?_|refine aG ?_|refine sK1 ?_|fail));exact z_.h):A:=h ⟨k⟩
theorem EW {A B:Prop} (k:B) (h:Hide B->A:=by intro z_;(repeat' (first|refine sCm ?_|(refine gU ?_;first|(refine wK ?_;refine st (dY rfl) (by exact hrd) rfl ?_)|(refine uD ?_;refine st (jd rfl) (by exact hrd) rfl ?_)|(refine gFA ?_;refine st (bD rfl) (by exact hrd) rfl ?_)|(refine cO ?_;first|refine st (aJ rfl (by first|exact aF a0|exact aF a6|exact aF a8|exact aF a9|exact aF a12|exact hq7)) (by exact hrd) rfl ?_|refine st (bG rfl (by exact hd1)) (by exact hrd) rfl ?_)|(refine Fh ?_;first|refine st (pI rfl rfl (by omega)) (by exact hrd) rfl ?_|refine st (uY rfl rfl (by omega) (by omega)) (by exact hrd) rfl ?_)|(refine ae6 ?_;refine st (xG rfl rfl (by omega) (by omega)) (by exact hrd) rfl ?_)|(refine abN ?_;refine st (Cm rfl rfl (by omega) (by omega)) (by exact hrd) rfl ?_)|(refine yS ?_;refine st (iU rfl rfl rfl) (by exact hrd) rfl ?_)|(refine gNil ?_;refine st (jB rfl) (by exact hrd) rfl ?_)|(refine gIA ?_;refine st (iE rfl rfl (by omega)) (by exact hrd) rfl ?_)|(refine yT ?_;refine st (jG rfl) (by exact hrd) rfl ?_)|(refine gZ ?_;refine stN (bW rfl rfl rfl rfl (by first|exact hput8|exact hput9|exact iH (aD _) (cL _))) (by exact hrd) ?_))|(refine fU ?_;first|refine fNeg ?_;refine frA (v:=.i (-y2)) (by rw [<- hwn];exact Cj rfl) rfl ?_ rfl|refine nH ?_;refine frA (dY rfl) rfl ?_ rfl|refine fIA ?_;refine frA (iE rfl rfl (by omega)) rfl ?_ (hcl (by assumption))|refine fFA ?_;refine frA (bD rfl) rfl ?_ (hcl (by assumption))|refine eU ?_;refine frA (aJ rfl (by exact hq1 _)) rfl ?_ rfl|refine eU ?_;refine frA (aJ rfl (by exact hq2 _)) rfl ?_ rfl|refine eU ?_;refine frA (aJ rfl (by exact hq4 _)) rfl ?_ (hcs (by assumption))|(refine Bf ?_;refine fr (jd rfl) (by rfl) rfl ?_)|refine Iz ?_|refine aar ?_)|(refine fP ⟨by kernel_rfl,?_⟩)|refine bU (id:=13) ?_|refine bU (id:=14) ?_|refine aG ?_|refine I7 (t:=50) ?_|refine I7 (t:=75) ?_));exact z_.h):A:=h ⟨k⟩
theorem XU {U:Heap} {B:Bld} {sb cS xb c:Nat} {p:Nat->Int} (hv:mJ B) (hS:kQ U B sb) (hx:dD U xb (ints (fO B.n p))) (hp:∀ i<B.n,-100<=p i/\p i<=100) (hni:Ni U) :
  Ev prog 31 [.agg #[.s sb B.n cS,.i B.most],.s xb B.n c] U (.tuple #[.i (B.b.bound p),.i 0]) U:=by
 have ag:=hv.n
 have hm:=hv.most
 refine aH U.length 83 func31 (h:=?_)
 have a0:(U++[aC.rw [.s sb B.n cS,.i B.most]])[U.length]?=some (.rw [.s sb B.n cS,.i B.most]):=aN
 have hf1:=yF (U:=U++[aC.rw [.s sb B.n cS,.i B.most]]) (cS:=cS) hv (kQ.app hS) (aX hni rfl)
 refine Vm ?_
 obtain ⟨K,hK⟩:=xy (U++[aC.rw [.s sb B.n cS,.i B.most]]++[aC.rw (B.cs sb cS ((U++[aC.rw [.s sb B.n cS,.i B.most]]).length+1) (B.n+1)),aC.rw (rgC B.tu (B.n+1))]++[aC.rw [.p ((U++[aC.rw [.s sb B.n cS,.i B.most]]).length)]])
 refine .mk (dB [(1,.s xb B.n c),(2,.p U.length),(6,.p (U.length+3)),(7,.i 0)] K (by rw [hK];rfl) ⟨rfl,rfl,congrArg (fun n=>some (Value.p n)) oS,rfl,trivial⟩ ?_)
 have aa:K.take U.length=U:=by rw [hK];exact aP (aP oS)
 have P:Ni K:=by rw [hK];exact aX (aX (aX hni rfl) rfl) rfl
 have b0:K[U.length]?=some (.rw [.s sb B.n cS,.i B.most]):=by rw [hK];exact aA (aA a0)
 have b6:K[U.length+3]?=some (.rw [.p (U.length+1)]):=by rw [hK];exact (bP oS).trans oS
 have hB:iY K B (U.length+1) sb cS (U.length+2) (B.n+1):=by
  rw [hK]
  have:=EM (K:=U++[aC.rw [.s sb B.n cS,.i B.most]]) (cS:=cS) (kQ.app hS)
  simpa using this.app (X:=[aC.rw [.p ((U++[aC.rw [.s sb B.n cS,.i B.most]]).length)]])
 have av:K.length=U.length+4:=by rw [hK];simp
 clear hf1 a0 hK
 have a0:=b0
 have hf2:=oM (U:=K) (l:=fO B.n p) (lo:=-100) (hi:=100) (c:=c) (gB aa hx) (by rw [nO];omega) P
 rw [nO,decide_eq_true fun y hy=>by obtain ⟨i,hi,rfl⟩:=Vh hy;exact hp i hi] at hf2
 have bd:¬ ((B.n:Nat):Int) ≠ (B.n:Nat):=oO
 apply aG
 refine Vm ?_
 refine .mk (dB [(1,.s xb B.n c),(2,.p U.length),(6,.p (U.length+3))] K rfl tE ?_)
 obtain ⟨kb,M⟩:=xy K.length
 have c6:=b6
 have hput8:putCells (K++[aC.rw [.i 0]]++[aC.rw [.i 0]]) K.length 0 [.i 0]=some (K++[aC.rw [.i 0]]++[aC.rw [.i 0]]):=by
  rw [fF (cs':=[.i 0]) (aA aN) oS oS rfl,set_self (aA aN)]
 apply aG
 refine Vm ?_
 obtain ⟨Hb,m⟩:=xy (K++[aC.rw [.i 0]]++[aC.rw [.i 0]])
 refine .mk (dB [(1,.s xb B.n c),(2,.p U.length),(6,.p (U.length+3)),(8,.p kb),(9,.p (kb+1))] Hb (by rw [m];rfl) ⟨rfl,rfl,rfl,by rw [M];rfl,(by rw [M];refine congrArg (fun n=>some (Value.p n)) ?_;simp),trivial⟩ ?_)
 have z:Hb.length=kb+2:=by rw [m,M];simp
 have Vv:Hb.take U.length=U:=by rw [m];exact aP (aP aa)
 have b9:iY Hb B (U.length+1) sb cS (U.length+2) (B.n+1):=by rw [m];exact hB.app.app
 have N:xb<Hb.length:=oJ (gB Vv hx)
 have hf3:=agC (U:=Hb) (n:=B.n) (c:=c) N
 have ae:Hb[U.length]?=some (.rw [.s sb B.n cS,.i B.most]):=by rw [m];exact aA (aA b0)
 have ar:Hb[U.length+3]?=some (.rw [.p (U.length+1)]):=by rw [m];exact aA (aA b6)
 have ah:Hb[kb]?=some (.rw [.i 0]):=by rw [m,M];exact aA aN
 have ao:Hb[kb+1]?=some (.rw [.i 0]):=by rw [m,M];exact bP oS
 clear hf2 bd a0 c6 hput8
 apply aG
 refine Vm ?_
 obtain ⟨Hc,g⟩:=xy (Hb++[aC.rw [.s xb B.n c]])
 have C:Hc.length=kb+3:=by rw [g];simp [z]
 refine dB [(1,.s xb B.n c),(2,.p U.length),(6,.p (U.length+3)),(8,.p kb),(9,.p (kb+1)),(35,.func (.func 184) #[] #[.p (kb+2)])] Hc g.symm ⟨rfl,rfl,rfl,rfl,rfl,by rw [<- z];rfl,trivial⟩ ?_
 clear hf3
 refine jU (p:=[]) (q:=[.p (kb+2)]) rfl fun L hL=>?_
 obtain ⟨A,a⟩:=xy (Hc++[aC.dfr,L])
 have hAl:A.length=kb+5:=by rw [a];simp [C]
 have a4:A.take U.length=U:=by rw [a,g];exact aP (aP Vv)
 have ax:A[U.length]?=some (.rw [.s sb B.n cS,.i B.most]):=by rw [a,g];exact aA (aA ae)
 have b4:A[U.length+3]?=some (.rw [.p (U.length+1)]):=by rw [a,g];exact aA (aA ar)
 have a3:A[kb]?=some (.rw [.i 0]):=by rw [a,g];exact aA (aA ah)
 have ak:A[kb+1]?=some (.rw [.i 0]):=by rw [a,g];exact aA (aA ao)
 have ay:A[kb+2]?=some (.rw [.s xb B.n c]):=by rw [a,g];exact aA (bP z)
 have ZZ:A[kb+4]?=some L:=by rw [show kb+4=Hc.length+1 by omega,a,bE oO];simp
 have b5:A[kb+3]?=some .dfr:=by rw [<- C,a,bE (aD _)];simp
 have hkl:U.length+4=kb:=by rw [M,av]
 rw [<- a,C]
 have a5:A.take K.length=K:=by rw [a,g,m];exact aP (aP (aP oS))
 clear g a C z m ae ar ah ao b9 Vv N b0 b6 P aa
 clear Hb Hc
 obtain ⟨F,hF⟩:∃ F:Nat->Int,F=fun i=>B.b.up p i - B.b.dn p i:=⟨_,rfl⟩
 have ad:∀ k≤B.n,-20000000<=bZ F k/\bZ F k<=20000000:=fun k hk=>by rw [hF];exact aeC hv hp hk
 have Vv:=zB hp
 refine abq (S:=fun j=>(A.set kb (.rw [.i (bZ F B.n - bZ F (B.n - j))])).set (kb+1) (.rw [.i (bZ p B.n - bZ p (B.n - j))])) (xb:=xb) (n:=B.n) (c:=c) (d:=p) (bb:=kb+2) (l:=kb+4) oO ?_ (fun j=>by simp) (fun j=>aB (aB ay oO) oO)
  (fun j=>gB (H:=(A.set kb (.rw [.i (bZ F B.n - bZ F (B.n - j))])).set (kb+1) (.rw [.i (bZ p B.n - bZ p (B.n - j))])) (take_set (take_set a4 oO) oO) hx)
  (fun j=>(aB (aB ZZ oO) oO).trans (congrArg some hL)) (fun h j=>iW (o:=.rw (ints [_])) (aY (aZ _)) (iW (o:=.rw (ints [_])) (aY (aZ _)) h)) rfl rfl ?_ ?_
 ·skip
  rw [Nat.sub_zero,Int.sub_self,Int.sub_self,set_self a3,set_self ak]
 ·intro j i hj X QB b3
  rw [show B.n - j=i+1 by omega]
  have hi:i<B.n:=oO
  obtain ⟨HX,f⟩:=xy ((A.set kb (.rw [.i (bZ F B.n - bZ F (i+1))])).set (kb+1) (.rw [.i (bZ p B.n - bZ p (i+1))])++X)
  have bf:HX[kb+4]?=some L:=by rw [f];exact aA (aB (aB ZZ oO) oO)
  have hrd:lJ (some (kb+4)) (A.length+X.length)=true:=(show Nat.blt _ _=true from Nat.blt_eq.mpr oO)
  have ap:HX.length=A.length+X.length:=by rw [f];simp
  rw [<- f,<- ap]
  rw [<- ap] at hrd
  refine EW ?_
  refine vX bf hL fun O hO=>?_
  obtain ⟨x1,aj⟩:=xy (bZ F B.n - bZ F (i+1))
  obtain ⟨y1,a7⟩:=xy (bZ p B.n - bZ p (i+1))
  obtain ⟨HB,r⟩:=xy (HX.set (kb+4) O)
  rw [<- aj,<- a7] at f
  have hXa:A.length<=HX.length:=oO
  have ba:HB.take U.length=U:=by rw [r,f];exact take_set (aP (take_set (take_set a4 oO) oO)) oO
  have ac:iY HB B (U.length+1) sb cS (U.length+2) (B.n+1):=hB.take (by rw [r,f];exact take_set (aP (take_set (take_set a5 oO) oO)) oO)
  have a0:HB[U.length]?=some (.rw [.s sb B.n cS,.i B.most]):=by rw [r,f];exact aB (aA (aB (aB ax oO) oO)) oO
  have a6:HB[U.length+3]?=some (.rw [.p (U.length+1)]):=by rw [r,f];exact aB (aA (aB (aB b4 oO) oO)) oO
  have a8:HB[kb]?=some (.rw [.i x1]):=by rw [r,f];exact aB (aA (aB (aQ a3) oO)) oO
  have a9:HB[kb+1]?=some (.rw [.i y1]):=by rw [r,f];exact aB (aA (aQ (aB ak oO))) oO
  have hBl:HB.length=HX.length:=by rw [r];simp
  refine dB [(1,.s xb B.n c),(2,.p U.length),(6,.p (U.length+3)),(8,.p kb),(9,.p (kb+1)),(10,.i (i:Nat)),(11,.i (p i))] HB (by rw [r]) tE ?_
  have hd1:aK HB (U.length+2) (0+(i+1)*2) 2=some [.i (B.b.lo i),.i (B.b.hi i)]:=by rw [aR];exact ac.tu (i+1) oO
  have hq7:aI HB (U.length+1) (0+2)=some (.s (U.length+2) (B.n+1) (B.n+1)):=aF ac.nb
  have hiI:(i:Int)+1<((B.n+1:Nat):Int):=oO
  refine EW ?_
  obtain ⟨tb,ai⟩:=xy HB.length
  obtain ⟨HC,G⟩:=xy (HB++[aC.rw [.i (B.b.lo i),.i (B.b.hi i)]])
  refine .mk (dB [(1,.s xb B.n c),(2,.p U.length),(6,.p (U.length+3)),(8,.p kb),(9,.p (kb+1)),(10,.i (i:Nat)),(11,.i (p i)),(12,.p tb)] HC (by rw [G];rfl) ⟨rfl,rfl,rfl,rfl,rfl,rfl,rfl,by rw [ai];rfl,trivial⟩ ?_)
  have au:HC.take U.length=U:=by rw [G];exact aP ba
  have c0:HC[U.length]?=some (.rw [.s sb B.n cS,.i B.most]):=by rw [G];exact aA a0
  have c8:HC[kb]?=some (.rw [.i x1]):=by rw [G];exact aA a8
  have c9:HC[kb+1]?=some (.rw [.i y1]):=by rw [G];exact aA a9
  have am:HC[tb]?=some (.rw [.i (B.b.lo i),.i (B.b.hi i)]):=by rw [G,ai];exact aN
  have hkt:kb+4<tb:=oO
  clear a0 a6 a8 a9 hd1 hq7 ac
  have a9:=c9
  have b1:=hp i hi
  have hy1b:-4000<=y1/\y1<=4000:=by rw [a7];exact Jf ag.2 hp (show i+1<=B.n by omega)
  have hput9:putCells HC (kb+1) 0 [.i (y1+p i)]=some (HC.set (kb+1) (.rw [.i (y1+p i)])):=fF c9 oS oS rfl
  apply aG
  refine EW ?_
  obtain ⟨y2,aq⟩:=xy (y1+p i)
  rw [<- aq] at hput9 ⊢
  obtain ⟨HD,D⟩:=xy (HC.set (kb+1) (.rw [.i y2]))
  refine .mk (dB [(1,.s xb B.n c),(2,.p U.length),(6,.p (U.length+3)),(8,.p kb),(9,.p (kb+1)),(10,.i (i:Nat)),(11,.i (p i)),(12,.p tb)] HD (by rw [D]) tE ?_)
  have af:HD.take U.length=U:=by rw [D];exact take_set au oO
  have d0:HD[U.length]?=some (.rw [.s sb B.n cS,.i B.most]):=by rw [D];exact aB c0 oO
  have a8:HD[kb]?=some (.rw [.i x1]):=by rw [D];exact aB c8 oO
  have d9:HD[kb+1]?=some (.rw [.i y2]):=by rw [D];exact aQ c9
  have a12:HD[tb]?=some (.rw [.i (B.b.lo i),.i (B.b.hi i)]):=by rw [D];exact aB am oO
  clear a9 hput9 c0 c8 c9 am au
  have bj:=aeA hv hi b1
  have hx1b:-40000000<=x1/\x1<=40000000:=by
   have h1:=ad B.n (aD _)
   have h2:=ad (i+1) oO
   omega
  have bc:-40000<=B.b.up p i/\B.b.up p i<=40000:=by
   have e:B.b.up p i=max 0 (p i)*B.b.lo i+min 0 (p i)*B.b.hi i:=rfl
   omega
  obtain ⟨u,hu⟩:=xy (B.b.up p i)
  rw [<- hu] at bc
  obtain ⟨HE,I⟩:=xy (HD.set kb (.rw [.i (x1+u)]))
  have hput8:putCells HD kb 0 [.i (x1+u)]=some (HD.set kb (.rw [.i (x1+u)])):=fF a8 oS oS rfl
  have R:p i > 0->p i*B.b.lo i=u:=fun h=>by rw [hu,ajb h]
  have Q:¬ p i > 0->p i*B.b.hi i=u:=fun h=>by rw [hu,ajc h]
  have bh:F i=u - B.b.dn p i:=by rw [hF,hu]
  clear bj hu
  apply aG
  refine EW ?_
  refine ⟨YU rfl [(1,.s xb B.n c),(2,.p U.length),(6,.p (U.length+3)),(8,.p kb),(9,.p (kb+1)),(10,.i (i:Nat))] HE (fun e' he=>?_) (fun w=>?_) (fun w=>?_)⟩
  rotate_left
  ·have R:=R (of_decide_eq_true w)
   have hput8:putCells HD kb 0 [.i (x1+p i*B.b.lo i)]=some (HD.set kb (.rw [.i (x1+u)])):=by rw [R];exact hput8
   clear Q
   apply aG
   refine EW ?_
   exact ⟨rfl,rfl,I.symm,rfl,rfl,rfl,rfl,rfl,rfl,trivial⟩
  ·have Q:=Q (of_decide_eq_false w)
   have hput8:putCells HD kb 0 [.i (x1+p i*B.b.hi i)]=some (HD.set kb (.rw [.i (x1+u)])):=by rw [Q];exact hput8
   clear R
   apply aG
   refine EW ?_
   exact ⟨rfl,rfl,I.symm,rfl,rfl,rfl,rfl,rfl,rfl,trivial⟩
  refine rG ?_
  refine uq ?_
  refine dB [(1,.s xb B.n c),(2,.p U.length),(6,.p (U.length+3)),(8,.p kb),(9,.p (kb+1)),(10,.i (i:Nat))] HE rfl he ?_
  have al:HE.take U.length=U:=by rw [I];exact take_set af oO
  have a0:HE[U.length]?=some (.rw [.s sb B.n cS,.i B.most]):=by rw [I];exact aB d0 oO
  have az:HE[kb]?=some (.rw [.i (x1+u)]):=by rw [I];exact aQ a8
  have a9:HE[kb+1]?=some (.rw [.i y2]):=by rw [I];exact aB d9 oO
  clear hput8 R Q d0 a8 d9 a12 af
  have a8:=az
  have J:y2=Bl.tail p B.n i:=by
   rw [aq,a7]
   show bZ p B.n - (bZ p i+p i)+p i=bZ p B.n - bZ p i
   omega
  have hst:=hv.st i hi
  have b7:=Jf ag.2 hp (show i<=B.n by omega)
  rw [<- J] at b7
  have b8:=aeB hv hp hi
  have E:B.b.dn p i=B.most*max 0 (ab y2 - B.hard i):=by rw [J];rfl
  have hl3:U.length<HE.length:=aS a0
  have hl4:sb<HE.length:=dS (dJ al (hS.st i hi))
  have hcl:∀ {q o:Nat},q<HE.length->closed HE.length (.pointer (some ⟨q,o,none⟩))=true:=fun {q o} h=>(show Nat.blt q HE.length=true from Nat.blt_eq.mpr h)
  have hcs:∀ {q o n c:Nat},q<HE.length->closed HE.length (.slice (some ⟨q,o,none⟩) n c)=true:=fun h=>cZ (Nat.blt_eq.mpr h)
  have hq1:∀ X,aI (HE++X) (kb+1) 0=some (.i y2):=fun X=>aF (aA a9)
  have hq2:∀ X,aI (HE++X) sb (0+i*4+3)=some (.i (B.hard i)):=fun X=>by
   rw [aR];exact eX (k:=3) (dJ (aP al) (hS.st i hi)) oO
  have hq4:∀ X,aI (HE++X) U.length (0+0)=some (.s sb B.n cS):=fun X=>aF (aA a0)
  have hwn:IntKind.i64.wrap (0 - y2)=-y2:=by rw [wrap64 oO oO];omega
  obtain ⟨ov,b2⟩:=xy (max y2 (-y2) - B.hard i)
  have hovb:-4009<=ov/\ov<=4009:=oO
  have W:ov > 0->ov*B.most=B.b.dn p i:=fun h=>by
   rw [E,Int.mul_comm,show max 0 (ab y2 - B.hard i)=ov by unfold ab;omega]
  have Y:¬ ov > 0->B.b.dn p i=0:=fun h=>by
   rw [E,show max 0 (ab y2 - B.hard i)=0 by unfold ab;omega,Int.mul_zero]
  refine eY oK hrd ?_
  refine EW ?_
  rw [show HE++gV (fun _=>true) []=HE from bN HE,<- b2]
  obtain ⟨HF,Uq⟩:=xy (HE.set kb (.rw [.i (x1+u - B.b.dn p i)]))
  clear E
  generalize B.b.dn p i=dv at b8 W Y Uq bh
  refine ⟨YU rfl [] HF (fun e' he=>?_) (fun w=>?_) (fun w=>?_)⟩
  rotate_left
  ·have w:=of_decide_eq_true w
   have W:=W w
   have hput8:putCells HE kb 0 [.i (x1+u - ov*B.most)]=some HF:=by rw [W,Uq];exact fF a8 oS oS rfl
   clear hq1 hq2 hq4
   apply aG
   refine EW ?_
   exact tE
  ·have Y:=Y (of_decide_eq_false w)
   refine EW ?_
   refine ⟨rfl,rfl,?_,trivial⟩
   rw [Uq,Y,Int.sub_zero,set_self a8]
  refine uz ?_
  have a2:HF=((A.set kb (.rw [.i (x1+u - dv)])).set (kb+1) (.rw [.i y2])).set (kb+4) O++X++[aC.rw [.i (B.b.lo i),.i (B.b.hi i)]]:=by
   rw [Uq,I,cN,D,G,r,f]
   exact aja oO oO oO
  have be:x1+u - dv=bZ F B.n - bZ F i:=by
   rw [aj]
   show bZ F B.n - (bZ F i+F i)+u - dv=_
   omega
  rw [a2,be,J,hO]
  have:=b3 e' [] [aC.rw [.i (B.b.lo i),.i (B.b.hi i)]]
  rw [show B.n - (j+1)=i by omega] at this
  exact this
 ·refine ⟨.ready,none,_,_,_,_,_,(aB (aB ZZ oO) oO).trans (congrArg some hL),by simp,?_⟩
  show (dK 1 _) _ _ _ _
  refine uz ?_
  refine rG ?_
  obtain ⟨T,hT⟩:=xy (((A.set kb (.rw [.i (bZ F B.n - bZ F (B.n - B.n))])).set (kb+1) (.rw [.i (bZ p B.n - bZ p (B.n - B.n))])).set (kb+4) .dead)
  have a8:T[kb]?=some (.rw [.i (B.b.bound p)]):=by
   rw [hT,show B.b.bound p=bZ F B.n - bZ F (B.n - B.n) by rw [aez,<- hF,cM];show bZ F B.n=bZ F B.n - 0;omega]
   exact aB (aB (aQ a3) oO) oO
  have bg:T.take U.length=U:=by rw [hT];exact take_set (take_set (take_set a4 oO) oO) oO
  have an:Mks U.length [kb+3] T:=Mks.cons Mks.nil oS oO (by rw [hT];exact aB (aB (aB b5 oO) oO) oO)
  rw [show kb+3+1=kb+4 from rfl,<- hT]
  refine uq ?_
  apply aG
  refine Vm ?_
  have aw:=nR (mk:=[kb+3]) bg fun x hx=>(an.2 x hx).1
  exact Qk an (.tmp rfl (.tmp rfl .nil)) (.plain aw rfl) ⟨rfl,rfl⟩
theorem abr (l:List Int):fO l.length (gi l)=l:=by
 refine eK fun i=>?_
 unfold fO gi
 rw [cJ]
 by_cases h:i<l.length
 ·rw [dq h,cA h];simp [cE,cA h]
 ·rw [di (oU h),di oO];rfl
theorem XV {A B:Prop} (k:B) (h:Hide B->A:=by intro z_;(repeat' (first|refine sCm ?_|(refine gU ?_;first|(refine cO ?_;refine st (bG rfl (by first|exact aV a0 rfl|exact aV (aA a0) rfl|exact aV (aA (aA a0)) rfl)) rfl rfl ?_)|refine sK0 ?_|(refine lM ?_;first|refine st (kC rfl (by first|rfl|exact fE (by assumption)) rfl) rfl rfl ?_|refine st (je rfl (by first|rfl|exact bM (by assumption)|exact bM (by omega)) rfl) rfl rfl ?_)|(refine dV ?_;refine st (bC rfl rfl rfl (by first|exact hf1|exact hf2|exact hf3|exact hf4|exact hf5|exact hf7)) rfl rfl ?_))|(refine gG ?_;first|(refine wK ?_;refine stG rfl (by first|rfl|exact bM (by assumption)|exact bM (by omega)) (dY rfl) rfl rfl ?_)|(refine cO ?_;refine stG rfl (by exact bM (by assumption)) (bG rfl (by exact aV (aA (aA a0)) rfl)) rfl rfl ?_)|(refine yS ?_;refine stG rfl (by first|rfl|exact bM (by assumption)|exact bM (by omega)) (iU rfl rfl rfl) rfl rfl ?_)|(refine dV ?_;refine stG rfl (by first|rfl|exact fE (by assumption)|exact bM (by assumption)) (bC rfl rfl rfl (by first|exact hf1|exact hf6)) rfl rfl ?_)|refine aap ?_)|refine bU (id:=46) ?_|refine aG ?_|refine lg rfl (by first|rfl|exact bM (by omega)) ?_));exact z_.h):A:=h ⟨k⟩
theorem Vo {U H:Heap} {B:Bld} {bb sb cS xb cx zb cz:Nat} {d:Nat->Int} {l:List Int} (hp:H.take U.length=U) (hni:Ni H) (hv:mJ B) (hf:B.b.Fits d) (hS:kQ H B sb)
  (a0:H[bb]?=some (.rw [.s sb B.n cS,.i B.most])) (hx:dD H xb (ints (fO B.n d))) (hz:dD H zb (ints l)) (hl:l.length<=30) :
  bJ prog U.length 298 none (aes 35 (ahr Tryz.f4)) (jh prog U [ResultVar.tmp 12] fun v' s=>v'=.bool true/\s=U)
   [(5,.s zb l.length cz),(17,.p bb),(18,.s xb B.n cx),(19,.i (B.b.cost d))] [] H:=by
 have G:=hv.n
 have q:B.b.vt B.n 0<nev:=(B.b.aaN hv.ok G.2 hv.most.2).2 ⟨d,hf⟩
 have hle:B.b.vt B.n 0<=B.b.cost d:=B.b.La hf
 have a:=B.b.aaM hv.ok q
 have hf1:=Hw (cS:=cS) hv hS hni
 have hf2:=MP (cS:=cS) (c:=cx) hv hS hx hf hni
 have hf3:=aex (cS:=cS) hv hS q hni
 obtain ⟨H1,g⟩:=xy (H++[aC.rw (ints (fO B.n B.b.blow))])
 have u:kQ H1 B sb:=by rw [g];exact kQ.app hS
 have j:Ni H1:=by rw [g];exact aX hni rfl
 have hf4:=abp (cS:=cS) hv u hf j
 have hf5:=abo (cS:=cS) hv u q j
 obtain ⟨H2,m⟩:=xy (H1++[aC.rw (ints (fO B.n (B.b.pull B.b.blow)))])
 have w:kQ H2 B sb:=by rw [m];exact kQ.app u
 have f:Ni H2:=by rw [m];exact aX j rfl
 have hf6:=XT (cS:=cS) hv w f
 have hf7:=Vl (cS:=cS) (xb:=H1.length) (c:=B.n) hv w (by rw [m];exact .inr (.inl aN)) (fun i hi=>B.b.adB a hv.ok hi) f
 have I:B.b.bound (B.b.pull B.b.blow)=B.b.vt B.n 0:=(B.b.Xo a hv.ok).trans (B.b.Gl hv.ok q)
 rw [I] at hf7
 have z:=zA f
 have r:¬ B.b.vt B.n 0 > B.b.cost d:=oO
 rw [m,g] at hf6 hf7
 rw [g] at hf4 hf5
 conv=>arg 5;whnf
 obtain ⟨cst,x⟩:=xy (B.b.cost d)
 obtain ⟨v,D⟩:=xy (B.b.vt B.n 0)
 rw [<- x] at hf2 r ⊢
 rw [<- D] at hf3 hf6 hf7 r
 refine XV ?_
 rw [<- g,<- m]
 refine ⟨dB [(5,.s zb l.length cz),(17,.p bb),(30,.i v)] H2 rfl tE ?_⟩
 have C:H2.take U.length=U:=by rw [m,g];exact aP (aP hp)
 have b0:H2[bb]?=some (.rw [.s sb B.n cS,.i B.most]):=by rw [m,g];exact aA (aA a0)
 have E:dD H2 zb (ints l):=by rw [m,g];exact nS (nS hz)
 clear hf1 hf2 hf3 hf4 hf5 hf6 hf7 a0 g m u j
 have a0:=b0
 have hf1:=z
 clear z
 by_cases hg:l.length=B.n/\∀ y ∈ l,-100<=y/\y<=100
 ·have F:∀ i<B.n,-100<=gi l i/\gi l i<=100:=fun i hi=>hg.2 _ (by
   unfold gi;rw [cE,cA oO];exact cP _)
  have hf2:=XU (cS:=cS) (xb:=zb) (c:=cz) (p:=gi l) hv w (by rw [<- hg.1,abr];exact E) F f
  have hbl:B.b.bound (gi l)<=v:=by
   rw [D]
   exact Int.le_trans (B.b.adC a.1) (Int.le_of_eq (B.b.Gl hv.ok q))
  rw [hg.1]
  apply aG
  refine XV ?_
  exact dG (.tmp rfl .nil) (.plain C rfl) ⟨rfl,rfl⟩
 ·obtain ⟨e,he,hf2⟩:=Rk (cS:=cS) (xb:=zb) (c:=cz) (l:=l) hv w E oO (Decidable.not_and_iff_or_not.1 hg) f
  apply aG
  refine XV ?_
  exact dG (.tmp rfl .nil) (.plain C rfl) ⟨rfl,rfl⟩
end Go.Proofs.YtajpgeklmcjciaaGreat
namespace Go.AH.Warp
open Go Go.AH Go.Proofs.YtajpgeklmcjciaaGreat
def mZ (s:St) (w:List Int):Nat->Int
 |0=>s.long
 |k+1=>max s.short (mZ s w k - gi w k)
theorem EX {s:St} {w:List Int} (hs:s.short<=s.long) (hw:∀ i,0<=gi w i):∀ k,s.short<=mZ s w k/\mZ s w k<=s.long
 |0=>⟨hs,dy _⟩
 |k+1=>by
  have h:=EX hs hw k
  have h2:=hw k
  show s.short<=max s.short (mZ s w k - gi w k)/\max s.short (mZ s w k - gi w k)<=s.long
  omega
def wF (l:List Int) (p:List (Int×Int)) (m:Int):Nat->Int
 |0=>0
 |k+1=>if (gp p k).1>=m then gi l (gp p k).2.toNat else wF l p m k
theorem L6 {l:List Int} {p:List (Int×Int)} {m:Int} (h0:(gp p 0).1>=m):∀ n,∃ k≤n,wF l p m (n+1)=gi l (gp p k).2.toNat/\(gp p k).1>=m/\∀ j,k<j->j<=n->(gp p j).1<m
 |0=>⟨0,aD _,if_pos h0,h0,fun j h1 h2=>oO⟩
 |n+1=>by
  by_cases h:(gp p (n+1)).1>=m
  ·exact ⟨n+1,aD _,if_pos h,h,fun j h1 h2=>oO⟩
  ·obtain ⟨k,h1,h2,h3,h4⟩:=L6 h0 n
   refine ⟨k,oO,(if_neg h).trans h2,h3,fun j g1 g2=>?_⟩
   by_cases hj:j=n+1
   ·subst hj;omega
   ·exact h4 j g1 oO
theorem ZB {s:St} {l:List Int} {p:List (Int×Int)} (hp:kN s l p=0) {m:Int} (hm:s.short<=m/\m<=s.long) :
  (1<=wF l p m p.length/\wF l p m p.length<=10000)/\GL s (wF l p m p.length) m:=by
 obtain ⟨hc,hl1,_,hb,hf⟩:=tZ hp
 obtain ⟨h12,hl,hs,ht⟩:=kH hc
 have f:=LQ ht
 have j:=hs
 unfold fB at j
 have i:=hb 0 oO
 unfold ku at i
 obtain ⟨n,hn⟩:∃ n,p.length=n+1:=⟨p.length - 1,oO⟩
 obtain ⟨k,hk,he,hg,g⟩:=L6 (l:=l) (p:=p) (m:=m) oO n
 rw [hn,he]
 have d:k<p.length:=oO
 have hr:=rF hb k d
 have hen:=Zu oO hb d
 have c:(gp p k).2.toNat<l.length:=oO
 have e:=f _ c
 have a:=hf k d
 unfold lI at a
 have a:=Decidable.of_not_not a
 have h1:=(Q8 hs c e oO).1 a.1
 have h2:=(Q8 hs c e oO).1 a.2
 have hem:yI s.short p k<=m:=by
  unfold yI
  split
  ·rename_i h;have:=g (k+1) oO oO;omega
  ·exact hm.1
 refine ⟨e,?_⟩
 unfold GL at h1 h2 ⊢
 have g1:(yI s.short p k - s.off)*gi l (gp p k).2.toNat<=(m - s.off)*gi l (gp p k).2.toNat:=Int.mul_le_mul_of_nonneg_right oO oO
 have g2:(m+s.off)*gi l (gp p k).2.toNat<=((gp p k).1+s.off)*gi l (gp p k).2.toNat:=Int.mul_le_mul_of_nonneg_right oO oO
 omega
def um (s:St) (zero m:Int):Int:=max (-100) ((s.lo+m - s.off - 1).tdiv (m - s.off) - zero)
def uo (s:St) (zero m:Int):Int:=min 100 (s.hi.tdiv (m+s.off) - zero)
theorem Vp {s:St} {t zero m:Int} (hs:¬ fB s) (hm:s.short<=m/\m<=s.long) (h:GL s t m) (hz:-100<=t - zero/\t - zero<=100):um s zero m<=t - zero/\t - zero<=uo s zero m:=by
 unfold fB at hs
 unfold GL at h
 have h1:(s.lo+m - s.off - 1).tdiv (m - s.off)<=t:=by
  rw [fw oO]
  refine Int.lt_add_one_iff.1 (Int.ediv_lt_of_lt_mul oO ?_)
  rw [Int.add_mul,Int.one_mul,Int.mul_comm t]
  omega
 have h2:t<=s.hi.tdiv (m+s.off):=by
  rw [fw oO]
  refine (Int.le_ediv_iff_mul_le oO).2 ?_
  rw [Int.mul_comm];exact h.2
 unfold um uo
 omega
def abt (s:St) (w:List Int) (zero:Int) (n:Nat):Bld:={ n:=n,ang:=fun _=>0,tlo:=fun i=>um s zero (mZ s w (i+1)),thi:=fun i=>uo s zero (mZ s w (i+1)),hard:=fun _=>1,most:=200 }
def nZ (s:St) (l:List Int) (p:List (Int×Int)) (w:List Int) (zero:Int):Nat->Int
 |0=>0
 |i+1=>wF l p (mZ s w (i+1)) p.length - zero
def aeG (s:St) (l:List Int) (p:List (Int×Int)) (w:List Int) (zero:Int) (i:Nat):Int:=nZ s l p w zero (i+1) - nZ s l p w zero i
theorem Vq {s:St} {l:List Int} {p:List (Int×Int)} {w:List Int} {zero:Int}:∀ k,bZ (aeG s l p w zero) k=nZ s l p w zero k
 |0=>rfl
 |k+1=>by
  show bZ (aeG s l p w zero) k+(nZ s l p w zero (k+1) - nZ s l p w zero k)=_
  rw [Vq k];omega
theorem Vr {s:St} {l:List Int} {p:List (Int×Int)} {w:List Int} {zero:Int} (hp:kN s l p=0) (hw:∀ i,0<=gi w i) {n:Nat} (hx:∀ i<n,-100<=nZ s l p w zero (i+1)/\nZ s l p w zero (i+1)<=100) :
  (abt s w zero n).b.Fits (aeG s l p w zero)/\∀ i<n,-100<=um s zero (mZ s w (i+1))/\um s zero (mZ s w (i+1))<=nZ s l p w zero (i+1)/\nZ s l p w zero (i+1)<=uo s zero (mZ s w (i+1))/\uo s zero (mZ s w (i+1))<=100:=by
 have hs:=(kH (tZ hp).1).2.2.1
 have c:=hs
 unfold fB at c
 have a:∀ i<n,-100<=um s zero (mZ s w (i+1))/\um s zero (mZ s w (i+1))<=nZ s l p w zero (i+1)/\nZ s l p w zero (i+1)<=uo s zero (mZ s w (i+1))/\uo s zero (mZ s w (i+1))<=100:=fun i hi=>by
  have hl:=EX (s:=s) (w:=w) oO hw (i+1)
  have h1:=Vp hs hl (ZB hp hl).2 (hx i hi)
  exact ⟨by unfold um;omega,h1.1,h1.2,by unfold uo;omega⟩
 refine ⟨fun i hi=>?_,a⟩
 have hi:i<n:=hi
 have h1:=hx i hi
 have h2:-100<=nZ s l p w zero i/\nZ s l p w zero i<=100:=by
  cases i with
  |zero=>exact ⟨by show (-100:Int)<=0;omega,by show (0:Int)<=100;omega⟩
  |succ i=>exact hx i oO
 have h3:=a i hi
 have h4:Bl.jy (aeG s l p w zero) i=nZ s l p w zero (i+1):=Vq (i+1)
 rw [h4]
 show -200<=nZ s l p w zero (i+1) - nZ s l p w zero i/\nZ s l p w zero (i+1) - nZ s l p w zero i<=200/\um s zero (mZ s w (i+1)) - 0<=_/\_<=uo s zero (mZ s w (i+1)) - 0
 omega
theorem agD {s:St} {l:List Int} {p:List (Int×Int)} {w:List Int} {zero:Int} (hp:kN s l p=0) (hw:∀ i,0<=gi w i) {n:Nat} (hn:1<=n/\n<=20) (hx:∀ i<n,-100<=nZ s l p w zero (i+1)/\nZ s l p w zero (i+1)<=100):mJ (abt s w zero n) :=
 ⟨hn,fun i hi=>by
  have:=(Vr hp hw hx).2 i hi
  show -100<=(0:Int)/\(0:Int)<=100/\-100<=um s zero (mZ s w (i+1))/\um s zero (mZ s w (i+1))<=uo s zero (mZ s w (i+1))/\uo s zero (mZ s w (i+1))<=100/\1<=(1:Int)/\(1:Int)<=9
  omega,by show 0<=(200:Int)/\(200:Int)<=200;omega⟩
end Go.AH.Warp
namespace Go.AH
def yJ (k:IntKind) (l:List Int):List Value:=l.map (.int k)
theorem abu {k:IntKind} {l:List Int} {i:Nat} (h:i<l.length):(yJ k l)[i]?=some (.int k (gi l i)):=by
 simp [yJ,gi,cE,cA h]
theorem Vs (k:IntKind) (l:List Int):dN (yJ k l)=true:=vJ _ (fun _=>rfl) l
theorem agE {U:Heap} {y i:Nat} {k:IntKind} {l:List Int} (h:dD U y (yJ k l)) (hi:i<l.length):aI U y i=some (.int k (gi l i)):=by
 have h1:=abu (k:=k) hi
 rcases h with h|h|⟨t,h⟩ <;> simpa [aI,h] using h1
end Go.AH
namespace Go.AH.Warp
def Bld.stc (B:Bld):Nat->List Value
 |0=>[]
 |n+1=>B.stc n++[.int .i64 (B.ang n),.int .i64 (B.tlo n),.int .i64 (B.thi n),.int .i64 (B.hard n)]
theorem Jg (B:Bld):∀ n,(B.stc n).length=n*4
 |0=>rfl
 |n+1=>by rw [Bld.stc,bA,Jg B n];simp;omega
theorem aeH {B:Bld}:∀ {n q:Nat},q<n->((B.stc n).drop (q*4)).take 4=[.i (B.ang q),.i (B.tlo q),.i (B.thi q),.i (B.hard q)]
 |0,q,h=>by omega
 |n+1,q,h=>by
  have hl:=Jg B n
  rw [Bld.stc]
  by_cases hq:q<n
  ·rw [fv oO,fh (by rw [eR];omega)]
   exact aeH hq
  ·obtain rfl:q=n:=oO
   rw [List.drop_append,eD oO,hl,cM]
   simp
theorem abv {H:Heap} {B:Bld} {b n q:Nat} (h:H[b]?=some (.rw (B.stc n))) (hq:q<n):aK H b (q*4) 4=some [.i (B.ang q),.i (B.tlo q),.i (B.thi q),.i (B.hard q)]:=by
 have hl:=Jg B n
 unfold aK
 rw [h]
 have hb:Nat.ble (q*4+4) (B.stc n).length=true:=by rw [hl,Nat.ble_eq];omega
 simp only [hb,cond_true,aeH hq]
end Go.AH.Warp
namespace Go.AH
theorem aeI {P:Program} {n0 N:Nat} {rd:Option Nat} {c:Code} {Q:Post} {e:Env} {mk:List Nat} {U:Heap} (Q1:Env->List Nat->Heap->Prop)
  (h:bJ P n0 N rd c (fun ex e mk s=>(ex=.normal/\Q1 e mk s)\/Q ex e mk s) e mk U) (k:∀ e mk s,Q1 e mk s->Q .normal e mk s):bJ P n0 N rd c Q e mk U :=
 h.mono fun ex e mk s hq=>by
  rcases hq with ⟨rfl,h⟩|h
  ·exact k _ _ _ h
  ·exact h
theorem mP.updW {n0:Nat} {U σ2:Heap} {e e2:Env} (hn0:n0<=σ2.length) (hl:σ2.length=U.length)
  (ho:(∀ (i:Nat) (o:aC),U[i]?=some o->fV U.length o)->∀ (i:Nat) (o2:aC),σ2[i]?=some o2->U[i]?=some o2\/xX U U.length (fun i=>⟨i,0,0⟩) ⟨i,0,0⟩ o2)
  (he:Fz U.length (fun i=>⟨i,0,0⟩) e e2):mP n0 U σ2 e e2 :=
 .inr fun hcl=>⟨fun i=>⟨i,0,0⟩,⟨hn0,fun _ _=>rfl,fun i o2 h=>by
  rw [hl]
  rcases ho hcl i o2 h with h|h
  ·exact lZ (m:=U.length) (fun _ _=>rfl) (aD _) (aS h) h (hcl i o2 h)
  ·exact h,fun i j _ _ _ _ _ _ h=>h⟩,by rw [hl];exact yY he⟩
end Go.AH
namespace Go.Proofs.YtajpgeklmcjciaaGreat
attribute [local irreducible] dA bJ bK jh fQ dK eH bY eu aW dR dW
open Go.AH.Heat Go.AH.Warp
theorem oQ {A B:Prop} (k:B) (h:Hide B->A:=by intro z_;(repeat' (first|refine sCm ?_|(refine gU ?_;first|refine st (jO (by rfl) (by rfl) rfl (by exact hgX _) (by exact hgl) rfl (by exact hcl2) (by omega) (by exact hone) (by omega) (by decide)) rfl rfl ?_|refine st (y9 (by rfl) rfl rfl (by exact hcl2) (by omega) (by exact hone) (by omega) (by decide)) rfl rfl ?_|(refine cO ?_;first|refine st (aJ rfl (by first|exact hq1|exact hq2|exact hq3)) rfl rfl ?_|refine st (bG rfl (by exact aV a25 rfl)) rfl rfl ?_)|refine sK9 ?_|refine sK4 ?_|refine sK0 ?_|(refine lM ?_;first|refine st (kC rfl (by exact fE (by assumption)) rfl) rfl rfl ?_|refine st (je rfl (by exact bM (by assumption)) rfl) rfl rfl ?_)|(refine gIA ?_;first|refine st (iE rfl rfl (by omega)) rfl rfl ?_|refine st (pJ rfl rfl (by omega) (by omega)) rfl rfl ?_)|(refine gMax ?_;refine st (CG rfl rfl) rfl rfl ?_)|refine FP ?_|(refine dV ?_;refine st (bC rfl rfl rfl (by exact hf1)) rfl rfl ?_)|refine Me ?_|(refine gZ ?_;refine stN (bW rfl rfl rfl rfl (by first|exact hput|exact hputA _ _ _)) rfl ?_))|(refine gG ?_;first|refine WE ?_|(refine gFA ?_;refine stG rfl (by exact bM (by assumption)) (bD rfl) rfl rfl ?_)|(refine cO ?_;refine stG rfl (by exact bM (by assumption)) (aJ rfl (by exact hq2)) rfl rfl ?_)|refine TJ ?_|refine aap ?_)|(refine fU ?_;first|refine Fp ?_;refine frA (D6 rfl rfl (by omega) hqa.1 hqa.2) rfl ?_ rfl|refine Fp ?_;refine frA (D6 rfl rfl (by omega) hqb.1 hqb.2) rfl ?_ rfl|refine eU ?_;refine frA (aJ rfl (by exact hqo _)) rfl ?_ rfl|refine eU ?_;refine frA (aJ rfl (by exact hql _)) rfl ?_ rfl|refine eU ?_;refine frA (aJ rfl (by exact hqh _)) rfl ?_ rfl|refine nH ?_;refine frA (dY rfl) rfl ?_ (hcs (by assumption))|refine nH ?_;refine frA (dY rfl) rfl ?_ rfl|refine fIA ?_;refine frA (qR rfl rfl (by omega)) rfl ?_ (hcl (by assumption))|refine fFA ?_;refine frA (bD rfl) rfl ?_ (hcl (by assumption))|refine eU ?_;refine frA (aJ rfl (by exact hqw _)) rfl ?_ rfl|refine eU ?_;refine frA (aJ rfl (by exact hqs _)) rfl ?_ rfl|refine fConv ?_;refine frA (TW rfl (by omega) (by omega)) rfl ?_ rfl|(refine Bf ?_;refine fr (jd rfl) (by rfl) rfl ?_)|refine TM ?_|refine Iz ?_|refine aar ?_|refine WG ?_|(refine JC ?_;refine fr (pV (by rfl) rfl (by rfl)) (by rfl) rfl ?_)|(refine zY ?_;refine fr1 (jG rfl) rfl rfl rfl ?_))|(refine fP ⟨by kernel_rfl,?_⟩)|refine bU (id:=18) ?_|refine bU (id:=19) ?_|refine bU (id:=25) ?_|refine bU (id:=26) ?_|refine bU (id:=31) ?_|refine aG ?_|refine sK5 ?_|refine I7 (t:=107) ?_|refine sK2 ?_|refine sK1 ?_|fail));exact z_.h):A:=h ⟨k⟩
theorem Vt {U K:Heap} {s:St} {l w zl:List Int} {p:List (Int×Int)} {x c wb cw zb cz py pc:Nat} {zero:Int} (hpK:K.take U.length=U) (hniK:Ni K) (hs6:K[U.length]?=some (.rw s.cells))
  (hx:dD K x (ints l)) (hw:dD K wb (yJ .u16 w)) (hz:dD K zb (ints zl)) (hy:dD K py (dL p)) (hwn:1<=w.length/\w.length<=20) (hwv:∀ i,0<=gi w i/\gi w i<=65535) (hzl:zl.length<=30) (hp:kN s l p=0) (hzero:1<=zero/\zero<=10000) :
  bJ prog U.length 298 none (aes 14 (ahr Tryz.f4)) (jh prog U [ResultVar.tmp 12] fun v' s=>v'=.bool true/\s=U)
   [(1,.s x l.length c),(3,.s wb w.length cw),(5,.s zb zl.length cz),(6,.p U.length),(13,.s py p.length pc),(16,.i zero),(17,.p K.length),(18,.slice none 0 0)] [] (K++[aC.rw [.slice none 0 0,.i 200]]):=by
 obtain ⟨Uq,hp1,hp20,bo,hbf⟩:=tZ hp
 obtain ⟨h12,av,hs,bg⟩:=kH Uq
 have hno:=LQ bg
 have b2:1<=s.short/\s.short<=s.long/\s.long<=100000/\0<=s.off/\s.off<s.short/\0<=s.lo/\s.lo<=s.hi/\s.hi<=1000000000:=by unfold fB at hs;omega
 obtain ⟨d,hd⟩:=xy (aeG s l p w zero)
 conv=>arg 5;whnf
 have hlK:U.length<K.length:=aS hs6
 have a6:(K++[aC.rw [.slice none 0 0,.i 200]])[U.length]?=some (.rw s.cells):=aA hs6
 have hqs:∀ X,aI (K++[aC.rw [.slice none 0 0,.i 200]]++X) U.length (0+0)=some (.i s.long):=fun X=>aF (aA a6)
 have hcl:∀ {q o:Nat},q<(K++[aC.rw [.slice none 0 0,.i 200]]).length->closed (K++[aC.rw [.slice none 0 0,.i 200]]).length (.pointer (some ⟨q,o,none⟩))=true:=fun {q o} h=>(show Nat.blt q _=true from Nat.blt_eq.mpr h)
 have bb:U.length<(K++[aC.rw [.slice none 0 0,.i 200]]).length:=by simp;omega
 refine oQ ?_
 refine dO (ι:=Nat×Nat×Nat) (fun k=>[(1,.s x l.length c),(3,.s wb w.length cw),(5,.s zb zl.length cz),(6,.p U.length),(13,.s py p.length pc),(16,.i zero),(17,.p K.length),(18,eP k.2.2 1 k.1),(19,.i (bZ (fun i=>1*ab (d i)) k.1)),(20,.i (nZ s l p w zero k.1)),(21,.i (mZ s w k.1)),(22,.i (k.1:Nat))])
  (fun k mk H=>k.1<=w.length/\mk=[]/\H.take K.length=K/\H.all (fun o=>!aU o)=true/\(∀ i<k.1,-100<=nZ s l p w zero (i+1)/\nZ s l p w zero (i+1)<=100) /\
   ((k.1=0/\H[K.length]?=some (.rw [.slice none 0 0,.i 200]))\/(0<k.1/\K.length+1<=k.2.1/\K.length+1<=k.2.2/\k.2.1 ≠ k.2.2/\H[K.length]?=some (.rw [eP k.2.1 4 k.1,.i 200])/\H[k.2.1]?=some (.gr ((abt s w zero w.length).stc k.1) 69)/\H[k.2.2]?=some (.gr (ints (fO k.1 d)) 2))))
  (fun k=>w.length - k.1) (0,0,0) tE ⟨bL _,rfl,by simp [gV],aX (aX hniK rfl) rfl,fun i hi=>oO,.inl ⟨rfl,aA aN⟩⟩ ?_
 clear bb hcl hqs a6
 rintro ⟨k,gb,gx⟩ mk H ⟨hk,rfl,g,N,hX,Vv⟩
 dsimp only at hk hX Vv ⊢
 have hpS:H.take U.length=U:=xw g hpK
 have a6:H[U.length]?=some (.rw s.cells):=vk g hs6
 have az:K.length<H.length:=by rcases Vv with ⟨_,h⟩|⟨_,_,_,_,h,_⟩ <;> exact aS h
 by_cases bf:k<w.length
 ·have bn:(k:Int)<(w.length:Nat):=oO
  refine oQ ?_
  refine ⟨fA rfl ?_⟩
  refine oQ ?_
  obtain ⟨m,hm⟩:=xy (mZ s w k)
  have b5:=EX (s:=s) (w:=w) b2.2.1 (fun i=>(hwv i).1) k
  rw [<- hm] at b5 ⊢
  refine .mk (dB [(1,.s x l.length c),(3,.s wb w.length cw),(5,.s zb zl.length cz),(6,.p U.length),(13,.s py p.length pc),(16,.i zero),(17,.p K.length),(18,eP gx 1 k),(19,.i (bZ (fun i=>1*ab (d i)) k)),(20,.i (nZ s l p w zero k)),(21,.i m),(22,.i (k:Nat))] H rfl tE ?_)
  have hcl:∀ {q o:Nat},q<H.length->closed H.length (.pointer (some ⟨q,o,none⟩))=true:=fun {q o} h=>(show Nat.blt q H.length=true from Nat.blt_eq.mpr h)
  have hcs:∀ {q o n c:Nat},q<H.length->closed H.length (.slice (some ⟨q,o,none⟩) n c)=true:=fun h=>cZ (Nat.blt_eq.mpr h)
  have ar:dD H wb (yJ .u16 w):=gB g hw
  have av:wb<H.length:=oJ ar
  have hl2:U.length<H.length:=aS a6
  have hqw:∀ X,aI (H++X) wb k=some (.int .u16 (gi w k)):=fun X=>by exact agE (nS ar) bf
  have hqs:∀ X,aI (H++X) U.length (0+1)=some (.i s.short):=fun X=>aF (aA a6)
  have hwk:=hwv k
  refine eY oK rfl ?_
  refine oQ ?_
  obtain ⟨m2,L⟩:=xy (mZ s w (k+1))
  have z:=EX (s:=s) (w:=w) b2.2.1 (fun i=>(hwv i).1) (k+1)
  have P:max s.short (m - gi w k)=m2:=by rw [L,hm];rfl
  rw [<- L] at z
  rw [P]
  refine .mk (dB [(1,.s x l.length c),(3,.s wb w.length cw),(5,.s zb zl.length cz),(6,.p U.length),(13,.s py p.length pc),(16,.i zero),(17,.p K.length),(18,eP gx 1 k),(19,.i (bZ (fun i=>1*ab (d i)) k)),(20,.i (nZ s l p w zero k)),(21,.i m2),(22,.i (k:Nat))] H (bN H) tE ?_)
  clear hqw hqs hm b5 P av
  clear m
  apply aG
  refine oQ ?_
  have ai:dD H py (dL p):=gB g hy
  have ay:dD H x (ints l):=gB g hx
  refine dO (ι:=Nat) (fun j=>[(1,.s x l.length c),(3,.s wb w.length cw),(5,.s zb zl.length cz),(6,.p U.length),(13,.s py p.length pc),(16,.i zero),(17,.p K.length),(18,eP gx 1 k),(19,.i (bZ (fun i=>1*ab (d i)) k)),(20,.i (nZ s l p w zero k)),(21,.i m2),(22,.i (k:Nat)),(23,.i (wF l p m2 j)),(24,.i (j:Nat))])
   (fun j mk T=>j<=p.length/\mk=[]/\T=H) (fun j=>p.length - j) 0 tE ⟨bL _,rfl,rfl⟩ ?_
  rintro j mk T ⟨hj,rfl,rfl⟩
  by_cases a2:j<p.length
  ·have bd:(j:Int)<(p.length:Nat):=oO
   have hrj:=rF bo j a2
   have hq1:aI T py (0+j*2+0)=some (.i (gp p j).1):=agA ai a2
   have hq2:aI T py (0+j*2+1)=some (.i (gp p j).2):=agB ai a2
   have hq3:aI T x (0+(gp p j).2.toNat*1)=some (.i (gi l (gp p j).2.toNat)):=by rw [aR,cH];exact ai9 ay oO
   by_cases an:(gp p j).1>=m2
   ·have ht:wF l p m2 (j+1)=gi l (gp p j).2.toNat:=if_pos an
    refine oQ ?_
    exact ⟨j+1,⟨oO,rfl,rfl⟩,oO,⟨rfl,rfl,rfl,rfl,rfl,rfl,rfl,rfl,rfl,rfl,rfl,rfl,by rw [ht];rfl,rfl,trivial⟩⟩
   ·have ht:wF l p m2 (j+1)=wF l p m2 j:=if_neg an
    refine oQ ?_
    exact ⟨j+1,⟨oO,rfl,rfl⟩,oO,⟨rfl,rfl,rfl,rfl,rfl,rfl,rfl,rfl,rfl,rfl,rfl,rfl,by rw [ht];rfl,rfl,trivial⟩⟩
  ·obtain rfl:j=p.length:=oO
   have bd:¬ ((p.length:Nat):Int)<(p.length:Nat):=oO
   refine oQ ?_
   obtain ⟨bc,ao⟩:=ZB hp z
   obtain ⟨t,ht⟩:=xy (wF l p m2 p.length)
   rw [<- ht] at bc ao ⊢
   have M:nZ s l p w zero (k+1)=t - zero:=by rw [ht,L];rfl
   obtain ⟨b0,al⟩:=xy (nZ s l p w zero k)
   have hb0b:-100<=b0/\b0<=100:=by
    rw [al]
    cases k with
    |zero=>exact ⟨by show (-100:Int)<=0;omega,by show (0:Int)<=100;omega⟩
    |succ k=>exact hX k oO
   obtain ⟨c0,Uq⟩:=xy (bZ (fun i=>1*ab (d i)) k)
   rw [<- al,<- Uq]
   refine .mk (dB [(1,.s x l.length c),(3,.s wb w.length cw),(5,.s zb zl.length cz),(6,.p U.length),(13,.s py p.length pc),(16,.i zero),(17,.p K.length),(18,eP gx 1 k),(19,.i c0),(20,.i b0),(21,.i m2),(22,.i (k:Nat)),(23,.i t)] T rfl tE ?_)
   have hqo:∀ X,aI (T++X) U.length (0+2)=some (.i s.off):=fun X=>aF (aA a6)
   have hql:∀ X,aI (T++X) U.length (0+3+0)=some (.i s.lo):=fun X=>aF (aA a6)
   have hqh:∀ X,aI (T++X) U.length (0+3+1)=some (.i s.hi):=fun X=>aF (aA a6)
   have aa:0<=(s.lo+m2 - s.off - 1).tdiv (m2 - s.off)/\(s.lo+m2 - s.off - 1).tdiv (m2 - s.off)<=2000000000:=by
    rw [fw oO]
    exact ⟨Int.ediv_nonneg oO oO,Int.le_trans (Int.ediv_le_self _ oO) oO⟩
   have a4:0<=s.hi.tdiv (m2+s.off)/\s.hi.tdiv (m2+s.off)<=2000000000:=by
    rw [fw oO]
    exact ⟨Int.ediv_nonneg oO oO,Int.le_trans (Int.ediv_le_self _ oO) oO⟩
   have hqa:-9223372036854775808<=(s.lo+m2 - s.off - 1).tdiv (m2 - s.off)/\(s.lo+m2 - s.off - 1).tdiv (m2 - s.off)<=9223372036854775807:=oO
   have hqb:-9223372036854775808<=s.hi.tdiv (m2+s.off)/\s.hi.tdiv (m2+s.off)<=9223372036854775807:=oO
   have hput:putCells (T++[aC.rw [.i 0,.i 0]]) (T++([]:Heap)).length 0 [.i (max (-100) ((s.lo+m2 - s.off - 1).tdiv (m2 - s.off) - zero)),.i (min 100 (s.hi.tdiv (m2+s.off) - zero))]=some (T++[aC.rw [.i (max (-100) ((s.lo+m2 - s.off - 1).tdiv (m2 - s.off) - zero)),.i (min 100 (s.hi.tdiv (m2+s.off) - zero))]]):=by
    rw [bN];exact iH (aD _) (cL _)
   refine eY oK rfl ?_
   refine oQ ?_
   obtain ⟨tl,ZZ⟩:=xy (um s zero m2)
   obtain ⟨th,af⟩:=xy (uo s zero m2)
   obtain ⟨T1,E⟩:=xy (T++[aC.rw [.i tl,.i th]])
   refine .mk (dB [(1,.s x l.length c),(3,.s wb w.length cw),(5,.s zb zl.length cz),(6,.p U.length),(13,.s py p.length pc),(16,.i zero),(17,.p K.length),(18,eP gx 1 k),(19,.i c0),(20,.i b0),(22,.i (k:Nat)),(21,.i m2),(23,.i t),(25,.p T.length)] T1 (by rw [E,ZZ,af];rfl) ⟨rfl,rfl,rfl,rfl,rfl,rfl,rfl,rfl,rfl,rfl,rfl,rfl,rfl,by rw [<- bN T,cD];rfl,trivial⟩ ?_)
   clear hput hqa hqb aa a4 hqo hql hqh
   have u:T1.take K.length=K:=by rw [E];exact aP g
   have a:Ni T1:=by rw [E];exact aX N rfl
   have a25:T1[T.length]?=some (.rw [.i tl,.i th]):=by rw [E];exact aN
   have D:(k=0/\T1[K.length]?=some (.rw [.slice none 0 0,.i 200]))\/(0<k/\K.length+1<=gb/\K.length+1<=gx/\gb ≠ gx/\T1[K.length]?=some (.rw [eP gb 4 k,.i 200])/\T1[gb]?=some (.gr ((abt s w zero w.length).stc k) 69)/\T1[gx]?=some (.gr (ints (fO k d)) 2)):=by
    rw [E]
    rcases Vv with ⟨h1,h2⟩|⟨h1,h2,h3,h4,h5,h6,h7⟩
    ·exact .inl ⟨h1,aA h2⟩
    ·exact .inr ⟨h1,h2,h3,h4,aA h5,aA h6,aA h7⟩
   have a5:K.length<T.length:=az
   clear Vv a6 ai ay E
   obtain ⟨tb,a3⟩:=xy T.length
   rw [<- a3] at a25 a5 ⊢
   by_cases ak:-100<=t - zero/\t - zero<=100
   ·have ac:¬ t - zero < -100:=oO
    have ag:¬ t - zero > 100:=oO
    have y:=Vp hs z ao ak
    rw [<- ZZ,<- af] at y
    have aq:¬ t - zero<tl:=oO
    have b6:¬ t - zero > th:=oO
    have hq1:aI T1 tb (0+0)=some (.i tl):=aF a25
    have hq2:aI T1 tb (0+1)=some (.i th):=aF a25
    apply aG
    refine oQ ?_
    obtain ⟨e0,b9⟩:=xy (t - zero)
    rw [<- b9] at ac ag aq b6 y ak M ⊢
    refine .mk (dB [(1,.s x l.length c),(3,.s wb w.length cw),(5,.s zb zl.length cz),(6,.p U.length),(13,.s py p.length pc),(16,.i zero),(17,.p K.length),(18,eP gx 1 k),(19,.i c0),(20,.i b0),(21,.i m2),(22,.i (k:Nat)),(26,.i e0),(25,.p tb)] T1 rfl tE ?_)
    have hlT1:tb<T1.length:=aS a25
    obtain ⟨B,hB⟩:=xy (abt s w zero w.length)
    have ad:B.stc (k+1)=B.stc k++[.i 0,.i tl,.i th,.i 1]:=by rw [hB,ZZ,af,L];rfl
    rw [<- hB] at D
    have ae:d k=e0 - b0:=by rw [hd,al,<- M];rfl
    refine bJ.mono (Q:=fun ex e mk G=>ex=.normal/\mk=[]/\pK e [(1,.s x l.length c),(3,.s wb w.length cw),(5,.s zb zl.length cz),(6,.p U.length),(13,.s py p.length pc),(16,.i zero),(17,.p K.length),(18,eP gx 1 k),(19,.i c0),(20,.i b0),(21,.i m2),(22,.i (k:Nat)),(26,.i e0)]/\G.take K.length=K/\G.all (fun o=>!aU o)=true/\∃ g2,K.length+1<=g2/\G[K.length]?=some (.rw [eP g2 4 (k+1),.i 200])/\G[g2]?=some (.gr (B.stc (k+1)) 69) /\
     (k=0\/(0<k/\K.length+1<=gx/\g2 ≠ gx/\G[gx]?=some (.gr (ints (fO k d)) 2)))) ?_ ?_
    ·have hone:([.i 0,.i tl,.i th,.i 1]:List Value).all (·.oneCell')=true:=rfl
     have hcl2:aK (T1++[aC.rw [.i 0,.i tl,.i th,.i 1]]) T1.length 0 (1*4)=some [.i 0,.i tl,.i th,.i 1]:=dZ rfl
     rcases D with ⟨rfl,h2⟩|⟨h1,h2,h3,h4,h5,h6,h7⟩
     ·have hq1:aI T1 K.length (0+0)=some (.slice none 0 0):=aF h2
      have hputA:∀ (A:aC) (X:Heap) v,putCells (T1++[A]++X) K.length (0+0) [v]=some ((T1++[A]++X).set K.length (.rw [v,.i 200])):=fun A X v=>fF (aA (aA h2)) oS oS rfl
      apply aG
      refine oQ ?_
      refine ⟨rfl,rfl,tE,take_set (aP (aP u)) (aD _),jr (aX (aX a rfl) rfl) rfl,_,?_,aQ (aA (aA h2)),?_,.inl rfl⟩
      ·simp;omega
      ·refine aB ?_ (by simp;omega)
       rw [ad]
       exact yE
     ·have hq1:aI T1 K.length (0+0)=some (eP gb 4 k):=aF h5
      have hgX:∀ A:aC,(T1++[A])[gb]?=some (.gr (B.stc k) 69):=fun A=>aA h6
      have hgl:(B.stc k).length=k*4:=Jg _ _
      have hputA:∀ (A:aC) (X:Heap) v,putCells ((T1++[A]).set gb .dead++X) K.length (0+0) [v]=some (((T1++[A]).set gb .dead++X).set K.length (.rw [v,.i 200])):=fun A X v=>fF (aA (aB (aA h5) oO)) oS oS rfl
      have be:k+1<=1000000:=oO
      apply aG
      refine oQ ?_
      have hgx1:=aS h7
      refine ⟨rfl,rfl,tE,take_set (aP (take_set (aP u) oO)) (aD _),jr (aX (jr (aX a rfl) rfl) rfl) rfl,_,?_,aQ (aA (aB (aA h5) oO)),?_,.inr ⟨h1,h3,?_,aB (aA (aB (aA h7) h4)) oO⟩⟩
      ·simp;omega
      ·refine aB ?_ (by simp;omega)
       rw [ad]
       exact bP oS
      ·simp;omega
    ·rintro ex e' mk' G ⟨rfl,rfl,he,b4,W,g2,Y,aw,aj,S⟩
     refine rG ?_
     refine dB [(1,.s x l.length c),(3,.s wb w.length cw),(5,.s zb zl.length cz),(6,.p U.length),(13,.s py p.length pc),(16,.i zero),(17,.p K.length),(18,eP gx 1 k),(19,.i c0),(20,.i b0),(21,.i m2),(22,.i (k:Nat)),(26,.i e0)] G rfl he ?_
     have J:∀ i<k+1,-100<=nZ s l p w zero (i+1)/\nZ s l p w zero (i+1)<=100:=fun i hi=>by
      by_cases bl:i<k
      ·exact hX i bl
      ·obtain rfl:i=k:=oO
       rw [M];exact ak
     have b3:∀ i<k,-200<=d i/\d i<=200:=fun i hi=>by
      rw [hd]
      have h1:=hX i hi
      have h2:-100<=nZ s l p w zero i/\nZ s l p w zero i<=100:=by
       cases i with
       |zero=>exact ⟨by show (-100:Int)<=0;omega,by show (0:Int)<=100;omega⟩
       |succ i=>exact hX i oO
      show -200<=nZ s l p w zero (i+1) - nZ s l p w zero i/\nZ s l p w zero (i+1) - nZ s l p w zero i<=200
      omega
     have bj:=zB (f:=fun i=>1*ab (d i)) (n:=k) (C:=200) (fun i hi=>by have:=b3 i hi;show -200<=1*ab (d i)/\1*ab (d i)<=200;unfold ab;omega) k (aD _)
     rw [<- Uq] at bj
     have au:bZ (fun i=>1*ab (d i)) (k+1)=c0+max (e0 - b0) (b0 - e0):=by
      show bZ (fun i=>1*ab (d i)) k+1*ab (d k)=_
      rw [<- Uq,ae];unfold ab;omega
     have am:m2=mZ s w (k+1):=L
     have hone:([.i (e0 - b0)]:List Value).all (·.oneCell')=true:=rfl
     have hcl2:aK (G++[aC.rw [.i (e0 - b0)]]) G.length 0 (1*1)=some [.i (e0 - b0)]:=dZ rfl
     have be:k+1<=1000000:=oO
     clear D ad hX b3 ac ag aq b6 y
     have hGl:=aS aj
     rcases S with rfl|⟨h1,h2,h3,h4⟩
     ·refine oQ ?_
      refine ⟨(0+1,g2,(G++[aC.rw [.i (e0 - b0)]]).length+1),⟨by dsimp only;omega,rfl,aP (aP b4),aX (aX W rfl) rfl,J,.inr ⟨by dsimp only;omega,Y,by simp;omega,?_,aA (aA aw),by rw [<- hB];exact aA (aA aj),?_⟩⟩,by dsimp only;omega,⟨rfl,rfl,rfl,rfl,rfl,rfl,rfl,rfl,congrArg (fun n=>some (Value.i n)) au.symm,congrArg (fun n=>some (Value.i n)) M.symm,congrArg (fun n=>some (Value.i n)) am,rfl,trivial⟩⟩
      ·simp;omega
      ·rw [GN,ae];exact yE
     ·have hgX:∀ A:aC,(G++[A])[gx]?=some (.gr (ints (fO k d)) 2):=fun A=>aA h4
      have hgl:(ints (fO k d)).length=k*1:=by rw [bQ,nO,cH]
      refine oQ ?_
      refine ⟨(k+1,g2,(G++[aC.rw [.i (e0 - b0)]]).length),⟨by dsimp only;omega,rfl,aP (take_set (aP b4) oO),aX (jr (aX W rfl) rfl) rfl,J,.inr ⟨by dsimp only;omega,Y,by simp;omega,?_,aA (aB (aA aw) oO),by rw [<- hB];exact aA (aB (aA aj) (fun h=>h3 h.symm)),?_⟩⟩,by dsimp only;omega,⟨rfl,rfl,rfl,rfl,rfl,rfl,rfl,rfl,congrArg (fun n=>some (Value.i n)) au.symm,congrArg (fun n=>some (Value.i n)) M.symm,congrArg (fun n=>some (Value.i n)) am,rfl,trivial⟩⟩
      ·simp;omega
      ·rw [GN,ae];exact bP oS
   ·have hf1:=zA a
    have I:=xw u hpK
    by_cases ac:t - zero < -100
    ·apply aG
     refine oQ ?_
     exact dG (.tmp rfl .nil) (.plain I rfl) ⟨rfl,rfl⟩
    ·have ag:t - zero > 100:=oO
     apply aG
     refine oQ ?_
     exact dG (.tmp rfl .nil) (.plain I rfl) ⟨rfl,rfl⟩
 ·obtain rfl:k=w.length:=oO
  have bn:¬ ((w.length:Nat):Int)<(w.length:Nat):=oO
  rcases Vv with ⟨h0,_⟩|⟨_,hgb,hgx,a7,hb,hg,F⟩
  ·omega
  refine oQ ?_
  refine ⟨fM rfl ?_⟩
  refine yN ?_
  repeat' (first|refine ZL ?_|refine CJ rfl ?_|refine rG ?_)
  obtain ⟨B,hB⟩:=xy (abt s w zero w.length)
  rw [<- hB] at hg
  have hgl:=aS hg
  have bh:=aS F
  have ba:zb<H.length:=oJ (gB g hz)
  obtain ⟨H2,r⟩:=xy (((H.set gb (.rw (B.stc w.length))).set gx (.rw (ints (fO w.length d)))).set K.length (.rw [.s gb w.length w.length,.i 200]))
  refine W_st (e2:=[(5,.s zb zl.length cz),(17,.p K.length),(18,.s gx w.length w.length),(19,.i (bZ (fun i=>1*ab (d i)) w.length))]) (σ2:=H2) oS
   (mP.updW (by rw [r];simp;omega) (by rw [r];simp) (fun hcl i o2 h=>?_) ⟨qG (m:=H.length) rfl (fun _ _=>rfl) (aD _) (cZ (Nat.blt_eq.mpr ba)) rfl,qG (m:=H.length) rfl (fun _ _=>rfl) (aD _) (Nat.blt_eq.mpr az) rfl,⟨_,rfl,kX bh rfl⟩,yg rfl rfl,trivial⟩) ?_
  ·rw [r] at h
   by_cases b7:i=K.length
   ·subst b7
    rw [aQ (aB (aB hb oO) oO)] at h
    cases h
    exact .inr (.inr ⟨rfl,_,.inl hb,aD _,fun k h _=>by
     simp at h
     rcases (by omega:k=0\/k=1) with rfl|rfl
     ·exact kX hgl rfl
     ·exact .int _ _⟩)
   ·rw [eE (fun h=>b7 h.symm)] at h
    by_cases b1:i=gx
    ·subst b1
     rw [aQ (aB F a7)] at h
     cases h
     have hcs:=hcl _ _ F
     exact .inr (.inr ⟨rfl,_,.inr ⟨2,F⟩,aD _,fun k h _=>rV (fun _ _=>rfl) (aD _) _ hcs.1 hcs.2 k h⟩)
    ·rw [eE (fun h=>b1 h.symm)] at h
     by_cases ax:i=gb
     ·subst ax
      rw [aQ hg] at h
      cases h
      have hcs:=hcl _ _ hg
      exact .inr (.inr ⟨rfl,_,.inr ⟨69,hg⟩,aD _,fun k h _=>rV (fun _ _=>rfl) (aD _) _ hcs.1 hcs.2 k h⟩)
     ·rw [eE (fun h=>ax h.symm)] at h
      exact .inl h
  have ap:H2.take K.length=K:=by rw [r];exact take_set (take_set (take_set g oO) oO) (aD _)
  have ah:Ni H2:=by rw [r];exact jr (jr (jr N rfl) rfl) rfl
  have b8:H2[K.length]?=some (.rw [.s gb w.length w.length,.i 200]):=by rw [r];exact aQ (aB (aB hb oO) oO)
  have Y:H2[gb]?=some (.rw (B.stc w.length)):=by rw [r];exact aB (aB (aQ hg) (fun h=>a7 h.symm)) oO
  have bk:H2[gx]?=some (.rw (ints (fO w.length d))):=by rw [r];exact aB (aQ (aB F a7)) oO
  have R:=(Vr (l:=l) (p:=p) hp (fun i=>(hwv i).1) hX).1
  rw [<- hB,<- hd] at R
  have O:=agD (l:=l) (p:=p) hp (fun i=>(hwv i).1) hwn hX
  rw [<- hB] at O
  have:=Vo (U:=U) (B:=B) (cS:=w.length) (cx:=w.length) (zb:=zb) (cz:=cz) (d:=d) (l:=zl) (xw ap hpK) ah O R ⟨fun i hi=>abv Y (by rw [hB] at hi;exact hi)⟩ (by rw [hB];exact b8) (.inr (.inl (by rw [hB];exact bk))) (gB ap hz) hzl
  rw [hB] at this
  exact this
theorem wG {A B:Prop} (k:B) (h:Hide B->A:=by intro z_;(repeat' (first|(refine gU ?_;first|refine MF ?_|refine MG ?_|(refine cO ?_;refine st (bG rfl (by first|exact aV a6 rfl|exact dZ rfl)) rfl rfl ?_)|refine sK9 ?_|(refine yS ?_;first|refine st (iU rfl rfl rfl) rfl rfl ?_|refine st (abK rfl rfl (by decide)) rfl rfl ?_)|(refine lM ?_;first|refine st (kC rfl (by first|rfl|exact fE (by assumption)) rfl) rfl rfl ?_|refine st (je rfl (by first|rfl|exact bM (by assumption)) rfl) rfl rfl ?_)|(refine rW ?_;refine st (iV rfl) rfl rfl ?_)|(refine Jw ?_;refine st (yP rfl rfl) rfl rfl ?_)|(refine gConv ?_;refine st (TW rfl (by omega) (by omega)) rfl rfl ?_)|refine FP ?_|(refine dV ?_;refine st (bC rfl rfl rfl (by first|exact hf1|exact hf2|exact hf3)) rfl rfl ?_)|(refine ae8 ?_;refine st (Jt rfl) rfl rfl ?_)|(refine yT ?_;refine st (jG rfl) rfl rfl ?_)|refine sK8 ?_)|(refine gG ?_;first|(refine wK ?_;refine stG rfl (by first|rfl|exact bM (by assumption)) (dY rfl) rfl rfl ?_)|(refine cO ?_;refine stG rfl (by rfl) (bG rfl (by exact aV a6 rfl)) rfl rfl ?_)|(refine yS ?_;refine stG rfl (by first|rfl|exact bM (by assumption)) (iU rfl rfl rfl) rfl rfl ?_)|(refine Iq ?_;refine stG rfl (by first|rfl|exact bM (by assumption)) (lY rfl) rfl rfl ?_)|(refine dV ?_;refine stG rfl (by first|rfl|exact fE (by assumption)) (bC rfl rfl rfl (by exact hf2)) rfl rfl ?_)|refine stS rfl (by first|rfl|exact fE (by assumption)) rfl ?_)|refine uq ?_|refine bU (id:=13) ?_|refine aG ?_|refine kU ?_|refine rG ?_|refine abM ?_|refine xE ?_|refine DL ?_|refine I7 (t:=70) ?_|refine sK2 ?_|refine sK1 ?_|fail));exact z_.h):A:=h ⟨k⟩
theorem MQ {U:Heap} {s:St} {l w zl:List Int} {pl:List (Int×Int)} {x y wb zb c c2 cw cz:Nat} {base:Int} (hx:dD U x (ints l)) (hy:dD U y (dL pl)) (hw:dD U wb (yJ .u16 w)) (hz:dD U zb (ints zl)) (hsr:-9223372036854775808<=s.short/\s.short<=9223372036854775807)
  (hwv:∀ i,0<=gi w i/\gi w i<=65535) (hbase:0<=base/\base<=65535) (hni:Ni U) :
  Ev prog 4 [s.val,.s x l.length c,.s y pl.length c2,.s wb w.length cw,.int .u16 base,.s zb zl.length cz] U (.bool true) U:=by
 refine aH U.length 298 func4 (h:=?_)
 obtain ⟨H,hH⟩:=xy (U++[aC.rw s.cells])
 have hp:H.take U.length=U:=by rw [hH];simp
 have a:Ni H:=by rw [hH];exact aX hni rfl
 have a6:H[U.length]?=some (.rw s.cells):=by rw [hH];exact aN
 have q:=gB hp hx
 have u:=gB hp hy
 have hf1:=XO (s:=s) (c:=c) q a
 have hf2:=zA a
 by_cases h1:l.length<=20/\gX s l=0
 ·rw [decide_eq_true h1] at hf1
  obtain ⟨h12,hl1,hs,htn⟩:=kH h1.2
  have hs1:1<=s.short/\s.short<=s.long/\s.long<=100000/\0<=s.off/\s.off<s.short:=by unfold fB at hs;omega
  by_cases h2:(pl.length:Int) > 20
  ·rw [hH] at hf1 hf2
   refine wG ?_
   exact dG (.tmp rfl .nil) (.plain oS rfl) ⟨rfl,rfl⟩
  ·by_cases h3:(w.length:Int)<1
   ·rw [hH] at hf1 hf2
    refine wG ?_
    exact dG (.tmp rfl .nil) (.plain oS rfl) ⟨rfl,rfl⟩
   ·by_cases h4:(w.length:Int) > 20
    ·rw [hH] at hf1 hf2
     refine wG ?_
     exact dG (.tmp rfl .nil) (.plain oS rfl) ⟨rfl,rfl⟩
    ·by_cases h5:(zl.length:Int) > 30
     ·rw [hH] at hf1 hf2
      refine wG ?_
      exact dG (.tmp rfl .nil) (.plain oS rfl) ⟨rfl,rfl⟩
     ·have hf3:=LZ (s:=s) (c:=c) (c2:=c2) q u a
      rw [hH] at hf1 hf2 hf3
      refine wG ?_
      clear hf1 hf2 hf3
      refine ⟨dB [(1,.s x l.length c),(3,.s wb w.length cw),(4,.int .u16 base),(5,.s zb zl.length cz),(6,.p U.length),(12,.bool false),(13,.s y pl.length c2),(70,.bool (decide (kN s l pl ≠ 0)))] H hH.symm tE ?_⟩
      refine aeI (fun e mk K=>mk=[]/\∃ (py pc:Nat) (p:List (Int×Int)),pK e [(1,.s x l.length c),(3,.s wb w.length cw),(4,.int .u16 base),(5,.s zb zl.length cz),(6,.p U.length),(13,.s py p.length pc)]/\K.take U.length=U/\K[U.length]?=some (.rw s.cells)/\dD K py (dL p)/\K.all (fun o=>!aU o)=true/\kN s l p=0) ?_ ?_
      ·by_cases C:kN s l pl=0
       ·refine lg rfl (decide_eq_false fun h=>h C) ?_
        refine wG ?_
        exact .inl ⟨rfl,rfl,y,c2,pl,tE,hp,a6,u,a,C⟩
       ·have hf1:=U9 (s:=s) (l:=l) (c:=c) q oO hsr a
        refine oV rfl (decide_eq_true C) ?_
        by_cases f:zJ s l=0
        ·have z:¬ zJ s l ≠ 0:=fun h=>h f
         refine wG ?_
         exact .inl ⟨rfl,rfl,H.length,_,wE s l,tE,aP hp,aA a6,.inr (.inl aN),aX a rfl,(XP h1.2 f).right h1.2⟩
        ·have z:zJ s l ≠ 0:=f
         have hpe3:zJ s l=19:=by
          unfold zJ at f ⊢
          rw [if_neg (by simp [h1.2])] at f ⊢
          split at f
          ·exact absurd rfl f
          ·rename_i hx;rw [if_neg hx]
         have hf2:=zA (U:=H++[aC.rw (dL (wE s l))]) (aX a rfl)
         refine wG ?_
         refine .inr ?_
         refine wG ?_
         exact dG (.tmp rfl .nil) (.plain (aP hp) rfl) ⟨rfl,rfl⟩
      ·rintro e mk K ⟨rfl,py,pc,p,hE,m,b6,r,g,hcp⟩
       clear a6 q u a hp hH H
       have a6:=b6
       have D:=gB m hx
       obtain ⟨c1,c2',c3,c4,c5⟩:=tZ hcp
       have hf1:=XM (s:=s) (c:=c) (c2:=pc) D r oO oO hsr g
       have hf2:=LZ (s:=s) (c:=c) (c2:=pc) D r g
       rw [hcp] at hf1 hf2
       refine rG ?_
       refine dB _ K rfl hE ?_
       have htm:0<=base.tmod 10000/\base.tmod 10000<=9999:=by
        rw [Int.tmod_eq_emod_of_nonneg hbase.1]
        have h1:=Int.emod_nonneg base (show (10000:Int) ≠ 0 by decide)
        have h2:=Int.emod_lt_of_pos base (show (0:Int)<10000 by decide)
        omega
       refine wG ?_
       obtain ⟨d,j⟩:=xy (1+base.tmod 10000)
       have E:1<=d/\d<=10000:=oO
       refine .mk (dB [(1,.s x l.length c),(3,.s wb w.length cw),(5,.s zb zl.length cz),(6,.p U.length),(13,.s py p.length pc),(16,.i d),(17,.p K.length)] (K++[aC.rw [.slice none 0 0,.i 200]]) rfl ⟨rfl,rfl,rfl,rfl,rfl,by rw [j];rfl,rfl,trivial⟩ ?_)
       apply aG
       refine gU ?_
       refine uD ?_
       refine st (jd rfl) rfl rfl ?_
       refine kU ?_
       refine rG ?_
       refine dB [(1,.s x l.length c),(3,.s wb w.length cw),(5,.s zb zl.length cz),(6,.p U.length),(13,.s py p.length pc),(16,.i d),(17,.p K.length),(18,.slice none 0 0)] _ rfl tE ?_
       exact Vt m g a6 D (gB m hw) (gB m hz) r oO hwv oO hcp E
 ·rw [decide_eq_false h1] at hf1
  rw [hH] at hf1 hf2
  refine wG ?_
  exact dG (.tmp rfl .nil) (.plain oS rfl) ⟨rfl,rfl⟩
end Go.Proofs.YtajpgeklmcjciaaGreat
namespace Go.AH
open Go Go.RowKit Go.WideShapes Go.ChangeShapes
section
variable {H:Type} {enc:TypeId×Value->H} {P:Program} {W:World}
theorem wf64 {n:Int} (h:(Lit.int .i64 n).wf=true):-9223372036854775808<=n/\n<=9223372036854775807:=by
 simp only [Lit.wf,aE,decide_eq_true_eq] at h
 exact h
def Rl (l:List Int):List Value:=l.map (.int .i64)
structure OX (W:World) (v:Value) (n size:Nat) (cs:List Value) (pl:Pl):Prop where
 len:n<=9223372036854775807
 rel:∀ (m:Nat) (V:Rho) (i:Nat),i<m->V i=pl->gJ m V (.slice (some ⟨i,0,none⟩) n n) v
 sz:cs.length=n*size
 cells:cs ≠ []->pl.b<W.heap.size/\∀ (k:Nat) (h:k<cs.length),W.cell? ⟨pl.b,pl.o+k,none⟩=some cs[k]
theorem cell_lt {w:World} {a:Addr} {v:Value} (h:w.cell? a=some v):a.block<w.heap.size/\a.spot=none:=by
 unfold World.cell? at h
 split at h
 ·rename_i hb
  refine ⟨(Array.getElem?_eq_some_iff.1 hb).1,?_⟩
  split at h
  ·cases h
  ·rename_i hs;simpa using hs
 ·cases h
theorem OY {b0:Nat} {t e:TypeId} {v:Value} {d:DataW H} {p:List MemPlace} (ht:P.underlying t=some (.slice e)) (he:P.underlying e=some (.int .i64)) (hc:P.cellsOf e=1) (hval:Value.okWide P W .any b0 t v)
  (h:DataW.Trod enc P W 0 (fun _=>true) true t v d p):∃ (l:List Int) (pl:Pl),OX W v l.length 1 (Rl l) pl/\∀ n ∈ l,-9223372036854775808<=n/\n<=9223372036854775807:=by
 obtain ⟨a0,len,f,rfl⟩:=okWide_slice ht hval
 obtain ⟨fuel,hf⟩:=h
 rcases open_ints ht he hc hf with ⟨hcs,-⟩|⟨a,len',cap',zs,hcs,-,hl,hm,hz,-,hcell,hwf⟩
 ·have c:Value.slice a0 len f=Value.slice none 0 0:=by simpa [Value.cells] using hcs
  cases c
  exact ⟨[],⟨0,0,0⟩,⟨by simp,fun m V i hi hρ=>.emptySlice _ _ _ _,rfl,fun h=>absurd rfl h⟩,fun n hn=>by simp at hn⟩
 ·have c:Value.slice a0 len f=Value.slice (some a) len' cap':=by simpa [Value.cells] using hcs
  cases c
  simp only [if_true] at hz
  have r:(zs.take len).length=len:=by rw [eo];omega
  have hm':len<=9223372036854775807:=by unfold maxLen at hm;omega
  by_cases h0:len=0
  ·subst h0
   exact ⟨[],⟨0,0,0⟩,⟨by simp,fun m V i hi hρ=>.emptySlice _ _ _ _,rfl,fun h=>absurd rfl h⟩,fun n hn=>by simp at hn⟩
  ·have h1:=hcell 0 oO
   have ha:a.add 0=a:=by simp [Addr.add]
   rw [ha] at h1
   obtain ⟨hb,hs⟩:=cell_lt h1
   obtain ⟨b,o,sp⟩:=a
   simp only at hb hs
   subst hs
   refine ⟨zs.take len,⟨b,o,0⟩,⟨oO,fun m V i hi hρ=>?_,by simp [Rl],fun _=>⟨hb,fun k hk=>?_⟩⟩,fun n hn=>wf64 (hwf n (List.mem_of_mem_take hn))⟩
   ·rw [r]
    have:=VQ.slice (q:=false) (n:=m) (V:=V) i 0 len len f hl hi
    rw [hρ] at this
    simpa using this
   ·have hk':k<len:=by
     simp only [Rl,cU] at hk
     omega
    have h2:=hcell k oO
    have g:zs.getD k 0=(zs.take len)[k]'oO:=by
     rw [cX,cE,cA oO];rfl
    have j:(⟨b,o,none⟩:Addr).add k=⟨b,o+k,none⟩:=by
     unfold Addr.add
     split
     ·rename_i h;subst h;rfl
     ·rfl
    rw [j,g] at h2
    simpa [Rl] using h2
theorem OX.hro {v:Value} {n size:Nat} {cs:List Value} {pl:Pl} (h:OX W v n size cs pl) (hp:dN cs=true) (V:Rho) (i m:Nat) (hρ:V i=pl) (hne:cs ≠ []) :
  (V i).b<W.heap.size/\∀ (k:Nat) (hk:k<cs.length),∃ v',W.cell? ⟨(V i).b,(V i).o+k,none⟩=some v'/\gJ m V cs[k] v':=by
 rw [hρ]
 obtain ⟨h1,h2⟩:=h.cells hne
 exact ⟨h1,fun k hk=>⟨_,h2 k hk,kZ cs hp k hk⟩⟩
end
end Go.AH
namespace Go.Proofs.YtajpgeklmcjciaaGreat
open Go Go.AH Go.RowKit Go.WideShapes Go.ChangeShapes
set_option maxRecDepth 100000 in
theorem XW {b0:Nat} {H:Type} {enc:TypeId×Value->H} {W:World} {v:Value} {d:DataW H} {p:List MemPlace} (hval:Value.okWide prog W .any b0 25 v) (h:DataW.Trod enc prog W 0 (fun _=>true) true 25 v d p) :
  ∃ s:St,v=s.val/\(-9223372036854775808<=s.long/\s.long<=9223372036854775807)/\(-9223372036854775808<=s.short/\s.short<=9223372036854775807)/\(-9223372036854775808<=s.off/\s.off<=9223372036854775807)/\(-9223372036854775808<=s.lo/\s.lo<=9223372036854775807)/\(-9223372036854775808<=s.hi/\s.hi<=9223372036854775807):=by
 obtain ⟨cs,rfl,g⟩:=okWide_struct Tryz.underlying25 hval
 have i:prog.cellsOf 25=5:=by kernel_rfl
 have c:cs.size=5:=g.trans i
 obtain ⟨l⟩:=cs
 match l,c with
 |[c0,c1,c2,c3,c4],_ =>
  obtain ⟨fuel,hf⟩:=h
  obtain ⟨xs,n,_,_,_,e,hg⟩:=DataW.trod_struct Tryz.underlying25 hf
  match xs,e with
  |[y0,y1,y2,y3],_ =>
   have k2:prog.cellsOf 2=1:=by kernel_rfl
   have k23:prog.cellsOf 23=2:=by kernel_rfl
   have g0:=hg 0 _ rfl
   have g1:=hg 1 _ rfl
   have g2:=hg 2 _ rfl
   have g3:=hg 3 _ rfl
   simp only [Value.cells,List.getElem?_cons_zero,fy] at g0 g1 g2 g3
   obtain ⟨n0,e0,_,w0⟩:=DataW.trod_int Tryz.underlying2 g0
   obtain ⟨n1,e1,_,w1⟩:=DataW.trod_int Tryz.underlying2 g1
   obtain ⟨n2,e2,_,w2⟩:=DataW.trod_int Tryz.underlying2 g2
   obtain ⟨zs,m,_,_,_,a,f⟩:=DataW.trod_struct Tryz.underlying23 g3
   match zs,a with
   |[z0,z1],_ =>
    have q0:=f 0 _ rfl
    have q1:=f 1 _ rfl
    simp only [List.getElem?_cons_zero,fy] at q0 q1
    obtain ⟨n3,e3,_,w3⟩:=DataW.trod_int Tryz.underlying2 q0
    obtain ⟨n4,e4,_,w4⟩:=DataW.trod_int Tryz.underlying2 q1
    cases e0;cases e1;cases e2;cases e3;cases e4
    exact ⟨⟨n0,n1,n2,n3,n4⟩,rfl,wf64 w0,wf64 w1,wf64 w2,wf64 w3,wf64 w4⟩
theorem agF {Q:Nat->Int×Int->Prop} {n:Nat} (h:∀ i<n,∃ p,Q i p):∃ l:List (Int×Int),l.length=n/\∀ i<n,Q i (gp l i):=by
 induction n with
 |zero=>exact ⟨[],rfl,fun i hi=>oO⟩
 |succ n ih =>
  obtain ⟨l,h1,h2⟩:=ih fun i hi=>h i oO
  obtain ⟨p,hp⟩:=h n oO
  refine ⟨l++[p],by simp [h1],fun i hi=>?_⟩
  by_cases a:i<n
  ·have:gp (l++[p]) i=gp l i:=by simp only [gp,cE];rw [bO oO]
   rw [this];exact h2 i a
  ·obtain rfl:i=n:=oO
   have:gp (l++[p]) i=p:=by simp only [gp,cE];rw [bE oO,h1,cM];rfl
   rw [this];exact hp
theorem aeJ {b o k:Nat}:(⟨b,o,none⟩:Addr).add k=⟨b,o+k,none⟩:=by
 unfold Addr.add
 split
 ·rename_i h;subst h;rfl
 ·rfl
set_option maxRecDepth 100000 in
theorem abw {H:Type} {enc:TypeId×Value->H} {W:World} {b0:Nat} {v:Value} {d:DataW H} {p:List MemPlace} (hval:Value.okWide prog W .any b0 27 v) (h:DataW.Trod enc prog W 0 (fun _=>true) true 27 v d p) :
  ∃ (l:List (Int×Int)) (pl:Pl),OX W v l.length 2 (dL l) pl/\∀ i<l.length,(-9223372036854775808<=(gp l i).1/\(gp l i).1<=9223372036854775807)/\-9223372036854775808<=(gp l i).2/\(gp l i).2<=9223372036854775807:=by
 obtain ⟨a0,len,g,rfl⟩:=okWide_slice Tryz.underlying27 hval
 obtain ⟨fuel,hf⟩:=h
 have u:prog.cellsOf 39=2:=by kernel_rfl
 have k2:prog.cellsOf 2=1:=by kernel_rfl
 have k3:prog.cellsOf 3=1:=by kernel_rfl
 have c:∃ (l:List (Int×Int)) (pl:Pl),OX W (.slice a0 0 g) l.length 2 (dL l) pl/\∀ i<l.length,(-9223372036854775808<=(gp l i).1/\(gp l i).1<=9223372036854775807)/\-9223372036854775808<=(gp l i).2/\(gp l i).2<=9223372036854775807 :=
  ⟨[],⟨0,0,0⟩,⟨by simp,fun m V i hi hρ=>.emptySlice _ _ _ _,rfl,fun h=>absurd rfl h⟩,fun n hn=>by simp at hn⟩
 rcases Deep.open_slice Tryz.underlying27 hf with ⟨hcs,-⟩|⟨a,len',cap',m,n,D,Pl,hcs,-,hl,hm,hmm,-,hi⟩
 ·have e:Value.slice a0 len g=Value.slice none 0 0:=by simpa [Value.cells] using hcs
  cases e
  exact c
 ·have e:Value.slice a0 len g=Value.slice (some a) len' cap':=by simpa [Value.cells] using hcs
  cases e
  simp only [if_true] at hmm
  by_cases h0:len=0
  ·subst h0;exact c
  ·have j:∀ i<len,∃ q:Int×Int,(W.cell? (a.add (i*2))=some (.i q.1)/\W.cell? ((a.add (i*2)).add 1)=some (.i q.2))/\(-9223372036854775808<=q.1/\q.1<=9223372036854775807)/\-9223372036854775808<=q.2/\q.2<=9223372036854775807:=fun i w=>by
    obtain ⟨cs,hc,ht⟩:=hi i oO
    rw [u] at hc
    obtain ⟨_,hcl,r⟩:=World.cells?_some hc
    match cs,hcl with
    |[c0,c1],_ =>
     obtain ⟨zs,m',_,_,_,f,s⟩:=DataW.trod_struct Tryz.underlying39 ht
     match zs,f with
     |[z0,z1],_ =>
      have q0:=s 0 _ rfl
      have q1:=s 1 _ rfl
      simp only [k2,k3,List.drop_succ_cons,List.drop_zero,List.take_succ_cons,List.take_zero,List.getElem?_cons_zero,fy] at q0 q1
      obtain ⟨n3,e3,_,w3⟩:=DataW.trod_int Tryz.underlying2 q0
      obtain ⟨n4,e4,_,w4⟩:=DataW.trod_int Tryz.underlying3 q1
      cases e3;cases e4
      have g0:=r 0 oO
      have g1:=r 1 oO
      have ha:(a.add (i*2)).add 0=a.add (i*2):=by simp [Addr.add]
      rw [ha] at g0
      exact ⟨(n3,n4),⟨by simpa using g0,by simpa using g1⟩,wf64 w3,wf64 w4⟩
   obtain ⟨l,x,hq⟩:=agF j
   have h1:=(hq 0 oO).1.1
   have ha:a.add (0*2)=a:=by simp [Addr.add]
   rw [ha] at h1
   obtain ⟨hb,hs⟩:=cell_lt h1
   obtain ⟨b,o,sp⟩:=a
   simp only at hb hs
   subst hs
   have hm':len<=9223372036854775807:=by unfold maxLen at hm;omega
   refine ⟨l,⟨b,o,0⟩,⟨oO,fun m V i hi hρ=>?_,wC l,fun _=>⟨hb,fun k hk=>?_⟩⟩,fun i w=>(hq i oO).2⟩
   ·rw [x]
    have:=VQ.slice (q:=false) (n:=m) (V:=V) i 0 len len g hl hi
    rw [hρ] at this
    simpa using this
   ·rw [wC] at hk
    obtain ⟨g1,g2⟩:=(hq (k / 2) oO).1
    simp only [aeJ] at g1 g2
    rcases Nat.mod_two_eq_zero_or_one k with h2|h2
    ·have ek:k / 2*2=k:=oO
     have:=sS (pl:=l) (i:=k / 2) oO
     rw [ek] at this g1
     have h3:=cA (l:=dL l) (i:=k) (by rw [wC];omega)
     rw [h3] at this
     rw [g1,<- Option.some.inj this]
    ·have ek:k / 2*2+1=k:=oO
     have:=BL (pl:=l) (i:=k / 2) oO
     rw [ek] at this
     have h3:=cA (l:=dL l) (i:=k) (by rw [wC];omega)
     rw [h3] at this
     rw [show o+k=o+k / 2*2+1 from by omega,g2,<- Option.some.inj this]
end Go.Proofs.YtajpgeklmcjciaaGreat
namespace Go.AH
open Go Go.RowKit Go.WideShapes Go.ChangeShapes
section
variable {H:Type} {enc:TypeId×Value->H} {P:Program} {w:World} {base:Nat} {spare:Nat->Bool} {held:Bool}
theorem Ro {t t' t'' t3:TypeId} {v v' v'' v3:Value} {d d' d'' d3:DataW H} {p p' p'' p3:List MemPlace} (h:DataW.Trod enc P w base spare held t v d p) (h':DataW.Trod enc P w base spare held t' v' d' p')
  (h'':DataW.Trod enc P w base spare held t'' v'' d'' p'') (h3:DataW.Trod enc P w base spare held t3 v3 d3 p3):DataW.TrodAll enc P w base spare held [t,t',t'',t3] [v,v',v'',v3] [d,d',d'',d3] (p++(p'++(p''++p3))):=⟨p,p'++(p''++p3),h,trodAll_mk3 h' h'' h3,rfl⟩
end
section
variable {H:Type} {enc:TypeId×Value->H} {P:Program} {W:World}
end
section
variable {H:Type} {enc:TypeId×Value->H} {P:Program} {w:World} {base:Nat} {spare:Nat->Bool} {held:Bool}
theorem Rt {t t' t'' t3 t4:TypeId} {v v' v'' v3 v4:Value} {d d' d'' d3 d4:DataW H} {p p' p'' p3 p4:List MemPlace} (h:DataW.Trod enc P w base spare held t v d p) (h':DataW.Trod enc P w base spare held t' v' d' p')
  (h'':DataW.Trod enc P w base spare held t'' v'' d'' p'') (h3:DataW.Trod enc P w base spare held t3 v3 d3 p3) (h4:DataW.Trod enc P w base spare held t4 v4 d4 p4):DataW.TrodAll enc P w base spare held [t,t',t'',t3,t4] [v,v',v'',v3,v4] [d,d',d'',d3,d4] (p++(p'++(p''++(p3++p4)))):=⟨p,p'++(p''++(p3++p4)),h,Ro h' h'' h3 h4,rfl⟩
end
section
variable {H:Type} {enc:TypeId×Value->H} {P:Program} {w:World} {base:Nat} {spare:Nat->Bool} {held:Bool}
theorem XY {t0 t1 t2 t3 t4 t5:TypeId} {args:Array Value} {ds:List (DataW H)} {ps:List MemPlace} (h:DataW.TrodAll enc P w base spare held [t0,t1,t2,t3,t4,t5] args.toList ds ps) :
  ∃ v0 v1 v2 v3 v4 v5 d0 d1 d2 d3 d4 d5 p0 p1 p2 p3 p4 p5,args=#[v0,v1,v2,v3,v4,v5]/\ds=[d0,d1,d2,d3,d4,d5]/\ps=p0++p1++p2++p3++p4++p5/\DataW.Trod enc P w base spare held t0 v0 d0 p0/\DataW.Trod enc P w base spare held t1 v1 d1 p1/\DataW.Trod enc P w base spare held t2 v2 d2 p2 /\
   DataW.Trod enc P w base spare held t3 v3 d3 p3/\DataW.Trod enc P w base spare held t4 v4 d4 p4/\DataW.Trod enc P w base spare held t5 v5 d5 p5:=by
 obtain ⟨v,vs,d,ds',p,q,hargs,rfl,rfl,hd,i⟩:=trodAll_cons h
 obtain ⟨v',vs',d',ds'',p',q',rfl,rfl,rfl,u,c⟩:=trodAll_cons i
 obtain ⟨y,vs'',r,ds''',o,q'',rfl,rfl,rfl,j,a⟩:=trodAll_cons c
 obtain ⟨v3,vs3,d3,ds3,p3,q3,rfl,rfl,rfl,s,f⟩:=trodAll_cons a
 obtain ⟨v4,vs4,d4,ds4,p4,q4,rfl,rfl,rfl,m,g⟩:=trodAll_cons f
 obtain ⟨v5,vs5,d5,ds5,p5,q5,rfl,rfl,rfl,x,e⟩:=trodAll_cons g
 obtain ⟨rfl,rfl,rfl⟩:=trodAll_nil e
 exact ⟨v,v',y,v3,v4,v5,d,d',r,d3,d4,d5,p,p',o,p3,p4,p5,by cases args;simp_all,rfl,by simp,hd,u,j,s,m,x⟩
theorem Ru {t t' t'' t3 t4 t5:TypeId} {v v' v'' v3 v4 v5:Value} {d d' d'' d3 d4 d5:DataW H} {p p' p'' p3 p4 p5:List MemPlace} (h:DataW.Trod enc P w base spare held t v d p) (h':DataW.Trod enc P w base spare held t' v' d' p')
  (h'':DataW.Trod enc P w base spare held t'' v'' d'' p'') (h3:DataW.Trod enc P w base spare held t3 v3 d3 p3) (h4:DataW.Trod enc P w base spare held t4 v4 d4 p4) (h5:DataW.Trod enc P w base spare held t5 v5 d5 p5) :
  DataW.TrodAll enc P w base spare held [t,t',t'',t3,t4,t5] [v,v',v'',v3,v4,v5] [d,d',d'',d3,d4,d5] (p++(p'++(p''++(p3++(p4++p5))))):=⟨p,p'++(p''++(p3++(p4++p5))),h,Rt h' h'' h3 h4 h5,rfl⟩
end
section
variable {H:Type} {enc:TypeId×Value->H} {P:Program} {W:World}
end
section
variable {H:Type} {enc:TypeId×Value->H} {P:Program} {W:World}
theorem XZ {k:IntKind} {b0:Nat} {t e:TypeId} {v:Value} {d:DataW H} {p:List MemPlace} (ht:P.underlying t=some (.slice e)) (he:P.underlying e=some (.int k)) (hc:P.cellsOf e=1) (hval:Value.okWide P W .any b0 t v)
  (h:DataW.Trod enc P W 0 (fun _=>true) true t v d p):∃ (l:List Int) (pl:Pl),OX W v l.length 1 (yJ k l) pl/\∀ n ∈ l,Lit.wf (.int k n)=true:=by
 obtain ⟨a0,len,f,rfl⟩:=okWide_slice ht hval
 obtain ⟨fuel,hf⟩:=h
 rcases open_ints ht he hc hf with ⟨hcs,-⟩|⟨a,len',cap',zs,hcs,-,hl,hm,hz,-,hcell,hwf⟩
 ·have c:Value.slice a0 len f=Value.slice none 0 0:=by simpa [Value.cells] using hcs
  cases c
  exact ⟨[],⟨0,0,0⟩,⟨by simp,fun m V i hi hρ=>.emptySlice _ _ _ _,rfl,fun h=>absurd rfl h⟩,fun n hn=>by simp at hn⟩
 ·have c:Value.slice a0 len f=Value.slice (some a) len' cap':=by simpa [Value.cells] using hcs
  cases c
  simp only [if_true] at hz
  have s:(zs.take len).length=len:=by rw [eo];omega
  have hm':len<=9223372036854775807:=by unfold maxLen at hm;omega
  by_cases h0:len=0
  ·subst h0
   exact ⟨[],⟨0,0,0⟩,⟨by simp,fun m V i hi hρ=>.emptySlice _ _ _ _,rfl,fun h=>absurd rfl h⟩,fun n hn=>by simp at hn⟩
  ·have h1:=hcell 0 oO
   have ha:a.add 0=a:=by simp [Addr.add]
   rw [ha] at h1
   obtain ⟨hb,hs⟩:=cell_lt h1
   obtain ⟨b,o,sp⟩:=a
   simp only at hb hs
   subst hs
   refine ⟨zs.take len,⟨b,o,0⟩,⟨oO,fun m V i hi hρ=>?_,by simp [yJ],fun _=>⟨hb,fun j hk=>?_⟩⟩,fun n hn=>hwf n (List.mem_of_mem_take hn)⟩
   ·rw [s]
    have:=VQ.slice (q:=false) (n:=m) (V:=V) i 0 len len f hl hi
    rw [hρ] at this
    simpa using this
   ·have hk':j<len:=by
     simp only [yJ,cU] at hk
     omega
    have h2:=hcell j oO
    have g:zs.getD j 0=(zs.take len)[j]'oO:=by
     rw [cX,cE,cA oO];rfl
    have r:(⟨b,o,none⟩:Addr).add j=⟨b,o+j,none⟩:=by
     unfold Addr.add
     split
     ·rename_i h;subst h;rfl
     ·rfl
    rw [r,g] at h2
    simpa [yJ] using h2
theorem ajd {Q:Int->Prop} {l:List Int} (h:∀ n ∈ l,Q n) (h0:Q 0) (i:Nat):Q (gi l i):=by
 unfold gi
 rw [cE]
 by_cases hi:i<l.length
 ·rw [cA hi];exact h _ (cP _)
 ·rw [di oO];exact h0
theorem aeK {b0:Nat} {t:TypeId} {v:Value} {d:DataW H} {p:List MemPlace} (ht:P.underlying t=some (.int .u16)) (hval:Value.okWide P W .any b0 t v)
  (h:DataW.Trod enc P W 0 (fun _=>true) true t v d p):∃ n:Int,v=.int .u16 n/\0<=n/\n<=65535:=by
 obtain ⟨n,rfl,_,_,wn⟩:=open_int ht hval h
 simp only [Lit.wf,aE,decide_eq_true_eq] at wn
 exact ⟨n,rfl,wn⟩
end
end Go.AH
