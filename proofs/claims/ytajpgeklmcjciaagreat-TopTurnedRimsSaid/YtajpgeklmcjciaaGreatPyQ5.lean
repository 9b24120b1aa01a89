/- Lemmas. No conditions. -/
import Derived.Test.YtajpgeklmcjciaaGreatPyQ4
import Derived.Test.YtajpgeklmcjciaaGreatPyQ3
import Derived.Test.YtajpgeklmcjciaaGreatPyMJ
import Derived.Test.YtajpgeklmcjciaaGreatPyQ1
import Derived.Test.YtajpgeklmcjciaaGreatPyQ2
set_option maxRecDepth 100000
set_option maxHeartbeats 8000000
open Go.Proofs.Tryz
open Go Go.AH
namespace Go.AH.Warp
def Hy (K:List Int):Value:=.tuple (if K=[] then #[.agg #[.int .i64 0,.int .i64 0],.int .i64 18] else #[.agg #[.int .i64 (gi K 0),.int .i64 (gi K (K.length - 1))],.int .i64 0])
end Go.AH.Warp
namespace Go.Proofs.YtajpgeklmcjciaaGreat
attribute [local irreducible] dA bJ bK jh fQ dK eH bY eu aW dR dW
open Go.AH.Heat Go.AH.Warp
theorem adZ {H:Heap} {fb:Nat} {g:FuncId} [GoFn prog g] {p q:List Value} {x:Int} {r:Bool} (hbox:H[fb]?=some (.rw [.func (.func g) p.toArray q.toArray])) (hc:Ev prog g (p++[.i x]++q) H (.bool r) H) :
  Ev prog 222 [.i x,.p fb] H (.bool (!r)) H:=by
 refine aH H.length 8 func222 (h:=?_)
 have a0:=hbox
 repeat' (first|refine sCm ?_|(refine gU ?_;first|(refine cO ?_;refine st (aJ rfl (by exact aF a0)) rfl rfl ?_)|(refine rW ?_;refine st (iV rfl) rfl rfl ?_)|(refine dV ?_;refine st (bC rfl rfl rfl (by exact hc)) rfl rfl ?_))|refine aG ?_)
 exact dG (.tmp rfl .nil) .all ⟨rfl,rfl⟩
theorem Xz {A B:Prop} (k:B) (h:Hide B->A:=by intro z_;(repeat' (first|refine sCm ?_|(refine gU ?_;first|refine sK7 ?_|(refine dV ?_;refine st (bC rfl rfl rfl (by exact hf1)) rfl rfl ?_)|(refine gZ ?_;refine stN (bW rfl rfl rfl rfl (by exact hput _ _)) rfl ?_))|(refine fU ?_;first|refine nH ?_;refine frA (dY rfl) rfl ?_ hcls|refine fIA ?_;refine frA (pJ rfl rfl (by omega) (by omega)) rfl ?_ hclp|refine eU ?_;refine frA (aJ rfl (by exact hq0 _)) rfl ?_ rfl|refine eU ?_;refine frA (aJ rfl (by exact hq1 _)) rfl ?_ rfl|refine Iz ?_|(refine Sj ?_;refine fr (lY rfl) (by rfl) rfl ?_)|(refine JC ?_;refine fr (pV (by rfl) rfl (by rfl)) (by rfl) rfl ?_))|(refine fP ⟨by kernel_rfl,?_⟩)|refine bU (id:=2) ?_|refine aG ?_));exact z_.h):A:=h ⟨k⟩
theorem agb {U:Heap} {b n c:Nat} {L:List Int} {g:FuncId} [GoFn prog g] {p q:List Value} {G:Int->Bool} (hL:L.length=n) (hnc:n<=c) (hn2:n<=1000) (hb:U[b]?=some (.rw (ints L)))
  (hcall:∀ H,Frm U b H->∀ x ∈ L,Ev prog g (p++[.i x]++q) H (.bool (G x)) H) :
  Ev prog 113 [.s b n c,.func (.func g) p.toArray q.toArray] U (Hy (L.filter G)) (U.set b (.rw (ints (L.filter G++List.replicate (n - (L.filter G).length) 0)))):=by
 refine aH U.length 23 func113 (h:=?_)
 have z:=aS hb
 have d:∀ H,Frm (U++[aC.rw [.func (.func g) p.toArray q.toArray]]++[aC.rw [.i 0,.i 0]]) b H->Frm U b H/\H[U.length]?=some (.rw [.func (.func g) p.toArray q.toArray]):=fun H h=>by
  refine ⟨⟨by have:=h.1;simp at this;omega,fun i hi E=>?_⟩,?_⟩
  ·rw [h.2 i (by simp;omega) E,cD,bO hi]
  ·rw [h.2 U.length oS oO];exact aA aN
 have w:=aaT (fun x=>!G x) L
 have j:rP (fun x=>!G x) L=L.filter G:=congrArg (fun f=>L.filter f) (funext fun x=>Bool.not_not (G x))
 have hf1:=ait (U:=U++[aC.rw [.func (.func g) p.toArray q.toArray]]++[aC.rw [.i 0,.i 0]]) (p:=[]) (q:=[.p U.length]) (f:=222) (D:=fun x=>!G x) hL hnc hn2 (aA (aA hb)) (fun H hH x hx=>adZ (d H hH).2 (hcall H (d H hH).1 x hx))
 rw [j] at hf1 w
 refine Xz ?_
 generalize L.filter G=K at hf1 w ⊢
 obtain ⟨H,hH⟩:=xy ((U++[aC.rw [.func (.func g) p.toArray q.toArray]]++[aC.rw [.i 0,.i 0]]).set b (.rw (ints (K++List.replicate (n - K.length) 0))))
 refine .mk (dB [(0,.s b K.length c),(4,.p (U.length+1)),(5,.i 0)] H hH.symm ⟨rfl,(by refine congrArg (fun n=>some (Value.p n)) ?_;simp),rfl,trivial⟩ ?_)
 have r:H=U.set b (.rw (ints (K++List.replicate (n - K.length) 0)))++[aC.rw [.func (.func g) p.toArray q.toArray],aC.rw [.i 0,.i 0]]:=by
  rw [hH,cD,cI _ _ z];rfl
 have e:∀ (v:Value) (cs:List Value),AH.plain v=true->aW U (H.set (U.length+1) (.rw cs)) v v (U.set b (.rw (ints (K++List.replicate (n - K.length) 0)))):=fun v cs hv=>by
  have:=aW.upd (U:=U) (i:=b) (cs:=ints L) (cs':=ints (K++List.replicate (n - K.length) 0)) (x:=[aC.rw [.func (.func g) p.toArray q.toArray],aC.rw cs]) (v:=v) (aZ _) z hv
  rw [set_self hb] at this
  rw [r,fq _ _ oS]
  simpa using this
 have m:H[U.length+1]?=some (.rw [.i 0,.i 0]):=by rw [hH,eE oO];exact bP oS
 have hput:∀ u v,putCells H (U.length+1) 0 [u,v]=some (H.set (U.length+1) (.rw [u,v])):=fun u v=>fF m oS oS rfl
 have a:∀ (i:Nat),i<K.length->∀ X:Heap,aI (H++X) b i=some (.i (gi K i)):=fun i hi X=>by
  have C:(H++X)[b]?=some (.rw (ints (K++List.replicate (n - K.length) 0))):=by rw [r];exact aA (aA (aQ hb))
  rw [aF C,iF (by simp;omega)]
  simp [gi,cE,bO hi]
 clear hf1 d
 apply aG
 repeat' (first|refine sCm ?_|(refine gU ?_;first|refine sK0 ?_|refine FP ?_|(refine gZ ?_;refine stN (bW rfl rfl rfl rfl (by exact hput _ _)) rfl ?_))|refine bU (id:=4) ?_|refine aG ?_|(refine jm rfl ?_ ?_ <;> intro _))
 ·have t:K=[]:=List.eq_nil_of_length_eq_zero oO
  refine dG (.cellN inferInstance rfl (aV (aQ m) rfl) (.tmp rfl .nil)) (e _ _ rfl) ⟨?_,rfl⟩
  unfold Hy;rw [if_pos t];rfl
 ·refine .mk (dB [(0,.s b K.length c),(4,.p (U.length+1)),(5,.i 0)] H rfl tE ?_)
  have y:b<H.length/\U.length+1<H.length:=⟨by rw [r];simp;omega,aS m⟩
  have hq0:=a 0 oO
  have hq1:∀ X:Heap,aI (H++X) b (0+((K.length:Int) - 1).toNat*1)=some (.i (gi K (K.length - 1))):=fun X=>by rw [show 0+((K.length:Int) - 1).toNat*1=K.length - 1 by omega];exact a _ oO X
  have hcls:closed H.length (.s b K.length c)=true:=cZ (Nat.blt_eq.mpr y.1)
  have hclp:∀ {o:Nat},closed H.length (.pointer (some ⟨b,o,none⟩))=true:=fun {o}=>Nat.blt_eq.mpr y.1
  have t:K ≠ []:=fun h=>by subst h;simp at *
  refine eY oK rfl ?_
  refine Xz ?_
  rw [show H++gV (fun _=>true) []=H from bN H]
  refine Xz ?_
  refine dG (.cellN inferInstance rfl (aV (aQ m) rfl) (.tmp rfl .nil)) (e _ _ rfl) ⟨?_,rfl⟩
  unfold Hy;rw [if_neg t];rfl
theorem ad1 {A B:Prop} (k:B) (h:Hide B->A:=by intro z_;(repeat' (first|(refine gU ?_;first|refine MF ?_|refine MG ?_|(refine cO ?_;refine st (aJ rfl (by exact hc1)) rfl rfl ?_)|refine sK9 ?_|refine sK0 ?_|(refine lM ?_;first|refine st (kC rfl (by exact fE (by assumption)) rfl) rfl rfl ?_|refine st (je rfl (by exact bM (by assumption)) rfl) rfl rfl ?_)|(refine gIA ?_;refine st (ng rfl rfl (by omega) (by omega)) rfl rfl ?_))|(refine gG ?_;first|(refine wK ?_;refine stG rfl (by exact fE (by assumption)) (dY rfl) rfl rfl ?_)|(refine cO ?_;refine stG rfl (by exact fE (by assumption)) (aJ rfl (by exact hc2)) rfl rfl ?_)|(refine Fh ?_;refine stG rfl (by exact fE (by assumption)) (uY rfl rfl (by omega) (by omega)) rfl rfl ?_)|(refine yS ?_;refine stG rfl (by exact fE (by assumption)) (iU rfl rfl rfl) rfl rfl ?_)|(refine gIA ?_;refine stG rfl (by exact fE (by assumption)) (ng rfl rfl (by omega) (by omega)) rfl rfl ?_)|refine stS rfl (by exact bM (by assumption)) rfl ?_)|refine uq ?_|refine aG ?_|refine kU ?_|refine rG ?_|refine DL ?_));exact z_.h):A:=h ⟨k⟩
theorem aaY {H:Heap} {u v:Nat} {R S:Nat->Int} {x:Int} (hu:H[u]?=some (.rw (ints (dw R)))) (hw:H[v]?=some (.rw (ints (dw S)))) (hx:-200<=x/\x<=200) :
  Ev prog 115 [.i x,.p u,.p v] H (.bool (decide (R (x+200).toNat<nev) && decide (S (x+200).toNat<nev))) H:=by
 refine aH H.length 17 func115 (h:=?_)
 have hc1:aI H u (0+(x+200).toNat*1)=some (.i (R (x+200).toNat)):=by rw [aR,cH,aF hu,iF (by rw [dQ];omega),rE oO]
 have hc2:aI H v (0+(x+200).toNat*1)=some (.i (S (x+200).toNat)):=by rw [aR,cH,aF hw,iF (by rw [dQ];omega),rE oO]
 by_cases h1:R (x+200).toNat<1099511627776
 ·refine ad1 ?_
  refine dG (.tmp rfl .nil) .all ⟨?_,rfl⟩
  simp only [jH,nev]
  rw [decide_eq_true h1,Bool.true_and]
 ·refine ad1 ?_
  refine dG (.tmp rfl .nil) .all ⟨?_,rfl⟩
  simp only [jH,nev]
  rw [decide_eq_false h1,Bool.false_and]
theorem Lu {A B:Prop} (k:B) (h:Hide B->A:=by intro z_;(repeat' (first|refine sCm ?_|(refine gU ?_;first|(refine cO ?_;refine st (bG rfl (by exact aV a0 rfl)) rfl rfl ?_)|refine sK0 ?_|refine sK7 ?_|(refine dV ?_;refine st (bC rfl rfl rfl (by first|exact hf1|exact hf2|exact hf3|exact hf4)) rfl rfl ?_)|(refine gZ ?_;refine stN (bW rfl rfl rfl rfl (by exact hput3 _ _ _)) rfl ?_))|refine bU (id:=4) ?_|refine bU (id:=5) ?_|refine aG ?_|refine lg rfl (by rfl) ?_));exact z_.h):A:=h ⟨k⟩
theorem aaZ {U:Heap} {B:Bld} {sb cS i:Nat} (hv:mJ B) (hS:kQ U B sb) (hi:i<B.n) (hni:Ni U) :
  Ev prog 53 [.agg #[.s sb B.n cS,.i B.most],.i (i:Nat)] U (Hy ((numsL (-200) 401).filter fun x=>decide (iJ B.b (i+1) (x+200).toNat<nev) && decide (iw B.b (B.n - (i+1)) (x+200).toNat<nev))) U:=by
 refine aH U.length 34 func53 (h:=?_)
 have a0:(U++[aC.rw [.s sb B.n cS,.i B.most]]++[aC.rw [.i 0,.i 0]])[U.length]?=some (.rw [.s sb B.n cS,.i B.most]):=aA aN
 have hn20:=hv.n
 have z:kQ (U++[aC.rw [.s sb B.n cS,.i B.most]]++[aC.rw [.i 0,.i 0]]) B sb:=⟨fun j hj=>by have h4:=hS.st j hj;rw [cD,jl (dS h4)];exact h4⟩
 have hf1:=ais (cS:=cS) hv z hi (aX (aX hni rfl) rfl)
 refine Lu ?_
 obtain ⟨H0,r⟩:=xy (U++[aC.rw [.s sb B.n cS,.i B.most]]++[aC.rw [.i 0,.i 0]])
 have f:H0.length=U.length+2:=by rw [r];simp
 rw [<- r] at a0 z hf1 ⊢
 obtain ⟨H1,m⟩:=xy (H0++[aC.rw (B.cs sb cS (H0.length+1) (B.n+1)),aC.rw (rgC B.tu (B.n+1))])
 refine .mk (dB [(1,.i (i:Nat)),(4,.p (U.length+1)),(6,.p (U.length+2))] H1 m.symm ⟨rfl,(by (refine congrArg (fun n=>some (Value.p n)) ?_;simp;try omega)),(by rw [<- f];rfl),trivial⟩ ?_)
 have hp1:H1.take U.length=U:=by rw [m,r];simp
 have E:Ni H1:=by rw [m,r];exact aX (aX (aX hni rfl) rfl) rfl
 have O:H1[U.length+1]?=some (.rw [.i 0,.i 0]):=by rw [m,r];exact aA (bP oS)
 have I:iY H1 B (U.length+2) sb cS (U.length+3) (B.n+1):=by
  rw [m,<- f,show U.length+3=H0.length+1 by omega];exact EM z
 clear hf1 a0 z m r f
 clear H0
 have hf1:=QE (sn:=i+1) hv I oO
 have hf2:=Jc (sn:=i+1) hv I oO
 generalize hR:iJ B.b (i+1)=R at hf1 ⊢
 generalize hS:iw B.b (B.n - (i+1))=S at hf2 ⊢
 obtain ⟨cR,w⟩:=xy (ints (dw R))
 obtain ⟨e,y⟩:=xy (ints (dw S))
 have D:cR.length=401:=by rw [w,bQ,dQ]
 have C:e.length=401:=by rw [y,bQ,dQ]
 have P:cR.all (·.oneCell')=true:=by rw [w];exact jD _
 have N:e.all (·.oneCell')=true:=by rw [y];exact jD _
 rw [<- w] at hf1
 rw [<- y] at hf2
 have d:putCells (H1++[aC.rw (List.replicate 401 (.i 0))]++[aC.rw (List.replicate 401 (.i 0))]) H1.length 0 cR=some (H1++[aC.rw cR]++[aC.rw (List.replicate 401 (.i 0))]):=by
  rw [fF (cs:=List.replicate 401 (.i 0)) (cs':=cR) oS (by rw [D];simp) oS (by simp [splice,D])]
  simp
 have hput2:putCells (H1++[aC.rw cR]++[aC.rw (List.replicate 401 (.i 0))]) (H1++[aC.rw (List.replicate 401 (.i 0))]).length 0 e=some (H1++[aC.rw cR]++[aC.rw e]):=by
  rw [fF (cs:=List.replicate 401 (.i 0)) (cs':=e) (bP oS) (by rw [C];simp) oS (by simp [splice,C])]
  rw [fq _ _ oS]
  simp
 apply aG
 refine Lu ?_
 refine stN (bW (size:=401) rfl rfl (by exact D) (by exact P) (by exact d)) rfl ?_
 refine stN (bW (size:=401) rfl rfl (by exact C) (by exact N) (by exact hput2)) rfl ?_
 refine Lu ?_
 obtain ⟨H2,t⟩:=xy (H1++[aC.rw cR]++[aC.rw e])
 refine .mk (dB [(4,.p (U.length+1)),(6,.p (U.length+2)),(8,.p H1.length),(9,.p (H1.length+1))] H2 t.symm ⟨rfl,rfl,rfl,(by (refine congrArg (fun n=>some (Value.p n)) ?_;simp;try omega)),trivial⟩ ?_)
 have hp2:H2.take U.length=U:=by rw [t];exact aP (aP hp1)
 have Q:H2[U.length+1]?=some (.rw [.i 0,.i 0]):=by rw [t];exact aA (aA O)
 have F:H2[H1.length]?=some (.rw (ints (dw R))):=by rw [t,w];exact aA aN
 have M:H2[H1.length+1]?=some (.rw (ints (dw S))):=by rw [t,y];exact bP oS
 generalize H1.length=u at F M ⊢
 clear d hput2 P N D C hf1 hf2 w y I O E hp1 t
 have hf3:=adJ (U:=H2) (v:=.p (U.length+2))
 have T:∀ x ∈ numsL (-200) 401,-200<=x/\x<=200:=fun x hx=>by
  unfold numsL at hx
  obtain ⟨j,hj,rfl⟩:=List.mem_map.1 hx
  have:=List.mem_range.1 hj
  omega
 have hu0:=aS F
 have hw0:=aS M
 have hf4:=agb (U:=H2++[.rw (ints (numsL (-200) 401))]) (b:=H2.length) (n:=401) (c:=401) (L:=numsL (-200) 401) (g:=115) (p:=[]) (q:=[.p u,.p (u+1)]) (G:=fun x=>decide (R (x+200).toNat<nev) && decide (S (x+200).toNat<nev))
  (Gm _ _) (aD _) oO aN (fun H hH x hx=>aaY (R:=R) (S:=S) ((hH.2 u (by simp;omega) oO).trans (aA F)) ((hH.2 (u+1) (by simp;omega) oO).trans (aA M)) (T x hx))
 generalize (numsL (-200) 401).filter (fun x=>decide (R (x+200).toNat<nev) && decide (S (x+200).toNat<nev))=K at hf4 ⊢
 rw [fq _ _ (aD _),cM,List.set_cons_zero] at hf4
 have J:∀ X,(H2++X)[U.length+1]?=some (.rw [.i 0,.i 0]):=fun X=>aA Q
 have hput3:∀ X a b,putCells (H2++X) (U.length+1) 0 [a,b]=some ((H2++X).set (U.length+1) (.rw [a,b])):=fun X a b=>fF (J X) oS oS rfl
 unfold Hy at hf4 ⊢
 apply aG
 by_cases hK:K=[]
 ·rw [if_pos hK] at hf4 ⊢
  refine Lu ?_
  exact dG (v2:=.tuple #[.agg #[.i 0,.i 0],.i 18]) (.cellN inferInstance rfl (aV (aQ (J _)) rfl) (.tmp rfl .nil)) (aW.plain (take_set (aP hp2) oO) rfl) ⟨rfl,rfl⟩
 ·rw [if_neg hK] at hf4 ⊢
  refine Lu ?_
  exact dG (v2:=.tuple #[.agg #[.i (gi K 0),.i (gi K (K.length - 1))],.i 0]) (.cellN inferInstance rfl (aV (aQ (J _)) rfl) (.tmp rfl .nil)) (aW.plain (take_set (aP hp2) oO) rfl) ⟨rfl,rfl⟩
end Go.Proofs.YtajpgeklmcjciaaGreat
namespace Go.AH.Warp
open Go Go.AH Go.AH.Heat
def yH (g:Nat->Nat->Int):Nat->List Value
 |0=>[]
 |k+1=>yH g k++ints (dw (g k))
theorem Gv (g:Nat->Nat->Int):∀ k,(yH g k).length=k*401
 |0=>rfl
 |k+1=>by rw [yH,bA,Gv g k,bQ,dQ];omega
theorem Gw {g:Nat->Nat->Int}:∀ {k i j:Nat},i<k->j<401->(yH g k)[i*401+j]?=some (.i (g i j))
 |0,i,j,h,_=>by omega
 |k+1,i,j,h,hj=>by
  have hl:=Gv g k
  rw [yH]
  by_cases hi:i<k
  ·rw [bO oO];exact Gw hi hj
  ·obtain rfl:i=k:=oO
   rw [bE oO,hl,show i*401+j - i*401=j by omega,iF (by rw [dQ];exact hj),rE hj]
end Go.AH.Warp
namespace Go.Proofs.YtajpgeklmcjciaaGreat
attribute [local irreducible] dA bJ bK jh fQ dK eH bY eu aW dR dW
open Go.AH.Heat Go.AH.Warp
theorem QM {A B:Prop} (k:B) (h:Hide B->A:=by intro z_;(repeat' (first|refine sCm ?_|(refine gU ?_;first|refine st (Bh (l:=1) rfl rfl (by omega) (by omega)) rfl rfl ?_|(refine cO ?_;refine st (aJ rfl (by first|exact hd1|exact hd0)) rfl rfl ?_)|refine sK0 ?_|(refine gIA ?_;first|refine st (iE rfl rfl (by omega)) rfl rfl ?_|refine st (pJ rfl rfl (by omega) (by omega)) rfl rfl ?_)|(refine dV ?_;refine st (bC rfl rfl rfl (by first|exact hc1|exact hc2)) rfl rfl ?_))|refine aG ?_|refine sK2 ?_|refine sK1 ?_|fail));exact z_.h):A:=h ⟨k⟩
theorem aa0 {U:Heap} {xb n c:Nat} {lo:Int} {F:Int->Int} {g:FuncId} [GoFn prog g] {p q:List Value} (hx:∀ i≤n,aI U xb i=some (.i (lo+(i:Nat)))) (hc:n+1<=c) (hn:n<=1000)
  (hcall:∀ x,lo<=x->x<=lo+n->Ev prog g (p++[.i x]++q) U (.i (F x)) U) :
  Ev prog 178 [.s xb (n+1) c,.func (.func g) p.toArray q.toArray] U (.i (lst F lo n)) U:=by
 refine aH U.length 28 func178 (h:=?_)
 have hd0:aI U xb 0=some (.i lo):=by have:=hx 0 (bL _);simpa using this
 have hn1:(1:Int)<=((n+1:Nat):Int):=oO
 refine QM ?_
 refine dO (ι:=Nat) (fun k=>[(1,.func (.func g) p.toArray q.toArray),(5,.i (lst F lo k)),(12,.slice (some ⟨xb,1,none⟩) n (c - 1)),(13,.i (n:Nat)),(14,.i (k:Nat))])
  (fun k mk H=>k<=n/\mk=[]/\U=H) (fun k=>n - k) 0 tE ⟨bL _,rfl,rfl⟩ ?_
 rintro k mk H ⟨hk,rfl,rfl⟩
 by_cases a:k<n
 ·have e:(k:Int)<(n:Nat):=oO
  have hd1:aI U xb (1+k*1)=some (.i (lo+((k+1:Nat):Int))):=by rw [cH,eW];exact hx (k+1) oO
  have hl:=Qx F lo k
  have hc1:=hcall (lo+((k+1:Nat):Int)) oO oO
  have hc2:=hcall (lst F lo k) oO oO
  by_cases d:F (lo+((k+1:Nat):Int))<F (lst F lo k)
  ·refine QM ?_
   exact ⟨k+1,⟨a,rfl,rfl⟩,oO,⟨rfl,congrArg (fun x=>some (Value.i x)) (by simp only [lst];rw [if_pos d]),rfl,rfl,rfl,trivial⟩⟩
  ·refine QM ?_
   exact ⟨k+1,⟨a,rfl,rfl⟩,oO,⟨rfl,congrArg (fun x=>some (Value.i x)) (by simp only [lst];rw [if_neg d]),rfl,rfl,rfl,trivial⟩⟩
 ·obtain rfl:k=n:=oO
  have e:¬ ((k:Nat):Int)<(k:Nat):=oO
  refine QM ?_
  exact dG (.tmp rfl .nil) .all ⟨rfl,rfl⟩
theorem ad2 {U:Heap} {B:Bld} {nb sb cS tb cT rb ob xb gb i:Nat} {t:TypeId} {f x:Int} (hv:mJ B) (hB:iY U B nb sb cS tb cT) (hi:i<B.n) (hf:-200<=f/\f<=200) (hx:-200<=x/\x<=200)
  (hr:U[rb]?=some (.rw [eP gb 401 (B.n+1)])) (hg:U[gb]?=some (.gr (yH (fun k=>iw B.b (B.n - k)) (B.n+1)) t)) (ha:U[ob]?=some (.rw [.i (i:Nat),.i f])) (hxb:U[xb]?=some (.rw [.p nb])) :
  Ev prog 179 [.i x,.p rb,.p ob,.p xb] U (.i (B.b.zN i f x)) U:=by
 refine aH U.length 24 func179 (h:=?_)
 have hn20:=hv.n
 have hrl:=aS hr
 have hgl:=aS hg
 have hal:=aS ha
 have hxl:=aS hxb
 have hnl:=aS hB.nb
 have hcl:∀ {q o:Nat},q < U.length->closed U.length (.pointer (some ⟨q,o,none⟩))=true:=fun {q o} h=>Nat.blt_eq.mpr h
 have c:Nat.blt gb U.length=true:=Nat.blt_eq.mpr hgl
 have hq1:∀ X,aI (U++X) rb 0=some (eP gb 401 (B.n+1)):=fun X=>aF (aA hr)
 have hq2:∀ X,aI (U++X) ob (0+0)=some (.i (i:Nat)):=fun X=>aF (aA ha)
 have hq3:∀ X,aI (U++X) ob (0+1)=some (.i f):=fun X=>aF (aA ha)
 have hq4:∀ X,aI (U++X) xb 0=some (.p nb):=fun X=>aF (aA hxb)
 have hq5:∀ X,aI (U++X) gb (((i:Int)+1).toNat*401+(x+200).toNat*1)=some (.i (B.b.vt (B.n - (i+1)) x)):=fun X=>by
  rw [KC (aA hg),show ((i:Int)+1).toNat=i+1 by omega,cH,Gw oO oO]
  unfold iw
  rw [show (((x+200).toNat:Nat):Int) - 200=x by omega]
 have hfa:=fun X=>QA (U:=U++X) (i:=i) (d:=x - f) hv hB.app hi oO
 have e:=(B.b.KZ hv.ok (B.n - (i+1)) (by show _<=B.n;omega) x)
 have a:0<=B.b.vt (B.n - (i+1)) x/\B.b.vt (B.n - (i+1)) x<=1099511627776:=e
 have g:0<=B.hard i*ab (x - f)/\B.hard i*ab (x - f)<=9000:=by
  have h1:=hv.st i hi
  have h0:0<=ab (x - f)/\ab (x - f)<=1000:=by unfold ab;omega
  refine ⟨dl oO h0.1,?_⟩
  exact Int.le_trans (eT (by omega:B.hard i<=9) h0.2 h0.1 oO) oO
 have j:B.b.zN i f x=B.b.vt (B.n - (i+1)) x+B.hard i*ab (x - f):=rfl
 rw [j]
 generalize B.b.vt (B.n - (i+1)) x=vg at hq5 a ⊢
 generalize B.hard i*ab (x - f)=co at hfa g ⊢
 have hi1:(i:Int)+1<((B.n+1:Nat):Int):=oO
 repeat' (first|refine sCm ?_|(refine fU ?_;first|refine nH ?_;refine frA (dY rfl) rfl ?_ rfl|refine fFA ?_;refine frA (bD rfl) rfl ?_ (hcl oA)|refine eU ?_;refine frA (aJ rfl (by exact hq1 _)) rfl ?_ (mQ c)|refine eU ?_;refine frA (aJ rfl (by exact hq2 _)) rfl ?_ rfl|refine eU ?_;refine frA (aJ rfl (by exact hq3 _)) rfl ?_ rfl|refine eU ?_;refine frA (aJ rfl (by exact hq4 _)) rfl ?_ (hcl oA)|refine eU ?_;refine frA (aJ rfl (by exact hq5 _)) rfl ?_ rfl|refine fIA ?_;refine frA (IU rfl rfl oO oO) rfl ?_ (hcl oA)|refine fIA ?_;refine frA (ng rfl rfl oO oO) rfl ?_ (hcl oA)|refine qX ?_;refine frA (bC rfl rfl rfl (by exact hfa _)) rfl ?_ rfl|(refine Bf ?_;refine fr (jd rfl) oR rfl ?_)|(refine fAdd ?_;first|refine fr (pI rfl rfl oO) oR rfl ?_|refine fr (uY rfl rfl oO oO) oR rfl ?_)|refine Iz ?_)|(refine fP ⟨oK,?_⟩)|refine aG ?_|refine sK5 ?_|fail)
 rw [show U++gV (fun _=>true) []=U from bN U]
 exact dG (.tmp rfl .nil) .all ⟨rfl,rfl⟩
end Go.Proofs.YtajpgeklmcjciaaGreat
namespace Go.AH.Warp
open Go Go.AH Go.AH.Heat
structure RowsB (U H:Heap) (nb:Nat) (F:Nat->Nat->Int) (k gb:Nat):Prop where
 pre:H.take U.length=U
 b0:H[U.length]?=some (.rw [.pointer (some ⟨nb,0,none⟩)])
 b1:(k=0/\H[U.length+1]?=some (.rw [.slice none 0 0]))\/(0<k/\U.length+2<=gb/\H[U.length+1]?=some (.rw [eP gb 401 k])/\H[gb]?=some (.gr (yH F k) 203))
def ent (b:Bl) (j:Nat):(Int×Int)×Value:=(((j:Nat),b.pos j),.int .i64 (b.pos (j+1)))
def rJ (b:Bl) (a m:Nat):List ((Int×Int)×Value):=(List.range' a m).map (ent b)
theorem aa1 (b:Bl) (a m:Nat):rJ b a (m+1)=rJ b a m++[ent b (a+m)]:=by
 unfold rJ;rw [List.range'_1_concat,eq];rfl
theorem OH (b:Bl) (a m:Nat):rJ b a (m+1)=ent b a::rJ b (a+1) m:=by
 unfold rJ;rw [List.range'_succ,cG]
theorem aa2 {b:Bl} {a m:Nat} {k:Nat} {x:Int} (h:a+m<=k):((rJ b a m).map (·.1)).findIdx? (fun q=>decide ((((k:Nat):Int),x)=q))=none:=by
 rw [List.findIdx?_eq_none_iff]
 intro q hq
 simp only [rJ,List.map_map,List.mem_map,List.mem_range'_1] at hq
 obtain ⟨j,hj,rfl⟩:=hq
 simp only [Function.comp,ent,decide_eq_false_iff_not,Prod.mk.injEq,not_and]
 omega
theorem agc (b:Bl) (i:Nat):lN (rJ b 0 i) ((i:Nat),b.pos i) (.i (b.pos (i+1)))=rJ b 0 (i+1):=by
 unfold lN
 rw [aa2 oO,aa1,aR];rfl
theorem ad3 (b:Bl) (i m:Nat):iO (rJ b i (m+1)) ((i:Nat),b.pos i)=some (.i (b.pos (i+1))):=by
 unfold iO
 rw [OH]
 simp [ent,e6]
theorem ad4 (b:Bl) (i m:Nat):ny (rJ b i (m+1)) ((i:Nat),b.pos i)=rJ b (i+1) m:=by
 unfold ny
 rw [OH]
 simp [ent,e6]
structure BB (U H:Heap) (B:Bld) (nb gb mb:Nat) (M:List ((Int×Int)×Value)) (i:Nat):Prop where
 pre:H.take U.length=U
 b0:H[U.length]?=some (.rw [.pointer (some ⟨nb,0,none⟩)])
 b1:H[U.length+1]?=some (.rw [eP gb 401 (B.n+1)])
 g:H[gb]?=some (.gr (yH (fun k=>iw B.b (B.n - k)) (B.n+1)) 203)
 m:H[mb]?=some (jv kv M)
 o:H[mb+1]?=some (.rw [.int .i64 (i:Nat),.int .i64 (B.b.pos i)])
 ni:H.all (fun o=>!aU o)=true
def AU (B:Bld) (l:Nat):Value:=if B.b.vt B.n 0<nev then .tuple #[.slice (some ⟨l,0,none⟩) B.n B.n,.int .i64 (B.b.vt B.n 0)] else .tuple #[.slice none 0 0,.int .i64 (B.b.vt B.n 0)]
def AV (B:Bld):Heap:=if B.b.vt B.n 0<nev then [.rw (ints (fO B.n B.b.blow))] else []
end Go.AH.Warp
namespace Go.Proofs.YtajpgeklmcjciaaGreat
attribute [local irreducible] dA bJ bK jh fQ dK eH bY eu aW dR dW
open Go.AH.Heat Go.AH.Warp
theorem nD {A B:Prop} (k:B) (h:Hide B->A:=by intro z_;(repeat' (first|refine sCm ?_|(refine gU ?_;first|refine st (jO (by rfl) (by rfl) rfl (by exact hgX) (by exact hgl) rfl (by exact hcl2) (by omega) (by exact hone) (by omega) (by decide)) rfl rfl ?_|refine st (y9 (by rfl) rfl rfl (by exact hcl2) (by omega) (by exact hone) (by omega) (by decide)) rfl rfl ?_|(refine cO ?_;first|refine st (aJ rfl (by first|exact ig rfl|exact aF a0|exact aF a1|exact aF a9|exact aF a13|exact hd1|assumption)) rfl rfl ?_|refine st (bG rfl (by first|exact aV a9 rfl|exact aV a13 rfl|assumption)) rfl rfl ?_)|refine sK4 ?_|(refine yS ?_;first|refine st (iU rfl rfl rfl) rfl rfl ?_|refine st (Pq rfl rfl) rfl rfl ?_)|(refine gIA ?_;first|refine st (IU rfl rfl (by omega) (by omega)) rfl rfl ?_|refine st (ng rfl rfl (by omega) (by omega)) rfl rfl ?_)|refine sK7 ?_|refine FP ?_|(refine dV ?_;refine st (bC rfl rfl rfl (by first|exact hf1|exact hf2|exact hf3)) rfl rfl ?_)|refine Me ?_|(refine gZ ?_;refine stN (bW rfl rfl rfl rfl (by first|exact Gq rfl rfl|exact hput _ _|exact hput2 _ _)) rfl ?_))|(refine fU ?_;first|refine eU ?_;refine frA (aJ rfl (by exact hq1 _)) rfl ?_ hc1|refine eU ?_;refine frA (aJ rfl (by exact hq0 _)) rfl ?_ hc0|refine nH ?_;refine frA (dY rfl) rfl ?_ rfl|refine qX ?_;refine frA (bC rfl rfl rfl (by exact hfa _)) rfl ?_ hcr|refine Yl ?_;refine frN (Df (by rfl) (by rfl) (by rfl) (by rfl) rfl hrl) xZ hrc hro rfl ?_)|(refine fP ⟨by kernel_rfl,?_⟩)|refine bU (id:=6) ?_|refine bU (id:=8) ?_|refine bU (id:=14) ?_|refine bU (id:=16) ?_|refine bU (id:=23) ?_|refine bU (id:=24) ?_|refine aG ?_|refine sK2 ?_|refine sK1 ?_|fail));exact z_.h):A:=h ⟨k⟩
theorem EN {U:Heap} {B:Bld} {nb sb cS tb cT:Nat} (hv:mJ B) (hB:iY U B nb sb cS tb cT) (hni:Ni U) :
  Ev prog 86 [.p nb] U (AU B U.length) (U++AV B):=by
 refine aH U.length 88 func86 (h:=?_)
 have hn20:=hv.n
 have O:nb < U.length:=aS hB.nb
 have Uq:aI (U++[aC.rw [.p nb]]) nb (0+0+0)=some (.s sb B.n cS):=aF (hB.app (X:=[aC.rw [.p nb]])).nb
 refine nD ?_
 refine dO (ι:=Nat×Nat) (fun k=>[(1,.p U.length),(2,.slice none 0 0),(3,.i 0),(4,.i (B.n:Nat)),(5,.p (U.length+1)),(22,.i ((B.n:Int)+1)),(23,.i (k.1:Nat))])
  (fun k mk H=>k.1<=B.n+1/\mk=[]/\RowsB U H nb (fun k=>iw B.b (B.n - k)) k.1 k.2/\H.all (fun o=>!aU o)=true) (fun k=>B.n+1 - k.1) (0,0) ⟨rfl,rfl,rfl,rfl,(by (refine congrArg (fun n=>some (Value.p n)) ?_;simp;try omega)),rfl,rfl,trivial⟩ ⟨bL _,rfl,⟨by simp,aA aN,.inl ⟨rfl,bP oS⟩⟩,aX (aX hni rfl) rfl⟩ ?_
 clear Uq
 rintro ⟨k,gb⟩ mk H ⟨hk,rfl,hR,d⟩
 dsimp only at hk hR ⊢
 have am:U.length+2<=H.length:=by rcases hR.b1 with ⟨_,h⟩|⟨_,_,h,_⟩ <;> exact aS h
 by_cases ao:k<B.n+1
 ·have a6:(k:Int)<(B.n:Int)+1:=oO
  refine nD ?_
  refine .mk (dB [(1,.p U.length),(2,.slice none 0 0),(3,.i 0),(4,.i (B.n:Nat)),(5,.p (U.length+1)),(6,.i (k:Nat)),(22,.i ((B.n:Int)+1)),(23,.i (k:Nat))] H rfl tE ?_)
  obtain ⟨cr,a⟩:=xy (ints (dw (iw B.b (B.n - k))))
  have hfa:=fun X=>Jc (U:=H++X) (sn:=k) hv ((hB.take hR.pre).app (X:=X)) oO
  rw [<- a] at hfa
  have hrl:cr.length=401:=by rw [a,bQ,dQ]
  have hone:cr.all (·.oneCell')=true:=by rw [a];exact jD _
  have hcr:closed H.length (.agg cr.toArray)=true:=by
   have:=(aY (n:=H.length) (aZ (dw (iw B.b (B.n - k))))).1
   rw [<- a] at this
   simpa [closed,jC] using this
  have hrc:dU H.length cr=true:=by rw [a];exact (aY (aZ _)).1
  have hro:okL cr=true:=by rw [a];exact (aY (n:=H.length) (aZ _)).2
  have hq0:∀ X,aI (H++X) U.length 0=some (.p nb):=fun X=>aF (aA hR.b0)
  have hc0:closed H.length (.p nb)=true:=Nat.blt_eq.mpr (fe O oO)
  have hcl2:aK (H++[aC.rw cr]) (H++([]:Heap)).length 0 401=some cr:=by rw [bN];exact dZ hrl
  rcases hR.b1 with ⟨rfl,t⟩|⟨hk0,aj,t,hg⟩
  ·have hq1:∀ X,aI (H++X) (U.length+1) 0=some (.slice none 0 0):=fun X=>aF (aA t)
   have hc1:closed H.length (.slice none 0 0)=true:=rfl
   have hput:∀ X v,putCells (H++[aC.rw cr]++X) (U.length+1) 0 [v]=some ((H++[aC.rw cr]++X).set (U.length+1) (.rw [v])):=fun X v=>fF (aA (aA t)) oS oS rfl
   refine eY oK rfl ?_
   refine nD ?_
   refine ⟨(0+1,(H++[aC.rw cr]).length+1),⟨by dsimp only;omega,rfl,⟨take_set (aP (aP hR.pre)) oO,aB (aA (aA hR.b0)) oO,.inr ⟨oO,by simp;omega,aQ (aA (aA t)),?_⟩⟩,jr (aX (aX d rfl) rfl) rfl⟩,by dsimp only;omega,tE⟩
   refine aB ?_ (by simp;omega)
   rw [bE oO]
   simp only [yH,eM,Nat.sub_zero]
   rw [a];simp
  ·have hq1:∀ X,aI (H++X) (U.length+1) 0=some (eP gb 401 k):=fun X=>aF (aA t)
   have hc1:closed H.length (eP gb 401 k)=true:=mQ (Nat.blt_eq.mpr (aS hg))
   have hgX:(H++[aC.rw cr])[gb]?=some (.gr (yH (fun k=>iw B.b (B.n - k)) k) 203):=aA hg
   have hgl:(yH (fun k=>iw B.b (B.n - k)) k).length=k*401:=Gv _ _
   have hput:∀ X v,putCells ((H++[aC.rw cr]).set gb .dead++X) (U.length+1) 0 [v]=some (((H++[aC.rw cr]).set gb .dead++X).set (U.length+1) (.rw [v])):=fun X v=>fF (aA (aB (aA t) oO)) oS oS rfl
   refine eY oK rfl ?_
   refine nD ?_
   refine ⟨(k+1,(H++[aC.rw cr]).length),⟨by dsimp only;omega,rfl,⟨take_set (aP (take_set (aP hR.pre) oO)) oO,aB (aA (aB (aA hR.b0) oO)) oO,.inr ⟨oO,by simp;omega,aQ (aA (aB (aA t) oO)),?_⟩⟩,jr (aX (jr (aX d rfl) rfl) rfl) rfl⟩,by dsimp only;omega,tE⟩
   refine aB ?_ (by simp;omega)
   rw [show (H++[aC.rw cr]).length=((H++[aC.rw cr]).set gb .dead).length by simp,bE (aD _),cM,yH,<- a];rfl
 ·obtain rfl:k=B.n+1:=oO
  have a6:¬ ((B.n+1:Nat):Int)<(B.n:Int)+1:=oO
  rcases hR.b1 with ⟨h0,_⟩|⟨_,aj,t,hg⟩
  ·omega
  have hp:=hR.pre
  have ag:=hR.b0
  clear hR
  have a1:=t
  have hd1:aI H gb (Int.toNat 0*401+Int.toNat 200*1)=some (.i (B.b.vt B.n 0)):=by
   rw [KC hg,show Int.toNat 0*401+Int.toNat 200*1=0*401+200 from rfl,Gw oO oO];rfl
  have ar:(0:Int)<((B.n+1:Nat):Int):=oO
  refine nD ?_
  refine .mk (dB [(1,.p U.length),(2,.slice none 0 0),(3,.i 0),(4,.i (B.n:Nat)),(5,.p (U.length+1))] H rfl tE ?_)
  apply aG
  by_cases E:B.b.vt B.n 0<nev
  ·have al:¬ B.b.vt B.n 0>=1099511627776:=by have:B.b.vt B.n 0<1099511627776:=E;omega
   unfold AU AV
   rw [if_pos E,if_pos E]
   refine nD ?_
   refine st y5 rfl rfl ?_
   refine nD ?_
   have N:=aS hg
   have Vv:BB U (H++[aC.map []]++[aC.rw [.i 0,.i 0]]) B nb gb H.length (rJ B.b 0 0) 0 :=
    ⟨aP (aP hp),aA (aA ag),aA (aA t),aA (aA hg),aA aN,bP oS,aX (aX d rfl) rfl⟩
   obtain ⟨mb,L⟩:=xy H.length
   rw [<- L] at Vv N
   refine dO (ι:=Nat) (fun i=>[(1,.p U.length),(2,.slice none 0 0),(3,.i 0),(4,.i (B.n:Nat)),(5,.p (U.length+1)),(7,.i (B.b.vt B.n 0)),(8,.map (some mb)),(9,.p (mb+1))])
    (fun i mk H=>i<=B.n/\mk=[]/\BB U H B nb gb mb (rJ B.b 0 i) i) (fun i=>B.n - i) 0 ⟨rfl,rfl,rfl,rfl,rfl,rfl,congrArg (fun n=>some (Value.map (some n))) L.symm,(by refine congrArg (fun n=>some (Value.p n)) ?_;rw [L];simp),trivial⟩ ⟨bL _,rfl,Vv⟩ ?_
   clear Vv L hd1 ar a1 d t ag hp hg a6 hk ao am H
   have aa:=B.b.Qz hv.ok E
   rintro i mk H ⟨hi,rfl,hS⟩
   have a0:=hS.b0
   have a9:=hS.o
   have ak:=aS hS.m
   by_cases D:i<B.n
   ·have af:(i:Int)<(B.n:Nat):=oO
    refine nD ?_
    refine .mk (dB [(1,.p U.length),(2,.slice none 0 0),(3,.i 0),(4,.i (B.n:Nat)),(5,.p (U.length+1)),(7,.i (B.b.vt B.n 0)),(8,.map (some mb)),(9,.p (mb+1))] H rfl tE ?_)
    obtain ⟨f,hf⟩:=xy (B.b.pos i)
    have a3:=aa i (by show i<=B.n;omega)
    have a8:-200<=f/\f<=200:=by
     rw [hf]
     rcases i with _|j
     ·show -200<=(0:Int)/\(0:Int)<=200;omega
     ·have h1:=a3.2.2 j oO
      have h2:=hv.tube (i:=j) oO
      omega
    rw [<- hf] at a9
    have ac:=hB.take hS.pre
    have hf1:=Lc (U:=H) hv ac D a8
    obtain ⟨n0,S⟩:∃ n0,B.b.sN i f=n0+1:=by
     rcases hc:B.b.sN i f with _|n0
     ·have h1:=a3.1
      rw [show Bl.n B.b - i=B.b.n - i from rfl,B.b.Qy (by show i<B.n;omega),<- hf,hc] at h1
      exact absurd h1 (by simp [mF])
     ·exact ⟨n0,rfl⟩
    have htu:=hv.tube D
    have hmo:=hv.most
    have hsl:-200<=B.b.sLo i f/\B.b.sLo i f<=400:=by unfold Bl.sLo;show -200<=max (B.b.lo i) (f - B.most)/\max (B.b.lo i) (f - B.most)<=400;omega
    have b2:B.b.sN i f=(min (B.b.hi i) (f+B.most)+1 - B.b.sLo i f).toNat:=rfl
    have hf2:=Oz (U:=H++[.rw [.i (B.b.sLo i f)]]++[.rw [.i (min (B.b.hi i) (f+B.most))]]) (lo:=B.b.sLo i f) (hi:=min (B.b.hi i) (f+B.most)) (lb:=H.length) (hb:=H.length+1) (n:=n0+1) oO oO oO (by rw [<- S];exact b2) oO (aA aN) (bP oS) oO
    obtain ⟨H3,C⟩:=xy (H++[aC.rw [.i (B.b.sLo i f)]]++[aC.rw [.i (min (B.b.hi i) (f+B.most))]]++[aC.rw (ints (numsL (B.b.sLo i f) (n0+1)))])
    have ad:H3[(H++[aC.rw [.i (B.b.sLo i f)]]++[aC.rw [.i (min (B.b.hi i) (f+B.most))]]).length]?=some (.rw (ints (numsL (B.b.sLo i f) (n0+1)))):=by rw [C];exact aN
    have z:H3.take H.length=H:=by rw [C];exact aP (aP oS)
    have ax:H3[U.length]?=some (.rw [.p nb])/\H3[U.length+1]?=some (.rw [eP gb 401 (B.n+1)])/\H3[gb]?=some (.gr (yH (fun k=>iw B.b (B.n - k)) (B.n+1)) 203)/\H3[mb]?=some (jv kv (rJ B.b 0 i))/\H3[mb+1]?=some (.rw [.i (i:Nat),.i f]):=by
     rw [C]
     exact ⟨aA (aA (aA hS.b0)),aA (aA (aA hS.b1)),aA (aA (aA hS.g)),aA (aA (aA hS.m)),aA (aA (aA a9))⟩
    obtain ⟨c0,c1,cg,cm,co⟩:=ax
    have K:Ni H3:=by rw [C];exact aX (aX (aX hS.ni rfl) rfl) rfl
    have aq:H3.take U.length=U:=by rw [C];exact aP (aP (aP hS.pre))
    have hf3:=aa0 (U:=H3) (c:=n0+1) (n:=n0) (lo:=B.b.sLo i f) (F:=B.b.zN i f) (g:=179) (p:=[]) (q:=[.p (U.length+1),.p (mb+1),.p U.length])
     (fun j hj=>by rw [aF ad,iF (by rw [Gm];omega),adH oO]) (aD _) oO (fun x h1 h2=>ad2 hv (ac.take z) D a8 (by
      have h3:=(B.b.AP (i:=i) (f:=f) (g:=x)).1 ⟨h1,by rw [S];omega⟩
      omega) c1 cg co c0)
    have P:lst (B.b.zN i f) (B.b.sLo i f) n0=B.b.pos (i+1):=by
     show _=lst (B.b.zN i (B.b.pos i)) (B.b.sLo i (B.b.pos i)) (B.b.sN i (B.b.pos i) - 1)
     rw [<- hf,S,Nat.add_sub_cancel]
    rw [P] at hf3
    rw [C] at hf3
    apply aG
    refine nD ?_
    clear hf1 hf2 hf3
    refine .mk (dB [(1,.p U.length),(2,.slice none 0 0),(3,.i 0),(4,.i (B.n:Nat)),(5,.p (U.length+1)),(7,.i (B.b.vt B.n 0)),(8,.map (some mb)),(9,.p (mb+1)),(11,.i (B.b.pos (i+1)))] H3 C.symm tE ?_)
    clear C z ad a0 a9 hS
    have a9:=co
    have az:H3.set mb (jv kv (lN (rJ B.b 0 i) (((i:Nat):Int),f) (.i (B.b.pos (i+1)))))=H3.set mb (jv kv (rJ B.b 0 (i+1))):=by rw [hf,agc]
    apply aG
    refine nD ?_
    refine stN (o7 (i:=mb) (l:=rJ B.b 0 i) (k:=(((i:Nat):Int),f)) (v:=.i (B.b.pos (i+1))) rfl cm rfl rfl K) rfl ?_
    rw [az]
    clear a9
    have a9:(H3.set mb (jv kv (rJ B.b 0 (i+1))))[mb+1]?=some (.rw [.i (i:Nat),.i f]):=aB co oO
    have hput2:∀ x y,putCells (H3.set mb (jv kv (rJ B.b 0 (i+1)))) (mb+1) 0 [x,y]=some ((H3.set mb (jv kv (rJ B.b 0 (i+1)))).set (mb+1) (.rw [x,y])):=fun x y=>fF a9 oS oS rfl
    refine nD ?_
    exact ⟨i+1,⟨D,rfl,⟨take_set (take_set aq oO) oO,aB (aB c0 oO) oO,aB (aB c1 oO) oO,aB (aB cg oO) oO,aB (aQ cm) oO,aQ a9,jr (jr K rfl) rfl⟩⟩,oO,tE⟩
   ·obtain rfl:i=B.n:=oO
    have af:¬ ((B.n:Nat):Int)<(B.n:Nat):=oO
    refine nD ?_
    refine Uc 2 ?_
    have R:=aS hS.o
    refine dO (ι:=Nat×Nat×Nat) (fun k=>[(3,.i 0),(7,.i (B.b.vt B.n 0)),(8,.map (some mb)),(9,.p (mb+1)),(12,eP k.2.1 1 k.1),(13,.p k.2.2)])
     (fun k mk H=>k.1<=B.n/\mk=[]/\H.take U.length=U/\H[mb]?=some (jv kv (rJ B.b k.1 (B.n - k.1)))/\H[mb+1]?=some (.rw [.i (B.n:Nat),.i (B.b.pos B.n)])/\mb+2<=k.2.1/\mb+2<=k.2.2/\H[k.2.1]?=some (.gr (ints (fO k.1 B.b.blow)) 2)/\H[k.2.2]?=some (.rw [.i (k.1:Nat),.i (B.b.pos k.1)])/\H.all (fun o=>!aU o)=true) (fun k=>B.n - k.1) (0,H.length+1,H.length) tE
     ⟨bL _,rfl,aP (aP hS.pre),aA (aA hS.m),aA (aA hS.o),by dsimp only;omega,by dsimp only;omega,bP oS,aA aN,aX (aX hS.ni rfl) rfl⟩ ?_
    clear R af D ak a9 a0 hS hi H
    rintro ⟨i,go,r⟩ mk H ⟨hi,rfl,hp,hm,ho,ap,ah,hg,hs,d⟩
    dsimp only at hi hm ap ah hg hs ⊢
    have a9:=ho
    have a13:=hs
    have hgs:go ≠ r:=fun e=>by rw [e,hs] at hg;cases hg
    have a4:∀ j≤B.n,-200<=B.b.pos j/\B.b.pos j<=200:=fun j hj=>by
     rcases j with _|j
     ·show -200<=(0:Int)/\(0:Int)<=200;omega
     ·have h1:=(aa (j+1) hj).2.2 j oO
      have h2:=hv.tube (i:=j) oO
      omega
    by_cases D:i<B.n
    ·have ay:¬ (((i:Nat):Int)=((B.n:Nat):Int)/\B.b.pos i=B.b.pos B.n):=fun h=>by omega
     obtain ⟨m,ai⟩:∃ m,B.n - i=m+1:=⟨B.n - i - 1,oO⟩
     rw [ai] at hm
     have I:=ad3 B.b i m
     have hp1:=a4 i oO
     have hp2:=a4 (i+1) oO
     have hsbl:=aS hs
     have hgol:=aS hg
     refine nD ?_
     refine st (NJ (kv:=kv) (i:=mb) (l:=rJ B.b i (m+1)) (k:=(((i:Nat):Int),B.b.pos i)) rfl (by exact hm) rfl (by exact I)) rfl rfl ?_
     refine nD ?_
     refine stN (Bj (kv:=kv) (i:=mb) (l:=rJ B.b i (m+1)) (k:=(((i:Nat):Int),B.b.pos i)) rfl (by exact hm) rfl) rfl ?_
     rw [ad4]
     obtain ⟨H1,u⟩:=xy (H.set mb (jv kv (rJ B.b (i+1) m)))
     refine nD ?_
     refine .mk (dB [(3,.i 0),(7,.i (B.b.vt B.n 0)),(8,.map (some mb)),(9,.p (mb+1)),(12,eP go 1 i),(13,.p r),(14,.i (B.b.pos (i+1)))] H1 u.symm tE ?_)
     have G:H1.take U.length=U:=by rw [u];exact take_set hp oO
     have a5:H1[mb]?=some (jv kv (rJ B.b (i+1) m)):=by rw [u];exact aQ hm
     have ae:H1[mb+1]?=some (.rw [.i (B.n:Nat),.i (B.b.pos B.n)]):=by rw [u];exact aB ho oO
     have ZZ:H1[go]?=some (.gr (ints (fO i B.b.blow)) 2):=by rw [u];exact aB hg oO
     have Y:H1[r]?=some (.rw [.i (i:Nat),.i (B.b.pos i)]):=by rw [u];exact aB hs oO
     have J:Ni H1:=by rw [u];exact jr d rfl
     have hl1:H1.length=H.length:=by rw [u];simp
     clear u a9 a13 I hm ho hg hs d hp
     have a13:=Y
     have b3:B.b.pos (i+1) - B.b.pos i=B.b.blow i:=rfl
     have hgX:(H1++[aC.rw [.i (B.b.pos (i+1) - B.b.pos i)]])[go]?=some (.gr (ints (fO i B.b.blow)) 2):=aA ZZ
     have hgl:(ints (fO i B.b.blow)).length=i*1:=by rw [bQ,nO,cH]
     have hcl2:aK (H1++[aC.rw [.i (B.b.pos (i+1) - B.b.pos i)]]) H1.length 0 (1*1)=some [.i (B.b.pos (i+1) - B.b.pos i)]:=dZ rfl
     have hone:([.i (B.b.pos (i+1) - B.b.pos i)]:List Value).all (·.oneCell')=true:=rfl
     apply aG
     refine nD ?_
     have a7:ints (fO i B.b.blow)++[.i (B.b.pos (i+1) - B.b.pos i)]=ints (fO (i+1) B.b.blow):=by
      rw [b3];simp [fO,ints,ff]
     obtain ⟨H2,w⟩:=xy ((H1++[aC.rw [.i (B.b.pos (i+1) - B.b.pos i)]]).set go .dead++[aC.gr (ints (fO (i+1) B.b.blow)) 2])
     obtain ⟨g2,M⟩:=xy ((H1++[aC.rw [.i (B.b.pos (i+1) - B.b.pos i)]]).length)
     refine .mk (dB [(3,.i 0),(7,.i (B.b.vt B.n 0)),(8,.map (some mb)),(9,.p (mb+1)),(12,eP g2 1 (i+1)),(13,.p r),(14,.i (B.b.pos (i+1)))] H2 (by rw [w,<- a7];rfl) ⟨rfl,rfl,rfl,rfl,by rw [M];rfl,rfl,rfl,trivial⟩ ?_)
     have hg2l:g2=H1.length+1:=by rw [M];simp
     have Q:H2.take U.length=U:=by rw [w];exact aP (take_set (aP G) oO)
     have av:H2[mb]?=some (jv kv (rJ B.b (i+1) m)):=by rw [w];exact aA (aB (aA a5) oO)
     have aw:H2[mb+1]?=some (.rw [.i (B.n:Nat),.i (B.b.pos B.n)]):=by rw [w];exact aA (aB (aA ae) oO)
     have au:H2[g2]?=some (.gr (ints (fO (i+1) B.b.blow)) 2):=by rw [w];exact bP (by rw [M];simp)
     have W:H2[r]?=some (.rw [.i (i:Nat),.i (B.b.pos i)]):=by rw [w];exact aA (aB (aA Y) oO)
     have T:Ni H2:=by rw [w];exact aX (jr (aX J rfl) rfl) rfl
     have hl2:H2.length=H1.length+2:=by rw [w];simp
     clear hone hcl2 hgl hgX a13 G a5 ae ZZ Y J w a7 M
     have a13:=W
     have hput2:∀ x y,putCells H2 r 0 [x,y]=some (H2.set r (.rw [x,y])):=fun x y=>fF W oS oS rfl
     have a14:aK (H2.set r (.rw [.i ((i+1:Nat):Int),.i (B.b.pos (i+1))])) r 0 2=some [.i ((i+1:Nat):Int),.i (B.b.pos (i+1))]:=aV (aQ W) rfl
     have an:(H2.set r (.rw [.i ((i+1:Nat):Int),.i (B.b.pos (i+1))])).length=H2.length:=oS
     apply aG
     refine nD ?_
     exact ⟨(i+1,g2,(H2.set r (.rw [.i ((i+1:Nat):Int),.i (B.b.pos (i+1))])).length),⟨D,rfl,aP (take_set Q oO),by dsimp only;rw [show B.n - (i+1)=m by omega];exact aA (aB av oO),aA (aB aw oO),by dsimp only;omega,by dsimp only;rw [an];omega,aA (aB au (show r ≠ g2 by omega)),aN,aX (jr T rfl) rfl⟩,by dsimp only;omega,tE⟩
    ·obtain rfl:i=B.n:=oO
     have ay:¬ ¬ (((B.n:Nat):Int)=((B.n:Nat):Int)/\B.b.pos B.n=B.b.pos B.n):=fun h=>h ⟨rfl,rfl⟩
     refine nD ?_
     have s0:fK U.length [go] U.length=⟨go,0,0⟩:=by simp [fK]
     have hmbl:U.length<=mb:=oO
     exact dG (v2:=.tuple #[.s U.length B.n B.n,.i (B.b.vt B.n 0)]) (.tmp rfl (.tmp rfl .nil)) (aW.src [.rw (ints (fO B.n B.b.blow))] [go] hp rfl (by simp [dF];omega) ⟨wM s0 (.inr ⟨_,hg⟩) (aZ _),trivial⟩ (sH (kX oS s0) (.i _))) ⟨rfl,rfl⟩
  ·have al:B.b.vt B.n 0>=1099511627776:=by have:¬ B.b.vt B.n 0<1099511627776:=E;omega
   unfold AU AV
   rw [if_neg E,if_neg E,bN]
   refine nD ?_
   exact dG (v2:=.tuple #[.slice none 0 0,.i (B.b.vt B.n 0)]) (.tmp rfl (.tmp rfl .nil)) (aW.plain hp rfl) ⟨rfl,rfl⟩
end Go.Proofs.YtajpgeklmcjciaaGreat
namespace Go.AH.Warp
open Go Go.AH Go.AH.Heat
def chB (h m:Int):Bld where
 n:=4
 ang:=fun i=>match i with|0=>0|1=>4|2=>5|_=>1
 tlo:=fun _=>-1
 thi:=fun _=>1
 hard:=fun i=>match i with|1=>h|_=>1
 most:=m
theorem lH {h m:Int} (hh:1<=h/\h<=9) (hm:0<=m/\m<=200):mJ (chB h m):=by
 refine ⟨(show 1<=4/\4<=20 by decide),fun i hi=>?_,hm⟩
 match i,hi with
 |0,_=>exact (show -100<=(0:Int)/\(0:Int)<=100/\-100<=(-1:Int)/\(-1:Int)<=1/\(1:Int)<=100/\1<=(1:Int)/\(1:Int)<=9 by decide)
 |1,_=>exact (show -100<=(4:Int)/\(4:Int)<=100/\-100<=(-1:Int)/\(-1:Int)<=1/\(1:Int)<=100/\1<=h/\h<=9 by omega)
 |2,_=>exact (show -100<=(5:Int)/\(5:Int)<=100/\-100<=(-1:Int)/\(-1:Int)<=1/\(1:Int)<=100/\1<=(1:Int)/\(1:Int)<=9 by decide)
 |3,_=>exact (show -100<=(1:Int)/\(1:Int)<=100/\-100<=(-1:Int)/\(-1:Int)<=1/\(1:Int)<=100/\1<=(1:Int)/\(1:Int)<=9 by decide)
def rowP (lo:Nat) (l:List Int):List Int:=List.replicate lo nev++(l++List.replicate (401 - lo - l.length) nev)
def Hz:Nat->List Int
 |0=>rowP 189 [15,14,13,12,11,10,9,8,7,6,5,6,7,8,9,10,11,12,13,14,15,16,17]
 |1=>rowP 185 [13,12,11,10,9,8,7,6,5,4,3,2,3,4,5,6,7,8,9,10,11,12,13]
 |2=>rowP 184 [14,13,12,11,10,9,8,7,6,5,4,3,2,3,4,5,6,7,8,9,10,11,12]
 |3=>rowP 188 [10,9,8,7,6,5,4,3,2,1,0,0,0,1,2,3,4,5,6,7,8,9,10]
 |_=>List.replicate 401 0
theorem aiv:dw (iw (chB 1 10).b (4 - 0))=Hz 0:=by decide +kernel
theorem aiw:dw (iw (chB 1 10).b (4 - 1))=Hz 1:=by decide +kernel
theorem aix:dw (iw (chB 1 10).b (4 - 2))=Hz 2:=by decide +kernel
theorem aiy:dw (iw (chB 1 10).b (4 - 3))=Hz 3:=by decide +kernel
theorem aiz:dw (iw (chB 1 10).b (4 - 4))=Hz 4:=by decide +kernel
theorem UR {sn:Nat} (h:sn<=4):dw (iw (chB 1 10).b (4 - sn))=Hz sn:=by
 match sn,h with
 |0,_=>exact aiv
 |1,_=>exact aiw
 |2,_=>exact aix
 |3,_=>exact aiy
 |4,_=>exact aiz
def LC:Nat->List Int
 |0=>rowP 189 [19,18,17,16,15,14,13,12,11,10,9,10,11,12,13,14,15,16,17,18,19,22,25]
 |1=>rowP 185 [33,30,27,24,21,18,15,12,9,6,3,2,3,6,9,12,15,18,21,24,27,30,33]
 |2=>rowP 184 [14,13,12,11,10,9,8,7,6,5,4,3,2,3,4,5,6,7,8,9,10,11,12]
 |3=>rowP 188 [10,9,8,7,6,5,4,3,2,1,0,0,0,1,2,3,4,5,6,7,8,9,10]
 |_=>List.replicate 401 0
theorem aiA:dw (iw (chB 3 10).b (4 - 0))=LC 0:=by decide +kernel
theorem aiB:dw (iw (chB 3 10).b (4 - 1))=LC 1:=by decide +kernel
theorem aiC:dw (iw (chB 3 10).b (4 - 2))=LC 2:=by decide +kernel
theorem aiD:dw (iw (chB 3 10).b (4 - 3))=LC 3:=by decide +kernel
theorem aiE:dw (iw (chB 3 10).b (4 - 4))=LC 4:=by decide +kernel
theorem ad5 {sn:Nat} (h:sn<=4):dw (iw (chB 3 10).b (4 - sn))=LC sn:=by
 match sn,h with
 |0,_=>exact aiA
 |1,_=>exact aiB
 |2,_=>exact aiC
 |3,_=>exact aiD
 |4,_=>exact aiE
def LD:Nat->List Int
 |0=>rowP 0 []
 |1=>rowP 0 []
 |2=>rowP 0 []
 |3=>rowP 197 [1,0,0,0,1]
 |_=>List.replicate 401 0
theorem aiF:dw (iw (chB 1 1).b (4 - 0))=LD 0:=by decide +kernel
theorem aiG:dw (iw (chB 1 1).b (4 - 1))=LD 1:=by decide +kernel
theorem aiH:dw (iw (chB 1 1).b (4 - 2))=LD 2:=by decide +kernel
theorem aiI:dw (iw (chB 1 1).b (4 - 3))=LD 3:=by decide +kernel
theorem aiJ:dw (iw (chB 1 1).b (4 - 4))=LD 4:=by decide +kernel
theorem ad6 {sn:Nat} (h:sn<=4):dw (iw (chB 1 1).b (4 - sn))=LD sn:=by
 match sn,h with
 |0,_=>exact aiF
 |1,_=>exact aiG
 |2,_=>exact aiH
 |3,_=>exact aiI
 |4,_=>exact aiJ
def Ia:Nat->List Int
 |0=>rowP 200 [0]
 |1=>rowP 199 [1,0,1]
 |2=>rowP 195 [5,4,3]
 |3=>rowP 194 [6,5,4]
 |_=>rowP 198 [6,7,8]
theorem ad7 {sn:Nat} (h:sn<=4):dw (iJ (chB 1 10).b sn)=dw fun x=>(chB 1 10).b.ct sn ((x:Int) - 200) :=
 qp fun x hx=>QL (lH oD oD).ok (fun i hi=>((lH oD oD).tube hi).1) sn h x hx
theorem aiK:(dw fun x=>(chB 1 10).b.ct 0 ((x:Int) - 200))=Ia 0:=by decide +kernel
theorem aiL:(dw fun x=>(chB 1 10).b.ct 1 ((x:Int) - 200))=Ia 1:=by decide +kernel
theorem aiM:(dw fun x=>(chB 1 10).b.ct 2 ((x:Int) - 200))=Ia 2:=by decide +kernel
theorem aiN:(dw fun x=>(chB 1 10).b.ct 3 ((x:Int) - 200))=Ia 3:=by decide +kernel
theorem aiO:(dw fun x=>(chB 1 10).b.ct 4 ((x:Int) - 200))=Ia 4:=by decide +kernel
theorem UU {sn:Nat} (h:sn<=4):dw (iJ (chB 1 10).b sn)=Ia sn:=by
 rw [ad7 h]
 match sn,h with
 |0,_=>exact aiK
 |1,_=>exact aiL
 |2,_=>exact aiM
 |3,_=>exact aiN
 |4,_=>exact aiO
def zI (B:Bld) (U:Heap) (nb:Nat):Option ((Nat×Nat)×(Nat×Nat)):=((U[nb]?).bind sW).bind fun cs=>match cs with
 |[vS,_,vT]=>(rC vS).bind fun x=>(rC vT).bind fun y =>
   bT (Ah (B.cs x.1 x.2.2.2 y.1 y.2.2.2) cs && (List.range B.n).all (fun i=>QG U x.1 (i*4) 4 [.int .i64 (B.ang i),.int .i64 (B.tlo i),.int .i64 (B.thi i),.int .i64 (B.hard i)]) &&
    (List.range (B.n+1)).all (fun i=>QG U y.1 (i*2) 2 [.int .i64 (B.tu i).1,.int .i64 (B.tu i).2])) (some ((x.1,x.2.2.2),(y.1,y.2.2.2)))
 |_=>none
theorem wo {B:Bld} {U:Heap} {nb:Nat} {x:(Nat×Nat)×(Nat×Nat)} (h:zI B U nb=some x):iY U B nb x.1.1 x.1.2 x.2.1 x.2.2:=by
 unfold zI at h
 simp only [aL] at h
 obtain ⟨cs,⟨o,h0,h1⟩,h2⟩:=h
 split at h2
 ·simp only [aL,aO,aE] at h2
  obtain ⟨x',h3,y',h4,⟨⟨g1,g2⟩,g3⟩,a⟩:=h2
  cases a
  have e:=pq g1
  rw [oH h1,<- e] at h0
  exact ⟨h0,fun i hi=>BJ (qM g2 i hi),fun i hi=>BJ (qM g3 i oO)⟩
 ·cases h2
def LG (B:Bld) (U:Heap) (v:Value):Option (Nat×Nat):=(asAgg v).bind fun l=>match l with
 |[vS,_]=>(rC vS).bind fun x =>
   bT (Ah [.slice (some ⟨x.1,0,none⟩) B.n x.2.2.2,.int .i64 B.most] l && (List.range B.n).all (fun i=>QG U x.1 (i*4) 4 [.int .i64 (B.ang i),.int .i64 (B.tlo i),.int .i64 (B.thi i),.int .i64 (B.hard i)])) (some (x.1,x.2.2.2))
 |_=>none
theorem UW {B:Bld} {U:Heap} {v:Value} {x:Nat×Nat} (h:LG B U v=some x):v=.agg #[.s x.1 B.n x.2,.i B.most]/\kQ U B x.1:=by
 unfold LG at h
 simp only [aL] at h
 obtain ⟨l,h1,h2⟩:=h
 split at h2
 ·simp only [aL,aO,aE] at h2
  obtain ⟨x',h3,⟨g1,g2⟩,a⟩:=h2
  cases a
  have e:=pq g1
  exact ⟨by rw [mD h1,<- e],⟨fun i hi=>BJ (qM g2 i hi)⟩⟩
 ·cases h2
def tuL:List Value:=[.int .i64 0,.int .i64 0,.int .i64 (-1),.int .i64 1,.int .i64 (-5),.int .i64 (-3),.int .i64 (-6),.int .i64 (-4),.int .i64 (-2),.int .i64 0]
theorem aiP (h m:Int):rgC (chB h m).tu ((chB h m).n+1)=tuL:=by
 simp [rgC,chB,Bld.tu,Bld.b,tuL]
def UY (m:Int) (U:Heap) (x:Nat×Nat):Res:=some (.pointer (some ⟨U.length,0,none⟩),U++[.rw [.slice (some ⟨x.1,0,none⟩) 4 x.2,.int .i64 m,.slice (some ⟨U.length+1,0,none⟩) 5 5],.rw tuL],U.length)
def chX:List Int:=[-1,-3,0,2]
theorem aiQ:fO 4 ((chB 1 10).b.pull (gi chX))=[0,0,-2,1]:=by decide +kernel
theorem ad8:Hy ((numsL (-200) 401).filter fun x=>decide ((chB 1 10).b.ct 2 x<nev) && decide (iw (chB 1 10).b (4 - 2) (x+200).toNat<nev))=.tuple #[.agg #[.i (-5),.i (-3)],.i 0]:=by
 have h:((numsL (-200) 401).filter fun x=>decide ((chB 1 10).b.ct 2 x<nev) && decide (iw (chB 1 10).b (4 - 2) (x+200).toNat<nev))=[-5,-4,-3]:=by decide +kernel
 rw [h];rfl
theorem agd:Hy ((numsL (-200) 401).filter fun x=>decide (iJ (chB 1 10).b (1+1) (x+200).toNat<nev) && decide (iw (chB 1 10).b (4 - (1+1)) (x+200).toNat<nev))=.tuple #[.agg #[.i (-5),.i (-3)],.i 0]:=by
 refine Eq.trans (congrArg Hy (List.filter_congr fun x hx=>?_)) ad8
 unfold numsL at hx
 obtain ⟨j,hj,rfl⟩:=List.mem_map.1 hx
 have hj:=List.mem_range.1 hj
 rw [QL (lH (h:=1) (m:=10) oD oD).ok (fun i hi=>((lH (h:=1) (m:=10) oD oD).tube hi).1) (1+1) (show 1+1<=4 by omega) _ oO,show (((-200+(j:Nat)+200:Int).toNat:Nat):Int) - 200=-200+(j:Nat) by omega]
def chLo (i:Nat):Int:=match i with|0=>-1|1=>-5|2=>-6|_=>-2
def chHi (i:Nat):Int:=match i with|0=>1|1=>-3|2=>-4|_=>0
theorem Zg {h m:Int} {i:Nat} (hi:i<4):(chB h m).b.lo i=chLo i/\(chB h m).b.hi i=chHi i:=by
 match i,hi with
 |0,_=>exact ⟨rfl,rfl⟩
 |1,_=>exact ⟨rfl,rfl⟩
 |2,_=>exact ⟨rfl,rfl⟩
 |3,_=>exact ⟨rfl,rfl⟩
def ad9 (U:Heap) (p:Nat×Nat) (u:Value):Res:=bT (Nat.beq p.2 0 && isI u && decide (0<=pO u) && decide (pO u<4)) ((zI (chB 1 10) U p.1).bind fun _ =>
 some (.func (.func 283) #[] #[.pointer (some ⟨U.length+4,0,none⟩),.pointer (some ⟨U.length+1,0,none⟩),.pointer (some ⟨U.length+2,0,none⟩),.pointer (some ⟨U.length+3,0,none⟩),.pointer (some ⟨U.length,0,none⟩)],
  U++[.rw [u],.rw (ints (Ia (pO u).toNat)),.rw (ints (Hz ((pO u).toNat+1))),.rw [.func (.func 180) #[.pointer (some ⟨p.1,0,none⟩)] #[]],.rw [.int .i64 (chLo (pO u).toNat),.int .i64 (chHi (pO u).toNat)]],U.length))
theorem Zh:AV (chB 1 10)=[.rw [.i (-1),.i (-3),.i 0,.i 2]]/\∀ l,AU (chB 1 10) l=.tuple #[.s l 4 4,.i 6]:=by
 have h1:(chB 1 10).b.vt (chB 1 10).n 0=6:=by decide +kernel
 have h2:fO (chB 1 10).n (chB 1 10).b.blow=[-1,-3,0,2]:=by decide +kernel
 unfold AV AU
 rw [h1,h2]
 exact ⟨if_pos oD,fun l=>if_pos oD⟩
theorem Zi:AV (chB 3 10)=[.rw [.i (-1),.i (-2),.i (-1),.i 2]]/\∀ l,AU (chB 3 10) l=.tuple #[.s l 4 4,.i 10]:=by
 have h1:(chB 3 10).b.vt (chB 3 10).n 0=10:=by decide +kernel
 have h2:fO (chB 3 10).n (chB 3 10).b.blow=[-1,-2,-1,2]:=by decide +kernel
 unfold AV AU
 rw [h1,h2]
 exact ⟨if_pos oD,fun l=>if_pos oD⟩
theorem Zj:AV (chB 1 1)=[]/\∀ l,AU (chB 1 1) l=.tuple #[.slice none 0 0,.i 1099511627776]:=by
 have h1:(chB 1 1).b.vt (chB 1 1).n 0=nev:=by decide +kernel
 unfold AV AU
 rw [h1]
 exact ⟨if_neg oD,fun l=>if_neg oD⟩
def XA (U:Heap) (p:Nat×Nat):Res:=bT (Nat.beq p.2 0 && niB U) (match zI (chB 1 10) U p.1 with
 |some _=>some (.tuple #[.slice (some ⟨U.length,0,none⟩) 4 4,.int .i64 6],U++[.rw [.int .i64 (-1),.int .i64 (-3),.int .i64 0,.int .i64 2]],U.length)
 |none=>match zI (chB 3 10) U p.1 with
  |some _=>some (.tuple #[.slice (some ⟨U.length,0,none⟩) 4 4,.int .i64 10],U++[.rw [.int .i64 (-1),.int .i64 (-2),.int .i64 (-1),.int .i64 2]],U.length)
  |none=>(zI (chB 1 1) U p.1).bind fun _=>iQ (.tuple #[.slice none 0 0,.int .i64 1099511627776]) U)
def aea (U:Heap) (p:Nat×Nat) (u:Value):Res:=(rC u).bind fun q=>bT (Nat.beq p.2 0 && Nat.beq q.2.1 0 && Nat.beq q.2.2.1 4 && QG U q.1 0 4 (ints chX)) ((zI (chB 1 10) U p.1).bind fun _=>some (.slice (some ⟨U.length,0,none⟩) 4 4,U++[.rw [.int .i64 0,.int .i64 0,.int .i64 (-2),.int .i64 1]],U.length))
def Zk (f:Nat) (args:List Value) (U:Heap):Res:=match args with
 |[v,u]=>bif Nat.beq f 242 then (qH v).bind fun p=>ad9 U p u
  else bif Nat.beq f 87 then (qH v).bind fun p=>aea U p u
  else bif Nat.beq f 53 then (LG (chB 1 10) U v).bind fun _=>bT (niB U && eqV u (.int .i64 1)) (iQ (.tuple #[.agg #[.int .i64 (-5),.int .i64 (-3)],.int .i64 0]) U)
  else (qH v).bind fun p=>bT (Nat.beq p.2 0 && isI u && decide (0<=pO u) && decide (pO u<=4))
   (bif Nat.beq f 112 then (match zI (chB 1 10) U p.1 with
     |some _=>iQ (.agg (ints (Hz (pO u).toNat)).toArray) U
     |none=>match zI (chB 3 10) U p.1 with
      |some _=>iQ (.agg (ints (LC (pO u).toNat)).toArray) U
      |none=>(zI (chB 1 1) U p.1).bind fun _=>iQ (.agg (ints (LD (pO u).toNat)).toArray) U)
    else bif Nat.beq f 111 then (zI (chB 1 10) U p.1).bind fun _=>iQ (.agg (ints (Ia (pO u).toNat)).toArray) U
    else none)
 |[v]=>bif Nat.beq f 175 then (match LG (chB 1 10) U v with
   |some x=>UY 10 U x
   |none=>match LG (chB 3 10) U v with
    |some x=>UY 10 U x
    |none=>(LG (chB 1 1) U v).bind fun x=>UY 1 U x)
  else bif Nat.beq f 86 then (qH v).bind fun p=>XA U p
  else bif Nat.beq f 114 then some (.slice (some ⟨U.length,0,none⟩) 401 401,U++[.rw (ints (numsL (-200) 401))],U.length)
  else none
 |_=>none
end Go.AH.Warp
namespace Go.Proofs.YtajpgeklmcjciaaGreat
open Go Go.AH Go.AH.Heat Go.AH.Warp
theorem XB {h m:Int} {T:Nat->List Int} (hv:mJ (chB h m)) (hT:∀ {sn:Nat},sn<=4->dw (iw (chB h m).b (4 - sn))=T sn) {U:Heap} {nb:Nat} {x:(Nat×Nat)×(Nat×Nat)} (hb:zI (chB h m) U nb=some x) {u:Value} (h1:isI u=true) (h2:0<=pO u) (h3:pO u<=4) :
  Ev prog 112 [.p nb,u] U (.agg (ints (T (pO u).toNat)).toArray) U:=by
 have e:u=.i ((pO u).toNat:Nat):=(QH h1).trans (congrArg (Value.int .i64) oO)
 have hs:(pO u).toNat<=4:=oO
 have:=Jc hv (wo hb) (sn:=(pO u).toNat) hs
 rw [show (chB h m).n - (pO u).toNat=4 - (pO u).toNat from rfl,hT hs,<- e] at this
 exact this
theorem aeb {a m:Int} (hv:mJ (chB a m)) {U:Heap} {v:Value} {x:Nat×Nat} (hb:LG (chB a m) U v=some x) {r:Value×Heap×Nat} (h:UY m U x=some r):Ev prog 175 [v] U r.1 r.2.1/\Keep r.2.2 U r.2.1:=by
 unfold UY at h
 cases h
 obtain ⟨h1,h2⟩:=UW hb
 rw [h1]
 have:=Hu (cS:=x.2) hv h2
 rw [aiP] at this
 exact ⟨this,Keep.app⟩
theorem aiR {U:Heap} {p:Nat×Nat} {u:Value} {r:Value×Heap×Nat} (h:ad9 U p u=some r):Ev prog 242 [.pointer (some ⟨p.1,p.2,none⟩),u] U r.1 r.2.1/\Keep r.2.2 U r.2.1:=by
 unfold ad9 at h
 simp only [aL,aO,aE,decide_eq_true_eq] at h
 obtain ⟨⟨⟨⟨h1,h2⟩,h3⟩,h4⟩,x,h5,h6⟩:=h
 cases h6
 have h1:=aM h1
 have e:u=.int .i64 ((pO u).toNat:Nat):=(QH h2).trans (congrArg (Value.int .i64) oO)
 have hi:(pO u).toNat<4:=oO
 have:=aga (lH (h:=1) (m:=10) oD oD) (wo h5) (i:=(pO u).toNat) hi
 unfold adW at this
 rw [UU oO,show (chB 1 10).n - ((pO u).toNat+1)=4 - ((pO u).toNat+1) from rfl,UR oO,(Zg hi).1,(Zg hi).2,<- e] at this
 rw [h1]
 exact ⟨this,Keep.app⟩
theorem aiS {U:Heap} {p:Nat×Nat} {r:Value×Heap×Nat} (h:XA U p=some r):Ev prog 86 [.pointer (some ⟨p.1,p.2,none⟩)] U r.1 r.2.1/\Keep r.2.2 U r.2.1:=by
 unfold XA at h
 simp only [aO,aE] at h
 obtain ⟨⟨h1,h2⟩,h3⟩:=h
 have h1:=aM h1
 rw [h1]
 split at h3
 ·rename_i x hx
  cases h3
  have:=EN (lH (h:=1) (m:=10) oD oD) (wo hx) h2
  rw [Zh.1,Zh.2] at this
  exact ⟨this,Keep.app⟩
 ·split at h3
  ·rename_i x hx
   cases h3
   have:=EN (lH (h:=3) (m:=10) oD oD) (wo hx) h2
   rw [Zi.1,Zi.2] at this
   exact ⟨this,Keep.app⟩
  ·simp only [aL] at h3
   obtain ⟨x,hx,h4⟩:=h3
   cases nJ h4
   have:=EN (lH (h:=1) (m:=1) oD oD) (wo hx) h2
   rw [Zj.1,Zj.2,bN] at this
   exact ⟨this,Keep.refl⟩
theorem agf {U:Heap} {p:Nat×Nat} {u:Value} {r:Value×Heap×Nat} (h:aea U p u=some r):Ev prog 87 [.pointer (some ⟨p.1,p.2,none⟩),u] U r.1 r.2.1/\Keep r.2.2 U r.2.1:=by
 unfold aea at h
 simp only [aL,aO,aE] at h
 obtain ⟨q,h1,⟨⟨⟨h2,h3⟩,h4⟩,h5⟩,x,h6,h7⟩:=h
 cases h7
 have h2:=aM h2
 have h3:=aM h3
 have h4:=aM h4
 have hc:=BJ h5
 have hv:=lH (h:=1) (m:=10) oD oD
 have:=UO (c:=q.2.2.2) (xb:=q.1) (d:=gi chX) hv (wo h6) (fun i hi=>by
  have:=eX (k:=i) hc (by have:i<4:=hi;omega)
  rw [aR] at this
  rw [this]
  have hi:i<4:=hi
  match i,hi with
  |0,_=>rfl
  |1,_=>rfl
  |2,_=>rfl
  |3,_=>rfl) (dS hc) (fun i hi=>by
  have hi:i<4:=hi
  match i,hi with
  |0,_=>exact oD
  |1,_=>exact oD
  |2,_=>exact oD
  |3,_=>exact oD)
 rw [kP h1,h2,h3,h4]
 rw [show (chB 1 10).n=4 from rfl,aiQ] at this
 exact ⟨this,Keep.app⟩
def ahn:jw:=Zk
theorem aec:iR prog ahn:=by
 intro f c U r h0
 have h:Zk f c U=some r:=h0
 clear h0
 revert h
 match c with
 |[v,u] =>
  intro h
  unfold Zk at h
  cases hf:Nat.beq f 242 with
  |true =>
   rw [hf] at h
   have a:=aM hf
   subst a
   simp only [cond_true,aL] at h
   obtain ⟨p,h1,h2⟩:=h
   rw [jJ h1]
   exact aiR h2
  |false =>
  rw [hf] at h
  simp only [cond_false] at h
  clear hf
  cases hf:Nat.beq f 87 with
  |true =>
   rw [hf] at h
   have a:=aM hf
   subst a
   simp only [cond_true,aL] at h
   obtain ⟨p,h1,h2⟩:=h
   rw [jJ h1]
   exact agf h2
  |false =>
  rw [hf] at h
  simp only [cond_false] at h
  clear hf
  cases hf:Nat.beq f 53 with
  |true =>
   rw [hf] at h
   have a:=aM hf
   subst a
   simp only [cond_true,aL,aO,aE] at h
   obtain ⟨x,h1,⟨h2,h3⟩,h4⟩:=h
   cases nJ h4
   obtain ⟨h5,h6⟩:=UW h1
   rw [h5,WB h3]
   have:=aaZ (i:=1) (cS:=x.2) (lH (h:=1) (m:=10) oD oD) h6 (show 1<4 by omega) h2
   rw [show (chB 1 10).n - (1+1)=4 - (1+1) from rfl,agd] at this
   exact ⟨this,Keep.refl⟩
  |false =>
  rw [hf] at h
  simp only [cond_false] at h
  clear hf
  simp only [aL,aO,aE,decide_eq_true_eq] at h
  obtain ⟨p,h1,⟨⟨⟨h2,h3⟩,h4⟩,h5⟩,h6⟩:=h
  have h2:=aM h2
  rw [jJ h1,h2]
  cases hf:Nat.beq f 112 with
  |true =>
   rw [hf] at h6
   have a:=aM hf
   subst a
   simp only [cond_true] at h6
   split at h6
   ·rename_i x hx
    cases nJ h6
    exact ⟨XB (lH oD oD) UR hx h3 h4 h5,Keep.refl⟩
   ·split at h6
    ·rename_i x hx
     cases nJ h6
     exact ⟨XB (lH oD oD) ad5 hx h3 h4 h5,Keep.refl⟩
    ·simp only [aL] at h6
     obtain ⟨x,hx,h7⟩:=h6
     cases nJ h7
     exact ⟨XB (lH oD oD) ad6 hx h3 h4 h5,Keep.refl⟩
  |false =>
   rw [hf] at h6
   simp only [cond_false] at h6
   clear hf
   cases hf:Nat.beq f 111 with
   |false=>rw [hf] at h6;cases h6
   |true =>
    rw [hf] at h6
    have a:=aM hf
    subst a
    simp only [cond_true,aL] at h6
    obtain ⟨x,hx,h7⟩:=h6
    cases nJ h7
    have hs:(pO u).toNat<=4:=oO
    have:=QE (lH (h:=1) (m:=10) oD oD) (wo hx) (sn:=(pO u).toNat) hs
    rw [UU hs] at this
    have e:u=.i ((pO u).toNat:Nat):=(QH h3).trans (congrArg (Value.int .i64) oO)
    rw [<- e] at this
    exact ⟨this,Keep.refl⟩
 |[v] =>
  intro h
  unfold Zk at h
  dsimp only at h
  cases hf:Nat.beq f 175 with
  |false =>
   rw [hf] at h
   simp only [cond_false] at h
   clear hf
   cases hf:Nat.beq f 86 with
   |true =>
    rw [hf] at h
    have a:=aM hf
    subst a
    simp only [cond_true,aL] at h
    obtain ⟨p,h1,h2⟩:=h
    rw [jJ h1]
    exact aiS h2
   |false =>
   rw [hf] at h
   simp only [cond_false] at h
   clear hf
   cases hf:Nat.beq f 114 with
   |false=>rw [hf] at h;cases h
   |true =>
    rw [hf] at h
    have a:=aM hf
    subst a
    cases h
    exact ⟨adJ,Keep.app⟩
  |true =>
   rw [hf] at h
   have a:=aM hf
   subst a
   simp only [cond_true] at h
   split at h
   ·rename_i x hx
    exact aeb (lH oD oD) hx h
   ·split at h
    ·rename_i x hx
     exact aeb (lH oD oD) hx h
    ·simp only [aL] at h
     obtain ⟨x,hx,h7⟩:=h
     exact aeb (lH oD oD) hx h7
 |[]=>intro h;cases h
 |_::_::_::_=>intro h;cases h
def aiT:Known:=⟨66,[],[],.bool true,[]⟩
theorem aa3:jF prog aiT:=⟨lT (orc:=ahn) tabOk aec mixed (n:=400) (lo:=0) oK,oK,oK⟩
attribute [local irreducible] dA bJ bK jh fQ dK eH bY eu aW dR dW
open Go.AH.Heat
theorem QN {A B:Prop} (k:B) (h:Hide B->A:=by intro z_;(repeat' (first|refine sCm ?_|(refine gU ?_;first|refine Iw ?_|refine sK0 ?_|(refine lM ?_;first|refine st (ji rfl rfl) rfl rfl ?_|refine st (jk rfl rfl) rfl rfl ?_))|(refine gG ?_;first|refine MB ?_|(refine cO ?_;refine pY rfl (aJ rfl (by rfl)) rfl rfl ?_)|refine FQ ?_|refine Qe rfl rfl ?_)|refine aG ?_));exact z_.h):A:=h ⟨k⟩
theorem XC (lo hi:Int):Ev prog 101 [.agg #[.i lo,.i hi]] [] (.bool (decide (0<=lo/\lo<=hi/\hi<=1000))) []:=by
 refine aH 0 18 func101 (h:=?_)
 by_cases h1:lo>=0
 ·by_cases h2:lo<=hi
  ·by_cases h3:hi<=1000
   ·refine QN ?_
    refine dG (.tmp rfl .nil) (.plain rfl rfl) ⟨?_,rfl⟩
    simp [jH,h1,h2,h3]
   ·refine QN ?_
    refine dG (.tmp rfl .nil) (.plain rfl rfl) ⟨?_,rfl⟩
    simp [jH,h1,h2,h3]
  ·refine QN ?_
   refine dG (.tmp rfl .nil) (.plain rfl rfl) ⟨?_,rfl⟩
   simp [jH,h2]
 ·refine QN ?_
  refine dG (.tmp rfl .nil) (.plain rfl rfl) ⟨?_,rfl⟩
  simp only [jH,Value.bool.injEq]
  rw [eq_comm,decide_eq_false_iff_not];omega
theorem LH {U:Heap} {lo hi:Int} (hni:Ni U):Ev prog 101 [.agg #[.i lo,.i hi]] U (.bool (decide (0<=lo/\lo<=hi/\hi<=1000))) U:=Ev.nil (XC lo hi) rfl rfl hni
theorem zu {A B:Prop} (k:B) (h:Hide B->A:=by intro z_;(repeat' (first|refine sCm ?_|(refine gU ?_;first|(refine cO ?_;first|refine st (aJ rfl (by first|exact ig rfl|exact aF a0|exact aF a1|exact aF a2)) rfl rfl ?_|refine st (bG rfl (by assumption)) rfl rfl ?_)|refine sK0 ?_|refine TL ?_|refine sK3 ?_|refine sK8 ?_)|(refine gG ?_;first|refine MB ?_|(refine cO ?_;refine pY rfl (aJ rfl (by first|exact ig rfl|exact aF a1|exact aF a2)) rfl rfl ?_)|(refine Fh ?_;refine pY rfl (uY rfl rfl (by omega) (by omega)) rfl rfl ?_)|refine FQ ?_|refine MC ?_)|(refine fU ?_;first|refine frA (aJ rfl (aF (aA a0))) rfl ?_ (hcs (by assumption))|refine frA (bD rfl) rfl ?_ (hcl (by assumption))|refine frA (iE rfl rfl (by omega)) rfl ?_ (hcl (by assumption))|refine frA (bG rfl (by exact hq1 _)) rfl ?_ rfl|refine frA (bG rfl (by exact hq2 _)) rfl ?_ rfl|refine frA (pJ rfl rfl (by omega) (by omega)) rfl ?_ (hcl (by assumption))|refine Qd ?_|(refine fSub ?_;refine frA (xG rfl rfl (by omega) (by omega)) rfl ?_)|(refine Fp ?_;refine frA (iU rfl rfl rfl) rfl ?_)|(refine DW ?_;first|refine frA (ji rfl rfl) rfl ?_|refine frA (jk rfl rfl) rfl ?_)|(refine zY ?_;refine Chain.fr1A (jG rfl) rfl rfl rfl ?_))|(refine fG ?_;first|refine frG (rfl) (by first|rfl|exact fE (by assumption)|exact bM (by assumption)) (aJ rfl (aF (aA a0))) (hcs (by assumption)) rfl ?_|refine frG (rfl) (by first|rfl|exact fE (by assumption)|exact bM (by assumption)) (bD rfl) (hcl (by assumption)) rfl ?_|refine frG (rfl) (by first|rfl|exact fE (by assumption)|exact bM (by assumption)) (aJ rfl (by exact hq3 _)) (rfl) rfl ?_|refine frG (rfl) (by first|rfl|exact fE (by assumption)|exact bM (by assumption)) (aJ rfl (by exact hq4 _)) (rfl) rfl ?_|refine frG (rfl) (by first|rfl|exact fE (by assumption)|exact bM (by assumption)) (bG rfl (by exact hq5 _)) (rfl) rfl ?_|refine frG (rfl) (by first|rfl|exact fE (by assumption)|exact bM (by assumption)) (pJ rfl rfl (by omega) (by omega)) (hcl (by assumption)) rfl ?_|(refine nH ?_;refine pR rfl (dY rfl) rfl ?_)|(refine fSub ?_;refine pR rfl (xG rfl rfl (by omega) (by omega)) rfl ?_)|(refine Fp ?_;refine pR rfl (iU rfl rfl rfl) rfl ?_)|(refine DW ?_;first|refine pR rfl (ji rfl rfl) rfl ?_|refine pR rfl (jk rfl rfl) rfl ?_)|(refine afb ?_;refine pR rfl (iV rfl) rfl ?_)|(refine qX ?_;refine pR rfl (bC rfl rfl rfl (by exact hf1 _ rfl)) rfl ?_)|refine ac0 rfl rfl ?_)|(refine fP ⟨by kernel_rfl,?_⟩)|refine bU (id:=7) ?_|refine bU (id:=12) ?_|refine bU (id:=13) ?_|refine aG ?_|refine Chain.WJ ?_|refine Chain.wR 13 [true,true] [.i (kf (x - 1)).2.1,.i (kf (x - 1)).2.2] (by kernel_rfl) (by kernel_rfl) (by kernel_rfl) (by kernel_rfl) rfl rfl (bW rfl rfl rfl rfl (by exact hp1)) ?_|refine Chain.wR 14 [true,true] [.i (kf x).2.1,.i (kf x).2.2] (by kernel_rfl) (by kernel_rfl) (by kernel_rfl) (by kernel_rfl) rfl rfl (bW rfl rfl rfl rfl (by exact hp2)) ?_|refine fA rfl ?_|refine fM rfl ?_));exact z_.h):A:=h ⟨k⟩
theorem aa4 {U:Heap} {b n c:Nat} {kf:Nat->Int×Int×Int} (hv:adk n kf) (hk:∀ q<n,aK U b (q*3) 3=some (jP (kf q))) (hni:Ni U) :
  Ev prog 43 [.agg #[.s b n c]] U (.i 0) U:=by
 have m:=hv.n1
 have hn2:=hv.n2
 have hbl:b < U.length:=dS (hk 0 m)
 refine aH U.length 104 func43 (h:=?_)
 have a0:(U++[aC.rw [.s b n c]])[U.length]?=some (.rw [.s b n c]):=aN
 have hn0:¬ (n:Int)<1:=oO
 have hn3:¬ (n:Int) > 12:=oO
 refine zu ?_
 refine dO (ι:=Nat) (fun k=>[(1,.p U.length),(3,.i (k:Nat))])
  (fun k mk H=>k<=n/\mk=[]/\H.take (U++[aC.rw [.s b n c]]).length=U++[aC.rw [.s b n c]]/\H.all (fun o=>!aU o)=true) (fun k=>n - k) 0 tE ⟨bL _,rfl,eb,aX hni rfl⟩ ?_
 clear a0
 rintro k mk H ⟨hkn,rfl,hp,f⟩
 have a:H.take U.length=U:=by
  have:=congrArg (List.take U.length) hp
  rw [eA] at this
  simpa using this
 have a0:H[U.length]?=some (.rw [.s b n c]):=by rw [jL hp oS];exact aN
 by_cases j:k<n
 ·have E:(k:Int)<(n:Nat):=oO
  have hd1:aK H b (0+k*3) 3=some (jP (kf k)):=by rw [aR];exact dJ a (hk k j)
  have t:=hv.k k j
  have w:0<=(kf k).2.1/\(kf k).2.1<=(kf k).2.2/\(kf k).2.2<=1000:=t.2.2.1
  refine zu ?_
  obtain ⟨H1,d⟩:=xy (H++[aC.rw (jP (kf k))])
  refine .mk (dB [(1,.p U.length),(3,.i (k:Nat)),(4,.p H.length)] H1 d.symm tE ?_)
  have F:=take_len a
  have hH1l:H1.length=H.length+1:=by rw [d];simp
  have u:b<H1.length:=oO
  have G:U.length<H1.length:=by have:=aS a0;omega
  have hs2:H.length<H1.length:=oO
  have hcl:∀ {q o:Nat},q<H1.length->closed H1.length (.pointer (some ⟨q,o,none⟩))=true:=fun {q o} h=>(show Nat.blt q H1.length=true from Nat.blt_eq.mpr h)
  have hcs:∀ {q o n c:Nat},q<H1.length->closed H1.length (.slice (some ⟨q,o,none⟩) n c)=true:=fun h=>cZ (Nat.blt_eq.mpr h)
  have b4:H1[H.length]?=some (.rw (jP (kf k))):=by rw [d];exact aN
  replace a0:H1[U.length]?=some (.rw [.s b n c]):=by rw [d];exact aA a0
  have hp1:H1.take (U++[aC.rw [.s b n c]]).length=U++[aC.rw [.s b n c]]:=by rw [d];exact aP hp
  have e:Ni H1:=by rw [d];exact aX f rfl
  have C:H1.take U.length=U:=by rw [d];exact aP a
  have hq3:∀ X,aI (H1++X) H.length 0=some (.i (kf k).1):=fun X=>aF (aA b4)
  have hq5:∀ X,aK (H1++X) H.length 1 2=some [.i (kf k).2.1,.i (kf k).2.2]:=fun X=>by
   unfold aK;rw [aA b4];rfl
  have hf1:∀ X,X.all (fun o=>!aU o)=true->Ev prog 101 [.agg #[.i (kf k).2.1,.i (kf k).2.2]] (H1++X) (.bool true) (H1++X):=fun X hX=>by
   have:=LH (U:=H1++X) (lo:=(kf k).2.1) (hi:=(kf k).2.2) (aX e hX)
   rwa [decide_eq_true w] at this
  have hg1:¬ (kf k).1 > 1000:=oO
  clear hd1 d
  by_cases v:k=0
  ·subst v
   have hz:=hv.z
   refine eY oK rfl (?_)
   refine zu ?_
   rw [show H1++gV (fun _=>true) []=H1 from bN H1]
   exact ⟨0+1,⟨oO,rfl,hp1,e⟩,oO,tE⟩
  ·obtain ⟨k',rfl⟩:∃ k',k=k'+1:=⟨k - 1,oO⟩
   have hlt:=(hv.k k' oO).2.2.2 j
   have hg0:((k'+1:Nat):Int) > 0:=oO
   have hle:¬ (kf (k'+1)).1<=(kf k').1:=oO
   have hq4:∀ X,aI (H1++X) b (0+(((k'+1:Nat):Int) - 1).toNat*3+0)=some (.i (kf k').1):=fun X=>by
    rw [show 0+(((k'+1:Nat):Int) - 1).toNat*3+0=k'*3+0 by omega]
    exact eX (k:=0) (dJ (aP C) (hk k' oO)) oO
   refine eY oK rfl (?_)
   refine zu ?_
   rw [show H1++gV (fun _=>true) []=H1 from bN H1]
   exact ⟨k'+1+1,⟨oO,rfl,hp1,e⟩,oO,tE⟩
 ·obtain rfl:k=n:=oO
  have E:¬ (k:Int)<(k:Nat):=oO
  refine zu ?_
  refine dO (ι:=Nat) (fun x=>[(1,.p U.length),(5,.i (x:Nat))])
   (fun x mk H=>1<=x/\x<=k/\mk=[]/\H.take (U++[aC.rw [.s b k c]]).length=U++[aC.rw [.s b k c]]) (fun x=>k - x) 1 tE ⟨aD _,m,rfl,hp⟩ ?_
  clear a0 a hp f H
  rintro x mk H ⟨hx1,hx,rfl,hp⟩
  have a:H.take U.length=U:=by
   have:=congrArg (List.take U.length) hp
   rw [eA] at this
   simpa using this
  have a0:H[U.length]?=some (.rw [.s b k c]):=by rw [jL hp oS];exact aN
  have F:=take_len a
  by_cases hxk:x<k
  ·have y:(x:Int)<(k:Nat):=oO
   refine zu ?_
   refine .mk (dB [(1,.p U.length),(5,.i (x:Nat))] H rfl tE ?_)
   have u:b<H.length:=oO
   have G:U.length<H.length:=aS a0
   have hcl:∀ {q o:Nat},q<H.length->closed H.length (.pointer (some ⟨q,o,none⟩))=true:=fun {q o} h=>(show Nat.blt q H.length=true from Nat.blt_eq.mpr h)
   have hcs:∀ {q o n c:Nat},q<H.length->closed H.length (.slice (some ⟨q,o,none⟩) n c)=true:=fun h=>cZ (Nat.blt_eq.mpr h)
   have hq1:∀ X,aK (H++X) b (0+((x:Int) - 1).toNat*3+1) 2=some [.i (kf (x - 1)).2.1,.i (kf (x - 1)).2.2]:=fun X=>by
    rw [show 0+((x:Int) - 1).toNat*3+1=(x - 1)*3+1 by omega]
    exact wW (dJ (aP a) (hk (x - 1) oO))
   have hq2:∀ X,aK (H++X) b (0+x*3+1) 2=some [.i (kf x).2.1,.i (kf x).2.2]:=fun X=>by
    rw [aR]
    exact wW (dJ (aP a) (hk x oO))
   have hp1:putCells (H++[aC.rw [.i 0,.i 0],aC.rw [.i 0,.i 0]]) (H.length+0) 0 [.i (kf (x - 1)).2.1,.i (kf (x - 1)).2.2]=some (H++[aC.rw [.i (kf (x - 1)).2.1,.i (kf (x - 1)).2.2],aC.rw [.i 0,.i 0]]):=by
    refine (fF (cs:=[.i 0,.i 0]) (cs':=[.i (kf (x - 1)).2.1,.i (kf (x - 1)).2.2]) oS oS oS rfl).trans ?_
    simp
   have hp2:putCells (H++[aC.rw [.i (kf (x - 1)).2.1,.i (kf (x - 1)).2.2],aC.rw [.i 0,.i 0]]) (H.length+1) 0 [.i (kf x).2.1,.i (kf x).2.2]=some (H++[aC.rw [.i (kf (x - 1)).2.1,.i (kf (x - 1)).2.2],aC.rw [.i (kf x).2.1,.i (kf x).2.2]]):=by
    refine (fF (cs:=[.i 0,.i 0]) (cs':=[.i (kf x).2.1,.i (kf x).2.2]) oS oS oS rfl).trans ?_
    simp
   refine Chain.BA (id:=12) oK rfl (?_)
   refine zu ?_
   refine .mk (dB [(1,.p U.length),(5,.i (x:Nat)),(6,.p H.length),(7,.p (H.length+1))] (H++[aC.rw [.i (kf (x - 1)).2.1,.i (kf (x - 1)).2.2],aC.rw [.i (kf x).2.1,.i (kf x).2.2]]) rfl tE ?_)
   obtain ⟨H2,g⟩:=xy (H++[aC.rw [.i (kf (x - 1)).2.1,.i (kf (x - 1)).2.2],aC.rw [.i (kf x).2.1,.i (kf x).2.2]])
   rw [<- g]
   have a1:H2[H.length]?=some (aC.rw [.i (kf (x - 1)).2.1,.i (kf (x - 1)).2.2]):=by rw [g];simp
   have a2:H2[H.length+1]?=some (aC.rw [.i (kf x).2.1,.i (kf x).2.2]):=by rw [g];simp
   have D:H2.take (U++[aC.rw [.s b k c]]).length=U++[aC.rw [.s b k c]]:=by rw [g];exact aP hp
   clear hp1 hp2 hq1 hq2 hcl hcs a0 g
   have hr:=hv.r (x - 1) oO
   rw [show x - 1+1=x by omega] at hr
   have t:0<=(kf (x - 1)).2.1/\(kf (x - 1)).2.1<=(kf (x - 1)).2.2/\(kf (x - 1)).2.2<=1000:=(hv.k (x - 1) oO).2.2.1
   have h1:¬ (kf x).2.1<(kf (x - 1)).2.1:=oO
   have h2:¬ (kf x).2.2<(kf (x - 1)).2.2:=oO
   have h3:¬ (kf x).2.1 > (kf (x - 1)).2.2+1:=oO
   apply aG
   refine zu ?_
   exact ⟨x+1,⟨oO,oO,rfl,D⟩,oO,tE⟩
  ·obtain rfl:x=k:=oO
   have y:¬ (x:Int)<(x:Nat):=oO
   refine zu ?_
   exact dG (.tmp rfl .nil) (.plain a rfl) ⟨rfl,rfl⟩
theorem zx {A B:Prop} (k:B) (h:Hide B->A:=by intro z_;(repeat' (first|refine sCm ?_|(refine gU ?_;first|(refine cO ?_;first|refine st (aJ rfl (by first|exact ig rfl|exact aF a0|exact hd1)) rfl rfl ?_|refine st (bG rfl (by first|exact hd1|exact hd2)) rfl rfl ?_)|refine sK0 ?_|refine TL ?_|(refine rW ?_;refine st (iV rfl) rfl rfl ?_)|(refine gIA ?_;first|refine st (qR rfl rfl (by omega)) rfl rfl ?_|refine st (iE rfl rfl (by omega)) rfl rfl ?_)|(refine dV ?_;refine st (bC rfl rfl rfl (by exact hf1)) rfl rfl ?_))|(refine gG ?_;first|refine Ko ?_|refine MB ?_|(refine cO ?_;refine pY rfl (aJ rfl (by first|exact ig rfl|exact aF a0|exact hd1)) rfl rfl ?_)|refine FQ ?_|refine MC ?_|(refine gIA ?_;refine pY rfl (qR rfl rfl (by omega)) rfl rfl ?_))|refine aG ?_|refine fA rfl ?_|refine fM rfl ?_));exact z_.h):A:=h ⟨k⟩
theorem UZ {U:Heap} {W:Wk} {bB bS cB cS:Nat} {wB cW:Nat->Nat} {kB cK:Nat->Nat->Nat} (hv:Dj W) (hA:Di U W bB bS wB cW kB cK) (hni:Ni U) :
  Ev prog 76 [.agg #[.s bB W.nb cB,.s bS W.ns cS]] U (.i 0) U:=by
 have h1:=hv.b1
 have h2:=hv.b2
 have h3:=hv.s
 refine aH U.length 101 func76 (h:=?_)
 have a0:(U++[aC.rw [.s bB W.nb cB,.s bS W.ns cS]])[U.length]?=some (.rw [.s bB W.nb cB,.s bS W.ns cS]):=aN
 have hp:(U++[aC.rw [.s bB W.nb cB,.s bS W.ns cS]]).take U.length=U:=oS
 have d:(U++[aC.rw [.s bB W.nb cB,.s bS W.ns cS]]).all (fun o=>!aU o)=true:=aX hni rfl
 have e:=hA.take hp
 have hn0:¬ (W.nb:Int)<1:=oO
 have hn3:¬ (W.nb:Int) > 6:=oO
 have hn4:¬ (W.ns:Int) > 6:=oO
 refine zx ?_
 obtain ⟨K,hK⟩:=xy (U++[aC.rw [.s bB W.nb cB,.s bS W.ns cS]])
 rw [<- hK] at a0 hp d e
 refine dO (ι:=Nat) (fun k=>[(1,.p U.length),(3,.i (k:Nat))]) (fun k mk H=>k<=W.ns/\mk=[]/\H=K) (fun k=>W.ns - k) 0 tE ⟨bL _,rfl,hK.symm⟩ ?_
 rintro k mk H ⟨hk,rfl,rfl⟩
 by_cases a:k<W.ns
 ·have f:(k:Int)<(W.ns:Nat):=oO
  have hd1:aI H bS (k+0)=some (.s (wB k) (W.nw k) (cW k)):=eX (k:=0) (e.steps k a) oO
  have hw1:¬ ((W.nw k:Nat):Int)<1:=by have:=hv.w1 k a;omega
  have n:¬ ((W.nw k:Nat):Int) > 5:=by have:=hv.w2 k a;omega
  refine zx ?_
  exact ⟨k+1,⟨oO,rfl,rfl⟩,oO,tE⟩
 ·obtain rfl:k=W.ns:=oO
  have f:¬ ((W.ns:Nat):Int)<(W.ns:Nat):=oO
  refine zx ?_
  refine dO (ι:=Nat) (fun k=>[(1,.p U.length),(4,.i (k:Nat))]) (fun k mk K=>k<=W.nb/\mk=[]/\K=H) (fun k=>W.nb - k) 0 tE ⟨bL _,rfl,rfl⟩ ?_
  rintro k mk K ⟨hk,rfl,rfl⟩
  by_cases a:k<W.nb
  ·have f:(k:Int)<(W.nb:Nat):=oO
   have hd1:aK K bB (0+k*2) 2=some [.i (W.bf k).1,.i (W.bf k).2]:=by rw [aR];exact e.bars k a
   have hf1:=LH (U:=K) (lo:=(W.bf k).1) (hi:=(W.bf k).2) d
   have j:0<=(W.bf k).1/\(W.bf k).1<=(W.bf k).2/\(W.bf k).2<=1000:=hv.b k a
   rw [decide_eq_true j] at hf1
   refine zx ?_
   exact ⟨k+1,⟨oO,rfl,rfl⟩,oO,tE⟩
  ·obtain rfl:k=W.nb:=oO
   have f:¬ ((W.nb:Nat):Int)<(W.nb:Nat):=oO
   refine zx ?_
   refine dO (ι:=Nat) (fun i=>[(1,.p U.length),(5,.i (i:Nat))]) (fun i mk H=>i<=W.ns/\mk=[]/\H=K) (fun i=>W.ns - i) 0 tE ⟨bL _,rfl,rfl⟩ ?_
   rintro i mk H ⟨hi,rfl,rfl⟩
   by_cases g:i<W.ns
   ·have m:(i:Int)<(W.ns:Nat):=oO
    have hd1:aI H bS (i+0)=some (.s (wB i) (W.nw i) (cW i)):=eX (k:=0) (e.steps i g) oO
    refine zx ?_
    refine dO (ι:=Nat) (fun k=>[(1,.p U.length),(5,.i (i:Nat)),(6,.i (k:Nat))]) (fun k mk K=>k<=W.nw i/\mk=[]/\K=H) (fun k=>W.nw i - k) 0 tE ⟨bL _,rfl,rfl⟩ ?_
    rintro k mk K ⟨hk,rfl,rfl⟩
    by_cases a:k<W.nw i
    ·have n:=hv.w2 i g
     have f:(k:Int)<(W.nw i:Nat):=oO
     have hd2:aK K (wB i) k 1=some [.s (kB i k) (W.nk i k) (cK i k)]:=e.ways i g k a
     have hf1:=aa4 (U:=K) (b:=kB i k) (c:=cK i k) (hv.k i g k a) (e.kinks i g k a) d
     refine zx ?_
     exact ⟨k+1,⟨oO,rfl,rfl⟩,oO,tE⟩
    ·obtain rfl:k=W.nw i:=oO
     have f:¬ ((W.nw i:Nat):Int)<(W.nw i:Nat):=oO
     refine zx ?_
     exact ⟨i+1,⟨oO,rfl,rfl⟩,oO,tE⟩
   ·obtain rfl:i=W.ns:=oO
    have m:¬ ((W.ns:Nat):Int)<(W.ns:Nat):=oO
    refine zx ?_
    exact dG (.tmp rfl .nil) (.plain hp rfl) ⟨rfl,rfl⟩
end Go.Proofs.YtajpgeklmcjciaaGreat
