/- More arguments of a law: six of them; arrays of two or three small numbers. -/
import Derived.Test.YtajpgeklmcjciaaGreatPxQ6
import Derived.Test.YtajpgeklmcjciaaGreatPxMM
import Derived.Test.YtajpgeklmcjciaaGreatPxQ1
import Derived.Deep.Slices
import Derived.OpenShut
set_option maxRecDepth 100000
set_option maxHeartbeats 1000000
namespace Go.AH
open Go
theorem IX {P:Program} {n0 N:Nat} {rd:Option Nat} {c:Code} {Q:Post} {e:Env} {mk:List Nat} {σ:Heap} (Q1:Env→List Nat→Heap→Prop)
  (h:bP P n0 N rd c (fun ex e mk s=>(ex=.normal∧Q1 e mk s)∨Q ex e mk s) e mk σ) (k:∀ e mk s,Q1 e mk s→Q .normal e mk s):bP P n0 N rd c Q e mk σ :=
 h.mono fun ex e mk s hq=>by
  rcases hq with ⟨rfl,h⟩|h
  ·exact k _ _ _ h
  ·exact h
theorem vJ {P:Program} {e:Env} {s f off t size bytes i o:Nat} {agg:Bool} {z:Value} {ty:TypeId} {x:Operand} [hf:Fld P s f off t] [ht:Ty P t (size+1) agg z bytes] (h:aP e x=some (.pointer (some ⟨i,o,none⟩))):U3 P (.fieldAddr s x f) ty e (.pointer (some ⟨i,o+off,none⟩)) :=
 ⟨fun o ho w ev=>by simp [Oper.about,ho],fun op ho _ n ρ ev c=>by
  obtain ⟨a,hi⟩:=nV (c x (by simp [Op.operands]) _ h)
  obtain ⟨fs,fl,h1,h2,rfl,rfl⟩:=hf.und
  refine ⟨.pointer (some ⟨(ρ i).b,(ρ i).o+(o+fl.offset),none⟩),fun w=>?_,.ptr _ _ hi⟩
  simp [execOp,ho,a,Instr.fieldAt,Instr.sureAddr,lG h1,h2,fieldPlace,ht.sizeOf,addr_add,cF]⟩
theorem IY {P:Program} {e:Env} {t el size bytes i o n c:Nat} {agg:Bool} {z:Value} {k:IntKind} {j:Int} {ty:TypeId} {x y:Operand} [ha:Sl P t el] [ht:Ty P el size agg z bytes] (h:aP e x=some (.slice (some ⟨i,o,none⟩) n c)) (hy:aP e y=some (.int k j))
  (h0:0≤j) (h1:j<n):U3 P (.indexAddr t x y) ty e (.pointer (some ⟨i,o+j.toNat*size,none⟩)) :=
 ⟨fun o ho w ev=>by simp [Oper.about,ho],fun op ho _ q ρ ev a=>by
  have hv:=a x (by simp [Op.operands]) _ h
  have hi:=bJ (a y (by simp [Op.operands]) _ hy) rfl
  generalize hr:ev x=r at hv
  cases hv with
  |emptySlice=>omega
  |slice _ _ _ _ c' hc hil =>
   refine ⟨.pointer (some ⟨(ρ i).b,(ρ i).o+(o+j.toNat*size),none⟩),fun w=>?_,.ptr _ _ hil⟩
   simp [execOp,ho,hr,hi,Instr.indexAt,asIntOf,lG ha.und,h0,h1,ht.sizeOf,addr_add,cF]
  |sliceG _ _ _ _ _ _ _ _ hq=>simp at hq⟩
theorem mD.upd {n0:Nat} {σ σ2:Heap} {e e2:Env} (hn0:n0≤σ2.length) (hl:σ2.length=σ.length)
  (ho:(∀ (i:Nat) (o:aB),σ[i]?=some o→gq σ.length o)→∀ (i:Nat) (o2:aB),σ2[i]?=some o2→σ[i]?=some o2∨yC σ σ.length (fun i=>⟨i,0,0⟩) ⟨i,0,0⟩ o2)
  (he:Fb σ.length (fun i=>⟨i,0,0⟩) e e2):mD n0 σ σ2 e e2 :=
 .inr fun a=>⟨fun i=>⟨i,0,0⟩,⟨hn0,fun _ _=>rfl,fun i o2 h=>by
  rw [hl]
  rcases ho a i o2 h with h|h
  ·exact mW (m:=σ.length) (fun _ _=>rfl) (aD _) (aQ h) h (a i o2 h)
  ·exact h,fun i j _ _ _ _ _ _ h=>h⟩,by rw [hl];exact y9 he⟩
end Go.AH
namespace Go.Proofs.YtajpgeklmcjciaaGreat
open Go Go.AH
attribute [local irreducible] dA bP bT jL gX dQ fF bZ fB aY dY fA
open Go.AH.Heat Go.AH.Warp
theorem Qs {σ:Heap} {y i:Nat} {l:List Int} (h:dP σ y (ints l)) (hi:i<l.length):aH σ y i=some (.i (gi l i)):=by
 have h1:=ig hi
 rcases h with h|h|⟨t,h⟩ <;> simpa [aH,h] using h1
def sD (kb:Nat→Nat) (n:Nat):List Value:=(List.range n).map fun j=>.slice (some ⟨kb j,0,none⟩) 12 12
theorem Og (kb:Nat→Nat) (n:Nat):(sD kb n).length=n*1:=by simp [sD]
theorem aad {kb:Nat→Nat} {n b:Nat}:sD (fun j=>if j=n then b else kb j) (n+1)=sD kb n++[.s b 12 12]:=by
 unfold sD
 rw [fy,eC]
 congr 1
 ·refine eD fun j hj=>?_
  have:=List.mem_range.1 hj
  simp [show j ≠ n by omega]
 ·simp
theorem Ut {H:Heap} {b n k:Nat} {kb:Nat→Nat} (h:H[b]?=some (.rw (sD kb n))) (hk:k<n):aK H b k 1=some [.s (kb k) 12 12]:=by
 have hl:=Og kb n
 unfold aK
 rw [h]
 have hb:Nat.ble (k+1) (sD kb n).length=true:=by rw [hl,Nat.ble_eq];omega
 have hd:((sD kb n).drop k).take 1=[.s (kb k) 12 12]:=by
  rw [List.drop_eq_getElem_cons oO]
  simp [sD]
 simp only [hb,cond_true,hd]
theorem pU {A B:Prop} (k:B) (h:Hide B→A:=by intro h_k_;(repeat' (first|refine sCm ?_|(refine gU ?_;first|refine st (tq (by rfl) (by rfl) (by rfl) (by rfl) rfl rfl) rfl rfl ?_|(refine bW ?_;first|refine st (aJ rfl (by first|exact hd1|exact hd2)) rfl rfl ?_|refine st (bD rfl (by first|exact aV a6 rfl|exact aV a7 rfl|exact aV (aA a7) rfl|exact hd1|exact dX rfl)) rfl rfl ?_)|(refine yD ?_;refine st (kK rfl rfl (by omega) (by omega)) rfl rfl ?_)|(refine CJ ?_;refine st (jB rfl rfl (by omega) (by omega)) rfl rfl ?_)|(refine aat ?_;refine st (zX rfl rfl (by omega) (by omega)) rfl rfl ?_)|(refine nK ?_;first|refine st (UJ rfl rfl (by omega)) rfl rfl ?_|refine st (UH rfl rfl (by omega)) rfl rfl ?_)|(refine kQ ?_;first|refine st (lu rfl (by first|rfl|exact dW (by assumption)) rfl) rfl rfl ?_|refine st (jK rfl (by first|rfl|exact bM (by assumption)) rfl) rfl rfl ?_)|(refine rV ?_;refine st (lH rfl) rfl rfl ?_)|(refine gIA ?_;first|refine st (iw rfl rfl (by omega)) rfl rfl ?_|refine st (eY rfl rfl (by omega)) rfl rfl ?_)|(refine aau ?_;refine st (sG rfl rfl) rfl rfl ?_)|(refine gConv ?_;refine st (Sv rfl (by omega) (by omega)) rfl rfl ?_)|(refine oQ ?_;refine st (iE (by rfl) rfl (by rfl)) rfl rfl ?_)|(refine eG ?_;refine st (bH rfl rfl rfl (by first|exact hf1|exact hf2|exact hf3)) rfl rfl ?_)|(refine lV ?_;refine st (fO (by rfl) (by rfl) (by rfl) (by rfl) rfl (by rfl)) rfl rfl ?_)|(refine dZ ?_;refine stN (bF rfl rfl rfl rfl (by first|exact hputB _ _|exact vX rfl rfl)) rfl ?_))|(refine gG ?_;first|(refine kP ?_;refine stG rfl (by first|rfl|exact bM (by assumption)) (bV rfl) rfl rfl ?_)|(refine gFA ?_;refine stG rfl (by first|rfl|exact bM (by assumption)) (aW rfl) rfl rfl ?_)|(refine bW ?_;first|refine stG rfl (by first|rfl|exact bM (by assumption)) (aJ rfl (by first|exact iG rfl|exact aF a7)) rfl rfl ?_|refine stG rfl (by rfl) (bD rfl (by exact aV a7 rfl)) rfl rfl ?_)|(refine yD ?_;refine stG rfl (by exact bM (by assumption)) (kK rfl rfl (by omega) (by omega)) rfl rfl ?_)|(refine nK ?_;refine stG rfl (by first|rfl|exact bM (by assumption)) (fE rfl rfl rfl) rfl rfl ?_)|(refine wY ?_;refine stG rfl (by first|rfl|exact bM (by assumption)) (jC rfl) rfl rfl ?_)|(refine eG ?_;refine stG rfl (by first|rfl|exact dW (by assumption)) (bH rfl rfl rfl (by exact hf2)) rfl rfl ?_)|refine stS rfl (by first|rfl|exact dW (by assumption)) rfl ?_)|(refine fU ?_;first|refine jM ?_;refine frA (bV rfl) rfl ?_ hcls|refine fFA ?_;refine frA (aW rfl) rfl ?_ hclp|refine fFA ?_;refine frA (aW rfl) rfl ?_ hclg|refine fIA ?_;refine frA (eY rfl rfl (by omega)) rfl ?_ hclg|refine gY ?_;refine frA (aJ rfl (by exact hqo _)) rfl ?_ rfl|refine gY ?_;refine frA (aJ rfl (by exact hqf _)) rfl ?_ rfl|refine fConv ?_;refine frA (Sv rfl (by omega) (by omega)) rfl ?_ rfl|(refine jM ?_;refine fr (bV rfl) (by rfl) rfl ?_)|(refine Ip ?_;refine fr (iZ rfl) (by rfl) rfl ?_)|(refine fAdd ?_;refine fr (kK rfl rfl (by omega) (by omega)) (by rfl) rfl ?_)|(refine fSub ?_;refine fr (jB rfl rfl (by omega) (by omega)) (by rfl) rfl ?_)|(refine fMul ?_;refine fr (zX rfl rfl (by omega) (by omega)) (by rfl) rfl ?_)|(refine EZ ?_;first|refine fr (UJ rfl rfl (by omega)) (by rfl) rfl ?_|refine fr (Ak rfl rfl (by omega) (by omega) (by omega)) (by rfl) rfl ?_)|(refine UO ?_;refine fr (sG rfl rfl) (by rfl) rfl ?_)|(refine E5 ?_;refine fr (iE (by rfl) rfl (by rfl)) (by rfl) rfl ?_)|(refine Ae ?_;refine fr1 (lU rfl) rfl rfl rfl ?_))|(refine gu ⟨by kernel_rfl,?_⟩)|refine dD (id:=13) ?_|refine dD (id:=15) ?_|refine dD (id:=16) ?_|refine dD (id:=20) ?_|refine dD (id:=22) ?_|refine dD (id:=23) ?_|refine dD (id:=24) ?_|refine dD (id:=26) ?_|refine dD (id:=28) ?_|refine dD (id:=29) ?_|refine dD (id:=30) ?_|refine aG ?_|refine aez (t:=66) ?_|refine jc rfl (by first|rfl|exact dW (by assumption)) ?_|refine iM rfl (by first|rfl|exact bM (by assumption)) ?_));exact h_k_.h):A:=h ⟨k⟩
set_option maxHeartbeats 4000000 in
theorem Qu {σ:Heap} {s:St} {l:List Int} {pl:List (Int×Int)} {x y c c2:Nat} {run len off:Int} (hx:dP σ x (ints l)) (hy:dP σ y (dK pl)) (hsr:-9223372036854775808≤s.short∧s.short≤9223372036854775807)
  (hrun:0≤run∧run≤255) (hlen:0≤len∧len≤4294967295) (hoff:0≤off∧off≤4294967295) (hni:σ.all (fun o=>!aU o)=true) :
  Ev Tryz.prog 3 [s.val,.s x l.length c,.s y pl.length c2,.int .u8 run,.int .u32 len,.int .u32 off] σ (.bool true) σ:=by
 refine aI σ.length 312 Tryz.func3 rfl rfl rfl rfl rfl ?_
 have hxl:=jR hx
 have hyl:=jR hy
 obtain ⟨H,hH⟩:∃ H,H=σ++[aB.rw s.cells]:=⟨_,rfl⟩
 have hp:H.take σ.length=σ:=by rw [hH];simp
 have d:H.all (fun o=>!aU o)=true:=by rw [hH];exact bG hni rfl
 have a6:H[σ.length]?=some (.rw s.cells):=by rw [hH];exact aO
 have F:=jT hp hx
 have b8:=jT hp hy
 have hf1:=WJ (s:=s) (c:=c) F d
 have hf2:=Dv d
 by_cases h1:l.length≤20∧iL s l=0
 ·rw [decide_eq_true h1] at hf1
  obtain ⟨h12,hl1,hs,ds⟩:=nR h1.2
  have an:=JY ds
  have dm:1≤s.short∧s.short≤s.long∧s.long≤100000∧0≤s.off∧s.off<s.short:=by unfold fD at hs;omega
  by_cases h2:(l.length:Int) > 5
  ·rw [hH] at hf1 hf2
   refine pU ?_
   exact dM (.tmp rfl .nil) (.plain oS rfl) ⟨rfl,rfl⟩
  ·by_cases h3:(pl.length:Int) > 20
   ·rw [hH] at hf1 hf2
    refine pU ?_
    exact dM (.tmp rfl .nil) (.plain oS rfl) ⟨rfl,rfl⟩
   ·by_cases h4:s.long+s.off > 100000
    ·rw [hH] at hf1 hf2
     refine pU ?_
     exact dM (.tmp rfl .nil) (.plain oS rfl) ⟨rfl,rfl⟩
    ·have hf3:=Lj (s:=s) (c:=c) (c2:=c2) F b8 d
     rw [hH] at hf1 hf2 hf3
     refine pU ?_
     clear hf1 hf2 hf3
     refine ⟨dJ [(1,.s x l.length c),(3,.int .u8 run),(4,.int .u32 len),(5,.int .u32 off),(6,.p σ.length),(12,.bool false),(13,.s y pl.length c2),(66,.bool (decide (sZ s l pl ≠ 0)))] H hH.symm tE ?_⟩
     refine IX (fun e mk K=>mk=[]∧∃ (py pc:Nat) (p:List (Int×Int)),rJ e [(1,.s x l.length c),(3,.int .u8 run),(4,.int .u32 len),(5,.int .u32 off),(6,.p σ.length),(13,.s py p.length pc)]∧K.take σ.length=σ∧K[σ.length]?=some (.rw s.cells)∧dP K py (dK p)∧K.all (fun o=>!aU o)=true∧sZ s l p=0) ?_ ?_
     ·by_cases ca:sZ s l pl=0
      ·refine iM rfl (decide_eq_false fun h=>h ca) ?_
       refine pU ?_
       exact .inl ⟨rfl,rfl,y,c2,pl,tE,hp,a6,b8,d,ca⟩
      ·have hf1:=SL (s:=s) (l:=l) (c:=c) F oO hsr d
       refine jc rfl (decide_eq_true ca) ?_
       by_cases Q:zL s l=0
       ·have bs:¬ zL s l ≠ 0:=fun h=>h Q
        refine pU ?_
        exact .inl ⟨rfl,rfl,H.length,_,wQ s l,tE,aT hp,aA a6,.inr (.inl aO),bG d rfl,(VK h1.2 Q).right h1.2⟩
       ·have bs:zL s l ≠ 0:=Q
        have hpe3:zL s l=19:=by
         unfold zL at Q ⊢
         rw [if_neg (by simp [h1.2])] at Q ⊢
         split at Q
         ·exact absurd rfl Q
         ·rename_i hx;rw [if_neg hx]
        have hf2:=Dv (σ:=H++[aB.rw (dK (wQ s l))]) (bG d rfl)
        refine pU ?_
        refine .inr ?_
        refine pU ?_
        exact dM (.tmp rfl .nil) (.plain (aT hp) rfl) ⟨rfl,rfl⟩
     ·rintro e mk K ⟨rfl,py,pc,p,hE,bg,b6,b3,E,cb⟩
      clear a6 F b8 d hp hH H
      have a6:=b6
      have ap:=jT bg hx
      obtain ⟨c1,c2',c3,c4,c5⟩:=AP cb
      obtain ⟨i,hi⟩:∃ i:Nat,i=(run.tmod (p.length:Int)).toNat:=⟨_,rfl⟩
      have bd:run.tmod (p.length:Int)=(i:Int):=by rw [hi,Int.tmod_eq_emod_of_nonneg hrun.1];have:=Int.emod_nonneg run (show (p.length:Int) ≠ 0 by omega);omega
      have r:i<p.length:=by
       have:=Int.emod_lt_of_pos run (show (0:Int)<(p.length:Int) by omega)
       rw [Int.tmod_eq_emod_of_nonneg hrun.1] at bd;omega
      clear hi
      have hb:∀ j<p.length,-1000000≤(gp p j).1∧(gp p j).1≤1000000:=fun j hj=>by have:=oz c4 j hj;omega
      have dj:=oz c4 i r
      have cy:=PI dm.2.1 c4 r
      have hf1:=Qp (s:=s) (c:=c) (c2:=pc) ap b3 hsr cb E
      have hf2:=Lj (σ:=K++[aB.rw [.i (Gt s l p).1,.i (Gt s l p).2]]) (s:=s) (c:=c) (c2:=pc) (qp ap) (qp b3) (bG E rfl)
      rw [cb] at hf2
      have a7:(K++[aB.rw [.i (Gt s l p).1,.i (Gt s l p).2]])[σ.length]?=some (.rw s.cells):=aA a6
      refine uX ?_
      refine dJ _ K rfl hE ?_
      refine pU ?_
      clear hf1 hf2 a7
      obtain ⟨K1,M⟩:∃ K1,K1=K++[aB.rw [.i (Gt s l p).1,.i (Gt s l p).2]]:=⟨_,rfl⟩
      obtain ⟨vb,au⟩:∃ vb,vb=K.length:=⟨_,rfl⟩
      refine .mk (dJ [(1,.s x l.length c),(4,.int .u32 len),(5,.int .u32 off),(6,.p σ.length),(13,.s py p.length pc),(16,.p vb),(18,.i (i:Nat))] K1 M.symm ⟨rfl,rfl,rfl,rfl,rfl,congrArg (fun n=>some (Value.p n)) au.symm,congrArg (fun x=>some (Value.i x)) bd,trivial⟩ ?_)
      have du:K1.take σ.length=σ:=by rw [M];exact aT bg
      have b0:K1[σ.length]?=some (.rw s.cells):=by rw [M];exact aA a6
      have b4:K1[vb]?=some (.rw [.i (Gt s l p).1,.i (Gt s l p).2]):=by rw [M,au];exact aO
      have b5:dP K1 x (ints l):=by rw [M];exact qp ap
      have z:dP K1 py (dK p):=by rw [M];exact qp b3
      have ah:K1.all (fun o=>!aU o)=true:=by rw [M];exact bG E rfl
      have hvl:σ.length+1≤vb:=by rw [au];exact aQ a6
      clear au M a6 b6 ap b3 E bg hE bd K
      have a6:=b0
      have hf1:=Ny (s:=s) (c:=pc) z r oO hb ah
      obtain ⟨fm,a3⟩:∃ fm,fm=(gp p i).1:=⟨_,rfl⟩
      have hd1:aH K1 py (0+i*2+0)=some (.i fm):=by rw [a3];exact IU z r
      obtain ⟨en,d5⟩:∃ en,en=wP s.short p i:=⟨_,rfl⟩
      rw [← d5] at hf1 cy
      rw [← a3] at cy dj
      obtain ⟨mm,d0⟩:∃ mm,mm=en+len.tmod (fm - en+1):=⟨_,rfl⟩
      have hmr:en≤mm∧mm≤fm:=by
       rw [d0,Int.tmod_eq_emod_of_nonneg hlen.1]
       have h1:=Int.emod_nonneg len (show (fm - en+1:Int) ≠ 0 by omega)
       have h2:=Int.emod_lt_of_pos len (show (0:Int)<fm - en+1 by omega)
       omega
      obtain ⟨tr,db⟩:∃ tr,tr=mm - s.off+off.tmod (2*s.off+1):=⟨_,rfl⟩
      have htrr:mm - s.off≤tr∧tr≤mm+s.off:=by
       rw [db,Int.tmod_eq_emod_of_nonneg hoff.1]
       have h1:=Int.emod_nonneg off (show (2*s.off+1:Int) ≠ 0 by omega)
       have h2:=Int.emod_lt_of_pos off (show (0:Int)<2*s.off+1 by omega)
       omega
      have q1:0≤len.tmod (fm - en+1)∧len.tmod (fm - en+1)≤1000000:=oO
      have q2:0≤off.tmod (2*s.off+1)∧off.tmod (2*s.off+1)≤1000000:=oO
      apply aG
      refine pU ?_
      have hclp:∀ {o:Nat},closed K1.length (.pointer (some ⟨σ.length,o,none⟩))=true:=fun {o}=>Nat.blt_eq.mpr (aQ b0)
      have hcls:∀ {o n c:Nat},closed K1.length (.slice (some ⟨py,o,none⟩) n c)=true:=fun {o n c}=>bQ (Nat.blt_eq.mpr (jR z))
      have T:∀ {o n c:Nat},closed K1.length (.slice (some ⟨x,o,none⟩) n c)=true:=fun {o n c}=>bQ (Nat.blt_eq.mpr (jR b5))
      have hclg:∀ {o:Nat},closed K1.length (.pointer (some ⟨py,o,none⟩))=true:=fun {o}=>Nat.blt_eq.mpr (jR z)
      have hqo:∀ X,aH (K1++X) σ.length (0+2)=some (.i s.off):=fun X=>aF (aA b0)
      have hqf:∀ X,aH (K1++X) py (0+i*2+0)=some (.i fm):=fun X=>by rw [a3];exact IU (qp z) r
      refine .mk (dI oK rfl (?_))
      refine pU ?_
      refine .mk (dJ [(1,.s x l.length c),(6,.p σ.length),(13,.s py p.length pc),(16,.p vb),(18,.i (i:Nat)),(19,.i en),(21,.i tr)] K1 (bL K1) ⟨rfl,rfl,rfl,rfl,rfl,rfl,congrArg (fun x=>some (Value.i x)) (by rw [db,d0]),trivial⟩ ?_)
      clear hd1 hf1 hqo hqf hclp hcls T hclg
      apply aG
      refine pU ?_
      refine dV (ι:=Nat×Nat×(Nat→Nat)) (fun k=>[(1,.s x l.length c),(6,.p σ.length),(13,.s py p.length pc),(16,.p vb),(18,.i (i:Nat)),(19,.i en),(21,.i tr),(22,.p K1.length),(23,.i (k.1:Nat))])
       (fun k mk H=>k.1≤l.length∧mk=[]∧H.take K1.length=K1∧H.all (fun o=>!aU o)=true∧(∀ j<k.1,H[k.2.2 j]?=some (.rw (ku (iY (gi l j)) 12)))∧((k.1=0∧H[K1.length]?=some (.rw [.slice none 0 0]))∨(0<k.1∧K1.length+1≤k.2.1∧H[K1.length]?=some (.rw [eu k.2.1 1 k.1])∧H[k.2.1]?=some (.gr (sD k.2.2 k.1) 45)))) (fun k=>l.length - k.1) (0,0,fun _=>0) tE ⟨bN _,rfl,by simp,bG ah rfl,fun j hj=>absurd hj oS,.inl ⟨rfl,aO⟩⟩ ?_
      rintro ⟨k,gb,kb⟩ mk H ⟨hk,rfl,J,d,ax,b1⟩
      dsimp only at hk ax b1 ⊢
      have d2:K1.length<H.length:=by rcases b1 with ⟨_,h⟩|⟨_,_,h,_⟩ <;> exact aQ h
      have F:=jT J b5
      by_cases cd:k<l.length
      ·have dp:(k:Int)<(l.length:Nat):=oO
       have dr:=an k cd
       refine pU ?_
       refine .mk (dJ [(1,.s x l.length c),(6,.p σ.length),(13,.s py p.length pc),(16,.p vb),(18,.i (i:Nat)),(19,.i en),(21,.i tr),(22,.p K1.length),(23,.i (k:Nat))] H rfl tE ?_)
       have hf1:=Z8 (σ:=H) dr
       have ci:aH H x k=some (.i (gi l k)):=Qs F cd
       have hq2b:aH H x (0+(k:Int).toNat*1)=some (.i (gi l k)):=by simpa using Qs F cd
       rcases b1 with ⟨rfl,g⟩|⟨hk0,ch,g,hg⟩
       ·have al:aH H K1.length (0+0)=some (.slice none 0 0):=aF g
        have U:∀ X,aH (H++X) K1.length (0+0)=some (.slice none 0 0):=fun X=>aF (aA g)
        have P:∀ X Y,aH (H++X++Y) K1.length (0+0)=some (.slice none 0 0):=fun X Y=>aF (aA (aA g))
        have a0:∀ (A B:aB) (X:Heap) v,putCells (H++[A]++[B]++X) K1.length (0+0) [v]=some ((H++[A]++[B]++X).set K1.length (.rw [v])):=fun A B X v=>fZ (aA (aA (aA g))) oS oS rfl
        refine IX (fun e mk s=>mk=[]∧rJ e [(1,.s x l.length c),(6,.p σ.length),(13,.s py p.length pc),(16,.p vb),(18,.i (i:Nat)),(19,.i en),(21,.i tr),(22,.p K1.length),(23,.i ((0:Nat):Int))]∧s=(H++[aB.rw (ku (iY (gi l 0)) 12)]++[aB.rw [.s H.length 12 12]]++[aB.dead,aB.gr [.s H.length 12 12] 45]).set K1.length (.rw [eu ((H++[aB.rw (ku (iY (gi l 0)) 12)]++[aB.rw [.s H.length 12 12]]).length+1) 1 1])) ?_ ?_
        ·refine Fp (id:=20) oK (?_)
         repeat' (first|(refine gU ?_;first|refine st (tq oR oR oR oR rfl rfl) rfl rfl ?_|refine st (wR oR rfl rfl (by exact dX rfl) oO oR oO oD) rfl rfl ?_|(refine bW ?_;refine st (aJ rfl (by first|exact al|exact U _|exact P _ _|exact ci)) rfl rfl ?_)|(refine gIA ?_;refine st (iw rfl rfl oO) rfl rfl ?_)|(refine eG ?_;refine st (bH rfl rfl rfl (by exact hf1)) rfl rfl ?_)|(refine dZ ?_;refine stN (bF rfl rfl rfl rfl (by exact a0 _ _ _ _)) rfl ?_))|refine l9 ?_|refine J9 ?_|refine uQ 1 4 rfl rfl ?_ ?_|refine uQ 1 5 rfl rfl ?_ ?_|refine uQ 1 6 rfl rfl ?_ ?_|refine uQ 1 7 rfl rfl ?_ ?_|refine jG 0 (hp:=by exact vJ rfl) rfl rfl ?_|refine jG 2 (hp:=by exact xC rfl) rfl rfl ?_|refine jG 3 (hp:=by exact xC rfl) rfl rfl ?_|refine jG 4 (hp:=by exact IY rfl rfl oO oO) rfl rfl ?_|refine jG 9 (hp:=by exact vJ rfl) rfl rfl ?_|refine lX 1 rfl ?_|refine lX 5 rfl ?_|refine lX 6 rfl ?_|refine lX 7 rfl ?_|refine lX 8 rfl ?_|refine lX 10 rfl ?_)
         all_goals exact .inl ⟨rfl,rfl,tE,rfl⟩
        ·rintro e mk s ⟨rfl,hE,rfl⟩
         refine wX (uX ?_)
         refine dJ _ _ rfl hE ?_
         refine pU ?_
         refine ⟨(0+1,(H++[aB.rw (ku (iY (gi l 0)) 12)]++[aB.rw [.s H.length 12 12]]).length+1,fun _=>H.length),⟨by dsimp only;omega,rfl,take_set (aT (aT (aT J))) (aD _),kN (bG (bG (bG d rfl) rfl) rfl) rfl,fun j hj=>?_,.inr ⟨by dsimp only;omega,by simp;omega,?_,?_⟩⟩,by dsimp only;omega,tE⟩
         ·obtain rfl:j=0:=by dsimp only at hj;omega
          dsimp only
          exact aC (aA (aA aO)) oO
         ·exact aS (aA (aA (aA g)))
         ·exact aC wV (by simp;omega)
       ·have al:aH H K1.length (0+0)=some (eu gb 1 k):=aF g
        have U:∀ X,aH (H++X) K1.length (0+0)=some (eu gb 1 k):=fun X=>aF (aA g)
        have P:∀ X Y,aH (H++X++Y) K1.length (0+0)=some (eu gb 1 k):=fun X Y=>aF (aA (aA g))
        have dq:∀ A B:aB,(H++[A]++[B])[gb]?=some (.gr (sD kb k) 45):=fun A B=>aA (aA hg)
        have aq:(sD kb k).length=k*1:=Og _ _
        have a0:∀ (A B:aB) (X:Heap) v,putCells ((H++[A]++[B]).set gb .dead++X) K1.length (0+0) [v]=some (((H++[A]++[B]).set gb .dead++X).set K1.length (.rw [v])):=fun A B X v=>fZ (aA (aC (aA (aA g)) oO)) oS oS rfl
        refine IX (fun e mk s=>mk=[]∧rJ e [(1,.s x l.length c),(6,.p σ.length),(13,.s py p.length pc),(16,.p vb),(18,.i (i:Nat)),(19,.i en),(21,.i tr),(22,.p K1.length),(23,.i (k:Nat))]∧s=((H++[aB.rw (ku (iY (gi l k)) 12)]++[aB.rw [.s H.length 12 12]]).set gb .dead++[aB.gr (sD kb k++[.s H.length 12 12]) 45]).set K1.length (.rw [eu (H++[aB.rw (ku (iY (gi l k)) 12)]++[aB.rw [.s H.length 12 12]]).length 1 (k+1)])) ?_ ?_
        ·refine Fp (id:=20) oK (?_)
         repeat' (first|(refine gU ?_;first|refine st (tq oR oR oR oR rfl rfl) rfl rfl ?_|refine st (jh oR oR rfl (by exact dq _ _) (by exact aq) rfl (by exact dX rfl) oO oR oO oD) rfl rfl ?_|(refine bW ?_;refine st (aJ rfl (by first|exact al|exact U _|exact P _ _|exact ci|assumption)) rfl rfl ?_)|(refine gIA ?_;refine st (iw rfl rfl oO) rfl rfl ?_)|(refine eG ?_;refine st (bH rfl rfl rfl (by exact hf1)) rfl rfl ?_)|(refine dZ ?_;refine stN (bF rfl rfl rfl rfl (by exact a0 _ _ _ _)) rfl ?_))|refine l9 ?_|refine J9 ?_|refine uQ 1 4 rfl rfl ?_ ?_|refine uQ 1 5 rfl rfl ?_ ?_|refine uQ 1 6 rfl rfl ?_ ?_|refine uQ 1 7 rfl rfl ?_ ?_|refine jG 0 (hp:=by exact vJ rfl) rfl rfl ?_|refine jG 2 (hp:=by exact xC rfl) rfl rfl ?_|refine jG 3 (hp:=by exact xC rfl) rfl rfl ?_|refine jG 4 (hp:=by exact IY rfl rfl oO oO) rfl rfl ?_|refine jG 9 (hp:=by exact vJ rfl) rfl rfl ?_|refine lX 1 rfl ?_|refine lX 5 rfl ?_|refine lX 6 rfl ?_|refine lX 7 rfl ?_|refine lX 8 rfl ?_|refine lX 10 rfl ?_)
         all_goals exact .inl ⟨rfl,rfl,tE,rfl⟩
        ·rintro e mk s ⟨rfl,hE,rfl⟩
         refine wX (uX ?_)
         refine dJ _ _ rfl hE ?_
         refine pU ?_
         have hgl2:=aQ hg
         refine ⟨(k+1,(H++[aB.rw (ku (iY (gi l k)) 12)]++[aB.rw [.s H.length 12 12]]).length,fun j=>if j=k then H.length else kb j),⟨by dsimp only;omega,rfl,take_set (aT (take_set (aT (aT J)) oO)) (aD _),kN (bG (kN (bG (bG d rfl) rfl) rfl) rfl) rfl,fun j hj=>?_,.inr ⟨by dsimp only;omega,by simp;omega,?_,?_⟩⟩,by dsimp only;omega,tE⟩
         ·dsimp only at hj ⊢
          by_cases dg:j=k
          ·subst dg
           rw [if_pos rfl]
           exact aC (aA (aC (aA aO) oO)) oO
          ·rw [if_neg dg]
           have h1:=ax j oO
           have h2:kb j ≠ gb:=fun h=>by rw [h,hg] at h1;cases h1
           have h3:kb j ≠ K1.length:=fun h=>by
            rw [h,g] at h1
            have:=congrArg (fun o:Option aB=>match o with|some (.rw cs)=>cs.length|_=>0) h1
            simp [tX] at this
           exact aC (aA (aC (aA (aA h1)) (fun h=>h2 h.symm))) (fun h=>h3 h.symm)
         ·exact aS (aA (aC (aA (aA g)) oO))
         ·rw [aad]
          exact aC (bK oS) (by simp;omega)
      ·obtain rfl:k=l.length:=oO
       have dp:¬ ((l.length:Nat):Int)<(l.length:Nat):=oO
       rcases b1 with ⟨h0,_⟩|⟨_,ch,g,hg⟩
       ·omega
       have aq:=aQ hg
       have aj:=jR F
       have ag:=jR (jT J z)
       have ai:=aQ (je J b4)
       have a9:=aQ (je J a6)
       refine W_st (e2:=[(1,.s x l.length c),(6,.p σ.length),(13,.s py p.length pc),(16,.p vb),(18,.i (i:Nat)),(19,.i en),(21,.i tr),(22,.p K1.length),(23,.i (l.length:Nat))]) (σ2:=(H.set gb (.rw (sD kb l.length))).set K1.length (.rw [.s gb l.length l.length])) oS (mD.upd (by simp;omega) oS (fun dn i o2 h=>?_) ⟨kX (m:=H.length) rfl (fun _ _=>rfl) (aD _) (bQ (Nat.blt_eq.mpr aj)) rfl,kX (m:=H.length) rfl (fun _ _=>rfl) (aD _) (Nat.blt_eq.mpr a9) rfl,kX (m:=H.length) rfl (fun _ _=>rfl) (aD _) (bQ (Nat.blt_eq.mpr ag)) rfl,kX (m:=H.length) rfl (fun _ _=>rfl) (aD _) (Nat.blt_eq.mpr ai) rfl,pq rfl rfl,pq rfl rfl,pq rfl rfl,kX (m:=H.length) rfl (fun _ _=>rfl) (aD _) (Nat.blt_eq.mpr d2) rfl,pq rfl rfl,trivial⟩) ?_
       ·by_cases bx:i=K1.length
        ·subst bx
         rw [aS (aC g oO)] at h
         cases h
         exact .inr (.inr ⟨rfl,_,.inl g,aD _,fun k h _=>by
          simp at h
          subst h
          exact kG aq rfl⟩)
        ·by_cases cu:i=gb
         ·subst cu
          rw [eN (fun h=>bx h.symm),aS hg] at h
          cases h
          have df:=dn _ _ hg
          exact .inr (.inr ⟨rfl,_,.inr ⟨45,hg⟩,aD _,fun k h _=>wC (fun _ _=>rfl) (aD _) _ df.1 df.2 k h⟩)
         ·rw [eN (fun h=>bx h.symm),eN (fun h=>cu h.symm)] at h
          exact .inl h
       obtain ⟨H2,O⟩:∃ H2,H2=(H.set gb (.rw (sD kb l.length))).set K1.length (.rw [.s gb l.length l.length]):=⟨_,rfl⟩
       have L:H2.take K1.length=K1:=by rw [O];exact take_set (take_set J oO) (aD _)
       have a4:H2.all (fun o=>!aU o)=true:=by rw [O];exact kN (kN d rfl) rfl
       have dd:H2[K1.length]?=some (.rw [.s gb l.length l.length]):=by rw [O];exact aS (aC g oO)
       have cg:H2[gb]?=some (.rw (sD kb l.length)):=by rw [O];exact aC (aS hg) oO
       have d4:∀ j<l.length,H2[kb j]?=some (.rw (ku (iY (gi l j)) 12)):=fun j hj=>by
        have h1:=ax j hj
        have h2:kb j ≠ gb:=fun h=>by rw [h,hg] at h1;cases h1
        have h3:kb j ≠ K1.length:=fun h=>by
         rw [h,g] at h1
         have:=congrArg (fun o:Option aB=>match o with|some (.rw cs)=>cs.length|_=>0) h1
         simp [tX] at this
        rw [O]
        exact aC (aC h1 (fun h=>h2 h.symm)) (fun h=>h3 h.symm)
       rw [← O]
       clear aq aj ag ai a9 d hg g ax J F d2 O hk ch H
       obtain ⟨pu,af⟩:∃ pu:Nat,(gp p i).2=(pu:Int):=⟨(gp p i).2.toNat,by have:=(oz c4 i r);omega⟩
       have a8:pu<l.length:=by have:=(oz c4 i r);omega
       have hd1:aH H2 py (0+i*2+1)=some (.i (pu:Nat)):=by rw [← af];exact IV (jT L z) r
       have hd2:aH H2 x pu=some (.i (gi l pu)):=Qs (jT L b5) a8
       refine pU ?_
       refine .mk (dJ [(1,.s x l.length c),(6,.p σ.length),(13,.s py p.length pc),(16,.p vb),(18,.i (i:Nat)),(19,.i en),(21,.i tr),(22,.p K1.length),(24,.i (gi l pu))] H2 rfl tE ?_)
       have di:=an pu a8
       have av:=jT L z
       have cv:=jT L b5
       have bo:=je L a6
       have dx:=je L b4
       have hclp:∀ {o:Nat},closed H2.length (.pointer (some ⟨σ.length,o,none⟩))=true:=fun {o}=>Nat.blt_eq.mpr (aQ bo)
       have hcls:∀ {o n c:Nat},closed H2.length (.slice (some ⟨py,o,none⟩) n c)=true:=fun {o n c}=>bQ (Nat.blt_eq.mpr (jR av))
       have T:∀ {o n c:Nat},closed H2.length (.slice (some ⟨x,o,none⟩) n c)=true:=fun {o n c}=>bQ (Nat.blt_eq.mpr (jR cv))
       have hclg:∀ {o:Nat},closed H2.length (.pointer (some ⟨py,o,none⟩))=true:=fun {o}=>Nat.blt_eq.mpr (jR av)
       have hqo:∀ X,aH (H2++X) σ.length (0+2)=some (.i s.off):=fun X=>aF (aA bo)
       have hqf:∀ X,aH (H2++X) py (0+i*2+0)=some (.i fm):=fun X=>by rw [a3];exact IU (qp av) r
       have r1:0≤(en - s.off).tdiv 100∧(en - s.off).tdiv 100≤1000:=by rw [cL oO];omega
       have r2:0≤(fm+s.off).tdiv 100∧(fm+s.off).tdiv 100≤1000000:=by rw [cL oO];omega
       have hputB:∀ a b:Value,putCells (H2++[aB.rw [.i 0,.i 0]]) (H2++([]:Heap)).length 0 [a,b]=some (H2++[aB.rw [a,b]]):=fun a b=>by rw [bL];exact fQ (aD _) (cH _)
       refine dI oK rfl (?_)
       refine pU ?_
       obtain ⟨lo,az⟩:∃ lo,lo=(en - s.off).tdiv 100:=⟨_,rfl⟩
       obtain ⟨f,ao⟩:∃ f,f=min 1000 ((fm+s.off).tdiv 100):=⟨_,rfl⟩
       obtain ⟨H3,N⟩:∃ H3,H3=H2++[aB.rw [.i lo,.i f]]:=⟨_,rfl⟩
       obtain ⟨bb,bl⟩:∃ bb,bb=H2.length:=⟨_,rfl⟩
       refine .mk (dJ [(1,.s x l.length c),(6,.p σ.length),(13,.s py p.length pc),(16,.p vb),(18,.i (i:Nat)),(19,.i en),(21,.i tr),(22,.p K1.length),(24,.i (gi l pu)),(25,.p bb)] H3 (by rw [N,az,ao]) ⟨rfl,rfl,rfl,rfl,rfl,rfl,rfl,rfl,rfl,congrArg (fun n=>some (Value.p n)) (by simp [bl,gZ]),trivial⟩ ?_)
       have cn:H3.take K1.length=K1:=by rw [N];exact aT L
       have aa:H3.all (fun o=>!aU o)=true:=by rw [N];exact bG a4 rfl
       have ck:H3[K1.length]?=some (.rw [.s gb l.length l.length]):=by rw [N];exact aA dd
       have cq:H3[gb]?=some (.rw (sD kb l.length)):=by rw [N];exact aA cg
       have cz:∀ j<l.length,H3[kb j]?=some (.rw (ku (iY (gi l j)) 12)):=fun j hj=>by rw [N];exact aA (d4 j hj)
       have de:H3[bb]?=some (.rw [.i lo,.i f]):=by rw [N,bl];exact aO
       clear hclp hcls T hclg hqo hqf hputB hd1 hd2 N bl a4 L dd cg d4 av cv bo dx H2
       have a7:=ck
       have hd1:aK H3 bb 0 2=some [.i lo,.i f]:=aV de rfl
       apply aG
       refine pU ?_
       obtain ⟨bB,c8⟩:∃ bB,bB=H3.length:=⟨_,rfl⟩
       obtain ⟨bS,ba⟩:∃ bS,bS=(H3++[aB.rw [.i lo,.i f]]).length:=⟨_,rfl⟩
       obtain ⟨wb,b7⟩:∃ wb,wb=(H3++[aB.rw [.i lo,.i f]]++[aB.rw [.s gb l.length l.length]]).length:=⟨_,rfl⟩
       obtain ⟨H4,D⟩:∃ H4,H4=H3++[aB.rw [.i lo,.i f]]++[aB.rw [.s gb l.length l.length]]++[aB.rw [.s bB 1 1,.s bS 1 1]]:=⟨_,rfl⟩
       refine .mk (dJ [(6,.p σ.length),(13,.s py p.length pc),(16,.p vb),(18,.i (i:Nat)),(19,.i en),(21,.i tr),(24,.i (gi l pu)),(26,.p wb)] H4 (by rw [D,c8,ba];rfl) ⟨rfl,rfl,rfl,rfl,rfl,rfl,rfl,congrArg (fun n=>some (Value.p n)) b7.symm,trivial⟩ ?_)
       have da:H4.take K1.length=K1:=by rw [D];exact aT (aT (aT cn))
       have am:H4.all (fun o=>!aU o)=true:=by rw [D];exact bG (bG (bG aa rfl) rfl) rfl
       have co:H4[gb]?=some (.rw (sD kb l.length)):=by rw [D];exact aA (aA (aA cq))
       have cx:∀ j<l.length,H4[kb j]?=some (.rw (ku (iY (gi l j)) 12)):=fun j hj=>by rw [D];exact aA (aA (aA (cz j hj)))
       have d1:H4[bB]?=some (.rw [.i lo,.i f]):=by rw [D,c8];exact aA (aA aO)
       have cl:H4[bS]?=some (.rw [.s gb l.length l.length]):=by rw [D,ba];exact aA aO
       have cf:H4[wb]?=some (.rw [.s bB 1 1,.s bS 1 1]):=by rw [D,b7];exact aO
       clear a7 hd1 D c8 ba b7 cn ck cq cz de aa H3
       obtain ⟨sp,b2⟩:∃ sp,sp=tr*gi l pu:=⟨_,rfl⟩
       have bw:=afc (s:=s) (l:=l) (pl:=p) (j:=i) r (x:=tr) (by rw [af,cN];omega) (by rw [← d5];omega) (by rw [← a3];omega)
       rw [af,cN,← b2] at bw
       have cc:1≤tr∧tr≤100000:=oO
       have hsp2:0≤tr*gi l pu∧tr*gi l pu≤100000*10000:=⟨er oO oO,fo cc.2 di.2 oO oO⟩
       apply aG
       refine pU ?_
       have q5:0≤tr.tdiv 100∧tr.tdiv 100≤1000:=by rw [cL oO];omega
       have q6:0≤(tr*gi l pu).tdiv 1000000∧(tr*gi l pu).tdiv 1000000≤1000:=by rw [cL oO];omega
       obtain ⟨m0,d8⟩:∃ m0,m0=min 1000 (tr.tdiv 100):=⟨_,rfl⟩
       obtain ⟨m1,cw⟩:∃ m1,m1=min 1000 (sp.tdiv 1000000):=⟨_,rfl⟩
       obtain ⟨I,a1⟩:∃ I,I=H4.length:=⟨_,rfl⟩
       obtain ⟨H5,w⟩:∃ H5,H5=H4++[aB.rw [.i m0,.i m1]]:=⟨_,rfl⟩
       refine .mk (dJ [(6,.p σ.length),(13,.s py p.length pc),(16,.p vb),(18,.i (i:Nat)),(19,.i en),(24,.i (gi l pu)),(26,.p wb),(27,.i sp),(28,.s I 2 2)] H5 (by rw [w,d8,cw,b2,wrap64 oO oO,wrap64 oO oO];rfl) ⟨rfl,rfl,rfl,rfl,rfl,rfl,rfl,congrArg (fun x=>some (Value.i x)) b2.symm,congrArg (fun n=>some (Value.s n 2 2)) a1.symm,trivial⟩ ?_)
       have aw:H5.take K1.length=K1:=by rw [w];exact aT da
       have W:H5.all (fun o=>!aU o)=true:=by rw [w];exact bG am rfl
       have be:H5[wb]?=some (.rw [.s bB 1 1,.s bS 1 1]):=by rw [w];exact aA cf
       have cj:H5[I]?=some (.rw [.i m0,.i m1]):=by rw [w,a1];exact aO
       have b9:xg H5 (uH l (lo,f)) bB bS (fun _=>gb) (fun _=>l.length) (fun _ k=>kb k) (fun _ _=>12):=by
        refine ⟨fun j hj=>?_,fun j hj=>?_,fun j hj k hk=>?_,fun j hj k hk q hq=>?_⟩
        ·obtain rfl:j=0:=by have:j<1:=hj;omega
         rw [w];exact aV (aA d1) rfl
        ·obtain rfl:j=0:=by have:j<1:=hj;omega
         rw [w];exact aV (aA cl) rfl
        ·rw [w];exact Ut (aA co) hk
        ·rw [w];exact Qq (aA (cx k hk)) hq
       have bh:jX (lo,f):=by
        simp only [jX]
        rw [az,ao]
        rw [cL oO,cL oO]
        omega
       have bv:uF (uH l (lo,f)):=Gu ⟨oO,oO⟩ an bh
       have cp:=je aw b4
       clear w a1 da am cf d1 cl co cx H4
       have hf1:Ev Tryz.prog 18 [.agg #[.s bB 1 1,.s bS 1 1]] H5 (.bool true) H5:=WL bv b9 W
       have a6:=be
       have a7:=cp
       have hn1:¬ sp<(Gt s l p).1:=oO
       have hn2:¬ sp > (Gt s l p).2:=oO
       apply aG
       refine pU ?_
       have hd1:aH H5 py (0+i*2+1)=some (.i (pu:Nat)):=by rw [← af];exact IV (jT aw z) r
       have hf2:=Z5 (σ:=H5++[aB.rw [.i (pu:Nat)]]) (bar:=0) (b:=H5.length) (n:=1) (c:=1) oS
       refine .mk (aG ?_)
       refine pU ?_
       obtain ⟨rb,bu⟩:∃ rb,rb=H5.length:=⟨_,rfl⟩
       obtain ⟨rc,br⟩:∃ rc,rc=(H5++[aB.rw [.i (pu:Nat)]]).length:=⟨_,rfl⟩
       obtain ⟨H6,S⟩:∃ H6,H6=H5++[aB.rw [.i (pu:Nat)]]++[aB.rw [.i 0,.s rb 1 1]]:=⟨_,rfl⟩
       refine .mk (dJ [(6,.p σ.length),(13,.s py p.length pc),(16,.p vb),(18,.i (i:Nat)),(19,.i en),(24,.i (gi l pu)),(26,.p wb),(27,.i sp),(28,.s I 2 2),(29,.p rc)] H6 (by rw [S,bu];rfl) ⟨rfl,rfl,rfl,rfl,rfl,rfl,rfl,rfl,rfl,congrArg (fun n=>some (Value.p n)) br.symm,trivial⟩ ?_)
       have ay:H6.take H5.length=H5:=by rw [S];simp
       have ak:H6.take K1.length=K1:=by rw [S];exact aT (aT aw)
       have Z:H6.all (fun o=>!aU o)=true:=by rw [S];exact bG (bG W rfl) rfl
       have ae:=b9.take ay
       have bp:=je ay be
       have d7:=je ay cj
       have C:H6[rb]?=some (.rw [.i (pu:Nat)]):=by rw [S,bu];exact aA aO
       have V:H6[rc]?=some (.rw [.i 0,.s rb 1 1]):=by rw [S,br];exact aO
       have ce:=je ak b4
       have cm:bB<H6.length:=dL (ae.bars 0 (show 0<1 by omega))
       have d3:bS<H6.length:=dL (ae.steps 0 (show 0<1 by omega))
       clear S ay bu br aw W b9 be cj cp hd1 hf1 hf2 a6 a7 H5
       have cr:∀ i<(uH l (lo,f)).ns,aH H6 rb i=some (.i (pu:Nat)):=fun i hi=>by
        obtain rfl:i=0:=by have:i<1:=hi;omega
        exact aF C
       have hf1:=ZY (c:=1) (bar:=0) (ks:=fun _=>pu) (cB:=1) (cS:=1) bv ae (fun _ _ _ _=>aD _) (show 0<1 by omega) (fun _ _=>a8) cr cm d3 (aQ C) Z (n:=0) rfl
       have a6:=bp
       have a7:=V
       apply aG
       refine pU ?_
       obtain ⟨a2,R⟩:∃ a2,a2=H6.length:=⟨_,rfl⟩
       obtain ⟨H7,ad⟩:∃ H7,H7=H6++[aB.rw (rgC ((uH l (lo,f)).rg (fun x=>pu) ((uH l (lo,f)).bf 0)) (0+2))]:=⟨_,rfl⟩
       refine .mk (dJ [(13,.s py p.length pc),(6,.p σ.length),(18,.i (i:Nat)),(19,.i en),(24,.i (gi l pu)),(26,.p wb),(28,.s I 2 2),(29,.p rc),(30,.s a2 2 2),(31,.i 0)] H7 ad.symm ⟨rfl,rfl,rfl,rfl,rfl,rfl,rfl,rfl,congrArg (fun n=>some (Value.s n 2 2)) R.symm,rfl,trivial⟩ ?_)
       have u:H7.take H6.length=H6:=by rw [ad];simp
       have ac:H7.all (fun o=>!aU o)=true:=by rw [ad];exact bG Z rfl
       have ar:=ae.take u
       have dc:=je u bp
       have d6:=je u d7
       have c6:=je u C
       have bn:=je u V
       have hv8:=je u ce
       have c0:H7[a2]?=some (.rw (rgC ((uH l (lo,f)).rg (fun x=>pu) ((uH l (lo,f)).bf 0)) (0+2))):=by rw [ad,R];exact aO
       have bj:bB<H7.length:=dL (ar.bars 0 (show 0<1 by omega))
       have bz:bS<H7.length:=dL (ar.steps 0 (show 0<1 by omega))
       have dv:=jT u (jT ak z)
       have dt:H7.take σ.length=σ:=IW (IW u ak) du
       have dy:H7[σ.length]?=some (.rw s.cells):=je (IW u ak) b0
       clear ad u R cr hf1 a6 a7 cm d3 Z ae bp d7 C V ce ak H6
       have d9:m1=min 1000 (tr*gi l pu / 1000000):=by rw [cw,b2,cL oO]
       have dw:m0=min 1000 (tr / 100):=by rw [d8,cL oO]
       have bc:=Z9 (x:=tr) ⟨oO,oO⟩ an bh a8 oO (by rw [az,cL oO];omega) (by rw [ao,cL oO];omega)
       rw [← d9] at bc
       have bk:jX (m1,m1):=by simp only [jX];omega
       obtain ⟨wl,c9⟩:∃ wl:Nat→List Nat,∀ i,wl i=(uH l (lo,f)).AU (m1,m1) i:=⟨_,fun _=>rfl⟩
       have hf1:=NW (cB:=1) (cS:=1) bv ar (fun _ _ _ _=>aD _) bk bj bz ac bc.1 (l:=wl) (fun i _=>c9 i)
       have a6:=dc
       have al:aH H7 I 1=some (.i m1):=aF d6
       refine IX (fun e mk s=>mk=[]∧rJ e [(13,.s py p.length pc),(6,.p σ.length),(18,.i (i:Nat)),(19,.i en),(24,.i (gi l pu)),(26,.p wb),(28,.s I 2 2),(29,.p rc),(30,.s a2 2 2),(31,.i 0),(32,.s H7.length 1 1),(33,.i 0)]∧s=H7++([aB.rw (slW (fun j=>H7.length+1+j) (fun j=>(wl j).length) 1)]++Ez wl 1)) ?_ ?_
       ·refine Fp (id:=30) oK (?_)
        repeat' (first|(refine gU ?_;first|(refine bW ?_;first|refine st (aJ rfl (by exact al)) rfl rfl ?_|refine st (bD rfl (by exact aV a6 rfl)) rfl rfl ?_)|(refine oQ ?_;refine st (iE oR rfl oR) rfl rfl ?_)|(refine eG ?_;refine st (bH rfl rfl rfl (by exact hf1)) rfl rfl ?_))|refine l9 ?_|refine J9 ?_|refine uQ 0 3 rfl rfl ?_ ?_|refine uQ 0 6 rfl rfl ?_ ?_|refine uQ 3 6 rfl rfl ?_ ?_|refine uQ 0 7 rfl rfl ?_ ?_|refine adl 0 3 6 rfl rfl rfl ?_ ?_ ?_|refine jG 1 (hp:=by exact xC rfl) rfl rfl ?_|refine jG 2 (hp:=by exact IY rfl rfl oO oO) rfl rfl ?_|refine jG 4 (hp:=by exact xC rfl) rfl rfl ?_|refine jG 5 (hp:=by exact IY rfl rfl oO oO) rfl rfl ?_|refine jG 9 (hp:=by exact xC rfl) rfl rfl ?_|refine jG 10 (hp:=by exact CV rfl rfl) rfl rfl ?_|refine jG 11 (hp:=by exact CV rfl rfl) rfl rfl ?_|refine jG 12 (hp:=by exact Fj rfl) rfl rfl ?_|refine jG 13 (hp:=by exact Fj rfl) rfl rfl ?_|refine lX 0 rfl ?_|refine lX 3 rfl ?_|refine lX 6 rfl ?_|refine lX 7 rfl ?_|refine lX 8 rfl ?_)
        all_goals exact .inl ⟨rfl,rfl,tE,rfl⟩
       ·rintro e mk s ⟨rfl,hE,rfl⟩
        obtain ⟨H8,a5⟩:∃ H8,H8=H7++([aB.rw (slW (fun j=>H7.length+1+j) (fun j=>(wl j).length) 1)]++Ez wl 1):=⟨_,rfl⟩
        obtain ⟨yb,c7⟩:∃ yb,yb=H7.length:=⟨_,rfl⟩
        refine uX ?_
        refine dJ [(13,.s py p.length pc),(6,.p σ.length),(18,.i (i:Nat)),(19,.i en),(24,.i (gi l pu)),(26,.p wb),(28,.s I 2 2),(29,.p rc),(30,.s a2 2 2),(31,.i 0),(32,.s yb 1 1),(33,.i 0)] H8 a5.symm (by rw [c7];exact hE) ?_
        have G:H8.take H7.length=H7:=by rw [a5];simp
        have bt:H8.all (fun o=>!aU o)=true:=by rw [a5];exact bG ac rfl
        have dh:H8[yb]?=some (.rw [.s (yb+1) (wl 0).length (wl 0).length]):=by rw [a5,c7];exact Bd
        have dl:H8[yb+1]?=some (.rw (gV (wl 0))):=by rw [a5,c7];exact wV
        have bq:pu ∈ wl 0:=by rw [c9 0];exact bc.2
        have dk:(wl 0).length≤1000:=by
         rw [c9 0];unfold Wk.AU
         split
         ·simp
         ·refine ej (List.length_filter_le _ _) ?_
          rw [List.length_range]
          show l.length≤1000
          omega
        exact aac (kb:=kb) (gb:=gb) (IW G dt) bt (je G dy) (jT G dv) r (ar.take G) (je G dc) (je G d6) (je G c6) (je G bn) (je G c0) dh dl
         ⟨oO,oO⟩ an a8 bh af a3 az ao oO dw d9 bq dk
 ·rw [decide_eq_false h1] at hf1
  rw [hH] at hf1 hf2
  refine pU ?_
  exact dM (.tmp rfl .nil) (.plain oS rfl) ⟨rfl,rfl⟩
end Go.Proofs.YtajpgeklmcjciaaGreat
namespace Go.AH
open Go Go.RowKit Go.WideShapes Go.ChangeShapes
section
variable {H:Type} {enc:TypeId×Value→H} {P:Program} {W:World}
theorem wf64 {n:Int} (h:(Lit.i n).wf=true):-9223372036854775808≤n∧n≤9223372036854775807:=by
 simp only [Lit.wf,aE,decide_eq_true_eq] at h
 exact h
def Qv (l:List Int):List Value:=l.map (.int .i64)
structure Uu (W:World) (v:Value) (n size:Nat) (cs:List Value) (pl:Pl):Prop where
 len:n≤9223372036854775807
 rel:∀ (m:Nat) (ρ:Rho) (i:Nat),i<m→ρ i=pl→gQ m ρ (.slice (some ⟨i,0,none⟩) n n) v
 sz:cs.length=n*size
 cells:cs ≠ []→pl.b<W.heap.size∧∀ (k:Nat) (h:k<cs.length),W.cell? ⟨pl.b,pl.o+k,none⟩=some cs[k]
theorem cell_lt {w:World} {a:Addr} {v:Value} (h:w.cell? a=some v):a.block<w.heap.size∧a.spot=none:=by
 unfold World.cell? at h
 split at h
 ·rename_i hb
  refine ⟨(Array.getElem?_eq_some_iff.1 hb).1,?_⟩
  split at h
  ·cases h
  ·rename_i hs;simpa using hs
 ·cases h
theorem aae {b0:Nat} {t e:TypeId} {v:Value} {d:DataW H} {p:List MemPlace} (ht:P.underlying t=some (.slice e)) (he:P.underlying e=some (.int .i64)) (hc:P.cellsOf e=1) (hval:Value.okWide P W .any b0 t v)
  (h:DataW.Trod enc P W 0 (fun _=>true) true t v d p):∃ (l:List Int) (pl:Pl),Uu W v l.length 1 (Qv l) pl∧∀ n ∈ l,-9223372036854775808≤n∧n≤9223372036854775807:=by
 obtain ⟨a0,len,f,rfl⟩:=okWide_slice ht hval
 obtain ⟨fuel,hf⟩:=h
 rcases open_ints ht he hc hf with ⟨g,-⟩|⟨a,len',cap',zs,g,-,hl,hm,hz,-,hcell,hwf⟩
 ·have c:Value.slice a0 len f=Value.slice none 0 0:=by simpa [Value.cells] using g
  cases c
  exact ⟨[],⟨0,0,0⟩,⟨by simp,fun m ρ i hi hρ=>.emptySlice _ _ _ _,rfl,fun h=>absurd rfl h⟩,fun n hn=>by simp at hn⟩
 ·have c:Value.slice a0 len f=Value.slice (some a) len' cap':=by simpa [Value.cells] using g
  cases c
  simp only [if_true] at hz
  have j:(zs.take len).length=len:=by rw [eI];omega
  have hm':len≤9223372036854775807:=by unfold maxLen at hm;omega
  by_cases h0:len=0
  ·subst h0
   exact ⟨[],⟨0,0,0⟩,⟨by simp,fun m ρ i hi hρ=>.emptySlice _ _ _ _,rfl,fun h=>absurd rfl h⟩,fun n hn=>by simp at hn⟩
  ·have h1:=hcell 0 oO
   have ha:a.add 0=a:=by simp [Addr.add]
   rw [ha] at h1
   obtain ⟨hb,hs⟩:=cell_lt h1
   obtain ⟨b,o,sp⟩:=a
   simp only at hb hs
   subst hs
   refine ⟨zs.take len,⟨b,o,0⟩,⟨oO,fun m ρ i hi hρ=>?_,by simp [Qv],fun _=>⟨hb,fun k hk=>?_⟩⟩,fun n hn=>wf64 (hwf n (List.mem_of_mem_take hn))⟩
   ·rw [j]
    have:=VQ.slice (q:=false) (n:=m) (ρ:=ρ) i 0 len len f hl hi
    rw [hρ] at this
    simpa using this
   ·have hk':k<len:=by
     simp only [Qv,cU] at hk
     omega
    have h2:=hcell k oO
    have s:zs.getD k 0=(zs.take len)[k]'oO:=by
     rw [dC,cE,cC oO];rfl
    have r:(⟨b,o,none⟩:Addr).add k=⟨b,o+k,none⟩:=by
     unfold Addr.add
     split
     ·rename_i h;subst h;rfl
     ·rfl
    rw [r,s] at h2
    simpa [Qv] using h2
theorem Uu.hro {v:Value} {n size:Nat} {cs:List Value} {pl:Pl} (h:Uu W v n size cs pl) (hp:dN cs=true) (ρ:Rho) (i m:Nat) (hρ:ρ i=pl) (hne:cs ≠ []) :
  (ρ i).b<W.heap.size∧∀ (k:Nat) (hk:k<cs.length),∃ v',W.cell? ⟨(ρ i).b,(ρ i).o+k,none⟩=some v'∧gQ m ρ cs[k] v':=by
 rw [hρ]
 obtain ⟨h1,h2⟩:=h.cells hne
 exact ⟨h1,fun k hk=>⟨_,h2 k hk,lT cs hp k hk⟩⟩
end
end Go.AH
namespace Go.Proofs.YtajpgeklmcjciaaGreat
open Go Go.AH Go.RowKit Go.WideShapes Go.ChangeShapes
set_option maxRecDepth 100000 in
theorem WO {b0:Nat} {H:Type} {enc:TypeId×Value→H} {W:World} {v:Value} {d:DataW H} {p:List MemPlace} (hval:Value.okWide Tryz.prog W .any b0 25 v) (h:DataW.Trod enc Tryz.prog W 0 (fun _=>true) true 25 v d p) :
  ∃ s:St,v=s.val∧(-9223372036854775808≤s.long∧s.long≤9223372036854775807)∧(-9223372036854775808≤s.short∧s.short≤9223372036854775807)∧(-9223372036854775808≤s.off∧s.off≤9223372036854775807)∧(-9223372036854775808≤s.lo∧s.lo≤9223372036854775807)∧(-9223372036854775808≤s.hi∧s.hi≤9223372036854775807):=by
 obtain ⟨cs,rfl,i⟩:=okWide_struct Tryz.underlying25 hval
 have g:Tryz.prog.cellsOf 25=5:=by kernel_rfl
 have e:cs.size=5:=i.trans g
 obtain ⟨l⟩:=cs
 match l,e with
 |[c0,c1,c2,c3,c4],_ =>
  obtain ⟨fuel,hf⟩:=h
  obtain ⟨xs,n,_,_,_,c,hg⟩:=DataW.trod_struct Tryz.underlying25 hf
  match xs,c with
  |[y0,y1,y2,y3],_ =>
   have k2:Tryz.prog.cellsOf 2=1:=by kernel_rfl
   have k23:Tryz.prog.cellsOf 23=2:=by kernel_rfl
   have g0:=hg 0 _ rfl
   have g1:=hg 1 _ rfl
   have g2:=hg 2 _ rfl
   have g3:=hg 3 _ rfl
   simp only [Value.cells,List.getElem?_cons_zero,List.getElem?_cons_succ] at g0 g1 g2 g3
   obtain ⟨n0,e0,_,w0⟩:=DataW.trod_int Tryz.underlying2 g0
   obtain ⟨n1,e1,_,w1⟩:=DataW.trod_int Tryz.underlying2 g1
   obtain ⟨n2,e2,_,w2⟩:=DataW.trod_int Tryz.underlying2 g2
   obtain ⟨zs,m,_,_,_,a,f⟩:=DataW.trod_struct Tryz.underlying23 g3
   match zs,a with
   |[z0,z1],_ =>
    have q0:=f 0 _ rfl
    have q1:=f 1 _ rfl
    simp only [List.getElem?_cons_zero,List.getElem?_cons_succ] at q0 q1
    obtain ⟨n3,e3,_,w3⟩:=DataW.trod_int Tryz.underlying2 q0
    obtain ⟨n4,e4,_,w4⟩:=DataW.trod_int Tryz.underlying2 q1
    cases e0;cases e1;cases e2;cases e3;cases e4
    exact ⟨⟨n0,n1,n2,n3,n4⟩,rfl,wf64 w0,wf64 w1,wf64 w2,wf64 w3,wf64 w4⟩
theorem afd {Q:Nat→Int×Int→Prop} {n:Nat} (h:∀ i<n,∃ p,Q i p):∃ l:List (Int×Int),l.length=n∧∀ i<n,Q i (gp l i):=by
 induction n with
 |zero=>exact ⟨[],rfl,fun i hi=>oO⟩
 |succ n ih =>
  obtain ⟨l,h1,h2⟩:=ih fun i hi=>h i oO
  obtain ⟨p,hp⟩:=h n oO
  refine ⟨l++[p],by simp [h1],fun i hi=>?_⟩
  by_cases a:i<n
  ·have:gp (l++[p]) i=gp l i:=by simp only [gp,cE];rw [bR oO]
   rw [this];exact h2 i a
  ·obtain rfl:i=n:=oO
   have:gp (l++[p]) i=p:=by simp only [gp,cE];rw [bE oO,h1,cY];rfl
   rw [this];exact hp
theorem adn {b o k:Nat}:(⟨b,o,none⟩:Addr).add k=⟨b,o+k,none⟩:=by
 unfold Addr.add
 split
 ·rename_i h;subst h;rfl
 ·rfl
set_option maxRecDepth 100000 in
theorem aaf {H:Type} {enc:TypeId×Value→H} {W:World} {b0:Nat} {v:Value} {d:DataW H} {p:List MemPlace} (hval:Value.okWide Tryz.prog W .any b0 27 v) (h:DataW.Trod enc Tryz.prog W 0 (fun _=>true) true 27 v d p) :
  ∃ (l:List (Int×Int)) (pl:Pl),Uu W v l.length 2 (dK l) pl∧∀ i<l.length,(-9223372036854775808≤(gp l i).1∧(gp l i).1≤9223372036854775807)∧-9223372036854775808≤(gp l i).2∧(gp l i).2≤9223372036854775807:=by
 obtain ⟨a0,len,g,rfl⟩:=okWide_slice Tryz.underlying27 hval
 obtain ⟨fuel,hf⟩:=h
 have w:Tryz.prog.cellsOf 39=2:=by kernel_rfl
 have k2:Tryz.prog.cellsOf 2=1:=by kernel_rfl
 have k3:Tryz.prog.cellsOf 3=1:=by kernel_rfl
 have c:∃ (l:List (Int×Int)) (pl:Pl),Uu W (.slice a0 0 g) l.length 2 (dK l) pl∧∀ i<l.length,(-9223372036854775808≤(gp l i).1∧(gp l i).1≤9223372036854775807)∧-9223372036854775808≤(gp l i).2∧(gp l i).2≤9223372036854775807 :=
  ⟨[],⟨0,0,0⟩,⟨by simp,fun m ρ i hi hρ=>.emptySlice _ _ _ _,rfl,fun h=>absurd rfl h⟩,fun n hn=>by simp at hn⟩
 rcases Deep.open_slice Tryz.underlying27 hf with ⟨r,-⟩|⟨a,len',cap',m,n,D,Pl,r,-,hl,hm,hmm,-,hi⟩
 ·have e:Value.slice a0 len g=Value.slice none 0 0:=by simpa [Value.cells] using r
  cases e
  exact c
 ·have e:Value.slice a0 len g=Value.slice (some a) len' cap':=by simpa [Value.cells] using r
  cases e
  simp only [if_true] at hmm
  by_cases h0:len=0
  ·subst h0;exact c
  ·have j:∀ i<len,∃ q:Int×Int,(W.cell? (a.add (i*2))=some (.i q.1)∧W.cell? ((a.add (i*2)).add 1)=some (.i q.2))∧(-9223372036854775808≤q.1∧q.1≤9223372036854775807)∧-9223372036854775808≤q.2∧q.2≤9223372036854775807:=fun i y=>by
    obtain ⟨cs,hc,ht⟩:=hi i oO
    rw [w] at hc
    obtain ⟨_,x,s⟩:=World.cells?_some hc
    match cs,x with
    |[c0,c1],_ =>
     obtain ⟨zs,m',_,_,_,f,u⟩:=DataW.trod_struct Tryz.underlying39 ht
     match zs,f with
     |[z0,z1],_ =>
      have q0:=u 0 _ rfl
      have q1:=u 1 _ rfl
      simp only [k2,k3,List.drop_succ_cons,List.drop_zero,List.take_succ_cons,List.take_zero,List.getElem?_cons_zero,List.getElem?_cons_succ] at q0 q1
      obtain ⟨n3,e3,_,w3⟩:=DataW.trod_int Tryz.underlying2 q0
      obtain ⟨n4,e4,_,w4⟩:=DataW.trod_int Tryz.underlying3 q1
      cases e3;cases e4
      have g0:=s 0 oO
      have g1:=s 1 oO
      have ha:(a.add (i*2)).add 0=a.add (i*2):=by simp [Addr.add]
      rw [ha] at g0
      exact ⟨(n3,n4),⟨by simpa using g0,by simpa using g1⟩,wf64 w3,wf64 w4⟩
   obtain ⟨l,z,hq⟩:=afd j
   have h1:=(hq 0 oO).1.1
   have ha:a.add (0*2)=a:=by simp [Addr.add]
   rw [ha] at h1
   obtain ⟨hb,hs⟩:=cell_lt h1
   obtain ⟨b,o,sp⟩:=a
   simp only at hb hs
   subst hs
   have hm':len≤9223372036854775807:=by unfold maxLen at hm;omega
   refine ⟨l,⟨b,o,0⟩,⟨oO,fun m ρ i hi hρ=>?_,wO l,fun _=>⟨hb,fun k hk=>?_⟩⟩,fun i y=>(hq i oO).2⟩
   ·rw [z]
    have:=VQ.slice (q:=false) (n:=m) (ρ:=ρ) i 0 len len g hl hi
    rw [hρ] at this
    simpa using this
   ·rw [wO] at hk
    obtain ⟨g1,g2⟩:=(hq (k / 2) oO).1
    simp only [adn] at g1 g2
    rcases Nat.mod_two_eq_zero_or_one k with h2|h2
    ·have ek:k / 2*2=k:=oO
     have:=sW (pl:=l) (i:=k / 2) oO
     rw [ek] at this g1
     have h3:=cC (l:=dK l) (i:=k) (by rw [wO];omega)
     rw [h3] at this
     rw [g1,← Option.some.inj this]
    ·have ek:k / 2*2+1=k:=oO
     have:=BG (pl:=l) (i:=k / 2) oO
     rw [ek] at this
     have h3:=cC (l:=dK l) (i:=k) (by rw [wO];omega)
     rw [h3] at this
     rw [show o+k=o+k / 2*2+1 from by omega,g2,← Option.some.inj this]
end Go.Proofs.YtajpgeklmcjciaaGreat
namespace Go.AH
open Go Go.RowKit Go.WideShapes Go.ChangeShapes
section
variable {H:Type} {enc:TypeId×Value→H} {P:Program} {w:World} {base:Nat} {spare:Nat→Bool} {held:Bool}
theorem Qw {t t' t'' t3:TypeId} {v v' v'' v3:Value} {d d' d'' d3:DataW H} {p p' p'' p3:List MemPlace} (h:DataW.Trod enc P w base spare held t v d p) (h':DataW.Trod enc P w base spare held t' v' d' p')
  (h'':DataW.Trod enc P w base spare held t'' v'' d'' p'') (h3:DataW.Trod enc P w base spare held t3 v3 d3 p3):DataW.TrodAll enc P w base spare held [t,t',t'',t3] [v,v',v'',v3] [d,d',d'',d3] (p++(p'++(p''++p3))):=⟨p,p'++(p''++p3),h,trodAll_mk3 h' h'' h3,rfl⟩
end
section
variable {H:Type} {enc:TypeId×Value→H} {P:Program} {W:World}
theorem Uw {b0:Nat} {t:TypeId} {v:Value} {d:DataW H} {p:List MemPlace} (ht:P.underlying t=some (.int .u32)) (hval:Value.okWide P W .any b0 t v)
  (h:DataW.Trod enc P W 0 (fun _=>true) true t v d p):∃ n:Int,v=.int .u32 n∧0≤n∧n≤4294967295:=by
 obtain ⟨n,rfl,_,_,wn⟩:=open_int ht hval h
 simp only [Lit.wf,aE,decide_eq_true_eq] at wn
 exact ⟨n,rfl,wn⟩
theorem afe {b0:Nat} {t:TypeId} {v:Value} {d:DataW H} {p:List MemPlace} (ht:P.underlying t=some (.int .u8)) (hval:Value.okWide P W .any b0 t v)
  (h:DataW.Trod enc P W 0 (fun _=>true) true t v d p):∃ n:Int,v=.int .u8 n∧0≤n∧n≤255:=by
 obtain ⟨n,rfl,_,_,wn⟩:=open_int ht hval h
 simp only [Lit.wf,aE,decide_eq_true_eq] at wn
 exact ⟨n,rfl,wn⟩
end
section
variable {H:Type} {enc:TypeId×Value→H} {P:Program} {w:World} {base:Nat} {spare:Nat→Bool} {held:Bool}
theorem Qx {t t' t'' t3 t4:TypeId} {v v' v'' v3 v4:Value} {d d' d'' d3 d4:DataW H} {p p' p'' p3 p4:List MemPlace} (h:DataW.Trod enc P w base spare held t v d p) (h':DataW.Trod enc P w base spare held t' v' d' p')
  (h'':DataW.Trod enc P w base spare held t'' v'' d'' p'') (h3:DataW.Trod enc P w base spare held t3 v3 d3 p3) (h4:DataW.Trod enc P w base spare held t4 v4 d4 p4):DataW.TrodAll enc P w base spare held [t,t',t'',t3,t4] [v,v',v'',v3,v4] [d,d',d'',d3,d4] (p++(p'++(p''++(p3++p4)))):=⟨p,p'++(p''++(p3++p4)),h,Qw h' h'' h3 h4,rfl⟩
end
section
variable {H:Type} {enc:TypeId×Value→H} {P:Program} {w:World} {base:Nat} {spare:Nat→Bool} {held:Bool}
theorem WQ {t0 t1 t2 t3 t4 t5:TypeId} {args:Array Value} {ds:List (DataW H)} {ps:List MemPlace} (h:DataW.TrodAll enc P w base spare held [t0,t1,t2,t3,t4,t5] args.toList ds ps) :
  ∃ v0 v1 v2 v3 v4 v5 d0 d1 d2 d3 d4 d5 p0 p1 p2 p3 p4 p5,args=#[v0,v1,v2,v3,v4,v5]∧ds=[d0,d1,d2,d3,d4,d5]∧ps=p0++p1++p2++p3++p4++p5∧DataW.Trod enc P w base spare held t0 v0 d0 p0∧DataW.Trod enc P w base spare held t1 v1 d1 p1∧DataW.Trod enc P w base spare held t2 v2 d2 p2 ∧
   DataW.Trod enc P w base spare held t3 v3 d3 p3∧DataW.Trod enc P w base spare held t4 v4 d4 p4∧DataW.Trod enc P w base spare held t5 v5 d5 p5:=by
 obtain ⟨v,vs,d,ds',p,q,hargs,rfl,rfl,hd,i⟩:=trodAll_cons h
 obtain ⟨v',vs',d',ds'',p',q',rfl,rfl,rfl,m,g⟩:=trodAll_cons i
 obtain ⟨o,vs'',n,ds''',r,q'',rfl,rfl,rfl,j,a⟩:=trodAll_cons g
 obtain ⟨v3,vs3,d3,ds3,p3,q3,rfl,rfl,rfl,u,e⟩:=trodAll_cons a
 obtain ⟨v4,vs4,d4,ds4,p4,q4,rfl,rfl,rfl,l,f⟩:=trodAll_cons e
 obtain ⟨v5,vs5,d5,ds5,p5,q5,rfl,rfl,rfl,s,c⟩:=trodAll_cons f
 obtain ⟨rfl,rfl,rfl⟩:=trodAll_nil c
 exact ⟨v,v',o,v3,v4,v5,d,d',n,d3,d4,d5,p,p',r,p3,p4,p5,by cases args;simp_all,rfl,by simp,hd,m,j,u,l,s⟩
theorem Qy {t t' t'' t3 t4 t5:TypeId} {v v' v'' v3 v4 v5:Value} {d d' d'' d3 d4 d5:DataW H} {p p' p'' p3 p4 p5:List MemPlace} (h:DataW.Trod enc P w base spare held t v d p) (h':DataW.Trod enc P w base spare held t' v' d' p')
  (h'':DataW.Trod enc P w base spare held t'' v'' d'' p'') (h3:DataW.Trod enc P w base spare held t3 v3 d3 p3) (h4:DataW.Trod enc P w base spare held t4 v4 d4 p4) (h5:DataW.Trod enc P w base spare held t5 v5 d5 p5) :
  DataW.TrodAll enc P w base spare held [t,t',t'',t3,t4,t5] [v,v',v'',v3,v4,v5] [d,d',d'',d3,d4,d5] (p++(p'++(p''++(p3++(p4++p5))))):=⟨p,p'++(p''++(p3++(p4++p5))),h,Qx h' h'' h3 h4 h5,rfl⟩
end
section
variable {H:Type} {enc:TypeId×Value→H} {P:Program} {W:World}
end
end Go.AH
