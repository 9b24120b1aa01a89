/- More arguments of a law: six of them; arrays of two or three small numbers. -/
import Derived.Test.YtajpgeklmcjciaaGreatPxQ6
import Derived.Test.YtajpgeklmcjciaaGreatPxMM
import Derived.Test.YtajpgeklmcjciaaGreatPxQ1
import Derived.Deep.Slices
import Derived.OpenShut
set_option maxRecDepth 100000
set_option maxHeartbeats 1000000
namespace Go.AH
open Go
theorem IU {P:Program} {n0 N:Nat} {rd:Option Nat} {c:Code} {Q:Post} {e:Env} {mk:List Nat} {σ:Heap} (Q1:Env→List Nat→Heap→Prop)
  (h:bK P n0 N rd c (fun ex e mk s=>(ex=.normal∧Q1 e mk s)∨Q ex e mk s) e mk σ) (k:∀ e mk s,Q1 e mk s→Q .normal e mk s):bK P n0 N rd c Q e mk σ :=
 h.mono fun ex e mk s hq=>by
  rcases hq with ⟨rfl,h⟩|h
  ·exact k _ _ _ h
  ·exact h
theorem uQ {P:Program} {e:Env} {s f off t size bytes i o:Nat} {agg:Bool} {z:Value} {ty:TypeId} {x:Operand} [hf:Fld P s f off t] [ht:Ty P t (size+1) agg z bytes] (h:aP e x=some (.pointer (some ⟨i,o,none⟩))):Vf P (.fieldAddr s x f) ty e (.pointer (some ⟨i,o+off,none⟩)) :=
 ⟨fun o ho w ev=>by simp [Oper.about,ho],fun op ho _ n ρ ev a=>by
  obtain ⟨c,hi⟩:=ng (a x (by simp [Op.operands]) _ h)
  obtain ⟨fs,fl,h1,h2,rfl,rfl⟩:=hf.und
  refine ⟨.pointer (some ⟨(ρ i).b,(ρ i).o+(o+fl.offset),none⟩),fun w=>?_,.ptr _ _ hi⟩
  simp [execOp,ho,c,Instr.fieldAt,Instr.sureAddr,kT h1,h2,fieldPlace,ht.sizeOf,addr_add,cF]⟩
theorem IV {P:Program} {e:Env} {t el size bytes i o n c:Nat} {agg:Bool} {z:Value} {k:IntKind} {j:Int} {ty:TypeId} {x y:Operand} [ha:Sl P t el] [ht:Ty P el size agg z bytes] (h:aP e x=some (.slice (some ⟨i,o,none⟩) n c)) (hy:aP e y=some (.int k j))
  (h0:0≤j) (h1:j<n):Vf P (.indexAddr t x y) ty e (.pointer (some ⟨i,o+j.toNat*size,none⟩)) :=
 ⟨fun o ho w ev=>by simp [Oper.about,ho],fun op ho _ q ρ ev a=>by
  have hv:=a x (by simp [Op.operands]) _ h
  have hi:=bH (a y (by simp [Op.operands]) _ hy) rfl
  generalize hr:ev x=r at hv
  cases hv with
  |emptySlice=>omega
  |slice _ _ _ _ c' hc hil =>
   refine ⟨.pointer (some ⟨(ρ i).b,(ρ i).o+(o+j.toNat*size),none⟩),fun w=>?_,.ptr _ _ hil⟩
   simp [execOp,ho,hr,hi,Instr.indexAt,asIntOf,kT ha.und,h0,h1,ht.sizeOf,addr_add,cF]
  |sliceG _ _ _ _ _ _ _ _ hq=>simp at hq⟩
theorem lM.upd {n0:Nat} {σ σ2:Heap} {e e2:Env} (hn0:n0≤σ2.length) (hl:σ2.length=σ.length)
  (ho:(∀ (i:Nat) (o:aB),σ[i]?=some o→fO σ.length o)→∀ (i:Nat) (o2:aB),σ2[i]?=some o2→σ[i]?=some o2∨xY σ σ.length (fun i=>⟨i,0,0⟩) ⟨i,0,0⟩ o2)
  (he:EY σ.length (fun i=>⟨i,0,0⟩) e e2):lM n0 σ σ2 e e2 :=
 .inr fun a=>⟨fun i=>⟨i,0,0⟩,⟨hn0,fun _ _=>rfl,fun i o2 h=>by
  rw [hl]
  rcases ho a i o2 h with h|h
  ·exact lY (m:=σ.length) (fun _ _=>rfl) (aD _) (aQ h) h (a i o2 h)
  ·exact h,fun i j _ _ _ _ _ _ h=>h⟩,by rw [hl];exact yR he⟩
end Go.AH
namespace Go.Proofs.YtajpgeklmcjciaaGreat
open Go Go.AH
attribute [local irreducible] cO bK bP jB gy dO fB bW eU aX dV eH
open Go.AH.Heat Go.AH.Warp
theorem QF {σ:Heap} {y i:Nat} {l:List Int} (h:dN σ y (ints l)) (hi:i<l.length):aH σ y i=some (.i (gi l i)):=by
 have h1:=gQ hi
 rcases h with h|h|⟨t,h⟩ <;> simpa [aH,h] using h1
def rJ (kb:Nat→Nat) (n:Nat):List Value:=(List.range n).map fun j=>.slice (some ⟨kb j,0,none⟩) 12 12
theorem Oo (kb:Nat→Nat) (n:Nat):(rJ kb n).length=n*1:=by simp [rJ]
theorem aav {kb:Nat→Nat} {n b:Nat}:rJ (fun j=>if j=n then b else kb j) (n+1)=rJ kb n++[.s b 12 12]:=by
 unfold rJ
 rw [fy,eC]
 congr 1
 ·refine eD fun j hj=>?_
  have:=List.mem_range.1 hj
  simp [show j ≠ n by omega]
 ·simp
theorem UH {H:Heap} {b n k:Nat} {kb:Nat→Nat} (h:H[b]?=some (.rw (rJ kb n))) (hk:k<n):aJ H b k 1=some [.s (kb k) 12 12]:=by
 have hl:=Oo kb n
 unfold aJ
 rw [h]
 have hb:Nat.ble (k+1) (rJ kb n).length=true:=by rw [hl,Nat.ble_eq];omega
 have hd:((rJ kb n).drop k).take 1=[.s (kb k) 12 12]:=by
  rw [List.drop_eq_getElem_cons oO]
  simp [rJ]
 simp only [hb,cond_true,hd]
theorem oW {A B:Prop} (k:B) (h:Hide B→A:=by intro h_k_;(repeat' (first|refine sCm ?_|(refine gU ?_;first|refine st (su (by rfl) (by rfl) (by rfl) (by rfl) rfl rfl) rfl rfl ?_|(refine bV ?_;first|refine st (aK rfl (by first|exact hd1|exact hd2)) rfl rfl ?_|refine st (bC rfl (by first|exact aV a6 rfl|exact aV a7 rfl|exact aV (aA a7) rfl|exact hd1|exact dU rfl)) rfl rfl ?_)|refine LM ?_|refine sK8 ?_|(refine aaL ?_;refine st (zL rfl rfl (by omega) (by omega)) rfl rfl ?_)|(refine BJ ?_;first|refine st (jm rfl rfl rfl) rfl rfl ?_|refine st (U0 rfl rfl (by omega)) rfl rfl ?_|refine st (UZ rfl rfl (by omega)) rfl rfl ?_)|(refine nN ?_;first|refine st (kP rfl (by first|rfl|exact fC (by assumption)) rfl) rfl rfl ?_|refine st (jA rfl (by first|rfl|exact dB (by assumption)) rfl) rfl rfl ?_)|(refine yN ?_;refine st (kU rfl) rfl rfl ?_)|(refine gIA ?_;first|refine st (nC rfl rfl (by omega)) rfl rfl ?_|refine st (iV rfl rfl (by omega)) rfl rfl ?_)|(refine aaM ?_;refine st (Ce rfl rfl) rfl rfl ?_)|(refine gConv ?_;refine st (SQ rfl (by omega) (by omega)) rfl rfl ?_)|refine sK4 ?_|(refine dX ?_;refine st (bG rfl rfl rfl (by first|exact hf1|exact hf2|exact hf3)) rfl rfl ?_)|refine Hr ?_|(refine gV ?_;refine stN (bU rfl rfl rfl rfl (by first|exact hputB _ _|exact uZ rfl rfl)) rfl ?_))|(refine gG ?_;first|(refine zq ?_;refine stG rfl (by first|rfl|exact dB (by assumption)) (eP rfl) rfl rfl ?_)|(refine gFA ?_;refine stG rfl (by first|rfl|exact dB (by assumption)) (bF rfl) rfl rfl ?_)|(refine bV ?_;first|refine stG rfl (by first|rfl|exact dB (by assumption)) (aK rfl (by first|exact ig rfl|exact aF a7)) rfl rfl ?_|refine stG rfl (by rfl) (bC rfl (by exact aV a7 rfl)) rfl rfl ?_)|(refine Je ?_;refine stG rfl (by exact dB (by assumption)) (vH rfl rfl (by omega) (by omega)) rfl rfl ?_)|(refine BJ ?_;refine stG rfl (by first|rfl|exact dB (by assumption)) (jm rfl rfl rfl) rfl rfl ?_)|(refine ER ?_;refine stG rfl (by first|rfl|exact dB (by assumption)) (lJ rfl) rfl rfl ?_)|(refine dX ?_;refine stG rfl (by first|rfl|exact fC (by assumption)) (bG rfl rfl rfl (by exact hf2)) rfl rfl ?_)|refine stS rfl (by first|rfl|exact fC (by assumption)) rfl ?_)|(refine fU ?_;first|refine qV ?_;refine frA (eP rfl) rfl ?_ hcls|refine fFA ?_;refine frA (bF rfl) rfl ?_ hclp|refine fFA ?_;refine frA (bF rfl) rfl ?_ hclg|refine fIA ?_;refine frA (iV rfl rfl (by omega)) rfl ?_ hclg|refine gB ?_;refine frA (aK rfl (by exact hqo _)) rfl ?_ rfl|refine gB ?_;refine frA (aK rfl (by exact hqf _)) rfl ?_ rfl|refine fConv ?_;refine frA (SQ rfl (by omega) (by omega)) rfl ?_ rfl|refine Py ?_|(refine Ij ?_;refine fr (kH rfl) (by rfl) rfl ?_)|refine Zu ?_|refine LK ?_|(refine fMul ?_;refine fr (zL rfl rfl (by omega) (by omega)) (by rfl) rfl ?_)|(refine ET ?_;first|refine fr (U0 rfl rfl (by omega)) (by rfl) rfl ?_|refine fr (Ac rfl rfl (by omega) (by omega) (by omega)) (by rfl) rfl ?_)|refine VP ?_|(refine EU ?_;refine fr (oG (by rfl) rfl (by rfl)) (by rfl) rfl ?_)|(refine zU ?_;refine fr1 (lu rfl) rfl rfl rfl ?_))|(refine fP ⟨by kernel_rfl,?_⟩)|refine dA (id:=13) ?_|refine dA (id:=15) ?_|refine dA (id:=16) ?_|refine dA (id:=20) ?_|refine dA (id:=22) ?_|refine dA (id:=23) ?_|refine dA (id:=24) ?_|refine dA (id:=26) ?_|refine dA (id:=28) ?_|refine dA (id:=29) ?_|refine dA (id:=30) ?_|refine aG ?_|refine aeR (t:=66) ?_|refine sK2 ?_|refine sK6 ?_));exact h_k_.h):A:=h ⟨k⟩
set_option maxHeartbeats 4000000 in
theorem QG {σ:Heap} {s:St} {l:List Int} {pl:List (Int×Int)} {x y c c2:Nat} {run len off:Int} (hx:dN σ x (ints l)) (hy:dN σ y (dI pl)) (hsr:-9223372036854775808≤s.short∧s.short≤9223372036854775807)
  (hrun:0≤run∧run≤255) (hlen:0≤len∧len≤4294967295) (hoff:0≤off∧off≤4294967295) (hni:σ.all (fun o=>!aU o)=true) :
  Ev Tryz.prog 3 [s.val,.s x l.length c,.s y pl.length c2,.int .u8 run,.int .u32 len,.int .u32 off] σ (.bool true) σ:=by
 refine aI σ.length 312 Tryz.func3 rfl rfl rfl rfl rfl ?_
 have hxl:=jF hx
 have hyl:=jF hy
 obtain ⟨H,hH⟩:∃ H,H=σ++[aB.rw s.cells]:=⟨_,rfl⟩
 have hp:H.take σ.length=σ:=by rw [hH];simp
 have d:H.all (fun o=>!aU o)=true:=by rw [hH];exact bD hni rfl
 have a6:H[σ.length]?=some (.rw s.cells):=by rw [hH];exact aO
 have G:=jH hp hx
 have c7:=jH hp hy
 have hf1:=Xa (s:=s) (c:=c) G d
 have hf2:=Dn d
 by_cases h1:l.length≤20∧iD s l=0
 ·rw [decide_eq_true h1] at hf1
  obtain ⟨h12,hl1,hs,dh⟩:=mX h1.2
  have a9:=J3 dh
  have dm:1≤s.short∧s.short≤s.long∧s.long≤100000∧0≤s.off∧s.off<s.short:=by unfold fA at hs;omega
  by_cases h2:(l.length:Int) > 5
  ·rw [hH] at hf1 hf2
   refine oW ?_
   exact dK (.tmp rfl .nil) (.plain oS rfl) ⟨rfl,rfl⟩
  ·by_cases h3:(pl.length:Int) > 20
   ·rw [hH] at hf1 hf2
    refine oW ?_
    exact dK (.tmp rfl .nil) (.plain oS rfl) ⟨rfl,rfl⟩
   ·by_cases h4:s.long+s.off > 100000
    ·rw [hH] at hf1 hf2
     refine oW ?_
     exact dK (.tmp rfl .nil) (.plain oS rfl) ⟨rfl,rfl⟩
    ·have hf3:=Lm (s:=s) (c:=c) (c2:=c2) G c7 d
     rw [hH] at hf1 hf2 hf3
     refine oW ?_
     clear hf1 hf2 hf3
     refine ⟨dH [(1,.s x l.length c),(3,.int .u8 run),(4,.int .u32 len),(5,.int .u32 off),(6,.p σ.length),(12,.bool false),(13,.s y pl.length c2),(66,.bool (decide (rZ s l pl ≠ 0)))] H hH.symm tE ?_⟩
     refine IU (fun e mk K=>mk=[]∧∃ (py pc:Nat) (p:List (Int×Int)),qW e [(1,.s x l.length c),(3,.int .u8 run),(4,.int .u32 len),(5,.int .u32 off),(6,.p σ.length),(13,.s py p.length pc)]∧K.take σ.length=σ∧K[σ.length]?=some (.rw s.cells)∧dN K py (dI p)∧K.all (fun o=>!aU o)=true∧rZ s l p=0) ?_ ?_
     ·by_cases ba:rZ s l pl=0
      ·refine nZ rfl (decide_eq_false fun h=>h ba) ?_
       refine oW ?_
       exact .inl ⟨rfl,rfl,y,c2,pl,tE,hp,a6,c7,d,ba⟩
      ·have hf1:=Tj (s:=s) (l:=l) (c:=c) G oO hsr d
       refine qP rfl (decide_eq_true ba) ?_
       by_cases T:zA s l=0
       ·have bq:¬ zA s l ≠ 0:=fun h=>h T
        refine oW ?_
        exact .inl ⟨rfl,rfl,H.length,_,wE s l,tE,aT hp,aA a6,.inr (.inl aO),bD d rfl,(V6 h1.2 T).right h1.2⟩
       ·have bq:zA s l ≠ 0:=T
        have hpe3:zA s l=19:=by
         unfold zA at T ⊢
         rw [if_neg (by simp [h1.2])] at T ⊢
         split at T
         ·exact absurd rfl T
         ·rename_i hx;rw [if_neg hx]
        have hf2:=Dn (σ:=H++[aB.rw (dI (wE s l))]) (bD d rfl)
        refine oW ?_
        refine .inr ?_
        refine oW ?_
        exact dK (.tmp rfl .nil) (.plain (aT hp) rfl) ⟨rfl,rfl⟩
     ·rintro e mk K ⟨rfl,py,pc,p,hE,cb,b6,ar,D,bg⟩
      clear a6 G c7 d hp hH H
      have a6:=b6
      have b3:=jH cb hx
      obtain ⟨c1,c2',c3,c4,c5⟩:=Aq bg
      obtain ⟨i,hi⟩:∃ i:Nat,i=(run.tmod (p.length:Int)).toNat:=⟨_,rfl⟩
      have bl:run.tmod (p.length:Int)=(i:Int):=by rw [hi,Int.tmod_eq_emod_of_nonneg hrun.1];have:=Int.emod_nonneg run (show (p.length:Int) ≠ 0 by omega);omega
      have r:i<p.length:=by
       have:=Int.emod_lt_of_pos run (show (0:Int)<(p.length:Int) by omega)
       rw [Int.tmod_eq_emod_of_nonneg hrun.1] at bl;omega
      clear hi
      have hb:∀ j<p.length,-1000000≤(gp p j).1∧(gp p j).1≤1000000:=fun j hj=>by have:=nJ c4 j hj;omega
      have du:=nJ c4 i r
      have da:=PZ dm.2.1 c4 r
      have hf1:=QC (s:=s) (c:=c) (c2:=pc) b3 ar hsr bg D
      have hf2:=Lm (σ:=K++[aB.rw [.i (Gm s l p).1,.i (Gm s l p).2]]) (s:=s) (c:=c) (c2:=pc) (pR b3) (pR ar) (bD D rfl)
      rw [bg] at hf2
      have a7:(K++[aB.rw [.i (Gm s l p).1,.i (Gm s l p).2]])[σ.length]?=some (.rw s.cells):=aA a6
      refine uD ?_
      refine dH _ K rfl hE ?_
      refine oW ?_
      clear hf1 hf2 a7
      obtain ⟨K1,J⟩:∃ K1,K1=K++[aB.rw [.i (Gm s l p).1,.i (Gm s l p).2]]:=⟨_,rfl⟩
      obtain ⟨vb,ax⟩:∃ vb,vb=K.length:=⟨_,rfl⟩
      refine .mk (dH [(1,.s x l.length c),(4,.int .u32 len),(5,.int .u32 off),(6,.p σ.length),(13,.s py p.length pc),(16,.p vb),(18,.i (i:Nat))] K1 J.symm ⟨rfl,rfl,rfl,rfl,rfl,congrArg (fun n=>some (Value.p n)) ax.symm,congrArg (fun x=>some (Value.i x)) bl,trivial⟩ ?_)
      have dn:K1.take σ.length=σ:=by rw [J];exact aT cb
      have ap:K1[σ.length]?=some (.rw s.cells):=by rw [J];exact aA a6
      have aw:K1[vb]?=some (.rw [.i (Gm s l p).1,.i (Gm s l p).2]):=by rw [J,ax];exact aO
      have ay:dN K1 x (ints l):=by rw [J];exact pR b3
      have z:dN K1 py (dI p):=by rw [J];exact pR ar
      have ak:K1.all (fun o=>!aU o)=true:=by rw [J];exact bD D rfl
      have hvl:σ.length+1≤vb:=by rw [ax];exact aQ a6
      clear ax J a6 b6 b3 ar D cb hE bl K
      have a6:=ap
      have hf1:=NI (s:=s) (c:=pc) z r oO hb ak
      obtain ⟨fm,a3⟩:∃ fm,fm=(gp p i).1:=⟨_,rfl⟩
      have hd1:aH K1 py (0+i*2+0)=some (.i fm):=by rw [a3];exact IK z r
      obtain ⟨en,cw⟩:∃ en,en=wC s.short p i:=⟨_,rfl⟩
      rw [← cw] at hf1 da
      rw [← a3] at da du
      obtain ⟨mm,ci⟩:∃ mm,mm=en+len.tmod (fm - en+1):=⟨_,rfl⟩
      have hmr:en≤mm∧mm≤fm:=by
       rw [ci,Int.tmod_eq_emod_of_nonneg hlen.1]
       have h1:=Int.emod_nonneg len (show (fm - en+1:Int) ≠ 0 by omega)
       have h2:=Int.emod_lt_of_pos len (show (0:Int)<fm - en+1 by omega)
       omega
      obtain ⟨tr,d1⟩:∃ tr,tr=mm - s.off+off.tmod (2*s.off+1):=⟨_,rfl⟩
      have htrr:mm - s.off≤tr∧tr≤mm+s.off:=by
       rw [d1,Int.tmod_eq_emod_of_nonneg hoff.1]
       have h1:=Int.emod_nonneg off (show (2*s.off+1:Int) ≠ 0 by omega)
       have h2:=Int.emod_lt_of_pos off (show (0:Int)<2*s.off+1 by omega)
       omega
      have q1:0≤len.tmod (fm - en+1)∧len.tmod (fm - en+1)≤1000000:=oO
      have q2:0≤off.tmod (2*s.off+1)∧off.tmod (2*s.off+1)≤1000000:=oO
      apply aG
      refine oW ?_
      have hclp:∀ {o:Nat},closed K1.length (.pointer (some ⟨σ.length,o,none⟩))=true:=fun {o}=>Nat.blt_eq.mpr (aQ ap)
      have hcls:∀ {o n c:Nat},closed K1.length (.slice (some ⟨py,o,none⟩) n c)=true:=fun {o n c}=>bM (Nat.blt_eq.mpr (jF z))
      have a1:∀ {o n c:Nat},closed K1.length (.slice (some ⟨x,o,none⟩) n c)=true:=fun {o n c}=>bM (Nat.blt_eq.mpr (jF ay))
      have hclg:∀ {o:Nat},closed K1.length (.pointer (some ⟨py,o,none⟩))=true:=fun {o}=>Nat.blt_eq.mpr (jF z)
      have hqo:∀ X,aH (K1++X) σ.length (0+2)=some (.i s.off):=fun X=>aF (aA ap)
      have hqf:∀ X,aH (K1++X) py (0+i*2+0)=some (.i fm):=fun X=>by rw [a3];exact IK (pR z) r
      refine .mk (eY oK rfl (?_))
      refine oW ?_
      refine .mk (dH [(1,.s x l.length c),(6,.p σ.length),(13,.s py p.length pc),(16,.p vb),(18,.i (i:Nat)),(19,.i en),(21,.i tr)] K1 (bL K1) ⟨rfl,rfl,rfl,rfl,rfl,rfl,congrArg (fun x=>some (Value.i x)) (by rw [d1,ci]),trivial⟩ ?_)
      clear hd1 hf1 hqo hqf hclp hcls a1 hclg
      apply aG
      refine oW ?_
      refine dS (ι:=Nat×Nat×(Nat→Nat)) (fun k=>[(1,.s x l.length c),(6,.p σ.length),(13,.s py p.length pc),(16,.p vb),(18,.i (i:Nat)),(19,.i en),(21,.i tr),(22,.p K1.length),(23,.i (k.1:Nat))])
       (fun k mk H=>k.1≤l.length∧mk=[]∧H.take K1.length=K1∧H.all (fun o=>!aU o)=true∧(∀ j<k.1,H[k.2.2 j]?=some (.rw (jP (iL (gi l j)) 12)))∧((k.1=0∧H[K1.length]?=some (.rw [.slice none 0 0]))∨(0<k.1∧K1.length+1≤k.2.1∧H[K1.length]?=some (.rw [dW k.2.1 1 k.1])∧H[k.2.1]?=some (.gr (rJ k.2.2 k.1) 45)))) (fun k=>l.length - k.1) (0,0,fun _=>0) tE ⟨bN _,rfl,by simp,bD ak rfl,fun j hj=>absurd hj oS,.inl ⟨rfl,aO⟩⟩ ?_
      rintro ⟨k,gb,kb⟩ mk H ⟨hk,rfl,M,d,b1,aq⟩
      dsimp only at hk b1 aq ⊢
      have cf:K1.length<H.length:=by rcases aq with ⟨_,h⟩|⟨_,_,h,_⟩ <;> exact aQ h
      have G:=jH M ay
      by_cases bt:k<l.length
      ·have dq:(k:Int)<(l.length:Nat):=oO
       have dr:=a9 k bt
       refine oW ?_
       refine .mk (dH [(1,.s x l.length c),(6,.p σ.length),(13,.s py p.length pc),(16,.p vb),(18,.i (i:Nat)),(19,.i en),(21,.i tr),(22,.p K1.length),(23,.i (k:Nat))] H rfl tE ?_)
       have hf1:=aas (σ:=H) dr
       have cl:aH H x k=some (.i (gi l k)):=QF G bt
       have hq2b:aH H x (0+(k:Int).toNat*1)=some (.i (gi l k)):=by simpa using QF G bt
       rcases aq with ⟨rfl,g⟩|⟨hk0,cj,g,hg⟩
       ·have ah:aH H K1.length (0+0)=some (.slice none 0 0):=aF g
        have a0:∀ X,aH (H++X) K1.length (0+0)=some (.slice none 0 0):=fun X=>aF (aA g)
        have U:∀ X Y,aH (H++X++Y) K1.length (0+0)=some (.slice none 0 0):=fun X Y=>aF (aA (aA g))
        have P:∀ (A B:aB) (X:Heap) v,putCells (H++[A]++[B]++X) K1.length (0+0) [v]=some ((H++[A]++[B]++X).set K1.length (.rw [v])):=fun A B X v=>fM (aA (aA (aA g))) oS oS rfl
        refine IU (fun e mk s=>mk=[]∧qW e [(1,.s x l.length c),(6,.p σ.length),(13,.s py p.length pc),(16,.p vb),(18,.i (i:Nat)),(19,.i en),(21,.i tr),(22,.p K1.length),(23,.i ((0:Nat):Int))]∧s=(H++[aB.rw (jP (iL (gi l 0)) 12)]++[aB.rw [.s H.length 12 12]]++[aB.dead,aB.gr [.s H.length 12 12] 45]).set K1.length (.rw [dW ((H++[aB.rw (jP (iL (gi l 0)) 12)]++[aB.rw [.s H.length 12 12]]).length+1) 1 1])) ?_ ?_
        ·refine Fb (id:=20) oK (?_)
         repeat' (first|(refine gU ?_;first|refine st (su oR oR oR oR rfl rfl) rfl rfl ?_|refine st (wF oR rfl rfl (by exact dU rfl) oO oR oO oD) rfl rfl ?_|(refine bV ?_;refine st (aK rfl (by first|exact ah|exact a0 _|exact U _ _|exact cl)) rfl rfl ?_)|refine sK1 ?_|(refine dX ?_;refine st (bG rfl rfl rfl (by exact hf1)) rfl rfl ?_)|(refine gV ?_;refine stN (bU rfl rfl rfl rfl (by exact P _ _ _ _)) rfl ?_))|refine lI ?_|refine Kq ?_|refine uo 1 4 rfl rfl ?_ ?_|refine uo 1 5 rfl rfl ?_ ?_|refine uo 1 6 rfl rfl ?_ ?_|refine uo 1 7 rfl rfl ?_ ?_|refine jq 0 (hp:=by exact uQ rfl) rfl rfl ?_|refine jq 2 (hp:=by exact wU rfl) rfl rfl ?_|refine jq 3 (hp:=by exact wU rfl) rfl rfl ?_|refine jq 4 (hp:=by exact IV rfl rfl oO oO) rfl rfl ?_|refine jq 9 (hp:=by exact uQ rfl) rfl rfl ?_|refine lD 1 rfl ?_|refine lD 5 rfl ?_|refine lD 6 rfl ?_|refine lD 7 rfl ?_|refine lD 8 rfl ?_|refine lD 10 rfl ?_)
         all_goals exact .inl ⟨rfl,rfl,tE,rfl⟩
        ·rintro e mk s ⟨rfl,hE,rfl⟩
         refine wK (uD ?_)
         refine dH _ _ rfl hE ?_
         refine oW ?_
         refine ⟨(0+1,(H++[aB.rw (jP (iL (gi l 0)) 12)]++[aB.rw [.s H.length 12 12]]).length+1,fun _=>H.length),⟨by dsimp only;omega,rfl,take_set (aT (aT (aT M))) (aD _),jZ (bD (bD (bD d rfl) rfl) rfl) rfl,fun j hj=>?_,.inr ⟨by dsimp only;omega,by simp;omega,?_,?_⟩⟩,by dsimp only;omega,tE⟩
         ·obtain rfl:j=0:=by dsimp only at hj;omega
          dsimp only
          exact aC (aA (aA aO)) oO
         ·exact aS (aA (aA (aA g)))
         ·exact aC wI (by simp;omega)
       ·have ah:aH H K1.length (0+0)=some (dW gb 1 k):=aF g
        have a0:∀ X,aH (H++X) K1.length (0+0)=some (dW gb 1 k):=fun X=>aF (aA g)
        have U:∀ X Y,aH (H++X++Y) K1.length (0+0)=some (dW gb 1 k):=fun X Y=>aF (aA (aA g))
        have dv:∀ A B:aB,(H++[A]++[B])[gb]?=some (.gr (rJ kb k) 45):=fun A B=>aA (aA hg)
        have av:(rJ kb k).length=k*1:=Oo _ _
        have P:∀ (A B:aB) (X:Heap) v,putCells ((H++[A]++[B]).set gb .dead++X) K1.length (0+0) [v]=some (((H++[A]++[B]).set gb .dead++X).set K1.length (.rw [v])):=fun A B X v=>fM (aA (aC (aA (aA g)) oO)) oS oS rfl
        refine IU (fun e mk s=>mk=[]∧qW e [(1,.s x l.length c),(6,.p σ.length),(13,.s py p.length pc),(16,.p vb),(18,.i (i:Nat)),(19,.i en),(21,.i tr),(22,.p K1.length),(23,.i (k:Nat))]∧s=((H++[aB.rw (jP (iL (gi l k)) 12)]++[aB.rw [.s H.length 12 12]]).set gb .dead++[aB.gr (rJ kb k++[.s H.length 12 12]) 45]).set K1.length (.rw [dW (H++[aB.rw (jP (iL (gi l k)) 12)]++[aB.rw [.s H.length 12 12]]).length 1 (k+1)])) ?_ ?_
        ·refine Fb (id:=20) oK (?_)
         repeat' (first|(refine gU ?_;first|refine st (su oR oR oR oR rfl rfl) rfl rfl ?_|refine st (iQ oR oR rfl (by exact dv _ _) (by exact av) rfl (by exact dU rfl) oO oR oO oD) rfl rfl ?_|(refine bV ?_;refine st (aK rfl (by first|exact ah|exact a0 _|exact U _ _|exact cl|assumption)) rfl rfl ?_)|refine sK1 ?_|(refine dX ?_;refine st (bG rfl rfl rfl (by exact hf1)) rfl rfl ?_)|(refine gV ?_;refine stN (bU rfl rfl rfl rfl (by exact P _ _ _ _)) rfl ?_))|refine lI ?_|refine Kq ?_|refine uo 1 4 rfl rfl ?_ ?_|refine uo 1 5 rfl rfl ?_ ?_|refine uo 1 6 rfl rfl ?_ ?_|refine uo 1 7 rfl rfl ?_ ?_|refine jq 0 (hp:=by exact uQ rfl) rfl rfl ?_|refine jq 2 (hp:=by exact wU rfl) rfl rfl ?_|refine jq 3 (hp:=by exact wU rfl) rfl rfl ?_|refine jq 4 (hp:=by exact IV rfl rfl oO oO) rfl rfl ?_|refine jq 9 (hp:=by exact uQ rfl) rfl rfl ?_|refine lD 1 rfl ?_|refine lD 5 rfl ?_|refine lD 6 rfl ?_|refine lD 7 rfl ?_|refine lD 8 rfl ?_|refine lD 10 rfl ?_)
         all_goals exact .inl ⟨rfl,rfl,tE,rfl⟩
        ·rintro e mk s ⟨rfl,hE,rfl⟩
         refine wK (uD ?_)
         refine dH _ _ rfl hE ?_
         refine oW ?_
         have hgl2:=aQ hg
         refine ⟨(k+1,(H++[aB.rw (jP (iL (gi l k)) 12)]++[aB.rw [.s H.length 12 12]]).length,fun j=>if j=k then H.length else kb j),⟨by dsimp only;omega,rfl,take_set (aT (take_set (aT (aT M)) oO)) (aD _),jZ (bD (jZ (bD (bD d rfl) rfl) rfl) rfl) rfl,fun j hj=>?_,.inr ⟨by dsimp only;omega,by simp;omega,?_,?_⟩⟩,by dsimp only;omega,tE⟩
         ·dsimp only at hj ⊢
          by_cases d9:j=k
          ·subst d9
           rw [if_pos rfl]
           exact aC (aA (aC (aA aO) oO)) oO
          ·rw [if_neg d9]
           have h1:=b1 j oO
           have h2:kb j ≠ gb:=fun h=>by rw [h,hg] at h1;cases h1
           have h3:kb j ≠ K1.length:=fun h=>by
            rw [h,g] at h1
            have:=congrArg (fun o:Option aB=>match o with|some (.rw cs)=>cs.length|_=>0) h1
            simp [sQ] at this
           exact aC (aA (aC (aA (aA h1)) (fun h=>h2 h.symm))) (fun h=>h3 h.symm)
         ·exact aS (aA (aC (aA (aA g)) oO))
         ·rw [aav]
          exact aC (bJ oS) (by simp;omega)
      ·obtain rfl:k=l.length:=oO
       have dq:¬ ((l.length:Nat):Int)<(l.length:Nat):=oO
       rcases aq with ⟨h0,_⟩|⟨_,cj,g,hg⟩
       ·omega
       have av:=aQ hg
       have ad:=jF G
       have ag:=jF (jH M z)
       have aa:=aQ (iO M aw)
       have a8:=aQ (iO M a6)
       refine W_st (e2:=[(1,.s x l.length c),(6,.p σ.length),(13,.s py p.length pc),(16,.p vb),(18,.i (i:Nat)),(19,.i en),(21,.i tr),(22,.p K1.length),(23,.i (l.length:Nat))]) (σ2:=(H.set gb (.rw (rJ kb l.length))).set K1.length (.rw [.s gb l.length l.length])) oS (lM.upd (by simp;omega) oS (fun dx i o2 h=>?_) ⟨kJ (m:=H.length) rfl (fun _ _=>rfl) (aD _) (bM (Nat.blt_eq.mpr ad)) rfl,kJ (m:=H.length) rfl (fun _ _=>rfl) (aD _) (Nat.blt_eq.mpr a8) rfl,kJ (m:=H.length) rfl (fun _ _=>rfl) (aD _) (bM (Nat.blt_eq.mpr ag)) rfl,kJ (m:=H.length) rfl (fun _ _=>rfl) (aD _) (Nat.blt_eq.mpr aa) rfl,oH rfl rfl,oH rfl rfl,oH rfl rfl,kJ (m:=H.length) rfl (fun _ _=>rfl) (aD _) (Nat.blt_eq.mpr cf) rfl,oH rfl rfl,trivial⟩) ?_
       ·by_cases bk:i=K1.length
        ·subst bk
         rw [aS (aC g oO)] at h
         cases h
         exact .inr (.inr ⟨rfl,_,.inl g,aD _,fun k h _=>by
          simp at h
          subst h
          exact jU av rfl⟩)
        ·by_cases ce:i=gb
         ·subst ce
          rw [eN (fun h=>bk h.symm),aS hg] at h
          cases h
          have cx:=dx _ _ hg
          exact .inr (.inr ⟨rfl,_,.inr ⟨45,hg⟩,aD _,fun k h _=>vO (fun _ _=>rfl) (aD _) _ cx.1 cx.2 k h⟩)
         ·rw [eN (fun h=>bk h.symm),eN (fun h=>ce h.symm)] at h
          exact .inl h
       obtain ⟨H2,Z⟩:∃ H2,H2=(H.set gb (.rw (rJ kb l.length))).set K1.length (.rw [.s gb l.length l.length]):=⟨_,rfl⟩
       have L:H2.take K1.length=K1:=by rw [Z];exact take_set (take_set M oO) (aD _)
       have al:H2.all (fun o=>!aU o)=true:=by rw [Z];exact jZ (jZ d rfl) rfl
       have cm:H2[K1.length]?=some (.rw [.s gb l.length l.length]):=by rw [Z];exact aS (aC g oO)
       have d4:H2[gb]?=some (.rw (rJ kb l.length)):=by rw [Z];exact aC (aS hg) oO
       have d8:∀ j<l.length,H2[kb j]?=some (.rw (jP (iL (gi l j)) 12)):=fun j hj=>by
        have h1:=b1 j hj
        have h2:kb j ≠ gb:=fun h=>by rw [h,hg] at h1;cases h1
        have h3:kb j ≠ K1.length:=fun h=>by
         rw [h,g] at h1
         have:=congrArg (fun o:Option aB=>match o with|some (.rw cs)=>cs.length|_=>0) h1
         simp [sQ] at this
        rw [Z]
        exact aC (aC h1 (fun h=>h2 h.symm)) (fun h=>h3 h.symm)
       rw [← Z]
       clear av ad ag aa a8 d hg g b1 M G cf Z hk cj H
       obtain ⟨pu,an⟩:∃ pu:Nat,(gp p i).2=(pu:Int):=⟨(gp p i).2.toNat,by have:=(nJ c4 i r);omega⟩
       have ac:pu<l.length:=by have:=(nJ c4 i r);omega
       have hd1:aH H2 py (0+i*2+1)=some (.i (pu:Nat)):=by rw [← an];exact IL (jH L z) r
       have hd2:aH H2 x pu=some (.i (gi l pu)):=QF (jH L ay) ac
       refine oW ?_
       refine .mk (dH [(1,.s x l.length c),(6,.p σ.length),(13,.s py p.length pc),(16,.p vb),(18,.i (i:Nat)),(19,.i en),(21,.i tr),(22,.p K1.length),(24,.i (gi l pu))] H2 rfl tE ?_)
       have dy:=a9 pu ac
       have b0:=jH L z
       have dc:=jH L ay
       have bp:=iO L a6
       have dw:=iO L aw
       have hclp:∀ {o:Nat},closed H2.length (.pointer (some ⟨σ.length,o,none⟩))=true:=fun {o}=>Nat.blt_eq.mpr (aQ bp)
       have hcls:∀ {o n c:Nat},closed H2.length (.slice (some ⟨py,o,none⟩) n c)=true:=fun {o n c}=>bM (Nat.blt_eq.mpr (jF b0))
       have a1:∀ {o n c:Nat},closed H2.length (.slice (some ⟨x,o,none⟩) n c)=true:=fun {o n c}=>bM (Nat.blt_eq.mpr (jF dc))
       have hclg:∀ {o:Nat},closed H2.length (.pointer (some ⟨py,o,none⟩))=true:=fun {o}=>Nat.blt_eq.mpr (jF b0)
       have hqo:∀ X,aH (H2++X) σ.length (0+2)=some (.i s.off):=fun X=>aF (aA bp)
       have hqf:∀ X,aH (H2++X) py (0+i*2+0)=some (.i fm):=fun X=>by rw [a3];exact IK (pR b0) r
       have r1:0≤(en - s.off).tdiv 100∧(en - s.off).tdiv 100≤1000:=by rw [cJ oO];omega
       have r2:0≤(fm+s.off).tdiv 100∧(fm+s.off).tdiv 100≤1000000:=by rw [cJ oO];omega
       have hputB:∀ a b:Value,putCells (H2++[aB.rw [.i 0,.i 0]]) (H2++([]:Heap)).length 0 [a,b]=some (H2++[aB.rw [a,b]]):=fun a b=>by rw [bL];exact iW (aD _) (cU _)
       refine eY oK rfl (?_)
       refine oW ?_
       obtain ⟨lo,au⟩:∃ lo,lo=(en - s.off).tdiv 100:=⟨_,rfl⟩
       obtain ⟨f,ao⟩:∃ f,f=min 1000 ((fm+s.off).tdiv 100):=⟨_,rfl⟩
       obtain ⟨H3,N⟩:∃ H3,H3=H2++[aB.rw [.i lo,.i f]]:=⟨_,rfl⟩
       obtain ⟨bb,bv⟩:∃ bb,bb=H2.length:=⟨_,rfl⟩
       refine .mk (dH [(1,.s x l.length c),(6,.p σ.length),(13,.s py p.length pc),(16,.p vb),(18,.i (i:Nat)),(19,.i en),(21,.i tr),(22,.p K1.length),(24,.i (gi l pu)),(25,.p bb)] H3 (by rw [N,au,ao]) ⟨rfl,rfl,rfl,rfl,rfl,rfl,rfl,rfl,rfl,congrArg (fun n=>some (Value.p n)) (by simp [bv,gJ]),trivial⟩ ?_)
       have d7:H3.take K1.length=K1:=by rw [N];exact aT L
       have aj:H3.all (fun o=>!aU o)=true:=by rw [N];exact bD al rfl
       have db:H3[K1.length]?=some (.rw [.s gb l.length l.length]):=by rw [N];exact aA cm
       have ch:H3[gb]?=some (.rw (rJ kb l.length)):=by rw [N];exact aA d4
       have cn:∀ j<l.length,H3[kb j]?=some (.rw (jP (iL (gi l j)) 12)):=fun j hj=>by rw [N];exact aA (d8 j hj)
       have df:H3[bb]?=some (.rw [.i lo,.i f]):=by rw [N,bv];exact aO
       clear hclp hcls a1 hclg hqo hqf hputB hd1 hd2 N bv al L cm d4 d8 b0 dc bp dw H2
       have a7:=db
       have hd1:aJ H3 bb 0 2=some [.i lo,.i f]:=aV df rfl
       apply aG
       refine oW ?_
       obtain ⟨bB,b9⟩:∃ bB,bB=H3.length:=⟨_,rfl⟩
       obtain ⟨bS,c6⟩:∃ bS,bS=(H3++[aB.rw [.i lo,.i f]]).length:=⟨_,rfl⟩
       obtain ⟨wb,bz⟩:∃ wb,wb=(H3++[aB.rw [.i lo,.i f]]++[aB.rw [.s gb l.length l.length]]).length:=⟨_,rfl⟩
       obtain ⟨H4,I⟩:∃ H4,H4=H3++[aB.rw [.i lo,.i f]]++[aB.rw [.s gb l.length l.length]]++[aB.rw [.s bB 1 1,.s bS 1 1]]:=⟨_,rfl⟩
       refine .mk (dH [(6,.p σ.length),(13,.s py p.length pc),(16,.p vb),(18,.i (i:Nat)),(19,.i en),(21,.i tr),(24,.i (gi l pu)),(26,.p wb)] H4 (by rw [I,b9,c6];rfl) ⟨rfl,rfl,rfl,rfl,rfl,rfl,rfl,congrArg (fun n=>some (Value.p n)) bz.symm,trivial⟩ ?_)
       have cz:H4.take K1.length=K1:=by rw [I];exact aT (aT (aT d7))
       have a5:H4.all (fun o=>!aU o)=true:=by rw [I];exact bD (bD (bD aj rfl) rfl) rfl
       have ck:H4[gb]?=some (.rw (rJ kb l.length)):=by rw [I];exact aA (aA (aA ch))
       have co:∀ j<l.length,H4[kb j]?=some (.rw (jP (iL (gi l j)) 12)):=fun j hj=>by rw [I];exact aA (aA (aA (cn j hj)))
       have cu:H4[bB]?=some (.rw [.i lo,.i f]):=by rw [I,b9];exact aA (aA aO)
       have d0:H4[bS]?=some (.rw [.s gb l.length l.length]):=by rw [I,c6];exact aA aO
       have cr:H4[wb]?=some (.rw [.s bB 1 1,.s bS 1 1]):=by rw [I,bz];exact aO
       clear a7 hd1 I b9 c6 bz d7 db ch cn df aj H3
       obtain ⟨sp,az⟩:∃ sp,sp=tr*gi l pu:=⟨_,rfl⟩
       have bo:=afv (s:=s) (l:=l) (pl:=p) (j:=i) r (x:=tr) (by rw [an,cM];omega) (by rw [← cw];omega) (by rw [← a3];omega)
       rw [an,cM,← az] at bo
       have c8:1≤tr∧tr≤100000:=oO
       have hsp2:0≤tr*gi l pu∧tr*gi l pu≤100000*10000:=⟨er oO oO,fo c8.2 dy.2 oO oO⟩
       apply aG
       refine oW ?_
       have q5:0≤tr.tdiv 100∧tr.tdiv 100≤1000:=by rw [cJ oO];omega
       have q6:0≤(tr*gi l pu).tdiv 1000000∧(tr*gi l pu).tdiv 1000000≤1000:=by rw [cJ oO];omega
       obtain ⟨m0,d3⟩:∃ m0,m0=min 1000 (tr.tdiv 100):=⟨_,rfl⟩
       obtain ⟨m1,de⟩:∃ m1,m1=min 1000 (sp.tdiv 1000000):=⟨_,rfl⟩
       obtain ⟨C,Q⟩:∃ C,C=H4.length:=⟨_,rfl⟩
       obtain ⟨H5,w⟩:∃ H5,H5=H4++[aB.rw [.i m0,.i m1]]:=⟨_,rfl⟩
       refine .mk (dH [(6,.p σ.length),(13,.s py p.length pc),(16,.p vb),(18,.i (i:Nat)),(19,.i en),(24,.i (gi l pu)),(26,.p wb),(27,.i sp),(28,.s C 2 2)] H5 (by rw [w,d3,de,az,wrap64 oO oO,wrap64 oO oO];rfl) ⟨rfl,rfl,rfl,rfl,rfl,rfl,rfl,congrArg (fun x=>some (Value.i x)) az.symm,congrArg (fun n=>some (Value.s n 2 2)) Q.symm,trivial⟩ ?_)
       have b5:H5.take K1.length=K1:=by rw [w];exact aT cz
       have R:H5.all (fun o=>!aU o)=true:=by rw [w];exact bD a5 rfl
       have c0:H5[wb]?=some (.rw [.s bB 1 1,.s bS 1 1]):=by rw [w];exact aA cr
       have d2:H5[C]?=some (.rw [.i m0,.i m1]):=by rw [w,Q];exact aO
       have bc:wM H5 (uf l (lo,f)) bB bS (fun _=>gb) (fun _=>l.length) (fun _ k=>kb k) (fun _ _=>12):=by
        refine ⟨fun j hj=>?_,fun j hj=>?_,fun j hj k hk=>?_,fun j hj k hk q hq=>?_⟩
        ·obtain rfl:j=0:=by have:j<1:=hj;omega
         rw [w];exact aV (aA cu) rfl
        ·obtain rfl:j=0:=by have:j<1:=hj;omega
         rw [w];exact aV (aA d0) rfl
        ·rw [w];exact UH (aA ck) hk
        ·rw [w];exact QD (aA (co k hk)) hq
       have c9:jL (lo,f):=by
        simp only [jL]
        rw [au,ao]
        rw [cJ oO,cJ oO]
        omega
       have bu:tY (uf l (lo,f)):=Gn ⟨oO,oO⟩ a9 c9
       have cv:=iO b5 aw
       clear w Q cz a5 cr cu d0 ck co H4
       have hf1:Ev Tryz.prog 18 [.agg #[.s bB 1 1,.s bS 1 1]] H5 (.bool true) H5:=Xb bu bc R
       have a6:=c0
       have a7:=cv
       have hn1:¬ sp<(Gm s l p).1:=oO
       have hn2:¬ sp > (Gm s l p).2:=oO
       apply aG
       refine oW ?_
       have hd1:aH H5 py (0+i*2+1)=some (.i (pu:Nat)):=by rw [← an];exact IL (jH b5 z) r
       have hf2:=aaq (σ:=H5++[aB.rw [.i (pu:Nat)]]) (bar:=0) (b:=H5.length) (n:=1) (c:=1) oS
       refine .mk (aG ?_)
       refine oW ?_
       obtain ⟨rb,be⟩:∃ rb,rb=H5.length:=⟨_,rfl⟩
       obtain ⟨rc,br⟩:∃ rc,rc=(H5++[aB.rw [.i (pu:Nat)]]).length:=⟨_,rfl⟩
       obtain ⟨H6,W⟩:∃ H6,H6=H5++[aB.rw [.i (pu:Nat)]]++[aB.rw [.i 0,.s rb 1 1]]:=⟨_,rfl⟩
       refine .mk (dH [(6,.p σ.length),(13,.s py p.length pc),(16,.p vb),(18,.i (i:Nat)),(19,.i en),(24,.i (gi l pu)),(26,.p wb),(27,.i sp),(28,.s C 2 2),(29,.p rc)] H6 (by rw [W,be];rfl) ⟨rfl,rfl,rfl,rfl,rfl,rfl,rfl,rfl,rfl,congrArg (fun n=>some (Value.p n)) br.symm,trivial⟩ ?_)
       have b2:H6.take H5.length=H5:=by rw [W];simp
       have af:H6.take K1.length=K1:=by rw [W];exact aT (aT b5)
       have S:H6.all (fun o=>!aU o)=true:=by rw [W];exact bD (bD R rfl) rfl
       have ae:=bc.take b2
       have bn:=iO b2 c0
       have d5:=iO b2 d2
       have F:H6[rb]?=some (.rw [.i (pu:Nat)]):=by rw [W,be];exact aA aO
       have V:H6[rc]?=some (.rw [.i 0,.s rb 1 1]):=by rw [W,br];exact aO
       have cg:=iO af aw
       have cy:bB<H6.length:=dJ (ae.bars 0 (show 0<1 by omega))
       have dd:bS<H6.length:=dJ (ae.steps 0 (show 0<1 by omega))
       clear W b2 be br b5 R bc c0 d2 cv hd1 hf1 hf2 a6 a7 H5
       have dg:∀ i<(uf l (lo,f)).ns,aH H6 rb i=some (.i (pu:Nat)):=fun i hi=>by
        obtain rfl:i=0:=by have:i<1:=hi;omega
        exact aF F
       have hf1:=aao (c:=1) (bar:=0) (ks:=fun _=>pu) (cB:=1) (cS:=1) bu ae (fun _ _ _ _=>aD _) (show 0<1 by omega) (fun _ _=>ac) dg cy dd (aQ F) S (n:=0) rfl
       have a6:=bn
       have a7:=V
       apply aG
       refine oW ?_
       obtain ⟨a2,O⟩:∃ a2,a2=H6.length:=⟨_,rfl⟩
       obtain ⟨H7,ai⟩:∃ H7,H7=H6++[aB.rw (rgC ((uf l (lo,f)).rg (fun x=>pu) ((uf l (lo,f)).bf 0)) (0+2))]:=⟨_,rfl⟩
       refine .mk (dH [(13,.s py p.length pc),(6,.p σ.length),(18,.i (i:Nat)),(19,.i en),(24,.i (gi l pu)),(26,.p wb),(28,.s C 2 2),(29,.p rc),(30,.s a2 2 2),(31,.i 0)] H7 ai.symm ⟨rfl,rfl,rfl,rfl,rfl,rfl,rfl,rfl,congrArg (fun n=>some (Value.s n 2 2)) O.symm,rfl,trivial⟩ ?_)
       have u:H7.take H6.length=H6:=by rw [ai];simp
       have a4:H7.all (fun o=>!aU o)=true:=by rw [ai];exact bD S rfl
       have b4:=ae.take u
       have cq:=iO u bn
       have d6:=iO u d5
       have ca:=iO u F
       have bs:=iO u V
       have hv8:=iO u cg
       have cc:H7[a2]?=some (.rw (rgC ((uf l (lo,f)).rg (fun x=>pu) ((uf l (lo,f)).bf 0)) (0+2))):=by rw [ai,O];exact aO
       have b7:bB<H7.length:=dJ (b4.bars 0 (show 0<1 by omega))
       have cd:bS<H7.length:=dJ (b4.steps 0 (show 0<1 by omega))
       have dp:=jH u (jH af z)
       have dl:H7.take σ.length=σ:=IQ (IQ u af) dn
       have di:H7[σ.length]?=some (.rw s.cells):=iO (IQ u af) ap
       clear ai u O dg hf1 a6 a7 cy dd S ae bn d5 F V cg af H6
       have cp:m1=min 1000 (tr*gi l pu / 1000000):=by rw [de,az,cJ oO]
       have dk:m0=min 1000 (tr / 100):=by rw [d3,cJ oO]
       have bx:=aat (x:=tr) ⟨oO,oO⟩ a9 c9 ac oO (by rw [au,cJ oO];omega) (by rw [ao,cJ oO];omega)
       rw [← cp] at bx
       have b8:jL (m1,m1):=by simp only [jL];omega
       obtain ⟨wl,bd⟩:∃ wl:Nat→List Nat,∀ i,wl i=(uf l (lo,f)).Aw (m1,m1) i:=⟨_,fun _=>rfl⟩
       have hf1:=Oa (cB:=1) (cS:=1) bu b4 (fun _ _ _ _=>aD _) b8 b7 cd a4 bx.1 (l:=wl) (fun i _=>bd i)
       have a6:=cq
       have ah:aH H7 C 1=some (.i m1):=aF d6
       refine IU (fun e mk s=>mk=[]∧qW e [(13,.s py p.length pc),(6,.p σ.length),(18,.i (i:Nat)),(19,.i en),(24,.i (gi l pu)),(26,.p wb),(28,.s C 2 2),(29,.p rc),(30,.s a2 2 2),(31,.i 0),(32,.s H7.length 1 1),(33,.i 0)]∧s=H7++([aB.rw (slW (fun j=>H7.length+1+j) (fun j=>(wl j).length) 1)]++Es wl 1)) ?_ ?_
       ·refine Fb (id:=30) oK (?_)
        repeat' (first|(refine gU ?_;first|(refine bV ?_;first|refine st (aK rfl (by exact ah)) rfl rfl ?_|refine st (bC rfl (by exact aV a6 rfl)) rfl rfl ?_)|refine sK4 ?_|(refine dX ?_;refine st (bG rfl rfl rfl (by exact hf1)) rfl rfl ?_))|refine lI ?_|refine Kq ?_|refine uo 0 3 rfl rfl ?_ ?_|refine uo 0 6 rfl rfl ?_ ?_|refine uo 3 6 rfl rfl ?_ ?_|refine uo 0 7 rfl rfl ?_ ?_|refine adE 0 3 6 rfl rfl rfl ?_ ?_ ?_|refine jq 1 (hp:=by exact wU rfl) rfl rfl ?_|refine jq 2 (hp:=by exact IV rfl rfl oO oO) rfl rfl ?_|refine jq 4 (hp:=by exact wU rfl) rfl rfl ?_|refine jq 5 (hp:=by exact IV rfl rfl oO oO) rfl rfl ?_|refine jq 9 (hp:=by exact wU rfl) rfl rfl ?_|refine jq 10 (hp:=by exact CO rfl rfl) rfl rfl ?_|refine jq 11 (hp:=by exact CO rfl rfl) rfl rfl ?_|refine jq 12 (hp:=by exact Fa rfl) rfl rfl ?_|refine jq 13 (hp:=by exact Fa rfl) rfl rfl ?_|refine lD 0 rfl ?_|refine lD 3 rfl ?_|refine lD 6 rfl ?_|refine lD 7 rfl ?_|refine lD 8 rfl ?_)
        all_goals exact .inl ⟨rfl,rfl,tE,rfl⟩
       ·rintro e mk s ⟨rfl,hE,rfl⟩
        obtain ⟨H8,am⟩:∃ H8,H8=H7++([aB.rw (slW (fun j=>H7.length+1+j) (fun j=>(wl j).length) 1)]++Es wl 1):=⟨_,rfl⟩
        obtain ⟨yb,bj⟩:∃ yb,yb=H7.length:=⟨_,rfl⟩
        refine uD ?_
        refine dH [(13,.s py p.length pc),(6,.p σ.length),(18,.i (i:Nat)),(19,.i en),(24,.i (gi l pu)),(26,.p wb),(28,.s C 2 2),(29,.p rc),(30,.s a2 2 2),(31,.i 0),(32,.s yb 1 1),(33,.i 0)] H8 am.symm (by rw [bj];exact hE) ?_
        have E:H8.take H7.length=H7:=by rw [am];simp
        have bh:H8.all (fun o=>!aU o)=true:=by rw [am];exact bD a4 rfl
        have ds:H8[yb]?=some (.rw [.s (yb+1) (wl 0).length (wl 0).length]):=by rw [am,bj];exact AU
        have dj:H8[yb+1]?=some (.rw (gu (wl 0))):=by rw [am,bj];exact wI
        have bw:pu ∈ wl 0:=by rw [bd 0];exact bx.2
        have dt:(wl 0).length≤1000:=by
         rw [bd 0];unfold Wk.Aw
         split
         ·simp
         ·refine ej (List.length_filter_le _ _) ?_
          rw [List.length_range]
          show l.length≤1000
          omega
        exact aau (kb:=kb) (gb:=gb) (IQ E dl) bh (iO E di) (jH E dp) r (b4.take E) (iO E cq) (iO E d6) (iO E ca) (iO E bs) (iO E cc) ds dj
         ⟨oO,oO⟩ a9 ac c9 an a3 au ao oO dk cp bw dt
 ·rw [decide_eq_false h1] at hf1
  rw [hH] at hf1 hf2
  refine oW ?_
  exact dK (.tmp rfl .nil) (.plain oS rfl) ⟨rfl,rfl⟩
end Go.Proofs.YtajpgeklmcjciaaGreat
namespace Go.AH
open Go Go.RowKit Go.WideShapes Go.ChangeShapes
section
variable {H:Type} {enc:TypeId×Value→H} {P:Program} {W:World}
theorem wf64 {n:Int} (h:(Lit.i n).wf=true):-9223372036854775808≤n∧n≤9223372036854775807:=by
 simp only [Lit.wf,aE,decide_eq_true_eq] at h
 exact h
def QH (l:List Int):List Value:=l.map (.int .i64)
structure UJ (W:World) (v:Value) (n size:Nat) (cs:List Value) (pl:Pl):Prop where
 len:n≤9223372036854775807
 rel:∀ (m:Nat) (ρ:Rho) (i:Nat),i<m→ρ i=pl→gq m ρ (.slice (some ⟨i,0,none⟩) n n) v
 sz:cs.length=n*size
 cells:cs ≠ []→pl.b<W.heap.size∧∀ (k:Nat) (h:k<cs.length),W.cell? ⟨pl.b,pl.o+k,none⟩=some cs[k]
theorem cell_lt {w:World} {a:Addr} {v:Value} (h:w.cell? a=some v):a.block<w.heap.size∧a.spot=none:=by
 unfold World.cell? at h
 split at h
 ·rename_i hb
  refine ⟨(Array.getElem?_eq_some_iff.1 hb).1,?_⟩
  split at h
  ·cases h
  ·rename_i hs;simpa using hs
 ·cases h
theorem aaw {b0:Nat} {t e:TypeId} {v:Value} {d:DataW H} {p:List MemPlace} (ht:P.underlying t=some (.slice e)) (he:P.underlying e=some (.int .i64)) (hc:P.cellsOf e=1) (hval:Value.okWide P W .any b0 t v)
  (h:DataW.Trod enc P W 0 (fun _=>true) true t v d p):∃ (l:List Int) (pl:Pl),UJ W v l.length 1 (QH l) pl∧∀ n ∈ l,-9223372036854775808≤n∧n≤9223372036854775807:=by
 obtain ⟨a0,len,f,rfl⟩:=okWide_slice ht hval
 obtain ⟨fuel,hf⟩:=h
 rcases open_ints ht he hc hf with ⟨g,-⟩|⟨a,len',cap',zs,g,-,hl,hm,hz,-,hcell,hwf⟩
 ·have c:Value.slice a0 len f=Value.slice none 0 0:=by simpa [Value.cells] using g
  cases c
  exact ⟨[],⟨0,0,0⟩,⟨by simp,fun m ρ i hi hρ=>.emptySlice _ _ _ _,rfl,fun h=>absurd rfl h⟩,fun n hn=>by simp at hn⟩
 ·have c:Value.slice a0 len f=Value.slice (some a) len' cap':=by simpa [Value.cells] using g
  cases c
  simp only [if_true] at hz
  have r:(zs.take len).length=len:=by rw [eI];omega
  have hm':len≤9223372036854775807:=by unfold maxLen at hm;omega
  by_cases h0:len=0
  ·subst h0
   exact ⟨[],⟨0,0,0⟩,⟨by simp,fun m ρ i hi hρ=>.emptySlice _ _ _ _,rfl,fun h=>absurd rfl h⟩,fun n hn=>by simp at hn⟩
  ·have h1:=hcell 0 oO
   have ha:a.add 0=a:=by simp [Addr.add]
   rw [ha] at h1
   obtain ⟨hb,hs⟩:=cell_lt h1
   obtain ⟨b,o,sp⟩:=a
   simp only at hb hs
   subst hs
   refine ⟨zs.take len,⟨b,o,0⟩,⟨oO,fun m ρ i hi hρ=>?_,by simp [QH],fun _=>⟨hb,fun k hk=>?_⟩⟩,fun n hn=>wf64 (hwf n (List.mem_of_mem_take hn))⟩
   ·rw [r]
    have:=VQ.slice (q:=false) (n:=m) (ρ:=ρ) i 0 len len f hl hi
    rw [hρ] at this
    simpa using this
   ·have hk':k<len:=by
     simp only [QH,cQ] at hk
     omega
    have h2:=hcell k oO
    have j:zs.getD k 0=(zs.take len)[k]'oO:=by
     rw [dC,cE,cC oO];rfl
    have s:(⟨b,o,none⟩:Addr).add k=⟨b,o+k,none⟩:=by
     unfold Addr.add
     split
     ·rename_i h;subst h;rfl
     ·rfl
    rw [s,j] at h2
    simpa [QH] using h2
theorem UJ.hro {v:Value} {n size:Nat} {cs:List Value} {pl:Pl} (h:UJ W v n size cs pl) (hp:dL cs=true) (ρ:Rho) (i m:Nat) (hρ:ρ i=pl) (hne:cs ≠ []) :
  (ρ i).b<W.heap.size∧∀ (k:Nat) (hk:k<cs.length),∃ v',W.cell? ⟨(ρ i).b,(ρ i).o+k,none⟩=some v'∧gq m ρ cs[k] v':=by
 rw [hρ]
 obtain ⟨h1,h2⟩:=h.cells hne
 exact ⟨h1,fun k hk=>⟨_,h2 k hk,lq cs hp k hk⟩⟩
end
end Go.AH
namespace Go.Proofs.YtajpgeklmcjciaaGreat
open Go Go.AH Go.RowKit Go.WideShapes Go.ChangeShapes
set_option maxRecDepth 100000 in
theorem Xd {b0:Nat} {H:Type} {enc:TypeId×Value→H} {W:World} {v:Value} {d:DataW H} {p:List MemPlace} (hval:Value.okWide Tryz.prog W .any b0 25 v) (h:DataW.Trod enc Tryz.prog W 0 (fun _=>true) true 25 v d p) :
  ∃ s:St,v=s.val∧(-9223372036854775808≤s.long∧s.long≤9223372036854775807)∧(-9223372036854775808≤s.short∧s.short≤9223372036854775807)∧(-9223372036854775808≤s.off∧s.off≤9223372036854775807)∧(-9223372036854775808≤s.lo∧s.lo≤9223372036854775807)∧(-9223372036854775808≤s.hi∧s.hi≤9223372036854775807):=by
 obtain ⟨cs,rfl,i⟩:=okWide_struct Tryz.underlying25 hval
 have g:Tryz.prog.cellsOf 25=5:=by kernel_rfl
 have c:cs.size=5:=i.trans g
 obtain ⟨l⟩:=cs
 match l,c with
 |[c0,c1,c2,c3,c4],_ =>
  obtain ⟨fuel,hf⟩:=h
  obtain ⟨xs,n,_,_,_,e,hg⟩:=DataW.trod_struct Tryz.underlying25 hf
  match xs,e with
  |[y0,y1,y2,y3],_ =>
   have k2:Tryz.prog.cellsOf 2=1:=by kernel_rfl
   have k23:Tryz.prog.cellsOf 23=2:=by kernel_rfl
   have g0:=hg 0 _ rfl
   have g1:=hg 1 _ rfl
   have g2:=hg 2 _ rfl
   have g3:=hg 3 _ rfl
   simp only [Value.cells,List.getElem?_cons_zero,List.getElem?_cons_succ] at g0 g1 g2 g3
   obtain ⟨n0,e0,_,w0⟩:=DataW.trod_int Tryz.underlying2 g0
   obtain ⟨n1,e1,_,w1⟩:=DataW.trod_int Tryz.underlying2 g1
   obtain ⟨n2,e2,_,w2⟩:=DataW.trod_int Tryz.underlying2 g2
   obtain ⟨zs,m,_,_,_,a,f⟩:=DataW.trod_struct Tryz.underlying23 g3
   match zs,a with
   |[z0,z1],_ =>
    have q0:=f 0 _ rfl
    have q1:=f 1 _ rfl
    simp only [List.getElem?_cons_zero,List.getElem?_cons_succ] at q0 q1
    obtain ⟨n3,e3,_,w3⟩:=DataW.trod_int Tryz.underlying2 q0
    obtain ⟨n4,e4,_,w4⟩:=DataW.trod_int Tryz.underlying2 q1
    cases e0;cases e1;cases e2;cases e3;cases e4
    exact ⟨⟨n0,n1,n2,n3,n4⟩,rfl,wf64 w0,wf64 w1,wf64 w2,wf64 w3,wf64 w4⟩
theorem afw {Q:Nat→Int×Int→Prop} {n:Nat} (h:∀ i<n,∃ p,Q i p):∃ l:List (Int×Int),l.length=n∧∀ i<n,Q i (gp l i):=by
 induction n with
 |zero=>exact ⟨[],rfl,fun i hi=>oO⟩
 |succ n ih =>
  obtain ⟨l,h1,h2⟩:=ih fun i hi=>h i oO
  obtain ⟨p,hp⟩:=h n oO
  refine ⟨l++[p],by simp [h1],fun i hi=>?_⟩
  by_cases a:i<n
  ·have:gp (l++[p]) i=gp l i:=by simp only [gp,cE];rw [bR oO]
   rw [this];exact h2 i a
  ·obtain rfl:i=n:=oO
   have:gp (l++[p]) i=p:=by simp only [gp,cE];rw [bE oO,h1,cY];rfl
   rw [this];exact hp
theorem adF {b o k:Nat}:(⟨b,o,none⟩:Addr).add k=⟨b,o+k,none⟩:=by
 unfold Addr.add
 split
 ·rename_i h;subst h;rfl
 ·rfl
set_option maxRecDepth 100000 in
theorem aax {H:Type} {enc:TypeId×Value→H} {W:World} {b0:Nat} {v:Value} {d:DataW H} {p:List MemPlace} (hval:Value.okWide Tryz.prog W .any b0 27 v) (h:DataW.Trod enc Tryz.prog W 0 (fun _=>true) true 27 v d p) :
  ∃ (l:List (Int×Int)) (pl:Pl),UJ W v l.length 2 (dI l) pl∧∀ i<l.length,(-9223372036854775808≤(gp l i).1∧(gp l i).1≤9223372036854775807)∧-9223372036854775808≤(gp l i).2∧(gp l i).2≤9223372036854775807:=by
 obtain ⟨a0,len,g,rfl⟩:=okWide_slice Tryz.underlying27 hval
 obtain ⟨fuel,hf⟩:=h
 have x:Tryz.prog.cellsOf 39=2:=by kernel_rfl
 have k2:Tryz.prog.cellsOf 2=1:=by kernel_rfl
 have k3:Tryz.prog.cellsOf 3=1:=by kernel_rfl
 have c:∃ (l:List (Int×Int)) (pl:Pl),UJ W (.slice a0 0 g) l.length 2 (dI l) pl∧∀ i<l.length,(-9223372036854775808≤(gp l i).1∧(gp l i).1≤9223372036854775807)∧-9223372036854775808≤(gp l i).2∧(gp l i).2≤9223372036854775807 :=
  ⟨[],⟨0,0,0⟩,⟨by simp,fun m ρ i hi hρ=>.emptySlice _ _ _ _,rfl,fun h=>absurd rfl h⟩,fun n hn=>by simp at hn⟩
 rcases Deep.open_slice Tryz.underlying27 hf with ⟨j,-⟩|⟨a,len',cap',m,n,D,Pl,j,-,hl,hm,hmm,-,hi⟩
 ·have e:Value.slice a0 len g=Value.slice none 0 0:=by simpa [Value.cells] using j
  cases e
  exact c
 ·have e:Value.slice a0 len g=Value.slice (some a) len' cap':=by simpa [Value.cells] using j
  cases e
  simp only [if_true] at hmm
  by_cases h0:len=0
  ·subst h0;exact c
  ·have r:∀ i<len,∃ q:Int×Int,(W.cell? (a.add (i*2))=some (.i q.1)∧W.cell? ((a.add (i*2)).add 1)=some (.i q.2))∧(-9223372036854775808≤q.1∧q.1≤9223372036854775807)∧-9223372036854775808≤q.2∧q.2≤9223372036854775807:=fun i z=>by
    obtain ⟨cs,hc,ht⟩:=hi i oO
    rw [x] at hc
    obtain ⟨_,w,u⟩:=World.cells?_some hc
    match cs,w with
    |[c0,c1],_ =>
     obtain ⟨zs,m',_,_,_,f,s⟩:=DataW.trod_struct Tryz.underlying39 ht
     match zs,f with
     |[z0,z1],_ =>
      have q0:=s 0 _ rfl
      have q1:=s 1 _ rfl
      simp only [k2,k3,List.drop_succ_cons,List.drop_zero,List.take_succ_cons,List.take_zero,List.getElem?_cons_zero,List.getElem?_cons_succ] at q0 q1
      obtain ⟨n3,e3,_,w3⟩:=DataW.trod_int Tryz.underlying2 q0
      obtain ⟨n4,e4,_,w4⟩:=DataW.trod_int Tryz.underlying3 q1
      cases e3;cases e4
      have g0:=u 0 oO
      have g1:=u 1 oO
      have ha:(a.add (i*2)).add 0=a.add (i*2):=by simp [Addr.add]
      rw [ha] at g0
      exact ⟨(n3,n4),⟨by simpa using g0,by simpa using g1⟩,wf64 w3,wf64 w4⟩
   obtain ⟨l,y,hq⟩:=afw r
   have h1:=(hq 0 oO).1.1
   have ha:a.add (0*2)=a:=by simp [Addr.add]
   rw [ha] at h1
   obtain ⟨hb,hs⟩:=cell_lt h1
   obtain ⟨b,o,sp⟩:=a
   simp only at hb hs
   subst hs
   have hm':len≤9223372036854775807:=by unfold maxLen at hm;omega
   refine ⟨l,⟨b,o,0⟩,⟨oO,fun m ρ i hi hρ=>?_,wz l,fun _=>⟨hb,fun k hk=>?_⟩⟩,fun i z=>(hq i oO).2⟩
   ·rw [y]
    have:=VQ.slice (q:=false) (n:=m) (ρ:=ρ) i 0 len len g hl hi
    rw [hρ] at this
    simpa using this
   ·rw [wz] at hk
    obtain ⟨g1,g2⟩:=(hq (k / 2) oO).1
    simp only [adF] at g1 g2
    rcases Nat.mod_two_eq_zero_or_one k with h2|h2
    ·have ek:k / 2*2=k:=oO
     have:=rY (pl:=l) (i:=k / 2) oO
     rw [ek] at this g1
     have h3:=cC (l:=dI l) (i:=k) (by rw [wz];omega)
     rw [h3] at this
     rw [g1,← Option.some.inj this]
    ·have ek:k / 2*2+1=k:=oO
     have:=Bq (pl:=l) (i:=k / 2) oO
     rw [ek] at this
     have h3:=cC (l:=dI l) (i:=k) (by rw [wz];omega)
     rw [h3] at this
     rw [show o+k=o+k / 2*2+1 from by omega,g2,← Option.some.inj this]
end Go.Proofs.YtajpgeklmcjciaaGreat
namespace Go.AH
open Go Go.RowKit Go.WideShapes Go.ChangeShapes
section
variable {H:Type} {enc:TypeId×Value→H} {P:Program} {w:World} {base:Nat} {spare:Nat→Bool} {held:Bool}
theorem QI {t t' t'' t3:TypeId} {v v' v'' v3:Value} {d d' d'' d3:DataW H} {p p' p'' p3:List MemPlace} (h:DataW.Trod enc P w base spare held t v d p) (h':DataW.Trod enc P w base spare held t' v' d' p')
  (h'':DataW.Trod enc P w base spare held t'' v'' d'' p'') (h3:DataW.Trod enc P w base spare held t3 v3 d3 p3):DataW.TrodAll enc P w base spare held [t,t',t'',t3] [v,v',v'',v3] [d,d',d'',d3] (p++(p'++(p''++p3))):=⟨p,p'++(p''++p3),h,trodAll_mk3 h' h'' h3,rfl⟩
end
section
variable {H:Type} {enc:TypeId×Value→H} {P:Program} {W:World}
theorem UK {b0:Nat} {t:TypeId} {v:Value} {d:DataW H} {p:List MemPlace} (ht:P.underlying t=some (.int .u32)) (hval:Value.okWide P W .any b0 t v)
  (h:DataW.Trod enc P W 0 (fun _=>true) true t v d p):∃ n:Int,v=.int .u32 n∧0≤n∧n≤4294967295:=by
 obtain ⟨n,rfl,_,_,wn⟩:=open_int ht hval h
 simp only [Lit.wf,aE,decide_eq_true_eq] at wn
 exact ⟨n,rfl,wn⟩
theorem afx {b0:Nat} {t:TypeId} {v:Value} {d:DataW H} {p:List MemPlace} (ht:P.underlying t=some (.int .u8)) (hval:Value.okWide P W .any b0 t v)
  (h:DataW.Trod enc P W 0 (fun _=>true) true t v d p):∃ n:Int,v=.int .u8 n∧0≤n∧n≤255:=by
 obtain ⟨n,rfl,_,_,wn⟩:=open_int ht hval h
 simp only [Lit.wf,aE,decide_eq_true_eq] at wn
 exact ⟨n,rfl,wn⟩
end
section
variable {H:Type} {enc:TypeId×Value→H} {P:Program} {w:World} {base:Nat} {spare:Nat→Bool} {held:Bool}
theorem QJ {t t' t'' t3 t4:TypeId} {v v' v'' v3 v4:Value} {d d' d'' d3 d4:DataW H} {p p' p'' p3 p4:List MemPlace} (h:DataW.Trod enc P w base spare held t v d p) (h':DataW.Trod enc P w base spare held t' v' d' p')
  (h'':DataW.Trod enc P w base spare held t'' v'' d'' p'') (h3:DataW.Trod enc P w base spare held t3 v3 d3 p3) (h4:DataW.Trod enc P w base spare held t4 v4 d4 p4):DataW.TrodAll enc P w base spare held [t,t',t'',t3,t4] [v,v',v'',v3,v4] [d,d',d'',d3,d4] (p++(p'++(p''++(p3++p4)))):=⟨p,p'++(p''++(p3++p4)),h,QI h' h'' h3 h4,rfl⟩
end
section
variable {H:Type} {enc:TypeId×Value→H} {P:Program} {w:World} {base:Nat} {spare:Nat→Bool} {held:Bool}
theorem Xe {t0 t1 t2 t3 t4 t5:TypeId} {args:Array Value} {ds:List (DataW H)} {ps:List MemPlace} (h:DataW.TrodAll enc P w base spare held [t0,t1,t2,t3,t4,t5] args.toList ds ps) :
  ∃ v0 v1 v2 v3 v4 v5 d0 d1 d2 d3 d4 d5 p0 p1 p2 p3 p4 p5,args=#[v0,v1,v2,v3,v4,v5]∧ds=[d0,d1,d2,d3,d4,d5]∧ps=p0++p1++p2++p3++p4++p5∧DataW.Trod enc P w base spare held t0 v0 d0 p0∧DataW.Trod enc P w base spare held t1 v1 d1 p1∧DataW.Trod enc P w base spare held t2 v2 d2 p2 ∧
   DataW.Trod enc P w base spare held t3 v3 d3 p3∧DataW.Trod enc P w base spare held t4 v4 d4 p4∧DataW.Trod enc P w base spare held t5 v5 d5 p5:=by
 obtain ⟨v,vs,d,ds',p,q,hargs,rfl,rfl,hd,i⟩:=trodAll_cons h
 obtain ⟨v',vs',d',ds'',p',q',rfl,rfl,rfl,r,g⟩:=trodAll_cons i
 obtain ⟨n,vs'',l,ds''',o,q'',rfl,rfl,rfl,j,a⟩:=trodAll_cons g
 obtain ⟨v3,vs3,d3,ds3,p3,q3,rfl,rfl,rfl,m,c⟩:=trodAll_cons a
 obtain ⟨v4,vs4,d4,ds4,p4,q4,rfl,rfl,rfl,s,e⟩:=trodAll_cons c
 obtain ⟨v5,vs5,d5,ds5,p5,q5,rfl,rfl,rfl,u,f⟩:=trodAll_cons e
 obtain ⟨rfl,rfl,rfl⟩:=trodAll_nil f
 exact ⟨v,v',n,v3,v4,v5,d,d',l,d3,d4,d5,p,p',o,p3,p4,p5,by cases args;simp_all,rfl,by simp,hd,r,j,m,s,u⟩
theorem QK {t t' t'' t3 t4 t5:TypeId} {v v' v'' v3 v4 v5:Value} {d d' d'' d3 d4 d5:DataW H} {p p' p'' p3 p4 p5:List MemPlace} (h:DataW.Trod enc P w base spare held t v d p) (h':DataW.Trod enc P w base spare held t' v' d' p')
  (h'':DataW.Trod enc P w base spare held t'' v'' d'' p'') (h3:DataW.Trod enc P w base spare held t3 v3 d3 p3) (h4:DataW.Trod enc P w base spare held t4 v4 d4 p4) (h5:DataW.Trod enc P w base spare held t5 v5 d5 p5) :
  DataW.TrodAll enc P w base spare held [t,t',t'',t3,t4,t5] [v,v',v'',v3,v4,v5] [d,d',d'',d3,d4,d5] (p++(p'++(p''++(p3++(p4++p5))))):=⟨p,p'++(p''++(p3++(p4++p5))),h,QJ h' h'' h3 h4 h5,rfl⟩
end
section
variable {H:Type} {enc:TypeId×Value→H} {P:Program} {W:World}
end
end Go.AH
