/- More arguments of a law: six of them; arrays of two or three small numbers. -/
import Derived.Test.YtajpgeklmcjciaaGreatPxQ6c
import Derived.Test.YtajpgeklmcjciaaGreatPxMM
import Derived.Test.YtajpgeklmcjciaaGreatPxQ1
import Derived.Deep.Slices
import Derived.OpenShut
set_option maxRecDepth 100000
set_option maxHeartbeats 8000000
namespace Go.AH
open Go
theorem IX {P:Program} {n0 N:Nat} {rd:Option Nat} {c:Code} {Q:Post} {e:Env} {mk:List Nat} {σ:Heap} (Q1:Env→List Nat→Heap→Prop)
  (h:bK P n0 N rd c (fun ex e mk s=>(ex=.normal∧Q1 e mk s)∨Q ex e mk s) e mk σ) (k:∀ e mk s,Q1 e mk s→Q .normal e mk s):bK P n0 N rd c Q e mk σ :=
 h.mono fun ex e mk s hq=>by
  rcases hq with ⟨rfl,h⟩|h
  ·exact k _ _ _ h
  ·exact h
theorem uS {P:Program} {e:Env} {s f off t size bytes i o:Nat} {agg:Bool} {z:Value} {ty:TypeId} {x:Operand} [hf:Fld P s f off t] [ht:Ty P t (size+1) agg z bytes] (h:aP e x=some (.pointer (some ⟨i,o,none⟩))):Vk P (.fieldAddr s x f) ty e (.pointer (some ⟨i,o+off,none⟩)) :=
 ⟨fun o ho w ev=>by simp [Oper.about,ho],fun op ho _ n ρ ev a=>by
  obtain ⟨c,hi⟩:=ng (a x (by simp [Op.operands]) _ h)
  obtain ⟨fs,fl,h1,h2,rfl,rfl⟩:=hf.und
  refine ⟨.pointer (some ⟨(ρ i).b,(ρ i).o+(o+fl.offset),none⟩),fun w=>?_,.ptr _ _ hi⟩
  simp [execOp,ho,c,Instr.fieldAt,Instr.sureAddr,kV h1,h2,fieldPlace,ht.sizeOf,addr_add,cF]⟩
theorem IY {P:Program} {e:Env} {t el size bytes i o n c:Nat} {agg:Bool} {z:Value} {k:IntKind} {j:Int} {ty:TypeId} {x y:Operand} [ha:Sl P t el] [ht:Ty P el size agg z bytes] (h:aP e x=some (.slice (some ⟨i,o,none⟩) n c)) (hy:aP e y=some (.int k j))
  (h0:0≤j) (h1:j<n):Vk P (.indexAddr t x y) ty e (.pointer (some ⟨i,o+j.toNat*size,none⟩)) :=
 ⟨fun o ho w ev=>by simp [Oper.about,ho],fun op ho _ q ρ ev a=>by
  have hv:=a x (by simp [Op.operands]) _ h
  have hi:=bH (a y (by simp [Op.operands]) _ hy) rfl
  generalize hr:ev x=r at hv
  cases hv with
  |emptySlice=>omega
  |slice _ _ _ _ c' hc hil =>
   refine ⟨.pointer (some ⟨(ρ i).b,(ρ i).o+(o+j.toNat*size),none⟩),fun w=>?_,.ptr _ _ hil⟩
   simp [execOp,ho,hr,hi,Instr.indexAt,asIntOf,kV ha.und,h0,h1,ht.sizeOf,addr_add,cF]
  |sliceG _ _ _ _ _ _ _ _ hq=>simp at hq⟩
theorem lM.upd {n0:Nat} {σ σ2:Heap} {e e2:Env} (hn0:n0≤σ2.length) (hl:σ2.length=σ.length)
  (ho:(∀ (i:Nat) (o:aB),σ[i]?=some o→fO σ.length o)→∀ (i:Nat) (o2:aB),σ2[i]?=some o2→σ[i]?=some o2∨xZ σ σ.length (fun i=>⟨i,0,0⟩) ⟨i,0,0⟩ o2)
  (he:E5 σ.length (fun i=>⟨i,0,0⟩) e e2):lM n0 σ σ2 e e2 :=
 .inr fun a=>⟨fun i=>⟨i,0,0⟩,⟨hn0,fun _ _=>rfl,fun i o2 h=>by
  rw [hl]
  rcases ho a i o2 h with h|h
  ·exact lY (m:=σ.length) (fun _ _=>rfl) (aD _) (aQ h) h (a i o2 h)
  ·exact h,fun i j _ _ _ _ _ _ h=>h⟩,by rw [hl];exact yT he⟩
end Go.AH
namespace Go.Proofs.YtajpgeklmcjciaaGreat
open Go Go.AH
attribute [local irreducible] bZ bK bM jB gy dO fC bW eU aX dV eH
open Go.AH.Heat Go.AH.Warp
theorem QH {σ:Heap} {y i:Nat} {l:List Int} (h:dN σ y (ints l)) (hi:i<l.length):aH σ y i=some (.i (gi l i)):=by
 have h1:=gQ hi
 rcases h with h|h|⟨t,h⟩ <;> simpa [aH,h] using h1
def rO (kb:Nat→Nat) (n:Nat):List Value:=(List.range n).map fun j=>.slice (some ⟨kb j,0,none⟩) 12 12
theorem Oo (kb:Nat→Nat) (n:Nat):(rO kb n).length=n*1:=by simp [rO]
theorem aax {kb:Nat→Nat} {n b:Nat}:rO (fun j=>if j=n then b else kb j) (n+1)=rO kb n++[.s b 12 12]:=by
 unfold rO
 rw [fy,eC]
 congr 1
 ·refine eD fun j hj=>?_
  have:=List.mem_range.1 hj
  simp [show j ≠ n by omega]
 ·simp
theorem UL {H:Heap} {b n k:Nat} {kb:Nat→Nat} (h:H[b]?=some (.rw (rO kb n))) (hk:k<n):aJ H b k 1=some [.s (kb k) 12 12]:=by
 have hl:=Oo kb n
 unfold aJ
 rw [h]
 have hb:Nat.ble (k+1) (rO kb n).length=true:=by rw [hl,Nat.ble_eq];omega
 have hd:((rO kb n).drop k).take 1=[.s (kb k) 12 12]:=by
  rw [List.drop_eq_getElem_cons oO]
  simp [rO]
 simp only [hb,cond_true,hd]
theorem oW {A B:Prop} (k:B) (h:Hide B→A:=by intro h_k_;(repeat' (first|refine sCm ?_|(refine gU ?_;first|refine st (sF (by rfl) (by rfl) (by rfl) (by rfl) rfl rfl) rfl rfl ?_|(refine bV ?_;first|refine st (aK rfl (by first|exact hd1|exact hd2)) rfl rfl ?_|refine st (bD rfl (by first|exact aV a6 rfl|exact aV a7 rfl|exact aV (aA a7) rfl|exact hd1|exact dU rfl)) rfl rfl ?_)|refine LP ?_|refine sK8 ?_|(refine aaN ?_;refine st (zM rfl rfl (by omega) (by omega)) rfl rfl ?_)|(refine BK ?_;first|refine st (jm rfl rfl rfl) rfl rfl ?_|refine st (U3 rfl rfl (by omega)) rfl rfl ?_|refine st (U2 rfl rfl (by omega)) rfl rfl ?_)|(refine nN ?_;first|refine st (kR rfl (by first|rfl|exact eX (by assumption)) rfl) rfl rfl ?_|refine st (jA rfl (by first|rfl|exact cZ (by assumption)) rfl) rfl rfl ?_)|(refine yP ?_;refine st (kW rfl) rfl rfl ?_)|(refine gIA ?_;first|refine st (nC rfl rfl (by omega)) rfl rfl ?_|refine st (iV rfl rfl (by omega)) rfl rfl ?_)|(refine aaO ?_;refine st (Ce rfl rfl) rfl rfl ?_)|(refine gConv ?_;refine st (SX rfl (by omega) (by omega)) rfl rfl ?_)|refine sK4 ?_|(refine dX ?_;refine st (bG rfl rfl rfl (by first|exact hf1|exact hf2|exact hf3)) rfl rfl ?_)|refine Hw ?_|(refine gV ?_;refine stN (bU rfl rfl rfl rfl (by first|exact hputB _ _|exact vk rfl rfl)) rfl ?_))|(refine gG ?_;first|(refine zx ?_;refine stG rfl (by first|rfl|exact cZ (by assumption)) (eP rfl) rfl rfl ?_)|(refine gFA ?_;refine stG rfl (by first|rfl|exact cZ (by assumption)) (aZ rfl) rfl rfl ?_)|(refine bV ?_;first|refine stG rfl (by first|rfl|exact cZ (by assumption)) (aK rfl (by first|exact ig rfl|exact aF a7)) rfl rfl ?_|refine stG rfl (by rfl) (bD rfl (by exact aV a7 rfl)) rfl rfl ?_)|(refine ES ?_;refine stG rfl (by exact cZ (by assumption)) (vJ rfl rfl (by omega) (by omega)) rfl rfl ?_)|(refine BK ?_;refine stG rfl (by first|rfl|exact cZ (by assumption)) (jm rfl rfl rfl) rfl rfl ?_)|(refine ET ?_;refine stG rfl (by first|rfl|exact cZ (by assumption)) (lJ rfl) rfl rfl ?_)|(refine dX ?_;refine stG rfl (by first|rfl|exact eX (by assumption)) (bG rfl rfl rfl (by exact hf2)) rfl rfl ?_)|refine stS rfl (by first|rfl|exact eX (by assumption)) rfl ?_)|(refine fU ?_;first|refine qX ?_;refine frA (eP rfl) rfl ?_ hcls|refine fFA ?_;refine frA (aZ rfl) rfl ?_ hclp|refine fFA ?_;refine frA (aZ rfl) rfl ?_ hclg|refine fIA ?_;refine frA (iV rfl rfl (by omega)) rfl ?_ hclg|refine gB ?_;refine frA (aK rfl (by exact hqo _)) rfl ?_ rfl|refine gB ?_;refine frA (aK rfl (by exact hqf _)) rfl ?_ rfl|refine fConv ?_;refine frA (SX rfl (by omega) (by omega)) rfl ?_ rfl|refine PD ?_|(refine Ip ?_;refine fr (kK rfl) (by rfl) rfl ?_)|refine Zw ?_|refine LM ?_|(refine fMul ?_;refine fr (zM rfl rfl (by omega) (by omega)) (by rfl) rfl ?_)|(refine EW ?_;first|refine fr (U3 rfl rfl (by omega)) (by rfl) rfl ?_|refine fr (Ad rfl rfl (by omega) (by omega) (by omega)) (by rfl) rfl ?_)|refine VT ?_|(refine EX ?_;refine fr (oG (by rfl) rfl (by rfl)) (by rfl) rfl ?_)|(refine zV ?_;refine fr1 (kC rfl) rfl rfl rfl ?_))|(refine fP ⟨by kernel_rfl,?_⟩)|refine dB (id:=13) ?_|refine dB (id:=15) ?_|refine dB (id:=16) ?_|refine dB (id:=20) ?_|refine dB (id:=22) ?_|refine dB (id:=23) ?_|refine dB (id:=24) ?_|refine dB (id:=26) ?_|refine dB (id:=28) ?_|refine dB (id:=29) ?_|refine dB (id:=30) ?_|refine aG ?_|refine aeW (t:=66) ?_|refine sK2 ?_|refine sK6 ?_|fail));exact h_k_.h):A:=h ⟨k⟩
set_option maxHeartbeats 4000000 in
theorem QI {σ:Heap} {s:St} {l:List Int} {pl:List (Int×Int)} {x y c c2:Nat} {run len off:Int} (hx:dN σ x (ints l)) (hy:dN σ y (dI pl)) (hsr:-9223372036854775808≤s.short∧s.short≤9223372036854775807)
  (hrun:0≤run∧run≤255) (hlen:0≤len∧len≤4294967295) (hoff:0≤off∧off≤4294967295) (hni:σ.all (fun o=>!aU o)=true) :
  Ev Tryz.prog 3 [s.val,.s x l.length c,.s y pl.length c2,.int .u8 run,.int .u32 len,.int .u32 off] σ (.bool true) σ:=by
 refine aI σ.length 312 Tryz.func3 rfl rfl rfl rfl rfl ?_
 have hxl:=jF hx
 have hyl:=jF hy
 obtain ⟨H,hH⟩:∃ H,H=σ++[aB.rw s.cells]:=⟨_,rfl⟩
 have hp:H.take σ.length=σ:=by rw [hH];simp
 have d:H.all (fun o=>!aU o)=true:=by rw [hH];exact bF hni rfl
 have a6:H[σ.length]?=some (.rw s.cells):=by rw [hH];exact aO
 have F:=jI hp hx
 have c0:=jI hp hy
 have hf1:=Xc (s:=s) (c:=c) F d
 have hf2:=Dp d
 by_cases h1:l.length≤20∧iD s l=0
 ·rw [decide_eq_true h1] at hf1
  obtain ⟨h12,hl1,hs,dr⟩:=mX h1.2
  have ag:=J4 dr
  have dn:1≤s.short∧s.short≤s.long∧s.long≤100000∧0≤s.off∧s.off<s.short:=by unfold fB at hs;omega
  by_cases h2:(l.length:Int) > 5
  ·rw [hH] at hf1 hf2
   refine oW ?_
   exact dK (.tmp rfl .nil) (.plain oS rfl) ⟨rfl,rfl⟩
  ·by_cases h3:(pl.length:Int) > 20
   ·rw [hH] at hf1 hf2
    refine oW ?_
    exact dK (.tmp rfl .nil) (.plain oS rfl) ⟨rfl,rfl⟩
   ·by_cases h4:s.long+s.off > 100000
    ·rw [hH] at hf1 hf2
     refine oW ?_
     exact dK (.tmp rfl .nil) (.plain oS rfl) ⟨rfl,rfl⟩
    ·have hf3:=Lp (s:=s) (c:=c) (c2:=c2) F c0 d
     rw [hH] at hf1 hf2 hf3
     refine oW ?_
     clear hf1 hf2 hf3
     refine ⟨dH [(1,.s x l.length c),(3,.int .u8 run),(4,.int .u32 len),(5,.int .u32 off),(6,.p σ.length),(12,.bool false),(13,.s y pl.length c2),(66,.bool (decide (sD s l pl ≠ 0)))] H hH.symm tE ?_⟩
     refine IX (fun e mk K=>mk=[]∧∃ (py pc:Nat) (p:List (Int×Int)),qY e [(1,.s x l.length c),(3,.int .u8 run),(4,.int .u32 len),(5,.int .u32 off),(6,.p σ.length),(13,.s py p.length pc)]∧K.take σ.length=σ∧K[σ.length]?=some (.rw s.cells)∧dN K py (dI p)∧K.all (fun o=>!aU o)=true∧sD s l p=0) ?_ ?_
     ·by_cases c9:sD s l pl=0
      ·refine nZ rfl (decide_eq_false fun h=>h c9) ?_
       refine oW ?_
       exact .inl ⟨rfl,rfl,y,c2,pl,tE,hp,a6,c0,d,c9⟩
      ·have hf1:=Tq (s:=s) (l:=l) (c:=c) F oO hsr d
       refine qR rfl (decide_eq_true c9) ?_
       by_cases a1:zC s l=0
       ·have bv:¬ zC s l ≠ 0:=fun h=>h a1
        refine oW ?_
        exact .inl ⟨rfl,rfl,H.length,_,wF s l,tE,aT hp,aA a6,.inr (.inl aO),bF d rfl,(V8 h1.2 a1).right h1.2⟩
       ·have bv:zC s l ≠ 0:=a1
        have hpe3:zC s l=19:=by
         unfold zC at a1 ⊢
         rw [if_neg (by simp [h1.2])] at a1 ⊢
         split at a1
         ·exact absurd rfl a1
         ·rename_i hx;rw [if_neg hx]
        have hf2:=Dp (σ:=H++[aB.rw (dI (wF s l))]) (bF d rfl)
        refine oW ?_
        refine .inr ?_
        refine oW ?_
        exact dK (.tmp rfl .nil) (.plain (aT hp) rfl) ⟨rfl,rfl⟩
     ·rintro e mk K ⟨rfl,py,pc,p,hE,bj,b6,aq,C,bk⟩
      clear a6 F c0 d hp hH H
      have a6:=b6
      have b3:=jI bj hx
      obtain ⟨c1,c2',c3,c4,c5⟩:=Au bk
      obtain ⟨i,hi⟩:∃ i:Nat,i=(run.tmod (p.length:Int)).toNat:=⟨_,rfl⟩
      have bx:run.tmod (p.length:Int)=(i:Int):=by rw [hi,Int.tmod_eq_emod_of_nonneg hrun.1];have:=Int.emod_nonneg run (show (p.length:Int) ≠ 0 by omega);omega
      have r:i<p.length:=by
       have:=Int.emod_lt_of_pos run (show (0:Int)<(p.length:Int) by omega)
       rw [Int.tmod_eq_emod_of_nonneg hrun.1] at bx;omega
      clear hi
      have hb:∀ j<p.length,-1000000≤(gp p j).1∧(gp p j).1≤1000000:=fun j hj=>by have:=nJ c4 j hj;omega
      have dl:=nJ c4 i r
      have ck:=P6 dn.2.1 c4 r
      have hf1:=QE (s:=s) (c:=c) (c2:=pc) b3 aq hsr bk C
      have hf2:=Lp (σ:=K++[aB.rw [.i (Gp s l p).1,.i (Gp s l p).2]]) (s:=s) (c:=c) (c2:=pc) (pR b3) (pR aq) (bF C rfl)
      rw [bk] at hf2
      have a7:(K++[aB.rw [.i (Gp s l p).1,.i (Gp s l p).2]])[σ.length]?=some (.rw s.cells):=aA a6
      refine tC ?_
      refine dH _ K rfl hE ?_
      refine oW ?_
      clear hf1 hf2 a7
      obtain ⟨K1,L⟩:∃ K1,K1=K++[aB.rw [.i (Gp s l p).1,.i (Gp s l p).2]]:=⟨_,rfl⟩
      obtain ⟨vb,au⟩:∃ vb,vb=K.length:=⟨_,rfl⟩
      refine .mk (dH [(1,.s x l.length c),(4,.int .u32 len),(5,.int .u32 off),(6,.p σ.length),(13,.s py p.length pc),(16,.p vb),(18,.i (i:Nat))] K1 L.symm ⟨rfl,rfl,rfl,rfl,rfl,congrArg (fun n=>some (Value.p n)) au.symm,congrArg (fun x=>some (Value.i x)) bx,trivial⟩ ?_)
      have dk:K1.take σ.length=σ:=by rw [L];exact aT bj
      have az:K1[σ.length]?=some (.rw s.cells):=by rw [L];exact aA a6
      have av:K1[vb]?=some (.rw [.i (Gp s l p).1,.i (Gp s l p).2]):=by rw [L,au];exact aO
      have b1:dN K1 x (ints l):=by rw [L];exact pR b3
      have w:dN K1 py (dI p):=by rw [L];exact pR aq
      have aj:K1.all (fun o=>!aU o)=true:=by rw [L];exact bF C rfl
      have hvl:σ.length+1≤vb:=by rw [au];exact aQ a6
      clear au L a6 b6 b3 aq C bj hE bx K
      have a6:=az
      have hf1:=NI (s:=s) (c:=pc) w r oO hb aj
      obtain ⟨fm,a2⟩:∃ fm,fm=(gp p i).1:=⟨_,rfl⟩
      have hd1:aH K1 py (0+i*2+0)=some (.i fm):=by rw [a2];exact IU w r
      obtain ⟨en,cf⟩:∃ en,en=wE s.short p i:=⟨_,rfl⟩
      rw [← cf] at hf1 ck
      rw [← a2] at ck dl
      obtain ⟨mm,cv⟩:∃ mm,mm=en+len.tmod (fm - en+1):=⟨_,rfl⟩
      have hmr:en≤mm∧mm≤fm:=by
       rw [cv,Int.tmod_eq_emod_of_nonneg hlen.1]
       have h1:=Int.emod_nonneg len (show (fm - en+1:Int) ≠ 0 by omega)
       have h2:=Int.emod_lt_of_pos len (show (0:Int)<fm - en+1 by omega)
       omega
      obtain ⟨tr,ce⟩:∃ tr,tr=mm - s.off+off.tmod (2*s.off+1):=⟨_,rfl⟩
      have htrr:mm - s.off≤tr∧tr≤mm+s.off:=by
       rw [ce,Int.tmod_eq_emod_of_nonneg hoff.1]
       have h1:=Int.emod_nonneg off (show (2*s.off+1:Int) ≠ 0 by omega)
       have h2:=Int.emod_lt_of_pos off (show (0:Int)<2*s.off+1 by omega)
       omega
      have q1:0≤len.tmod (fm - en+1)∧len.tmod (fm - en+1)≤1000000:=oO
      have q2:0≤off.tmod (2*s.off+1)∧off.tmod (2*s.off+1)≤1000000:=oO
      apply aG
      refine oW ?_
      have hclp:∀ {o:Nat},closed K1.length (.pointer (some ⟨σ.length,o,none⟩))=true:=fun {o}=>Nat.blt_eq.mpr (aQ az)
      have hcls:∀ {o n c:Nat},closed K1.length (.slice (some ⟨py,o,none⟩) n c)=true:=fun {o n c}=>bP (Nat.blt_eq.mpr (jF w))
      have V:∀ {o n c:Nat},closed K1.length (.slice (some ⟨x,o,none⟩) n c)=true:=fun {o n c}=>bP (Nat.blt_eq.mpr (jF b1))
      have hclg:∀ {o:Nat},closed K1.length (.pointer (some ⟨py,o,none⟩))=true:=fun {o}=>Nat.blt_eq.mpr (jF w)
      have hqo:∀ X,aH (K1++X) σ.length (0+2)=some (.i s.off):=fun X=>aF (aA az)
      have hqf:∀ X,aH (K1++X) py (0+i*2+0)=some (.i fm):=fun X=>by rw [a2];exact IU (pR w) r
      refine .mk (fA oK rfl (?_))
      refine oW ?_
      refine .mk (dH [(1,.s x l.length c),(6,.p σ.length),(13,.s py p.length pc),(16,.p vb),(18,.i (i:Nat)),(19,.i en),(21,.i tr)] K1 (bL K1) ⟨rfl,rfl,rfl,rfl,rfl,rfl,congrArg (fun x=>some (Value.i x)) (by rw [ce,cv]),trivial⟩ ?_)
      clear hd1 hf1 hqo hqf hclp hcls V hclg
      apply aG
      refine oW ?_
      refine dS (ι:=Nat×Nat×(Nat→Nat)) (fun k=>[(1,.s x l.length c),(6,.p σ.length),(13,.s py p.length pc),(16,.p vb),(18,.i (i:Nat)),(19,.i en),(21,.i tr),(22,.p K1.length),(23,.i (k.1:Nat))])
       (fun k mk H=>k.1≤l.length∧mk=[]∧H.take K1.length=K1∧H.all (fun o=>!aU o)=true∧(∀ j<k.1,H[k.2.2 j]?=some (.rw (jQ (iL (gi l j)) 12)))∧((k.1=0∧H[K1.length]?=some (.rw [.slice none 0 0]))∨(0<k.1∧K1.length+1≤k.2.1∧H[K1.length]?=some (.rw [dW k.2.1 1 k.1])∧H[k.2.1]?=some (.gr (rO k.2.2 k.1) 45)))) (fun k=>l.length - k.1) (0,0,fun _=>0) tE ⟨bN _,rfl,by simp,bF aj rfl,fun j hj=>absurd hj oS,.inl ⟨rfl,aO⟩⟩ ?_
      rintro ⟨k,gb,kb⟩ mk H ⟨hk,rfl,J,d,b2,b5⟩
      dsimp only at hk b2 b5 ⊢
      have cw:K1.length<H.length:=by rcases b5 with ⟨_,h⟩|⟨_,_,h,_⟩ <;> exact aQ h
      have F:=jI J b1
      by_cases be:k<l.length
      ·have dv:(k:Int)<(l.length:Nat):=oO
       have dm:=ag k be
       refine oW ?_
       refine .mk (dH [(1,.s x l.length c),(6,.p σ.length),(13,.s py p.length pc),(16,.p vb),(18,.i (i:Nat)),(19,.i en),(21,.i tr),(22,.p K1.length),(23,.i (k:Nat))] H rfl tE ?_)
       have hf1:=aau (σ:=H) dm
       have cq:aH H x k=some (.i (gi l k)):=QH F be
       have hq2b:aH H x (0+(k:Int).toNat*1)=some (.i (gi l k)):=by simpa using QH F be
       rcases b5 with ⟨rfl,f⟩|⟨hk0,cp,f,hg⟩
       ·have a4:aH H K1.length (0+0)=some (.slice none 0 0):=aF f
        have O:∀ X,aH (H++X) K1.length (0+0)=some (.slice none 0 0):=fun X=>aF (aA f)
        have a0:∀ X Y,aH (H++X++Y) K1.length (0+0)=some (.slice none 0 0):=fun X Y=>aF (aA (aA f))
        have T:∀ (A B:aB) (X:Heap) v,putCells (H++[A]++[B]++X) K1.length (0+0) [v]=some ((H++[A]++[B]++X).set K1.length (.rw [v])):=fun A B X v=>fM (aA (aA (aA f))) oS oS rfl
        refine IX (fun e mk s=>mk=[]∧qY e [(1,.s x l.length c),(6,.p σ.length),(13,.s py p.length pc),(16,.p vb),(18,.i (i:Nat)),(19,.i en),(21,.i tr),(22,.p K1.length),(23,.i ((0:Nat):Int))]∧s=(H++[aB.rw (jQ (iL (gi l 0)) 12)]++[aB.rw [.s H.length 12 12]]++[aB.dead,aB.gr [.s H.length 12 12] 45]).set K1.length (.rw [dW ((H++[aB.rw (jQ (iL (gi l 0)) 12)]++[aB.rw [.s H.length 12 12]]).length+1) 1 1])) ?_ ?_
        ·refine Fg (id:=20) oK (?_)
         repeat' (first|(refine gU ?_;first|refine st (sF oR oR oR oR rfl rfl) rfl rfl ?_|refine st (wG oR rfl rfl (by exact dU rfl) oO oR oO oD) rfl rfl ?_|(refine bV ?_;refine st (aK rfl (by first|exact a4|exact O _|exact a0 _ _|exact cq)) rfl rfl ?_)|refine sK1 ?_|(refine dX ?_;refine st (bG rfl rfl rfl (by exact hf1)) rfl rfl ?_)|(refine gV ?_;refine stN (bU rfl rfl rfl rfl (by exact T _ _ _ _)) rfl ?_))|refine kP ?_|refine Kr ?_|refine uq 1 4 rfl rfl ?_ ?_|refine uq 1 5 rfl rfl ?_ ?_|refine uq 1 6 rfl rfl ?_ ?_|refine uq 1 7 rfl rfl ?_ ?_|refine jq 0 (hp:=by exact uS rfl) rfl rfl ?_|refine jq 2 (hp:=by exact wU rfl) rfl rfl ?_|refine jq 3 (hp:=by exact wU rfl) rfl rfl ?_|refine jq 4 (hp:=by exact IY rfl rfl oO oO) rfl rfl ?_|refine jq 9 (hp:=by exact uS rfl) rfl rfl ?_|refine lF 1 rfl ?_|refine lF 5 rfl ?_|refine lF 6 rfl ?_|refine lF 7 rfl ?_|refine lF 8 rfl ?_|refine lF 10 rfl ?_)
         all_goals exact .inl ⟨rfl,rfl,tE,rfl⟩
        ·rintro e mk s ⟨rfl,hE,rfl⟩
         refine uF (tC ?_)
         refine dH _ _ rfl hE ?_
         refine oW ?_
         refine ⟨(0+1,(H++[aB.rw (jQ (iL (gi l 0)) 12)]++[aB.rw [.s H.length 12 12]]).length+1,fun _=>H.length),⟨by dsimp only;omega,rfl,take_set (aT (aT (aT J))) (aD _),ku (bF (bF (bF d rfl) rfl) rfl) rfl,fun j hj=>?_,.inr ⟨by dsimp only;omega,by simp;omega,?_,?_⟩⟩,by dsimp only;omega,tE⟩
         ·obtain rfl:j=0:=by dsimp only at hj;omega
          dsimp only
          exact aC (aA (aA aO)) oO
         ·exact aS (aA (aA (aA f)))
         ·exact aC wJ (by simp;omega)
       ·have a4:aH H K1.length (0+0)=some (dW gb 1 k):=aF f
        have O:∀ X,aH (H++X) K1.length (0+0)=some (dW gb 1 k):=fun X=>aF (aA f)
        have a0:∀ X Y,aH (H++X++Y) K1.length (0+0)=some (dW gb 1 k):=fun X Y=>aF (aA (aA f))
        have ds:∀ A B:aB,(H++[A]++[B])[gb]?=some (.gr (rO kb k) 45):=fun A B=>aA (aA hg)
        have ay:(rO kb k).length=k*1:=Oo _ _
        have T:∀ (A B:aB) (X:Heap) v,putCells ((H++[A]++[B]).set gb .dead++X) K1.length (0+0) [v]=some (((H++[A]++[B]).set gb .dead++X).set K1.length (.rw [v])):=fun A B X v=>fM (aA (aC (aA (aA f)) oO)) oS oS rfl
        refine IX (fun e mk s=>mk=[]∧qY e [(1,.s x l.length c),(6,.p σ.length),(13,.s py p.length pc),(16,.p vb),(18,.i (i:Nat)),(19,.i en),(21,.i tr),(22,.p K1.length),(23,.i (k:Nat))]∧s=((H++[aB.rw (jQ (iL (gi l k)) 12)]++[aB.rw [.s H.length 12 12]]).set gb .dead++[aB.gr (rO kb k++[.s H.length 12 12]) 45]).set K1.length (.rw [dW (H++[aB.rw (jQ (iL (gi l k)) 12)]++[aB.rw [.s H.length 12 12]]).length 1 (k+1)])) ?_ ?_
        ·refine Fg (id:=20) oK (?_)
         repeat' (first|(refine gU ?_;first|refine st (sF oR oR oR oR rfl rfl) rfl rfl ?_|refine st (iQ oR oR rfl (by exact ds _ _) (by exact ay) rfl (by exact dU rfl) oO oR oO oD) rfl rfl ?_|(refine bV ?_;refine st (aK rfl (by first|exact a4|exact O _|exact a0 _ _|exact cq|assumption)) rfl rfl ?_)|refine sK1 ?_|(refine dX ?_;refine st (bG rfl rfl rfl (by exact hf1)) rfl rfl ?_)|(refine gV ?_;refine stN (bU rfl rfl rfl rfl (by exact T _ _ _ _)) rfl ?_))|refine kP ?_|refine Kr ?_|refine uq 1 4 rfl rfl ?_ ?_|refine uq 1 5 rfl rfl ?_ ?_|refine uq 1 6 rfl rfl ?_ ?_|refine uq 1 7 rfl rfl ?_ ?_|refine jq 0 (hp:=by exact uS rfl) rfl rfl ?_|refine jq 2 (hp:=by exact wU rfl) rfl rfl ?_|refine jq 3 (hp:=by exact wU rfl) rfl rfl ?_|refine jq 4 (hp:=by exact IY rfl rfl oO oO) rfl rfl ?_|refine jq 9 (hp:=by exact uS rfl) rfl rfl ?_|refine lF 1 rfl ?_|refine lF 5 rfl ?_|refine lF 6 rfl ?_|refine lF 7 rfl ?_|refine lF 8 rfl ?_|refine lF 10 rfl ?_)
         all_goals exact .inl ⟨rfl,rfl,tE,rfl⟩
        ·rintro e mk s ⟨rfl,hE,rfl⟩
         refine uF (tC ?_)
         refine dH _ _ rfl hE ?_
         refine oW ?_
         have hgl2:=aQ hg
         refine ⟨(k+1,(H++[aB.rw (jQ (iL (gi l k)) 12)]++[aB.rw [.s H.length 12 12]]).length,fun j=>if j=k then H.length else kb j),⟨by dsimp only;omega,rfl,take_set (aT (take_set (aT (aT J)) oO)) (aD _),ku (bF (ku (bF (bF d rfl) rfl) rfl) rfl) rfl,fun j hj=>?_,.inr ⟨by dsimp only;omega,by simp;omega,?_,?_⟩⟩,by dsimp only;omega,tE⟩
         ·dsimp only at hj ⊢
          by_cases ch:j=k
          ·subst ch
           rw [if_pos rfl]
           exact aC (aA (aC (aA aO) oO)) oO
          ·rw [if_neg ch]
           have h1:=b2 j oO
           have h2:kb j ≠ gb:=fun h=>by rw [h,hg] at h1;cases h1
           have h3:kb j ≠ K1.length:=fun h=>by
            rw [h,f] at h1
            have:=congrArg (fun o:Option aB=>match o with|some (.rw cs)=>cs.length|_=>0) h1
            simp [sU] at this
           exact aC (aA (aC (aA (aA h1)) (fun h=>h2 h.symm))) (fun h=>h3 h.symm)
         ·exact aS (aA (aC (aA (aA f)) oO))
         ·rw [aax]
          exact aC (bJ oS) (by simp;omega)
      ·obtain rfl:k=l.length:=oO
       have dv:¬ ((l.length:Nat):Int)<(l.length:Nat):=oO
       rcases b5 with ⟨h0,_⟩|⟨_,cp,f,hg⟩
       ·omega
       have ay:=aQ hg
       have a8:=jF F
       have ak:=jF (jI J w)
       have an:=aQ (iO J av)
       have ah:=aQ (iO J a6)
       refine W_st (e2:=[(1,.s x l.length c),(6,.p σ.length),(13,.s py p.length pc),(16,.p vb),(18,.i (i:Nat)),(19,.i en),(21,.i tr),(22,.p K1.length),(23,.i (l.length:Nat))]) (σ2:=(H.set gb (.rw (rO kb l.length))).set K1.length (.rw [.s gb l.length l.length])) oS (lM.upd (by simp;omega) oS (fun dx i o2 h=>?_) ⟨kL (m:=H.length) rfl (fun _ _=>rfl) (aD _) (bP (Nat.blt_eq.mpr a8)) rfl,kL (m:=H.length) rfl (fun _ _=>rfl) (aD _) (Nat.blt_eq.mpr ah) rfl,kL (m:=H.length) rfl (fun _ _=>rfl) (aD _) (bP (Nat.blt_eq.mpr ak)) rfl,kL (m:=H.length) rfl (fun _ _=>rfl) (aD _) (Nat.blt_eq.mpr an) rfl,oH rfl rfl,oH rfl rfl,oH rfl rfl,kL (m:=H.length) rfl (fun _ _=>rfl) (aD _) (Nat.blt_eq.mpr cw) rfl,oH rfl rfl,trivial⟩) ?_
       ·by_cases bh:i=K1.length
        ·subst bh
         rw [aS (aC f oO)] at h
         cases h
         exact .inr (.inr ⟨rfl,_,.inl f,aD _,fun k h _=>by
          simp at h
          subst h
          exact jV ay rfl⟩)
        ·by_cases d4:i=gb
         ·subst d4
          rw [eN (fun h=>bh h.symm),aS hg] at h
          cases h
          have da:=dx _ _ hg
          exact .inr (.inr ⟨rfl,_,.inr ⟨45,hg⟩,aD _,fun k h _=>vP (fun _ _=>rfl) (aD _) _ da.1 da.2 k h⟩)
         ·rw [eN (fun h=>bh h.symm),eN (fun h=>d4 h.symm)] at h
          exact .inl h
       obtain ⟨H2,U⟩:∃ H2,H2=(H.set gb (.rw (rO kb l.length))).set K1.length (.rw [.s gb l.length l.length]):=⟨_,rfl⟩
       have M:H2.take K1.length=K1:=by rw [U];exact take_set (take_set J oO) (aD _)
       have ac:H2.all (fun o=>!aU o)=true:=by rw [U];exact ku (ku d rfl) rfl
       have cy:H2[K1.length]?=some (.rw [.s gb l.length l.length]):=by rw [U];exact aS (aC f oO)
       have cg:H2[gb]?=some (.rw (rO kb l.length)):=by rw [U];exact aC (aS hg) oO
       have d1:∀ j<l.length,H2[kb j]?=some (.rw (jQ (iL (gi l j)) 12)):=fun j hj=>by
        have h1:=b2 j hj
        have h2:kb j ≠ gb:=fun h=>by rw [h,hg] at h1;cases h1
        have h3:kb j ≠ K1.length:=fun h=>by
         rw [h,f] at h1
         have:=congrArg (fun o:Option aB=>match o with|some (.rw cs)=>cs.length|_=>0) h1
         simp [sU] at this
        rw [U]
        exact aC (aC h1 (fun h=>h2 h.symm)) (fun h=>h3 h.symm)
       rw [← U]
       clear ay a8 ak an ah d hg f b2 J F cw U hk cp H
       obtain ⟨pu,a9⟩:∃ pu:Nat,(gp p i).2=(pu:Int):=⟨(gp p i).2.toNat,by have:=(nJ c4 i r);omega⟩
       have a5:pu<l.length:=by have:=(nJ c4 i r);omega
       have hd1:aH H2 py (0+i*2+1)=some (.i (pu:Nat)):=by rw [← a9];exact IV (jI M w) r
       have hd2:aH H2 x pu=some (.i (gi l pu)):=QH (jI M b1) a5
       refine oW ?_
       refine .mk (dH [(1,.s x l.length c),(6,.p σ.length),(13,.s py p.length pc),(16,.p vb),(18,.i (i:Nat)),(19,.i en),(21,.i tr),(22,.p K1.length),(24,.i (gi l pu))] H2 rfl tE ?_)
       have dj:=ag pu a5
       have b0:=jI M w
       have d8:=jI M b1
       have bo:=iO M a6
       have di:=iO M av
       have hclp:∀ {o:Nat},closed H2.length (.pointer (some ⟨σ.length,o,none⟩))=true:=fun {o}=>Nat.blt_eq.mpr (aQ bo)
       have hcls:∀ {o n c:Nat},closed H2.length (.slice (some ⟨py,o,none⟩) n c)=true:=fun {o n c}=>bP (Nat.blt_eq.mpr (jF b0))
       have V:∀ {o n c:Nat},closed H2.length (.slice (some ⟨x,o,none⟩) n c)=true:=fun {o n c}=>bP (Nat.blt_eq.mpr (jF d8))
       have hclg:∀ {o:Nat},closed H2.length (.pointer (some ⟨py,o,none⟩))=true:=fun {o}=>Nat.blt_eq.mpr (jF b0)
       have hqo:∀ X,aH (H2++X) σ.length (0+2)=some (.i s.off):=fun X=>aF (aA bo)
       have hqf:∀ X,aH (H2++X) py (0+i*2+0)=some (.i fm):=fun X=>by rw [a2];exact IU (pR b0) r
       have r1:0≤(en - s.off).tdiv 100∧(en - s.off).tdiv 100≤1000:=by rw [cJ oO];omega
       have r2:0≤(fm+s.off).tdiv 100∧(fm+s.off).tdiv 100≤1000000:=by rw [cJ oO];omega
       have hputB:∀ a b:Value,putCells (H2++[aB.rw [.i 0,.i 0]]) (H2++([]:Heap)).length 0 [a,b]=some (H2++[aB.rw [a,b]]):=fun a b=>by rw [bL];exact iW (aD _) (cU _)
       refine fA oK rfl (?_)
       refine oW ?_
       obtain ⟨lo,ar⟩:∃ lo,lo=(en - s.off).tdiv 100:=⟨_,rfl⟩
       obtain ⟨g,ap⟩:∃ g,g=min 1000 ((fm+s.off).tdiv 100):=⟨_,rfl⟩
       obtain ⟨H3,N⟩:∃ H3,H3=H2++[aB.rw [.i lo,.i g]]:=⟨_,rfl⟩
       obtain ⟨bb,cc⟩:∃ bb,bb=H2.length:=⟨_,rfl⟩
       refine .mk (dH [(1,.s x l.length c),(6,.p σ.length),(13,.s py p.length pc),(16,.p vb),(18,.i (i:Nat)),(19,.i en),(21,.i tr),(22,.p K1.length),(24,.i (gi l pu)),(25,.p bb)] H3 (by rw [N,ar,ap]) ⟨rfl,rfl,rfl,rfl,rfl,rfl,rfl,rfl,rfl,congrArg (fun n=>some (Value.p n)) (by simp [cc,gJ]),trivial⟩ ?_)
       have df:H3.take K1.length=K1:=by rw [N];exact aT M
       have aa:H3.all (fun o=>!aU o)=true:=by rw [N];exact bF ac rfl
       have cx:H3[K1.length]?=some (.rw [.s gb l.length l.length]):=by rw [N];exact aA cy
       have d6:H3[gb]?=some (.rw (rO kb l.length)):=by rw [N];exact aA cg
       have d9:∀ j<l.length,H3[kb j]?=some (.rw (jQ (iL (gi l j)) 12)):=fun j hj=>by rw [N];exact aA (d1 j hj)
       have cr:H3[bb]?=some (.rw [.i lo,.i g]):=by rw [N,cc];exact aO
       clear hclp hcls V hclg hqo hqf hputB hd1 hd2 N cc ac M cy cg d1 b0 d8 bo di H2
       have a7:=cx
       have hd1:aJ H3 bb 0 2=some [.i lo,.i g]:=aV cr rfl
       apply aG
       refine oW ?_
       obtain ⟨bB,bp⟩:∃ bB,bB=H3.length:=⟨_,rfl⟩
       obtain ⟨bS,bz⟩:∃ bS,bS=(H3++[aB.rw [.i lo,.i g]]).length:=⟨_,rfl⟩
       obtain ⟨wb,br⟩:∃ wb,wb=(H3++[aB.rw [.i lo,.i g]]++[aB.rw [.s gb l.length l.length]]).length:=⟨_,rfl⟩
       obtain ⟨H4,D⟩:∃ H4,H4=H3++[aB.rw [.i lo,.i g]]++[aB.rw [.s gb l.length l.length]]++[aB.rw [.s bB 1 1,.s bS 1 1]]:=⟨_,rfl⟩
       refine .mk (dH [(6,.p σ.length),(13,.s py p.length pc),(16,.p vb),(18,.i (i:Nat)),(19,.i en),(21,.i tr),(24,.i (gi l pu)),(26,.p wb)] H4 (by rw [D,bp,bz];rfl) ⟨rfl,rfl,rfl,rfl,rfl,rfl,rfl,congrArg (fun n=>some (Value.p n)) br.symm,trivial⟩ ?_)
       have cu:H4.take K1.length=K1:=by rw [D];exact aT (aT (aT df))
       have ad:H4.all (fun o=>!aU o)=true:=by rw [D];exact bF (bF (bF aa rfl) rfl) rfl
       have dg:H4[gb]?=some (.rw (rO kb l.length)):=by rw [D];exact aA (aA (aA d6))
       have de:∀ j<l.length,H4[kb j]?=some (.rw (jQ (iL (gi l j)) 12)):=fun j hj=>by rw [D];exact aA (aA (aA (d9 j hj)))
       have d5:H4[bB]?=some (.rw [.i lo,.i g]):=by rw [D,bp];exact aA (aA aO)
       have ci:H4[bS]?=some (.rw [.s gb l.length l.length]):=by rw [D,bz];exact aA aO
       have cm:H4[wb]?=some (.rw [.s bB 1 1,.s bS 1 1]):=by rw [D,br];exact aO
       clear a7 hd1 D bp bz br df cx d6 d9 cr aa H3
       obtain ⟨sp,aw⟩:∃ sp,sp=tr*gi l pu:=⟨_,rfl⟩
       have ca:=afA (s:=s) (l:=l) (pl:=p) (j:=i) r (x:=tr) (by rw [a9,cM];omega) (by rw [← cf];omega) (by rw [← a2];omega)
       rw [a9,cM,← aw] at ca
       have cb:1≤tr∧tr≤100000:=oO
       have hsp2:0≤tr*gi l pu∧tr*gi l pu≤100000*10000:=⟨er oO oO,fo cb.2 dj.2 oO oO⟩
       apply aG
       refine oW ?_
       have q5:0≤tr.tdiv 100∧tr.tdiv 100≤1000:=by rw [cJ oO];omega
       have q6:0≤(tr*gi l pu).tdiv 1000000∧(tr*gi l pu).tdiv 1000000≤1000:=by rw [cJ oO];omega
       obtain ⟨m0,db⟩:∃ m0,m0=min 1000 (tr.tdiv 100):=⟨_,rfl⟩
       obtain ⟨m1,d0⟩:∃ m1,m1=min 1000 (sp.tdiv 1000000):=⟨_,rfl⟩
       obtain ⟨I,S⟩:∃ I,I=H4.length:=⟨_,rfl⟩
       obtain ⟨H5,u⟩:∃ H5,H5=H4++[aB.rw [.i m0,.i m1]]:=⟨_,rfl⟩
       refine .mk (dH [(6,.p σ.length),(13,.s py p.length pc),(16,.p vb),(18,.i (i:Nat)),(19,.i en),(24,.i (gi l pu)),(26,.p wb),(27,.i sp),(28,.s I 2 2)] H5 (by rw [u,db,d0,aw,wrap64 oO oO,wrap64 oO oO];rfl) ⟨rfl,rfl,rfl,rfl,rfl,rfl,rfl,congrArg (fun x=>some (Value.i x)) aw.symm,congrArg (fun n=>some (Value.s n 2 2)) S.symm,trivial⟩ ?_)
       have ao:H5.take K1.length=K1:=by rw [u];exact aT cu
       have W:H5.all (fun o=>!aU o)=true:=by rw [u];exact bF ad rfl
       have b7:H5[wb]?=some (.rw [.s bB 1 1,.s bS 1 1]):=by rw [u];exact aA cm
       have cn:H5[I]?=some (.rw [.i m0,.i m1]):=by rw [u,S];exact aO
       have b9:wM H5 (uh l (lo,g)) bB bS (fun _=>gb) (fun _=>l.length) (fun _ k=>kb k) (fun _ _=>12):=by
        refine ⟨fun j hj=>?_,fun j hj=>?_,fun j hj k hk=>?_,fun j hj k hk q hq=>?_⟩
        ·obtain rfl:j=0:=by have:j<1:=hj;omega
         rw [u];exact aV (aA d5) rfl
        ·obtain rfl:j=0:=by have:j<1:=hj;omega
         rw [u];exact aV (aA ci) rfl
        ·rw [u];exact UL (aA dg) hk
        ·rw [u];exact QF (aA (de k hk)) hq
       have bq:jM (lo,g):=by
        simp only [jM]
        rw [ar,ap]
        rw [cJ oO,cJ oO]
        omega
       have bd:uf (uh l (lo,g)):=Gq ⟨oO,oO⟩ ag bq
       have d2:=iO ao av
       clear u S cu ad cm d5 ci dg de H4
       have hf1:Ev Tryz.prog 18 [.agg #[.s bB 1 1,.s bS 1 1]] H5 (.bool true) H5:=Xd bd b9 W
       have a6:=b7
       have a7:=d2
       have hn1:¬ sp<(Gp s l p).1:=oO
       have hn2:¬ sp > (Gp s l p).2:=oO
       apply aG
       refine oW ?_
       have hd1:aH H5 py (0+i*2+1)=some (.i (pu:Nat)):=by rw [← a9];exact IV (jI ao w) r
       have hf2:=aas (σ:=H5++[aB.rw [.i (pu:Nat)]]) (bar:=0) (b:=H5.length) (n:=1) (c:=1) oS
       refine .mk (aG ?_)
       refine oW ?_
       obtain ⟨rb,bt⟩:∃ rb,rb=H5.length:=⟨_,rfl⟩
       obtain ⟨rc,bs⟩:∃ rc,rc=(H5++[aB.rw [.i (pu:Nat)]]).length:=⟨_,rfl⟩
       obtain ⟨H6,P⟩:∃ H6,H6=H5++[aB.rw [.i (pu:Nat)]]++[aB.rw [.i 0,.s rb 1 1]]:=⟨_,rfl⟩
       refine .mk (dH [(6,.p σ.length),(13,.s py p.length pc),(16,.p vb),(18,.i (i:Nat)),(19,.i en),(24,.i (gi l pu)),(26,.p wb),(27,.i sp),(28,.s I 2 2),(29,.p rc)] H6 (by rw [P,bt];rfl) ⟨rfl,rfl,rfl,rfl,rfl,rfl,rfl,rfl,rfl,congrArg (fun n=>some (Value.p n)) bs.symm,trivial⟩ ?_)
       have b4:H6.take H5.length=H5:=by rw [P];simp
       have al:H6.take K1.length=K1:=by rw [P];exact aT (aT ao)
       have R:H6.all (fun o=>!aU o)=true:=by rw [P];exact bF (bF W rfl) rfl
       have ae:=b9.take b4
       have cd:=iO b4 b7
       have cz:=iO b4 cn
       have G:H6[rb]?=some (.rw [.i (pu:Nat)]):=by rw [P,bt];exact aA aO
       have Q:H6[rc]?=some (.rw [.i 0,.s rb 1 1]):=by rw [P,bs];exact aO
       have cl:=iO al av
       have dd:bB<H6.length:=dJ (ae.bars 0 (show 0<1 by omega))
       have cj:bS<H6.length:=dJ (ae.steps 0 (show 0<1 by omega))
       clear P b4 bt bs ao W b9 b7 cn d2 hd1 hf1 hf2 a6 a7 H5
       have d3:∀ i<(uh l (lo,g)).ns,aH H6 rb i=some (.i (pu:Nat)):=fun i hi=>by
        obtain rfl:i=0:=by have:i<1:=hi;omega
        exact aF G
       have hf1:=aaq (c:=1) (bar:=0) (ks:=fun _=>pu) (cB:=1) (cS:=1) bd ae (fun _ _ _ _=>aD _) (show 0<1 by omega) (fun _ _=>a5) d3 dd cj (aQ G) R (n:=0) rfl
       have a6:=cd
       have a7:=Q
       apply aG
       refine oW ?_
       obtain ⟨a3,Z⟩:∃ a3,a3=H6.length:=⟨_,rfl⟩
       obtain ⟨H7,af⟩:∃ H7,H7=H6++[aB.rw (rgC ((uh l (lo,g)).rg (fun x=>pu) ((uh l (lo,g)).bf 0)) (0+2))]:=⟨_,rfl⟩
       refine .mk (dH [(13,.s py p.length pc),(6,.p σ.length),(18,.i (i:Nat)),(19,.i en),(24,.i (gi l pu)),(26,.p wb),(28,.s I 2 2),(29,.p rc),(30,.s a3 2 2),(31,.i 0)] H7 af.symm ⟨rfl,rfl,rfl,rfl,rfl,rfl,rfl,rfl,congrArg (fun n=>some (Value.s n 2 2)) Z.symm,rfl,trivial⟩ ?_)
       have z:H7.take H6.length=H6:=by rw [af];simp
       have ai:H7.all (fun o=>!aU o)=true:=by rw [af];exact bF R rfl
       have ax:=ae.take z
       have co:=iO z cd
       have dc:=iO z cz
       have bg:=iO z G
       have c6:=iO z Q
       have hv8:=iO z cl
       have bc:H7[a3]?=some (.rw (rgC ((uh l (lo,g)).rg (fun x=>pu) ((uh l (lo,g)).bf 0)) (0+2))):=by rw [af,Z];exact aO
       have c8:bB<H7.length:=dJ (ax.bars 0 (show 0<1 by omega))
       have bn:bS<H7.length:=dJ (ax.steps 0 (show 0<1 by omega))
       have dq:=jI z (jI al w)
       have dh:H7.take σ.length=σ:=IW (IW z al) dk
       have du:H7[σ.length]?=some (.rw s.cells):=iO (IW z al) az
       clear af z Z d3 hf1 a6 a7 dd cj R ae cd cz G Q cl al H6
       have d7:m1=min 1000 (tr*gi l pu / 1000000):=by rw [d0,aw,cJ oO]
       have dw:m0=min 1000 (tr / 100):=by rw [db,cJ oO]
       have ba:=aav (x:=tr) ⟨oO,oO⟩ ag bq a5 oO (by rw [ar,cJ oO];omega) (by rw [ap,cJ oO];omega)
       rw [← d7] at ba
       have bu:jM (m1,m1):=by simp only [jM];omega
       obtain ⟨wl,c7⟩:∃ wl:Nat→List Nat,∀ i,wl i=(uh l (lo,g)).Az (m1,m1) i:=⟨_,fun _=>rfl⟩
       have hf1:=Oa (cB:=1) (cS:=1) bd ax (fun _ _ _ _=>aD _) bu c8 bn ai ba.1 (l:=wl) (fun i _=>c7 i)
       have a6:=co
       have a4:aH H7 I 1=some (.i m1):=aF dc
       refine IX (fun e mk s=>mk=[]∧qY e [(13,.s py p.length pc),(6,.p σ.length),(18,.i (i:Nat)),(19,.i en),(24,.i (gi l pu)),(26,.p wb),(28,.s I 2 2),(29,.p rc),(30,.s a3 2 2),(31,.i 0),(32,.s H7.length 1 1),(33,.i 0)]∧s=H7++([aB.rw (slW (fun j=>H7.length+1+j) (fun j=>(wl j).length) 1)]++Et wl 1)) ?_ ?_
       ·refine Fg (id:=30) oK (?_)
        repeat' (first|(refine gU ?_;first|(refine bV ?_;first|refine st (aK rfl (by exact a4)) rfl rfl ?_|refine st (bD rfl (by exact aV a6 rfl)) rfl rfl ?_)|refine sK4 ?_|(refine dX ?_;refine st (bG rfl rfl rfl (by exact hf1)) rfl rfl ?_))|refine kP ?_|refine Kr ?_|refine uq 0 3 rfl rfl ?_ ?_|refine uq 0 6 rfl rfl ?_ ?_|refine uq 3 6 rfl rfl ?_ ?_|refine uq 0 7 rfl rfl ?_ ?_|refine adH 0 3 6 rfl rfl rfl ?_ ?_ ?_|refine jq 1 (hp:=by exact wU rfl) rfl rfl ?_|refine jq 2 (hp:=by exact IY rfl rfl oO oO) rfl rfl ?_|refine jq 4 (hp:=by exact wU rfl) rfl rfl ?_|refine jq 5 (hp:=by exact IY rfl rfl oO oO) rfl rfl ?_|refine jq 9 (hp:=by exact wU rfl) rfl rfl ?_|refine jq 10 (hp:=by exact CP rfl rfl) rfl rfl ?_|refine jq 11 (hp:=by exact CP rfl rfl) rfl rfl ?_|refine jq 12 (hp:=by exact Fe rfl) rfl rfl ?_|refine jq 13 (hp:=by exact Fe rfl) rfl rfl ?_|refine lF 0 rfl ?_|refine lF 3 rfl ?_|refine lF 6 rfl ?_|refine lF 7 rfl ?_|refine lF 8 rfl ?_)
        all_goals exact .inl ⟨rfl,rfl,tE,rfl⟩
       ·rintro e mk s ⟨rfl,hE,rfl⟩
        obtain ⟨H8,am⟩:∃ H8,H8=H7++([aB.rw (slW (fun j=>H7.length+1+j) (fun j=>(wl j).length) 1)]++Et wl 1):=⟨_,rfl⟩
        obtain ⟨yb,bl⟩:∃ yb,yb=H7.length:=⟨_,rfl⟩
        refine tC ?_
        refine dH [(13,.s py p.length pc),(6,.p σ.length),(18,.i (i:Nat)),(19,.i en),(24,.i (gi l pu)),(26,.p wb),(28,.s I 2 2),(29,.p rc),(30,.s a3 2 2),(31,.i 0),(32,.s yb 1 1),(33,.i 0)] H8 am.symm (by rw [bl];exact hE) ?_
        have E:H8.take H7.length=H7:=by rw [am];simp
        have b8:H8.all (fun o=>!aU o)=true:=by rw [am];exact bF ai rfl
        have dp:H8[yb]?=some (.rw [.s (yb+1) (wl 0).length (wl 0).length]):=by rw [am,bl];exact AV
        have dt:H8[yb+1]?=some (.rw (gu (wl 0))):=by rw [am,bl];exact wJ
        have bw:pu ∈ wl 0:=by rw [c7 0];exact ba.2
        have dy:(wl 0).length≤1000:=by
         rw [c7 0];unfold Wk.Az
         split
         ·simp
         ·refine ej (List.length_filter_le _ _) ?_
          rw [List.length_range]
          show l.length≤1000
          omega
        exact aaw (kb:=kb) (gb:=gb) (IW E dh) b8 (iO E du) (jI E dq) r (ax.take E) (iO E co) (iO E dc) (iO E bg) (iO E c6) (iO E bc) dp dt
         ⟨oO,oO⟩ ag a5 bq a9 a2 ar ap oO dw d7 bw dy
 ·rw [decide_eq_false h1] at hf1
  rw [hH] at hf1 hf2
  refine oW ?_
  exact dK (.tmp rfl .nil) (.plain oS rfl) ⟨rfl,rfl⟩
end Go.Proofs.YtajpgeklmcjciaaGreat
namespace Go.AH
open Go Go.RowKit Go.WideShapes Go.ChangeShapes
section
variable {H:Type} {enc:TypeId×Value→H} {P:Program} {W:World}
theorem wf64 {n:Int} (h:(Lit.int .i64 n).wf=true):-9223372036854775808≤n∧n≤9223372036854775807:=by
 simp only [Lit.wf,aE,decide_eq_true_eq] at h
 exact h
def QJ (l:List Int):List Value:=l.map (.int .i64)
structure UM (W:World) (v:Value) (n size:Nat) (cs:List Value) (pl:Pl):Prop where
 len:n≤9223372036854775807
 rel:∀ (m:Nat) (ρ:Rho) (i:Nat),i<m→ρ i=pl→gq m ρ (.slice (some ⟨i,0,none⟩) n n) v
 sz:cs.length=n*size
 cells:cs ≠ []→pl.b<W.heap.size∧∀ (k:Nat) (h:k<cs.length),W.cell? ⟨pl.b,pl.o+k,none⟩=some cs[k]
theorem cell_lt {w:World} {a:Addr} {v:Value} (h:w.cell? a=some v):a.block<w.heap.size∧a.spot=none:=by
 unfold World.cell? at h
 split at h
 ·rename_i hb
  refine ⟨(Array.getElem?_eq_some_iff.1 hb).1,?_⟩
  split at h
  ·cases h
  ·rename_i hs;simpa using hs
 ·cases h
theorem aay {b0:Nat} {t e:TypeId} {v:Value} {d:DataW H} {p:List MemPlace} (ht:P.underlying t=some (.slice e)) (he:P.underlying e=some (.int .i64)) (hc:P.cellsOf e=1) (hval:Value.okWide P W .any b0 t v)
  (h:DataW.Trod enc P W 0 (fun _=>true) true t v d p):∃ (l:List Int) (pl:Pl),UM W v l.length 1 (QJ l) pl∧∀ n ∈ l,-9223372036854775808≤n∧n≤9223372036854775807:=by
 obtain ⟨a0,len,g,rfl⟩:=okWide_slice ht hval
 obtain ⟨fuel,hf⟩:=h
 rcases open_ints ht he hc hf with ⟨f,-⟩|⟨a,len',cap',zs,f,-,hl,hm,hz,-,hcell,hwf⟩
 ·have c:Value.slice a0 len g=Value.slice none 0 0:=by simpa [Value.cells] using f
  cases c
  exact ⟨[],⟨0,0,0⟩,⟨by simp,fun m ρ i hi hρ=>.emptySlice _ _ _ _,rfl,fun h=>absurd rfl h⟩,fun n hn=>by simp at hn⟩
 ·have c:Value.slice a0 len g=Value.slice (some a) len' cap':=by simpa [Value.cells] using f
  cases c
  simp only [if_true] at hz
  have j:(zs.take len).length=len:=by rw [eI];omega
  have hm':len≤9223372036854775807:=by unfold maxLen at hm;omega
  by_cases h0:len=0
  ·subst h0
   exact ⟨[],⟨0,0,0⟩,⟨by simp,fun m ρ i hi hρ=>.emptySlice _ _ _ _,rfl,fun h=>absurd rfl h⟩,fun n hn=>by simp at hn⟩
  ·have h1:=hcell 0 oO
   have ha:a.add 0=a:=by simp [Addr.add]
   rw [ha] at h1
   obtain ⟨hb,hs⟩:=cell_lt h1
   obtain ⟨b,o,sp⟩:=a
   simp only at hb hs
   subst hs
   refine ⟨zs.take len,⟨b,o,0⟩,⟨oO,fun m ρ i hi hρ=>?_,by simp [QJ],fun _=>⟨hb,fun k hk=>?_⟩⟩,fun n hn=>wf64 (hwf n (List.mem_of_mem_take hn))⟩
   ·rw [j]
    have:=VQ.slice (q:=false) (n:=m) (ρ:=ρ) i 0 len len g hl hi
    rw [hρ] at this
    simpa using this
   ·have hk':k<len:=by
     simp only [QJ,cQ] at hk
     omega
    have h2:=hcell k oO
    have r:zs.getD k 0=(zs.take len)[k]'oO:=by
     rw [dC,cE,cC oO];rfl
    have s:(⟨b,o,none⟩:Addr).add k=⟨b,o+k,none⟩:=by
     unfold Addr.add
     split
     ·rename_i h;subst h;rfl
     ·rfl
    rw [s,r] at h2
    simpa [QJ] using h2
theorem UM.hro {v:Value} {n size:Nat} {cs:List Value} {pl:Pl} (h:UM W v n size cs pl) (hp:dL cs=true) (ρ:Rho) (i m:Nat) (hρ:ρ i=pl) (hne:cs ≠ []) :
  (ρ i).b<W.heap.size∧∀ (k:Nat) (hk:k<cs.length),∃ v',W.cell? ⟨(ρ i).b,(ρ i).o+k,none⟩=some v'∧gq m ρ cs[k] v':=by
 rw [hρ]
 obtain ⟨h1,h2⟩:=h.cells hne
 exact ⟨h1,fun k hk=>⟨_,h2 k hk,lC cs hp k hk⟩⟩
end
end Go.AH
namespace Go.Proofs.YtajpgeklmcjciaaGreat
open Go Go.AH Go.RowKit Go.WideShapes Go.ChangeShapes
set_option maxRecDepth 100000 in
theorem Xf {b0:Nat} {H:Type} {enc:TypeId×Value→H} {W:World} {v:Value} {d:DataW H} {p:List MemPlace} (hval:Value.okWide Tryz.prog W .any b0 25 v) (h:DataW.Trod enc Tryz.prog W 0 (fun _=>true) true 25 v d p) :
  ∃ s:St,v=s.val∧(-9223372036854775808≤s.long∧s.long≤9223372036854775807)∧(-9223372036854775808≤s.short∧s.short≤9223372036854775807)∧(-9223372036854775808≤s.off∧s.off≤9223372036854775807)∧(-9223372036854775808≤s.lo∧s.lo≤9223372036854775807)∧(-9223372036854775808≤s.hi∧s.hi≤9223372036854775807):=by
 obtain ⟨cs,rfl,g⟩:=okWide_struct Tryz.underlying25 hval
 have i:Tryz.prog.cellsOf 25=5:=by kernel_rfl
 have c:cs.size=5:=g.trans i
 obtain ⟨l⟩:=cs
 match l,c with
 |[c0,c1,c2,c3,c4],_ =>
  obtain ⟨fuel,hf⟩:=h
  obtain ⟨xs,n,_,_,_,e,hg⟩:=DataW.trod_struct Tryz.underlying25 hf
  match xs,e with
  |[y0,y1,y2,y3],_ =>
   have k2:Tryz.prog.cellsOf 2=1:=by kernel_rfl
   have k23:Tryz.prog.cellsOf 23=2:=by kernel_rfl
   have g0:=hg 0 _ rfl
   have g1:=hg 1 _ rfl
   have g2:=hg 2 _ rfl
   have g3:=hg 3 _ rfl
   simp only [Value.cells,List.getElem?_cons_zero,List.getElem?_cons_succ] at g0 g1 g2 g3
   obtain ⟨n0,e0,_,w0⟩:=DataW.trod_int Tryz.underlying2 g0
   obtain ⟨n1,e1,_,w1⟩:=DataW.trod_int Tryz.underlying2 g1
   obtain ⟨n2,e2,_,w2⟩:=DataW.trod_int Tryz.underlying2 g2
   obtain ⟨zs,m,_,_,_,a,f⟩:=DataW.trod_struct Tryz.underlying23 g3
   match zs,a with
   |[z0,z1],_ =>
    have q0:=f 0 _ rfl
    have q1:=f 1 _ rfl
    simp only [List.getElem?_cons_zero,List.getElem?_cons_succ] at q0 q1
    obtain ⟨n3,e3,_,w3⟩:=DataW.trod_int Tryz.underlying2 q0
    obtain ⟨n4,e4,_,w4⟩:=DataW.trod_int Tryz.underlying2 q1
    cases e0;cases e1;cases e2;cases e3;cases e4
    exact ⟨⟨n0,n1,n2,n3,n4⟩,rfl,wf64 w0,wf64 w1,wf64 w2,wf64 w3,wf64 w4⟩
theorem afB {Q:Nat→Int×Int→Prop} {n:Nat} (h:∀ i<n,∃ p,Q i p):∃ l:List (Int×Int),l.length=n∧∀ i<n,Q i (gp l i):=by
 induction n with
 |zero=>exact ⟨[],rfl,fun i hi=>oO⟩
 |succ n ih =>
  obtain ⟨l,h1,h2⟩:=ih fun i hi=>h i oO
  obtain ⟨p,hp⟩:=h n oO
  refine ⟨l++[p],by simp [h1],fun i hi=>?_⟩
  by_cases a:i<n
  ·have:gp (l++[p]) i=gp l i:=by simp only [gp,cE];rw [bR oO]
   rw [this];exact h2 i a
  ·obtain rfl:i=n:=oO
   have:gp (l++[p]) i=p:=by simp only [gp,cE];rw [bE oO,h1,cY];rfl
   rw [this];exact hp
theorem adI {b o k:Nat}:(⟨b,o,none⟩:Addr).add k=⟨b,o+k,none⟩:=by
 unfold Addr.add
 split
 ·rename_i h;subst h;rfl
 ·rfl
set_option maxRecDepth 100000 in
theorem aaz {H:Type} {enc:TypeId×Value→H} {W:World} {b0:Nat} {v:Value} {d:DataW H} {p:List MemPlace} (hval:Value.okWide Tryz.prog W .any b0 27 v) (h:DataW.Trod enc Tryz.prog W 0 (fun _=>true) true 27 v d p) :
  ∃ (l:List (Int×Int)) (pl:Pl),UM W v l.length 2 (dI l) pl∧∀ i<l.length,(-9223372036854775808≤(gp l i).1∧(gp l i).1≤9223372036854775807)∧-9223372036854775808≤(gp l i).2∧(gp l i).2≤9223372036854775807:=by
 obtain ⟨a0,len,g,rfl⟩:=okWide_slice Tryz.underlying27 hval
 obtain ⟨fuel,hf⟩:=h
 have z:Tryz.prog.cellsOf 39=2:=by kernel_rfl
 have k2:Tryz.prog.cellsOf 2=1:=by kernel_rfl
 have k3:Tryz.prog.cellsOf 3=1:=by kernel_rfl
 have c:∃ (l:List (Int×Int)) (pl:Pl),UM W (.slice a0 0 g) l.length 2 (dI l) pl∧∀ i<l.length,(-9223372036854775808≤(gp l i).1∧(gp l i).1≤9223372036854775807)∧-9223372036854775808≤(gp l i).2∧(gp l i).2≤9223372036854775807 :=
  ⟨[],⟨0,0,0⟩,⟨by simp,fun m ρ i hi hρ=>.emptySlice _ _ _ _,rfl,fun h=>absurd rfl h⟩,fun n hn=>by simp at hn⟩
 rcases Deep.open_slice Tryz.underlying27 hf with ⟨j,-⟩|⟨a,len',cap',m,n,D,Pl,j,-,hl,hm,hmm,-,hi⟩
 ·have e:Value.slice a0 len g=Value.slice none 0 0:=by simpa [Value.cells] using j
  cases e
  exact c
 ·have e:Value.slice a0 len g=Value.slice (some a) len' cap':=by simpa [Value.cells] using j
  cases e
  simp only [if_true] at hmm
  by_cases h0:len=0
  ·subst h0;exact c
  ·have r:∀ i<len,∃ q:Int×Int,(W.cell? (a.add (i*2))=some (.i q.1)∧W.cell? ((a.add (i*2)).add 1)=some (.i q.2))∧(-9223372036854775808≤q.1∧q.1≤9223372036854775807)∧-9223372036854775808≤q.2∧q.2≤9223372036854775807:=fun i w=>by
    obtain ⟨cs,hc,ht⟩:=hi i oO
    rw [z] at hc
    obtain ⟨_,x,u⟩:=World.cells?_some hc
    match cs,x with
    |[c0,c1],_ =>
     obtain ⟨zs,m',_,_,_,f,s⟩:=DataW.trod_struct Tryz.underlying39 ht
     match zs,f with
     |[z0,z1],_ =>
      have q0:=s 0 _ rfl
      have q1:=s 1 _ rfl
      simp only [k2,k3,List.drop_succ_cons,List.drop_zero,List.take_succ_cons,List.take_zero,List.getElem?_cons_zero,List.getElem?_cons_succ] at q0 q1
      obtain ⟨n3,e3,_,w3⟩:=DataW.trod_int Tryz.underlying2 q0
      obtain ⟨n4,e4,_,w4⟩:=DataW.trod_int Tryz.underlying3 q1
      cases e3;cases e4
      have g0:=u 0 oO
      have g1:=u 1 oO
      have ha:(a.add (i*2)).add 0=a.add (i*2):=by simp [Addr.add]
      rw [ha] at g0
      exact ⟨(n3,n4),⟨by simpa using g0,by simpa using g1⟩,wf64 w3,wf64 w4⟩
   obtain ⟨l,y,hq⟩:=afB r
   have h1:=(hq 0 oO).1.1
   have ha:a.add (0*2)=a:=by simp [Addr.add]
   rw [ha] at h1
   obtain ⟨hb,hs⟩:=cell_lt h1
   obtain ⟨b,o,sp⟩:=a
   simp only at hb hs
   subst hs
   have hm':len≤9223372036854775807:=by unfold maxLen at hm;omega
   refine ⟨l,⟨b,o,0⟩,⟨oO,fun m ρ i hi hρ=>?_,wC l,fun _=>⟨hb,fun k hk=>?_⟩⟩,fun i w=>(hq i oO).2⟩
   ·rw [y]
    have:=VQ.slice (q:=false) (n:=m) (ρ:=ρ) i 0 len len g hl hi
    rw [hρ] at this
    simpa using this
   ·rw [wC] at hk
    obtain ⟨g1,g2⟩:=(hq (k / 2) oO).1
    simp only [adI] at g1 g2
    rcases Nat.mod_two_eq_zero_or_one k with h2|h2
    ·have ek:k / 2*2=k:=oO
     have:=su (pl:=l) (i:=k / 2) oO
     rw [ek] at this g1
     have h3:=cC (l:=dI l) (i:=k) (by rw [wC];omega)
     rw [h3] at this
     rw [g1,← Option.some.inj this]
    ·have ek:k / 2*2+1=k:=oO
     have:=Bv (pl:=l) (i:=k / 2) oO
     rw [ek] at this
     have h3:=cC (l:=dI l) (i:=k) (by rw [wC];omega)
     rw [h3] at this
     rw [show o+k=o+k / 2*2+1 from by omega,g2,← Option.some.inj this]
end Go.Proofs.YtajpgeklmcjciaaGreat
namespace Go.AH
open Go Go.RowKit Go.WideShapes Go.ChangeShapes
section
variable {H:Type} {enc:TypeId×Value→H} {P:Program} {w:World} {base:Nat} {spare:Nat→Bool} {held:Bool}
theorem QK {t t' t'' t3:TypeId} {v v' v'' v3:Value} {d d' d'' d3:DataW H} {p p' p'' p3:List MemPlace} (h:DataW.Trod enc P w base spare held t v d p) (h':DataW.Trod enc P w base spare held t' v' d' p')
  (h'':DataW.Trod enc P w base spare held t'' v'' d'' p'') (h3:DataW.Trod enc P w base spare held t3 v3 d3 p3):DataW.TrodAll enc P w base spare held [t,t',t'',t3] [v,v',v'',v3] [d,d',d'',d3] (p++(p'++(p''++p3))):=⟨p,p'++(p''++p3),h,trodAll_mk3 h' h'' h3,rfl⟩
end
section
variable {H:Type} {enc:TypeId×Value→H} {P:Program} {W:World}
theorem UN {b0:Nat} {t:TypeId} {v:Value} {d:DataW H} {p:List MemPlace} (ht:P.underlying t=some (.int .u32)) (hval:Value.okWide P W .any b0 t v)
  (h:DataW.Trod enc P W 0 (fun _=>true) true t v d p):∃ n:Int,v=.int .u32 n∧0≤n∧n≤4294967295:=by
 obtain ⟨n,rfl,_,_,wn⟩:=open_int ht hval h
 simp only [Lit.wf,aE,decide_eq_true_eq] at wn
 exact ⟨n,rfl,wn⟩
theorem afC {b0:Nat} {t:TypeId} {v:Value} {d:DataW H} {p:List MemPlace} (ht:P.underlying t=some (.int .u8)) (hval:Value.okWide P W .any b0 t v)
  (h:DataW.Trod enc P W 0 (fun _=>true) true t v d p):∃ n:Int,v=.int .u8 n∧0≤n∧n≤255:=by
 obtain ⟨n,rfl,_,_,wn⟩:=open_int ht hval h
 simp only [Lit.wf,aE,decide_eq_true_eq] at wn
 exact ⟨n,rfl,wn⟩
end
section
variable {H:Type} {enc:TypeId×Value→H} {P:Program} {w:World} {base:Nat} {spare:Nat→Bool} {held:Bool}
theorem QL {t t' t'' t3 t4:TypeId} {v v' v'' v3 v4:Value} {d d' d'' d3 d4:DataW H} {p p' p'' p3 p4:List MemPlace} (h:DataW.Trod enc P w base spare held t v d p) (h':DataW.Trod enc P w base spare held t' v' d' p')
  (h'':DataW.Trod enc P w base spare held t'' v'' d'' p'') (h3:DataW.Trod enc P w base spare held t3 v3 d3 p3) (h4:DataW.Trod enc P w base spare held t4 v4 d4 p4):DataW.TrodAll enc P w base spare held [t,t',t'',t3,t4] [v,v',v'',v3,v4] [d,d',d'',d3,d4] (p++(p'++(p''++(p3++p4)))):=⟨p,p'++(p''++(p3++p4)),h,QK h' h'' h3 h4,rfl⟩
end
section
variable {H:Type} {enc:TypeId×Value→H} {P:Program} {w:World} {base:Nat} {spare:Nat→Bool} {held:Bool}
theorem Xg {t0 t1 t2 t3 t4 t5:TypeId} {args:Array Value} {ds:List (DataW H)} {ps:List MemPlace} (h:DataW.TrodAll enc P w base spare held [t0,t1,t2,t3,t4,t5] args.toList ds ps) :
  ∃ v0 v1 v2 v3 v4 v5 d0 d1 d2 d3 d4 d5 p0 p1 p2 p3 p4 p5,args=#[v0,v1,v2,v3,v4,v5]∧ds=[d0,d1,d2,d3,d4,d5]∧ps=p0++p1++p2++p3++p4++p5∧DataW.Trod enc P w base spare held t0 v0 d0 p0∧DataW.Trod enc P w base spare held t1 v1 d1 p1∧DataW.Trod enc P w base spare held t2 v2 d2 p2 ∧
   DataW.Trod enc P w base spare held t3 v3 d3 p3∧DataW.Trod enc P w base spare held t4 v4 d4 p4∧DataW.Trod enc P w base spare held t5 v5 d5 p5:=by
 obtain ⟨v,vs,d,ds',p,q,hargs,rfl,rfl,hd,i⟩:=trodAll_cons h
 obtain ⟨v',vs',d',ds'',p',q',rfl,rfl,rfl,o,f⟩:=trodAll_cons i
 obtain ⟨u,vs'',l,ds''',s,q'',rfl,rfl,rfl,j,a⟩:=trodAll_cons f
 obtain ⟨v3,vs3,d3,ds3,p3,q3,rfl,rfl,rfl,m,c⟩:=trodAll_cons a
 obtain ⟨v4,vs4,d4,ds4,p4,q4,rfl,rfl,rfl,r,g⟩:=trodAll_cons c
 obtain ⟨v5,vs5,d5,ds5,p5,q5,rfl,rfl,rfl,n,e⟩:=trodAll_cons g
 obtain ⟨rfl,rfl,rfl⟩:=trodAll_nil e
 exact ⟨v,v',u,v3,v4,v5,d,d',l,d3,d4,d5,p,p',s,p3,p4,p5,by cases args;simp_all,rfl,by simp,hd,o,j,m,r,n⟩
theorem QM {t t' t'' t3 t4 t5:TypeId} {v v' v'' v3 v4 v5:Value} {d d' d'' d3 d4 d5:DataW H} {p p' p'' p3 p4 p5:List MemPlace} (h:DataW.Trod enc P w base spare held t v d p) (h':DataW.Trod enc P w base spare held t' v' d' p')
  (h'':DataW.Trod enc P w base spare held t'' v'' d'' p'') (h3:DataW.Trod enc P w base spare held t3 v3 d3 p3) (h4:DataW.Trod enc P w base spare held t4 v4 d4 p4) (h5:DataW.Trod enc P w base spare held t5 v5 d5 p5) :
  DataW.TrodAll enc P w base spare held [t,t',t'',t3,t4,t5] [v,v',v'',v3,v4,v5] [d,d',d'',d3,d4,d5] (p++(p'++(p''++(p3++(p4++p5))))):=⟨p,p'++(p''++(p3++(p4++p5))),h,QL h' h'' h3 h4 h5,rfl⟩
end
section
variable {H:Type} {enc:TypeId×Value→H} {P:Program} {W:World}
end
end Go.AH
