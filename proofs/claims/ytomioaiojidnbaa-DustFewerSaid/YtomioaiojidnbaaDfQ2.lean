/- The most dust of runs, plainly. -/
import Derived.Test.YtomioaiojidnbaaDfQ1
namespace Go.AH.Dust
open Go Go.AH
theorem hc3 (S:Shp):eX 3 S.hp:=⟨ay (aK _),ay (dJ _),ay (aK _),trivial⟩
theorem iq {n x y z:Nat} {S:Shp} (hx:x<n) (hy:y<n) (hz:z<n):dR n (shL x y z S)=true∧okL (shL x y z S)=true:=by
 obtain ⟨a1,a2⟩:=jq (n:=n) (i:=x) (l:=S.d.length) (c:=S.d.length) hx
 obtain ⟨b1,b2⟩:=jq (n:=n) (i:=y) (l:=S.f.length) (c:=S.f.length) hy
 obtain ⟨c1,c2⟩:=jq (n:=n) (i:=z) (l:=S.s.length) (c:=S.s.length) hz
 simp [dR,okL,a1,b1,c1,a2,b2,c2]
theorem hc4 (S:Shp):eX 4 [.ro (ints S.d),.ro (pc S.f),.ro (ints S.s),.rw (shL 0 1 2 S)]:=⟨ay (aK _),ay (dJ _),ay (aK _),iq (by omega) (by omega) (by omega),trivial⟩
theorem prt_take {σ:Heap} {f:List (Int×Int)} {x i:Nat} (hx:jL σ x (pc f)) (hi:i≤f.length):wH σ (x,0) (pc (f.take i)):=by
 refine ⟨pc f,hx,?_,?_⟩
 ·have h:∀ (f:List (Int×Int)) (i:Nat),i≤f.length→pc f=pc (f.take i)++pc (f.drop i):=by
   intro f
   induction f with
   |nil=>intro i hi;simp [pc]
   |cons p f ih =>
    intro i hi
    cases i with
    |zero=>simp [pc]
    |succ i=>simp only [List.take_succ_cons,List.drop_succ_cons,pc,List.cons_append];rw [ih i (by simpa using hi)]
  rw [List.drop_zero,h f i hi,List.take_left]
 ·rw [yD,yD,List.length_take];omega
theorem Jl {f:List (Int×Int)} {p:Int×Int} {i:Nat} (hi:i≤f.length):p ∈ f.take i↔∃ k,k<i∧gf f k=p:=by
 rw [jW,List.length_take,Nat.min_eq_left hi]
 have e:∀ k,k<i→gf (f.take i) k=gf f k:=fun k hk=>by simp [gf,List.getD_eq_getElem?_getD,hk]
 exact ⟨fun ⟨k,h1,h2⟩=>⟨k,h1,by rw [← e k h1];exact h2⟩,fun ⟨k,h1,h2⟩=>⟨k,h1,by rw [e k h1];exact h2⟩⟩
theorem box_at {σ:Heap} {p x y z:Nat} {S:Shp} (h:SAt σ x y z S) (hp:jL σ p (shL x y z S)):Dp σ 4 (bsR [x,y,z,p]) [ints S.d,pc S.f,ints S.s,shL 0 1 2 S] [(x,ints S.d),(y,pc S.f),(z,ints S.s),(p,shL x y z S)]:=by
 refine ⟨⟨h.1,rfl,fun a ha ha'=>iG _ (aK _) a ha⟩,⟨h.2.1,rfl,fun a ha ha'=>iG _ (dJ _) a ha⟩,⟨h.2.2,rfl,fun a ha ha'=>iG _ (aK _) a ha⟩,⟨hp,rfl,fun a ha ha'=>?_⟩,trivial⟩
 match a,ha with
 |0,_=>exact gu (by omega) rfl (Nat.le_refl _)
 |1,_=>exact gu (by omega) rfl (Nat.le_refl _)
 |2,_=>exact gu (by omega) rfl (Nat.le_refl _)
end Go.AH.Dust
namespace Go.Proofs.Ytomioaiojidnbaa
open Go Go.AH
attribute [local irreducible] dO dI dM kK iM gK iC dV iJ dQ iK iE
set_option maxRecDepth 100000
set_option maxHeartbeats 1000000
open Go.AH.Dust
theorem Am {σ:Heap} {S:Shp} {n:Int} {p x y z:Nat} (h:SAt σ x y z S) (hp:jL σ p (shL x y z S)) (hS:S.fit) (hni:σ.all (fun o=>!dB o)=true) :
  Ev Try.prog 57 [.int .i64 n,.pointer (some ⟨p,0,none⟩)] σ (.bool (decide (isW S n))) σ:=by
 have w':Ev Try.prog 57 [.int .i64 n,.pointer (some ⟨3,0,none⟩)] [.ro (ints S.d),.ro (pc S.f),.ro (ints S.s),.ro (shL 0 1 2 S)] (.bool (decide (isW S n))) [.ro (ints S.d),.ro (pc S.f),.ro (ints S.s),.ro (shL 0 1 2 S)]:=work57r_ok S n hS
 exact Ev.arrsP [ints S.d,pc S.f,ints S.s,shL 0 1 2 S] [(x,ints S.d),(y,pc S.f),(z,ints S.s),(p,shL x y z S)] w' (box_at h hp) ⟨.int _ _,by simpa [bsR] using VQ.ptr (q:=true) (n:=4) (ρ:=bsR [x,y,z,p]) 3 0 (by omega),trivial⟩ rfl hni
theorem Na (S:Shp) (hS:S.fit):Ev Try.prog 21 [shV 0 1 2 S] S.hp (.int .i64 (dG S)) S.hp:=by
 have n1:=hS.d
 have n2:=hS.f
 have n3:=hS.s
 by_cases a1:(S.d.length:Int)=0
 ·have e:dG S=6:=by unfold dG;rw [if_pos (by omega)]
  rw [e]
  refine aX 3 84 Try.func21 rfl rfl rfl rfl rfl ?_
  repeat' (first|(refine gU ?_;first|(refine aP ?_;refine st (au rfl) rfl rfl ?_)|(refine aI ?_;refine st (aA rfl) rfl rfl ?_)|(refine gFA ?_;refine st (aB rfl) rfl rfl ?_)|(refine aU ?_;refine st (ak rfl (by rfl)) rfl rfl ?_)|(refine bG ?_;refine st (aG rfl rfl rfl) rfl rfl ?_)|(refine fK ?_;refine st (bK rfl) rfl rfl ?_)|(refine eY ?_;refine st (bH rfl rfl) rfl rfl ?_)|(refine BG ?_;refine st (jy rfl rfl) rfl rfl ?_)|(refine kD ?_;refine st (gI rfl) rfl rfl ?_))|(refine gG ?_;refine nU rfl rfl ?_)|refine aS ?_|refine aj ?_|refine ah ?_|refine bg ?_|refine kL ?_|refine nH ?_|refine dX ?_|refine aO ?_|refine aQ rfl ?_)
  exact iF (.tmp rfl .nil) (.plain rfl rfl) ⟨rfl,rfl⟩
 by_cases a2:(S.d.length:Int) > 10
 ·have e:dG S=6:=by unfold dG;rw [if_pos (by omega)]
  rw [e]
  refine aX 3 84 Try.func21 rfl rfl rfl rfl rfl ?_
  repeat' (first|(refine gU ?_;first|(refine aP ?_;refine st (au rfl) rfl rfl ?_)|(refine aI ?_;refine st (aA rfl) rfl rfl ?_)|(refine gFA ?_;refine st (aB rfl) rfl rfl ?_)|(refine aU ?_;refine st (ak rfl (by rfl)) rfl rfl ?_)|(refine bG ?_;refine st (aG rfl rfl rfl) rfl rfl ?_)|(refine fK ?_;refine st (bK rfl) rfl rfl ?_)|(refine eY ?_;first|refine st (bH rfl rfl) rfl rfl ?_|refine st (bY rfl rfl) rfl rfl ?_)|(refine BG ?_;refine st (jy rfl rfl) rfl rfl ?_)|(refine kD ?_;refine st (gI rfl) rfl rfl ?_))|(refine gG ?_;first|(refine gFA ?_;refine bP rfl (aB rfl) rfl rfl ?_)|(refine aU ?_;refine bP rfl (ak rfl (by rfl)) rfl rfl ?_)|(refine bG ?_;refine bP rfl (aG rfl rfl rfl) rfl rfl ?_)|(refine fK ?_;refine bP rfl (bK rfl) rfl rfl ?_)|refine nU rfl rfl ?_)|refine aS ?_|refine aj ?_|refine ah ?_|refine bg ?_|refine kL ?_|refine nH ?_|refine dX ?_|refine aO ?_|refine aQ rfl ?_)
  exact iF (.tmp rfl .nil) (.plain rfl rfl) ⟨rfl,rfl⟩
 by_cases a3:(S.f.length:Int) > 60
 ·have e:dG S=6:=by unfold dG;rw [if_pos (by omega)]
  rw [e]
  refine aX 3 84 Try.func21 rfl rfl rfl rfl rfl ?_
  repeat' (first|(refine gU ?_;first|(refine aP ?_;refine st (au rfl) rfl rfl ?_)|(refine aI ?_;refine st (aA rfl) rfl rfl ?_)|(refine gFA ?_;refine st (aB rfl) rfl rfl ?_)|(refine aU ?_;refine st (ak rfl (by rfl)) rfl rfl ?_)|(refine bG ?_;refine st (aG rfl rfl rfl) rfl rfl ?_)|(refine fK ?_;refine st (bK rfl) rfl rfl ?_)|(refine eY ?_;refine st (bY rfl rfl) rfl rfl ?_)|(refine BG ?_;refine st (jy rfl rfl) rfl rfl ?_)|(refine kD ?_;refine st (gI rfl) rfl rfl ?_))|(refine gG ?_;first|(refine gFA ?_;refine bP rfl (aB rfl) rfl rfl ?_)|(refine aU ?_;refine bP rfl (ak rfl (by rfl)) rfl rfl ?_)|(refine bG ?_;refine bP rfl (aG rfl rfl rfl) rfl rfl ?_)|(refine fK ?_;refine bP rfl (bK rfl) rfl rfl ?_))|refine aS ?_|refine aj ?_|refine ah ?_|refine bg ?_|refine kL ?_|refine nH ?_|refine dX ?_|refine aO ?_|refine aQ rfl ?_)
  exact iF (.tmp rfl .nil) (.plain rfl rfl) ⟨rfl,rfl⟩
 have e0:¬ (S.d.length=0∨S.d.length > 10∨S.f.length > 60):=by omega
 have hwi:=within_ev (σ:=[.ro (ints S.d),.ro (pc S.f),.ro (ints S.s),.rw (shL 0 1 2 S)]) (l:=S.d) (lo:=0) (hi:=1000) (x:=0) (c:=S.d.length) (.inl rfl) (by omega) rfl
 by_cases hD:okD S
 case neg =>
  have e:dG S=3:=by unfold dG;rw [if_neg e0,if_pos hD]
  have hb:sK 0 1000 S.d≥0:=Fv.2 (Classical.byContradiction fun hn=>hD fun i hi=>by
   have:¬ (gi S.d i<0∨gi S.d i > 1000):=fun h=>hn ⟨i,hi,h⟩
   omega)
  rw [e]
  refine aX 3 84 Try.func21 rfl rfl rfl rfl rfl ?_
  repeat' (first|(refine gU ?_;first|(refine aP ?_;refine st (au rfl) rfl rfl ?_)|(refine aI ?_;refine st (aA rfl) rfl rfl ?_)|(refine gFA ?_;refine st (aB rfl) rfl rfl ?_)|(refine aU ?_;refine st (ak rfl (by rfl)) rfl rfl ?_)|(refine bG ?_;refine st (aG rfl rfl rfl) rfl rfl ?_)|(refine fK ?_;refine st (bK rfl) rfl rfl ?_)|(refine eY ?_;refine st (bY rfl rfl) rfl rfl ?_)|(refine kX ?_;refine st (jf rfl) rfl rfl ?_)|(refine BG ?_;refine st (jy rfl rfl) rfl rfl ?_)|(refine fC ?_;refine st (bC rfl rfl rfl (by exact hwi)) rfl rfl ?_)|(refine kD ?_;refine st (gI rfl) rfl rfl ?_))|(refine gG ?_;first|(refine gFA ?_;refine bP rfl (aB rfl) rfl rfl ?_)|(refine aU ?_;refine bP rfl (ak rfl (by rfl)) rfl rfl ?_)|(refine bG ?_;refine bP rfl (aG rfl rfl rfl) rfl rfl ?_)|(refine fK ?_;refine bP rfl (bK rfl) rfl rfl ?_))|refine aS ?_|refine aj ?_|refine ah ?_|refine bg ?_|refine kL ?_|refine nH ?_|refine dX ?_|refine aO ?_|refine aQ rfl ?_|refine aN rfl ?_)
  exact iF (.tmp rfl .nil) (.plain rfl rfl) ⟨rfl,rfl⟩
 have e1:¬ ¬ okD S:=fun h=>h hD
 have hb:¬ sK 0 1000 S.d≥0:=fun h=>by
  obtain ⟨i,h1,h2⟩:=Fv.1 h
  have:=hD i h1;omega
 by_cases a4:(S.s.length:Int)=0
 ·have e:dG S=2:=by unfold dG;rw [if_neg e0,if_neg e1,if_neg (fun h=>h.2.2 (by omega))]
  rw [e]
  refine aX 3 84 Try.func21 rfl rfl rfl rfl rfl ?_
  repeat' (first|(refine gU ?_;first|(refine aP ?_;refine st (au rfl) rfl rfl ?_)|(refine aI ?_;refine st (aA rfl) rfl rfl ?_)|(refine gFA ?_;refine st (aB rfl) rfl rfl ?_)|(refine aU ?_;refine st (ak rfl (by rfl)) rfl rfl ?_)|(refine bG ?_;refine st (aG rfl rfl rfl) rfl rfl ?_)|(refine fK ?_;refine st (bK rfl) rfl rfl ?_)|(refine eY ?_;refine st (bY rfl rfl) rfl rfl ?_)|(refine kX ?_;refine st (jf rfl) rfl rfl ?_)|(refine BG ?_;refine st (jy rfl rfl) rfl rfl ?_)|(refine fC ?_;refine st (bC rfl rfl rfl (by exact hwi)) rfl rfl ?_)|(refine kD ?_;refine st (gI rfl) rfl rfl ?_))|(refine gG ?_;first|(refine gFA ?_;refine bP rfl (aB rfl) rfl rfl ?_)|(refine aU ?_;refine bP rfl (ak rfl (by rfl)) rfl rfl ?_)|(refine bG ?_;refine bP rfl (aG rfl rfl rfl) rfl rfl ?_)|(refine fK ?_;refine bP rfl (bK rfl) rfl rfl ?_))|refine aS ?_|refine aj ?_|refine ah ?_|refine bg ?_|refine kL ?_|refine nH ?_|refine dX ?_|refine aO ?_|refine aQ rfl ?_|refine aN rfl ?_)
  exact iF (.tmp rfl .nil) (.plain rfl rfl) ⟨rfl,rfl⟩
 refine aX 3 84 Try.func21 rfl rfl rfl rfl rfl ?_
 repeat' (first|(refine gU ?_;first|(refine aP ?_;refine st (au rfl) rfl rfl ?_)|(refine aI ?_;refine st (aA rfl) rfl rfl ?_)|(refine gFA ?_;refine st (aB rfl) rfl rfl ?_)|(refine aU ?_;refine st (ak rfl (by rfl)) rfl rfl ?_)|(refine bG ?_;refine st (aG rfl rfl rfl) rfl rfl ?_)|(refine fK ?_;refine st (bK rfl) rfl rfl ?_)|(refine eY ?_;refine st (bY rfl rfl) rfl rfl ?_)|(refine kX ?_;refine st (jf rfl) rfl rfl ?_)|(refine BG ?_;refine st (jy rfl rfl) rfl rfl ?_)|(refine fC ?_;refine st (bC rfl rfl rfl (by exact hwi)) rfl rfl ?_)|(refine kD ?_;refine st (gI rfl) rfl rfl ?_))|(refine gG ?_;first|(refine gFA ?_;refine bP rfl (aB rfl) rfl rfl ?_)|(refine aU ?_;refine bP rfl (ak rfl (by rfl)) rfl rfl ?_)|(refine bG ?_;refine bP rfl (aG rfl rfl rfl) rfl rfl ?_)|(refine fK ?_;refine bP rfl (bK rfl) rfl rfl ?_))|refine aS ?_|refine aj ?_|refine ah ?_|refine bg ?_|refine fH ?_|refine aW ?_|refine aO ?_|refine aN rfl ?_)
 refine iD (ι:=Nat) (fun i=>[(1,.pointer (some ⟨3,0,none⟩)),(3,.func (.func 57) #[] #[.pointer (some ⟨3,0,none⟩)]),(38,sl 1 S.f.length),(39,.int .i64 (S.f.length:Int)),(40,.int .i64 (i:Int))])
  (fun _=>[.ro (ints S.d),.ro (pc S.f),.ro (ints S.s),.rw (shL 0 1 2 S)]) (fun i=>S.f.length - i) (fun i=>i≤S.f.length∧∀ j,j<i→okP S j) 0 (by simp) (.same ⟨rfl,rfl,rfl,rfl,rfl,trivial⟩) ⟨by omega,fun j h=>by omega⟩ ?_
 intro i ⟨hi',hall⟩
 by_cases hil:i<S.f.length
 ·have hd2:dh [.ro (ints S.d),.ro (pc S.f),.ro (ints S.s),.rw (shL 0 1 2 S)] 1 (0+i*2) 2=some [.int .i64 (gf S.f i).1,.int .i64 (gf S.f i).2]:=lX (.inl rfl) hil
  have hw1:=Am (σ:=[.ro (ints S.d),.ro (pc S.f),.ro (ints S.s),.rw (shL 0 1 2 S),.rw [.int .i64 (gf S.f i).1,.int .i64 (gf S.f i).2]]) (S:=S) (n:=(gf S.f i).1) (p:=3) (x:=0) (y:=1) (z:=2) ⟨.inl rfl,.inl rfl,.inl rfl⟩ (.inr (.inl rfl)) hS rfl
  have hw2:=Am (σ:=[.ro (ints S.d),.ro (pc S.f),.ro (ints S.s),.rw (shL 0 1 2 S),.rw [.int .i64 (gf S.f i).1,.int .i64 (gf S.f i).2]]) (S:=S) (n:=(gf S.f i).2) (p:=3) (x:=0) (y:=1) (z:=2) ⟨.inl rfl,.inl rfl,.inl rfl⟩ (.inr (.inl rfl)) hS rfl
  have hh:=has59_ev (σ:=[.ro (ints S.d),.ro (pc S.f),.ro (ints S.s),.rw (shL 0 1 2 S),.rw [.int .i64 (gf S.f i).1,.int .i64 (gf S.f i).2]]) (f:=S.f.take i) (p:=gf S.f i) (x:=1) (o:=0) (c:=S.f.length) (n:=i) (by rw [List.length_take];omega) (prt_take (.inl rfl) hi') (by rw [List.length_take];omega) rfl
  by_cases b1:isW S (gf S.f i).1
  case neg =>
   have e:dG S=2:=by unfold dG;rw [if_neg e0,if_neg e1,if_neg (fun h=>b1 (h.1 i hil).1)]
   rw [e]
   repeat' (first|(refine gU ?_;first|(refine aP ?_;refine st (au rfl) rfl rfl ?_)|(refine aI ?_;refine st (aA rfl) rfl rfl ?_)|(refine aU ?_;refine st (aZ rfl (by assumption)) rfl rfl ?_)|(refine bG ?_;refine st (aG rfl rfl rfl) rfl rfl ?_)|(refine gIA ?_;refine st (bZ rfl rfl (by omega)) rfl rfl ?_)|(refine eP ?_;refine st (bQ rfl) rfl rfl ?_)|(refine cO ?_;refine stN (aJ rfl rfl rfl rfl (by rfl)) rfl ?_))|(refine fU ?_;first|(refine gZ ?_;refine frA (au rfl) rfl ?_)|(refine iH ?_;refine frA (ak rfl (by rfl)) rfl ?_)|(refine kW ?_;refine frA (bH rfl rfl) rfl ?_)|(refine vS ?_;refine frA (jf rfl) rfl ?_)|(refine fIA ?_;refine frA (bV rfl rfl (by omega) (by omega)) rfl ?_)|(refine mQ ?_;refine frA (bC rfl rfl rfl (by exact hw1)) rfl ?_))|(refine fG ?_;refine EK rfl rfl ?_)|(refine fD ⟨by kernel_rfl,?_⟩)|refine aS ?_|refine aj ?_|refine dH (by kernel_rfl) rfl ?_|refine ah ?_|refine bg ?_|refine kL ?_|refine nH ?_|refine aW ?_|refine dX ?_|refine aO ?_|refine aQ rfl ?_)
   exact iF (.tmp rfl .nil) (.plain rfl rfl) ⟨rfl,rfl⟩
  by_cases b2:isW S (gf S.f i).2
  case neg =>
   have e:dG S=2:=by unfold dG;rw [if_neg e0,if_neg e1,if_neg (fun h=>b2 (h.1 i hil).2.1)]
   rw [e]
   repeat' (first|(refine gU ?_;first|(refine aP ?_;refine st (au rfl) rfl rfl ?_)|(refine aI ?_;refine st (aA rfl) rfl rfl ?_)|(refine aU ?_;refine st (aZ rfl (by assumption)) rfl rfl ?_)|(refine bG ?_;refine st (aG rfl rfl rfl) rfl rfl ?_)|(refine gIA ?_;refine st (bZ rfl rfl (by omega)) rfl rfl ?_)|(refine eP ?_;refine st (bQ rfl) rfl rfl ?_)|(refine cO ?_;refine stN (aJ rfl rfl rfl rfl (by rfl)) rfl ?_))|(refine fU ?_;first|(refine gZ ?_;refine frA (au rfl) rfl ?_)|(refine iH ?_;refine frA (ak rfl (by rfl)) rfl ?_)|(refine kW ?_;first|refine frA (bH rfl rfl) rfl ?_|refine frA (bY rfl rfl) rfl ?_)|(refine vS ?_;refine frA (jf rfl) rfl ?_)|(refine fIA ?_;refine frA (bV rfl rfl (by omega) (by omega)) rfl ?_)|(refine mQ ?_;refine frA (bC rfl rfl rfl (by exact hw1)) rfl ?_))|(refine fG ?_;first|(refine gZ ?_;refine fE rfl (au rfl) rfl ?_)|(refine iH ?_;refine fE rfl (ak rfl (by rfl)) rfl ?_)|(refine vS ?_;refine fE rfl (jf rfl) rfl ?_)|(refine fIA ?_;refine fE rfl (bV rfl rfl (by omega) (by omega)) rfl ?_)|(refine mQ ?_;refine fE rfl (bC rfl rfl rfl (by exact hw2)) rfl ?_)|refine EK rfl rfl ?_)|(refine fD ⟨by kernel_rfl,?_⟩)|refine aS ?_|refine aj ?_|refine dH (by kernel_rfl) rfl ?_|refine ah ?_|refine bg ?_|refine kL ?_|refine nH ?_|refine aW ?_|refine dX ?_|refine aO ?_|refine aQ rfl ?_)
   exact iF (.tmp rfl .nil) (.plain rfl rfl) ⟨rfl,rfl⟩
  by_cases b3:gf S.f i ∈ S.f.take i
  ·have e:dG S=2:=by unfold dG;rw [if_neg e0,if_neg e1,if_neg (fun h=>by obtain ⟨k,h1,h2⟩:=(Jl hi').1 b3;exact (h.1 i hil).2.2 k h1 h2)]
   rw [e]
   repeat' (first|(refine gU ?_;first|(refine aP ?_;refine st (au rfl) rfl rfl ?_)|(refine aI ?_;refine st (aA rfl) rfl rfl ?_)|(refine aU ?_;refine st (aZ rfl (by assumption)) rfl rfl ?_)|(refine bG ?_;refine st (aG rfl rfl rfl) rfl rfl ?_)|(refine gIA ?_;refine st (bZ rfl rfl (by omega)) rfl rfl ?_)|(refine eP ?_;refine st (bQ rfl) rfl rfl ?_)|(refine cO ?_;refine stN (aJ rfl rfl rfl rfl (by rfl)) rfl ?_))|(refine fU ?_;first|(refine gZ ?_;refine frA (au rfl) rfl ?_)|(refine iH ?_;refine frA (ak rfl (by rfl)) rfl ?_)|(refine kW ?_;refine frA (bY rfl rfl) rfl ?_)|(refine vS ?_;refine frA (jf rfl) rfl ?_)|(refine fIA ?_;refine frA (bV rfl rfl (by omega) (by omega)) rfl ?_)|(refine mQ ?_;refine frA (bC rfl rfl rfl (by exact hw1)) rfl ?_))|(refine fG ?_;first|(refine gZ ?_;refine fE rfl (au rfl) rfl ?_)|(refine fFA ?_;refine fE rfl (aB rfl) rfl ?_)|(refine iH ?_;first|refine fE rfl (ak rfl (by rfl)) rfl ?_|refine fE rfl (aZ rfl (by rfl)) rfl ?_)|(refine vS ?_;refine fE rfl (jf rfl) rfl ?_)|(refine fIA ?_;refine fE rfl (bV rfl rfl (by omega) (by omega)) rfl ?_)|(refine Om ?_;refine fE rfl (zX rfl rfl (by omega)) rfl ?_)|(refine mQ ?_;refine fE rfl (bC rfl rfl rfl (by first|exact hw2|exact hh)) rfl ?_))|(refine fD ⟨by kernel_rfl,?_⟩)|refine aS ?_|refine aj ?_|refine dH (by kernel_rfl) rfl ?_|refine ah ?_|refine bg ?_|refine kL ?_|refine nH ?_|refine aW ?_|refine dX ?_|refine aO ?_|refine aQ rfl ?_)
   exact iF (.tmp rfl .nil) (.plain rfl rfl) ⟨rfl,rfl⟩
  ·repeat' (first|(refine gU ?_;first|(refine aP ?_;refine st (au rfl) rfl rfl ?_)|(refine aI ?_;refine st (aA rfl) rfl rfl ?_)|(refine aU ?_;refine st (aZ rfl (by assumption)) rfl rfl ?_)|(refine iw ?_;refine st (dF rfl rfl (by omega)) rfl rfl ?_)|(refine bG ?_;refine st (aG rfl rfl rfl) rfl rfl ?_)|(refine gIA ?_;refine st (bZ rfl rfl (by omega)) rfl rfl ?_)|(refine eP ?_;refine st (bQ rfl) rfl rfl ?_)|(refine cO ?_;refine stN (aJ rfl rfl rfl rfl (by rfl)) rfl ?_))|(refine fU ?_;first|(refine gZ ?_;refine frA (au rfl) rfl ?_)|(refine iH ?_;refine frA (ak rfl (by rfl)) rfl ?_)|(refine kW ?_;refine frA (bY rfl rfl) rfl ?_)|(refine vS ?_;refine frA (jf rfl) rfl ?_)|(refine fIA ?_;refine frA (bV rfl rfl (by omega) (by omega)) rfl ?_)|(refine mQ ?_;refine frA (bC rfl rfl rfl (by exact hw1)) rfl ?_))|(refine fG ?_;first|(refine gZ ?_;refine fE rfl (au rfl) rfl ?_)|(refine fFA ?_;refine fE rfl (aB rfl) rfl ?_)|(refine iH ?_;first|refine fE rfl (ak rfl (by rfl)) rfl ?_|refine fE rfl (aZ rfl (by rfl)) rfl ?_)|(refine vS ?_;refine fE rfl (jf rfl) rfl ?_)|(refine fIA ?_;refine fE rfl (bV rfl rfl (by omega) (by omega)) rfl ?_)|(refine Om ?_;refine fE rfl (zX rfl rfl (by omega)) rfl ?_)|(refine mQ ?_;refine fE rfl (bC rfl rfl rfl (by first|exact hw2|exact hh)) rfl ?_))|(refine fD ⟨by kernel_rfl,?_⟩)|refine aS ?_|refine aj ?_|refine dH (by kernel_rfl) rfl ?_|refine ah ?_|refine bg ?_|refine fH ?_|refine aW ?_|refine aO ?_|refine aQ rfl ?_|refine aN rfl ?_)
   refine ⟨rfl,i+1,⟨by omega,fun j hj=>?_⟩,by omega,bT.drop [.ro (ints S.d),.ro (pc S.f),.ro (ints S.s),.rw (shL 0 1 2 S)] _ (by simp) (hc4 S) (by (repeat' (first|exact trivial|exact ⟨rfl,rfl,rfl⟩|exact ⟨rfl,bM rfl,rfl⟩|refine ⟨?_,?_⟩)))⟩
   by_cases hji:j=i
   ·subst hji;exact ⟨b1,b2,fun k hk hq=>b3 ((Jl hi').2 ⟨k,hk,hq⟩)⟩
   ·exact hall j (by omega)
 have hF:okF S:=fun j hj=>hall j (by omega)
 repeat' (first|(refine gU ?_;first|(refine aP ?_;refine st (au rfl) rfl rfl ?_)|(refine aI ?_;refine st (aA rfl) rfl rfl ?_)|(refine gFA ?_;refine st (aB rfl) rfl rfl ?_)|(refine aU ?_;refine st (ak rfl (by rfl)) rfl rfl ?_)|(refine bG ?_;refine st (aG rfl rfl rfl) rfl rfl ?_)|(refine fK ?_;refine st (bK rfl) rfl rfl ?_))|refine aS ?_|refine aj ?_|refine ah ?_|refine bg ?_|refine jd ?_|refine eG rfl ?_|refine dW ?_|refine aO ?_|refine aN rfl ?_)
 refine iD (ι:=Nat) (fun i=>[(1,.pointer (some ⟨3,0,none⟩)),(3,.func (.func 57) #[] #[.pointer (some ⟨3,0,none⟩)]),(6,.int .i64 (if i=0 then -1 else gi S.s (i - 1))),(67,sl 2 S.s.length),(68,.int .i64 (S.s.length:Int)),(69,.int .i64 (i:Int))])
  (fun _=>[.ro (ints S.d),.ro (pc S.f),.ro (ints S.s),.rw (shL 0 1 2 S)]) (fun i=>S.s.length - i) (fun i=>i≤S.s.length∧∀ j,j<i→okQ S j) 0 (by simp) (.same ⟨rfl,rfl,rfl,rfl,rfl,rfl,trivial⟩) ⟨by omega,fun j h=>by omega⟩ ?_
 clear hil hall hi' i
 intro i ⟨hi',hall⟩
 by_cases hil:i<S.s.length
 ·have hcd:cZ [.ro (ints S.d),.ro (pc S.f),.ro (ints S.s),.rw (shL 0 1 2 S)] 2 i=some (.int .i64 (gi S.s i)):=gV hil
  have hw1:=Am (σ:=[.ro (ints S.d),.ro (pc S.f),.ro (ints S.s),.rw (shL 0 1 2 S)]) (S:=S) (n:=gi S.s i) (p:=3) (x:=0) (y:=1) (z:=2) ⟨.inl rfl,.inl rfl,.inl rfl⟩ (.inr (.inl rfl)) hS rfl
  generalize hL:(if i=0 then -1 else gi S.s (i - 1))=L
  have hQ0:okQ S i↔isW S (gi S.s i)∧¬ gi S.s i≤L:=by
   subst hL
   by_cases h0:i=0
   ·rw [if_pos h0];exact ⟨fun h=>⟨h.1,by have:=h.1.1;omega⟩,fun h=>⟨h.1,.inl h0⟩⟩
   ·rw [if_neg h0];exact ⟨fun h=>⟨h.1,by have:=h.2;omega⟩,fun h=>⟨h.1,.inr (by have:=h.2;omega)⟩⟩
  by_cases b1:gi S.s i≤L
  ·have e:dG S=2:=by unfold dG;rw [if_neg e0,if_neg e1,if_neg (fun h=>(hQ0.1 (h.2.1 i hil)).2 b1)]
   rw [e]
   repeat' (first|(refine gU ?_;first|(refine aP ?_;refine st (au rfl) rfl rfl ?_)|(refine aI ?_;refine st (aA rfl) rfl rfl ?_)|(refine aU ?_;refine st (ak rfl (by assumption)) rfl rfl ?_)|(refine bG ?_;refine st (aG rfl rfl rfl) rfl rfl ?_)|(refine eY ?_;refine st (bH rfl rfl) rfl rfl ?_)|(refine gIA ?_;refine st (gJ rfl rfl (by omega)) rfl rfl ?_))|(refine gG ?_;refine nU rfl rfl ?_)|refine aS ?_|refine aj ?_|refine ah ?_|refine bg ?_|refine kL ?_|refine nH ?_|refine aW ?_|refine dX ?_|refine aO ?_|refine aQ rfl ?_)
   exact iF (.tmp rfl .nil) (.plain rfl rfl) ⟨rfl,rfl⟩
  by_cases b2:isW S (gi S.s i)
  ·repeat' (first|(refine gU ?_;first|(refine aP ?_;refine st (au rfl) rfl rfl ?_)|(refine aI ?_;refine st (aA rfl) rfl rfl ?_)|(refine aU ?_;refine st (ak rfl (by assumption)) rfl rfl ?_)|(refine iw ?_;refine st (dF rfl rfl (by omega)) rfl rfl ?_)|(refine bG ?_;refine st (aG rfl rfl rfl) rfl rfl ?_)|(refine eY ?_;refine st (bY rfl rfl) rfl rfl ?_)|(refine gIA ?_;refine st (gJ rfl rfl (by omega)) rfl rfl ?_))|(refine gG ?_;first|(refine aP ?_;refine bP rfl (au rfl) rfl rfl ?_)|(refine kX ?_;refine bP rfl (jf rfl) rfl rfl ?_)|(refine fC ?_;refine bP rfl (bC rfl rfl rfl (by exact hw1)) rfl rfl ?_))|refine aS ?_|refine aj ?_|refine ah ?_|refine bg ?_|refine fH ?_|refine aW ?_|refine aO ?_|refine aQ rfl ?_|refine aN rfl ?_)
   refine ⟨rfl,i+1,⟨by omega,fun j hj=>?_⟩,by omega,.same ⟨rfl,rfl,rfl,rfl,rfl,rfl,trivial⟩⟩
   by_cases hji:j=i
   ·subst hji;exact hQ0.2 ⟨b2,b1⟩
   ·exact hall j (by omega)
  ·have e:dG S=2:=by unfold dG;rw [if_neg e0,if_neg e1,if_neg (fun h=>b2 (h.2.1 i hil).1)]
   rw [e]
   repeat' (first|(refine gU ?_;first|(refine aP ?_;refine st (au rfl) rfl rfl ?_)|(refine aI ?_;refine st (aA rfl) rfl rfl ?_)|(refine aU ?_;refine st (ak rfl (by assumption)) rfl rfl ?_)|(refine bG ?_;refine st (aG rfl rfl rfl) rfl rfl ?_)|(refine eY ?_;refine st (bY rfl rfl) rfl rfl ?_)|(refine gIA ?_;refine st (gJ rfl rfl (by omega)) rfl rfl ?_))|(refine gG ?_;first|(refine aP ?_;refine bP rfl (au rfl) rfl rfl ?_)|(refine kX ?_;refine bP rfl (jf rfl) rfl rfl ?_)|(refine fC ?_;refine bP rfl (bC rfl rfl rfl (by exact hw1)) rfl rfl ?_))|refine aS ?_|refine aj ?_|refine ah ?_|refine bg ?_|refine kL ?_|refine nH ?_|refine aW ?_|refine dX ?_|refine aO ?_|refine aQ rfl ?_)
   exact iF (.tmp rfl .nil) (.plain rfl rfl) ⟨rfl,rfl⟩
 have hQ:okS S:=fun j hj=>hall j (by omega)
 have e:dG S=0:=by unfold dG;rw [if_neg e0,if_neg e1,if_pos ⟨hF,hQ,by omega⟩]
 rw [e]
 repeat' (first|(refine gU ?_;first|(refine aI ?_;refine st (aA rfl) rfl rfl ?_)|(refine bG ?_;refine st (aG rfl rfl rfl) rfl rfl ?_))|refine aS ?_|refine aj ?_|refine ah ?_|refine bg ?_|refine jd ?_|refine eG rfl ?_|refine dW ?_|refine dX ?_|refine aN rfl ?_)
 exact iF (.tmp rfl .nil) (.plain rfl rfl) ⟨rfl,rfl⟩
theorem Nb {σ:Heap} {S:Shp} {x y z:Nat} {v:Value} (h:SAt σ x y z S) (hv:ShS x y z S v) (hS:S.fit) (hni:σ.all (fun o=>!dB o)=true) :
  Ev Try.prog 21 [v] σ (.int .i64 (dG S)) σ:=Ev.arrs S.css [x,y,z] (Na S hS) h.arrs ⟨hv,trivial⟩ S.css_plain rfl hni
end Go.Proofs.Ytomioaiojidnbaa
namespace Go.AH.Dust
open Go Go.AH
def rx (r:Nat→Int):List Value:=[.int .i64 (r 0),.int .i64 (r 1),.int .i64 (r 2),.int .i64 (r 3),.int .i64 (r 4),.int .i64 (r 5),.int .i64 (r 6),.int .i64 (r 7),.int .i64 (r 8),.int .i64 (r 9)]
theorem uQ {f g:Nat→Int} (h:∀ j<10,f j=g j):rx f=rx g:=by
 simp only [rx,h 0 (by omega),h 1 (by omega),h 2 (by omega),h 3 (by omega),h 4 (by omega),h 5 (by omega),h 6 (by omega),h 7 (by omega),h 8 (by omega),h 9 (by omega)]
theorem iI (f:Nat→Int):gy (rx f)=true:=rfl
theorem qP {f:Nat→Int}:∀ {b:Nat},b<10→(rx f)[b]?=some (.int .i64 (f b))
 |0,_=>rfl|1,_=>rfl|2,_=>rfl|3,_=>rfl|4,_=>rfl|5,_=>rfl|6,_=>rfl|7,_=>rfl|8,_=>rfl|9,_=>rfl
theorem Bj (f:Nat→Int):Ac f 10 (rx f).toArray:=fun _i hi=>qP hi
def kF (f:Nat→Int) (b:Nat) (v:Int) (i:Nat):Int:=if i=b then v else f i
theorem Ap {f:Nat→Int} {v:Int}:∀ {b:Nat},b<10→splice (rx f) b [.int .i64 v]=rx (kF f b v)
 |0,_=>rfl|1,_=>rfl|2,_=>rfl|3,_=>rfl|4,_=>rfl|5,_=>rfl|6,_=>rfl|7,_=>rfl|8,_=>rfl|9,_=>rfl
abbrev flL (x y z:Nat) (S:Shp) (r:Nat→Int):List Value:=sl x S.d.length::sl y S.f.length::sl z S.s.length::rx r
theorem PD {x y z:Nat} {S:Shp} {f:Nat→Int} {v:Int}:∀ {b:Nat},b<10→splice (flL x y z S f) (3+b) [.int .i64 v]=flL x y z S (kF f b v)
 |0,_=>rfl|1,_=>rfl|2,_=>rfl|3,_=>rfl|4,_=>rfl|5,_=>rfl|6,_=>rfl|7,_=>rfl|8,_=>rfl|9,_=>rfl
theorem G9 {x y z:Nat} {S:Shp} {f:Nat→Int}:∀ {b:Nat},b<10→(flL x y z S f)[3+b]?=some (.int .i64 (f b))
 |0,_=>rfl|1,_=>rfl|2,_=>rfl|3,_=>rfl|4,_=>rfl|5,_=>rfl|6,_=>rfl|7,_=>rfl|8,_=>rfl|9,_=>rfl
theorem bI_inj {a b:Bool} (h:bI a=bI b):a=b:=by cases a <;> cases b <;> simp_all [bI]
def setB (r:Nat→Bool) (b:Nat) (v:Bool) (i:Nat):Bool:=if i=b then v else r i
theorem He (r:Nat→Bool) (b:Nat) (v:Bool):kF (fun i=>bI (r i)) b (bI v)=fun i=>bI (setB r b v i):=by
 funext i;unfold kF setB;by_cases h:i=b
 ·rw [if_pos h,if_pos h]
 ·rw [if_neg h,if_neg h]
inductive Rch (S:Shp):Int→Prop
 |first {n:Int} (h:n ∈ S.s):Rch S n
 |next {a b:Int} (h:Rch S a) (hf:(a,b) ∈ S.f):Rch S b
open Classical in
noncomputable def rB (S:Shp) (i:Nat):Bool:=decide (Rch S i)
theorem lQ {S:Shp} {i:Nat}:rB S i=true↔Rch S i:=by unfold rB;exact @decide_eq_true_iff _ (Classical.propDecidable _)
theorem ok_fst {S:Shp} (h:S.ok) {n:Int} (hn:n ∈ S.s):isW S n:=by
 obtain ⟨i,h1,h2⟩:=kQ.1 hn
 rw [← h2];exact (h.s i h1).1
theorem rE {S:Shp} (h:S.ok) {a b:Int} (hn:(a,b) ∈ S.f):isW S a∧isW S b:=by
 obtain ⟨i,h1,h2⟩:=jW.1 hn
 obtain ⟨u,v,-⟩:=h.f i h1
 rw [h2] at u v;exact ⟨u,v⟩
theorem lY {S:Shp} (h:S.ok) {n:Int} (hr:Rch S n):isW S n:=by
 cases hr with
 |first hn=>exact ok_fst h hn
 |next _ hf=>exact (rE h hf).2
theorem rB_of {S:Shp} (_hS:S.ok) {r:Nat→Bool} (h1:∀ i,r i=true→Rch S i) (h2:∀ n ∈ S.s,r n.toNat=true) (h3:∀ p ∈ S.f,r p.1.toNat=true→r p.2.toNat=true):r=rB S:=by
 have key:∀ n:Int,Rch S n→r n.toNat=true:=fun n hn=>by
  induction hn with
  |first h=>exact h2 _ h
  |next h hf ih=>exact h3 _ hf ih
 funext i
 cases hb:rB S i with
 |true=>simpa using key i (lQ.1 hb)
 |false =>
  cases hr:r i with
  |false=>rfl
  |true=>rw [lQ.2 (h1 i hr)] at hb;cases hb
def uS (r:Nat→Bool):Nat→Nat
 |0=>0
 |k+1=>uS r k+if r k then 1 else 0
theorem xG (r:Nat→Bool):∀ k,uS r k≤k
 |0=>Nat.le_refl _
 |k+1=>by have:=xG r k;simp only [uS];split <;> omega
theorem Fz {r q:Nat→Bool} (h:∀ i,r i=true→q i=true):∀ k,uS r k≤uS q k
 |0=>Nat.le_refl _
 |k+1=>by
  have ih:=Fz h k
  simp only [uS]
  cases hr:r k with
  |false=>simp;omega
  |true=>rw [h k hr];omega
theorem Nc {r q:Nat→Bool} (h:∀ i,r i=true→q i=true):∀ {k i},i<k→r i ≠ q i→uS r k<uS q k
 |0,_,hi,_=>by omega
 |k+1,i,hi,hne=>by
  simp only [uS]
  by_cases hik:i=k
  ·subst hik
   have hm:=Fz h i
   cases hr:r i with
   |false =>
    cases hq:q i with
    |false=>rw [hr,hq] at hne;exact absurd rfl hne
    |true=>simp;omega
   |true=>rw [hr,h i hr] at hne;exact absurd rfl hne
  ·have ih:=Nc h (k:=k) (i:=i) (by omega) hne
   cases hr:r k with
   |false=>simp;omega
   |true=>rw [h k hr];omega
theorem hc5 (S:Shp) (f:Nat→Int):eX 5 [.ro (ints S.d),.ro (pc S.f),.ro (ints S.s),.rw (shL 0 1 2 S),.rw (flL 0 1 2 S f)]:=by
 obtain ⟨a,b⟩:=iq (n:=5) (x:=0) (y:=1) (z:=2) (S:=S) (by omega) (by omega) (by omega)
 refine ⟨ay (aK _),ay (dJ _),ay (aK _),⟨a,b⟩,?_,trivial⟩
 simp only [dR,okL,Bool.and_eq_true] at a b
 exact ⟨by simp only [dR,a,Bool.true_and];exact (ay (iI f)).1,by simp only [okL,b,Bool.true_and];exact (ay (n:=0) (iI f)).2⟩
theorem hc6 (S:Shp) (f g:Nat→Int):eX 6 [.ro (ints S.d),.ro (pc S.f),.ro (ints S.s),.rw (shL 0 1 2 S),.rw (flL 0 1 2 S f),.rw (rx g)]:=by
 obtain ⟨a,b⟩:=iq (n:=6) (x:=0) (y:=1) (z:=2) (S:=S) (by omega) (by omega) (by omega)
 refine ⟨ay (aK _),ay (dJ _),ay (aK _),⟨a,b⟩,?_,ay (iI _),trivial⟩
 simp only [dR,okL,Bool.and_eq_true] at a b
 exact ⟨by simp only [dR,a,Bool.true_and];exact (ay (iI f)).1,by simp only [okL,b,Bool.true_and];exact (ay (n:=0) (iI f)).2⟩
theorem Hf {σ:Heap} {n i p:Nat} {π:Rho} {S:Shp} {f:Nat→Int} (hi:π i=⟨p,0,0⟩) (h:σ[p]?=some (.rw (flL 0 1 2 S f))) (hπ:∀ i<3,π i=⟨i,0,0⟩) (hn:3≤n):qU σ n π (π i) (.rw (flL 0 1 2 S f)):=by
 refine .inr ⟨by rw [hi],flL 0 1 2 S f,.inl (by rw [hi];exact h),Nat.le_refl _,fun a ha ha'=>?_⟩
 match a,ha with
 |0,_=>exact gu (by omega) (hπ 0 (by omega)) (Nat.le_refl _)
 |1,_=>exact gu (by omega) (hπ 1 (by omega)) (Nat.le_refl _)
 |2,_=>exact gu (by omega) (hπ 2 (by omega)) (Nat.le_refl _)
 |a+3,ha=>exact iG _ (iI f) a (by simpa using ha)
end Go.AH.Dust
namespace Go.Proofs.Ytomioaiojidnbaa
open Go Go.AH
attribute [local irreducible] dO dI dM kK iM gK iC dV iJ dQ iK iE
set_option maxRecDepth 100000
set_option maxHeartbeats 1000000
open Go.AH.Dust
theorem newFloor_ok (S:Shp) (hS:S.ok):Ev Try.prog 77 [shV 0 1 2 S] S.hp (.pointer (some ⟨3,0,none⟩)) (S.hp++[.rw (flL 0 1 2 S (fun i=>bI (rB S i)))]):=by
 have n1:=hS.n10
 have n2:=hS.f60
 have n3:=hS.s10
 refine aX 3 66 Try.func77 rfl rfl rfl rfl rfl ?_
 repeat' (first|(refine gU ?_;first|(refine aP ?_;refine st (au rfl) rfl rfl ?_)|(refine aI ?_;refine st (aA rfl) rfl rfl ?_)|(refine gFA ?_;refine st (aB rfl) rfl rfl ?_)|(refine aU ?_;first|refine st (ak rfl (by rfl)) rfl rfl ?_|refine st (aZ rfl (by rfl)) rfl rfl ?_)|(refine fK ?_;refine st (bK rfl) rfl rfl ?_)|(refine gNil ?_;refine st (iR rfl) rfl rfl ?_)|(refine uf ?_;refine st (jK (by rfl) rfl (by rfl)) rfl rfl ?_)|(refine Oj ?_;refine st (ER rfl) rfl rfl ?_)|(refine kD ?_;refine st (gI rfl) rfl rfl ?_)|(refine gClear ?_;refine stN (IJ (by rfl) (by rfl) rfl (by omega) (by rfl) (by rfl)) rfl ?_))|refine aS ?_|refine aj ?_|refine ah ?_|refine bg ?_|refine aO ?_)
 refine iD (ι:=Nat×(Nat→Bool)) (fun k=>[(1,.pointer (some ⟨3,0,none⟩)),(3,.pointer (some ⟨4,0,none⟩)),(17,sl 2 S.s.length),(18,.int .i64 (S.s.length:Int)),(19,.int .i64 (k.1:Int))])
  (fun k=>[.ro (ints S.d),.ro (pc S.f),.ro (ints S.s),.rw (shL 0 1 2 S),.rw (flL 0 1 2 S (fun i=>bI (k.2 i)))]) (fun k=>S.s.length - k.1) (fun k=>k.1≤S.s.length∧(∀ i,k.2 i=true→Rch S i)∧∀ j,j<k.1→k.2 (gi S.s j).toNat=true) (0,fun _=>false) (by simp) (.same ⟨rfl,rfl,rfl,rfl,rfl,trivial⟩) ⟨Nat.zero_le _,fun i (h:false=true)=>(by cases h),fun j (h:j<0)=>absurd h (Nat.not_lt_zero _)⟩ ?_
 rintro ⟨k,r⟩ ⟨hk,hr1,hr2⟩
 simp only at hk hr1 hr2 ⊢
 by_cases hkl:k<S.s.length
 ·have hcd:cZ [.ro (ints S.d),.ro (pc S.f),.ro (ints S.s),.rw (shL 0 1 2 S),.rw (flL 0 1 2 S (fun i=>bI (r i)))] 2 k=some (.int .i64 (gi S.s k)):=gV hkl
  have hw:=(hS.s k hkl).1
  have hb:(gi S.s k).toNat<10:=by omega
  have hput:=sO (σ:=[.ro (ints S.d),.ro (pc S.f),.ro (ints S.s),.rw (shL 0 1 2 S),.rw (flL 0 1 2 S (fun i=>bI (r i)))]) (b:=4) (o:=3+(gi S.s k).toNat*1) (cs':=flL 0 1 2 S (fun i=>bI (setB r (gi S.s k).toNat true i))) (vs:=[.int .i64 1]) rfl (by simp [flL,rx];omega) (by simp [flL]) (by rw [Nat.mul_one,← He];exact PD hb)
  repeat' (first|(refine gU ?_;first|(refine aP ?_;refine st (au rfl) rfl rfl ?_)|(refine aI ?_;refine st (aA rfl) rfl rfl ?_)|(refine gFA ?_;refine st (aB rfl) rfl rfl ?_)|(refine aU ?_;refine st (ak rfl (by assumption)) rfl rfl ?_)|(refine iw ?_;refine st (dF rfl rfl (by omega)) rfl rfl ?_)|(refine bG ?_;refine st (aG rfl rfl rfl) rfl rfl ?_)|(refine gNil ?_;refine st (iR rfl) rfl rfl ?_)|(refine gIA ?_;first|refine st (gJ rfl rfl (by omega)) rfl rfl ?_|refine st (bV rfl rfl (by omega) (by omega)) rfl rfl ?_)|(refine cO ?_;refine stN (aJ rfl rfl rfl rfl (by exact hput)) rfl ?_))|refine aS ?_|refine aj ?_|refine ah ?_|refine bg ?_|refine fH ?_|refine aW ?_|refine aO ?_|refine aQ rfl ?_)
  refine ⟨rfl,(k+1,setB r (gi S.s k).toNat true),⟨by simp only;omega,fun i hi=>?_,fun j hj=>?_⟩,by simp only;omega,.same ⟨rfl,rfl,rfl,rfl,rfl,trivial⟩⟩
  ·simp only [setB] at hi
   by_cases h:i=(gi S.s k).toNat
   ·have:(i:Int)=gi S.s k:=by omega
    rw [this];exact .first (kQ.2 ⟨k,hkl,rfl⟩)
   ·rw [if_neg h] at hi;exact hr1 i hi
  ·simp only [setB]
   by_cases h:(gi S.s j).toNat=(gi S.s k).toNat
   ·rw [if_pos h]
   ·rw [if_neg h];exact hr2 j (by
     simp only at hj
     by_cases hjk:j=k
     ·subst hjk;exact absurd rfl h
     ·omega)
 have hr3:∀ n ∈ S.s,r n.toNat=true:=fun n hn=>by
  obtain ⟨j,h1,h2⟩:=kQ.1 hn
  rw [← h2];exact hr2 j (by omega)
 repeat' (first|(refine gU ?_;(refine bG ?_;refine st (aG rfl rfl rfl) rfl rfl ?_))|refine aS ?_|refine aj ?_|refine ah ?_|refine bg ?_|refine jd ?_|refine eG rfl ?_|refine dW ?_|refine aO ?_|refine aN rfl ?_)
 refine iD (ι:=Nat→Bool) (fun _=>[(1,.pointer (some ⟨3,0,none⟩)),(3,.pointer (some ⟨4,0,none⟩))])
  (fun r=>[.ro (ints S.d),.ro (pc S.f),.ro (ints S.s),.rw (shL 0 1 2 S),.rw (flL 0 1 2 S (fun i=>bI (r i)))]) (fun r=>10 - uS r 10) (fun r=>(∀ i,r i=true→Rch S i)∧∀ n ∈ S.s,r n.toNat=true) r (by simp) (.same ⟨rfl,rfl,trivial⟩) ⟨hr1,hr3⟩ ?_
 clear hkl hr1 hr2 hr3 hk k r
 rintro r ⟨hr1,hr3⟩
 repeat' (first|(refine gU ?_;first|(refine aP ?_;refine st (au rfl) rfl rfl ?_)|(refine gFA ?_;refine st (aB rfl) rfl rfl ?_)|(refine aU ?_;first|refine st (ak rfl (by rfl)) rfl rfl ?_|refine st (aZ rfl (by rfl)) rfl rfl ?_)|(refine fK ?_;refine st (bK rfl) rfl rfl ?_)|(refine gNil ?_;refine st (iR rfl) rfl rfl ?_)|(refine eP ?_;refine st (bQ rfl) rfl rfl ?_)|(refine cO ?_;refine stN (aJ rfl rfl rfl rfl (by rfl)) rfl ?_))|refine aS ?_|refine aj ?_|refine ah ?_|refine bg ?_|refine aO ?_)
 refine iD (ι:=Nat×(Nat→Bool)) (fun k=>[(1,.pointer (some ⟨3,0,none⟩)),(3,.pointer (some ⟨4,0,none⟩)),(6,.pointer (some ⟨5,0,none⟩)),(34,sl 1 S.f.length),(35,.int .i64 (S.f.length:Int)),(36,.int .i64 (k.1:Int))])
  (fun k=>[.ro (ints S.d),.ro (pc S.f),.ro (ints S.s),.rw (shL 0 1 2 S),.rw (flL 0 1 2 S (fun i=>bI (k.2 i))),.rw (rx (fun i=>bI (r i)))]) (fun k=>S.f.length - k.1) (fun k=>k.1≤S.f.length∧(∀ i,k.2 i=true→Rch S i)∧(∀ i,r i=true→k.2 i=true)∧∀ j,j<k.1→r (gf S.f j).1.toNat=true→k.2 (gf S.f j).2.toNat=true) (0,r) (by simp) (.same ⟨rfl,rfl,rfl,rfl,rfl,rfl,trivial⟩) ⟨Nat.zero_le _,hr1,fun i h=>h,fun j (h:j<0)=>absurd h (Nat.not_lt_zero _)⟩ ?_
 rintro ⟨k,q⟩ ⟨hk,hq1,hq2,hq3⟩
 simp only at hk hq1 hq2 hq3 ⊢
 by_cases hkl:k<S.f.length
 ·have hd2:dh [.ro (ints S.d),.ro (pc S.f),.ro (ints S.s),.rw (shL 0 1 2 S),.rw (flL 0 1 2 S (fun i=>bI (q i))),.rw (rx (fun i=>bI (r i)))] 1 (0+k*2) 2=some [.int .i64 (gf S.f k).1,.int .i64 (gf S.f k).2]:=lX (.inl rfl) hkl
  obtain ⟨hw1,hw2,-⟩:=hS.f k hkl
  have hmem:gf S.f k ∈ S.f:=jW.2 ⟨k,hkl,rfl⟩
  have hall:∀ j,j<k+1→j=k∨j<k:=fun j hj=>by omega
  generalize hgen:gf S.f k=p at *
  obtain ⟨a,b⟩:=p
  simp only at hw1 hw2
  have ha:a.toNat<10:=by omega
  have hb:b.toNat<10:=by omega
  have hc1:cZ [.ro (ints S.d),.ro (pc S.f),.ro (ints S.s),.rw (shL 0 1 2 S),.rw (flL 0 1 2 S (fun i=>bI (q i))),.rw (rx (fun i=>bI (r i))),.rw [.int .i64 a,.int .i64 b]] 4 (3+a.toNat*1)=some (.int .i64 (bI (q a.toNat))):=by
   rw [Nat.mul_one];exact G9 (f:=fun i=>bI (q i)) ha
  have hc2:cZ [.ro (ints S.d),.ro (pc S.f),.ro (ints S.s),.rw (shL 0 1 2 S),.rw (flL 0 1 2 S (fun i=>bI (q i))),.rw (rx (fun i=>bI (r i))),.rw [.int .i64 a,.int .i64 b]] 4 (3+b.toNat*1)=some (.int .i64 (bI (q b.toNat))):=by
   rw [Nat.mul_one];exact G9 (f:=fun i=>bI (q i)) hb
  have hput:=sO (σ:=[.ro (ints S.d),.ro (pc S.f),.ro (ints S.s),.rw (shL 0 1 2 S),.rw (flL 0 1 2 S (fun i=>bI (q i))),.rw (rx (fun i=>bI (r i))),.rw [.int .i64 a,.int .i64 b]]) (b:=4) (o:=3+b.toNat*1) (cs':=flL 0 1 2 S (fun i=>bI (setB q b.toNat (q b.toNat || q a.toNat) i))) (vs:=[.int .i64 (bI (q b.toNat || q a.toNat))]) rfl (by simp [flL,rx];omega) (by simp [flL]) (by rw [Nat.mul_one,← He];exact PD hb)
  repeat' (first|(refine gU ?_;first|(refine aP ?_;refine st (au rfl) rfl rfl ?_)|(refine aU ?_;refine st (aZ rfl (by assumption)) rfl rfl ?_)|(refine iw ?_;refine st (dF rfl rfl (by omega)) rfl rfl ?_)|(refine bG ?_;refine st (aG rfl rfl rfl) rfl rfl ?_)|(refine gIA ?_;refine st (bZ rfl rfl (by omega)) rfl rfl ?_)|(refine eP ?_;refine st (bQ rfl) rfl rfl ?_)|(refine cO ?_;refine stN (aJ rfl rfl rfl rfl (by first|exact hput|rfl)) rfl ?_))|(refine fU ?_;first|refine frA (Oh rfl rfl) rfl ?_|(refine gZ ?_;refine frA (au rfl) rfl ?_)|(refine fFA ?_;refine frA (aB rfl) rfl ?_)|(refine iH ?_;refine frA (ak rfl (by first|rfl|assumption)) rfl ?_)|(refine Gn ?_;refine frA (iR rfl) rfl ?_)|(refine fIA ?_;refine frA (bV rfl rfl (by omega) (by omega)) rfl ?_))|(refine fD ⟨by kernel_rfl,?_⟩)|refine aS ?_|refine aj ?_|refine dH (by kernel_rfl) rfl ?_|refine ah ?_|refine bg ?_|refine fH ?_|refine aW ?_|refine aO ?_|refine aQ rfl ?_)
  refine ⟨rfl,(k+1,setB q b.toNat (q b.toNat || q a.toNat)),⟨by simp only;omega,fun i hi=>?_,fun i hi=>?_,fun j hj hra=>?_⟩,by simp only;omega,bT.drop [.ro (ints S.d),.ro (pc S.f),.ro (ints S.s),.rw (shL 0 1 2 S),.rw (flL 0 1 2 S (fun i=>bI (setB q b.toNat (q b.toNat || q a.toNat) i))),.rw (rx (fun i=>bI (r i)))] [_] (by simp) (hc6 S _ _) (by (repeat' (first|exact trivial|exact ⟨rfl,rfl,rfl⟩|exact ⟨rfl,bM rfl,rfl⟩|refine ⟨?_,?_⟩)))⟩
  ·simp only [setB] at hi
   by_cases h:i=b.toNat
   ·rw [if_pos h] at hi
    have e:(i:Int)=b:=by omega
    rcases Bool.or_eq_true_iff.1 hi with h1|h1
    ·have:=hq1 _ h1;rwa [← h] at this
    ·have:=hq1 _ h1
     rw [show ((a.toNat:Nat):Int)=a by omega] at this
     rw [e];exact .next this hmem
   ·rw [if_neg h] at hi;exact hq1 i hi
  ·simp only [setB]
   by_cases h:i=b.toNat
   ·rw [if_pos h,← h,hq2 i hi];rfl
   ·rw [if_neg h];exact hq2 i hi
  ·simp only [setB]
   rcases hall j hj with hjk|hjk
   ·subst hjk
    rw [hgen] at hra ⊢
    simp only at hra ⊢
    simp [hq2 _ hra]
   ·have:=hq3 j hjk hra
    by_cases h:(gf S.f j).2.toNat=b.toNat
    ·rw [if_pos h,← h,this];rfl
    ·rw [if_neg h];exact this
 obtain rfl:k=S.f.length:=by omega
 have hd3:dh [.ro (ints S.d),.ro (pc S.f),.ro (ints S.s),.rw (shL 0 1 2 S),.rw (flL 0 1 2 S (fun i=>bI (q i))),.rw (rx (fun i=>bI (r i)))] 4 (0+3) 10=some (rx (fun i=>bI (q i))):=rfl
 have hd4:dh [.ro (ints S.d),.ro (pc S.f),.ro (ints S.s),.rw (shL 0 1 2 S),.rw (flL 0 1 2 S (fun i=>bI (q i))),.rw (rx (fun i=>bI (r i)))] 5 0 10=some (rx (fun i=>bI (r i))):=rfl
 by_cases hq:∀ i ∈ List.range 10,bI (q i)=bI (r i)
 ·have e:q=rB S:=rB_of hS hq1 (fun n hn=>hq2 _ (hr3 n hn)) fun p hp hpa=>by
   obtain ⟨j,h1,h2⟩:=jW.1 hp
   obtain ⟨w1,w2,-⟩:=hS.f j h1
   have h3:=hq3 j h1
   rw [h2] at h3 w1 w2
   exact h3 (by rw [← bI_inj (hq p.1.toNat (List.mem_range.2 (by omega)))];exact hpa)
  subst e
  repeat' (first|(refine gU ?_;first|(refine aP ?_;refine st (au rfl) rfl rfl ?_)|(refine aI ?_;refine st (aA rfl) rfl rfl ?_)|(refine bG ?_;refine st (aG rfl rfl rfl) rfl rfl ?_))|(refine fU ?_;first|refine frA (nJ rfl rfl rfl rfl rfl (Bj _) (Bj _)) rfl ?_|(refine gZ ?_;refine frA (au rfl) rfl ?_)|(refine fFA ?_;refine frA (aB rfl) rfl ?_)|(refine iH ?_;refine frA (aZ rfl (by first|exact hd3|exact hd4)) rfl ?_)|(refine Gn ?_;refine frA (iR rfl) rfl ?_))|(refine fD ⟨by kernel_rfl,?_⟩)|refine aS ?_|refine aj ?_|refine dH (by kernel_rfl) rfl ?_|refine ah ?_|refine bg ?_|refine kL ?_|refine jd ?_|refine nH ?_|refine eG rfl ?_|refine dW ?_|refine dX ?_|refine aQ rfl ?_|refine aN rfl ?_)
  exact iF (.tmp rfl .nil) (dQ.src (σin:=S.hp) [.rw (flL 0 1 2 S (fun i=>bI (rB S i)))] [4] rfl rfl rfl ⟨Hf (p:=4) rfl rfl (fun i hi=>(aY hi:je 3 [4] i=⟨i,0,0⟩)) (by simp),trivial⟩ (VQ.ptr (q:=true) (n:=4) (ρ:=je 3 [4]) 3 0 (by omega))) ⟨rfl,rfl⟩
 ·have hne:∃ i,i<10∧r i ≠ q i:=Classical.byContradiction fun hn=>hq fun i hi=>by
   rw [Classical.byContradiction fun h:¬ r i=q i=>hn ⟨i,List.mem_range.1 hi,h⟩]
  obtain ⟨i,hi,hne⟩:=hne
  have hlt:=Nc hq2 hi hne
  have hle:=xG q 10
  repeat' (first|(refine gU ?_;(refine bG ?_;refine st (aG rfl rfl rfl) rfl rfl ?_))|(refine fU ?_;first|refine frA (nJ rfl rfl rfl rfl rfl (Bj _) (Bj _)) rfl ?_|(refine gZ ?_;refine frA (au rfl) rfl ?_)|(refine fFA ?_;refine frA (aB rfl) rfl ?_)|(refine iH ?_;refine frA (aZ rfl (by first|exact hd3|exact hd4)) rfl ?_)|(refine Gn ?_;refine frA (iR rfl) rfl ?_))|(refine fD ⟨by kernel_rfl,?_⟩)|refine aS ?_|refine aj ?_|refine dH (by kernel_rfl) rfl ?_|refine ah ?_|refine bg ?_|refine jd ?_|refine fH ?_|refine eG rfl ?_|refine aW ?_|refine dW ?_|refine aN rfl ?_)
  exact ⟨rfl,q,⟨hq1,fun n hn=>hq2 _ (hr3 n hn)⟩,by omega,bT.drop [.ro (ints S.d),.ro (pc S.f),.ro (ints S.s),.rw (shL 0 1 2 S),.rw (flL 0 1 2 S (fun i=>bI (q i)))] [_] (by simp) (hc5 S _) (by (repeat' (first|exact trivial|exact ⟨rfl,rfl,rfl⟩|refine ⟨?_,?_⟩)))⟩
end Go.Proofs.Ytomioaiojidnbaa
namespace Go.AH.Dust
open Go Go.AH
theorem KT {ρ:Rho} {x y z a b c:Nat} {S:Shp} {r:Nat→Int} (h1:ρ x=⟨a,0,0⟩) (h2:ρ y=⟨b,0,0⟩) (h3:ρ z=⟨c,0,0⟩):vP ρ (flL x y z S r)=flL a b c S r:=by
 simp only [flL,vP,ren,h1,h2,h3,lu _ (iI r)]
structure FAt (σ:Heap) (p x y z:Nat) (S:Shp) (r:Nat→Int):Prop where
 fl:jL σ p (flL x y z S r)
 sh:SAt σ x y z S
def D9 (S:Shp) (r:Nat→Int):List (List Value):=[flL 1 2 3 S r,ints S.d,pc S.f,ints S.s]
def fBs (p x y z:Nat) (S:Shp) (r:Nat→Int):List (Nat×List Value):=[(p,flL x y z S r),(x,ints S.d),(y,pc S.f),(z,ints S.s)]
theorem FAt.cells {σ:Heap} {p x y z:Nat} {S:Shp} {r:Nat→Int} (h:FAt σ p x y z S r) {bs:List (Nat×List Value)} {rest:List (List Value)} (hr:Dp σ (D9 S r++rest).length (bsR ((fBs p x y z S r++bs).map (·.1))) rest bs) :
  Dp σ (D9 S r++rest).length (bsR ((fBs p x y z S r++bs).map (·.1))) (D9 S r++rest) (fBs p x y z S r++bs):=by
 refine ⟨⟨h.fl,rfl,fun a ha ha'=>?_⟩,⟨h.sh.1,rfl,fun a ha ha'=>iG _ (aK _) a ha⟩,⟨h.sh.2.1,rfl,fun a ha ha'=>iG _ (dJ _) a ha⟩,⟨h.sh.2.2,rfl,fun a ha ha'=>iG _ (aK _) a ha⟩,hr⟩
 match a,ha with
 |0,_=>exact gu (by simp [D9]) rfl (Nat.le_refl _)
 |1,_=>exact gu (by simp [D9]) rfl (Nat.le_refl _)
 |2,_=>exact gu (by simp [D9]) rfl (Nat.le_refl _)
 |a+3,ha=>exact iG _ (iI r) a (by simpa using ha)
theorem FAt.ev {P:Program} {fn:FuncId} {args1 args:List Value} {v:Value} {σ:Heap} {p x y z:Nat} {S:Shp} {r:Nat→Int} (hb:FAt σ p x y z S r) (h:Ev P fn args1 [.ro (flL 1 2 3 S r),.ro (ints S.d),.ro (pc S.f),.ro (ints S.s)] v [.ro (flL 1 2 3 S r),.ro (ints S.d),.ro (pc S.f),.ro (ints S.s)]) (ha:AS 4 (bsR [p,x,y,z]) args1 args) (hv:plain v=true) (hni:σ.all (fun o=>!dB o)=true):Ev P fn args σ v σ :=
 Ev.arrsP (D9 S r++[]) (fBs p x y z S r++[]) h (hb.cells trivial) ha hv hni
theorem FAt.evN {P:Program} {fn:FuncId} {args1 args:List Value} {v v1:Value} {news news':Heap} {σ:Heap} {p x y z:Nat} {S:Shp} {r:Nat→Int} (hb:FAt σ p x y z S r) (h:Ev P fn args1 [.ro (flL 1 2 3 S r),.ro (ints S.d),.ro (pc S.f),.ro (ints S.s)] v1 ([.ro (flL 1 2 3 S r),.ro (ints S.d),.ro (pc S.f),.ro (ints S.s)]++news)) (ha:AS 4 (bsR [p,x,y,z]) args1 args) (hm:news.all wz=true)
  (hv:ren (shf 4 σ.length (bsR [p,x,y,z])) v1=v) (hn:news.map (sW (shf 4 σ.length (bsR [p,x,y,z])))=news') (hni:σ.all (fun o=>!dB o)=true):Ev P fn args σ v (σ++news') :=
 Ev.arrsR (D9 S r++[]) (fBs p x y z S r++[]) h (hb.cells trivial) ha hm hv hn hni
theorem FB {n:Nat} {π:Rho} {a b a' b':Value} (h1:jv n π a a') (h2:jv n π b b'):jv n π (.tuple #[a,b]) (.tuple #[a',b']):=by
 refine .tuple _ _ rfl fun i h _=>?_
 match i,h with
 |0,_=>exact h1
 |1,_=>exact h2
def iU (S:Shp) (h:Int):Int:=if dG S ≠ 0 then dG S else if h<1∨h > 24 then 2 else 0
theorem mY {S:Shp} {h:Int} (hc:iU S h=0):dG S=0∧1≤h∧h≤24:=by
 unfold iU at hc
 by_cases h1:dG S ≠ 0
 ·rw [if_pos h1] at hc;exact absurd hc h1
 ·rw [if_neg h1] at hc
  by_cases h2:h<1∨h > 24
  ·rw [if_pos h2] at hc;omega
  ·exact ⟨Classical.byContradiction h1,by omega,by omega⟩
end Go.AH.Dust
namespace Go.Proofs.Ytomioaiojidnbaa
open Go Go.AH
attribute [local irreducible] dO dI dM kK iM gK iC dV iJ dQ iK iE
set_option maxRecDepth 100000
set_option maxHeartbeats 1000000
open Go.AH.Dust
theorem newFloor_ev {σ:Heap} {S:Shp} {x y z:Nat} {v:Value} (h:SAt σ x y z S) (hv:ShS x y z S v) (hS:S.ok) (hni:σ.all (fun o=>!dB o)=true) :
  Ev Try.prog 77 [v] σ (.pointer (some ⟨σ.length,0,none⟩)) (σ++[.rw (flL x y z S (fun i=>bI (rB S i)))]):=by
 refine Ev.arrsN S.css [x,y,z] (newFloor_ok S hS) h.arrs ⟨hv,trivial⟩ S.css_plain rfl ?_ ?_ hni
 ·simp [ren,shf]
 ·simp only [List.map_cons,List.map_nil,sW]
  rw [KT (a:=x) (b:=y) (c:=z) (by simp [shf,bsR]) (by simp [shf,bsR]) (by simp [shf,bsR])]
theorem Nh (S:Shp) (hS:S.fit) (h0:dG S=0):Ev Try.prog 50 [shV 0 1 2 S] S.hp (.tuple #[.pointer (some ⟨3,0,none⟩),.int .i64 0]) (S.hp++[.rw (flL 0 1 2 S (fun i=>bI (rB S i)))]):=by
 have hok:=fB h0
 have hnf:=newFloor_ev (σ:=[.ro (ints S.d),.ro (pc S.f),.ro (ints S.s),.rw (shL 0 1 2 S)]) (S:=S) (x:=0) (y:=1) (z:=2) ⟨.inl rfl,.inl rfl,.inl rfl⟩ gW hok rfl
 refine aX 3 12 Try.func50 rfl rfl rfl rfl rfl ?_
 repeat' (first|(refine gU ?_;first|(refine aP ?_;refine st (au rfl) rfl rfl ?_)|(refine aI ?_;refine st (aA rfl) rfl rfl ?_)|(refine aU ?_;refine st (aZ rfl (by rfl)) rfl rfl ?_)|(refine bG ?_;refine st (aG rfl rfl rfl) rfl rfl ?_)|(refine fC ?_;refine st (bC rfl rfl rfl (by first|exact Nb ⟨.inl rfl,.inl rfl,.inl rfl⟩ gW hS rfl|exact hnf)) rfl rfl ?_)|(refine kD ?_;refine st (gI rfl) rfl rfl ?_))|refine aS ?_|refine aj ?_|refine ah ?_|refine bg ?_|refine aW ?_|refine dX ?_|refine aN rfl ?_)
 exact iF (.tmp rfl (.tmp rfl .nil)) (dQ.src (σin:=S.hp) [.rw (flL 0 1 2 S (fun i=>bI (rB S i)))] [4] rfl rfl rfl ⟨Hf (p:=4) rfl rfl (fun i hi=>(aY hi:je 3 [4] i=⟨i,0,0⟩)) (by simp),trivial⟩ (FB (VQ.ptr (q:=true) (n:=4) (ρ:=je 3 [4]) 3 0 (by omega)) (.int _ _))) ⟨rfl,rfl⟩
theorem open_bad (S:Shp) (hS:S.fit) (h0:dG S ≠ 0):Ev Try.prog 50 [shV 0 1 2 S] S.hp (.tuple #[.pointer none,.int .i64 (dG S)]) S.hp:=by
 refine aX 3 12 Try.func50 rfl rfl rfl rfl rfl ?_
 repeat' (first|(refine gU ?_;first|(refine aP ?_;refine st (au rfl) rfl rfl ?_)|(refine aI ?_;refine st (aA rfl) rfl rfl ?_)|(refine aU ?_;refine st (aZ rfl (by rfl)) rfl rfl ?_)|(refine bG ?_;refine st (aG rfl rfl rfl) rfl rfl ?_)|(refine fC ?_;refine st (bC rfl rfl rfl (by exact Nb ⟨.inl rfl,.inl rfl,.inl rfl⟩ gW hS rfl)) rfl rfl ?_)|(refine kD ?_;refine st (gI rfl) rfl rfl ?_))|refine aS ?_|refine aj ?_|refine ah ?_|refine bg ?_|refine kL ?_|refine dX ?_|refine aQ rfl ?_)
 exact iF (.tmp rfl (.tmp rfl .nil)) (.plain rfl rfl) ⟨rfl,rfl⟩
theorem xH {σ:Heap} {S:Shp} {x y z:Nat} {v:Value} (h:SAt σ x y z S) (hv:ShS x y z S v) (hS:S.fit) (h0:dG S=0) (hni:σ.all (fun o=>!dB o)=true) :
  Ev Try.prog 50 [v] σ (.tuple #[.pointer (some ⟨σ.length,0,none⟩),.int .i64 0]) (σ++[.rw (flL x y z S (fun i=>bI (rB S i)))]):=by
 refine Ev.arrsN S.css [x,y,z] (Nh S hS h0) h.arrs ⟨hv,trivial⟩ S.css_plain rfl ?_ ?_ hni
 ·simp [ren,uo,vP,shf]
 ·simp only [List.map_cons,List.map_nil,sW]
  rw [KT (a:=x) (b:=y) (c:=z) (by simp [shf,bsR]) (by simp [shf,bsR]) (by simp [shf,bsR])]
theorem Ea {σ:Heap} {S:Shp} {x y z:Nat} {v:Value} (h:SAt σ x y z S) (hv:ShS x y z S v) (hS:S.fit) (h0:dG S ≠ 0) (hni:σ.all (fun o=>!dB o)=true) :
  Ev Try.prog 50 [v] σ (.tuple #[.pointer none,.int .i64 (dG S)]) σ:=Ev.arrs S.css [x,y,z] (open_bad S hS h0) h.arrs ⟨hv,trivial⟩ S.css_plain rfl hni
theorem clock_ok (S:Shp) (hS:S.fit) (h:Int) (h0:iU S h=0):Ev Try.prog 61 [shV 0 1 2 S,.int .i64 h] S.hp (.tuple #[.pointer (some ⟨3,0,none⟩),.int .i64 0]) (S.hp++[.rw (flL 0 1 2 S (fun i=>bI (rB S i)))]):=by
 obtain ⟨h1,h2,h3⟩:=mY h0
 have hop:=xH (σ:=[.ro (ints S.d),.ro (pc S.f),.ro (ints S.s),.rw (shL 0 1 2 S)]) (S:=S) (x:=0) (y:=1) (z:=2) ⟨.inl rfl,.inl rfl,.inl rfl⟩ gW hS h1 rfl
 refine aX 3 25 Try.func61 rfl rfl rfl rfl rfl ?_
 repeat' (first|(refine gU ?_;first|(refine aP ?_;refine st (au rfl) rfl rfl ?_)|(refine aI ?_;refine st (aA rfl) rfl rfl ?_)|(refine aU ?_;refine st (aZ rfl (by rfl)) rfl rfl ?_)|(refine bG ?_;refine st (aG rfl rfl rfl) rfl rfl ?_)|(refine eY ?_;refine st (bY rfl rfl) rfl rfl ?_)|(refine kP ?_;refine st (jh rfl rfl) rfl rfl ?_)|(refine fC ?_;refine st (bC rfl rfl rfl (by exact hop)) rfl rfl ?_)|(refine kD ?_;refine st (gI rfl) rfl rfl ?_))|(refine gG ?_;first|(refine aP ?_;refine bP rfl (au rfl) rfl rfl ?_)|(refine bG ?_;refine bP rfl (aG rfl rfl rfl) rfl rfl ?_))|refine aS ?_|refine aj ?_|refine ah ?_|refine bg ?_|refine fH ?_|refine aW ?_|refine dX ?_|refine aO ?_|refine aN rfl ?_)
 exact iF (.tmp rfl (.tmp rfl .nil)) (dQ.src (σin:=S.hp) [.rw (flL 0 1 2 S (fun i=>bI (rB S i)))] [4] rfl rfl rfl ⟨Hf (p:=4) rfl rfl (fun i hi=>(aY hi:je 3 [4] i=⟨i,0,0⟩)) (by simp),trivial⟩ (FB (VQ.ptr (q:=true) (n:=4) (ρ:=je 3 [4]) 3 0 (by omega)) (.int _ _))) ⟨rfl,rfl⟩
theorem clock_bad (S:Shp) (hS:S.fit) (h:Int) (h0:iU S h ≠ 0):Ev Try.prog 61 [shV 0 1 2 S,.int .i64 h] S.hp (.tuple #[.pointer none,.int .i64 (iU S h)]) S.hp:=by
 by_cases h1:dG S=0
 ·have hop:=xH (σ:=[.ro (ints S.d),.ro (pc S.f),.ro (ints S.s),.rw (shL 0 1 2 S)]) (S:=S) (x:=0) (y:=1) (z:=2) ⟨.inl rfl,.inl rfl,.inl rfl⟩ gW hS h1 rfl
  have he:iU S h=if h<1∨h > 24 then 2 else 0:=by unfold iU;rw [if_neg (fun hn=>hn h1)]
  have hb:h<1∨h > 24:=Classical.byContradiction fun hn=>h0 (by rw [he,if_neg hn])
  rw [he,if_pos hb]
  by_cases hb1:h<1
  ·refine aX 3 25 Try.func61 rfl rfl rfl rfl rfl ?_
   repeat' (first|(refine gU ?_;first|(refine aP ?_;refine st (au rfl) rfl rfl ?_)|(refine aI ?_;refine st (aA rfl) rfl rfl ?_)|(refine aU ?_;refine st (aZ rfl (by rfl)) rfl rfl ?_)|(refine bG ?_;refine st (aG rfl rfl rfl) rfl rfl ?_)|(refine eY ?_;refine st (bH rfl rfl) rfl rfl ?_)|(refine kP ?_;refine st (jh rfl rfl) rfl rfl ?_)|(refine fC ?_;refine st (bC rfl rfl rfl (by exact hop)) rfl rfl ?_)|(refine kD ?_;refine st (gI rfl) rfl rfl ?_))|(refine gG ?_;refine nU rfl rfl ?_)|refine aS ?_|refine aj ?_|refine ah ?_|refine bg ?_|refine kL ?_|refine nH ?_|refine dX ?_|refine aO ?_|refine aQ rfl ?_|refine aN rfl ?_)
   exact iF (.tmp rfl (.tmp rfl .nil)) (.plain rfl rfl) ⟨rfl,rfl⟩
  ·have hb2:h > 24:=by omega
   refine aX 3 25 Try.func61 rfl rfl rfl rfl rfl ?_
   repeat' (first|(refine gU ?_;first|(refine aP ?_;refine st (au rfl) rfl rfl ?_)|(refine aI ?_;refine st (aA rfl) rfl rfl ?_)|(refine aU ?_;refine st (aZ rfl (by rfl)) rfl rfl ?_)|(refine bG ?_;refine st (aG rfl rfl rfl) rfl rfl ?_)|(refine eY ?_;refine st (bY rfl rfl) rfl rfl ?_)|(refine kP ?_;refine st (jh rfl rfl) rfl rfl ?_)|(refine fC ?_;refine st (bC rfl rfl rfl (by exact hop)) rfl rfl ?_)|(refine kD ?_;refine st (gI rfl) rfl rfl ?_))|(refine gG ?_;first|(refine aP ?_;refine bP rfl (au rfl) rfl rfl ?_)|(refine bG ?_;refine bP rfl (aG rfl rfl rfl) rfl rfl ?_))|refine aS ?_|refine aj ?_|refine ah ?_|refine bg ?_|refine kL ?_|refine nH ?_|refine dX ?_|refine aO ?_|refine aQ rfl ?_|refine aN rfl ?_)
   exact iF (.tmp rfl (.tmp rfl .nil)) (.plain rfl rfl) ⟨rfl,rfl⟩
 ·have hop:=Ea (σ:=[.ro (ints S.d),.ro (pc S.f),.ro (ints S.s),.rw (shL 0 1 2 S)]) (S:=S) (x:=0) (y:=1) (z:=2) ⟨.inl rfl,.inl rfl,.inl rfl⟩ gW hS h1 rfl
  have he:iU S h=dG S:=by unfold iU;rw [if_pos h1]
  rw [he]
  refine aX 3 25 Try.func61 rfl rfl rfl rfl rfl ?_
  repeat' (first|(refine gU ?_;first|(refine aP ?_;refine st (au rfl) rfl rfl ?_)|(refine aI ?_;refine st (aA rfl) rfl rfl ?_)|(refine aU ?_;refine st (aZ rfl (by rfl)) rfl rfl ?_)|(refine bG ?_;refine st (aG rfl rfl rfl) rfl rfl ?_)|(refine kP ?_;refine st (jh rfl rfl) rfl rfl ?_)|(refine fC ?_;refine st (bC rfl rfl rfl (by exact hop)) rfl rfl ?_)|(refine kD ?_;refine st (gI rfl) rfl rfl ?_))|refine aS ?_|refine aj ?_|refine ah ?_|refine bg ?_|refine kL ?_|refine nH ?_|refine dX ?_|refine aO ?_|refine aQ rfl ?_)
  exact iF (.tmp rfl (.tmp rfl .nil)) (.plain rfl rfl) ⟨rfl,rfl⟩
theorem Eb {σ:Heap} {S:Shp} {h:Int} {x y z:Nat} {v:Value} (hs:SAt σ x y z S) (hv:ShS x y z S v) (hS:S.fit) (h0:iU S h=0) (hni:σ.all (fun o=>!dB o)=true) :
  Ev Try.prog 61 [v,.int .i64 h] σ (.tuple #[.pointer (some ⟨σ.length,0,none⟩),.int .i64 0]) (σ++[.rw (flL x y z S (fun i=>bI (rB S i)))]):=by
 refine Ev.arrsN S.css [x,y,z] (clock_ok S hS h h0) hs.arrs ⟨hv,.int _ _,trivial⟩ S.css_plain rfl ?_ ?_ hni
 ·simp [ren,uo,vP,shf]
 ·simp only [List.map_cons,List.map_nil,sW]
  rw [KT (a:=x) (b:=y) (c:=z) (by simp [shf,bsR]) (by simp [shf,bsR]) (by simp [shf,bsR])]
theorem Bl {σ:Heap} {S:Shp} {h:Int} {x y z:Nat} {v:Value} (hs:SAt σ x y z S) (hv:ShS x y z S v) (hS:S.fit) (h0:iU S h ≠ 0) (hni:σ.all (fun o=>!dB o)=true) :
  Ev Try.prog 61 [v,.int .i64 h] σ (.tuple #[.pointer none,.int .i64 (iU S h)]) σ:=Ev.arrs S.css [x,y,z] (clock_bad S hS h h0) hs.arrs ⟨hv,.int _ _,trivial⟩ S.css_plain rfl hni
theorem isReached_ok (S:Shp) (q:Nat→Bool) (r:Nat→Int) (hr:r=fun i=>bI (q i)) (n:Nat) (hn:n<10):Ev Try.prog 56 [.pointer (some ⟨0,0,none⟩),.int .i64 (n:Int)] [.ro (flL 1 2 3 S r),.ro (ints S.d),.ro (pc S.f),.ro (ints S.s)] (.bool (q n)) [.ro (flL 1 2 3 S r),.ro (ints S.d),.ro (pc S.f),.ro (ints S.s)]:=by
 have hn':(n:Int)<10:=by omega
 have hc1:cZ [.ro (flL 1 2 3 S r),.ro (ints S.d),.ro (pc S.f),.ro (ints S.s)] 0 (3+n*1)=some (.int .i64 (r n)):=by rw [Nat.mul_one];exact G9 hn
 have hc2:cZ [.ro (flL 1 2 3 S r),.ro (ints S.d),.ro (pc S.f),.ro (ints S.s)] 0 (0+3+n*1)=some (.int .i64 (r n)):=by rw [Nat.mul_one];exact G9 hn
 have e:decide (r n=1)=q n:=by rw [hr];show decide (bI (q n)=1)=q n;cases q n <;> decide
 refine aX 4 12 Try.func56 rfl rfl rfl rfl rfl ?_
 repeat' (first|(refine gU ?_;first|(refine aP ?_;refine st (au rfl) rfl rfl ?_)|(refine aI ?_;refine st (aA rfl) rfl rfl ?_)|(refine gFA ?_;refine st (aB rfl) rfl rfl ?_)|(refine aU ?_;refine st (ak rfl (by assumption)) rfl rfl ?_)|(refine bG ?_;refine st (aG rfl rfl rfl) rfl rfl ?_)|(refine gNil ?_;refine st (iR rfl) rfl rfl ?_)|(refine gIA ?_;refine st (gQ rfl rfl (by omega)) rfl rfl ?_))|refine aS ?_|refine aj ?_|refine ah ?_|refine bg ?_|refine dX ?_)
 exact iF (.tmp rfl .nil) (.plain rfl rfl) ⟨by rw [← e];rfl,rfl⟩
theorem pJ {σ:Heap} {S:Shp} {q:Nat→Bool} {r:Nat→Int} {n p x y z:Nat} (h:FAt σ p x y z S r) (hr:r=fun i=>bI (q i)) (hn:n<10) (hni:σ.all (fun o=>!dB o)=true) :
  Ev Try.prog 56 [.pointer (some ⟨p,0,none⟩),.int .i64 (n:Int)] σ (.bool (q n)) σ :=
 h.ev (isReached_ok S q r hr n hn) ⟨VQ.ptr (q:=true) (n:=4) (ρ:=bsR [p,x,y,z]) 0 0 (by omega),bU _ rfl,trivial⟩ rfl hni
theorem next_ok (S:Shp) (r:Nat→Int) (n:Int):Ev Try.prog 70 [.pointer (some ⟨0,0,none⟩),.int .i64 n] [.ro (flL 1 2 3 S r),.ro (ints S.d),.ro (pc S.f),.ro (ints S.s)] (.func (.func 87) #[] #[.pointer (some ⟨4,0,none⟩),.pointer (some ⟨5,0,none⟩)]) [.ro (flL 1 2 3 S r),.ro (ints S.d),.ro (pc S.f),.ro (ints S.s),.rw [.pointer (some ⟨0,0,none⟩)],.rw [.int .i64 n]]:=by
 refine aX 4 6 Try.func70 rfl rfl rfl rfl rfl ?_
 repeat' (first|(refine gU ?_;first|(refine aI ?_;refine st (aA rfl) rfl rfl ?_)|(refine BG ?_;refine st (jy rfl rfl) rfl rfl ?_)|(refine kD ?_;refine st (gI rfl) rfl rfl ?_))|refine aS ?_|refine aj ?_|refine ah ?_|refine bg ?_|refine dX ?_)
 exact iF (.tmp rfl .nil) .all ⟨rfl,rfl⟩
theorem xI {σ:Heap} {S:Shp} {r:Nat→Int} {n:Int} {p x y z:Nat} (h:FAt σ p x y z S r) (hni:σ.all (fun o=>!dB o)=true) :
  Ev Try.prog 70 [.pointer (some ⟨p,0,none⟩),.int .i64 n] σ (.func (.func 87) #[] #[.pointer (some ⟨σ.length,0,none⟩),.pointer (some ⟨σ.length+1,0,none⟩)]) (σ++[.rw [.pointer (some ⟨p,0,none⟩)],.rw [.int .i64 n]]) :=
 h.evN (news:=[.rw [.pointer (some ⟨0,0,none⟩)],.rw [.int .i64 n]]) (next_ok S r n) ⟨VQ.ptr (q:=true) (n:=4) (ρ:=bsR [p,x,y,z]) 0 0 (by omega),bU _ rfl,trivial⟩ rfl (by simp [ren,uo,vP,shf]) (by simp [sW,vP,ren,shf,bsR]) hni
end Go.Proofs.Ytomioaiojidnbaa
namespace Go.AH.Dust
open Go Go.AH
noncomputable def rL (S:Shp):Nat→List Int
 |0=>[]
 |k+1=>if rB S k=true then rL S k++[(k:Int)] else rL S k
noncomputable def fO (S:Shp):List Int:=if dG S=0 then rL S S.d.length else []
theorem Ec (S:Shp):∀ k,(rL S k).length≤k
 |0=>by simp [rL]
 |k+1=>by
  have:=Ec S k
  simp only [rL];split
  ·simp;omega
  ·omega
theorem KU {S:Shp} {n:Int}:∀ {k:Nat},n ∈ rL S k↔∃ i:Nat,i<k∧n=i∧rB S i=true
 |0=>by simp [rL]
 |k+1=>by
  have ih:=KU (S:=S) (n:=n) (k:=k)
  simp only [rL]
  split
  ·rename_i h
   rw [List.mem_append,ih,List.mem_singleton]
   constructor
   ·rintro (⟨i,h1,h2⟩|h1)
    ·exact ⟨i,by omega,h2⟩
    ·exact ⟨k,by omega,h1,h⟩
   ·rintro ⟨i,h1,h2,h3⟩
    by_cases hik:i=k
    ·subst hik;exact .inr h2
    ·exact .inl ⟨i,by omega,h2,h3⟩
  ·rename_i h
   rw [ih]
   constructor
   ·rintro ⟨i,h1,h2⟩;exact ⟨i,by omega,h2⟩
   ·rintro ⟨i,h1,h2,h3⟩
    by_cases hik:i=k
    ·subst hik;exact absurd h3 h
    ·exact ⟨i,by omega,h2,h3⟩
end Go.AH.Dust
namespace Go.Proofs.Ytomioaiojidnbaa
open Go Go.AH
attribute [local irreducible] dO dI dM kK iM gK iC dV iJ dQ iK iE
set_option maxRecDepth 100000
set_option maxHeartbeats 1000000
open Go.AH.Dust
end Go.Proofs.Ytomioaiojidnbaa
namespace Go.AH.Dust
open Go Go.AH
theorem Hg {P:Program} {rd:Option Nat} {ty:TypeId} {e:Env} {σ:Heap} {x y:Operand} {t el size bytes i n k sz:Nat} {agg:Bool} {z:Value} [ha:Sl P t el] [ht:Ty P el size agg z bytes] (h:bf e x=some (dL i sz n)) (hy:bf e y=some (.int .i64 (k:Nat)))
  (h1:k<n):dV P rd (.indexAddr t x y) ty e σ (.pointer (some ⟨i,k*size,none⟩)) σ:=by
 cases n with
 |zero=>omega
 |succ n =>
  have:=yR (P:=P) (rd:=rd) (ty:=ty) (σ:=σ) (t:=t) (ha:=ha) (ht:=ht) (i:=i) (n:=n+1) (c:=n+1) (sz:=sz) h hy (by omega) (by omega)
  simpa using this
theorem Ed:∀ {n:Nat} {l:List Int},l.Nodup→(∀ x ∈ l,0≤x∧x<n)→l.length≤n
 |0,[],_,_=>Nat.le_refl _
 |0,x::l,_,h=>by have:=h x (by simp);omega
 |n+1,l,hn,h=>by
  by_cases hm:(n:Int) ∈ l
  ·have ih:=Ed (n:=n) (l:=l.erase n) (hn.erase _) fun x hx=>by
    have h1:=(hn.mem_erase_iff.1 hx)
    have:=h x h1.2
    have h2:=h1.1
    omega
   have:=List.length_erase_of_mem hm
   have hp:=List.length_pos_of_mem hm
   omega
  ·have:=Ed (n:=n) (l:=l) hn fun x hx=>by
    have:=h x hx
    have h2:x ≠ n:=fun e=>hm (e ▸ hx)
    omega
   omega
structure Seen (S:Shp) (q:List Int):Prop where
 nd:q.Nodup
 rch:∀ n ∈ q,Rch S n
 fst:∀ n ∈ S.s,n ∈ q
theorem Seen.len {S:Shp} (h:S.ok) {q:List Int} (hq:Seen S q):q.length≤10:=by
 have:=Ed (n:=S.d.length) hq.nd fun x hx=>lY h (hq.rch x hx)
 have:=h.n10;omega
theorem Seen.snoc {S:Shp} {q:List Int} (hq:Seen S q) {a b:Int} (ha:a ∈ q) (hab:(a,b) ∈ S.f) (hb:b ∉ q):Seen S (q++[b]):=by
 refine ⟨?_,fun n hn=>?_,fun n hn=>List.mem_append_left _ (hq.fst n hn)⟩
 ·rw [List.nodup_append]
  refine ⟨hq.nd,by simp,fun x hx y hy hxy=>hb ?_⟩
  rw [List.mem_singleton] at hy
  rw [← hy,← hxy];exact hx
 ·rcases List.mem_append.1 hn with h|h
  ·exact hq.rch n h
  ·rw [List.mem_singleton.1 h];exact .next (hq.rch a ha) hab
theorem seen_first {S:Shp} (h:S.ok):Seen S S.s:=by
 refine ⟨?_,fun n hn=>.first hn,fun n hn=>hn⟩
 have key:∀ i j,i<j→j<S.s.length→gi S.s i<gi S.s j:=by
  intro i j hij hj
  induction j with
  |zero=>omega
  |succ j ih =>
   have h1:=(h.s (j+1) hj).2
   simp only [Nat.add_sub_cancel] at h1
   by_cases hij':i=j
   ·subst hij';omega
   ·have:=ih (by omega) (by omega);omega
 rw [List.nodup_iff_pairwise_ne,List.pairwise_iff_getElem]
 intro i j hi hj hij he
 have:=key i j hij hj
 simp only [gi,List.getD_eq_getElem?_getD,List.getElem?_eq_getElem hi,List.getElem?_eq_getElem hj,Option.getD_some] at this
 omega
theorem Seen.iff {S:Shp} {q:List Int} (hq:Seen S q) (hc:∀ j,j<q.length→∀ k,k<S.f.length→(gf S.f k).1=gi q j→(gf S.f k).2 ∈ q) (n:Int):n ∈ q↔Rch S n:=by
 refine ⟨hq.rch n,fun h=>?_⟩
 induction h with
 |first h=>exact hq.fst _ h
 |next h hf ih =>
  obtain ⟨j,h1,h2⟩:=kQ.1 ih
  obtain ⟨k,h3,h4⟩:=jW.1 hf
  have:=hc j h1 k h3 (by rw [h4,h2])
  rw [h4] at this;exact this
theorem PE {q e:List Int} {i:Nat} (h:i<q.length):gi (q++e) i=gi q i:=by simp [gi,List.getD_eq_getElem?_getD,List.getElem?_append_left h]
theorem TL (S:Shp):eX 4 [.ro (ints S.d),.ro (pc S.f),.ro (ints S.s),.rw (shL 0 1 2 S)]:=hc4 S
theorem TM (S:Shp) (q:List Int):eX 5 [.ro (ints S.d),.ro (pc S.f),.ro (ints S.s),.rw (shL 0 1 2 S),.gr (ints q) 3]:=by
 obtain ⟨a,b⟩:=iq (n:=5) (x:=0) (y:=1) (z:=2) (S:=S) (by omega) (by omega) (by omega)
 exact ⟨ay (aK _),ay (dJ _),ay (aK _),⟨a,b⟩,ay (aK _),trivial⟩
end Go.AH.Dust
namespace Go.Proofs.Ytomioaiojidnbaa
open Go Go.AH
attribute [local irreducible] dO dI dM kK iM gK iC dV iJ dQ iK iE
set_option maxRecDepth 100000
set_option maxHeartbeats 1000000
open Go.AH.Dust
theorem xW (S:Shp) (hS:S.fit):Ev Try.prog 16 [shV 0 1 2 S] S.hp (.tuple #[sl 3 (fO S).length,.int .i64 (dG S)]) (S.hp++[.rw (ints (fO S))]):=by
 unfold fO
 have hrs:=D8 (σ:=[.ro (ints S.d),.ro (pc S.f),.ro (ints S.s),.rw (shL 0 1 2 S)]) (S:=S) (x:=0) (y:=1) (z:=2) ⟨.inl rfl,.inl rfl,.inl rfl⟩ gW hS rfl
 by_cases h0:dG S=0
 case neg =>
  rw [if_neg h0]
  refine aX 3 77 Try.func16 rfl rfl rfl rfl rfl ?_
  repeat' (first|(refine gU ?_;first|(refine aI ?_;refine st (aA rfl) rfl rfl ?_)|(refine aU ?_;refine st (aZ rfl (by rfl)) rfl rfl ?_)|(refine bG ?_;refine st (aG rfl rfl rfl) rfl rfl ?_)|(refine fC ?_;refine st (bC rfl rfl rfl (by exact hrs)) rfl rfl ?_)|(refine kD ?_;refine st (gI rfl) rfl rfl ?_))|refine aS ?_|refine aj ?_|refine ah ?_|refine bg ?_|refine kL ?_|refine dX ?_|refine aQ rfl ?_)
  exact iF (.tmp rfl (.tmp rfl .nil)) (Pv rfl rfl) ⟨rfl,rfl⟩
 rw [if_pos h0,h0]
 rw [h0] at hrs
 have hok:=fB h0
 have n10:=hok.n10
 have s10:=hok.s10
 have s0:=hok.s0
 have f60:=hok.f60
 have hs1:dh [.ro (ints S.d),.ro (pc S.f),.ro (ints S.s),.rw (shL 0 1 2 S)] 2 0 (S.s.length*1)=some (ints S.s):=by
  have:=qI (σ:=[.ro (ints S.d),.ro (pc S.f),.ro (ints S.s),.rw (shL 0 1 2 S)]) (b:=2) (cs:=ints S.s) (.inl rfl)
  rwa [ints_length,← Nat.mul_one S.s.length] at this
 refine aX 3 77 Try.func16 rfl rfl rfl rfl rfl ?_
 repeat' (first|(refine gU ?_;first|(refine aI ?_;refine st (aA rfl) rfl rfl ?_)|(refine gFA ?_;refine st (aB rfl) rfl rfl ?_)|(refine aU ?_;first|refine st (ak rfl (by rfl)) rfl rfl ?_|refine st (aZ rfl (by rfl)) rfl rfl ?_)|(refine bG ?_;refine st (aG rfl rfl rfl) rfl rfl ?_)|(refine fC ?_;refine st (bC rfl rfl rfl (by exact hrs)) rfl rfl ?_)|(refine kD ?_;refine st (gI rfl) rfl rfl ?_)|(refine nI ?_;refine st (dK) rfl rfl ?_)|(refine EJ ?_;refine st (bW (by rfl) rfl rfl (by exact hs1) (by omega) (by omega) (by omega)) rfl rfl ?_))|refine aS ?_|refine aj ?_|refine ah ?_|refine bg ?_|refine aW ?_|refine aO ?_|refine aN rfl ?_)
 refine iD (ι:=Nat×List Int) (fun p=>[(1,.pointer (some ⟨3,0,none⟩)),(4,dL 4 1 p.2.length),(5,.int .i64 (p.1:Int))])
  (fun p=>[.ro (ints S.d),.ro (pc S.f),.ro (ints S.s),.rw (shL 0 1 2 S),.gr (ints p.2) 3]) (fun p=>10 - p.1) (fun p=>p.1≤p.2.length∧Seen S p.2∧∀ j,j<p.1→∀ k,k<S.f.length→(gf S.f k).1=gi p.2 j→(gf S.f k).2 ∈ p.2) (0,S.s) (by simp)
  (bT.src [.ro (ints S.d),.ro (pc S.f),.ro (ints S.s),.rw (shL 0 1 2 S)] [.gr (ints S.s) 3] [5] (by simp) rfl (TL S) rfl rfl ⟨qC rfl rfl (aK _),trivial⟩ (by (repeat' (first|exact trivial|refine ⟨bD rfl rfl,?_⟩|refine ⟨aV (m:=4) rfl (fun i hi=>aY hi) (by simp) (by rfl) rfl,?_⟩|refine ⟨vF rfl (by simp) rfl,?_⟩)))) ⟨Nat.zero_le _,seen_first hok,fun j (h:j<0)=>absurd h (Nat.not_lt_zero _)⟩ ?_
 rintro ⟨i,q⟩ ⟨hi,hq,hcl⟩
 simp only at hi hq hcl ⊢
 have hq10:=hq.len hok
 by_cases hil:i<q.length
 ·have hi10:i<10:=by omega
  have hil2:(ints q).length=q.length*1:=by simp [ints]
  repeat' (first|(refine gU ?_;first|(refine aP ?_;refine st (au rfl) rfl rfl ?_)|(refine aI ?_;refine st (aA rfl) rfl rfl ?_)|(refine bG ?_;refine st (aG rfl rfl rfl) rfl rfl ?_)|(refine fK ?_;refine st (vC rfl) rfl rfl ?_))|refine aS ?_|refine aj ?_|refine ah ?_|refine bg ?_|refine aW ?_|refine aO ?_|refine aQ rfl ?_)
  refine iD (ι:=Nat×List Int) (fun p=>[(1,.pointer (some ⟨3,0,none⟩)),(4,dL 4 1 p.2.length),(5,.int .i64 (i:Int)),(6,.int .i64 (p.1:Int))])
   (fun p=>[.ro (ints S.d),.ro (pc S.f),.ro (ints S.s),.rw (shL 0 1 2 S),.gr (ints p.2) 3]) (fun p=>S.f.length - p.1) (fun p=>p.1≤S.f.length∧Seen S p.2∧(∃ e,p.2=q++e)∧∀ k,k<p.1→(gf S.f k).1=gi q i→(gf S.f k).2 ∈ p.2) (0,q) (by simp)
   (.same ⟨rfl,rfl,rfl,rfl,trivial⟩) ⟨Nat.zero_le _,hq,⟨[],by simp⟩,fun j (h:j<0)=>absurd h (Nat.not_lt_zero _)⟩ ?_
  clear hil2
  rintro ⟨k,q2⟩ ⟨hk,hq2,⟨e,rfl⟩,hcl2⟩
  simp only at hk hq2 hcl2 ⊢
  have hgi:gi (q++e) i=gi q i:=PE hil
  have hlt:i<(q++e).length:=by simp;omega
  have hq2l:=hq2.len hok
  generalize hq2e:q++e=q2 at *
  by_cases hkl:k<S.f.length
  ·have hil2:(ints q2).length=q2.length*1:=by simp [ints]
   have hc1:cZ [.ro (ints S.d),.ro (pc S.f),.ro (ints S.s),.rw (shL 0 1 2 S),.gr (ints q2) 3] 1 (0+k*2+0*1)=some (.int .i64 (gf S.f k).1):=G6 (.inl rfl) hkl
   have hc2:cZ [.ro (ints S.d),.ro (pc S.f),.ro (ints S.s),.rw (shL 0 1 2 S),.gr (ints q2) 3] 1 (0+k*2+1*1)=some (.int .i64 (gf S.f k).2):=G7 (.inl rfl) hkl
   have hc3:cZ [.ro (ints S.d),.ro (pc S.f),.ro (ints S.s),.rw (shL 0 1 2 S),.gr (ints q2) 3] 4 (i*1)=some (.int .i64 (gi q i)):=by rw [Nat.mul_one,← hgi];exact gV hlt
   have hin:=MZ (σ:=[.ro (ints S.d),.ro (pc S.f),.ro (ints S.s),.rw (shL 0 1 2 S),.gr (ints q2) 3]) (l:=q2) (p:=(gf S.f k).2) (x:=4) (o:=0) (v:=dL 4 1 q2.length) (qp (.inr (.inr ⟨_,rfl⟩))) KR (by omega) rfl
   have hmem:gf S.f k ∈ S.f:=jW.2 ⟨k,hkl,rfl⟩
   have hall:∀ j,j<k+1→j=k∨j<k:=fun j hj=>by omega
   have hi2:i<q2.length:=hlt
   by_cases ha:(gf S.f k).1=gi q i
   ·have haq:(gf S.f k).1 ∈ q2:=kQ.2 ⟨i,hlt,by rw [hgi,ha]⟩
    by_cases hb:(gf S.f k).2 ∈ q2
    ·have hb':¬ ¬ (gf S.f k).2 ∈ q2:=fun h=>h hb
     repeat' (first|(refine gU ?_;first|(refine aP ?_;refine st (au rfl) rfl rfl ?_)|(refine aI ?_;refine st (aA rfl) rfl rfl ?_)|(refine gFA ?_;refine st (aB rfl) rfl rfl ?_)|(refine aU ?_;refine st (ak rfl (by rfl)) rfl rfl ?_)|(refine iw ?_;refine st (dF rfl rfl (by omega)) rfl rfl ?_)|(refine bG ?_;refine st (aG rfl rfl rfl) rfl rfl ?_)|(refine fK ?_;refine st (bK rfl) rfl rfl ?_))|(refine fU ?_;first|refine frA (Hg rfl rfl (by omega)) rfl ?_|(refine gZ ?_;refine frA (au rfl) rfl ?_)|(refine fFA ?_;refine frA (aB rfl) rfl ?_)|(refine iH ?_;refine frA (ak rfl (by first|rfl|exact hc1|exact hc3)) rfl ?_)|(refine o7 ?_;refine frA (aG rfl rfl rfl) rfl ?_)|(refine kW ?_;refine frA (bH rfl rfl) rfl ?_)|(refine fIA ?_;first|refine frA (bZ rfl rfl (by omega)) rfl ?_|refine frA (bV rfl rfl (by omega) (by omega)) rfl ?_))|(refine fG ?_;first|(refine gZ ?_;refine fE rfl (au rfl) rfl ?_)|(refine fFA ?_;refine fE rfl (aB rfl) rfl ?_)|(refine iH ?_;refine fE rfl (ak rfl (by first|rfl|exact hc2)) rfl ?_)|(refine vS ?_;refine fE rfl (jf rfl) rfl ?_)|(refine fIA ?_;first|refine fE rfl (bZ rfl rfl (by omega)) rfl ?_|refine fE rfl (bV rfl rfl (by omega) (by omega)) rfl ?_)|(refine mQ ?_;refine fE rfl (bC rfl rfl rfl (by exact hin)) rfl ?_))|(refine fD ⟨by kernel_rfl,?_⟩)|refine aS ?_|refine aj ?_|refine dH (by kernel_rfl) rfl ?_|refine ah ?_|refine bg ?_|refine fH ?_|refine aW ?_|refine aO ?_|refine aQ rfl ?_|refine aN rfl ?_)
     refine ⟨rfl,(k+1,q2),⟨by simp only;omega,hq2,⟨e,hq2e.symm⟩,fun j hj hje=>?_⟩,by simp only;omega,.same ⟨rfl,rfl,rfl,rfl,trivial⟩⟩
     rcases hall j hj with h|h
     ·subst h;exact hb
     ·exact hcl2 j h hje
    ·have hlen:(q2++[(gf S.f k).2]).length=q2.length+1:=by simp
     have hsn:=hq2.snoc haq hmem hb
     repeat' (first|(refine gU ?_;first|(refine aP ?_;refine st (au rfl) rfl rfl ?_)|(refine aI ?_;refine st (aA rfl) rfl rfl ?_)|(refine gFA ?_;refine st (aB rfl) rfl rfl ?_)|(refine aU ?_;refine st (ak rfl (by first|rfl|exact hc2)) rfl rfl ?_)|(refine iw ?_;refine st (dF rfl rfl (by omega)) rfl rfl ?_)|(refine bG ?_;refine st (aG rfl rfl rfl) rfl rfl ?_)|(refine fK ?_;refine st (bK rfl) rfl rfl ?_)|(refine gIA ?_;first|refine st (bZ rfl rfl (by omega)) rfl rfl ?_|refine st (bV rfl rfl (by omega) (by omega)) rfl rfl ?_)|(refine nI ?_;refine st (kM (by rfl) (by rfl) (by rfl) (by rfl) rfl (by rfl)) rfl rfl ?_)|(refine EJ ?_;refine st (fZ (by rfl) (by rfl) rfl (by rfl) (by exact hil2) rfl (by rfl) (by omega) (by rfl) (by omega) (by omega)) rfl rfl ?_))|(refine fU ?_;first|refine frA (Hg rfl rfl (by omega)) rfl ?_|(refine gZ ?_;refine frA (au rfl) rfl ?_)|(refine fFA ?_;refine frA (aB rfl) rfl ?_)|(refine iH ?_;refine frA (ak rfl (by first|rfl|exact hc1|exact hc3)) rfl ?_)|(refine o7 ?_;refine frA (aG rfl rfl rfl) rfl ?_)|(refine kW ?_;refine frA (bH rfl rfl) rfl ?_)|(refine fIA ?_;first|refine frA (bZ rfl rfl (by omega)) rfl ?_|refine frA (bV rfl rfl (by omega) (by omega)) rfl ?_))|(refine fG ?_;first|(refine gZ ?_;refine fE rfl (au rfl) rfl ?_)|(refine fFA ?_;refine fE rfl (aB rfl) rfl ?_)|(refine iH ?_;refine fE rfl (ak rfl (by first|rfl|exact hc2)) rfl ?_)|(refine vS ?_;refine fE rfl (jf rfl) rfl ?_)|(refine fIA ?_;first|refine fE rfl (bZ rfl rfl (by omega)) rfl ?_|refine fE rfl (bV rfl rfl (by omega) (by omega)) rfl ?_)|(refine mQ ?_;refine fE rfl (bC rfl rfl rfl (by exact hin)) rfl ?_))|(refine fD ⟨by kernel_rfl,?_⟩)|refine aS ?_|refine aj ?_|refine dH (by kernel_rfl) rfl ?_|refine ah ?_|refine bg ?_|refine fH ?_|refine aW ?_|refine aO ?_|refine aQ rfl ?_)
     refine ⟨rfl,(k+1,q2++[(gf S.f k).2]),⟨by simp only;omega,hsn,⟨e++[(gf S.f k).2],by rw [← hq2e];simp⟩,fun j hj hje=>?_⟩,by simp only;omega,bT.src [.ro (ints S.d),.ro (pc S.f),.ro (ints S.s),.rw (shL 0 1 2 S)] [.gr (ints (q2++[(gf S.f k).2])) 3] [6] (by simp) rfl (TL S) rfl rfl ⟨qC rfl (by rw [uP];rfl) (aK _),trivial⟩ (by (repeat' (first|exact trivial|refine ⟨bD rfl rfl,?_⟩|refine ⟨aV (m:=4) rfl (fun i hi=>aY hi) (by simp) (by rfl) rfl,?_⟩|refine ⟨vF (by rw [hlen];rfl) (by simp) rfl,?_⟩)))⟩
     rcases hall j hj with h|h
     ·subst h;simp
     ·exact List.mem_append_left _ (hcl2 j h hje)
   ·repeat' (first|(refine gU ?_;first|(refine aP ?_;refine st (au rfl) rfl rfl ?_)|(refine aI ?_;refine st (aA rfl) rfl rfl ?_)|(refine gFA ?_;refine st (aB rfl) rfl rfl ?_)|(refine aU ?_;refine st (ak rfl (by rfl)) rfl rfl ?_)|(refine iw ?_;refine st (dF rfl rfl (by omega)) rfl rfl ?_)|(refine bG ?_;refine st (aG rfl rfl rfl) rfl rfl ?_)|(refine fK ?_;refine st (bK rfl) rfl rfl ?_))|(refine fU ?_;first|refine frA (Hg rfl rfl (by omega)) rfl ?_|(refine gZ ?_;refine frA (au rfl) rfl ?_)|(refine fFA ?_;refine frA (aB rfl) rfl ?_)|(refine iH ?_;refine frA (ak rfl (by first|rfl|exact hc1|exact hc3)) rfl ?_)|(refine o7 ?_;refine frA (aG rfl rfl rfl) rfl ?_)|(refine kW ?_;refine frA (bY rfl rfl) rfl ?_)|(refine fIA ?_;first|refine frA (bZ rfl rfl (by omega)) rfl ?_|refine frA (bV rfl rfl (by omega) (by omega)) rfl ?_))|(refine fG ?_;refine EK rfl rfl ?_)|(refine fD ⟨by kernel_rfl,?_⟩)|refine aS ?_|refine aj ?_|refine dH (by kernel_rfl) rfl ?_|refine ah ?_|refine bg ?_|refine fH ?_|refine aW ?_|refine aO ?_|refine aQ rfl ?_|refine aN rfl ?_)
    refine ⟨rfl,(k+1,q2),⟨by simp only;omega,hq2,⟨e,hq2e.symm⟩,fun j hj hje=>?_⟩,by simp only;omega,.same ⟨rfl,rfl,rfl,rfl,trivial⟩⟩
    rcases hall j hj with h|h
    ·subst h;exact absurd hje ha
    ·exact hcl2 j h hje
  ·repeat' (first|(refine gU ?_;first|(refine aP ?_;refine st (au rfl) rfl rfl ?_)|(refine aI ?_;refine st (aA rfl) rfl rfl ?_)|(refine gFA ?_;refine st (aB rfl) rfl rfl ?_)|(refine aU ?_;refine st (ak rfl (by rfl)) rfl rfl ?_)|(refine iw ?_;refine st (dF rfl rfl (by omega)) rfl rfl ?_)|(refine bG ?_;refine st (aG rfl rfl rfl) rfl rfl ?_)|(refine fK ?_;refine st (bK rfl) rfl rfl ?_))|refine aS ?_|refine aj ?_|refine ah ?_|refine bg ?_|refine jd ?_|refine fH ?_|refine eG rfl ?_|refine dW ?_|refine aN rfl ?_)
   refine ⟨rfl,(i+1,q2),⟨by simp only;omega,hq2,fun j hj k' hk' hje=>?_⟩,by simp only;omega,.same ⟨rfl,rfl,rfl,trivial⟩⟩
   simp only at hj hje ⊢
   by_cases hji:j=i
   ·subst hji;exact hcl2 k' (by omega) (by rw [hje,hgi])
   ·have hjq:j<q.length:=by omega
    have e1:gi q2 j=gi q j:=by rw [← hq2e];exact PE hjq
    have:=hcl j (by omega) k' hk' (by rw [hje,e1])
    rw [← hq2e];exact List.mem_append_left _ this
 have hiff:=hq.iff fun j hj=>hcl j (by omega)
 have hrB:∀ k:Nat,(k:Int) ∈ q↔rB S k=true:=fun k=>by rw [hiff,lQ]
 repeat' (first|(refine gU ?_;first|(refine aP ?_;refine st (au rfl) rfl rfl ?_)|(refine aI ?_;refine st (aA rfl) rfl rfl ?_)|(refine bG ?_;refine st (aG rfl rfl rfl) rfl rfl ?_)|(refine fK ?_;refine st (vC rfl) rfl rfl ?_))|refine aS ?_|refine aj ?_|refine ah ?_|refine bg ?_|refine jd ?_|refine eG rfl ?_|refine dW ?_|refine aO ?_|refine aN rfl ?_)
 refine iD (ι:=Nat) (fun k=>[(1,.pointer (some ⟨3,0,none⟩)),(4,dL 4 1 q.length),(7,dL 5 1 (rL S k).length),(8,.int .i64 (k:Int))])
  (fun k=>[.ro (ints S.d),.ro (pc S.f),.ro (ints S.s),.rw (shL 0 1 2 S),.gr (ints q) 3,.gr (ints (rL S k)) 3]) (fun k=>S.d.length - k) (fun k=>k≤S.d.length) 0 (by simp) (bT.src [.ro (ints S.d),.ro (pc S.f),.ro (ints S.s),.rw (shL 0 1 2 S),.gr (ints q) 3] [.gr [] 3] [5] (by simp) rfl (TM S q) rfl rfl ⟨sG,trivial⟩ (by (repeat' (first|exact trivial|refine ⟨bD rfl rfl,?_⟩|refine ⟨aV (m:=5) rfl (fun i hi=>aY hi) (by simp) (by rfl) rfl,?_⟩|refine ⟨aV (m:=5) rfl (fun i hi=>aY hi) (by simp) (jV rfl) rC,?_⟩)))) (by omega) ?_
 clear hil hcl hrs
 intro k hk
 have hkl:=Ec S k
 have hil3:(ints (rL S k)).length=(rL S k).length*1:=by simp [ints]
 have hs:rL S (k+1)=if rB S k=true then rL S k++[(k:Int)] else rL S k:=rfl
 have hin:=MZ (σ:=[.ro (ints S.d),.ro (pc S.f),.ro (ints S.s),.rw (shL 0 1 2 S),.gr (ints q) 3,.gr (ints (rL S k)) 3]) (l:=q) (p:=(k:Int)) (x:=4) (o:=0) (v:=dL 4 1 q.length) (qp (.inr (.inr ⟨_,rfl⟩))) KR (by omega) rfl
 by_cases hkd:k<S.d.length
 ·generalize hKL:rL S k=KL at *
  by_cases hb:(k:Int) ∈ q
  ·rw [if_pos ((hrB k).1 hb)] at hs
   have hlen:(rL S (k+1)).length=KL.length+1:=by rw [hs];simp
   have hcs:ints (rL S (k+1))=ints KL++[.int .i64 (k:Int)]:=by rw [hs,uP]
   repeat' (first|(refine gU ?_;first|(refine aP ?_;refine st (au rfl) rfl rfl ?_)|(refine aI ?_;refine st (aA rfl) rfl rfl ?_)|(refine gFA ?_;refine st (aB rfl) rfl rfl ?_)|(refine aU ?_;refine st (ak rfl (by rfl)) rfl rfl ?_)|(refine iw ?_;refine st (dF rfl rfl (by omega)) rfl rfl ?_)|(refine bG ?_;refine st (aG rfl rfl rfl) rfl rfl ?_)|(refine fK ?_;refine st (bK rfl) rfl rfl ?_)|(refine fC ?_;refine st (bC rfl rfl rfl (by exact hin)) rfl rfl ?_)|(refine nI ?_;refine st (kM (by rfl) (by rfl) (by rfl) (by rfl) rfl (by rfl)) rfl rfl ?_)|(refine EJ ?_;refine st (fZ (by rfl) (by rfl) rfl (by rfl) (by exact hil3) rfl (by rfl) (by omega) (by rfl) (by omega) (by omega)) rfl rfl ?_))|refine aS ?_|refine aj ?_|refine ah ?_|refine bg ?_|refine fH ?_|refine aW ?_|refine aO ?_|refine aQ rfl ?_)
   exact ⟨rfl,k+1,by omega,by omega,bT.src [.ro (ints S.d),.ro (pc S.f),.ro (ints S.s),.rw (shL 0 1 2 S),.gr (ints q) 3] [.gr (ints (rL S (k+1))) 3] [7] (by simp) rfl (TM S q) rfl rfl ⟨qC rfl (by rw [hcs];rfl) (aK _),trivial⟩ (by (repeat' (first|exact trivial|refine ⟨bD rfl rfl,?_⟩|refine ⟨aV (m:=5) rfl (fun i hi=>aY hi) (by simp) (by rfl) rfl,?_⟩|refine ⟨aV (m:=5) rfl (fun i hi=>aY hi) (by simp) (jV rfl) rC,?_⟩|refine ⟨vF (by rw [hlen];rfl) (by simp) rfl,?_⟩)))⟩
  ·rw [if_neg (fun h=>hb ((hrB k).2 h))] at hs
   repeat' (first|(refine gU ?_;first|(refine aP ?_;refine st (au rfl) rfl rfl ?_)|(refine aI ?_;refine st (aA rfl) rfl rfl ?_)|(refine gFA ?_;refine st (aB rfl) rfl rfl ?_)|(refine aU ?_;refine st (ak rfl (by rfl)) rfl rfl ?_)|(refine iw ?_;refine st (dF rfl rfl (by omega)) rfl rfl ?_)|(refine bG ?_;refine st (aG rfl rfl rfl) rfl rfl ?_)|(refine fK ?_;refine st (bK rfl) rfl rfl ?_)|(refine fC ?_;refine st (bC rfl rfl rfl (by exact hin)) rfl rfl ?_))|refine aS ?_|refine aj ?_|refine ah ?_|refine bg ?_|refine fH ?_|refine aW ?_|refine aO ?_|refine aQ rfl ?_|refine aN rfl ?_)
   refine ⟨rfl,k+1,by omega,by omega,?_⟩
   rw [hs]
   exact .same ⟨rfl,rfl,rfl,rfl,trivial⟩
 ·obtain rfl:k=S.d.length:=by omega
  generalize rL S S.d.length=KL at *
  repeat' (first|(refine gU ?_;first|(refine aP ?_;refine st (au rfl) rfl rfl ?_)|(refine aI ?_;refine st (aA rfl) rfl rfl ?_)|(refine gFA ?_;refine st (aB rfl) rfl rfl ?_)|(refine aU ?_;refine st (ak rfl (by rfl)) rfl rfl ?_)|(refine bG ?_;refine st (aG rfl rfl rfl) rfl rfl ?_)|(refine fK ?_;refine st (bK rfl) rfl rfl ?_))|refine aS ?_|refine aj ?_|refine ah ?_|refine bg ?_|refine jd ?_|refine eG rfl ?_|refine dW ?_|refine dX ?_|refine aN rfl ?_)
  exact iF (.tmp rfl (.tmp rfl .nil)) (RD (j:=5) rfl (aK KL) (.inr ⟨3,rfl⟩) rfl rfl) ⟨rfl,rfl⟩
theorem refReached_ev {σ:Heap} {S:Shp} {x y z:Nat} {v:Value} (h:SAt σ x y z S) (hv:ShS x y z S v) (hS:S.fit) (hni:σ.all (fun o=>!dB o)=true) :
  Ev Try.prog 16 [v] σ (.tuple #[sl σ.length (fO S).length,.int .i64 (dG S)]) (σ++[.rw (ints (fO S))]):=by
 refine Ev.arrsN S.css [x,y,z] (xW S hS) h.arrs ⟨hv,trivial⟩ S.css_plain rfl ?_ ?_ hni
 ·simp [ren,uo,vP,shf]
 ·simp only [List.map_cons,List.map_nil,sW,lu _ (aK _)]
end Go.Proofs.Ytomioaiojidnbaa
namespace Go.AH.Dust
open Go Go.AH
def minK (l:List Int):Nat→Int
 |0=>gi l 0
 |k+1=>min (minK l k) (gi l (k+1))
def maxK (l:List Int):Nat→Int
 |0=>gi l 0
 |k+1=>max (maxK l k) (gi l (k+1))
abbrev chain (S:Shp) (l:List Int):Prop:=∀ i,i<l.length→0<i→(gi l (i - 1),gi l i) ∈ S.f
abbrev okW (S:Shp) (l:List Int):Prop:=∀ i,i<l.length→isW S (gi l i)
def PG (S:Shp) (g:Int→Bool) (l:List Int):Int:=if l.length=0∨l.length > 100 then 6 else if ¬ okW S l then 3 else if g (gi l 0)=true∧chain S l then 0 else 16
def yE (S:Shp) (l:List Int):Nat→Int
 |0=>0
 |k+1=>yE S l k+gi S.d (gi l k).toNat
def Tc (S:Shp) (g:Int→Bool) (l:List Int):Int:=if PG S g l=0 then yE S l l.length else 0
end Go.AH.Dust
namespace Go.Proofs.Ytomioaiojidnbaa
open Go Go.AH
attribute [local irreducible] dO dI dM kK iM gK iC dV iJ dQ iK iE
set_option maxRecDepth 100000
set_option maxHeartbeats 1000000
open Go.AH.Dust
end Go.Proofs.Ytomioaiojidnbaa
namespace Go.AH.Dust
open Go Go.AH
noncomputable def RF (S:Shp) (n:Int):Bool:=decide (n ∈ S.s)
noncomputable def PI (S:Shp) (n:Int):Bool:=rB S n.toNat
noncomputable def planE (S:Shp) (l:List Int):Int:=if dG S=0 then PG S (RF S) l else dG S
noncomputable def planV (S:Shp) (l:List Int):Int:=if dG S=0 then Tc S (RF S) l else 0
noncomputable def Td (S:Shp) (l:List Int):Int:=if dG S=0 then PG S (PI S) l else dG S
noncomputable def TN (S:Shp) (l:List Int):Int:=if dG S=0 then Tc S (PI S) l else 0
def LS (w k:Nat) (v:Value):Prop:=∀ (n i:Nat) (π:Rho),i<n→π i=⟨w,0,0⟩→jv n π (sl i k) v
theorem ls_slv {w sz k:Nat}:LS w k (dL w sz k):=fun _n _i _π hi hp=>dw hi hp
end Go.AH.Dust
namespace Go.Proofs.Ytomioaiojidnbaa
open Go Go.AH
attribute [local irreducible] dO dI dM kK iM gK iC dV iJ dQ iK iE
set_option maxRecDepth 100000
set_option maxHeartbeats 1000000
open Go.AH.Dust
end Go.Proofs.Ytomioaiojidnbaa
namespace Go.Proofs.Ytomioaiojidnbaa
open Go Go.AH
attribute [local irreducible] dO dI dM kK iM gK iC dV iJ dQ iK iE
set_option maxRecDepth 100000
set_option maxHeartbeats 1000000
open Go.AH.Dust
theorem vsub_fnq {n:Nat} {π:Rho} {f:FuncId} {a a':Value} (h1:jv n π a a'):jv n π (.func (.func f) #[] #[a]) (.func (.func f) #[] #[a']):=by
 refine .func f _ _ _ _ rfl rfl (fun i h _=>by simp at h) (fun i h _=>?_)
 match i,h with
 |0,_=>exact h1
end Go.Proofs.Ytomioaiojidnbaa
namespace Go.AH.Tail
open Go Go.AH
def Cl (σ:Heap):Prop:=∀ (i:Nat) (o:cu),σ[i]?=some o→fJ σ.length o
def ECl (n:Nat) (e:Env):Prop:=∀ t v,Env.get e t=some v→closed n v=true∧okV v=true
theorem orel_low {G G':Nat→Prop} {n m:Nat} {ρ:Rho} {w:World} {p:Pl} {o:cu} (h:yP G m ρ w p o) (hc:fJ n o) (hg:∀ b,G b→G' b) (hg':o.owned→¬ G' p.b):yP G' n ρ w p o:=by
 cases o with
 |dead=>trivial
 |ro cs =>
  intro hne
  obtain ⟨g,h2⟩:=h hne
  refine ⟨hg _ g,fun k hk=>?_⟩
  obtain ⟨v',h3,h4⟩:=h2 k hk
  exact ⟨v',h3,kZ h4 ((jG n cs).1 hc.1 _ (List.getElem_mem hk))⟩
 |rw cs =>
  intro hne
  obtain ⟨_,ho,rc,t,h3,h4,h5⟩:=h hne
  exact ⟨hg' hne,ho,rc,t,h3,h4,fun k hk hk'=>kZ (h5 k hk hk') ((jG n cs).1 hc.1 _ (List.getElem_mem hk))⟩
 |gr cs e =>
  intro hne
  obtain ⟨_,ho,rc,h3,hs,h4,h5⟩:=h hne
  exact ⟨hg' hne,ho,rc,h3,hs,h4,fun k hk hk'=>kZ (h5 k hk hk') ((jG n cs).1 hc.1 _ (List.getElem_mem hk))⟩
 |dfr=>exact ⟨hg' trivial,h.2⟩
 |loop st pend N e params assign body =>
  obtain ⟨_,r,h1,h2,h3,h4,h5,h6,h8⟩:=h
  refine ⟨hg' trivial,r,h1,h2,h3,h4,h5,h6,h8.1,fun t v hv=>?_⟩
  obtain ⟨v',a,b⟩:=h8.2 t v hv
  exact ⟨v',a,kZ b (hc t v hv).1⟩
 |map es =>
  obtain ⟨_,ents,clock,h3,h4,h5,h6⟩:=h
  refine ⟨hg' trivial,ents,clock,h3,h4,fun i hi hi'=>?_,h6⟩
  obtain ⟨a,b,c,d⟩:=h5 i hi hi'
  exact ⟨a,b,kZ c (hc _ (List.getElem_mem hi)).1,d⟩
 |iter m seen=>exact ⟨hg' trivial,hc,h.2.2⟩
 |deep qs sp =>
  refine ⟨fun hq=>?_,fun x hx=>?_⟩
  ·obtain ⟨h1,h2⟩:=h.1 hq
   refine ⟨hg _ h1,fun k hk=>?_⟩
   obtain ⟨v',h3,h4⟩:=h2 k hk
   exact ⟨v',h3,nC h4 hg (fun _ _ _ hy=>hy)⟩
  ·obtain ⟨h1,v',h3,h4⟩:=h.2 x hx
   exact ⟨hg _ h1,v',h3,kZ h4 (hc x hx).1⟩
def dfs (k:Nat):Heap:=List.replicate k .dfr
theorem xJ (σ:Heap) (k:Nat):(σ++dfs k).length=σ.length+k:=by simp [dfs]
theorem xK {σ:Heap} {k i:Nat} {o:cu} (h:(σ++dfs k)[i]?=some o):(i < σ.length∧σ[i]?=some o)∨(σ.length≤i∧i < σ.length+k∧o=.dfr):=by
 by_cases hi:i < σ.length
 ·rw [List.getElem?_append_left hi] at h;exact .inl ⟨hi,h⟩
 ·rw [List.getElem?_append_right (by omega)] at h
  simp only [dfs,List.getElem?_replicate] at h
  split at h
  ·cases h;exact .inr ⟨by omega,by omega,rfl⟩
  ·cases h
theorem Aq {σ:Heap} {k i:Nat} (h1:σ.length≤i) (h2:i < σ.length+k):(σ++dfs k)[i]?=some .dfr:=by
 rw [List.getElem?_append_right h1]
 simp only [dfs,List.getElem?_replicate]
 rw [if_pos (by omega)]
theorem Au {σ:Heap} {k i:Nat} {o:cu} (h:σ[i]?=some o):(σ++dfs k)[i]?=some o:=by
 rw [List.getElem?_append_left (iP h)];exact h
theorem Ce (σ:Heap) (k j:Nat):σ++dfs k++dfs j=σ++dfs (k+j):=by
 rw [List.append_assoc];simp [dfs,List.replicate_append_replicate]
def TOk (n k:Nat) (T:List Nat):Prop:=T.Nodup∧∀ t ∈ T,n≤t∧t<n+k
def Ee (n m:Nat) (T:List Nat):List Nat:=T.map fun t=>t - n+m
theorem Ef {f:Nat→Nat}:∀ {T:List Nat},T.Nodup→(∀ x ∈ T,∀ y ∈ T,f x=f y→x=y)→(T.map f).Nodup
 |[],_,_=>List.nodup_nil
 |a::T,h,hi=>by
  have h':=List.nodup_cons.1 h
  rw [List.map_cons,List.nodup_cons]
  refine ⟨fun hm=>?_,Ef h'.2 fun x hx y hy=>hi x (by simp [hx]) y (by simp [hy])⟩
  obtain ⟨b,hb,he⟩:=List.mem_map.1 hm
  exact h'.1 (by rw [← hi b (by simp [hb]) a (by simp) he];exact hb)
def xX (n:Nat) (ρ':Rho) (m:Nat) (ρ:Rho):Rho:=fun i=>if i<n then ρ' i else ρ (i - n+m)
theorem Jm {n m i:Nat} {ρ ρ':Rho} (h:i<n):xX n ρ' m ρ i=ρ' i:=if_pos h
theorem Jo {n m i:Nat} {ρ ρ':Rho} (h:n≤i):xX n ρ' m ρ i=ρ (m+(i - n)):=by
 unfold xX;rw [if_neg (by omega),Nat.add_comm]
theorem TOk.shift {n k m:Nat} {T:List Nat} (h:TOk n k T):TOk m k (Ee n m T):=by
 refine ⟨?_,fun t ht=>?_⟩
 ·exact Ef h.1 fun x hx y hy he=>by have:=h.2 x hx;have:=h.2 y hy;omega
 ·obtain ⟨u,hu,rfl⟩:=List.mem_map.1 ht
  have:=h.2 u hu;omega
theorem TOk.app {n k j:Nat} {T U:List Nat} (h:TOk n k T) (h':TOk (n+k) j U):TOk n (k+j) (T++U):=by
 refine ⟨List.nodup_append.2 ⟨h.1,h'.1,fun a ha b hb=>?_⟩,fun t ht=>?_⟩
 ·have:=h.2 a ha;have:=h'.2 b hb;omega
 ·rcases List.mem_append.1 ht with ht|ht
  ·have:=h.2 t ht;omega
  ·have:=h'.2 t ht;omega
section
variable {P:Program} {n0 N:Nat} {G:Nat→Prop} {w0:World} {ρ0:Rho} {e:Env} {mk T:List Nat} {σ:Heap} {k:Nat} {A:Act} {w:World}
theorem Cl.of {ρ:Rho} (hs:Sim G w0 ρ σ w):Cl σ:=fun i o hi=>lg (hs.obj i o hi)
theorem ECl.of {n:Nat} {ρ:Rho} {tmps:Array Value} (h:yO n ρ N e tmps):ECl n e:=fun t v hv=>by
 obtain ⟨v',_,h2⟩:=h.2 t v hv
 exact ⟨oM h2,AX h2⟩
theorem Jp {b o:Nat} {ds:Option (List Deferred)} (h:w.heap[b]?=some (.deferred ds)):w.cell? ⟨b,o,none⟩=none:=by simp [World.cell?,h]
theorem Jq (hi:Inv n0 N G w0 ρ0 e (mk++T) (σ++dfs k) A w) (h0:n0≤σ.length) (hT:TOk σ.length k T) (hmk:∀ i ∈ mk,i < σ.length) (hc:Cl σ) (he:ECl σ.length e) :
  ∃ G' w0' ρ0',Inv n0 N G' w0' ρ0' e mk σ A w∧(∀ i<n0,ρ0' i=ρ0 i) ∧
   ∀ e' mk' σ' A' w',Inv n0 N G' w0' ρ0' e' mk' σ' A' w'→Inv n0 N G w0 ρ0 e' (mk'++Ee σ.length σ'.length T) (σ'++dfs k) A' w':=by
 obtain ⟨_,ρ,hag,hs,her⟩:=hi
 have hd:∀ t<k,yP G (σ++dfs k).length ρ w (ρ (σ.length+t)) .dfr:=fun t ht=>hs.obj _ _ (Aq (by omega) (by omega))
 have hG:∀ b,(G b∨∃ t<k,(ρ (σ.length+t)).b=b)→b<w.heap.size:=by
  rintro b (hb|⟨t,ht,rfl⟩)
  ·exact Nat.lt_of_lt_of_le (hs.fgn b hb).1 hs.size
  ·exact block_lt (hd t ht).2
 have hown:∀ i o,σ[i]?=some o→o.owned→¬ (G (ρ i).b∨∃ t<k,(ρ (σ.length+t)).b=(ρ i).b):=by
  rintro i o hio ho (hb|⟨t,ht,hb⟩)
  ·exact (fQ (hs.obj i o (Au hio)) ho).2 hb
  ·have:=hs.inj _ _ _ _ (Aq (by omega) (by omega:σ.length+t < σ.length+k)) (Au hio) trivial ho hb
   have:=iP hio;omega
 refine ⟨fun b=>G b∨∃ t<k,(ρ (σ.length+t)).b=b,w,rU n0 ρ0 (T.map (fun t=>(ρ t).b)++(List.range (ρ0 n0).b).map fun j=>(ρ0 (n0+1+j)).b),⟨h0,ρ,fun i hi=>(hag i hi).trans (ny hi).symm,⟨rfl,rfl,rfl,Nat.le_refl _,fun b hb=>⟨hG b hb,rfl⟩,fun i o hio=>?_,fun i j oi oj hi hj=>hs.inj i j oi oj (Au hi) (Au hj)⟩,⟨⟨her.tmps.1,fun t v hv=>?_⟩,?_,hmk⟩⟩,fun i hi=>ny hi,?_⟩
 ·exact orel_low (hs.obj i o (Au hio)) (hc i o hio) (fun b hb=>.inl hb) (hown i o hio)
 ·obtain ⟨v',h1,h2⟩:=her.tmps.2 t v hv
  exact ⟨v',h1,kZ h2 (he t v hv).1⟩
 ·rw [her.mks,rW,List.map_append,List.map_append,List.append_assoc,List.map_map,List.map_map]
  rfl
 ·rintro e' mk' σ' A' w' ⟨g0,ρ',hag',hs',her'⟩
  have hlen:=xJ σ' k
  have hw:∀ t<k,w'.heap[(ρ (σ.length+t)).b]?=some (.deferred (some [])):=fun t ht=>by
   rw [(hs'.fgn _ (.inr ⟨t,ht,rfl⟩)).2];exact (hd t ht).2
  have elo:∀ i < σ'.length,xX σ'.length ρ' σ.length ρ i=ρ' i:=fun i hi=>Jm hi
  have ehi:∀ i,σ'.length≤i→xX σ'.length ρ' σ.length ρ i=ρ (σ.length+(i - σ'.length)):=fun i hi=>Jo hi
  refine ⟨by omega,xX σ'.length ρ' σ.length ρ,fun i hi=>?_,⟨hs'.os.trans hs.os,hs'.tape.trans hs.tape,hs'.output.trans hs.output,Nat.le_trans hs.size hs'.size,fun b hb=>?_,fun i o hio=>?_,fun i j oi oj hi hj hoi hoj hij=>?_⟩,⟨?_,?_,fun i hi=>?_⟩⟩
  ·rw [elo i (by omega)]
   exact (hag' i hi).trans (ny hi)
  ·have h1:=hs'.fgn b (.inl hb)
   have h2:=hs.fgn b hb
   exact ⟨h2.1,h1.2.trans h2.2⟩
  ·rcases xK hio with ⟨hi,hio⟩|⟨hi1,hi2,rfl⟩
   ·rw [elo i hi]
    have h1:=hs'.obj i o hio
    have h2:yP G σ'.length ρ' w' (ρ' i) o:=by
     cases o with
     |dead=>trivial
     |ro cs =>
      intro hne
      obtain ⟨g,h2⟩:=h1 hne
      refine ⟨g.resolve_right ?_,h2⟩
      rintro ⟨t,ht,hb⟩
      obtain ⟨v',h3,_⟩:=h2 0 (by cases cs with|nil=>exact absurd rfl hne|cons=>simp)
      rw [Jp (by rw [← hb];exact hw t ht)] at h3;cases h3
     |rw cs=>intro hne;obtain ⟨g,h2⟩:=h1 hne;exact ⟨fun hb=>g (.inl hb),h2⟩
     |gr cs e=>intro hne;obtain ⟨g,h2⟩:=h1 hne;exact ⟨fun hb=>g (.inl hb),h2⟩
     |dfr=>exact ⟨fun hb=>h1.1 (.inl hb),h1.2⟩
     |loop st pend N e params assign body=>exact ⟨fun hb=>h1.1 (.inl hb),h1.2⟩
     |map es=>exact ⟨fun hb=>h1.1 (.inl hb),h1.2⟩
     |iter m seen=>exact ⟨fun hb=>h1.1 (.inl hb),h1.2⟩
     |deep qs sp =>
      have hG':∀ {b o:Nat} {v':Value},(G b∨∃ t<k,(ρ (σ.length+t)).b=b)→w'.cell? ⟨b,o,none⟩=some v'→G b:=fun {b o v'} g h3=>by
       refine g.resolve_right ?_
       rintro ⟨t,ht,hb⟩
       rw [Jp (by rw [← hb];exact hw t ht)] at h3;cases h3
      refine ⟨fun hq=>?_,fun x hx=>?_⟩
      ·obtain ⟨g1,g2⟩:=h1.1 hq
       obtain ⟨v0,g3,_⟩:=g2 0 (List.length_pos_iff.2 hq)
       refine ⟨hG' g1 g3,fun m hm=>?_⟩
       obtain ⟨v',g4,a,cap,g5,g6,g7⟩:=g2 m hm
       refine ⟨v',g4,a,cap,g5,g6,fun hqm=>?_⟩
       obtain ⟨b,o,g8,g9,g10⟩:=g7 hqm
       exact ⟨b,o,g8,hG' g9 (g10 0 (List.length_pos_iff.2 hqm)),g10⟩
      ·obtain ⟨g1,v',g3,g4⟩:=h1.2 x hx
       exact ⟨hG' g1 g3,v',g3,g4⟩
    exact lJ h2 (by omega) elo (fun _ h=>h) (fun _ _ _ _ h=>h) (fun _ _ _ h=>h)
   ·rw [ehi i hi1]
    exact ⟨(hd _ (by omega)).1,hw _ (by omega)⟩
  ·rcases xK hi with ⟨hi1,hi⟩|⟨hi1,hi2,rfl⟩ <;> rcases xK hj with ⟨hj1,hj⟩|⟨hj1,hj2,rfl⟩
   ·rw [elo i hi1,elo j hj1] at hij
    exact hs'.inj i j oi oj hi hj hoi hoj hij
   ·exfalso
    rw [elo i hi1,ehi j hj1] at hij
    exact (fQ (hs'.obj i oi hi) hoi).2 (.inr ⟨_,by omega,hij.symm⟩)
   ·exfalso
    rw [elo j hj1,ehi i hi1] at hij
    exact (fQ (hs'.obj j oj hj) hoj).2 (.inr ⟨_,by omega,hij⟩)
   ·rw [ehi i hi1,ehi j hj1] at hij
    have:=hs.inj _ _ _ _ (Aq (by omega) (by omega)) (Aq (σ:=σ) (k:=k) (by omega) (by omega)) trivial trivial hij
    omega
  ·exact rJ her'.tmps (by omega) elo
  ·rw [her'.mks,rW,List.map_append,List.map_append,← List.append_assoc]
   congr 1
   ·congr 1
    ·exact List.map_congr_left fun i hi=>by rw [elo i (her'.mkb i hi)]
    ·simp only [Ee,List.map_map]
     refine List.map_congr_left fun t ht=>?_
     have:=hT.2 t ht
     simp only [Function.comp_apply]
     rw [ehi _ (by omega),show σ.length+(t - σ.length+σ'.length - σ'.length)=t by omega]
   ·rw [List.map_map];rfl
  ·rcases List.mem_append.1 hi with hi|hi
   ·have:=her'.mkb i hi;omega
   ·have:=hT.shift (m:=σ'.length) |>.2 i hi;omega
end
def Tl (n0:Nat) (K:Env→List Nat→Heap→Prop):Prop:=∀ e mk σ k T,K e mk σ→n0≤σ.length→Cl σ→ECl σ.length e→(∀ i ∈ mk,i < σ.length)→TOk σ.length k T→K e (mk++T) (σ++dfs k)
def zA (n0:Nat) (Q:Post):Prop:=∀ ex,Tl n0 (Q ex)
section
variable {P:Program} {n0 N:Nat} {rd:Option Nat} {Q:Post}
theorem oG {c:Code} (hrd:qM rd n0=true) (hQ:zA n0 Q):Tl n0 (dI P n0 N rd c Q):=by
 intro e mk σ k T h h0 hc he hmk hT G w0 ρ0 A w hi
 obtain ⟨G',w0',ρ0',h1,h2,h3⟩:=Jq hi h0 hT hmk hc he
 have h4:=h G' w0' ρ0' A w h1
 rw [jX (ρ:=ρ0) (ρ':=ρ0') fun l hl=>h2 l (lG hrd l hl)] at h4
 refine wpIn_mono h4 ?_
 rintro ex A' w' ⟨e',mk',σ',q,hi'⟩
 have hi2:=hi'
 obtain ⟨g0,ρ',_,hs',her'⟩:=hi2
 exact ⟨e',_,_,hQ ex e' mk' σ' k _ q g0 (Cl.of hs') (ECl.of her'.tmps) her'.mkb hT.shift,h3 _ _ _ _ _ hi'⟩
theorem jO {K:Env→List Nat→Heap→Prop} (hK:Tl n0 K) (hQ:zA n0 Q):zA n0 (iM K Q):=fun ex=>by
 cases ex with
 |normal=>exact hK
 |_=>exact hQ _
theorem jw {id:Nat} (hQ:zA n0 Q):zA n0 (gK id Q):=fun ex=>by
 cases ex with
 |exit id' =>
  intro e mk σ k T h h0 hc he hmk hT
  change (if id'=id then Q .normal e mk σ else Q (.exit id') e mk σ) at h
  change (if id'=id then Q .normal e (mk++T) (σ++dfs k) else Q (.exit id') e (mk++T) (σ++dfs k))
  by_cases hid:id'=id
  ·rw [if_pos hid] at h ⊢;exact hQ _ _ _ _ _ _ h h0 hc he hmk hT
  ·rw [if_neg hid] at h ⊢;exact hQ _ _ _ _ _ _ h h0 hc he hmk hT
 |_=>exact hQ _
theorem Eh (hQ:zA n0 Q):zA n0 (iC Q):=fun ex=>by
 cases ex with
 |goto l=>intro e mk σ k T h;exact h.elim
 |_=>exact hQ _
theorem Bo:∀ (mk:List Nat) (σ X:Heap),(∀ i ∈ mk,i < σ.length)→ji mk (σ++X)=ji mk σ++X
 |[],_,_,_=>rfl
 |i::mk,σ,X,h=>by
  simp only [ji]
  rw [List.set_append_left _ _ (h i (by simp)),Bo mk (σ.set i .dead) X fun j hj=>by rw [List.length_set];exact h j (by simp [hj])]
theorem killAll_two (mk T:List Nat) (σ:Heap):ji (mk++T) σ=ji T (ji mk σ):=by
 induction mk generalizing σ with
 |nil=>rfl
 |cons i mk ih=>exact ih _
theorem zB:∀ (T:List Nat) (σ X:Heap),(∀ t ∈ T,σ.length≤t)→∃ Y,ji T (σ++X)=σ++Y
 |[],_,X,_=>⟨X,rfl⟩
 |t::T,σ,X,h=>by
  simp only [ji]
  rw [List.set_append_right _ _ (h t (by simp))]
  exact zB T σ _ fun u hu=>h u (by simp [hu])
theorem cellsAt_app {σ:Heap} {b o n:Nat} {cs:List Value} (X:Heap) (h:dh σ b o n=some cs):dh (σ++X) b o n=some cs:=by
 have hb:b < σ.length:=by
  apply Classical.byContradiction;intro hn
  have:σ[b]?=none:=List.getElem?_eq_none (by omega)
  simp only [dh,this] at h
  cases h
 have e1:(σ++X)[b]?=σ[b]?:=List.getElem?_append_left hb
 unfold dh at h ⊢
 rw [e1];exact h
theorem cellGet_app {σ:Heap} {b o:Nat} {v:Value} (X:Heap) (h:cZ σ b o=some v):cZ (σ++X) b o=some v:=by
 have hb:b < σ.length:=by
  apply Classical.byContradiction;intro hn
  have:σ[b]?=none:=List.getElem?_eq_none (by omega)
  simp only [cZ,this] at h
  cases h
 have e1:(σ++X)[b]?=σ[b]?:=List.getElem?_append_left hb
 unfold cZ at h ⊢
 rw [e1];exact h
theorem resok_app {e:Env} {σ:Heap} (X:Heap) {rv:List ResultVar} {vs:List Value} (h:pz P e σ rv vs):pz P e (σ++X) rv vs:=by
 induction h with
 |nil=>exact .nil
 |tmp h _ ih=>exact .tmp h ih
 |cellN ht h hc _ ih=>exact .cellN ht h (cellsAt_app X hc) ih
 |cell1 ht h hc _ ih=>exact .cell1 ht h (cellGet_app X hc) ih
theorem Jr {σ:Heap} {n:Nat} {π:Rho} {p:Pl} {o:cu} (X:Heap) (h:qU σ n π p o):qU (σ++X) n π p o:=by
 have g:∀ (i:Nat) (x:cu),σ[i]?=some x→(σ++X)[i]?=some x:=fun i x hx=>by rw [List.getElem?_append_left (iP hx)];exact hx
 cases o with
 |dead=>trivial
 |ro cs=>exact h.imp id fun ⟨c,h1,h2⟩=>⟨c,g _ _ h1,h2⟩
 |rw cs=>exact h.imp id fun ⟨h0,c,h1,h2⟩=>⟨h0,c,h1.imp (g _ _) fun ⟨t,ht⟩=>⟨t,g _ _ ht⟩,h2⟩
 |gr cs t=>exact h.imp id fun ⟨h0,c,h1,h2⟩=>⟨h0,c,g _ _ h1,h2⟩
 |dfr=>exact g _ _ h
 |loop st pend N e params assign body=>obtain ⟨e1,h1,h2⟩:=h;exact ⟨e1,g _ _ h1,h2⟩
 |map es=>obtain ⟨es',h1,h2⟩:=h;exact ⟨es',g _ _ h1,h2⟩
 |iter m seen=>exact ⟨h.1,g _ _ h.2.1,h.2.2⟩
 |deep qs sp=>exact ⟨h.1,h.2.1.imp id fun ⟨sp',h1⟩=>⟨sp',g _ _ h1⟩,fun x hx=>let ⟨q1,s1,h1,h2⟩:=h.2.2 x hx;⟨q1,s1,g _ _ h1,h2⟩⟩
theorem osub_mono {σ:Heap} {n m:Nat} {π π':Rho} {p:Pl} {o:cu} (h:qU σ n π p o) (hn:n≤m) (hπ:∀ i<n,π' i=π i):qU σ m π' p o:=by
 cases o with
 |dead=>trivial
 |ro cs=>exact h.imp id fun ⟨c,h1,h2⟩=>⟨c,h1,fun k hk=>let ⟨a,b⟩:=h2 k hk;⟨a,b.mono hn hπ⟩⟩
 |rw cs=>exact h.imp id fun ⟨h0,c,h1,h2,h3⟩=>⟨h0,c,h1,h2,fun k hk hk'=>(h3 k hk hk').mono hn hπ⟩
 |gr cs t=>exact h.imp id fun ⟨h0,c,h1,h2,h3⟩=>⟨h0,c,h1,h2,fun k hk hk'=>(h3 k hk hk').mono hn hπ⟩
 |dfr=>exact h
 |loop st pend N e params assign body =>
  obtain ⟨e1,h1,h2⟩:=h
  refine ⟨e1,h1,fun t v hv=>?_⟩
  obtain ⟨u,a,b⟩:=h2 t v hv
  exact ⟨u,a,b.mono hn hπ⟩
 |map es =>
  obtain ⟨es',h1,h2,h3⟩:=h
  exact ⟨es',h1,h2,fun i hi hi'=>⟨(h3 i hi hi').1,(h3 i hi hi').2.mono hn hπ⟩⟩
 |iter k seen=>exact ⟨Nat.lt_of_lt_of_le h.1 hn,by rw [hπ k h.1];exact h.2.1,h.2.2⟩
 |deep qs sp=>exact ⟨h.1,h.2.1,fun x hx=>let ⟨q1,s1,h1,v,h2,h3⟩:=h.2.2 x hx;⟨q1,s1,h1,v,h2,h3.mono hn hπ⟩⟩
theorem Js {m:Nat} {π:Rho} {σ σ2:Heap} (X:Heap) (h:Iy m π σ σ2):Iy m π (σ++X) σ2:=⟨h.le,h.id,fun i o hi=>Jr X (h.obj i o hi),h.inj⟩
theorem FC {m:Nat} {σ:Heap} (hm:m≤σ.length) (hc:Cl σ):Iy m (fun i=>⟨i,0,0⟩) σ σ :=
 ⟨hm,fun _ _=>rfl,fun i o hi=>oN (m:=σ.length) (fun _ _=>rfl) (Nat.le_refl _) (iP hi) hi (hc i o hi),fun _i _j _oi _oj _hi _hj _ _ h=>h⟩
theorem cl_kill {σ:Heap} (hc:Cl σ):∀ mk:List Nat,Cl (ji mk σ):=fun mk=>by
 induction mk generalizing σ with
 |nil=>exact hc
 |cons i mk ih =>
  refine ih fun j o hj=>?_
  rw [List.length_set]
  rcases getElem?_set' hj with ⟨_,rfl⟩|⟨_,h⟩
  ·trivial
  ·exact hc j o h
theorem retref_app {σin σ:Heap} {v v2:Value} {σ2:Heap} (X:Heap) (h:dQ σin σ v v2 σ2) (hle:σin.length≤σ.length) (hc:Cl σ) (hv:closed σ.length v=true∧okV v=true):dQ σin (σ++X) v v2 σ2:=by
 rcases h with ⟨rfl,rfl⟩|h
 ·exact .inr fun _=>⟨fun i=>⟨i,0,0⟩,Js X (FC hle hc),nG (fun _ _=>rfl) (Nat.le_refl _) _ hv.1 hv.2⟩
 ·exact .inr fun hin=>by
   obtain ⟨π,h1,h2⟩:=h hin
   exact ⟨π,Js X h1,h2⟩
theorem resok_closed {e:Env} {σ:Heap} (hc:Cl σ) (he:ECl σ.length e) {rv:List ResultVar} {vs:List Value} (h:pz P e σ rv vs):dR σ.length vs=true∧okL vs=true:=by
 have hcells:∀ {b o n:Nat} {cs:List Value},dh σ b o n=some cs→dR σ.length cs=true∧okL cs=true:=fun {b o n cs} h=>by
  have sub:∀ l:List Value,(dR σ.length l=true∧okL l=true)→dR σ.length ((l.drop o).take n)=true∧okL ((l.drop o).take n)=true:=fun l hl =>
   ⟨(jG _ _).2 fun v hv=>(jG _ _).1 hl.1 v (List.mem_of_mem_drop (List.mem_of_mem_take hv)),(xq _).2 fun v hv=>(xq _).1 hl.2 v (List.mem_of_mem_drop (List.mem_of_mem_take hv))⟩
  unfold dh at h
  cases hb:σ[b]? with
  |none=>rw [hb] at h;cases h
  |some x =>
   rw [hb] at h
   have hx:=hc b x hb
   have fin:∀ l0:List Value,(dR σ.length l0=true∧okL l0=true)→(bif Nat.ble (o+n) l0.length then some ((l0.drop o).take n) else none)=some cs→dR σ.length cs=true∧okL cs=true:=fun l0 hl h=>by
    cases hb2:Nat.ble (o+n) l0.length with
    |true=>rw [hb2] at h;cases h;exact sub _ hl
    |false=>rw [hb2] at h;cases h
   cases x with
   |ro l0=>exact fin l0 hx h
   |rw l0=>exact fin l0 hx h
   |gr l0 t=>exact fin l0 hx h
   |deep qs sp =>
    simp only at h
    cases hn:Nat.beq n 1 with
    |false=>rw [hn] at h;cases h
    |true =>
     simp only [hn,cond_true,Option.map_eq_some_iff] at h
     obtain ⟨v,hv,rfl⟩:=h
     have:=hx _ (xg hv)
     exact ⟨by simp [dR,this.1],by simp [okL,this.2]⟩
   |_=>cases h
 induction h with
 |nil=>exact ⟨rfl,rfl⟩
 |tmp h _ ih =>
  have:=he _ _ h
  exact ⟨by simp [dR,this.1,ih.1],by simp [okL,this.2,ih.2]⟩
 |cellN ht h hcs _ ih =>
  have:=hcells hcs
  exact ⟨by simp [dR,closed,kU,this.1,ih.1],by simp [okL,okV,okA,this.2,ih.2]⟩
 |cell1 ht h hcs _ ih =>
  have:=hcells (xY hcs)
  have h1:=(jG _ _).1 this.1 _ (List.mem_singleton.2 rfl)
  have h2:=(xq _).1 this.2 _ (List.mem_singleton.2 rfl)
  exact ⟨by simp [dR,h1,ih.1],by simp [okL,h2,ih.2]⟩
theorem retV_closed {n:Nat} {vs:List Value} (h:dR n vs=true∧okL vs=true):closed n (uD vs)=true∧okV (uD vs)=true:=by
 match vs,h with
 |[],_=>exact ⟨rfl,rfl⟩
 |[v],h=>exact ⟨(jG _ _).1 h.1 v (by simp),(xq _).1 h.2 v (by simp)⟩
 |v::v2::vs,h=>exact ⟨h.1,h.2⟩
theorem kR {σin:Heap} {rv:List ResultVar} {R:Value→Heap→Prop} (hle:Nat.ble σin.length n0=true):zA n0 (kK P σin rv R):=fun ex=>by
 have key:Tl n0 (kK P σin rv R .ret):=by
  rintro e mk σ k T ⟨hnd,hm,vs,v2,σ2,hr,href,hR⟩ h0 hc he hmk hT
  have hl:=Nat.le_of_ble_eq_true hle
  obtain ⟨Y,hY⟩:=zB T (ji mk σ) (dfs k) fun t ht=>by rw [lM];exact (hT.2 t ht).1
  have e1:ji (mk++T) (σ++dfs k)=ji mk σ++Y:=by rw [killAll_two,Bo mk σ _ hmk,hY]
  have hck:=cl_kill hc mk
  refine ⟨List.nodup_append.2 ⟨hnd,hT.1,fun a ha b hb=>?_⟩,fun i hi=>?_,vs,v2,σ2,?_,?_,hR⟩
  ·have:=hmk a ha;have:=hT.2 b hb;omega
  ·rcases List.mem_append.1 hi with hi|hi
   ·exact Au (hm i hi)
   ·have:=hT.2 i hi;exact Aq this.1 this.2
  ·rw [e1];exact resok_app Y hr
  ·rw [e1]
   exact retref_app Y href (by rw [lM];omega) hck (retV_closed (resok_closed hck (by rw [lM];exact he) hr))
 cases ex with
 |normal=>exact key
 |ret=>exact key
 |_=>intro e mk σ k T h;exact h.elim
end
def mZ (n0:Nat) (σ:Heap) (e:Env) (mk:List Nat) (σ2:Heap) (e2:Env):Prop :=
 Cl σ→ECl σ.length e→∃ π k T,Iy n0 π σ (σ2++dfs k)∧Qz σ2.length π e e2∧mk=T.map (fun t=>(π t).b)∧TOk σ2.length k T
section
variable {P:Program} {n0 N:Nat} {rd:Option Nat} {Q:Post} {e e2:Env} {σ σ2:Heap} {mk:List Nat}
theorem mZ.of (h:bT n0 σ σ2 e e2) (hn:n0≤σ2.length):mZ n0 σ e [] σ2 e2:=fun hc he=>by
 rcases h with ⟨rfl,h⟩|h
 ·refine ⟨fun i=>⟨i,0,0⟩,0,[],by simpa [dfs] using FC hn hc,fun p hp=>?_,rfl,List.nodup_nil,fun t ht=>by simp at ht⟩
  have:=sD h p hp
  exact ⟨_,this,nG (fun _ _=>rfl) (Nat.le_refl _) _ (he _ _ this).1 (he _ _ this).2⟩
 ·obtain ⟨π,h1,h2⟩:=h hc
  exact ⟨π,0,[],by simpa [dfs] using h1,h2,rfl,List.nodup_nil,fun t ht=>by simp at ht⟩
theorem Ei {σ:Heap} {n:Nat} {π:Rho} {o:cu}:∀ {news:Heap} {k:Nat},nT σ n π k news→qU σ n π (π (k+news.length)) o→nT σ n π k (news++[o])
 |[],k,_,h=>⟨h,trivial⟩
 |x::r,k,h,ho=>⟨h.1,Ei h.2 (by rw [show k+1+r.length=k+(x::r).length from by simp;omega];exact ho)⟩
theorem mZ.src (σ0 news:Heap) (l:List Nat) (d:Nat) (hn0:n0≤σ0.length) (hσ:σ.take σ0.length=σ0) (hcl:eX σ0.length σ0) (hl:l.length=news.length) (hd:jo σ0.length (l++[d])=true) (hdf:σ[d]?=some .dfr)
  (ho:nT σ (σ0.length+(news.length+1)) (je σ0.length (l++[d])) σ0.length news) (he:yu (σ0.length+news.length) (je σ0.length (l++[d])) e e2):mZ n0 σ e [d] (σ0++news) e2:=fun _ _=>by
 have hs:je σ0.length (l++[d]) (σ0.length+news.length)=⟨d,0,0⟩:=by
  simp only [je]
  rw [if_neg (by omega),show σ0.length+news.length - σ0.length=l.length by omega]
  simp
 have h1:=Dj (n0:=n0) (σ:=σ) (σ0:=σ0) (news:=news++[.dfr]) (l++[d]) hn0 hσ hcl (by simp [hl]) hd (by
  rw [show (news++[cu.dfr]).length=news.length+1 by simp]
  exact Ei ho (by rw [hs];exact hdf))
 refine ⟨_,1,[σ0.length+news.length],by simpa [dfs,List.append_assoc] using h1,by rw [List.length_append];exact sF he,by simp [hs],by simp,fun t ht=>?_⟩
 rw [List.mem_singleton.1 ht,List.length_append];omega
theorem Jt {G:Nat→Prop} {w0:World} {ρ0:Rho} {A:Act} {w:World} (h:mZ n0 σ e mk σ2 e2) (hi:Inv n0 N G w0 ρ0 e mk σ A w) (_hc2:eX σ2.length σ2):∃ k T,TOk σ2.length k T∧Inv n0 N G w0 ρ0 e2 T (σ2++dfs k) A w∧ECl σ2.length e2:=by
 obtain ⟨h0,ρ,ha,hs,ht,hmk,hmb⟩:=hi
 obtain ⟨π,k,T,h1,h2,h3,h4⟩:=h (Cl.of hs) (ECl.of ht)
 have hlen:=xJ σ2 k
 refine ⟨k,T,h4,⟨h1.le,comp ρ π,fun i hi=>(comp_id (h1.id i hi)).trans (ha i hi),BM h1 hs,rJ (Iz h2 ht) (by omega) (fun _ _=>rfl),?_,fun i hi=>by have:=h4.2 i hi;omega⟩,fun t v hv=>?_⟩
 ·rw [hmk,h3,List.map_map];rfl
 ·obtain ⟨u,_,h6⟩:=h2 _ (vk hv)
  exact ⟨oM h6,AX h6⟩
theorem tail_st {σ2:Heap} {e2:Env} {k:Nat} {T:List Nat} (h:mZ n0 σ e mk σ2 e2) (hc:Cl σ) (he:ECl σ.length e) (_hmk:∀ i ∈ mk,i < σ.length) (hT:TOk σ.length k T):mZ n0 (σ++dfs k) e (mk++T) σ2 e2:=fun _ _=>by
 obtain ⟨π,k1,T1,h1,h2,h3,h4⟩:=h hc he
 have hl1:=xJ σ2 k1
 have hle:=h1.le
 have elo:∀ i<(σ2++dfs k1).length,xX (σ2.length+k1) π σ.length (fun i=>⟨i,0,0⟩) i=π i:=fun i hi=>Jm (by omega)
 have ehi:∀ i,σ2.length+k1≤i→xX (σ2.length+k1) π σ.length (fun i=>⟨i,0,0⟩) i=⟨σ.length+(i - (σ2.length+k1)),0,0⟩:=fun i hi=>Jo hi
 have vs:∀ {m:Nat} {v v':Value},m≤(σ2++dfs k1).length→jv m π v v'→jv m (xX (σ2.length+k1) π σ.length (fun i=>⟨i,0,0⟩)) v v':=fun {m v v'} hm h=>h.mono (Nat.le_refl _) fun i hi=>elo i (by omega)
 have hdk:(σ2++dfs k1).length≤(σ2++dfs (k1+k)).length:=by rw [hl1,xJ];omega
 refine ⟨xX (σ2.length+k1) π σ.length (fun i=>⟨i,0,0⟩),k1+k,T1++Ee σ.length (σ2.length+k1) T,⟨by rw [← Ce,xJ];omega,fun i hi=>(elo i (by omega)).trans (h1.id i hi),fun i o hi=>?_,fun i j oi oj hi hj hoi hoj hij=>?_⟩,fun p hp=>?_,?_,h4.app hT.shift⟩
 ·rw [← Ce] at hi
  rcases xK hi with ⟨g1,g2⟩|⟨g1,g2,rfl⟩
  ·rw [elo i g1]
   exact Jr _ (osub_mono (h1.obj i o g2) hdk elo)
  ·rw [ehi i (by omega)]
   exact Aq (by simp only;omega) (by simp only;omega)
 ·rw [← Ce] at hi hj
  have own:∀ i oi,(σ2++dfs k1)[i]?=some oi→oi.owned→(π i).b < σ.length:=fun i oi hi ho=>by
   obtain ⟨o,h,_⟩:=x9 (h1.obj i oi hi) ho
   exact iP h
  rcases xK hi with ⟨g1,g2⟩|⟨g1,g2,rfl⟩ <;> rcases xK hj with ⟨f1,f2⟩|⟨f1,f2,rfl⟩
  ·rw [elo i g1,elo j f1] at hij
   exact h1.inj i j oi oj g2 f2 hoi hoj hij
  ·have:=own i oi g2 hoi
   rw [elo i g1,ehi j (by omega)] at hij
   simp only at hij;omega
  ·have:=own j oj f2 hoj
   rw [elo j f1,ehi i (by omega)] at hij
   simp only at hij;omega
  ·rw [ehi i (by omega),ehi j (by omega)] at hij
   simp only at hij;omega
 ·obtain ⟨u,g1,g2⟩:=h2 p hp
  exact ⟨u,g1,vs (by omega) g2⟩
 ·rw [List.map_append,h3]
  congr 1
  ·exact List.map_congr_left fun t ht=>by rw [elo t (by have:=h4.2 t ht;omega)]
  ·simp only [Ee,List.map_map]
   refine (List.map_id T).symm.trans (List.map_congr_left fun t ht=>?_)
   have:=hT.2 t ht
   simp only [Function.comp_apply,id]
   rw [ehi _ (by omega)]
   simp only;omega
theorem oH {ι:Type} {E:ι→Env} {S:ι→Heap} {q:ι→Prop}:Tl n0 (fun e' mk' σ'=>∃ i',q i'∧mZ n0 σ' e' mk' (S i') (E i')):=by
 rintro e mk σ k T ⟨i',h1,h2⟩ h0 hc he hmk hT
 exact ⟨i',h1,tail_st h2 hc he hmk hT⟩
theorem lW {ι:Type} (E:ι→Env) (S:ι→Heap) (μ:ι→Nat) (p:ι→Prop) (i0:ι) {body:Code} (hrd:qM rd n0=true) (hQ:zA n0 Q) (hn:∀ i,n0≤(S i).length) (hc:∀ i,p i→eX (S i).length (S i)) (h0:mZ n0 σ e mk (S i0) (E i0)) (hp:p i0)
  (round:∀ i,p i→dI P n0 N rd body (iM (fun e' mk' σ'=>∃ i',(p i'∧μ i' < μ i)∧mZ n0 σ' e' mk' (S i') (E i')) Q) (E i) [] (S i)):dI P n0 N rd (.loop body) Q e mk σ:=by
 have cl:∀ i,p i→Cl (S i):=fun i hi j o hj=>wB (hc i hi) j o hj
 have main:∀ i k T,p i→TOk (S i).length k T→ECl (S i).length (E i)→dI P n0 N rd (.loop body) Q (E i) T (S i++dfs k):=by
  intro i k T hpi hT he
  refine Kq (fun m e1 mk1 σ1=>∃ i k T,p i∧μ i=m∧e1=E i∧mk1=T∧σ1=S i++dfs k∧TOk (S i).length k T∧ECl (S i).length (E i)) (m0:=μ i) ⟨i,k,T,hpi,rfl,rfl,rfl,rfl,hT,he⟩ ?_
  rintro m e1 mk1 σ1 ⟨i,k,T,hpi,rfl,rfl,rfl,rfl,hT,he⟩ G w0 ρ0 A w hi
  obtain ⟨G',w0',ρ0',h1,h2,h3⟩:=Jq (mk:=[]) hi (hn i) hT (fun i hi=>by simp at hi) (cl i hpi) he
  have h4:=round i hpi G' w0' ρ0' A w h1
  rw [jX (ρ:=ρ0) (ρ':=ρ0') fun l hl=>h2 l (lG hrd l hl)] at h4
  refine wpIn_mono h4 ?_
  rintro ex A' w' ⟨e',mk',σ',q,hi'⟩
  have hi2:=hi'
  obtain ⟨g0,ρ',_,hs',her'⟩:=hi2
  cases ex with
  |normal =>
   obtain ⟨i',⟨q1,q2⟩,q3⟩:=q
   obtain ⟨k',T',r1,r2,r3⟩:=Jt q3 hi' (hc i' q1)
   have r4:=h3 _ _ _ _ _ r2
   rw [Ce] at r4
   rw [xJ] at r4
   exact ⟨E i',_,_,⟨μ i',q2,i',k'+k,_,q1,rfl,rfl,rfl,rfl,r1.app hT.shift,r3⟩,r4⟩
  |_=>exact ⟨e',_,_,hQ _ e' mk' σ' k _ q g0 (Cl.of hs') (ECl.of her'.tmps) her'.mkb hT.shift,h3 _ _ _ _ _ hi'⟩
 intro G w0 ρ0 A w hi
 obtain ⟨k,T,r1,r2,r3⟩:=Jt h0 hi (hc i0 hp)
 exact main i0 k T hp r1 r3 G w0 ρ0 A w r2
end
end Go.AH.Tail
namespace Go.AH.Dust
open Go Go.AH
def kS (S:Shp) (m:Nat→Int) (i:Nat):Nat→Int
 |0=>-1
 |k+1=>if (gf S.f k).1=i∧0≤m (gf S.f k).2.toNat then max (kS S m i k) (gi S.d i+m (gf S.f k).2.toNat) else kS S m i k
def most (S:Shp):Nat→Nat→Int
 |0,i=>gi S.d i
 |h+1,i=>kS S (most S h) i S.f.length
theorem wJ {S:Shp} (hS:S.ok) {m:Nat→Int} {B:Int} (hB:0≤B) (hm:∀ i,i<S.d.length→-1≤m i∧m i≤B) {i:Nat} (hi:i<S.d.length):∀ k,k≤S.f.length→-1≤kS S m i k∧kS S m i k≤B+1000
 |0,_=>by simp only [kS];omega
 |k+1,hk=>by
  have ih:=wJ hS hB hm hi k (by omega)
  have hd:=hS.d i hi
  have hf:=(hS.f k (by omega)).2.1
  have hb:=hm (gf S.f k).2.toNat (by omega)
  simp only [kS]
  split <;> omega
theorem yF {S:Shp} (hS:S.ok):∀ (h i:Nat),i<S.d.length→-1≤most S h i∧most S h i≤1000*((h:Int)+1)
 |0,i,hi=>by have:=hS.d i hi;simp only [most];omega
 |h+1,i,hi=>by
  have:=wJ hS (m:=most S h) (B:=1000*((h:Int)+1)) (by omega) (fun j hj=>yF hS h j hj) hi S.f.length (Nat.le_refl _)
  simp only [most];omega
def nN (S:Shp) (h i:Nat):Int:=if i<S.d.length then most S h i else 0
def fP (S:Shp):Nat→List Value
 |0=>[]
 |h+1=>fP S h++rx (nN S h)
theorem uT (S:Shp):∀ h,(fP S h).length=h*10
 |0=>rfl
 |h+1=>by rw [fP,List.length_append,uT S h];simp [rx];omega
theorem kJ (S:Shp):∀ h,gy (fP S h)=true
 |0=>rfl
 |h+1=>by rw [fP,ug,kJ S h];rfl
theorem wK (S:Shp):∀ {h j b:Nat},j<h→b<10→(fP S h)[j*10+b]?=some (.int .i64 (nN S j b))
 |0,_,_,h,_=>by omega
 |h+1,j,b,hj,hb=>by
  have hl:=uT S h
  rw [fP]
  by_cases hjh:j=h
  ·subst hjh
   rw [List.getElem?_append_right (by omega),hl,show j*10+b - j*10=b by omega];exact qP hb
  ·rw [List.getElem?_append_left (by omega)];exact wK S (by omega) hb
theorem sQ {P:Program} {rd:Option Nat} {ty:TypeId} {e:Env} {σ:Heap} {x y:Operand} {t el size bytes i n sz:Nat} {j:Int} {agg:Bool} {z:Value} [ha:Sl P t el] [ht:Ty P el size agg z bytes] (h:bf e x=some (dL i sz n)) (hy:bf e y=some (.int .i64 j))
  (h0:0≤j) (h1:j<n):dV P rd (.indexAddr t x y) ty e σ (.pointer (some ⟨i,j.toNat*size,none⟩)) σ:=by
 cases n with
 |zero=>omega
 |succ n=>exact yR (P:=P) (rd:=rd) (ty:=ty) (σ:=σ) (t:=t) (ha:=ha) (ht:=ht) (i:=i) (n:=n+1) (c:=n+1) (sz:=sz) h hy h0 h1
end Go.AH.Dust
