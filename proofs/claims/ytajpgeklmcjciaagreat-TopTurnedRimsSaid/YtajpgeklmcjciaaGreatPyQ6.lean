/- Lemmas. No conditions. -/
import Derived.Test.YtajpgeklmcjciaaGreatPyQ5c
import Derived.Test.YtajpgeklmcjciaaGreatPyQ1
import Derived.Test.YtajpgeklmcjciaaGreatPyQ4
set_option maxRecDepth 100000
set_option maxHeartbeats 8000000
open Go.Proofs.Tryz
open Go Go.AH
namespace Go.Proofs.YtajpgeklmcjciaaGreat
attribute [local irreducible] dA bJ bK jh fQ dK eH bY eu aW dR dW
theorem LQ {l:List Int} (ht:tX l=false):∀ i<l.length,1<=gi l i/\gi l i<=10000:=fun i hi=>by
 have:¬ (gi l i<1\/gi l i > 10000):=fun hb=>by rw [pF.2 ⟨i,hi,hb⟩] at ht;cases ht
 omega
def gY (f:Nat->Int×Int) (x:Int):Nat->Int
 |0=>-1
 |i+1=>if ((f i).1<=x/\x<=(f i).2)/\(gY f x i<0\/(f i).1<(f (gY f x i).toNat).1) then (i:Int) else gY f x i
theorem LU (f:Nat->Int×Int) (x:Int):∀ i:Nat,-1<=gY f x i/\gY f x i<i
 |0=>by simp [gY]
 |i+1=>by
  have:=LU f x i
  simp only [gY]
  split <;> omega
def sp (s:St) (l:List Int) (i:Nat):Int×Int:=span s (gi l i)
theorem AX (f:Nat->Int×Int) (x:Int):∀ n:Nat,(gY f x n=-1/\∀ i<n,¬ ((f i).1<=x/\x<=(f i).2)) \/
  ∃ b<n,gY f x n=(b:Int)/\(f b).1<=x/\x<=(f b).2/\∀ i<n,(f i).1<=x->x<=(f i).2->(f b).1<=(f i).1/\(i<b->(f b).1<(f i).1)
 |0=>.inl ⟨rfl,fun i h=>oO⟩
 |n+1=>by
  simp only [gY]
  rcases AX f x n with ⟨h1,h2⟩|⟨b,hb,h1,h2,h3,h4⟩
  ·rw [h1]
   split
   ·rename_i h
    refine .inr ⟨n,oO,rfl,h.1.1,h.1.2,fun i hi a1 a2=>?_⟩
    by_cases a:i=n
    ·subst a;omega
    ·exact absurd ⟨a1,a2⟩ (h2 i oO)
   ·rename_i h
    refine .inl ⟨rfl,fun i hi hc=>?_⟩
    by_cases a:i=n
    ·subst a;exact h ⟨hc,.inl oO⟩
    ·exact h2 i oO hc
  ·rw [h1]
   simp only [dj]
   split
   ·rename_i h
    have hlt:(f n).1<(f b).1:=by rcases h.2 with h|h <;> omega
    refine .inr ⟨n,oO,rfl,h.1.1,h.1.2,fun i hi a1 a2=>?_⟩
    by_cases a:i=n
    ·subst a;omega
    ·have:=h4 i oO a1 a2
     omega
   ·rename_i h
    refine .inr ⟨b,oO,rfl,h2,h3,fun i hi a1 a2=>?_⟩
    by_cases a:i=n
    ·subst a
     have:¬ (f i).1<(f b).1:=fun hq=>h ⟨⟨a1,a2⟩,.inr hq⟩
     omega
    ·exact h4 i oO a1 a2
theorem ahp {s:St} {l:List Int} {i:Nat} (hi:i<l.length):dX s l i=LK s (gi l i):=by unfold dX;rw [if_pos hi]
theorem QV {s:St} {l:List Int} {i:Nat} {x:Int} (hi:i<l.length) (h:(sp s l i).1<=x/\x<=(sp s l i).2):dX s l i=sp s l i:=by
 rw [ahp hi]
 unfold LK
 unfold sp at h ⊢
 rw [if_pos oO]
theorem Zr {s:St} {l:List Int} {i:Nat} {x:Int} (hi:i<l.length) (h:(dX s l i).1<=x/\x<=(dX s l i).2):dX s l i=sp s l i:=by
 rw [ahp hi] at h ⊢
 unfold LK at h ⊢
 split at h
 ·rename_i hq;rw [if_pos hq];rfl
 ·simp only at h;omega
theorem Zt {A B:Prop} (k:B) (h:Hide B->A:=by intro z_;(repeat' (first|refine sCm ?_|(refine gU ?_;refine sK0 ?_)|refine aG ?_|refine fM rfl ?_));exact z_.h):A:=h ⟨k⟩
theorem aen (s:St) (l:List Int) (c:Nat) (f:Nat->Int×Int) (g:Nat->Int) (ks:List Nat) (c2:Nat) (hks:∀ i<ks.length,gn ks i<12) (hN:ks.length<=1000000) :
  Ev prog 285 [.s 3 ks.length c2,.func (.func 286) #[] #[.p 2]] [.ro (ints l),.ro (dI s (rkV l 0 c) f g),.ro [.p 1],.ro (gQ ks)] (.i (fJ (fun i=>(f i).1) ks ks.length)) [.ro (ints l),.ro (dI s (rkV l 0 c) f g),.ro [.p 1],.ro (gQ ks)]:=by
 refine aH 4 32 func285 (h:=?_)
 refine Zt ?_
 refine jq (ι:=Nat) (fun i=>[(0,.s 3 ks.length c2),(1,.func (.func 286) #[] #[.p 2]),(5,.i (fJ (fun i=>(f i).1) ks i)),(8,.s 3 ks.length c2),(9,.i (ks.length:Int)),(10,.i (i:Int))])
  (fun _=>[.ro (ints l),.ro (dI s (rkV l 0 c) f g),.ro [.p 1],.ro (gQ ks)]) (fun i=>ks.length - i) (fun i=>i<=ks.length) 0 oS (.same tE) oO ?_
 rintro i hi
 by_cases e:i<ks.length
 ·have hb:=wu (fun i=>(f i).1) ks i
  have hs:fJ (fun i=>(f i).1) ks (i+1)=if fJ (fun i=>(f i).1) ks i<0\/(f (gn ks i)).1<(f (gn ks (fJ (fun i=>(f i).1) ks i).toNat)).1 then (i:Int) else fJ (fun i=>(f i).1) ks i:=rfl
  generalize fJ (fun i=>(f i).1) ks i=b at hb hs
  have hki:=hks i e
  have hkb:¬ b<0->gn ks b.toNat<12:=fun h=>hks _ oO
  have d:i<ks.length->aI [.ro (ints l),.ro (dI s (rkV l 0 c) f g),.ro [.p 1],.ro (gQ ks)] 3 i=some (.i (gn ks i:Int)):=fun h=>Kt h
  have j:¬ b<0->aI [.ro (ints l),.ro (dI s (rkV l 0 c) f g),.ro [.p 1],.ro (gQ ks)] 3 (0+b.toNat*1)=some (.i (gn ks b.toNat:Int)):=fun h=>by
   have:b.toNat<ks.length:=oO
   simpa [aI] using Kt this
  repeat' (first|refine sCm ?_|(refine gU ?_;first|(refine cO ?_;refine st (aJ rfl (by exact d oO)) rfl rfl ?_)|refine sK0 ?_|refine sK6 ?_)|(refine fU ?_;first|refine Qd ?_|(refine Fp ?_;refine frA (iU rfl rfl rfl) rfl ?_)|(refine DW ?_;first|refine frA (ji rfl rfl) rfl ?_|refine frA (jk rfl rfl) rfl ?_))|(refine fG ?_;first|(refine nH ?_;refine pR rfl (dY rfl) rfl ?_)|(refine eU ?_;refine pR rfl (aJ rfl (by first|exact d oO|exact j oO)) rfl ?_)|(refine Fp ?_;refine pR rfl (iU rfl rfl rfl) rfl ?_)|(refine fIA ?_;refine pR rfl (pJ rfl rfl oO oO) rfl ?_)|(refine qX ?_;refine pR rfl (bC rfl rfl rfl (by exact aiX (t:=0) (r:=1) (l:=l) oO (by exact .inl rfl) (by exact .inl rfl) (by exact .inl rfl) rfl)) rfl ?_)|refine ac0 rfl rfl ?_|((fail_if_success (refine ac1 rfl ?_));(refine abP rfl ?_ ?_ <;> intro _)))|(refine fP ⟨oK,?_⟩)|refine aG ?_|refine sK5 ?_|refine fA rfl ?_|(refine jm rfl ?_ ?_ <;> intro _))
  ·rename_i hq
   exact ⟨rfl,i+1,oO,oO,by rw [hs,if_pos (.inl hq)];exact .same tE⟩
  ·rename_i a hq
   exact ⟨rfl,i+1,oO,oO,by rw [hs,if_pos (.inr hq)];exact .same tE⟩
  ·rename_i a hq
   exact ⟨rfl,i+1,oO,oO,by rw [hs,if_neg (fun h=>h.elim a hq)];exact .same tE⟩
 ·refine Zt ?_
  obtain rfl:i=ks.length:=oO
  refine dG (.tmp rfl .nil) (.plain rfl rfl) ⟨rfl,rfl⟩
theorem aeo {U:Heap} {s:St} {l:List Int} {c:Nat} {f:Nat->Int×Int} {g:Nat->Int} {ks:List Nat} {t r x y:Nat} (ht:dD U t (ints l)) (hr:dD U r (dI s (rkV l t c) f g)) (hx:dD U x [.p r]) (hy:dD U y (gQ ks))
  (hks:∀ i<ks.length,gn ks i<12) (hN:ks.length<=1000000) (hni:Ni U) :
  Ev prog 285 [eP y 1 ks.length,.func (.func 286) #[] #[.p x]] U (.i (fJ (fun i=>(f i).1) ks ks.length)) U:=by
 refine Ev.arrsP [ints l,dI s (rkV l 0 c) f g,[.p 1],gQ ks] [(t,ints l),(r,dI s (rkV l t c) f g),(x,[.p r]),(y,gQ ks)] (aen s l c f g ks ks.length hks hN)
  ⟨⟨ht,gy.plain (aZ l)⟩,⟨hr,wz (by simpa [bsR,rkV] using VQ.slice (q:=true) (n:=4) (V:=bsR [t,r,x,y]) 0 0 l.length c c (aD _) oO)⟩,⟨hx,gy.one (by simpa [bsR] using VQ.ptr (q:=true) (n:=4) (V:=bsR [t,r,x,y]) 1 0 oO)⟩,⟨hy,gy.plain (oI ks)⟩,trivial⟩
  ⟨kX oS (by simp [bsR]),?_,trivial⟩ rfl hni
 refine .func _ _ _ _ _ rfl rfl (fun i h=>by simp at h) fun i h h'=>?_
 have:i=0:=by simpa using h
 subst this
 simpa [bsR] using VQ.ptr (q:=true) (n:=4) (V:=bsR [t,r,x,y]) 2 0 oO
def kT (f:Nat->Int×Int) (g:Nat->Int) (i:Nat):Int×Int:=if g i=0 then f i else nw
def atL (f:Nat->Int×Int) (g:Nat->Int) (x:Int):Nat->List Nat
 |0=>[]
 |n+1=>if g n=0/\(f n).1<=x/\x<=(f n).2 then atL f g x n++[n] else atL f g x n
theorem XJ {f:Nat->Int×Int} {g:Nat->Int} {x:Int}:∀ {n:Nat},∀ k ∈ atL f g x n,k<n
 |0,k,h=>by simp [atL] at h
 |n+1,k,h=>by
  simp only [atL] at h
  split at h
  ·rcases List.mem_append.1 h with h|h
   ·have:=XJ k h;omega
   ·simp at h;omega
  ·have:=XJ k h;omega
theorem QW {f:Nat->Int×Int} {g:Nat->Int} {x:Int}:∀ {n:Nat},(atL f g x n).length<=n
 |0=>by simp [atL]
 |n+1=>by
  have:=QW (f:=f) (g:=g) (x:=x) (n:=n)
  simp only [atL]
  split
  ·simp;omega
  ·omega
theorem QX {a b:List Nat} {i:Nat} (h:i<a.length):gn (a++b) i=gn a i:=by
 simp only [gn,cE,bO h]
theorem QY {a:List Nat} {k:Nat}:gn (a++[k]) a.length=k:=by
 simp only [gn,cE]
 rw [bE oO,cM];rfl
theorem Ig {key:Nat->Int} {a b:List Nat}:∀ {n:Nat},n<=a.length->fJ key (a++b) n=fJ key a n
 |0,_=>rfl
 |n+1,h=>by
  have ih:=Ig (key:=key) (a:=a) (b:=b) (n:=n) oO
  have hl:=wu key a n
  simp only [fJ,ih]
  rw [QX (a:=a) (i:=n) oO]
  by_cases h0:fJ key a n<0
  ·simp only [h0,true_or,if_true]
  ·rw [QX (a:=a) (i:=(fJ key a n).toNat) oO]
def atV (f:Nat->Int×Int) (g:Nat->Int) (x:Int) (n:Nat):Int :=
 if fJ (fun i=>(f i).1) (atL f g x n) (atL f g x n).length<0 then -1 else (gn (atL f g x n) (fJ (fun i=>(f i).1) (atL f g x n) (atL f g x n).length).toNat:Nat)
theorem U7 {f:Nat->Int×Int} {g:Nat->Int} {x:Int} (hx:0<=x):∀ n:Nat,atV f g x n=gY (kT f g) x n
 |0=>rfl
 |n+1=>by
  have ih:=U7 (f:=f) (g:=g) hx n
  have hb:=AX (kT f g) x n
  simp only [gY]
  by_cases hq:g n=0/\(f n).1<=x/\x<=(f n).2
  ·have hm:kT f g n=f n:=by unfold kT;rw [if_pos hq.1]
   have ha:atL f g x (n+1)=atL f g x n++[n]:=by simp only [atL];rw [if_pos hq]
   rw [hm,<- ih]
   unfold atV
   rw [ha,show (atL f g x n++[n]).length=(atL f g x n).length+1 from by simp]
   have hl:=wu (fun i=>(f i).1) (atL f g x n) (atL f g x n).length
   have c:fJ (fun i=>(f i).1) (atL f g x n++[n]) ((atL f g x n).length+1)=if fJ (fun i=>(f i).1) (atL f g x n) (atL f g x n).length<0\/(f n).1<(f (gn (atL f g x n++[n]) (fJ (fun i=>(f i).1) (atL f g x n) (atL f g x n).length).toNat)).1 then ((atL f g x n).length:Int) else fJ (fun i=>(f i).1) (atL f g x n) (atL f g x n).length:=by
    have e1:=Ig (key:=fun i=>(f i).1) (a:=atL f g x n) (b:=[n]) (aD _)
    have e2:=QY (a:=atL f g x n) (k:=n)
    show (if fJ (fun i=>(f i).1) (atL f g x n++[n]) (atL f g x n).length<0\/(f (gn (atL f g x n++[n]) (atL f g x n).length)).1<(f (gn (atL f g x n++[n]) (fJ (fun i=>(f i).1) (atL f g x n++[n]) (atL f g x n).length).toNat)).1 then ((atL f g x n).length:Int) else fJ (fun i=>(f i).1) (atL f g x n++[n]) (atL f g x n).length)=_
    simp only [e1,e2]
   have j:0<=fJ (fun i=>(f i).1) (atL f g x n) (atL f g x n).length->kT f g (gn (atL f g x n) (fJ (fun i=>(f i).1) (atL f g x n) (atL f g x n).length).toNat)=f (gn (atL f g x n) (fJ (fun i=>(f i).1) (atL f g x n) (atL f g x n).length).toNat):=fun h0=>by
    rcases hb with ⟨h1,h2⟩|⟨b,hbn,h1,h2,h3,h4⟩
    ·rw [<- ih] at h1;unfold atV at h1;rw [if_neg oO] at h1;omega
    ·rw [<- ih] at h1;unfold atV at h1;rw [if_neg oO] at h1
     have e:gn (atL f g x n) (fJ (fun i=>(f i).1) (atL f g x n) (atL f g x n).length).toNat=b:=oO
     rw [e]
     unfold kT at h2 h3 ⊢
     split
     ·rfl
     ·rename_i hg;rw [if_neg hg] at h2 h3;simp only at h2 h3;omega
   generalize fJ (fun i=>(f i).1) (atL f g x n++[n]) ((atL f g x n).length+1)=M at c ⊢
   generalize fJ (fun i=>(f i).1) (atL f g x n) (atL f g x n).length=L at hl c j ⊢
   subst c
   by_cases h0:L<0
   ·have e0:(if L<0\/(f n).1<(f (gn (atL f g x n++[n]) L.toNat)).1 then ((atL f g x n).length:Int) else L)=(atL f g x n).length:=if_pos (.inl h0)
    simp only [e0]
    rw [if_neg oO,dj,QY,if_pos ⟨hq.2,.inl (by rw [if_pos h0];omega)⟩]
   ·have m:L.toNat<(atL f g x n).length:=oO
    have e1:=QX (a:=atL f g x n) (b:=[n]) (i:=L.toNat) m
    have e2:=j oO
    have e3:(if L<0 then (-1:Int) else (gn (atL f g x n) L.toNat:Nat))=(gn (atL f g x n) L.toNat:Nat):=if_neg h0
    simp only [e3,dj,e2]
    rw [e1]
    by_cases d:(f n).1<(f (gn (atL f g x n) L.toNat)).1
    ·have e4:(if L<0\/(f n).1<(f (gn (atL f g x n) L.toNat)).1 then ((atL f g x n).length:Int) else L)=(atL f g x n).length:=if_pos (.inr d)
     simp only [e4]
     rw [if_neg oO,dj,QY,if_pos ⟨hq.2,.inr d⟩]
    ·have e4:(if L<0\/(f n).1<(f (gn (atL f g x n) L.toNat)).1 then ((atL f g x n).length:Int) else L)=L:=if_neg (fun h=>h.elim h0 d)
     simp only [e4]
     rw [if_neg h0,e1,if_neg (fun h=>h.2.elim oO d)]
  ·have ha:atL f g x (n+1)=atL f g x n:=by simp only [atL];rw [if_neg hq]
   have hn:¬ ((kT f g n).1<=x/\x<=(kT f g n).2):=by
    unfold kT
    split
    ·rename_i hg;exact fun h=>hq ⟨hg,h⟩
    ·simp only;omega
   rw [if_neg (fun h=>hn h.1),<- ih]
   unfold atV
   rw [ha]
theorem LV (l:List Int) (s:St) (c:Nat) (f:Nat->Int×Int) (g:Nat->Int):fD 3 [aC.ro (ints l),.ro (dI s (rkV l 0 c) f g),.rw [.p 1]] :=
 ⟨aY (aZ l),jE (dP oS).1 (dP (n:=1) oS).2,⟨rfl,rfl⟩,trivial⟩
theorem QZ {A B:Prop} (k:B) (h:Hide B->A:=by intro z_;(repeat' (first|refine sCm ?_|(refine gU ?_;first|(refine cO ?_;refine st (aJ rfl (by first|rfl|assumption)) rfl rfl ?_)|refine sK0 ?_|(refine gIA ?_;refine st (IU rfl rfl (by omega) (by omega)) rfl rfl ?_)|refine sK7 ?_|(refine dV ?_;refine st (bC rfl rfl rfl (by exact hleast)) rfl rfl ?_))|refine aG ?_|refine fA rfl ?_|refine fM rfl ?_));exact z_.h):A:=h ⟨k⟩
theorem at_ok (s:St) (l:List Int) (c:Nat) (f:Nat->Int×Int) (g:Nat->Int) (x:Int) (h12:l.length<=12) (hx:0<=x) :
  Ev prog 252 [.p 1,.i x] [.ro (ints l),.ro (dI s (rkV l 0 c) f g)] (.i (gY (kT f g) x l.length)) [.ro (ints l),.ro (dI s (rkV l 0 c) f g)]:=by
 rw [<- U7 hx]
 refine aH 2 56 func252 (h:=?_)
 refine QZ ?_
 refine jq (ι:=Nat) (fun i=>[(1,.i x),(2,.p 2),(5,eP 3 1 (atL f g x i).length),(13,.i (l.length:Int)),(14,.i (i:Int))])
  (fun i=>[.ro (ints l),.ro (dI s (rkV l 0 c) f g),.rw [.p 1],.gr (gQ (atL f g x i)) 3]) (fun i=>l.length - i) (fun i=>i<=l.length) 0 oS (mP.src [.ro (ints l),.ro (dI s (rkV l 0 c) f g),.rw [.p 1]] [.gr [] 3] [3] oS rfl (LV l s c f g) rfl rfl ⟨Sz,trivial⟩ (by (repeat' (first|exact trivial|refine ⟨yg rfl rfl,?_⟩|refine ⟨qG (m:=3) rfl (fun i hi=>gu hi) oS oR rfl,?_⟩)))) oO ?_
 rintro i hi
 by_cases hil:i<l.length
 ·have d:i<12:=oO
  have hL:=QW (f:=f) (g:=g) (x:=x) (n:=i)
  have hlen:(gQ (atL f g x i)).length=(atL f g x i).length*1:=by simp [gQ]
  have e:aK [.ro (ints l),.ro (dI s (rkV l 0 c) f g),.rw [.p 1],.gr (gQ (atL f g x i)) 3] 1 (6+i*2) 2=some [.i (f i).1,.i (f i).2]:=Ie (.inl rfl) d
  have q:aI [.ro (ints l),.ro (dI s (rkV l 0 c) f g),.rw [.p 1],.gr (gQ (atL f g x i)) 3,.rw [.i (f i).1,.i (f i).2]] 1 (30+i*1)=some (.i (g i)):=aee d
  repeat' (first|refine sCm ?_|(refine gU ?_;first|(refine cO ?_;first|refine st (aJ rfl (by first|rfl|assumption)) rfl rfl ?_|refine st (bG rfl oA) rfl rfl ?_)|refine sK0 ?_|(refine lM ?_;first|refine st (ji rfl rfl) rfl rfl ?_|refine st (jk rfl rfl) rfl rfl ?_)|refine Qc ?_|refine Me ?_|(refine gApp ?_;refine st (jO oR oR rfl oR oA rfl oR oO oR oO oO) rfl rfl ?_)|refine TN ?_)|(refine gG ?_;first|refine Ko ?_|refine MB ?_|(refine cO ?_;refine pY rfl (aJ rfl (by first|rfl|assumption)) rfl rfl ?_)|refine FQ ?_|refine Qe rfl rfl ?_|((fail_if_success (refine N7 rfl ?_));(refine zC rfl ?_ ?_ <;> intro _)))|refine aG ?_|refine fA rfl ?_|refine fM rfl ?_|(refine jm rfl ?_ ?_ <;> intro _))
  ·rename_i h1 h2 h3
   have ha:atL f g x (i+1)=atL f g x i++[i]:=by simp only [atL];rw [if_pos ⟨h1,h2,h3⟩]
   have a:(atL f g x (i+1)).length=(atL f g x i).length+1:=by rw [ha];simp
   have hcs:gQ (atL f g x (i+1))=gQ (atL f g x i)++[.i (i:Int)]:=by rw [ha];simp [gQ]
   exact ⟨rfl,i+1,oO,oO,mP.src [.ro (ints l),.ro (dI s (rkV l 0 c) f g),.rw [.p 1]] [.gr (gQ (atL f g x (i+1))) 3] [6] oS rfl (LV l s c f g) rfl rfl ⟨Pv rfl (by rw [hcs];rfl) (oI _),trivial⟩ (by (repeat' (first|exact trivial|refine ⟨yg rfl rfl,?_⟩|refine ⟨qG (m:=3) rfl (fun i hi=>gu hi) oS oR rfl,?_⟩|refine ⟨Yo (by rw [a];rfl) oS rfl,?_⟩)))⟩
  all_goals
   have ha:atL f g x (i+1)=atL f g x i:=by simp only [atL];rw [if_neg oO]
   have a:(atL f g x (i+1)).length=(atL f g x i).length:=by rw [ha]
   exact ⟨rfl,i+1,oO,oO,mP.src [.ro (ints l),.ro (dI s (rkV l 0 c) f g),.rw [.p 1]] [.gr (gQ (atL f g x (i+1))) 3] [3] oS rfl (LV l s c f g) rfl rfl ⟨Pv rfl (by rw [ha];rfl) (oI _),trivial⟩ (by (repeat' (first|exact trivial|refine ⟨yg rfl rfl,?_⟩|refine ⟨qG (m:=3) rfl (fun i hi=>gu hi) oS oR rfl,?_⟩|refine ⟨Yo (by rw [a];rfl) oS rfl,?_⟩)))⟩
 ·obtain rfl:i=l.length:=oO
  have hL:=QW (f:=f) (g:=g) (x:=x) (n:=l.length)
  have hleast:=aeo (U:=[.ro (ints l),.ro (dI s (rkV l 0 c) f g),.rw [.p 1],.gr (gQ (atL f g x l.length)) 3]) (s:=s) (l:=l) (c:=c) (f:=f) (g:=g) (t:=0) (r:=1) (x:=2) (y:=3) (ks:=atL f g x l.length) (.inl rfl) (.inl rfl) (.inr (.inl rfl)) (.inr (.inr ⟨_,rfl⟩))
   (fun i hi=>by
    have h1:gn (atL f g x l.length) i ∈ atL f g x l.length:=by
     simp only [gn,cE];rw [cA hi];exact cP hi
    have:=XJ _ h1;omega) oO rfl
  have hl:=wu (fun i=>(f i).1) (atL f g x l.length) (atL f g x l.length).length
  have o:0<(atL f g x l.length).length->0<=fJ (fun i=>(f i).1) (atL f g x l.length) (atL f g x l.length).length:=XI _ _
  unfold atV
  generalize fJ (fun i=>(f i).1) (atL f g x l.length) (atL f g x l.length).length=L at hl hleast o ⊢
  have e:0<=L->L<(atL f g x l.length).length->aI [.ro (ints l),.ro (dI s (rkV l 0 c) f g),.rw [.p 1],.gr (gQ (atL f g x l.length)) 3] 3 (L.toNat*1)=some (.i (gn (atL f g x l.length) L.toNat:Int)):=fun h1 h2=>by
   have:L.toNat<(atL f g x l.length).length:=oO
   simpa [aI] using Kt this
  cases hm:(atL f g x l.length).length with
  |zero =>
   rw [hm] at hleast hl o
   have j:L<0:=oO
   rw [if_pos j]
   refine QZ ?_
   exact dG (.tmp rfl .nil) (.plain rfl rfl) ⟨rfl,rfl⟩
  |succ m =>
   rw [hm] at hleast hl o e
   have j:¬ L<0:=oO
   have q:=e oO oO
   rw [if_neg j]
   refine QZ ?_
   exact dG (.tmp rfl .nil) (.plain rfl rfl) ⟨rfl,rfl⟩
theorem at_ev {U:Heap} {s:St} {l:List Int} {c:Nat} {f:Nat->Int×Int} {g:Nat->Int} {x:Int} {t r:Nat} (ht:dD U t (ints l)) (hr:dD U r (dI s (rkV l t c) f g)) (h12:l.length<=12) (hx:0<=x) (hni:Ni U) :
  Ev prog 252 [.p r,.i x] U (.i (gY (kT f g) x l.length)) U :=
 Ev.arrsP [ints l,dI s (rkV l 0 c) f g] [(t,ints l),(r,dI s (rkV l t c) f g)] (at_ok s l c f g x h12 hx)
  ⟨⟨ht,gy.plain (aZ l)⟩,⟨hr,wz (by simpa [bsR,rkV] using VQ.slice (q:=true) (n:=2) (V:=bsR [t,r]) 0 0 l.length c c (aD _) oO)⟩,trivial⟩
  ⟨by simpa [bsR] using VQ.ptr (q:=true) (n:=2) (V:=bsR [t,r]) 1 0 oO,.int _ _,trivial⟩ rfl hni
def gp (pl:List (Int×Int)) (i:Nat):Int×Int:=pl.getD i (0,0)
def dL (pl:List (Int×Int)):List Value:=pl.flatMap fun p=>[.int .i64 p.1,.int .i64 p.2]
theorem wC:∀ pl:List (Int×Int),(dL pl).length=pl.length*2
 |[]=>rfl
 |p::r=>by
  have:=wC r
  simp only [dL,List.flatMap_cons,bA,dE,dx] at this ⊢
  omega
theorem iy:∀ pl:List (Int×Int),dN (dL pl)=true
 |[]=>rfl
 |p::r=>by
  have:=iy r
  simpa [dL,dN,plain] using this
theorem zy:∀ {pl:List (Int×Int)} {i:Nat},i<pl.length->((dL pl).drop (i*2)).take 2=[.i (gp pl i).1,.i (gp pl i).2]
 |[],i,h=>by simp at h
 |p::r,0,h=>rfl
 |p::r,i+1,h=>by
  have:=zy (pl:=r) (i:=i) (oU h)
  rw [show (i+1)*2=i*2+2 from by omega]
  simpa [dL,gp] using this
theorem sS {pl:List (Int×Int)} {i:Nat} (h:i<pl.length):(dL pl)[i*2]?=some (.i (gp pl i).1):=by
 have h1:=zy h
 have:(((dL pl).drop (i*2)).take 2)[0]?=some (.i (gp pl i).1):=by rw [h1];rfl
 simpa [ey] using this
theorem BL {pl:List (Int×Int)} {i:Nat} (h:i<pl.length):(dL pl)[i*2+1]?=some (.i (gp pl i).2):=by
 have h1:=zy h
 have:(((dL pl).drop (i*2)).take 2)[1]?=some (.i (gp pl i).2):=by rw [h1];rfl
 simpa [ey] using this
def yI (short:Int) (pl:List (Int×Int)) (i:Nat):Int:=if i+1<pl.length then (gp pl (i+1)).1+1 else short
def GL (s:St) (n x:Int):Prop:=(x - s.off)*n>=s.lo/\(x+s.off)*n<=s.hi
instance (s:St) (n x:Int):Decidable (GL s n x):=by unfold GL;infer_instance
theorem LW {a n:Int} {A N:Int} (h:0<=a/\a<=A) (h':0<=n/\n<=N):0<=a*n/\a*n<=A*N :=
 ⟨dl h.1 h'.1,eT h.2 h'.2 h'.1 oO⟩
theorem XK {s:St} {n x:Int} (hs:¬ fB s) (hn:1<=n/\n<=10000) (hx:s.short<=x/\x<=s.long):((span s n).1<=x/\x<=(span s n).2)↔GL s n x:=by
 unfold fB at hs
 unfold span GL
 simp only
 have d1:(s.lo+n - 1).tdiv n=(s.lo+n - 1) / n:=fw oO
 have d2:s.hi.tdiv n=s.hi / n:=fw oO
 rw [d1,d2]
 have e1:(s.lo+n - 1) / n<=x - s.off↔(x - s.off)*n>=s.lo:=by
  rw [show ((s.lo+n - 1) / n<=x - s.off)↔(s.lo+n - 1) / n<x - s.off+1 from by omega,Int.ediv_lt_iff_lt_mul oO,Int.add_mul]
  omega
 have e2:x+s.off<=s.hi / n↔(x+s.off)*n<=s.hi:=Int.le_ediv_iff_mul_le oO
 omega
theorem Q5 (s:St) (n x:Int) (hs:¬ fB s) (hn:1<=n/\n<=10000) (hx:s.short<=x/\x<=s.long):Ev prog 68 [s.val,.i n,.i x] [] (.bool (decide (GL s n x))) []:=by
 have c:=hs
 unfold fB at c
 have m1:=LW (a:=x - s.off) (n:=n) (A:=100000) (N:=10000) oO oO
 have m2:=LW (a:=x+s.off) (n:=n) (A:=200000) (N:=10000) oO oO
 refine aH 0 29 func68 (h:=?_)
 repeat' (first|refine sCm ?_|(refine gU ?_;first|refine Iw ?_|refine sK4 ?_|(refine abN ?_;refine st (Cm rfl rfl oO oO) rfl rfl ?_)|refine sK0 ?_|(refine lM ?_;first|refine st (ji rfl rfl) rfl rfl ?_|refine st (jk rfl rfl) rfl rfl ?_))|(refine gG ?_;first|refine Ko ?_|refine MB ?_|(refine cO ?_;refine pY rfl (aJ rfl oR) rfl rfl ?_)|(refine Fh ?_;refine pY rfl (uY rfl rfl oO oO) rfl rfl ?_)|(refine abN ?_;refine pY rfl (Cm rfl rfl oO oO) rfl rfl ?_)|refine FQ ?_|refine Qe rfl rfl ?_|((fail_if_success (refine N7 rfl ?_));(refine zC rfl ?_ ?_ <;> intro _)))|refine aG ?_)
 ·rename_i hq
  refine dG (.tmp rfl .nil) (.plain rfl rfl) ⟨?_,rfl⟩
  have:GL s n x↔(x+s.off)*n<=s.hi:=⟨fun h=>h.2,fun h=>⟨hq,h⟩⟩
  simp only [jH,this]
 ·rename_i hq
  refine dG (.tmp rfl .nil) (.plain rfl rfl) ⟨?_,rfl⟩
  rw [decide_eq_false (fun h:GL s n x=>hq h.1)];rfl
theorem ET {U:Heap} {s:St} {n x:Int} (hs:¬ fB s) (hn:1<=n/\n<=10000) (hx:s.short<=x/\x<=s.long) (hni:Ni U):Ev prog 68 [s.val,.i n,.i x] U (.bool (decide (GL s n x))) U :=
 Ev.nil (Q5 s n x hs hn hx) rfl rfl hni
theorem abb (s:St) (pl:List (Int×Int)) (c i:Nat) (hi:i<pl.length) (h20:pl.length<=1000000) (hb:∀ i<pl.length,-1000000<=(gp pl i).1/\(gp pl i).1<=1000000) :
  Ev prog 16 [s.val,.s 0 pl.length c,.i (i:Int)] [.ro (dL pl)] (.i (yI s.short pl i)) [.ro (dL pl)]:=by
 have hb1:i+1<pl.length->-1000000<=(gp pl (i+1)).1/\(gp pl (i+1)).1<=1000000:=fun h=>hb _ h
 have a:i+1<pl.length->aI [.ro (dL pl),.rw s.cells] 0 (0+(i+1)*2+0)=some (.i (gp pl (i+1)).1):=fun h=>by simpa [aI] using sS h
 refine aH 1 21 func16 (h:=?_)
 repeat' (first|refine sCm ?_|(refine gU ?_;first|(refine cO ?_;refine st (aJ rfl (by first|rfl|exact a oO)) rfl rfl ?_)|refine sK9 ?_|refine sK0 ?_|refine sK3 ?_)|refine aG ?_|(refine jm rfl ?_ ?_ <;> intro _))
 ·rename_i hq
  refine dG (.tmp rfl .nil) (.plain rfl rfl) ⟨?_,rfl⟩
  unfold yI;rw [if_pos oO];rfl
 ·rename_i hq
  refine dG (.tmp rfl .nil) (.plain rfl rfl) ⟨?_,rfl⟩
  unfold yI;rw [if_neg oO];rfl
theorem abd {U:Heap} {s:St} {pl:List (Int×Int)} {y c i:Nat} (hy:dD U y (dL pl)) (hi:i<pl.length) (h20:pl.length<=1000000) (hb:∀ i<pl.length,-1000000<=(gp pl i).1/\(gp pl i).1<=1000000) (hni:Ni U) :
  Ev prog 16 [s.val,.s y pl.length c,.i (i:Int)] U (.i (yI s.short pl i)) U :=
 Ev.arrs [dL pl] [y] (abb s pl c i hi h20 hb) ⟨hy,trivial⟩ ⟨bF _ rfl,by simpa [bsR] using VQ.slice (q:=true) (n:=1) (V:=bsR [y]) 0 0 pl.length c c (aD _) oO,bF _ rfl,trivial⟩ (by simp [iy]) rfl hni
theorem abe (s:St) (l:List Int) (tc:Nat) (f:Nat->Int×Int) (g:Nat->Int) (pl:List (Int×Int)) (c i:Nat) (hi:i<pl.length) (h20:pl.length<=1000000) (hb:∀ i<pl.length,-1000000<=(gp pl i).1/\(gp pl i).1<=1000000) :
  Ev prog 72 [.p 1,.s 2 pl.length c,.i (i:Int)] [.ro (ints l),.ro (dI s (rkV l 0 tc) f g),.ro (dL pl)] (.i (yI s.short pl i)) [.ro (ints l),.ro (dI s (rkV l 0 tc) f g),.ro (dL pl)]:=by
 have hb1:i+1<pl.length->-1000000<=(gp pl (i+1)).1/\(gp pl (i+1)).1<=1000000:=fun h=>hb _ h
 have a:i+1<pl.length->aI [.ro (ints l),.ro (dI s (rkV l 0 tc) f g),.ro (dL pl)] 2 (0+(i+1)*2+0)=some (.i (gp pl (i+1)).1):=fun h=>by simpa [aI] using sS h
 refine aH 3 24 func72 (h:=?_)
 repeat' (first|refine sCm ?_|(refine gU ?_;first|(refine cO ?_;refine st (aJ rfl (by first|rfl|exact a oO)) rfl rfl ?_)|refine sK9 ?_|refine sK4 ?_|refine sK0 ?_|refine sK3 ?_)|refine aG ?_|(refine jm rfl ?_ ?_ <;> intro _))
 ·rename_i hq
  refine dG (.tmp rfl .nil) (.plain rfl rfl) ⟨?_,rfl⟩
  unfold yI;rw [if_neg oO];rfl
 ·rename_i hq
  refine dG (.tmp rfl .nil) (.plain rfl rfl) ⟨?_,rfl⟩
  unfold yI;rw [if_pos oO];rfl
theorem abf {U:Heap} {s:St} {l:List Int} {tc:Nat} {f:Nat->Int×Int} {g:Nat->Int} {pl:List (Int×Int)} {t r y c i:Nat} (ht:dD U t (ints l)) (hr:dD U r (dI s (rkV l t tc) f g)) (hy:dD U y (dL pl)) (hi:i<pl.length)
  (h20:pl.length<=1000000) (hb:∀ i<pl.length,-1000000<=(gp pl i).1/\(gp pl i).1<=1000000) (hni:Ni U) :
  Ev prog 72 [.p r,.s y pl.length c,.i (i:Int)] U (.i (yI s.short pl i)) U :=
 Ev.arrsP [ints l,dI s (rkV l 0 tc) f g,dL pl] [(t,ints l),(r,dI s (rkV l t tc) f g),(y,dL pl)] (abe s l tc f g pl c i hi h20 hb)
  ⟨⟨ht,gy.plain (aZ l)⟩,⟨hr,wz (by simpa [bsR,rkV] using VQ.slice (q:=true) (n:=3) (V:=bsR [t,r,y]) 0 0 l.length tc tc (aD _) oO)⟩,⟨hy,gy.plain (iy pl)⟩,trivial⟩
  ⟨by simpa [bsR] using VQ.ptr (q:=true) (n:=3) (V:=bsR [t,r,y]) 1 0 oO,by simpa [bsR] using VQ.slice (q:=true) (n:=3) (V:=bsR [t,r,y]) 2 0 pl.length c c (aD _) oO,.int _ _,trivial⟩ rfl hni
end Go.Proofs.YtajpgeklmcjciaaGreat
namespace Go.AH
variable {n0:Nat} {U:Heap} {e e2:Env}
end Go.AH
namespace Go.Proofs.YtajpgeklmcjciaaGreat
attribute [local irreducible] dA bJ bK jh fQ dK eH bY eu aW dR dW
def grd (F:Nat->Int×Int) (n:Nat) (to:Int):Nat->Int->List (Int×Int)×Int
 |0,x=>([],x)
 |k+1,x=>if x<to\/gY F x n<0 then ([],x) else ((x,gY F x n)::(grd F n to k ((F (gY F x n).toNat).1 - 1)).1,(grd F n to k ((F (gY F x n).toNat).1 - 1)).2)
def qP (F:Nat->Int×Int) (n:Nat) (from_ to:Int):List (Int×Int)×Int:=grd F n to (from_ - to+1).toNat from_
theorem LX {F:Nat->Int×Int} {n:Nat} {to:Int} {x:Int} (h:x<to\/gY F x n<0):∀ k,grd F n to k x=([],x)
 |0=>rfl
 |k+1=>by simp only [grd];rw [if_pos h]
def Q7 (F:Nat->Int×Int) (n:Nat) (from_ to:Int) (pl:List (Int×Int)) (x:Int):Prop :=
 ∃ k:Nat,x<to+k/\qP F n from_ to=(pl++(grd F n to k x).1,(grd F n to k x).2)
theorem Q7.start {F:Nat->Int×Int} {n:Nat} {from_ to:Int}:Q7 F n from_ to [] from_:=⟨_,oO,rfl⟩
theorem Q7.stop {F:Nat->Int×Int} {n:Nat} {from_ to:Int} {pl:List (Int×Int)} {x:Int} (h:Q7 F n from_ to pl x) (hs:x<to\/gY F x n<0):qP F n from_ to=(pl,x):=by
 obtain ⟨k,_,h⟩:=h
 rw [h,LX hs k];simp
theorem Q7.step {F:Nat->Int×Int} {n:Nat} {from_ to:Int} {pl:List (Int×Int)} {x:Int} (h:Q7 F n from_ to pl x) (h1:¬ x<to) (h2:¬ gY F x n<0):Q7 F n from_ to (pl++[(x,gY F x n)]) ((F (gY F x n).toNat).1 - 1):=by
 obtain ⟨k,hk,h⟩:=h
 have hlo:(F (gY F x n).toNat).1<=x:=by
  rcases AX F x n with ⟨h3,_⟩|⟨b,_,h3,h4,_⟩
  ·omega
  ·rw [h3];exact h4
 cases k with
 |zero=>omega
 |succ k =>
  refine ⟨k,oO,?_⟩
  rw [h]
  simp only [grd]
  rw [if_neg oO]
  simp
theorem OL {U:Heap} {s:St} {tv:Value} {f:Nat->Int×Int} {g:Nat->Int} {r i:Nat} (h:dD U r (dI s tv f g)) (hi:i<12):aI U r (6+i*2)=some (.i (f i).1):=by
 have h2:=Zl (s:=s) (tv:=tv) (f:=f) (g:=g) hi
 unfold aI
 rcases h with h|h|⟨t,h⟩ <;> rw [h] <;> exact h2
theorem abg {pl:List (Int×Int)} {p:Int×Int}:dL (pl++[p])=dL pl++[.i p.1,.i p.2]:=by simp [dL]
theorem agx (s:St) (l:List Int) (c:Nat) (f:Nat->Int×Int) (g:Nat->Int) (x:Int) :
  Ev prog 164 [.p 1,.i x] [.ro (ints l),.ro (dI s (rkV l 0 c) f g)] (.func (.func 251) #[] #[.p 3,.p 2]) [.ro (ints l),.ro (dI s (rkV l 0 c) f g),.rw [.p 1],.rw [.i x]]:=by
 refine aH 2 6 func164 (h:=?_)
 repeat' (first|refine sCm ?_|(refine gU ?_;refine sK7 ?_)|refine aG ?_)
 exact dG (.tmp rfl .nil) .all ⟨rfl,rfl⟩
theorem agy {U:Heap} {s:St} {l:List Int} {c:Nat} {f:Nat->Int×Int} {g:Nat->Int} {x:Int} {t r:Nat} (ht:dD U t (ints l)) (hr:dD U r (dI s (rkV l t c) f g)) (hni:Ni U) :
  Ev prog 164 [.p r,.i x] U (.func (.func 251) #[] #[.p (U.length+1),.p U.length]) (U++[.rw [.p r],.rw [.i x]]):=by
 refine Ev.arrsR (news:=[.rw [.p 1],.rw [.i x]]) [ints l,dI s (rkV l 0 c) f g] [(t,ints l),(r,dI s (rkV l t c) f g)] (agx s l c f g x)
  ⟨⟨ht,gy.plain (aZ l)⟩,⟨hr,wz (by simpa [bsR,rkV] using VQ.slice (q:=true) (n:=2) (V:=bsR [t,r]) 0 0 l.length c c (aD _) oO)⟩,trivial⟩
  ⟨by simpa [bsR] using VQ.ptr (q:=true) (n:=2) (V:=bsR [t,r]) 1 0 oO,.int _ _,trivial⟩ rfl ?_ ?_ hni
 ·simp [ren,zM,yK,shf]
 ·simp [CS,ren,yK,shf,bsR]
theorem H10 {U:Heap} (l:List Int) (s:St) (c:Nat) (f:Nat->Int×Int) (g:Nat->Int) {to x from_:Int} {pl:List (Int×Int)} {L:aC} {j:Nat} {q:Nat}
  (h0:U[0]?=some (.ro (ints l))) (h1:U[1]?=some (.ro (dI s (rkV l 0 c) f g))) (h2:U[2]?=some (.rw [.p 1])) (h3:U[3]?=some (.rw [.i to])) (h4:U[4]?=some (.rw [eP j 2 pl.length]))
  (h5:U[5]?=some (.rw [.i x])) (h6:U[6]?=some (.rw [.p 1])) (h7:U[7]?=some (.rw [.i from_])) (h8:U[8]?=some .dfr) (h9:U[9]?=some L) (hj:q=j) (hL:fV 10 L) (hg:xX U 11 (fK 10 [q]) (fK 10 [q] 10) (.gr (dL pl) 39)) :
  D5 U 11 (fK 10 [q]) 0 [.ro (ints l),.ro (dI s (rkV l 0 c) f g),.rw [.p 1],.rw [.i to],.rw [eP 10 2 pl.length],.rw [.i x],.rw [.p 1],.rw [.i from_],.dfr,L,.gr (dL pl) 39]:=by
 subst hj
 exact ⟨pz oO oO h0 (aY (aZ l)),pz oO oO h1 (jE (dP oS).1 (dP (n:=1) oS).2),pz oO oO h2 ⟨rfl,rfl⟩,pz oO oO h3 ⟨rfl,rfl⟩,
  aav rfl h4 oO rfl,pz oO oO h5 ⟨rfl,rfl⟩,pz oO oO h6 ⟨rfl,rfl⟩,pz oO oO h7 ⟨rfl,rfl⟩,pz oO oO h8 trivial,pz oO oO h9 hL,hg,trivial⟩
theorem uJ {A B:Prop} (k:B) (h:Hide B->A:=by intro z_;(repeat' (first|refine sCm ?_|(refine gU ?_;first|(refine cO ?_;refine st (aJ rfl (by first|rfl|exact OL (i:=b.toNat) (.inl rfl) (by omega))) rfl rfl ?_)|refine sK4 ?_|refine sK0 ?_|refine TL ?_|(refine gIA ?_;refine st (ng rfl rfl (by omega) (by omega)) rfl rfl ?_)|(refine dV ?_;refine st (bC rfl rfl rfl (by exact agy (t:=0) (l:=l) (by exact .inl rfl) (by exact .inl rfl) rfl)) rfl rfl ?_)|refine TN ?_)|(refine gG ?_;(refine rW ?_;refine pY rfl (iV rfl) rfl rfl ?_))|(refine fU ?_;first|(refine Bf ?_;refine frA (jd rfl) rfl ?_)|(refine eU ?_;refine frA (aJ rfl (by rfl)) rfl ?_)|(refine Fp ?_;refine frA (iU rfl rfl rfl) rfl ?_))|(refine fP ⟨by kernel_rfl,?_⟩)|refine aG ?_|refine sK5 ?_|refine fA rfl ?_|refine fM rfl ?_));exact z_.h):A:=h ⟨k⟩
theorem aep (s:St) (l:List Int) (c:Nat) (f:Nat->Int×Int) (g:Nat->Int) (from_ to:Int) (h12:l.length<=12) (hs:1<=s.short) (hto:s.short<=to) (hf1:s.short - 1<=from_) (hf2:from_<=100000)
  (hsp:∀ i<l.length,f i=nw\/s.short<=(f i).1) :
  Ev prog 70 [.p 1,.i from_,.i to] [.ro (ints l),.ro (dI s (rkV l 0 c) f g)]
   (.tuple #[.s 2 (qP (kT f g) l.length from_ to).1.length (qP (kT f g) l.length from_ to).1.length,.bool (decide ((qP (kT f g) l.length from_ to).2<to))])
   [.ro (ints l),.ro (dI s (rkV l 0 c) f g),.rw (dL (qP (kT f g) l.length from_ to).1)]:=by
 refine aH 2 42 func70 (h:=?_)
 refine uJ ?_
 refine W_st oS (.same (e2:=[(3,.p 2),(5,.p 3),(8,.p 4),(9,.p 5),(14,.func (.func 251) #[] #[.p 7,.p 6])]) tE) ?_
 refine jU (p:=[]) (q:=[.p 7,.p 6]) rfl fun L hL=>?_
 have z:fV 10 L:=by
  rw [hL]
  exact WM fun p hp=>by
   simp only [List.mem_cons,List.not_mem_nil,or_false] at hp
   rcases hp with rfl|rfl|rfl|rfl|rfl <;> exact ⟨rfl,rfl⟩
 have hLi:aU L=false:=by rw [hL];rfl
 refine aH 10 35 func251 (h:=?_)
 refine uJ ?_
 refine jq (ι:=Int×List (Int×Int)) (fun p=>[(0,.func (.yield 9) #[] #[]),(1,.p 7),(2,.p 6),(4,.i p.1)])
  (fun p=>[.ro (ints l),.ro (dI s (rkV l 0 c) f g),.rw [.p 1],.rw [.i to],.rw [eP 10 2 p.2.length],.rw [.i p.1],.rw [.p 1],.rw [.i from_],.dfr,L,.gr (dL p.2) 39]) (fun p=>(p.1 - s.short+1).toNat)
  (fun p=>s.short - 1<=p.1/\p.1<=from_/\(p.2.length:Int)+p.1<=from_/\Q7 (kT f g) l.length from_ to p.2 p.1) (from_,[]) oS
  (mP.all _ 10 [10] oS rfl rfl (H10 l s c f g (j:=10) rfl rfl rfl rfl rfl rfl rfl rfl rfl rfl rfl z Sz) (by (repeat' (first|exact trivial|refine ⟨yg rfl rfl,?_⟩|refine ⟨qG (m:=10) rfl (fun i hi=>gu hi) oS rfl rfl,?_⟩)))) ⟨oO,by simp,by simp,Q7.start⟩ ?_
 rintro ⟨x,pl⟩ ⟨H,G,D,hP⟩
 dsimp only at H G D hP
 dsimp only
 by_cases hxs:x>=s.short
 ·have u:=at_ev (U:=[.ro (ints l),.ro (dI s (rkV l 0 c) f g),.rw [.p 1],.rw [.i to],.rw [eP 10 2 pl.length],.rw [.i x],.rw [.p 1],.rw [.i from_],.dfr,L,.gr (dL pl) 39]) (s:=s) (l:=l) (c:=c) (f:=f) (g:=g) (x:=x) (t:=0) (r:=1) (.inl rfl) (.inl rfl) h12 oO (by rw [hL];rfl)
  have hb:=AX (kT f g) x l.length
  have F:=LU (kT f g) x l.length
  have d:=fun h1 h2=>hP.step h1 h2
  have a:=fun h=>hP.stop h
  generalize gY (kT f g) x l.length=b at u hb F d a
  have o:¬ b<0->s.short<=(f b.toNat).1/\(f b.toNat).1<=x/\kT f g b.toNat=f b.toNat:=fun e=>by
   rcases hb with ⟨h1,_⟩|⟨b',I,h0,h1,h2,_⟩
   ·exact absurd h1 (by clear u;omega)
   ·have e0:b.toNat=b':=by clear u;omega
    rw [e0]
    have hm:kT f g b'=f b':=by
     unfold kT at h1 h2 ⊢
     split
     ·rfl
     ·rename_i hg;rw [if_neg hg] at h1;simp only at h1;omega
    rw [hm] at h1
    refine ⟨?_,h1,hm⟩
    rcases hsp b' I with h3|h3
    ·rw [h3] at h1;simp only at h1;omega
    ·exact h3
  have w:¬ b<0->s.short<=(f b.toNat).1/\(f b.toNat).1<=x:=fun h=>⟨(o h).1,(o h).2.1⟩
  replace o:=Hide.mk o
  replace hb:=Hide.mk hb
  replace d:=Hide.mk d
  replace a:=Hide.mk a
  repeat' (first|refine sCm ?_|(refine gU ?_;first|refine Iw ?_|refine sK0 ?_|(refine lM ?_;refine st (ji rfl rfl) rfl rfl ?_)|(refine dV ?_;refine st (bC rfl rfl rfl (by exact u)) rfl rfl ?_))|(refine gG ?_;first|refine Ko ?_|(refine Pj ?_;refine pY rfl (pV oR rfl oR) rfl rfl ?_)|refine Qe rfl rfl ?_|((fail_if_success (refine N7 rfl ?_));(refine zC rfl ?_ ?_ <;> intro _)))|refine aG ?_|refine fA rfl ?_)
  ·rename_i e
   rw [a.h (.inr e)]
   refine dG .nil .all ⟨_,_,_,_,_,_,_,by rw [hL];rfl,by simp,?_⟩
   dsimp only
   refine uJ ?_
   refine ret1 rfl (.tmp rfl (.tmp rfl .nil)) (.src [.rw (dL pl)] [10] rfl rfl rfl ⟨yj (m:=2) rfl (.inr ⟨_,rfl⟩) (fun i hi=>gu hi) (cC rfl) (aY (iy pl)).1 (aY (n:=2) (iy pl)).2,trivial⟩ (v2:=.tuple #[.s 2 pl.length pl.length,.bool (decide (x<to))]) ?_) ⟨rfl,rfl⟩
   refine .tuple _ _ rfl fun i hi _=>?_
   match i,hi with
   |0,_=>exact kX oS rfl
   |1,_=>exact .bool _
  ·rename_i e
   refine FC (l:=9) rfl rfl (by rw [hL];rfl) rfl rfl rfl (fun _ _ _ _ he=>yZ (b:=true) (by rw [yU (b:=decide (b<0)) rfl,decide_eq_false e];rfl) he) ?_
   refine uJ ?_
   refine TV (by rw [hL];rfl) ?_
   have hlen:(dL pl).length=pl.length*2:=wC pl
   repeat' (first|refine sCm ?_|(refine gU ?_;first|refine Iw ?_|refine sK0 ?_|(refine gApp ?_;refine st (jO oR oR rfl oR oA rfl oR oO oR oO oO) rfl rfl ?_)|refine TN ?_)|(refine fU ?_;first|(refine fFA ?_;refine frA (bD rfl) rfl ?_)|(refine eU ?_;first|refine frA (aJ rfl (by first|rfl|exact OL (i:=b.toNat) (.inl rfl) oO)) rfl ?_|refine frA (bG rfl oR) rfl ?_)|(refine fSub ?_;refine frA (xG rfl rfl oO oO) rfl ?_)|(refine Sj ?_;refine frA (Pn rfl) rfl ?_)|(refine L9 ?_;refine frA (jB rfl) rfl ?_)|(refine fIA ?_;refine frA (ng rfl rfl oO oO) rfl ?_)|(refine abR ?_;refine frA (yV rfl rfl rfl) rfl ?_)|refine aaq ?_)|(refine fP ⟨oK,?_⟩)|refine aG ?_|refine sK5 ?_|refine DT rfl ?_|(refine jm rfl ?_ ?_ <;> intro _))
   ·rename_i v
    rw [a.h (.inl v)]
    refine ac7 rfl rfl ?_
    refine uJ ?_
    refine dG .nil .all ⟨_,_,_,_,_,_,_,rfl,by simp,?_⟩
    dsimp only
    refine uJ ?_
    refine ret1 rfl (.tmp rfl (.tmp rfl .nil)) (.src [.rw (dL pl)] [10] rfl rfl rfl ⟨yj (m:=2) rfl (.inr ⟨_,rfl⟩) (fun i hi=>gu hi) (cC rfl) (aY (iy pl)).1 (aY (n:=2) (iy pl)).2,trivial⟩ (v2:=.tuple #[.s 2 pl.length pl.length,.bool (decide (x<to))]) ?_) ⟨rfl,rfl⟩
    refine .tuple _ _ rfl fun i hi _=>?_
    match i,hi with
    |0,_=>exact kX oS rfl
    |1,_=>exact .bool _
   ·rename_i v
    refine vV rfl rfl ?_
    refine uJ ?_
    have E:=(o.h e).2.2
    have hfb2:=w e
    have C:(pl++[(x,b)]).length=pl.length+1:=oS
    have y:=d.h v e
    rw [E] at y
    clear hb d a o
    exact ⟨rfl,((f b.toNat).1 - 1,pl++[(x,b)]),⟨by simp only;omega,by simp only;omega,by simp only [C];omega,y⟩,by simp only;omega,
     mP.all _ 10 [13] oS rfl rfl (H10 l s c f g (j:=13) rfl rfl rfl rfl (by rw [C];rfl) rfl rfl rfl rfl (by rw [hL];rfl) rfl z (Pv rfl (by rw [abg];rfl) (iy _))) (by (repeat' (first|exact trivial|refine ⟨yg rfl rfl,?_⟩|refine ⟨qG (m:=10) rfl (fun i hi=>gu hi) oS rfl rfl,?_⟩)))⟩
 ·rw [hP.stop (.inl oO)]
  refine uJ ?_
  refine RZ .nil .all ⟨_,_,_,_,_,_,_,by rw [hL];rfl,by simp,?_⟩
  dsimp only
  refine uJ ?_
  refine ret1 rfl (.tmp rfl (.tmp rfl .nil)) (.src [.rw (dL pl)] [10] rfl rfl rfl ⟨yj (m:=2) rfl (.inr ⟨_,rfl⟩) (fun i hi=>gu hi) (cC rfl) (aY (iy pl)).1 (aY (n:=2) (iy pl)).2,trivial⟩ (v2:=.tuple #[.s 2 pl.length pl.length,.bool (decide (x<to))]) ?_) ⟨rfl,rfl⟩
  refine .tuple _ _ rfl fun i hi _=>?_
  match i,hi with
  |0,_=>exact kX oS rfl
  |1,_=>exact .bool _
theorem Ih {F F':Nat->Int×Int} {x:Int}:∀ {n:Nat},(∀ i<n,((F i).1<=x/\x<=(F i).2->F' i=F i)/\((F' i).1<=x/\x<=(F' i).2->F i=F' i))->gY F x n=gY F' x n/\(0<=gY F x n->F (gY F x n).toNat=F' (gY F x n).toNat)
 |0,_=>⟨rfl,fun h=>by simp [gY] at h⟩
 |n+1,h=>by
  obtain ⟨e1,e2⟩:=Ih (F:=F) (F':=F') (x:=x) (n:=n) fun i hi=>h i oO
  obtain ⟨h1,h2⟩:=h n oO
  have hb:=LU F x n
  simp only [gY]
  rw [<- e1]
  generalize gY F x n=b at e1 e2 hb ⊢
  by_cases hn:(F n).1<=x/\x<=(F n).2
  ·have e3:=h1 hn
   rw [e3]
   by_cases a:b<0
   ·rw [if_pos ⟨hn,.inl a⟩,if_pos ⟨hn,.inl a⟩]
    exact ⟨rfl,fun _=>by rw [dj];exact e3.symm⟩
   ·rw [e2 oO]
    by_cases c:(F n).1<(F' b.toNat).1
    ·rw [if_pos ⟨hn,.inr c⟩]
     exact ⟨rfl,fun _=>by rw [dj];exact e3.symm⟩
    ·rw [if_neg fun hc=>hc.2.elim a c]
     exact ⟨rfl,fun _=>e2 oO⟩
  ·have d:¬ ((F' n).1<=x/\x<=(F' n).2):=fun hc=>hn (by rw [h2 hc];exact hc)
   rw [if_neg fun hc=>hn hc.1,if_neg fun hc=>d hc.1]
   exact ⟨rfl,e2⟩
theorem OM {F F':Nat->Int×Int} {n:Nat} {to:Int} (h:∀ x,to<=x->∀ i<n,((F i).1<=x/\x<=(F i).2->F' i=F i)/\((F' i).1<=x/\x<=(F' i).2->F i=F' i)):∀ (k:Nat) (x:Int),grd F n to k x=grd F' n to k x
 |0,x=>rfl
 |k+1,x=>by
  simp only [grd]
  by_cases hx:x<to
  ·rw [if_pos (.inl hx),if_pos (.inl hx)]
  ·obtain ⟨e1,e2⟩:=Ih (h x oO)
   rw [<- e1]
   by_cases hb:gY F x n<0
   ·rw [if_pos (.inr hb),if_pos (.inr hb)]
   ·rw [if_neg oO,if_neg oO,e2 oO,OM h k]
theorem abh {s:St} {l:List Int} {from_ to:Int}:qP (kT (dX s l) fun _=>0) l.length from_ to=qP (sp s l) l.length from_ to:=by
 refine OM (fun x hx i hi=>⟨fun h=>?_,fun h=>?_⟩) _ _
 ·have hm:kT (dX s l) (fun _=>0) i=dX s l i:=if_pos rfl
  rw [hm] at h ⊢
  exact (Zr hi h).symm
 ·have hm:kT (dX s l) (fun _=>0) i=dX s l i:=if_pos rfl
  rw [hm]
  exact QV hi h
def Dy (P:List (Int×Int)×Int) (to:Int):List (Int×Int):=if P.2<to then P.1 else []
theorem aer {U:Heap} {s:St} {l:List Int} {c:Nat} {f:Nat->Int×Int} {g:Nat->Int} {from_ to:Int} {t r:Nat} (htt:dD U t (ints l)) (hrr:dD U r (dI s (rkV l t c) f g)) (h12:l.length<=12) (hs:1<=s.short) (hto:s.short<=to) (hf1:s.short - 1<=from_) (hf2:from_<=100000)
  (hsp:∀ i<l.length,f i=nw\/s.short<=(f i).1) (hni:Ni U) :
  Ev prog 70 [.p r,.i from_,.i to] U
   (.tuple #[.s U.length (qP (kT f g) l.length from_ to).1.length (qP (kT f g) l.length from_ to).1.length,.bool (decide ((qP (kT f g) l.length from_ to).2<to))])
   (U++[.rw (dL (qP (kT f g) l.length from_ to).1)]):=by
 refine Ev.arrsR (news:=[.rw (dL (qP (kT f g) l.length from_ to).1)]) [ints l,dI s (rkV l 0 c) f g] [(t,ints l),(r,dI s (rkV l t c) f g)] (aep s l c f g from_ to h12 hs hto hf1 hf2 hsp)
  ⟨⟨htt,gy.plain (aZ l)⟩,⟨hrr,wz (by simpa [bsR,rkV] using VQ.slice (q:=true) (n:=2) (V:=bsR [t,r]) 0 0 l.length c c (aD _) oO)⟩,trivial⟩
  ⟨by simpa [bsR] using VQ.ptr (q:=true) (n:=2) (V:=bsR [t,r]) 1 0 oO,.int _ _,.int _ _,trivial⟩ rfl ?_ ?_ hni
 ·simp [ren,zM,yK,shf]
 ·simp only [cG,cY,CS,uX _ (iy _)]
def zJ (s:St) (l:List Int):Int:=if gX s l ≠ 0 then gX s l else if (qP (sp s l) l.length s.long s.short).2<s.short then 0 else 19
def wE (s:St) (l:List Int):List (Int×Int):=if gX s l ≠ 0 then [] else Dy (qP (sp s l) l.length s.long s.short) s.short
theorem abj {s:St} {l:List Int}:∀ i<l.length,dX s l i=nw\/s.short<=(dX s l i).1:=fun i hi=>by
 rcases aa9 (s:=s) i hi with h|h
 ·exact .inl h
 ·exact .inr h.1
theorem U8 (s:St) (l:List Int) (c:Nat) (hN:l.length<=1000000) (hr:-9223372036854775808<=s.short/\s.short<=9223372036854775807) :
  Ev prog 14 [s.val,.s 0 l.length c] [.ro (ints l)] (.tuple #[.s 1 (wE s l).length (wE s l).length,.i (zJ s l)]) [.ro (ints l),.rw (dL (wE s l))]:=by
 unfold zJ wE
 by_cases h:gX s l=0
 ·obtain ⟨d,h1,hs,ht⟩:=kH h
  have m:1<=s.short:=by unfold fB at hs;omega
  have hs2:s.short<=s.long:=by unfold fB at hs;omega
  have e:s.long<=100000:=by unfold fB at hs;omega
  rw [if_neg oO,if_neg oO]
  have a:=aer (U:=[.ro (ints l),.rw s.cells,.rw (dI s (.s 0 l.length c) (dX s l) fun _=>0)]) (s:=s) (l:=l) (c:=c) (f:=dX s l) (g:=fun _=>0) (from_:=s.long) (to:=s.short) (t:=0) (r:=2) (.inl rfl) (.inr (.inl rfl)) d m (dy _) oO e abj rfl
  rw [abh] at a
  generalize qP (sp s l) l.length s.long s.short=P at a ⊢
  refine aH 1 31 func14 (h:=?_)
  repeat' (first|refine sCm ?_|(refine gU ?_;first|(refine cO ?_;first|refine st (aJ rfl oR) rfl rfl ?_|refine st (bG rfl oR) rfl rfl ?_)|refine sK0 ?_|refine TK ?_|(refine dV ?_;refine st (bC rfl rfl rfl (by first|exact GK (by exact .inl rfl) oA oA rfl|exact a)) rfl rfl ?_))|refine aG ?_|refine fM rfl ?_|(refine jm rfl ?_ ?_ <;> intro _))
  ·rename_i hq
   refine dG (.tmp rfl (.tmp rfl .nil)) (ac8 rfl rfl) ⟨?_,?_⟩
   ·unfold Dy;rw [if_neg oO,if_neg oO];rfl
   ·unfold Dy;rw [if_neg oO];rfl
  ·rename_i hq
   refine dG (.tmp rfl (.tmp rfl .nil)) (aik (j:=3) rfl (iy P.1) (.inl rfl) rfl rfl (aD _)) ⟨?_,?_⟩
   ·unfold Dy;rw [if_pos oO,if_pos oO];rfl
   ·unfold Dy;rw [if_pos oO];rfl
 ·have h':gX s l ≠ 0:=h
  rw [if_pos h',if_pos h']
  refine aH 1 31 func14 (h:=?_)
  repeat' (first|refine sCm ?_|(refine gU ?_;first|refine WH ?_|refine sK0 ?_|(refine dV ?_;refine st (bC rfl rfl rfl (by exact LP (by exact .inl rfl) oA oA oA rfl)) rfl rfl ?_))|refine aG ?_|refine fA rfl ?_)
  exact dG (.tmp rfl (.tmp rfl .nil)) (ac8 rfl rfl) ⟨rfl,rfl⟩
theorem U9 {U:Heap} {s:St} {l:List Int} {a c:Nat} (hx:dD U a (ints l)) (hN:l.length<=1000000) (hr:-9223372036854775808<=s.short/\s.short<=9223372036854775807) (hni:Ni U) :
  Ev prog 14 [s.val,.s a l.length c] U (.tuple #[.s U.length (wE s l).length (wE s l).length,.i (zJ s l)]) (U++[.rw (dL (wE s l))]):=by
 refine Ev.arrsN [ints l] [a] (news:=[.rw (dL (wE s l))]) (U8 s l c hN hr) ⟨hx,trivial⟩ ⟨bF _ rfl,by simpa [bsR] using VQ.slice (q:=true) (n:=1) (V:=bsR [a]) 0 0 l.length c c (aD _) oO,trivial⟩ (by simp [aZ]) rfl ?_ ?_ hni
 ·simp [ren,zM,yK,shf]
 ·simp only [cG,cY,CS,uX _ (iy _)]
def ku (s:St) (l:List Int) (pl:List (Int×Int)) (i:Nat):Prop :=
 (i=0/\(gp pl i).1 ≠ s.long)\/(0<i/\(gp pl i).1>=(gp pl (i - 1)).1)\/(gp pl i).1<s.short\/(gp pl i).2<0\/(gp pl i).2>=l.length
instance (s:St) (l:List Int) (pl:List (Int×Int)):DecidablePred (ku s l pl):=fun i=>by unfold ku;infer_instance
def inP (p:Int×Int) (x:Int):Prop:=p.1<=x/\x<=p.2
instance (p:Int×Int) (x:Int):Decidable (inP p x):=by unfold inP;infer_instance
def lI (s:St) (l:List Int) (pl:List (Int×Int)) (i:Nat):Prop:=¬ (inP (dX s l (gp pl i).2.toNat) (gp pl i).1/\inP (dX s l (gp pl i).2.toNat) (yI s.short pl i))
instance (s:St) (l:List Int) (pl:List (Int×Int)):DecidablePred (lI s l pl):=fun i=>by unfold lI;infer_instance
def kN (s:St) (l:List Int) (pl:List (Int×Int)):Int :=
 if gX s l ≠ 0 then gX s l else if pl.length<1\/pl.length > 20 then 6 else if someB pl.length (ku s l pl)=true then 3 else if someB pl.length (lI s l pl)=true then 19 else 0
theorem rF {s:St} {l:List Int} {pl:List (Int×Int)}:∀ {k:Nat},(∀ j<k,¬ ku s l pl j)->∀ j<k,s.short<=(gp pl j).1/\(gp pl j).1<=s.long/\0<=(gp pl j).2/\(gp pl j).2<l.length/\(0<j->(gp pl j).1<(gp pl (j - 1)).1)
 |0,_,j,h=>by omega
 |k+1,hb,j,h=>by
  by_cases a:j<k
  ·exact rF (fun i hi=>hb i oO) j a
  ·obtain rfl:j=k:=oO
   have h1:=hb j oO
   unfold ku at h1
   by_cases h0:j=0
   ·subst h0;omega
   ·have:=rF (k:=j) (fun i hi=>hb i oO) (j - 1) oO
    omega
theorem Zu {s:St} {l:List Int} {pl:List (Int×Int)} (hs:s.short<=s.long) (hb:∀ j<pl.length,¬ ku s l pl j) {i:Nat} (hi:i<pl.length):s.short<=yI s.short pl i/\yI s.short pl i<=(gp pl i).1:=by
 have h1:=rF hb i hi
 unfold yI
 split
 ·rename_i h
  have h2:=rF hb (i+1) h
  have h3:=h2.2.2.2.2 oO
  simp only [Nat.add_sub_cancel] at h3
  omega
 ·omega
theorem xu {p:Nat->Prop} {i:Nat} (h:∀ j<i,¬ p j) (hi:¬ p i):∀ j<i+1,¬ p j:=fun j hj=>by
 by_cases a:j<i
 ·exact h j a
 ·obtain rfl:j=i:=oO
  exact hi
theorem Q8 {s:St} {l:List Int} {k:Nat} {x:Int} (hs:¬ fB s) (hk:k<l.length) (hn:1<=gi l k/\gi l k<=10000) (hx:s.short<=x/\x<=s.long):inP (dX s l k) x↔GL s (gi l k) x:=by
 rw [<- XK hs hn hx]
 constructor
 ·intro h
  have:=Zr hk h
  unfold inP at h;rw [this] at h;exact h
 ·intro h
  have:dX s l k=sp s l k:=QV hk h
  unfold inP;rw [this];exact h
theorem EU {U:Heap} {b i:Nat} {pl:List (Int×Int)} (h:dD U b (dL pl)) (hi:i<pl.length):aK U b (0+i*2) 2=some [.i (gp pl i).1,.i (gp pl i).2]:=by
 have h1:Nat.ble (i*2+2) (dL pl).length=true:=fc (by rw [wC];omega)
 have h2:=zy hi
 unfold aK
 rcases h with h|h|⟨t,h⟩ <;> rw [h] <;> simp only [aR,h1,h2,cond_true]
theorem Zv (l:List Int) (pl:List (Int×Int)) (s:St) (c:Nat) (f:Nat->Int×Int) (g:Nat->Int) :
  fD [aC.ro (ints l),.ro (dL pl),.rw s.cells,.rw (dI s (.s 0 l.length c) f g)].length [.ro (ints l),.ro (dL pl),.rw s.cells,.rw (dI s (.s 0 l.length c) f g)] :=
 ⟨aY (aZ l),aY (iy pl),aY (tY s),jE (dP oS).1 (dP (n:=1) oS).2,trivial⟩
theorem Je {A B:Prop} (k:B) (h:Hide B->A:=by intro z_;(repeat' (first|(refine gU ?_;first|refine MF ?_|refine MG ?_|(refine gFA ?_;refine st (bD rfl) rfl rfl ?_)|(refine cO ?_;first|refine st (aJ rfl (by rfl)) rfl rfl ?_|refine st (bG rfl (by rfl)) rfl rfl ?_)|refine sK9 ?_|refine sK0 ?_|(refine Iq ?_;refine st (lY rfl) rfl rfl ?_)|refine TL ?_|(refine Jw ?_;refine st (yP rfl rfl) rfl rfl ?_)|(refine dV ?_;refine st (bC rfl rfl rfl (by first|exact LP (by exact .inl rfl) (by assumption) (by assumption) (by assumption) rfl|exact GK (by exact .inl rfl) (by assumption) (by assumption) rfl)) rfl rfl ?_)|(refine ae8 ?_;refine st (Jt rfl) rfl rfl ?_))|(refine gG ?_;first|refine Ko ?_|refine FQ ?_|refine MC ?_)|refine uq ?_|refine aG ?_|refine kU ?_|refine rG ?_|refine abM ?_|refine ZL ?_|refine uz ?_|refine ae4 ?_|refine CJ rfl ?_|refine xE ?_|refine yN ?_|refine DL ?_|refine qg ?_|refine fA rfl ?_|refine fM rfl ?_));exact z_.h):A:=h ⟨k⟩
theorem Va (s:St) (l:List Int) (c:Nat) (pl:List (Int×Int)) (c2:Nat) (hN:l.length<=1000000) (hr:-9223372036854775808<=s.short/\s.short<=9223372036854775807) (h:gX s l ≠ 0) :
  Ev prog 71 [s.val,.s 0 l.length c,.s 1 pl.length c2] [.ro (ints l),.ro (dL pl)] (.tuple #[.pointer none,.i (gX s l)]) [.ro (ints l),.ro (dL pl)]:=by
 refine aH 2 109 func71 (h:=?_)
 refine Je ?_
 refine dG (.tmp rfl (.tmp rfl .nil)) (.plain rfl rfl) ⟨rfl,rfl⟩
theorem Q9 (s:St) (l:List Int) (c:Nat) (pl:List (Int×Int)) (c2:Nat) (hM:pl.length<=1000000) (hr:-9223372036854775808<=s.short/\s.short<=9223372036854775807) (h:gX s l=0) (hp:pl.length<1\/pl.length > 20) :
  Ev prog 71 [s.val,.s 0 l.length c,.s 1 pl.length c2] [.ro (ints l),.ro (dL pl)] (.tuple #[.pointer none,.i 6]) [.ro (ints l),.ro (dL pl)]:=by
 refine aH 2 109 func71 (h:=?_)
 repeat' (first|refine sCm ?_|(refine gU ?_;first|refine WH ?_|refine sK0 ?_|(refine lM ?_;first|refine st (ji rfl rfl) rfl rfl ?_|refine st (jk rfl rfl) rfl rfl ?_)|(refine dV ?_;refine st (bC rfl rfl rfl (by exact GK (by exact .inl rfl) oA oA rfl)) rfl rfl ?_))|(refine gG ?_;first|refine Ko ?_|refine FQ ?_|refine MC ?_|refine Qe rfl rfl ?_|((fail_if_success (refine N7 rfl ?_));(refine zC rfl ?_ ?_ <;> intro _)))|refine aG ?_|refine fA rfl ?_|refine fM rfl ?_)
 all_goals refine dG (.tmp rfl (.tmp rfl .nil)) (.plain rfl rfl) ⟨rfl,rfl⟩
def Cb (s:St) (pl:List (Int×Int)):Nat->Int
 |0=>s.long+1
 |i+1=>(gp pl i).1
def Zw (s:St) (l:List Int) (pl:List (Int×Int)):Value:=if someB pl.length (ku s l pl)=true then .tuple #[.pointer none,.int .i64 3] else if someB pl.length (lI s l pl)=true then .tuple #[.pointer none,.int .i64 19] else .tuple #[.pointer (some ⟨2,0,none⟩),.int .i64 0]
def Zx (s:St) (l:List Int) (c:Nat) (pl:List (Int×Int)):Heap:=if someB pl.length (ku s l pl)=true then [.ro (ints l),.ro (dL pl)] else if someB pl.length (lI s l pl)=true then [.ro (ints l),.ro (dL pl)] else [.ro (ints l),.ro (dL pl),.rw (dI s (.slice (some ⟨0,0,none⟩) l.length c) (dX s l) fun _=>0)]
theorem Ii (s:St) (l:List Int) (c:Nat) (pl:List (Int×Int)) (c2:Nat) (hr:-9223372036854775808<=s.short/\s.short<=9223372036854775807) (h:gX s l=0) (hp1:1<=pl.length) (hp2:pl.length<=20) :
  Ev prog 71 [s.val,.s 0 l.length c,.s 1 pl.length c2] [.ro (ints l),.ro (dL pl)] (Zw s l pl) (Zx s l c pl):=by
 obtain ⟨h12,h1,hs,ht⟩:=kH h
 have hs1:1<=s.short:=by unfold fB at hs;omega
 have hs2:s.short<=s.long:=by unfold fB at hs;omega
 have hs3:s.long<=100000:=by unfold fB at hs;omega
 unfold Zw Zx
 refine aH 2 109 func71 (h:=?_)
 refine Je ?_
 refine jq (ι:=Nat) (fun i=>[(1,.s 0 l.length c),(2,.s 1 pl.length c2),(3,.p 2),(8,.p 3),(10,.i (Cb s pl i)),(38,.s 1 pl.length c2),(39,.i (pl.length:Int)),(40,.i (i:Int))])
  (fun _=>[.ro (ints l),.ro (dL pl),.rw s.cells,.rw (dI s (.s 0 l.length c) (dX s l) fun _=>0)]) (fun i=>pl.length - i) (fun i=>i<=pl.length/\∀ j<i,¬ ku s l pl j) 0 oS (.same tE) ⟨oO,fun j hj=>oO⟩ ?_
 rintro i ⟨hi,a⟩
 by_cases e:i<pl.length
 ·have f:s.short<=Cb s pl i/\Cb s pl i<=s.long+1/\(0<i->Cb s pl i=(gp pl (i - 1)).1)/\(i=0->Cb s pl i=s.long+1):=by
   cases i with
   |zero=>exact ⟨by simp only [Cb];omega,by simp only [Cb];omega,fun h=>oO,fun _=>rfl⟩
   |succ k =>
    have:=rF a k oO
    exact ⟨by simp only [Cb];omega,by simp only [Cb];omega,fun _=>rfl,fun h=>oO⟩
  have o:aK [.ro (ints l),.ro (dL pl),.rw s.cells,.rw (dI s (.s 0 l.length c) (dX s l) fun _=>0)] 1 (0+i*2) 2=some [.i (gp pl i).1,.i (gp pl i).2]:=EU (.inl rfl) e
  generalize Cb s pl i=last at f
  repeat' (first|(refine gU ?_;first|refine MF ?_|refine MG ?_|(refine gFA ?_;refine st (bD rfl) rfl rfl ?_)|(refine cO ?_;first|refine st (aJ rfl oR) rfl rfl ?_|refine st (bG rfl oA) rfl rfl ?_)|(refine Fh ?_;refine st (pI rfl rfl oO) rfl rfl ?_)|refine sK0 ?_|(refine lM ?_;first|refine st (ji rfl rfl) rfl rfl ?_|refine st (jk rfl rfl) rfl rfl ?_)|refine sK3 ?_|(refine yT ?_;refine st (jG rfl) rfl rfl ?_)|refine TN ?_)|(refine gG ?_;first|refine Ko ?_|refine MB ?_|(refine cO ?_;refine pY rfl (aJ rfl oR) rfl rfl ?_)|(refine ae6 ?_;refine pY rfl (xG rfl rfl oO oO) rfl rfl ?_)|refine FQ ?_|refine MC ?_|(refine rW ?_;refine pY rfl (Ba rfl) rfl rfl ?_)|(refine dV ?_;refine pY rfl (bC rfl rfl rfl (by exact LJ (by exact .inr (.inl rfl)) rfl)) rfl rfl ?_)|(refine Bc ?_;refine pY rfl (oW oR oR oR oR rfl oR) rfl rfl ?_)|refine Qe rfl rfl ?_|((fail_if_success (refine N7 rfl ?_));(refine zC rfl ?_ ?_ <;> intro _)))|refine uq ?_|refine aG ?_|refine kU ?_|refine rG ?_|refine abM ?_|refine uz ?_|refine ae4 ?_|refine xE ?_|refine DL ?_|refine qg ?_|refine fA rfl ?_|(refine jm rfl ?_ ?_ <;> intro _))
  any_goals (first|(refine dG (.tmp rfl (.tmp rfl .nil)) (.plain rfl rfl) ?_;rw [if_pos (qo e (by unfold ku;omega)),if_pos (qo e (by unfold ku;omega))];exact ⟨rfl,rfl⟩)|exact ⟨rfl,i+1,⟨oO,xu a (by unfold ku;omega)⟩,oO,mP.drop [.ro (ints l),.ro (dL pl),.rw s.cells,.rw (dI s (.s 0 l.length c) (dX s l) fun _=>0)] [_,_] oS (Zv l pl s c _ _) (by (repeat' (first|exact trivial|exact ⟨rfl,rfl,rfl⟩|exact ⟨rfl,cZ rfl,rfl⟩|refine ⟨?_,?_⟩)))⟩)
 ·refine Je ?_
  have d:∀ j<pl.length,¬ ku s l pl j:=fun j hj=>a j oO
  clear a e
  have hf:¬ someB pl.length (ku s l pl)=true:=by rw [mV d];simp
  rw [if_neg hf,if_neg hf]
  refine jq (ι:=Nat) (fun i=>[(1,.s 0 l.length c),(2,.s 1 pl.length c2),(3,.p 2),(8,.p 3),(80,.s 1 pl.length c2),(81,.i (pl.length:Int)),(82,.i (i:Int))])
   (fun _=>[.ro (ints l),.ro (dL pl),.rw s.cells,.rw (dI s (.s 0 l.length c) (dX s l) fun _=>0)]) (fun i=>pl.length - i) (fun i=>i<=pl.length/\∀ j<i,¬ lI s l pl j) 0 oS (.same tE) ⟨oO,fun j hj=>oO⟩ ?_
  clear hi
  rintro i ⟨hi,a⟩
  have hb:∀ i<pl.length,-1000000<=(gp pl i).1/\(gp pl i).1<=1000000:=fun i hi=>by have:=rF d i hi;omega
  by_cases e:i<pl.length
  ·have hr:=rF d i e
   have hk:(gp pl i).2.toNat<12:=oO
   have o:aK [.ro (ints l),.ro (dL pl),.rw s.cells,.rw (dI s (.s 0 l.length c) (dX s l) fun _=>0)] 1 (0+i*2) 2=some [.i (gp pl i).1,.i (gp pl i).2]:=EU (.inl rfl) e
   have hc2:aK [.ro (ints l),.ro (dL pl),.rw s.cells,.rw (dI s (.s 0 l.length c) (dX s l) fun _=>0),.rw [.i (gp pl i).1,.i (gp pl i).2]] 3 (6+(gp pl i).2.toNat*2) 2=some [.i (dX s l (gp pl i).2.toNat).1,.i (dX s l (gp pl i).2.toNat).2]:=Ie (.inr (.inl rfl)) hk
   repeat' (first|(refine gU ?_;first|refine MF ?_|refine MG ?_|(refine cO ?_;refine st (bG rfl oA) rfl rfl ?_)|(refine Fh ?_;refine st (pI rfl rfl oO) rfl rfl ?_)|refine sK0 ?_|refine TK ?_|refine sK3 ?_|(refine dV ?_;refine st (bC rfl rfl rfl (by exact Dw (by exact .inr (.inl rfl)) rfl)) rfl rfl ?_)|(refine yT ?_;refine st (jG rfl) rfl rfl ?_)|refine TN ?_)|(refine fU ?_;first|refine Qd ?_|(refine fFA ?_;refine frA (bD rfl) rfl ?_)|(refine eU ?_;first|refine frA (aJ rfl oR) rfl ?_|refine frA (bG rfl oA) rfl ?_)|(refine L9 ?_;refine frA (jB rfl) rfl ?_)|(refine fIA ?_;refine frA (ng rfl rfl oO oO) rfl ?_)|(refine qX ?_;refine frA (bC rfl rfl rfl (by exact abf (t:=0) (l:=l) (by exact .inl rfl) (by exact .inr (.inl rfl)) (by exact .inl rfl) oO oO oA rfl)) rfl ?_)|(refine zY ?_;refine fr1 (jG rfl) rfl rfl rfl ?_)|refine aaq ?_)|(refine fP ⟨oK,?_⟩)|refine uq ?_|refine aG ?_|refine sK5 ?_|refine kU ?_|refine rG ?_|refine abM ?_|refine uz ?_|refine ae4 ?_|refine xE ?_|refine DL ?_|refine qg ?_|refine fA rfl ?_|(refine jm rfl ?_ ?_ <;> intro _))
   ·rename_i hq
    have g:lI s l pl i:=hq
    refine dG (.tmp rfl (.tmp rfl .nil)) (.plain rfl rfl) ?_
    rw [if_pos (qo e g),if_pos (qo e g)]
    exact ⟨rfl,rfl⟩
   ·rename_i hq
    have g:¬ lI s l pl i:=hq
    exact ⟨rfl,i+1,⟨oO,xu a g⟩,oO,mP.drop [.ro (ints l),.ro (dL pl),.rw s.cells,.rw (dI s (.s 0 l.length c) (dX s l) fun _=>0)] [_,_,_] oS (Zv l pl s c _ _) (by (repeat' (first|exact trivial|exact ⟨rfl,rfl,rfl⟩|exact ⟨rfl,cZ rfl,rfl⟩|refine ⟨?_,?_⟩)))⟩
  ·refine Je ?_
   have hf2:¬ someB pl.length (lI s l pl)=true:=by rw [mV fun j hj=>a j oO];simp
   refine dG (.tmp rfl (.tmp rfl .nil)) (.src [_] [3] rfl rfl rfl ⟨yj (m:=2) rfl (.inl rfl) (fun i hi=>gu hi) (cC rfl) (jE (n:=2) (tv:=.s 0 l.length c) (dP oO).1 (dP (n:=1) (i:=0) oO).2).1 (jE (n:=2) (tv:=.s 0 l.length c) (dP oO).1 (dP (n:=1) (i:=0) oO).2).2,trivial⟩ (v2:=.tuple #[.p 2,.i 0]) ?_) ?_
   ·refine .tuple _ _ rfl fun i hi _=>?_
    match i,hi with
    |0,_=>exact VQ.ptr (q:=true) (n:=3) (V:=fK 2 [3]) 2 0 oO
    |1,_=>exact .int _ _
   ·rw [if_neg hf2,if_neg hf2]
    exact ⟨rfl,rfl⟩
theorem MO {U:Heap} {s:St} {l:List Int} {pl:List (Int×Int)} {x y c c2:Nat} (hx:dD U x (ints l)) (hy:dD U y (dL pl)) (hN:l.length<=1000000) (hM:pl.length<=1000000) (hr:-9223372036854775808<=s.short/\s.short<=9223372036854775807)
  (h:kN s l pl ≠ 0) (hni:Ni U) :
  Ev prog 71 [s.val,.s x l.length c,.s y pl.length c2] U (.tuple #[.pointer none,.i (kN s l pl)]) U:=by
 have h0:Ev prog 71 [s.val,.s 0 l.length c,.s 1 pl.length c2] [.ro (ints l),.ro (dL pl)] (.tuple #[.pointer none,.i (kN s l pl)]) [.ro (ints l),.ro (dL pl)]:=by
  unfold kN at h ⊢
  by_cases hc:gX s l ≠ 0
  ·rw [if_pos hc];exact Va s l c pl c2 hN hr hc
  ·rw [if_neg hc] at h ⊢
   by_cases hp:pl.length<1\/pl.length > 20
   ·rw [if_pos hp];exact Q9 s l c pl c2 hM hr oO hp
   ·rw [if_neg hp] at h ⊢
    have:=Ii s l c pl c2 hr oO oO oO
    unfold Zw Zx at this
    by_cases h1:someB pl.length (ku s l pl)=true
    ·rw [if_pos h1,if_pos h1] at this;rw [if_pos h1];exact this
    ·rw [if_neg h1] at h ⊢
     by_cases h2:someB pl.length (lI s l pl)=true
     ·rw [if_neg h1,if_neg h1,if_pos h2,if_pos h2] at this;rw [if_pos h2];exact this
     ·rw [if_neg h2] at h;exact absurd rfl h
 exact Ev.arrs [ints l,dL pl] [x,y] h0 ⟨hx,hy,trivial⟩
  ⟨bF _ rfl,by simpa [bsR] using VQ.slice (q:=true) (n:=2) (V:=bsR [x,y]) 0 0 l.length c c (aD _) oO,by simpa [bsR] using VQ.slice (q:=true) (n:=2) (V:=bsR [x,y]) 1 0 pl.length c2 c2 (aD _) oO,trivial⟩ (by simp [aZ,iy]) rfl hni
theorem tZ {s:St} {l:List Int} {pl:List (Int×Int)} (h:kN s l pl=0):gX s l=0/\1<=pl.length/\pl.length<=20/\(∀ j<pl.length,¬ ku s l pl j)/\∀ j<pl.length,¬ lI s l pl j:=by
 unfold kN at h
 split at h
 ·rename_i hc;exact absurd h hc
 ·split at h
  ·cases h
  ·split at h
   ·cases h
   ·split at h
    ·cases h
    ·rename_i h1 h2 h3 h4
     exact ⟨oO,oO,oO,Ku h3,Ku h4⟩
theorem Rf {U:Heap} {s:St} {l:List Int} {pl:List (Int×Int)} {x y c c2:Nat} (hx:dD U x (ints l)) (hy:dD U y (dL pl)) (hN:l.length<=1000000) (hM:pl.length<=1000000) (hr:-9223372036854775808<=s.short/\s.short<=9223372036854775807)
  (h:kN s l pl=0) (hni:Ni U) :
  Ev prog 71 [s.val,.s x l.length c,.s y pl.length c2] U (.tuple #[.p U.length,.i 0]) (U++[.rw (dI s (.s x l.length c) (dX s l) fun _=>0)]):=by
 obtain ⟨g1,g2,g3,g4,g5⟩:=tZ h
 have h0:=Ii s l c pl c2 hr g1 g2 g3
 unfold Zw Zx at h0
 have e1:¬ someB pl.length (ku s l pl)=true:=by rw [mV g4];simp
 have e2:¬ someB pl.length (lI s l pl)=true:=by rw [mV g5];simp
 rw [if_neg e1,if_neg e1,if_neg e2,if_neg e2] at h0
 refine Ev.arrsN [ints l,dL pl] [x,y] (news:=[.rw (dI s (.s 0 l.length c) (dX s l) fun _=>0)]) h0 ⟨hx,hy,trivial⟩
  ⟨bF _ rfl,by simpa [bsR] using VQ.slice (q:=true) (n:=2) (V:=bsR [x,y]) 0 0 l.length c c (aD _) oO,by simpa [bsR] using VQ.slice (q:=true) (n:=2) (V:=bsR [x,y]) 1 0 pl.length c2 c2 (aD _) oO,trivial⟩ (by simp [aZ,iy]) rfl ?_ ?_ hni
 ·simp [ren,zM,yK,shf]
 ·simp only [cG,cY,CS,LM]
  simp [ren,shf,bsR]
theorem Zy {A B:Prop} (k:B) (h:Hide B->A:=by intro z_;(repeat' (first|refine sCm ?_|(refine gU ?_;first|refine WH ?_|(refine dV ?_;refine st (bC rfl rfl rfl (by first|exact MO (by exact .inl rfl) (by exact .inl rfl) (by assumption) (by assumption) (by assumption) (by assumption) rfl|exact Rf (by exact .inl rfl) (by exact .inl rfl) (by assumption) (by assumption) (by assumption) (by assumption) rfl)) rfl rfl ?_))|refine aG ?_));exact z_.h):A:=h ⟨k⟩
theorem XL (s:St) (l:List Int) (c:Nat) (pl:List (Int×Int)) (c2:Nat) (hN:l.length<=1000000) (hM:pl.length<=1000000) (hr:-9223372036854775808<=s.short/\s.short<=9223372036854775807) :
  Ev prog 23 [s.val,.s 0 l.length c,.s 1 pl.length c2] [.ro (ints l),.ro (dL pl)] (.i (kN s l pl)) [.ro (ints l),.ro (dL pl)]:=by
 by_cases h:kN s l pl=0
 ·refine aH 2 17 func23 (h:=?_)
  refine Zy ?_
  refine dG (.tmp rfl .nil) (.plain rfl rfl) ⟨by rw [h];rfl,rfl⟩
 ·have h':kN s l pl ≠ 0:=h
  clear h
  refine aH 2 17 func23 (h:=?_)
  refine Zy ?_
  refine dG (.tmp rfl .nil) (.plain rfl rfl) ⟨rfl,rfl⟩
theorem XM {U:Heap} {s:St} {l:List Int} {pl:List (Int×Int)} {x y c c2:Nat} (hx:dD U x (ints l)) (hy:dD U y (dL pl)) (hN:l.length<=1000000) (hM:pl.length<=1000000) (hr:-9223372036854775808<=s.short/\s.short<=9223372036854775807) (hni:Ni U) :
  Ev prog 23 [s.val,.s x l.length c,.s y pl.length c2] U (.i (kN s l pl)) U :=
 Ev.arrs [ints l,dL pl] [x,y] (XL s l c pl c2 hN hM hr) ⟨hx,hy,trivial⟩
  ⟨bF _ rfl,by simpa [bsR] using VQ.slice (q:=true) (n:=2) (V:=bsR [x,y]) 0 0 l.length c c (aD _) oO,by simpa [bsR] using VQ.slice (q:=true) (n:=2) (V:=bsR [x,y]) 1 0 pl.length c2 c2 (aD _) oO,trivial⟩ (by simp [aZ,iy]) rfl hni
def minN (l:List Int):Nat->Int
 |0=>gi l 0
 |n+1=>if n=0 then gi l 0 else min (minN l n) (gi l n)
open Go.AH.Heat Go.AH.Warp
theorem nS {U X:Heap} {i:Nat} {cs:List Value} (h:dD U i cs):dD (U++X) i cs:=by
 rcases h with h|h|⟨t,h⟩
 ·exact .inl (aA h)
 ·exact .inr (.inl (aA h))
 ·exact .inr (.inr ⟨t,aA h⟩)
theorem gB {U H:Heap} {i:Nat} {cs:List Value} (hp:H.take U.length=U) (h:dD U i cs):dD H i cs:=by
 have hi:=oJ h
 unfold dD at h ⊢
 rw [jL hp hi];exact h
theorem zA {U:Heap} (hni:Ni U):Ev prog 12 [] U (.bool true) U:=by
 have hf1:Ev prog 65 [] U (.bool true) U:=Ev.nil aa6.1 rfl rfl hni
 have hf2:Ev prog 66 [] U (.bool true) U:=Ev.nil aa3.1 rfl rfl hni
 have a:Ev prog 67 [] U (.bool true) U:=Ev.nil ai8.1 rfl rfl hni
 refine aH U.length 8 func12 (h:=?_)
 repeat' (first|refine sCm ?_|(refine gU ?_;first|(refine lM ?_;refine st (kC rfl oR rfl) rfl rfl ?_)|(refine dV ?_;refine st (bC rfl rfl rfl (by exact hf1)) rfl rfl ?_))|(refine gG ?_;(refine dV ?_;refine stG rfl oR (bC rfl rfl rfl (by first|exact hf2|exact a)) rfl rfl ?_))|refine aG ?_)
 exact dG (.tmp rfl .nil) .all ⟨rfl,rfl⟩
theorem ahq {A B:Prop} (k:B) (h:Hide B->A:=by intro z_;(repeat' (first|refine sCm ?_|(refine gU ?_;first|refine sK0 ?_|(refine lM ?_;first|refine st (kC rfl (by exact fE (by assumption)) rfl) rfl rfl ?_|refine st (je rfl (by exact bM (by assumption)) rfl) rfl rfl ?_))|(refine gG ?_;first|(refine wK ?_;refine stG rfl (by exact fE (by assumption)) (dY rfl) rfl rfl ?_)|(refine cO ?_;refine stG rfl (by exact fE (by assumption)) (bG rfl (by exact dZ rfl)) rfl rfl ?_)|(refine yS ?_;refine stG rfl (by exact fE (by assumption)) (iU rfl rfl rfl) rfl rfl ?_)|(refine dV ?_;refine stG rfl (by exact fE (by assumption)) (bC rfl rfl rfl (by exact hf1)) rfl rfl ?_)|refine stS rfl (by exact bM (by assumption)) rfl ?_)|refine aG ?_));exact z_.h):A:=h ⟨k⟩
theorem XO {U:Heap} {s:St} {l:List Int} {x c:Nat} (hx:dD U x (ints l)) (hni:Ni U) :
  Ev prog 11 [s.val,.s x l.length c] U (.bool (decide (l.length<=20/\gX s l=0))) U:=by
 have a:(U++[aC.rw s.cells]).all (fun o=>!aU o)=true:=aX hni rfl
 have hxl:x < U.length:=oJ hx
 have d:dD (U++[aC.rw s.cells]) x (ints l):=nS hx
 have hf1:=sQ (s:=s) (c:=c) d a
 refine aH U.length 14 func11 (h:=?_)
 by_cases h1:(l.length:Int)<=20
 ·refine ahq ?_
  refine dG (.tmp rfl .nil) (.plain oS rfl) ⟨?_,rfl⟩
  simp [jH];omega
 ·refine ahq ?_
  refine dG (.tmp rfl .nil) (.plain oS rfl) ⟨?_,rfl⟩
  simp [jH];omega
end Go.Proofs.YtajpgeklmcjciaaGreat
namespace Go.AH
def Rh:Code->Nat->Bool
 |.region i _ _,k=>Nat.beq i k
 |.seq a _,k=>Rh a k
 |.block _ c,k=>Rh c k
 |.loop c,k=>Rh c k
 |_,_=>false
def aes (k:Nat):Code->Code
 |.seq a b=>bif Rh a k then .seq a b else aes k b
 |c=>c
def ahr (fn:Func):Code:=match fn.body with|some c=>c|none=>.skip
end Go.AH
namespace Go.Proofs.YtajpgeklmcjciaaGreat
attribute [local irreducible] dA bJ bK jh fQ dK eH bY eu aW dR dW
theorem abk {s:St} {l:List Int} (h:zJ s l=0):1<=(wE s l).length:=by
 unfold zJ at h
 unfold wE
 split at h
 ·rename_i hc;exact absurd h hc
 ·rename_i hc
  obtain ⟨_,_,hs,_⟩:=kH (by omega:gX s l=0)
  have hs2:s.short<=s.long:=by unfold fB at hs;omega
  rw [if_neg hc]
  unfold Dy
  split at h
  ·rename_i hp
   rw [if_pos hp]
   unfold qP at hp ⊢
   rw [show (s.long - s.short+1).toNat=(s.long - s.short).toNat+1 from by omega] at hp ⊢
   simp only [grd] at hp ⊢
   split
   ·rename_i hq;rw [if_pos hq] at hp;simp only at hp;omega
   ·simp
  ·cases h
theorem agz {F:Nat->Int×Int} {n:Nat} {x:Int} (h:¬ gY F x n<0):(gY F x n).toNat<n/\(F (gY F x n).toNat).1<=x/\x<=(F (gY F x n).toNat).2/\∀ i<n,(F i).1<=x->x<=(F i).2->(F (gY F x n).toNat).1<=(F i).1:=by
 rcases AX F x n with ⟨h1,_⟩|⟨b,hb,h1,h2,h3,h4⟩
 ·omega
 ·rw [h1,dj]
  exact ⟨hb,h2,h3,fun i hi g1 g2=>(h4 i hi g1 g2).1⟩
theorem aeu {F:Nat->Int×Int} {n:Nat} {to:Int}:∀ (k:Nat) (x:Int) (m:Nat),m<(grd F n to k x).1.length->to<=(gp (grd F n to k x).1 m).1
 |0,x,m,h=>by simp [grd] at h
 |k+1,x,m,h=>by
  simp only [grd] at h ⊢
  by_cases hs:x<to\/gY F x n<0
  ·rw [if_pos hs] at h;simp at h
  ·rw [if_neg hs] at h ⊢
   cases m with
   |zero=>show to<=x;omega
   |succ m=>exact aeu k _ m (oU h)
theorem Vb {F:Nat->Int×Int} {n:Nat} {to:Int}:∀ (k:Nat) (x:Int) (i:Nat),i<(grd F n to k x).1.length ->
  (gp (grd F n to k x).1 i).2=gY F (gp (grd F n to k x).1 i).1 n/\0<=(gp (grd F n to k x).1 i).2/\(i=0->(gp (grd F n to k x).1 i).1=x) /\
  (i+1<(grd F n to k x).1.length->(gp (grd F n to k x).1 (i+1)).1=(F (gp (grd F n to k x).1 i).2.toNat).1 - 1)/\(i+1=(grd F n to k x).1.length->(grd F n to k x).2=(F (gp (grd F n to k x).1 i).2.toNat).1 - 1)
 |0,x,i,h=>by simp [grd] at h
 |k+1,x,i,h=>by
  by_cases hs:x<to\/gY F x n<0
  ·rw [LX hs] at h;simp at h
  ·have e1:grd F n to (k+1) x=((x,gY F x n)::(grd F n to k ((F (gY F x n).toNat).1 - 1)).1,(grd F n to k ((F (gY F x n).toNat).1 - 1)).2):=by simp only [grd];rw [if_neg hs]
   rw [e1] at h ⊢
   have ih:=Vb (F:=F) (n:=n) (to:=to) k ((F (gY F x n).toNat).1 - 1)
   generalize hG:grd F n to k ((F (gY F x n).toNat).1 - 1)=G at h ih ⊢
   cases i with
   |zero =>
    refine ⟨rfl,by show 0<=gY F x n;omega,fun _=>rfl,fun h1=>?_,fun h1=>?_⟩
    ·exact (ih 0 (oU h1)).2.2.1 rfl
    ·have h0:G.1=[]:=List.eq_nil_of_length_eq_zero (oU h1.symm)
     show G.2=(F (gY F x n).toNat).1 - 1
     cases k with
     |zero=>rw [<- hG];rfl
     |succ k =>
      by_cases a:((F (gY F x n).toNat).1 - 1)<to\/gY F ((F (gY F x n).toNat).1 - 1) n<0
      ·rw [LX a] at hG;rw [<- hG]
      ·simp only [grd] at hG;rw [if_neg a] at hG;rw [<- hG] at h0;simp at h0
   |succ i =>
    have hi:i<G.1.length:=by simpa using h
    obtain ⟨g1,g2,g3,g4,g5⟩:=ih i hi
    exact ⟨g1,g2,fun h0=>oO,fun h1=>g4 (oU h1),fun h1=>g5 (oU h1)⟩
structure uj (s:St) (l:List Int) (R:List (Int×Int)):Prop where
 pos:1<=R.length
 first:(gp R 0).1=s.long
 best:∀ i<R.length,(gp R i).2=gY (sp s l) (gp R i).1 l.length/\0<=(gp R i).2
 next:∀ i,i+1<R.length->(gp R (i+1)).1=(sp s l (gp R i).2.toNat).1 - 1
 last:∀ i,i+1=R.length->(sp s l (gp R i).2.toNat).1<=s.short
 low:∀ i<R.length,s.short<=(gp R i).1
theorem XP {s:St} {l:List Int} (h:gX s l=0) (hp:zJ s l=0):uj s l (wE s l):=by
 have a:=abk hp
 unfold zJ at hp
 rw [if_neg oO] at hp
 by_cases c:(qP (sp s l) l.length s.long s.short).2<s.short
 ·have hR:wE s l=(qP (sp s l) l.length s.long s.short).1:=by
   unfold wE Dy;rw [if_neg oO,if_pos c]
  rw [hR] at a ⊢
  unfold qP at c a ⊢
  have hr:=Vb (F:=sp s l) (n:=l.length) (to:=s.short) (s.long - s.short+1).toNat s.long
  have d:=aeu (F:=sp s l) (n:=l.length) (to:=s.short) (s.long - s.short+1).toNat s.long
  generalize grd (sp s l) l.length s.short (s.long - s.short+1).toNat s.long=G at c a hr d ⊢
  exact ⟨a,(hr 0 oO).2.2.1 rfl,fun i hi=>⟨(hr i hi).1,(hr i hi).2.1⟩,fun i hi=>(hr i oO).2.2.2.1 hi,fun i hi=>by have:=(hr i oO).2.2.2.2 hi;omega,d⟩
 ·rw [if_neg c] at hp;cases hp
section
variable {s:St} {l:List Int} {R:List (Int×Int)}
theorem uj.at (h:uj s l R) {i:Nat} (hi:i<R.length):(gp R i).2.toNat<l.length/\(sp s l (gp R i).2.toNat).1<=(gp R i).1/\(gp R i).1<=(sp s l (gp R i).2.toNat).2/\∀ k<l.length,(sp s l k).1<=(gp R i).1->(gp R i).1<=(sp s l k).2->(sp s l (gp R i).2.toNat).1<=(sp s l k).1:=by
 obtain ⟨h1,h2⟩:=h.best i hi
 have h3:=agz (F:=sp s l) (n:=l.length) (x:=(gp R i).1) oO
 rw [<- h1] at h3
 exact h3
theorem uj.down (h:uj s l R) {i:Nat} (hi:i+1<R.length):(gp R (i+1)).1<(gp R i).1:=by
 have h1:=h.next i hi
 have h2:=h.at (i:=i) oO
 omega
def zK (F:Nat->Int×Int) (x:Int):Nat->Nat
 |0=>0
 |n+1=>zK F x n+if (F n).1<=x then 1 else 0
theorem Vd (F:Nat->Int×Int) (x:Int):∀ n,zK F x n<=n
 |0=>aD _
 |n+1=>by have:=Vd F x n;simp only [zK];split <;> omega
theorem LY {F:Nat->Int×Int} {x y:Int} (h:x<=y):∀ n,zK F x n<=zK F y n
 |0=>aD _
 |n+1=>by have:=LY (F:=F) h n;simp only [zK];split <;> split <;> omega
theorem Ve {F:Nat->Int×Int} {x y:Int} (h:x<=y):∀ n,(∃ b<n,(F b).1<=y/\¬ (F b).1<=x)->zK F x n<zK F y n
 |0,⟨b,hb,_⟩=>by omega
 |n+1,⟨b,hb,h1,h2⟩=>by
  simp only [zK]
  by_cases a:b=n
  ·subst a
   have:=LY (F:=F) h b
   rw [if_neg h2,if_pos h1];omega
  ·have:=Ve h n ⟨b,oO,h1,h2⟩
   split <;> split <;> omega
theorem uj.cnt (h:uj s l R):∀ i<R.length,zK (sp s l) (gp R i).1 l.length+i<=l.length
 |0,_=>by have:=Vd (sp s l) (gp R 0).1 l.length;omega
 |i+1,hi=>by
  have ih:=uj.cnt h i oO
  have h1:=h.next i hi
  have h2:=h.at (i:=i) oO
  have:=Ve (F:=sp s l) (x:=(gp R (i+1)).1) (y:=(gp R i).1) oO l.length ⟨_,h2.1,h2.2.1,oO⟩
  omega
theorem OO {F:Nat->Int×Int} {x:Int}:∀ n,(∃ b<n,(F b).1<=x)->1<=zK F x n
 |0,⟨b,hb,_⟩=>by omega
 |n+1,⟨b,hb,h1⟩=>by
  simp only [zK]
  by_cases a:b=n
  ·subst a;rw [if_pos h1];omega
  ·have:=OO n ⟨b,oO,h1⟩;omega
theorem uj.len (h:uj s l R):R.length<=l.length:=by
 have hp:=h.pos
 have h1:=h.cnt (R.length - 1) oO
 have h2:=h.at (i:=R.length - 1) oO
 have h3:=OO (F:=sp s l) (x:=(gp R (R.length - 1)).1) l.length ⟨_,h2.1,h2.2.1⟩
 omega
theorem uj.right (h:uj s l R) (hc:gX s l=0):kN s l R=0:=by
 obtain ⟨h12,hl1,hs,ht⟩:=kH hc
 have hs1:1<=s.short:=by unfold fB at hs;omega
 have hlen:=h.len
 have hpos:=h.pos
 have c:∀ j<R.length,¬ ku s l R j:=fun j hj=>by
  have h1:=h.at hj
  have h2:=h.low j hj
  have h3:=h.best j hj
  unfold ku
  rintro (⟨rfl,hx⟩|⟨h0,hx⟩|hx|hx|hx)
  ·exact hx h.first
  ·have:=h.down (i:=j - 1) oO
   rw [show j - 1+1=j from by omega] at this
   omega
  ·omega
  ·omega
  ·omega
 have a:∀ j<R.length,¬ lI s l R j:=fun j hj hb=>by
  have h1:=h.at hj
  have h2:=h.low j hj
  have e:dX s l (gp R j).2.toNat=sp s l (gp R j).2.toNat:=QV h1.1 ⟨h1.2.1,h1.2.2.1⟩
  have hen:(sp s l (gp R j).2.toNat).1<=yI s.short R j/\yI s.short R j<=(gp R j).1:=by
   unfold yI
   split
   ·rename_i d
    have:=h.next j d
    have:=h.down d
    omega
   ·have:=h.last j oO
    omega
  unfold lI inP at hb
  rw [e] at hb
  omega
 unfold kN
 rw [if_neg oO,if_neg oO,if_neg (by rw [mV c];simp),if_neg (by rw [mV a];simp)]
end
theorem Ri {A B:Prop} (k:B) (h:Hide B->A:=by intro z_;(repeat' (first|refine sCm ?_|(refine gU ?_;first|refine WH ?_|refine sK0 ?_|refine TL ?_|(refine dV ?_;refine st (bC rfl rfl rfl (by exact sQ (by exact .inl rfl) rfl)) rfl rfl ?_))|(refine gG ?_;first|refine Ko ?_|refine FQ ?_|refine MC ?_)|refine aG ?_|refine fA rfl ?_|refine fM rfl ?_));exact z_.h):A:=h ⟨k⟩
theorem Vf (s:St) (l:List Int) (c:Nat) (pl:List (Int×Int)) (c2:Nat) (h:gX s l ≠ 0) :
  Ev prog 13 [s.val,.s 0 l.length c,.s 1 pl.length c2] [.ro (ints l),.ro (dL pl)] (.i (gX s l)) [.ro (ints l),.ro (dL pl)]:=by
 refine aH 2 122 func13 (h:=?_)
 refine Ri ?_
 refine dG (.tmp rfl .nil) (.plain rfl rfl) ⟨rfl,rfl⟩
theorem Rj (s:St) (l:List Int) (c:Nat) (pl:List (Int×Int)) (c2:Nat) (h:gX s l=0) (hp:pl.length<1\/pl.length > 20) :
  Ev prog 13 [s.val,.s 0 l.length c,.s 1 pl.length c2] [.ro (ints l),.ro (dL pl)] (.i 6) [.ro (ints l),.ro (dL pl)]:=by
 refine aH 2 122 func13 (h:=?_)
 repeat' (first|refine sCm ?_|(refine gU ?_;first|refine WH ?_|refine sK0 ?_|(refine lM ?_;first|refine st (ji rfl rfl) rfl rfl ?_|refine st (jk rfl rfl) rfl rfl ?_)|(refine dV ?_;refine st (bC rfl rfl rfl (by exact sQ (by exact .inl rfl) rfl)) rfl rfl ?_))|(refine gG ?_;first|refine Ko ?_|refine FQ ?_|refine MC ?_|refine Qe rfl rfl ?_|((fail_if_success (refine N7 rfl ?_));(refine zC rfl ?_ ?_ <;> intro _)))|refine aG ?_|refine fA rfl ?_|refine fM rfl ?_)
 all_goals refine dG (.tmp rfl .nil) (.plain rfl rfl) ⟨rfl,rfl⟩
theorem Vg (s:St) (l:List Int) (c:Nat) (pl:List (Int×Int)) (c2:Nat) (h:gX s l=0) (hp1:1<=pl.length) (hp2:pl.length<=20) :
  Ev prog 13 [s.val,.s 0 l.length c,.s 1 pl.length c2] [.ro (ints l),.ro (dL pl)] (.i (if someB pl.length (ku s l pl)=true then 3 else if someB pl.length (lI s l pl)=true then 19 else 0)) [.ro (ints l),.ro (dL pl)]:=by
 obtain ⟨h12,h1,hs,ht⟩:=kH h
 have r:=LQ ht
 have hs1:1<=s.short:=by unfold fB at hs;omega
 have w:s.short<=s.long:=by unfold fB at hs;omega
 have hs3:s.long<=100000:=by unfold fB at hs;omega
 refine aH 2 122 func13 (h:=?_)
 refine Ri ?_
 refine jq (ι:=Nat) (fun i=>[(1,.s 0 l.length c),(2,.s 1 pl.length c2),(3,.p 2),(7,.i (i:Int))])
  (fun _=>[.ro (ints l),.ro (dL pl),.rw s.cells]) (fun i=>pl.length - i) (fun i=>i<=pl.length/\∀ j<i,¬ ku s l pl j) 0 oS (.same tE) ⟨oO,fun j hj=>oO⟩ ?_
 rintro i ⟨hi,d⟩
 have o:i<pl.length->aI [.ro (ints l),.ro (dL pl),.rw s.cells] 1 (0+i*2+0)=some (.i (gp pl i).1):=fun h=>by simpa [aI] using sS h
 have m:i<pl.length->aI [.ro (ints l),.ro (dL pl),.rw s.cells] 1 (0+i*2+1)=some (.i (gp pl i).2):=fun h=>by simpa [aI] using BL h
 have n:(0<i/\i<pl.length)->aI [.ro (ints l),.ro (dL pl),.rw s.cells] 1 (0+((i:Int) - 1).toNat*2+0)=some (.i (gp pl (i - 1)).1):=fun h=>by
  rw [show ((i:Int) - 1).toNat=i - 1 from by omega]
  simpa [aI] using sS (pl:=pl) (i:=i - 1) oO
 repeat' (first|refine sCm ?_|(refine gU ?_;refine sK0 ?_)|(refine fU ?_;first|refine Qd ?_|(refine Fp ?_;refine frA (iU rfl rfl rfl) rfl ?_)|(refine DW ?_;first|refine frA (ji rfl rfl) rfl ?_|refine frA (jk rfl rfl) rfl ?_))|(refine fG ?_;first|(refine nH ?_;refine pR rfl (dY rfl) rfl ?_)|(refine fFA ?_;refine pR rfl (bD rfl) rfl ?_)|(refine eU ?_;refine pR rfl (aJ rfl (by first|rfl|exact o oO|exact m oO|exact n oO)) rfl ?_)|(refine fSub ?_;refine pR rfl (xG rfl rfl oO oO) rfl ?_)|(refine Fp ?_;refine pR rfl (iU rfl rfl rfl) rfl ?_)|(refine Sj ?_;refine pR rfl (lY rfl) rfl ?_)|(refine DW ?_;first|refine pR rfl (ji rfl rfl) rfl ?_|refine pR rfl (jk rfl rfl) rfl ?_)|(refine fIA ?_;first|refine pR rfl (iE rfl rfl oO) rfl ?_|refine pR rfl (pJ rfl rfl oO oO) rfl ?_)|refine frSU rfl rfl ?_|refine ac0 rfl rfl ?_|((fail_if_success (refine ac1 rfl ?_));(refine abP rfl ?_ ?_ <;> intro _)))|(refine fP ⟨oK,?_⟩)|refine aG ?_|refine sK5 ?_|refine fA rfl ?_|(refine jm rfl ?_ ?_ <;> intro _))
 any_goals (first|(refine dG (.tmp rfl .nil) (.plain rfl rfl) ⟨?_,rfl⟩;rw [if_pos (qo (i:=i) oO (by unfold ku;omega))];rfl)|exact ⟨rfl,i+1,⟨oO,xu d (by unfold ku;omega)⟩,oO,.same tE⟩|skip)
 have a:∀ j<pl.length,¬ ku s l pl j:=fun j hj=>d j oO
 clear o m n d
 rw [if_neg (by rw [mV a];simp)]
 refine jq (ι:=Nat) (fun i=>[(1,.s 0 l.length c),(2,.s 1 pl.length c2),(3,.p 2),(8,.i (i:Int))])
  (fun _=>[.ro (ints l),.ro (dL pl),.rw s.cells]) (fun i=>pl.length - i) (fun i=>i<=pl.length/\∀ j<i,¬ lI s l pl j) 0 oS (.same tE) ⟨oO,fun j hj=>oO⟩ ?_
 clear hi
 rintro i ⟨hi,d⟩
 have hb:∀ i<pl.length,-1000000<=(gp pl i).1/\(gp pl i).1<=1000000:=fun i hi=>by have:=rF a i hi;omega
 by_cases g:i<pl.length
 ·have hr:=rF a i g
  have he:=Zu w a g
  have hk:(gp pl i).2.toNat<l.length:=oO
  have hn:=r _ hk
  have u:s.short<=(gp pl i).1/\(gp pl i).1<=s.long:=oO
  have v:s.short<=yI s.short pl i/\yI s.short pl i<=s.long:=oO
  have o:aI [.ro (ints l),.ro (dL pl),.rw s.cells] 1 (0+i*2+0)=some (.i (gp pl i).1):=by simpa [aI] using sS g
  have m:aI [.ro (ints l),.ro (dL pl),.rw s.cells] 1 (0+i*2+1)=some (.i (gp pl i).2):=by simpa [aI] using BL g
  have n:aI [.ro (ints l),.ro (dL pl),.rw s.cells] 0 (0+(gp pl i).2.toNat*1)=some (.i (gi l (gp pl i).2.toNat)):=by simpa [aI] using iF hk
  have e:=Q8 hs hk hn u
  have f:=Q8 hs hk hn v
  repeat' (first|refine sCm ?_|(refine gU ?_;first|(refine cO ?_;refine st (aJ rfl oA) rfl rfl ?_)|refine sK0 ?_|(refine gIA ?_;first|refine st (iE rfl rfl oO) rfl rfl ?_|refine st (pJ rfl rfl oO oO) rfl rfl ?_))|(refine fU ?_;first|refine Qd ?_|(refine fFA ?_;refine frA (bD rfl) rfl ?_)|(refine eU ?_;first|refine frA (aJ rfl oA) rfl ?_|refine frA (bG rfl oR) rfl ?_)|(refine DW ?_;first|refine frA (ji rfl rfl) rfl ?_|refine frA (jk rfl rfl) rfl ?_)|(refine afb ?_;refine frA (Ba rfl) rfl ?_)|(refine fIA ?_;refine frA (iE rfl rfl oO) rfl ?_)|(refine qX ?_;refine frA (bC rfl rfl rfl (by exact ET oA oA oA rfl)) rfl ?_))|(refine fG ?_;first|(refine nH ?_;refine pR rfl (dY rfl) rfl ?_)|(refine eU ?_;refine pR rfl (bG rfl oR) rfl ?_)|(refine afb ?_;refine pR rfl (Ba rfl) rfl ?_)|(refine qX ?_;refine pR rfl (bC rfl rfl rfl (by first|exact ET oA oA oA rfl|exact abd (by exact .inl rfl) oO oO oA rfl)) rfl ?_)|refine ac0 rfl rfl ?_|((fail_if_success (refine ac1 rfl ?_));(refine abP rfl ?_ ?_ <;> intro _)))|(refine fP ⟨oK,?_⟩)|refine aG ?_|refine sK5 ?_|refine fA rfl ?_|(refine jm rfl ?_ ?_ <;> intro _))
  ·rename_i hq
   refine dG (.tmp rfl .nil) (.plain rfl rfl) ⟨?_,rfl⟩
   rw [if_pos (qo g (fun h=>hq (e.1 h.1)))];rfl
  ·rename_i q hq
   refine dG (.tmp rfl .nil) (.plain rfl rfl) ⟨?_,rfl⟩
   rw [if_pos (qo g (fun h=>hq (f.1 h.2)))];rfl
  ·rename_i q hq
   exact ⟨rfl,i+1,⟨oO,xu d (fun h=>h ⟨e.2 (Classical.not_not.1 q),f.2 (Classical.not_not.1 hq)⟩)⟩,oO,.same tE⟩
 ·refine Ri ?_
  refine dG (.tmp rfl .nil) (.plain rfl rfl) ⟨?_,rfl⟩
  rw [if_neg (by rw [mV fun j hj=>d j oO];simp)];rfl
theorem XQ (s:St) (l:List Int) (c:Nat) (pl:List (Int×Int)) (c2:Nat) :
  Ev prog 13 [s.val,.s 0 l.length c,.s 1 pl.length c2] [.ro (ints l),.ro (dL pl)] (.i (kN s l pl)) [.ro (ints l),.ro (dL pl)]:=by
 unfold kN
 by_cases h:gX s l=0
 ·rw [if_neg oO]
  by_cases hp:pl.length<1\/pl.length > 20
  ·rw [if_pos hp];exact Rj s l c pl c2 h hp
  ·rw [if_neg hp];exact Vg s l c pl c2 h oO oO
 ·rw [if_pos h];exact Vf s l c pl c2 h
theorem LZ {U:Heap} {s:St} {l:List Int} {pl:List (Int×Int)} {x y c c2:Nat} (hx:dD U x (ints l)) (hy:dD U y (dL pl)) (hni:Ni U) :
  Ev prog 13 [s.val,.s x l.length c,.s y pl.length c2] U (.i (kN s l pl)) U :=
 Ev.arrs [ints l,dL pl] [x,y] (XQ s l c pl c2) ⟨hx,hy,trivial⟩
  ⟨bF _ rfl,by simpa [bsR] using VQ.slice (q:=true) (n:=2) (V:=bsR [x,y]) 0 0 l.length c c (aD _) oO,by simpa [bsR] using VQ.slice (q:=true) (n:=2) (V:=bsR [x,y]) 1 0 pl.length c2 c2 (aD _) oO,trivial⟩ (by simp [aZ,iy]) rfl hni
end Go.Proofs.YtajpgeklmcjciaaGreat
namespace Go.AH
section
variable {P:Program} {n0 N:Nat} {K:Env->List Nat->Heap->Prop} {e:Env} {mk:List Nat} {U:Heap} {all:List Oper} {listed:List Bool} {fuel:Nat}
end
end Go.AH
namespace Go.Proofs.YtajpgeklmcjciaaGreat
attribute [local irreducible] dA bJ bK jh fQ dK eH bY eu aW dR dW
open Go.AH.Heat Go.AH.Warp
theorem agA {U:Heap} {y i:Nat} {pl:List (Int×Int)} (h:dD U y (dL pl)) (hi:i<pl.length):aI U y (0+i*2+0)=some (.i (gp pl i).1):=by
 rw [aR,cV]
 have h1:=sS hi
 rcases h with h|h|⟨t,h⟩ <;> simpa [aI,h] using h1
theorem agB {U:Heap} {y i:Nat} {pl:List (Int×Int)} (h:dD U y (dL pl)) (hi:i<pl.length):aI U y (0+i*2+1)=some (.i (gp pl i).2):=by
 rw [aR]
 have h1:=BL hi
 rcases h with h|h|⟨t,h⟩ <;> simpa [aI,h] using h1
theorem ai9 {U:Heap} {y i:Nat} {l:List Int} (h:dD U y (ints l)) (hi:i<l.length):aI U y i=some (.i (gi l i)):=by
 have h1:=iF hi
 rcases h with h|h|⟨t,h⟩ <;> simpa [aI,h] using h1
theorem xw {U K H:Heap} (h1:H.take K.length=K) (h2:K.take U.length=U):H.take U.length=U:=by
 have hl:=take_len h2
 have h3:(H.take K.length).take U.length=K.take U.length:=by rw [h1]
 rw [eA,h2,fo hl] at h3
 exact h3
def _root_.Go.AH.Warp.Bld.aft (B:Bld) (d:Nat->Int):Nat->Int:=fun i=>B.ang i+Bl.jy d i
theorem _root_.Go.AH.Warp.GN {n:Nat} {f:Nat->Int}:ints (fO (n+1) f)=ints (fO n f)++[.i (f n)]:=by
 simp [ints,fO,ff]
theorem _root_.Go.AH.Warp.Vh {n:Nat} {f:Nat->Int} {y:Int} (h:y ∈ fO n f):∃ i<n,f i=y:=by
 simpa [fO] using h
theorem BM {U:Heap} {y i n:Nat} {f:Nat->Int} (h:dD U y (ints (fO n f))) (hi:i<n):aI U y i=some (.i (f i)):=by
 have h1:=Lr (f:=f) hi
 rcases h with h|h|⟨t,h⟩ <;> simpa [aI,h] using h1
theorem Ij {A B:Prop} (k:B) (h:Hide B->A:=by intro z_;(repeat' (first|refine sCm ?_|(refine gU ?_;first|(refine cO ?_;first|refine st (aJ rfl (by first|exact aF a0|exact hd1)) rfl rfl ?_|refine st (bG rfl (by exact dZ rfl)) rfl rfl ?_)|refine sK9 ?_|refine sK0 ?_|(refine rW ?_;refine st (iV rfl) rfl rfl ?_)|refine sK6 ?_|(refine ae7 ?_;refine st (Cj rfl) rfl rfl ?_)|(refine dV ?_;refine st (bC rfl rfl rfl (by first|exact hf1|exact hf2)) rfl rfl ?_))|(refine fU ?_;first|refine nH ?_;refine frA (dY rfl) rfl ?_ (mQ (by assumption))|refine abR ?_;refine frA (yV rfl rfl rfl) rfl ?_ (mQ (by assumption))|refine fFA ?_;refine frA (bD rfl) rfl ?_ (hcl (by assumption))|refine eU ?_;refine frA (aJ rfl (by exact hq1 _)) rfl ?_ (hcs (by assumption))|refine eU ?_;refine frA (aJ rfl (by exact hq2 _)) rfl ?_ rfl|refine fIA ?_;refine frA (iE rfl rfl (by omega)) rfl ?_ (hcl (by assumption))|refine Iy ?_|refine TM ?_|(refine Sj ?_;refine fr (Pn rfl) (by rfl) rfl ?_)|refine aaq ?_)|(refine fP ⟨by kernel_rfl,?_⟩)|refine bU (id:=2) ?_|refine bU (id:=8) ?_|refine bU (id:=10) ?_|refine bU (id:=14) ?_|refine aG ?_|refine sK2 ?_|refine sK1 ?_|fail));exact z_.h):A:=h ⟨k⟩
theorem abl {U:Heap} {B:Bld} {sb cS xb c:Nat} {d:Nat->Int} (hv:mJ B) (hS:kQ U B sb) (hx:dD U xb (ints (fO B.n d))) (hd:∀ i<B.n,-B.most<=d i/\d i<=B.most) (hni:Ni U) :
  Ev prog 35 [.agg #[.s sb B.n cS,.i B.most],.s xb B.n c] U (.tuple #[.s U.length B.n B.n,.i 0]) (U++[.rw (ints (fO B.n (B.aft d)))]):=by
 have hn1:=hv.n
 have hm:=hv.most
 refine aH U.length 61 func35 (h:=?_)
 obtain ⟨K,hK⟩:=xy (U++[aC.rw [.s sb B.n cS,.i B.most]])
 have a0:K[U.length]?=some (.rw [.s sb B.n cS,.i B.most]):=by rw [hK];exact aN
 have hp:K.take U.length=U:=by rw [hK];simp
 have e:Ni K:=by rw [hK];exact aX hni rfl
 have u:kQ K B sb:=by rw [hK];exact kQ.app hS
 have w:dD K xb (ints (fO B.n d)):=by rw [hK];exact nS hx
 have hf1:=BX (cS:=cS) hv u e
 have hf2:=oM (U:=K) (l:=fO B.n d) (lo:=-B.most) (hi:=B.most) (c:=c) w (by rw [nO];omega) e
 rw [decide_eq_true (fun y hy=>by obtain ⟨i,hi,rfl⟩:=Vh hy;exact hd i hi),nO] at hf2
 have hw:IntKind.i64.wrap (0 - B.most)=-B.most:=by rw [wrap64 oO oO];omega
 rw [<- hw] at hf2
 have hlen:¬ ((B.n:Nat):Int) ≠ ((B.n:Nat):Int):=fun h=>h rfl
 rw [hK] at hf1 hf2
 refine Ij ?_
 refine .mk (dB [(1,.s xb B.n c),(2,.p U.length),(6,.i 0)] K hK.symm tE ?_)
 rw [<- hK] at hf1 hf2
 apply aG
 refine Ij ?_
 refine .mk (dB [(1,.s xb B.n c),(2,.p U.length)] K rfl tE ?_)
 clear hf1 hf2 hw hK
 apply aG
 refine Ij ?_
 refine .mk (aG ?_)
 refine Ij ?_
 refine Uc 2 ?_
 refine dO (ι:=Nat×Nat) (fun k=>[(2,.p U.length),(7,.i (bZ d k.1)),(8,eP k.2 1 k.1),(33,.s xb B.n c),(34,.i (B.n:Nat)),(35,.i (k.1:Nat))])
  (fun k mk H=>k.1<=B.n/\mk=[]/\H.take U.length=U/\H.all (fun o=>!aU o)=true/\H[U.length]?=some (.rw [.s sb B.n cS,.i B.most])/\U.length<k.2/\H[k.2]?=some (.gr (ints (fO k.1 (B.aft d))) 2)) (fun k=>B.n - k.1) (0,K.length) tE ⟨bL _,rfl,aP hp,aX e rfl,aA a0,aS a0,aN⟩ ?_
 clear a0 hp e u w K
 rintro ⟨k,g⟩ mk H ⟨hk,rfl,hp,r,a0,z,hg⟩
 dsimp only at hk z hg ⊢
 have D:=aS hg
 have hxb:xb<H.length:=by have:=oJ hx;have:=take_len hp;omega
 have hbl:sb<H.length:=by
  have h4:=dS (hS.st 0 oO);have:=take_len hp;omega
 by_cases f:k<B.n
 ·have E:(k:Int)<(B.n:Nat):=oO
  have hd1:aI H xb k=some (.i (d k)):=BM (gB hp hx) f
  have v:=QK (d:=d) (n:=B.n) (fun i hi=>by have:=hd i hi;omega)
  have hp1:=v k oO
  have hp2:=v (k+1) oO
  have hpe:bZ d (k+1)=bZ d k+d k:=rfl
  have hdk:=hd k f
  have hst:=hv.st k f
  refine Ij ?_
  obtain ⟨s,hs⟩:=xy (bZ d (k+1))
  have hsb:-5000<=s/\s<=5000:=oO
  refine .mk (dB [(2,.p U.length),(7,.i s),(8,eP g 1 k),(9,.i (k:Nat)),(33,.s xb B.n c),(34,.i (B.n:Nat)),(35,.i (k:Nat))] H rfl ⟨rfl,congrArg (fun x=>some (Value.i x)) oO,rfl,rfl,rfl,rfl,rfl,trivial⟩ ?_)
  have hgB:Nat.blt g H.length=true:=Nat.blt_eq.mpr D
  have hs1:U.length<H.length:=aS a0
  have hcl:∀ {q o:Nat},q<H.length->closed H.length (.pointer (some ⟨q,o,none⟩))=true:=fun {q o} h=>(show Nat.blt q H.length=true from Nat.blt_eq.mpr h)
  have hcs:∀ {q o n c:Nat},q<H.length->closed H.length (.slice (some ⟨q,o,none⟩) n c)=true:=fun h=>cZ (Nat.blt_eq.mpr h)
  have hq1:∀ X,aI (H++X) U.length (0+0)=some (.s sb B.n cS):=fun X=>aF (aA a0)
  have hq2:∀ X,aI (H++X) sb (0+k*4+0)=some (.i (B.ang k)):=fun X=>by
   rw [aR];exact eX (k:=0) (dJ (aP hp) (hS.st k f)) oO
  have C:∀ Y,(H++Y)[g]?=some (.gr (ints (fO k (B.aft d))) 2):=fun Y=>aA hg
  have j:(ints (fO k (B.aft d))).length=k*1:=by rw [bQ,nO,cH]
  have m:aK (H++[aC.rw [.i (B.ang k+s)]]) (H++[]).length 0 (1*1)=some [.i (B.ang k+s)]:=by rw [bN];exact dZ rfl
  refine eY oK rfl ?_
  refine Ij ?_
  refine st (jO (t:=26) oR oR rfl (by exact C _) (by exact j) rfl (by exact m) oO oR oO oO) rfl rfl ?_
  refine Ij ?_
  have a:∀ k X,gV (fun _=>true) (addN [] k [X])=[X]:=fun _ _=>rfl
  refine ⟨(k+1,H.length+1),⟨by dsimp only;omega,rfl,?_,?_,?_,by dsimp only;omega,?_⟩,by dsimp only;omega,⟨rfl,congrArg (fun x=>some (Value.i x)) hs,congrArg some ?_,rfl,rfl,rfl,trivial⟩⟩
  ·rw [a];exact aP (take_set (aP hp) oO)
  ·rw [a];exact aX (jr (aX r rfl) rfl) rfl
  ·rw [a];exact aA (aB (aA a0) oO)
  ·rw [a]
   dsimp only
   rw [GN,show B.aft d k=B.ang k+s by rw [hs];rfl]
   exact bP oS
  ·rw [a];dsimp only;simp
 ·obtain rfl:k=B.n:=oO
  have E:¬ ((B.n:Nat):Int)<(B.n:Nat):=oO
  refine Ij ?_
  have s0:fK U.length [g] U.length=⟨g,0,0⟩:=by simp [fK]
  exact dG (v2:=.tuple #[.s U.length B.n B.n,.i 0]) (.tmp rfl (.tmp rfl .nil)) (aW.src [.rw (ints (fO B.n (B.aft d)))] [g] hp rfl (by simp [dF];omega) ⟨lC s0 (.inr ⟨_,hg⟩) (aZ _),trivial⟩ (sH (kX oS s0) (.i 0))) ⟨rfl,rfl⟩
theorem Vj {B:Bld} {d:Nat->Int} (hv:mJ B) (hf:B.b.Fits d):∀ k≤B.n,0<=bZ (fun i=>B.hard i*ab (d i)) k/\bZ (fun i=>B.hard i*ab (d i)) k<=1800*(k:Int)
 |0,_=>by simp [bZ]
 |k+1,h=>by
  have ih:=Vj hv hf k oO
  have h1:-B.most<=d k:=(hf k (by show k<B.n;omega)).1
  have h2:d k<=B.most:=(hf k (by show k<B.n;omega)).2.1
  have hm:=hv.most
  have hst:=hv.st k oO
  have a:0<=ab (d k)/\ab (d k)<=200:=by unfold ab;omega
  have h3:0<=B.hard k*ab (d k)/\B.hard k*ab (d k)<=9*200:=⟨dl oO a.1,eT oO a.2 a.1 oO⟩
  have e:bZ (fun i=>B.hard i*ab (d i)) (k+1)=bZ (fun i=>B.hard i*ab (d i)) k+B.hard k*ab (d k):=rfl
  rw [e]
  omega
theorem OQ {A B:Prop} (k:B) (h:Hide B->A:=by intro z_;(repeat' (first|refine sCm ?_|(refine gU ?_;first|(refine cO ?_;first|refine st (aJ rfl (by exact aF a0)) rfl rfl ?_|refine st (bG rfl (by first|exact hd1|exact dZ rfl)) rfl rfl ?_)|refine sK0 ?_|(refine rW ?_;refine st (iV rfl) rfl rfl ?_)|refine sK3 ?_|(refine dV ?_;refine st (bC rfl rfl rfl (by exact hf1)) rfl rfl ?_)|refine sK8 ?_)|(refine fU ?_;first|refine fFA ?_;refine frA (bD rfl) rfl ?_ (hcl (by assumption))|refine fIA ?_;refine frA (iE rfl rfl (by omega)) rfl ?_ (hcl (by assumption))|refine nH ?_;refine frA (dY rfl) rfl ?_ (hcs (by assumption))|refine eU ?_;refine frA (aJ rfl (by exact hq3 _)) rfl ?_ rfl|refine eU ?_;refine frA (aJ rfl (by exact hq4 _)) rfl ?_ rfl|refine eU ?_;refine frA (aJ rfl (by exact hq5 _)) rfl ?_ rfl|refine Iy ?_|(refine Bf ?_;refine fr (jd rfl) (by rfl) rfl ?_)|refine TM ?_|(refine fMul ?_;refine fr (Cm rfl rfl (by omega) (by omega)) (by rfl) rfl ?_)|refine aar ?_|(refine fNeg ?_;refine fr (Cj rfl) (by rfl) rfl ?_)|refine aaq ?_)|(refine fP ⟨by kernel_rfl,?_⟩)|refine bU (id:=2) ?_|refine bU (id:=8) ?_|refine bU (id:=10) ?_|refine aG ?_|refine sK2 ?_|refine sK1 ?_|fail));exact z_.h):A:=h ⟨k⟩
theorem MP {U:Heap} {B:Bld} {sb cS xb c:Nat} {d:Nat->Int} (hv:mJ B) (hS:kQ U B sb) (hx:dD U xb (ints (fO B.n d))) (hf:B.b.Fits d) (hni:Ni U) :
  Ev prog 25 [.agg #[.s sb B.n cS,.i B.most],.s xb B.n c] U (.tuple #[.i (B.b.cost d),.i 0]) U:=by
 have hn1:=hv.n
 have hm:=hv.most
 refine aH U.length 58 func25 (h:=?_)
 obtain ⟨K,hK⟩:=xy (U++[aC.rw [.s sb B.n cS,.i B.most]])
 have a0:K[U.length]?=some (.rw [.s sb B.n cS,.i B.most]):=by rw [hK];exact aN
 have hp:K.take U.length=U:=by rw [hK];simp
 have e:Ni K:=by rw [hK];exact aX hni rfl
 have hf1:=abl (c:=c) (cS:=cS) hv (show kQ K B sb by rw [hK];exact kQ.app hS) (show dD K xb (ints (fO B.n d)) by rw [hK];exact nS hx) (fun i hi=>⟨(hf i hi).1,(hf i hi).2.1⟩) e
 rw [hK] at hf1
 refine OQ ?_
 obtain ⟨T,hT⟩:=xy (K++[aC.rw (ints (fO B.n (B.aft d)))])
 refine .mk (dB [(1,.s xb B.n c),(2,.p U.length),(6,.s K.length B.n B.n),(7,.i 0)] T (by rw [hT,hK]) ⟨rfl,rfl,by rw [hK];rfl,rfl,trivial⟩ ?_)
 clear hf1
 have b0:T[U.length]?=some (.rw [.s sb B.n cS,.i B.most]):=by rw [hT];exact aA a0
 have b1:T[K.length]?=some (.rw (ints (fO B.n (B.aft d)))):=by rw [hT];exact aN
 have E:T.take U.length=U:=by rw [hT];exact aP hp
 have z:Ni T:=by rw [hT];exact aX e rfl
 have hTl:U.length+2<=T.length:=by rw [hT,hK];simp
 generalize K.length=tb at b1 ⊢
 clear hT a0 hp e hK K
 have a0:=b0
 apply aG
 refine OQ ?_
 refine dO (ι:=Nat) (fun k=>[(1,.s xb B.n c),(2,.p U.length),(6,.s tb B.n B.n),(8,.i (bZ (fun i=>B.hard i*ab (d i)) k)),(21,.s sb B.n cS),(22,.i (B.n:Nat)),(23,.i (k:Nat))])
  (fun k mk H=>k<=B.n/\mk=[]/\H.take T.length=T/\H.all (fun o=>!aU o)=true) (fun k=>B.n - k) 0 tE ⟨bL _,rfl,eb,z⟩ ?_
 clear a0
 rintro k mk H ⟨hk,rfl,hp,C⟩
 have M:H.take U.length=U:=xw hp E
 by_cases g:k<B.n
 ·have O:(k:Int)<(B.n:Nat):=oO
  have hd1:aK H sb (0+k*4) 4=some [.i (B.ang k),.i (B.tlo k),.i (B.thi k),.i (B.hard k)]:=by rw [aR];exact dJ M (hS.st k g)
  refine OQ ?_
  obtain ⟨H1,r⟩:=xy (H++[aC.rw [.i (B.ang k),.i (B.tlo k),.i (B.thi k),.i (B.hard k)]])
  refine .mk (dB [(1,.s xb B.n c),(2,.p U.length),(6,.s tb B.n B.n),(8,.i (bZ (fun i=>B.hard i*ab (d i)) k)),(9,.i (k:Nat)),(10,.p H.length),(21,.s sb B.n cS),(22,.i (B.n:Nat)),(23,.i (k:Nat))] H1 r.symm tE ?_)
  have j:H1[H.length]?=some (.rw [.i (B.ang k),.i (B.tlo k),.i (B.thi k),.i (B.hard k)]):=by rw [r];exact aN
  have f:H1.take T.length=T:=by rw [r];exact aP hp
  have a:Ni H1:=by rw [r];exact aX C rfl
  have m:H1.take U.length=U:=xw f E
  have L:H.length<H1.length:=aS j
  have N:tb<H1.length:=by have:=aS (vk f b1);omega
  have P:xb<H1.length:=oJ (gB m hx)
  have Q:U.length<H1.length:=by have:=take_len f;omega
  clear hd1 r
  generalize H.length=nb at j L ⊢
  have hcl:∀ {q o:Nat},q<H1.length->closed H1.length (.pointer (some ⟨q,o,none⟩))=true:=fun {q o} h=>(show Nat.blt q H1.length=true from Nat.blt_eq.mpr h)
  have hcs:∀ {q o n c:Nat},q<H1.length->closed H1.length (.slice (some ⟨q,o,none⟩) n c)=true:=fun h=>cZ (Nat.blt_eq.mpr h)
  have hq3:∀ X,aI (H1++X) nb (0+1+0)=some (.i (B.tlo k)):=fun X=>aF (aA j)
  have hq4:∀ X,aI (H1++X) nb (0+1+1)=some (.i (B.thi k)):=fun X=>aF (aA j)
  have hq5:∀ X,aI (H1++X) tb (0+k*1)=some (.i (B.aft d k)):=fun X=>by rw [aF (aA (vk f b1)),aR,cH];exact Lr g
  have D:B.tlo k<=B.aft d k/\B.aft d k<=B.thi k:=by
   have h1:B.tlo k - B.ang k<=Bl.jy d k/\Bl.jy d k<=B.thi k - B.ang k:=(hf k g).2.2
   unfold Bld.aft;omega
  have hf1:=oM (U:=H1++[aC.rw (ints [B.aft d k])]) (l:=[B.aft d k]) (lo:=B.tlo k) (hi:=B.thi k) (x:=(H1++[]).length) (c:=1) (.inr (.inl (by rw [bN];exact aN))) oS (aX a rfl)
  rw [decide_eq_true (fun y hy=>by obtain rfl:=List.mem_singleton.1 hy;exact D)] at hf1
  refine eY oK rfl ?_
  refine OQ ?_
  obtain ⟨H2,v⟩:=xy (H1++[aC.rw (ints [B.aft d k])])
  refine .mk (dB [(1,.s xb B.n c),(2,.p U.length),(6,.s tb B.n B.n),(8,.i (bZ (fun i=>B.hard i*ab (d i)) k)),(9,.i (k:Nat)),(10,.p nb),(21,.s sb B.n cS),(22,.i (B.n:Nat)),(23,.i (k:Nat))] H2 v.symm tE ?_)
  have J:H2[nb]?=some (.rw [.i (B.ang k),.i (B.tlo k),.i (B.thi k),.i (B.hard k)]):=by rw [v];exact aA j
  have G:H2.take T.length=T:=by rw [v];exact aP f
  have F:Ni H2:=by rw [v];exact aX a rfl
  have u:H2.take U.length=U:=xw G E
  have L:nb<H2.length:=aS J
  have P:xb<H2.length:=oJ (gB u hx)
  clear hf1 hq3 hq4 hq5 hcl hcs v j f a m N Q
  have hcl:∀ {q o:Nat},q<H2.length->closed H2.length (.pointer (some ⟨q,o,none⟩))=true:=fun {q o} h=>(show Nat.blt q H2.length=true from Nat.blt_eq.mpr h)
  have hcs:∀ {q o n c:Nat},q<H2.length->closed H2.length (.slice (some ⟨q,o,none⟩) n c)=true:=fun h=>cZ (Nat.blt_eq.mpr h)
  have hq3:∀ X,aI (H2++X) nb (0+3)=some (.i (B.hard k)):=fun X=>aF (aA J)
  have hq4:∀ X,aI (H2++X) xb (0+k*1)=some (.i (d k)):=fun X=>by
   rw [show 0+k*1=k by omega];exact BM (nS (gB u hx)) g
  have hq5:=hq4
  have I:=hf k g
  have hdb:-200<=d k/\d k<=200:=by have h1:-B.most<=d k:=I.1;have h2:d k<=B.most:=I.2.1;omega
  have hst:=hv.st k g
  have hw:IntKind.i64.wrap (0 - d k)=-d k:=by rw [wrap64 oO oO];omega
  have w:0<=B.hard k*max (d k) (-d k)/\B.hard k*max (d k) (-d k)<=9*200:=⟨dl oO oO,eT oO oO oO oO⟩
  have hml:0<=B.hard k*max (d k) (IntKind.i64.wrap (0 - d k))/\B.hard k*max (d k) (IntKind.i64.wrap (0 - d k))<=9*200:=by rw [hw];exact w
  have hpb:=Vj hv hf k oO
  refine eY oK rfl ?_
  refine OQ ?_
  rw [show H2++gV (fun _=>true) []=H2 from bN H2]
  exact ⟨k+1,⟨oO,rfl,G,F⟩,oO,⟨rfl,rfl,rfl,congrArg (fun x=>some (Value.i x)) (by rw [hw];rfl),rfl,rfl,rfl,trivial⟩⟩
 ·obtain rfl:k=B.n:=oO
  have O:¬ ((B.n:Nat):Int)<(B.n:Nat):=oO
  refine OQ ?_
  exact dG (.tmp rfl (.tmp rfl .nil)) (.plain M rfl) ⟨rfl,rfl⟩
end Go.Proofs.YtajpgeklmcjciaaGreat
