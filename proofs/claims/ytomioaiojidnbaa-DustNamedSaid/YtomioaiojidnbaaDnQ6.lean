/- The argument of a law of dust that is a shop. -/
import Derived.Test.YtomioaiojidnbaaDnQ5
import Derived.Test.YtomioaiojidnbaaDnMM
import Derived.OpenShut
import Derived.Test.YtomioaiojidnbaaDnQ1
import Derived.Deep.Slices
namespace Go.AH.Dust
open Go Go.AH
def u8s (l:List Int):List Value:=l.map (.int .u8)
end Go.AH.Dust
namespace Go.Proofs.Ytomioaiojidnbaa
open Go Go.AH
attribute [local irreducible] WOps WCode WFree retQ thenQ blockQ scopeQ OpOk ACall RetRef roundA roundB
set_option maxRecDepth 100000
set_option maxHeartbeats 1000000
open Go.AH.Dust
end Go.Proofs.Ytomioaiojidnbaa
namespace Go.AH.Dust
open Go Go.AH
end Go.AH.Dust
namespace Go.Proofs.Ytomioaiojidnbaa
open Go Go.AH
attribute [local irreducible] WOps WCode WFree retQ thenQ blockQ scopeQ OpOk ACall RetRef roundA roundB
set_option maxRecDepth 100000
set_option maxHeartbeats 1000000
open Go.AH.Dust
end Go.Proofs.Ytomioaiojidnbaa
namespace Go.AH.Dust
open Go Go.AH
noncomputable def rdB (S:Shp) (l:List Int):Bool:=decide (runE S l=0∧(gi l (l.length - 1),gi l 0) ∈ S.f∧∀ i,i<l.length→gi l i ∉ l.take i)
end Go.AH.Dust
namespace Go.Proofs.Ytomioaiojidnbaa
open Go Go.AH
attribute [local irreducible] WOps WCode WFree retQ thenQ blockQ scopeQ OpOk ACall RetRef roundA roundB
set_option maxRecDepth 100000
set_option maxHeartbeats 1000000
open Go.AH.Dust
end Go.Proofs.Ytomioaiojidnbaa
namespace Go.AH.Dust
open Go Go.AH
def wO (S:Shp) (i h:Nat):Int:=wyB S (bO i) h i
def rmS (S:Shp) (i h:Nat) (st:(Int×Int)×Bool):(Int×Int)×Bool :=
 if 0≤wO S i h then (if st.2=false∨st.1.1*redD (wO S i h).toNat h<redN (wO S i h).toNat h*st.1.2 then (redN (wO S i h).toNat h,redD (wO S i h).toNat h) else st.1,true) else st
def rmH (S:Shp) (i:Nat) (st:(Int×Int)×Bool):Nat→(Int×Int)×Bool
 |0=>st
 |h+1=>rmS S i (h+1) (rmH S i st h)
def rmL (S:Shp) (L:List Int):Nat→(Int×Int)×Bool
 |0=>((0,1),false)
 |j+1=>rmH S (gi L j).toNat (rmL S L j) S.d.length
section
variable {S:Shp}
structure RmP (S:Shp) (C:Nat→Nat→Prop) (st:(Int×Int)×Bool):Prop where
 no:st.2=false→st.1=(0,1)∧∀ i h,C i h→wO S i h<0
 red:st.2=true→Red st.1.1 st.1.2
 att:st.2=true→∃ i h,C i h∧0≤wO S i h∧st.1.1*(h:Int)=wO S i h*st.1.2
 le:st.2=true→∀ i h,C i h→0≤wO S i h→wO S i h*st.1.2≤st.1.1*(h:Int)
theorem RmP.congr {C C':Nat→Nat→Prop} {st:(Int×Int)×Bool} (h:RmP S C st) (hc:∀ i h,C i h↔C' i h):RmP S C' st :=
 ⟨fun h1=>⟨(h.no h1).1,fun i k hk=>(h.no h1).2 i k ((hc i k).2 hk)⟩,h.red,fun h1=>let ⟨i,k,a,b⟩:=h.att h1;⟨i,k,(hc i k).1 a,b⟩,fun h1 i k hk=>h.le h1 i k ((hc i k).2 hk)⟩
def RmB (st:(Int×Int)×Bool):Prop:=0≤st.1.1∧st.1.1≤10001∧0≤st.1.2∧st.1.2≤10
end
end Go.AH.Dust
namespace Go.AH.Dust
open Go Go.AH
end Go.AH.Dust
namespace Go.Proofs.Ytomioaiojidnbaa
open Go Go.AH
attribute [local irreducible] WOps WCode WFree retQ thenQ blockQ scopeQ OpOk ACall RetRef roundA roundB
set_option maxRecDepth 100000
set_option maxHeartbeats 1000000
open Go.AH.Dust
end Go.Proofs.Ytomioaiojidnbaa
namespace Go.AH.Dust
open Go Go.AH
theorem RndP.of {S:Shp} {a b:Int} {r:List Int} {m:Nat} (h:RndP S a b r) (hr:Red a b) (hs:sumK S r r.length=(m:Int)):redN m r.length=a∧redD m r.length=b:=by
 have hl:=h.ne
 obtain ⟨r1,r2,_,_⟩:=red_is (m:=m) hl
 have hsum:=h.sum
 rw [hs] at hsum
 refine r1.uniq hr (Int.eq_of_mul_eq_mul_right (show ((r.length:Nat):Int) ≠ 0 by omega) ?_)
 have e1:redN m r.length*b*(r.length:Int)=redN m r.length*(r.length:Int)*b:=by rw [Int.mul_assoc,Int.mul_comm b,← Int.mul_assoc]
 have e2:a*redD m r.length*(r.length:Int)=a*(r.length:Int)*redD m r.length:=by rw [Int.mul_assoc,Int.mul_comm (redD m r.length),← Int.mul_assoc]
 rw [e1,e2,r2,← hsum,Int.mul_comm b,Int.mul_assoc,Int.mul_assoc,Int.mul_comm b]
end Go.AH.Dust
namespace Go.Proofs.Ytomioaiojidnbaa
open Go Go.AH
attribute [local irreducible] WOps WCode WFree retQ thenQ blockQ scopeQ OpOk ACall RetRef roundA roundB
set_option maxRecDepth 100000
set_option maxHeartbeats 1000000
open Go.AH.Dust
end Go.Proofs.Ytomioaiojidnbaa
namespace Go.AH.Dust
open Go Go.AH
structure Hom (X S:Shp) (p:Int→Int):Prop where
 w:∀ {x},isW X x→isW S (p x)
 d:∀ {x},isW X x→gi X.d x.toNat≤gi S.d (p x).toNat
 f:∀ {a b},(a,b) ∈ X.f→(p a,p b) ∈ S.f
 s:∀ {x},x ∈ X.s→p x ∈ S.s
section
variable {X S:Shp} {p:Int→Int}
theorem Hom.rch (h:Hom X S p) {x:Int} (hr:Rch X x):Rch S (p x):=by
 induction hr with
 |first hn=>exact .first (h.s hn)
 |next _ hf ih=>exact .next ih (h.f hf)
theorem isW_nat {S:Shp} {i:Nat} (hi:i<S.d.length):isW S (i:Int):=⟨by show (0:Int)≤_;omega,by show (i:Int) < _;omega⟩
theorem Hom.lt (h:Hom X S p) {i:Nat} (hi:i<X.d.length):(p i).toNat<S.d.length∧(((p i).toNat:Nat):Int)=p i:=by
 have hw:=h.w (isW_nat hi)
 have h1:=hw.1;have h2:=hw.2
 omega
theorem Hom.rb (h:Hom X S p) {i:Nat} (hi:i<X.d.length) (hr:rB X i=true):rB S (p i).toNat=true:=by
 rw [rB_iff,(h.lt hi).2];exact h.rch (rB_iff.1 hr)
theorem mostF_m1 {S:Shp} {m:Nat→Int} {i:Nat}:∀ k,-1≤mostF S m i k
 |0=>by simp [mostF]
 |k+1=>by
  have ih:=mostF_m1 (S:=S) (m:=m) (i:=i) k
  simp only [mostF];split <;> omega
theorem Hom.most (h:Hom X S p) (hX:X.ok) (hS:S.ok):∀ (H i:Nat),i<X.d.length→most X H i≤most S H (p i).toNat
 |0,i,hi=>by have:=h.d (isW_nat hi);rw [Int.toNat_natCast] at this;exact this
 |H+1,i,hi=>by
  simp only [Dust.most]
  by_cases h0:0≤mostF X (Dust.most X H) i X.f.length
  ·obtain ⟨j,j1,j2,j3,j4⟩:=mostF_at h0
   have hf:((i:Int),(gf X.f j).2) ∈ X.f:=mem_gf.2 ⟨j,j1,Prod.ext j2 rfl⟩
   have hw:=(ok_pair hX hf).2
   have w1:=hw.1;have w2:=hw.2
   have ih:=Hom.most h hX hS H (gf X.f j).2.toNat (by omega)
   rw [show (((gf X.f j).2.toNat:Nat):Int)=(gf X.f j).2 by omega] at ih
   obtain ⟨k,k1,k2⟩:=mem_gf.1 (h.f hf)
   have hge:=mostF_ge (S:=S) (m:=Dust.most S H) (i:=(p i).toNat) k1 (by rw [k2];exact (h.lt hi).2.symm) (by rw [k2];simp only;omega)
   rw [k2] at hge
   simp only at hge
   have hd:=h.d (isW_nat hi)
   rw [Int.toNat_natCast] at hd
   omega
  ·have:=mostF_m1 (S:=S) (m:=Dust.most S H) (i:=(p i).toNat) S.f.length
   omega
theorem Hom.refW (h:Hom X S p) (hX:X.ok) (hS:S.ok) {H:Nat} (hz:0≤refW X H):refW X H≤Dust.refW S H:=by
 obtain ⟨i,i1,i2,i3⟩:=refW_at hz
 have h1:=h.most hX hS H i i1
 have h2:=refW_ge (S:=S) (H:=H) (h.lt i1).1 (h.rb i1 i2)
 omega
theorem Hom.win (h:Hom X S p) (hX:shopE X=0) (hS:shopE S=0) {g:Int} (h1:1≤g) (h24:g≤24) (he:winE X g=0):winE S g=0∧winV X g≤winV S g:=by
 have cX:=clock0 hX h1 h24
 have cS:=clock0 hS h1 h24
 have hz:=(winE_refW cX).1 he
 have hle:=h.refW (shopE_zero hX) (shopE_zero hS) hz
 have eS:=(winE_refW cS).2 (by omega)
 exact ⟨eS,by rw [(win_run he).2.2.2.1,(win_run eS).2.2.2.1];exact hle⟩
theorem Hom.sum (h:Hom X S p) (hX:X.ok) {q:Nat→Int}:∀ {k:Nat},isWk X q k→sumW (cS X) q k≤sumW (cS S) (fun i=>p (q i)) k
 |0,_=>Int.le_refl _
 |k+1,hw=>by
  have ih:=Hom.sum h hX (k:=k) fun i hi=>hw i (by omega)
  have:=h.d (ok_pair hX (hw k (by omega))).1
  simp only [sumW]
  unfold cS at *
  omega
theorem Hom.cyc (h:Hom X S p) {q:Nat→Int} {k:Nat} (hc:Cyc X q k):Cyc S (fun i=>p (q i)) k :=
 ⟨hc.h0,fun i hi=>h.f (hc.wk i hi),by rw [hc.cl],h.rch hc.rch⟩
theorem Hom.mean (h:Hom X S p) (hX:X.ok) {a b a' b':Int} (hM:IsMean X a b) (hM':IsMean S a' b'):a*b'≤a'*b:=by
 obtain ⟨q,k,hc,he⟩:=hM.att
 have hl:=hM'.le _ _ (h.cyc hc)
 have hs:=h.sum hX hc.wk
 have hk:(0:Int)<(k:Int):=by have:=hc.h0;omega
 refine Int.le_of_mul_le_mul_right (a:=(k:Int)) ?_ hk
 have t1:=Int.mul_le_mul_of_nonneg_left hs (Int.le_of_lt hM'.b0)
 have t2:=Int.mul_le_mul_of_nonneg_left (Int.le_trans t1 hl) (Int.le_of_lt hM.b0)
 have e1:a*b'*(k:Int)=b*(b'*sumW (cS X) q k):=by
  have e0:b*(b'*sumW (cS X) q k)=b'*(b*sumW (cS X) q k):=by rw [← Int.mul_assoc,Int.mul_comm b b',Int.mul_assoc]
  rw [e0,he,Int.mul_comm a b',Int.mul_assoc]
 have e2:a'*b*(k:Int)=b*(a'*(k:Int)):=by rw [Int.mul_comm a' b,Int.mul_assoc]
 rw [e1,e2];exact t2
theorem Hom.mnE (h:Hom X S p) (hX:shopE X=0) (hS:shopE S=0) (he:mnE X=0):Dust.mnE S=0∧mnA X*mnB S≤mnA S*mnB X:=by
 have hM:=(mn_ok he).mean
 obtain ⟨q,k,hc,_⟩:=hM.att
 have e2:Dust.mnE S=0:=mnE_iff.2 ⟨hS,mean_ex (shopE_zero hS) (h.cyc hc)⟩
 exact ⟨e2,h.mean (shopE_zero hX) hM (mn_ok e2).mean⟩
theorem Hom.eqs {r:Int→Int} (h:Hom X S p) (h':Hom S X r) (hX:shopE X=0) (hS:shopE S=0) {g:Int} (h1:1≤g) (h24:g≤24):winE X g=winE S g∧winV X g=winV S g∧Dust.mnE X=Dust.mnE S∧mnA X=mnA S∧mnB X=mnB S:=by
 have cX:=clock0 hX h1 h24
 have cS:=clock0 hS h1 h24
 have hw:winE X g=winE S g∧winV X g=winV S g:=by
  by_cases he:winE X g=0
  ·obtain ⟨a,b⟩:=h.win hX hS h1 h24 he
   obtain ⟨_,c⟩:=h'.win hS hX h1 h24 a
   exact ⟨by rw [he,a],by omega⟩
  ·have he':winE S g ≠ 0:=fun hx=>he (h'.win hS hX h1 h24 hx).1
   rw [(win_none (lim:=0) cX he).1,(win_none (lim:=0) cS he').1,(win_bad he).1,(win_bad he').1]
   exact ⟨rfl,rfl⟩
 refine ⟨hw.1,hw.2,?_⟩
 by_cases he:Dust.mnE X=0
 ·obtain ⟨a,b⟩:=h.mnE hX hS he
  obtain ⟨_,c⟩:=h'.mnE hS hX a
  obtain ⟨e1,e2⟩:=(mn_ok he).red.uniq (mn_ok a).red (by omega)
  exact ⟨by rw [he,a],e1,e2⟩
 ·have he':Dust.mnE S ≠ 0:=fun hx=>he (h'.mnE hS hX hx).1
  have five:∀ {Y:Shp},shopE Y=0→Dust.mnE Y ≠ 0→Dust.mnE Y=5:=fun {Y} hY hE=>by
   rw [mnE_ok hY]
   by_cases hz:(allS Y Y.d.length).length=0
   ·rw [if_pos hz]
   ·exact absurd (by rw [mnE_ok hY,if_neg hz]) hE
  exact ⟨by rw [five hX he,five hS he'],by unfold mnA;rw [if_neg he,if_neg he'],by unfold mnB;rw [if_neg he,if_neg he']⟩
end
end Go.AH.Dust
namespace Go.AH.Dust
open Go Go.AH
def rotP (n t:Nat) (x:Int):Int:=(((x.toNat+t) % n:Nat):Int)
theorem rot_lt {n t:Nat} (hn:0<n) (x:Int):0≤rotP n t x∧rotP n t x<n:=by
 have:=Nat.mod_lt (x.toNat+t) hn
 unfold rotP;omega
theorem mod_back {n t i:Nat} (_hn:0<n) (hi:i<n):((i+t) % n+(n - t % n)) % n=i:=by
 have ht:=Nat.mod_lt t _hn
 have h1:=Nat.div_add_mod t n
 rw [Nat.mod_add_mod,show i+t+(n - t % n)=i+n*(t / n+1) by rw [Nat.mul_add,Nat.mul_one];omega,Nat.add_mul_mod_self_left,Nat.mod_eq_of_lt hi]
theorem rot_back {n t:Nat} {x:Int} (hn:0<n) (h0:0≤x) (h1:x<n):rotP n (n - t % n) (rotP n t x)=x:=by
 have:=mod_back (t:=t) hn (show x.toNat<n by omega)
 unfold rotP
 rw [Int.toNat_natCast,this];omega
theorem rot_forth {n t:Nat} {x:Int} (hn:0<n) (h0:0≤x) (h1:x<n):rotP n t (rotP n (n - t % n) x)=x:=by
 have ht:=Nat.mod_lt t hn
 have h2:=Nat.div_add_mod t n
 unfold rotP
 rw [Int.toNat_natCast,Nat.mod_add_mod,show x.toNat+(n - t % n)+t=x.toNat+n*(t / n+1) by rw [Nat.mul_add,Nat.mul_one];omega,Nat.add_mul_mod_self_left,Nat.mod_eq_of_lt (by omega)];omega
theorem rot_inj {n t:Nat} {x y:Int} (hn:0<n) (h0:0≤x) (h1:x<n) (h2:0≤y) (h3:y<n) (he:rotP n t x=rotP n t y):x=y:=by
 rw [← rot_back (t:=t) hn h0 h1,he,rot_back hn h2 h3]
def dN (S:Shp) (t:Nat):Nat→Nat→Int
 |0=>fun _=>0
 |i+1=>setI (dN S t i) ((i+t) % S.d.length) (gi S.d i)
def fN (S:Shp) (t:Nat):Nat→List (Int×Int)
 |0=>[]
 |k+1=>fN S t k++[(rotP S.d.length t (gf S.f k).1,rotP S.d.length t (gf S.f k).2)]
def mN (S:Shp) (t:Nat):Nat→Nat→Int
 |0=>fun _=>0
 |i+1=>setI (mN S t i) (((gi S.s i).toNat+t) % S.d.length) 1
def sN (S:Shp) (t:Nat):Nat→List Int
 |0=>[]
 |i+1=>if mN S t S.s.length i=1 then sN S t i++[(i:Int)] else sN S t i
def rotS (S:Shp) (t:Nat):Shp:=⟨(List.range S.d.length).map (dN S t S.d.length),fN S t S.f.length,sN S t S.d.length⟩
section
variable {S:Shp} {t:Nat}
theorem dN_at (hn:0<S.d.length) {i:Nat}:∀ {k:Nat},i<k→k≤S.d.length→dN S t k ((i+t) % S.d.length)=gi S.d i
 |k+1,hi,hk=>by
  rw [dN]
  unfold setI
  by_cases hik:i=k
  ·subst hik;rw [if_pos rfl]
  ·rw [if_neg (fun he=>hik ?_)]
   ·exact dN_at hn (by omega) (by omega)
   ·have e1:=mod_back (t:=t) hn (show i<S.d.length by omega)
    have e2:=mod_back (t:=t) hn (show k<S.d.length by omega)
    rw [he,e2] at e1;exact e1.symm
theorem rotS_n:(rotS S t).d.length=S.d.length:=by simp [rotS]
theorem rotS_d (hn:0<S.d.length) {x:Int} (h0:0≤x) (h1:x<S.d.length):gi (rotS S t).d (rotP S.d.length t x).toNat=gi S.d x.toNat:=by
 have hl:=Nat.mod_lt (x.toNat+t) hn
 have e:(rotP S.d.length t x).toNat=(x.toNat+t) % S.d.length:=by unfold rotP;rw [Int.toNat_natCast]
 rw [e,← dN_at (t:=t) hn (show x.toNat<S.d.length by omega) (Nat.le_refl _)]
 unfold rotS gi
 simp [List.getD_eq_getElem?_getD,hl]
theorem fN_len:∀ k,(fN S t k).length=k
 |0=>rfl
 |k+1=>by rw [fN,List.length_append,fN_len k];rfl
theorem fN_gf:∀ {k j:Nat},j<k→gf (fN S t k) j=(rotP S.d.length t (gf S.f j).1,rotP S.d.length t (gf S.f j).2)
 |k+1,j,h=>by
  have hl:=fN_len (S:=S) (t:=t) k
  have e:gf (fN S t (k+1)) j=if j<k then gf (fN S t k) j else (rotP S.d.length t (gf S.f k).1,rotP S.d.length t (gf S.f k).2):=by
   rw [fN];unfold gf;simp only [List.getD_eq_getElem?_getD]
   by_cases hj:j<k
   ·rw [if_pos hj,List.getElem?_append_left (by omega)]
   ·rw [if_neg hj,List.getElem?_append_right (by omega),hl,show j - k=0 by omega];rfl
  rw [e]
  by_cases hj:j<k
  ·rw [if_pos hj];exact fN_gf hj
  ·rw [if_neg hj,show j=k by omega]
theorem mN_iff {j:Nat}:∀ k,(mN S t k j=1↔∃ i,i<k∧((gi S.s i).toNat+t) % S.d.length=j)∧(mN S t k j=1∨mN S t k j=0)
 |0=>⟨⟨fun h=>by simp [mN] at h,fun ⟨i,h,_⟩=>by omega⟩,.inr rfl⟩
 |k+1=>by
  obtain ⟨ih1,ih2⟩:=mN_iff (j:=j) k
  rw [mN]
  unfold setI
  by_cases hj:j=((gi S.s k).toNat+t) % S.d.length
  ·rw [if_pos hj];exact ⟨⟨fun _=>⟨k,by omega,hj.symm⟩,fun _=>rfl⟩,.inl rfl⟩
  ·rw [if_neg hj]
   refine ⟨ih1.trans ⟨fun ⟨i,h1,h2⟩=>⟨i,by omega,h2⟩,fun ⟨i,h1,h2⟩=>⟨i,?_,h2⟩⟩,ih2⟩
   by_cases hik:i=k
   ·subst hik;exact absurd h2.symm hj
   ·omega
theorem sN_mem {x:Int}:∀ {k:Nat},x ∈ sN S t k↔∃ i:Nat,i<k∧x=i∧mN S t S.s.length i=1
 |0=>by simp [sN]
 |k+1=>by
  have ih:=sN_mem (x:=x) (k:=k)
  rw [sN]
  by_cases hm:mN S t S.s.length k=1
  ·rw [if_pos hm,List.mem_append,ih,List.mem_singleton]
   constructor
   ·rintro (⟨i,h1,h2⟩|h)
    ·exact ⟨i,by omega,h2⟩
    ·exact ⟨k,by omega,h,hm⟩
   ·rintro ⟨i,h1,h2,h3⟩
    by_cases hik:i=k
    ·subst hik;exact .inr h2
    ·exact .inl ⟨i,by omega,h2,h3⟩
  ·rw [if_neg hm,ih]
   constructor
   ·rintro ⟨i,h1,h2⟩;exact ⟨i,by omega,h2⟩
   ·rintro ⟨i,h1,h2,h3⟩
    by_cases hik:i=k
    ·subst hik;exact absurd h3 hm
    ·exact ⟨i,by omega,h2,h3⟩
theorem sN_len:∀ k,(sN S t k).length≤k
 |0=>Nat.le_refl _
 |k+1=>by
  have ih:=sN_len k
  rw [sN];split
  ·rw [List.length_append,List.length_singleton];omega
  ·omega
theorem sN_up:∀ {k i:Nat},i<(sN S t k).length→(0≤gi (sN S t k) i∧gi (sN S t k) i<k)∧(i=0∨gi (sN S t k) (i - 1)<gi (sN S t k) i)
 |0,i,h=>by simp [sN] at h
 |k+1,i,h=>by
  rw [sN] at h ⊢
  by_cases hm:mN S t S.s.length k=1
  ·rw [if_pos hm] at h ⊢
   rw [List.length_append,List.length_singleton] at h
   by_cases hi:i<(sN S t k).length
   ·obtain ⟨h1,h2⟩:=sN_up hi
    rw [gi_fst hi]
    refine ⟨by omega,h2.imp id fun h2=>?_⟩
    rw [gi_fst (by omega)];exact h2
   ·obtain rfl:i=(sN S t k).length:=by omega
    rw [gi_last]
    refine ⟨by omega,?_⟩
    by_cases hz:(sN S t k).length=0
    ·exact .inl hz
    ·right
     rw [gi_fst (by omega)]
     have:=(sN_up (k:=k) (i:=(sN S t k).length - 1) (by omega)).1.2
     omega
  ·rw [if_neg hm] at h ⊢
   obtain ⟨h1,h2⟩:=sN_up h
   exact ⟨by omega,h2⟩
theorem rot_hom (hS:S.ok):Hom S (rotS S t) (rotP S.d.length t):=by
 have hn:0<S.d.length:=by have:=hS.n1;omega
 refine ⟨fun {x} hx=>?_,fun {x} hx=>?_,fun {a b} hf=>?_,fun {x} hx=>?_⟩
 ·have:=rot_lt (t:=t) hn x
  exact ⟨this.1,by rw [rotS_n];exact this.2⟩
 ·rw [rotS_d hn hx.1 hx.2];exact Int.le_refl _
 ·obtain ⟨j,j1,j2⟩:=mem_gf.1 hf
  refine mem_gf.2 ⟨j,by show j<(fN S t S.f.length).length;rw [fN_len];exact j1,?_⟩
  show gf (fN S t S.f.length) j=_
  rw [fN_gf j1,j2]
 ·obtain ⟨i,i1,i2⟩:=mem_gi.1 hx
  have hl:=Nat.mod_lt (x.toNat+t) hn
  refine sN_mem.2 ⟨(x.toNat+t) % S.d.length,hl,rfl,(mN_iff _).1.2 ⟨i,i1,by rw [i2]⟩⟩
theorem rot_hom2 (hS:S.ok):Hom (rotS S t) S (rotP S.d.length (S.d.length - t % S.d.length)):=by
 have hn:0<S.d.length:=by have:=hS.n1;omega
 refine ⟨fun {x} hx=>?_,fun {x} hx=>?_,fun {a b} hf=>?_,fun {x} hx=>?_⟩
 ·exact ⟨(rot_lt hn x).1,(rot_lt hn x).2⟩
 ·have h0:=hx.1
  have h1:=hx.2
  rw [rotS_n] at h1
  have hb:=rot_lt (t:=S.d.length - t % S.d.length) hn x
  have e:=rotS_d (t:=t) hn hb.1 hb.2
  rw [rot_forth hn h0 h1] at e
  rw [e];exact Int.le_refl _
 ·obtain ⟨j,j1,j2⟩:=mem_gf.1 hf
  have j1':j<S.f.length:=by
   have:(rotS S t).f.length=S.f.length:=fN_len _
   omega
  have j3:gf (fN S t S.f.length) j=(a,b):=j2
  rw [fN_gf j1'] at j3
  obtain ⟨w1,w2,_⟩:=hS.f j j1'
  have e1:=congrArg Prod.fst j3
  have e2:=congrArg Prod.snd j3
  simp only at e1 e2
  rw [← e1,← e2,rot_back hn w1.1 w1.2,rot_back hn w2.1 w2.2]
  exact mem_gf.2 ⟨j,j1',rfl⟩
 ·obtain ⟨i,i1,i2,i3⟩:=sN_mem.1 hx
  obtain ⟨j,j1,j2⟩:=(mN_iff _).1.1 i3
  have hw:=(hS.s j j1).1
  have e:x=rotP S.d.length t (gi S.s j):=by unfold rotP;rw [j2];exact i2
  rw [e,rot_back hn hw.1 hw.2]
  exact mem_gi.2 ⟨j,j1,rfl⟩
theorem rotS_ok (hS:S.ok):(rotS S t).ok:=by
 have hn:0<S.d.length:=by have:=hS.n1;omega
 have hh:=rot_hom2 (t:=t) hS
 have nn:=rotS_n (S:=S) (t:=t)
 have hfl:(rotS S t).f.length=S.f.length:=fN_len _
 refine ⟨by rw [nn];exact hS.n1,by rw [nn];exact hS.n10,by rw [hfl];exact hS.f60,fun i hi=>?_,fun i hi=>?_,fun i hi=>?_,?_⟩
 ·rw [nn] at hi
  have hb:=rot_lt (t:=S.d.length - t % S.d.length) hn (i:Int)
  have e:=rotS_d (t:=t) hn hb.1 hb.2
  rw [rot_forth hn (by omega) (by omega),Int.toNat_natCast] at e
  rw [e]
  exact hS.d _ (by omega)
 ·rw [hfl] at hi
  have e:∀ j,j<S.f.length→gf (rotS S t).f j=(rotP S.d.length t (gf S.f j).1,rotP S.d.length t (gf S.f j).2):=fun j hj=>fN_gf hj
  obtain ⟨w1,w2,w3⟩:=hS.f i hi
  refine ⟨?_,?_,fun k hk he=>?_⟩
  ·rw [e i hi];exact ⟨(rot_lt hn _).1,by rw [nn];exact (rot_lt hn _).2⟩
  ·rw [e i hi];exact ⟨(rot_lt hn _).1,by rw [nn];exact (rot_lt hn _).2⟩
  ·rw [e i hi,e k (by omega)] at he
   obtain ⟨v1,v2,_⟩:=hS.f k (by omega)
   refine w3 k hk (Prod.ext ?_ ?_)
   ·exact rot_inj hn v1.1 v1.2 w1.1 w1.2 (congrArg Prod.fst he)
   ·exact rot_inj hn v2.1 v2.2 w2.1 w2.2 (congrArg Prod.snd he)
 ·obtain ⟨h1,h2⟩:=sN_up (S:=S) (t:=t) hi
  exact ⟨⟨h1.1,by rw [nn];exact h1.2⟩,h2⟩
 ·intro h0
  have hs0:=hS.s0
  have hm:=(rot_hom (t:=t) hS).s (mem_gi.2 ⟨0,by omega,rfl⟩:gi S.s 0 ∈ S.s)
  rw [List.eq_nil_of_length_eq_zero h0] at hm
  simp at hm
theorem nodupP_le {l m:List Int} (hn:∀ i j,i<l.length→j<l.length→gi l i=gi l j→i=j) {p:Int→Int} (hp:∀ x ∈ l,p x ∈ m) (hi:∀ x ∈ l,∀ y ∈ l,p x=p y→x=y):l.length≤m.length:=by
 refine Classical.byContradiction fun hlt=>?_
 have hx:∀ i,∃ j,i<l.length→j<m.length∧gi m j=p (gi l i):=fun i=>by
  by_cases h:i<l.length
  ·obtain ⟨j,j1,j2⟩:=mem_gi.1 (hp _ (mem_gi.2 ⟨i,h,rfl⟩))
   exact ⟨j,fun _=>⟨j1,j2⟩⟩
  ·exact ⟨0,fun hh=>absurd hh h⟩
 obtain ⟨f,hf⟩:=Classical.axiomOfChoice hx
 obtain ⟨i,j,h1,h2,h3⟩:=pigeon m.length f fun i hi=>(hf i (by omega)).1
 have e1:=(hf i (by omega)).2
 have e2:=(hf j (by omega)).2
 rw [h3,e2] at e1
 have:=hn i j (by omega) (by omega) (hi _ (mem_gi.2 ⟨i,by omega,rfl⟩) _ (mem_gi.2 ⟨j,by omega,rfl⟩) e1.symm)
 omega
theorem rL_nodup {S:Shp}:∀ {k:Nat} {i j:Nat},i<(rL S k).length→j<(rL S k).length→gi (rL S k) i=gi (rL S k) j→i=j
 |0,i,j,h,_,_=>by simp [rL] at h
 |k+1,i,j,hi,hj,he=>by
  rw [rL] at hi hj he
  have hlt:∀ i,i<(rL S k).length→gi (rL S k) i ≠ (k:Int):=fun i hi h=>by
   obtain ⟨m,m1,m2,_⟩:=mem_rL.1 (mem_gi.2 ⟨i,hi,rfl⟩:gi (rL S k) i ∈ rL S k)
   omega
  by_cases hr:rB S k=true
  ·rw [if_pos hr] at hi hj he
   rw [List.length_append,List.length_singleton] at hi hj
   by_cases h1:i<(rL S k).length
   ·by_cases h2:j<(rL S k).length
    ·rw [gi_fst h1,gi_fst h2] at he;exact rL_nodup h1 h2 he
    ·rw [gi_fst h1,show j=(rL S k).length by omega,gi_last] at he;exact absurd he (hlt i h1)
   ·by_cases h2:j<(rL S k).length
    ·rw [gi_fst h2,show i=(rL S k).length by omega,gi_last] at he;exact absurd he.symm (hlt j h2)
    ·omega
  ·rw [if_neg hr] at hi hj he
   exact rL_nodup hi hj he
theorem Hom.reach {X:Shp} {p:Int→Int} (h:Hom X S p) (hX:shopE X=0) (hS:shopE S=0) {x:Int} (hx:x ∈ reachL X):p x ∈ reachL S:=by
 obtain ⟨i,i1,i2⟩:=mem_gi.1 hx
 obtain ⟨m,m1,m2,m3⟩:=reachL_at hX i1
 rw [i2] at m1
 subst m1
 obtain ⟨j,j1,j2⟩:=reachL_mem hS (h.lt m2).1 (h.rb m2 m3)
 rw [(h.lt m2).2] at j2
 exact mem_gi.2 ⟨j,j1,j2⟩
theorem reach_work {X:Shp} (hX:shopE X=0) {x:Int} (hx:x ∈ reachL X):isW X x:=by
 obtain ⟨i,i1,i2⟩:=mem_gi.1 hx
 obtain ⟨m,m1,m2,m3⟩:=reachL_at hX i1
 rw [← i2,m1];exact isW_nat m2
theorem Hom.reach_le {X:Shp} {p:Int→Int} (h:Hom X S p) (hX:shopE X=0) (hS:shopE S=0) (hi:∀ x y,isW X x→isW X y→p x=p y→x=y):(reachL X).length≤(reachL S).length:=by
 refine nodupP_le (p:=p) (fun i j h1 h2 he=>?_) (fun x hx=>h.reach hX hS hx) fun x hx y hy he=>hi x y (reach_work hX hx) (reach_work hX hy) he
 have e:reachL X=rL X X.d.length:=by unfold reachL;rw [if_pos hX]
 rw [e] at h1 h2 he
 exact rL_nodup h1 h2 he
theorem rot_all (h0:shopE S=0) {g:Int} (h1:1≤g) (h24:g≤24):shopE (rotS S t)=0∧winE S g=winE (rotS S t) g∧winV S g=winV (rotS S t) g∧mnE S=mnE (rotS S t)∧mnA S=mnA (rotS S t)∧mnB S=mnB (rotS S t) ∧
  (reachL S).length=(reachL (rotS S t)).length∧∀ x,x ∈ reachL S→rotP S.d.length t x ∈ reachL (rotS S t):=by
 have hS:=shopE_zero h0
 have hn:0<S.d.length:=by have:=hS.n1;omega
 have hX:=(rotS_ok (t:=t) hS).zero
 have a:=rot_hom (t:=t) hS
 have b:=rot_hom2 (t:=t) hS
 obtain ⟨e1,e2,e3,e4,e5⟩:=a.eqs b h0 hX h1 h24
 refine ⟨hX,e1,e2,e3,e4,e5,Nat.le_antisymm ?_ ?_,fun x hx=>a.reach h0 hX hx⟩
 ·exact a.reach_le h0 hX fun x y hx hy he=>rot_inj hn hx.1 hx.2 hy.1 hy.2 he
 ·refine b.reach_le hX h0 fun x y hx hy he=>?_
  have x2:=hx.2
  have y2:=hy.2
  rw [rotS_n] at x2 y2
  exact rot_inj hn hx.1 x2 hy.1 y2 he
end
end Go.AH.Dust
namespace Go.AH.Dust
open Go Go.AH
theorem osub_c3 {σ:Heap} {n i p:Nat} {π:Rho} {a b c a' b' c':Value} (hi:π i=⟨p,0,0⟩) (h:σ[p]?=some (.rw [a',b',c'])) (h1:VSub n π a a') (h2:VSub n π b b') (h3:VSub n π c c'):OSub σ n π (π i) (.rw [a,b,c]):=by
 refine .inr ⟨by rw [hi],[a',b',c'],.inl (by rw [hi];exact h),Nat.le_refl _,fun k hk hk'=>?_⟩
 match k,hk with
 |0,_=>exact h1
 |1,_=>exact h2
 |2,_=>exact h3
theorem rot_val {n t:Nat} {x:Int} (hn:0<n) (h0:0≤x) (h1:x<n):(x.tmod (n:Int)+(t:Int)).tmod (n:Int)=rotP n t x∧(0≤x.tmod (n:Int)∧x.tmod (n:Int)<n)∧0≤(x.tmod (n:Int)+(t:Int)).tmod (n:Int)∧(x.tmod (n:Int)+(t:Int)).tmod (n:Int)<n:=by
 obtain ⟨k,rfl⟩:∃ k:Nat,x=(k:Int):=⟨x.toNat,by omega⟩
 have e:((k:Nat):Int).tmod (n:Int)=(k:Int):=by
  show (((k % n:Nat)):Int)=_
  rw [Nat.mod_eq_of_lt (by omega)]
 have h2:=rot_lt (t:=t) hn (k:Int)
 have e2:((k:Int)+(t:Int)).tmod (n:Int)=rotP n t k:=by
  unfold rotP;rw [Int.toNat_natCast];rfl
 rw [e,e2]
 exact ⟨rfl,⟨h0,h1⟩,h2⟩
end Go.AH.Dust
namespace Go.Proofs.Ytomioaiojidnbaa
open Go Go.AH
attribute [local irreducible] WOps WCode WFree retQ thenQ blockQ scopeQ OpOk ACall RetRef roundA roundB
set_option maxRecDepth 100000
set_option maxHeartbeats 1000000
open Go.AH.Dust
theorem dustNamed_own (hwo:∀ σ:Heap,σ.all (fun o=>!isIter o)=true→Ev Try.prog 14 [] σ (.bool true) σ) (S:Shp) (hS:S.fit) (t p:Nat) (ht:t≤255) (hp:p≤255) :
  Ev Try.prog 11 [shV 0 1 2 S,.int .u8 t,.int .u8 p] S.hp (.bool true) S.hp:=by
 have hfi:=fine39_ev (σ:=[.ro (ints S.d),.ro (pc S.f),.ro (ints S.s),.rw (shL 0 1 2 S)]) (S:=S) (x:=0) (y:=1) (z:=2) ⟨.inl rfl,.inl rfl,.inl rfl⟩ shS_self hS rfl
 by_cases h0:shopE S=0
 ·rw [decide_eq_true h0] at hfi
  have hok:=shopE_zero h0
  have n1:=hok.n1
  have n10:=hok.n10
  have f60:=hok.f60
  have s10:=hok.s10
  have e1:((p:Nat):Int).tmod 24=((p % 24:Nat):Int):=rfl
  have hp1:0≤((p:Nat):Int).tmod 24∧((p:Nat):Int).tmod 24<24:=by rw [e1];omega
  obtain ⟨g,hgp⟩:∃ g:Nat,1+((p:Nat):Int).tmod 24=(g:Int):=⟨1+p % 24,by rw [e1];omega⟩
  refine acall_intro 3 231 Try.func11 rfl rfl rfl rfl rfl ?_
  repeat' (first|(refine gU ?_;first|(refine gMove ?_;refine st (ok_move rfl) rfl rfl ?_)|(refine gAssign ?_;refine st (ok_assign rfl) rfl rfl ?_)|(refine gFA ?_;refine st (ok_fieldAddr rfl) rfl rfl ?_)|(refine gLoad ?_;first|refine st (ok_load rfl (by rfl)) rfl rfl ?_|refine st (ok_loadA rfl (by rfl)) rfl rfl ?_)|(refine gAdd ?_;refine st (ok_add rfl rfl (by omega) (by omega)) rfl rfl ?_)|(refine gBin ?_;refine st (ok_rem rfl rfl (by omega)) rfl rfl ?_)|(refine gLen ?_;refine st (ok_len rfl) rfl rfl ?_)|(refine gNot ?_;refine st (ok_not' rfl) rfl rfl ?_)|(refine gConv ?_;refine st (ok_convK rfl (by omega) (by omega)) rfl rfl ?_)|(refine gBuild ?_;refine st (ok_build (by rfl) rfl (by rfl)) rfl rfl ?_)|(refine gCall ?_;refine st (ok_call rfl rfl rfl (by exact hfi)) rfl rfl ?_)|(refine gBox ?_;refine st (ok_box rfl) rfl rfl ?_)|(refine gAlloc ?_;refine st (ok_alloc rfl) rfl rfl ?_)|(refine gMakeS ?_;refine st (ok_makeS (by rfl) (by rfl) rfl rfl (by omega) (by omega) (by omega)) rfl rfl ?_)|(refine gStore ?_;refine stN (ok_store rfl rfl rfl rfl (by rfl)) rfl ?_))|refine W_seq ?_|refine W_region ?_|refine st_nil ?_|refine tq_n ?_|refine W_skip ?_|refine W_block ?_|refine W_condFA rfl ?_)
  simp only [hgp,cl_zero]
  have hn0:0<S.d.length:=by omega
  refine W_loopS (ι:=Nat) (fun i=>[(1,.int .u8 (t:Int)),(3,.pointer (some ⟨3,0,none⟩)),(7,.int .i64 (S.d.length:Int)),(8,.int .i64 (g:Int)),(9,.pointer (some ⟨5,0,none⟩)),(10,sl 6 S.d.length),(11,.int .i64 (i:Int))]) (fun i=>[.ro (ints S.d),.ro (pc S.f),.ro (ints S.s),.rw (shL 0 1 2 S),.rw (cl S.d.length (dN S t i)),.rw [sl 4 S.d.length,.slice none 0 0,.slice none 0 0],.rw (cl S.d.length (fun _=>0))]) (fun i=>S.d.length - i) (fun i=>i≤S.d.length) 0 (by simp) (.same ⟨rfl,rfl,rfl,rfl,rfl,rfl,rfl,trivial⟩) (Nat.zero_le _) ?_
  clear hfi
  intro i hi
  by_cases hil:i<S.d.length
  ·have hx:0≤((i:Int)+(t:Int)).tmod (S.d.length:Int)∧((i:Int)+(t:Int)).tmod (S.d.length:Int)<(S.d.length:Int):=by
    rw [show ((i:Int)+(t:Int)).tmod (S.d.length:Int)=(((i+t) % S.d.length:Nat):Int) from rfl]
    have:=Nat.mod_lt (i+t) hn0;omega
   have hc1:cellGet [.ro (ints S.d),.ro (pc S.f),.ro (ints S.s),.rw (shL 0 1 2 S),.rw (cl S.d.length (dN S t i)),.rw [sl 4 S.d.length,.slice none 0 0,.slice none 0 0],.rw (cl S.d.length (fun _=>0))] 0 i=some (.int .i64 (gi S.d i)):=ints_get hil
   have hc2:cellGet [.ro (ints S.d),.ro (pc S.f),.ro (ints S.s),.rw (shL 0 1 2 S),.rw (cl S.d.length (dN S t i)),.rw [sl 4 S.d.length,.slice none 0 0,.slice none 0 0],.rw (cl S.d.length (fun _=>0))] 0 (0+i*1)=some (.int .i64 (gi S.d i)):=by rw [Nat.zero_add,Nat.mul_one];exact ints_get hil
   have hput:putCells [.ro (ints S.d),.ro (pc S.f),.ro (ints S.s),.rw (shL 0 1 2 S),.rw (cl S.d.length (dN S t i)),.rw [sl 4 S.d.length,.slice none 0 0,.slice none 0 0],.rw (cl S.d.length (fun _=>0))] 4 (0+(((i:Int)+(t:Int)).tmod (S.d.length:Int)).toNat*1) [.int .i64 (gi S.d i)]=some [.ro (ints S.d),.ro (pc S.f),.ro (ints S.s),.rw (shL 0 1 2 S),.rw (cl S.d.length (dN S t (i+1))),.rw [sl 4 S.d.length,.slice none 0 0,.slice none 0 0],.rw (cl S.d.length (fun _=>0))] :=
    putRw (cs':=cl S.d.length (dN S t (i+1))) rfl (by rw [cl_len];simp;omega) (by rw [cl_len];omega) (cl_set (r:=dN S t i) (v:=gi S.d i) (Nat.mod_lt (i+t) hn0))
   repeat' (first|(refine gU ?_;first|(refine gMove ?_;refine st (ok_move rfl) rfl rfl ?_)|(refine gAssign ?_;refine st (ok_assign rfl) rfl rfl ?_)|(refine gAdd ?_;refine st (ok_inc rfl rfl (by omega)) rfl rfl ?_)|(refine gBin ?_;refine st (ok_bin rfl rfl rfl) rfl rfl ?_)|(refine gStore ?_;refine stN (ok_store rfl rfl rfl rfl (by exact hput)) rfl ?_))|(refine fU ?_;first|(refine fMove ?_;refine frA (ok_move rfl) rfl ?_)|(refine fFA ?_;refine frA (ok_fieldAddr rfl) rfl ?_)|(refine fLoad ?_;refine frA (ok_load rfl (by first|rfl|exact hc1)) rfl ?_)|(refine fAdd ?_;refine frA (ok_add rfl rfl (by omega) (by omega)) rfl ?_)|(refine fBin ?_;refine frA (ok_rem rfl rfl (by omega)) rfl ?_)|(refine fIA ?_;first|refine frA (ok_idxN rfl rfl (by omega)) rfl ?_|refine frA (ok_idx rfl rfl (by omega) (by omega)) rfl ?_)|(refine fConv ?_;refine frA (ok_convK rfl (by omega) (by omega)) rfl ?_))|(refine fr_stop ⟨by kernel_rfl,?_⟩)|refine W_seq ?_|refine W_region ?_|refine W_regionD (by kernel_rfl) rfl ?_|refine st_nil ?_|refine tq_n ?_|refine bq_n ?_|refine W_skip ?_|refine W_block ?_|refine W_condTA rfl ?_)
   exact ⟨rfl,i+1,by omega,by omega,.same ⟨rfl,rfl,rfl,rfl,rfl,rfl,rfl,trivial⟩⟩
  ·obtain rfl:i=S.d.length:=by omega
   repeat' (first|(refine gU ?_;first|(refine gMove ?_;refine st (ok_move rfl) rfl rfl ?_)|(refine gAssign ?_;refine st (ok_assign rfl) rfl rfl ?_)|(refine gBin ?_;refine st (ok_bin rfl rfl rfl) rfl rfl ?_))|refine W_seq ?_|refine W_region ?_|refine st_nil ?_|refine tq_n ?_|refine tq_e ?_|refine bq_hit rfl ?_|refine W_exit ?_|refine W_block ?_|refine W_condFA rfl ?_)
   refine W_loopS (ι:=Nat) (fun k=>[(1,.int .u8 (t:Int)),(3,.pointer (some ⟨3,0,none⟩)),(7,.int .i64 (S.d.length:Int)),(8,.int .i64 (g:Int)),(9,.pointer (some ⟨5,0,none⟩)),(10,sl 6 S.d.length),(12,.int .i64 (k:Int))]) (fun k=>[.ro (ints S.d),.ro (pc S.f),.ro (ints S.s),.rw (shL 0 1 2 S),.rw (cl S.d.length (dN S t S.d.length)),.rw [sl 4 S.d.length,slvV 7 2 (k),.slice none 0 0],.rw (cl S.d.length (fun _=>0)),.gr (pc (fN S t (k))) 70]) (fun k=>S.f.length - k) (fun k=>k≤S.f.length) 0 (by simp)
    (StRef.all _ 7 [7] (by simp) rfl rfl ⟨osub_same (i:=0) (by omega) (by simp) rfl (plainL_closed (ints_plain _)),osub_same (i:=1) (by omega) (by simp) rfl (plainL_closed (pc_plain _)),osub_same (i:=2) (by omega) (by simp) rfl (plainL_closed (ints_plain _)),osub_same (i:=3) (by omega) (by simp) rfl (shL_closed (by omega) (by omega) (by omega)),osub_same (i:=4) (by omega) (by simp) rfl (plainL_closed cl_plain),osub_c3 (p:=5) (srcR_lt (by omega)) rfl (vsub_sl (by simp) (srcR_lt (by omega)) (Nat.le_refl _)) (vrel_plain _ rfl) (vrel_plain _ rfl),osub_same (i:=6) (by omega) (by simp) rfl (plainL_closed cl_plain),osub_gr0,trivial⟩ (by (repeat' (first|exact trivial|refine ⟨er_plain rfl rfl,?_⟩|refine ⟨er_closed (m:=7) rfl (fun i hi=>srcR_lt hi) (by simp) (by first|rfl|exact closed_slice rfl) rfl,?_⟩)))) (Nat.zero_le _) ?_
   clear hi hil
   intro k hk
   by_cases hkl:k<S.f.length
   ·obtain ⟨w1,w2,_⟩:=hok.f k hkl
    have hc1:cellGet [.ro (ints S.d),.ro (pc S.f),.ro (ints S.s),.rw (shL 0 1 2 S),.rw (cl S.d.length (dN S t S.d.length)),.rw [sl 4 S.d.length,slvV 7 2 (k),.slice none 0 0],.rw (cl S.d.length (fun _=>0)),.gr (pc (fN S t (k))) 70] 1 (0+k*2+0*1)=some (.int .i64 (gf S.f k).1):=pc_get0 (.inl rfl) hkl
    have hc2:cellGet [.ro (ints S.d),.ro (pc S.f),.ro (ints S.s),.rw (shL 0 1 2 S),.rw (cl S.d.length (dN S t S.d.length)),.rw [sl 4 S.d.length,slvV 7 2 (k),.slice none 0 0],.rw (cl S.d.length (fun _=>0)),.gr (pc (fN S t (k))) 70] 1 (0+k*2+1*1)=some (.int .i64 (gf S.f k).2):=pc_get1 (.inl rfl) hkl
    have hlen:(pc (fN S t k)).length=k*2:=by rw [pc_len,fN_len];omega
    have r1:=rot_val (t:=t) hn0 w1.1 w1.2
    have r2:=rot_val (t:=t) hn0 w2.1 w2.2
    have hcs:pc (fN S t (k+1))=pc (fN S t k)++[.int .i64 (((gf S.f k).1.tmod (S.d.length:Int)+(t:Int)).tmod (S.d.length:Int)),.int .i64 (((gf S.f k).2.tmod (S.d.length:Int)+(t:Int)).tmod (S.d.length:Int))]:=by
     rw [fN,pc_app,r1.1,r2.1]
    have q1:=r1.2
    have q2:=r2.2
    clear r1 r2
    generalize (gf S.f k).1=a at *
    generalize (gf S.f k).2=b at *
    repeat' (first|(refine gU ?_;first|(refine gMove ?_;refine st (ok_move rfl) rfl rfl ?_)|(refine gAssign ?_;refine st (ok_assign rfl) rfl rfl ?_)|(refine gFA ?_;refine st (ok_fieldAddr rfl) rfl rfl ?_)|(refine gLoad ?_;refine st (ok_load rfl (by rfl)) rfl rfl ?_)|(refine gAdd ?_;refine st (ok_inc rfl rfl (by omega)) rfl rfl ?_)|(refine gBin ?_;refine st (ok_bin rfl rfl rfl) rfl rfl ?_)|(refine gLen ?_;refine st (ok_len rfl) rfl rfl ?_)|(refine gApp ?_;refine st (ok_appendV (by rfl) (by rfl) rfl (by rfl) (by exact hlen) rfl (by rfl) (by omega) (by rfl) (by omega) (by omega)) rfl rfl ?_)|(refine gStore ?_;refine stN (ok_store rfl rfl rfl rfl (by rfl)) rfl ?_))|(refine fU ?_;first|(refine fMove ?_;refine frA (ok_move rfl) rfl ?_)|(refine fFA ?_;refine frA (ok_fieldAddr rfl) rfl ?_)|(refine fLoad ?_;refine frA (ok_load rfl (by first|rfl|exact hc1|exact hc2)) rfl ?_)|(refine fAdd ?_;refine frA (ok_add rfl rfl (by omega) (by omega)) rfl ?_)|(refine fBin ?_;refine frA (ok_rem rfl rfl (by omega)) rfl ?_)|(refine fIA ?_;first|refine frA (ok_idxSN rfl rfl (by omega)) rfl ?_|refine frA (ok_idxA rfl rfl (by omega) (by omega)) rfl ?_)|(refine fConv ?_;refine frA (ok_convK rfl (by omega) (by omega)) rfl ?_)|(refine fBuild ?_;refine frA (ok_buildAr (by rfl) rfl (by rfl)) rfl ?_)|(refine fBuildS ?_;refine frN (ok_buildS (by rfl) (by rfl) (by rfl) (by rfl) rfl (by rfl)) nok_slice rfl rfl rfl ?_))|(refine fr_stop ⟨by kernel_rfl,?_⟩)|refine W_seq ?_|refine W_region ?_|refine W_regionD (by kernel_rfl) rfl ?_|refine st_nil ?_|refine tq_n ?_|refine bq_n ?_|refine W_skip ?_|refine W_block ?_|refine W_condTA rfl ?_)
    exact ⟨rfl,k+1,by omega,by omega,StRef.all _ 7 [9] (by simp) rfl rfl ⟨osub_same (i:=0) (by omega) (by simp) rfl (plainL_closed (ints_plain _)),osub_same (i:=1) (by omega) (by simp) rfl (plainL_closed (pc_plain _)),osub_same (i:=2) (by omega) (by simp) rfl (plainL_closed (ints_plain _)),osub_same (i:=3) (by omega) (by simp) rfl (shL_closed (by omega) (by omega) (by omega)),osub_same (i:=4) (by omega) (by simp) rfl (plainL_closed cl_plain),osub_c3 (p:=5) (srcR_lt (by omega)) rfl (vsub_sl (by simp) (srcR_lt (by omega)) (Nat.le_refl _)) (vsub_slvV (by simp) rfl) (vrel_plain _ rfl),osub_same (i:=6) (by omega) (by simp) rfl (plainL_closed cl_plain),osub_gr (j:=9) rfl (by rw [hcs];rfl) (pc_plain _),trivial⟩ (by (repeat' (first|exact trivial|refine ⟨er_plain rfl rfl,?_⟩|refine ⟨er_closed (m:=7) rfl (fun i hi=>srcR_lt hi) (by simp) (by first|rfl|exact closed_slice rfl) rfl,?_⟩)))⟩
   ·obtain rfl:k=S.f.length:=by omega
    rw [show cl S.d.length (fun _=>0)=cl S.d.length (mN S t 0) from rfl]
    repeat' (first|(refine gU ?_;first|(refine gMove ?_;refine st (ok_move rfl) rfl rfl ?_)|(refine gAssign ?_;refine st (ok_assign rfl) rfl rfl ?_)|(refine gFA ?_;refine st (ok_fieldAddr rfl) rfl rfl ?_)|(refine gLoad ?_;refine st (ok_load rfl (by rfl)) rfl rfl ?_)|(refine gBin ?_;refine st (ok_bin rfl rfl rfl) rfl rfl ?_)|(refine gLen ?_;refine st (ok_len rfl) rfl rfl ?_))|refine W_seq ?_|refine W_region ?_|refine st_nil ?_|refine tq_n ?_|refine tq_e ?_|refine bq_hit rfl ?_|refine W_exit ?_|refine W_block ?_|refine W_condFA rfl ?_)
    refine W_loopS (ι:=Nat) (fun j=>[(1,.int .u8 (t:Int)),(3,.pointer (some ⟨3,0,none⟩)),(7,.int .i64 (S.d.length:Int)),(8,.int .i64 (g:Int)),(9,.pointer (some ⟨5,0,none⟩)),(10,sl 6 S.d.length),(13,.int .i64 (j:Int))]) (fun j=>[.ro (ints S.d),.ro (pc S.f),.ro (ints S.s),.rw (shL 0 1 2 S),.rw (cl S.d.length (dN S t S.d.length)),.rw [sl 4 S.d.length,slvV 7 2 S.f.length,.slice none 0 0],.rw (cl S.d.length (mN S t (j))),.gr (pc (fN S t S.f.length)) 70]) (fun j=>S.s.length - j) (fun j=>j≤S.s.length) 0 (by simp) (.same ⟨rfl,rfl,rfl,rfl,rfl,rfl,rfl,trivial⟩) (Nat.zero_le _) ?_
    clear hk hkl
    intro j hj
    by_cases hjl:j<S.s.length
    ·have w:=(hok.s j hjl).1
     have hc1:cellGet [.ro (ints S.d),.ro (pc S.f),.ro (ints S.s),.rw (shL 0 1 2 S),.rw (cl S.d.length (dN S t S.d.length)),.rw [sl 4 S.d.length,slvV 7 2 S.f.length,.slice none 0 0],.rw (cl S.d.length (mN S t (j))),.gr (pc (fN S t S.f.length)) 70] 2 j=some (.int .i64 (gi S.s j)):=ints_get hjl
     have hc2:cellGet [.ro (ints S.d),.ro (pc S.f),.ro (ints S.s),.rw (shL 0 1 2 S),.rw (cl S.d.length (dN S t S.d.length)),.rw [sl 4 S.d.length,slvV 7 2 S.f.length,.slice none 0 0],.rw (cl S.d.length (mN S t (j))),.gr (pc (fN S t S.f.length)) 70] 2 (0+j*1)=some (.int .i64 (gi S.s j)):=by rw [Nat.zero_add,Nat.mul_one];exact ints_get hjl
     obtain ⟨r1,r2,r3⟩:=rot_val (t:=t) hn0 w.1 w.2
     have hput:putCells [.ro (ints S.d),.ro (pc S.f),.ro (ints S.s),.rw (shL 0 1 2 S),.rw (cl S.d.length (dN S t S.d.length)),.rw [sl 4 S.d.length,slvV 7 2 S.f.length,.slice none 0 0],.rw (cl S.d.length (mN S t (j))),.gr (pc (fN S t S.f.length)) 70] 6 (0+(((gi S.s j).tmod (S.d.length:Int)+(t:Int)).tmod (S.d.length:Int)).toNat*1) [.int .i64 1]=some [.ro (ints S.d),.ro (pc S.f),.ro (ints S.s),.rw (shL 0 1 2 S),.rw (cl S.d.length (dN S t S.d.length)),.rw [sl 4 S.d.length,slvV 7 2 S.f.length,.slice none 0 0],.rw (cl S.d.length (mN S t (j+1))),.gr (pc (fN S t S.f.length)) 70] :=
      putRw (cs':=cl S.d.length (mN S t (j+1))) rfl (by rw [cl_len];simp;omega) (by rw [cl_len];omega) (by
       rw [r1,show (rotP S.d.length t (gi S.s j)).toNat=((gi S.s j).toNat+t) % S.d.length by unfold rotP;rw [Int.toNat_natCast]]
       exact cl_set (r:=mN S t j) (v:=1) (Nat.mod_lt _ hn0))
     clear r1
     generalize gi S.s j=a at *
     repeat' (first|(refine gU ?_;first|(refine gMove ?_;refine st (ok_move rfl) rfl rfl ?_)|(refine gAssign ?_;refine st (ok_assign rfl) rfl rfl ?_)|(refine gFA ?_;refine st (ok_fieldAddr rfl) rfl rfl ?_)|(refine gLoad ?_;refine st (ok_load rfl (by first|rfl|exact hc1)) rfl rfl ?_)|(refine gAdd ?_;first|refine st (ok_inc rfl rfl (by omega)) rfl rfl ?_|refine st (ok_add rfl rfl (by omega) (by omega)) rfl rfl ?_)|(refine gBin ?_;first|refine st (ok_bin rfl rfl rfl) rfl rfl ?_|refine st (ok_rem rfl rfl (by omega)) rfl rfl ?_)|(refine gLen ?_;refine st (ok_len rfl) rfl rfl ?_)|(refine gIA ?_;first|refine st (ok_idxN rfl rfl (by omega)) rfl rfl ?_|refine st (ok_idx rfl rfl (by omega) (by omega)) rfl rfl ?_)|(refine gConv ?_;refine st (ok_convK rfl (by omega) (by omega)) rfl rfl ?_)|(refine gStore ?_;refine stN (ok_store rfl rfl rfl rfl (by exact hput)) rfl ?_))|refine W_seq ?_|refine W_region ?_|refine st_nil ?_|refine tq_n ?_|refine bq_n ?_|refine W_skip ?_|refine W_block ?_|refine W_condTA rfl ?_)
     exact ⟨rfl,j+1,by omega,by omega,.same ⟨rfl,rfl,rfl,rfl,rfl,rfl,rfl,trivial⟩⟩
    ·obtain rfl:j=S.s.length:=by omega
     repeat' (first|(refine gU ?_;first|(refine gMove ?_;refine st (ok_move rfl) rfl rfl ?_)|(refine gAssign ?_;refine st (ok_assign rfl) rfl rfl ?_)|(refine gFA ?_;refine st (ok_fieldAddr rfl) rfl rfl ?_)|(refine gLoad ?_;refine st (ok_load rfl (by rfl)) rfl rfl ?_)|(refine gBin ?_;refine st (ok_bin rfl rfl rfl) rfl rfl ?_)|(refine gLen ?_;refine st (ok_len rfl) rfl rfl ?_))|refine W_seq ?_|refine W_region ?_|refine st_nil ?_|refine tq_n ?_|refine tq_e ?_|refine bq_hit rfl ?_|refine W_exit ?_|refine W_block ?_|refine W_condFA rfl ?_)
     refine W_loopS (ι:=Nat) (fun i=>[(1,.int .u8 (t:Int)),(3,.pointer (some ⟨3,0,none⟩)),(7,.int .i64 (S.d.length:Int)),(8,.int .i64 (g:Int)),(9,.pointer (some ⟨5,0,none⟩)),(10,sl 6 S.d.length),(14,.int .i64 (i:Int))]) (fun i=>[.ro (ints S.d),.ro (pc S.f),.ro (ints S.s),.rw (shL 0 1 2 S),.rw (cl S.d.length (dN S t S.d.length)),.rw [sl 4 S.d.length,slvV 7 2 S.f.length,slvV 8 1 (sN S t (i)).length],.rw (cl S.d.length (mN S t S.s.length)),.gr (pc (fN S t S.f.length)) 70,.gr (ints (sN S t (i))) 3]) (fun i=>S.d.length - i) (fun i=>i≤S.d.length) 0 (by simp)
      (StRef.all _ 8 [8] (by simp) rfl rfl ⟨osub_same (i:=0) (by omega) (by simp) rfl (plainL_closed (ints_plain _)),osub_same (i:=1) (by omega) (by simp) rfl (plainL_closed (pc_plain _)),osub_same (i:=2) (by omega) (by simp) rfl (plainL_closed (ints_plain _)),osub_same (i:=3) (by omega) (by simp) rfl (shL_closed (by omega) (by omega) (by omega)),osub_same (i:=4) (by omega) (by simp) rfl (plainL_closed cl_plain),osub_c3 (p:=5) (srcR_lt (by omega)) rfl (vsub_sl (by simp) (srcR_lt (by omega)) (Nat.le_refl _)) (vsub_slvV (by simp) (srcR_lt (by omega))) (vrel_plain _ rfl),osub_same (i:=6) (by omega) (by simp) rfl (plainL_closed cl_plain),osub_same (i:=7) (by omega) (by simp) rfl (plainL_closed (pc_plain _)),osub_gr0,trivial⟩ (by (repeat' (first|exact trivial|refine ⟨er_plain rfl rfl,?_⟩|refine ⟨er_closed (m:=8) rfl (fun i hi=>srcR_lt hi) (by simp) (by first|rfl|exact closed_slice rfl) rfl,?_⟩)))) (Nat.zero_le _) ?_
     clear hj hjl
     intro i hi
     by_cases hil:i<S.d.length
     ·have hc1:cellGet [.ro (ints S.d),.ro (pc S.f),.ro (ints S.s),.rw (shL 0 1 2 S),.rw (cl S.d.length (dN S t S.d.length)),.rw [sl 4 S.d.length,slvV 7 2 S.f.length,slvV 8 1 (sN S t (i)).length],.rw (cl S.d.length (mN S t S.s.length)),.gr (pc (fN S t S.f.length)) 70,.gr (ints (sN S t (i))) 3] 6 i=some (.int .i64 (mN S t S.s.length i)):=cl_get hil
      have hc2:cellGet [.ro (ints S.d),.ro (pc S.f),.ro (ints S.s),.rw (shL 0 1 2 S),.rw (cl S.d.length (dN S t S.d.length)),.rw [sl 4 S.d.length,slvV 7 2 S.f.length,slvV 8 1 (sN S t (i)).length],.rw (cl S.d.length (mN S t S.s.length)),.gr (pc (fN S t S.f.length)) 70,.gr (ints (sN S t (i))) 3] 6 (0+i*1)=some (.int .i64 (mN S t S.s.length i)):=by rw [Nat.zero_add,Nat.mul_one];exact cl_get hil
      have hlen:(ints (sN S t i)).length=(sN S t i).length*1:=by simp [ints]
      have hsl:=sN_len (S:=S) (t:=t) i
      have hsn:sN S t (i+1)=if mN S t S.s.length i=1 then sN S t i++[(i:Int)] else sN S t i:=rfl
      by_cases hm:mN S t S.s.length i=1
      ·rw [if_pos hm] at hsn
       have hcs:ints (sN S t (i+1))=ints (sN S t i)++[.int .i64 (i:Int)]:=by rw [hsn,ints_app]
       have hl2:(sN S t (i+1)).length=(sN S t i).length+1:=by rw [hsn];simp
       clear hsn
       rw [hm] at hc1 hc2
       generalize sN S t i=Q at *
       repeat' (first|(refine gU ?_;first|(refine gMove ?_;refine st (ok_move rfl) rfl rfl ?_)|(refine gAssign ?_;refine st (ok_assign rfl) rfl rfl ?_)|(refine gFA ?_;refine st (ok_fieldAddr rfl) rfl rfl ?_)|(refine gLoad ?_;refine st (ok_load rfl (by first|rfl|exact hc1)) rfl rfl ?_)|(refine gAdd ?_;refine st (ok_inc rfl rfl (by omega)) rfl rfl ?_)|(refine gBin ?_;refine st (ok_bin rfl rfl rfl) rfl rfl ?_)|(refine gIA ?_;refine st (ok_idxN rfl rfl (by omega)) rfl rfl ?_)|(refine gBuildS ?_;refine st (ok_buildS (by rfl) (by rfl) (by rfl) (by rfl) rfl (by rfl)) rfl rfl ?_)|(refine gApp ?_;refine st (ok_appendV (by rfl) (by rfl) rfl (by rfl) (by exact hlen) rfl (by rfl) (by omega) (by rfl) (by omega) (by omega)) rfl rfl ?_)|(refine gStore ?_;refine stN (ok_store rfl rfl rfl rfl (by rfl)) rfl ?_))|refine W_seq ?_|refine W_region ?_|refine st_nil ?_|refine tq_n ?_|refine bq_n ?_|refine W_skip ?_|refine W_block ?_|refine W_condTA rfl ?_)
       exact ⟨rfl,i+1,by omega,by omega,StRef.all _ 8 [10] (by simp) rfl rfl ⟨osub_same (i:=0) (by omega) (by simp) rfl (plainL_closed (ints_plain _)),osub_same (i:=1) (by omega) (by simp) rfl (plainL_closed (pc_plain _)),osub_same (i:=2) (by omega) (by simp) rfl (plainL_closed (ints_plain _)),osub_same (i:=3) (by omega) (by simp) rfl (shL_closed (by omega) (by omega) (by omega)),osub_same (i:=4) (by omega) (by simp) rfl (plainL_closed cl_plain),osub_c3 (p:=5) (srcR_lt (by omega)) rfl (vsub_sl (by simp) (srcR_lt (by omega)) (Nat.le_refl _)) (vsub_slvV (by simp) (srcR_lt (by omega))) (by rw [hl2];exact vsub_slvV (by simp) rfl),osub_same (i:=6) (by omega) (by simp) rfl (plainL_closed cl_plain),osub_same (i:=7) (by omega) (by simp) rfl (plainL_closed (pc_plain _)),osub_gr (j:=10) rfl (by rw [hcs];rfl) (ints_plain _),trivial⟩ (by (repeat' (first|exact trivial|refine ⟨er_plain rfl rfl,?_⟩|refine ⟨er_closed (m:=8) rfl (fun i hi=>srcR_lt hi) (by simp) (by first|rfl|exact closed_slice rfl) rfl,?_⟩)))⟩
      ·rw [if_neg hm] at hsn
       repeat' (first|(refine gU ?_;first|(refine gMove ?_;refine st (ok_move rfl) rfl rfl ?_)|(refine gAssign ?_;refine st (ok_assign rfl) rfl rfl ?_)|(refine gLoad ?_;refine st (ok_load rfl (by exact hc1)) rfl rfl ?_)|(refine gAdd ?_;refine st (ok_inc rfl rfl (by omega)) rfl rfl ?_)|(refine gBin ?_;refine st (ok_bin rfl rfl rfl) rfl rfl ?_)|(refine gIA ?_;refine st (ok_idxN rfl rfl (by omega)) rfl rfl ?_))|refine W_seq ?_|refine W_region ?_|refine st_nil ?_|refine tq_n ?_|refine bq_n ?_|refine W_skip ?_|refine W_block ?_|refine W_condTA rfl ?_|refine W_condFA rfl ?_)
       refine ⟨rfl,i+1,by omega,by omega,?_⟩
       rw [hsn]
       exact .same ⟨rfl,rfl,rfl,rfl,rfl,rfl,rfl,trivial⟩
     ·obtain rfl:i=S.d.length:=by omega
      obtain ⟨hX,a1,a2,a3,a4,a5,a6,a7⟩:=rot_all (S:=S) (t:=t) h0 (g:=(g:Int)) (by omega) (by omega)
      have hXf:=(rotS_ok (t:=t) hok).fit
      have hsx:ShS 4 7 8 (rotS S t) (.agg #[sl 4 S.d.length,slvV 7 2 S.f.length,slvV 8 1 (sN S t S.d.length).length]):=shS_of (by rw [rotS_n];exact vsub_sl (by omega) rfl (Nat.le_refl _)) (by rw [show (rotS S t).f.length=S.f.length from fN_len _];exact vsub_slvR (by omega) rfl) (vsub_slvR (by omega) rfl)
      have hA:=window_ev (σ:=[.ro (ints S.d),.ro (pc S.f),.ro (ints S.s),.rw (shL 0 1 2 S),.rw (cl S.d.length (dN S t S.d.length)),.rw [sl 4 S.d.length,slvV 7 2 S.f.length,slvV 8 1 (sN S t (S.d.length)).length],.rw (cl S.d.length (mN S t S.s.length)),.gr (pc (fN S t S.f.length)) 70,.gr (ints (sN S t (S.d.length))) 3]) (S:=S) (h:=(g:Int)) (x:=0) (y:=1) (z:=2) ⟨.inl rfl,.inl rfl,.inl rfl⟩ shS_self hS rfl
      have hB:=window_ev (σ:=[.ro (ints S.d),.ro (pc S.f),.ro (ints S.s),.rw (shL 0 1 2 S),.rw (cl S.d.length (dN S t S.d.length)),.rw [sl 4 S.d.length,slvV 7 2 S.f.length,slvV 8 1 (sN S t (S.d.length)).length],.rw (cl S.d.length (mN S t S.s.length)),.gr (pc (fN S t S.f.length)) 70,.gr (ints (sN S t (S.d.length))) 3,.rw (ints (winL S (g:Int)))]) (S:=rotS S t) (h:=(g:Int)) (x:=4) (y:=7) (z:=8) ⟨.inr (.inl rfl),.inr (.inr ⟨70,rfl⟩),.inr (.inr ⟨3,rfl⟩)⟩ hsx hXf rfl
      have hC:=mean35_ev (σ:=[.ro (ints S.d),.ro (pc S.f),.ro (ints S.s),.rw (shL 0 1 2 S),.rw (cl S.d.length (dN S t S.d.length)),.rw [sl 4 S.d.length,slvV 7 2 S.f.length,slvV 8 1 (sN S t (S.d.length)).length],.rw (cl S.d.length (mN S t S.s.length)),.gr (pc (fN S t S.f.length)) 70,.gr (ints (sN S t (S.d.length))) 3,.rw (ints (winL S (g:Int))),.rw (ints (winL (rotS S t) (g:Int)))]) (S:=S) (x:=0) (y:=1) (z:=2) ⟨.inl rfl,.inl rfl,.inl rfl⟩ shS_self hS rfl
      have hD:=mean35_ev (σ:=[.ro (ints S.d),.ro (pc S.f),.ro (ints S.s),.rw (shL 0 1 2 S),.rw (cl S.d.length (dN S t S.d.length)),.rw [sl 4 S.d.length,slvV 7 2 S.f.length,slvV 8 1 (sN S t (S.d.length)).length],.rw (cl S.d.length (mN S t S.s.length)),.gr (pc (fN S t S.f.length)) 70,.gr (ints (sN S t (S.d.length))) 3,.rw (ints (winL S (g:Int))),.rw (ints (winL (rotS S t) (g:Int))),.rw (ints (mnO S).1),.rw [.int .i64 (mnA S),.int .i64 (mnB S)]]) (S:=rotS S t) (x:=4) (y:=7) (z:=8) ⟨.inr (.inl rfl),.inr (.inr ⟨70,rfl⟩),.inr (.inr ⟨3,rfl⟩)⟩ hsx hXf rfl
      have hE:=reached_ev (σ:=[.ro (ints S.d),.ro (pc S.f),.ro (ints S.s),.rw (shL 0 1 2 S),.rw (cl S.d.length (dN S t S.d.length)),.rw [sl 4 S.d.length,slvV 7 2 S.f.length,slvV 8 1 (sN S t (S.d.length)).length],.rw (cl S.d.length (mN S t S.s.length)),.gr (pc (fN S t S.f.length)) 70,.gr (ints (sN S t (S.d.length))) 3,.rw (ints (winL S (g:Int))),.rw (ints (winL (rotS S t) (g:Int))),.rw (ints (mnO S).1),.rw [.int .i64 (mnA S),.int .i64 (mnB S)],.rw (ints (mnO (rotS S t)).1),.rw [.int .i64 (mnA S),.int .i64 (mnB S)]]) (S:=S) (x:=0) (y:=1) (z:=2) ⟨.inl rfl,.inl rfl,.inl rfl⟩ shS_self hS rfl
      have hF:=reached_ev (σ:=[.ro (ints S.d),.ro (pc S.f),.ro (ints S.s),.rw (shL 0 1 2 S),.rw (cl S.d.length (dN S t S.d.length)),.rw [sl 4 S.d.length,slvV 7 2 S.f.length,slvV 8 1 (sN S t (S.d.length)).length],.rw (cl S.d.length (mN S t S.s.length)),.gr (pc (fN S t S.f.length)) 70,.gr (ints (sN S t (S.d.length))) 3,.rw (ints (winL S (g:Int))),.rw (ints (winL (rotS S t) (g:Int))),.rw (ints (mnO S).1),.rw [.int .i64 (mnA S),.int .i64 (mnB S)],.rw (ints (mnO (rotS S t)).1),.rw [.int .i64 (mnA S),.int .i64 (mnB S)],.rw (ints (reachL S))]) (S:=rotS S t) (x:=4) (y:=7) (z:=8) ⟨.inr (.inl rfl),.inr (.inr ⟨70,rfl⟩),.inr (.inr ⟨3,rfl⟩)⟩ hsx hXf rfl
      rw [← a1,← a2] at hB
      rw [← a3,← a4,← a5] at hD
      rw [h0] at hE
      rw [hX] at hF
      have hls:(reachL S).length≤S.d.length:=by
       have:reachL S=rL S S.d.length:=by unfold reachL;rw [if_pos h0]
       rw [this];exact rL_len S _
      have hin:∀ j,j<(reachL S).length→∃ x:Int,gi (reachL S) j=x∧0≤x∧x<S.d.length∧Ev Try.prog 41 [sl 16 (reachL (rotS S t)).length,.int .i64 ((x+(t:Int)).tmod (S.d.length:Int))] [.ro (ints S.d),.ro (pc S.f),.ro (ints S.s),.rw (shL 0 1 2 S),.rw (cl S.d.length (dN S t S.d.length)),.rw [sl 4 S.d.length,slvV 7 2 S.f.length,slvV 8 1 (sN S t (S.d.length)).length],.rw (cl S.d.length (mN S t S.s.length)),.gr (pc (fN S t S.f.length)) 70,.gr (ints (sN S t (S.d.length))) 3,.rw (ints (winL S (g:Int))),.rw (ints (winL (rotS S t) (g:Int))),.rw (ints (mnO S).1),.rw [.int .i64 (mnA S),.int .i64 (mnB S)],.rw (ints (mnO (rotS S t)).1),.rw [.int .i64 (mnA S),.int .i64 (mnB S)],.rw (ints (reachL S)),.rw (ints (reachL (rotS S t)))] (.bool true) [.ro (ints S.d),.ro (pc S.f),.ro (ints S.s),.rw (shL 0 1 2 S),.rw (cl S.d.length (dN S t S.d.length)),.rw [sl 4 S.d.length,slvV 7 2 S.f.length,slvV 8 1 (sN S t (S.d.length)).length],.rw (cl S.d.length (mN S t S.s.length)),.gr (pc (fN S t S.f.length)) 70,.gr (ints (sN S t (S.d.length))) 3,.rw (ints (winL S (g:Int))),.rw (ints (winL (rotS S t) (g:Int))),.rw (ints (mnO S).1),.rw [.int .i64 (mnA S),.int .i64 (mnB S)],.rw (ints (mnO (rotS S t)).1),.rw [.int .i64 (mnA S),.int .i64 (mnB S)],.rw (ints (reachL S)),.rw (ints (reachL (rotS S t)))]:=fun j hj=>by
       have hw:=reach_work h0 (mem_gi.2 ⟨j,hj,rfl⟩:gi (reachL S) j ∈ reachL S)
       refine ⟨_,rfl,hw.1,hw.2,?_⟩
       have:=in41_ev (σ:=[.ro (ints S.d),.ro (pc S.f),.ro (ints S.s),.rw (shL 0 1 2 S),.rw (cl S.d.length (dN S t S.d.length)),.rw [sl 4 S.d.length,slvV 7 2 S.f.length,slvV 8 1 (sN S t (S.d.length)).length],.rw (cl S.d.length (mN S t S.s.length)),.gr (pc (fN S t S.f.length)) 70,.gr (ints (sN S t (S.d.length))) 3,.rw (ints (winL S (g:Int))),.rw (ints (winL (rotS S t) (g:Int))),.rw (ints (mnO S).1),.rw [.int .i64 (mnA S),.int .i64 (mnB S)],.rw (ints (mnO (rotS S t)).1),.rw [.int .i64 (mnA S),.int .i64 (mnB S)],.rw (ints (reachL S)),.rw (ints (reachL (rotS S t)))]) (l:=reachL (rotS S t)) (p:=rotP S.d.length t (gi (reachL S) j)) (x:=16) (o:=0) (prtAt_arr (.inr (.inl rfl))) ps_self (by omega) rfl
       rw [decide_eq_true (a7 _ (mem_gi.2 ⟨j,hj,rfl⟩))] at this
       have e:=(rot_val (t:=t) hn0 hw.1 hw.2).1
       rw [show (gi (reachL S) j).tmod (S.d.length:Int)=gi (reachL S) j from Int.tmod_eq_of_lt hw.1 hw.2] at e
       rw [e];exact this
      clear a1 a2 a3 a4 a5 a7 hX hXf hsx hi hil
      generalize winL S (g:Int)=L1 at *
      generalize winL (rotS S t) (g:Int)=L2 at *
      generalize winV S (g:Int)=wv at *
      generalize winE S (g:Int)=we at *
      generalize mnR S=R1 at *
      generalize mnR (rotS S t)=R2 at *
      generalize mnO S=O1 at *
      generalize mnO (rotS S t)=O2 at *
      generalize mnA S=mA at *
      generalize mnB S=mB at *
      generalize mnE S=mE at *
      generalize reachL S=LS at *
      generalize reachL (rotS S t)=LX at *
      repeat' (first|(refine gU ?_;first|(refine gMove ?_;refine st (ok_move rfl) rfl rfl ?_)|(refine gAssign ?_;refine st (ok_assign rfl) rfl rfl ?_)|(refine gLoad ?_;refine st (ok_loadA rfl (by rfl)) rfl rfl ?_)|(refine gBin ?_;refine st (ok_bin rfl rfl rfl) rfl rfl ?_)|(refine gPick ?_;refine st (ok_pickFA rfl rfl) rfl rfl ?_)|(refine gExtract ?_;refine st (ok_extract rfl rfl) rfl rfl ?_)|(refine gCall ?_;refine st (ok_call rfl rfl rfl (by first|exact hA|exact hB|exact hC|exact hD|exact hE|exact hF)) rfl rfl ?_)|(refine gAlloc ?_;refine st (ok_alloc rfl) rfl rfl ?_)|(refine gStore ?_;refine stN (ok_store rfl rfl rfl rfl (by rfl)) rfl ?_))|(refine gG ?_;first|(refine gMove ?_;refine stGA rfl (ok_move rfl) rfl rfl ?_)|(refine gLoad ?_;refine stGA rfl (ok_loadA rfl (by rfl)) rfl rfl ?_)|(refine gBin ?_;first|refine stGA rfl (ok_bin rfl rfl rfl) rfl rfl ?_|refine stGA rfl (ok_neq2 rfl rfl) rfl rfl ?_)|(refine gLen ?_;refine stGA rfl (ok_len rfl) rfl rfl ?_))|refine W_seq ?_|refine W_region ?_|refine st_nil ?_|refine tq_n ?_|refine tq_e ?_|refine bq_hit rfl ?_|refine W_skip ?_|refine W_exit ?_|refine W_block ?_|refine W_condFA rfl ?_)
      refine W_loopS (ι:=Nat) (fun j=>[(1,.int .u8 (t:Int)),(7,.int .i64 (S.d.length:Int)),(27,sl 15 LS.length),(29,sl 16 LX.length),(31,.int .i64 (j:Int))]) (fun _=>[.ro (ints S.d),.ro (pc S.f),.ro (ints S.s),.rw (shL 0 1 2 S),.rw (cl S.d.length (dN S t S.d.length)),.rw [sl 4 S.d.length,slvV 7 2 S.f.length,slvV 8 1 (sN S t (S.d.length)).length],.rw (cl S.d.length (mN S t S.s.length)),.gr (pc (fN S t S.f.length)) 70,.gr (ints (sN S t (S.d.length))) 3,.rw (ints L1),.rw (ints L2),.rw (ints O1.1),.rw [.int .i64 mA,.int .i64 mB],.rw (ints O2.1),.rw [.int .i64 mA,.int .i64 mB],.rw (ints LS),.rw (ints LX)]) (fun j=>LS.length - j) (fun j=>j≤LS.length) 0 (by simp) (.same ⟨rfl,rfl,rfl,rfl,rfl,trivial⟩) (Nat.zero_le _) ?_
      clear hA hB hC hD hE hF
      intro j hj
      by_cases hjl:j<LS.length
      ·obtain ⟨x,x1,x2,x3,hj2⟩:=hin j hjl
       have hj:=hj2
       have hc1:cellGet [.ro (ints S.d),.ro (pc S.f),.ro (ints S.s),.rw (shL 0 1 2 S),.rw (cl S.d.length (dN S t S.d.length)),.rw [sl 4 S.d.length,slvV 7 2 S.f.length,slvV 8 1 (sN S t (S.d.length)).length],.rw (cl S.d.length (mN S t S.s.length)),.gr (pc (fN S t S.f.length)) 70,.gr (ints (sN S t (S.d.length))) 3,.rw (ints L1),.rw (ints L2),.rw (ints O1.1),.rw [.int .i64 mA,.int .i64 mB],.rw (ints O2.1),.rw [.int .i64 mA,.int .i64 mB],.rw (ints LS),.rw (ints LX)] 15 j=some (.int .i64 x):=by rw [← x1];exact ints_get hjl
       have hc2:cellGet [.ro (ints S.d),.ro (pc S.f),.ro (ints S.s),.rw (shL 0 1 2 S),.rw (cl S.d.length (dN S t S.d.length)),.rw [sl 4 S.d.length,slvV 7 2 S.f.length,slvV 8 1 (sN S t (S.d.length)).length],.rw (cl S.d.length (mN S t S.s.length)),.gr (pc (fN S t S.f.length)) 70,.gr (ints (sN S t (S.d.length))) 3,.rw (ints L1),.rw (ints L2),.rw (ints O1.1),.rw [.int .i64 mA,.int .i64 mB],.rw (ints O2.1),.rw [.int .i64 mA,.int .i64 mB],.rw (ints LS),.rw (ints LX)] 15 (0+j*1)=some (.int .i64 x):=by rw [Nat.zero_add,Nat.mul_one,← x1];exact ints_get hjl
       clear hin x1
       repeat' (first|(refine gU ?_;first|(refine gMove ?_;refine st (ok_move rfl) rfl rfl ?_)|(refine gAssign ?_;refine st (ok_assign rfl) rfl rfl ?_)|(refine gLoad ?_;refine st (ok_load rfl (by exact hc1)) rfl rfl ?_)|(refine gAdd ?_;first|refine st (ok_inc rfl rfl (by omega)) rfl rfl ?_|refine st (ok_add rfl rfl (by omega) (by omega)) rfl rfl ?_)|(refine gBin ?_;first|refine st (ok_bin rfl rfl rfl) rfl rfl ?_|refine st (ok_rem rfl rfl (by omega)) rfl rfl ?_)|(refine gLen ?_;refine st (ok_len rfl) rfl rfl ?_)|(refine gNot ?_;refine st (ok_not' rfl) rfl rfl ?_)|(refine gIA ?_;refine st (ok_idxN rfl rfl (by omega)) rfl rfl ?_)|(refine gConv ?_;refine st (ok_convK rfl (by omega) (by omega)) rfl rfl ?_)|(refine gCall ?_;refine st (ok_call rfl rfl rfl (by exact hj)) rfl rfl ?_))|refine W_seq ?_|refine W_region ?_|refine st_nil ?_|refine tq_n ?_|refine bq_n ?_|refine W_skip ?_|refine W_block ?_|refine W_condTA rfl ?_|refine W_condFA rfl ?_)
       exact ⟨rfl,j+1,by omega,by omega,.same ⟨rfl,rfl,rfl,rfl,rfl,trivial⟩⟩
      ·clear hin
       obtain rfl:j=LS.length:=by omega
       repeat' (first|(refine gU ?_;first|(refine gMove ?_;refine st (ok_move rfl) rfl rfl ?_)|(refine gAssign ?_;refine st (ok_assign rfl) rfl rfl ?_)|(refine gBin ?_;refine st (ok_bin rfl rfl rfl) rfl rfl ?_)|(refine gLen ?_;refine st (ok_len rfl) rfl rfl ?_)|(refine gCall ?_;refine st (ok_call rfl rfl rfl (by exact hwo _ rfl)) rfl rfl ?_))|refine W_seq ?_|refine W_region ?_|refine st_nil ?_|refine tq_n ?_|refine tq_e ?_|refine bq_hit rfl ?_|refine W_exit ?_|refine W_ret ?_|refine W_condFA rfl ?_)
       exact ret0 (.tmp rfl .nil) (.plain rfl rfl) ⟨rfl,rfl⟩
 ·rw [decide_eq_false h0] at hfi
  refine acall_intro 3 231 Try.func11 rfl rfl rfl rfl rfl ?_
  repeat' (first|(refine gU ?_;first|(refine gAssign ?_;refine st (ok_assign rfl) rfl rfl ?_)|(refine gLoad ?_;refine st (ok_loadA rfl (by rfl)) rfl rfl ?_)|(refine gNot ?_;refine st (ok_not' rfl) rfl rfl ?_)|(refine gCall ?_;refine st (ok_call rfl rfl rfl (by first|exact hfi|exact hwo _ rfl)) rfl rfl ?_)|(refine gBox ?_;refine st (ok_box rfl) rfl rfl ?_))|refine W_seq ?_|refine W_region ?_|refine st_nil ?_|refine tq_n ?_|refine tq_r ?_|refine W_ret ?_|refine W_condTA rfl ?_)
  all_goals exact ret0 (.tmp rfl .nil) (.plain rfl rfl) ⟨rfl,rfl⟩
theorem dustNamed_law (S:Shp) (hS:S.fit) (t p:Int) (ht0:0≤t) (ht:t≤255) (hp0:0≤p) (hp:p≤255) :
  Ev Try.prog 11 [shV 0 1 2 S,.int .u8 t,.int .u8 p] S.hp (.bool true) S.hp:=by
 obtain ⟨a,rfl⟩:∃ a:Nat,t=(a:Int):=⟨t.toNat,by omega⟩
 obtain ⟨b,rfl⟩:∃ b:Nat,p=(b:Int):=⟨p.toNat,by omega⟩
 exact dustNamed_own (fun _ h=>works_ev h) S hS a b (by omega) (by omega)
end Go.Proofs.Ytomioaiojidnbaa
namespace Go.AH
open Go Go.RowKit Go.WideShapes Go.ChangeShapes
section
variable {H:Type} {enc:TypeId×Value→H} {P:Program} {W:World}
def cellsI (l:List Int):List Value:=l.map (.int .i64)
structure SlArg (W:World) (v:Value) (n size:Nat) (cs:List Value) (pl:Pl):Prop where
 len:n≤9223372036854775807
 rel:∀ (m:Nat) (ρ:Rho) (i:Nat),i<m→ρ i=pl→VRel m ρ (.slice (some ⟨i,0,none⟩) n n) v
 sz:cs.length=n*size
 cells:cs ≠ []→pl.b<W.heap.size∧∀ (k:Nat) (h:k<cs.length),W.cell? ⟨pl.b,pl.o+k,none⟩=some cs[k]
theorem cell_lt {w:World} {a:Addr} {v:Value} (h:w.cell? a=some v):a.block<w.heap.size∧a.spot=none:=by
 unfold World.cell? at h
 split at h
 ·rename_i hb
  refine ⟨(Array.getElem?_eq_some_iff.1 hb).1,?_⟩
  split at h
  ·cases h
  ·rename_i hs;simpa using hs
 ·cases h
theorem SlArg.hro {v:Value} {n size:Nat} {cs:List Value} {pl:Pl} (h:SlArg W v n size cs pl) (hp:plainL cs=true) (ρ:Rho) (i m:Nat) (hρ:ρ i=pl) (hne:cs ≠ []) :
  (ρ i).b<W.heap.size∧∀ (k:Nat) (hk:k<cs.length),∃ v',W.cell? ⟨(ρ i).b,(ρ i).o+k,none⟩=some v'∧VRel m ρ cs[k] v':=by
 rw [hρ]
 obtain ⟨h1,h2⟩:=h.cells hne
 exact ⟨h1,fun k hk=>⟨_,h2 k hk,vrel_plainL cs hp k hk⟩⟩
end
end Go.AH
namespace Go.AH
open Go Go.RowKit Go.WideShapes Go.ChangeShapes
section
variable {H:Type} {enc:TypeId×Value→H} {P:Program} {w:World} {base:Nat} {spare:Nat→Bool} {held:Bool}
end
section
variable {H:Type} {enc:TypeId×Value→H} {P:Program} {W:World}
theorem read_u8 {b0:Nat} {t:TypeId} {v:Value} {d:DataW H} {p:List MemPlace} (ht:P.underlying t=some (.int .u8)) (hval:Value.okWide P W .any b0 t v)
  (h:DataW.Trod enc P W 0 (fun _=>true) true t v d p):∃ n:Int,v=.int .u8 n∧0≤n∧n≤255:=by
 obtain ⟨n,rfl,_,_,wn⟩:=open_int ht hval h
 simp only [Lit.wf,Bool.and_eq_true,decide_eq_true_eq] at wn
 exact ⟨n,rfl,wn⟩
end
end Go.AH
namespace Go.AH
open Go Go.RowKit Go.WideShapes Go.ChangeShapes
section
variable {H:Type} {enc:TypeId×Value→H} {P:Program} {w:World} {base:Nat} {spare:Nat→Bool} {held:Bool}
end
end Go.AH
namespace Go.AH
open Go Go.RowKit Go.WideShapes Go.ChangeShapes
section
variable {H:Type} {enc:TypeId×Value→H} {P:Program} {w:World} {base:Nat} {spare:Nat→Bool} {held:Bool}
end
section
variable {H:Type} {enc:TypeId×Value→H} {P:Program} {W:World}
end
end Go.AH
namespace Go.Proofs.Ytomioaiojidnbaa
open Go Go.AH Go.RowKit Go.WideShapes Go.ChangeShapes Go.AH.Dust
theorem add_cell {b o k:Nat}:(⟨b,o,none⟩:Addr).add k=⟨b,o+k,none⟩:=by
 unfold Addr.add
 split
 ·rename_i h;subst h;rfl
 ·rfl
theorem listP_of {Q:Nat→Int×Int→Prop} {n:Nat} (h:∀ i<n,∃ p,Q i p):∃ l:List (Int×Int),l.length=n∧∀ i<n,Q i (gf l i):=by
 induction n with
 |zero=>exact ⟨[],rfl,fun i hi=>by omega⟩
 |succ n ih =>
  obtain ⟨l,h1,h2⟩:=ih fun i hi=>h i (by omega)
  obtain ⟨p,hp⟩:=h n (by omega)
  refine ⟨l++[p],by simp [h1],fun i hi=>?_⟩
  by_cases hin:i<n
  ·have:gf (l++[p]) i=gf l i:=by simp only [gf,List.getD_eq_getElem?_getD];rw [List.getElem?_append_left (by omega)]
   rw [this];exact h2 i hin
  ·obtain rfl:i=n:=by omega
   have:gf (l++[p]) i=p:=by simp only [gf,List.getD_eq_getElem?_getD];rw [List.getElem?_append_right (by omega),h1,Nat.sub_self];rfl
   rw [this];exact hp
section
variable {H:Type} {enc:TypeId×Value→H} {P:Program} {W:World}
theorem readF_ints {t e:TypeId} {v:Value} {fuel:Nat} {x:DataW H×List MemPlace} (ht:P.underlying t=some (.slice e)) (he:P.underlying e=some (.int .i64)) (hc:P.cellsOf e=1)
  (hf:DataW.trod enc P W 0 (fun _=>true) true fuel t [v]=some x):∃ (l:List Int) (pl:Pl),SlArg W v l.length 1 (ints l) pl:=by
 rcases open_ints ht he hc hf with ⟨hcs,-⟩|⟨a,len,cap,zs,hcs,-,hl,hm,hz,-,hcell,hwf⟩
 ·cases hcs
  exact ⟨[],⟨0,0,0⟩,⟨by simp,fun m ρ i hi hρ=>.emptySlice _ _ _ _,rfl,fun h=>absurd rfl h⟩⟩
 ·cases hcs
  simp only [if_true] at hz
  have hlz:(zs.take len).length=len:=by rw [List.length_take];omega
  have hm':len≤9223372036854775807:=by unfold maxLen at hm;omega
  by_cases h0:len=0
  ·subst h0
   exact ⟨[],⟨0,0,0⟩,⟨by simp,fun m ρ i hi hρ=>.emptySlice _ _ _ _,rfl,fun h=>absurd rfl h⟩⟩
  ·have h1:=hcell 0 (by omega)
   have ha:a.add 0=a:=by simp [Addr.add]
   rw [ha] at h1
   obtain ⟨hb,hs⟩:=cell_lt h1
   obtain ⟨b,o,sp⟩:=a
   simp only at hb hs
   subst hs
   refine ⟨zs.take len,⟨b,o,0⟩,⟨by omega,fun m ρ i hi hρ=>?_,by simp [ints],fun _=>⟨hb,fun k hk=>?_⟩⟩⟩
   ·rw [hlz]
    have:=VQ.slice (q:=false) (n:=m) (ρ:=ρ) i 0 len len cap hl hi
    rw [hρ] at this
    simpa using this
   ·have hk':k<len:=by
     simp only [ints,List.length_map] at hk
     omega
    have h2:=hcell k (by omega)
    have hk2:zs.getD k 0=(zs.take len)[k]'(by omega):=by
     rw [List.getElem_take,List.getD_eq_getElem?_getD,List.getElem?_eq_getElem (by omega)];rfl
    rw [add_cell,hk2] at h2
    simpa [ints] using h2
theorem readF_pairs {t e f:TypeId} {v:Value} {fuel:Nat} {x:DataW H×List MemPlace} (ht:P.underlying t=some (.slice e)) (he:P.underlying e=some (.array 2 f)) (hf0:P.underlying f=some (.int .i64)) (hce:P.cellsOf e=2) (hcf:P.cellsOf f=1)
  (hf:DataW.trod enc P W 0 (fun _=>true) true fuel t [v]=some x):∃ (l:List (Int×Int)) (pl:Pl),SlArg W v l.length 2 (pc l) pl:=by
 have hempty:∀ (a0:Option Addr) (cap:Nat),∃ (l:List (Int×Int)) (pl:Pl),SlArg W (.slice a0 0 cap) l.length 2 (pc l) pl:=fun a0 cap =>
  ⟨[],⟨0,0,0⟩,⟨by simp,fun m ρ i hi hρ=>.emptySlice _ _ _ _,rfl,fun h=>absurd rfl h⟩⟩
 rcases Deep.open_slice ht hf with ⟨hcs,-⟩|⟨a,len,cap,m,n,D,Pl,hcs,-,hl,hm,hmm,-,hi⟩
 ·cases hcs;exact hempty _ _
 ·cases hcs
  simp only [if_true] at hmm
  by_cases h0:len=0
  ·subst h0;exact hempty _ _
  ·have each:∀ i<len,∃ q:Int×Int,W.cell? (a.add (i*2))=some (.int .i64 q.1)∧W.cell? ((a.add (i*2)).add 1)=some (.int .i64 q.2):=fun i hil=>by
    obtain ⟨cs,hc,htr⟩:=hi i (by omega)
    rw [hce] at hc
    obtain ⟨_,hcl,hat⟩:=World.cells?_some hc
    match cs,hcl with
    |[c0,c1],_ =>
     obtain ⟨zs,m',_,_,_,hlen2,hg2⟩:=DataW.trod_array he htr
     match zs,hlen2 with
     |[z0,z1],_ =>
      have q0:=hg2 0 (by omega)
      have q1:=hg2 1 (by omega)
      simp only [hcf,List.getElem?_cons_zero,List.getElem?_cons_succ] at q0 q1
      obtain ⟨n0,e0,_,w0⟩:=DataW.trod_int hf0 q0
      obtain ⟨n1,e1,_,w1⟩:=DataW.trod_int hf0 q1
      cases e0;cases e1
      have g0:=hat 0 (by omega)
      have g1:=hat 1 (by omega)
      have ha:(a.add (i*2)).add 0=a.add (i*2):=by simp [Addr.add]
      rw [ha] at g0
      exact ⟨(n0,n1),by simpa using g0,by simpa using g1⟩
   obtain ⟨l,hll,hq⟩:=listP_of each
   have h1:=(hq 0 (by omega)).1
   have ha:a.add (0*2)=a:=by simp [Addr.add]
   rw [ha] at h1
   obtain ⟨hb,hs⟩:=cell_lt h1
   obtain ⟨b,o,sp⟩:=a
   simp only at hb hs
   subst hs
   have hm':len≤9223372036854775807:=by unfold maxLen at hm;omega
   have hlen:=pc_len l
   refine ⟨l,⟨b,o,0⟩,⟨by omega,fun m ρ i hi hρ=>?_,by omega,fun _=>⟨hb,fun k hk=>?_⟩⟩⟩
   ·rw [hll]
    have:=VQ.slice (q:=false) (n:=m) (ρ:=ρ) i 0 len len cap hl hi
    rw [hρ] at this
    simpa using this
   ·obtain ⟨g0,g1⟩:=hq (k / 2) (by omega)
    simp only [add_cell] at g0 g1
    have h3:=List.getElem?_eq_getElem (l:=pc l) (i:=k) hk
    rcases (show k % 2=0∨k % 2=1 by omega) with h2|h2
    ·have hg:=pc_at0 (f:=l) (i:=k / 2) (by omega)
     rw [show k / 2*2=k by omega,h3] at hg
     rw [show o+k=o+k / 2*2 by omega,g0];exact hg.symm
    ·have hg:=pc_at1 (f:=l) (i:=k / 2) (by omega)
     rw [show k / 2*2+1=k by omega,h3] at hg
     rw [show o+k=o+k / 2*2+1 by omega,g1];exact hg.symm
end
structure ShArg (W:World) (v:Value) (S:Shp) (a b c:Pl):Prop where
 fit:S.fit
 rel:∀ (m:Nat) (ρ:Rho) (i j k:Nat),i<m→j<m→k<m→ρ i=a→ρ j=b→ρ k=c→VRel m ρ (shV i j k S) v
 d:∀ (ρ:Rho) (i m:Nat),ρ i=a→ints S.d ≠ []→(ρ i).b<W.heap.size∧∀ (k:Nat) (hk:k<(ints S.d).length),∃ v',W.cell? ⟨(ρ i).b,(ρ i).o+k,none⟩=some v'∧VRel m ρ (ints S.d)[k] v'
 f:∀ (ρ:Rho) (i m:Nat),ρ i=b→pc S.f ≠ []→(ρ i).b<W.heap.size∧∀ (k:Nat) (hk:k<(pc S.f).length),∃ v',W.cell? ⟨(ρ i).b,(ρ i).o+k,none⟩=some v'∧VRel m ρ (pc S.f)[k] v'
 s:∀ (ρ:Rho) (i m:Nat),ρ i=c→ints S.s ≠ []→(ρ i).b<W.heap.size∧∀ (k:Nat) (hk:k<(ints S.s).length),∃ v',W.cell? ⟨(ρ i).b,(ρ i).o+k,none⟩=some v'∧VRel m ρ (ints S.s)[k] v'
set_option maxRecDepth 100000 in
theorem read_shop {H:Type} {enc:TypeId×Value→H} {W:World} {b0:Nat} {v:Value} {d:DataW H} {p:List MemPlace} (hval:Value.okWide Try.prog W .any b0 26 v) (h:DataW.Trod enc Try.prog W 0 (fun _=>true) true 26 v d p) :
  ∃ (S:Shp) (a b c:Pl),ShArg W v S a b c:=by
 obtain ⟨cs,rfl,hsz⟩:=okWide_struct Try.underlying26 hval
 have k26:Try.prog.cellsOf 26=3:=by kernel_rfl
 have hsz3:cs.size=3:=hsz.trans k26
 obtain ⟨l⟩:=cs
 match l,hsz3 with
 |[c0,c1,c2],_ =>
  obtain ⟨fuel,hf⟩:=h
  obtain ⟨xs,n,_,_,_,hlen,hg⟩:=DataW.trod_struct Try.underlying26 hf
  match xs,hlen with
  |[y0,y1,y2],_ =>
   have k70:Try.prog.cellsOf 70=2:=by kernel_rfl
   have k3:Try.prog.cellsOf 3=1:=by kernel_rfl
   have k2:Try.prog.cellsOf 2=1:=by kernel_rfl
   have g0:=hg 0 _ rfl
   have g1:=hg 1 _ rfl
   have g2:=hg 2 _ rfl
   simp only [Value.cells,List.getElem?_cons_zero,List.getElem?_cons_succ] at g0 g1 g2
   obtain ⟨sd,a,hd⟩:=readF_ints Try.underlying22 Try.underlying2 k2 g0
   obtain ⟨sf,b,hf'⟩:=readF_pairs Try.underlying23 Try.underlying70 Try.underlying3 k70 k3 g1
   obtain ⟨ss,c,hs⟩:=readF_ints Try.underlying24 Try.underlying3 k3 g2
   refine ⟨⟨sd,sf,ss⟩,a,b,c,⟨hd.len,hf'.len,hs.len⟩,fun m ρ i j k hi hj hk h1 h2 h3=>?_,fun ρ i m hi hne=>hd.hro (ints_plain sd) ρ i m hi hne,fun ρ i m hi hne=>hf'.hro (pc_plain sf) ρ i m hi hne,fun ρ i m hi hne=>hs.hro (ints_plain ss) ρ i m hi hne⟩
   refine .agg _ _ rfl fun r hr _=>?_
   match r,hr with
   |0,_=>exact hd.rel m ρ i hi h1
   |1,_=>exact hf'.rel m ρ j hj h2
   |2,_=>exact hs.rel m ρ k hk h3
end Go.Proofs.Ytomioaiojidnbaa
