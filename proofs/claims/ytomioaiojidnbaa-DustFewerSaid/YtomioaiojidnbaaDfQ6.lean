/- Parts of lists in memory, and a cell that holds a shop. -/
import Derived.Test.YtomioaiojidnbaaDfQ5
import Derived.Test.YtomioaiojidnbaaDfQ1
namespace Go.AH.Dust
open Go Go.AH
def u8s (l:List Int):List Value:=l.map (.int .u8)
end Go.AH.Dust
namespace Go.Proofs.Ytomioaiojidnbaa
open Go Go.AH
attribute [local irreducible] dO dI dM kK iM gK iC dV iJ dQ iK iE
set_option maxRecDepth 100000
set_option maxHeartbeats 1000000
open Go.AH.Dust
end Go.Proofs.Ytomioaiojidnbaa
namespace Go.AH.Dust
open Go Go.AH
end Go.AH.Dust
namespace Go.Proofs.Ytomioaiojidnbaa
open Go Go.AH
attribute [local irreducible] dO dI dM kK iM gK iC dV iJ dQ iK iE
set_option maxRecDepth 100000
set_option maxHeartbeats 1000000
open Go.AH.Dust
end Go.Proofs.Ytomioaiojidnbaa
namespace Go.AH.Dust
open Go Go.AH
noncomputable def rdB (S:Shp) (l:List Int):Bool:=decide (Td S l=0∧(gi l (l.length - 1),gi l 0) ∈ S.f∧∀ i,i<l.length→gi l i ∉ l.take i)
end Go.AH.Dust
namespace Go.Proofs.Ytomioaiojidnbaa
open Go Go.AH
attribute [local irreducible] dO dI dM kK iM gK iC dV iJ dQ iK iE
set_option maxRecDepth 100000
set_option maxHeartbeats 1000000
open Go.AH.Dust
end Go.Proofs.Ytomioaiojidnbaa
namespace Go.AH.Dust
open Go Go.AH
def wO (S:Shp) (i h:Nat):Int:=wyB S (bO i) h i
def rmS (S:Shp) (i h:Nat) (st:(Int×Int)×Bool):(Int×Int)×Bool :=
 if 0≤wO S i h then (if st.2=false∨st.1.1*sU (wO S i h).toNat h<sZ (wO S i h).toNat h*st.1.2 then (sZ (wO S i h).toNat h,sU (wO S i h).toNat h) else st.1,true) else st
def rmH (S:Shp) (i:Nat) (st:(Int×Int)×Bool):Nat→(Int×Int)×Bool
 |0=>st
 |h+1=>rmS S i (h+1) (rmH S i st h)
def rmL (S:Shp) (L:List Int):Nat→(Int×Int)×Bool
 |0=>((0,1),false)
 |j+1=>rmH S (gi L j).toNat (rmL S L j) S.d.length
section
variable {S:Shp}
structure RmP (S:Shp) (C:Nat→Nat→Prop) (st:(Int×Int)×Bool):Prop where
 no:st.2=false→st.1=(0,1)∧∀ i h,C i h→wO S i h<0
 red:st.2=true→Red st.1.1 st.1.2
 att:st.2=true→∃ i h,C i h∧0≤wO S i h∧st.1.1*(h:Int)=wO S i h*st.1.2
 le:st.2=true→∀ i h,C i h→0≤wO S i h→wO S i h*st.1.2≤st.1.1*(h:Int)
theorem RmP.congr {C C':Nat→Nat→Prop} {st:(Int×Int)×Bool} (h:RmP S C st) (hc:∀ i h,C i h↔C' i h):RmP S C' st :=
 ⟨fun h1=>⟨(h.no h1).1,fun i k hk=>(h.no h1).2 i k ((hc i k).2 hk)⟩,h.red,fun h1=>let ⟨i,k,a,b⟩:=h.att h1;⟨i,k,(hc i k).1 a,b⟩,fun h1 i k hk=>h.le h1 i k ((hc i k).2 hk)⟩
theorem rm_step {C:Nat→Nat→Prop} {st:(Int×Int)×Bool} (hp:RmP S C st) {i h:Nat} (hh:0<h):RmP S (fun i' h'=>C i' h'∨(i'=i∧h'=h)) (rmS S i h st):=by
 unfold rmS
 by_cases hw:0≤wO S i h
 ·rw [if_pos hw]
  obtain ⟨r1,r2,r3,r4⟩:=yJ (m:=(wO S i h).toNat) hh
  have ew:(((wO S i h).toNat:Nat):Int)=wO S i h:=by omega
  rw [ew] at r2
  generalize sZ (wO S i h).toNat h=a at *
  generalize sU (wO S i h).toNat h=b at *
  have hb:=r1.b0
  cases hf:st.2 with
  |false =>
   rw [if_pos (.inl rfl)]
   obtain ⟨_,n2⟩:=hp.no hf
   refine ⟨fun h=>(by cases h),fun _=>r1,fun _=>⟨i,h,.inr ⟨rfl,rfl⟩,hw,r2⟩,fun _ i' h' hc h0=>?_⟩
   rcases hc with hc|⟨rfl,rfl⟩
   ·have:=n2 i' h' hc;omega
   ·simp only;omega
  |true =>
   have s1:=hp.red hf
   have hd:=s1.b0
   by_cases hl:st.1.1*b<a*st.1.2
   ·rw [if_pos (.inr hl)]
    refine ⟨fun h=>(by cases h),fun _=>r1,fun _=>⟨i,h,.inr ⟨rfl,rfl⟩,hw,r2⟩,fun _ i' h' hc h0=>?_⟩
    rcases hc with hc|⟨rfl,rfl⟩
    ·exact xO (d:=st.1.2) hd (by omega) (Int.le_of_lt hb) (hp.le hf i' h' hc h0) (Int.le_of_lt hl)
    ·simp only;omega
   ·rw [if_neg (by simp [hl])]
    refine ⟨fun h=>(by cases h),fun _=>s1,fun _=>?_,fun _ i' h' hc h0=>?_⟩
    ·obtain ⟨i',h',c1,c2⟩:=hp.att hf
     exact ⟨i',h',.inl c1,c2⟩
    ·rcases hc with hc|⟨rfl,rfl⟩
     ·exact hp.le hf i' h' hc h0
     ·exact xO (c:=a) (d:=b) hb (by omega) (Int.le_of_lt hd) (by rw [r2];exact Int.le_refl _) (Int.not_lt.1 hl)
 ·rw [if_neg hw]
  refine ⟨fun h1=>⟨(hp.no h1).1,fun i' h' hc=>?_⟩,hp.red,fun h1=>?_,fun h1 i' h' hc h0=>?_⟩
  ·rcases hc with hc|⟨rfl,rfl⟩
   ·exact (hp.no h1).2 i' h' hc
   ·omega
  ·obtain ⟨i',h',c1,c2⟩:=hp.att h1
   exact ⟨i',h',.inl c1,c2⟩
  ·rcases hc with hc|⟨rfl,rfl⟩
   ·exact hp.le h1 i' h' hc h0
   ·exact absurd h0 hw
theorem Qr {C:Nat→Nat→Prop} {st:(Int×Int)×Bool} (hp:RmP S C st) {i:Nat}:∀ h,RmP S (fun i' h'=>C i' h'∨(i'=i∧1≤h'∧h'≤h)) (rmH S i st h)
 |0=>hp.congr fun i' h'=>⟨.inl,fun x=>x.elim id fun x=>by omega⟩
 |h+1=>by
  refine (rm_step (Qr hp h) (i:=i) (h:=h+1) (by omega)).congr fun i' h'=>?_
  constructor
  ·rintro ((h1|h1)|h1)
   ·exact .inl h1
   ·exact .inr (by omega)
   ·exact .inr (by omega)
  ·rintro (h1|h1)
   ·exact .inl (.inl h1)
   ·by_cases hk:h'=h+1
    ·exact .inr (by omega)
    ·exact .inl (.inr (by omega))
theorem Qs {L:List Int}:∀ j,RmP S (fun i' h'=>(∃ q,q<j∧i'=(gi L q).toNat)∧1≤h'∧h'≤S.d.length) (rmL S L j)
 |0=>⟨fun _=>⟨rfl,fun i h ⟨⟨q,hq,_⟩,_⟩=>by omega⟩,fun h=>by simp [rmL] at h,fun h=>by simp [rmL] at h,fun h=>by simp [rmL] at h⟩
 |j+1=>by
  refine (Qr (Qs (L:=L) j) (i:=(gi L j).toNat) S.d.length).congr fun i' h'=>?_
  constructor
  ·rintro (⟨⟨q,q1,q2⟩,h1⟩|⟨h1,h2⟩)
   ·exact ⟨⟨q,by omega,q2⟩,h1⟩
   ·exact ⟨⟨j,by omega,h1⟩,h2⟩
  ·rintro ⟨⟨q,q1,q2⟩,h1⟩
   by_cases hq:q=j
   ·subst hq;exact .inr ⟨q2,h1⟩
   ·exact .inl ⟨⟨q,by omega,q2⟩,h1⟩
def RmB (st:(Int×Int)×Bool):Prop:=0≤st.1.1∧st.1.1≤10001∧0≤st.1.2∧st.1.2≤10
theorem J6 (hS:S.ok) {i h:Nat} (hi:i<S.d.length):-1≤wO S i h∧wO S i h≤1000*(h:Int):=oZ hS (fun v _=>PV i v) hi
theorem rmS_bound (hS:S.ok) {st:(Int×Int)×Bool} (hb:RmB st) {i h:Nat} (hi:i<S.d.length) (h0:0<h) (hh:h≤10):RmB (rmS S i h st):=by
 unfold rmS
 split
 ·rename_i hw
  obtain ⟨r1,r2,r3,r4⟩:=yJ (m:=(wO S i h).toNat) h0
  have r5:=r1.a0
  have r6:=r1.b0
  have hb2:=J6 hS (h:=h) hi
  split
  ·unfold RmB;refine ⟨r5,?_,?_,?_⟩ <;> simp only <;> omega
  ·exact hb
 ·exact hb
theorem AQ (hS:S.ok) {st:(Int×Int)×Bool} (hb:RmB st) {i:Nat} (hi:i<S.d.length):∀ {h:Nat},h≤10→RmB (rmH S i st h)
 |0,_=>hb
 |h+1,hh=>rmS_bound hS (AQ hS hb hi (h:=h) (by omega)) hi (by omega) hh
theorem Gg (hS:S.ok) {L:List Int} (hL:∀ j,j<L.length→(gi L j).toNat<S.d.length):∀ {j:Nat},j≤L.length→RmB (rmL S L j)
 |0,_=>by simp [RmB,rmL]
 |j+1,hj=>AQ hS (Gg hS hL (j:=j) (by omega)) (hL j (by omega)) hS.n10
theorem rm_mean (h0:dG S=0):if (rmL S (fO S) (fO S).length).2=true then jc S (rmL S (fO S) (fO S).length).1.1 (rmL S (fO S) (fO S).length).1.2∧Red (rmL S (fO S) (fO S).length).1.1 (rmL S (fO S) (fO S).length).1.2
  else (rmL S (fO S) (fO S).length).1=(0,1)∧¬ ∃ a b,jc S a b:=by
 have hS:=fB h0
 have hp:=Qs (S:=S) (L:=fO S) (fO S).length
 generalize rmL S (fO S) (fO S).length=st at *
 have hC:∀ {p:Nat→Int} {h:Nat},h≤S.d.length→Cyc S p h→((∃ q,q<(fO S).length∧(p 0).toNat=(gi (fO S) q).toNat)∧1≤h∧h≤S.d.length)∧sumW (cS S) p h≤wO S (p 0).toNat h∧0≤wO S (p 0).toNat h:=fun {p h} hh hc=>by
  have hw:=lY hS hc.rch
  have w1:=hw.1;have w2:=hw.2
  have e:(((p 0).toNat:Nat):Int)=p 0:=by omega
  obtain ⟨q,q1,q2⟩:=yL h0 (show (p 0).toNat<S.d.length by omega) (lQ.2 (by rw [e];exact hc.rch))
  have hg:=Aw hS (base:=bO (p 0).toNat) (p:=p) (by unfold bO;rw [if_pos rfl]) hc.wk
  rw [hc.cl] at hg
  exact ⟨⟨⟨q,q1,by rw [q2,Int.toNat_natCast]⟩,hc.h0,hh⟩,hg⟩
 cases hf:st.2 with
 |true =>
  rw [if_pos rfl]
  have hr:=hp.red hf
  have hb:=hr.b0
  refine ⟨⟨hb,fun p h hc=>FD hS (fun p h hh hc=>?_) h p hc,?_⟩,hr⟩
  ·obtain ⟨c1,c2,c3⟩:=hC hh hc
   have h1:=hp.le hf _ _ c1 c3
   have h2:=Int.mul_le_mul_of_nonneg_left c2 (Int.le_of_lt hb)
   rw [Int.mul_comm st.1.2 (wO S (p 0).toNat h)] at h2
   omega
  ·obtain ⟨i,h,⟨⟨q,q1,q2⟩,c2,c3⟩,c4,c5⟩:=hp.att hf
   obtain ⟨m,m1,m2,m3⟩:=xQ h0 q1
   obtain rfl:i=m:=by rw [q2,m1,Int.toNat_natCast]
   obtain ⟨p,p1,p2,p3,p4,p5⟩:=um hS (fun v _=>PV i v) m2 c4
   have p3a:=p3.1
   have e:(p 0).toNat=i:=by
    unfold bO at p4
    by_cases hx:(p 0).toNat=i
    ·exact hx
    ·rw [if_neg hx] at p4;omega
   have e2:p 0=(i:Int):=by omega
   refine ⟨p,h,⟨by omega,p1,by rw [p2,e2],by rw [e2];exact lQ.1 m3⟩,?_⟩
   rw [p5]
   unfold wO at c5
   rw [c5,Int.mul_comm]
 |false =>
  rw [if_neg (by simp)]
  obtain ⟨n1,n2⟩:=hp.no hf
  refine ⟨n1,?_⟩
  rintro ⟨a,b,hM⟩
  obtain ⟨v,v1,v2⟩:=(Nl hS).1 ⟨a,b,hM⟩
  obtain ⟨p,p1,p2,p3,p4,p5⟩:=um hS (fun v _=>tX S v) v1 v2
  obtain ⟨i,j,h1,h2,h3⟩:=oW hS p1 p3 (Nat.le_refl _)
  have hc:=Cyc.part p1 ((wM p3).1 p4) h1 h2 h3
  obtain ⟨c1,c2,c3⟩:=hC (show j - i≤S.d.length by omega) hc
  have:=n2 _ _ c1
  omega
theorem rm_is (h0:dG S=0):rmL S (fO S) (fO S).length=if mnE S=0 then ((mnA S,mnB S),true) else ((0,1),false):=by
 have h:=rm_mean h0
 cases hf:(rmL S (fO S) (fO S).length).2 with
 |true =>
  rw [if_pos hf] at h
  have hE:mnE S=0:=Ii.2 ⟨h0,_,_,h.1⟩
  obtain ⟨e1,e2⟩:=h.1.red (EH hE).mean h.2 (EH hE).red
  rw [if_pos hE]
  exact Prod.ext (Prod.ext e1 e2) hf
 |false =>
  rw [if_neg (by rw [hf];simp)] at h
  have hE:mnE S ≠ 0:=fun hx=>h.2 (Ii.1 hx).2
  rw [if_neg hE]
  exact Prod.ext h.1 hf
end
end Go.AH.Dust
namespace Go.AH.Dust
open Go Go.AH
theorem TR {n:Nat} (hn:6≤n) (S:Shp) (L:List Int) (a b:Int) {r:Heap} (hr:eX n r):eX n ([.ro (ints S.d),.ro (pc S.f),.ro (ints S.s),.rw (shL 0 1 2 S),.rw [.int .i64 0,.int .i64 0],.rw (ints L),.rw [.int .i64 a,.int .i64 b]]++r) :=
 ⟨ay (aK _),ay (dJ _),ay (aK _),iq (by omega) (by omega) (by omega),ay rfl,ay (aK _),ay rfl,hr⟩
theorem Gh (S:Shp) (L:List Int) (a b:Int) {n:Nat} (hn:6≤n):eX n [.ro (ints S.d),.ro (pc S.f),.ro (ints S.s),.rw (shL 0 1 2 S),.rw [.int .i64 0,.int .i64 0],.rw (ints L),.rw [.int .i64 a,.int .i64 b]]:=by
 have:=TR hn S L a b (r:=[]) trivial
 simpa using this
theorem hc_n8 (S:Shp) (L:List Int) (a b:Int) (f:Nat→Int) {n:Nat} (hn:6≤n):eX n [.ro (ints S.d),.ro (pc S.f),.ro (ints S.s),.rw (shL 0 1 2 S),.rw [.int .i64 0,.int .i64 0],.rw (ints L),.rw [.int .i64 a,.int .i64 b],.rw (cl S.d.length f)]:=TR hn S L a b ⟨ay sV,trivial⟩
theorem wyF_bound {S:Shp} (hS:S.ok) {m:Nat→Int} {B:Int} (hB:0≤B) (hm:∀ i,i<S.d.length→m i≤B) {v k:Nat} (hk:k≤S.f.length):-1≤wyF S m v k∧wyF S m v k≤B+1000:=by
 rw [← HY (D:=fun _=>true) (fun _ _=>rfl)]
 exact AA hS hB hm hk
end Go.AH.Dust
namespace Go.Proofs.Ytomioaiojidnbaa
open Go Go.AH
attribute [local irreducible] dO dI dM kK iM gK iC dV iJ dQ iK iE
set_option maxRecDepth 100000
set_option maxHeartbeats 1000000
open Go.AH.Dust
theorem refMean_ok (S:Shp) (hS:S.fit) (h0:dG S=0):Ev Try.prog 36 [shV 0 1 2 S] S.hp (.tuple #[rtV (rmL S (fO S) (fO S).length).1.1 (rmL S (fO S) (fO S).length).1.2,.bool (rmL S (fO S) (fO S).length).2]) S.hp:=by
 have hok:=fB h0
 have n10:=hok.n10
 have f60:=hok.f60
 have n1:=hok.n1
 have hre:=refReached_ev (σ:=[.ro (ints S.d),.ro (pc S.f),.ro (ints S.s),.rw (shL 0 1 2 S),.rw [.int .i64 0,.int .i64 0]]) (S:=S) (x:=0) (y:=1) (z:=2) ⟨.inl rfl,.inl rfl,.inl rfl⟩ gW hS rfl
 have hrl:=Ec S S.d.length
 have hrl2:(fO S).length≤S.d.length:=by unfold fO;rw [if_pos h0];exact hrl
 have hL:∀ i,i<(fO S).length→∃ m:Nat,gi (fO S) i=(m:Int)∧m<S.d.length:=fun i hi=>by
  obtain ⟨m,m1,m2,_⟩:=xQ h0 hi;exact ⟨m,m1,m2⟩
 have hB:=fun j hj=>Gg hok (L:=fO S) (fun j hj=>by obtain ⟨m,m1,m2⟩:=hL j hj;rw [m1,Int.toNat_natCast];exact m2) (j:=j) hj
 rw [h0] at hre
 clear hrl
 generalize fO S=L at *
 refine aX 3 135 Try.func36 rfl rfl rfl rfl rfl ?_
 repeat' (first|(refine gU ?_;first|(refine aP ?_;refine st (au rfl) rfl rfl ?_)|(refine aI ?_;refine st (aA rfl) rfl rfl ?_)|(refine gFA ?_;refine st (aB rfl) rfl rfl ?_)|(refine aU ?_;first|refine st (ak rfl (by rfl)) rfl rfl ?_|refine st (aZ rfl (by rfl)) rfl rfl ?_)|(refine fK ?_;refine st (bK rfl) rfl rfl ?_)|(refine kP ?_;refine st (jh rfl rfl) rfl rfl ?_)|(refine uf ?_;refine st (jK (by rfl) rfl (by rfl)) rfl rfl ?_)|(refine fC ?_;refine st (bC rfl rfl rfl (by exact hre)) rfl rfl ?_)|(refine kD ?_;refine st (gI rfl) rfl rfl ?_)|(refine eP ?_;refine st (bQ rfl) rfl rfl ?_)|(refine cO ?_;refine stN (aJ rfl rfl rfl rfl (by rfl)) rfl ?_))|refine aS ?_|refine aj ?_|refine ah ?_|refine bg ?_|refine aO ?_)
 refine iD (ι:=Nat) (fun i=>[(1,.pointer (some ⟨3,0,none⟩)),(2,.pointer (some ⟨4,0,none⟩)),(4,sl 5 L.length),(6,.pointer (some ⟨6,0,none⟩)),(7,.bool (rmL S L i).2),(8,.int .i64 (S.d.length:Int)),(9,.int .i64 (i:Int))]) (fun i=>[.ro (ints S.d),.ro (pc S.f),.ro (ints S.s),.rw (shL 0 1 2 S),.rw [.int .i64 0,.int .i64 0],.rw (ints L),.rw [.int .i64 (rmL S L i).1.1,.int .i64 (rmL S L i).1.2]]) (fun i=>L.length - i) (fun i=>i≤L.length) 0 (by simp) (.same ⟨rfl,rfl,rfl,rfl,rfl,rfl,rfl,trivial⟩) (Nat.zero_le _) ?_
 clear hre
 intro i hi
 by_cases hil:i<L.length
 ·obtain ⟨m,m1,m2⟩:=hL i hil
  have hL1:rmL S L (i+1)=rmH S m (rmL S L i) S.d.length:=by rw [rmL,m1,Int.toNat_natCast]
  have hB1:=hB i hi
  clear hB hL
  generalize rmL S L i=sq at *
  have hcL:∀ σ':Heap,cZ (cu.ro (ints S.d)::.ro (pc S.f)::.ro (ints S.s)::.rw (shL 0 1 2 S)::.rw [.int .i64 0,.int .i64 0]::.rw (ints L)::.rw [.int .i64 (sq).1.1,.int .i64 (sq).1.2]::σ') 5 i=some (.int .i64 (m:Int)):=fun σ'=>by rw [← m1];exact gV hil
  repeat' (first|(refine gU ?_;first|(refine aP ?_;refine st (au rfl) rfl rfl ?_)|(refine aI ?_;refine st (aA rfl) rfl rfl ?_)|(refine bG ?_;refine st (aG rfl rfl rfl) rfl rfl ?_)|(refine fK ?_;refine st (bK rfl) rfl rfl ?_)|(refine Gm ?_;refine st (wu (by rfl) (by rfl) rfl rfl (by omega) (by omega) (by omega)) rfl rfl ?_))|refine aS ?_|refine aj ?_|refine ah ?_|refine bg ?_|refine aW ?_|refine aO ?_|refine aQ rfl ?_)
  refine iD (ι:=Nat) (fun v=>[(1,.pointer (some ⟨3,0,none⟩)),(2,.pointer (some ⟨4,0,none⟩)),(4,sl 5 L.length),(6,.pointer (some ⟨6,0,none⟩)),(7,.bool (sq).2),(8,.int .i64 (S.d.length:Int)),(9,.int .i64 (i:Int)),(10,sl 7 S.d.length),(11,.int .i64 (v:Int))])
   (fun v=>[.ro (ints S.d),.ro (pc S.f),.ro (ints S.s),.rw (shL 0 1 2 S),.rw [.int .i64 0,.int .i64 0],.rw (ints L),.rw [.int .i64 (sq).1.1,.int .i64 (sq).1.2],.rw (cl S.d.length (fun j=>if j<v then -1 else 0))]) (fun v=>S.d.length - v) (fun v=>v≤S.d.length) 0 (by simp)
   (bT.src [.ro (ints S.d),.ro (pc S.f),.ro (ints S.s),.rw (shL 0 1 2 S),.rw [.int .i64 0,.int .i64 0],.rw (ints L),.rw [.int .i64 (sq).1.1,.int .i64 (sq).1.2]] [.rw (cl S.d.length (fun j=>if j<0 then -1 else 0))] [7] (by simp) rfl (Gh S L _ _ (by simp)) rfl rfl ⟨dA (j:=7) rfl (.inl (by rw [show cl S.d.length (fun j=>if j<0 then -1 else 0)=cl S.d.length (fun _=>0) from rfl,← NJ];rfl)) sV,trivial⟩ (by (repeat' (first|exact trivial|refine ⟨bD rfl rfl,?_⟩|refine ⟨aV (m:=7) rfl (fun i hi=>aY hi) (by simp) (by first|rfl|exact bM rfl) rfl,?_⟩|refine ⟨⟨_,rfl,gu (by simp) rfl (Nat.le_refl _)⟩,?_⟩)))) (Nat.zero_le _) ?_
  intro v hv
  by_cases hvn:v<S.d.length
  ·have hput:putCells [.ro (ints S.d),.ro (pc S.f),.ro (ints S.s),.rw (shL 0 1 2 S),.rw [.int .i64 0,.int .i64 0],.rw (ints L),.rw [.int .i64 (sq).1.1,.int .i64 (sq).1.2],.rw (cl S.d.length (fun j=>if j<v then -1 else 0))] 7 v [.int .i64 (-1)]=some [.ro (ints S.d),.ro (pc S.f),.ro (ints S.s),.rw (shL 0 1 2 S),.rw [.int .i64 0,.int .i64 0],.rw (ints L),.rw [.int .i64 (sq).1.1,.int .i64 (sq).1.2],.rw (cl S.d.length (fun j=>if j<v+1 then -1 else 0))] :=
    sO (cs':=cl S.d.length (fun j=>if j<v+1 then -1 else 0)) rfl (by rw [wX];simp;omega) (by rw [wX];omega) (by
     rw [CB hvn]
     refine uU fun j _=>?_
     simp only [kF]
     split <;> split <;> first|rfl|(split <;> first|rfl|omega)|omega)
   repeat' (first|(refine gU ?_;first|(refine aP ?_;refine st (au rfl) rfl rfl ?_)|(refine aI ?_;refine st (aA rfl) rfl rfl ?_)|(refine iw ?_;refine st (dF rfl rfl (by omega)) rfl rfl ?_)|(refine bG ?_;refine st (aG rfl rfl rfl) rfl rfl ?_)|(refine gIA ?_;refine st (gJ rfl rfl (by omega)) rfl rfl ?_)|(refine cO ?_;refine stN (aJ rfl rfl rfl rfl (by exact hput)) rfl ?_))|refine aS ?_|refine aj ?_|refine ah ?_|refine bg ?_|refine fH ?_|refine aW ?_|refine aO ?_|refine aQ rfl ?_)
   exact ⟨rfl,v+1,by omega,by omega,.same ⟨rfl,rfl,rfl,rfl,rfl,rfl,rfl,rfl,rfl,trivial⟩⟩
  ·obtain rfl:v=S.d.length:=by omega
   have hput0:putCells [.ro (ints S.d),.ro (pc S.f),.ro (ints S.s),.rw (shL 0 1 2 S),.rw [.int .i64 0,.int .i64 0],.rw (ints L),.rw [.int .i64 (sq).1.1,.int .i64 (sq).1.2],.rw (cl S.d.length (fun j=>if j<S.d.length then -1 else 0))] 7 m [.int .i64 0]=some [.ro (ints S.d),.ro (pc S.f),.ro (ints S.s),.rw (shL 0 1 2 S),.rw [.int .i64 0,.int .i64 0],.rw (ints L),.rw [.int .i64 (sq).1.1,.int .i64 (sq).1.2],.rw (cl S.d.length (wyB S (bO m) 0))] :=
    sO (cs':=cl S.d.length (wyB S (bO m) 0)) rfl (by rw [wX];simp;omega) (by rw [wX];omega) (by
     rw [CB m2]
     refine uU fun j hj=>?_
     simp only [kF,wyB,bO]
     rw [if_pos hj])
   have hc1:∀ σ':Heap,cZ (cu.ro (ints S.d)::.ro (pc S.f)::.ro (ints S.s)::.rw (shL 0 1 2 S)::.rw [.int .i64 0,.int .i64 0]::.rw (ints L)::.rw [.int .i64 (sq).1.1,.int .i64 (sq).1.2]::σ') 5 i=some (.int .i64 (m:Int)):=hcL
   have hc2:∀ σ':Heap,cZ (cu.ro (ints S.d)::.ro (pc S.f)::.ro (ints S.s)::.rw (shL 0 1 2 S)::.rw [.int .i64 0,.int .i64 0]::.rw (ints L)::.rw [.int .i64 (sq).1.1,.int .i64 (sq).1.2]::σ') 5 (0+i*1)=some (.int .i64 (m:Int)):=fun σ'=>by rw [Nat.zero_add,Nat.mul_one];exact hcL σ'
   repeat' (first|(refine gU ?_;first|(refine aP ?_;refine st (au rfl) rfl rfl ?_)|(refine aI ?_;refine st (aA rfl) rfl rfl ?_)|(refine aU ?_;refine st (ak rfl (by exact hc1 _)) rfl rfl ?_)|(refine bG ?_;refine st (aG rfl rfl rfl) rfl rfl ?_)|(refine gIA ?_;refine st (gJ rfl rfl (by omega)) rfl rfl ?_)|(refine cO ?_;refine stN (aJ rfl rfl rfl rfl (by exact hput0)) rfl ?_))|refine aS ?_|refine aj ?_|refine ah ?_|refine bg ?_|refine jd ?_|refine eG rfl ?_|refine dW ?_|refine aO ?_|refine aN rfl ?_)
   refine iD (ι:=Nat) (fun h=>[(1,.pointer (some ⟨3,0,none⟩)),(2,.pointer (some ⟨4,0,none⟩)),(4,sl 5 L.length),(6,.pointer (some ⟨6,0,none⟩)),(7,.bool (rmH S m sq h).2),(8,.int .i64 (S.d.length:Int)),(9,.int .i64 (i:Int)),(10,sl 7 S.d.length),(12,.int .i64 ((h+1:Nat):Int))])
    (fun h=>[.ro (ints S.d),.ro (pc S.f),.ro (ints S.s),.rw (shL 0 1 2 S),.rw [.int .i64 0,.int .i64 0],.rw (ints L),.rw [.int .i64 (rmH S m sq h).1.1,.int .i64 (rmH S m sq h).1.2],.rw (cl S.d.length (wyB S (bO m) h))]) (fun h=>S.d.length - h) (fun h=>h≤S.d.length) 0 (by simp) (.same ⟨rfl,rfl,rfl,rfl,rfl,rfl,rfl,rfl,rfl,trivial⟩) (Nat.zero_le _) ?_
   clear hv hvn hput0 hc1 hc2
   intro h hh
   have hBh:=AQ hok hB1 m2 (h:=h) (by omega)
   have hhs:rmH S m sq (h+1)=rmS S m (h+1) (rmH S m sq h):=rfl
   by_cases hhn:h<S.d.length
   ·generalize rmH S m sq h=sh at *
    have hwb:=fun v (hv:v<S.d.length)=>oZ hok (fun v _=>PV m v) (h:=h) hv
    have hWn:wyB S (bO m) (h+1)=fun v=>wyF S (wyB S (bO m) h) v S.f.length:=rfl
    have hWo:wO S m (h+1)=wyF S (wyB S (bO m) h) m S.f.length:=rfl
    have hfb:=fun v k (hk:k≤S.f.length)=>wyF_bound hok (m:=wyB S (bO m) h) (B:=1000*(h:Int)) (v:=v) (by omega) (fun i hi=>(hwb i hi).2) hk
    repeat' (first|(refine gU ?_;first|(refine aP ?_;refine st (au rfl) rfl rfl ?_)|(refine aI ?_;refine st (aA rfl) rfl rfl ?_)|(refine bG ?_;refine st (aG rfl rfl rfl) rfl rfl ?_)|(refine Gm ?_;refine st (wu (by rfl) (by rfl) rfl rfl (by omega) (by omega) (by omega)) rfl rfl ?_))|refine aS ?_|refine aj ?_|refine ah ?_|refine bg ?_|refine aW ?_|refine aO ?_|refine aQ rfl ?_)
    refine iD (ι:=Nat) (fun v=>[(1,.pointer (some ⟨3,0,none⟩)),(2,.pointer (some ⟨4,0,none⟩)),(4,sl 5 L.length),(6,.pointer (some ⟨6,0,none⟩)),(7,.bool (sh).2),(8,.int .i64 (S.d.length:Int)),(9,.int .i64 (i:Int)),(10,sl 7 S.d.length),(12,.int .i64 ((h+1:Nat):Int)),(13,sl 8 S.d.length),(14,.int .i64 (v:Int))])
     (fun v=>[.ro (ints S.d),.ro (pc S.f),.ro (ints S.s),.rw (shL 0 1 2 S),.rw [.int .i64 0,.int .i64 0],.rw (ints L),.rw [.int .i64 (sh).1.1,.int .i64 (sh).1.2],.rw (cl S.d.length (wyB S (bO m) h)),.rw (cl S.d.length (fun j=>if j<v then -1 else 0))]) (fun v=>S.d.length - v) (fun v=>v≤S.d.length) 0 (by simp)
     (bT.src [.ro (ints S.d),.ro (pc S.f),.ro (ints S.s),.rw (shL 0 1 2 S),.rw [.int .i64 0,.int .i64 0],.rw (ints L),.rw [.int .i64 (sh).1.1,.int .i64 (sh).1.2],.rw (cl S.d.length (wyB S (bO m) h))] [.rw (cl S.d.length (fun j=>if j<0 then -1 else 0))] [8] (by simp) rfl (hc_n8 S L _ _ _ (by simp)) rfl rfl ⟨dA (j:=8) rfl (.inl (by rw [show cl S.d.length (fun j=>if j<0 then -1 else 0)=cl S.d.length (fun _=>0) from rfl,← NJ];rfl)) sV,trivial⟩ (by (repeat' (first|exact trivial|refine ⟨bD rfl rfl,?_⟩|refine ⟨aV (m:=8) rfl (fun i hi=>aY hi) (by simp) (by first|rfl|exact bM rfl) rfl,?_⟩|refine ⟨⟨_,rfl,gu (by simp) rfl (Nat.le_refl _)⟩,?_⟩)))) (Nat.zero_le _) ?_
    intro v hv
    by_cases hvn:v<S.d.length
    ·have hput:putCells [.ro (ints S.d),.ro (pc S.f),.ro (ints S.s),.rw (shL 0 1 2 S),.rw [.int .i64 0,.int .i64 0],.rw (ints L),.rw [.int .i64 (sh).1.1,.int .i64 (sh).1.2],.rw (cl S.d.length (wyB S (bO m) h)),.rw (cl S.d.length (fun j=>if j<v then -1 else 0))] 8 v [.int .i64 (-1)]=some [.ro (ints S.d),.ro (pc S.f),.ro (ints S.s),.rw (shL 0 1 2 S),.rw [.int .i64 0,.int .i64 0],.rw (ints L),.rw [.int .i64 (sh).1.1,.int .i64 (sh).1.2],.rw (cl S.d.length (wyB S (bO m) h)),.rw (cl S.d.length (fun j=>if j<v+1 then -1 else 0))] :=
      sO (cs':=cl S.d.length (fun j=>if j<v+1 then -1 else 0)) rfl (by rw [wX];simp;omega) (by rw [wX];omega) (by
       rw [CB hvn]
       refine uU fun j _=>?_
       simp only [kF]
       split <;> split <;> first|rfl|(split <;> first|rfl|omega)|omega)
     clear hfb hwb
     repeat' (first|(refine gU ?_;first|(refine aP ?_;refine st (au rfl) rfl rfl ?_)|(refine aI ?_;refine st (aA rfl) rfl rfl ?_)|(refine iw ?_;refine st (dF rfl rfl (by omega)) rfl rfl ?_)|(refine bG ?_;refine st (aG rfl rfl rfl) rfl rfl ?_)|(refine gIA ?_;refine st (gJ rfl rfl (by omega)) rfl rfl ?_)|(refine cO ?_;refine stN (aJ rfl rfl rfl rfl (by exact hput)) rfl ?_))|refine aS ?_|refine aj ?_|refine ah ?_|refine bg ?_|refine fH ?_|refine aW ?_|refine aO ?_|refine aQ rfl ?_)
     exact ⟨rfl,v+1,by omega,by omega,.same ⟨rfl,rfl,rfl,rfl,rfl,rfl,rfl,rfl,rfl,rfl,rfl,trivial⟩⟩
    ·obtain rfl:v=S.d.length:=by omega
     rw [show cl S.d.length (fun j=>if j<S.d.length then -1 else 0)=cl S.d.length (fun j=>wyF S (wyB S (bO m) h) j 0) from uU fun j hj=>by rw [if_pos hj];rfl]
     repeat' (first|(refine gU ?_;first|(refine aP ?_;refine st (au rfl) rfl rfl ?_)|(refine aI ?_;refine st (aA rfl) rfl rfl ?_)|(refine bG ?_;refine st (aG rfl rfl rfl) rfl rfl ?_))|refine aS ?_|refine aj ?_|refine ah ?_|refine bg ?_|refine jd ?_|refine eG rfl ?_|refine dW ?_|refine aO ?_|refine aN rfl ?_)
     refine iD (ι:=Nat) (fun k=>[(1,.pointer (some ⟨3,0,none⟩)),(2,.pointer (some ⟨4,0,none⟩)),(4,sl 5 L.length),(6,.pointer (some ⟨6,0,none⟩)),(7,.bool (sh).2),(8,.int .i64 (S.d.length:Int)),(9,.int .i64 (i:Int)),(10,sl 7 S.d.length),(12,.int .i64 ((h+1:Nat):Int)),(13,sl 8 S.d.length),(15,.int .i64 (k:Int))])
      (fun k=>[.ro (ints S.d),.ro (pc S.f),.ro (ints S.s),.rw (shL 0 1 2 S),.rw [.int .i64 0,.int .i64 0],.rw (ints L),.rw [.int .i64 (sh).1.1,.int .i64 (sh).1.2],.rw (cl S.d.length (wyB S (bO m) h)),.rw (cl S.d.length (fun j=>wyF S (wyB S (bO m) h) j k))]) (fun k=>S.f.length - k) (fun k=>k≤S.f.length) 0 (by simp)
      (.same ⟨rfl,rfl,rfl,rfl,rfl,rfl,rfl,rfl,rfl,rfl,rfl,trivial⟩) (Nat.zero_le _) ?_
     clear hv hvn
     intro k hk
     by_cases hkl:k<S.f.length
     ·obtain ⟨hw1,hw2,-⟩:=hok.f k hkl
      have ha1:=hw1.1;have ha2:=hw1.2;have hb1:=hw2.1;have hb2:=hw2.2
      have hc6:∀ r,cZ [.ro (ints S.d),.ro (pc S.f),.ro (ints S.s),.rw (shL 0 1 2 S),.rw [.int .i64 0,.int .i64 0],.rw (ints L),.rw [.int .i64 (sh).1.1,.int .i64 (sh).1.2],.rw (cl S.d.length (wyB S (bO m) h)),.rw r] 1 (0+k*2+0*1)=some (.int .i64 (gf S.f k).1):=fun r=>G6 (.inl rfl) hkl
      have hc7:∀ r,cZ [.ro (ints S.d),.ro (pc S.f),.ro (ints S.s),.rw (shL 0 1 2 S),.rw [.int .i64 0,.int .i64 0],.rw (ints L),.rw [.int .i64 (sh).1.1,.int .i64 (sh).1.2],.rw (cl S.d.length (wyB S (bO m) h)),.rw r] 1 (0+k*2+1*1)=some (.int .i64 (gf S.f k).2):=fun r=>G7 (.inl rfl) hkl
      have hc3:∀ r o,o=(gf S.f k).1.toNat→cZ [.ro (ints S.d),.ro (pc S.f),.ro (ints S.s),.rw (shL 0 1 2 S),.rw [.int .i64 0,.int .i64 0],.rw (ints L),.rw [.int .i64 (sh).1.1,.int .i64 (sh).1.2],.rw (cl S.d.length (wyB S (bO m) h)),.rw r] 7 o=some (.int .i64 (wyB S (bO m) h (gf S.f k).1.toNat)):=fun r o ho=>by subst ho;exact Lm (by omega)
      have hc4:∀ r o,o=(gf S.f k).2.toNat→cZ [.ro (ints S.d),.ro (pc S.f),.ro (ints S.s),.rw (shL 0 1 2 S),.rw [.int .i64 0,.int .i64 0],.rw (ints L),.rw [.int .i64 (sh).1.1,.int .i64 (sh).1.2],.rw (cl S.d.length (wyB S (bO m) h)),.rw (cl S.d.length r)] 8 o=some (.int .i64 (r (gf S.f k).2.toNat)):=fun r o ho=>by subst ho;exact Lm (by omega)
      have hc5:∀ r o,o=(gf S.f k).1.toNat→cZ [.ro (ints S.d),.ro (pc S.f),.ro (ints S.s),.rw (shL 0 1 2 S),.rw [.int .i64 0,.int .i64 0],.rw (ints L),.rw [.int .i64 (sh).1.1,.int .i64 (sh).1.2],.rw (cl S.d.length (wyB S (bO m) h)),.rw r] 0 o=some (.int .i64 (gi S.d (gf S.f k).1.toNat)):=fun r o ho=>by subst ho;exact gV (by omega)
      have hmb:=hwb (gf S.f k).1.toNat (by omega)
      have hda:=hok.d (gf S.f k).1.toNat (by omega)
      have hmf:=hfb (gf S.f k).2.toNat k hk
      have hput2:∀ v o,o=(gf S.f k).2.toNat→v=max (wyF S (wyB S (bO m) h) (gf S.f k).2.toNat k) (wyB S (bO m) h (gf S.f k).1.toNat+gi S.d (gf S.f k).1.toNat)→0≤wyB S (bO m) h (gf S.f k).1.toNat→putCells [.ro (ints S.d),.ro (pc S.f),.ro (ints S.s),.rw (shL 0 1 2 S),.rw [.int .i64 0,.int .i64 0],.rw (ints L),.rw [.int .i64 (sh).1.1,.int .i64 (sh).1.2],.rw (cl S.d.length (wyB S (bO m) h)),.rw (cl S.d.length (fun j=>wyF S (wyB S (bO m) h) j k))] 8 o [.int .i64 v]=some [.ro (ints S.d),.ro (pc S.f),.ro (ints S.s),.rw (shL 0 1 2 S),.rw [.int .i64 0,.int .i64 0],.rw (ints L),.rw [.int .i64 (sh).1.1,.int .i64 (sh).1.2],.rw (cl S.d.length (wyB S (bO m) h)),.rw (cl S.d.length (fun j=>wyF S (wyB S (bO m) h) j (k+1)))]:=fun v o ho hv hm=>by
       subst ho
       exact sO (cs':=cl S.d.length (fun j=>wyF S (wyB S (bO m) h) j (k+1))) rfl (by rw [wX];simp;omega) (by rw [wX];omega) (by
        rw [CB (by omega)]
        refine uU fun j _=>?_
        simp only [kF,wyF]
        by_cases hj:j=(gf S.f k).2.toNat
        ·rw [if_pos hj,if_pos ⟨by omega,hm⟩,hv,hj]
        ·rw [if_neg hj,if_neg (fun hc=>hj (by omega))])
      have hno:¬ 0≤wyB S (bO m) h (gf S.f k).1.toNat→cl S.d.length (fun j=>wyF S (wyB S (bO m) h) j k)=cl S.d.length (fun j=>wyF S (wyB S (bO m) h) j (k+1)):=fun hm=>uU fun j _=>by
       simp only [wyF];rw [if_neg (fun hc=>hm hc.2)]
      clear hfb hwb hWn hWo
      by_cases hm:wyB S (bO m) h (gf S.f k).1.toNat≥0
      ·have hput2:=fun v o ho hv=>hput2 v o ho hv hm
       repeat' (first|(refine gU ?_;first|(refine aP ?_;refine st (au rfl) rfl rfl ?_)|(refine aI ?_;refine st (aA rfl) rfl rfl ?_)|(refine gFA ?_;refine st (aB rfl) rfl rfl ?_)|(refine aU ?_;refine st (ak rfl (by first|rfl|exact hc3 _ _ (by omega))) rfl rfl ?_)|(refine iw ?_;refine st (dF rfl rfl (by omega)) rfl rfl ?_)|(refine bG ?_;refine st (aG rfl rfl rfl) rfl rfl ?_)|(refine fK ?_;refine st (bK rfl) rfl rfl ?_)|(refine gIA ?_;refine st (lC rfl rfl (by omega) (by omega)) rfl rfl ?_)|(refine cO ?_;refine stN (aJ rfl rfl rfl rfl (by exact hput2 _ _ (by omega) rfl)) rfl ?_))|(refine fU ?_;first|(refine gZ ?_;refine frA (au rfl) rfl ?_)|(refine vw ?_;refine frA (aA rfl) rfl ?_)|(refine fFA ?_;refine frA (aB rfl) rfl ?_)|(refine iH ?_;refine frA (ak rfl (by first|rfl|exact hc3 _ _ (by omega)|exact hc4 _ _ (by omega)|exact hc5 _ _ (by omega)|exact hc6 _|exact hc7 _)) rfl ?_)|(refine fAdd ?_;refine frA (tZ rfl rfl (by omega) (by omega)) rfl ?_)|(refine fIA ?_;first|refine frA (bZ rfl rfl (by omega)) rfl ?_|refine frA (lC rfl rfl (by omega) (by omega)) rfl ?_|refine frA (bV rfl rfl (by omega) (by omega)) rfl ?_)|(refine Ol ?_;refine frA (zT rfl rfl) rfl ?_))|(refine fD ⟨by kernel_rfl,?_⟩)|refine aS ?_|refine aj ?_|refine dH (by kernel_rfl) rfl ?_|refine ah ?_|refine bg ?_|refine fH ?_|refine aW ?_|refine aO ?_|refine aQ rfl ?_)
       exact ⟨rfl,k+1,by omega,by omega,.same ⟨rfl,rfl,rfl,rfl,rfl,rfl,rfl,rfl,rfl,rfl,rfl,trivial⟩⟩
      ·have hno2:=hno hm
       repeat' (first|(refine gU ?_;first|(refine aP ?_;refine st (au rfl) rfl rfl ?_)|(refine aI ?_;refine st (aA rfl) rfl rfl ?_)|(refine gFA ?_;refine st (aB rfl) rfl rfl ?_)|(refine aU ?_;refine st (ak rfl (by first|rfl|exact hc3 _ _ (by omega))) rfl rfl ?_)|(refine iw ?_;refine st (dF rfl rfl (by omega)) rfl rfl ?_)|(refine bG ?_;refine st (aG rfl rfl rfl) rfl rfl ?_)|(refine fK ?_;refine st (bK rfl) rfl rfl ?_)|(refine gIA ?_;refine st (lC rfl rfl (by omega) (by omega)) rfl rfl ?_))|(refine fU ?_;first|(refine gZ ?_;refine frA (au rfl) rfl ?_)|(refine vw ?_;refine frA (aA rfl) rfl ?_)|(refine fFA ?_;refine frA (aB rfl) rfl ?_)|(refine iH ?_;refine frA (ak rfl (by first|rfl|exact hc6 _|exact hc7 _)) rfl ?_)|(refine fIA ?_;first|refine frA (bZ rfl rfl (by omega)) rfl ?_|refine frA (bV rfl rfl (by omega) (by omega)) rfl ?_))|(refine fD ⟨by kernel_rfl,?_⟩)|refine aS ?_|refine aj ?_|refine dH (by kernel_rfl) rfl ?_|refine ah ?_|refine bg ?_|refine fH ?_|refine aW ?_|refine aO ?_|refine aQ rfl ?_|refine aN rfl ?_)
       refine ⟨rfl,k+1,by omega,by omega,?_⟩
       simp only [← hno2]
       exact .same ⟨rfl,rfl,rfl,rfl,rfl,rfl,rfl,rfl,rfl,rfl,rfl,trivial⟩
     ·obtain rfl:k=S.f.length:=by omega
      have hc1:∀ σ':Heap,cZ (cu.ro (ints S.d)::.ro (pc S.f)::.ro (ints S.s)::.rw (shL 0 1 2 S)::.rw [.int .i64 0,.int .i64 0]::.rw (ints L)::.rw [.int .i64 (sh).1.1,.int .i64 (sh).1.2]::σ') 5 i=some (.int .i64 (m:Int)):=fun σ'=>by rw [← m1];exact gV hil
      have hc2:∀ σ':Heap,cZ (cu.ro (ints S.d)::.ro (pc S.f)::.ro (ints S.s)::.rw (shL 0 1 2 S)::.rw [.int .i64 0,.int .i64 0]::.rw (ints L)::.rw [.int .i64 (sh).1.1,.int .i64 (sh).1.2]::σ') 5 (0+i*1)=some (.int .i64 (m:Int)):=fun σ'=>by rw [Nat.zero_add,Nat.mul_one,← m1];exact gV hil
      have hc3:∀ (σ':Heap) o,o=m→cZ (cu.ro (ints S.d)::.ro (pc S.f)::.ro (ints S.s)::.rw (shL 0 1 2 S)::.rw [.int .i64 0,.int .i64 0]::.rw (ints L)::.rw [.int .i64 (sh).1.1,.int .i64 (sh).1.2]::.rw (cl S.d.length (wyB S (bO m) h))::.rw (cl S.d.length (fun j=>wyF S (wyB S (bO m) h) j S.f.length))::σ') 8 o=some (.int .i64 (wO S m (h+1))):=fun σ' o ho=>by subst ho;exact Lm m2
      have hwo:=J6 hok (i:=m) (h:=h+1) m2
      have hrs:rmS S m (h+1) sh=if 0≤wO S m (h+1) then (if sh.2=false∨sh.1.1*sU (wO S m (h+1)).toNat (h+1)<sZ (wO S m (h+1)).toNat (h+1)*sh.1.2 then (sZ (wO S m (h+1)).toNat (h+1),sU (wO S m (h+1)).toNat (h+1)) else sh.1,true) else sh:=rfl
      clear hfb hwb hWo hWn
      generalize wO S m (h+1)=w at *
      by_cases hw:w≥0
      ·obtain ⟨w,rfl⟩:∃ w':Nat,w=(w':Int):=⟨w.toNat,by omega⟩
       rw [if_pos (by omega),Int.toNat_natCast] at hrs
       obtain ⟨r1,_,r3,r4⟩:=yJ (m:=w) (show 0<h+1 by omega)
       have r5:=r1.a0
       have r6:=r1.b0
       have hof:=fun (σ':Heap) (hσ:σ'.all (fun o=>!dB o)=true)=>Ev.nil (σ:=σ') (of_ok w (h+1) (by omega) (by omega) (by omega)) rfl rfl hσ
       generalize sZ w (h+1)=a at *
       generalize sU w (h+1)=b at *
       obtain ⟨⟨s1,s2⟩,fl⟩:=sh
       simp only [RmB] at hrs hBh hc1 hc2 hc3 ⊢
       have q1:=tY (a:=s1) (d:=b) (by omega) (by omega) (by omega) (by omega)
       have q2:=tY (a:=a) (d:=s2) (by omega) (by omega) hBh.2.2.1 hBh.2.2.2
       have hle:∀ σ':Heap,σ'.all (fun o=>!dB o)=true→Ev Try.prog 42 [rtV s1 s2,rtV a b] σ' (.bool (decide (s1*b<a*s2))) σ':=fun σ' hσ=>Ev.nil (Ey _ _ _ _ (by omega) (by omega) (by omega) (by omega)) rfl rfl hσ
       replace hof:=hof _ (rfl:([.ro (ints S.d),.ro (pc S.f),.ro (ints S.s),.rw (shL 0 1 2 S),.rw [.int .i64 0,.int .i64 0],.rw (ints L),.rw [.int .i64 s1,.int .i64 s2],.rw (cl S.d.length (wyB S (bO m) h)),.rw (cl S.d.length (fun j=>wyF S (wyB S (bO m) h) j S.f.length))]:Heap).all (fun o=>!dB o)=true)
       clear q1 q2 hBh hwo r1 r3 r4 r5 r6
       cases fl with
       |false =>
        rw [if_pos (.inl rfl)] at hrs
        clear hle
        repeat' (first|(refine gU ?_;first|(refine aP ?_;refine st (au rfl) rfl rfl ?_)|(refine aI ?_;refine st (aA rfl) rfl rfl ?_)|(refine gFA ?_;refine st (aB rfl) rfl rfl ?_)|(refine aU ?_;first|refine st (ak rfl (by first|rfl|exact hc1 _|exact hc3 _ _ (by omega))) rfl rfl ?_|refine st (aZ rfl (by rfl)) rfl rfl ?_)|(refine iw ?_;refine st (dF rfl rfl (by omega)) rfl rfl ?_)|(refine bG ?_;refine st (aG rfl rfl rfl) rfl rfl ?_)|(refine fK ?_;refine st (bK rfl) rfl rfl ?_)|(refine eY ?_;refine st (bH rfl rfl) rfl rfl ?_)|(refine kX ?_;refine st (gX rfl) rfl rfl ?_)|(refine gIA ?_;refine st (gJ rfl rfl (by omega)) rfl rfl ?_)|(refine fC ?_;refine st (bC rfl rfl rfl (by exact hof)) rfl rfl ?_)|(refine eP ?_;refine st (bQ rfl) rfl rfl ?_)|(refine cO ?_;refine stN (aJ rfl rfl rfl rfl (by rfl)) rfl ?_))|(refine gG ?_;refine nU rfl rfl ?_)|refine aS ?_|refine aj ?_|refine ah ?_|refine bg ?_|refine jd ?_|refine fH ?_|refine eG rfl ?_|refine dW ?_|refine aQ rfl ?_|refine aN rfl ?_)
        refine ⟨rfl,h+1,by omega,by omega,?_⟩
        rw [hhs,hrs]
        exact bT.src [.ro (ints S.d),.ro (pc S.f),.ro (ints S.s),.rw (shL 0 1 2 S),.rw [.int .i64 0,.int .i64 0],.rw (ints L),.rw [.int .i64 a,.int .i64 b]] [.rw (cl S.d.length (wyB S (bO m) (h+1)))] [8] (by simp) rfl (Gh S L _ _ (by simp)) rfl rfl ⟨dA (j:=8) rfl (.inl rfl) sV,trivial⟩ (by (repeat' (first|exact trivial|refine ⟨bD rfl rfl,?_⟩|refine ⟨aV (m:=7) rfl (fun i hi=>aY hi) (by simp) (by first|rfl|exact bM rfl) rfl,?_⟩|refine ⟨⟨_,rfl,gu (by simp) rfl (Nat.le_refl _)⟩,?_⟩)))
       |true =>
        by_cases hlt:s1*b<a*s2
        ·rw [if_pos (.inr hlt)] at hrs
         repeat' (first|(refine gU ?_;first|(refine aP ?_;refine st (au rfl) rfl rfl ?_)|(refine aI ?_;refine st (aA rfl) rfl rfl ?_)|(refine gFA ?_;refine st (aB rfl) rfl rfl ?_)|(refine aU ?_;first|refine st (ak rfl (by first|rfl|exact hc1 _|exact hc3 _ _ (by omega))) rfl rfl ?_|refine st (aZ rfl (by rfl)) rfl rfl ?_)|(refine iw ?_;refine st (dF rfl rfl (by omega)) rfl rfl ?_)|(refine bG ?_;refine st (aG rfl rfl rfl) rfl rfl ?_)|(refine fK ?_;refine st (bK rfl) rfl rfl ?_)|(refine eY ?_;refine st (bY rfl rfl) rfl rfl ?_)|(refine kX ?_;refine st (gX rfl) rfl rfl ?_)|(refine gIA ?_;refine st (gJ rfl rfl (by omega)) rfl rfl ?_)|(refine fC ?_;refine st (bC rfl rfl rfl (by exact hof)) rfl rfl ?_)|(refine eP ?_;refine st (bQ rfl) rfl rfl ?_)|(refine cO ?_;refine stN (aJ rfl rfl rfl rfl (by rfl)) rfl ?_))|(refine gG ?_;first|(refine aU ?_;refine bP rfl (aZ rfl (by rfl)) rfl rfl ?_)|(refine fC ?_;refine bP rfl (bC rfl rfl rfl (by exact hle _ rfl)) rfl rfl ?_))|refine aS ?_|refine aj ?_|refine ah ?_|refine bg ?_|refine jd ?_|refine fH ?_|refine eG rfl ?_|refine dW ?_|refine aQ rfl ?_|refine aN rfl ?_)
         refine ⟨rfl,h+1,by omega,by omega,?_⟩
         rw [hhs,hrs]
         exact bT.src [.ro (ints S.d),.ro (pc S.f),.ro (ints S.s),.rw (shL 0 1 2 S),.rw [.int .i64 0,.int .i64 0],.rw (ints L),.rw [.int .i64 a,.int .i64 b]] [.rw (cl S.d.length (wyB S (bO m) (h+1)))] [8] (by simp) rfl (Gh S L _ _ (by simp)) rfl rfl ⟨dA (j:=8) rfl (.inl rfl) sV,trivial⟩ (by (repeat' (first|exact trivial|refine ⟨bD rfl rfl,?_⟩|refine ⟨aV (m:=7) rfl (fun i hi=>aY hi) (by simp) (by first|rfl|exact bM rfl) rfl,?_⟩|refine ⟨⟨_,rfl,gu (by simp) rfl (Nat.le_refl _)⟩,?_⟩)))
        ·rw [if_neg (by simp [hlt])] at hrs
         repeat' (first|(refine gU ?_;first|(refine aP ?_;refine st (au rfl) rfl rfl ?_)|(refine aI ?_;refine st (aA rfl) rfl rfl ?_)|(refine gFA ?_;refine st (aB rfl) rfl rfl ?_)|(refine aU ?_;refine st (ak rfl (by first|rfl|exact hc1 _|exact hc3 _ _ (by omega))) rfl rfl ?_)|(refine iw ?_;refine st (dF rfl rfl (by omega)) rfl rfl ?_)|(refine bG ?_;refine st (aG rfl rfl rfl) rfl rfl ?_)|(refine fK ?_;refine st (bK rfl) rfl rfl ?_)|(refine eY ?_;refine st (bY rfl rfl) rfl rfl ?_)|(refine kX ?_;refine st (gX rfl) rfl rfl ?_)|(refine gIA ?_;refine st (gJ rfl rfl (by omega)) rfl rfl ?_)|(refine fC ?_;refine st (bC rfl rfl rfl (by exact hof)) rfl rfl ?_)|(refine eP ?_;refine st (bQ rfl) rfl rfl ?_)|(refine cO ?_;refine stN (aJ rfl rfl rfl rfl (by rfl)) rfl ?_))|(refine gG ?_;first|(refine aU ?_;refine bP rfl (aZ rfl (by rfl)) rfl rfl ?_)|(refine fC ?_;refine bP rfl (bC rfl rfl rfl (by exact hle _ rfl)) rfl rfl ?_))|refine aS ?_|refine aj ?_|refine ah ?_|refine bg ?_|refine jd ?_|refine fH ?_|refine eG rfl ?_|refine aW ?_|refine dW ?_|refine aQ rfl ?_|refine aN rfl ?_)
         refine ⟨rfl,h+1,by omega,by omega,?_⟩
         rw [hhs,hrs]
         exact bT.src [.ro (ints S.d),.ro (pc S.f),.ro (ints S.s),.rw (shL 0 1 2 S),.rw [.int .i64 0,.int .i64 0],.rw (ints L),.rw [.int .i64 s1,.int .i64 s2]] [.rw (cl S.d.length (wyB S (bO m) (h+1)))] [8] (by simp) rfl (Gh S L _ _ (by simp)) rfl rfl ⟨dA (j:=8) rfl (.inl rfl) sV,trivial⟩ (by (repeat' (first|exact trivial|refine ⟨bD rfl rfl,?_⟩|refine ⟨aV (m:=7) rfl (fun i hi=>aY hi) (by simp) (by first|rfl|exact bM rfl) rfl,?_⟩|refine ⟨⟨_,rfl,gu (by simp) rfl (Nat.le_refl _)⟩,?_⟩)))
      ·rw [if_neg (by omega)] at hrs
       repeat' (first|(refine gU ?_;first|(refine aP ?_;refine st (au rfl) rfl rfl ?_)|(refine aI ?_;refine st (aA rfl) rfl rfl ?_)|(refine gFA ?_;refine st (aB rfl) rfl rfl ?_)|(refine aU ?_;refine st (ak rfl (by first|rfl|exact hc1 _|exact hc3 _ _ (by omega))) rfl rfl ?_)|(refine iw ?_;refine st (dF rfl rfl (by omega)) rfl rfl ?_)|(refine bG ?_;refine st (aG rfl rfl rfl) rfl rfl ?_)|(refine fK ?_;refine st (bK rfl) rfl rfl ?_)|(refine gIA ?_;refine st (gJ rfl rfl (by omega)) rfl rfl ?_))|refine aS ?_|refine aj ?_|refine ah ?_|refine bg ?_|refine jd ?_|refine fH ?_|refine eG rfl ?_|refine aW ?_|refine dW ?_|refine aN rfl ?_)
       refine ⟨rfl,h+1,by omega,by omega,?_⟩
       rw [hhs,hrs]
       exact bT.src [.ro (ints S.d),.ro (pc S.f),.ro (ints S.s),.rw (shL 0 1 2 S),.rw [.int .i64 0,.int .i64 0],.rw (ints L),.rw [.int .i64 (sh).1.1,.int .i64 (sh).1.2]] [.rw (cl S.d.length (wyB S (bO m) (h+1)))] [8] (by simp) rfl (Gh S L _ _ (by simp)) rfl rfl ⟨dA (j:=8) rfl (.inl rfl) sV,trivial⟩ (by (repeat' (first|exact trivial|refine ⟨bD rfl rfl,?_⟩|refine ⟨aV (m:=7) rfl (fun i hi=>aY hi) (by simp) (by first|rfl|exact bM rfl) rfl,?_⟩|refine ⟨⟨_,rfl,gu (by simp) rfl (Nat.le_refl _)⟩,?_⟩)))
   ·obtain rfl:h=S.d.length:=by omega
    clear hhs hB1 hBh
    repeat' (first|(refine gU ?_;first|(refine aP ?_;refine st (au rfl) rfl rfl ?_)|(refine aI ?_;refine st (aA rfl) rfl rfl ?_)|(refine iw ?_;refine st (dF rfl rfl (by omega)) rfl rfl ?_)|(refine bG ?_;refine st (aG rfl rfl rfl) rfl rfl ?_))|refine aS ?_|refine aj ?_|refine ah ?_|refine bg ?_|refine jd ?_|refine fH ?_|refine eG rfl ?_|refine dW ?_|refine aN rfl ?_)
    refine ⟨rfl,i+1,by omega,by omega,?_⟩
    rw [hL1]
    exact bT.drop [.ro (ints S.d),.ro (pc S.f),.ro (ints S.s),.rw (shL 0 1 2 S),.rw [.int .i64 0,.int .i64 0],.rw (ints L),.rw [.int .i64 (rmH S m sq S.d.length).1.1,.int .i64 (rmH S m sq S.d.length).1.2]] [_] (by simp) (Gh S L _ _ (by simp)) (by (repeat' (first|exact trivial|exact ⟨rfl,rfl,rfl⟩|exact ⟨rfl,bM rfl,rfl⟩|refine ⟨?_,?_⟩)))
 ·obtain rfl:i=L.length:=by omega
  repeat' (first|(refine gU ?_;first|(refine aP ?_;refine st (au rfl) rfl rfl ?_)|(refine aI ?_;refine st (aA rfl) rfl rfl ?_)|(refine aU ?_;refine st (aZ rfl (by rfl)) rfl rfl ?_)|(refine bG ?_;refine st (aG rfl rfl rfl) rfl rfl ?_)|(refine fK ?_;refine st (bK rfl) rfl rfl ?_)|(refine cO ?_;refine stN (aJ rfl rfl rfl rfl (by rfl)) rfl ?_))|refine aS ?_|refine aj ?_|refine ah ?_|refine bg ?_|refine jd ?_|refine eG rfl ?_|refine dW ?_|refine dX ?_|refine aN rfl ?_)
  exact iF (.cellN inferInstance rfl rfl (.tmp rfl .nil)) (.plain rfl rfl) ⟨rfl,rfl⟩
end Go.Proofs.Ytomioaiojidnbaa
namespace Go.AH.Dust
open Go Go.AH
theorem Qk.of {S:Shp} {a b:Int} {r:List Int} {m:Nat} (h:Qk S a b r) (hr:Red a b) (hs:yE S r r.length=(m:Int)):sZ m r.length=a∧sU m r.length=b:=by
 have hl:=h.ne
 obtain ⟨r1,r2,_,_⟩:=yJ (m:=m) hl
 have hsum:=h.sum
 rw [hs] at hsum
 refine r1.uniq hr (Int.eq_of_mul_eq_mul_right (show ((r.length:Nat):Int) ≠ 0 by omega) ?_)
 have e1:sZ m r.length*b*(r.length:Int)=sZ m r.length*(r.length:Int)*b:=by rw [Int.mul_assoc,Int.mul_comm b,← Int.mul_assoc]
 have e2:a*sU m r.length*(r.length:Int)=a*(r.length:Int)*sU m r.length:=by rw [Int.mul_assoc,Int.mul_comm (sU m r.length),← Int.mul_assoc]
 rw [e1,e2,r2,← hsum,Int.mul_comm b,Int.mul_assoc,Int.mul_assoc,Int.mul_comm b]
end Go.AH.Dust
namespace Go.Proofs.Ytomioaiojidnbaa
open Go Go.AH
attribute [local irreducible] dO dI dM kK iM gK iC dV iJ dQ iK iE
set_option maxRecDepth 100000
set_option maxHeartbeats 1000000
open Go.AH.Dust
theorem refMean_ev {σ:Heap} {S:Shp} {x y z:Nat} {v:Value} (hs:SAt σ x y z S) (hv:ShS x y z S v) (hS:S.fit) (h0:dG S=0) (hni:σ.all (fun o=>!dB o)=true) :
  Ev Try.prog 36 [v] σ (if mnE S=0 then .tuple #[rtV (mnA S) (mnB S),.bool true] else .tuple #[rtV 0 1,.bool false]) σ:=by
 have h:=refMean_ok S hS h0
 rw [rm_is h0] at h
 by_cases hE:mnE S=0
 ·rw [if_pos hE] at h ⊢
  exact Ev.arrs S.css [x,y,z] h hs.arrs ⟨hv,trivial⟩ S.css_plain rfl hni
 ·rw [if_neg hE] at h ⊢
  exact Ev.arrs S.css [x,y,z] h hs.arrs ⟨hv,trivial⟩ S.css_plain rfl hni
end Go.Proofs.Ytomioaiojidnbaa
namespace Go.AH.Dust
open Go Go.AH
structure Hom (X S:Shp) (p:Int→Int):Prop where
 w:∀ {x},isW X x→isW S (p x)
 d:∀ {x},isW X x→gi X.d x.toNat≤gi S.d (p x).toNat
 f:∀ {a b},(a,b) ∈ X.f→(p a,p b) ∈ S.f
 s:∀ {x},x ∈ X.s→p x ∈ S.s
section
variable {X S:Shp} {p:Int→Int}
theorem Hom.rch (h:Hom X S p) {x:Int} (hr:Rch X x):Rch S (p x):=by
 induction hr with
 |first hn=>exact .first (h.s hn)
 |next _ hf ih=>exact .next ih (h.f hf)
theorem Ij {S:Shp} {i:Nat} (hi:i<S.d.length):isW S (i:Int):=⟨by show (0:Int)≤_;omega,by show (i:Int) < _;omega⟩
theorem Hom.lt (h:Hom X S p) {i:Nat} (hi:i<X.d.length):(p i).toNat<S.d.length∧(((p i).toNat:Nat):Int)=p i:=by
 have hw:=h.w (Ij hi)
 have h1:=hw.1;have h2:=hw.2
 omega
theorem Hom.rb (h:Hom X S p) {i:Nat} (hi:i<X.d.length) (hr:rB X i=true):rB S (p i).toNat=true:=by
 rw [lQ,(h.lt hi).2];exact h.rch (lQ.1 hr)
theorem J7 {S:Shp} {m:Nat→Int} {i:Nat}:∀ k,-1≤kS S m i k
 |0=>by simp [kS]
 |k+1=>by
  have ih:=J7 (S:=S) (m:=m) (i:=i) k
  simp only [kS];split <;> omega
theorem Hom.most (h:Hom X S p) (hX:X.ok) (hS:S.ok):∀ (H i:Nat),i<X.d.length→most X H i≤most S H (p i).toNat
 |0,i,hi=>by have:=h.d (Ij hi);rw [Int.toNat_natCast] at this;exact this
 |H+1,i,hi=>by
  simp only [Dust.most]
  by_cases h0:0≤kS X (Dust.most X H) i X.f.length
  ·obtain ⟨j,j1,j2,j3,j4⟩:=zF h0
   have hf:((i:Int),(gf X.f j).2) ∈ X.f:=jW.2 ⟨j,j1,Prod.ext j2 rfl⟩
   have hw:=(rE hX hf).2
   have w1:=hw.1;have w2:=hw.2
   have ih:=Hom.most h hX hS H (gf X.f j).2.toNat (by omega)
   rw [show (((gf X.f j).2.toNat:Nat):Int)=(gf X.f j).2 by omega] at ih
   obtain ⟨k,k1,k2⟩:=jW.1 (h.f hf)
   have hge:=J4 (S:=S) (m:=Dust.most S H) (i:=(p i).toNat) k1 (by rw [k2];exact (h.lt hi).2.symm) (by rw [k2];simp only;omega)
   rw [k2] at hge
   simp only at hge
   have hd:=h.d (Ij hi)
   rw [Int.toNat_natCast] at hd
   omega
  ·have:=J7 (S:=S) (m:=Dust.most S H) (i:=(p i).toNat) S.f.length
   omega
theorem Hom.vT (h:Hom X S p) (hX:X.ok) (hS:S.ok) {H:Nat} (hz:0≤vT X H):vT X H≤Dust.vT S H:=by
 obtain ⟨i,i1,i2,i3⟩:=refW_at hz
 have h1:=h.most hX hS H i i1
 have h2:=NR (S:=S) (H:=H) (h.lt i1).1 (h.rb i1 i2)
 omega
theorem Hom.win (h:Hom X S p) (hX:dG X=0) (hS:dG S=0) {g:Int} (h1:1≤g) (h24:g≤24) (he:nV X g=0):nV S g=0∧wU X g≤wU S g:=by
 have cX:=AP hX h1 h24
 have cS:=AP hS h1 h24
 have hz:=(F9 cX).1 he
 have hle:=h.vT (fB hX) (fB hS) hz
 have eS:=(F9 cS).2 (by omega)
 exact ⟨eS,by rw [(NM he).2.2.2.1,(NM eS).2.2.2.1];exact hle⟩
theorem Hom.beg (h:Hom X S p) (hX:dG X=0) (hS:dG S=0) {g lim:Int} (h1:1≤g) (h24:g≤24) {n:Int} (hn:n ∈ jr X g lim):p n ∈ jr S g lim:=by
 obtain ⟨_,m,rfl,m2,m3,m4,m5⟩:=NS hn
 have hm:=h.most (fB hX) (fB hS) (g.toNat - 1) m m2
 have:=mem_beg (S:=S) (lim:=lim) (AP hS h1 h24) (h.lt m2).1 (h.rb m2 m3) (by omega) (by omega)
 rwa [(h.lt m2).2] at this
theorem Hom.sum (h:Hom X S p) (hX:X.ok) {q:Nat→Int}:∀ {k:Nat},qw X q k→sumW (cS X) q k≤sumW (cS S) (fun i=>p (q i)) k
 |0,_=>Int.le_refl _
 |k+1,hw=>by
  have ih:=Hom.sum h hX (k:=k) fun i hi=>hw i (by omega)
  have:=h.d (rE hX (hw k (by omega))).1
  simp only [sumW]
  unfold cS at *
  omega
theorem Hom.cyc (h:Hom X S p) {q:Nat→Int} {k:Nat} (hc:Cyc X q k):Cyc S (fun i=>p (q i)) k :=
 ⟨hc.h0,fun i hi=>h.f (hc.wk i hi),by rw [hc.cl],h.rch hc.rch⟩
theorem Hom.mean (h:Hom X S p) (hX:X.ok) {a b a' b':Int} (hM:jc X a b) (hM':jc S a' b'):a*b'≤a'*b:=by
 obtain ⟨q,k,hc,he⟩:=hM.att
 have hl:=hM'.le _ _ (h.cyc hc)
 have hs:=h.sum hX hc.wk
 have hk:(0:Int)<(k:Int):=by have:=hc.h0;omega
 refine Int.le_of_mul_le_mul_right (a:=(k:Int)) ?_ hk
 have t1:=Int.mul_le_mul_of_nonneg_left hs (Int.le_of_lt hM'.b0)
 have t2:=Int.mul_le_mul_of_nonneg_left (Int.le_trans t1 hl) (Int.le_of_lt hM.b0)
 have e1:a*b'*(k:Int)=b*(b'*sumW (cS X) q k):=by
  have e0:b*(b'*sumW (cS X) q k)=b'*(b*sumW (cS X) q k):=by rw [← Int.mul_assoc,Int.mul_comm b b',Int.mul_assoc]
  rw [e0,he,Int.mul_comm a b',Int.mul_assoc]
 have e2:a'*b*(k:Int)=b*(a'*(k:Int)):=by rw [Int.mul_comm a' b,Int.mul_assoc]
 rw [e1,e2];exact t2
theorem Hom.mnE (h:Hom X S p) (hX:dG X=0) (hS:dG S=0) (he:mnE X=0):Dust.mnE S=0∧mnA X*mnB S≤mnA S*mnB X:=by
 have hM:=(EH he).mean
 obtain ⟨q,k,hc,_⟩:=hM.att
 have e2:Dust.mnE S=0:=Ii.2 ⟨hS,Hr (fB hS) (h.cyc hc)⟩
 exact ⟨e2,h.mean (fB hX) hM (EH e2).mean⟩
end
end Go.AH.Dust
namespace Go.AH.Dust
open Go Go.AH
def TS (n t:Nat) (x:Int):Int:=(((x.toNat+t) % n:Nat):Int)
def dN (S:Shp) (t:Nat):Nat→Nat→Int
 |0=>fun _=>0
 |i+1=>kF (dN S t i) ((i+t) % S.d.length) (gi S.d i)
def fN (S:Shp) (t:Nat):Nat→List (Int×Int)
 |0=>[]
 |k+1=>fN S t k++[(TS S.d.length t (gf S.f k).1,TS S.d.length t (gf S.f k).2)]
def mN (S:Shp) (t:Nat):Nat→Nat→Int
 |0=>fun _=>0
 |i+1=>kF (mN S t i) (((gi S.s i).toNat+t) % S.d.length) 1
def sN (S:Shp) (t:Nat):Nat→List Int
 |0=>[]
 |i+1=>if mN S t S.s.length i=1 then sN S t i++[(i:Int)] else sN S t i
def rotS (S:Shp) (t:Nat):Shp:=⟨(List.range S.d.length).map (dN S t S.d.length),fN S t S.f.length,sN S t S.d.length⟩
section
variable {S:Shp} {t:Nat}
theorem Hom.reach {X:Shp} {p:Int→Int} (h:Hom X S p) (hX:dG X=0) (hS:dG S=0) {x:Int} (hx:x ∈ fO X):p x ∈ fO S:=by
 obtain ⟨i,i1,i2⟩:=kQ.1 hx
 obtain ⟨m,m1,m2,m3⟩:=xQ hX i1
 rw [i2] at m1
 subst m1
 obtain ⟨j,j1,j2⟩:=yL hS (h.lt m2).1 (h.rb m2 m3)
 rw [(h.lt m2).2] at j2
 exact kQ.2 ⟨j,j1,j2⟩
end
end Go.AH.Dust
namespace Go.AH
open Go
section
variable {P:Program} {n0 N:Nat} {K:Env→List Nat→Heap→Prop} {e:Env} {mk:List Nat} {σ:Heap} {all:List Oper} {listed:List Bool} {fuel:Nat}
def NT (all:List Oper) (listed:List Bool) (i j k:Nat):Bool:=match Region.ready .any all.toArray listed.toArray with|[a,b,c]=>Nat.beq a i && (Nat.beq b j && Nat.beq c k)|_=>false
theorem qL (i j k:Nat) {o o2 o3:Oper} (hi:all[i]?=some o) (hj:all[j]?=some o2) (hk3:all[k]?=some o3) (h:dO P n0 N none all [o] (fun e' mk' σ'=>uM P n0 N all fuel (listed.set i true) K e' mk' σ') e mk σ)
  (h2:dO P n0 N none all [o2] (fun e' mk' σ'=>uM P n0 N all fuel (listed.set j true) K e' mk' σ') e mk σ) (h3:dO P n0 N none all [o3] (fun e' mk' σ'=>uM P n0 N all fuel (listed.set k true) K e' mk' σ') e mk σ) (hr:NT all listed i j k=true:=by decide +kernel):uM P n0 N all (fuel+1) listed K e mk σ:=by
 intro G w0 ρ0 A w hinv
 have hrd:Region.ready .any all.toArray listed.toArray=[i,j,k]:=by
  unfold NT at hr
  split at hr
  ·rename_i a b c hk
   rw [Bool.and_eq_true,Bool.and_eq_true] at hr
   rw [hk,Nat.eq_of_beq_eq_true hr.1,Nat.eq_of_beq_eq_true hr.2.1,Nat.eq_of_beq_eq_true hr.2.2]
  ·cases hr
 have go:∀ (q:Nat) (o:Oper),all[q]?=some o→dO P n0 N none all [o] (fun e' mk' σ'=>uM P n0 N all fuel (listed.set q true) K e' mk' σ') e mk σ →
   wpOpIn Fence.wide 0 P all.toArray (fun ex A' w'=>ex=.normal∧∃ e' mk' σ',K e' mk' σ'∧Inv n0 N G w0 ρ0 e' mk' σ' A' w') q (wpAnyIn Fence.wide 0 P .any all.toArray (fun ex A' w'=>ex=.normal∧∃ e' mk' σ',K e' mk' σ'∧Inv n0 N G w0 ρ0 e' mk' σ' A' w') fuel (listed.toArray.setIfInBounds q true)) A w:=by
  intro q o hq h
  have:=h G w0 ρ0 A w hinv (fun ex A' w'=>match ex with|.normal=>wpAnyIn Fence.wide 0 P .any all.toArray (fun ex A' w'=>ex=.normal∧∃ e' mk' σ',K e' mk' σ'∧Inv n0 N G w0 ρ0 e' mk' σ' A' w') fuel (listed.toArray.setIfInBounds q true) A' w'|_=>False) (fun e' mk' σ' A' w' hk hinv'=>by
   have:=hk G w0 ρ0 A' w' hinv'
   simpa using this)
  unfold wpOpIn
  simp only [List.getElem?_toArray,hq]
  simp only [wpL] at this
  split
  ·rename_i hw
   rw [if_pos hw] at this
   exact pI (fun c a w hq=>hq.elim) (fun a w hq=>hq.elim) this
  ·rename_i hw
   rw [if_neg hw] at this
   exact ⟨fun f _=>pq ρ0 none _,this⟩
 refine wpAnyIn_all hrd (by simp) fun q hq=>?_
 rcases List.mem_cons.1 hq with rfl|hq
 ·exact go q o hi h
 rcases List.mem_cons.1 hq with rfl|hq
 ·exact go q o2 hj h2
 ·rw [List.mem_singleton.1 hq] at *
  exact go k o3 hk3 h3
end
section
variable {P:Program} {n0 N:Nat} {rd:Option Nat} {Q:Post} {e:Env} {mk:List Nat} {σ:Heap}
theorem NU {c:Operand} {x y r:Code} {b:Bool} {Q2:Post} (hc:bf e c=some (.bool b)) (E2:Env) (σ2:Heap) (hm:∀ i ∈ mk,i<n0)
  (h1:b=true→dI P n0 N rd x (fun ex e' mk' σ'=>ex=.normal∧mk'=mk∧bT n0 σ' σ2 e' E2) e mk σ) (h2:b=false→dI P n0 N rd y (fun ex e' mk' σ'=>ex=.normal∧mk'=mk∧bT n0 σ' σ2 e' E2) e mk σ)
  (k:dI P n0 N rd r Q E2 mk σ2):dI P n0 N rd (.cond c x y) (iM (dI P n0 N rd r Q) Q2) e mk σ:=by
 have key:∀ ex e' mk' σ',(ex=Exit.normal∧mk'=mk∧bT n0 σ' σ2 e' E2)→iM (dI P n0 N rd r Q) Q2 ex e' mk' σ':=by
  rintro ex e' mk' σ' ⟨rfl,rfl,he⟩;exact Gs hm he k
 cases b with
 |true=>exact Gj hc rfl ((h1 rfl).mono key)
 |false=>exact Gl hc rfl ((h2 rfl).mono key)
theorem Si {x c r:Code} {Q1 Q2:Post} (E2:Env) (σ2:Heap) (hm:∀ i ∈ mk,i<n0)
  (h1:dI P n0 N rd x (iM (dI P n0 N rd c (fun ex e' mk' σ'=>ex=.normal∧mk'=mk∧bT n0 σ' σ2 e' E2)) (fun _ _ _ _=>False)) e mk σ)
  (k:dI P n0 N rd r Q E2 mk σ2):dI P n0 N rd x (iM (dI P n0 N rd c (iM (dI P n0 N rd r Q) Q1)) Q2) e mk σ:=by
 refine h1.mono ?_
 intro ex e' mk' σ' h
 cases ex with
 |normal =>
  refine dI.mono h ?_
  rintro ex e2 mk2 σ3 ⟨rfl,rfl,he⟩
  exact Gs hm he k
 |_=>exact h.elim
theorem rG {ty:TypeId} {x y:Operand} {m n:Nat} {k:IntKind} {t t':TypeId} (hx:bf e x=some (.int k (m:Nat))) (hy:bf e y=some (.int k (n:Nat))) (h:n ≠ 0) :
  dV P rd (.binOp .rem t x y t') ty e σ (.int k ((m % n:Nat):Int)) σ:=CV hx hy (by omega)
theorem aT {s f off t size bytes i o:Nat} {agg:Bool} {z:Value} {ty:TypeId} {x:Operand} [hf:Fld P s f off t] [ht:Ty P t (size+1) agg z bytes] (h:bf e x=some (.pointer (some ⟨i,o,none⟩))):Du P (.fieldAddr s x f) ty e (.pointer (some ⟨i,o+off,none⟩)) :=
 ⟨fun o ho w ev=>by simp [Oper.about,ho],fun op ho _ n ρ ev hop=>by
  obtain ⟨hv',hi⟩:=oh (hop x (by simp [Op.operands]) _ h)
  obtain ⟨fs,fl,h1,h2,rfl,rfl⟩:=hf.und
  refine ⟨.pointer (some ⟨(ρ i).b,(ρ i).o+(o+fl.offset),none⟩),fun w=>?_,.ptr _ _ hi⟩
  simp [execOp,ho,hv',Instr.fieldAt,Instr.sureAddr,lH h1,h2,fieldPlace,ht.sizeOf,addr_add,Nat.add_assoc]⟩
end
end Go.AH
namespace Go.AH.Dust
open Go Go.AH
def exL {α:Type} (l:List α) (k:Nat):List α:=l.take k++l.drop (k+1)
theorem CJ {α:Type} {l:List α} {k:Nat} (h:k<l.length):(exL l k).length=l.length - 1:=by
 unfold exL;simp;omega
theorem Qu {α:Type} {l:List α} {k:Nat}:(exL l k).length≤l.length:=by
 unfold exL;simp;omega
theorem Qv {α:Type} {l:List α} {k i:Nat} (h:k<l.length):(exL l k)[i]?=l[if i<k then i else i+1]?:=by
 unfold exL
 have hl:(l.take k).length=k:=by simp;omega
 by_cases hi:i<k
 ·rw [if_pos hi,List.getElem?_append_left (by omega),List.getElem?_take_of_lt hi]
 ·rw [if_neg hi,List.getElem?_append_right (by omega),hl,List.getElem?_drop,show k+1+(i - k)=i+1 by omega]
theorem exL_gf {l:List (Int×Int)} {k i:Nat} (h:k<l.length):gf (exL l k) i=gf l (if i<k then i else i+1):=by
 unfold gf;simp only [List.getD_eq_getElem?_getD];rw [Qv h]
theorem exL_gi {l:List Int} {k i:Nat} (h:k<l.length):gi (exL l k) i=gi l (if i<k then i else i+1):=by
 unfold gi;simp only [List.getD_eq_getElem?_getD];rw [Qv h]
theorem NV {α:Type} {l:List α} {k:Nat} {x:α} (h:x ∈ exL l k):x ∈ l:=by
 unfold exL at h
 rcases List.mem_append.1 h with h|h
 ·exact List.mem_of_mem_take h
 ·exact List.mem_of_mem_drop h
theorem NW {α:Type} {l:List α} {k:Nat} (h:l.length=0):exL l k=[]:=by
 rw [List.eq_nil_of_length_eq_zero h];simp [exL]
def shX (S:Shp) (k:Nat):Shp:=⟨S.d,exL S.f k,S.s⟩
def shY (S:Shp) (k:Nat):Shp:=⟨S.d,S.f,exL S.s k⟩
def dZ (S:Shp) (k:Nat) (less:Int):List Int:=S.d.set k (max 0 (gi S.d k - less))
def shZ (S:Shp) (k:Nat) (less:Int):Shp:=⟨dZ S k less,S.f,S.s⟩
section
variable {S:Shp} {k:Nat}
theorem shX_ok (hS:S.ok) (hk:k<S.f.length∨S.f.length=0):(shX S k).ok:=by
 have hl:=Qu (l:=S.f) (k:=k)
 have f60:=hS.f60
 refine ⟨hS.n1,hS.n10,by show (exL S.f k).length≤60;omega,hS.d,fun i hi=>?_,hS.s,hS.s0⟩
 have hi':i<(exL S.f k).length:=hi
 rcases hk with hk|hk
 ·have hlen:=CJ hk
  have e:∀ j,gf (shX S k).f j=gf S.f (if j<k then j else j+1):=fun j=>exL_gf hk
  have h2:(if i<k then i else i+1)<S.f.length:=by split <;> omega
  obtain ⟨w1,w2,w3⟩:=hS.f _ h2
  refine ⟨by rw [e];exact w1,by rw [e];exact w2,fun j hj he=>?_⟩
  rw [e,e] at he
  have:(if j<k then j else j+1)<if i<k then i else i+1:=by split <;> split <;> omega
  exact w3 _ this he
 ·rw [NW hk] at hi';simp at hi'
theorem shX_hom:Hom (shX S k) S id:=⟨fun h=>h,fun _=>Int.le_refl _,fun h=>NV h,fun h=>h⟩
theorem Qw {S:Shp} (h:okS S) {i:Nat}:∀ {j:Nat},i<j→j<S.s.length→gi S.s i<gi S.s j
 |j+1,hij,hj=>by
  have h2:=(h (j+1) hj).2
  simp only [Nat.add_sub_cancel] at h2
  by_cases he:i=j
  ·subst he;omega
  ·have:=Qw h (i:=i) (j:=j) (by omega) (by omega)
   omega
theorem shY_ok (hS:S.ok) (hk:k<S.s.length) (h1:1<S.s.length):(shY S k).ok:=by
 have hlen:=CJ hk
 have e:∀ j,gi (shY S k).s j=gi S.s (if j<k then j else j+1):=fun j=>exL_gi hk
 refine ⟨hS.n1,hS.n10,hS.f60,hS.d,hS.f,fun i hi=>?_,by show (exL S.s k).length ≠ 0;omega⟩
 have hi':i<(exL S.s k).length:=hi
 have h2:(if i<k then i else i+1)<S.s.length:=by split <;> omega
 refine ⟨by rw [e];exact (hS.s _ h2).1,?_⟩
 by_cases hi0:i=0
 ·exact .inl hi0
 ·right
  rw [e,e]
  exact Qw hS.s (by split <;> split <;> omega) h2
theorem shY_hom:Hom (shY S k) S id:=⟨fun h=>h,fun _=>Int.le_refl _,fun h=>h,fun h=>NV h⟩
theorem Lr {less:Int}:(dZ S k less).length=S.d.length:=by simp [dZ]
theorem Sj {less:Int} {i:Nat} (hi:i<S.d.length):gi (dZ S k less) i=if i=k then max 0 (gi S.d k - less) else gi S.d i:=by
 unfold dZ gi
 simp only [List.getD_eq_getElem?_getD,List.getElem?_set]
 by_cases h:k=i
 ·subst h;rw [if_pos rfl,if_pos rfl,if_pos hi];rfl
 ·rw [if_neg h,if_neg (fun x=>h x.symm)]
theorem shZ_ok (hS:S.ok) (hk:k<S.d.length) {less:Int} (h0:0≤less):(shZ S k less).ok:=by
 have hl:(shZ S k less).d.length=S.d.length:=Lr
 have hw:∀ {x},isW S x→isW (shZ S k less) x:=fun {x} hx=>⟨hx.1,by rw [hl];exact hx.2⟩
 refine ⟨by rw [hl];exact hS.n1,by rw [hl];exact hS.n10,hS.f60,fun i hi=>?_,fun i hi=>⟨hw (hS.f i hi).1,hw (hS.f i hi).2.1,(hS.f i hi).2.2⟩,fun i hi=>⟨hw (hS.s i hi).1,(hS.s i hi).2⟩,hS.s0⟩
 rw [hl] at hi
 show 0≤gi (dZ S k less) i∧gi (dZ S k less) i≤1000
 rw [Sj hi]
 have h1:=hS.d i hi
 have h2:=hS.d k hk
 split <;> omega
theorem shZ_hom (hS:S.ok) (hk:k<S.d.length) {less:Int} (h0:0≤less):Hom (shZ S k less) S id:=by
 have hl:(shZ S k less).d.length=S.d.length:=Lr
 refine ⟨fun {x} h=>⟨h.1,by have:=h.2;rw [hl] at this;exact this⟩,fun {x} h=>?_,fun h=>h,fun h=>h⟩
 have h1:=h.1
 have h2:=h.2
 rw [hl] at h2
 show gi (dZ S k less) x.toNat≤gi S.d x.toNat
 rw [Sj (by omega)]
 have:=hS.d k hk
 split
 ·rename_i he;rw [he];omega
 ·exact Int.le_refl _
end
noncomputable def rmA (S:Shp):Int:=if mnE S=0 then mnA S else 0
noncomputable def rmB (S:Shp):Int:=if mnE S=0 then mnB S else 1
theorem NY {S:Shp} {g:Int} (h0:dG S=0) (h1:1≤g) (h24:g≤24):nV S g=0∨nV S g=5:=by
 by_cases h:nV S g=0
 ·exact .inl h
 ·exact .inr (win_none (lim:=0) (AP h0 h1 h24) h).1
theorem Qx {S:Shp} (h0:dG S=0):mnE S=0∨mnE S=5:=by
 rw [Ih h0];split
 ·exact .inr rfl
 ·exact .inl rfl
theorem Sm {S:Shp}:0≤rmA S∧rmA S≤10001∧0≤rmB S∧rmB S≤10:=by
 unfold rmA rmB
 by_cases h:mnE S=0
 ·rw [if_pos h,if_pos h]
  have:=EH h
  have h1:=this.red.a0;have h2:=this.red.b0;have h3:=this.a;have h4:=this.b
  omega
 ·rw [if_neg h,if_neg h];omega
structure Less (X S:Shp) (g lim:Int):Prop where
 w:nV X g=0→nV S g=0∧wU X g≤wU S g
 we:nV X g=0∨nV X g=5
 m:mnE X=0→mnE S=0∧¬ rmA S*rmB X<rmA X*rmB S
 me:mnE X=0∨mnE X=5
 b:∀ n,n ∈ jr X g lim→n ∈ jr S g lim
theorem Hom.less {X S:Shp} (h:Hom X S id) (hX:dG X=0) (hS:dG S=0) {g lim:Int} (h1:1≤g) (h24:g≤24):Less X S g lim:=by
 refine ⟨fun he=>h.win hX hS h1 h24 he,NY hX h1 h24,fun he=>?_,Qx hX,fun n hn=>h.beg hX hS h1 h24 hn⟩
 obtain ⟨e1,e2⟩:=h.mnE hX hS he
 refine ⟨e1,?_⟩
 unfold rmA rmB
 rw [if_pos he,if_pos he,if_pos e1,if_pos e1]
 omega
end Go.AH.Dust
namespace Go.Proofs.Ytomioaiojidnbaa
open Go Go.AH Go.AH.Dust
theorem BD {σ:Heap} {S:Shp} {x y z:Nat} {v:Value} (hs:SAt σ x y z S) (hv:ShS x y z S v) (hS:S.fit) (h0:dG S=0) (hni:σ.all (fun o=>!dB o)=true) :
  Ev Try.prog 36 [v] σ (.tuple #[rtV (rmA S) (rmB S),.bool (decide (mnE S=0))]) σ:=by
 have h:=refMean_ev hs hv hS h0 hni
 unfold rmA rmB
 by_cases hE:mnE S=0
 ·rw [if_pos hE] at h;rw [if_pos hE,if_pos hE,decide_eq_true hE];exact h
 ·rw [if_neg hE] at h;rw [if_neg hE,if_neg hE,decide_eq_false hE];exact h
end Go.Proofs.Ytomioaiojidnbaa
namespace Go.AH.Dust
open Go Go.AH
theorem xR {σ:Heap} {n i p:Nat} {π:Rho} {a b c a' b' c':Value} (hi:π i=⟨p,0,0⟩) (h:σ[p]?=some (.rw [a',b',c'])) (h1:jv n π a a') (h2:jv n π b b') (h3:jv n π c c'):qU σ n π (π i) (.rw [a,b,c]):=by
 refine .inr ⟨by rw [hi],[a',b',c'],.inl (by rw [hi];exact h),Nat.le_refl _,fun k hk hk'=>?_⟩
 match k,hk with
 |0,_=>exact h1
 |1,_=>exact h2
 |2,_=>exact h3
theorem take_get {σ l:Heap} {m i:Nat} {o:cu} (h:σ.take m=l) (hi:i<m) (ho:l[i]?=some o):σ[i]?=some o:=by rw [← ho,← h,List.getElem?_take_of_lt hi]
theorem nX {S:Shp} {w:List Value} (hw:gy w=true) {X:List (Int×Int)} {σ:Heap} {j:Nat} {v:Value} (h:σ.take 8=[.ro (ints S.d),.ro (pc S.f),.ro (ints S.s),.rw (shL 0 1 2 S),.rw w,.rw [sl 0 S.d.length,v,sl 2 S.s.length],.rw (shL 0 1 2 S),.rw (shL 0 1 2 S)])
  (hv:jv 9 (je 8 [j]) (sl 8 X.length) v) (hx:qU σ 9 (je 8 [j]) (je 8 [j] 8) (.rw (pc X))) :
  nT σ 9 (je 8 [j]) 0 [.ro (ints S.d),.ro (pc S.f),.ro (ints S.s),.rw (shL 0 1 2 S),.rw w,.rw [sl 0 S.d.length,sl 8 X.length,sl 2 S.s.length],.rw (shL 0 1 2 S),.rw (shL 0 1 2 S),.rw (pc X)] :=
 have g {i:Nat} {o:cu} (hi:i<8) (ho:_):σ[i]?=some o:=take_get h hi ho
 have q {a b:Nat} (ha:a<8):jv 9 (je 8 [j]) (sl a b) (sl a b):=gu (by omega) (aY ha) (Nat.le_refl _)
 have s:fJ 8 (.rw (shL 0 1 2 S)):=iq (by omega) (by omega) (by omega)
 ⟨eU (by omega) (by omega) (g (by omega) rfl) (ay (aK _)),eU (by omega) (by omega) (g (by omega) rfl) (ay (dJ _)),eU (by omega) (by omega) (g (by omega) rfl) (ay (aK _)),
  eU (by omega) (by omega) (g (by omega) rfl) s,eU (by omega) (by omega) (g (by omega) rfl) (ay hw),xR (p:=5) (aY (by omega)) (g (by omega) rfl) (q (by omega)) hv (q (by omega)),
  eU (by omega) (by omega) (g (by omega) rfl) s,eU (by omega) (by omega) (g (by omega) rfl) s,hx,trivial⟩
theorem nY {S:Shp} {w:List Value} (hw:gy w=true) {F:List (Int×Int)} {X:List Int} {σ:Heap} {j:Nat} {v:Value} (h:σ.take 9=[.ro (ints S.d),.ro (pc S.f),.ro (ints S.s),.rw (shL 0 1 2 S),.rw w,.rw [sl 0 S.d.length,sl 8 F.length,sl 2 S.s.length],.rw [sl 0 S.d.length,sl 1 S.f.length,v],.rw (shL 0 1 2 S),.rw (pc F)])
  (hv:jv 10 (je 9 [j]) (sl 9 X.length) v) (hx:qU σ 10 (je 9 [j]) (je 9 [j] 9) (.rw (ints X))) :
  nT σ 10 (je 9 [j]) 0 [.ro (ints S.d),.ro (pc S.f),.ro (ints S.s),.rw (shL 0 1 2 S),.rw w,.rw [sl 0 S.d.length,sl 8 F.length,sl 2 S.s.length],.rw [sl 0 S.d.length,sl 1 S.f.length,sl 9 X.length],.rw (shL 0 1 2 S),.rw (pc F),.rw (ints X)] :=
 have g {i:Nat} {o:cu} (hi:i<9) (ho:_):σ[i]?=some o:=take_get h hi ho
 have q {a b:Nat} (ha:a<9):jv 10 (je 9 [j]) (sl a b) (sl a b):=gu (by omega) (aY ha) (Nat.le_refl _)
 have s:fJ 9 (.rw (shL 0 1 2 S)):=iq (by omega) (by omega) (by omega)
 ⟨eU (by omega) (by omega) (g (by omega) rfl) (ay (aK _)),eU (by omega) (by omega) (g (by omega) rfl) (ay (dJ _)),eU (by omega) (by omega) (g (by omega) rfl) (ay (aK _)),
  eU (by omega) (by omega) (g (by omega) rfl) s,eU (by omega) (by omega) (g (by omega) rfl) (ay hw),xR (p:=5) (aY (by omega)) (g (by omega) rfl) (q (by omega)) (q (by omega)) (q (by omega)),
  xR (p:=6) (aY (by omega)) (g (by omega) rfl) (q (by omega)) (q (by omega)) hv,eU (by omega) (by omega) (g (by omega) rfl) s,eU (by omega) (by omega) (g (by omega) rfl) (ay (dJ _)),hx,trivial⟩
theorem aF {i sz n:Nat}:gB (dL i sz n)=[dL i sz n]:=by cases n <;> rfl
theorem dU {i sz n:Nat}:[dL i sz n].all (·.oneCell')=true:=by cases n <;> rfl
theorem putGr {σ:Heap} {b o t:Nat} {cs vs cs':List Value} (h:σ[b]?=some (.gr cs t)) (hl:o+vs.length≤cs.length) (h0:0<cs.length) (he:splice cs o vs=cs'):putCells σ b o vs=some (σ.set b (.gr cs' t)):=by
 have e1:Nat.ble (o+vs.length) cs.length=true:=Nat.ble_eq_true_of_le hl
 have e2:Nat.blt 0 cs.length=true:=Nat.blt_eq.mpr h0
 simp only [putCells,h,e1,e2,Bool.and_self,cond_true,he]
theorem NZ {σ:Heap} {x:Nat} {f:List (Int×Int)} (hx:jL σ x (pc f)) {a n:Nat} (h:a+n≤f.length):dh σ x (a*2) (n*2)=some (pc ((f.drop a).take n)):=by
 have hl:=yD f
 have e:((pc f).drop (a*2)).take (n*2)=pc ((f.drop a).take n):=by
  clear hx hl
  induction a generalizing f with
  |zero =>
   rw [Nat.zero_mul,List.drop_zero,List.drop_zero]
   induction n generalizing f with
   |zero=>simp [pc]
   |succ n ih =>
    match f,h with
    |[],h=>simp at h
    |p::f,h =>
     show (Value.int .i64 p.1::Value.int .i64 p.2::pc f).take ((n+1)*2)=_
     rw [show (n+1)*2=n*2+1+1 by omega,List.take_succ_cons,List.take_succ_cons,List.take_succ_cons,ih (by simp at h;omega)];rfl
  |succ a ih =>
   match f,h with
   |[],h=>simp at h
   |p::f,h =>
    show ((Value.int .i64 p.1::Value.int .i64 p.2::pc f).drop ((a+1)*2)).take (n*2)=_
    rw [show (a+1)*2=a*2+1+1 by omega,List.drop_succ_cons,List.drop_succ_cons,List.drop_succ_cons,ih (by simp at h;omega)]
 rcases hx with h2|h2|⟨t,h2⟩ <;> simp only [dh,h2] <;> rw [show Nat.ble (a*2+n*2) (pc f).length=true from Nat.ble_eq.mpr (by omega),e] <;> rfl
theorem pc_append (l m:List (Int×Int)):pc (l++m)=pc l++pc m:=by
 induction l with
 |nil=>rfl
 |cons a l ih=>simp [pc,ih]
theorem J8:∀ l:List (Int×Int),(pc l).all (·.oneCell')=true
 |[]=>rfl
 |p::l=>by
  have h:=J8 l
  simp only [pc,List.all_cons,h];rfl
theorem AU {σ:Heap} {x:Nat} {l:List Int} (hx:jL σ x (ints l)) {a n:Nat} (h:a+n≤l.length):dh σ x a n=some (ints ((l.drop a).take n)):=by
 have hl:(ints l).length=l.length:=by simp [ints]
 rcases hx with h2|h2|⟨t,h2⟩ <;> simp only [dh,h2] <;> rw [show Nat.ble (a+n) (ints l).length=true from Nat.ble_eq.mpr (by omega)] <;> simp [ints,List.map_take,List.map_drop]
end Go.AH.Dust
