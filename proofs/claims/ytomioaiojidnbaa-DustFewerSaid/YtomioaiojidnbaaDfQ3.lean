/- Fractions in least terms, plainly; Of and Less of the reference, ratio and less of dust. -/
import Derived.Test.YtomioaiojidnbaaDfQ2
import Derived.Test.YtomioaiojidnbaaDfQ1
namespace Go.AH.Dust
open Go Go.AH
def sumW (c:Int→Int) (p:Nat→Int):Nat→Int
 |0=>0
 |k+1=>sumW c p k+c (p k)
def qw (S:Shp) (p:Nat→Int) (h:Nat):Prop:=∀ i,i<h→(p i,p (i+1)) ∈ S.f
def cS (S:Shp) (x:Int):Int:=gi S.d x.toNat
theorem oI {c:Int→Int} {p q:Nat→Int}:∀ {k:Nat},(∀ i,i<k→p i=q i)→sumW c p k=sumW c q k
 |0,_=>rfl
 |k+1,h=>by simp only [sumW,oI (k:=k) fun i hi=>h i (by omega),h k (by omega)]
theorem lD (c:Int→Int) (p:Nat→Int) (i:Nat):∀ m,sumW c p (i+m)=sumW c p i+sumW c (fun k=>p (k+i)) m
 |0=>by simp [sumW]
 |m+1=>by
  have ih:=lD c p i m
  rw [← Nat.add_assoc]
  simp only [sumW]
  rw [ih,Nat.add_comm i m];omega
theorem Ju (c:Int→Int) (p:Nat→Int) (a b:Int):∀ k:Nat,sumW (fun x=>b*c x - a) p k=b*sumW c p k - a*(k:Int)
 |0=>by simp [sumW]
 |k+1=>by
  have ih:=Ju c p a b k
  simp only [sumW,ih]
  rw [Int.mul_add,show (((k+1:Nat)):Int)=(k:Int)+1 from rfl,Int.mul_add,Int.mul_one];omega
theorem KW:∀ (n:Nat) (p:Nat→Nat),(∀ i,i≤n→p i<n)→∃ i j,i<j∧j≤n∧p i=p j
 |0,p,h=>by have:=h 0 (by omega);omega
 |n+1,p,h=>by
  by_cases hx:∃ i,i<n+1∧p i=p (n+1)
  ·obtain ⟨i,h1,h2⟩:=hx
   exact ⟨i,n+1,h1,by omega,h2⟩
  ·have hx':∀ i,i<n+1→p i ≠ p (n+1):=fun i hi he=>hx ⟨i,hi,he⟩
   have hl:=h (n+1) (by omega)
   obtain ⟨i,j,h1,h2,h3⟩:=KW n (fun i=>if p i=n then p (n+1) else p i) (fun i hi=>by
    have:=h i (by omega)
    have:=hx' i (by omega)
    split <;> omega)
   refine ⟨i,j,h1,by omega,?_⟩
   have hi:=hx' i (by omega)
   have hj:=hx' j (by omega)
   split at h3 <;> split at h3 <;> omega
def yG (p:Nat→Int) (i j k:Nat):Int:=if k<i then p k else p (k+(j - i))
theorem Hl {S:Shp} {p:Nat→Int} {h i j:Nat} (c:Int→Int) (hw:qw S p h) (hij:i<j) (hj:j≤h) (he:p i=p j) :
  qw S (yG p i j) (h - (j - i))∧yG p i j 0=p 0∧yG p i j (h - (j - i))=p h∧sumW c (yG p i j) (h - (j - i))=sumW c p h - sumW c (fun k=>p (k+i)) (j - i):=by
 refine ⟨fun k hk=>?_,?_,?_,?_⟩
 ·unfold yG
  by_cases h1:k+1<i
  ·rw [if_pos (by omega),if_pos h1];exact hw k (by omega)
  ·by_cases h2:k<i
   ·have e:k+1=i:=by omega
    rw [if_pos h2,if_neg h1,show k+1+(j - i)=j by omega,← he,← e];exact hw k (by omega)
   ·rw [if_neg h2,if_neg h1,show k+1+(j - i)=k+(j - i)+1 by omega];exact hw _ (by omega)
 ·unfold yG
  by_cases h1:0<i
  ·rw [if_pos h1]
  ·obtain rfl:i=0:=by omega
   rw [if_neg h1,he];simp
 ·unfold yG
  rw [if_neg (by omega),show h - (j - i)+(j - i)=h by omega]
 ·rw [show h - (j - i)=i+(h - j) by omega,lD]
  have e1:sumW c (yG p i j) i=sumW c p i:=oI fun k hk=>by unfold yG;rw [if_pos hk]
  have e2:sumW c (fun k=>yG p i j (k+i)) (h - j)=sumW c (fun k=>p (k+j)) (h - j):=oI fun k hk=>by
   unfold yG;rw [if_neg (by omega),show k+i+(j - i)=k+j by omega]
  have e3:=lD c p j (h - j)
  have e4:=lD c p i (j - i)
  rw [show j+(h - j)=h by omega] at e3
  rw [show i+(j - i)=j by omega] at e4
  omega
theorem Nj {S:Shp} {p:Nat→Int} {h i j:Nat} (hw:qw S p h) (hj:j≤h):qw S (fun k=>p (k+i)) (j - i):=fun k hk=>by
 have:=hw (k+i) (by omega)
 rwa [show k+i+1=k+1+i by omega] at this
def wL (p:Nat→Int) (h:Nat) (q:Nat→Int) (k:Nat):Int:=if k≤h then p k else q (k - h)
theorem PK {S:Shp} {p q:Nat→Int} {h m:Nat} (c:Int→Int) (hp:qw S p h) (hq:qw S q m) (he:q 0=p h) :
  qw S (wL p h q) (h+m)∧wL p h q 0=p 0∧wL p h q (h+m)=q m∧sumW c (wL p h q) (h+m)=sumW c p h+sumW c q m:=by
 refine ⟨fun k hk=>?_,by simp [wL],?_,?_⟩
 ·unfold wL
  by_cases h1:k+1≤h
  ·rw [if_pos (by omega),if_pos h1];exact hp k (by omega)
  ·by_cases h2:k≤h
   ·obtain rfl:k=h:=by omega
    rw [if_pos h2,if_neg h1,← he,show k+1 - k=0+1 by omega];exact hq 0 (by omega)
   ·rw [if_neg h2,if_neg h1,show k+1 - h=k - h+1 by omega];exact hq _ (by omega)
 ·unfold wL
  by_cases h1:m=0
  ·subst h1;rw [if_pos (by omega)];exact he.symm
  ·rw [if_neg (by omega),show h+m - h=m by omega]
 ·rw [lD]
  have e1:sumW c (wL p h q) h=sumW c p h:=oI fun k hk=>by unfold wL;rw [if_pos (by omega)]
  have e2:sumW c (fun k=>wL p h q (k+h)) m=sumW c q m:=oI fun k hk=>by
   unfold wL
   by_cases h0:k=0
   ·subst h0;rw [if_pos (by omega),Nat.zero_add];exact he.symm
   ·rw [if_neg (by omega),show k+h - h=k by omega]
  rw [e1,e2]
theorem wk_isW {S:Shp} (hS:S.ok) {p:Nat→Int} {h:Nat} (hw:qw S p h) (h0:isW S (p 0)):∀ i,i≤h→isW S (p i)
 |0,_=>h0
 |i+1,hi=>(rE hS (hw i (by omega))).2
theorem Ho {S:Shp} {p:Nat→Int} {h:Nat} (hw:qw S p h) (h0:Rch S (p 0)):∀ i,i≤h→Rch S (p i)
 |0,_=>h0
 |i+1,hi=>.next (Ho hw h0 i (by omega)) (hw i (by omega))
theorem oW {S:Shp} (hS:S.ok) {p:Nat→Int} {h:Nat} (hw:qw S p h) (h0:isW S (p 0)) (hn:S.d.length≤h):∃ i j,i<j∧j≤S.d.length∧p i=p j:=by
 have hwk:=wk_isW hS hw h0
 obtain ⟨i,j,h1,h2,h3⟩:=KW S.d.length (fun i=>(p i).toNat) (fun i hi=>by
  have:=hwk i (by omega)
  have h1:=this.1;have h2:=this.2
  omega)
 have hi:=hwk i (by omega)
 have hj:=hwk j (by omega)
 have hi1:=hi.1;have hj1:=hj.1
 exact ⟨i,j,h1,h2,by omega⟩
theorem ng {S:Shp} (hS:S.ok) {p:Nat→Int}:∀ {h:Nat},qw S p h→0≤sumW (cS S) p h∧sumW (cS S) p h≤1000*(h:Int)
 |0,_=>by simp [sumW]
 |h+1,hw=>by
  have ih:=ng hS (h:=h) fun i hi=>hw i (by omega)
  have hp:=(rE hS (hw h (by omega))).1
  have hp1:=hp.1;have hp2:=hp.2
  have hd:=hS.d (p h).toNat (by omega)
  simp only [sumW]
  unfold cS at *
  omega
structure Cyc (S:Shp) (p:Nat→Int) (h:Nat):Prop where
 h0:0<h
 wk:qw S p h
 cl:p h=p 0
 rch:Rch S (p 0)
structure jc (S:Shp) (a b:Int):Prop where
 b0:0<b
 le:∀ p h,Cyc S p h→b*sumW (cS S) p h≤a*(h:Int)
 att:∃ p h,Cyc S p h∧b*sumW (cS S) p h=a*(h:Int)
theorem Cyc.part {S:Shp} {p:Nat→Int} {h i j:Nat} (hw:qw S p h) (h0:Rch S (p 0)) (hij:i<j) (hj:j≤h) (he:p i=p j):Cyc S (fun k=>p (k+i)) (j - i) :=
 ⟨by omega,Nj hw hj,by rw [show j - i+i=j by omega,Nat.zero_add];exact he.symm,by rw [Nat.zero_add];exact Ho hw h0 i (by omega)⟩
theorem FD {S:Shp} (hS:S.ok) {a b:Int} (hs:∀ p h,h≤S.d.length→Cyc S p h→b*sumW (cS S) p h≤a*(h:Int)):∀ (h:Nat) (p:Nat→Int),Cyc S p h→b*sumW (cS S) p h≤a*(h:Int):=by
 intro h
 induction h using Nat.strongRecOn with
 |_ h ih =>
  intro p hc
  by_cases hn:h≤S.d.length
  ·exact hs p h hn hc
  ·obtain ⟨i,j,h1,h2,h3⟩:=oW hS hc.wk (lY hS hc.rch) (by omega)
   obtain ⟨c1,c2,c3,c4⟩:=Hl (cS S) hc.wk h1 (by omega) h3
   have l1:=ih (h - (j - i)) (by omega) (yG p i j) ⟨by omega,c1,by rw [c2,c3];exact hc.cl,by rw [c2];exact hc.rch⟩
   have l2:=ih (j - i) (by omega) _ (Cyc.part hc.wk hc.rch h1 (by omega) h3)
   rw [c4] at l1
   rw [Int.mul_sub] at l1
   have e:((h - (j - i):Nat):Int)=(h:Int) - ((j - i:Nat):Int):=by omega
   rw [e,Int.mul_sub] at l1
   omega
theorem jc.uniq {S:Shp} {a b a' b':Int} (h:jc S a b) (h':jc S a' b'):a*b'=a'*b:=by
 have key:∀ {a b a' b':Int},jc S a b→jc S a' b'→a*b'≤a'*b:=by
  intro a b a' b' h h'
  obtain ⟨p,k,hc,he⟩:=h.att
  have hl:=h'.le p k hc
  have hk:(0:Int)<(k:Int):=by have:=hc.h0;omega
  refine Int.le_of_mul_le_mul_right (a:=(k:Int)) ?_ hk
  have e1:a*b'*(k:Int)=b'*(a*(k:Int)):=by rw [Int.mul_comm a b',Int.mul_assoc]
  have e2:a'*b*(k:Int)=b*(a'*(k:Int)):=by rw [Int.mul_comm a' b,Int.mul_assoc]
  rw [e1,e2,← he]
  have:=Int.mul_le_mul_of_nonneg_left hl (Int.le_of_lt h.b0)
  rw [← Int.mul_assoc,Int.mul_comm b b',Int.mul_assoc] at this
  exact this
 exact Int.le_antisymm (key h h') (key h' h)
theorem jc.congr {S:Shp} {a b a' b':Int} (h:jc S a b) (hb:0<b') (he:a*b'=a'*b):jc S a' b':=by
 have key:∀ w k:Int,b*(a'*k - b'*w)=b'*(a*k - b*w):=fun w k=>by
  rw [Int.mul_sub,Int.mul_sub]
  have e1:b*(a'*k)=b'*(a*k):=by rw [← Int.mul_assoc,← Int.mul_assoc,Int.mul_comm b a',← he,Int.mul_comm a b']
  have e2:b*(b'*w)=b'*(b*w):=by rw [← Int.mul_assoc,← Int.mul_assoc,Int.mul_comm b b']
  rw [e1,e2]
 refine ⟨hb,fun p k hc=>?_,?_⟩
 ·have hl:=h.le p k hc
  have hk:=key (sumW (cS S) p k) (k:Int)
  have h1:0≤b'*(a*(k:Int) - b*sumW (cS S) p k):=Int.mul_nonneg (Int.le_of_lt hb) (by omega)
  rw [← hk] at h1
  have:=Int.nonneg_of_mul_nonneg_right h1 h.b0
  omega
 ·obtain ⟨p,k,hc,hx⟩:=h.att
  refine ⟨p,k,hc,?_⟩
  have hk:=key (sumW (cS S) p k) (k:Int)
  rw [hx,Int.sub_self,Int.mul_zero] at hk
  rcases Int.mul_eq_zero.1 hk with h1|h1
  ·have:=h.b0;omega
  ·omega
theorem PN {α:Type} (P:α→Prop) (le:α→α→Prop) (tot:∀ x y,P x→P y→le x y∨le y x) (tr:∀ x y z,P x→P y→P z→le x y→le y z→le x z):∀ l:List α,(∃ x,x ∈ l∧P x)→∃ x,x ∈ l∧P x∧∀ y,y ∈ l→P y→le y x
 |[],⟨x,h,_⟩=>by simp at h
 |a::l,h=>by
  have refl:∀ x,P x→le x x:=fun x hx=>(tot x x hx hx).elim id id
  by_cases hl:∃ x,x ∈ l∧P x
  ·obtain ⟨x,x1,x2,x3⟩:=PN P le tot tr l hl
   by_cases ha:P a
   ·rcases tot a x ha x2 with h1|h1
    ·exact ⟨x,by simp [x1],x2,fun y hy hp=>by
      rcases List.mem_cons.1 hy with rfl|hy
      ·exact h1
      ·exact x3 y hy hp⟩
    ·exact ⟨a,by simp,ha,fun y hy hp=>by
      rcases List.mem_cons.1 hy with rfl|hy
      ·exact refl _ hp
      ·exact tr _ _ _ hp x2 ha (x3 y hy hp) h1⟩
   ·exact ⟨x,by simp [x1],x2,fun y hy hp=>by
     rcases List.mem_cons.1 hy with rfl|hy
     ·exact absurd hp ha
     ·exact x3 y hy hp⟩
  ·obtain ⟨x,x1,x2⟩:=h
   rcases List.mem_cons.1 x1 with rfl|hx
   ·exact ⟨x,by simp,x2,fun y hy hp=>by
     rcases List.mem_cons.1 hy with rfl|hy
     ·exact refl _ hp
     ·exact absurd ⟨y,hy,hp⟩ hl⟩
   ·exact absurd ⟨x,hx,x2⟩ hl
def Hq (m n:Nat):List (Nat×Nat):=(List.range m).flatMap fun i=>(List.range n).map fun j=>(i,j)
theorem mem_pairsB {m n:Nat} {x:Nat×Nat} (h1:x.1<m) (h2:x.2<n):x ∈ Hq m n:=by
 unfold Hq
 rw [List.mem_flatMap]
 exact ⟨x.1,by simpa using h1,by rw [List.mem_map];exact ⟨x.2,by simpa using h2,rfl⟩⟩
theorem Hr {S:Shp} (hS:S.ok) {p:Nat→Int} {h:Nat} (hc:Cyc S p h):∃ a b,jc S a b:=by
 have short:∀ (h:Nat) (p:Nat→Int),Cyc S p h→∃ q k,k≤S.d.length∧Cyc S q k:=by
  intro h p hc
  by_cases hn:h≤S.d.length
  ·exact ⟨p,h,hn,hc⟩
  ·obtain ⟨i,j,h1,h2,h3⟩:=oW hS hc.wk (lY hS hc.rch) (by omega)
   exact ⟨_,j - i,by omega,Cyc.part hc.wk hc.rch h1 (by omega) h3⟩
 have bound:∀ {q:Nat→Int} {k:Nat},k≤S.d.length→Cyc S q k→((k,(sumW (cS S) q k).toNat):Nat×Nat) ∈ Hq 11 10001:=fun {q k} hk hq=>by
  have:=ng hS hq.wk
  have n10:=hS.n10
  exact mem_pairsB (by simp only;omega) (by simp only;omega)
 obtain ⟨q,k,hk,hq⟩:=short h p hc
 obtain ⟨x,_,⟨qx,hxk,hqx,hxw⟩,x3⟩:=PN (fun x:Nat×Nat=>∃ q,x.1≤S.d.length∧Cyc S q x.1∧sumW (cS S) q x.1=(x.2:Int)) (fun x y=>x.2*y.1≤y.2*x.1)
  (fun x y _ _=>Nat.le_total _ _) (fun x y z ⟨qx,_,cx,_⟩ ⟨qy,_,cy,_⟩ ⟨qz,_,cz,_⟩ h1 h2=>by
   have hy:=cy.h0
   refine Nat.le_of_mul_le_mul_right (c:=y.1) ?_ hy
   have e1:x.2*z.1*y.1=x.2*y.1*z.1:=by rw [Nat.mul_assoc,Nat.mul_comm z.1,← Nat.mul_assoc]
   have e2:z.2*x.1*y.1=z.2*y.1*x.1:=by rw [Nat.mul_assoc,Nat.mul_comm x.1,← Nat.mul_assoc]
   rw [e1,e2]
   have e3:y.2*x.1*z.1=y.2*z.1*x.1:=by rw [Nat.mul_assoc,Nat.mul_comm x.1,← Nat.mul_assoc]
   exact Nat.le_trans (Nat.mul_le_mul_right _ h1) (by rw [e3];exact Nat.mul_le_mul_right _ h2)) (Hq 11 10001)
  ⟨_,bound hk hq,q,hk,hq,by have:=ng hS hq.wk;simp only;omega⟩
 refine ⟨(x.2:Int),(x.1:Int),by have:=hqx.h0;omega,?_,qx,x.1,hqx,by rw [hxw,Int.mul_comm]⟩
 refine fun p h hc=>FD hS (a:=(x.2:Int)) (b:=(x.1:Int)) (fun p h hn hc=>?_) h p hc
 have hb:=ng hS hc.wk
 have:=x3 _ (bound hn hc) ⟨p,hn,hc,by simp only;omega⟩
 simp only at this
 have h2:((sumW (cS S) p h).toNat:Int)*(x.1:Int)≤(x.2:Int)*(h:Int):=by exact_mod_cast this
 rw [show ((sumW (cS S) p h).toNat:Int)=sumW (cS S) p h by omega,Int.mul_comm] at h2
 exact h2
end Go.AH.Dust
namespace Go.AH.Dust
open Go Go.AH
def wyF (S:Shp) (m:Nat→Int) (v:Nat):Nat→Int
 |0=>-1
 |k+1=>if (gf S.f k).2=v∧0≤m (gf S.f k).1.toNat then max (wyF S m v k) (m (gf S.f k).1.toNat+gi S.d (gf S.f k).1.toNat) else wyF S m v k
def wyB (S:Shp) (base:Nat→Int):Nat→Nat→Int
 |0,v=>base v
 |h+1,v=>wyF S (wyB S base h) v S.f.length
theorem PO {S:Shp} {m:Nat→Int} {v:Nat}:∀ k,-1≤wyF S m v k
 |0=>by simp [wyF]
 |k+1=>by
  have ih:=PO (S:=S) (m:=m) (v:=v) k
  unfold wyF;split <;> omega
theorem PU {S:Shp} {m:Nat→Int} {v:Nat}:∀ {k j:Nat},j<k→(gf S.f j).2=v→0≤m (gf S.f j).1.toNat→m (gf S.f j).1.toNat+gi S.d (gf S.f j).1.toNat≤wyF S m v k
 |k+1,j,hj,h1,h2=>by
  by_cases hjk:j=k
  ·subst hjk
   unfold wyF;rw [if_pos ⟨h1,h2⟩];omega
  ·have ih:=PU (S:=S) (m:=m) (v:=v) (k:=k) (j:=j) (by omega) h1 h2
   unfold wyF;split <;> omega
theorem KX {S:Shp} {m:Nat→Int} {v:Nat}:∀ k,0≤wyF S m v k→∃ j,j<k∧(gf S.f j).2=v∧0≤m (gf S.f j).1.toNat∧wyF S m v k=m (gf S.f j).1.toNat+gi S.d (gf S.f j).1.toNat
 |0,h=>by simp [wyF] at h
 |k+1,h=>by
  unfold wyF at h ⊢
  split
  ·rename_i hc
   rw [if_pos hc] at h
   rcases Int.le_total (m (gf S.f k).1.toNat+gi S.d (gf S.f k).1.toNat) (wyF S m v k) with hle|hle
   ·rw [Int.max_eq_left hle] at h ⊢
    obtain ⟨j,j1,j2,j3,j4⟩:=KX k h
    exact ⟨j,by omega,j2,j3,j4⟩
   ·rw [Int.max_eq_right hle]
    exact ⟨k,by omega,hc.1,hc.2,rfl⟩
  ·rename_i hc
   rw [if_neg hc] at h
   obtain ⟨j,j1,j2,j3,j4⟩:=KX k h
   exact ⟨j,by omega,j2,j3,j4⟩
theorem Aw {S:Shp} (hS:S.ok) {base:Nat→Int} {p:Nat→Int} (h0:base (p 0).toNat=0):∀ {h:Nat},qw S p h→sumW (cS S) p h≤wyB S base h (p h).toNat∧0≤wyB S base h (p h).toNat
 |0,_=>by simp [sumW,wyB,h0]
 |h+1,hw=>by
  have hw':qw S p h:=fun i hi=>hw i (by omega)
  obtain ⟨i1,i2⟩:=Aw hS h0 hw'
  have hb:=ng hS hw'
  obtain ⟨j,j1,j2⟩:=jW.1 (hw h (by omega))
  have hq:=rE hS (hw h (by omega))
  have hq1:=hq.2.1
  have hg:=PU (S:=S) (m:=wyB S base h) (v:=(p (h+1)).toNat) (k:=S.f.length) j1 (by rw [j2];simp only;omega) (by rw [j2];exact i2)
  rw [j2] at hg
  simp only at hg
  have hd:=hS.d (p h).toNat (by have h1:=hq.1.1;have h2:=hq.1.2;omega)
  simp only [sumW,wyB]
  unfold cS at *
  omega
theorem um {S:Shp} (hS:S.ok) {base:Nat→Int} (hb:∀ v,v<S.d.length→base v=-1∨base v=0):∀ {h v:Nat},v<S.d.length→0≤wyB S base h v→∃ p,qw S p h∧p h=(v:Int)∧isW S (p 0)∧base (p 0).toNat=0∧sumW (cS S) p h=wyB S base h v
 |0,v,hv,h=>by
  refine ⟨fun _=>(v:Int),fun i hi=>by omega,rfl,⟨by simp only;omega,by simp only;omega⟩,?_,?_⟩
  ·simp only [wyB] at h
   rcases hb v hv with h1|h1
   ·omega
   ·simpa using h1
  ·simp only [wyB] at h ⊢
   rcases hb v hv with h1|h1
   ·omega
   ·simp [sumW,h1]
 |h+1,v,hv,hh=>by
  simp only [wyB] at hh
  obtain ⟨j,j1,j2,j3,j4⟩:=KX _ hh
  have hf:=hS.f j j1
  have ha:=hf.1.1;have ha2:=hf.1.2
  obtain ⟨p,p1,p2,p3,p4,p5⟩:=um hS hb (h:=h) (v:=(gf S.f j).1.toNat) (by omega) j3
  have hp:(gf S.f j)=(p h,(v:Int)):=by rw [p2];exact Prod.ext (by simp only;omega) j2
  have e1:∀ i,i≤h→(if i≤h then p i else (v:Int))=p i:=fun i hi=>if_pos hi
  refine ⟨fun i=>if i≤h then p i else (v:Int),fun i hi=>?_,by simp only;rw [if_neg (by omega)],by simp only;rw [if_pos (by omega)];exact p3,by simp only;rw [if_pos (by omega)];exact p4,?_⟩
  ·simp only
   rw [if_pos (by omega)]
   by_cases hih:i=h
   ·subst hih
    rw [if_neg (by omega),← hp]
    exact jW.2 ⟨j,j1,rfl⟩
   ·rw [if_pos (by omega)];exact p1 i (by omega)
  ·simp only [sumW,wyB]
   rw [oI (q:=p) fun i hi=>e1 i (by omega),e1 h (Nat.le_refl _),p5,j4,p2]
   unfold cS
   rw [Int.toNat_natCast]
theorem oZ {S:Shp} (hS:S.ok) {base:Nat→Int} (hb:∀ v,v<S.d.length→base v=-1∨base v=0) {h v:Nat} (hv:v<S.d.length):-1≤wyB S base h v∧wyB S base h v≤1000*(h:Int):=by
 by_cases h0:0≤wyB S base h v
 ·obtain ⟨p,p1,_,_,_,p5⟩:=um hS hb hv h0
  have:=ng hS p1
  omega
 ·cases h with
  |zero =>
   simp only [wyB] at *
   rcases hb v hv with h1|h1 <;> omega
  |succ h =>
   have:=PO (S:=S) (m:=wyB S base h) (v:=v) S.f.length
   simp only [wyB] at *
   omega
noncomputable def bR (S:Shp) (v:Nat):Int:=if rB S v=true then 0 else -1
def bO (i v:Nat):Int:=if v=i then 0 else -1
theorem tX (S:Shp) (v:Nat):bR S v=-1∨bR S v=0:=by unfold bR;split <;> simp
theorem PV (i v:Nat):bO i v=-1∨bO i v=0:=by unfold bO;split <;> simp
theorem wM {S:Shp} {x:Int} (hx:isW S x):bR S x.toNat=0↔Rch S x:=by
 have h1:=hx.1
 unfold bR
 have e:((x.toNat:Nat):Int)=x:=by omega
 by_cases h:rB S x.toNat=true
 ·rw [if_pos h];have:=lQ.1 h;rw [e] at this;simp [this]
 ·rw [if_neg h]
  constructor
  ·intro h2;simp at h2
  ·intro h2;exact absurd (lQ.2 (by rw [e];exact h2)) h
noncomputable abbrev wR (S:Shp) (h v:Nat):Int:=wyB S (bR S) h v
structure zC (S:Shp) (v:Nat) (a b:Int):Prop where
 att:∃ h,h<S.d.length∧0≤wR S h v∧a=wR S S.d.length v - wR S h v∧b=((S.d.length - h:Nat):Int)
 le:∀ h,h<S.d.length→0≤wR S h v→a*((S.d.length - h:Nat):Int)≤(wR S S.d.length v - wR S h v)*b
section
variable {S:Shp} {A B:Int}
abbrev sv (S:Shp) (A B:Int) (p:Nat→Int) (h:Nat):Int:=sumW (fun x=>B*cS S x - A) p h
theorem Bq (p:Nat→Int) (h:Nat):sv S A B p h=B*sumW (cS S) p h - A*(h:Int):=Ju _ _ _ _ _
theorem jc.sv0 (hM:jc S A B) {p:Nat→Int} {h:Nat} (hc:Cyc S p h):sv S A B p h≤0:=by
 have:=hM.le p h hc
 rw [Bq];omega
theorem Ej (hS:S.ok) (hM:jc S A B):∀ (h:Nat) (p:Nat→Int),qw S p h→Rch S (p 0)→∃ q k,k<S.d.length∧qw S q k∧q 0=p 0∧q k=p h∧sv S A B p h≤sv S A B q k:=by
 intro h
 induction h using Nat.strongRecOn with
 |_ h ih =>
  intro p hw h0
  by_cases hn:h<S.d.length
  ·exact ⟨p,h,hn,hw,rfl,rfl,Int.le_refl _⟩
  ·obtain ⟨i,j,h1,h2,h3⟩:=oW hS hw (lY hS h0) (by omega)
   obtain ⟨c1,c2,c3,c4⟩:=Hl (fun x=>B*cS S x - A) hw h1 (by omega) h3
   have hm:=hM.sv0 (Cyc.part hw h0 h1 (by omega) h3)
   obtain ⟨q,k,q1,q2,q3,q4,q5⟩:=ih (h - (j - i)) (by omega) (yG p i j) c1 (by rw [c2];exact h0)
   refine ⟨q,k,q1,q2,by rw [q3,c2],by rw [q4,c3],?_⟩
   unfold sv at *
   omega
theorem least_le (hS:S.ok) (hM:jc S A B) {v:Nat} (hv:v<S.d.length) (h0:0≤wR S S.d.length v) {a b:Int} (hl:zC S v a b):a*B≤A*b:=by
 obtain ⟨p,p1,p2,p3,p4,p5⟩:=um hS (fun v _=>tX S v) hv h0
 obtain ⟨i,j,h1,h2,h3⟩:=oW hS p1 p3 (Nat.le_refl _)
 have hr:Rch S (p 0):=(wM p3).1 p4
 obtain ⟨c1,c2,c3,c4⟩:=Hl (cS S) p1 h1 h2 h3
 have hm:=hM.le _ _ (Cyc.part p1 hr h1 h2 h3)
 have hg:=Aw hS (base:=bR S) (p:=yG p i j) (by rw [c2];exact p4) c1
 rw [c3,p2,Int.toNat_natCast,c4,p5] at hg
 obtain ⟨h,e1,e2,e3,e4⟩:=hl.att
 have hle:=hl.le (S.d.length - (j - i)) (by omega) hg.2
 have hb:0<b:=by rw [e4];omega
 rw [show S.d.length - (S.d.length - (j - i))=j - i by omega] at hle
 have hw:wR S S.d.length v - wR S (S.d.length - (j - i)) v≤sumW (cS S) (fun k=>p (k+i)) (j - i):=by
  have:=hg.1;simp only [wR] at *;omega
 generalize wR S S.d.length v - wR S (S.d.length - (j - i)) v=D at *
 generalize sumW (cS S) (fun k=>p (k+i)) (j - i)=w at *
 have hL:(0:Int)<((j - i:Nat):Int):=by omega
 generalize ((j - i:Nat):Int)=L at *
 refine Int.le_of_mul_le_mul_right (a:=L) ?_ hL
 have s1:a*B*L=a*L*B:=by rw [Int.mul_assoc,Int.mul_comm B L,← Int.mul_assoc]
 have s2:A*b*L=A*L*b:=by rw [Int.mul_assoc,Int.mul_comm b L,← Int.mul_assoc]
 rw [s1,s2]
 have t1:a*L*B≤D*b*B:=Int.mul_le_mul_of_nonneg_right hle (Int.le_of_lt hM.b0)
 have t2:D*b≤w*b:=Int.mul_le_mul_of_nonneg_right hw (Int.le_of_lt hb)
 have t3:D*b*B≤w*b*B:=Int.mul_le_mul_of_nonneg_right t2 (Int.le_of_lt hM.b0)
 have t4:B*w*b≤A*L*b:=Int.mul_le_mul_of_nonneg_right hm (Int.le_of_lt hb)
 have t5:w*b*B=B*w*b:=by rw [Int.mul_comm (w*b) B,Int.mul_assoc]
 omega
def rep (z:Nat→Int) (L k:Nat):Int:=z (k % L)
theorem PW {z:Nat→Int} {L:Nat} (hz:Cyc S z L) (h:Nat):qw S (rep z L) h:=fun k _=>by
 have hL:=hz.h0
 have hlt:=Nat.mod_lt k hL
 unfold rep
 by_cases hl:k % L+1=L
 ·have e:(k+1) % L=0:=by
   refine Nat.mod_eq_zero_of_dvd ?_
   have:=Nat.div_add_mod k L
   exact ⟨k / L+1,by rw [Nat.mul_add,Nat.mul_one];omega⟩
  have hw:=hz.wk (k % L) hlt
  rw [e,← hz.cl]
  rwa [hl] at hw
 ·have e:(k+1) % L=k % L+1:=by
   have h1:=Nat.div_add_mod k L
   have h2:k+1=L*(k / L)+(k % L+1):=by omega
   rw [h2,Nat.mul_add_mod,Nat.mod_eq_of_lt (by omega)]
  rw [e];exact hz.wk _ hlt
theorem Nk {z:Nat→Int} {L:Nat} (c:Int→Int) (h0:0<L) (hs:sumW c z L=0):∀ t,sumW c (rep z L) (L*t)=0
 |0=>by simp [sumW]
 |t+1=>by
  have ih:=Nk c h0 hs t
  rw [Nat.mul_add,Nat.mul_one,lD,ih,Int.zero_add]
  rw [oI (q:=z) fun i hi=>by
   unfold rep
   rw [Nat.add_comm,Nat.mul_add_mod,Nat.mod_eq_of_lt hi]]
  exact hs
theorem Jv (hS:S.ok) (hM:jc S A B):∃ v,v<S.d.length∧0≤wR S S.d.length v∧∀ a b,zC S v a b→A*b≤a*B:=by
 obtain ⟨z,L,hz,hze⟩:=hM.att
 have n1:=hS.n1
 have hzs:sv S A B z L=0:=by rw [Bq,hze,Int.sub_self]
 have hB:=Int.le_of_lt hM.b0
 have hu:=lY hS hz.rch
 have hu1:=hu.1;have hu2:=hu.2
 obtain ⟨h0,_,⟨g1,g2⟩,g3⟩:=PN (fun h:Nat=>h<S.d.length∧0≤wR S h (z 0).toNat) (fun x y=>B*wR S x (z 0).toNat - A*(x:Int)≤B*wR S y (z 0).toNat - A*(y:Int))
  (fun x y _ _=>Int.le_total _ _) (fun x y z _ _ _ h1 h2=>Int.le_trans h1 h2) (List.range S.d.length) ⟨0,by simp;omega,by omega,by simp only [wR,wyB];rw [(wM hu).2 hz.rch];omega⟩
 obtain ⟨p,p1,p2,p3,p4,p5⟩:=um hS (fun v _=>tX S v) (by omega) g2
 have hpr:Rch S (p 0):=(wM p3).1 p4
 have hp:sv S A B p h0=B*wR S h0 (z 0).toNat - A*(h0:Int):=by rw [Bq,p5]
 have hmax:∀ (q:Nat→Int) (k:Nat),qw S q k→Rch S (q 0)→q k=z 0→sv S A B q k≤sv S A B p h0:=by
  intro q k hq hqr hqe
  obtain ⟨r,m,r1,r2,r3,r4,r5⟩:=Ej hS hM k q hq hqr
  have hge:=Aw hS (base:=bR S) (p:=r) (by rw [r3];exact (wM (lY hS hqr)).2 hqr) r2
  rw [r4,hqe] at hge
  have:=g3 m (by simpa using r1) ⟨r1,hge.2⟩
  have hh:sv S A B r m≤B*wR S m (z 0).toNat - A*(m:Int):=by
   rw [Bq]
   have:=Int.mul_le_mul_of_nonneg_left hge.1 hB
   simp only [wR];omega
  omega
 have hpz:rep z L 0=p h0:=by rw [p2];unfold rep;rw [Nat.zero_mod];omega
 obtain ⟨c1,c2,c3,c4⟩:=PK (fun x=>B*cS S x - A) p1 (PW hz (S.d.length - h0)) hpz
 rw [show h0+(S.d.length - h0)=S.d.length by omega] at c1 c3 c4
 have hvr:=Ho c1 (by rw [c2];exact hpr) S.d.length (Nat.le_refl _)
 have hvw:=lY hS hvr
 have hv1:=hvw.1;have hv2:=hvw.2
 have hge:=Aw hS (base:=bR S) (by rw [c2];exact p4) c1
 refine ⟨(wL p h0 (rep z L) S.d.length).toNat,by omega,hge.2,fun a b hl=>?_⟩
 obtain ⟨h,e1,e2,e3,e4⟩:=hl.att
 obtain ⟨q,q1,q2,q3,q4,q5⟩:=um hS (fun v _=>tX S v) (by omega) e2
 have hM2:qw S (fun k=>rep z L (k+(S.d.length - h0))) (L*(S.d.length - h0) - (S.d.length - h0)):=Nj (PW hz (L*(S.d.length - h0))) (Nat.le_refl _)
 have hqz:(fun k=>rep z L (k+(S.d.length - h0))) 0=q h:=by
  rw [q2]
  simp only [Nat.zero_add]
  rw [← c3];omega
 obtain ⟨d1,d2,d3,d4⟩:=PK (fun x=>B*cS S x - A) q1 hM2 hqz
 have hL0:=hz.h0
 have hLm:S.d.length - h0≤L*(S.d.length - h0):=Nat.le_mul_of_pos_left _ hL0
 have hsum:=lD (fun x=>B*cS S x - A) (rep z L) (S.d.length - h0) (L*(S.d.length - h0) - (S.d.length - h0))
 rw [show S.d.length - h0+(L*(S.d.length - h0) - (S.d.length - h0))=L*(S.d.length - h0) by omega,Nk _ hL0 hzs] at hsum
 have hlast:=hmax _ _ d1 (by rw [d2];exact (wM q3).1 q4) (by
  rw [d3]
  rw [show L*(S.d.length - h0) - (S.d.length - h0)+(S.d.length - h0)=L*(S.d.length - h0) by omega]
  unfold rep
  rw [Nat.mul_mod_right])
 have hqs:sv S A B q h=B*wR S h (wL p h0 (rep z L) S.d.length).toNat - A*(h:Int):=by rw [Bq,q5]
 have hDn:sv S A B (wL p h0 (rep z L)) S.d.length≤B*wR S S.d.length (wL p h0 (rep z L) S.d.length).toNat - A*(S.d.length:Int):=by
  rw [Bq]
  have:=Int.mul_le_mul_of_nonneg_left hge.1 hB
  simp only [wR];omega
 unfold sv at *
 rw [d4] at hlast
 have key:B*wR S h (wL p h0 (rep z L) S.d.length).toNat - A*(h:Int)≤B*wR S S.d.length (wL p h0 (rep z L) S.d.length).toNat - A*(S.d.length:Int):=by omega
 rw [e3,e4]
 have e5:((S.d.length - h:Nat):Int)=(S.d.length:Int) - (h:Int):=by omega
 rw [e5,Int.mul_sub,Int.sub_mul,Int.mul_comm _ B,Int.mul_comm _ B]
 omega
end
theorem karp {S:Shp} (hS:S.ok) {v:Nat} (hv:v<S.d.length) (h0:0≤wR S S.d.length v) {a b:Int} (hl:zC S v a b)
  (hg:∀ u,u<S.d.length→0≤wR S S.d.length u→∃ a' b',zC S u a' b'∧a'*b≤a*b'):jc S a b:=by
 have hb:0<b:=by obtain ⟨h,e1,_,_,e4⟩:=hl.att;rw [e4];omega
 obtain ⟨p,p1,p2,p3,p4,p5⟩:=um hS (fun v _=>tX S v) hv h0
 obtain ⟨i,j,h1,h2,h3⟩:=oW hS p1 p3 (Nat.le_refl _)
 obtain ⟨A,B,hM⟩:=Hr hS (Cyc.part p1 ((wM p3).1 p4) h1 h2 h3)
 have hle:=least_le hS hM hv h0 hl
 obtain ⟨u,u1,u2,u3⟩:=Jv hS hM
 obtain ⟨a',b',l1,l2⟩:=hg u u1 u2
 have hge:=u3 a' b' l1
 have hb':0<b':=by obtain ⟨h,e1,_,_,e4⟩:=l1.att;rw [e4];omega
 refine hM.congr hb (Int.le_antisymm ?_ hle)
 refine Int.le_of_mul_le_mul_right (a:=b') ?_ hb'
 have s1:A*b*b'=A*b'*b:=by rw [Int.mul_assoc,Int.mul_comm b b',← Int.mul_assoc]
 have s2:a*B*b'=a*b'*B:=by rw [Int.mul_assoc,Int.mul_comm B b',← Int.mul_assoc]
 rw [s1,s2]
 have t1:=Int.mul_le_mul_of_nonneg_right hge (Int.le_of_lt hb)
 have t2:=Int.mul_le_mul_of_nonneg_right l2 (Int.le_of_lt hM.b0)
 have t3:a'*B*b=a'*b*B:=by rw [Int.mul_assoc,Int.mul_comm B b,← Int.mul_assoc]
 omega
theorem Nl {S:Shp} (hS:S.ok):(∃ a b,jc S a b)↔∃ v,v<S.d.length∧0≤wR S S.d.length v:=by
 constructor
 ·rintro ⟨a,b,hM⟩
  obtain ⟨v,h1,h2,_⟩:=Jv hS hM
  exact ⟨v,h1,h2⟩
 ·rintro ⟨v,hv,h0⟩
  obtain ⟨p,p1,p2,p3,p4,p5⟩:=um hS (fun v _=>tX S v) hv h0
  obtain ⟨i,j,h1,h2,h3⟩:=oW hS p1 p3 (Nat.le_refl _)
  exact Hr hS (Cyc.part p1 ((wM p3).1 p4) h1 h2 h3)
theorem least_some {S:Shp} (hS:S.ok) {v:Nat} (hv:v<S.d.length) (h0:0≤wR S S.d.length v):∃ h,h<S.d.length∧0≤wR S h v:=by
 obtain ⟨p,p1,p2,p3,p4,p5⟩:=um hS (fun v _=>tX S v) hv h0
 obtain ⟨i,j,h1,h2,h3⟩:=oW hS p1 p3 (Nat.le_refl _)
 obtain ⟨c1,c2,c3,c4⟩:=Hl (cS S) p1 h1 h2 h3
 have hg:=Aw hS (base:=bR S) (p:=yG p i j) (by rw [c2];exact p4) c1
 rw [c3,p2,Int.toNat_natCast] at hg
 exact ⟨S.d.length - (j - i),by omega,hg.2⟩
end Go.AH.Dust
namespace Go.AH.Dust
open Go Go.AH
theorem RG {σ:Heap} {S:Shp} {g:Nat→Int} {j k:Nat} (h0:σ[0]?=some (.ro (flL 1 2 3 S g))) (h1:σ[1]?=some (.ro (ints S.d))) (h2:σ[2]?=some (.ro (pc S.f))) (h3:σ[3]?=some (.ro (ints S.s))) (h4:σ[4]?=some (.rw [dL j 10 k]))
  (hg:qU σ 6 (je 5 [j]) (je 5 [j] 5) (.gr (fP S k) 80)):nT σ 6 (je 5 [j]) 0 [.ro (flL 1 2 3 S g),.ro (ints S.d),.ro (pc S.f),.ro (ints S.s),.rw [dL 5 10 k],.gr (fP S k) 80]:=by
 have hfl:fJ 5 (.ro (flL 1 2 3 S g)):=by
  obtain ⟨a,b⟩:=iq (n:=5) (x:=1) (y:=2) (z:=3) (S:=S) (by omega) (by omega) (by omega)
  simp only [dR,okL,Bool.and_eq_true] at a b
  exact ⟨by simp only [dR,a,Bool.true_and];exact (ay (iI g)).1,by simp only [okL,b,Bool.true_and];exact (ay (n:=0) (iI g)).2⟩
 exact ⟨eU (by omega) (by omega) h0 hfl,eU (by omega) (by omega) h1 (ay (aK _)),eU (by omega) (by omega) h2 (ay (dJ _)),eU (by omega) (by omega) h3 (ay (aK _)),osub_slvC rfl h4 (by omega) rfl,hg,trivial⟩
theorem nO {n:Nat} {S:Shp} {g:Nat→Int} (hn:4≤n):fJ n (.ro (flL 1 2 3 S g)):=by
 obtain ⟨a,b⟩:=iq (n:=n) (x:=1) (y:=2) (z:=3) (S:=S) (by omega) (by omega) (by omega)
 simp only [dR,okL,Bool.and_eq_true] at a b
 exact ⟨by simp only [dR,a,Bool.true_and];exact (ay (iI g)).1,by simp only [okL,b,Bool.true_and];exact (ay (n:=0) (iI g)).2⟩
theorem wP {n i sz k:Nat} (h:i<n):fJ n (.rw [dL i sz k]):=by
 have h1:closed n (dL i sz k)=true:=jV (Nat.blt_eq.mpr h)
 exact ⟨by simp [dR,h1],by simp [okL,rC]⟩
theorem hc_r6 (S:Shp) (g:Nat→Int) (h:Nat):eX 6 [.ro (flL 1 2 3 S g),.ro (ints S.d),.ro (pc S.f),.ro (ints S.s),.rw [dL 5 10 h],.gr (fP S h) 80] :=
 ⟨nO (by omega),ay (aK _),ay (dJ _),ay (aK _),wP (by omega),ay (kJ _ _),trivial⟩
theorem PX (S:Shp) (g r:Nat→Int) (h:Nat):eX 8 [.ro (flL 1 2 3 S g),.ro (ints S.d),.ro (pc S.f),.ro (ints S.s),.rw [dL 5 10 h],.gr (fP S h) 80,.rw [.int .i64 (h:Int)],.rw (rx r)] :=
 ⟨nO (by omega),ay (aK _),ay (dJ _),ay (aK _),wP (by omega),ay (kJ _ _),ay rfl,ay (iI _),trivial⟩
theorem KY (S:Shp) (g r:Nat→Int) (h n:Nat) (d:Int) (L:cu) (hL:fJ 14 L):eX 14 [.ro (flL 1 2 3 S g),.ro (ints S.d),.ro (pc S.f),.ro (ints S.s),.rw [dL 5 10 h],.gr (fP S h) 80,.rw [.int .i64 (h:Int)],.rw (rx r),.rw [.int .i64 (n:Int)],.rw [.int .i64 d],.rw [.pointer (some ⟨0,0,none⟩)],.rw [.int .i64 (n:Int)],.dfr,L] :=
 ⟨nO (by omega),ay (aK _),ay (dJ _),ay (aK _),wP (by omega),ay (kJ _ _),ay rfl,ay (iI _),ay rfl,ay rfl,⟨rfl,rfl⟩,ay rfl,trivial,hL,trivial⟩
theorem FH (r:Nat→Int) (n:Nat) (a b:Int):kF (kF r n a) n b=kF r n b:=by
 funext i;unfold kF;split <;> rfl
end Go.AH.Dust
namespace Go.Proofs.Ytomioaiojidnbaa
open Go Go.AH
attribute [local irreducible] dO dI dM kK iM gK iC dV iJ dQ iK iE
set_option maxRecDepth 100000
set_option maxHeartbeats 1000000
open Go.AH.Dust
theorem rows_ok (S:Shp) (hS:S.ok) (g:Nat→Int) (H:Nat) (hH:H≤24) :
  Ev Try.prog 62 [.pointer (some ⟨0,0,none⟩),.int .i64 (H:Int)] [.ro (flL 1 2 3 S g),.ro (ints S.d),.ro (pc S.f),.ro (ints S.s)] (sl 4 H) [.ro (flL 1 2 3 S g),.ro (ints S.d),.ro (pc S.f),.ro (ints S.s),.rw (fP S H)]:=by
 have n10:=hS.n10
 have f60:=hS.f60
 refine aX 4 63 Try.func62 rfl rfl rfl rfl rfl ?_
 repeat' (first|(refine gU ?_;first|(refine aP ?_;refine st (au rfl) rfl rfl ?_)|(refine aI ?_;refine st (aA rfl) rfl rfl ?_)|(refine eP ?_;refine st (bQ rfl) rfl rfl ?_))|refine aS ?_|refine aj ?_|refine ah ?_|refine bg ?_|refine aO ?_)
 refine Tail.lW (ι:=Nat) (fun h=>[(0,.pointer (some ⟨0,0,none⟩)),(5,.pointer (some ⟨4,0,none⟩)),(12,.int .i64 (H:Int)),(13,.int .i64 (h:Int))])
  (fun h=>[.ro (flL 1 2 3 S g),.ro (ints S.d),.ro (pc S.f),.ro (ints S.s),.rw [dL 5 10 h],.gr (fP S h) 80]) (fun h=>H - h) (fun h=>h≤H) 0 rfl (by (repeat' (first|exact Tail.kR rfl|refine Tail.jO ?_ ?_|refine Tail.jw ?_|refine Tail.oG rfl ?_))) (fun _=>by simp) (fun h _=>hc_r6 S g h)
  (.of (bT.all _ 5 [5] (by simp) rfl rfl (RG (j:=5) rfl rfl rfl rfl rfl sG) (by (repeat' (first|exact trivial|refine ⟨bD rfl rfl,?_⟩|refine ⟨aV (m:=5) rfl (fun i hi=>aY hi) (by simp) (by rfl) rfl,?_⟩)))) (by simp)) (by omega) ?_
 intro h hh
 have hlen:=uT S h
 by_cases hhH:h<H
 ·repeat' (first|(refine gU ?_;first|(refine aP ?_;refine st (au rfl) rfl rfl ?_)|(refine gFA ?_;refine st (aB rfl) rfl rfl ?_)|(refine aU ?_;refine st (ak rfl (by rfl)) rfl rfl ?_)|(refine bG ?_;refine st (aG rfl rfl rfl) rfl rfl ?_)|(refine fK ?_;refine st (bK rfl) rfl rfl ?_)|(refine gNil ?_;refine st (iR rfl) rfl rfl ?_)|(refine eP ?_;refine st (bQ rfl) rfl rfl ?_)|(refine cO ?_;refine stN (aJ rfl rfl rfl rfl (by rfl)) rfl ?_))|refine aS ?_|refine aj ?_|refine ah ?_|refine bg ?_|refine aW ?_|refine aO ?_|refine aQ rfl ?_)
  refine Tail.lW (ι:=Nat×(Nat→Int)) (fun q=>[(0,.pointer (some ⟨0,0,none⟩)),(5,.pointer (some ⟨4,0,none⟩)),(6,.pointer (some ⟨6,0,none⟩)),(7,.pointer (some ⟨7,0,none⟩)),(12,.int .i64 (H:Int)),(13,.int .i64 (h:Int)),(20,sl 1 S.d.length),(21,.int .i64 (S.d.length:Int)),(22,.int .i64 (q.1:Int))])
   (fun q=>[.ro (flL 1 2 3 S g),.ro (ints S.d),.ro (pc S.f),.ro (ints S.s),.rw [dL 5 10 h],.gr (fP S h) 80,.rw [.int .i64 (h:Int)],.rw (rx q.2)]) (fun q=>S.d.length - q.1) (fun q=>q.1≤S.d.length∧(∀ i,i<q.1→q.2 i=most S h i)∧∀ i,q.1≤i→q.2 i=0) (0,fun _=>0) rfl (by (repeat' (first|exact Tail.kR rfl|exact Tail.oH|refine Tail.jO ?_ ?_|refine Tail.jw ?_|refine Tail.oG rfl ?_))) (fun _=>by simp) (fun q _=>PX S g q.2 h)
   (.of (.same ⟨rfl,rfl,rfl,rfl,rfl,rfl,rfl,rfl,rfl,trivial⟩) (by simp)) ⟨Nat.zero_le _,fun i (hi:i<0)=>absurd hi (Nat.not_lt_zero _),fun _ _=>rfl⟩ ?_
  rintro ⟨n,r⟩ ⟨hn,hr1,hr2⟩
  simp only at hn hr1 hr2 ⊢
  by_cases hnd:n<S.d.length
  ·have hn10:n<10:=by omega
   have hcd:cZ [.ro (flL 1 2 3 S g),.ro (ints S.d),.ro (pc S.f),.ro (ints S.s),.rw [dL 5 10 h],.gr (fP S h) 80,.rw [.int .i64 (h:Int)],.rw (rx r)] 1 n=some (.int .i64 (gi S.d n)):=gV hnd
   have hdn:=hS.d n hnd
   have hput:=sO (σ:=[.ro (flL 1 2 3 S g),.ro (ints S.d),.ro (pc S.f),.ro (ints S.s),.rw [dL 5 10 h],.gr (fP S h) 80,.rw [.int .i64 (h:Int)],.rw (rx r),.rw [.int .i64 (n:Int)],.rw [.int .i64 (gi S.d n)]]) (b:=7) (o:=0+n*1) (cs':=rx (kF r n (-1))) (vs:=[.int .i64 (-1)]) rfl (by simp [rx];omega) (by simp [rx]) (by rw [Nat.zero_add,Nat.mul_one];exact Ap hn10)
   have hstep:∀ v,v=most S h n→(∀ i,i<n+1→kF r n v i=most S h i)∧∀ i,n+1≤i→kF r n v i=0:=fun v hv=>by
    refine ⟨fun i hi=>?_,fun i hi=>?_⟩
    ·unfold kF
     by_cases hin:i=n
     ·rw [if_pos hin,hin];exact hv
     ·rw [if_neg hin];exact hr1 i (by omega)
    ·unfold kF;rw [if_neg (by omega)];exact hr2 i (by omega)
   clear hr1 hr2
   cases h with
   |zero =>
    have hst:=hstep (gi S.d n) rfl
    generalize hd:gi S.d n=d at *
    have hput2:=sO (σ:=[.ro (flL 1 2 3 S g),.ro (ints S.d),.ro (pc S.f),.ro (ints S.s),.rw [dL 5 10 0],.gr (fP S 0) 80,.rw [.int .i64 ((0:Nat):Int)],.rw (rx (kF r n (-1))),.rw [.int .i64 (n:Int)],.rw [.int .i64 d]]) (b:=7) (o:=0+n*1) (cs':=rx (kF (kF r n (-1)) n d)) (vs:=[.int .i64 d]) rfl (by simp [rx];omega) (by simp [rx]) (by rw [Nat.zero_add,Nat.mul_one];exact Ap hn10)
    rw [FH] at hput2
    repeat' (first|(refine gU ?_;first|(refine aP ?_;refine st (au rfl) rfl rfl ?_)|(refine aU ?_;refine st (ak rfl (by first|rfl|assumption)) rfl rfl ?_)|(refine iw ?_;refine st (dF rfl rfl (by omega)) rfl rfl ?_)|(refine bG ?_;refine st (aG rfl rfl rfl) rfl rfl ?_)|(refine gIA ?_;first|refine st (gJ rfl rfl (by omega)) rfl rfl ?_|refine st (gQ rfl rfl (by omega)) rfl rfl ?_)|(refine eP ?_;refine st (bQ rfl) rfl rfl ?_)|(refine cO ?_;refine stN (aJ rfl rfl rfl rfl (by first|exact hput|exact hput2|rfl)) rfl ?_))|refine aS ?_|refine aj ?_|refine ah ?_|refine bg ?_|refine jd ?_|refine eG rfl ?_|refine aW ?_|refine dW ?_|refine aO ?_|refine aQ rfl ?_)
    exact ⟨(n+1,kF r n d),⟨⟨by simp only;omega,hst⟩,by simp only;omega⟩,.of (bT.drop [.ro (flL 1 2 3 S g),.ro (ints S.d),.ro (pc S.f),.ro (ints S.s),.rw [dL 5 10 0],.gr (fP S 0) 80,.rw [.int .i64 ((0:Nat):Int)],.rw (rx (kF r n d))] [_,_] (by simp) (PX S g _ 0) (by (repeat' (first|exact trivial|exact ⟨rfl,rfl,rfl⟩|exact ⟨rfl,bM rfl,rfl⟩|refine ⟨?_,?_⟩)))) (by simp)⟩
   |succ h' =>
    have hh10:h'+1≤24:=by omega
    have hst:=hstep (kS S (most S h') n S.f.length) rfl
    clear hstep
    have hmb:=fun i hi=>yF hS h' i hi
    have hfb:=fun k hk=>wJ hS (m:=most S h') (B:=1000*((h':Int)+1)) (by omega) hmb hnd k hk
    have hnx:=xI (σ:=[.ro (flL 1 2 3 S g),.ro (ints S.d),.ro (pc S.f),.ro (ints S.s),.rw [dL 5 10 (h'+1)],.gr (fP S (h'+1)) 80,.rw [.int .i64 ((h'+1:Nat):Int)],.rw (rx (kF r n (-1))),.rw [.int .i64 (n:Int)],.rw [.int .i64 (gi S.d n)]]) (S:=S) (r:=g) (n:=(n:Int)) (p:=0) (x:=1) (y:=2) (z:=3) ⟨.inl rfl,.inl rfl,.inl rfl,.inl rfl⟩ rfl
    repeat' (first|(refine gU ?_;first|(refine aP ?_;refine st (au rfl) rfl rfl ?_)|(refine aU ?_;refine st (ak rfl (by first|rfl|assumption)) rfl rfl ?_)|(refine bG ?_;refine st (aG rfl rfl rfl) rfl rfl ?_)|(refine gIA ?_;first|refine st (gJ rfl rfl (by omega)) rfl rfl ?_|refine st (gQ rfl rfl (by omega)) rfl rfl ?_)|(refine fC ?_;refine st (bC rfl rfl rfl (by exact hnx)) rfl rfl ?_)|(refine eP ?_;refine st (bQ rfl) rfl rfl ?_)|(refine cO ?_;refine stN (aJ rfl rfl rfl rfl (by first|exact hput|rfl)) rfl ?_))|refine aS ?_|refine aj ?_|refine ah ?_|refine bg ?_|refine aW ?_|refine aO ?_|refine aQ rfl ?_|refine aN rfl ?_)
    refine Gs (by simp) (.same (e2:=[(0,.pointer (some ⟨0,0,none⟩)),(5,.pointer (some ⟨4,0,none⟩)),(6,.pointer (some ⟨6,0,none⟩)),(7,.pointer (some ⟨7,0,none⟩)),(8,.pointer (some ⟨8,0,none⟩)),(9,.pointer (some ⟨9,0,none⟩)),(12,.int .i64 (H:Int)),(13,.int .i64 ((h'+1:Nat):Int)),(20,sl 1 S.d.length),(21,.int .i64 (S.d.length:Int)),(22,.int .i64 (n:Int)),(36,.func (.func 87) #[] #[.pointer (some ⟨10,0,none⟩),.pointer (some ⟨11,0,none⟩)])]) ⟨rfl,rfl,rfl,rfl,rfl,rfl,rfl,rfl,rfl,rfl,rfl,rfl,trivial⟩) ?_
    refine nK (p:=[]) (q:=[.pointer (some ⟨10,0,none⟩),.pointer (some ⟨11,0,none⟩)]) rfl fun L hL=>?_
    have hLc:fJ 14 L:=by
     rw [hL]
     exact qo fun p hp=>by
      simp only [List.mem_cons,List.not_mem_nil,or_false] at hp
      rcases hp with rfl|rfl|rfl|rfl|rfl|rfl|rfl|rfl|rfl|rfl|rfl|rfl <;> first|exact ⟨rfl,rfl⟩|exact jq (by omega)
    have hLi:dB L=false:=by rw [hL];rfl
    refine aX 14 28 Try.func87 rfl rfl rfl rfl rfl ?_
    repeat' (first|(refine gU ?_;first|(refine aP ?_;refine st (au rfl) rfl rfl ?_)|(refine gFA ?_;refine st (aB rfl) rfl rfl ?_)|(refine aU ?_;refine st (ak rfl (by rfl)) rfl rfl ?_)|(refine fK ?_;refine st (bK rfl) rfl rfl ?_)|(refine gNil ?_;refine st (iR rfl) rfl rfl ?_))|refine aS ?_|refine aj ?_|refine ah ?_|refine bg ?_|refine aO ?_)
    refine iD (ι:=Nat) (fun k=>[(0,.func (.yield 13) #[] #[]),(1,.pointer (some ⟨10,0,none⟩)),(2,.pointer (some ⟨11,0,none⟩)),(10,sl 2 S.f.length),(11,.int .i64 (S.f.length:Int)),(12,.int .i64 (k:Int))])
     (fun k=>[.ro (flL 1 2 3 S g),.ro (ints S.d),.ro (pc S.f),.ro (ints S.s),.rw [dL 5 10 (h'+1)],.gr (fP S (h'+1)) 80,.rw [.int .i64 ((h'+1:Nat):Int)],.rw (rx (kF r n (kS S (most S h') n k))),.rw [.int .i64 (n:Int)],.rw [.int .i64 (gi S.d n)],.rw [.pointer (some ⟨0,0,none⟩)],.rw [.int .i64 (n:Int)],.dfr,L]) (fun k=>S.f.length - k) (fun k=>k≤S.f.length) 0 (by simp) (.same ⟨rfl,rfl,rfl,rfl,rfl,rfl,trivial⟩) (by omega) ?_
    intro k hk
    clear hput hnx
    by_cases hkl:k<S.f.length
    ·have hd2:∀ σ':Heap,dh (.ro (flL 1 2 3 S g)::.ro (ints S.d)::.ro (pc S.f)::σ') 2 (0+k*2) 2=some [.int .i64 (gf S.f k).1,.int .i64 (gf S.f k).2]:=fun σ'=>lX (.inl rfl) hkl
     obtain ⟨hw1,hw2,-⟩:=hS.f k hkl
     have hMb:=hfb k hk
     have hM:kS S (most S h') n (k+1)=if (gf S.f k).1=n∧0≤most S h' (gf S.f k).2.toNat then max (kS S (most S h') n k) (gi S.d n+most S h' (gf S.f k).2.toNat) else kS S (most S h') n k:=rfl
     have hrx:=wK S (h:=h'+1) (j:=h') (b:=(gf S.f k).2.toNat) (by omega) (by omega)
     have hrm:nN S h' (gf S.f k).2.toNat=most S h' (gf S.f k).2.toNat:=by unfold nN;rw [if_pos (by omega)]
     have hxb:=hmb (gf S.f k).2.toNat (by omega)
     rw [hrm] at hrx
     have hc1:∀ σ':Heap,cZ (cu.ro (flL 1 2 3 S g)::.ro (ints S.d)::.ro (pc S.f)::.ro (ints S.s)::.rw [dL 5 10 (h'+1)]::.gr (fP S (h'+1)) 80::.rw [.int .i64 ((h'+1:Nat):Int)]::σ') 5 ((((h'+1:Nat):Int) - 1).toNat*10+(gf S.f k).2.toNat*1)=some (.int .i64 (most S h' (gf S.f k).2.toNat)):=fun σ'=>by
      rw [show (((h'+1:Nat):Int) - 1).toNat=h' by omega,Nat.mul_one];exact hrx
     have hc2:∀ σ':Heap,cZ (cu.ro (flL 1 2 3 S g)::.ro (ints S.d)::.ro (pc S.f)::.ro (ints S.s)::.rw [dL 5 10 (h'+1)]::.gr (fP S (h'+1)) 80::.rw [.int .i64 ((h'+1:Nat):Int)]::.rw (rx (kF r n (kS S (most S h') n k)))::σ') 7 (0+n*1)=some (.int .i64 (kS S (most S h') n k)):=fun σ'=>by
      have:=qP (f:=kF r n (kS S (most S h') n k)) hn10
      rw [Nat.zero_add,Nat.mul_one]
      simp only [kF,if_true] at this
      exact this
     have hput3:∀ (σ':Heap) (v:Int),putCells (cu.ro (flL 1 2 3 S g)::.ro (ints S.d)::.ro (pc S.f)::.ro (ints S.s)::.rw [dL 5 10 (h'+1)]::.gr (fP S (h'+1)) 80::.rw [.int .i64 ((h'+1:Nat):Int)]::.rw (rx (kF r n (kS S (most S h') n k)))::σ') 7 (0+n*1) [.int .i64 v]=some (cu.ro (flL 1 2 3 S g)::.ro (ints S.d)::.ro (pc S.f)::.ro (ints S.s)::.rw [dL 5 10 (h'+1)]::.gr (fP S (h'+1)) 80::.rw [.int .i64 ((h'+1:Nat):Int)]::.rw (rx (kF r n v))::σ'):=fun σ' v=>by
      rw [← FH r n (kS S (most S h') n k) v]
      exact sO rfl (by simp [rx];omega) (by simp [rx]) (by rw [Nat.zero_add,Nat.mul_one];exact Ap hn10)
     clear hrx hrm
     generalize kS S (most S h') n k=M at *
     generalize gf S.f k=p at *
     obtain ⟨a,b⟩:=p
     simp only at hw1 hw2 hM hc1 hxb hd2
     generalize most S h' b.toNat=x at *
     by_cases ha:a=(n:Int)
     ·by_cases hx:x≥0
      ·rw [if_pos ⟨ha,hx⟩] at hM
       repeat' (first|(refine gU ?_;first|(refine aP ?_;refine st (au rfl) rfl rfl ?_)|(refine aU ?_;first|refine st (ak rfl (by rfl)) rfl rfl ?_|refine st (aZ rfl (by exact hd2 _)) rfl rfl ?_)|(refine bG ?_;refine st (aG rfl rfl rfl) rfl rfl ?_)|(refine gIA ?_;first|refine st (bZ rfl rfl (by omega)) rfl rfl ?_|refine st (bV rfl rfl (by omega) (by omega)) rfl rfl ?_)|(refine eP ?_;refine st (bQ rfl) rfl rfl ?_)|(refine cO ?_;refine stN (aJ rfl rfl rfl rfl (by rfl)) rfl ?_))|(refine gG ?_;first|(refine aP ?_;refine bP rfl (au rfl) rfl rfl ?_)|(refine aU ?_;refine bP rfl (ak rfl (by rfl)) rfl rfl ?_)|(refine gIA ?_;refine bP rfl (bV rfl rfl (by omega) (by omega)) rfl rfl ?_))|refine aS ?_|refine aj ?_|refine ah ?_|refine bg ?_|refine aW ?_|refine aO ?_|refine aQ rfl ?_)
       refine iT (l:=13) rfl rfl (by rw [hL];rfl) rfl rfl rfl (fun _ _ _ _ he=>ig (b:=true) (by rw [fM (b:=decide (a=(n:Int))) rfl,decide_eq_true ha];rfl) he) ?_
       repeat' (first|(refine gU ?_;(refine aI ?_;refine st (aA rfl) rfl rfl ?_))|refine aj ?_|refine ah ?_)
       refine jB (by rw [hL];rfl) ?_
       repeat' (first|(refine gU ?_;first|refine st (sQ rfl rfl (by omega) (by omega)) rfl rfl ?_|(refine aP ?_;refine st (au rfl) rfl rfl ?_)|(refine aI ?_;refine st (aA rfl) rfl rfl ?_)|(refine aU ?_;refine st (ak rfl (by first|rfl|exact hc1 _)) rfl rfl ?_)|(refine BF ?_;refine st (kC rfl rfl (by omega) (by omega)) rfl rfl ?_)|(refine bG ?_;refine st (aG rfl rfl rfl) rfl rfl ?_)|(refine gIA ?_;refine st (bV rfl rfl (by omega) (by omega)) rfl rfl ?_)|(refine cO ?_;refine stN (aJ rfl rfl rfl rfl (by exact hput3 _ _)) rfl ?_))|(refine fU ?_;first|(refine gZ ?_;refine frA (au rfl) rfl ?_)|(refine iH ?_;refine frA (ak rfl (by first|rfl|exact hc2 _)) rfl ?_)|(refine fAdd ?_;refine frA (tZ rfl rfl (by omega) (by omega)) rfl ?_)|(refine fIA ?_;refine frA (gQ rfl rfl (by omega)) rfl ?_)|(refine Ol ?_;refine frA (zT rfl rfl) rfl ?_))|(refine fD ⟨by kernel_rfl,?_⟩)|refine aS ?_|refine aj ?_|refine dH (by kernel_rfl) rfl ?_|refine ah ?_|refine bg ?_|refine fH ?_|refine aO ?_|refine aQ rfl ?_)
       refine jC rfl rfl ?_
       repeat' (first|(refine gU ?_;first|(refine aP ?_;refine st (au rfl) rfl rfl ?_)|(refine iw ?_;refine st (dF rfl rfl (by omega)) rfl rfl ?_)|(refine eY ?_;refine st (bH rfl rfl) rfl rfl ?_))|(refine gG ?_;(refine kX ?_;refine bP rfl (gX rfl) rfl rfl ?_))|refine aj ?_|refine ah ?_|refine bg ?_|refine fH ?_|refine aW ?_|refine aN rfl ?_)
       refine ⟨rfl,k+1,by omega,by omega,?_⟩
       rw [hL,hM]
       exact bT.drop [.ro (flL 1 2 3 S g),.ro (ints S.d),.ro (pc S.f),.ro (ints S.s),.rw [dL 5 10 (h'+1)],.gr (fP S (h'+1)) 80,.rw [.int .i64 ((h'+1:Nat):Int)],.rw (rx (kF r n (max M (gi S.d n+x)))),.rw [.int .i64 (n:Int)],.rw [.int .i64 (gi S.d n)],.rw [.pointer (some ⟨0,0,none⟩)],.rw [.int .i64 (n:Int)],.dfr,_] [_] (by simp) (KY S g _ (h'+1) n _ _ (by have:=hLc;rw [hL] at this;exact this)) (by (repeat' (first|exact trivial|exact ⟨rfl,rfl,rfl⟩|exact ⟨rfl,bM rfl,rfl⟩|refine ⟨?_,?_⟩)))
      ·rw [if_neg (fun h=>hx h.2)] at hM
       repeat' (first|(refine gU ?_;first|(refine aP ?_;refine st (au rfl) rfl rfl ?_)|(refine aU ?_;first|refine st (ak rfl (by rfl)) rfl rfl ?_|refine st (aZ rfl (by exact hd2 _)) rfl rfl ?_)|(refine bG ?_;refine st (aG rfl rfl rfl) rfl rfl ?_)|(refine gIA ?_;first|refine st (bZ rfl rfl (by omega)) rfl rfl ?_|refine st (bV rfl rfl (by omega) (by omega)) rfl rfl ?_)|(refine eP ?_;refine st (bQ rfl) rfl rfl ?_)|(refine cO ?_;refine stN (aJ rfl rfl rfl rfl (by rfl)) rfl ?_))|(refine gG ?_;first|(refine aP ?_;refine bP rfl (au rfl) rfl rfl ?_)|(refine aU ?_;refine bP rfl (ak rfl (by rfl)) rfl rfl ?_)|(refine gIA ?_;refine bP rfl (bV rfl rfl (by omega) (by omega)) rfl rfl ?_))|refine aS ?_|refine aj ?_|refine ah ?_|refine bg ?_|refine aW ?_|refine aO ?_|refine aQ rfl ?_)
       refine iT (l:=13) rfl rfl (by rw [hL];rfl) rfl rfl rfl (fun _ _ _ _ he=>ig (b:=true) (by rw [fM (b:=decide (a=(n:Int))) rfl,decide_eq_true ha];rfl) he) ?_
       repeat' (first|(refine gU ?_;(refine aI ?_;refine st (aA rfl) rfl rfl ?_))|refine aj ?_|refine ah ?_)
       refine jB (by rw [hL];rfl) ?_
       repeat' (first|(refine gU ?_;first|refine st (sQ rfl rfl (by omega) (by omega)) rfl rfl ?_|(refine aP ?_;refine st (au rfl) rfl rfl ?_)|(refine aI ?_;refine st (aA rfl) rfl rfl ?_)|(refine aU ?_;refine st (ak rfl (by first|rfl|exact hc1 _)) rfl rfl ?_)|(refine BF ?_;refine st (kC rfl rfl (by omega) (by omega)) rfl rfl ?_)|(refine bG ?_;refine st (aG rfl rfl rfl) rfl rfl ?_)|(refine gIA ?_;refine st (bV rfl rfl (by omega) (by omega)) rfl rfl ?_))|refine aS ?_|refine aj ?_|refine ah ?_|refine bg ?_|refine fH ?_|refine aW ?_|refine aO ?_|refine aN rfl ?_)
       refine jC rfl rfl ?_
       repeat' (first|(refine gU ?_;first|(refine aP ?_;refine st (au rfl) rfl rfl ?_)|(refine iw ?_;refine st (dF rfl rfl (by omega)) rfl rfl ?_)|(refine eY ?_;refine st (bH rfl rfl) rfl rfl ?_))|(refine gG ?_;(refine kX ?_;refine bP rfl (gX rfl) rfl rfl ?_))|refine aj ?_|refine ah ?_|refine bg ?_|refine fH ?_|refine aW ?_|refine aN rfl ?_)
       refine ⟨rfl,k+1,by omega,by omega,?_⟩
       rw [hL,hM]
       exact bT.drop [.ro (flL 1 2 3 S g),.ro (ints S.d),.ro (pc S.f),.ro (ints S.s),.rw [dL 5 10 (h'+1)],.gr (fP S (h'+1)) 80,.rw [.int .i64 ((h'+1:Nat):Int)],.rw (rx (kF r n M)),.rw [.int .i64 (n:Int)],.rw [.int .i64 (gi S.d n)],.rw [.pointer (some ⟨0,0,none⟩)],.rw [.int .i64 (n:Int)],.dfr,_] [_] (by simp) (KY S g _ (h'+1) n _ _ (by have:=hLc;rw [hL] at this;exact this)) (by (repeat' (first|exact trivial|exact ⟨rfl,rfl,rfl⟩|exact ⟨rfl,bM rfl,rfl⟩|refine ⟨?_,?_⟩)))
     ·rw [if_neg (fun h=>ha h.1)] at hM
      repeat' (first|(refine gU ?_;first|(refine aP ?_;refine st (au rfl) rfl rfl ?_)|(refine aU ?_;first|refine st (ak rfl (by rfl)) rfl rfl ?_|refine st (aZ rfl (by exact hd2 _)) rfl rfl ?_)|(refine iw ?_;refine st (dF rfl rfl (by omega)) rfl rfl ?_)|(refine bG ?_;refine st (aG rfl rfl rfl) rfl rfl ?_)|(refine eY ?_;refine st (bY rfl rfl) rfl rfl ?_)|(refine gIA ?_;first|refine st (bZ rfl rfl (by omega)) rfl rfl ?_|refine st (bV rfl rfl (by omega) (by omega)) rfl rfl ?_)|(refine eP ?_;refine st (bQ rfl) rfl rfl ?_)|(refine cO ?_;refine stN (aJ rfl rfl rfl rfl (by rfl)) rfl ?_))|(refine gG ?_;refine nU rfl rfl ?_)|refine aS ?_|refine aj ?_|refine ah ?_|refine bg ?_|refine fH ?_|refine aW ?_|refine aO ?_|refine aQ rfl ?_|refine aN rfl ?_)
      refine ⟨rfl,k+1,by omega,by omega,?_⟩
      rw [hM]
      exact bT.drop [.ro (flL 1 2 3 S g),.ro (ints S.d),.ro (pc S.f),.ro (ints S.s),.rw [dL 5 10 (h'+1)],.gr (fP S (h'+1)) 80,.rw [.int .i64 ((h'+1:Nat):Int)],.rw (rx (kF r n M)),.rw [.int .i64 (n:Int)],.rw [.int .i64 (gi S.d n)],.rw [.pointer (some ⟨0,0,none⟩)],.rw [.int .i64 (n:Int)],.dfr,L] [_] (by simp) (KY S g _ (h'+1) n _ _ hLc) (by (repeat' (first|exact trivial|exact ⟨rfl,rfl,rfl⟩|exact ⟨rfl,bM rfl,rfl⟩|refine ⟨?_,?_⟩)))
    ·obtain rfl:k=S.f.length:=by omega
     repeat' (first|(refine gU ?_;(refine bG ?_;refine st (aG rfl rfl rfl) rfl rfl ?_))|refine aS ?_|refine aj ?_|refine ah ?_|refine bg ?_|refine jd ?_|refine eG rfl ?_|refine dW ?_|refine aN rfl ?_)
     refine IB .nil .all ⟨_,_,_,_,_,_,_,by rw [hL];rfl,by simp,?_⟩
     dsimp only
     repeat' (first|(refine gU ?_;first|(refine aP ?_;refine st (au rfl) rfl rfl ?_)|(refine iw ?_;refine st (dF rfl rfl (by omega)) rfl rfl ?_))|refine aj ?_|refine ah ?_|refine bg ?_|refine fH ?_)
     exact ⟨(n+1,kF r n (kS S (most S h') n S.f.length)),⟨⟨by simp only;omega,hst⟩,by simp only;omega⟩,Tail.mZ.src [.ro (flL 1 2 3 S g),.ro (ints S.d),.ro (pc S.f),.ro (ints S.s),.rw [dL 5 10 (h'+1)],.gr (fP S (h'+1)) 80,.rw [.int .i64 ((h'+1:Nat):Int)],.rw (rx (kF r n (kS S (most S h') n S.f.length)))] [] [] 12 (by simp) rfl (PX S g _ (h'+1)) rfl rfl rfl trivial (by (repeat' (first|exact trivial|refine ⟨bD rfl rfl,?_⟩|refine ⟨aV (m:=8) rfl (fun i hi=>aY hi) (by simp) (by first|rfl|exact bM rfl) rfl,?_⟩)))⟩
  ·obtain rfl:n=S.d.length:=by omega
   have hrr:rx r=rx (nN S h):=uQ fun i _=>by
    unfold nN
    by_cases hi:i<S.d.length
    ·rw [if_pos hi];exact hr1 i hi
    ·rw [if_neg hi];exact hr2 i (by omega)
   rw [hrr]
   repeat' (first|(refine gU ?_;first|(refine aP ?_;refine st (au rfl) rfl rfl ?_)|(refine aU ?_;first|refine st (ak rfl (by rfl)) rfl rfl ?_|refine st (aZ rfl (by rfl)) rfl rfl ?_)|(refine iw ?_;refine st (dF rfl rfl (by omega)) rfl rfl ?_)|(refine bG ?_;refine st (aG rfl rfl rfl) rfl rfl ?_)|(refine nI ?_;refine st (kM (by rfl) (by rfl) (by rfl) (by rfl) rfl (by rfl)) rfl rfl ?_)|(refine EJ ?_;refine st (fZ (by rfl) (by rfl) rfl (by rfl) (by exact hlen) rfl (by rfl) (by omega) (by rfl) (by omega) (by omega)) rfl rfl ?_)|(refine cO ?_;refine stN (aJ rfl rfl rfl rfl (by rfl)) rfl ?_))|refine aS ?_|refine aj ?_|refine ah ?_|refine bg ?_|refine jd ?_|refine fH ?_|refine eG rfl ?_|refine dW ?_|refine aN rfl ?_)
   exact ⟨h+1,⟨by omega,by omega⟩,.of (bT.all _ 5 [9] (by simp) rfl rfl (RG (j:=9) rfl rfl rfl rfl rfl (qC rfl rfl (kJ S (h+1)))) (by (repeat' (first|exact trivial|refine ⟨bD rfl rfl,?_⟩|refine ⟨aV (m:=5) rfl (fun i hi=>aY hi) (by simp) (by rfl) rfl,?_⟩)))) (by simp)⟩
 ·obtain rfl:h=H:=by omega
  repeat' (first|(refine gU ?_;first|(refine aI ?_;refine st (aA rfl) rfl rfl ?_)|(refine aU ?_;refine st (ak rfl (by rfl)) rfl rfl ?_)|(refine bG ?_;refine st (aG rfl rfl rfl) rfl rfl ?_))|refine aS ?_|refine aj ?_|refine ah ?_|refine bg ?_|refine jd ?_|refine eG rfl ?_|refine dW ?_|refine dX ?_|refine aN rfl ?_)
  exact iF (.tmp rfl .nil) (dQ.src [.rw (fP S h)] [5] rfl rfl rfl ⟨dA (j:=5) rfl (.inr ⟨_,rfl⟩) (kJ S h),trivial⟩ (dw (by simp) rfl)) ⟨rfl,rfl⟩
end Go.Proofs.Ytomioaiojidnbaa
namespace Go.AH.Dust
open Go Go.AH
def jH (r:Nat→Int) (l:List Int):Nat→Int
 |0=>-1
 |k+1=>if jH r l k<0∨r (gi l k).toNat > r (gi l (jH r l k).toNat).toNat then k else jH r l k
noncomputable def jF (S:Shp) (r:Nat→Int):Nat→List Int
 |0=>[]
 |k+1=>if rB S k=true∧r k≥0 then jF S r k++[(k:Int)] else jF S r k
noncomputable def Ht (S:Shp) (r:Nat→Int):Int :=
 if jH r (jF S r S.d.length) (jF S r S.d.length).length<0 then -1 else gi (jF S r S.d.length) (jH r (jF S r S.d.length) (jF S r S.d.length).length).toNat
theorem RH (S:Shp) (r:Nat→Int):eX 5 [.ro (flL 1 2 3 S (fun i=>bI (rB S i))),.ro (ints S.d),.ro (pc S.f),.ro (ints S.s),.rw (rx r)]:=⟨nO (by omega),ay (aK _),ay (dJ _),ay (aK _),ay (iI _),trivial⟩
abbrev rxV (r:Nat→Int):Value:=.agg (rx r).toArray
theorem qK (r:Nat→Int) (l:List Int):∀ k,(k=0→jH r l k=-1)∧(0<k→0≤jH r l k∧jH r l k<k)
 |0=>⟨fun _=>rfl,fun h=>by omega⟩
 |k+1=>by
  refine ⟨fun h=>by omega,fun _=>?_⟩
  have ih:=qK r l k
  simp only [jH]
  split
  ·omega
  ·rename_i h
   by_cases hk:k=0
   ·exact absurd (.inl (by rw [ih.1 hk];omega)) h
   ·have:=ih.2 (by omega);omega
theorem FI (r:Nat→Int) (l:List Int):∀ k i,i<k→r (gi l i).toNat≤r (gi l (jH r l k).toNat).toNat
 |0,i,h=>by omega
 |k+1,i,h=>by
  have ih:=FI r l k
  have hr:=qK r l k
  simp only [jH]
  split
  ·rename_i hb
   rw [show ((k:Int)).toNat=k by omega]
   by_cases hik:i=k
   ·subst hik;exact Int.le_refl _
   ·have:=ih i (by omega)
    have:=hr.2 (by omega)
    omega
  ·rename_i hb
   by_cases hik:i=k
   ·subst hik;omega
   ·exact ih i (by omega)
theorem Jw (S:Shp) (r:Nat→Int):∀ k,(jF S r k).length≤k
 |0=>by simp [jF]
 |k+1=>by
  have:=Jw S r k
  simp only [jF];split
  ·simp;omega
  ·omega
theorem Em {S:Shp} {r:Nat→Int} {n:Int}:∀ {k:Nat},n ∈ jF S r k↔∃ i:Nat,i<k∧n=i∧rB S i=true∧r i≥0
 |0=>by simp [jF]
 |k+1=>by
  have ih:=Em (S:=S) (r:=r) (n:=n) (k:=k)
  simp only [jF]
  split
  ·rename_i h
   rw [List.mem_append,ih,List.mem_singleton]
   constructor
   ·rintro (⟨i,h1,h2⟩|h1)
    ·exact ⟨i,by omega,h2⟩
    ·exact ⟨k,by omega,h1,h⟩
   ·rintro ⟨i,h1,h2,h3⟩
    by_cases hik:i=k
    ·subst hik;exact .inr h2
    ·exact .inl ⟨i,by omega,h2,h3⟩
  ·rename_i h
   rw [ih]
   constructor
   ·rintro ⟨i,h1,h2⟩;exact ⟨i,by omega,h2⟩
   ·rintro ⟨i,h1,h2,h3⟩
    by_cases hik:i=k
    ·subst hik;exact absurd h3 h
    ·exact ⟨i,by omega,h2,h3⟩
theorem topV_is (S:Shp) (r:Nat→Int):(Ht S r=-1∧∀ i,i<S.d.length→rB S i=true→r i<0) ∨
  (∃ t:Nat,Ht S r=t∧t<S.d.length∧rB S t=true∧0≤r t∧∀ i,i<S.d.length→rB S i=true→r i≤r t):=by
 unfold Ht
 generalize hl:jF S r S.d.length=l
 have hm:∀ n,n ∈ l↔∃ i:Nat,i<S.d.length∧n=i∧rB S i=true∧r i≥0:=fun n=>by rw [← hl];exact Em
 have hb:=qK r l l.length
 have hx:=FI r l l.length
 by_cases h0:l.length=0
 ·left
  rw [if_pos (by rw [hb.1 h0];omega)]
  refine ⟨rfl,fun i hi hr=>Classical.byContradiction fun hn=>?_⟩
  have:(i:Int) ∈ l:=(hm i).2 ⟨i,hi,rfl,hr,by omega⟩
  have:=List.length_pos_of_mem this
  omega
 ·right
  have h1:=hb.2 (by omega)
  rw [if_neg (by omega)]
  have hin:gi l (jH r l l.length).toNat ∈ l:=kQ.2 ⟨_,by omega,rfl⟩
  obtain ⟨t,t1,t2,t3,t4⟩:=(hm _).1 hin
  refine ⟨t,t2,t1,t3,t4,fun i hi hr=>?_⟩
  by_cases hri:r i≥0
  ·obtain ⟨j,j1,j2⟩:=kQ.1 ((hm i).2 ⟨i,hi,rfl,hr,hri⟩)
   have:=hx j j1
   rw [j2,t2] at this
   simpa using this
  ·omega
end Go.AH.Dust
namespace Go.Proofs.Ytomioaiojidnbaa
open Go Go.AH
attribute [local irreducible] dO dI dM kK iM gK iC dV iJ dQ iK iE
set_option maxRecDepth 100000
set_option maxHeartbeats 1000000
open Go.AH.Dust
theorem Np {σ:Heap} {S:Shp} {g:Nat→Int} {H p x y z:Nat} (h:FAt σ p x y z S g) (hS:S.ok) (hH:H≤24) (hni:σ.all (fun o=>!dB o)=true) :
  Ev Try.prog 62 [.pointer (some ⟨p,0,none⟩),.int .i64 (H:Int)] σ (sl σ.length H) (σ++[.rw (fP S H)]) :=
 h.evN (news:=[.rw (fP S H)]) (rows_ok S hS g H hH) ⟨VQ.ptr (q:=true) (n:=4) (ρ:=bsR [p,x,y,z]) 0 0 (by omega),bU _ rfl,trivial⟩ rfl (by simp [ren,shf]) (by simp [sW,lu _ (kJ S H)]) hni
theorem Jy (r:Nat→Int) (l:List Int) (n:Nat) (hn:n<10):Ev Try.prog 85 [.int .i64 (n:Int),.pointer (some ⟨1,0,none⟩)] [.ro (ints l),.ro (rx r)] (.int .i64 (r n)) [.ro (ints l),.ro (rx r)]:=by
 have hc1:cZ [.ro (ints l),.ro (rx r)] 1 (0+n*1)=some (.int .i64 (r n)):=by rw [Nat.zero_add,Nat.mul_one];exact qP hn
 refine aX 2 7 Try.func85 rfl rfl rfl rfl rfl ?_
 repeat' (first|(refine gU ?_;first|(refine aP ?_;refine st (au rfl) rfl rfl ?_)|(refine aI ?_;refine st (aA rfl) rfl rfl ?_)|(refine aU ?_;refine st (ak rfl (by exact hc1)) rfl rfl ?_)|(refine gIA ?_;refine st (gQ rfl rfl (by omega)) rfl rfl ?_))|refine aS ?_|refine aj ?_|refine ah ?_|refine bg ?_|refine dX ?_)
 exact iF (.tmp rfl .nil) (.plain rfl rfl) ⟨rfl,rfl⟩
theorem greatest_ok (r:Nat→Int) (l:List Int) (hl:∀ i,i<l.length→0≤gi l i∧gi l i<10) (hN:l.length≤10) :
  Ev Try.prog 84 [sl 0 l.length,.func (.func 85) #[] #[.pointer (some ⟨1,0,none⟩)]] [.ro (ints l),.ro (rx r)] (.int .i64 (jH r l l.length)) [.ro (ints l),.ro (rx r)]:=by
 refine aX 2 32 Try.func84 rfl rfl rfl rfl rfl ?_
 repeat' (first|(refine gU ?_;first|(refine aP ?_;refine st (au rfl) rfl rfl ?_)|(refine aI ?_;refine st (aA rfl) rfl rfl ?_)|(refine fK ?_;refine st (bK rfl) rfl rfl ?_))|refine aS ?_|refine aj ?_|refine ah ?_|refine bg ?_|refine aO ?_)
 refine iD (ι:=Nat) (fun k=>[(0,sl 0 l.length),(1,.func (.func 85) #[] #[.pointer (some ⟨1,0,none⟩)]),(5,.int .i64 (jH r l k)),(8,sl 0 l.length),(9,.int .i64 (l.length:Int)),(10,.int .i64 (k:Int))])
  (fun _=>[.ro (ints l),.ro (rx r)]) (fun k=>l.length - k) (fun k=>k≤l.length) 0 (by simp) (.same ⟨rfl,rfl,rfl,rfl,rfl,rfl,trivial⟩) (by omega) ?_
 intro k hk
 by_cases hkl:k<l.length
 ·have hbr:=qK r l k
  have hs:jH r l (k+1)=if jH r l k<0∨r (gi l k).toNat > r (gi l (jH r l k).toNat).toNat then (k:Int) else jH r l k:=rfl
  have hc1:cZ [.ro (ints l),.ro (rx r)] 0 k=some (.int .i64 (gi l k)):=gV hkl
  have hlk:=hl k hkl
  have hv1:=Jy r l (gi l k).toNat (by omega)
  rw [show (((gi l k).toNat:Nat):Int)=gi l k by omega] at hv1
  by_cases hb:jH r l k<0
  ·rw [if_pos (.inl hb)] at hs
   generalize jH r l k=B at *
   repeat' (first|(refine gU ?_;first|(refine aP ?_;refine st (au rfl) rfl rfl ?_)|(refine aI ?_;refine st (aA rfl) rfl rfl ?_)|(refine aU ?_;refine st (ak rfl (by exact hc1)) rfl rfl ?_)|(refine iw ?_;refine st (dF rfl rfl (by omega)) rfl rfl ?_)|(refine bG ?_;refine st (aG rfl rfl rfl) rfl rfl ?_)|(refine gIA ?_;refine st (gJ rfl rfl (by omega)) rfl rfl ?_))|(refine fU ?_;first|(refine gZ ?_;refine frA (au rfl) rfl ?_)|(refine o7 ?_;refine frA (aG rfl rfl rfl) rfl ?_)|(refine kW ?_;refine frA (bH rfl rfl) rfl ?_))|(refine fG ?_;refine EK rfl rfl ?_)|(refine fD ⟨by kernel_rfl,?_⟩)|refine aS ?_|refine aj ?_|refine dH (by kernel_rfl) rfl ?_|refine ah ?_|refine bg ?_|refine fH ?_|refine aW ?_|refine aO ?_|refine aQ rfl ?_)
   exact ⟨rfl,k+1,by omega,by omega,.same ⟨rfl,rfl,by rw [hs];rfl,rfl,rfl,rfl,trivial⟩⟩
  ·have hk0:0<k:=Classical.byContradiction fun hn=>hb (by rw [hbr.1 (by omega)];omega)
   have hbk:=hbr.2 hk0
   have hlb:=hl (jH r l k).toNat (by omega)
   have hc2:cZ [.ro (ints l),.ro (rx r)] 0 (0+(jH r l k).toNat*1)=some (.int .i64 (gi l (jH r l k).toNat)):=by rw [Nat.zero_add,Nat.mul_one];exact gV (by omega)
   have hv2:=Jy r l (gi l (jH r l k).toNat).toNat (by omega)
   rw [show (((gi l (jH r l k).toNat).toNat:Nat):Int)=gi l (jH r l k).toNat by omega] at hv2
   clear hbr
   generalize jH r l k=B at *
   generalize gi l k=u at *
   generalize gi l B.toNat=w at *
   by_cases hq:r u.toNat > r w.toNat
   ·rw [if_pos (.inr hq)] at hs
    repeat' (first|(refine gU ?_;first|(refine aP ?_;refine st (au rfl) rfl rfl ?_)|(refine aI ?_;refine st (aA rfl) rfl rfl ?_)|(refine aU ?_;refine st (ak rfl (by exact hc1)) rfl rfl ?_)|(refine iw ?_;refine st (dF rfl rfl (by omega)) rfl rfl ?_)|(refine bG ?_;refine st (aG rfl rfl rfl) rfl rfl ?_)|(refine gIA ?_;refine st (gJ rfl rfl (by omega)) rfl rfl ?_))|(refine fU ?_;first|(refine gZ ?_;refine frA (au rfl) rfl ?_)|(refine o7 ?_;refine frA (aG rfl rfl rfl) rfl ?_)|(refine kW ?_;refine frA (bY rfl rfl) rfl ?_))|(refine fG ?_;first|(refine gZ ?_;refine fE rfl (au rfl) rfl ?_)|(refine iH ?_;refine fE rfl (ak rfl (by exact hc2)) rfl ?_)|(refine o7 ?_;refine fE rfl (aG rfl rfl rfl) rfl ?_)|(refine fIA ?_;refine fE rfl (lC rfl rfl (by omega) (by omega)) rfl ?_)|(refine mQ ?_;refine fE rfl (bC rfl rfl rfl (by first|exact hv1|exact hv2)) rfl ?_))|(refine fD ⟨by kernel_rfl,?_⟩)|refine aS ?_|refine aj ?_|refine dH (by kernel_rfl) rfl ?_|refine ah ?_|refine bg ?_|refine fH ?_|refine aW ?_|refine aO ?_|refine aQ rfl ?_)
    exact ⟨rfl,k+1,by omega,by omega,.same ⟨rfl,rfl,by rw [hs];rfl,rfl,rfl,rfl,trivial⟩⟩
   ·rw [if_neg (fun h=>h.elim hb hq)] at hs
    repeat' (first|(refine gU ?_;first|(refine aP ?_;refine st (au rfl) rfl rfl ?_)|(refine aI ?_;refine st (aA rfl) rfl rfl ?_)|(refine aU ?_;refine st (ak rfl (by exact hc1)) rfl rfl ?_)|(refine iw ?_;refine st (dF rfl rfl (by omega)) rfl rfl ?_)|(refine bG ?_;refine st (aG rfl rfl rfl) rfl rfl ?_)|(refine gIA ?_;refine st (gJ rfl rfl (by omega)) rfl rfl ?_))|(refine fU ?_;first|(refine gZ ?_;refine frA (au rfl) rfl ?_)|(refine o7 ?_;refine frA (aG rfl rfl rfl) rfl ?_)|(refine kW ?_;refine frA (bY rfl rfl) rfl ?_))|(refine fG ?_;first|(refine gZ ?_;refine fE rfl (au rfl) rfl ?_)|(refine iH ?_;refine fE rfl (ak rfl (by exact hc2)) rfl ?_)|(refine o7 ?_;refine fE rfl (aG rfl rfl rfl) rfl ?_)|(refine fIA ?_;refine fE rfl (lC rfl rfl (by omega) (by omega)) rfl ?_)|(refine mQ ?_;refine fE rfl (bC rfl rfl rfl (by first|exact hv1|exact hv2)) rfl ?_))|(refine fD ⟨by kernel_rfl,?_⟩)|refine aS ?_|refine aj ?_|refine dH (by kernel_rfl) rfl ?_|refine ah ?_|refine bg ?_|refine fH ?_|refine aW ?_|refine aO ?_|refine aQ rfl ?_|refine aN rfl ?_)
    exact ⟨rfl,k+1,by omega,by omega,.same ⟨rfl,rfl,by rw [hs];rfl,rfl,rfl,rfl,trivial⟩⟩
 ·obtain rfl:k=l.length:=by omega
  repeat' (first|(refine gU ?_;first|(refine aP ?_;refine st (au rfl) rfl rfl ?_)|(refine aI ?_;refine st (aA rfl) rfl rfl ?_)|(refine bG ?_;refine st (aG rfl rfl rfl) rfl rfl ?_))|refine aS ?_|refine aj ?_|refine ah ?_|refine bg ?_|refine jd ?_|refine eG rfl ?_|refine dW ?_|refine dX ?_|refine aN rfl ?_)
  exact iF (.tmp rfl .nil) (.plain rfl rfl) ⟨rfl,rfl⟩
theorem greatest_ev {σ:Heap} {r:Nat→Int} {l:List Int} {x y:Nat} {v:Value} (hx:jL σ x (ints l)) (hy:jL σ y (rx r)) (hv:LS x l.length v) (hl:∀ i,i<l.length→0≤gi l i∧gi l i<10) (hN:l.length≤10) (hni:σ.all (fun o=>!dB o)=true) :
  Ev Try.prog 84 [v,.func (.func 85) #[] #[.pointer (some ⟨y,0,none⟩)]] σ (.int .i64 (jH r l l.length)) σ :=
 Ev.arrs [ints l,rx r] [x,y] (greatest_ok r l hl hN) ⟨hx,hy,trivial⟩ ⟨hv 2 0 _ (by omega) rfl,vsub_fnq (VQ.ptr (q:=true) (n:=2) (ρ:=bsR [x,y]) 1 0 (by omega)),trivial⟩ (by simp [aK,iI]) rfl hni
theorem top_ok (S:Shp) (hS:S.ok) (r:Nat→Int):Ev Try.prog 63 [.pointer (some ⟨0,0,none⟩),rxV r] [.ro (flL 1 2 3 S (fun i=>bI (rB S i))),.ro (ints S.d),.ro (pc S.f),.ro (ints S.s)] (.int .i64 (Ht S r)) [.ro (flL 1 2 3 S (fun i=>bI (rB S i))),.ro (ints S.d),.ro (pc S.f),.ro (ints S.s)]:=by
 have n10:=hS.n10
 refine aX 4 40 Try.func63 rfl rfl rfl rfl rfl ?_
 repeat' (first|(refine gU ?_;first|(refine aP ?_;refine st (au rfl) rfl rfl ?_)|(refine aI ?_;refine st (aA rfl) rfl rfl ?_)|(refine gFA ?_;refine st (aB rfl) rfl rfl ?_)|(refine aU ?_;refine st (ak rfl (by rfl)) rfl rfl ?_)|(refine fK ?_;refine st (bK rfl) rfl rfl ?_)|(refine gNil ?_;refine st (iR rfl) rfl rfl ?_)|(refine kD ?_;refine st (gI rfl) rfl rfl ?_))|refine aS ?_|refine aj ?_|refine ah ?_|refine bg ?_|refine aO ?_)
 refine iD (ι:=Nat) (fun k=>[(0,.pointer (some ⟨0,0,none⟩)),(3,.pointer (some ⟨4,0,none⟩)),(5,dL 5 1 (jF S r k).length),(13,.int .i64 (S.d.length:Int)),(14,.int .i64 (k:Int))])
  (fun k=>[.ro (flL 1 2 3 S (fun i=>bI (rB S i))),.ro (ints S.d),.ro (pc S.f),.ro (ints S.s),.rw (rx r),.gr (ints (jF S r k)) 3]) (fun k=>S.d.length - k) (fun k=>k≤S.d.length) 0 (by simp) (bT.src [.ro (flL 1 2 3 S (fun i=>bI (rB S i))),.ro (ints S.d),.ro (pc S.f),.ro (ints S.s),.rw (rx r)] [.gr [] 3] [5] (by simp) rfl (RH S r) rfl rfl ⟨sG,trivial⟩ (by (repeat' (first|exact trivial|refine ⟨bD rfl rfl,?_⟩|refine ⟨aV (m:=5) rfl (fun i hi=>aY hi) (by simp) (by rfl) rfl,?_⟩)))) (by omega) ?_
 intro k hk
 have hkl:=Jw S r k
 have hil2:(ints (jF S r k)).length=(jF S r k).length*1:=by simp [ints]
 by_cases hkd:k<S.d.length
 ·have hk10:k<10:=by omega
  have hisr:=pJ (σ:=[.ro (flL 1 2 3 S (fun i=>bI (rB S i))),.ro (ints S.d),.ro (pc S.f),.ro (ints S.s),.rw (rx r),.gr (ints (jF S r k)) 3]) (S:=S) (q:=rB S) (r:=fun i=>bI (rB S i)) (n:=k) (p:=0) (x:=1) (y:=2) (z:=3) ⟨.inl rfl,.inl rfl,.inl rfl,.inl rfl⟩ rfl hk10 rfl
  have hc1:cZ [.ro (flL 1 2 3 S (fun i=>bI (rB S i))),.ro (ints S.d),.ro (pc S.f),.ro (ints S.s),.rw (rx r),.gr (ints (jF S r k)) 3] 4 (0+k*1)=some (.int .i64 (r k)):=by rw [Nat.zero_add,Nat.mul_one];exact qP hk10
  have hs:jF S r (k+1)=if rB S k=true∧r k≥0 then jF S r k++[(k:Int)] else jF S r k:=rfl
  generalize hKL:jF S r k=KL at *
  generalize hrk:r k=rk at *
  cases hq:rB S k with
  |false =>
   rw [if_neg (fun h=>by rw [hq] at h;cases h.1)] at hs
   rw [hq] at hisr
   repeat' (first|(refine gU ?_;first|(refine aP ?_;refine st (au rfl) rfl rfl ?_)|(refine aI ?_;refine st (aA rfl) rfl rfl ?_)|(refine iw ?_;refine st (dF rfl rfl (by omega)) rfl rfl ?_)|(refine bG ?_;refine st (aG rfl rfl rfl) rfl rfl ?_)|(refine eY ?_;refine st (bY rfl rfl) rfl rfl ?_)|(refine fC ?_;refine st (bC rfl rfl rfl (by exact hisr)) rfl rfl ?_))|(refine gG ?_;refine nU rfl rfl ?_)|refine aS ?_|refine aj ?_|refine ah ?_|refine bg ?_|refine fH ?_|refine aW ?_|refine aO ?_|refine aQ rfl ?_|refine aN rfl ?_)
   refine ⟨rfl,k+1,by omega,by omega,?_⟩
   rw [hs]
   exact .same ⟨rfl,rfl,rfl,rfl,rfl,trivial⟩
  |true =>
   rw [hq] at hisr
   by_cases hr0:rk≥0
   ·rw [if_pos ⟨hq,hr0⟩] at hs
    have hlen:(jF S r (k+1)).length=KL.length+1:=by rw [hs];simp
    have hcs:ints (jF S r (k+1))=ints KL++[.int .i64 (k:Int)]:=by rw [hs,uP]
    repeat' (first|(refine gU ?_;first|(refine aP ?_;refine st (au rfl) rfl rfl ?_)|(refine aI ?_;refine st (aA rfl) rfl rfl ?_)|(refine iw ?_;refine st (dF rfl rfl (by omega)) rfl rfl ?_)|(refine bG ?_;refine st (aG rfl rfl rfl) rfl rfl ?_)|(refine eY ?_;refine st (bH rfl rfl) rfl rfl ?_)|(refine fC ?_;refine st (bC rfl rfl rfl (by exact hisr)) rfl rfl ?_)|(refine nI ?_;refine st (kM (by rfl) (by rfl) (by rfl) (by rfl) rfl (by rfl)) rfl rfl ?_)|(refine EJ ?_;refine st (fZ (by rfl) (by rfl) rfl (by rfl) (by exact hil2) rfl (by rfl) (by omega) (by rfl) (by omega) (by omega)) rfl rfl ?_))|(refine gG ?_;first|(refine aP ?_;refine bP rfl (au rfl) rfl rfl ?_)|(refine aU ?_;refine bP rfl (ak rfl (by exact hc1)) rfl rfl ?_)|(refine bG ?_;refine bP rfl (aG rfl rfl rfl) rfl rfl ?_)|(refine gIA ?_;refine bP rfl (gQ rfl rfl (by omega)) rfl rfl ?_))|refine aS ?_|refine aj ?_|refine ah ?_|refine bg ?_|refine fH ?_|refine aW ?_|refine aO ?_|refine aQ rfl ?_)
    exact ⟨rfl,k+1,by omega,by omega,bT.src [.ro (flL 1 2 3 S (fun i=>bI (rB S i))),.ro (ints S.d),.ro (pc S.f),.ro (ints S.s),.rw (rx r)] [.gr (ints (jF S r (k+1))) 3] [7] (by simp) rfl (RH S r) rfl rfl ⟨qC rfl (by rw [hcs];rfl) (aK _),trivial⟩ (by (repeat' (first|exact trivial|refine ⟨bD rfl rfl,?_⟩|refine ⟨aV (m:=5) rfl (fun i hi=>aY hi) (by simp) (by rfl) rfl,?_⟩|refine ⟨vF (by rw [hlen];rfl) (by simp) rfl,?_⟩)))⟩
   ·rw [if_neg (fun h=>hr0 h.2)] at hs
    repeat' (first|(refine gU ?_;first|(refine aP ?_;refine st (au rfl) rfl rfl ?_)|(refine aI ?_;refine st (aA rfl) rfl rfl ?_)|(refine iw ?_;refine st (dF rfl rfl (by omega)) rfl rfl ?_)|(refine bG ?_;refine st (aG rfl rfl rfl) rfl rfl ?_)|(refine eY ?_;refine st (bH rfl rfl) rfl rfl ?_)|(refine fC ?_;refine st (bC rfl rfl rfl (by exact hisr)) rfl rfl ?_))|(refine gG ?_;first|(refine aP ?_;refine bP rfl (au rfl) rfl rfl ?_)|(refine aU ?_;refine bP rfl (ak rfl (by exact hc1)) rfl rfl ?_)|(refine bG ?_;refine bP rfl (aG rfl rfl rfl) rfl rfl ?_)|(refine gIA ?_;refine bP rfl (gQ rfl rfl (by omega)) rfl rfl ?_))|refine aS ?_|refine aj ?_|refine ah ?_|refine bg ?_|refine fH ?_|refine aW ?_|refine aO ?_|refine aQ rfl ?_|refine aN rfl ?_)
    refine ⟨rfl,k+1,by omega,by omega,?_⟩
    rw [hs]
    exact .same ⟨rfl,rfl,rfl,rfl,rfl,trivial⟩
 ·obtain rfl:k=S.d.length:=by omega
  have hel:∀ i,i<(jF S r S.d.length).length→0≤gi (jF S r S.d.length) i∧gi (jF S r S.d.length) i<10:=fun i hi=>by
   obtain ⟨j,j1,j2,_⟩:=Em.1 (kQ.2 ⟨i,hi,rfl⟩)
   rw [j2];omega
  have hgr:=greatest_ev (σ:=[.ro (flL 1 2 3 S (fun i=>bI (rB S i))),.ro (ints S.d),.ro (pc S.f),.ro (ints S.s),.rw (rx r),.gr (ints (jF S r S.d.length)) 3]) (r:=r) (l:=jF S r S.d.length) (x:=5) (y:=4) (v:=dL 5 1 (jF S r S.d.length).length) (.inr (.inr ⟨_,rfl⟩)) (.inr (.inl rfl)) ls_slv hel (by omega) rfl
  have hbr:=qK r (jF S r S.d.length) (jF S r S.d.length).length
  have hv:Ht S r=if jH r (jF S r S.d.length) (jF S r S.d.length).length<0 then -1 else gi (jF S r S.d.length) (jH r (jF S r S.d.length) (jF S r S.d.length).length).toNat:=rfl
  have hc1:¬ jH r (jF S r S.d.length) (jF S r S.d.length).length<0→cZ [.ro (flL 1 2 3 S (fun i=>bI (rB S i))),.ro (ints S.d),.ro (pc S.f),.ro (ints S.s),.rw (rx r),.gr (ints (jF S r S.d.length)) 3] 5 ((jH r (jF S r S.d.length) (jF S r S.d.length).length).toNat*1)=some (.int .i64 (gi (jF S r S.d.length) (jH r (jF S r S.d.length) (jF S r S.d.length).length).toNat)):=fun h=>by
   rw [Nat.mul_one]
   refine gV ?_
   by_cases h0:(jF S r S.d.length).length=0
   ·exact absurd (by rw [hbr.1 h0];omega) h
   ·have:=hbr.2 (by omega);omega
  have hbl:¬ jH r (jF S r S.d.length) (jF S r S.d.length).length<0→jH r (jF S r S.d.length) (jF S r S.d.length).length<(jF S r S.d.length).length:=fun h=>by
   by_cases h0:(jF S r S.d.length).length=0
   ·exact absurd (by rw [hbr.1 h0];omega) h
   ·have:=hbr.2 (by omega);omega
  clear hel hbr
  generalize jF S r S.d.length=KL at *
  generalize jH r KL KL.length=B at *
  by_cases hB:B<0
  ·rw [if_pos hB] at hv
   rw [hv]
   clear hc1 hbl
   repeat' (first|(refine gU ?_;first|(refine aP ?_;refine st (au rfl) rfl rfl ?_)|(refine aI ?_;refine st (aA rfl) rfl rfl ?_)|(refine bG ?_;refine st (aG rfl rfl rfl) rfl rfl ?_)|(refine BG ?_;refine st (jy rfl rfl) rfl rfl ?_)|(refine fC ?_;refine st (bC rfl rfl rfl (by exact hgr)) rfl rfl ?_))|refine aS ?_|refine aj ?_|refine ah ?_|refine bg ?_|refine kL ?_|refine jd ?_|refine eG rfl ?_|refine dW ?_|refine dX ?_|refine aQ rfl ?_|refine aN rfl ?_)
   exact iF (.tmp rfl .nil) (.plain rfl rfl) ⟨rfl,rfl⟩
  ·rw [if_neg hB] at hv
   rw [hv]
   replace hc1:=hc1 hB
   replace hbl:=hbl hB
   repeat' (first|(refine gU ?_;first|refine st (sQ rfl rfl (by omega) (by omega)) rfl rfl ?_|(refine aP ?_;refine st (au rfl) rfl rfl ?_)|(refine aI ?_;refine st (aA rfl) rfl rfl ?_)|(refine aU ?_;refine st (ak rfl (by exact hc1)) rfl rfl ?_)|(refine bG ?_;refine st (aG rfl rfl rfl) rfl rfl ?_)|(refine BG ?_;refine st (jy rfl rfl) rfl rfl ?_)|(refine fC ?_;refine st (bC rfl rfl rfl (by exact hgr)) rfl rfl ?_))|refine aS ?_|refine aj ?_|refine ah ?_|refine bg ?_|refine jd ?_|refine eG rfl ?_|refine aW ?_|refine dW ?_|refine dX ?_|refine aN rfl ?_)
   exact iF (.tmp rfl .nil) (.plain rfl rfl) ⟨rfl,rfl⟩
theorem top_ev {σ:Heap} {S:Shp} {r:Nat→Int} {p x y z:Nat} (h:FAt σ p x y z S (fun i=>bI (rB S i))) (hS:S.ok) (hni:σ.all (fun o=>!dB o)=true) :
  Ev Try.prog 63 [.pointer (some ⟨p,0,none⟩),rxV r] σ (.int .i64 (Ht S r)) σ :=
 h.ev (top_ok S hS r) ⟨VQ.ptr (q:=true) (n:=4) (ρ:=bsR [p,x,y,z]) 0 0 (by omega),bU _ (by simp [plain,rQ];exact iI r),trivial⟩ rfl hni
end Go.Proofs.Ytomioaiojidnbaa
namespace Go.AH
open Go
section
variable {P:Program} {n0 N:Nat} {K:Env→List Nat→Heap→Prop} {mk:List Nat} {all:List Oper}
def readyOf (all:List Oper) (L:List Bool):List Nat:=Region.ready .any all.toArray L.toArray
def cntF:List Bool→Nat
 |[]=>0
 |b::L=>(if b then 0 else 1)+cntF L
def WStep (P:Program) (n0 N:Nat) (all:List Oper) (mk:List Nat) (E:List Bool→Env) (S:List Bool→Heap) (L:List Bool) (i:Nat):Prop :=
 ∃ o,all[i]?=some o∧dO P n0 N none all [o] (fun e' mk' σ'=>mk'=mk∧bT n0 σ' (S (L.set i true)) e' (E (L.set i true))) (E L) mk (S L)
def tabOk (all:List Oper) (tab:List (List Bool×List Nat)):Bool :=
 tab.all fun p=>(readyOf all p.1 == p.2) && p.2.all fun i=>(tab.any fun q=>q.1 == p.1.set i true) && Nat.blt (cntF (p.1.set i true)) (cntF p.1)
def RI (P:Program) (n0 N:Nat) (all:List Oper) (mk:List Nat) (E:List Bool→Env) (S:List Bool→Heap) (L:List Bool):List Nat→Prop
 |[]=>True
 |i::is=>WStep P n0 N all mk E S L i∧RI P n0 N all mk E S L is
def StepsT (P:Program) (n0 N:Nat) (all:List Oper) (mk:List Nat) (E:List Bool→Env) (S:List Bool→Heap):List (List Bool×List Nat)→Prop
 |[]=>True
 |p::r=>RI P n0 N all mk E S p.1 p.2∧StepsT P n0 N all mk E S r
def tabEnd (tab:List (List Bool×List Nat)) (L1:List Bool):Bool:=tab.all fun p=>!p.2.isEmpty || p.1 == L1
def TP:List Bool→List (Nat×Value)→Env
 |true::L,p::r=>p::TP L r
 |false::L,_::r=>TP L r
 |_,_=>[]
end
section
variable {P:Program} {rd:Option Nat} {ty:TypeId} {e:Env} {σ:Heap} {x y z:Operand} {v:Value}
def sS (l:mV) (k:Int×Int):Option Value :=
 match (l.map (·.1)).findIdx? (fun q=>decide (k=q)) with
 |some j=>(l[j]?).map (·.2)
 |none=>none
theorem ok_lookup {t kt et i:Nat} {l:mV} {k:Int×Int} [hm:Mp P t kt et] [hk:Eq2 P kt] (hx:bf e x=some (.map (some i))) (hi:σ[i]?=some (o8 l)) (hy:bf e y=some (kv k)) (hv:sS l k=some v) :
  dV P rd (.lookup t x y false) ty e σ v σ :=
 dY (by simp) fun o ho _ G w0 ρ A w hs hop=>by
  obtain ⟨hxr,hil⟩:=y7 (hop x (by simp [Op.operands]) _ hx)
  have hyr:=dD (hop y (by simp [Op.operands]) _ hy) (uJ k)
  obtain ⟨hG,ents,clock,hh,hM⟩:=BN hs hi
  obtain ⟨hl,hkeys⟩:=xB hM
  have hfind:=qY (w:=w) hk k ents.toList (l.map (·.1)) hl hkeys
  obtain ⟨m1,m2,m3⟩:=hM
  simp only [List.length_map] at m1
  unfold sS at hv
  cases hf:(l.map (·.1)).findIdx? (fun q=>decide (k=q)) with
  |none=>rw [hf] at hv;cases hv
  |some j =>
   rw [hf] at hfind hv
   have hjl:j<l.length:=by have:=(List.findIdx?_eq_some_iff_findIdx_eq.1 hf).1;simpa using this
   have hje:j<ents.size:=by omega
   simp only [List.getElem?_eq_getElem hjl,Option.map_some,Option.some.injEq] at hv
   have hlook:ents.toList[j]?=some ents[j]:=by simp [hje]
   simp only [hlook,Option.map_some] at hfind
   have hrel:=(m2 j (by simpa using hjl) hje).2.2.1
   simp only [List.getElem_map,hv] at hrel
   refine ⟨ρ,ents[j].val,w,.inl ?_,hrel,Nat.le_refl _,fun _ _=>rfl,hs⟩
   simp [execOp,ho,Instr.lookup,run_underlying hm.und,hxr,hyr,MapKept.run_getObj_map hh,l9 hk,hfind,Result.andThen]
end
end Go.AH
namespace Go.AH
open Go
def keys (l:mV):List (Int×Int):=l.map (·.1)
theorem keys_up (l:mV) (k:Int×Int) (v:Value):keys (uK l k v)=if k ∈ keys l then keys l else keys l++[k]:=by
 unfold uK
 cases hf:(l.map (·.1)).findIdx? (fun q=>decide (k=q)) with
 |none =>
  have:k ∉ keys l:=fun hk=>by
   rw [List.findIdx?_eq_none_iff] at hf
   have:=hf k hk
   simp at this
  rw [if_neg this];simp [keys]
 |some j =>
  obtain ⟨h1,h2,h3⟩:=List.findIdx?_eq_some_iff_getElem.1 hf
  have hk:k=(keys l)[j]:=of_decide_eq_true h2
  have:k ∈ keys l:=by rw [hk];exact List.getElem_mem h1
  rw [if_pos this]
  simp only [keys,List.map_set]
  refine List.ext_getElem (by simp) fun i h4 h5=>?_
  rw [List.getElem_set]
  split
  ·rename_i hji;subst hji;exact hk
  ·rfl
theorem zD {l:mV} {k p:Int×Int} (hn:(keys l).Nodup):p ∈ keys (oC l k)↔p ∈ keys l∧p ≠ k:=by
 unfold oC
 cases hf:(l.map (·.1)).findIdx? (fun q=>decide (k=q)) with
 |none =>
  have:k ∉ keys l:=fun hk=>by
   rw [List.findIdx?_eq_none_iff] at hf
   have:=hf k hk
   simp at this
  exact ⟨fun h=>⟨h,fun hpk=>this (hpk ▸ h)⟩,fun h=>h.1⟩
 |some j =>
  obtain ⟨h1,h2,h3⟩:=List.findIdx?_eq_some_iff_getElem.1 hf
  have hk:k=(keys l)[j]:=of_decide_eq_true h2
  have hke:keys (l.eraseIdx j)=(keys l).eraseIdx j:=by simp [keys,List.eraseIdx_eq_take_drop_succ,List.map_take,List.map_drop]
  simp only [hke]
  have h1':j<(keys l).length:=h1
  have hp:=List.pairwise_iff_getElem.1 hn
  rw [List.mem_eraseIdx_iff_getElem]
  constructor
  ·rintro ⟨i,hi,hne,rfl⟩
   refine ⟨List.getElem_mem _,fun he=>?_⟩
   rw [hk] at he
   rcases Nat.lt_or_gt_of_ne hne with h|h
   ·exact hp _ _ _ _ h he
   ·exact hp _ _ _ _ h he.symm
  ·rintro ⟨h4,h5⟩
   obtain ⟨i,hi,rfl⟩:=List.getElem_of_mem h4
   exact ⟨i,hi,fun hij=>h5 (by subst hij;exact hk.symm),rfl⟩
theorem yH (l:mV) (k:Int×Int):(oC l k).Sublist l:=by
 unfold oC
 split
 ·exact List.eraseIdx_sublist ..
 ·exact List.Sublist.refl _
theorem keys_del_nodup {l:mV} {k:Int×Int} (hn:(keys l).Nodup):(keys (oC l k)).Nodup:=List.Nodup.sublist ((yH l k).map _) hn
def left (l:mV) (seen:List (Int×Int)):Nat:=((keys l).filter fun p=>decide (p ∉ seen)).length
theorem plainL_closed' {m:Nat} {v:Value} (h:plain v=true):closed m v=true∧okV v=true:=by
 have:=ay (n:=m) (l:=[v]) (by simp [gy,h])
 simpa [dR,okL] using this
theorem wQ {m:Nat} {lm:mV} (h:∀ q ∈ lm,plain q.2=true):fJ m (o8 lm):=by
 intro p hp
 obtain ⟨q,hq,rfl⟩:=List.mem_map.1 hp
 exact plainL_closed' (h q hq)
theorem keys_up_nodup {l:mV} {k:Int×Int} {v:Value} (hn:(keys l).Nodup):(keys (uK l k v)).Nodup:=by
 rw [keys_up]
 split
 ·exact hn
 ·rename_i h
  exact List.nodup_append.2 ⟨hn,by simp,fun a ha b hb=>by
   rw [List.mem_singleton] at hb
   subst hb
   intro hab;exact h (hab ▸ ha)⟩
theorem Ci {l:mV} {q:(Int×Int)×Value} (h:q ∈ l):q.1 ∈ keys l:=List.mem_map.2 ⟨q,h,rfl⟩
theorem Jz {l:mV} (hn:(keys l).Nodup) {q r:(Int×Int)×Value} (hq:q ∈ l) (hr:r ∈ l) (h:q.1=r.1):q=r:=by
 obtain ⟨i,hi,rfl⟩:=List.getElem_of_mem hq
 obtain ⟨j,hj,rfl⟩:=List.getElem_of_mem hr
 have:=EU hn hi hj h
 subst this;rfl
theorem mem_del {l:mV} {k:Int×Int} {q:(Int×Int)×Value} (hn:(keys l).Nodup):q ∈ oC l k↔q.1 ≠ k∧q ∈ l:=by
 constructor
 ·intro h
  exact ⟨((zD hn).1 (Ci h)).2,(yH l k).subset h⟩
 ·rintro ⟨h1,h2⟩
  obtain ⟨r,hr,he⟩:=List.mem_map.1 ((zD hn).2 ⟨Ci h2,h1⟩)
  rw [← Jz hn ((yH l k).subset hr) h2 he];exact hr
theorem mem_up {l:mV} {k:Int×Int} {v:Value} {q:(Int×Int)×Value} (hn:(keys l).Nodup):q ∈ uK l k v↔q=(k,v)∨(q.1 ≠ k∧q ∈ l):=by
 unfold uK
 cases hf:(l.map (·.1)).findIdx? (fun q=>decide (k=q)) with
 |none =>
  have hk:k ∉ keys l:=fun hk=>by
   rw [List.findIdx?_eq_none_iff] at hf
   have:=hf k hk
   simp at this
  simp only [List.mem_append,List.mem_singleton]
  constructor
  ·rintro (h|h)
   ·exact .inr ⟨fun he=>hk (he ▸ Ci h),h⟩
   ·exact .inl h
  ·rintro (h|h)
   ·exact .inr h
   ·exact .inl h.2
 |some j =>
  obtain ⟨h1,h2,h3⟩:=List.findIdx?_eq_some_iff_getElem.1 hf
  have hjl:j<l.length:=by simpa using h1
  have hk:k=l[j].1:=by have:=of_decide_eq_true h2;rwa [List.getElem_map] at this
  simp only
  constructor
  ·intro h
   obtain ⟨i,hi,rfl⟩:=List.getElem_of_mem h
   rw [List.length_set] at hi
   rw [List.getElem_set]
   split
   ·exact .inl rfl
   ·rename_i hji
    refine .inr ⟨fun he=>hji ?_,List.getElem_mem _⟩
    exact EU hn hjl hi (by rw [← hk,he])
  ·rintro (h|⟨h,h'⟩)
   ·rw [h];exact List.mem_iff_getElem.2 ⟨j,by simpa using hjl,by simp⟩
   ·obtain ⟨i,hi,rfl⟩:=List.getElem_of_mem h'
    have hji:j ≠ i:=fun he=>by subst he;exact h hk.symm
    exact List.mem_iff_getElem.2 ⟨i,by simpa using hi,by simp [hji]⟩
theorem get_mem {l:mV} {k:Int×Int} {v:Value} (hn:(keys l).Nodup) (h:(k,v) ∈ l):sS l k=some v:=by
 unfold sS
 cases hf:(l.map (·.1)).findIdx? (fun q=>decide (k=q)) with
 |none =>
  rw [List.findIdx?_eq_none_iff] at hf
  have:=hf k (Ci h)
  simp at this
 |some j =>
  obtain ⟨h1,h2,h3⟩:=List.findIdx?_eq_some_iff_getElem.1 hf
  have hjl:j<l.length:=by simpa using h1
  have hk:k=l[j].1:=by have:=of_decide_eq_true h2;rwa [List.getElem_map] at this
  have:=Jz hn (List.getElem_mem hjl) h hk.symm
  simp only [List.getElem?_eq_getElem hjl,Option.map_some,this]
end Go.AH
namespace Go.AH
open Go
theorem ok_lookupZ {P:Program} {rd:Option Nat} {ty:TypeId} {e:Env} {σ:Heap} {x y:Operand} {t kt et i size bytes:Nat} {agg:Bool} {z:Value} {l:mV} {k:Int×Int} [hm:Mp P t kt et] [hk:Eq2 P kt] [ht:Ty P et size agg z bytes] (hz:plain z=true) (hx:bf e x=some (.map (some i))) (hi:σ[i]?=some (o8 l)) (hy:bf e y=some (kv k)) (hv:sS l k=none) :
  dV P rd (.lookup t x y false) ty e σ z σ :=
 dY (by simp) fun o ho _ G w0 ρ A w hs hop=>by
  obtain ⟨hxr,hil⟩:=y7 (hop x (by simp [Op.operands]) _ hx)
  have hyr:=dD (hop y (by simp [Op.operands]) _ hy) (uJ k)
  obtain ⟨hG,ents,clock,hh,hM⟩:=BN hs hi
  obtain ⟨hl,hkeys⟩:=xB hM
  have hfind:=qY (w:=w) hk k ents.toList (l.map (·.1)) hl hkeys
  have hf:(l.map (·.1)).findIdx? (fun q=>decide (k=q))=none:=by
   unfold sS at hv
   cases hf:(l.map (·.1)).findIdx? (fun q=>decide (k=q)) with
   |none=>rfl
   |some j =>
    rw [hf] at hv
    have hjl:j<l.length:=by have:=(List.findIdx?_eq_some_iff_findIdx_eq.1 hf).1;simpa using this
    simp [List.getElem?_eq_getElem hjl] at hv
  rw [hf] at hfind
  refine ⟨ρ,z,w,.inl ?_,bU z hz,Nat.le_refl _,fun _ _=>rfl,hs⟩
  simp [execOp,ho,Instr.lookup,run_underlying hm.und,hxr,hyr,MapKept.run_getObj_map hh,l9 hk,hfind,Result.andThen,ht.zeroV]
structure MG (m:mV) (G:Int×Int→Option Int):Prop where
 nd:(keys m).Nodup
 all:∀ (k:Int×Int) (v:Value),(k,v) ∈ m↔∃ n,v=.int .i64 n∧G k=some n
section
variable {m:mV} {G:Int×Int→Option Int}
theorem MG.plain (h:MG m G):∀ r ∈ m,plain r.2=true:=fun r hr=>by
 obtain ⟨n,h1,_⟩:=(h.all r.1 r.2).1 hr
 rw [h1];rfl
theorem MG.get (h:MG m G) {k:Int×Int} {n:Int} (hk:G k=some n):sS m k=some (.int .i64 n):=get_mem h.nd ((h.all k _).2 ⟨n,rfl,hk⟩)
theorem MG.none (h:MG m G) {k:Int×Int} (hk:G k=none):sS m k=none:=by
 unfold sS
 cases hf:(m.map (·.1)).findIdx? (fun q=>decide (k=q)) with
 |none=>rfl
 |some j =>
  obtain ⟨h1,h2,h3⟩:=List.findIdx?_eq_some_iff_getElem.1 hf
  have hjl:j<m.length:=by simpa using h1
  have hkj:k=m[j].1:=by have:=of_decide_eq_true h2;rwa [List.getElem_map] at this
  obtain ⟨n,_,h5⟩:=(h.all m[j].1 m[j].2).1 (List.getElem_mem hjl)
  rw [← hkj,hk] at h5;cases h5
theorem MG.nil (hG:∀ k,G k=Option.none):MG [] G:=⟨List.nodup_nil,fun k v=>by simp [hG k]⟩
theorem MG.congr (h:MG m G) {G2:Int×Int→Option Int} (e:∀ k,G k=G2 k):MG m G2:=⟨h.nd,fun k v=>(h.all k v).trans (by simp only [e])⟩
theorem MG.up (h:MG m G) (k:Int×Int) (n:Int):MG (uK m k (.int .i64 n)) (fun q=>if q=k then some n else G q):=by
 refine ⟨keys_up_nodup h.nd,fun q v=>?_⟩
 rw [mem_up h.nd]
 constructor
 ·rintro (h1|⟨h1,h2⟩)
  ·simp only [Prod.mk.injEq] at h1
   exact ⟨n,h1.2,by rw [if_pos h1.1]⟩
  ·obtain ⟨a,h3,h4⟩:=(h.all q v).1 h2
   exact ⟨a,h3,by rw [if_neg h1];exact h4⟩
 ·rintro ⟨a,rfl,h1⟩
  by_cases hq:q=k
  ·rw [if_pos hq] at h1;cases h1;exact .inl (by rw [hq])
  ·rw [if_neg hq] at h1;exact .inr ⟨hq,(h.all q _).2 ⟨a,rfl,h1⟩⟩
theorem MG.del (h:MG m G) (k:Int×Int):MG (oC m k) (fun q=>if q=k then Option.none else G q):=by
 refine ⟨keys_del_nodup h.nd,fun q v=>?_⟩
 rw [mem_del h.nd]
 constructor
 ·rintro ⟨h1,h2⟩
  obtain ⟨a,h3,h4⟩:=(h.all q v).1 h2
  exact ⟨a,h3,by rw [if_neg h1];exact h4⟩
 ·rintro ⟨a,rfl,h1⟩
  by_cases hq:q=k
  ·rw [if_pos hq] at h1;cases h1
  ·rw [if_neg hq] at h1;exact ⟨hq,(h.all q _).2 ⟨a,rfl,h1⟩⟩
end
end Go.AH
namespace Go.AH.Dust
open Go Go.AH
abbrev goC (S:Shp) (h n k:Nat):Prop:=(gf S.f k).1=n∧0≤most S h (gf S.f k).2.toNat∧most S (h+1) n=gi S.d n+most S h (gf S.f k).2.toNat
def goF (S:Shp) (h n:Nat):Nat→Option Int
 |0=>none
 |k+1=>if goC S h n k then some (gf S.f k).2 else goF S h n k
theorem JA {S:Shp} {h n:Nat} {b:Int}:∀ {k:Nat},goF S h n k=some b→∃ j,j<k∧goC S h n j∧b=(gf S.f j).2
 |0,hb=>by cases hb
 |k+1,hb=>by
  simp only [goF] at hb
  split at hb
  ·rename_i hc
   cases hb
   exact ⟨k,by omega,hc,rfl⟩
  ·obtain ⟨j,h1,h2⟩:=JA hb;exact ⟨j,by omega,h2⟩
theorem PY {S:Shp} {h n j:Nat}:∀ {k:Nat},j<k→goC S h n j→∃ b,goF S h n k=some b
 |0,hj,_=>by omega
 |k+1,hj,hc=>by
  simp only [goF]
  split
  ·exact ⟨_,rfl⟩
  ·rename_i hn
   by_cases hjk:j=k
   ·subst hjk;exact absurd hc hn
   ·exact PY (by omega) hc
theorem zF {S:Shp} {m:Nat→Int} {i:Nat}:∀ {k:Nat},0≤kS S m i k→∃ j,j<k∧(gf S.f j).1=i∧0≤m (gf S.f j).2.toNat∧kS S m i k=gi S.d i+m (gf S.f j).2.toNat
 |0,h=>by simp [kS] at h
 |k+1,h=>by
  simp only [kS] at h ⊢
  split at h
  ·rename_i hc
   rw [if_pos hc]
   by_cases hm:kS S m i k≤gi S.d i+m (gf S.f k).2.toNat
   ·exact ⟨k,by omega,hc.1,hc.2,by omega⟩
   ·obtain ⟨j,h1,h2,h3,h4⟩:=zF (S:=S) (m:=m) (i:=i) (k:=k) (by omega)
    exact ⟨j,by omega,h2,h3,by omega⟩
  ·rename_i hc
   rw [if_neg hc]
   obtain ⟨j,h1,h2⟩:=zF h
   exact ⟨j,by omega,h2⟩
def goN (S:Shp) (h n:Nat):Int:=(goF S h n S.f.length).getD 0
theorem PZ {S:Shp} {h n:Nat} (h0:0≤most S (h+1) n):goF S h n S.f.length=some (goN S h n)∧∃ j,j<S.f.length∧goC S h n j∧goN S h n=(gf S.f j).2:=by
 obtain ⟨j,h1,h2,h3,h4⟩:=zF (S:=S) (m:=most S h) (i:=n) (k:=S.f.length) h0
 obtain ⟨b,hb⟩:=PY (S:=S) (h:=h) (n:=n) h1 ⟨h2,h3,h4⟩
 have e:goN S h n=b:=by unfold goN;rw [hb];rfl
 rw [e]
 exact ⟨hb,JA hb⟩
def jD (S:Shp):Nat→Int→List Int
 |0,w=>[w]
 |h+1,w=>w::jD S h (goN S h w.toNat)
theorem Az (S:Shp):∀ (h:Nat) (w:Int),(jD S h w).length=h+1
 |0,_=>rfl
 |h+1,w=>by simp [jD,Az S h]
theorem En (S:Shp):∀ (h:Nat) (w:Int),gi (jD S h w) 0=w
 |0,_=>rfl
 |_h+1,_w=>rfl
def byG (S:Shp) (H h n k:Nat) (q:Int×Int):Option Int :=
 if 0<q.1∧q.1<H∧0≤q.2∧q.2<S.d.length then
  if q.1 > h+1∨q.1=h+1∧q.2<n then goF S (q.1.toNat - 1) q.2.toNat S.f.length
  else if q.1=h+1∧q.2=n then goF S h n k else none
 else none
theorem byG_up {S:Shp} {H h n k:Nat} (hh:h+1<H) (hn:n<S.d.length) (hc:goC S h n k) (q:Int×Int):(if q=(((h+1:Nat):Int),(n:Int)) then some (gf S.f k).2 else byG S H h n k q)=byG S H h n (k+1) q:=by
 obtain ⟨a,b⟩:=q
 by_cases hq:(a,b)=(((h+1:Nat):Int),(n:Int))
 ·rw [if_pos hq]
  injection hq with h1 h2
  subst h1;subst h2
  simp only [byG]
  rw [if_pos ⟨by omega,by omega,by omega,by omega⟩,if_neg (by omega),if_pos ⟨by omega,by trivial⟩]
  simp only [goF];rw [if_pos hc]
 ·rw [if_neg hq]
  simp only [byG]
  have:¬ (a=(h:Int)+1∧b=n):=fun h=>hq (by rw [h.2,h.1];rfl)
  rw [if_neg this,if_neg this]
theorem byG_no {S:Shp} {H h n k:Nat} (hc:¬ goC S h n k) (q:Int×Int):byG S H h n k q=byG S H h n (k+1) q:=by
 simp only [byG,goF];rw [if_neg hc]
theorem byG_next {S:Shp} {H h n:Nat} (q:Int×Int):byG S H h n S.f.length q=byG S H h (n+1) 0 q:=by
 obtain ⟨a,b⟩:=q
 simp only [byG]
 by_cases h1:0<a∧a<H∧0≤b∧b<S.d.length
 ·rw [if_pos h1,if_pos h1]
  by_cases h2:a > h+1∨a=h+1∧b<n
  ·rw [if_pos h2,if_pos (by omega)]
  ·rw [if_neg h2]
   by_cases h3:a=h+1∧b=n
   ·rw [if_pos h3,if_pos (by omega),show a.toNat - 1=h by omega,show b.toNat=n by omega]
   ·rw [if_neg h3,if_neg (by omega)]
    simp only [goF];split <;> rfl
 ·rw [if_neg h1,if_neg h1]
theorem byG_hour {S:Shp} {H h:Nat} (q:Int×Int):byG S H (h+1) S.d.length 0 q=byG S H h 0 0 q:=by
 obtain ⟨a,b⟩:=q
 simp only [byG,goF]
 by_cases h1:0<a∧a<H∧0≤b∧b<S.d.length
 ·rw [if_pos h1,if_pos h1]
  repeat' split
  all_goals first|rfl|(exfalso;omega)
 ·rw [if_neg h1,if_neg h1]
end Go.AH.Dust
namespace Go.AH.Dust
open Go Go.AH
theorem yI {n:Nat} {π:Rho} {e:Env} {t i j o:Nat} (h:Env.get e t=some (.pointer (some ⟨j,o,none⟩))) (hi:i<n) (hj:π i=⟨j,0,0⟩):∃ u,Env.get e t=some u∧jv n π (.pointer (some ⟨i,o,none⟩)) u :=
 ⟨_,h,by simpa [hj] using VQ.ptr (q:=true) (n:=n) (ρ:=π) i o hi⟩
theorem byG_begin {S:Shp} {H:Nat} (q:Int×Int):byG S (H+1) H S.d.length 0 q=none:=by
 obtain ⟨a,b⟩:=q
 simp only [byG,goF]
 repeat' split
 all_goals first|rfl|(exfalso;omega)
theorem slC_closed {n i k:Nat} (h:i<n):fJ n (.rw [sl i k]):=by
 obtain ⟨a,b⟩:=jq (n:=n) (i:=i) (l:=k) (c:=k) h
 exact ⟨by simp [dR,a],by simp [okL,b]⟩
theorem P5 {n:Nat} (hn:5≤n) (S:Shp) (g:Nat→Int) (H:Nat) {r:Heap} (hr:eX n r):eX n (cu.ro (flL 1 2 3 S g)::.ro (ints S.d)::.ro (pc S.f)::.ro (ints S.s)::.ro (fP S (H+1))::.rw [.pointer (some ⟨0,0,none⟩)]::.rw [sl 4 (H+1)]::r) :=
 ⟨nO (by omega),ay (aK _),ay (dJ _),ay (aK _),ay (kJ _ _),⟨by simp [dR,closed,Nat.blt_eq];omega,by simp [okL,okV]⟩,slC_closed (by omega),hr⟩
theorem byG_full {S:Shp} {H h w:Nat} (hh:h<H) (hw:w<S.d.length):byG S (H+1) 0 S.d.length 0 (((h+1:Nat):Int),(w:Int))=goF S h w S.f.length:=by
 simp only [byG]
 rw [if_pos ⟨by omega,by omega,by omega,by omega⟩,if_pos (by omega)]
 rw [show (((h+1:Nat):Int)).toNat - 1=h by omega,show ((w:Int)).toNat=w by omega]
theorem byG_zero {S:Shp} {H:Nat} {w:Int}:byG S (H+1) 0 S.d.length 0 (((0:Nat):Int),w)=none:=by
 simp only [byG]
 rw [if_neg (by omega)]
theorem hc_q9 (S:Shp) (g:Nat→Int) (H:Nat) (m:mV) (hm:∀ q ∈ m,plain q.2=true):eX 9 [.ro (flL 1 2 3 S g),.ro (ints S.d),.ro (pc S.f),.ro (ints S.s),.ro (fP S (H+1)),.rw [.pointer (some ⟨0,0,none⟩)],.rw [sl 4 (H+1)],o8 m,.rw [.map (some 7)]] :=
 P5 (by omega) S g H ⟨wQ hm,⟨rfl,rfl⟩,trivial⟩
theorem Eo (S:Shp) (g:Nat→Int) (H:Nat) (m:mV) (hm:∀ q ∈ m,plain q.2=true) (t:Int):eX 10 [.ro (flL 1 2 3 S g),.ro (ints S.d),.ro (pc S.f),.ro (ints S.s),.ro (fP S (H+1)),.rw [.pointer (some ⟨0,0,none⟩)],.rw [sl 4 (H+1)],o8 m,.rw [.map (some 7)],.rw [.int .i64 t]] :=
 P5 (by omega) S g H ⟨wQ hm,⟨rfl,rfl⟩,ay rfl,trivial⟩
theorem Hu (S:Shp) (g:Nat→Int) (H n:Nat) (m:mV) (hm:∀ q ∈ m,plain q.2=true) (t:Int) (L:cu) (hL:fJ 15 L):eX 15 [.ro (flL 1 2 3 S g),.ro (ints S.d),.ro (pc S.f),.ro (ints S.s),.ro (fP S (H+1)),.rw [.pointer (some ⟨0,0,none⟩)],.rw [sl 4 (H+1)],o8 m,.rw [.map (some 7)],.rw [.int .i64 t],.rw [.int .i64 (n:Int)],.rw [.pointer (some ⟨0,0,none⟩)],.rw [.int .i64 (n:Int)],.dfr,L] :=
 P5 (by omega) S g H ⟨wQ hm,⟨rfl,rfl⟩,ay rfl,ay rfl,⟨rfl,rfl⟩,ay rfl,trivial,hL,trivial⟩
end Go.AH.Dust
namespace Go.Proofs.Ytomioaiojidnbaa
open Go Go.AH
attribute [local irreducible] dO dI dM kK iM gK iC dV iJ dQ iK iE
set_option maxRecDepth 100000
set_option maxHeartbeats 1000000
open Go.AH.Dust
instance:Mp Try.prog 113 115 3:=⟨by kernel_rfl⟩
theorem run64_ok (S:Shp) (hS:S.ok) (g:Nat→Int) (H first:Nat) (hH:H<24) (hf:first<S.d.length) (h0:0≤most S H first) :
  Ev Try.prog 64 [.pointer (some ⟨0,0,none⟩),sl 4 (H+1),.int .i64 (first:Int)] [.ro (flL 1 2 3 S g),.ro (ints S.d),.ro (pc S.f),.ro (ints S.s),.ro (fP S (H+1))] (sl 5 (H+1))
   [.ro (flL 1 2 3 S g),.ro (ints S.d),.ro (pc S.f),.ro (ints S.s),.ro (fP S (H+1)),.rw (ints (jD S H first))]:=by
 have n10:=hS.n10
 have f60:=hS.f60
 refine aX 5 98 Try.func64 rfl rfl rfl rfl rfl ?_
 repeat' (first|(refine gU ?_;first|refine st (ok_makeMap) rfl rfl ?_|(refine aI ?_;refine st (aA rfl) rfl rfl ?_)|(refine aU ?_;refine st (ak rfl (by rfl)) rfl rfl ?_)|(refine BF ?_;refine st (kC rfl rfl (by omega) (by omega)) rfl rfl ?_)|(refine fK ?_;refine st (bK rfl) rfl rfl ?_)|(refine kD ?_;refine st (gI rfl) rfl rfl ?_)|(refine eP ?_;refine st (bQ rfl) rfl rfl ?_)|(refine cO ?_;refine stN (aJ rfl rfl rfl rfl (by rfl)) rfl ?_))|refine aS ?_|refine aj ?_|refine ah ?_|refine bg ?_|refine aO ?_)
 refine Tail.lW (ι:=Nat×mV) (fun q=>[(2,.int .i64 (first:Int)),(3,.pointer (some ⟨5,0,none⟩)),(4,.pointer (some ⟨6,0,none⟩)),(7,.pointer (some ⟨8,0,none⟩)),(8,.pointer (some ⟨9,0,none⟩))])
  (fun q=>[.ro (flL 1 2 3 S g),.ro (ints S.d),.ro (pc S.f),.ro (ints S.s),.ro (fP S (H+1)),.rw [.pointer (some ⟨0,0,none⟩)],.rw [sl 4 (H+1)],o8 q.2,.rw [.map (some 7)],.rw [.int .i64 (q.1:Int)]]) (fun q=>q.1) (fun q=>q.1≤H∧MG q.2 (byG S (H+1) q.1 S.d.length 0)) (H,[]) rfl (by (repeat' (first|exact Tail.kR rfl|refine Tail.jO ?_ ?_|refine Tail.jw ?_|refine Tail.oG rfl ?_))) (fun _=>by simp) (fun q hq=>Eo S g H q.2 hq.2.plain _)
  (.of ?_ (by simp)) ⟨Nat.le_refl _,MG.nil fun q=>byG_begin q⟩ ?_
 ·have e:((H+1:Nat):Int) - 1=(H:Int):=by omega
  simp only [← e]
  exact .same ⟨rfl,rfl,rfl,rfl,rfl,trivial⟩
 rintro ⟨t,m⟩ ⟨ht,hm⟩
 simp only at ht hm ⊢
 cases t with
 |zero =>
  repeat' (first|(refine gU ?_;first|(refine aP ?_;refine st (au rfl) rfl rfl ?_)|(refine aI ?_;refine st (aA rfl) rfl rfl ?_)|(refine aU ?_;refine st (ak rfl (by rfl)) rfl rfl ?_)|(refine BF ?_;refine st (kC rfl rfl (by omega) (by omega)) rfl rfl ?_)|(refine bG ?_;refine st (aG rfl rfl rfl) rfl rfl ?_)|(refine fK ?_;refine st (bK rfl) rfl rfl ?_)|(refine uf ?_;refine st (jK (by rfl) rfl (by rfl)) rfl rfl ?_)|(refine eP ?_;refine st (bQ rfl) rfl rfl ?_)|(refine cO ?_;refine stN (aJ rfl rfl rfl rfl (by rfl)) rfl ?_))|refine aS ?_|refine aj ?_|refine ah ?_|refine bg ?_|refine jd ?_|refine eG rfl ?_|refine dW ?_|refine aO ?_|refine aN rfl ?_)
  refine iD (ι:=(Nat×Nat)×List Int×mV) (fun q=>[(7,.pointer (some ⟨8,0,none⟩)),(12,dL 11 1 q.2.1.length),(13,.pointer (some ⟨10,0,none⟩))])
   (fun q=>[.ro (flL 1 2 3 S g),.ro (ints S.d),.ro (pc S.f),.ro (ints S.s),.ro (fP S (H+1)),.rw [.pointer (some ⟨0,0,none⟩)],.rw [sl 4 (H+1)],o8 q.2.2,.rw [.map (some 7)],.rw [.int .i64 ((0:Nat):Int)],.rw [.int .i64 (q.1.1:Int),.int .i64 (q.1.2:Int)],.gr (ints q.2.1) 3]) (fun q=>q.1.1)
   (fun q=>q.1.2<S.d.length∧0≤most S q.1.1 q.1.2∧q.1.1≤H∧q.2.1.length+q.1.1=H∧q.2.1++jD S q.1.1 q.1.2=jD S H first∧∃ G,MG q.2.2 G∧∀ a b:Int,a≤q.1.1→G (a,b)=byG S (H+1) 0 S.d.length 0 (a,b)) ((H,first),[],m) (by simp)
   ?_ ⟨hf,h0,Nat.le_refl _,by simp,by simp,_,hm,fun a b _=>rfl⟩ ?_
  ·have e:((H+1:Nat):Int) - 1=(H:Int):=by omega
   exact bT.src [.ro (flL 1 2 3 S g),.ro (ints S.d),.ro (pc S.f),.ro (ints S.s),.ro (fP S (H+1)),.rw [.pointer (some ⟨0,0,none⟩)],.rw [sl 4 (H+1)],o8 m,.rw [.map (some 7)],.rw [.int .i64 ((0:Nat):Int)]] [.rw [.int .i64 (H:Int),.int .i64 (first:Int)],.gr [] 3] [10,11] (by simp) rfl (Eo S g H m hm.plain _) rfl rfl ⟨dA (j:=10) rfl (.inl (by rw [← e];rfl)) rfl,sG,trivial⟩ (by (repeat' (first|exact trivial|refine ⟨er_nil rfl,?_⟩|refine ⟨yI rfl (by simp) rfl,?_⟩)))
  clear hm hf h0
  rintro ⟨⟨h,w⟩,out,m⟩ ⟨hw,hmost,hhH,hlenH,hpath,G,hm,hG⟩
  simp only at hw hmost hhH hlenH hpath hG hm ⊢
  have hil2:(ints out).length=out.length*1:=by simp [ints]
  have hdl:=hm.del ((h:Int),(w:Int))
  cases h with
  |zero =>
   have hnone:sS m (((0:Nat):Int),(w:Int))=none:=hm.none (by rw [hG _ _ (Int.le_refl _)];exact byG_zero)
   have hyes:((0:Nat):Int)=0∧(w:Int)=(w:Int):=⟨rfl,rfl⟩
   repeat' (first|(refine gU ?_;first|(refine aP ?_;refine st (au rfl) rfl rfl ?_)|(refine aI ?_;refine st (aA rfl) rfl rfl ?_)|(refine gFA ?_;refine st (aB rfl) rfl rfl ?_)|(refine aU ?_;first|refine st (ak rfl (by rfl)) rfl rfl ?_|refine st (aZ rfl (by rfl)) rfl rfl ?_)|(refine nI ?_;refine st (kM (by rfl) (by rfl) (by rfl) (by rfl) rfl (by rfl)) rfl rfl ?_)|(refine EJ ?_;refine st (fZ (by rfl) (by rfl) rfl (by rfl) (by exact hil2) rfl (by rfl) (by omega) (by rfl) (by omega) (by omega)) rfl rfl ?_)|(refine cO ?_;refine stN (aJ rfl rfl rfl rfl (by rfl)) rfl ?_))|(refine fU ?_;first|refine frA (ok_lookupZ (i:=7) (k:=((_:Int),(_:Int))) rfl rfl rfl rfl hnone) rfl ?_|(refine fFA ?_;refine frA (aB rfl) rfl ?_)|(refine iH ?_;first|refine frA (ak rfl (by rfl)) rfl ?_|refine frA (aZ rfl (by rfl)) rfl ?_)|(refine fSub ?_;refine frA (kC rfl rfl (by omega) (by omega)) rfl ?_)|(refine yh ?_;refine frA (jK (by rfl) rfl (by rfl)) rfl ?_)|(refine zW ?_;refine fr1 (bQ rfl) rfl rfl rfl ?_))|(refine fD ⟨by kernel_rfl,?_⟩)|refine aS ?_|refine aj ?_|refine dH (by kernel_rfl) rfl ?_|refine ah ?_|refine bg ?_|refine aO ?_)
   refine stN (EW (i:=7) (l:=m) (k:=(((0:Nat):Int),(w:Int))) rfl rfl rfl) rfl ?_
   repeat' (first|(refine gU ?_;first|(refine aP ?_;refine st (au rfl) rfl rfl ?_)|(refine aI ?_;refine st (aA rfl) rfl rfl ?_)|(refine gFA ?_;refine st (aB rfl) rfl rfl ?_)|(refine aU ?_;first|refine st (ak rfl (by rfl)) rfl rfl ?_|refine st (aZ rfl (by rfl)) rfl rfl ?_)|(refine bG ?_;refine st (Ku rfl rfl) rfl rfl ?_)|(refine uf ?_;refine st (jK (by rfl) rfl (by rfl)) rfl rfl ?_))|refine aS ?_|refine aj ?_|refine ah ?_|refine bg ?_|refine kL ?_|refine nH ?_|refine dX ?_|refine aQ rfl ?_)
   rw [← hpath]
   have hHe:H+1=out.length+1:=by omega
   refine iF (.tmp rfl .nil) (dQ.src [.rw (ints (out++jD S 0 w))] [13] rfl rfl rfl ⟨dA (j:=13) rfl (.inr ⟨3,by rw [jD,uP];rfl⟩) (aK _),trivial⟩ ?_) ⟨rfl,rfl⟩
   show jv _ _ (sl 5 (H+1)) _
   rw [hHe]
   exact dw (by simp) rfl
  |succ h =>
   obtain ⟨hgo,j,hj,hgc,hgb⟩:=PZ hmost
   have hget:sS m (((h+1:Nat):Int),(w:Int))=some (.int .i64 (goN S h w)):=hm.get (by rw [hG _ _ (Int.le_refl _),byG_full (by omega) hw];exact hgo)
   obtain ⟨hw1,hw2,-⟩:=hS.f j hj
   rw [← hgb] at hw2
   have hmost2:0≤most S h (goN S h w).toNat:=by rw [hgb];exact hgc.2.1
   have hpl:jD S (h+1) w=(w:Int)::jD S h (goN S h w):=by rw [jD];simp
   rw [hpl] at hpath
   have hbn:(((goN S h w).toNat:Nat):Int)=goN S h w:=by omega
   generalize goN S h w=b at *
   have hlen:(out++[(w:Int)]).length=out.length+1:=by simp
   have hno:¬ (((h+1:Nat):Int)=0∧(w:Int)=(w:Int)):=fun h'=>absurd h'.1 (by omega)
   have e:((h+1:Nat):Int) - 1=(h:Int):=by omega
   repeat' (first|(refine gU ?_;first|(refine aP ?_;refine st (au rfl) rfl rfl ?_)|(refine aI ?_;refine st (aA rfl) rfl rfl ?_)|(refine gFA ?_;refine st (aB rfl) rfl rfl ?_)|(refine aU ?_;first|refine st (ak rfl (by rfl)) rfl rfl ?_|refine st (aZ rfl (by rfl)) rfl rfl ?_)|(refine nI ?_;refine st (kM (by rfl) (by rfl) (by rfl) (by rfl) rfl (by rfl)) rfl rfl ?_)|(refine EJ ?_;refine st (fZ (by rfl) (by rfl) rfl (by rfl) (by exact hil2) rfl (by rfl) (by omega) (by rfl) (by omega) (by omega)) rfl rfl ?_)|(refine cO ?_;refine stN (aJ rfl rfl rfl rfl (by rfl)) rfl ?_))|(refine fU ?_;first|refine frA (ok_lookup (i:=7) rfl rfl (k:=((_:Int),(_:Int))) rfl hget) rfl ?_|(refine fFA ?_;refine frA (aB rfl) rfl ?_)|(refine iH ?_;first|refine frA (ak rfl (by rfl)) rfl ?_|refine frA (aZ rfl (by rfl)) rfl ?_)|(refine fSub ?_;refine frA (kC rfl rfl (by omega) (by omega)) rfl ?_)|(refine yh ?_;refine frA (jK (by rfl) rfl (by rfl)) rfl ?_)|(refine zW ?_;refine fr1 (bQ rfl) rfl rfl rfl ?_))|(refine fD ⟨by kernel_rfl,?_⟩)|refine aS ?_|refine aj ?_|refine dH (by kernel_rfl) rfl ?_|refine ah ?_|refine bg ?_|refine aO ?_)
   refine stN (EW (i:=7) (l:=m) (k:=(((h+1:Nat):Int),(w:Int))) rfl rfl rfl) rfl ?_
   repeat' (first|(refine gU ?_;first|(refine gFA ?_;refine st (aB rfl) rfl rfl ?_)|(refine aU ?_;first|refine st (ak rfl (by rfl)) rfl rfl ?_|refine st (aZ rfl (by rfl)) rfl rfl ?_)|(refine bG ?_;refine st (Ku rfl rfl) rfl rfl ?_)|(refine uf ?_;refine st (jK (by rfl) rfl (by rfl)) rfl rfl ?_)|(refine eP ?_;refine st (bQ rfl) rfl rfl ?_)|(refine cO ?_;refine stN (aJ rfl rfl rfl rfl (by rfl)) rfl ?_))|refine aS ?_|refine aj ?_|refine ah ?_|refine bg ?_|refine fH ?_|refine aW ?_|refine aN rfl ?_)
   refine ⟨rfl,((h,b.toNat),out++[(w:Int)],oC m (((h+1:Nat):Int),(w:Int))),⟨by simp only;omega,hmost2,by simp only;omega,by simp only [hlen];omega,by simp only [hbn];rw [← hpath];simp,_,hdl,fun a c ha=>?_⟩,by simp only;omega,?_⟩
   ·simp only at ha ⊢
    rw [if_neg (fun hh=>by injection hh with h1 _;omega)]
    exact hG a c (by omega)
   ·exact bT.src [.ro (flL 1 2 3 S g),.ro (ints S.d),.ro (pc S.f),.ro (ints S.s),.ro (fP S (H+1)),.rw [.pointer (some ⟨0,0,none⟩)],.rw [sl 4 (H+1)],o8 (oC m (((h+1:Nat):Int),(w:Int))),.rw [.map (some 7)],.rw [.int .i64 ((0:Nat):Int)]] [.rw [.int .i64 (h:Int),.int .i64 ((b.toNat:Nat):Int)],.gr (ints (out++[(w:Int)])) 3] [15,13] (by simp) rfl (Eo S g H _ hdl.plain _) rfl rfl ⟨dA (j:=15) rfl (.inl (by rw [hbn,← e];rfl)) rfl,qC rfl (by rw [uP];rfl) (aK _),trivial⟩ (by (repeat' (first|exact trivial|refine ⟨yI rfl (by simp) rfl,?_⟩|refine ⟨vF (by rw [hlen];rfl) (by simp) rfl,?_⟩)))
 |succ h =>
  have hm':=hm.congr byG_hour
  clear hm
  repeat' (first|(refine gU ?_;first|(refine aP ?_;refine st (au rfl) rfl rfl ?_)|(refine gFA ?_;refine st (aB rfl) rfl rfl ?_)|(refine aU ?_;refine st (ak rfl (by rfl)) rfl rfl ?_)|(refine bG ?_;refine st (aG rfl rfl rfl) rfl rfl ?_)|(refine fK ?_;refine st (bK rfl) rfl rfl ?_)|(refine gNil ?_;refine st (iR rfl) rfl rfl ?_))|refine aS ?_|refine aj ?_|refine ah ?_|refine bg ?_|refine aW ?_|refine aO ?_|refine aQ rfl ?_)
  refine Tail.lW (ι:=Nat×mV) (fun q=>[(2,.int .i64 (first:Int)),(3,.pointer (some ⟨5,0,none⟩)),(4,.pointer (some ⟨6,0,none⟩)),(7,.pointer (some ⟨8,0,none⟩)),(8,.pointer (some ⟨9,0,none⟩)),(27,sl 1 S.d.length),(28,.int .i64 (S.d.length:Int)),(29,.int .i64 (q.1:Int))])
   (fun q=>[.ro (flL 1 2 3 S g),.ro (ints S.d),.ro (pc S.f),.ro (ints S.s),.ro (fP S (H+1)),.rw [.pointer (some ⟨0,0,none⟩)],.rw [sl 4 (H+1)],o8 q.2,.rw [.map (some 7)],.rw [.int .i64 ((h+1:Nat):Int)]]) (fun q=>S.d.length - q.1) (fun q=>q.1≤S.d.length∧MG q.2 (byG S (H+1) h q.1 0)) (0,m) rfl (by (repeat' (first|exact Tail.kR rfl|exact Tail.oH|refine Tail.jO ?_ ?_|refine Tail.jw ?_|refine Tail.oG rfl ?_))) (fun _=>by simp) (fun q hq=>Eo S g H q.2 hq.2.plain _)
   (.of (.same ⟨rfl,rfl,rfl,rfl,rfl,rfl,rfl,rfl,trivial⟩) (by simp)) ⟨Nat.zero_le _,hm'⟩ ?_
  clear hm' m
  rintro ⟨n,m⟩ ⟨hn,hm⟩
  simp only at hn hm ⊢
  by_cases hnd:n<S.d.length
  ·have hnx:=xI (σ:=[.ro (flL 1 2 3 S g),.ro (ints S.d),.ro (pc S.f),.ro (ints S.s),.ro (fP S (H+1)),.rw [.pointer (some ⟨0,0,none⟩)],.rw [sl 4 (H+1)],o8 m,.rw [.map (some 7)],.rw [.int .i64 ((h+1:Nat):Int)],.rw [.int .i64 (n:Int)]]) (S:=S) (r:=g) (n:=(n:Int)) (p:=0) (x:=1) (y:=2) (z:=3) ⟨.inl rfl,.inl rfl,.inl rfl,.inl rfl⟩ rfl
   repeat' (first|(refine gU ?_;first|(refine aP ?_;refine st (au rfl) rfl rfl ?_)|(refine aU ?_;refine st (ak rfl (by rfl)) rfl rfl ?_)|(refine bG ?_;refine st (aG rfl rfl rfl) rfl rfl ?_)|(refine fC ?_;refine st (bC rfl rfl rfl (by exact hnx)) rfl rfl ?_)|(refine eP ?_;refine st (bQ rfl) rfl rfl ?_)|(refine cO ?_;refine stN (aJ rfl rfl rfl rfl (by rfl)) rfl ?_))|refine aS ?_|refine aj ?_|refine ah ?_|refine bg ?_|refine aW ?_|refine aO ?_|refine aQ rfl ?_)
   refine Gs (by simp) (.same (e2:=[(2,.int .i64 (first:Int)),(3,.pointer (some ⟨5,0,none⟩)),(4,.pointer (some ⟨6,0,none⟩)),(7,.pointer (some ⟨8,0,none⟩)),(8,.pointer (some ⟨9,0,none⟩)),(9,.pointer (some ⟨10,0,none⟩)),(27,sl 1 S.d.length),(28,.int .i64 (S.d.length:Int)),(29,.int .i64 (n:Int)),(34,.func (.func 87) #[] #[.pointer (some ⟨11,0,none⟩),.pointer (some ⟨12,0,none⟩)])]) ⟨rfl,rfl,rfl,rfl,rfl,rfl,rfl,rfl,rfl,rfl,trivial⟩) ?_
   refine nK (p:=[]) (q:=[.pointer (some ⟨11,0,none⟩),.pointer (some ⟨12,0,none⟩)]) rfl fun L hL=>?_
   have hLc:fJ 15 L:=by
    rw [hL]
    exact qo fun p hp=>by
     simp only [List.mem_cons,List.not_mem_nil,or_false] at hp
     rcases hp with rfl|rfl|rfl|rfl|rfl|rfl|rfl|rfl|rfl|rfl <;> first|exact ⟨rfl,rfl⟩|exact jq (by omega)
   have hLi:dB L=false:=by rw [hL];rfl
   refine aX 15 28 Try.func87 rfl rfl rfl rfl rfl ?_
   repeat' (first|(refine gU ?_;first|(refine aP ?_;refine st (au rfl) rfl rfl ?_)|(refine gFA ?_;refine st (aB rfl) rfl rfl ?_)|(refine aU ?_;refine st (ak rfl (by rfl)) rfl rfl ?_)|(refine fK ?_;refine st (bK rfl) rfl rfl ?_)|(refine gNil ?_;refine st (iR rfl) rfl rfl ?_))|refine aS ?_|refine aj ?_|refine ah ?_|refine bg ?_|refine aO ?_)
   refine iD (ι:=Nat×mV) (fun q=>[(0,.func (.yield 14) #[] #[]),(1,.pointer (some ⟨11,0,none⟩)),(2,.pointer (some ⟨12,0,none⟩)),(10,sl 2 S.f.length),(11,.int .i64 (S.f.length:Int)),(12,.int .i64 (q.1:Int))])
    (fun q=>[.ro (flL 1 2 3 S g),.ro (ints S.d),.ro (pc S.f),.ro (ints S.s),.ro (fP S (H+1)),.rw [.pointer (some ⟨0,0,none⟩)],.rw [sl 4 (H+1)],o8 q.2,.rw [.map (some 7)],.rw [.int .i64 ((h+1:Nat):Int)],.rw [.int .i64 (n:Int)],.rw [.pointer (some ⟨0,0,none⟩)],.rw [.int .i64 (n:Int)],.dfr,L]) (fun q=>S.f.length - q.1) (fun q=>q.1≤S.f.length∧MG q.2 (byG S (H+1) h n q.1)) (0,m) (by simp) (.same ⟨rfl,rfl,rfl,rfl,rfl,rfl,trivial⟩) ⟨Nat.zero_le _,hm⟩ ?_
   clear hm hnx
   rintro ⟨k,m⟩ ⟨hk,hm⟩
   simp only at hk hm ⊢
   by_cases hkl:k<S.f.length
   ·have hd2:∀ σ':Heap,dh (.ro (flL 1 2 3 S g)::.ro (ints S.d)::.ro (pc S.f)::σ') 2 (0+k*2) 2=some [.int .i64 (gf S.f k).1,.int .i64 (gf S.f k).2]:=fun σ'=>lX (.inl rfl) hkl
    obtain ⟨hw1,hw2,-⟩:=hS.f k hkl
    have hup:=hm.up (((h+1:Nat):Int),(n:Int)) (gf S.f k).2
    have hup2:=fun hc=>hup.congr (byG_up (by omega) hnd hc)
    have hno:=fun hc=>hm.congr (byG_no (S:=S) (H:=H+1) (h:=h) (n:=n) (k:=k) hc)
    have hmp:=hm.plain
    have hrx:=wK S (h:=H+1) (j:=h) (b:=(gf S.f k).2.toNat) (by omega) (by omega)
    have hry:=wK S (h:=H+1) (j:=h+1) (b:=n) (by omega) (by omega)
    have hrm:nN S h (gf S.f k).2.toNat=most S h (gf S.f k).2.toNat:=by unfold nN;rw [if_pos (by omega)]
    have hrn:nN S (h+1) n=most S (h+1) n:=by unfold nN;rw [if_pos (by omega)]
    have hxb:=yF hS h (gf S.f k).2.toNat (by omega)
    have hdb:=hS.d n hnd
    rw [hrm] at hrx
    rw [hrn] at hry
    have hc1:∀ σ':Heap,cZ (cu.ro (flL 1 2 3 S g)::.ro (ints S.d)::.ro (pc S.f)::.ro (ints S.s)::.ro (fP S (H+1))::.rw [.pointer (some ⟨0,0,none⟩)]::.rw [sl 4 (H+1)]::σ') 4 (0+(((h+1:Nat):Int) - 1).toNat*10+(gf S.f k).2.toNat*1)=some (.int .i64 (most S h (gf S.f k).2.toNat)):=fun σ'=>by
     rw [show (((h+1:Nat):Int) - 1).toNat=h by omega,Nat.mul_one,Nat.zero_add];exact hrx
    have hc2:∀ σ':Heap,cZ (cu.ro (flL 1 2 3 S g)::.ro (ints S.d)::.ro (pc S.f)::.ro (ints S.s)::.ro (fP S (H+1))::.rw [.pointer (some ⟨0,0,none⟩)]::.rw [sl 4 (H+1)]::σ') 4 (0+(h+1)*10+n*1)=some (.int .i64 (most S (h+1) n)):=fun σ'=>by
     rw [Nat.mul_one,Nat.zero_add];exact hry
    have hc3:∀ σ':Heap,cZ (cu.ro (flL 1 2 3 S g)::.ro (ints S.d)::.ro (pc S.f)::.ro (ints S.s)::.ro (fP S (H+1))::.rw [.pointer (some ⟨0,0,none⟩)]::.rw [sl 4 (H+1)]::σ') 1 n=some (.int .i64 (gi S.d n)):=fun σ'=>gV hnd
    have hcc:goC S h n k↔(gf S.f k).1=n∧0≤most S h (gf S.f k).2.toNat∧most S (h+1) n=gi S.d n+most S h (gf S.f k).2.toNat:=Iff.rfl
    generalize goC S h n k=C at *
    clear hrx hry hrm hrn hm hup
    generalize gf S.f k=p at *
    obtain ⟨a,b⟩:=p
    simp only at hw1 hw2 hcc hc1 hxb hd2 hup2
    generalize most S h b.toNat=x at *
    generalize most S (h+1) n=y at *
    generalize gi S.d n=d at *
    by_cases ha:a=(n:Int)
    ·by_cases hx:x≥0
     ·by_cases hy:y=d+x
      ·have hup3:=hup2 (hcc.2 ⟨ha,hx,hy⟩)
       clear hup2 hno hcc
       repeat' (first|(refine gU ?_;first|(refine aP ?_;refine st (au rfl) rfl rfl ?_)|(refine aU ?_;first|refine st (ak rfl (by rfl)) rfl rfl ?_|refine st (aZ rfl (by exact hd2 _)) rfl rfl ?_)|(refine bG ?_;refine st (aG rfl rfl rfl) rfl rfl ?_)|(refine gIA ?_;first|refine st (bZ rfl rfl (by omega)) rfl rfl ?_|refine st (bV rfl rfl (by omega) (by omega)) rfl rfl ?_)|(refine eP ?_;refine st (bQ rfl) rfl rfl ?_)|(refine cO ?_;refine stN (aJ rfl rfl rfl rfl (by rfl)) rfl ?_))|(refine gG ?_;first|(refine aP ?_;refine bP rfl (au rfl) rfl rfl ?_)|(refine aU ?_;refine bP rfl (ak rfl (by rfl)) rfl rfl ?_)|(refine gIA ?_;refine bP rfl (bV rfl rfl (by omega) (by omega)) rfl rfl ?_))|refine aS ?_|refine aj ?_|refine ah ?_|refine bg ?_|refine aW ?_|refine aO ?_|refine aQ rfl ?_)
       refine iT (l:=14) rfl rfl (by rw [hL];rfl) rfl rfl rfl (fun _ _ _ _ he=>ig (b:=true) (by rw [fM (b:=decide (a=(n:Int))) rfl,decide_eq_true ha];rfl) he) ?_
       repeat' (first|(refine gU ?_;(refine aI ?_;refine st (aA rfl) rfl rfl ?_))|refine aj ?_|refine ah ?_)
       refine jB (by rw [hL];rfl) ?_
       repeat' (first|(refine gU ?_;first|(refine aP ?_;refine st (au rfl) rfl rfl ?_)|(refine aI ?_;refine st (aA rfl) rfl rfl ?_)|(refine aU ?_;refine st (ak rfl (by first|rfl|exact hc1 _)) rfl rfl ?_)|(refine BF ?_;refine st (kC rfl rfl (by omega) (by omega)) rfl rfl ?_)|(refine gIA ?_;first|refine st (lC rfl rfl (by omega) (by omega)) rfl rfl ?_|refine st (bV rfl rfl (by omega) (by omega)) rfl rfl ?_)|(refine uf ?_;refine st (jK (by rfl) rfl (by rfl)) rfl rfl ?_))|(refine fU ?_;first|(refine gZ ?_;refine frA (au rfl) rfl ?_)|(refine o7 ?_;refine frA (aG rfl rfl rfl) rfl ?_)|(refine kW ?_;refine frA (bH rfl rfl) rfl ?_))|(refine fG ?_;first|(refine gZ ?_;refine fE rfl (au rfl) rfl ?_)|(refine fFA ?_;refine fE rfl (aB rfl) rfl ?_)|(refine iH ?_;refine fE rfl (ak rfl (by first|rfl|exact hc2 _|exact hc3 _)) rfl ?_)|(refine fAdd ?_;refine fE rfl (tZ rfl rfl (by omega) (by omega)) rfl ?_)|(refine o7 ?_;refine fE rfl (aG rfl rfl rfl) rfl ?_)|(refine Gn ?_;refine fE rfl (iR rfl) rfl ?_)|(refine fIA ?_;first|refine fE rfl (gJ rfl rfl (by omega)) rfl ?_|refine fE rfl (bZ rfl rfl (by omega)) rfl ?_|refine fE rfl (gQ rfl rfl (by omega)) rfl ?_))|(refine fD ⟨by kernel_rfl,?_⟩)|refine aS ?_|refine aj ?_|refine dH (by kernel_rfl) rfl ?_|refine ah ?_|refine bg ?_|refine aO ?_|refine aQ rfl ?_)
       refine stN (ok_mapUpdate (i:=7) (l:=m) (k:=(((h+1:Nat):Int),(n:Int))) (v:=.int .i64 b) rfl rfl rfl rfl (by rw [hL];rfl)) rfl ?_
       repeat' (first|refine ah ?_|refine fH ?_)
       refine jC rfl rfl ?_
       repeat' (first|(refine gU ?_;first|(refine aP ?_;refine st (au rfl) rfl rfl ?_)|(refine iw ?_;refine st (dF rfl rfl (by omega)) rfl rfl ?_)|(refine eY ?_;refine st (bH rfl rfl) rfl rfl ?_))|(refine gG ?_;(refine kX ?_;refine bP rfl (gX rfl) rfl rfl ?_))|refine aj ?_|refine ah ?_|refine bg ?_|refine fH ?_|refine aW ?_|refine aN rfl ?_)
       refine ⟨rfl,(k+1,uK m (((h+1:Nat):Int),(n:Int)) (.int .i64 b)),⟨by simp only;omega,hup3⟩,by simp only;omega,?_⟩
       rw [hL]
       exact bT.drop [.ro (flL 1 2 3 S g),.ro (ints S.d),.ro (pc S.f),.ro (ints S.s),.ro (fP S (H+1)),.rw [.pointer (some ⟨0,0,none⟩)],.rw [sl 4 (H+1)],o8 (uK m (((h+1:Nat):Int),(n:Int)) (.int .i64 b)),.rw [.map (some 7)],.rw [.int .i64 ((h+1:Nat):Int)],.rw [.int .i64 (n:Int)],.rw [.pointer (some ⟨0,0,none⟩)],.rw [.int .i64 (n:Int)],.dfr,_] [_] (by simp) (Hu S g H n _ hup3.plain _ _ (by have:=hLc;rw [hL] at this;exact this)) (by (repeat' (first|exact trivial|exact ⟨rfl,rfl,rfl⟩|exact ⟨rfl,bM rfl,rfl⟩|refine ⟨?_,?_⟩)))
      ·have hno2:=hno (fun h=>hy (hcc.1 h).2.2)
       clear hup2 hno hcc
       repeat' (first|(refine gU ?_;first|(refine aP ?_;refine st (au rfl) rfl rfl ?_)|(refine aU ?_;first|refine st (ak rfl (by rfl)) rfl rfl ?_|refine st (aZ rfl (by exact hd2 _)) rfl rfl ?_)|(refine bG ?_;refine st (aG rfl rfl rfl) rfl rfl ?_)|(refine gIA ?_;first|refine st (bZ rfl rfl (by omega)) rfl rfl ?_|refine st (bV rfl rfl (by omega) (by omega)) rfl rfl ?_)|(refine eP ?_;refine st (bQ rfl) rfl rfl ?_)|(refine cO ?_;refine stN (aJ rfl rfl rfl rfl (by rfl)) rfl ?_))|(refine gG ?_;first|(refine aP ?_;refine bP rfl (au rfl) rfl rfl ?_)|(refine aU ?_;refine bP rfl (ak rfl (by rfl)) rfl rfl ?_)|(refine gIA ?_;refine bP rfl (bV rfl rfl (by omega) (by omega)) rfl rfl ?_))|refine aS ?_|refine aj ?_|refine ah ?_|refine bg ?_|refine aW ?_|refine aO ?_|refine aQ rfl ?_)
       refine iT (l:=14) rfl rfl (by rw [hL];rfl) rfl rfl rfl (fun _ _ _ _ he=>ig (b:=true) (by rw [fM (b:=decide (a=(n:Int))) rfl,decide_eq_true ha];rfl) he) ?_
       repeat' (first|(refine gU ?_;(refine aI ?_;refine st (aA rfl) rfl rfl ?_))|refine aj ?_|refine ah ?_)
       refine jB (by rw [hL];rfl) ?_
       repeat' (first|(refine gU ?_;first|(refine aP ?_;refine st (au rfl) rfl rfl ?_)|(refine aI ?_;refine st (aA rfl) rfl rfl ?_)|(refine aU ?_;refine st (ak rfl (by first|rfl|exact hc1 _)) rfl rfl ?_)|(refine BF ?_;refine st (kC rfl rfl (by omega) (by omega)) rfl rfl ?_)|(refine gIA ?_;first|refine st (lC rfl rfl (by omega) (by omega)) rfl rfl ?_|refine st (bV rfl rfl (by omega) (by omega)) rfl rfl ?_))|(refine fU ?_;first|(refine gZ ?_;refine frA (au rfl) rfl ?_)|(refine o7 ?_;refine frA (aG rfl rfl rfl) rfl ?_)|(refine kW ?_;refine frA (bH rfl rfl) rfl ?_))|(refine fG ?_;first|(refine gZ ?_;refine fE rfl (au rfl) rfl ?_)|(refine fFA ?_;refine fE rfl (aB rfl) rfl ?_)|(refine iH ?_;refine fE rfl (ak rfl (by first|rfl|exact hc2 _|exact hc3 _)) rfl ?_)|(refine fAdd ?_;refine fE rfl (tZ rfl rfl (by omega) (by omega)) rfl ?_)|(refine o7 ?_;refine fE rfl (aG rfl rfl rfl) rfl ?_)|(refine Gn ?_;refine fE rfl (iR rfl) rfl ?_)|(refine fIA ?_;first|refine fE rfl (gJ rfl rfl (by omega)) rfl ?_|refine fE rfl (bZ rfl rfl (by omega)) rfl ?_|refine fE rfl (gQ rfl rfl (by omega)) rfl ?_))|(refine fD ⟨by kernel_rfl,?_⟩)|refine aS ?_|refine aj ?_|refine dH (by kernel_rfl) rfl ?_|refine ah ?_|refine bg ?_|refine fH ?_|refine aW ?_|refine aO ?_|refine aN rfl ?_)
       refine jC rfl rfl ?_
       repeat' (first|(refine gU ?_;first|(refine aP ?_;refine st (au rfl) rfl rfl ?_)|(refine iw ?_;refine st (dF rfl rfl (by omega)) rfl rfl ?_)|(refine eY ?_;refine st (bH rfl rfl) rfl rfl ?_))|(refine gG ?_;(refine kX ?_;refine bP rfl (gX rfl) rfl rfl ?_))|refine aj ?_|refine ah ?_|refine bg ?_|refine fH ?_|refine aW ?_|refine aN rfl ?_)
       refine ⟨rfl,(k+1,m),⟨by simp only;omega,hno2⟩,by simp only;omega,?_⟩
       rw [hL]
       exact bT.drop [.ro (flL 1 2 3 S g),.ro (ints S.d),.ro (pc S.f),.ro (ints S.s),.ro (fP S (H+1)),.rw [.pointer (some ⟨0,0,none⟩)],.rw [sl 4 (H+1)],o8 m,.rw [.map (some 7)],.rw [.int .i64 ((h+1:Nat):Int)],.rw [.int .i64 (n:Int)],.rw [.pointer (some ⟨0,0,none⟩)],.rw [.int .i64 (n:Int)],.dfr,_] [_] (by simp) (Hu S g H n m hmp _ _ (by have:=hLc;rw [hL] at this;exact this)) (by (repeat' (first|exact trivial|exact ⟨rfl,rfl,rfl⟩|exact ⟨rfl,bM rfl,rfl⟩|refine ⟨?_,?_⟩)))
     ·have hno2:=hno (fun h=>hx (hcc.1 h).2.1)
      clear hup2 hno hcc
      repeat' (first|(refine gU ?_;first|(refine aP ?_;refine st (au rfl) rfl rfl ?_)|(refine aU ?_;first|refine st (ak rfl (by rfl)) rfl rfl ?_|refine st (aZ rfl (by exact hd2 _)) rfl rfl ?_)|(refine bG ?_;refine st (aG rfl rfl rfl) rfl rfl ?_)|(refine gIA ?_;first|refine st (bZ rfl rfl (by omega)) rfl rfl ?_|refine st (bV rfl rfl (by omega) (by omega)) rfl rfl ?_)|(refine eP ?_;refine st (bQ rfl) rfl rfl ?_)|(refine cO ?_;refine stN (aJ rfl rfl rfl rfl (by rfl)) rfl ?_))|(refine gG ?_;first|(refine aP ?_;refine bP rfl (au rfl) rfl rfl ?_)|(refine aU ?_;refine bP rfl (ak rfl (by rfl)) rfl rfl ?_)|(refine gIA ?_;refine bP rfl (bV rfl rfl (by omega) (by omega)) rfl rfl ?_))|refine aS ?_|refine aj ?_|refine ah ?_|refine bg ?_|refine aW ?_|refine aO ?_|refine aQ rfl ?_)
      refine iT (l:=14) rfl rfl (by rw [hL];rfl) rfl rfl rfl (fun _ _ _ _ he=>ig (b:=true) (by rw [fM (b:=decide (a=(n:Int))) rfl,decide_eq_true ha];rfl) he) ?_
      repeat' (first|(refine gU ?_;(refine aI ?_;refine st (aA rfl) rfl rfl ?_))|refine aj ?_|refine ah ?_)
      refine jB (by rw [hL];rfl) ?_
      repeat' (first|(refine gU ?_;first|(refine aP ?_;refine st (au rfl) rfl rfl ?_)|(refine aI ?_;refine st (aA rfl) rfl rfl ?_)|(refine aU ?_;refine st (ak rfl (by first|rfl|exact hc1 _)) rfl rfl ?_)|(refine BF ?_;refine st (kC rfl rfl (by omega) (by omega)) rfl rfl ?_)|(refine gIA ?_;first|refine st (lC rfl rfl (by omega) (by omega)) rfl rfl ?_|refine st (bV rfl rfl (by omega) (by omega)) rfl rfl ?_))|(refine fU ?_;first|(refine gZ ?_;refine frA (au rfl) rfl ?_)|(refine o7 ?_;refine frA (aG rfl rfl rfl) rfl ?_)|(refine kW ?_;refine frA (bY rfl rfl) rfl ?_))|(refine fG ?_;refine EK rfl rfl ?_)|(refine fD ⟨by kernel_rfl,?_⟩)|refine aS ?_|refine aj ?_|refine dH (by kernel_rfl) rfl ?_|refine ah ?_|refine bg ?_|refine fH ?_|refine aW ?_|refine aO ?_|refine aN rfl ?_)
      refine jC rfl rfl ?_
      repeat' (first|(refine gU ?_;first|(refine aP ?_;refine st (au rfl) rfl rfl ?_)|(refine iw ?_;refine st (dF rfl rfl (by omega)) rfl rfl ?_)|(refine eY ?_;refine st (bH rfl rfl) rfl rfl ?_))|(refine gG ?_;(refine kX ?_;refine bP rfl (gX rfl) rfl rfl ?_))|refine aj ?_|refine ah ?_|refine bg ?_|refine fH ?_|refine aW ?_|refine aN rfl ?_)
      refine ⟨rfl,(k+1,m),⟨by simp only;omega,hno2⟩,by simp only;omega,?_⟩
      rw [hL]
      exact bT.drop [.ro (flL 1 2 3 S g),.ro (ints S.d),.ro (pc S.f),.ro (ints S.s),.ro (fP S (H+1)),.rw [.pointer (some ⟨0,0,none⟩)],.rw [sl 4 (H+1)],o8 m,.rw [.map (some 7)],.rw [.int .i64 ((h+1:Nat):Int)],.rw [.int .i64 (n:Int)],.rw [.pointer (some ⟨0,0,none⟩)],.rw [.int .i64 (n:Int)],.dfr,_] [_] (by simp) (Hu S g H n m hmp _ _ (by have:=hLc;rw [hL] at this;exact this)) (by (repeat' (first|exact trivial|exact ⟨rfl,rfl,rfl⟩|exact ⟨rfl,bM rfl,rfl⟩|refine ⟨?_,?_⟩)))
    ·have hno2:=hno (fun h=>ha (hcc.1 h).1)
     clear hup2 hno hcc
     repeat' (first|(refine gU ?_;first|(refine aP ?_;refine st (au rfl) rfl rfl ?_)|(refine aU ?_;first|refine st (ak rfl (by rfl)) rfl rfl ?_|refine st (aZ rfl (by exact hd2 _)) rfl rfl ?_)|(refine iw ?_;refine st (dF rfl rfl (by omega)) rfl rfl ?_)|(refine bG ?_;refine st (aG rfl rfl rfl) rfl rfl ?_)|(refine eY ?_;refine st (bY rfl rfl) rfl rfl ?_)|(refine gIA ?_;first|refine st (bZ rfl rfl (by omega)) rfl rfl ?_|refine st (bV rfl rfl (by omega) (by omega)) rfl rfl ?_)|(refine eP ?_;refine st (bQ rfl) rfl rfl ?_)|(refine cO ?_;refine stN (aJ rfl rfl rfl rfl (by rfl)) rfl ?_))|(refine gG ?_;refine nU rfl rfl ?_)|refine aS ?_|refine aj ?_|refine ah ?_|refine bg ?_|refine fH ?_|refine aW ?_|refine aO ?_|refine aQ rfl ?_|refine aN rfl ?_)
     exact ⟨rfl,(k+1,m),⟨by simp only;omega,hno2⟩,by simp only;omega,bT.drop [.ro (flL 1 2 3 S g),.ro (ints S.d),.ro (pc S.f),.ro (ints S.s),.ro (fP S (H+1)),.rw [.pointer (some ⟨0,0,none⟩)],.rw [sl 4 (H+1)],o8 m,.rw [.map (some 7)],.rw [.int .i64 ((h+1:Nat):Int)],.rw [.int .i64 (n:Int)],.rw [.pointer (some ⟨0,0,none⟩)],.rw [.int .i64 (n:Int)],.dfr,L] [_] (by simp) (Hu S g H n m hmp _ L hLc) (by (repeat' (first|exact trivial|exact ⟨rfl,rfl,rfl⟩|exact ⟨rfl,bM rfl,rfl⟩|refine ⟨?_,?_⟩)))⟩
   ·obtain rfl:k=S.f.length:=by omega
    have hmn:=hm.congr byG_next
    repeat' (first|(refine gU ?_;(refine bG ?_;refine st (aG rfl rfl rfl) rfl rfl ?_))|refine aS ?_|refine aj ?_|refine ah ?_|refine bg ?_|refine jd ?_|refine eG rfl ?_|refine dW ?_|refine aN rfl ?_)
    refine IB .nil .all ⟨_,_,_,_,_,_,_,by rw [hL];rfl,by simp,?_⟩
    dsimp only
    repeat' (first|(refine gU ?_;first|(refine aP ?_;refine st (au rfl) rfl rfl ?_)|(refine iw ?_;refine st (dF rfl rfl (by omega)) rfl rfl ?_))|refine aj ?_|refine ah ?_|refine bg ?_|refine fH ?_)
    exact ⟨(n+1,m),⟨⟨by simp only;omega,hmn⟩,by simp only;omega⟩,Tail.mZ.src [.ro (flL 1 2 3 S g),.ro (ints S.d),.ro (pc S.f),.ro (ints S.s),.ro (fP S (H+1)),.rw [.pointer (some ⟨0,0,none⟩)],.rw [sl 4 (H+1)],o8 m,.rw [.map (some 7)],.rw [.int .i64 ((h+1:Nat):Int)]] [] [] 13 (by simp) rfl (Eo S g H m hm.plain _) rfl rfl rfl trivial (by (repeat' (first|exact trivial|refine ⟨yI rfl (by simp) rfl,?_⟩|refine ⟨bD rfl rfl,?_⟩|refine ⟨aV (m:=10) rfl (fun i hi=>aY hi) (by simp) (by exact bM rfl) rfl,?_⟩)))⟩
  ·obtain rfl:n=S.d.length:=by omega
   have e:((h+1:Nat):Int) - 1=(h:Int):=by omega
   repeat' (first|(refine gU ?_;first|(refine aU ?_;refine st (ak rfl (by rfl)) rfl rfl ?_)|(refine BF ?_;refine st (kC rfl rfl (by omega) (by omega)) rfl rfl ?_)|(refine bG ?_;refine st (aG rfl rfl rfl) rfl rfl ?_)|(refine eP ?_;refine st (bQ rfl) rfl rfl ?_)|(refine cO ?_;refine stN (aJ rfl rfl rfl rfl (by rfl)) rfl ?_))|refine aS ?_|refine aj ?_|refine ah ?_|refine bg ?_|refine jd ?_|refine fH ?_|refine eG rfl ?_|refine dW ?_|refine aN rfl ?_)
   exact ⟨(h,m),⟨⟨by simp only;omega,hm⟩,by simp only;omega⟩,.of (bT.src [.ro (flL 1 2 3 S g),.ro (ints S.d),.ro (pc S.f),.ro (ints S.s),.ro (fP S (H+1)),.rw [.pointer (some ⟨0,0,none⟩)],.rw [sl 4 (H+1)],o8 m,.rw [.map (some 7)]] [.rw [.int .i64 (h:Int)]] [10] (by simp) rfl (hc_q9 S g H m hm.plain) rfl rfl ⟨dA (j:=10) rfl (.inl (by rw [← e];rfl)) rfl,trivial⟩ (by (repeat' (first|exact trivial|refine ⟨bD rfl rfl,?_⟩|refine ⟨yI rfl (by simp) rfl,?_⟩)))) (by simp)⟩
end Go.Proofs.Ytomioaiojidnbaa
namespace Go.AH.Dust
open Go Go.AH
noncomputable def wS (S:Shp) (h:Nat):Int:=Ht S (nN S h)
noncomputable def nV (S:Shp) (h:Int):Int:=if iU S h ≠ 0 then iU S h else if wS S (h.toNat - 1)<0 then 5 else 0
noncomputable def jl (S:Shp) (h:Int):List Int:=if nV S h=0 then jD S (h.toNat - 1) (wS S (h.toNat - 1)) else []
noncomputable def wU (S:Shp) (h:Int):Int:=if nV S h=0 then most S (h.toNat - 1) (wS S (h.toNat - 1)).toNat else 0
theorem zG (S:Shp) (h:Nat):(wS S h=-1∧∀ i,i<S.d.length→rB S i=true→most S h i<0) ∨
  (∃ t:Nat,wS S h=t∧t<S.d.length∧rB S t=true∧0≤most S h t∧∀ i,i<S.d.length→rB S i=true→most S h i≤most S h t):=by
 have e:∀ i,i<S.d.length→nN S h i=most S h i:=fun i hi=>by unfold nN;rw [if_pos hi]
 rcases topV_is S (nN S h) with ⟨h1,h2⟩|⟨t,h1,h2,h3,h4,h5⟩
 ·exact .inl ⟨h1,fun i hi hr=>by rw [← e i hi];exact h2 i hi hr⟩
 ·exact .inr ⟨t,h1,h2,h3,by rw [← e t h2];exact h4,fun i hi hr=>by rw [← e i hi,← e t h2];exact h5 i hi hr⟩
theorem Ep (S:Shp):∀ {h j:Nat},j<h→((fP S h).drop (j*10)).take 10=rx (nN S j)
 |0,_,hj=>by omega
 |h+1,j,hj=>by
  have hl:=uT S h
  have hx:(rx (nN S h)).length=10:=rfl
  rw [fP]
  by_cases hjh:j=h
  ·subst hjh
   rw [← hl,List.drop_left,← hx,List.take_length]
  ·rw [List.drop_append_of_le_length (by omega),List.take_append_of_le_length (by rw [List.length_drop];omega)]
   exact Ep S (by omega)
theorem Bv {σ:Heap} {S:Shp} {q h j:Nat} (hq:jL σ q (fP S h)) (hj:j<h):dh σ q (0+j*10) 10=some (rx (nN S j)):=by
 have hl:=uT S h
 have ht:=Ep S hj
 rcases hq with h|h|⟨t,h⟩ <;> simp only [dh,h] <;> rw [show Nat.ble (0+j*10+10) (fP S _).length=true from Nat.ble_eq.mpr (by omega),Nat.zero_add,ht] <;> rfl
theorem ret3 {σin σ:Heap} {cs:List Value} {n j c:Nat} {u v:Value} (hσ:σ.take σin.length=σin) (hp:gy cs=true) (hg:σ[j]?=some (.rw cs)∨∃ t,σ[j]?=some (.gr cs t)) (hj:Nat.ble σin.length j=true) (hu:plain u=true) (hv:plain v=true) (hc:n≤c) :
  dQ σin σ (.tuple #[u,.slice (some ⟨j,0,none⟩) n c,v]) (.tuple #[u,sl σin.length n,v]) (σin++[.rw cs]):=by
 refine dQ.src [.rw cs] [j] hσ rfl (by simp [jo,hj]) ⟨dA BZ hg hp,trivial⟩ ?_
 refine .tuple _ _ rfl fun i hi _=>?_
 match i,hi with
 |0,_=>exact bU _ hu
 |1,_=>exact gu (by simp) BZ hc
 |2,_=>exact bU _ hv
theorem Hw {σin σ:Heap} {u v:Value} (hσ:σ.take σin.length=σin) (hu:plain u=true) (hv:plain v=true) :
  dQ σin σ (.tuple #[u,.slice none 0 0,v]) (.tuple #[u,sl σin.length 0,v]) (σin++[.rw []]):=by
 refine dQ.src [.rw []] [σin.length] hσ rfl (by simp [jo]) ⟨.inl rfl,trivial⟩ ?_
 refine .tuple _ _ rfl fun i hi _=>?_
 match i,hi with
 |0,_=>exact bU _ hu
 |1,_=>exact .emptySlice _ _ _ _
 |2,_=>exact bU _ hv
theorem splice_all {cs vs:List Value} (h:cs.length=vs.length):splice cs 0 vs=vs:=by simp [splice,← h]
end Go.AH.Dust
namespace Go.Proofs.Ytomioaiojidnbaa
open Go Go.AH
attribute [local irreducible] dO dI dM kK iM gK iC dV iJ dQ iK iE
set_option maxRecDepth 100000
set_option maxHeartbeats 1000000
open Go.AH.Dust
theorem run64_ev {σ:Heap} {S:Shp} {g:Nat→Int} {H first p x y z q:Nat} (h:FAt σ p x y z S g) (hq:jL σ q (fP S (H+1))) (hS:S.ok) (hH:H<24) (hf:first<S.d.length) (h0:0≤most S H first) (hni:σ.all (fun o=>!dB o)=true) :
  Ev Try.prog 64 [.pointer (some ⟨p,0,none⟩),sl q (H+1),.int .i64 (first:Int)] σ (sl σ.length (H+1)) (σ++[.rw (ints (jD S H first))]):=by
 refine Ev.arrsR (news:=[.rw (ints (jD S H first))]) (D9 S g++[fP S (H+1)]) (fBs p x y z S g++[(q,fP S (H+1))]) (run64_ok S hS g H first hH hf h0) (h.cells ⟨⟨hq,rfl,fun a ha ha'=>iG _ (kJ _ _) a ha⟩,trivial⟩)
  (show AS 5 (bsR [p,x,y,z,q]) [.pointer (some ⟨0,0,none⟩),sl 4 (H+1),.int .i64 (first:Int)] [.pointer (some ⟨p,0,none⟩),sl q (H+1),.int .i64 (first:Int)] from ⟨VQ.ptr (q:=true) (n:=5) (ρ:=bsR [p,x,y,z,q]) 0 0 (by omega),gu (by omega) rfl (Nat.le_refl _),bU _ rfl,trivial⟩) rfl ?_ ?_ hni
 ·simp [ren,shf,D9]
 ·simp only [List.map_cons,List.map_nil,sW,lu _ (aK _)]
theorem FK (S:Shp) (hS:S.fit) (h:Int):Ev Try.prog 24 [shV 0 1 2 S,.int .i64 h] S.hp (.tuple #[.int .i64 (wU S h),sl 3 (jl S h).length,.int .i64 (nV S h)]) (S.hp++[.rw (ints (jl S h))]):=by
 unfold wU jl
 by_cases hc:iU S h=0
 ·obtain ⟨h0,h1,h24⟩:=mY hc
  have hok:=fB h0
  have n10:=hok.n10
  obtain ⟨H,rfl⟩:∃ H:Nat,h=((H+1:Nat):Int):=⟨(h - 1).toNat,by omega⟩
  have hck:=Eb (σ:=[.ro (ints S.d),.ro (pc S.f),.ro (ints S.s),.rw (shL 0 1 2 S)]) (S:=S) (h:=((H+1:Nat):Int)) (x:=0) (y:=1) (z:=2) ⟨.inl rfl,.inl rfl,.inl rfl⟩ gW hS hc rfl
  have hrows:=Np (σ:=[.ro (ints S.d),.ro (pc S.f),.ro (ints S.s),.rw (shL 0 1 2 S),.rw (flL 0 1 2 S (fun i=>bI (rB S i)))]) (S:=S) (g:=fun i=>bI (rB S i)) (H:=H+1) (p:=4) (x:=0) (y:=1) (z:=2) ⟨.inr (.inl rfl),.inl rfl,.inl rfl,.inl rfl⟩ hok (by omega) rfl
  have htop:=top_ev (σ:=[.ro (ints S.d),.ro (pc S.f),.ro (ints S.s),.rw (shL 0 1 2 S),.rw (flL 0 1 2 S (fun i=>bI (rB S i))),.rw (fP S (H+1))]) (S:=S) (r:=nN S H) (p:=4) (x:=0) (y:=1) (z:=2) ⟨.inr (.inl rfl),.inl rfl,.inl rfl,.inl rfl⟩ hok rfl
  have eH:(((H+1:Nat):Int)).toNat - 1=H:=by omega
  have eH1:(((H+1:Nat):Int) - 1).toNat=H:=by omega
  have hd5:dh [.ro (ints S.d),.ro (pc S.f),.ro (ints S.s),.rw (shL 0 1 2 S),.rw (flL 0 1 2 S (fun i=>bI (rB S i))),.rw (fP S (H+1))] 5 (0+(((H+1:Nat):Int) - 1).toNat*10) 10=some (rx (nN S H)):=by rw [eH1];exact Bv (.inr (.inl rfl)) (by omega)
  have htw:Ht S (nN S H)=wS S H:=rfl
  rw [htw] at htop
  have heE:nV S ((H+1:Nat):Int)=if wS S H<0 then 5 else 0:=by unfold nV;rw [if_neg (fun hn=>hn hc),eH]
  rw [heE,eH]
  rcases zG S H with ⟨t1,t2⟩|⟨t,t1,t2,t3,t4,t5⟩
  ·have hneg:wS S H<0:=by omega
   rw [if_pos hneg,if_neg (by omega),if_neg (by omega)]
   generalize wS S H=T at *
   refine aX 3 52 Try.func24 rfl rfl rfl rfl rfl ?_
   repeat' (first|(refine gU ?_;first|(refine aP ?_;refine st (au rfl) rfl rfl ?_)|(refine aI ?_;refine st (aA rfl) rfl rfl ?_)|(refine aU ?_;refine st (aZ rfl (by first|rfl|exact hd5)) rfl rfl ?_)|(refine BF ?_;refine st (kC rfl rfl (by omega) (by omega)) rfl rfl ?_)|(refine bG ?_;refine st (aG rfl rfl rfl) rfl rfl ?_)|(refine kP ?_;refine st (jh rfl rfl) rfl rfl ?_)|(refine gIA ?_;refine st (lC rfl rfl (by omega) (by omega)) rfl rfl ?_)|(refine fC ?_;refine st (bC rfl rfl rfl (by first|exact hck|exact hrows|exact htop)) rfl rfl ?_)|(refine kD ?_;refine st (gI rfl) rfl rfl ?_))|refine aS ?_|refine aj ?_|refine ah ?_|refine bg ?_|refine kL ?_|refine aW ?_|refine dX ?_|refine aQ rfl ?_|refine aN rfl ?_)
   exact iF (.tmp rfl (.tmp rfl (.tmp rfl .nil))) (Hw rfl rfl rfl) ⟨rfl,rfl⟩
  ·rw [t1] at htop ⊢
   have hneg:¬ ((t:Nat):Int)<0:=by omega
   rw [if_neg hneg,if_pos rfl,if_pos rfl]
   have hrun:=run64_ev (σ:=[.ro (ints S.d),.ro (pc S.f),.ro (ints S.s),.rw (shL 0 1 2 S),.rw (flL 0 1 2 S (fun i=>bI (rB S i))),.rw (fP S (H+1))]) (S:=S) (g:=fun i=>bI (rB S i)) (H:=H) (first:=t) (p:=4) (x:=0) (y:=1) (z:=2) (q:=5) ⟨.inr (.inl rfl),.inl rfl,.inl rfl,.inl rfl⟩ (.inr (.inl rfl)) hok (by omega) t2 t4 rfl
   have hpl:=Az S H t
   have hpi:(ints (jD S H t)).length=H+1:=by simp [ints,hpl]
   have hcp:dh [.ro (ints S.d),.ro (pc S.f),.ro (ints S.s),.rw (shL 0 1 2 S),.rw (flL 0 1 2 S (fun i=>bI (rB S i))),.rw (fP S (H+1)),.rw (ints (jD S H t)),.rw (jI (gB (.int .i64 0)) (H+1))] 6 0 ((H+1)*1)=some (ints (jD S H t)):=by
    have:=qI (σ:=[.ro (ints S.d),.ro (pc S.f),.ro (ints S.s),.rw (shL 0 1 2 S),.rw (flL 0 1 2 S (fun i=>bI (rB S i))),.rw (fP S (H+1)),.rw (ints (jD S H t)),.rw (jI (gB (.int .i64 0)) (H+1))]) (b:=6) (.inr (.inl rfl):jL _ 6 (ints (jD S H t)))
    rwa [hpi,← Nat.mul_one (H+1)] at this
   have hone:=DY (jD S H t)
   have hput:=sO (σ:=[.ro (ints S.d),.ro (pc S.f),.ro (ints S.s),.rw (shL 0 1 2 S),.rw (flL 0 1 2 S (fun i=>bI (rB S i))),.rw (fP S (H+1)),.rw (ints (jD S H t)),.rw (jI (gB (.int .i64 0)) (H+1))]) (b:=7) (o:=0) (cs':=ints (jD S H t)) (vs:=ints (jD S H t)) rfl (by rw [l7,hpi];simp [gB]) (by rw [l7];simp [gB]) (splice_all (by rw [l7,hpi];simp [gB]))
   have hc1:cZ [.ro (ints S.d),.ro (pc S.f),.ro (ints S.s),.rw (shL 0 1 2 S),.rw (flL 0 1 2 S (fun i=>bI (rB S i))),.rw (fP S (H+1)),.rw (ints (jD S H t)),.rw (ints (jD S H t))] 5 (0+(((H+1:Nat):Int) - 1).toNat*10+t*1)=some (.int .i64 (most S H t)):=by
    have:=wK S (h:=H+1) (j:=H) (b:=t) (by omega) (by omega)
    rw [eH1,Nat.zero_add,Nat.mul_one]
    unfold nN at this
    rw [if_pos t2] at this
    exact this
   have hmt:(((t:Nat):Int)).toNat=t:=by omega
   rw [hmt]
   generalize jD S H t=PL at *
   generalize most S H t=M at *
   refine aX 3 52 Try.func24 rfl rfl rfl rfl rfl ?_
   repeat' (first|(refine gU ?_;first|(refine aP ?_;refine st (au rfl) rfl rfl ?_)|(refine aI ?_;refine st (aA rfl) rfl rfl ?_)|(refine aU ?_;first|refine st (ak rfl (by exact hc1)) rfl rfl ?_|refine st (aZ rfl (by first|rfl|exact hd5)) rfl rfl ?_)|(refine BF ?_;refine st (kC rfl rfl (by omega) (by omega)) rfl rfl ?_)|(refine bG ?_;refine st (aG rfl rfl rfl) rfl rfl ?_)|(refine fK ?_;refine st (bK rfl) rfl rfl ?_)|(refine kP ?_;refine st (jh rfl rfl) rfl rfl ?_)|(refine gIA ?_;first|refine st (gQ rfl rfl (by omega)) rfl rfl ?_|refine st (lC rfl rfl (by omega) (by omega)) rfl rfl ?_)|(refine fC ?_;refine st (bC rfl rfl rfl (by first|exact hck|exact hrows|exact htop|exact hrun)) rfl rfl ?_)|(refine kD ?_;refine st (gI rfl) rfl rfl ?_)|(refine Gm ?_;refine st (wu (by rfl) (by rfl) rfl rfl (by omega) (by omega) (by omega)) rfl rfl ?_)|(refine gCopy ?_;refine st (LH rfl rfl (by omega) (by exact hcp) (by exact hone) (by exact hput)) rfl rfl ?_))|refine aS ?_|refine aj ?_|refine ah ?_|refine bg ?_|refine aW ?_|refine dX ?_|refine aN rfl ?_)
   rw [hpl]
   exact iF (.tmp rfl (.tmp rfl (.tmp rfl .nil))) (ret3 (j:=7) rfl (aK PL) (.inl rfl) rfl rfl rfl (Nat.le_refl _)) ⟨rfl,rfl⟩
 ·have heE:nV S h=iU S h:=by unfold nV;rw [if_pos hc]
  rw [heE,if_neg hc,if_neg hc]
  have hck:=Bl (σ:=[.ro (ints S.d),.ro (pc S.f),.ro (ints S.s),.rw (shL 0 1 2 S)]) (S:=S) (h:=h) (x:=0) (y:=1) (z:=2) ⟨.inl rfl,.inl rfl,.inl rfl⟩ gW hS hc rfl
  refine aX 3 52 Try.func24 rfl rfl rfl rfl rfl ?_
  repeat' (first|(refine gU ?_;first|(refine aP ?_;refine st (au rfl) rfl rfl ?_)|(refine aI ?_;refine st (aA rfl) rfl rfl ?_)|(refine aU ?_;refine st (aZ rfl (by rfl)) rfl rfl ?_)|(refine bG ?_;refine st (aG rfl rfl rfl) rfl rfl ?_)|(refine kP ?_;refine st (jh rfl rfl) rfl rfl ?_)|(refine fC ?_;refine st (bC rfl rfl rfl (by exact hck)) rfl rfl ?_)|(refine kD ?_;refine st (gI rfl) rfl rfl ?_))|refine aS ?_|refine aj ?_|refine ah ?_|refine bg ?_|refine kL ?_|refine dX ?_|refine aQ rfl ?_)
  exact iF (.tmp rfl (.tmp rfl (.tmp rfl .nil))) (Hw rfl rfl rfl) ⟨rfl,rfl⟩
theorem FM {σ:Heap} {S:Shp} {h:Int} {x y z:Nat} {v:Value} (hs:SAt σ x y z S) (hv:ShS x y z S v) (hS:S.fit) (hni:σ.all (fun o=>!dB o)=true) :
  Ev Try.prog 24 [v,.int .i64 h] σ (.tuple #[.int .i64 (wU S h),sl σ.length (jl S h).length,.int .i64 (nV S h)]) (σ++[.rw (ints (jl S h))]):=by
 refine Ev.arrsN S.css [x,y,z] (FK S hS h) hs.arrs ⟨hv,.int _ _,trivial⟩ S.css_plain rfl ?_ ?_ hni
 ·simp [ren,uo,vP,shf]
 ·simp only [List.map_cons,List.map_nil,sW,lu _ (aK _)]
end Go.Proofs.Ytomioaiojidnbaa
namespace Go.AH
open Go
def RJ (v:Value):List Nat:=match wC v with
 |some p=>bif Nat.beq p.2.2.1 0 then [] else [p.1]
 |none=>[]
def KZ:List Value→List Nat
 |[]=>[]
 |v::l=>(match asAgg v with|some a=>a.flatMap RJ|none=>RJ v)++KZ l
def jJ:List Known→lV
 |[]=>fun _ _ _=>none
 |k::ks=>fun f args σ=>bif Nat.beq k.f f then (match DT k args σ (KZ args) with|some r=>some r|none=>jJ ks f args σ) else jJ ks f args σ
theorem iQ {P:Program}:∀ {ks:List Known},(∀ k ∈ ks,iV P k)→nP P (jJ ks)
 |[],_=>fun f args σ r h=>by cases h
 |k::ks,hk=>fun f args σ r h=>by
  have ih:=iQ (P:=P) (ks:=ks) fun k' h'=>hk k' (List.mem_cons_of_mem _ h')
  simp only [jJ] at h
  cases hf:Nat.beq k.f f with
  |false=>rw [hf] at h;exact ih _ _ _ _ h
  |true =>
   rw [hf] at h
   simp only [cond_true] at h
   split at h
   ·rename_i r' hr'
    cases h
    simp only [DT,bJ,Bool.and_eq_true] at hr'
    obtain ⟨⟨⟨⟨h1,h2⟩,h3⟩,h4⟩,h5⟩:=hr'
    cases h5
    obtain ⟨k1,k2,k3⟩:=hk k (by simp)
    have hfe:=Nat.eq_of_beq_eq_true hf
    subst hfe
    exact ⟨Ev.arrsN k.css (KZ args) k1 (MQ h1) (Ry (Nat.eq_of_beq_eq_true h3) (zx h2).2) k2 k3 rfl rfl h4,Keep.app⟩
   ·exact ih _ _ _ _ h
end Go.AH
namespace Go.AH.Dust
open Go Go.AH
def Hy (q:Nat→Bool) (r:Nat→Int):Nat→List Int
 |0=>[]
 |k+1=>if q k=true∧r k≥0 then Hy q r k++[(k:Int)] else Hy q r k
theorem Nq {S:Shp} {q:Nat→Bool} {r:Nat→Int}:∀ {k:Nat},(∀ i,i<k→rB S i=q i)→jF S r k=Hy q r k
 |0,_=>rfl
 |k+1,h=>by simp only [jF,Hy];rw [Nq fun i hi=>h i (by omega),h k (by omega)]
def QK (q:Nat→Bool) (n:Nat) (r:Nat→Int):Int :=
 if jH r (Hy q r n) (Hy q r n).length<0 then -1 else gi (Hy q r n) (jH r (Hy q r n) (Hy q r n).length).toNat
theorem winT_eq {S:Shp} {q:Nat→Bool} {h:Nat} (hq:∀ i,i<S.d.length→rB S i=q i):wS S h=QK q S.d.length (nN S h):=by
 unfold wS Ht QK;rw [Nq hq]
def shS:Shp:=⟨[30,10,0],[(0,0),(0,1),(1,2),(2,0),(1,1)],[2]⟩
def shT:Shp:=⟨[30,10,0],[(0,1),(1,2),(2,0)],[2]⟩
theorem wV:dG shS=0:=by decide +kernel
theorem pK:dG shT=0:=by decide +kernel
theorem qF:∀ i,i<shT.d.length→rB shT i=true:=by
 have h2:Rch shT 2:=.first (by simp [shT])
 have h0:Rch shT 0:=.next h2 (by simp [shT])
 have h1:Rch shT 1:=.next h0 (by simp [shT])
 intro i hi
 have hi:i<3:=hi
 rw [lQ]
 match i,hi with
 |0,_=>exact h0
 |1,_=>exact h1
 |2,_=>exact h2
theorem zH:∀ i,i<shS.d.length→rB shS i=true:=by
 have h2:Rch shS 2:=.first (by simp [shS])
 have h0:Rch shS 0:=.next h2 (by simp [shS])
 have h1:Rch shS 1:=.next h0 (by simp [shS])
 intro i hi
 have hi:i<3:=hi
 rw [lQ]
 match i,hi with
 |0,_=>exact h0
 |1,_=>exact h1
 |2,_=>exact h2
theorem win_is {S:Shp} {H t:Nat} {V:Int} {L:List Int} (h0:dG S=0) (hH:H<24) (hr:∀ i,i<S.d.length→rB S i=true) (ht:QK (fun _=>true) S.d.length (nN S H)=t) (hV:most S H t=V) (hL:jD S H t=L) :
  nV S ((H+1:Nat):Int)=0∧wU S ((H+1:Nat):Int)=V∧jl S ((H+1:Nat):Int)=L:=by
 have hc:iU S ((H+1:Nat):Int)=0:=by unfold iU;rw [if_neg (fun h=>h h0),if_neg (by omega)]
 have eH:(((H+1:Nat):Int)).toNat - 1=H:=by omega
 have hT:wS S H=t:=by rw [winT_eq (q:=fun _=>true) hr];exact ht
 have hE:nV S ((H+1:Nat):Int)=0:=by unfold nV;rw [if_neg (fun h=>h hc),eH,hT,if_neg (by omega)]
 refine ⟨hE,?_,?_⟩
 ·unfold wU;rw [if_pos hE,eH,hT];simpa using hV
 ·unfold jl;rw [if_pos hE,eH,hT];exact hL
end Go.AH.Dust
namespace Go.Proofs.Ytomioaiojidnbaa
open Go Go.AH
attribute [local irreducible] dO dI dM kK iM gK iC dV iJ dQ iK iE
set_option maxRecDepth 100000
set_option maxHeartbeats 1000000
open Go.AH.Dust
def Oe (S:Shp) (h V:Int) (L:List Int):Known:=⟨24,[shV 0 1 2 S,.int .i64 h],S.css,.tuple #[.int .i64 V,sl 3 L.length,.int .i64 0],[.rw (ints L)]⟩
theorem zI {S:Shp} {H t:Nat} {V:Int} {L:List Int} (h0:dG S=0) (hH:H<24) (hr:∀ i,i<S.d.length→rB S i=true) (ht:QK (fun _=>true) S.d.length (nN S H)=t) (hV:most S H t=V) (hL:jD S H t=L) :
  iV Try.prog (Oe S ((H+1:Nat):Int) V L):=by
 obtain ⟨h1,h2,h3⟩:=win_is h0 hH hr ht hV hL
 have:=FK S (fB h0).fit ((H+1:Nat):Int)
 rw [h1,h2,h3] at this
 exact ⟨this,S.css_plain,rfl⟩
def kT1:Known:=Oe shT 1 30 [0]
def kT2:Known:=Oe shT 2 40 [0,1]
def kT3:Known:=Oe shT 3 40 [0,1,2]
def kT4:Known:=Oe shT 4 70 [0,1,2,0]
def kS3:Known:=Oe shS 3 90 [0,0,0]
theorem kT1_ok:iV Try.prog kT1:=zI (H:=0) (t:=0) pK (by omega) qF (by decide +kernel) (by decide +kernel) (by decide +kernel)
theorem kT2_ok:iV Try.prog kT2:=zI (H:=1) (t:=0) pK (by omega) qF (by decide +kernel) (by decide +kernel) (by decide +kernel)
theorem kT3_ok:iV Try.prog kT3:=zI (H:=2) (t:=0) pK (by omega) qF (by decide +kernel) (by decide +kernel) (by decide +kernel)
theorem kT4_ok:iV Try.prog kT4:=zI (H:=3) (t:=0) pK (by omega) qF (by decide +kernel) (by decide +kernel) (by decide +kernel)
theorem kS3_ok:iV Try.prog kS3:=zI (H:=2) (t:=0) wV (by omega) zH (by decide +kernel) (by decide +kernel) (by decide +kernel)
def JB (i:Nat):Int:=bif Nat.blt i 3 then 1 else 0
def P6 (S:Shp):Known:=⟨50,[shV 0 1 2 S],S.css,.tuple #[.pointer (some ⟨3,0,none⟩),.int .i64 0],[.rw (flL 0 1 2 S JB)]⟩
theorem JC {S:Shp} (h0:dG S=0) (h3:S.d.length=3) (hr:∀ i,i<S.d.length→rB S i=true):iV Try.prog (P6 S):=by
 have h:=Nh S (fB h0).fit h0
 have e:flL 0 1 2 S (fun i=>bI (rB S i))=flL 0 1 2 S JB:=by
  show sl 0 _::sl 1 _::sl 2 _::rx _=sl 0 _::sl 1 _::sl 2 _::rx _
  rw [uQ fun j _=>?_]
  by_cases hj:j<3
  ·rw [hr j (by omega)]
   simp [JB,bI,Nat.blt_eq.mpr hj]
  ·have:rB S j=false:=by
    cases hb:rB S j with
    |false=>rfl
    |true=>have:=lY (fB h0) (lQ.1 hb);omega
   rw [this]
   have hn:Nat.blt j 3=false:=by
    cases hb:Nat.blt j 3 with
    |false=>rfl
    |true=>exact absurd (Nat.blt_eq.mp hb) hj
   simp [JB,bI,hn]
 rw [e] at h
 exact ⟨h,S.css_plain,rfl⟩
def La (S:Shp):Known:=⟨16,[shV 0 1 2 S],S.css,.tuple #[sl 3 3,.int .i64 0],[.rw (ints [0,1,2])]⟩
theorem FN {S:Shp} (h0:dG S=0) (h3:S.d.length=3) (hr:∀ i,i<S.d.length→rB S i=true):iV Try.prog (La S):=by
 have h:=xW S (fB h0).fit
 have e:fO S=[0,1,2]:=by
  unfold fO
  rw [if_pos h0,h3]
  simp only [rL]
  rw [if_pos (hr 0 (by omega)),if_pos (hr 1 (by omega)),if_pos (hr 2 (by omega))]
  rfl
 rw [e,h0] at h
 exact ⟨h,S.css_plain,rfl⟩
def JD (f:Nat) (S:Shp):Known:=⟨f,[shV 0 1 2 S],S.css,.int .i64 0,[]⟩
theorem JE {S:Shp} (h0:dG S=0):iV Try.prog (JD 21 S):=by
 have h:=Na S (fB h0).fit
 rw [h0] at h
 exact ⟨h,S.css_plain,rfl⟩
theorem kRefShop_ok {S:Shp} (h0:dG S=0):iV Try.prog (JD 22 S):=by
 have h:=D7 S (fB h0).fit
 rw [h0] at h
 exact ⟨h,S.css_plain,rfl⟩
def ksD:List Known:=[P6 shT,P6 shS,La shT,La shS,JD 21 shT,JD 21 shS,JD 22 shT,kT1,kT2,kT3,kT4,kS3]
theorem Es:∀ k ∈ ksD,iV Try.prog k:=by
 intro k hk
 simp only [ksD,List.mem_cons,List.not_mem_nil,or_false] at hk
 rcases hk with rfl|rfl|rfl|rfl|rfl|rfl|rfl|rfl|rfl|rfl|rfl|rfl
 ·exact JC pK rfl qF
 ·exact JC wV rfl zH
 ·exact FN pK rfl qF
 ·exact FN wV rfl zH
 ·exact JE pK
 ·exact JE wV
 ·exact kRefShop_ok pK
 ·exact kT1_ok
 ·exact kT2_ok
 ·exact kT3_ok
 ·exact kT4_ok
 ·exact kS3_ok
end Go.Proofs.Ytomioaiojidnbaa
namespace Go.AH
open Go
section
variable {P:Program} (w:World)
theorem run_append_roomO (t ty e:TypeId) (i:TypeInfo) (ht:P.underlying t=some (.slice e)) (hi:P.info? e=some i)
  (g o sLen sCap:Nat) (cur:Array Value) (hg:w.heap[g]?=some (.cells cur e (0,0)))
  (a:Addr) (m c:Nat) (news:List Value) (hl:news.length=m*i.size) (hnews:∀ j u,news[j]?=some u→w.cell? (a.add j)=some u) (h1:∀ u ∈ news,u.oneCell'=true)
  (hroom:sLen+m≤sCap) (hfit:o+sLen*i.size+news.length≤cur.size) :
  (Builtin.append_ #[t,t] ty #[.slice (some ⟨g,o,none⟩) sLen sCap,.slice (some a) m c]).run P w =
   .ok (.slice (some ⟨g,o,none⟩) (sLen+m) sCap) (w.setRow g (cur.toList.take (o+sLen*i.size)++news++cur.toList.drop (o+sLen*i.size+news.length)).toArray):=by
 have hf:=run_firstCells_some (P:=P) w i.size m a m c news hl hnews
 have hst:=run_storeCells_at P g (o+sLen*i.size) e news 0 cur w hg (by simpa using hfit) h1
 simp only [Nat.add_zero] at hst
 simp [Builtin.append_,run_underlying ht,sizeOf,typeInfo,hi,Builtin.lenOf,hroom,hf,addr_add,hst]
end
def Nr (P:Program) (rd:Option Nat) (op:Op) (ty:TypeId) (e:Env) (σ:Heap) (R:Value→Heap→Prop):Prop :=
 ∀ o:Oper,o.op=op→o.type=ty→∀ G w0 ρ A w,(∀ l,rd=some l→l < σ.length)→Sim G w0 ρ σ w →
  (∀ x ∈ op.operands,∀ u,bf e x=some u→gY σ.length ρ u (A.eval x))→∀ (next:Act→World→Prop) (Q':Exit→Act→World→Prop),
  (∀ v σ' ρ' v' w',R v σ'→gY σ'.length ρ' v v'→σ.length≤σ'.length→(∀ i < σ.length,ρ' i=ρ i)→Sim G w0 ρ' σ' w'→next (A.put o.dst v') w') →
  o.wpIn (fen ρ rd) 0 P A w next Q'
section
variable {P:Program} {n0 N:Nat} {rd:Option Nat} {e:Env} {mk:List Nat} {σ:Heap} {K:Env→List Nat→Heap→Prop} {all rest:List Oper}
theorem FP {op:Op} {ty:TypeId} {R:Value→Heap→Prop} (hd:∀ c,op ≠ .defer c)
  (h:∀ (o:Oper),o.op=op→o.type=ty→∀ G w0 ρ (A:Act) w,Sim G w0 ρ σ w→(∀ x ∈ op.operands,∀ u,bf e x=some u→gY σ.length ρ u (A.eval x)) →
   ∃ v σ' ρ' v' w',R v σ'∧(execOp A.eval o).run P w=.ok (.value v') w'∧gY σ'.length ρ' v v'∧σ.length≤σ'.length∧(∀ i < σ.length,ρ' i=ρ i)∧Sim G w0 ρ' σ' w'):Nr P rd op ty e σ R:=by
 intro o ho hty G w0 ρ A w _ hs hx next Q' hn
 obtain ⟨v,σ',ρ',v',w',hR,hr,h1,h2,h3,h4⟩:=h o ho hty G w0 ρ A w hs hx
 refine ⟨fun f _=>pq _ _ _,?_⟩
 rw [Oper.semAt_eq _ _ _ (by rw [ho];exact hd),hr]
 exact hn v σ' ρ' v' w' hR h1 h2 h3 h4
theorem QL {d:Nat} {op:Op} {ty:TypeId} {pos:String} {after:Array Edge} {R:Value→Heap→Prop} (h:Nr P rd op ty e σ R) (hrd:qM rd n0=true) (hd:Nat.blt d N=true)
  (k:∀ v σ',R v σ'→dO P n0 N rd all rest K ((d,v)::e) mk σ'):dO P n0 N rd all (⟨some d,op,ty,pos,after,none⟩::rest) K e mk σ:=by
 intro G w0 ρ0 A w hi Q' hQ
 obtain ⟨h0,ρ,ha,hs,he⟩:=hi
 simp only [wpL]
 rw [if_pos (show Region.wanted _ _=true from rfl)]
 have hrd':=lG hrd
 rw [← jX (rd:=rd) (ρ':=ρ) (ρ:=ρ0) fun l hl=>ha l (hrd' l hl)]
 refine h _ rfl rfl G w0 ρ A w (fun l hl=>Nat.lt_of_lt_of_le (hrd' l hl) h0) hs (fun x _ u hu=>qc he hu) _ _ ?_
 intro v σ' ρ' v' w' hR hv hle hρ hs'
 rw [jX (rd:=rd) (ρ':=ρ) (ρ:=ρ0) fun l hl=>ha l (hrd' l hl)]
 refine k v σ' hR G w0 ρ0 _ w' ⟨by omega,ρ',fun i hi=>(hρ i (by omega)).trans (ha i hi),hs',?_⟩ Q' hQ
 exact uq (wZ he hle hρ) (by simpa [Nat.blt_eq] using hd) hv
end
section ops
variable {P:Program} {rd:Option Nat} {ty:TypeId} {e:Env} {σ:Heap} {x y z a b:Operand} {v u:Value}
abbrev slq (i o sz n:Nat):Value:=.slice (some ⟨i,o,some sz⟩) n n
theorem Hz {n:Nat} {ρ:Rho} {i o sz k:Nat} {v':Value} (h:gY n ρ (slq i o sz k) v') :
  i<n∧∃ c',k≤c'∧(ρ i).o+o+c'*sz≤(ρ i).s∧v'=.slice (some ⟨(ρ i).b,(ρ i).o+o,none⟩) k c':=by
 cases h with
 |gslice _ _ _ _ c' _ hc hs hi _=>exact ⟨hi,c',hc,hs,rfl⟩
 |gsliceG _ _ _ _ _ _ _ _ hq=>simp at hq
theorem Cj {n:Nat} {ρ:Rho} {i o sz k c':Nat} (hi:i<n) (hc:k≤c') (hs:(ρ i).o+o+c'*sz≤(ρ i).s):gY n ρ (slq i o sz k) (.slice (some ⟨(ρ i).b,(ρ i).o+o,none⟩) k c') :=
 VQ.gslice (q:=false) i o k k c' sz hc hs hi rfl
theorem Ns {t el size bytes i o n sz k:Nat} {agg:Bool} {z:Value} [ha:Sl P t el] [ht:Ty P el size agg z bytes] (h:bf e x=some (slq i o sz n)) (hy:bf e y=some (.int .i64 (k:Nat)))
  (h1:k<n):dV P rd (.indexAddr t x y) ty e σ (.pointer (some ⟨i,o+k*size,none⟩)) σ :=
 dY (by simp) fun op ho _ G w0 ρ A w hs hx=>by
  have hv:=hx x (by simp [Op.operands]) _ h
  have hi:=dD (hx y (by simp [Op.operands]) _ hy) rfl
  obtain ⟨hil,c',hc,hsz,hr⟩:=Hz hv
  refine ⟨ρ,.pointer (some ⟨(ρ i).b,(ρ i).o+(o+k*size),none⟩),w,.inl ?_,.ptr _ _ hil,Nat.le_refl _,fun _ _=>rfl,hs⟩
  simp [execOp,ho,hr,hi,Instr.indexAt,asIntOf,lH ha.und,h1,ht.sizeOf,addr_add,Nat.add_assoc]
theorem FQ {t el size bytes i o n l:Nat} {agg:Bool} {z:Value} {k:IntKind} [ha:Sl P t el] [ht:Ty P el size agg z bytes] (hx:bf e x=some (slq i o size n)) (hy:bf e y=some (.int k (l:Nat))) (hl:l≤n) :
  Nr P rd (.slice t x (some y) none none) ty e σ (fun v σ'=>σ'=σ∧(v=slq i (o+l*size) size (n - l)∨l=n∧v=.slice none 0 1)) :=
 FP (by simp) fun op ho _ G w0 ρ A w hs hop=>by
  obtain ⟨hil,c',hc,hsz,hr⟩:=Hz (hop x (by simp [Op.operands]) _ hx)
  have hi:=dD (hop y (by simp [Op.operands]) _ hy) rfl
  obtain ⟨e1,e2⟩:=xw ha
  have:=run_slice_l (P:=P) w t (some ⟨(ρ i).b,(ρ i).o+o,none⟩) n c' e1 k l (by omega) (by omega)
  simp only [Int.toNat_natCast] at this
  have hrun:(execOp A.eval op).run P w=.ok (.value (sliced (some ⟨(ρ i).b,(ρ i).o+o,none⟩) l n c' size)) w:=by
   simp [execOp,ho,hr,hi,run_sliceAt_slice _ _ _ _ _ _ e1,this,e2,ht.sizeOf]
  by_cases hcl:c'=l
  ·refine ⟨.slice none 0 1,σ,ρ,_,w,⟨rfl,.inr ⟨by omega,rfl⟩⟩,hrun,?_,Nat.le_refl _,fun _ _=>rfl,hs⟩
   simp only [sliced]
   rw [if_pos hcl,show n - l=0 by omega,show c' - l=0 by omega]
   exact .zslice _ rfl
  ·refine ⟨slq i (o+l*size) size (n - l),σ,ρ,_,w,⟨rfl,.inl rfl⟩,hrun,?_,Nat.le_refl _,fun _ _=>rfl,hs⟩
   simp only [sliced]
   rw [if_neg hcl]
   simp only [Option.map_some,addr_add]
   rw [Nat.add_assoc]
   refine Cj hil (by omega) ?_
   have h1:(c' - l)*size+l*size=c'*size:=by rw [← Nat.add_mul];congr 1;omega
   omega
theorem Et {t el size bytes i o n j oj m c:Nat} {agg:Bool} {z:Value} {cs news:List Value} [ha:Sl P t el] [ht:Ty P el size agg z bytes] (hzs:z.cells.size=size) (h0:Nat.blt 0 size=true)
  (hx:bf e x=some (slq i o size n)) (hi:σ[i]?=some (.gr cs el)) (hl:cs.length=o+n*size) (hne:cs ≠ [])
  (hy:bf e y=some (.slice (some ⟨j,oj,none⟩) m c)) (hc:dh σ j oj (m*size)=some news) (hm:0<m) (h1:news.all (·.oneCell')=true)
  (hb:n+m≤1000000) (hby:bytes≤1000000) :
  Nr P rd (.call { callee:=.builtin .append,args:=#[x,y],argTypes:=#[t,t] }) ty e σ
   (fun v σ'=>∃ o' cs',cs'.length=o'+(n+m)*size∧cs'.drop o'=cs.drop o++news∧(o'=o∧cs'=cs++news∨o'=0∧cs'=cs.drop o++news)∧v=slq σ.length o' size (n+m)∧σ'=σ.set i .dead++[.gr cs' el]) :=
 FP (by simp) fun op ho _ G w0 ρ A w hs hop=>by
  have hsz0:0<size:=Nat.blt_eq.mp h0
  obtain ⟨hil,cap,hcap,hcs,hv⟩:=Hz (hop x (by simp [Op.operands,Call.operands]) _ hx)
  have hyr:=hop y (by simp [Op.operands,Call.operands]) _ hy
  obtain ⟨ie,i1,i2,i3,i4⟩:=ht.info
  obtain ⟨hnl,hnc⟩:=kH hs hc
  have hy':∃ c',A.eval y=.slice (some ⟨(ρ j).b,(ρ j).o+oj,none⟩) m c':=by
   generalize hr:A.eval y=r at hyr
   cases hyr with
   |emptySlice=>omega
   |slice _ _ _ _ c' _ _=>exact ⟨c',rfl⟩
   |sliceG _ _ _ _ _ _ _ _ hq=>simp at hq
  obtain ⟨c',hy'⟩:=hy'
  obtain ⟨rs,hrs,hrl,hrel⟩:∃ rs:List Value,(∀ (k:Nat) (u:Value),rs[k]?=some u→w.cell? ((⟨(ρ j).b,(ρ j).o+oj,none⟩:Addr).add k)=some u)∧rs.length=m*size∧lF σ.length ρ news.toArray rs.toArray:=by
   have:∀ k≤news.length,∃ rs:List Value,rs.length=k∧∀ (q:Nat) (h1:q<rs.length) (h2:q<news.length),w.cell? ⟨(ρ j).b,(ρ j).o+oj+q,none⟩=some rs[q]∧gY σ.length ρ news[q] rs[q]:=by
    intro k
    induction k with
    |zero=>intro _;exact ⟨[],rfl,fun q h1=>by simp at h1⟩
    |succ k ih =>
     intro hk
     obtain ⟨rs,e1,e2⟩:=ih (by omega)
     obtain ⟨v',e3,e4⟩:=hnc k (by omega)
     refine ⟨rs++[v'],by simp [e1],fun q h1 h2=>?_⟩
     by_cases hq:q<rs.length
     ·rw [List.getElem_append_left hq];exact e2 q hq h2
     ·have:q=k:=by simp at h1;omega
      subst this
      simp only [List.getElem_append_right (show rs.length≤q by omega),e1,Nat.sub_self,List.getElem_cons_zero]
      exact ⟨e3,e4⟩
   obtain ⟨rs,e1,e2⟩:=this news.length (Nat.le_refl _)
   refine ⟨rs,fun k u hu=>?_,by omega,by simp [e1],fun k hk hk'=>(e2 k (by simpa using hk') (by simpa using hk)).2⟩
   obtain ⟨hk,rfl⟩:=List.getElem?_eq_some_iff.1 hu
   rw [addr_add];exact (e2 k hk (by omega)).1
  have hone:∀ u ∈ rs,u.oneCell'=true:=by
   have:=nD hrel h1
   simpa using this
  have hrun:(execOp A.eval op).run P w=((Builtin.append_ #[t,t] op.type #[.slice (some ⟨(ρ i).b,(ρ i).o+o,none⟩) n cap,.slice (some ⟨(ρ j).b,(ρ j).o+oj,none⟩) m c']).run P w).andThen fun v w=>.ok (.value v) w:=by
   simp only [execOp,ho,resolve,invoke,builtin,Sem.run_bind,Sem.run_pure,Result.andThen_ok,List.map_toArray,List.map_cons,List.map_nil,hv,hy']
  have hbytes:(n+m)*ie.bytes≤140737488355328:=by rw [i4];exact Nat.le_trans (Nat.mul_le_mul hb hby) (by decide)
  have hmm:n*size+m*size=(n+m)*size:=by rw [Nat.add_mul]
  have happ:∀ (c0:List Value) (rc0:List Value) (tail:Array Value),lF σ.length ρ c0.toArray rc0.toArray→∀ (k:Nat) (h:k<(c0++news).length) (h':k<(rc0.toArray++rs.toArray++tail).size),gY σ.length ρ (c0++news)[k] (rc0.toArray++rs.toArray++tail)[k]:=by
   intro c0 rc0 tail hr0 k hk hk'
   have e0:c0.length=rc0.length:=by simpa using hr0.1
   have e1:news.length=rs.length:=by simpa using hrel.1
   have hk2:k<(rc0.toArray++rs.toArray).size:=by simp at hk ⊢;omega
   rw [Array.getElem_append_left hk2]
   have:=oL hr0 hrel
   exact this.2 k (by simpa using hk) hk2
  obtain ⟨g1,g2,rc,g3,g3',g4,g5⟩:=hs.obj i _ hi hne
  have hbo:=g2
  rw [hbo,Nat.zero_add] at hcs
  rw [hbo,Nat.zero_add] at hrun
  by_cases hroom:n+m≤cap
  ·have hcapm:(n+m)*size≤cap*size:=Nat.mul_le_mul_right _ hroom
   have hfit:o+n*size+rs.length≤rc.size:=by rw [hrl,g3'];omega
   have hr:=run_append_roomO (P:=P) w t op.type el ie ha.und i1 (ρ i).b o n cap rc g3 ⟨(ρ j).b,(ρ j).o+oj,none⟩ m c' rs (by rw [i2];exact hrl) hrs hone hroom (by rw [i2];exact hfit)
   rw [i2] at hr
   have hs1:Sim G w0 ρ (σ.set i (.gr (cs++news) el)) (w.setRow (ρ i).b (rc.toList.take (o+n*size)++rs++rc.toList.drop (o+n*size+rs.length)).toArray):=by
    refine tq hs hi hne (uZ w _ _) ?_ ?_
    ·intro _
     refine ⟨g1,g2,_,setRow_heap w _ rc _ el (0,0) g3,by simp;omega,by simp;omega,fun k hk hk'=>?_⟩
     have hr0:lF σ.length ρ cs.toArray (rc.toList.take (o+n*size)).toArray:=by
      refine ⟨by simp;omega,fun q hq hq'=>?_⟩
      simp only [List.getElem_toArray,List.getElem_take,Array.getElem_toList]
      exact g5 q (by simpa using hq) (by simp at hq';omega)
     have:=happ cs (rc.toList.take (o+n*size)) (rc.toList.drop (o+n*size+rs.length)).toArray hr0 k hk (by simpa using hk')
     simpa using this
    ·intro q k seen hj
     left
     intro hbk
     obtain ⟨_,_,ents,clock,sb,_,g6,_⟩:=hs.obj q _ hj
     rw [hbk,g3] at g6;simp at g6
   have hs2:=II hs1 (i:=i) (by rw [List.getElem?_set_self (iP hi)])
   simp only [List.set_set,List.length_set] at hs2
   have hdr:(cs++news).drop o=cs.drop o++news:=by rw [List.drop_append_of_le_length (by omega)]
   refine ⟨slq σ.length o size (n+m),_,_,_,_,⟨o,cs++news,by rw [List.length_append];omega,hdr,.inl ⟨rfl,rfl⟩,rfl,rfl⟩,by rw [hrun,hr];rfl,?_,by simp,fun k hk=>comp_id (qB hk),hs2⟩
   have:=Cj (n:=(σ.set i cu.dead++[cu.gr (cs++news) el]).length) (ρ:=comp ρ (Gp σ.length i)) (i:=σ.length) (o:=o) (sz:=size) (k:=n+m) (c':=cap) (by simp) hroom (by simpa [comp,qj,hbo] using hcs)
   have e1:comp ρ (Gp σ.length i) σ.length=⟨(ρ i).b,(ρ i).o,(ρ i).s⟩:=by simp [comp,qj]
   rw [e1] at this
   simpa [hbo] using this
  ·have hld:(cs.drop o).length=n*size:=by rw [List.length_drop];omega
   have hr0:lF σ.length ρ (cs.drop o).toArray ((rc.toList.drop o).take (n*size)).toArray:=by
    refine ⟨by simp;omega,fun q hq hq'=>?_⟩
    simp only [List.getElem_toArray,List.getElem_take,List.getElem_drop,Array.getElem_toList]
    exact g5 (o+q) (by simp at hq;omega) (by simp at hq';omega)
   have e0:(cs.drop o).length=((rc.toList.drop o).take (n*size)).length:=by simpa using hr0.1
   have hge:=grownCap_ge w (n+m) cap el
   have hsz:(((rc.toList.drop o).take (n*size)).toArray++rs.toArray++Builtin.zeroCells z.cells (grownCap w (n+m) cap el - (n+m))).size=grownCap w (n+m) cap el*size:=by
    simp only [Array.size_append,List.size_toArray,size_zeroCells,hzs,← e0,hld,hrl,← Nat.add_mul]
    congr 1;omega
   have hs2:=lZ (CQ (CP hs) i) (.cells (((rc.toList.drop o).take (n*size)).toArray++rs.toArray++Builtin.zeroCells z.cells (grownCap w (n+m) cap el - (n+m))) el) (.gr (cs.drop o++news) el) (grownCap w (n+m) cap el*size) (by
    intro _
    refine ⟨fun hg=>by have h1:=(hs.fgn _ hg).1;have:=hs.size;simp only at h1;have e2:w.drew.heap.size=w.heap.size:=rfl;omega,rfl,_,jm w.drew _,hsz,?_,fun k hk hk'=>?_⟩
    ·rw [hsz,List.length_append,hld,hnl,hmm];exact Nat.mul_le_mul_right _ hge
    ·exact (happ _ _ _ hr0 k hk hk').mono (by simp) fun q hq=>jM (by simpa using hq))
   simp only [List.length_set] at hs2
   have:=run_append_grow (P:=P) w t op.type el ie z ha.und i1 i3 ⟨(ρ i).b,o,none⟩ n cap ((rc.toList.drop o).take (n*size)) (by rw [i2,← e0,hld]) (fun q u hu=>by
    rw [addr_add,cell_of_row w (ρ i).b (o+q) rc el (0,0) g3]
    rw [List.getElem?_take] at hu
    split at hu
    ·rw [List.getElem?_drop] at hu;simpa using hu
    ·cases hu) ⟨(ρ j).b,(ρ j).o+oj,none⟩ m c' rs (by rw [i2];exact hrl) hrs (by omega) (by omega) (growslice_fits (by omega) hbytes)
   refine ⟨slq σ.length 0 size (n+m),_,_,_,_,⟨0,cs.drop o++news,by rw [List.length_append,hld,hnl];omega,by simp,.inr ⟨rfl,rfl⟩,rfl,rfl⟩,by rw [hrun,this];simp;rfl,?_,by simp,fun k hk=>jM hk,hs2⟩
   have:=Cj (n:=(σ.set i cu.dead++[cu.gr (cs.drop o++news) el]).length) (ρ:=upd ρ σ.length w.heap.size (grownCap w (n+m) cap el*size)) (i:=σ.length) (o:=0) (sz:=size) (k:=n+m) (c':=grownCap w (n+m) cap el) (by simp) hge (by simp [upd])
   rw [nR] at this
   simpa using this
theorem FT {place:Nat→Option (Nat×Nat)}:∀ {vs:List (Nat×Value)} {cs cs':List Value},uH place cs vs=some cs'→cs'.length=cs.length
 |[],cs,cs',h=>by cases h;rfl
 |(i,v)::vs,cs,cs',h=>by
  simp only [uH] at h
  split at h
  ·cases h
  ·rename_i off size _
   cases hb:(Nat.beq (gB v).length size && Nat.ble (off+(gB v).length) cs.length) with
   |false=>rw [hb] at h;cases h
   |true =>
    rw [hb] at h
    simp only [Bool.and_eq_true] at hb
    rw [FT (place:=place) h,nS (Nat.le_of_ble_eq_true hb.2)]
theorem Eu {t el size bytes len:Nat} {agg:Bool} {z:Value} {ps:List (Nat×Operand)} {vs:List (Nat×Value)} {cs:List Value} [ha:Sl P t el] [ht:Ty P el size agg z bytes] (hz:plain z=true)
  (hsz:z.cells.size=size) (h0:Nat.blt 0 (len*size)=true) (h1:Nat.ble (len*size) 16777216=true) (h:tJ e ps=some vs) (hf:uH (fun i=>some (i*size,size)) (jI (gB z) len) vs=some cs) :
  dV P rd (.buildSlice t len ps.toArray) ty e σ (slq σ.length 0 size len) (σ++[.gr cs el]) :=
 dY (by simp) fun op ho _ G w0 ρ A w hs hx=>by
  obtain ⟨g1,g2⟩:=uI (A:=A) (n:=σ.length) (ρ:=ρ) (fun p hp u hu=>hx p.2 (by simp only [Op.operands];simp;exact ⟨p.1,hp⟩) u hu) h
  obtain ⟨ie,i1,i2,i3,_⟩:=ht.info
  obtain ⟨rc,g3,g4⟩:=wo vs _ _ _ _ (yY (n:=σ.length) (ρ:=ρ) (k:=len) hz hsz) g1 g2 hf
  have hcl:cs.length=len*size:=by
   have hv:=(mM (bU (n:=0) (ρ:=fun k=>⟨k,0,0⟩) z hz)).1
   have hv:(gB z).length=z.cells.size:=by simpa using hv
   rw [FT hf,l7,hv,hsz]
  have hrc:rc.size=len*size:=by have:=g4.1;simp at this;omega
  have hs2:=lZ hs (.cells rc el) (.gr cs el) (len*size) (by
   intro _
   refine ⟨fun hg=>by have h1:=(hs.fgn _ hg).1;have:=hs.size;simp only at h1;omega,rfl,rc,jm w _,hrc,by omega,fun k hk hk'=>?_⟩
   exact (g4.2 k (by simpa using hk) hk').mono (by simp) fun q hq=>jM hq)
  refine ⟨upd ρ σ.length w.heap.size (len*size),.slice (some ⟨w.heap.size,0,none⟩) len len,w.alloc (.cells rc el),.inl ?_,?_,by simp,fun i hi=>jM hi,hs2⟩
  ·have h0':=Nat.blt_eq.mp h0
   have h1':=Nat.le_of_ble_eq_true h1
   have:=run_buildSlice (P:=P) w t el len (ps.toArray.map fun p=>(p.1,A.eval p.2)) rc ie z ha.und i1 i3 (by rw [i2];omega) (by rw [i2];omega) (by
    rw [i2]
    have em:(Array.range (len*size)).map (z.cells[· % z.cells.size]!)=madeCells z.cells (len*size):=rfl
    rw [em];simpa using g3)
   simp only [List.map_toArray] at this
   simp [execOp,ho,this]
  ·have:=Cj (n:=(σ++[cu.gr cs el]).length) (ρ:=upd ρ σ.length w.heap.size (len*size)) (i:=σ.length) (o:=0) (sz:=size) (k:=len) (c':=len) (by simp) (Nat.le_refl _) (by simp [upd])
   rw [nR] at this
   simpa using this
end ops
end Go.AH
namespace Go.AH.Dust
open Go Go.AH
abbrev rtV (a b:Int):Value:=.agg #[.int .i64 a,.int .i64 b]
def pW (S:Shp) (a b:Int) (n:Nat):Int:=b*gi S.d n - a
noncomputable def rF (S:Shp) (a b:Int) (l:Nat→Int) (n k:Nat):Bool:=rB S n && decide (pW S a b n=l n - l k)
structure Lev (a b:Int) (l:Nat→Int):Prop where
 a1:-1000000≤a
 a2:a≤1000000
 b1:0≤b
 b2:b≤1000
 l:∀ i,i<10→-1000000000≤l i∧l i≤1000000000
theorem Ew {S:Shp} (hS:S.ok) {a b:Int} {l:Nat→Int} (h:Lev a b l) {n:Nat} (hn:n<S.d.length):0≤b*gi S.d n∧b*gi S.d n≤1000000:=by
 have hd:=hS.d n hn
 have:=h.b1;have:=h.b2
 refine ⟨Int.mul_nonneg (by omega) (by omega),?_⟩
 exact Int.le_trans (Int.mul_le_mul_of_nonneg_left hd.2 (by omega)) (by omega)
structure TAt (σ:Heap) (p x y z u v w:Nat) (S:Shp) (a b:Int) (l:Nat→Int):Prop where
 fa:FAt σ p x y z S (fun i=>bI (rB S i))
 c4:jL σ u [.pointer (some ⟨p,0,none⟩)]
 c5:jL σ v [.int .i64 a,.int .i64 b]
 c6:jL σ w (rx l)
theorem TAt.ev {P:Program} {fn:FuncId} {args1 args:List Value} {va:Value} {σ:Heap} {p x y z u v w:Nat} {S:Shp} {a b:Int} {l:Nat→Int} (h:TAt σ p x y z u v w S a b l) (he:Ev P fn args1 [.ro (flL 1 2 3 S (fun i=>bI (rB S i))),.ro (ints S.d),.ro (pc S.f),.ro (ints S.s),.ro [.pointer (some ⟨0,0,none⟩)],.ro [.int .i64 a,.int .i64 b],.ro (rx l)] va [.ro (flL 1 2 3 S (fun i=>bI (rB S i))),.ro (ints S.d),.ro (pc S.f),.ro (ints S.s),.ro [.pointer (some ⟨0,0,none⟩)],.ro [.int .i64 a,.int .i64 b],.ro (rx l)])
  (ha:AS 7 (bsR [p,x,y,z,u,v,w]) args1 args) (hv:plain va=true) (hni:σ.all (fun o=>!dB o)=true):Ev P fn args σ va σ:=by
 refine Ev.arrsP (D9 S (fun i=>bI (rB S i))++[[.pointer (some ⟨0,0,none⟩)],[.int .i64 a,.int .i64 b],rx l]) (fBs p x y z S (fun i=>bI (rB S i))++[(u,[.pointer (some ⟨p,0,none⟩)]),(v,[.int .i64 a,.int .i64 b]),(w,rx l)]) he
  (h.fa.cells ⟨⟨h.c4,rfl,fun k hk hk'=>?_⟩,⟨h.c5,rfl,fun k hk hk'=>iG _ rfl k hk⟩,⟨h.c6,rfl,fun k hk hk'=>iG _ (iI l) k hk⟩,trivial⟩) ha hv hni
 match k,hk with
 |0,_=>exact VQ.ptr (q:=true) (n:=7) (ρ:=bsR [p,x,y,z,u,v,w]) 0 0 (by omega)
end Go.AH.Dust
namespace Go.Proofs.Ytomioaiojidnbaa
open Go Go.AH
attribute [local irreducible] dO dI dM kK iM gK iC dV iJ dQ iK iE
set_option maxRecDepth 100000
set_option maxHeartbeats 1000000
open Go.AH.Dust
theorem worth_ok (S:Shp) (hS:S.ok) (r:Nat→Int) (a b:Int) (l:Nat→Int) (hL:Lev a b l) (n:Nat) (hn:n<S.d.length) :
  Ev Try.prog 76 [.pointer (some ⟨0,0,none⟩),.int .i64 (n:Int),rtV a b] [.ro (flL 1 2 3 S r),.ro (ints S.d),.ro (pc S.f),.ro (ints S.s)] (.int .i64 (pW S a b n)) [.ro (flL 1 2 3 S r),.ro (ints S.d),.ro (pc S.f),.ro (ints S.s)]:=by
 obtain ⟨hm1,hm2⟩:=Ew hS hL hn
 have ha1:=hL.a1
 have ha2:=hL.a2
 have hc1:∀ σ':Heap,cZ (cu.ro (flL 1 2 3 S r)::.ro (ints S.d)::.ro (pc S.f)::.ro (ints S.s)::σ') 1 n=some (.int .i64 (gi S.d n)):=fun σ'=>gV hn
 have hc2:∀ σ':Heap,cZ (cu.ro (flL 1 2 3 S r)::.ro (ints S.d)::.ro (pc S.f)::.ro (ints S.s)::σ') 1 (0+n*1)=some (.int .i64 (gi S.d n)):=fun σ'=>by rw [Nat.zero_add,Nat.mul_one];exact gV hn
 have hm3:-9223372036854775808≤b*gi S.d n:=by omega
 have hm4:b*gi S.d n≤9223372036854775807:=by omega
 refine aX 4 21 Try.func76 rfl rfl rfl rfl rfl ?_
 repeat' (first|(refine gU ?_;first|(refine aI ?_;refine st (aA rfl) rfl rfl ?_)|(refine kD ?_;refine st (gI rfl) rfl rfl ?_))|(refine fU ?_;first|(refine gZ ?_;refine frA (au rfl) rfl ?_)|(refine vw ?_;refine frA (aA rfl) rfl ?_)|(refine fFA ?_;refine frA (aB rfl) rfl ?_)|(refine iH ?_;refine frA (ak rfl (by first|rfl|exact hc1 _)) rfl ?_)|(refine fSub ?_;refine frA (kC rfl rfl (by omega) (by omega)) rfl ?_)|(refine fMul ?_;refine frA (Kr rfl rfl (by omega) (by omega)) rfl ?_)|(refine Gn ?_;refine frA (iR rfl) rfl ?_)|(refine fIA ?_;refine frA (gJ rfl rfl (by omega)) rfl ?_))|(refine fD ⟨by kernel_rfl,?_⟩)|refine aS ?_|refine aj ?_|refine dH (by kernel_rfl) rfl ?_|refine ah ?_|refine bg ?_|refine dX ?_)
 exact iF (.tmp rfl .nil) (.plain rfl rfl) ⟨rfl,rfl⟩
theorem JF {σ:Heap} {S:Shp} {r:Nat→Int} {a b:Int} {l:Nat→Int} {n p x y z:Nat} (h:FAt σ p x y z S r) (hS:S.ok) (hL:Lev a b l) (hn:n<S.d.length) (hni:σ.all (fun o=>!dB o)=true) :
  Ev Try.prog 76 [.pointer (some ⟨p,0,none⟩),.int .i64 (n:Int),rtV a b] σ (.int .i64 (pW S a b n)) σ :=
 h.ev (worth_ok S hS r a b l hL n hn) ⟨VQ.ptr (q:=true) (n:=4) (ρ:=bsR [p,x,y,z]) 0 0 (by omega),bU _ rfl,bU _ rfl,trivial⟩ rfl hni
theorem tight_ok (S:Shp) (hS:S.ok) (a b:Int) (l:Nat→Int) (hL:Lev a b l) (n k:Nat) (hn:n<S.d.length) (hk:k<S.d.length) :
  Ev Try.prog 90 [.int .i64 (n:Int),.int .i64 (k:Int),.pointer (some ⟨4,0,none⟩),.pointer (some ⟨5,0,none⟩),.pointer (some ⟨6,0,none⟩)] [.ro (flL 1 2 3 S (fun i=>bI (rB S i))),.ro (ints S.d),.ro (pc S.f),.ro (ints S.s),.ro [.pointer (some ⟨0,0,none⟩)],.ro [.int .i64 a,.int .i64 b],.ro (rx l)] (.bool (rF S a b l n k)) [.ro (flL 1 2 3 S (fun i=>bI (rB S i))),.ro (ints S.d),.ro (pc S.f),.ro (ints S.s),.ro [.pointer (some ⟨0,0,none⟩)],.ro [.int .i64 a,.int .i64 b],.ro (rx l)]:=by
 have n10:=hS.n10
 have hn':(n:Int)<10:=by omega
 have hk':(k:Int)<10:=by omega
 have l1:=hL.l n (by omega)
 have l2:=hL.l k (by omega)
 have hisr:=pJ (σ:=[.ro (flL 1 2 3 S (fun i=>bI (rB S i))),.ro (ints S.d),.ro (pc S.f),.ro (ints S.s),.ro [.pointer (some ⟨0,0,none⟩)],.ro [.int .i64 a,.int .i64 b],.ro (rx l)]) (S:=S) (q:=rB S) (r:=fun i=>bI (rB S i)) (n:=n) (p:=0) (x:=1) (y:=2) (z:=3) ⟨.inl rfl,.inl rfl,.inl rfl,.inl rfl⟩ rfl (by omega) rfl
 have hwo:=JF (σ:=[.ro (flL 1 2 3 S (fun i=>bI (rB S i))),.ro (ints S.d),.ro (pc S.f),.ro (ints S.s),.ro [.pointer (some ⟨0,0,none⟩)],.ro [.int .i64 a,.int .i64 b],.ro (rx l)]) (S:=S) (r:=fun i=>bI (rB S i)) (a:=a) (b:=b) (n:=n) (p:=0) (x:=1) (y:=2) (z:=3) ⟨.inl rfl,.inl rfl,.inl rfl,.inl rfl⟩ hS hL hn rfl
 have hc1:cZ [.ro (flL 1 2 3 S (fun i=>bI (rB S i))),.ro (ints S.d),.ro (pc S.f),.ro (ints S.s),.ro [.pointer (some ⟨0,0,none⟩)],.ro [.int .i64 a,.int .i64 b],.ro (rx l)] 6 (0+n*1)=some (.int .i64 (l n)):=by rw [Nat.zero_add,Nat.mul_one];exact qP (by omega)
 have hc2:cZ [.ro (flL 1 2 3 S (fun i=>bI (rB S i))),.ro (ints S.d),.ro (pc S.f),.ro (ints S.s),.ro [.pointer (some ⟨0,0,none⟩)],.ro [.int .i64 a,.int .i64 b],.ro (rx l)] 6 (0+k*1)=some (.int .i64 (l k)):=by rw [Nat.zero_add,Nat.mul_one];exact qP (by omega)
 have hv:rF S a b l n k=(rB S n && decide (pW S a b n=l n - l k)):=rfl
 generalize pW S a b n=W at *
 generalize l n=ln at *
 generalize l k=lk at *
 cases hr:rB S n with
 |false =>
  rw [hr] at hisr hv
  rw [hv]
  refine aX 7 25 Try.func90 rfl rfl rfl rfl rfl ?_
  repeat' (first|(refine gU ?_;(refine aI ?_;refine st (aA rfl) rfl rfl ?_))|(refine fU ?_;first|(refine gZ ?_;refine frA (au rfl) rfl ?_)|(refine vw ?_;refine frA (aA rfl) rfl ?_)|(refine iH ?_;refine frA (ak rfl (by rfl)) rfl ?_)|(refine kW ?_;refine frA (bY rfl rfl) rfl ?_)|(refine mQ ?_;refine frA (bC rfl rfl rfl (by exact hisr)) rfl ?_))|(refine fG ?_;refine EK rfl rfl ?_)|(refine fD ⟨by kernel_rfl,?_⟩)|refine aS ?_|refine aj ?_|refine dH (by kernel_rfl) rfl ?_|refine ah ?_|refine bg ?_|refine dX ?_)
  exact iF (.tmp rfl .nil) (.plain rfl rfl) ⟨rfl,rfl⟩
 |true =>
  rw [hr,Bool.true_and] at hv
  rw [hr] at hisr
  rw [hv]
  refine aX 7 25 Try.func90 rfl rfl rfl rfl rfl ?_
  repeat' (first|(refine gU ?_;(refine aI ?_;refine st (aA rfl) rfl rfl ?_))|(refine fU ?_;first|(refine gZ ?_;refine frA (au rfl) rfl ?_)|(refine vw ?_;refine frA (aA rfl) rfl ?_)|(refine iH ?_;refine frA (ak rfl (by rfl)) rfl ?_)|(refine kW ?_;refine frA (bH rfl rfl) rfl ?_)|(refine mQ ?_;refine frA (bC rfl rfl rfl (by exact hisr)) rfl ?_))|(refine fG ?_;first|(refine gZ ?_;refine fE rfl (au rfl) rfl ?_)|(refine iH ?_;first|refine fE rfl (ak rfl (by first|rfl|assumption)) rfl ?_|refine fE rfl (aZ rfl (by rfl)) rfl ?_)|(refine fSub ?_;refine fE rfl (kC rfl rfl (by omega) (by omega)) rfl ?_)|(refine o7 ?_;refine fE rfl (aG rfl rfl rfl) rfl ?_)|(refine fIA ?_;refine fE rfl (gQ rfl rfl (by omega)) rfl ?_)|(refine mQ ?_;refine fE rfl (bC rfl rfl rfl (by exact hwo)) rfl ?_))|(refine fD ⟨by kernel_rfl,?_⟩)|refine aS ?_|refine aj ?_|refine dH (by kernel_rfl) rfl ?_|refine ah ?_|refine bg ?_|refine dX ?_)
  exact iF (.tmp rfl .nil) (.plain rfl rfl) ⟨rfl,rfl⟩
theorem JG {σ:Heap} {S:Shp} {a b:Int} {l:Nat→Int} {n k p x y z u v w:Nat} (h:TAt σ p x y z u v w S a b l) (hS:S.ok) (hL:Lev a b l) (hn:n<S.d.length) (hk:k<S.d.length) (hni:σ.all (fun o=>!dB o)=true) :
  Ev Try.prog 90 [.int .i64 (n:Int),.int .i64 (k:Int),.pointer (some ⟨u,0,none⟩),.pointer (some ⟨v,0,none⟩),.pointer (some ⟨w,0,none⟩)] σ (.bool (rF S a b l n k)) σ :=
 h.ev (tight_ok S hS a b l hL n k hn hk) ⟨.int _ _,.int _ _,VQ.ptr (q:=true) (n:=7) (ρ:=bsR [p,x,y,z,u,v,w]) 4 0 (by omega),VQ.ptr (q:=true) (n:=7) (ρ:=bsR [p,x,y,z,u,v,w]) 5 0 (by omega),VQ.ptr (q:=true) (n:=7) (ρ:=bsR [p,x,y,z,u,v,w]) 6 0 (by omega),trivial⟩ rfl hni
end Go.Proofs.Ytomioaiojidnbaa
namespace Go.AH.Dust
open Go Go.AH
def sZ (m d:Nat):Int:=((m / Nat.gcd m d:Nat):Int)
def sU (m d:Nat):Int:=((d / Nat.gcd m d:Nat):Int)
structure Red (a b:Int):Prop where
 a0:0≤a
 b0:0<b
 g:Nat.gcd a.toNat b.toNat=1
theorem yJ {m d:Nat} (hd:0<d):Red (sZ m d) (sU m d)∧sZ m d*(d:Int)=(m:Int)*sU m d∧sZ m d≤m∧sU m d≤d:=by
 have hg:=Nat.gcd_pos_of_pos_right m hd
 have h1:=Nat.gcd_dvd_left m d
 have h2:=Nat.gcd_dvd_right m d
 have e1:=Nat.div_mul_cancel h1
 have e2:=Nat.div_mul_cancel h2
 have hp:0<d / Nat.gcd m d:=Nat.div_pos (Nat.le_of_dvd hd h2) hg
 refine ⟨⟨Int.natCast_nonneg _,Int.natCast_pos.2 hp,?_⟩,?_,?_,?_⟩
 ·unfold sZ sU
  rw [Int.toNat_natCast,Int.toNat_natCast]
  exact Nat.coprime_div_gcd_div_gcd hg
 ·unfold sZ sU
  rw [← Int.natCast_mul,← Int.natCast_mul]
  congr 1
  generalize Nat.gcd m d=g at *
  have e3:m / g*d=m / g*(d / g*g):=by rw [e2]
  have e4:m*(d / g)=m / g*g*(d / g):=by rw [e1]
  rw [e3,e4,Nat.mul_assoc,Nat.mul_comm g (d / g)]
 ·exact Int.ofNat_le.2 (Nat.div_le_self m (Nat.gcd m d))
 ·exact Int.ofNat_le.2 (Nat.div_le_self d (Nat.gcd m d))
theorem Red.uniq {a b c d:Int} (h:Red a b) (h':Red c d) (he:a*d=c*b):a=c∧b=d:=by
 obtain ⟨a',rfl⟩:∃ n:Nat,a=(n:Int):=⟨a.toNat,by have:=h.a0;omega⟩
 obtain ⟨b',rfl⟩:∃ n:Nat,b=(n:Int):=⟨b.toNat,by have:=h.b0;omega⟩
 obtain ⟨c',rfl⟩:∃ n:Nat,c=(n:Int):=⟨c.toNat,by have:=h'.a0;omega⟩
 obtain ⟨d',rfl⟩:∃ n:Nat,d=(n:Int):=⟨d.toNat,by have:=h'.b0;omega⟩
 have hg:=h.g
 have hg':=h'.g
 rw [Int.toNat_natCast,Int.toNat_natCast] at hg hg'
 have hb:=h.b0
 have hd:=h'.b0
 have he':a'*d'=c'*b':=by exact_mod_cast he
 have d1:b' ∣ d':=by
  refine Nat.Coprime.dvd_of_dvd_mul_left (k:=b') (m:=a') (n:=d') (by rw [Nat.coprime_comm];exact hg) ⟨c',?_⟩
  rw [he',Nat.mul_comm]
 have d2:d' ∣ b':=by
  refine Nat.Coprime.dvd_of_dvd_mul_left (k:=d') (m:=c') (n:=b') (by rw [Nat.coprime_comm];exact hg') ⟨a',?_⟩
  rw [← he',Nat.mul_comm]
 have e:b'=d':=Nat.dvd_antisymm d1 d2
 subst e
 have:a'=c':=Nat.eq_of_mul_eq_mul_right (by omega) he'
 exact ⟨by omega,rfl⟩
theorem jc.red {S:Shp} {a b c d:Int} (h:jc S a b) (h':jc S c d) (hr:Red a b) (hr':Red c d):a=c∧b=d:=hr.uniq hr' (h.uniq h')
end Go.AH.Dust
namespace Go.Proofs.Ytomioaiojidnbaa
open Go Go.AH
attribute [local irreducible] dO dI dM kK iM gK iC dV iJ dQ iK iE
set_option maxRecDepth 100000
set_option maxHeartbeats 1000000
open Go.AH.Dust
theorem Nu (a b c d:Int) (h1:-9223372036854775808≤a*d) (h2:a*d≤9223372036854775807) (h3:-9223372036854775808≤c*b) (h4:c*b≤9223372036854775807):Ev Try.prog 88 [rtV a b,rtV c d] [] (.bool (decide (a*d<c*b))) []:=by
 refine aX 0 16 Try.func88 rfl rfl rfl rfl rfl ?_
 repeat' (first|(refine gU ?_;first|(refine aI ?_;refine st (aA rfl) rfl rfl ?_)|(refine gFA ?_;refine st (aB rfl) rfl rfl ?_)|(refine aU ?_;refine st (ak rfl (by rfl)) rfl rfl ?_)|(refine Tj ?_;refine st (Kr rfl rfl (by omega) (by omega)) rfl rfl ?_)|(refine bG ?_;refine st (aG rfl rfl rfl) rfl rfl ?_)|(refine kD ?_;refine st (gI rfl) rfl rfl ?_))|refine aS ?_|refine aj ?_|refine ah ?_|refine bg ?_|refine dX ?_)
 exact iF (.tmp rfl .nil) (.plain rfl rfl) ⟨rfl,rfl⟩
theorem Ey (a b c d:Int) (h1:-9223372036854775808≤a*d) (h2:a*d≤9223372036854775807) (h3:-9223372036854775808≤c*b) (h4:c*b≤9223372036854775807):Ev Try.prog 42 [rtV a b,rtV c d] [] (.bool (decide (a*d<c*b))) []:=by
 refine aX 0 16 Try.func42 rfl rfl rfl rfl rfl ?_
 repeat' (first|(refine gU ?_;first|(refine aI ?_;refine st (aA rfl) rfl rfl ?_)|(refine gFA ?_;refine st (aB rfl) rfl rfl ?_)|(refine aU ?_;refine st (ak rfl (by rfl)) rfl rfl ?_)|(refine Tj ?_;refine st (Kr rfl rfl (by omega) (by omega)) rfl rfl ?_)|(refine bG ?_;refine st (aG rfl rfl rfl) rfl rfl ?_)|(refine kD ?_;refine st (gI rfl) rfl rfl ?_))|refine aS ?_|refine aj ?_|refine ah ?_|refine bg ?_|refine dX ?_)
 exact iF (.tmp rfl .nil) (.plain rfl rfl) ⟨rfl,rfl⟩
theorem ratio_ok (m d:Nat) (hd:0<d) (hm:m≤9223372036854775807) (hdm:d≤9223372036854775807):Ev Try.prog 89 [.int .i64 (m:Int),.int .i64 (d:Int)] [] (rtV (sZ m d) (sU m d)) []:=by
 refine aX 0 22 Try.func89 rfl rfl rfl rfl rfl ?_
 repeat' (first|(refine gU ?_;first|(refine aP ?_;refine st (au rfl) rfl rfl ?_)|(refine aI ?_;refine st (aA rfl) rfl rfl ?_)|(refine eP ?_;refine st (bQ rfl) rfl rfl ?_))|refine aS ?_|refine aj ?_|refine ah ?_|refine bg ?_|refine aO ?_)
 refine iD (ι:=Nat×Nat) (fun s=>[(0,.int .i64 (m:Int)),(1,.int .i64 (d:Int)),(4,.pointer (some ⟨0,0,none⟩)),(5,.int .i64 (s.1:Int)),(6,.int .i64 (s.2:Int))])
  (fun _=>[.rw [.int .i64 0,.int .i64 0]]) (fun s=>s.2) (fun s=>Nat.gcd s.1 s.2=Nat.gcd m d∧0<s.1+s.2) (m,d) (by simp) (.same ⟨rfl,rfl,rfl,rfl,rfl,trivial⟩) ⟨rfl,by simp only;omega⟩ ?_
 rintro ⟨a,b⟩ ⟨hg,hp⟩
 simp only at hg hp ⊢
 by_cases hb:(b:Int) ≠ 0
 ·have hlt:=Nat.mod_lt a (show b > 0 by omega)
  repeat' (first|(refine gU ?_;first|(refine aP ?_;refine st (au rfl) rfl rfl ?_)|(refine bG ?_;refine st (aG rfl rfl rfl) rfl rfl ?_))|(refine fU ?_;first|(refine gZ ?_;refine frA (au rfl) rfl ?_)|(refine vw ?_;refine frA (aA rfl) rfl ?_)|(refine o7 ?_;refine frA (CV rfl rfl (by omega)) rfl ?_))|(refine fD ⟨by kernel_rfl,?_⟩)|refine aS ?_|refine aj ?_|refine dH (by kernel_rfl) rfl ?_|refine ah ?_|refine bg ?_|refine fH ?_|refine aW ?_|refine aO ?_|refine aQ rfl ?_)
  exact ⟨rfl,(b,a % b),⟨by rw [← hg];exact (Nat.gcd_comm b (a % b)).trans (by rw [← Nat.gcd_rec,Nat.gcd_comm]),by simp only;omega⟩,hlt,.same ⟨rfl,rfl,rfl,rfl,rfl,trivial⟩⟩
 ·obtain rfl:b=0:=by omega
  rw [Nat.gcd_zero_right] at hg
  subst hg
  have q1:((m:Nat):Int).tdiv (Nat.gcd m d:Nat)=sZ m d:=rfl
  have q2:((d:Nat):Int).tdiv (Nat.gcd m d:Nat)=sU m d:=rfl
  obtain ⟨hr,_,r1,r2⟩:=yJ (m:=m) hd
  have ra:=hr.a0
  have rb:=hr.b0
  have b1:-9223372036854775808≤((m:Nat):Int).tdiv (Nat.gcd m d:Nat):=by omega
  have b2:((m:Nat):Int).tdiv (Nat.gcd m d:Nat)≤9223372036854775807:=by omega
  have b3:-9223372036854775808≤((d:Nat):Int).tdiv (Nat.gcd m d:Nat):=by omega
  have b4:((d:Nat):Int).tdiv (Nat.gcd m d:Nat)≤9223372036854775807:=by omega
  repeat' (first|(refine gU ?_;first|(refine aP ?_;refine st (au rfl) rfl rfl ?_)|(refine bG ?_;refine st (aG rfl rfl rfl) rfl rfl ?_)|(refine cO ?_;refine stN (aJ rfl rfl rfl rfl (by rfl)) rfl ?_))|(refine fU ?_;first|(refine gZ ?_;refine frA (au rfl) rfl ?_)|(refine o7 ?_;refine frA (IK rfl rfl (by omega) (by assumption) (by assumption)) rfl ?_)|(refine yh ?_;refine frA (jK (by rfl) rfl (by rfl)) rfl ?_))|(refine fD ⟨by kernel_rfl,?_⟩)|refine aS ?_|refine aj ?_|refine dH (by kernel_rfl) rfl ?_|refine ah ?_|refine bg ?_|refine jd ?_|refine eG rfl ?_|refine dW ?_|refine dX ?_|refine aN rfl ?_)
  exact iF (.cellN inferInstance rfl rfl .nil) (.plain rfl rfl) ⟨rfl,rfl⟩
theorem of_ok (m d:Nat) (hd:0<d) (hm:m≤9223372036854775807) (hdm:d≤9223372036854775807):Ev Try.prog 38 [.int .i64 (m:Int),.int .i64 (d:Int)] [] (rtV (sZ m d) (sU m d)) []:=by
 refine aX 0 22 Try.func38 rfl rfl rfl rfl rfl ?_
 repeat' (first|(refine gU ?_;first|(refine aP ?_;refine st (au rfl) rfl rfl ?_)|(refine aI ?_;refine st (aA rfl) rfl rfl ?_)|(refine eP ?_;refine st (bQ rfl) rfl rfl ?_))|refine aS ?_|refine aj ?_|refine ah ?_|refine bg ?_|refine aO ?_)
 refine iD (ι:=Nat×Nat) (fun s=>[(0,.int .i64 (m:Int)),(1,.int .i64 (d:Int)),(4,.pointer (some ⟨0,0,none⟩)),(5,.int .i64 (s.1:Int)),(6,.int .i64 (s.2:Int))])
  (fun _=>[.rw [.int .i64 0,.int .i64 0]]) (fun s=>s.2) (fun s=>Nat.gcd s.1 s.2=Nat.gcd m d∧0<s.1+s.2) (m,d) (by simp) (.same ⟨rfl,rfl,rfl,rfl,rfl,trivial⟩) ⟨rfl,by simp only;omega⟩ ?_
 rintro ⟨a,b⟩ ⟨hg,hp⟩
 simp only at hg hp ⊢
 by_cases hb:(b:Int) ≠ 0
 ·have hlt:=Nat.mod_lt a (show b > 0 by omega)
  repeat' (first|(refine gU ?_;first|(refine aP ?_;refine st (au rfl) rfl rfl ?_)|(refine bG ?_;refine st (aG rfl rfl rfl) rfl rfl ?_))|(refine fU ?_;first|(refine gZ ?_;refine frA (au rfl) rfl ?_)|(refine vw ?_;refine frA (aA rfl) rfl ?_)|(refine o7 ?_;refine frA (CV rfl rfl (by omega)) rfl ?_))|(refine fD ⟨by kernel_rfl,?_⟩)|refine aS ?_|refine aj ?_|refine dH (by kernel_rfl) rfl ?_|refine ah ?_|refine bg ?_|refine fH ?_|refine aW ?_|refine aO ?_|refine aQ rfl ?_)
  exact ⟨rfl,(b,a % b),⟨by rw [← hg];exact (Nat.gcd_comm b (a % b)).trans (by rw [← Nat.gcd_rec,Nat.gcd_comm]),by simp only;omega⟩,hlt,.same ⟨rfl,rfl,rfl,rfl,rfl,trivial⟩⟩
 ·obtain rfl:b=0:=by omega
  rw [Nat.gcd_zero_right] at hg
  subst hg
  have q1:((m:Nat):Int).tdiv (Nat.gcd m d:Nat)=sZ m d:=rfl
  have q2:((d:Nat):Int).tdiv (Nat.gcd m d:Nat)=sU m d:=rfl
  obtain ⟨hr,_,r1,r2⟩:=yJ (m:=m) hd
  have ra:=hr.a0
  have rb:=hr.b0
  have b1:-9223372036854775808≤((m:Nat):Int).tdiv (Nat.gcd m d:Nat):=by omega
  have b2:((m:Nat):Int).tdiv (Nat.gcd m d:Nat)≤9223372036854775807:=by omega
  have b3:-9223372036854775808≤((d:Nat):Int).tdiv (Nat.gcd m d:Nat):=by omega
  have b4:((d:Nat):Int).tdiv (Nat.gcd m d:Nat)≤9223372036854775807:=by omega
  repeat' (first|(refine gU ?_;first|(refine aP ?_;refine st (au rfl) rfl rfl ?_)|(refine bG ?_;refine st (aG rfl rfl rfl) rfl rfl ?_)|(refine cO ?_;refine stN (aJ rfl rfl rfl rfl (by rfl)) rfl ?_))|(refine fU ?_;first|(refine gZ ?_;refine frA (au rfl) rfl ?_)|(refine o7 ?_;refine frA (IK rfl rfl (by omega) (by assumption) (by assumption)) rfl ?_)|(refine yh ?_;refine frA (jK (by rfl) rfl (by rfl)) rfl ?_))|(refine fD ⟨by kernel_rfl,?_⟩)|refine aS ?_|refine aj ?_|refine dH (by kernel_rfl) rfl ?_|refine ah ?_|refine bg ?_|refine jd ?_|refine eG rfl ?_|refine dW ?_|refine dX ?_|refine aN rfl ?_)
  exact iF (.cellN inferInstance rfl rfl .nil) (.plain rfl rfl) ⟨rfl,rfl⟩
end Go.Proofs.Ytomioaiojidnbaa
