/- Levels, plainly: what the sweeps make, and that it proves the greatest mean. -/
import Derived.Test.YtomioaiojidnbaaDfQ3
import Derived.Test.YtomioaiojidnbaaDfQ1
namespace Go.AH.Dust
open Go Go.AH
def iL (f:Nat→Nat→Int):Nat→List Value
 |0=>[]
 |n+1=>iL f n++rx (f n)
theorem pO (f:Nat→Nat→Int):∀ n,(iL f n).length=n*10
 |0=>rfl
 |n+1=>by rw [iL,List.length_append,pO f n];simp [rx];omega
theorem Ez (f:Nat→Nat→Int):∀ n,gy (iL f n)=true
 |0=>rfl
 |n+1=>by rw [iL,ug,Ez f n];rfl
theorem Cm {f:Nat→Nat→Int}:∀ {n i b:Nat},i<n→b<10→(iL f n)[i*10+b]?=some (.int .i64 (f i b))
 |0,_,_,h,_=>by omega
 |n+1,i,b,hi,hb=>by
  have hl:=pO f n
  rw [iL]
  by_cases hin:i=n
  ·subst hin
   rw [List.getElem?_append_right (by omega),hl,show i*10+b - i*10=b by omega];exact qP hb
  ·rw [List.getElem?_append_left (by omega)];exact Cm (by omega) hb
theorem kT {f g:Nat→Nat→Int}:∀ {n:Nat},(∀ i<n,∀ b<10,f i b=g i b)→iL f n=iL g n
 |0,_=>rfl
 |n+1,h=>by rw [iL,iL,kT fun i hi=>h i (by omega),uQ fun b hb=>h n (by omega) b hb]
def set2 (f:Nat→Nat→Int) (i b:Nat) (v:Int) (j c:Nat):Int:=if j=i∧c=b then v else f j c
theorem splice_left {A B vs:List Value} {o:Nat} (h:o+vs.length≤A.length):splice (A++B) o vs=splice A o vs++B:=by
 unfold splice
 rw [List.take_append_of_le_length (by omega),List.drop_append_of_le_length h];simp
theorem splice_right {A B vs:List Value} {o:Nat}:splice (A++B) (A.length+o) vs=A++splice B o vs:=by
 unfold splice
 rw [List.take_length_add_append,Nat.add_assoc,List.drop_length_add_append];simp
theorem zJ {f:Nat→Nat→Int} {v:Int}:∀ {n i b:Nat},i<n→b<10→splice (iL f n) (i*10+b) [.int .i64 v]=iL (set2 f i b v) n
 |0,_,_,h,_=>by omega
 |n+1,i,b,hi,hb=>by
  have hl:=pO f n
  rw [iL,iL]
  by_cases hin:i=n
  ·subst hin
   have e:=splice_right (A:=iL f i) (B:=rx (f i)) (o:=b) (vs:=[.int .i64 v])
   rw [hl] at e
   rw [e,Ap hb]
   congr 1
   ·exact kT fun j hj c _=>by unfold set2;rw [if_neg (by omega)]
   ·exact uQ fun c _=>by
     unfold set2 kF
     by_cases hc:c=b
     ·rw [if_pos hc,if_pos ⟨rfl,hc⟩]
     ·rw [if_neg hc,if_neg (fun h=>hc h.2)]
  ·rw [splice_left (by simp;omega),zJ (by omega) hb]
   congr 1
   exact uQ fun c _=>by unfold set2;rw [if_neg (by omega)]
def wyD (S:Shp) (m:Nat→Int) (D:Nat→Bool) (v:Nat):Nat→Int
 |0=>-1
 |k+1=>if D k=true∧(gf S.f k).2=v∧0≤m (gf S.f k).1.toNat then max (wyD S m D v k) (m (gf S.f k).1.toNat+gi S.d (gf S.f k).1.toNat) else wyD S m D v k
section
variable {S:Shp} {m:Nat→Int} {D D':Nat→Bool} {v:Nat}
theorem JH:∀ {k:Nat},(∀ j<k,D j=false)→wyD S m D v k=-1
 |0,_=>rfl
 |k+1,h=>by rw [wyD,if_neg (by rw [h k (by omega)];simp)];exact JH fun j hj=>h j (by omega)
theorem HY:∀ {k:Nat},(∀ j<k,D j=true)→wyD S m D v k=wyF S m v k
 |0,_=>rfl
 |k+1,h=>by
  rw [wyD,wyF,HY fun j hj=>h j (by omega)]
  by_cases hc:(gf S.f k).2=v∧0≤m (gf S.f k).1.toNat
  ·rw [if_pos hc,if_pos ⟨h k (by omega),hc⟩]
  ·rw [if_neg hc,if_neg (fun x=>hc x.2)]
theorem xM:∀ {k:Nat},(∀ j<k,D j=D' j)→wyD S m D v k=wyD S m D' v k
 |0,_=>rfl
 |k+1,h=>by rw [wyD,wyD,xM fun j hj=>h j (by omega),h k (by omega)]
theorem Nv {j:Nat} (hD:∀ i,i ≠ j→D' i=D i) (h1:D' j=true) (h0:D j=false):∀ {k:Nat},j<k →
  wyD S m D' v k=if (gf S.f j).2=v∧0≤m (gf S.f j).1.toNat then max (wyD S m D v k) (m (gf S.f j).1.toNat+gi S.d (gf S.f j).1.toNat) else wyD S m D v k
 |0,h=>by omega
 |k+1,h=>by
  by_cases hjk:j=k
  ·subst hjk
   have e:wyD S m D' v j=wyD S m D v j:=xM fun i hi=>hD i (by omega)
   have e2:wyD S m D v (j+1)=wyD S m D v j:=by rw [wyD,if_neg (by rw [h0];simp)]
   rw [e2,wyD,e,h1]
   by_cases hc:(gf S.f j).2=v∧0≤m (gf S.f j).1.toNat
   ·rw [if_pos hc,if_pos ⟨rfl,hc⟩]
   ·rw [if_neg hc,if_neg (fun x=>hc x.2)]
  ·have ih:=Nv hD h1 h0 (k:=k) (by omega)
   rw [wyD,ih,hD k (by omega)]
   rw [wyD]
   split <;> split <;> omega
theorem AA (hS:S.ok) {B:Int} (hB:0≤B) (hm:∀ i,i<S.d.length→m i≤B):∀ {k:Nat},k≤S.f.length→-1≤wyD S m D v k∧wyD S m D v k≤B+1000
 |0,_=>by simp only [wyD];omega
 |k+1,hk=>by
  have ih:=AA hS hB hm (k:=k) (by omega)
  have hf:=(hS.f k (by omega)).1
  have hf1:=hf.1;have hf2:=hf.2
  have hd:=hS.d (gf S.f k).1.toNat (by omega)
  have hb:=hm (gf S.f k).1.toNat (by omega)
  rw [wyD]
  split <;> omega
end
def dnk (S:Shp) (n k j:Nat):Bool:=decide ((gf S.f j).1<(n:Int)∨((gf S.f j).1=(n:Int)∧j<k))
noncomputable def rw3 (S:Shp) (h n k b:Nat):Int:=if b<S.d.length then (match h with|0=>bR S b|h+1=>wyD S (wR S h) (dnk S n k) b S.f.length) else 0
noncomputable def oJ (S:Shp) (h b:Nat):Int:=if b<S.d.length then wR S h b else 0
noncomputable def rI (S:Shp) (h b:Nat):Int:=if b<S.d.length then (if h=0 then bR S b else -1) else 0
section
variable {S:Shp}
theorem rw3_start {h b:Nat} (hS:S.ok):rw3 S h 0 0 b=rI S h b:=by
 unfold rw3 rI
 by_cases hb:b<S.d.length
 ·rw [if_pos hb,if_pos hb]
  cases h with
  |zero=>rfl
  |succ h =>
   rw [if_neg (by omega)]
   exact JH fun j hj=>decide_eq_false (by have:=(hS.f j hj).1.1;omega)
 ·rw [if_neg hb,if_neg hb]
theorem rw3_next {h n b:Nat}:rw3 S h n S.f.length b=rw3 S h (n+1) 0 b:=by
 unfold rw3
 by_cases hb:b<S.d.length
 ·rw [if_pos hb,if_pos hb]
  cases h with
  |zero=>rfl
  |succ h=>exact xM fun j hj=>decide_eq_decide.2 (by omega)
 ·rw [if_neg hb,if_neg hb]
theorem rw3_end {h b:Nat} (hS:S.ok):rw3 S h S.d.length 0 b=oJ S h b:=by
 unfold rw3 oJ
 by_cases hb:b<S.d.length
 ·rw [if_pos hb,if_pos hb]
  cases h with
  |zero=>rfl
  |succ h=>exact HY fun j hj=>decide_eq_true (by have:=(hS.f j hj).1.2;omega)
 ·rw [if_neg hb,if_neg hb]
theorem rw3_skip {h n k b:Nat} (hk:(gf S.f k).1 ≠ (n:Int)):rw3 S h n (k+1) b=rw3 S h n k b:=by
 unfold rw3
 by_cases hb:b<S.d.length
 ·rw [if_pos hb,if_pos hb]
  cases h with
  |zero=>rfl
  |succ h =>
   refine xM fun j hj=>decide_eq_decide.2 ?_
   by_cases hjk:j=k
   ·subst hjk;constructor <;> intro h <;> omega
   ·omega
 ·rw [if_neg hb,if_neg hb]
theorem H6 {h n k b:Nat} (hk:k<S.f.length) (he:(gf S.f k).1=(n:Int)) (hb:b<S.d.length) :
  rw3 S (h+1) n (k+1) b=if (gf S.f k).2=(b:Int)∧0≤wR S h n then max (rw3 S (h+1) n k b) (wR S h n+gi S.d n) else rw3 S (h+1) n k b:=by
 unfold rw3
 rw [if_pos hb,if_pos hb]
 have:=Nv (S:=S) (m:=wR S h) (v:=b) (D:=dnk S n k) (D':=dnk S n (k+1)) (j:=k) (fun i hi=>decide_eq_decide.2 (by omega)) (decide_eq_true (by omega)) (decide_eq_false (by omega)) hk
 rw [he,Int.toNat_natCast] at this
 exact this
theorem rw3_bound (hS:S.ok) {h n k b:Nat} (hh:h≤10):-1≤rw3 S h n k b∧rw3 S h n k b≤11000:=by
 unfold rw3
 split
 ·cases h with
  |zero=>rcases tX S b with h|h <;> simp only [h] <;> omega
  |succ h =>
   have:=AA hS (m:=wR S h) (B:=1000*(h:Int)) (D:=dnk S n k) (v:=b) (by omega) (fun i hi=>(oZ hS (fun v _=>tX S v) hi).2) (Nat.le_refl S.f.length)
   simp only
   omega
 ·omega
noncomputable def f2 (S:Shp) (h n i b:Nat):Int:=if i<h then oJ S i b else if i=h∧b<n then rI S h b else 0
noncomputable def f3 (S:Shp) (h n k i b:Nat):Int:=if i<h then oJ S i b else if i=h then rw3 S h n k b else 0
theorem f2_start {h:Nat} (N:Nat):iL (f2 S h 0) N=iL (fun i b=>if i<h then oJ S i b else 0) N:=kT fun i _ b _=>by
 unfold f2
 by_cases hi:i<h
 ·rw [if_pos hi,if_pos hi]
 ·rw [if_neg hi,if_neg hi,if_neg (by omega)]
theorem f2_set {h n:Nat} (hn:n<S.d.length) (N:Nat):iL (set2 (f2 S h n) h n (if h=0 then bR S n else -1)) N=iL (f2 S h (n+1)) N:=kT fun i _ b _=>by
 unfold set2 f2
 by_cases hi:i<h
 ·rw [if_neg (by omega),if_pos hi,if_pos hi]
 ·rw [if_neg hi,if_neg hi]
  by_cases hih:i=h
  ·by_cases hbn:b=n
   ·rw [if_pos ⟨hih,hbn⟩,if_pos (show i=h∧b<n+1 from ⟨hih,by omega⟩),hbn]
    unfold rI;rw [if_pos hn]
   ·rw [if_neg (fun x=>hbn x.2)]
    by_cases hb:b<n
    ·rw [if_pos ⟨hih,hb⟩,if_pos ⟨hih,by omega⟩]
    ·rw [if_neg (fun x=>hb x.2),if_neg (fun x=>by omega)]
  ·rw [if_neg (fun x=>hih x.1),if_neg (fun x=>hih x.1),if_neg (fun x=>hih x.1)]
theorem f2_f3 (hS:S.ok) {h:Nat} (N:Nat):iL (f2 S h S.d.length) N=iL (f3 S h 0 0) N:=kT fun i _ b _=>by
 unfold f2 f3
 by_cases hi:i<h
 ·rw [if_pos hi,if_pos hi]
 ·rw [if_neg hi,if_neg hi]
  by_cases hih:i=h
  ·rw [if_pos hih,rw3_start hS]
   by_cases hb:b<S.d.length
   ·rw [if_pos ⟨hih,hb⟩]
   ·rw [if_neg (fun x=>hb x.2)];unfold rI;rw [if_neg hb]
  ·rw [if_neg (fun x=>hih x.1),if_neg hih]
theorem f3_next {h n:Nat} (N:Nat):iL (f3 S h n S.f.length) N=iL (f3 S h (n+1) 0) N:=kT fun i _ b _=>by
 unfold f3;rw [rw3_next]
theorem f3_end (hS:S.ok) {h:Nat} (N:Nat):iL (f3 S h S.d.length 0) N=iL (fun i b=>if i<h+1 then oJ S i b else 0) N:=kT fun i _ b _=>by
 unfold f3
 rw [rw3_end hS]
 by_cases hi:i<h
 ·rw [if_pos hi,if_pos (by omega)]
 ·rw [if_neg hi]
  by_cases hih:i=h
  ·rw [if_pos hih,if_pos (by omega),hih]
  ·rw [if_neg hih,if_neg (by omega)]
theorem f3_skip {h n k:Nat} (hk:(gf S.f k).1 ≠ (n:Int)) (N:Nat):iL (f3 S h n (k+1)) N=iL (f3 S h n k) N:=kT fun i _ b _=>by
 unfold f3;rw [rw3_skip hk]
theorem f3_zero {n k n' k':Nat} (N:Nat):iL (f3 S 0 n k) N=iL (f3 S 0 n' k') N:=rfl
theorem f3_no {h n k:Nat} (_hS:S.ok) (hk:k<S.f.length) (he:(gf S.f k).1=(n:Int)) (hn:¬ 0≤wR S h n) (N:Nat):iL (f3 S (h+1) n (k+1)) N=iL (f3 S (h+1) n k) N:=kT fun i _ b _=>by
 unfold f3
 by_cases hb:b<S.d.length
 ·rw [H6 hk he hb,if_neg (show ¬ ((gf S.f k).2=(b:Int)∧0≤wR S h n) from fun x=>hn x.2)]
 ·unfold rw3;rw [if_neg hb,if_neg hb]
theorem f3_set {h n k:Nat} (hS:S.ok) (hk:k<S.f.length) (he:(gf S.f k).1=(n:Int)) (hn:0≤wR S h n) (N:Nat) :
  iL (set2 (f3 S (h+1) n k) (h+1) (gf S.f k).2.toNat (max (rw3 S (h+1) n k (gf S.f k).2.toNat) (wR S h n+gi S.d n))) N=iL (f3 S (h+1) n (k+1)) N:=kT fun i _ b _=>by
 have hw:=(hS.f k hk).2.1
 have hw1:=hw.1;have hw2:=hw.2
 unfold set2 f3
 by_cases hi:i<h+1
 ·rw [if_neg (by omega),if_pos hi,if_pos hi]
 ·rw [if_neg hi,if_neg hi]
  by_cases hih:i=h+1
  ·rw [if_pos hih,if_pos hih]
   by_cases hb:b=(gf S.f k).2.toNat
   ·rw [if_pos ⟨hih,hb⟩,H6 hk he (by omega),if_pos ⟨by omega,hn⟩,hb]
   ·rw [if_neg (fun x=>hb x.2)]
    by_cases hbl:b<S.d.length
    ·rw [H6 hk he hbl,if_neg (fun x=>hb (by omega))]
    ·unfold rw3;rw [if_neg hbl,if_neg hbl]
  ·rw [if_neg (fun x=>hih x.1),if_neg hih,if_neg hih]
end
noncomputable def kN (S:Shp) (v:Nat):Nat→(Int×Int)×Bool
 |0=>((0,0),false)
 |h+1=>if wR S h v<0 then kN S v h else
   if (kN S v h).2=false∨(wR S S.d.length v - wR S h v)*(kN S v h).1.2<(kN S v h).1.1*((S.d.length - h:Nat):Int) then ((wR S S.d.length v - wR S h v,((S.d.length - h:Nat):Int)),true) else kN S v h
noncomputable def iY (S:Shp):Nat→List (Int×Int)
 |0=>[]
 |n+1=>if wR S S.d.length n<0 then iY S n else iY S n++[(kN S n S.d.length).1]
def ni (l:List (Int×Int)):Nat→Int×Int
 |0=>gf l 0
 |k+1=>if (ni l k).1*(gf l k).2<(gf l k).1*(ni l k).2 then gf l k else ni l k
structure LstOk (S:Shp) (v h:Nat) (x:Int×Int):Prop where
 att:∃ i,i<h∧0≤wR S i v∧x.1=wR S S.d.length v - wR S i v∧x.2=((S.d.length - i:Nat):Int)
 le:∀ i,i<h→0≤wR S i v→x.1*((S.d.length - i:Nat):Int)≤(wR S S.d.length v - wR S i v)*x.2
theorem xO {a b c d e f:Int} (hd:0<d) (hb:0≤b) (hf:0≤f) (h1:a*d≤c*b) (h2:c*f≤e*d):a*f≤e*b:=by
 refine Int.le_of_mul_le_mul_right (a:=d) ?_ hd
 have t1:=Int.mul_le_mul_of_nonneg_right h1 hf
 have t2:=Int.mul_le_mul_of_nonneg_right h2 hb
 have e1:a*f*d=a*d*f:=by rw [Int.mul_assoc,Int.mul_comm f d,← Int.mul_assoc]
 have e2:c*b*f=c*f*b:=by rw [Int.mul_assoc,Int.mul_comm b f,← Int.mul_assoc]
 have e3:e*b*d=e*d*b:=by rw [Int.mul_assoc,Int.mul_comm b d,← Int.mul_assoc]
 omega
theorem P7 {S:Shp} {v:Nat}:∀ {h:Nat},h≤S.d.length→if (kN S v h).2=true then LstOk S v h (kN S v h).1 else ∀ i,i<h→¬ 0≤wR S i v
 |0,_=>by simp [kN]
 |h+1,hh=>by
  have ih:=P7 (S:=S) (v:=v) (h:=h) (by omega)
  rw [kN]
  by_cases hw:wR S h v<0
  ·rw [if_pos hw]
   split
   ·rename_i ht
    rw [if_pos ht] at ih
    obtain ⟨i,i1,i2⟩:=ih.att
    exact ⟨⟨i,by omega,i2⟩,fun j hj h0=>by
     by_cases hjh:j=h
     ·subst hjh;omega
     ·exact ih.le j (by omega) h0⟩
   ·rename_i ht
    rw [if_neg ht] at ih
    intro i hi
    by_cases hih:i=h
    ·subst hih;omega
    ·exact ih i (by omega)
  ·rw [if_neg hw]
   have hx:(0:Int)<((S.d.length - h:Nat):Int):=by omega
   by_cases hc:(kN S v h).2=false∨(wR S S.d.length v - wR S h v)*(kN S v h).1.2<(kN S v h).1.1*((S.d.length - h:Nat):Int)
   ·rw [if_pos hc]
    simp only [if_true]
    refine ⟨⟨h,by omega,by omega,rfl,rfl⟩,fun j hj h0=>?_⟩
    by_cases hjh:j=h
    ·subst hjh;exact Int.le_refl _
    ·by_cases ht:(kN S v h).2=true
     ·rw [if_pos ht] at ih
      have hlt:(wR S S.d.length v - wR S h v)*(kN S v h).1.2<(kN S v h).1.1*((S.d.length - h:Nat):Int):=hc.resolve_left (by rw [ht];simp)
      have hle:=ih.le j (by omega) h0
      obtain ⟨i,i1,i2,i3,i4⟩:=ih.att
      exact xO (d:=(kN S v h).1.2) (by rw [i4];omega) (by omega) (by omega) (Int.le_of_lt hlt) hle
     ·rw [if_neg ht] at ih
      exact absurd h0 (ih j (by omega))
   ·rw [if_neg hc]
    have ht:(kN S v h).2=true:=by
     cases hb:(kN S v h).2 with
     |true=>rfl
     |false=>exact absurd (.inl hb) hc
    have hlt:¬ (wR S S.d.length v - wR S h v)*(kN S v h).1.2<(kN S v h).1.1*((S.d.length - h:Nat):Int):=fun x=>hc (.inr x)
    rw [if_pos ht] at ih ⊢
    obtain ⟨i,i1,i2⟩:=ih.att
    exact ⟨⟨i,by omega,i2⟩,fun j hj h0=>by
     by_cases hjh:j=h
     ·subst hjh;omega
     ·exact ih.le j (by omega) h0⟩
theorem AB {S:Shp} (hS:S.ok) {v:Nat} (hv:v<S.d.length) (h0:0≤wR S S.d.length v):(kN S v S.d.length).2=true∧zC S v (kN S v S.d.length).1.1 (kN S v S.d.length).1.2:=by
 have h:=P7 (S:=S) (v:=v) (Nat.le_refl _)
 obtain ⟨i,i1,i2⟩:=least_some hS hv h0
 have ht:(kN S v S.d.length).2=true:=by
  cases hb:(kN S v S.d.length).2 with
  |true=>rfl
  |false =>
   rw [hb] at h
   exact absurd i2 (h i i1)
 rw [if_pos ht] at h
 exact ⟨ht,⟨h.att,h.le⟩⟩
theorem AL {S:Shp} (hS:S.ok) {v h:Nat} (hv:v<S.d.length) (hh:h≤S.d.length):-10000≤(kN S v h).1.1∧(kN S v h).1.1≤10001∧0≤(kN S v h).1.2∧(kN S v h).1.2≤10:=by
 have n10:=hS.n10
 induction h with
 |zero=>simp [kN]
 |succ h ih =>
  have ih:=ih (by omega)
  have b1:=oZ hS (fun v _=>tX S v) (h:=S.d.length) hv
  have b2:=oZ hS (fun v _=>tX S v) (h:=h) hv
  rw [kN]
  split
  ·exact ih
  ·split
   ·refine ⟨?_,?_,?_,?_⟩ <;> simp only [wR] at*<;> omega
   ·exact ih
theorem vM {S:Shp} {n:Nat} {x:Int×Int}:x ∈ iY S n↔∃ v,v<n∧0≤wR S S.d.length v∧x=(kN S v S.d.length).1:=by
 induction n with
 |zero=>simp [iY]
 |succ n ih =>
  rw [iY]
  by_cases hw:wR S S.d.length n<0
  ·rw [if_pos hw,ih]
   constructor
   ·rintro ⟨v,h1,h2⟩;exact ⟨v,by omega,h2⟩
   ·rintro ⟨v,h1,h2,h3⟩
    exact ⟨v,by
     by_cases hv:v=n
     ·subst hv;omega
     ·omega,h2,h3⟩
  ·rw [if_neg hw,List.mem_append,ih,List.mem_singleton]
   constructor
   ·rintro (⟨v,h1,h2⟩|h)
    ·exact ⟨v,by omega,h2⟩
    ·exact ⟨n,by omega,by omega,h⟩
   ·rintro ⟨v,h1,h2,h3⟩
    by_cases hv:v=n
    ·subst hv;exact .inr h3
    ·exact .inl ⟨v,by omega,h2,h3⟩
theorem Nw {S:Shp}:∀ {n:Nat},(iY S n).length≤n
 |0=>Nat.le_refl _
 |n+1=>by
  have ih:=Nw (S:=S) (n:=n)
  rw [iY]
  split
  ·omega
  ·rw [List.length_append,List.length_singleton];omega
theorem P8 {l:List (Int×Int)} (hl:0<l.length) (hp:∀ x ∈ l,0<x.2):∀ {k:Nat},k≤l.length→ni l k ∈ l∧∀ j,j<k→(gf l j).1*(ni l k).2≤(ni l k).1*(gf l j).2
 |0,_=>⟨jW.2 ⟨0,hl,rfl⟩,fun j hj=>by omega⟩
 |k+1,hk=>by
  obtain ⟨i1,i2⟩:=P8 hl hp (k:=k) (by omega)
  have hm:gf l k ∈ l:=jW.2 ⟨k,by omega,rfl⟩
  have p1:=hp _ i1
  have p2:=hp _ hm
  rw [ni]
  by_cases hc:(ni l k).1*(gf l k).2<(gf l k).1*(ni l k).2
  ·rw [if_pos hc]
   refine ⟨hm,fun j hj=>?_⟩
   by_cases hjk:j=k
   ·subst hjk;exact Int.le_refl _
   ·have p3:=hp _ (jW.2 ⟨j,by omega,rfl⟩:gf l j ∈ l)
    exact xO (d:=(ni l k).2) p1 (Int.le_of_lt p3) (Int.le_of_lt p2) (i2 j (by omega)) (Int.le_of_lt hc)
  ·rw [if_neg hc]
   refine ⟨i1,fun j hj=>?_⟩
   by_cases hjk:j=k
   ·subst hjk;omega
   ·exact i2 j (by omega)
theorem JI {S:Shp} (hS:S.ok) (hl:0<(iY S S.d.length).length):jc S (ni (iY S S.d.length) (iY S S.d.length).length).1 (ni (iY S S.d.length) (iY S S.d.length).length).2:=by
 have hp:∀ x ∈ iY S S.d.length,0<x.2:=fun x hx=>by
  obtain ⟨v,h1,h2,rfl⟩:=vM.1 hx
  obtain ⟨h,e1,_,_,e4⟩:=(AB hS h1 h2).2.att
  rw [e4];omega
 obtain ⟨b1,b2⟩:=P8 hl hp (Nat.le_refl _)
 obtain ⟨v,h1,h2,h3⟩:=vM.1 b1
 have hL:=(AB hS h1 h2).2
 rw [← h3] at hL
 refine karp hS h1 h2 hL fun u u1 u2=>⟨_,_,(AB hS u1 u2).2,?_⟩
 obtain ⟨j,j1,j2⟩:=jW.1 (vM.2 ⟨u,u1,u2,rfl⟩:(kN S u S.d.length).1 ∈ iY S S.d.length)
 have:=b2 j j1
 rw [j2] at this
 exact this
theorem all_none {S:Shp} (hS:S.ok):(iY S S.d.length).length=0↔¬ ∃ a b,jc S a b:=by
 rw [Nl hS]
 constructor
 ·rintro h ⟨v,h1,h2⟩
  have:=vM.2 ⟨v,h1,h2,rfl⟩
  rw [List.eq_nil_of_length_eq_zero h] at this
  simp at this
 ·intro h
  refine Classical.byContradiction fun hl=>h ?_
  obtain ⟨v,h1,h2,_⟩:=vM.1 (jW.2 ⟨0,by omega,rfl⟩:gf (iY S S.d.length) 0 ∈ iY S S.d.length)
  exact ⟨v,h1,h2⟩
theorem jc.nonneg {S:Shp} (hS:S.ok) {a b:Int} (h:jc S a b):0≤a:=by
 obtain ⟨p,k,hc,he⟩:=h.att
 have hk:=hc.h0
 have hs:=(ng hS hc.wk).1
 have h1:=Int.mul_nonneg (Int.le_of_lt h.b0) hs
 rw [he] at h1
 exact Int.nonneg_of_mul_nonneg_left h1 (by omega)
end Go.AH.Dust
namespace Go.AH.Dust
open Go Go.AH
inductive Cms (E:Int→Int→Prop):Int→Int→Prop
 |one {a b:Int} (h:E a b):Cms E a b
 |more {a b c:Int} (h:E a b) (k:Cms E b c):Cms E a c
theorem Cms.snoc {E:Int→Int→Prop} {a b c:Int} (h:Cms E a b) (k:E b c):Cms E a c:=by
 induction h with
 |one h=>exact .more h (.one k)
 |more h _ ih=>exact .more h (ih k)
def edg (S:Shp) (a b:Int) (l:Nat→Int) (u v:Int):Prop:=(u,v) ∈ S.f∧rF S a b l u.toNat v.toNat=true
open Classical in
noncomputable def comB (S:Shp) (a b:Int) (l:Nat→Int) (u v:Int):Bool:=decide (Cms (edg S a b l) u v)
theorem JJ {r:Nat→Bool} {b:Nat} (hr:r b=false):∀ {k:Nat},uS (setB r b true) k=uS r k+if b<k then 1 else 0
 |0=>by simp [uS]
 |k+1=>by
  have ih:=JJ (r:=r) (b:=b) hr (k:=k)
  simp only [uS,ih]
  by_cases hbk:b=k
  ·subst hbk
   have:setB r b true b=true:=by simp [setB]
   rw [this,hr];simp
  ·have:setB r b true k=r k:=by unfold setB;rw [if_neg (fun h=>hbk h.symm)]
   rw [this]
   split <;> split <;> split <;> omega
section
variable {S:Shp} {a b:Int} {l:Nat→Int} {src dst:Int} {q:List Int} {sn:Nat→Bool}
structure Bfs (S:Shp) (a b:Int) (l:Nat→Int) (src dst:Int) (q:List Int) (sn:Nat→Bool):Prop where
 wk:∀ x ∈ q,isW S x∧(x=src∨Cms (edg S a b l) src x)
 sk:∀ i:Nat,sn i=true→Cms (edg S a b l) src i
 len:q.length≤1+uS sn 10
 cl:∀ x,(x=src∨(isW S x∧sn x.toNat=true))→x ∈ q∨∀ y,edg S a b l x y→y ≠ dst∧sn y.toNat=true
theorem Bfs.start (hw:isW S src):Bfs S a b l src dst [src] (fun _=>false) :=
 ⟨fun x hx=>by rw [List.mem_singleton.1 hx];exact ⟨hw,.inl rfl⟩,fun i (h:false=true)=>(by cases h),by simp,fun x hx=>(by
  rcases hx with rfl|⟨_,h⟩
  ·exact .inl (by simp)
  ·cases h)⟩
theorem Bfs.stop (hS:S.ok) (h:Bfs S a b l src dst [] sn):¬ Cms (edg S a b l) src dst:=by
 have key:∀ x y,Cms (edg S a b l) x y→(x=src∨(isW S x∧sn x.toNat=true))→y ≠ dst:=by
  intro x y hc
  induction hc with
  |one he =>
   intro hx
   rcases h.cl _ hx with hm|hm
   ·simp at hm
   ·exact (hm _ he).1
  |more he _ ih =>
   intro hx
   rcases h.cl _ hx with hm|hm
   ·simp at hm
   ·exact ih (.inr ⟨(rE hS he.1).2,(hm _ he).2⟩)
 intro hc
 exact key _ _ hc (.inl rfl) rfl
structure Mid (S:Shp) (a b:Int) (l:Nat→Int) (src dst x:Int) (M k:Nat) (q:List Int) (sn:Nat→Bool):Prop where
 xk:isW S x∧(x=src∨Cms (edg S a b l) src x)
 wk:∀ x ∈ q,isW S x∧(x=src∨Cms (edg S a b l) src x)
 sk:∀ i:Nat,sn i=true→Cms (edg S a b l) src i
 len:q.length≤uS sn 10
 m:2*(10 - uS sn 10)+q.length≤M
 cl:∀ z,z ≠ x→(z=src∨(isW S z∧sn z.toNat=true))→z ∈ q∨∀ y,edg S a b l z y→y ≠ dst∧sn y.toNat=true
 done:∀ j,j<k→(gf S.f j).1=x→rF S a b l x.toNat (gf S.f j).2.toNat=true→(gf S.f j).2 ≠ dst∧sn (gf S.f j).2.toNat=true
theorem Bfs.pop {x:Int} (h:Bfs S a b l src dst (x::q) sn):Mid S a b l src dst x (2*(10 - uS sn 10)+q.length) 0 q sn:=by
 have hl:=h.len
 simp only [List.length_cons] at hl
 refine ⟨h.wk x (by simp),fun y hy=>h.wk y (by simp [hy]),h.sk,by omega,Nat.le_refl _,fun z hz hs=>?_,fun j hj=>by omega⟩
 rcases h.cl z hs with hm|hm
 ·rcases List.mem_cons.1 hm with hm|hm
  ·exact absurd hm hz
  ·exact .inl hm
 ·exact .inr hm
theorem Mid.fin {x:Int} {M:Nat} (h:Mid S a b l src dst x M S.f.length q sn):Bfs S a b l src dst q sn:=by
 have hl:=h.len
 refine ⟨h.wk,h.sk,by omega,fun z hz=>?_⟩
 by_cases hzx:z=x
 ·subst hzx
  right
  rintro y ⟨hf,ht⟩
  obtain ⟨j,h1,h2⟩:=jW.1 hf
  have:=h.done j h1 (by rw [h2]) (by rw [h2];exact ht)
  rw [h2] at this;exact this
 ·exact h.cl z hzx hz
theorem Mid.skip {x:Int} {M k:Nat} (h:Mid S a b l src dst x M k q sn) (hs:¬ ((gf S.f k).1=x∧rF S a b l x.toNat (gf S.f k).2.toNat=true)):Mid S a b l src dst x M (k+1) q sn :=
 ⟨h.xk,h.wk,h.sk,h.len,h.m,h.cl,fun j hj h1 h2=>by
  by_cases hjk:j=k
  ·subst hjk;exact absurd ⟨h1,h2⟩ hs
  ·exact h.done j (by omega) h1 h2⟩
theorem Mid.seen {x:Int} {M k:Nat} (h:Mid S a b l src dst x M k q sn) (hd:(gf S.f k).2 ≠ dst) (hs:sn (gf S.f k).2.toNat=true):Mid S a b l src dst x M (k+1) q sn :=
 ⟨h.xk,h.wk,h.sk,h.len,h.m,h.cl,fun j hj h1 h2=>by
  by_cases hjk:j=k
  ·subst hjk;exact ⟨hd,hs⟩
  ·exact h.done j (by omega) h1 h2⟩
theorem Mid.hit {x:Int} {M k:Nat} (h:Mid S a b l src dst x M k q sn) (hk:k<S.f.length) (h1:(gf S.f k).1=x) (h2:rF S a b l x.toNat (gf S.f k).2.toNat=true):Cms (edg S a b l) src (gf S.f k).2:=by
 have he:edg S a b l x (gf S.f k).2:=⟨jW.2 ⟨k,hk,by rw [← h1]⟩,h2⟩
 rcases h.xk.2 with hx|hx
 ·rw [← hx];exact .one he
 ·exact hx.snoc he
theorem Mid.push {x:Int} {M k:Nat} (hS:S.ok) (h:Mid S a b l src dst x M k q sn) (hk:k<S.f.length) (h1:(gf S.f k).1=x) (h2:rF S a b l x.toNat (gf S.f k).2.toNat=true) (hd:(gf S.f k).2 ≠ dst) (hs:sn (gf S.f k).2.toNat=false) :
  Mid S a b l src dst x M (k+1) (q++[(gf S.f k).2]) (setB sn (gf S.f k).2.toNat true):=by
 have hit:=h.hit hk h1 h2
 have hw:=(hS.f k hk).2.1
 have n10:=hS.n10
 have hc:=JJ hs (k:=10)
 rw [if_pos (by omega)] at hc
 have hle:=xG (setB sn (gf S.f k).2.toNat true) 10
 have hl:=h.len
 have hm:=h.m
 have mono:∀ i,sn i=true→setB sn (gf S.f k).2.toNat true i=true:=fun i hi=>by unfold setB;split;rfl;exact hi
 refine ⟨h.xk,fun y hy=>?_,fun i hi=>?_,by simp only [List.length_append,List.length_singleton];omega,by simp only [List.length_append,List.length_singleton];omega,fun z hz hzs=>?_,fun j hj hj1 hj2=>?_⟩
 ·rcases List.mem_append.1 hy with hy|hy
  ·exact h.wk y hy
  ·rw [List.mem_singleton.1 hy];exact ⟨hw,.inr hit⟩
 ·unfold setB at hi
  split at hi
  ·rename_i he
   rw [show (i:Int)=(gf S.f k).2 by omega];exact hit
  ·exact h.sk i hi
 ·by_cases hzy:z=(gf S.f k).2
  ·exact .inl (by rw [hzy];simp)
  ·have:z=src∨(isW S z∧sn z.toNat=true):=by
    rcases hzs with hz2|⟨hz2,hz3⟩
    ·exact .inl hz2
    ·right
     refine ⟨hz2,?_⟩
     unfold setB at hz3
     split at hz3
     ·rename_i he
      exact absurd (show z=(gf S.f k).2 by omega) hzy
     ·exact hz3
   rcases h.cl z hz this with hm|hm
   ·exact .inl (List.mem_append_left _ hm)
   ·exact .inr fun y hy=>⟨(hm y hy).1,mono _ (hm y hy).2⟩
 ·by_cases hjk:j=k
  ·subst hjk;exact ⟨hd,by simp [setB]⟩
  ·have:=h.done j (by omega) hj1 hj2
   exact ⟨this.1,mono _ this.2⟩
end
def qV (i:Nat) (st:Option (List Int)) (q:List Int):Value:=match st with
 |some j=>slq i j.length 1 q.length
 |none=>.slice none 0 1
def qO (st:Option (List Int)) (q:List Int):cu:=match st with
 |some j=>.gr (ints (j++q)) 3
 |none=>.gr [] 3
def qok (st:Option (List Int)) (q:List Int):Prop:=match st with
 |some j=>j++q ≠ []
 |none=>q=[]
theorem H7 {σ:Heap} {n i k j:Nat} {π:Rho} {st:Option (List Int)} {q:List Int} (hi:π i=⟨k,0,0⟩) (h:σ[k]?=some (.rw [qV j st q])) {p:Nat} (hp:p<n) (hj:π p=⟨j,0,0⟩):qU σ n π (π i) (.rw [qV p st q]):=by
 refine .inr ⟨by rw [hi],[qV j st q],.inl (by rw [hi];exact h),Nat.le_refl _,fun a ha ha'=>?_⟩
 match a,ha with
 |0,_ =>
  cases st with
  |none=>exact .zsliceZ rfl
  |some jk =>
   have:=VQ.gsliceG (q:=true) (n:=n) (ρ:=π) p jk.length q.length q.length q.length 1 (Nat.le_refl _) hp rfl
   simpa [qV,hj] using this
theorem H8 {σ:Heap} {n k j:Nat} {π:Rho} {st:Option (List Int)} {q:List Int} (hk:π k=⟨j,0,0⟩) (h:st.isSome=true→σ[j]?=some (qO st q)):qU σ n π (π k) (qO st q):=by
 cases st with
 |none=>exact sG
 |some jk=>exact qC hk (h rfl) (aK _)
theorem xP {n i:Nat} {st:Option (List Int)} {q:List Int} (h:i<n):fJ n (.rw [qV i st q]):=by
 cases st with
 |none=>exact ⟨rfl,rfl⟩
 |some j=>exact ⟨by simp [dR,qV,closed,Nat.blt_eq,h],rfl⟩
theorem FU {n:Nat} {st:Option (List Int)} {q:List Int}:fJ n (qO st q):=by
 cases st with
 |none=>exact ⟨rfl,rfl⟩
 |some j=>exact ay (aK _)
theorem roundB_r {P:Program} {n0 N:Nat} {all rest:List Oper} {K:Env→List Nat→Heap→Prop} {d l:Nat} {e e1:Env} {mk mk1:List Nat} {σ2:Heap} {o:cu} (h1:σ2[l]?=some o) (h2:sH o=true) (h3:dO P n0 N none all rest K ((d,.bool false)::e) mk (σ2.set l (uh .done (some .ret) o))) :
  iE P n0 N all rest K d l e mk .ret e1 mk1 σ2:=⟨o,h1,h2,h3⟩
end Go.AH.Dust
namespace Go.AH
open Go
section
variable {P:Program} {n0 N:Nat} {K:Env→List Nat→Heap→Prop} {e:Env} {mk:List Nat} {σ:Heap} {all:List Oper} {listed:List Bool} {fuel:Nat}
theorem aC (i:Nat) {d:Nat} {op:Op} {ty:TypeId} {pos:String} {after:Array Edge} {v:Value} (hi:all[i]?=some ⟨some d,op,ty,pos,after,none⟩) (hd:Nat.blt d N=true)
  (h:uM P n0 N all fuel (listed.set i true) K ((d,v)::e) mk σ) (hr:Kz all listed i=true:=by decide +kernel)
  (hp:Du P op ty e v:=by first|exact pu_move rfl|exact pu_assign rfl|exact pu_inc rfl rfl (by omega)|exact Ov rfl rfl (by omega) (by omega)|exact pu_extract rfl rfl|exact pu_sliceH rfl rfl (by omega)|exact pu_sliceL rfl rfl (by omega) (by omega)|exact Ou rfl rfl rfl):uM P n0 N all (fuel+1) listed K e mk σ:=wa_pure i hr hi hp hd h
theorem aH (i:Nat) {o:Oper} (hi:all[i]?=some o) (h:dO P n0 N none all [o] (fun e' mk' σ'=>uM P n0 N all fuel (listed.set i true) K e' mk' σ') e mk σ) (hr:Ox all listed i=true:=by decide +kernel):uM P n0 N all (fuel+1) listed K e mk σ:=wa_one i hr hi h
theorem dn (h:K e mk σ) (hr:KA all listed=true:=by decide +kernel):uM P n0 N all fuel listed K e mk σ:=wa_done hr h
end
section
variable {P:Program} {N:Nat} {rd:Option Nat} {e:Env} {σ0:Heap} {news:List (Nat×Heap)} {K:Env→List (Nat×Heap)→List Oper→Prop} {k:Nat} {all rest:List Oper} {d:Nat} {op:Op} {ty:TypeId} {pos:String} {after:Array Edge} {v:Value}
end
structure Stop (p:Prop):Prop where
 out:p
section
variable {P:Program} {n0 N:Nat} {rd:Option Nat} {Q:Post} {e:Env} {mk:List Nat} {σ:Heap}
theorem kY {id:Nat} {l:Array Oper} {b:Bool} (h:Stop (dI P n0 N rd (.region id l b) Q e mk σ)):dI P n0 N rd (.region id l b) Q e mk σ:=h.out
theorem P9 {c:Code} (e2:Env) (σ2:Heap) (hs:σ=σ2) (he:yt e e2) (h:dI P n0 N rd c Q e2 mk σ2):dI P n0 N rd c Q e mk σ:=by
 subst hs
 intro G w0 ρ0 A w hi
 obtain ⟨h0,ρ,ha,hs,hr⟩:=hi
 exact h G w0 ρ0 A w ⟨h0,ρ,ha,hs,⟨hr.tmps.1,fun t v hv=>hr.tmps.2 t v (sD he _ (vk hv))⟩,hr.mks,hr.mkb⟩
end
end Go.AH
namespace Go.AH.Dust
open Go Go.AH
theorem FV {σ:Heap} {n m:Nat} {l:List Nat} (hmn:m≤n):∀ (A:Heap) (k:Nat) (rest:Heap),k+A.length≤m→(∀ i o,A[i]?=some o→σ[k+i]?=some o)→eX m A→nT σ n (je m l) (k+A.length) rest→nT σ n (je m l) k (A++rest)
 |[],k,rest,_,_,_,hr=>by simpa using hr
 |o::A,k,rest,hk,hA,hc,hr=>by
  simp only [List.length_cons] at hk hr
  refine ⟨eU (by omega) hmn (by simpa using hA 0 o rfl) hc.1,?_⟩
  exact FV hmn A (k+1) rest (by omega) (fun i o' h=>by rw [show k+1+i=k+(i+1) by omega];exact hA (i+1) o' (by simpa using h)) hc.2 (by rw [show k+1+A.length=k+(A.length+1) by omega];exact hr)
theorem Qa {n:Nat} (hn:7≤n) (S:Shp) (a b:Int) (l:Nat→Int) (dst:Int) {r:Heap} (hr:eX n r):eX n ([.ro (flL 1 2 3 S (fun i=>bI (rB S i))),.ro (ints S.d),.ro (pc S.f),.ro (ints S.s),.ro [.pointer (some ⟨0,0,none⟩)],.ro [.int .i64 a,.int .i64 b],.ro (rx l),.rw [.func (.func 90) #[] #[.pointer (some ⟨4,0,none⟩),.pointer (some ⟨5,0,none⟩),.pointer (some ⟨6,0,none⟩)]],.rw [.int .i64 dst],.rw [.bool false]]++r):=by
 have hp:∀ i,i<7→Nat.blt i n=true:=fun i hi=>Nat.blt_eq.mpr (by omega)
 refine ⟨nO (by omega),ay (aK _),ay (dJ _),ay (aK _),⟨by simp [dR,closed,hp],rfl⟩,ay rfl,ay (iI _),⟨?_,rfl⟩,ay rfl,ay rfl,hr⟩
 simp [dR,closed,kU,hp]
theorem Lc (S:Shp) (a b:Int) (l:Nat→Int) (dst:Int) (sn:Nat→Bool) {n:Nat} (hn:7≤n):eX n [.ro (flL 1 2 3 S (fun i=>bI (rB S i))),.ro (ints S.d),.ro (pc S.f),.ro (ints S.s),.ro [.pointer (some ⟨0,0,none⟩)],.ro [.int .i64 a,.int .i64 b],.ro (rx l),.rw [.func (.func 90) #[] #[.pointer (some ⟨4,0,none⟩),.pointer (some ⟨5,0,none⟩),.pointer (some ⟨6,0,none⟩)]],.rw [.int .i64 dst],.rw [.bool false],.rw (rx (fun i=>bI (sn i)))] :=
 Qa hn S a b l dst ⟨ay (iI _),trivial⟩
theorem hc_c13 (S:Shp) (a b:Int) (l:Nat→Int) (dst:Int) (sn:Nat→Bool) (st:Option (List Int)) (q:List Int):eX 13 [.ro (flL 1 2 3 S (fun i=>bI (rB S i))),.ro (ints S.d),.ro (pc S.f),.ro (ints S.s),.ro [.pointer (some ⟨0,0,none⟩)],.ro [.int .i64 a,.int .i64 b],.ro (rx l),.rw [.func (.func 90) #[] #[.pointer (some ⟨4,0,none⟩),.pointer (some ⟨5,0,none⟩),.pointer (some ⟨6,0,none⟩)]],.rw [.int .i64 dst],.rw [.bool false],.rw (rx (fun i=>bI (sn i))),.rw [qV 12 st q],qO st q] :=
 Qa (by omega) S a b l dst ⟨ay (iI _),xP (by omega),FU,trivial⟩
theorem subsD {σ:Heap} {st:Option (List Int)} {q:List Int} {c j d:Nat} (hcell:σ[c]?=some (.rw [qV j st q])) (hg:st.isSome=true→σ[j]?=some (qO st q)):nT σ 14 (je 11 [c,j,d]) 11 [.rw [qV 12 st q],qO st q] :=
 ⟨H7 (n:=14) (i:=11) (k:=c) (π:=je 11 [c,j,d]) (j:=j) (p:=12) rfl hcell (by omega) rfl,H8 (n:=14) (k:=12) (j:=j) rfl hg,trivial⟩
theorem EC {i:Nat} {st:Option (List Int)} {q:List Int}:gB (qV i st q)=[qV i st q]:=by cases st <;> rfl
theorem qV_one {i:Nat} {st:Option (List Int)} {q:List Int}:[qV i st q].all (·.oneCell')=true:=by cases st <;> rfl
theorem Ld {A rest σ:Heap} (h:σ=A++rest):∀ i o,A[i]?=some o→σ[0+i]?=some o:=fun i o hi=>by
 rw [h,Nat.zero_add,List.getElem?_append_left (iP hi)];exact hi
theorem Le (S:Shp) (a b:Int) (l:Nat→Int) (dst:Int) (sn:Nat→Bool) (st:Option (List Int)) (q:List Int) (x:Nat) (L:cu) (hL:fJ 19 L):eX 19 [.ro (flL 1 2 3 S (fun i=>bI (rB S i))),.ro (ints S.d),.ro (pc S.f),.ro (ints S.s),.ro [.pointer (some ⟨0,0,none⟩)],.ro [.int .i64 a,.int .i64 b],.ro (rx l),.rw [.func (.func 90) #[] #[.pointer (some ⟨4,0,none⟩),.pointer (some ⟨5,0,none⟩),.pointer (some ⟨6,0,none⟩)]],.rw [.int .i64 dst],.rw [.bool false],.rw (rx (fun i=>bI (sn i))),.rw [qV 18 st q],.dead,.rw [.int .i64 (x:Int)],.rw [.pointer (some ⟨0,0,none⟩)],.rw [.int .i64 (x:Int)],.dfr,L,qO st q] :=
 Qa (by omega) S a b l dst ⟨ay (iI _),xP (by omega),trivial,ay rfl,⟨rfl,rfl⟩,ay rfl,trivial,hL,FU,trivial⟩
theorem subsC {σ:Heap} {st:Option (List Int)} {q:List Int} {c j:Nat} (hcell:σ[c]?=some (.rw [qV j st q])) (hg:st.isSome=true→σ[j]?=some (qO st q)):nT σ 13 (je 11 [c,j]) 11 [.rw [qV 12 st q],qO st q] :=
 ⟨H7 (n:=13) (i:=11) (k:=c) (π:=je 11 [c,j]) (j:=j) (p:=12) rfl hcell (by omega) rfl,H8 (n:=13) (k:=12) (j:=j) rfl hg,trivial⟩
theorem bT.all1 {n0:Nat} {σ:Heap} {e e2:Env} (σ2:Heap) (m j:Nat) (hm:n0≤m) (hl:σ2.length=m+1) (hj:σ2[j]?=some .dead) (ho:nT σ σ2.length (je m [j]) 0 σ2) (he:yu σ2.length (je m [j]) e e2):bT n0 σ σ2 e e2:=by
 refine .inr fun _=>⟨je m [j],⟨by omega,fun i hi=>aY (by omega),fun i o2 hi=>?_,fun i k oi ok hi hk g1 g2 hij=>?_⟩,sF he⟩
 ·have:=xA ho i o2 hi
  rwa [Nat.zero_add] at this
 ·have h1:=iP hi
  have h2:=iP hk
  have hs:je m [j] m=⟨j,0,0⟩:=by simp [je]
  by_cases hli:i<m <;> by_cases hlk:k<m
  ·rw [aY hli,aY hlk] at hij;exact hij
  ·obtain rfl:k=m:=by omega
   rw [aY hli,hs] at hij
   simp only at hij
   subst hij
   rw [hj] at hi
   obtain rfl:=Option.some.inj hi
   exact g1.elim
  ·obtain rfl:i=m:=by omega
   rw [aY hlk,hs] at hij
   simp only at hij
   subst hij
   rw [hj] at hk
   obtain rfl:=Option.some.inj hk
   exact g2.elim
  ·omega
theorem Qb {σ:Heap} {S:Shp} {a b:Int} {l:Nat→Int} {dst:Int} {sn:Nat→Bool} {st:Option (List Int)} {q:List Int} {j:Nat} {x:Nat} {L:cu}
  (hpre:∀ i o,[.ro (flL 1 2 3 S (fun i=>bI (rB S i))),.ro (ints S.d),.ro (pc S.f),.ro (ints S.s),.ro [.pointer (some ⟨0,0,none⟩)],.ro [.int .i64 a,.int .i64 b],.ro (rx l),.rw [.func (.func 90) #[] #[.pointer (some ⟨4,0,none⟩),.pointer (some ⟨5,0,none⟩),.pointer (some ⟨6,0,none⟩)]],.rw [.int .i64 dst],.rw [.bool false],.rw (rx (fun i=>bI (sn i)))][i]?=some o→σ[0+i]?=some o) (hcell:σ[11]?=some (.rw [qV j st q])) (h13:σ[13]?=some (.rw [.int .i64 (x:Int)])) (h14:σ[14]?=some (.rw [.pointer (some ⟨0,0,none⟩)])) (h15:σ[15]?=some (.rw [.int .i64 (x:Int)])) (h16:σ[16]?=some .dfr) (h17:σ[17]?=some L)
  (hg:st.isSome=true→σ[j]?=some (qO st q)) (hL:fJ 18 L):nT σ 19 (je 18 [j]) 0 [.ro (flL 1 2 3 S (fun i=>bI (rB S i))),.ro (ints S.d),.ro (pc S.f),.ro (ints S.s),.ro [.pointer (some ⟨0,0,none⟩)],.ro [.int .i64 a,.int .i64 b],.ro (rx l),.rw [.func (.func 90) #[] #[.pointer (some ⟨4,0,none⟩),.pointer (some ⟨5,0,none⟩),.pointer (some ⟨6,0,none⟩)]],.rw [.int .i64 dst],.rw [.bool false],.rw (rx (fun i=>bI (sn i))),.rw [qV 18 st q],.dead,.rw [.int .i64 (x:Int)],.rw [.pointer (some ⟨0,0,none⟩)],.rw [.int .i64 (x:Int)],.dfr,L,qO st q]:=by
 refine FV (m:=18) (by omega) [.ro (flL 1 2 3 S (fun i=>bI (rB S i))),.ro (ints S.d),.ro (pc S.f),.ro (ints S.s),.ro [.pointer (some ⟨0,0,none⟩)],.ro [.int .i64 a,.int .i64 b],.ro (rx l),.rw [.func (.func 90) #[] #[.pointer (some ⟨4,0,none⟩),.pointer (some ⟨5,0,none⟩),.pointer (some ⟨6,0,none⟩)]],.rw [.int .i64 dst],.rw [.bool false],.rw (rx (fun i=>bI (sn i)))] 0 _ (by simp) hpre (Lc S a b l dst sn (by omega)) ?_
 show nT σ 19 (je 18 [j]) 11 _
 exact ⟨H7 (n:=19) (i:=11) (k:=11) (π:=je 18 [j]) (j:=j) (p:=18) rfl hcell (by omega) rfl,trivial,eU (n:=19) (m:=18) (i:=13) (by omega) (by omega) h13 (ay rfl),eU (n:=19) (m:=18) (i:=14) (by omega) (by omega) h14 ⟨rfl,rfl⟩,eU (n:=19) (m:=18) (i:=15) (by omega) (by omega) h15 (ay rfl),eU (n:=19) (m:=18) (i:=16) (by omega) (by omega) h16 trivial,eU (n:=19) (m:=18) (i:=17) (by omega) (by omega) h17 hL,H8 (n:=19) (k:=18) (j:=j) rfl hg,trivial⟩
end Go.AH.Dust
namespace Go.Proofs.Ytomioaiojidnbaa
open Go Go.AH
attribute [local irreducible] dO dI dM kK iM gK iC dV iJ dQ iK iE
set_option maxRecDepth 100000
set_option maxHeartbeats 1000000
open Go.AH.Dust
theorem comes_ok (S:Shp) (hS:S.ok) (a b:Int) (l:Nat→Int) (hLv:Lev a b l) (src dst:Int) (hsrc:isW S src) :
  Ev Try.prog 91 [.pointer (some ⟨0,0,none⟩),.func (.func 90) #[] #[.pointer (some ⟨4,0,none⟩),.pointer (some ⟨5,0,none⟩),.pointer (some ⟨6,0,none⟩)],.int .i64 src,.int .i64 dst] [.ro (flL 1 2 3 S (fun i=>bI (rB S i))),.ro (ints S.d),.ro (pc S.f),.ro (ints S.s),.ro [.pointer (some ⟨0,0,none⟩)],.ro [.int .i64 a,.int .i64 b],.ro (rx l)] (.bool (comB S a b l src dst)) [.ro (flL 1 2 3 S (fun i=>bI (rB S i))),.ro (ints S.d),.ro (pc S.f),.ro (ints S.s),.ro [.pointer (some ⟨0,0,none⟩)],.ro [.int .i64 a,.int .i64 b],.ro (rx l)]:=by
 have n10:=hS.n10
 have f60:=hS.f60
 refine aX 7 45 Try.func91 rfl rfl rfl rfl rfl ?_
 repeat' (first|(refine gU ?_;first|(refine kD ?_;refine st (gI rfl) rfl rfl ?_)|(refine eP ?_;refine st (bQ rfl) rfl rfl ?_))|refine aS ?_|refine kY (id:=2) ?_|refine aj ?_|refine ah ?_|refine bg ?_)
 refine ⟨?_⟩
 refine (aj ?_)
 refine st (au rfl) rfl rfl ?_
 refine st (Eu (by rfl) (by rfl) (by rfl) (by rfl) rfl (by rfl)) rfl rfl ?_
 repeat' (first|(refine gU ?_;first|(refine eP ?_;refine st (bQ rfl) rfl rfl ?_)|(refine cO ?_;refine stN (aJ rfl rfl rfl rfl (by rfl)) rfl ?_))|refine aS ?_|refine ah ?_|refine bg ?_|refine aO ?_)
 refine Tail.lW (ι:=List Int×(Nat→Bool)×Option (List Int)) (fun s=>[(0,.pointer (some ⟨0,0,none⟩)),(5,.pointer (some ⟨7,0,none⟩)),(7,.pointer (some ⟨8,0,none⟩)),(8,.pointer (some ⟨9,0,none⟩)),(9,.pointer (some ⟨10,0,none⟩)),(10,.pointer (some ⟨11,0,none⟩))])
  (fun s=>[.ro (flL 1 2 3 S (fun i=>bI (rB S i))),.ro (ints S.d),.ro (pc S.f),.ro (ints S.s),.ro [.pointer (some ⟨0,0,none⟩)],.ro [.int .i64 a,.int .i64 b],.ro (rx l),.rw [.func (.func 90) #[] #[.pointer (some ⟨4,0,none⟩),.pointer (some ⟨5,0,none⟩),.pointer (some ⟨6,0,none⟩)]],.rw [.int .i64 dst],.rw [.bool false],.rw (rx (fun i=>bI (s.2.1 i))),.rw [qV 12 s.2.2 s.1],qO s.2.2 s.1]) (fun s=>2*(10 - uS s.2.1 10)+s.1.length) (fun s=>Bfs S a b l src dst s.1 s.2.1∧qok s.2.2 s.1) ([src],fun _=>false,some []) rfl (by (repeat' (first|exact Tail.kR rfl|refine Tail.jO ?_ ?_|refine Tail.jw ?_|refine Tail.oG rfl ?_))) (fun _=>by simp) (fun s _=>hc_c13 S a b l dst s.2.1 s.2.2 s.1)
  (.of (bT.src [.ro (flL 1 2 3 S (fun i=>bI (rB S i))),.ro (ints S.d),.ro (pc S.f),.ro (ints S.s),.ro [.pointer (some ⟨0,0,none⟩)],.ro [.int .i64 a,.int .i64 b],.ro (rx l),.rw [.func (.func 90) #[] #[.pointer (some ⟨4,0,none⟩),.pointer (some ⟨5,0,none⟩),.pointer (some ⟨6,0,none⟩)]],.rw [.int .i64 dst],.rw [.bool false],.rw (rx (fun _=>0))] [.rw [qV 12 (some []) [src]],.gr (ints ([]++[src])) 3] [12,11] (by simp) rfl (Lc S a b l dst (fun _=>false) (n:=11) (by omega)) rfl rfl (subsC (st:=some []) (q:=[src]) (c:=12) (j:=11) rfl (fun _=>rfl)) (by (repeat' (first|exact trivial|refine ⟨aV (m:=11) rfl (fun i hi=>aY hi) (by simp) (by rfl) rfl,?_⟩|refine ⟨yI rfl (by simp) rfl,?_⟩)))) (by simp)) ⟨Bfs.start hsrc,show []++[src] ≠ [] from by simp⟩ ?_
 rintro ⟨q,sn,sg⟩ ⟨hB,hqk⟩
 simp only at hB hqk ⊢
 cases q with
 |nil =>
  have hv:comB S a b l src dst=false:=by
   unfold comB;exact @decide_eq_false _ (Classical.propDecidable _) (hB.stop hS)
  rw [hv]
  cases sg with
  |none =>
   repeat' (first|(refine gU ?_;first|(refine aU ?_;refine st (ak rfl (by rfl)) rfl rfl ?_)|(refine bG ?_;refine st (aG rfl rfl rfl) rfl rfl ?_)|(refine fK ?_;refine st (bK rfl) rfl rfl ?_)|(refine cO ?_;refine stN (aJ rfl rfl rfl rfl (by rfl)) rfl ?_))|refine aS ?_|refine aj ?_|refine ah ?_|refine bg ?_|refine jd ?_|refine eG rfl ?_|refine dW ?_|refine dX ?_|refine aN rfl ?_)
   exact iF (.cell1 inferInstance rfl rfl .nil) (.plain rfl rfl) ⟨rfl,rfl⟩
  |some junk =>
   repeat' (first|(refine gU ?_;first|(refine aU ?_;refine st (ak rfl (by rfl)) rfl rfl ?_)|(refine bG ?_;refine st (aG rfl rfl rfl) rfl rfl ?_)|(refine fK ?_;refine st (bK rfl) rfl rfl ?_)|(refine cO ?_;refine stN (aJ rfl rfl rfl rfl (by rfl)) rfl ?_))|refine aS ?_|refine aj ?_|refine ah ?_|refine bg ?_|refine jd ?_|refine eG rfl ?_|refine dW ?_|refine dX ?_|refine aN rfl ?_)
   exact iF (.cell1 inferInstance rfl rfl .nil) (.plain rfl rfl) ⟨rfl,rfl⟩
 |cons x0 q =>
  cases sg with
  |none=>cases hqk
  |some junk =>
  have hm0:=hB.pop
  have hql:=hB.len
  simp only [List.length_cons] at hql
  have hcle:=xG sn 10
  obtain ⟨x,rfl⟩:∃ x:Nat,x0=(x:Int):=⟨x0.toNat,by have:=hm0.xk.1.1;omega⟩
  have hxd:x<S.d.length:=by have:=hm0.xk.1.2;omega
  clear hB
  have hpos:((((x:Int)::q).length:Nat):Int) > 0:=by simp only [List.length_cons];omega
  have hc3:cZ [.ro (flL 1 2 3 S (fun i=>bI (rB S i))),.ro (ints S.d),.ro (pc S.f),.ro (ints S.s),.ro [.pointer (some ⟨0,0,none⟩)],.ro [.int .i64 a,.int .i64 b],.ro (rx l),.rw [.func (.func 90) #[] #[.pointer (some ⟨4,0,none⟩),.pointer (some ⟨5,0,none⟩),.pointer (some ⟨6,0,none⟩)]],.rw [.int .i64 dst],.rw [.bool false],.rw (rx (fun i=>bI (sn i))),.rw [qV 12 (some junk) ((x:Int)::q)],qO (some junk) ((x:Int)::q)] 12 (junk.length+0*1)=some (.int .i64 (x:Int)):=by
   show (ints (junk++(x:Int)::q))[junk.length+0*1]?=_
   rw [Nat.zero_mul,Nat.add_zero,gV (by simp)];simp [gi]
  repeat' (first|(refine gU ?_;first|refine st (Ns (k:=0) rfl rfl (Nat.succ_pos _)) rfl rfl ?_|(refine aU ?_;refine st (ak rfl (by first|rfl|exact hc3)) rfl rfl ?_)|(refine bG ?_;refine st (aG rfl rfl rfl) rfl rfl ?_)|(refine fK ?_;refine st (bK rfl) rfl rfl ?_)|(refine eP ?_;refine st (bQ rfl) rfl rfl ?_)|(refine cO ?_;refine stN (aJ rfl rfl rfl rfl (by rfl)) rfl ?_))|refine aS ?_|refine kY (id:=5) ?_|refine aj ?_|refine ah ?_|refine bg ?_|refine aW ?_|refine aO ?_|refine aQ rfl ?_)
  refine ⟨?_⟩
  refine (aj ?_)
  refine st (ak rfl rfl) rfl rfl ?_
  refine QL (FQ (l:=1) rfl rfl (by simp)) rfl rfl ?_
  rintro v σ' ⟨rfl,hv⟩
  obtain ⟨sg,hst1,hst2,hst3⟩:∃ sg,qok sg q∧v=qV 12 sg q∧(sg.isSome=true→cu.gr (ints (junk++(x:Int)::q)) 3=qO sg q):=by
   rcases hv with hv|⟨h1,hv⟩
   ·refine ⟨some (junk++[(x:Int)]),by simp [qok],?_,fun _=>by simp [qO]⟩
    rw [hv];simp [qV]
   ·have hq:q=[]:=by simpa using h1.symm
    exact ⟨none,hq,hv,fun h=>by cases h⟩
  subst hst2
  clear hv hc3
  refine stN (aJ (size:=1) rfl rfl (by rw [EC];rfl) (by rw [EC];exact qV_one) (by rw [EC];rfl)) rfl ?_
  have hnx:=xI (σ:=[.ro (flL 1 2 3 S (fun i=>bI (rB S i))),.ro (ints S.d),.ro (pc S.f),.ro (ints S.s),.ro [.pointer (some ⟨0,0,none⟩)],.ro [.int .i64 a,.int .i64 b],.ro (rx l),.rw [.func (.func 90) #[] #[.pointer (some ⟨4,0,none⟩),.pointer (some ⟨5,0,none⟩),.pointer (some ⟨6,0,none⟩)]],.rw [.int .i64 dst],.rw [.bool false],.rw (rx (fun i=>bI (sn i))),.rw [qV 12 sg q],.gr (ints (junk++(x:Int)::q)) 3,.rw [.int .i64 (x:Int)]]) (S:=S) (r:=fun i=>bI (rB S i)) (n:=(x:Int)) (p:=0) (x:=1) (y:=2) (z:=3) ⟨.inl rfl,.inl rfl,.inl rfl,.inl rfl⟩ rfl
  repeat' (first|(refine gU ?_;first|(refine aP ?_;refine st (au rfl) rfl rfl ?_)|(refine aU ?_;refine st (ak rfl (by rfl)) rfl rfl ?_)|(refine fC ?_;refine st (bC rfl rfl rfl (by exact hnx)) rfl rfl ?_))|refine aS ?_|refine aj ?_|refine ah ?_|refine bg ?_|refine aO ?_)
  refine Gs (by simp) (.same (e2:=[(0,.pointer (some ⟨0,0,none⟩)),(5,.pointer (some ⟨7,0,none⟩)),(7,.pointer (some ⟨8,0,none⟩)),(8,.pointer (some ⟨9,0,none⟩)),(9,.pointer (some ⟨10,0,none⟩)),(10,.pointer (some ⟨11,0,none⟩)),(11,.pointer (some ⟨13,0,none⟩)),(25,.func (.func 87) #[] #[.pointer (some ⟨14,0,none⟩),.pointer (some ⟨15,0,none⟩)])]) ⟨rfl,rfl,rfl,rfl,rfl,rfl,rfl,rfl,trivial⟩) ?_
  refine nK (p:=[]) (q:=[.pointer (some ⟨14,0,none⟩),.pointer (some ⟨15,0,none⟩)]) rfl fun L hL=>?_
  have hLc:∀ n,18≤n→fJ n L:=fun n hn=>by
   rw [hL]
   have hp:∀ i,i<18→Nat.blt i n=true:=fun i hi=>Nat.blt_eq.mpr (by omega)
   exact qo fun p hp=>by
    simp only [List.mem_cons,List.not_mem_nil,or_false] at hp
    rcases hp with rfl|rfl|rfl|rfl|rfl|rfl|rfl|rfl <;> exact ⟨by simp [closed,kU,dR,hp],rfl⟩
  have hLi:dB L=false:=by rw [hL];rfl
  refine aX 18 28 Try.func87 rfl rfl rfl rfl rfl ?_
  repeat' (first|(refine gU ?_;first|(refine aP ?_;refine st (au rfl) rfl rfl ?_)|(refine gFA ?_;refine st (aB rfl) rfl rfl ?_)|(refine aU ?_;refine st (ak rfl (by rfl)) rfl rfl ?_)|(refine fK ?_;refine st (bK rfl) rfl rfl ?_)|(refine gNil ?_;refine st (iR rfl) rfl rfl ?_))|refine aS ?_|refine aj ?_|refine ah ?_|refine bg ?_|refine aO ?_)
  refine iD (ι:=Nat×List Int×(Nat→Bool)×Option (List Int)) (fun s=>[(0,.func (.yield 17) #[] #[]),(1,.pointer (some ⟨14,0,none⟩)),(2,.pointer (some ⟨15,0,none⟩)),(10,sl 2 S.f.length),(11,.int .i64 (S.f.length:Int)),(12,.int .i64 (s.1:Int))])
   (fun s=>[.ro (flL 1 2 3 S (fun i=>bI (rB S i))),.ro (ints S.d),.ro (pc S.f),.ro (ints S.s),.ro [.pointer (some ⟨0,0,none⟩)],.ro [.int .i64 a,.int .i64 b],.ro (rx l),.rw [.func (.func 90) #[] #[.pointer (some ⟨4,0,none⟩),.pointer (some ⟨5,0,none⟩),.pointer (some ⟨6,0,none⟩)]],.rw [.int .i64 dst],.rw [.bool false],.rw (rx (fun i=>bI (s.2.2.1 i))),.rw [qV 18 s.2.2.2 s.2.1],.dead,.rw [.int .i64 (x:Int)],.rw [.pointer (some ⟨0,0,none⟩)],.rw [.int .i64 (x:Int)],.dfr,L,qO s.2.2.2 s.2.1]) (fun s=>S.f.length - s.1) (fun s=>s.1≤S.f.length∧Mid S a b l src dst x (2*(10 - uS sn 10)+q.length) s.1 s.2.1 s.2.2.1∧qok s.2.2.2 s.2.1) (0,q,sn,sg) (by simp)
   (bT.all1 _ 18 12 (by simp) rfl rfl (Qb (j:=12) (Ld rfl) rfl rfl rfl rfl rfl rfl (fun h=>by rw [← hst3 h];rfl) (hLc 18 (Nat.le_refl _))) (by (repeat' (first|exact trivial|refine ⟨bD rfl rfl,?_⟩|refine ⟨aV (m:=18) rfl (fun i hi=>aY hi) (by simp) (by first|rfl|exact bM rfl) rfl,?_⟩)))) ⟨Nat.zero_le _,hm0,hst1⟩ ?_
  clear hnx hm0 hst1 hst3 hqk hpos
  rintro ⟨k,q,sn,sg⟩ ⟨hk,hm,hqk⟩
  simp only at hk hm hqk ⊢
  have hQi:dB (qO sg q)=false:=by cases sg <;> rfl
  by_cases hkl:k<S.f.length
  ·have hd2:∀ σ':Heap,dh (.ro (flL 1 2 3 S (fun i=>bI (rB S i)))::.ro (ints S.d)::.ro (pc S.f)::σ') 2 (0+k*2) 2=some [.int .i64 (gf S.f k).1,.int .i64 (gf S.f k).2]:=fun σ'=>lX (.inl rfl) hkl
   obtain ⟨hw1,hw2,-⟩:=hS.f k hkl
   have hsk:=hm.skip (k:=k)
   have hseen:=hm.seen (k:=k)
   have hhit:=hm.hit hkl
   have hpush:=hm.push hS hkl
   have hql2:q.length≤10:=Nat.le_trans hm.len (xG sn 10)
   clear hm
   generalize gf S.f k=p at *
   obtain ⟨z,y0⟩:=p
   simp only at hw1 hw2 hd2 hsk hseen hhit hpush
   obtain ⟨y,rfl⟩:∃ y:Nat,y0=(y:Int):=⟨y0.toNat,by have:=hw2.1;omega⟩
   have hyd:y<S.d.length:=by have:=hw2.2;omega
   simp only [Int.toNat_natCast] at hsk hseen hhit hpush
   by_cases hz:z=(x:Int)
   ·have hti:∀ σ':Heap,σ'.all (fun o=>!dB o)=true→Ev Try.prog 90 [.int .i64 (x:Int),.int .i64 (y:Int),.pointer (some ⟨4,0,none⟩),.pointer (some ⟨5,0,none⟩),.pointer (some ⟨6,0,none⟩)] (cu.ro (flL 1 2 3 S (fun i=>bI (rB S i)))::.ro (ints S.d)::.ro (pc S.f)::.ro (ints S.s)::.ro [.pointer (some ⟨0,0,none⟩)]::.ro [.int .i64 a,.int .i64 b]::.ro (rx l)::σ') (.bool (rF S a b l x y)) (cu.ro (flL 1 2 3 S (fun i=>bI (rB S i)))::.ro (ints S.d)::.ro (pc S.f)::.ro (ints S.s)::.ro [.pointer (some ⟨0,0,none⟩)]::.ro [.int .i64 a,.int .i64 b]::.ro (rx l)::σ'):=fun σ' hs=>JG (p:=0) (x:=1) (y:=2) (z:=3) ⟨⟨.inl rfl,.inl rfl,.inl rfl,.inl rfl⟩,.inl rfl,.inl rfl,.inl rfl⟩ hS hLv hxd hyd hs
    generalize rF S a b l x y=T at *
    cases T with
    |false =>
     have hm:=hsk (fun h=>by cases h.2)
     clear hsk hseen hhit hpush
     repeat' (first|(refine gU ?_;(refine bG ?_;refine st (aG rfl rfl rfl) rfl rfl ?_))|refine aS ?_|refine kY (id:=2) ?_|refine aj ?_|refine ah ?_|refine bg ?_|refine aW ?_|refine aO ?_|refine aQ rfl ?_)
     refine ⟨?_⟩
     refine (aj ?_)
     repeat' (first|(refine gU ?_;first|(refine aP ?_;refine st (au rfl) rfl rfl ?_)|(refine aU ?_;first|refine st (ak rfl (by rfl)) rfl rfl ?_|refine st (aZ rfl (by exact hd2 _)) rfl rfl ?_)|(refine bG ?_;refine st (aG rfl rfl rfl) rfl rfl ?_)|(refine gIA ?_;first|refine st (bZ rfl rfl (by omega)) rfl rfl ?_|refine st (bV rfl rfl (by omega) (by omega)) rfl rfl ?_)|(refine eP ?_;refine st (bQ rfl) rfl rfl ?_)|(refine cO ?_;refine stN (aJ rfl rfl rfl rfl (by rfl)) rfl ?_))|(refine gG ?_;first|(refine aP ?_;refine bP rfl (au rfl) rfl rfl ?_)|(refine aU ?_;refine bP rfl (ak rfl (by rfl)) rfl rfl ?_)|(refine gIA ?_;refine bP rfl (bV rfl rfl (by omega) (by omega)) rfl rfl ?_))|refine aS ?_|refine aj ?_|refine ah ?_|refine bg ?_)
     refine iT (l:=17) rfl rfl (by rw [hL];rfl) rfl rfl rfl (fun _ _ _ _ he=>ig (b:=true) (by rw [fM (b:=decide (z=(x:Int))) rfl,decide_eq_true hz];rfl) he) ?_
     repeat' (first|(refine gU ?_;(refine aI ?_;refine st (aA rfl) rfl rfl ?_))|refine aj ?_|refine ah ?_)
     refine jB (by rw [hL];rfl) ?_
     repeat' (first|(refine gU ?_;first|(refine aP ?_;refine st (au rfl) rfl rfl ?_)|(refine aU ?_;refine st (ak rfl (by rfl)) rfl rfl ?_)|(refine kX ?_;refine st (gX rfl) rfl rfl ?_)|(refine fC ?_;refine st (bC rfl rfl rfl (by exact hti _ (by simp [dB];exact hQi))) rfl rfl ?_))|refine aS ?_|refine aj ?_|refine ah ?_|refine bg ?_|refine jd ?_|refine eG rfl ?_|refine dW ?_|refine aO ?_|refine aQ rfl ?_)
     refine jC rfl rfl ?_
     repeat' (first|(refine gU ?_;first|(refine aP ?_;refine st (au rfl) rfl rfl ?_)|(refine iw ?_;refine st (dF rfl rfl (by omega)) rfl rfl ?_)|(refine eY ?_;refine st (bH rfl rfl) rfl rfl ?_))|(refine gG ?_;(refine kX ?_;refine bP rfl (gX rfl) rfl rfl ?_))|refine aj ?_|refine ah ?_|refine bg ?_|refine fH ?_|refine aW ?_|refine aN rfl ?_)
     refine ⟨rfl,(k+1,q,sn,sg),⟨by simp only;omega,hm,hqk⟩,by simp only;omega,?_⟩
     rw [hL]
     exact bT.drop [.ro (flL 1 2 3 S (fun i=>bI (rB S i))),.ro (ints S.d),.ro (pc S.f),.ro (ints S.s),.ro [.pointer (some ⟨0,0,none⟩)],.ro [.int .i64 a,.int .i64 b],.ro (rx l),.rw [.func (.func 90) #[] #[.pointer (some ⟨4,0,none⟩),.pointer (some ⟨5,0,none⟩),.pointer (some ⟨6,0,none⟩)]],.rw [.int .i64 dst],.rw [.bool false],.rw (rx (fun i=>bI (sn i))),.rw [qV 18 sg q],.dead,.rw [.int .i64 (x:Int)],.rw [.pointer (some ⟨0,0,none⟩)],.rw [.int .i64 (x:Int)],.dfr,_,qO sg q] [_] (by simp) (Le S a b l dst sn sg q x _ (by have:=hLc 19 (by omega);rw [hL] at this;exact this)) (by (repeat' (first|exact trivial|exact ⟨rfl,rfl,rfl⟩|exact ⟨rfl,bM rfl,rfl⟩|refine ⟨?_,?_⟩)))
    |true =>
     clear hsk
     by_cases hyd2:(y:Int)=dst
     ·have hv:comB S a b l src dst=true:=by
       unfold comB;rw [← hyd2];exact @decide_eq_true _ (Classical.propDecidable _) (hhit hz rfl)
      clear hseen hhit hpush
      repeat' (first|(refine gU ?_;(refine bG ?_;refine st (aG rfl rfl rfl) rfl rfl ?_))|refine aS ?_|refine kY (id:=2) ?_|refine aj ?_|refine ah ?_|refine bg ?_|refine aW ?_|refine aO ?_|refine aQ rfl ?_)
      refine ⟨?_⟩
      refine (aj ?_)
      repeat' (first|(refine gU ?_;first|(refine aP ?_;refine st (au rfl) rfl rfl ?_)|(refine aU ?_;first|refine st (ak rfl (by rfl)) rfl rfl ?_|refine st (aZ rfl (by exact hd2 _)) rfl rfl ?_)|(refine bG ?_;refine st (aG rfl rfl rfl) rfl rfl ?_)|(refine gIA ?_;first|refine st (bZ rfl rfl (by omega)) rfl rfl ?_|refine st (bV rfl rfl (by omega) (by omega)) rfl rfl ?_)|(refine eP ?_;refine st (bQ rfl) rfl rfl ?_)|(refine cO ?_;refine stN (aJ rfl rfl rfl rfl (by rfl)) rfl ?_))|(refine gG ?_;first|(refine aP ?_;refine bP rfl (au rfl) rfl rfl ?_)|(refine aU ?_;refine bP rfl (ak rfl (by rfl)) rfl rfl ?_)|(refine gIA ?_;refine bP rfl (bV rfl rfl (by omega) (by omega)) rfl rfl ?_))|refine aS ?_|refine aj ?_|refine ah ?_|refine bg ?_)
      refine iT (l:=17) rfl rfl (by rw [hL];rfl) rfl rfl rfl (fun _ _ _ _ he=>ig (b:=true) (by rw [fM (b:=decide (z=(x:Int))) rfl,decide_eq_true hz];rfl) he) ?_
      repeat' (first|(refine gU ?_;(refine aI ?_;refine st (aA rfl) rfl rfl ?_))|refine aj ?_|refine ah ?_)
      refine jB (by rw [hL];rfl) ?_
      repeat' (first|(refine gU ?_;first|(refine aP ?_;refine st (au rfl) rfl rfl ?_)|(refine aU ?_;refine st (ak rfl (by rfl)) rfl rfl ?_)|(refine bG ?_;refine st (aG rfl rfl rfl) rfl rfl ?_)|(refine kX ?_;refine st (gX rfl) rfl rfl ?_)|(refine fC ?_;refine st (bC rfl rfl rfl (by exact hti _ (by simp [dB];exact hQi))) rfl rfl ?_)|(refine cO ?_;refine stN (aJ rfl rfl rfl rfl (by rfl)) rfl ?_))|refine aS ?_|refine aj ?_|refine ah ?_|refine bg ?_|refine kL ?_|refine nH ?_|refine aW ?_|refine dX ?_|refine aO ?_|refine aQ rfl ?_|refine aN rfl ?_)
      refine roundB_r rfl rfl ?_
      repeat' (first|(refine gU ?_;(refine eY ?_;refine st (bH rfl rfl) rfl rfl ?_))|(refine gG ?_;(refine kX ?_;refine bP rfl (gX rfl) rfl rfl ?_))|refine ah ?_|refine bg ?_|refine kL ?_|refine nH ?_|refine dX ?_|refine aQ rfl ?_)
      refine iF .nil .all ⟨_,_,_,_,_,_,_,by rw [hL];rfl,by simp,?_⟩
      dsimp only
      repeat' (first|refine kL ?_|refine nH ?_|refine dX ?_)
      rw [hv]
      exact TK rfl (.cell1 inferInstance rfl rfl .nil) (.plain rfl rfl) ⟨rfl,rfl⟩
     ·have hcs:∀ σ':Heap,cZ (cu.ro (flL 1 2 3 S (fun i=>bI (rB S i)))::.ro (ints S.d)::.ro (pc S.f)::.ro (ints S.s)::.ro [.pointer (some ⟨0,0,none⟩)]::.ro [.int .i64 a,.int .i64 b]::.ro (rx l)::.rw [.func (.func 90) #[] #[.pointer (some ⟨4,0,none⟩),.pointer (some ⟨5,0,none⟩),.pointer (some ⟨6,0,none⟩)]]::.rw [.int .i64 dst]::.rw [.bool false]::.rw (rx (fun i=>bI (sn i)))::σ') 10 (0+y*1)=some (.int .i64 (bI (sn y))):=fun σ'=>by
       rw [Nat.zero_add,Nat.mul_one];exact qP (f:=fun i=>bI (sn i)) (by omega)
      cases hsy:sn y with
      |true =>
       have hm:=hseen hyd2 hsy
       rw [hsy] at hcs
       clear hseen hhit hpush
       repeat' (first|(refine gU ?_;(refine bG ?_;refine st (aG rfl rfl rfl) rfl rfl ?_))|refine aS ?_|refine kY (id:=2) ?_|refine aj ?_|refine ah ?_|refine bg ?_|refine aW ?_|refine aO ?_|refine aQ rfl ?_)
       refine ⟨?_⟩
       refine (aj ?_)
       repeat' (first|(refine gU ?_;first|(refine aP ?_;refine st (au rfl) rfl rfl ?_)|(refine aU ?_;first|refine st (ak rfl (by rfl)) rfl rfl ?_|refine st (aZ rfl (by exact hd2 _)) rfl rfl ?_)|(refine bG ?_;refine st (aG rfl rfl rfl) rfl rfl ?_)|(refine gIA ?_;first|refine st (bZ rfl rfl (by omega)) rfl rfl ?_|refine st (bV rfl rfl (by omega) (by omega)) rfl rfl ?_)|(refine eP ?_;refine st (bQ rfl) rfl rfl ?_)|(refine cO ?_;refine stN (aJ rfl rfl rfl rfl (by rfl)) rfl ?_))|(refine gG ?_;first|(refine aP ?_;refine bP rfl (au rfl) rfl rfl ?_)|(refine aU ?_;refine bP rfl (ak rfl (by rfl)) rfl rfl ?_)|(refine gIA ?_;refine bP rfl (bV rfl rfl (by omega) (by omega)) rfl rfl ?_))|refine aS ?_|refine aj ?_|refine ah ?_|refine bg ?_)
       refine iT (l:=17) rfl rfl (by rw [hL];rfl) rfl rfl rfl (fun _ _ _ _ he=>ig (b:=true) (by rw [fM (b:=decide (z=(x:Int))) rfl,decide_eq_true hz];rfl) he) ?_
       repeat' (first|(refine gU ?_;(refine aI ?_;refine st (aA rfl) rfl rfl ?_))|refine aj ?_|refine ah ?_)
       refine jB (by rw [hL];rfl) ?_
       repeat' (first|(refine gU ?_;first|(refine aP ?_;refine st (au rfl) rfl rfl ?_)|(refine aU ?_;refine st (ak rfl (by first|rfl|exact hcs _)) rfl rfl ?_)|(refine bG ?_;refine st (aG rfl rfl rfl) rfl rfl ?_)|(refine kX ?_;refine st (gX rfl) rfl rfl ?_)|(refine gIA ?_;refine st (gQ rfl rfl (by omega)) rfl rfl ?_)|(refine fC ?_;refine st (bC rfl rfl rfl (by exact hti _ (by simp [dB];exact hQi))) rfl rfl ?_))|refine aS ?_|refine aj ?_|refine ah ?_|refine bg ?_|refine fH ?_|refine aW ?_|refine aO ?_|refine aN rfl ?_)
       refine jC rfl rfl ?_
       repeat' (first|(refine gU ?_;first|(refine aP ?_;refine st (au rfl) rfl rfl ?_)|(refine iw ?_;refine st (dF rfl rfl (by omega)) rfl rfl ?_)|(refine eY ?_;refine st (bH rfl rfl) rfl rfl ?_))|(refine gG ?_;(refine kX ?_;refine bP rfl (gX rfl) rfl rfl ?_))|refine aj ?_|refine ah ?_|refine bg ?_|refine fH ?_|refine aW ?_|refine aN rfl ?_)
       refine ⟨rfl,(k+1,q,sn,sg),⟨by simp only;omega,hm,hqk⟩,by simp only;omega,?_⟩
       rw [hL]
       exact bT.drop [.ro (flL 1 2 3 S (fun i=>bI (rB S i))),.ro (ints S.d),.ro (pc S.f),.ro (ints S.s),.ro [.pointer (some ⟨0,0,none⟩)],.ro [.int .i64 a,.int .i64 b],.ro (rx l),.rw [.func (.func 90) #[] #[.pointer (some ⟨4,0,none⟩),.pointer (some ⟨5,0,none⟩),.pointer (some ⟨6,0,none⟩)]],.rw [.int .i64 dst],.rw [.bool false],.rw (rx (fun i=>bI (sn i))),.rw [qV 18 sg q],.dead,.rw [.int .i64 (x:Int)],.rw [.pointer (some ⟨0,0,none⟩)],.rw [.int .i64 (x:Int)],.dfr,_,qO sg q] [_] (by simp) (Le S a b l dst sn sg q x _ (by have:=hLc 19 (by omega);rw [hL] at this;exact this)) (by (repeat' (first|exact trivial|exact ⟨rfl,rfl,rfl⟩|exact ⟨rfl,bM rfl,rfl⟩|refine ⟨?_,?_⟩)))
      |false =>
       have hm:=hpush hz rfl hyd2 hsy
       rw [hsy] at hcs
       have hput:∀ σ':Heap,putCells (cu.ro (flL 1 2 3 S (fun i=>bI (rB S i)))::.ro (ints S.d)::.ro (pc S.f)::.ro (ints S.s)::.ro [.pointer (some ⟨0,0,none⟩)]::.ro [.int .i64 a,.int .i64 b]::.ro (rx l)::.rw [.func (.func 90) #[] #[.pointer (some ⟨4,0,none⟩),.pointer (some ⟨5,0,none⟩),.pointer (some ⟨6,0,none⟩)]]::.rw [.int .i64 dst]::.rw [.bool false]::.rw (rx (fun i=>bI (sn i)))::σ') 10 (0+y*1) [.int .i64 1]=some (cu.ro (flL 1 2 3 S (fun i=>bI (rB S i)))::.ro (ints S.d)::.ro (pc S.f)::.ro (ints S.s)::.ro [.pointer (some ⟨0,0,none⟩)]::.ro [.int .i64 a,.int .i64 b]::.ro (rx l)::.rw [.func (.func 90) #[] #[.pointer (some ⟨4,0,none⟩),.pointer (some ⟨5,0,none⟩),.pointer (some ⟨6,0,none⟩)]]::.rw [.int .i64 dst]::.rw [.bool false]::.rw (rx (fun i=>bI (setB sn y true i)))::σ'):=fun σ'=>by
        have:=sO (σ:=cu.ro (flL 1 2 3 S (fun i=>bI (rB S i)))::.ro (ints S.d)::.ro (pc S.f)::.ro (ints S.s)::.ro [.pointer (some ⟨0,0,none⟩)]::.ro [.int .i64 a,.int .i64 b]::.ro (rx l)::.rw [.func (.func 90) #[] #[.pointer (some ⟨4,0,none⟩),.pointer (some ⟨5,0,none⟩),.pointer (some ⟨6,0,none⟩)]]::.rw [.int .i64 dst]::.rw [.bool false]::.rw (rx (fun i=>bI (sn i)))::σ') (b:=10) (o:=0+y*1) (vs:=[.int .i64 1]) (cs':=rx (fun i=>bI (setB sn y true i))) rfl (by simp [rx];omega) (by simp [rx]) (by rw [Nat.zero_add,Nat.mul_one,← He];exact Ap (by omega))
        exact this
       clear hseen hhit hpush
       repeat' (first|(refine gU ?_;(refine bG ?_;refine st (aG rfl rfl rfl) rfl rfl ?_))|refine aS ?_|refine kY (id:=2) ?_|refine aj ?_|refine ah ?_|refine bg ?_|refine aW ?_|refine aO ?_|refine aQ rfl ?_)
       refine ⟨?_⟩
       refine (aj ?_)
       repeat' (first|(refine gU ?_;first|(refine aP ?_;refine st (au rfl) rfl rfl ?_)|(refine aU ?_;first|refine st (ak rfl (by rfl)) rfl rfl ?_|refine st (aZ rfl (by exact hd2 _)) rfl rfl ?_)|(refine bG ?_;refine st (aG rfl rfl rfl) rfl rfl ?_)|(refine gIA ?_;first|refine st (bZ rfl rfl (by omega)) rfl rfl ?_|refine st (bV rfl rfl (by omega) (by omega)) rfl rfl ?_)|(refine eP ?_;refine st (bQ rfl) rfl rfl ?_)|(refine cO ?_;refine stN (aJ rfl rfl rfl rfl (by rfl)) rfl ?_))|(refine gG ?_;first|(refine aP ?_;refine bP rfl (au rfl) rfl rfl ?_)|(refine aU ?_;refine bP rfl (ak rfl (by rfl)) rfl rfl ?_)|(refine gIA ?_;refine bP rfl (bV rfl rfl (by omega) (by omega)) rfl rfl ?_))|refine aS ?_|refine aj ?_|refine ah ?_|refine bg ?_)
       refine iT (l:=17) rfl rfl (by rw [hL];rfl) rfl rfl rfl (fun _ _ _ _ he=>ig (b:=true) (by rw [fM (b:=decide (z=(x:Int))) rfl,decide_eq_true hz];rfl) he) ?_
       repeat' (first|(refine gU ?_;(refine aI ?_;refine st (aA rfl) rfl rfl ?_))|refine aj ?_|refine ah ?_)
       refine jB (by rw [hL];rfl) ?_
       repeat' (first|(refine gU ?_;first|(refine aP ?_;refine st (au rfl) rfl rfl ?_)|(refine aU ?_;refine st (ak rfl (by first|rfl|exact hcs _)) rfl rfl ?_)|(refine bG ?_;refine st (aG rfl rfl rfl) rfl rfl ?_)|(refine kX ?_;refine st (gX rfl) rfl rfl ?_)|(refine gIA ?_;refine st (gQ rfl rfl (by omega)) rfl rfl ?_)|(refine fC ?_;refine st (bC rfl rfl rfl (by exact hti _ (by simp [dB];exact hQi))) rfl rfl ?_)|(refine cO ?_;refine stN (aJ rfl rfl rfl rfl (by exact hput _)) rfl ?_))|refine aS ?_|refine kY (id:=13) ?_|refine aj ?_|refine ah ?_|refine bg ?_|refine aW ?_|refine aO ?_|refine aQ rfl ?_|refine aN rfl ?_)
       refine ⟨?_⟩
       refine (aj ?_)
       cases sg with
       |none =>
        obtain rfl:q=[]:=hqk
        repeat' (first|(refine gU ?_;first|(refine aP ?_;refine st (au rfl) rfl rfl ?_)|(refine aU ?_;refine st (ak rfl (by rfl)) rfl rfl ?_)|(refine nI ?_;refine st (kM (by rfl) (by rfl) (by rfl) (by rfl) rfl (by rfl)) rfl rfl ?_)|(refine EJ ?_;refine st (bW (by rfl) rfl rfl (by rfl) (by omega) (by omega) (by omega)) rfl rfl ?_)|(refine cO ?_;refine stN (aJ rfl rfl rfl rfl (by rfl)) rfl ?_))|refine ah ?_|refine fH ?_)
        refine jC rfl rfl ?_
        repeat' (first|(refine gU ?_;first|(refine aP ?_;refine st (au rfl) rfl rfl ?_)|(refine iw ?_;refine st (dF rfl rfl (by omega)) rfl rfl ?_)|(refine eY ?_;refine st (bH rfl rfl) rfl rfl ?_))|(refine gG ?_;(refine kX ?_;refine bP rfl (gX rfl) rfl rfl ?_))|refine aj ?_|refine ah ?_|refine bg ?_|refine fH ?_|refine aW ?_|refine aN rfl ?_)
        refine ⟨rfl,(k+1,[(y:Int)],setB sn y true,some []),⟨by simp only;omega,hm,by simp [qok]⟩,by simp only;omega,?_⟩
        rw [hL]
        exact bT.all _ 18 [21] (by simp) rfl rfl (Qb (j:=21) (Ld rfl) rfl rfl rfl rfl rfl rfl (fun _=>rfl) (by have:=hLc 18 (by omega);rw [hL] at this;exact this)) (by (repeat' (first|exact trivial|refine ⟨bD rfl rfl,?_⟩|refine ⟨aV (m:=18) rfl (fun i hi=>aY hi) (by simp) (by first|rfl|exact bM rfl) rfl,?_⟩)))
       |some ju =>
        repeat' ((refine gU ?_;first|(refine aP ?_;refine st (au rfl) rfl rfl ?_)|(refine aU ?_;refine st (ak rfl (by rfl)) rfl rfl ?_)|(refine nI ?_;refine st (kM (by rfl) (by rfl) (by rfl) (by rfl) rfl (by rfl)) rfl rfl ?_)))
        have hju:ju++q ≠ []:=hqk
        refine QL (Et (el:=3) (size:=1) (i:=18) (o:=ju.length) (n:=q.length) (cs:=ints (ju++q)) (news:=[.int .i64 (y:Int)]) (by rfl) rfl rfl rfl (by simp [ints]) (by simpa [ints] using hju) rfl rfl (by omega) rfl (by omega) (by decide)) rfl rfl ?_
        rintro v σ' ⟨o',cs',h1,h2,h3,hv,rfl⟩
        obtain ⟨sg2,hs1,rfl⟩:∃ sg2,v=qV 21 (some sg2) (q++[(y:Int)])∧cs'=ints (sg2++(q++[(y:Int)])):=by
         rcases h3 with ⟨rfl,h3⟩|⟨rfl,h3⟩
         ·exact ⟨ju,hv.trans (show slq 21 ju.length 1 (q.length+1)=_ from by simp [qV]),by rw [h3];simp [ints]⟩
         ·exact ⟨[],hv.trans (show slq 21 0 1 (q.length+1)=_ from by simp [qV]),by rw [h3];simp [ints]⟩
        subst hs1
        clear hv h1 h2 h3
        repeat' (first|(refine gU ?_;(refine cO ?_;refine stN (aJ rfl rfl rfl rfl (by rfl)) rfl ?_))|refine ah ?_|refine fH ?_)
        refine jC rfl rfl ?_
        repeat' (first|(refine gU ?_;first|(refine aP ?_;refine st (au rfl) rfl rfl ?_)|(refine iw ?_;refine st (dF rfl rfl (by omega)) rfl rfl ?_)|(refine eY ?_;refine st (bH rfl rfl) rfl rfl ?_))|(refine gG ?_;(refine kX ?_;refine bP rfl (gX rfl) rfl rfl ?_))|refine aj ?_|refine ah ?_|refine bg ?_|refine fH ?_|refine aW ?_|refine aN rfl ?_)
        refine ⟨rfl,(k+1,q++[(y:Int)],setB sn y true,some sg2),⟨by simp only;omega,hm,by simp [qok]⟩,by simp only;omega,?_⟩
        rw [hL]
        exact bT.all _ 18 [21] (by simp) rfl rfl (Qb (j:=21) (Ld rfl) rfl rfl rfl rfl rfl rfl (fun _=>rfl) (by have:=hLc 18 (by omega);rw [hL] at this;exact this)) (by (repeat' (first|exact trivial|refine ⟨bD rfl rfl,?_⟩|refine ⟨aV (m:=18) rfl (fun i hi=>aY hi) (by simp) (by first|rfl|exact bM rfl) rfl,?_⟩)))
   ·have hm:=hsk (fun h=>hz h.1)
    clear hsk hseen hhit hpush
    repeat' (first|(refine gU ?_;(refine bG ?_;refine st (aG rfl rfl rfl) rfl rfl ?_))|refine aS ?_|refine kY (id:=2) ?_|refine aj ?_|refine ah ?_|refine bg ?_|refine aW ?_|refine aO ?_|refine aQ rfl ?_)
    refine ⟨?_⟩
    refine (aj ?_)
    repeat' (first|(refine gU ?_;first|(refine aP ?_;refine st (au rfl) rfl rfl ?_)|(refine aU ?_;first|refine st (ak rfl (by rfl)) rfl rfl ?_|refine st (aZ rfl (by exact hd2 _)) rfl rfl ?_)|(refine iw ?_;refine st (dF rfl rfl (by omega)) rfl rfl ?_)|(refine bG ?_;refine st (aG rfl rfl rfl) rfl rfl ?_)|(refine eY ?_;refine st (bY rfl rfl) rfl rfl ?_)|(refine gIA ?_;first|refine st (bZ rfl rfl (by omega)) rfl rfl ?_|refine st (bV rfl rfl (by omega) (by omega)) rfl rfl ?_)|(refine eP ?_;refine st (bQ rfl) rfl rfl ?_)|(refine cO ?_;refine stN (aJ rfl rfl rfl rfl (by rfl)) rfl ?_))|(refine gG ?_;refine nU rfl rfl ?_)|refine aS ?_|refine aj ?_|refine ah ?_|refine bg ?_|refine fH ?_|refine aW ?_|refine aN rfl ?_)
    exact ⟨rfl,(k+1,q,sn,sg),⟨by simp only;omega,hm,hqk⟩,by simp only;omega,bT.drop [.ro (flL 1 2 3 S (fun i=>bI (rB S i))),.ro (ints S.d),.ro (pc S.f),.ro (ints S.s),.ro [.pointer (some ⟨0,0,none⟩)],.ro [.int .i64 a,.int .i64 b],.ro (rx l),.rw [.func (.func 90) #[] #[.pointer (some ⟨4,0,none⟩),.pointer (some ⟨5,0,none⟩),.pointer (some ⟨6,0,none⟩)]],.rw [.int .i64 dst],.rw [.bool false],.rw (rx (fun i=>bI (sn i))),.rw [qV 18 sg q],.dead,.rw [.int .i64 (x:Int)],.rw [.pointer (some ⟨0,0,none⟩)],.rw [.int .i64 (x:Int)],.dfr,L,qO sg q] [_] (by simp) (Le S a b l dst sn sg q x L (hLc 19 (by omega))) (by (repeat' (first|exact trivial|exact ⟨rfl,rfl,rfl⟩|exact ⟨rfl,bM rfl,rfl⟩|refine ⟨?_,?_⟩)))⟩
  ·obtain rfl:k=S.f.length:=by omega
   have hB:=hm.fin
   have hcle:=xG sn 10
   have hmm:=hm.m
   repeat' (first|(refine gU ?_;(refine bG ?_;refine st (aG rfl rfl rfl) rfl rfl ?_))|refine aS ?_|refine aj ?_|refine ah ?_|refine bg ?_|refine jd ?_|refine eG rfl ?_|refine dW ?_|refine aN rfl ?_)
   refine IB .nil .all ⟨_,_,_,_,_,_,_,by rw [hL];rfl,by simp,?_⟩
   dsimp only
   repeat' (first|refine bg ?_|refine fH ?_)
   exact ⟨(q,sn,sg),⟨⟨hB,hqk⟩,by simp only [List.length_cons];omega⟩,Tail.mZ.src [.ro (flL 1 2 3 S (fun i=>bI (rB S i))),.ro (ints S.d),.ro (pc S.f),.ro (ints S.s),.ro [.pointer (some ⟨0,0,none⟩)],.ro [.int .i64 a,.int .i64 b],.ro (rx l),.rw [.func (.func 90) #[] #[.pointer (some ⟨4,0,none⟩),.pointer (some ⟨5,0,none⟩),.pointer (some ⟨6,0,none⟩)]],.rw [.int .i64 dst],.rw [.bool false],.rw (rx (fun i=>bI (sn i)))] [.rw [qV 12 sg q],qO sg q] [11,18] 16 (by simp) rfl (Lc S a b l dst sn (by simp)) rfl rfl rfl (subsD (c:=11) (j:=18) (d:=16) rfl (fun _=>rfl)) (by (repeat' (first|exact trivial|refine ⟨aV (m:=11) rfl (fun i hi=>aY hi) (by simp) (by rfl) rfl,?_⟩|refine ⟨yI rfl (by simp) rfl,?_⟩)))⟩
end Go.Proofs.Ytomioaiojidnbaa
namespace Go.AH.Dust
open Go Go.AH
open Classical in
noncomputable def onC (S:Shp) (a b:Int) (l:Nat→Int) (way:List Int) (at_ on:Int) (p:Int×Int):Bool :=
 decide (p.1=at_) && (rF S a b l at_.toNat p.2.toNat && ((decide (on<0) || decide (p.2 ∈ way)) && comB S a b l p.2 p.2))
noncomputable def onS (S:Shp) (a b:Int) (l:Nat→Int) (way:List Int) (at_:Int):Nat→Int
 |0=>-1
 |k+1=>if onC S a b l way at_ (onS S a b l way at_ k) (gf S.f k)=true then (gf S.f k).2 else onS S a b l way at_ k
theorem JK {S:Shp} (hS:S.ok) {a b:Int} {l:Nat→Int} {way:List Int} {at_:Int}:∀ {k:Nat},k≤S.f.length→onS S a b l way at_ k=-1∨isW S (onS S a b l way at_ k)
 |0,_=>.inl rfl
 |k+1,h=>by
  unfold onS
  split
  ·exact .inr (hS.f k (by omega)).2.1
  ·exact JK hS (by omega)
noncomputable def mG (S:Shp) (a b:Int) (l:Nat→Int) (way:List Int):Option (List Int×Nat) :=
 if _h:way.length≤S.d.length then
  if onS S a b l way (gi way (way.length - 1)) S.f.length<0 then none
  else if 0≤ixP (fun i=>decide (gi way i=onS S a b l way (gi way (way.length - 1)) S.f.length)) way.length then
   some (way,(ixP (fun i=>decide (gi way i=onS S a b l way (gi way (way.length - 1)) S.f.length)) way.length).toNat)
  else mG S a b l (way++[onS S a b l way (gi way (way.length - 1)) S.f.length])
 else none
termination_by S.d.length+1 - way.length
decreasing_by simp only [List.length_append,List.length_singleton];omega
noncomputable def qA (S:Shp) (a b:Int) (l:Nat→Int) (k:Nat):Option (List Int×Nat) :=
 if _h:k<S.d.length then
  match mG S a b l [(k:Int)] with
  |some o=>some o
  |none=>qA S a b l (k+1)
 else none
termination_by S.d.length - k
def rV (n:Nat):Option (List Int×Nat)→Value
 |none=>.slice none 0 0
 |some (w,i)=>.slice (some ⟨n,i,none⟩) (w.length - i) (w.length - i)
def rO:Option (List Int×Nat)→Heap
 |none=>[]
 |some (w,_)=>[.rw (ints w)]
theorem Qc {q:Nat→Bool} {n:Nat} (h:0≤ixP q n):ixP q n<n:=by
 unfold ixP at *
 split at h
 ·rename_i i hi
  have:=List.mem_of_find?_eq_some hi
  rw [List.mem_range] at this
  omega
 ·omega
theorem Qd {x k:Nat} (h:0<k):PS x 0 k (slq x 0 1 k):=by
 have:=KR (x:=x) (sz:=1) (k:=k)
 cases k with
 |zero=>omega
 |succ k=>exact this
theorem Tf {n:Nat} (hn:7≤n) (S:Shp) (a b:Int) (l:Nat→Int) {r:Heap} (hr:eX n r):eX n ([.ro (flL 1 2 3 S (fun i=>bI (rB S i))),.ro (ints S.d),.ro (pc S.f),.ro (ints S.s),.rw [.pointer (some ⟨0,0,none⟩)],.rw [.int .i64 a,.int .i64 b],.rw (rx l),.rw [.func (.func 90) #[] #[.pointer (some ⟨4,0,none⟩),.pointer (some ⟨5,0,none⟩),.pointer (some ⟨6,0,none⟩)]]]++r):=by
 have hp:∀ i,i<7→Nat.blt i n=true:=fun i hi=>Nat.blt_eq.mpr (by omega)
 refine ⟨nO (by omega),ay (aK _),ay (dJ _),ay (aK _),⟨by simp [dR,closed,hp],rfl⟩,ay rfl,ay (iI _),⟨?_,rfl⟩,hr⟩
 simp [dR,closed,kU,hp]
theorem Ny (S:Shp) (a b:Int) (l:Nat→Int) {n:Nat} (hn:7≤n):eX n [.ro (flL 1 2 3 S (fun i=>bI (rB S i))),.ro (ints S.d),.ro (pc S.f),.ro (ints S.s),.rw [.pointer (some ⟨0,0,none⟩)],.rw [.int .i64 a,.int .i64 b],.rw (rx l),.rw [.func (.func 90) #[] #[.pointer (some ⟨4,0,none⟩),.pointer (some ⟨5,0,none⟩),.pointer (some ⟨6,0,none⟩)]]]:=by
 have:=Tf hn S a b l (r:=[]) trivial
 simpa using this
theorem hc_c10 (S:Shp) (a b:Int) (l:Nat→Int) (way:List Int):eX 10 [.ro (flL 1 2 3 S (fun i=>bI (rB S i))),.ro (ints S.d),.ro (pc S.f),.ro (ints S.s),.rw [.pointer (some ⟨0,0,none⟩)],.rw [.int .i64 a,.int .i64 b],.rw (rx l),.rw [.func (.func 90) #[] #[.pointer (some ⟨4,0,none⟩),.pointer (some ⟨5,0,none⟩),.pointer (some ⟨6,0,none⟩)]],.gr (ints way) 3,.rw [qV 8 (some []) way]] :=
 Tf (by omega) S a b l ⟨ay (aK _),xP (by omega),trivial⟩
theorem yK (S:Shp) (a b:Int) (l:Nat→Int) (way:List Int) (x:Nat) (on:Int) (L:cu) (hL:fJ 16 L):eX 16 [.ro (flL 1 2 3 S (fun i=>bI (rB S i))),.ro (ints S.d),.ro (pc S.f),.ro (ints S.s),.rw [.pointer (some ⟨0,0,none⟩)],.rw [.int .i64 a,.int .i64 b],.rw (rx l),.rw [.func (.func 90) #[] #[.pointer (some ⟨4,0,none⟩),.pointer (some ⟨5,0,none⟩),.pointer (some ⟨6,0,none⟩)]],.gr (ints way) 3,.rw [qV 8 (some []) way],.rw [.int .i64 (x:Int)],.rw [.int .i64 on],.rw [.pointer (some ⟨0,0,none⟩)],.rw [.int .i64 (x:Int)],.dfr,L] :=
 Tf (by omega) S a b l ⟨ay (aK _),xP (by omega),ay rfl,ay rfl,⟨rfl,rfl⟩,ay rfl,trivial,hL,trivial⟩
theorem subs8 {σ:Heap} {q:List Int} {c j d:Nat} (hcell:σ[c]?=some (.rw [qV j (some []) q])) (hg:σ[j]?=some (.gr (ints q) 3)):nT σ 11 (je 8 [j,c,d]) 8 [.gr (ints q) 3,.rw [qV 8 (some []) q]]:=by
 refine ⟨qC (j:=j) rfl hg (aK _),?_,trivial⟩
 have h1:je 8 [j,c,d] 9=⟨c,0,0⟩:=rfl
 refine .inr ⟨by rw [h1],[qV j (some []) q],.inl (by rw [h1];exact hcell),Nat.le_refl _,fun a ha ha'=>?_⟩
 match a,ha with
 |0,_ =>
  have:=VQ.gsliceG (q:=true) (n:=11) (ρ:=je 8 [j,c,d]) 8 0 q.length q.length q.length 1 (Nat.le_refl _) (by omega) rfl
  simpa [qV,je] using this
end Go.AH.Dust
namespace Go.Proofs.Ytomioaiojidnbaa
open Go Go.AH
attribute [local irreducible] dO dI dM kK iM gK iC dV iJ dQ iK iE
set_option maxRecDepth 100000
set_option maxHeartbeats 1000000
open Go.AH.Dust
theorem comes_ev {σ:Heap} {S:Shp} {a b:Int} {l:Nat→Int} {src dst:Int} {p x y z u v w:Nat} (h:TAt σ p x y z u v w S a b l) (hS:S.ok) (hL:Lev a b l) (hsrc:isW S src) (hni:σ.all (fun o=>!dB o)=true) :
  Ev Try.prog 91 [.pointer (some ⟨p,0,none⟩),.func (.func 90) #[] #[.pointer (some ⟨u,0,none⟩),.pointer (some ⟨v,0,none⟩),.pointer (some ⟨w,0,none⟩)],.int .i64 src,.int .i64 dst] σ (.bool (comB S a b l src dst)) σ:=by
 refine h.ev (comes_ok S hS a b l hL src dst hsrc) ⟨VQ.ptr (q:=true) (n:=7) (ρ:=bsR [p,x,y,z,u,v,w]) 0 0 (by omega),?_,.int _ _,.int _ _,trivial⟩ rfl hni
 refine .func 90 _ _ _ _ rfl rfl (fun i h _=>absurd h (by simp)) fun i h h'=>?_
 match i,h with
 |0,_=>exact VQ.ptr (q:=true) (n:=7) (ρ:=bsR [p,x,y,z,u,v,w]) 4 0 (by omega)
 |1,_=>exact VQ.ptr (q:=true) (n:=7) (ρ:=bsR [p,x,y,z,u,v,w]) 5 0 (by omega)
 |2,_=>exact VQ.ptr (q:=true) (n:=7) (ρ:=bsR [p,x,y,z,u,v,w]) 6 0 (by omega)
theorem round_ok (S:Shp) (hS:S.ok) (a b:Int) (l:Nat→Int) (hLv:Lev a b l) :
  Ev Try.prog 73 [.pointer (some ⟨0,0,none⟩),.agg #[.int .i64 a,.int .i64 b],.agg (rx l).toArray] [.ro (flL 1 2 3 S (fun i=>bI (rB S i))),.ro (ints S.d),.ro (pc S.f),.ro (ints S.s)] (rV 4 (qA S a b l 0)) ([.ro (flL 1 2 3 S (fun i=>bI (rB S i))),.ro (ints S.d),.ro (pc S.f),.ro (ints S.s)]++rO (qA S a b l 0)):=by
 have n10:=hS.n10
 have f60:=hS.f60
 refine aX 4 88 Try.func73 rfl rfl rfl rfl rfl ?_
 repeat' (first|(refine gU ?_;first|(refine aP ?_;refine st (au rfl) rfl rfl ?_)|(refine aI ?_;refine st (aA rfl) rfl rfl ?_)|(refine gFA ?_;refine st (aB rfl) rfl rfl ?_)|(refine aU ?_;refine st (ak rfl (by rfl)) rfl rfl ?_)|(refine fK ?_;refine st (bK rfl) rfl rfl ?_)|(refine gNil ?_;refine st (iR rfl) rfl rfl ?_)|(refine BG ?_;refine st (jy rfl rfl) rfl rfl ?_)|(refine kD ?_;refine st (gI rfl) rfl rfl ?_)|(refine eP ?_;refine st (bQ rfl) rfl rfl ?_)|(refine cO ?_;refine stN (aJ rfl rfl rfl rfl (by rfl)) rfl ?_))|refine aS ?_|refine aj ?_|refine ah ?_|refine bg ?_|refine aO ?_|refine vH ?_|refine vG ?_)
 refine Tail.lW (ι:=Nat) (fun s=>[(3,.pointer (some ⟨4,0,none⟩)),(7,.pointer (some ⟨7,0,none⟩)),(8,.slice none 0 0),(21,.int .i64 (S.d.length:Int)),(22,.int .i64 (s:Int))])
  (fun _=>[.ro (flL 1 2 3 S (fun i=>bI (rB S i))),.ro (ints S.d),.ro (pc S.f),.ro (ints S.s),.rw [.pointer (some ⟨0,0,none⟩)],.rw [.int .i64 a,.int .i64 b],.rw (rx l),.rw [.func (.func 90) #[] #[.pointer (some ⟨4,0,none⟩),.pointer (some ⟨5,0,none⟩),.pointer (some ⟨6,0,none⟩)]]]) (fun s=>S.d.length - s) (fun s=>s≤S.d.length∧qA S a b l 0=qA S a b l s) 0 rfl (by (repeat' (first|exact Tail.kR rfl|refine Tail.jO ?_ ?_|refine Tail.jw ?_|refine Tail.Eh ?_|refine Tail.oG rfl ?_))) (fun _=>by simp) (fun _ _=>Ny S a b l (by simp))
  (.of (.same ⟨rfl,rfl,rfl,rfl,rfl,trivial⟩) (by simp)) ⟨Nat.zero_le _,rfl⟩ ?_
 intro k ⟨hk,hr⟩
 by_cases hkd:k<S.d.length
 ·have hrn:mG S a b l [(k:Int)]=none→qA S a b l 0=qA S a b l (k+1):=fun h=>by
   rw [hr,qA,dif_pos hkd,h]
  have hry:∀ o,mG S a b l [(k:Int)]=some o→qA S a b l 0=some o:=fun o h=>by
   rw [hr,qA,dif_pos hkd,h]
  clear hr
  repeat' (first|(refine gU ?_;first|(refine aP ?_;refine st (au rfl) rfl rfl ?_)|(refine aI ?_;refine st (aA rfl) rfl rfl ?_)|(refine bG ?_;refine st (aG rfl rfl rfl) rfl rfl ?_))|refine aS ?_|refine kY (id:=6) ?_|refine aj ?_|refine ah ?_|refine bg ?_|refine aW ?_|refine aO ?_|refine aQ rfl ?_)
  refine ⟨?_⟩
  refine (aj ?_)
  refine st (au rfl) rfl rfl ?_
  refine st (Eu (by rfl) (by rfl) (by rfl) (by rfl) rfl (by rfl)) rfl rfl ?_
  repeat' (first|(refine gU ?_;first|(refine eP ?_;refine st (bQ rfl) rfl rfl ?_)|(refine cO ?_;refine stN (aJ rfl rfl rfl rfl (by rfl)) rfl ?_))|refine ah ?_|refine bg ?_|refine aO ?_)
  refine Tail.lW (ι:=List Int) (fun way=>[(3,.pointer (some ⟨4,0,none⟩)),(7,.pointer (some ⟨7,0,none⟩)),(8,.slice none 0 0),(10,.pointer (some ⟨9,0,none⟩)),(21,.int .i64 (S.d.length:Int)),(22,.int .i64 (k:Int))])
   (fun way=>[.ro (flL 1 2 3 S (fun i=>bI (rB S i))),.ro (ints S.d),.ro (pc S.f),.ro (ints S.s),.rw [.pointer (some ⟨0,0,none⟩)],.rw [.int .i64 a,.int .i64 b],.rw (rx l),.rw [.func (.func 90) #[] #[.pointer (some ⟨4,0,none⟩),.pointer (some ⟨5,0,none⟩),.pointer (some ⟨6,0,none⟩)]],.gr (ints way) 3,.rw [qV 8 (some []) way]]) (fun way=>S.d.length+1 - way.length) (fun way=>way ≠ []∧(∀ x ∈ way,isW S x)∧mG S a b l [(k:Int)]=mG S a b l way) [(k:Int)] rfl (by (repeat' (first|exact Tail.kR rfl|exact Tail.oH|refine Tail.jO ?_ ?_|refine Tail.jw ?_|refine Tail.Eh ?_|refine Tail.oG rfl ?_))) (fun _=>by simp) (fun way _=>hc_c10 S a b l way)
   (.of (.same ⟨rfl,rfl,rfl,rfl,rfl,rfl,trivial⟩) (by simp)) ⟨by simp,fun x hx=>by rw [List.mem_singleton.1 hx];exact ⟨by omega,by omega⟩,rfl⟩ ?_
  intro way ⟨hw0,hww,hsr⟩
  have hwp:0<way.length:=List.length_pos_iff.2 hw0
  by_cases hwl:way.length≤S.d.length
  ·obtain ⟨x,hx⟩:∃ x:Nat,gi way (way.length - 1)=(x:Int):=⟨(gi way (way.length - 1)).toNat,by have:=(hww _ (kQ.2 ⟨way.length - 1,by omega,rfl⟩)).1;omega⟩
   have hxd:x<S.d.length:=by have:=(hww _ (kQ.2 ⟨way.length - 1,by omega,rfl⟩)).2;omega
   have e1:((way.length:Nat):Int) - 1=((way.length - 1:Nat):Int):=by omega
   have hc2:∀ σ':Heap,cZ (cu.ro (flL 1 2 3 S (fun i=>bI (rB S i)))::.ro (ints S.d)::.ro (pc S.f)::.ro (ints S.s)::.rw [.pointer (some ⟨0,0,none⟩)]::.rw [.int .i64 a,.int .i64 b]::.rw (rx l)::.rw [.func (.func 90) #[] #[.pointer (some ⟨4,0,none⟩),.pointer (some ⟨5,0,none⟩),.pointer (some ⟨6,0,none⟩)]]::.gr (ints way) 3::.rw [qV 8 (some []) way]::σ') 8 (0+(way.length - 1)*1)=some (.int .i64 (x:Int)):=fun σ'=>by
    show (ints way)[0+(way.length - 1)*1]?=_
    rw [Nat.mul_one,Nat.zero_add,gV (by omega),hx]
   have hnx:=xI (σ:=[.ro (flL 1 2 3 S (fun i=>bI (rB S i))),.ro (ints S.d),.ro (pc S.f),.ro (ints S.s),.rw [.pointer (some ⟨0,0,none⟩)],.rw [.int .i64 a,.int .i64 b],.rw (rx l),.rw [.func (.func 90) #[] #[.pointer (some ⟨4,0,none⟩),.pointer (some ⟨5,0,none⟩),.pointer (some ⟨6,0,none⟩)]],.gr (ints way) 3,.rw [qV 8 (some []) way],.rw [.int .i64 (x:Int)],.rw [.int .i64 (-1)]]) (S:=S) (r:=fun i=>bI (rB S i)) (n:=(x:Int)) (p:=0) (x:=1) (y:=2) (z:=3) ⟨.inl rfl,.inl rfl,.inl rfl,.inl rfl⟩ rfl
   repeat' (first|(refine gU ?_;first|refine st (Ns (k:=way.length - 1) rfl (congrArg (fun z=>some (Value.int .i64 z)) e1) (by omega)) rfl rfl ?_|(refine aU ?_;refine st (ak rfl (by first|rfl|exact hc2 _)) rfl rfl ?_)|(refine BF ?_;refine st (kC rfl rfl (by omega) (by omega)) rfl rfl ?_)|(refine fK ?_;refine st (bK rfl) rfl rfl ?_)|(refine fC ?_;refine st (bC rfl rfl rfl (by exact hnx)) rfl rfl ?_)|(refine eP ?_;refine st (bQ rfl) rfl rfl ?_)|(refine cO ?_;refine stN (aJ rfl rfl rfl rfl (by rfl)) rfl ?_))|(refine fU ?_;first|(refine gZ ?_;refine frA (au rfl) rfl ?_)|(refine iH ?_;refine frA (ak rfl (by rfl)) rfl ?_)|(refine o7 ?_;refine frA (aG rfl rfl rfl) rfl ?_)|(refine QA ?_;refine frA (bK rfl) rfl ?_)|(refine kW ?_;refine frA (bH rfl rfl) rfl ?_))|(refine fG ?_;first|(refine fFA ?_;refine fE rfl (aB rfl) rfl ?_)|(refine iH ?_;refine fE rfl (ak rfl (by rfl)) rfl ?_)|(refine o7 ?_;refine fE rfl (aG rfl rfl rfl) rfl ?_)|(refine QA ?_;refine fE rfl (bK rfl) rfl ?_)|(refine Gn ?_;refine fE rfl (iR rfl) rfl ?_))|(refine fD ⟨by kernel_rfl,?_⟩)|refine aS ?_|refine aj ?_|refine dH (by kernel_rfl) rfl ?_|refine ah ?_|refine bg ?_|refine aW ?_|refine aO ?_|refine aQ rfl ?_)
   refine Gs (by simp) (.same (e2:=[(3,.pointer (some ⟨4,0,none⟩)),(7,.pointer (some ⟨7,0,none⟩)),(8,.slice none 0 0),(10,.pointer (some ⟨9,0,none⟩)),(11,.pointer (some ⟨10,0,none⟩)),(12,.pointer (some ⟨11,0,none⟩)),(21,.int .i64 (S.d.length:Int)),(22,.int .i64 (k:Int)),(49,.func (.func 87) #[] #[.pointer (some ⟨12,0,none⟩),.pointer (some ⟨13,0,none⟩)])]) ⟨rfl,rfl,rfl,rfl,rfl,rfl,rfl,rfl,rfl,trivial⟩) ?_
   refine nK (p:=[]) (q:=[.pointer (some ⟨12,0,none⟩),.pointer (some ⟨13,0,none⟩)]) rfl fun L hL=>?_
   have hLc:fJ 16 L:=by
    rw [hL]
    exact qo fun p hp=>by
     simp only [List.mem_cons,List.not_mem_nil,or_false] at hp
     rcases hp with rfl|rfl|rfl|rfl|rfl|rfl|rfl|rfl|rfl <;> exact ⟨rfl,rfl⟩
   have hLi:dB L=false:=by rw [hL];rfl
   refine aX 16 28 Try.func87 rfl rfl rfl rfl rfl ?_
   repeat' (first|(refine gU ?_;first|(refine aP ?_;refine st (au rfl) rfl rfl ?_)|(refine gFA ?_;refine st (aB rfl) rfl rfl ?_)|(refine aU ?_;refine st (ak rfl (by rfl)) rfl rfl ?_)|(refine fK ?_;refine st (bK rfl) rfl rfl ?_)|(refine gNil ?_;refine st (iR rfl) rfl rfl ?_))|refine aS ?_|refine aj ?_|refine ah ?_|refine bg ?_|refine aO ?_)
   refine iD (ι:=Nat) (fun s=>[(0,.func (.yield 15) #[] #[]),(1,.pointer (some ⟨12,0,none⟩)),(2,.pointer (some ⟨13,0,none⟩)),(10,sl 2 S.f.length),(11,.int .i64 (S.f.length:Int)),(12,.int .i64 (s:Int))])
    (fun s=>[.ro (flL 1 2 3 S (fun i=>bI (rB S i))),.ro (ints S.d),.ro (pc S.f),.ro (ints S.s),.rw [.pointer (some ⟨0,0,none⟩)],.rw [.int .i64 a,.int .i64 b],.rw (rx l),.rw [.func (.func 90) #[] #[.pointer (some ⟨4,0,none⟩),.pointer (some ⟨5,0,none⟩),.pointer (some ⟨6,0,none⟩)]],.gr (ints way) 3,.rw [qV 8 (some []) way],.rw [.int .i64 (x:Int)],.rw [.int .i64 (onS S a b l way (x:Int) s)],.rw [.pointer (some ⟨0,0,none⟩)],.rw [.int .i64 (x:Int)],.dfr,L]) (fun s=>S.f.length - s) (fun s=>s≤S.f.length) 0 (by simp) (.same ⟨rfl,rfl,rfl,rfl,rfl,rfl,trivial⟩) (Nat.zero_le _) ?_
   clear hnx
   intro k2 hk2
   by_cases hkl:k2<S.f.length
   ·have hd2:∀ σ':Heap,dh (.ro (flL 1 2 3 S (fun i=>bI (rB S i)))::.ro (ints S.d)::.ro (pc S.f)::σ') 2 (0+k2*2) 2=some [.int .i64 (gf S.f k2).1,.int .i64 (gf S.f k2).2]:=fun σ'=>lX (.inl rfl) hkl
    obtain ⟨hw1,hw2,-⟩:=hS.f k2 hkl
    have hon:=JK hS (a:=a) (b:=b) (l:=l) (way:=way) (at_:=(x:Int)) hk2
    have hos:onS S a b l way (x:Int) (k2+1)=if onC S a b l way (x:Int) (onS S a b l way (x:Int) k2) (gf S.f k2)=true then (gf S.f k2).2 else onS S a b l way (x:Int) k2:=rfl
    have hti:∀ y:Nat,y<S.d.length→∀ σ':Heap,(cu.ro (flL 1 2 3 S (fun i=>bI (rB S i)))::.ro (ints S.d)::.ro (pc S.f)::.ro (ints S.s)::.rw [.pointer (some ⟨0,0,none⟩)]::.rw [.int .i64 a,.int .i64 b]::.rw (rx l)::.rw [.func (.func 90) #[] #[.pointer (some ⟨4,0,none⟩),.pointer (some ⟨5,0,none⟩),.pointer (some ⟨6,0,none⟩)]]::σ').all (fun o=>!dB o)=true→Ev Try.prog 90 [.int .i64 (x:Int),.int .i64 (y:Int),.pointer (some ⟨4,0,none⟩),.pointer (some ⟨5,0,none⟩),.pointer (some ⟨6,0,none⟩)] (cu.ro (flL 1 2 3 S (fun i=>bI (rB S i)))::.ro (ints S.d)::.ro (pc S.f)::.ro (ints S.s)::.rw [.pointer (some ⟨0,0,none⟩)]::.rw [.int .i64 a,.int .i64 b]::.rw (rx l)::.rw [.func (.func 90) #[] #[.pointer (some ⟨4,0,none⟩),.pointer (some ⟨5,0,none⟩),.pointer (some ⟨6,0,none⟩)]]::σ') (.bool (rF S a b l x y)) (cu.ro (flL 1 2 3 S (fun i=>bI (rB S i)))::.ro (ints S.d)::.ro (pc S.f)::.ro (ints S.s)::.rw [.pointer (some ⟨0,0,none⟩)]::.rw [.int .i64 a,.int .i64 b]::.rw (rx l)::.rw [.func (.func 90) #[] #[.pointer (some ⟨4,0,none⟩),.pointer (some ⟨5,0,none⟩),.pointer (some ⟨6,0,none⟩)]]::σ'):=fun y hyd σ' hs=>JG (p:=0) (x:=1) (y:=2) (z:=3) ⟨⟨.inl rfl,.inl rfl,.inl rfl,.inl rfl⟩,.inr (.inl rfl),.inr (.inl rfl),.inr (.inl rfl)⟩ hS hLv hxd hyd hs
    have hco:∀ y:Int,isW S y→∀ σ':Heap,(cu.ro (flL 1 2 3 S (fun i=>bI (rB S i)))::.ro (ints S.d)::.ro (pc S.f)::.ro (ints S.s)::.rw [.pointer (some ⟨0,0,none⟩)]::.rw [.int .i64 a,.int .i64 b]::.rw (rx l)::.rw [.func (.func 90) #[] #[.pointer (some ⟨4,0,none⟩),.pointer (some ⟨5,0,none⟩),.pointer (some ⟨6,0,none⟩)]]::σ').all (fun o=>!dB o)=true→Ev Try.prog 91 [.pointer (some ⟨0,0,none⟩),.func (.func 90) #[] #[.pointer (some ⟨4,0,none⟩),.pointer (some ⟨5,0,none⟩),.pointer (some ⟨6,0,none⟩)],.int .i64 y,.int .i64 y] (cu.ro (flL 1 2 3 S (fun i=>bI (rB S i)))::.ro (ints S.d)::.ro (pc S.f)::.ro (ints S.s)::.rw [.pointer (some ⟨0,0,none⟩)]::.rw [.int .i64 a,.int .i64 b]::.rw (rx l)::.rw [.func (.func 90) #[] #[.pointer (some ⟨4,0,none⟩),.pointer (some ⟨5,0,none⟩),.pointer (some ⟨6,0,none⟩)]]::σ') (.bool (comB S a b l y y)) (cu.ro (flL 1 2 3 S (fun i=>bI (rB S i)))::.ro (ints S.d)::.ro (pc S.f)::.ro (ints S.s)::.rw [.pointer (some ⟨0,0,none⟩)]::.rw [.int .i64 a,.int .i64 b]::.rw (rx l)::.rw [.func (.func 90) #[] #[.pointer (some ⟨4,0,none⟩),.pointer (some ⟨5,0,none⟩),.pointer (some ⟨6,0,none⟩)]]::σ'):=fun y hyd σ' hs=>comes_ev (p:=0) (x:=1) (y:=2) (z:=3) ⟨⟨.inl rfl,.inl rfl,.inl rfl,.inl rfl⟩,.inr (.inl rfl),.inr (.inl rfl),.inr (.inl rfl)⟩ hS hLv hyd hs
    have hwy:∀ y:Int,∀ σ':Heap,(cu.ro (flL 1 2 3 S (fun i=>bI (rB S i)))::.ro (ints S.d)::.ro (pc S.f)::.ro (ints S.s)::.rw [.pointer (some ⟨0,0,none⟩)]::.rw [.int .i64 a,.int .i64 b]::.rw (rx l)::.rw [.func (.func 90) #[] #[.pointer (some ⟨4,0,none⟩),.pointer (some ⟨5,0,none⟩),.pointer (some ⟨6,0,none⟩)]]::.gr (ints way) 3::σ').all (fun o=>!dB o)=true→Ev Try.prog 54 [qV 8 (some []) way,.int .i64 y] (cu.ro (flL 1 2 3 S (fun i=>bI (rB S i)))::.ro (ints S.d)::.ro (pc S.f)::.ro (ints S.s)::.rw [.pointer (some ⟨0,0,none⟩)]::.rw [.int .i64 a,.int .i64 b]::.rw (rx l)::.rw [.func (.func 90) #[] #[.pointer (some ⟨4,0,none⟩),.pointer (some ⟨5,0,none⟩),.pointer (some ⟨6,0,none⟩)]]::.gr (ints way) 3::σ') (.bool (decide (y ∈ way))) (cu.ro (flL 1 2 3 S (fun i=>bI (rB S i)))::.ro (ints S.d)::.ro (pc S.f)::.ro (ints S.s)::.rw [.pointer (some ⟨0,0,none⟩)]::.rw [.int .i64 a,.int .i64 b]::.rw (rx l)::.rw [.func (.func 90) #[] #[.pointer (some ⟨4,0,none⟩),.pointer (some ⟨5,0,none⟩),.pointer (some ⟨6,0,none⟩)]]::.gr (ints way) 3::σ'):=fun y σ' hs=>has54P_ev (x:=8) (o:=0) (qp (.inr (.inr ⟨_,rfl⟩))) (Qd hwp) (by omega) hs
    unfold onC at hos
    generalize hon2:onS S a b l way (x:Int) (k2+1)=on2 at hos
    generalize onS S a b l way (x:Int) k2=on at *
    generalize gf S.f k2=p at *
    obtain ⟨z,y0⟩:=p
    simp only at hw1 hw2 hd2 hos
    obtain ⟨y,rfl⟩:∃ y:Nat,y0=(y:Int):=⟨y0.toNat,by have:=hw2.1;omega⟩
    have hyd:y<S.d.length:=by have:=hw2.2;omega
    replace hti:=hti y hyd
    replace hco:=hco (y:Int) hw2
    replace hwy:=hwy (y:Int)
    simp only [Int.toNat_natCast] at hos
    obtain ⟨T,hT⟩:∃ T,rF S a b l x y=T:=⟨_,rfl⟩
    obtain ⟨C,hC⟩:∃ C,comB S a b l (y:Int) (y:Int)=C:=⟨_,rfl⟩
    simp only [hT,hC] at hos
    simp only [hT] at hti
    simp only [hC] at hco
    clear hT hC
    by_cases hz:z=(x:Int)
    ·cases T with
     |false =>
      rw [show on2=on from by rw [hos];simp [hz]] at hon2
      clear hos
      repeat' (first|(refine gU ?_;first|(refine aP ?_;refine st (au rfl) rfl rfl ?_)|(refine aU ?_;first|refine st (ak rfl (by rfl)) rfl rfl ?_|refine st (aZ rfl (by exact hd2 _)) rfl rfl ?_)|(refine bG ?_;refine st (aG rfl rfl rfl) rfl rfl ?_)|(refine gIA ?_;first|refine st (bZ rfl rfl (by omega)) rfl rfl ?_|refine st (bV rfl rfl (by omega) (by omega)) rfl rfl ?_)|(refine eP ?_;refine st (bQ rfl) rfl rfl ?_)|(refine cO ?_;refine stN (aJ rfl rfl rfl rfl (by rfl)) rfl ?_))|(refine gG ?_;first|(refine aP ?_;refine bP rfl (au rfl) rfl rfl ?_)|(refine aU ?_;refine bP rfl (ak rfl (by rfl)) rfl rfl ?_)|(refine gIA ?_;refine bP rfl (bV rfl rfl (by omega) (by omega)) rfl rfl ?_))|refine aS ?_|refine aj ?_|refine ah ?_|refine bg ?_|refine aW ?_|refine aO ?_|refine aQ rfl ?_)
      refine iT (l:=15) rfl rfl (by rw [hL];rfl) rfl rfl rfl (fun _ _ _ _ he=>ig (b:=true) (by rw [fM (b:=decide (z=(x:Int))) rfl,decide_eq_true hz];rfl) he) ?_
      repeat' (first|(refine gU ?_;(refine aI ?_;refine st (aA rfl) rfl rfl ?_))|refine aj ?_|refine ah ?_)
      refine jB (by rw [hL];rfl) ?_
      repeat' (first|(refine gU ?_;first|(refine aP ?_;refine st (au rfl) rfl rfl ?_)|(refine aU ?_;refine st (ak rfl (by rfl)) rfl rfl ?_)|(refine eY ?_;refine st (bY rfl rfl) rfl rfl ?_)|(refine fC ?_;refine st (bC rfl rfl rfl (by exact hti _ (by simp [dB]))) rfl rfl ?_))|(refine gG ?_;first|refine SA rfl rfl ?_|refine nU rfl rfl ?_)|refine aS ?_|refine aj ?_|refine ah ?_|refine bg ?_|refine fH ?_|refine aW ?_|refine aO ?_|refine aN rfl ?_)
      refine jC rfl rfl ?_
      repeat' (first|(refine gU ?_;first|(refine aP ?_;refine st (au rfl) rfl rfl ?_)|(refine iw ?_;refine st (dF rfl rfl (by omega)) rfl rfl ?_)|(refine eY ?_;refine st (bH rfl rfl) rfl rfl ?_))|(refine gG ?_;(refine kX ?_;refine bP rfl (gX rfl) rfl rfl ?_))|refine aj ?_|refine ah ?_|refine bg ?_|refine fH ?_|refine aW ?_|refine aN rfl ?_)
      refine ⟨rfl,k2+1,by omega,by omega,?_⟩
      rw [hon2]
      rw [hL]
      exact bT.drop [.ro (flL 1 2 3 S (fun i=>bI (rB S i))),.ro (ints S.d),.ro (pc S.f),.ro (ints S.s),.rw [.pointer (some ⟨0,0,none⟩)],.rw [.int .i64 a,.int .i64 b],.rw (rx l),.rw [.func (.func 90) #[] #[.pointer (some ⟨4,0,none⟩),.pointer (some ⟨5,0,none⟩),.pointer (some ⟨6,0,none⟩)]],.gr (ints way) 3,.rw [qV 8 (some []) way],.rw [.int .i64 (x:Int)],.rw [.int .i64 on],.rw [.pointer (some ⟨0,0,none⟩)],.rw [.int .i64 (x:Int)],.dfr,_] [_] (by simp) (yK S a b l way x on _ (by have:=hLc;rw [hL] at this;exact this)) (by (repeat' (first|exact trivial|exact ⟨rfl,rfl,rfl⟩|exact ⟨rfl,bM rfl,rfl⟩|refine ⟨?_,?_⟩)))
     |true =>
      by_cases ho:on<0
      ·cases C with
       |false =>
        rw [show on2=on from by rw [hos];simp [hz]] at hon2
        clear hos
        repeat' (first|(refine gU ?_;first|(refine aP ?_;refine st (au rfl) rfl rfl ?_)|(refine aU ?_;first|refine st (ak rfl (by rfl)) rfl rfl ?_|refine st (aZ rfl (by exact hd2 _)) rfl rfl ?_)|(refine bG ?_;refine st (aG rfl rfl rfl) rfl rfl ?_)|(refine gIA ?_;first|refine st (bZ rfl rfl (by omega)) rfl rfl ?_|refine st (bV rfl rfl (by omega) (by omega)) rfl rfl ?_)|(refine eP ?_;refine st (bQ rfl) rfl rfl ?_)|(refine cO ?_;refine stN (aJ rfl rfl rfl rfl (by rfl)) rfl ?_))|(refine gG ?_;first|(refine aP ?_;refine bP rfl (au rfl) rfl rfl ?_)|(refine aU ?_;refine bP rfl (ak rfl (by rfl)) rfl rfl ?_)|(refine gIA ?_;refine bP rfl (bV rfl rfl (by omega) (by omega)) rfl rfl ?_))|refine aS ?_|refine aj ?_|refine ah ?_|refine bg ?_|refine aW ?_|refine aO ?_|refine aQ rfl ?_)
        refine iT (l:=15) rfl rfl (by rw [hL];rfl) rfl rfl rfl (fun _ _ _ _ he=>ig (b:=true) (by rw [fM (b:=decide (z=(x:Int))) rfl,decide_eq_true hz];rfl) he) ?_
        repeat' (first|(refine gU ?_;(refine aI ?_;refine st (aA rfl) rfl rfl ?_))|refine aj ?_|refine ah ?_)
        refine jB (by rw [hL];rfl) ?_
        repeat' (first|(refine gU ?_;first|(refine aP ?_;refine st (au rfl) rfl rfl ?_)|(refine aU ?_;refine st (ak rfl (by rfl)) rfl rfl ?_)|(refine eY ?_;refine st (bH rfl rfl) rfl rfl ?_)|(refine fC ?_;refine st (bC rfl rfl rfl (by exact hti _ (by simp [dB]))) rfl rfl ?_))|(refine gG ?_;first|(refine aP ?_;refine bP rfl (au rfl) rfl rfl ?_)|(refine aU ?_;refine bP rfl (ak rfl (by rfl)) rfl rfl ?_)|(refine bG ?_;refine bP rfl (aG rfl rfl rfl) rfl rfl ?_)|(refine eY ?_;refine bP rfl (bH rfl rfl) rfl rfl ?_)|(refine fC ?_;refine bP rfl (bC rfl rfl rfl (by exact hco _ (by simp [dB]))) rfl rfl ?_)|refine nU rfl rfl ?_)|refine aS ?_|refine aj ?_|refine ah ?_|refine bg ?_|refine fH ?_|refine aW ?_|refine aO ?_|refine aN rfl ?_)
        refine jC rfl rfl ?_
        repeat' (first|(refine gU ?_;first|(refine aP ?_;refine st (au rfl) rfl rfl ?_)|(refine iw ?_;refine st (dF rfl rfl (by omega)) rfl rfl ?_)|(refine eY ?_;refine st (bH rfl rfl) rfl rfl ?_))|(refine gG ?_;(refine kX ?_;refine bP rfl (gX rfl) rfl rfl ?_))|refine aj ?_|refine ah ?_|refine bg ?_|refine fH ?_|refine aW ?_|refine aN rfl ?_)
        refine ⟨rfl,k2+1,by omega,by omega,?_⟩
        rw [hon2]
        rw [hL]
        exact bT.drop [.ro (flL 1 2 3 S (fun i=>bI (rB S i))),.ro (ints S.d),.ro (pc S.f),.ro (ints S.s),.rw [.pointer (some ⟨0,0,none⟩)],.rw [.int .i64 a,.int .i64 b],.rw (rx l),.rw [.func (.func 90) #[] #[.pointer (some ⟨4,0,none⟩),.pointer (some ⟨5,0,none⟩),.pointer (some ⟨6,0,none⟩)]],.gr (ints way) 3,.rw [qV 8 (some []) way],.rw [.int .i64 (x:Int)],.rw [.int .i64 on],.rw [.pointer (some ⟨0,0,none⟩)],.rw [.int .i64 (x:Int)],.dfr,_] [_] (by simp) (yK S a b l way x on _ (by have:=hLc;rw [hL] at this;exact this)) (by (repeat' (first|exact trivial|exact ⟨rfl,rfl,rfl⟩|exact ⟨rfl,bM rfl,rfl⟩|refine ⟨?_,?_⟩)))
       |true =>
        rw [show on2=(y:Int) from by rw [hos];simp [hz,ho]] at hon2
        clear hos
        repeat' (first|(refine gU ?_;first|(refine aP ?_;refine st (au rfl) rfl rfl ?_)|(refine aU ?_;first|refine st (ak rfl (by rfl)) rfl rfl ?_|refine st (aZ rfl (by exact hd2 _)) rfl rfl ?_)|(refine bG ?_;refine st (aG rfl rfl rfl) rfl rfl ?_)|(refine gIA ?_;first|refine st (bZ rfl rfl (by omega)) rfl rfl ?_|refine st (bV rfl rfl (by omega) (by omega)) rfl rfl ?_)|(refine eP ?_;refine st (bQ rfl) rfl rfl ?_)|(refine cO ?_;refine stN (aJ rfl rfl rfl rfl (by rfl)) rfl ?_))|(refine gG ?_;first|(refine aP ?_;refine bP rfl (au rfl) rfl rfl ?_)|(refine aU ?_;refine bP rfl (ak rfl (by rfl)) rfl rfl ?_)|(refine gIA ?_;refine bP rfl (bV rfl rfl (by omega) (by omega)) rfl rfl ?_))|refine aS ?_|refine aj ?_|refine ah ?_|refine bg ?_|refine aW ?_|refine aO ?_|refine aQ rfl ?_)
        refine iT (l:=15) rfl rfl (by rw [hL];rfl) rfl rfl rfl (fun _ _ _ _ he=>ig (b:=true) (by rw [fM (b:=decide (z=(x:Int))) rfl,decide_eq_true hz];rfl) he) ?_
        repeat' (first|(refine gU ?_;(refine aI ?_;refine st (aA rfl) rfl rfl ?_))|refine aj ?_|refine ah ?_)
        refine jB (by rw [hL];rfl) ?_
        repeat' (first|(refine gU ?_;first|(refine aP ?_;refine st (au rfl) rfl rfl ?_)|(refine aU ?_;refine st (ak rfl (by rfl)) rfl rfl ?_)|(refine eY ?_;refine st (bH rfl rfl) rfl rfl ?_)|(refine fC ?_;refine st (bC rfl rfl rfl (by exact hti _ (by simp [dB]))) rfl rfl ?_)|(refine cO ?_;refine stN (aJ rfl rfl rfl rfl (by rfl)) rfl ?_))|(refine gG ?_;first|(refine aP ?_;refine bP rfl (au rfl) rfl rfl ?_)|(refine aU ?_;refine bP rfl (ak rfl (by rfl)) rfl rfl ?_)|(refine bG ?_;refine bP rfl (aG rfl rfl rfl) rfl rfl ?_)|(refine eY ?_;refine bP rfl (bH rfl rfl) rfl rfl ?_)|(refine fC ?_;refine bP rfl (bC rfl rfl rfl (by exact hco _ (by simp [dB]))) rfl rfl ?_)|refine nU rfl rfl ?_)|refine aS ?_|refine aj ?_|refine ah ?_|refine bg ?_|refine fH ?_|refine aO ?_|refine aQ rfl ?_)
        refine jC rfl rfl ?_
        repeat' (first|(refine gU ?_;first|(refine aP ?_;refine st (au rfl) rfl rfl ?_)|(refine iw ?_;refine st (dF rfl rfl (by omega)) rfl rfl ?_)|(refine eY ?_;refine st (bH rfl rfl) rfl rfl ?_))|(refine gG ?_;(refine kX ?_;refine bP rfl (gX rfl) rfl rfl ?_))|refine aj ?_|refine ah ?_|refine bg ?_|refine fH ?_|refine aW ?_|refine aN rfl ?_)
        refine ⟨rfl,k2+1,by omega,by omega,?_⟩
        rw [hon2]
        rw [hL]
        exact bT.drop [.ro (flL 1 2 3 S (fun i=>bI (rB S i))),.ro (ints S.d),.ro (pc S.f),.ro (ints S.s),.rw [.pointer (some ⟨0,0,none⟩)],.rw [.int .i64 a,.int .i64 b],.rw (rx l),.rw [.func (.func 90) #[] #[.pointer (some ⟨4,0,none⟩),.pointer (some ⟨5,0,none⟩),.pointer (some ⟨6,0,none⟩)]],.gr (ints way) 3,.rw [qV 8 (some []) way],.rw [.int .i64 (x:Int)],.rw [.int .i64 (y:Int)],.rw [.pointer (some ⟨0,0,none⟩)],.rw [.int .i64 (x:Int)],.dfr,_] [_] (by simp) (yK S a b l way x (y:Int) _ (by have:=hLc;rw [hL] at this;exact this)) (by (repeat' (first|exact trivial|exact ⟨rfl,rfl,rfl⟩|exact ⟨rfl,bM rfl,rfl⟩|refine ⟨?_,?_⟩)))
      ·by_cases hm:(y:Int) ∈ way
       ·simp only [hm,decide_true] at hwy
        cases C with
        |false =>
         rw [show on2=on from by rw [hos];simp [hz]] at hon2
         clear hos
         repeat' (first|(refine gU ?_;first|(refine aP ?_;refine st (au rfl) rfl rfl ?_)|(refine aU ?_;first|refine st (ak rfl (by rfl)) rfl rfl ?_|refine st (aZ rfl (by exact hd2 _)) rfl rfl ?_)|(refine bG ?_;refine st (aG rfl rfl rfl) rfl rfl ?_)|(refine gIA ?_;first|refine st (bZ rfl rfl (by omega)) rfl rfl ?_|refine st (bV rfl rfl (by omega) (by omega)) rfl rfl ?_)|(refine eP ?_;refine st (bQ rfl) rfl rfl ?_)|(refine cO ?_;refine stN (aJ rfl rfl rfl rfl (by rfl)) rfl ?_))|(refine gG ?_;first|(refine aP ?_;refine bP rfl (au rfl) rfl rfl ?_)|(refine aU ?_;refine bP rfl (ak rfl (by rfl)) rfl rfl ?_)|(refine gIA ?_;refine bP rfl (bV rfl rfl (by omega) (by omega)) rfl rfl ?_))|refine aS ?_|refine aj ?_|refine ah ?_|refine bg ?_|refine aW ?_|refine aO ?_|refine aQ rfl ?_)
         refine iT (l:=15) rfl rfl (by rw [hL];rfl) rfl rfl rfl (fun _ _ _ _ he=>ig (b:=true) (by rw [fM (b:=decide (z=(x:Int))) rfl,decide_eq_true hz];rfl) he) ?_
         repeat' (first|(refine gU ?_;(refine aI ?_;refine st (aA rfl) rfl rfl ?_))|refine aj ?_|refine ah ?_)
         refine jB (by rw [hL];rfl) ?_
         repeat' (first|(refine gU ?_;first|(refine aP ?_;refine st (au rfl) rfl rfl ?_)|(refine aU ?_;refine st (ak rfl (by rfl)) rfl rfl ?_)|(refine eY ?_;refine st (bH rfl rfl) rfl rfl ?_)|(refine fC ?_;refine st (bC rfl rfl rfl (by exact hti _ (by simp [dB]))) rfl rfl ?_))|(refine gG ?_;first|(refine aP ?_;refine bP rfl (au rfl) rfl rfl ?_)|(refine aU ?_;refine bP rfl (ak rfl (by rfl)) rfl rfl ?_)|(refine bG ?_;refine bP rfl (aG rfl rfl rfl) rfl rfl ?_)|(refine eY ?_;refine bP rfl (bY rfl rfl) rfl rfl ?_)|(refine fC ?_;refine bP rfl (bC rfl rfl rfl (by first|exact hwy _ (by simp [dB])|exact hco _ (by simp [dB]))) rfl rfl ?_))|refine aS ?_|refine aj ?_|refine ah ?_|refine bg ?_|refine fH ?_|refine aW ?_|refine aO ?_|refine aN rfl ?_)
         refine jC rfl rfl ?_
         repeat' (first|(refine gU ?_;first|(refine aP ?_;refine st (au rfl) rfl rfl ?_)|(refine iw ?_;refine st (dF rfl rfl (by omega)) rfl rfl ?_)|(refine eY ?_;refine st (bH rfl rfl) rfl rfl ?_))|(refine gG ?_;(refine kX ?_;refine bP rfl (gX rfl) rfl rfl ?_))|refine aj ?_|refine ah ?_|refine bg ?_|refine fH ?_|refine aW ?_|refine aN rfl ?_)
         refine ⟨rfl,k2+1,by omega,by omega,?_⟩
         rw [hon2]
         rw [hL]
         exact bT.drop [.ro (flL 1 2 3 S (fun i=>bI (rB S i))),.ro (ints S.d),.ro (pc S.f),.ro (ints S.s),.rw [.pointer (some ⟨0,0,none⟩)],.rw [.int .i64 a,.int .i64 b],.rw (rx l),.rw [.func (.func 90) #[] #[.pointer (some ⟨4,0,none⟩),.pointer (some ⟨5,0,none⟩),.pointer (some ⟨6,0,none⟩)]],.gr (ints way) 3,.rw [qV 8 (some []) way],.rw [.int .i64 (x:Int)],.rw [.int .i64 on],.rw [.pointer (some ⟨0,0,none⟩)],.rw [.int .i64 (x:Int)],.dfr,_] [_] (by simp) (yK S a b l way x on _ (by have:=hLc;rw [hL] at this;exact this)) (by (repeat' (first|exact trivial|exact ⟨rfl,rfl,rfl⟩|exact ⟨rfl,bM rfl,rfl⟩|refine ⟨?_,?_⟩)))
        |true =>
         rw [show on2=(y:Int) from by rw [hos];simp [hz,hm]] at hon2
         clear hos
         repeat' (first|(refine gU ?_;first|(refine aP ?_;refine st (au rfl) rfl rfl ?_)|(refine aU ?_;first|refine st (ak rfl (by rfl)) rfl rfl ?_|refine st (aZ rfl (by exact hd2 _)) rfl rfl ?_)|(refine bG ?_;refine st (aG rfl rfl rfl) rfl rfl ?_)|(refine gIA ?_;first|refine st (bZ rfl rfl (by omega)) rfl rfl ?_|refine st (bV rfl rfl (by omega) (by omega)) rfl rfl ?_)|(refine eP ?_;refine st (bQ rfl) rfl rfl ?_)|(refine cO ?_;refine stN (aJ rfl rfl rfl rfl (by rfl)) rfl ?_))|(refine gG ?_;first|(refine aP ?_;refine bP rfl (au rfl) rfl rfl ?_)|(refine aU ?_;refine bP rfl (ak rfl (by rfl)) rfl rfl ?_)|(refine gIA ?_;refine bP rfl (bV rfl rfl (by omega) (by omega)) rfl rfl ?_))|refine aS ?_|refine aj ?_|refine ah ?_|refine bg ?_|refine aW ?_|refine aO ?_|refine aQ rfl ?_)
         refine iT (l:=15) rfl rfl (by rw [hL];rfl) rfl rfl rfl (fun _ _ _ _ he=>ig (b:=true) (by rw [fM (b:=decide (z=(x:Int))) rfl,decide_eq_true hz];rfl) he) ?_
         repeat' (first|(refine gU ?_;(refine aI ?_;refine st (aA rfl) rfl rfl ?_))|refine aj ?_|refine ah ?_)
         refine jB (by rw [hL];rfl) ?_
         repeat' (first|(refine gU ?_;first|(refine aP ?_;refine st (au rfl) rfl rfl ?_)|(refine aU ?_;refine st (ak rfl (by rfl)) rfl rfl ?_)|(refine eY ?_;refine st (bH rfl rfl) rfl rfl ?_)|(refine fC ?_;refine st (bC rfl rfl rfl (by exact hti _ (by simp [dB]))) rfl rfl ?_)|(refine cO ?_;refine stN (aJ rfl rfl rfl rfl (by rfl)) rfl ?_))|(refine gG ?_;first|(refine aP ?_;refine bP rfl (au rfl) rfl rfl ?_)|(refine aU ?_;refine bP rfl (ak rfl (by rfl)) rfl rfl ?_)|(refine bG ?_;refine bP rfl (aG rfl rfl rfl) rfl rfl ?_)|(refine eY ?_;refine bP rfl (bY rfl rfl) rfl rfl ?_)|(refine fC ?_;refine bP rfl (bC rfl rfl rfl (by first|exact hwy _ (by simp [dB])|exact hco _ (by simp [dB]))) rfl rfl ?_))|refine aS ?_|refine aj ?_|refine ah ?_|refine bg ?_|refine fH ?_|refine aO ?_|refine aQ rfl ?_)
         refine jC rfl rfl ?_
         repeat' (first|(refine gU ?_;first|(refine aP ?_;refine st (au rfl) rfl rfl ?_)|(refine iw ?_;refine st (dF rfl rfl (by omega)) rfl rfl ?_)|(refine eY ?_;refine st (bH rfl rfl) rfl rfl ?_))|(refine gG ?_;(refine kX ?_;refine bP rfl (gX rfl) rfl rfl ?_))|refine aj ?_|refine ah ?_|refine bg ?_|refine fH ?_|refine aW ?_|refine aN rfl ?_)
         refine ⟨rfl,k2+1,by omega,by omega,?_⟩
         rw [hon2]
         rw [hL]
         exact bT.drop [.ro (flL 1 2 3 S (fun i=>bI (rB S i))),.ro (ints S.d),.ro (pc S.f),.ro (ints S.s),.rw [.pointer (some ⟨0,0,none⟩)],.rw [.int .i64 a,.int .i64 b],.rw (rx l),.rw [.func (.func 90) #[] #[.pointer (some ⟨4,0,none⟩),.pointer (some ⟨5,0,none⟩),.pointer (some ⟨6,0,none⟩)]],.gr (ints way) 3,.rw [qV 8 (some []) way],.rw [.int .i64 (x:Int)],.rw [.int .i64 (y:Int)],.rw [.pointer (some ⟨0,0,none⟩)],.rw [.int .i64 (x:Int)],.dfr,_] [_] (by simp) (yK S a b l way x (y:Int) _ (by have:=hLc;rw [hL] at this;exact this)) (by (repeat' (first|exact trivial|exact ⟨rfl,rfl,rfl⟩|exact ⟨rfl,bM rfl,rfl⟩|refine ⟨?_,?_⟩)))
       ·simp only [hm,decide_false] at hwy
        rw [show on2=on from by rw [hos];simp [hz,hm,ho]] at hon2
        clear hos
        repeat' (first|(refine gU ?_;first|(refine aP ?_;refine st (au rfl) rfl rfl ?_)|(refine aU ?_;first|refine st (ak rfl (by rfl)) rfl rfl ?_|refine st (aZ rfl (by exact hd2 _)) rfl rfl ?_)|(refine bG ?_;refine st (aG rfl rfl rfl) rfl rfl ?_)|(refine gIA ?_;first|refine st (bZ rfl rfl (by omega)) rfl rfl ?_|refine st (bV rfl rfl (by omega) (by omega)) rfl rfl ?_)|(refine eP ?_;refine st (bQ rfl) rfl rfl ?_)|(refine cO ?_;refine stN (aJ rfl rfl rfl rfl (by rfl)) rfl ?_))|(refine gG ?_;first|(refine aP ?_;refine bP rfl (au rfl) rfl rfl ?_)|(refine aU ?_;refine bP rfl (ak rfl (by rfl)) rfl rfl ?_)|(refine gIA ?_;refine bP rfl (bV rfl rfl (by omega) (by omega)) rfl rfl ?_))|refine aS ?_|refine aj ?_|refine ah ?_|refine bg ?_|refine aW ?_|refine aO ?_|refine aQ rfl ?_)
        refine iT (l:=15) rfl rfl (by rw [hL];rfl) rfl rfl rfl (fun _ _ _ _ he=>ig (b:=true) (by rw [fM (b:=decide (z=(x:Int))) rfl,decide_eq_true hz];rfl) he) ?_
        repeat' (first|(refine gU ?_;(refine aI ?_;refine st (aA rfl) rfl rfl ?_))|refine aj ?_|refine ah ?_)
        refine jB (by rw [hL];rfl) ?_
        repeat' (first|(refine gU ?_;first|(refine aP ?_;refine st (au rfl) rfl rfl ?_)|(refine aU ?_;refine st (ak rfl (by rfl)) rfl rfl ?_)|(refine eY ?_;first|refine st (bH rfl rfl) rfl rfl ?_|refine st (bY rfl rfl) rfl rfl ?_)|(refine fC ?_;refine st (bC rfl rfl rfl (by exact hti _ (by simp [dB]))) rfl rfl ?_))|(refine gG ?_;first|(refine aP ?_;refine bP rfl (au rfl) rfl rfl ?_)|(refine aU ?_;refine bP rfl (ak rfl (by rfl)) rfl rfl ?_)|(refine bG ?_;refine bP rfl (aG rfl rfl rfl) rfl rfl ?_)|(refine eY ?_;refine bP rfl (bY rfl rfl) rfl rfl ?_)|(refine fC ?_;refine bP rfl (bC rfl rfl rfl (by exact hwy _ (by simp [dB]))) rfl rfl ?_)|refine nU rfl rfl ?_)|refine aS ?_|refine aj ?_|refine ah ?_|refine bg ?_|refine fH ?_|refine aW ?_|refine aO ?_|refine aN rfl ?_)
        refine jC rfl rfl ?_
        repeat' (first|(refine gU ?_;first|(refine aP ?_;refine st (au rfl) rfl rfl ?_)|(refine iw ?_;refine st (dF rfl rfl (by omega)) rfl rfl ?_)|(refine eY ?_;refine st (bH rfl rfl) rfl rfl ?_))|(refine gG ?_;(refine kX ?_;refine bP rfl (gX rfl) rfl rfl ?_))|refine aj ?_|refine ah ?_|refine bg ?_|refine fH ?_|refine aW ?_|refine aN rfl ?_)
        refine ⟨rfl,k2+1,by omega,by omega,?_⟩
        rw [hon2]
        rw [hL]
        exact bT.drop [.ro (flL 1 2 3 S (fun i=>bI (rB S i))),.ro (ints S.d),.ro (pc S.f),.ro (ints S.s),.rw [.pointer (some ⟨0,0,none⟩)],.rw [.int .i64 a,.int .i64 b],.rw (rx l),.rw [.func (.func 90) #[] #[.pointer (some ⟨4,0,none⟩),.pointer (some ⟨5,0,none⟩),.pointer (some ⟨6,0,none⟩)]],.gr (ints way) 3,.rw [qV 8 (some []) way],.rw [.int .i64 (x:Int)],.rw [.int .i64 on],.rw [.pointer (some ⟨0,0,none⟩)],.rw [.int .i64 (x:Int)],.dfr,_] [_] (by simp) (yK S a b l way x on _ (by have:=hLc;rw [hL] at this;exact this)) (by (repeat' (first|exact trivial|exact ⟨rfl,rfl,rfl⟩|exact ⟨rfl,bM rfl,rfl⟩|refine ⟨?_,?_⟩)))
    ·rw [show on2=on from by rw [hos];simp [hz]] at hon2
     clear hos
     repeat' (first|(refine gU ?_;first|(refine aP ?_;refine st (au rfl) rfl rfl ?_)|(refine aU ?_;first|refine st (ak rfl (by rfl)) rfl rfl ?_|refine st (aZ rfl (by exact hd2 _)) rfl rfl ?_)|(refine iw ?_;refine st (dF rfl rfl (by omega)) rfl rfl ?_)|(refine bG ?_;refine st (aG rfl rfl rfl) rfl rfl ?_)|(refine eY ?_;refine st (bY rfl rfl) rfl rfl ?_)|(refine gIA ?_;first|refine st (bZ rfl rfl (by omega)) rfl rfl ?_|refine st (bV rfl rfl (by omega) (by omega)) rfl rfl ?_)|(refine eP ?_;refine st (bQ rfl) rfl rfl ?_)|(refine cO ?_;refine stN (aJ rfl rfl rfl rfl (by rfl)) rfl ?_))|(refine gG ?_;refine nU rfl rfl ?_)|refine aS ?_|refine aj ?_|refine ah ?_|refine bg ?_|refine fH ?_|refine aW ?_|refine aO ?_|refine aQ rfl ?_|refine aN rfl ?_)
     refine ⟨rfl,k2+1,by omega,by omega,?_⟩
     rw [hon2]
     exact bT.drop [.ro (flL 1 2 3 S (fun i=>bI (rB S i))),.ro (ints S.d),.ro (pc S.f),.ro (ints S.s),.rw [.pointer (some ⟨0,0,none⟩)],.rw [.int .i64 a,.int .i64 b],.rw (rx l),.rw [.func (.func 90) #[] #[.pointer (some ⟨4,0,none⟩),.pointer (some ⟨5,0,none⟩),.pointer (some ⟨6,0,none⟩)]],.gr (ints way) 3,.rw [qV 8 (some []) way],.rw [.int .i64 (x:Int)],.rw [.int .i64 on],.rw [.pointer (some ⟨0,0,none⟩)],.rw [.int .i64 (x:Int)],.dfr,_] [_] (by simp) (yK S a b l way x on _ (by have:=hLc;exact this)) (by (repeat' (first|exact trivial|exact ⟨rfl,rfl,rfl⟩|exact ⟨rfl,bM rfl,rfl⟩|refine ⟨?_,?_⟩)))
   ·obtain rfl:k2=S.f.length:=by omega
    have hon:=JK hS (a:=a) (b:=b) (l:=l) (way:=way) (at_:=(x:Int)) (Nat.le_refl S.f.length)
    have hse:mG S a b l way=if onS S a b l way (x:Int) S.f.length<0 then none
      else if 0≤ixP (fun i=>decide (gi way i=onS S a b l way (x:Int) S.f.length)) way.length then some (way,(ixP (fun i=>decide (gi way i=onS S a b l way (x:Int) S.f.length)) way.length).toNat)
      else mG S a b l (way++[onS S a b l way (x:Int) S.f.length]):=by
     rw [mG,dif_pos hwl,hx]
    rw [hse] at hsr
    clear hse
    generalize onS S a b l way (x:Int) S.f.length=on at *
    by_cases ho:on<0
    ·have hn:=hrn (by rw [hsr,if_pos ho])
     repeat' (first|(refine gU ?_;(refine bG ?_;refine st (aG rfl rfl rfl) rfl rfl ?_))|refine aS ?_|refine aj ?_|refine ah ?_|refine bg ?_|refine jd ?_|refine eG rfl ?_|refine dW ?_|refine aN rfl ?_)
     refine IB .nil .all ⟨_,_,_,_,_,_,_,by rw [hL];rfl,by simp,?_⟩
     dsimp only
     repeat' (first|(refine gU ?_;first|(refine aP ?_;refine st (au rfl) rfl rfl ?_)|(refine aU ?_;refine st (ak rfl (by rfl)) rfl rfl ?_)|(refine iw ?_;refine st (dF rfl rfl (by omega)) rfl rfl ?_)|(refine bG ?_;refine st (aG rfl rfl rfl) rfl rfl ?_))|refine aS ?_|refine aj ?_|refine ah ?_|refine bg ?_|refine jd ?_|refine fH ?_|refine eG rfl ?_|refine qW rfl ?_|refine dW ?_|refine aQ rfl ?_)
     exact ⟨k+1,⟨⟨by omega,hn⟩,by omega⟩,Tail.mZ.src [.ro (flL 1 2 3 S (fun i=>bI (rB S i))),.ro (ints S.d),.ro (pc S.f),.ro (ints S.s),.rw [.pointer (some ⟨0,0,none⟩)],.rw [.int .i64 a,.int .i64 b],.rw (rx l),.rw [.func (.func 90) #[] #[.pointer (some ⟨4,0,none⟩),.pointer (some ⟨5,0,none⟩),.pointer (some ⟨6,0,none⟩)]]] [] [] 14 (by simp) rfl (Ny S a b l (by simp)) rfl rfl rfl trivial (by (repeat' (first|exact trivial|refine ⟨bD rfl rfl,?_⟩|refine ⟨aV (m:=8) rfl (fun i hi=>aY hi) (by simp) (by rfl) rfl,?_⟩)))⟩
    ·rw [if_neg ho] at hsr
     have hix:∀ σ':Heap,(cu.ro (flL 1 2 3 S (fun i=>bI (rB S i)))::.ro (ints S.d)::.ro (pc S.f)::.ro (ints S.s)::.rw [.pointer (some ⟨0,0,none⟩)]::.rw [.int .i64 a,.int .i64 b]::.rw (rx l)::.rw [.func (.func 90) #[] #[.pointer (some ⟨4,0,none⟩),.pointer (some ⟨5,0,none⟩),.pointer (some ⟨6,0,none⟩)]]::.gr (ints way) 3::σ').all (fun o=>!dB o)=true→Ev Try.prog 80 [qV 8 (some []) way,.int .i64 on] (cu.ro (flL 1 2 3 S (fun i=>bI (rB S i)))::.ro (ints S.d)::.ro (pc S.f)::.ro (ints S.s)::.rw [.pointer (some ⟨0,0,none⟩)]::.rw [.int .i64 a,.int .i64 b]::.rw (rx l)::.rw [.func (.func 90) #[] #[.pointer (some ⟨4,0,none⟩),.pointer (some ⟨5,0,none⟩),.pointer (some ⟨6,0,none⟩)]]::.gr (ints way) 3::σ') (.int .i64 (ixP (fun i=>decide (gi way i=on)) way.length)) (cu.ro (flL 1 2 3 S (fun i=>bI (rB S i)))::.ro (ints S.d)::.ro (pc S.f)::.ro (ints S.s)::.rw [.pointer (some ⟨0,0,none⟩)]::.rw [.int .i64 a,.int .i64 b]::.rw (rx l)::.rw [.func (.func 90) #[] #[.pointer (some ⟨4,0,none⟩),.pointer (some ⟨5,0,none⟩),.pointer (some ⟨6,0,none⟩)]]::.gr (ints way) 3::σ'):=fun σ' hs=>index80P_ev (x:=8) (o:=0) (qp (.inr (.inr ⟨_,rfl⟩))) (Qd hwp) (by omega) hs
     have hil:=Qc (q:=fun i=>decide (gi way i=on)) (n:=way.length)
     generalize ixP (fun i=>decide (gi way i=on)) way.length=ix at *
     by_cases hi:0≤ix
     ·have hy:=hry _ (by rw [hsr,if_pos hi])
      replace hil:=hil hi
      rw [hy]
      obtain ⟨m,rfl⟩:∃ m:Nat,ix=(m:Int):=⟨ix.toNat,by omega⟩
      simp only [Int.toNat_natCast]
      repeat' (first|(refine gU ?_;(refine bG ?_;refine st (aG rfl rfl rfl) rfl rfl ?_))|refine aS ?_|refine aj ?_|refine ah ?_|refine bg ?_|refine jd ?_|refine eG rfl ?_|refine dW ?_|refine aN rfl ?_)
      refine IB .nil .all ⟨_,_,_,_,_,_,_,by rw [hL];rfl,by simp,?_⟩
      dsimp only
      repeat' (first|(refine gU ?_;first|(refine aP ?_;refine st (au rfl) rfl rfl ?_)|(refine aI ?_;refine st (aA rfl) rfl rfl ?_)|(refine aU ?_;refine st (ak rfl (by rfl)) rfl rfl ?_)|(refine bG ?_;refine st (aG rfl rfl rfl) rfl rfl ?_)|(refine fC ?_;refine st (bC rfl rfl rfl (by exact hix _ (by simp [dB]))) rfl rfl ?_))|refine aS ?_|refine kY (id:=17) ?_|refine aj ?_|refine ah ?_|refine bg ?_|refine fH ?_|refine aW ?_|refine aQ rfl ?_|refine aN rfl ?_)
      refine ⟨?_⟩
      refine (aj ?_)
      refine st (ak rfl rfl) rfl rfl ?_
      refine st (au rfl) rfl rfl ?_
      refine QL (FQ (i:=8) (o:=0) (n:=way.length) (size:=1) (l:=m) rfl rfl (by omega)) rfl rfl ?_
      rintro v σ' ⟨rfl,hv⟩
      obtain rfl:v=slq 8 (0+m*1) 1 (way.length - m):=by
       rcases hv with hv|⟨h1,_⟩
       ·exact hv
       ·omega
      clear hv
      repeat' (first|(refine gU ?_;first|(refine aP ?_;refine st (au rfl) rfl rfl ?_)|(refine aI ?_;refine st (aA rfl) rfl rfl ?_))|refine aS ?_|refine aj ?_|refine ah ?_|refine bg ?_|refine jd ?_|refine eG rfl ?_|refine qW rfl ?_|refine dW ?_|refine dX ?_|refine Ky ?_)
      refine TK (m:=14) rfl (.tmp rfl .nil) (dQ.src [.rw (ints way)] [8] rfl rfl rfl ⟨dA (j:=8) rfl (.inr ⟨3,rfl⟩) (aK _),trivial⟩ ?_) ⟨rfl,rfl⟩
      have:=VQ.sliceG (q:=true) (n:=5) (ρ:=je 4 [8]) 4 m (way.length - m) (way.length - m) (way.length - m) 1 (Nat.le_refl _) (by omega) rfl
      show jv 5 (je 4 [8]) _ _
      simpa [je,rV,uD] using this
     ·rw [if_neg hi] at hsr
      repeat' (first|(refine gU ?_;(refine bG ?_;refine st (aG rfl rfl rfl) rfl rfl ?_))|refine aS ?_|refine aj ?_|refine ah ?_|refine bg ?_|refine jd ?_|refine eG rfl ?_|refine dW ?_|refine aN rfl ?_)
      refine IB .nil .all ⟨_,_,_,_,_,_,_,by rw [hL];rfl,by simp,?_⟩
      dsimp only
      repeat' (first|(refine gU ?_;first|(refine aP ?_;refine st (au rfl) rfl rfl ?_)|(refine aI ?_;refine st (aA rfl) rfl rfl ?_)|(refine aU ?_;refine st (ak rfl (by rfl)) rfl rfl ?_)|(refine bG ?_;refine st (aG rfl rfl rfl) rfl rfl ?_)|(refine fC ?_;refine st (bC rfl rfl rfl (by exact hix _ (by simp [dB]))) rfl rfl ?_))|refine aS ?_|refine kY (id:=18) ?_|refine aj ?_|refine ah ?_|refine bg ?_|refine fH ?_|refine aW ?_|refine aN rfl ?_)
      refine ⟨?_⟩
      refine (aj ?_)
      repeat' ((refine gU ?_;first|(refine aU ?_;refine st (ak rfl (by rfl)) rfl rfl ?_)|(refine nI ?_;refine st (kM (by rfl) (by rfl) (by rfl) (by rfl) rfl (by rfl)) rfl rfl ?_)))
      refine QL (Et (el:=3) (size:=1) (i:=8) (o:=0) (n:=way.length) (cs:=ints way) (news:=[.int .i64 on]) (by rfl) rfl rfl rfl (by simp [ints]) (by simpa [ints] using hw0) rfl rfl (by omega) rfl (by omega) (by decide)) rfl rfl ?_
      rintro v σ' ⟨o',cs',h1,h2,h3,hv,rfl⟩
      obtain ⟨hs1,rfl⟩:v=qV 17 (some []) (way++[on])∧cs'=ints (way++[on]):=by
       have h4:o'=0:=by rcases h3 with ⟨h,_⟩|⟨h,_⟩ <;> exact h
       subst h4
       refine ⟨hv.trans (show slq 17 0 1 (way.length+1)=_ from by simp [qV]),?_⟩
       rcases h3 with ⟨_,h3⟩|⟨_,h3⟩ <;> rw [h3] <;> simp [ints]
      subst hs1
      clear hv h1 h2 h3
      repeat' (first|(refine gU ?_;(refine cO ?_;refine stN (aJ rfl rfl rfl rfl (by rfl)) rfl ?_))|refine ah ?_|refine bg ?_|refine fH ?_)
      refine ⟨way++[on],⟨⟨by simp,fun y hy=>?_,hsr⟩,by simp only [List.length_append,List.length_singleton];omega⟩,Tail.mZ.src [.ro (flL 1 2 3 S (fun i=>bI (rB S i))),.ro (ints S.d),.ro (pc S.f),.ro (ints S.s),.rw [.pointer (some ⟨0,0,none⟩)],.rw [.int .i64 a,.int .i64 b],.rw (rx l),.rw [.func (.func 90) #[] #[.pointer (some ⟨4,0,none⟩),.pointer (some ⟨5,0,none⟩),.pointer (some ⟨6,0,none⟩)]]] [.gr (ints (way++[on])) 3,.rw [qV 8 (some []) (way++[on])]] [17,9] 14 (by simp) rfl (Ny S a b l (by simp)) rfl rfl rfl (subs8 (c:=9) (j:=17) (d:=14) rfl rfl) (by (repeat' (first|exact trivial|refine ⟨bD rfl rfl,?_⟩|refine ⟨aV (m:=8) rfl (fun i hi=>aY hi) (by simp) (by rfl) rfl,?_⟩|refine ⟨yI rfl (by simp) rfl,?_⟩)))⟩
      rcases List.mem_append.1 hy with hy|hy
      ·exact hww y hy
      ·rw [List.mem_singleton.1 hy]
       rcases hon with hon|hon
       ·omega
       ·exact hon
  ·have hn:=hrn (by rw [hsr,mG,dif_neg hwl])
   repeat' (first|(refine gU ?_;first|(refine aP ?_;refine st (au rfl) rfl rfl ?_)|(refine iw ?_;refine st (dF rfl rfl (by omega)) rfl rfl ?_))|(refine fU ?_;first|(refine gZ ?_;refine frA (au rfl) rfl ?_)|(refine iH ?_;refine frA (ak rfl (by rfl)) rfl ?_)|(refine o7 ?_;refine frA (aG rfl rfl rfl) rfl ?_)|(refine QA ?_;refine frA (bK rfl) rfl ?_)|(refine kW ?_;refine frA (bH rfl rfl) rfl ?_))|(refine fG ?_;first|(refine fFA ?_;refine fE rfl (aB rfl) rfl ?_)|(refine iH ?_;refine fE rfl (ak rfl (by rfl)) rfl ?_)|(refine o7 ?_;refine fE rfl (aG rfl rfl rfl) rfl ?_)|(refine QA ?_;refine fE rfl (bK rfl) rfl ?_)|(refine Gn ?_;refine fE rfl (iR rfl) rfl ?_))|(refine fD ⟨by kernel_rfl,?_⟩)|refine aS ?_|refine aj ?_|refine dH (by kernel_rfl) rfl ?_|refine ah ?_|refine bg ?_|refine jd ?_|refine fH ?_|refine eG rfl ?_|refine dW ?_|refine aN rfl ?_)
   exact ⟨k+1,⟨⟨by omega,hn⟩,by omega⟩,.of (bT.drop [.ro (flL 1 2 3 S (fun i=>bI (rB S i))),.ro (ints S.d),.ro (pc S.f),.ro (ints S.s),.rw [.pointer (some ⟨0,0,none⟩)],.rw [.int .i64 a,.int .i64 b],.rw (rx l),.rw [.func (.func 90) #[] #[.pointer (some ⟨4,0,none⟩),.pointer (some ⟨5,0,none⟩),.pointer (some ⟨6,0,none⟩)]]] [_,_] (by simp) (Ny S a b l (by simp)) (by (repeat' (first|exact trivial|exact ⟨rfl,rfl,rfl⟩|refine ⟨?_,?_⟩)))) (by simp)⟩
 ·obtain rfl:k=S.d.length:=by omega
  have hr0:qA S a b l 0=none:=by rw [hr,qA,dif_neg (by omega)]
  rw [hr0]
  repeat' (first|(refine gU ?_;first|(refine aP ?_;refine st (au rfl) rfl rfl ?_)|(refine aI ?_;refine st (aA rfl) rfl rfl ?_)|(refine bG ?_;refine st (aG rfl rfl rfl) rfl rfl ?_))|refine aS ?_|refine aj ?_|refine ah ?_|refine bg ?_|refine jd ?_|refine eG rfl ?_|refine dW ?_|refine dX ?_|refine Ky ?_|refine aN rfl ?_)
  exact iF (.tmp rfl .nil) (.plain rfl rfl) ⟨rfl,rfl⟩
end Go.Proofs.Ytomioaiojidnbaa
namespace Go.AH.Dust
open Go Go.AH
theorem Bz (zl:List Value):∀ k,jI zl (k+1)=jI zl k++zl
 |0=>by simp [jI]
 |k+1=>by
  have ih:=Bz zl k
  show zl++jI zl (k+1)=(zl++jI zl k)++zl
  rw [ih,List.append_assoc]
theorem ED {zl:List Value} (h:zl=rx (fun _=>0)):∀ n,jI zl n=iL (fun _ _=>0) n
 |0=>rfl
 |n+1=>by rw [Bz,ED h n,h];rfl
theorem tY {a d:Int} (h1:-10001≤a) (h2:a≤10001) (h3:0≤d) (h4:d≤10):-200000≤a*d∧a*d≤200000:=by
 obtain ⟨n,rfl⟩:∃ n:Nat,d=(n:Int):=⟨d.toNat,by omega⟩
 rcases (show n=0∨n=1∨n=2∨n=3∨n=4∨n=5∨n=6∨n=7∨n=8∨n=9∨n=10 by omega) with rfl|rfl|rfl|rfl|rfl|rfl|rfl|rfl|rfl|rfl|rfl <;> omega
theorem Qe {n:Nat} (hn:8≤n) (S:Shp) (f:Nat→Nat→Int) {r:Heap} (hr:eX n r):eX n ([.ro (flL 1 2 3 S (fun i=>bI (rB S i))),.ro (ints S.d),.ro (pc S.f),.ro (ints S.s),.rw [.pointer (some ⟨0,0,none⟩)],.rw [.int .i64 0,.int .i64 0],.rw (iL (f) (S.d.length+1)),.rw [sl 6 (S.d.length+1)]]++r):=by
 have hp:∀ i,i<8→Nat.blt i n=true:=fun i hi=>Nat.blt_eq.mpr (by omega)
 have h:=jq (n:=n) (i:=6) (l:=S.d.length+1) (c:=S.d.length+1) (by omega)
 exact ⟨nO (by omega),ay (aK _),ay (dJ _),ay (aK _),⟨by simp [dR,closed,hp],rfl⟩,ay rfl,ay (Ez _ _),⟨by simp [dR,h.1],by simp [okL,h.2]⟩,hr⟩
theorem Nz (S:Shp) (f:Nat→Nat→Int):eX 8 [.ro (flL 1 2 3 S (fun i=>bI (rB S i))),.ro (ints S.d),.ro (pc S.f),.ro (ints S.s),.rw [.pointer (some ⟨0,0,none⟩)],.rw [.int .i64 0,.int .i64 0],.rw (iL (f) (S.d.length+1)),.rw [sl 6 (S.d.length+1)]]:=by
 have:=Qe (n:=8) (by omega) S f (r:=[]) trivial
 simpa using this
theorem Qg (S:Shp) (f:Nat→Nat→Int) (h:Nat):eX 9 [.ro (flL 1 2 3 S (fun i=>bI (rB S i))),.ro (ints S.d),.ro (pc S.f),.ro (ints S.s),.rw [.pointer (some ⟨0,0,none⟩)],.rw [.int .i64 0,.int .i64 0],.rw (iL (f) (S.d.length+1)),.rw [sl 6 (S.d.length+1)],.rw [.int .i64 (h:Int)]]:=Qe (by omega) S f ⟨ay rfl,trivial⟩
theorem H9 (S:Shp) (f:Nat→Nat→Int) (h n:Nat) (L:cu) (hL:fJ 14 L):eX 14 [.ro (flL 1 2 3 S (fun i=>bI (rB S i))),.ro (ints S.d),.ro (pc S.f),.ro (ints S.s),.rw [.pointer (some ⟨0,0,none⟩)],.rw [.int .i64 0,.int .i64 0],.rw (iL (f) (S.d.length+1)),.rw [sl 6 (S.d.length+1)],.rw [.int .i64 (h:Int)],.rw [.int .i64 (n:Int)],.rw [.pointer (some ⟨0,0,none⟩)],.rw [.int .i64 (n:Int)],.dfr,L] :=
 Qe (by omega) S f ⟨ay rfl,ay rfl,⟨rfl,rfl⟩,ay rfl,trivial,hL,trivial⟩
theorem hc_ma (S:Shp) (f:Nat→Nat→Int) (l:List (Int×Int)):eX 9 [.ro (flL 1 2 3 S (fun i=>bI (rB S i))),.ro (ints S.d),.ro (pc S.f),.ro (ints S.s),.rw [.pointer (some ⟨0,0,none⟩)],.rw [.int .i64 0,.int .i64 0],.rw (iL (f) (S.d.length+1)),.rw [sl 6 (S.d.length+1)],.gr (pc l) 52]:=Qe (by omega) S f ⟨ay (dJ _),trivial⟩
theorem EF (S:Shp) (f:Nat→Nat→Int) (l:List (Int×Int)) (a b:Int):eX 10 [.ro (flL 1 2 3 S (fun i=>bI (rB S i))),.ro (ints S.d),.ro (pc S.f),.ro (ints S.s),.rw [.pointer (some ⟨0,0,none⟩)],.rw [.int .i64 0,.int .i64 0],.rw (iL (f) (S.d.length+1)),.rw [sl 6 (S.d.length+1)],.gr (pc l) 52,.rw [.int .i64 a,.int .i64 b]]:=Qe (by omega) S f ⟨ay (dJ _),ay rfl,trivial⟩
theorem set2_self (f:Nat→Nat→Int) (i b:Nat) (u v:Int):set2 (set2 f i b u) i b v=set2 f i b v:=by
 funext j c;unfold set2;split <;> rfl
theorem pc_app (l:List (Int×Int)) (p:Int×Int):pc (l++[p])=pc l++[.int .i64 p.1,.int .i64 p.2]:=by
 induction l with
 |nil=>rfl
 |cons a l ih=>simp [pc,ih]
theorem Ia {l:List (Int×Int)} (hl:0<l.length):∀ {k:Nat},k≤l.length→ni l k ∈ l
 |0,_=>jW.2 ⟨0,hl,rfl⟩
 |k+1,hk=>by
  rw [ni]
  split
  ·exact jW.2 ⟨k,by omega,rfl⟩
  ·exact Ia hl (by omega)
noncomputable def FW (S:Shp):Value:=if (iY S S.d.length).length=0 then .tuple #[rtV 0 0,.bool false] else
 .tuple #[rtV (sZ (ni (iY S S.d.length) (iY S S.d.length).length).1.toNat (ni (iY S S.d.length) (iY S S.d.length).length).2.toNat) (sU (ni (iY S S.d.length) (iY S S.d.length).length).1.toNat (ni (iY S S.d.length) (iY S S.d.length).length).2.toNat),.bool true]
end Go.AH.Dust
namespace Go.Proofs.Ytomioaiojidnbaa
open Go Go.AH
attribute [local irreducible] dO dI dM kK iM gK iC dV iJ dQ iK iE
set_option maxRecDepth 100000
set_option maxHeartbeats 1000000
open Go.AH.Dust
theorem mean72_ok (S:Shp) (hS:S.ok):Ev Try.prog 72 [.pointer (some ⟨0,0,none⟩)] [.ro (flL 1 2 3 S (fun i=>bI (rB S i))),.ro (ints S.d),.ro (pc S.f),.ro (ints S.s)] (FW S) [.ro (flL 1 2 3 S (fun i=>bI (rB S i))),.ro (ints S.d),.ro (pc S.f),.ro (ints S.s)]:=by
 have n1:=hS.n1
 have n10:=hS.n10
 have f60:=hS.f60
 refine aX 4 197 Try.func72 rfl rfl rfl rfl rfl ?_
 repeat' (first|(refine gU ?_;first|(refine aP ?_;refine st (au rfl) rfl rfl ?_)|(refine aI ?_;refine st (aA rfl) rfl rfl ?_)|(refine gFA ?_;refine st (aB rfl) rfl rfl ?_)|(refine aU ?_;refine st (ak rfl (by rfl)) rfl rfl ?_)|(refine iw ?_;refine st (dF rfl rfl (by omega)) rfl rfl ?_)|(refine fK ?_;refine st (bK rfl) rfl rfl ?_)|(refine gNil ?_;refine st (iR rfl) rfl rfl ?_)|(refine kD ?_;refine st (gI rfl) rfl rfl ?_)|(refine eP ?_;refine st (bQ rfl) rfl rfl ?_)|(refine Gm ?_;refine st (wu (by rfl) (by rfl) rfl rfl (by omega) (by omega) (by omega)) rfl rfl ?_)|(refine cO ?_;refine stN (aJ rfl rfl rfl rfl (by rfl)) rfl ?_))|refine aS ?_|refine aj ?_|refine ah ?_|refine bg ?_|refine aO ?_)
 rw [ED (show gB _=rx (fun _=>0) from rfl),kT (g:=fun i b=>if i<0 then oJ S i b else 0) (fun i _ b _=>by rw [if_neg (by omega)])]
 refine Tail.lW (ι:=Nat) (fun h=>[(1,.pointer (some ⟨4,0,none⟩)),(2,.pointer (some ⟨5,0,none⟩)),(3,.bool false),(4,.int .i64 (S.d.length:Int)),(5,.pointer (some ⟨7,0,none⟩)),(29,.int .i64 ((S.d.length+1:Nat):Int)),(30,.int .i64 (h:Int))])
  (fun h=>[.ro (flL 1 2 3 S (fun i=>bI (rB S i))),.ro (ints S.d),.ro (pc S.f),.ro (ints S.s),.rw [.pointer (some ⟨0,0,none⟩)],.rw [.int .i64 0,.int .i64 0],.rw (iL (fun i b=>if i<h then oJ S i b else 0) (S.d.length+1)),.rw [sl 6 (S.d.length+1)]]) (fun h=>S.d.length+1 - h) (fun h=>h≤S.d.length+1) 0 rfl (by (repeat' (first|exact Tail.kR rfl|refine Tail.jO ?_ ?_|refine Tail.jw ?_|refine Tail.oG rfl ?_))) (fun _=>by simp) (fun h _=>Nz S _)
  (.of (.same ⟨rfl,rfl,rfl,rfl,rfl,rfl,rfl,trivial⟩) (by simp)) (by omega) ?_
 intro h hh
 by_cases hhH:h<S.d.length+1
 ·rw [← f2_start]
  repeat' (first|(refine gU ?_;first|(refine aP ?_;refine st (au rfl) rfl rfl ?_)|(refine gFA ?_;refine st (aB rfl) rfl rfl ?_)|(refine aU ?_;refine st (ak rfl (by rfl)) rfl rfl ?_)|(refine bG ?_;refine st (aG rfl rfl rfl) rfl rfl ?_)|(refine fK ?_;refine st (bK rfl) rfl rfl ?_)|(refine gNil ?_;refine st (iR rfl) rfl rfl ?_)|(refine eP ?_;refine st (bQ rfl) rfl rfl ?_)|(refine cO ?_;refine stN (aJ rfl rfl rfl rfl (by rfl)) rfl ?_))|refine aS ?_|refine aj ?_|refine ah ?_|refine bg ?_|refine aW ?_|refine aO ?_|refine aQ rfl ?_)
  refine Tail.lW (ι:=Nat) (fun n=>[(1,.pointer (some ⟨4,0,none⟩)),(2,.pointer (some ⟨5,0,none⟩)),(3,.bool false),(4,.int .i64 (S.d.length:Int)),(5,.pointer (some ⟨7,0,none⟩)),(6,.pointer (some ⟨8,0,none⟩)),(29,.int .i64 ((S.d.length+1:Nat):Int)),(30,.int .i64 (h:Int)),(38,.int .i64 (S.d.length:Int)),(39,.int .i64 (n:Int))])
   (fun n=>[.ro (flL 1 2 3 S (fun i=>bI (rB S i))),.ro (ints S.d),.ro (pc S.f),.ro (ints S.s),.rw [.pointer (some ⟨0,0,none⟩)],.rw [.int .i64 0,.int .i64 0],.rw (iL (f2 S h n) (S.d.length+1)),.rw [sl 6 (S.d.length+1)],.rw [.int .i64 (h:Int)]]) (fun n=>S.d.length - n) (fun n=>n≤S.d.length) 0 rfl (by (repeat' (first|exact Tail.kR rfl|exact Tail.oH|refine Tail.jO ?_ ?_|refine Tail.jw ?_|refine Tail.oG rfl ?_))) (fun _=>by simp) (fun n _=>Qg S _ h)
   (.of (.same ⟨rfl,rfl,rfl,rfl,rfl,rfl,rfl,rfl,rfl,rfl,trivial⟩) (by simp)) (Nat.zero_le _) ?_
  ·intro n hn
   by_cases hnd:n<S.d.length
   ·have hn10:n<10:=by omega
    have hst:=f2_set (S:=S) (h:=h) hnd (S.d.length+1)
    have hput:=sO (σ:=[.ro (flL 1 2 3 S (fun i=>bI (rB S i))),.ro (ints S.d),.ro (pc S.f),.ro (ints S.s),.rw [.pointer (some ⟨0,0,none⟩)],.rw [.int .i64 0,.int .i64 0],.rw (iL (f2 S h n) (S.d.length+1)),.rw [sl 6 (S.d.length+1)],.rw [.int .i64 (h:Int)]]) (b:=6) (o:=0+h*10+n*1) (cs':=iL (set2 (f2 S h n) h n (-1)) (S.d.length+1)) (vs:=[.int .i64 (-1)]) rfl (by rw [pO];simp;omega) (by rw [pO];omega) (by rw [Nat.zero_add,Nat.mul_one];exact zJ hhH hn10)
    have hisr:=pJ (σ:=[.ro (flL 1 2 3 S (fun i=>bI (rB S i))),.ro (ints S.d),.ro (pc S.f),.ro (ints S.s),.rw [.pointer (some ⟨0,0,none⟩)],.rw [.int .i64 0,.int .i64 0],.rw (iL (set2 (f2 S h n) h n (-1)) (S.d.length+1)),.rw [sl 6 (S.d.length+1)],.rw [.int .i64 (h:Int)]]) (S:=S) (q:=rB S) (r:=fun i=>bI (rB S i)) (n:=n) (p:=0) (x:=1) (y:=2) (z:=3) ⟨.inl rfl,.inl rfl,.inl rfl,.inl rfl⟩ rfl hn10 rfl
    have hput2:=sO (σ:=[.ro (flL 1 2 3 S (fun i=>bI (rB S i))),.ro (ints S.d),.ro (pc S.f),.ro (ints S.s),.rw [.pointer (some ⟨0,0,none⟩)],.rw [.int .i64 0,.int .i64 0],.rw (iL (set2 (f2 S h n) h n (-1)) (S.d.length+1)),.rw [sl 6 (S.d.length+1)],.rw [.int .i64 (h:Int)]]) (b:=6) (o:=0+h*10+n*1) (cs':=iL (set2 (set2 (f2 S h n) h n (-1)) h n 0) (S.d.length+1)) (vs:=[.int .i64 0]) rfl (by rw [pO];simp;omega) (by rw [pO];omega) (by rw [Nat.zero_add,Nat.mul_one];exact zJ hhH hn10)
    rw [set2_self] at hput2
    by_cases h0:(h:Int)=0
    ·cases hr:rB S n with
     |true =>
      rw [hr] at hisr
      rw [if_pos (by omega),show bR S n=0 by unfold bR;rw [if_pos hr]] at hst
      rw [hst] at hput2
      repeat' (first|(refine gU ?_;first|(refine aP ?_;refine st (au rfl) rfl rfl ?_)|(refine aI ?_;refine st (aA rfl) rfl rfl ?_)|(refine aU ?_;refine st (ak rfl (by rfl)) rfl rfl ?_)|(refine iw ?_;refine st (dF rfl rfl (by omega)) rfl rfl ?_)|(refine bG ?_;refine st (aG rfl rfl rfl) rfl rfl ?_)|(refine eY ?_;refine st (bH rfl rfl) rfl rfl ?_)|(refine gIA ?_;first|refine st (bZ rfl rfl (by omega)) rfl rfl ?_|refine st (gQ rfl rfl (by omega)) rfl rfl ?_)|(refine cO ?_;refine stN (aJ rfl rfl rfl rfl (by first|exact hput|exact hput2)) rfl ?_))|(refine gG ?_;first|(refine aP ?_;refine bP rfl (au rfl) rfl rfl ?_)|(refine aU ?_;refine bP rfl (ak rfl (by rfl)) rfl rfl ?_)|(refine fC ?_;refine bP rfl (bC rfl rfl rfl (by exact hisr)) rfl rfl ?_))|refine aS ?_|refine aj ?_|refine ah ?_|refine bg ?_|refine fH ?_|refine aW ?_|refine aO ?_|refine aQ rfl ?_)
      exact ⟨n+1,⟨by omega,by omega⟩,.of (.same ⟨rfl,rfl,rfl,rfl,rfl,rfl,rfl,rfl,rfl,rfl,trivial⟩) (by simp)⟩
     |false =>
      rw [hr] at hisr
      rw [if_pos (by omega),show bR S n=-1 by unfold bR;rw [if_neg (by rw [hr];simp)]] at hst
      rw [hst] at hput hisr
      repeat' (first|(refine gU ?_;first|(refine aP ?_;refine st (au rfl) rfl rfl ?_)|(refine aI ?_;refine st (aA rfl) rfl rfl ?_)|(refine aU ?_;refine st (ak rfl (by rfl)) rfl rfl ?_)|(refine iw ?_;refine st (dF rfl rfl (by omega)) rfl rfl ?_)|(refine bG ?_;refine st (aG rfl rfl rfl) rfl rfl ?_)|(refine eY ?_;refine st (bH rfl rfl) rfl rfl ?_)|(refine gIA ?_;first|refine st (bZ rfl rfl (by omega)) rfl rfl ?_|refine st (gQ rfl rfl (by omega)) rfl rfl ?_)|(refine cO ?_;refine stN (aJ rfl rfl rfl rfl (by exact hput)) rfl ?_))|(refine gG ?_;first|(refine aP ?_;refine bP rfl (au rfl) rfl rfl ?_)|(refine aU ?_;refine bP rfl (ak rfl (by rfl)) rfl rfl ?_)|(refine fC ?_;refine bP rfl (bC rfl rfl rfl (by exact hisr)) rfl rfl ?_))|refine aS ?_|refine aj ?_|refine ah ?_|refine bg ?_|refine fH ?_|refine aW ?_|refine aO ?_|refine aQ rfl ?_|refine aN rfl ?_)
      exact ⟨n+1,⟨by omega,by omega⟩,.of (.same ⟨rfl,rfl,rfl,rfl,rfl,rfl,rfl,rfl,rfl,rfl,trivial⟩) (by simp)⟩
    ·rw [if_neg (by omega)] at hst
     rw [hst] at hput
     clear hisr hput2
     repeat' (first|(refine gU ?_;first|(refine aP ?_;refine st (au rfl) rfl rfl ?_)|(refine aI ?_;refine st (aA rfl) rfl rfl ?_)|(refine aU ?_;refine st (ak rfl (by rfl)) rfl rfl ?_)|(refine iw ?_;refine st (dF rfl rfl (by omega)) rfl rfl ?_)|(refine bG ?_;refine st (aG rfl rfl rfl) rfl rfl ?_)|(refine eY ?_;refine st (bY rfl rfl) rfl rfl ?_)|(refine gIA ?_;first|refine st (bZ rfl rfl (by omega)) rfl rfl ?_|refine st (gQ rfl rfl (by omega)) rfl rfl ?_)|(refine cO ?_;refine stN (aJ rfl rfl rfl rfl (by exact hput)) rfl ?_))|(refine gG ?_;refine nU rfl rfl ?_)|refine aS ?_|refine aj ?_|refine ah ?_|refine bg ?_|refine fH ?_|refine aW ?_|refine aO ?_|refine aQ rfl ?_|refine aN rfl ?_)
     exact ⟨n+1,⟨by omega,by omega⟩,.of (.same ⟨rfl,rfl,rfl,rfl,rfl,rfl,rfl,rfl,rfl,rfl,trivial⟩) (by simp)⟩
   ·obtain rfl:n=S.d.length:=by omega
    rw [f2_f3 hS]
    repeat' (first|(refine gU ?_;first|(refine aP ?_;refine st (au rfl) rfl rfl ?_)|(refine gFA ?_;refine st (aB rfl) rfl rfl ?_)|(refine aU ?_;refine st (ak rfl (by rfl)) rfl rfl ?_)|(refine bG ?_;refine st (aG rfl rfl rfl) rfl rfl ?_)|(refine fK ?_;refine st (bK rfl) rfl rfl ?_)|(refine gNil ?_;refine st (iR rfl) rfl rfl ?_))|refine aS ?_|refine aj ?_|refine ah ?_|refine bg ?_|refine jd ?_|refine eG rfl ?_|refine dW ?_|refine aO ?_|refine aN rfl ?_)
    refine Tail.lW (ι:=Nat) (fun n=>[(1,.pointer (some ⟨4,0,none⟩)),(2,.pointer (some ⟨5,0,none⟩)),(3,.bool false),(4,.int .i64 (S.d.length:Int)),(5,.pointer (some ⟨7,0,none⟩)),(6,.pointer (some ⟨8,0,none⟩)),(29,.int .i64 ((S.d.length+1:Nat):Int)),(30,.int .i64 (h:Int)),(65,.int .i64 (S.d.length:Int)),(66,.int .i64 (n:Int))])
     (fun n=>[.ro (flL 1 2 3 S (fun i=>bI (rB S i))),.ro (ints S.d),.ro (pc S.f),.ro (ints S.s),.rw [.pointer (some ⟨0,0,none⟩)],.rw [.int .i64 0,.int .i64 0],.rw (iL (f3 S h n 0) (S.d.length+1)),.rw [sl 6 (S.d.length+1)],.rw [.int .i64 (h:Int)]]) (fun n=>S.d.length - n) (fun n=>n≤S.d.length) 0 rfl (by (repeat' (first|exact Tail.kR rfl|exact Tail.oH|refine Tail.jO ?_ ?_|refine Tail.jw ?_|refine Tail.oG rfl ?_))) (fun _=>by simp) (fun n _=>Qg S _ h)
     (.of (.same ⟨rfl,rfl,rfl,rfl,rfl,rfl,rfl,rfl,rfl,rfl,trivial⟩) (by simp)) (Nat.zero_le _) ?_
    clear hn hnd
    intro n hn
    by_cases hnd:n<S.d.length
    ·have hn10:n<10:=by omega
     have hnx:=xI (σ:=[.ro (flL 1 2 3 S (fun i=>bI (rB S i))),.ro (ints S.d),.ro (pc S.f),.ro (ints S.s),.rw [.pointer (some ⟨0,0,none⟩)],.rw [.int .i64 0,.int .i64 0],.rw (iL (f3 S h n 0) (S.d.length+1)),.rw [sl 6 (S.d.length+1)],.rw [.int .i64 (h:Int)],.rw [.int .i64 (n:Int)]]) (S:=S) (r:=fun i=>bI (rB S i)) (n:=(n:Int)) (p:=0) (x:=1) (y:=2) (z:=3) ⟨.inl rfl,.inl rfl,.inl rfl,.inl rfl⟩ rfl
     repeat' (first|(refine gU ?_;first|(refine aP ?_;refine st (au rfl) rfl rfl ?_)|(refine aU ?_;refine st (ak rfl (by rfl)) rfl rfl ?_)|(refine bG ?_;refine st (aG rfl rfl rfl) rfl rfl ?_)|(refine fC ?_;refine st (bC rfl rfl rfl (by exact hnx)) rfl rfl ?_)|(refine eP ?_;refine st (bQ rfl) rfl rfl ?_)|(refine cO ?_;refine stN (aJ rfl rfl rfl rfl (by rfl)) rfl ?_))|refine aS ?_|refine aj ?_|refine ah ?_|refine bg ?_|refine aW ?_|refine aO ?_|refine aQ rfl ?_)
     refine Gs (by simp) (.same (e2:=[(1,.pointer (some ⟨4,0,none⟩)),(2,.pointer (some ⟨5,0,none⟩)),(3,.bool false),(4,.int .i64 (S.d.length:Int)),(5,.pointer (some ⟨7,0,none⟩)),(6,.pointer (some ⟨8,0,none⟩)),(8,.pointer (some ⟨9,0,none⟩)),(29,.int .i64 ((S.d.length+1:Nat):Int)),(30,.int .i64 (h:Int)),(65,.int .i64 (S.d.length:Int)),(66,.int .i64 (n:Int)),(71,.func (.func 87) #[] #[.pointer (some ⟨10,0,none⟩),.pointer (some ⟨11,0,none⟩)])]) ⟨rfl,rfl,rfl,rfl,rfl,rfl,rfl,rfl,rfl,rfl,rfl,rfl,trivial⟩) ?_
     refine nK (p:=[]) (q:=[.pointer (some ⟨10,0,none⟩),.pointer (some ⟨11,0,none⟩)]) rfl fun L hL=>?_
     have hLc:fJ 14 L:=by
      rw [hL]
      exact qo fun p hp=>by
       simp only [List.mem_cons,List.not_mem_nil,or_false] at hp
       rcases hp with rfl|rfl|rfl|rfl|rfl|rfl|rfl|rfl|rfl|rfl|rfl|rfl <;> exact ⟨rfl,rfl⟩
     have hLi:dB L=false:=by rw [hL];rfl
     refine aX 14 28 Try.func87 rfl rfl rfl rfl rfl ?_
     repeat' (first|(refine gU ?_;first|(refine aP ?_;refine st (au rfl) rfl rfl ?_)|(refine gFA ?_;refine st (aB rfl) rfl rfl ?_)|(refine aU ?_;refine st (ak rfl (by rfl)) rfl rfl ?_)|(refine fK ?_;refine st (bK rfl) rfl rfl ?_)|(refine gNil ?_;refine st (iR rfl) rfl rfl ?_))|refine aS ?_|refine aj ?_|refine ah ?_|refine bg ?_|refine aO ?_)
     refine iD (ι:=Nat) (fun k=>[(0,.func (.yield 13) #[] #[]),(1,.pointer (some ⟨10,0,none⟩)),(2,.pointer (some ⟨11,0,none⟩)),(10,sl 2 S.f.length),(11,.int .i64 (S.f.length:Int)),(12,.int .i64 (k:Int))])
      (fun k=>[.ro (flL 1 2 3 S (fun i=>bI (rB S i))),.ro (ints S.d),.ro (pc S.f),.ro (ints S.s),.rw [.pointer (some ⟨0,0,none⟩)],.rw [.int .i64 0,.int .i64 0],.rw (iL (f3 S h n k) (S.d.length+1)),.rw [sl 6 (S.d.length+1)],.rw [.int .i64 (h:Int)],.rw [.int .i64 (n:Int)],.rw [.pointer (some ⟨0,0,none⟩)],.rw [.int .i64 (n:Int)],.dfr,L]) (fun k=>S.f.length - k) (fun k=>k≤S.f.length) 0 (by simp) (.same ⟨rfl,rfl,rfl,rfl,rfl,rfl,trivial⟩) (by omega) ?_
     intro k hk
     clear hnx
     by_cases hkl:k<S.f.length
     ·have hd2:∀ σ':Heap,dh (.ro (flL 1 2 3 S (fun i=>bI (rB S i)))::.ro (ints S.d)::.ro (pc S.f)::σ') 2 (0+k*2) 2=some [.int .i64 (gf S.f k).1,.int .i64 (gf S.f k).2]:=fun σ'=>lX (.inl rfl) hkl
      obtain ⟨hw1,hw2,-⟩:=hS.f k hkl
      by_cases ha:(gf S.f k).1=(n:Int)
      ·cases h with
       |zero =>
        have hsk:iL (f3 S 0 n (k+1)) (S.d.length+1)=iL (f3 S 0 n k) (S.d.length+1):=f3_zero _
        generalize gf S.f k=p at *
        obtain ⟨a,b⟩:=p
        simp only at hw1 hw2 hd2 ha
        repeat' (first|(refine gU ?_;first|(refine aP ?_;refine st (au rfl) rfl rfl ?_)|(refine aU ?_;first|refine st (ak rfl (by rfl)) rfl rfl ?_|refine st (aZ rfl (by exact hd2 _)) rfl rfl ?_)|(refine bG ?_;refine st (aG rfl rfl rfl) rfl rfl ?_)|(refine gIA ?_;first|refine st (bZ rfl rfl (by omega)) rfl rfl ?_|refine st (bV rfl rfl (by omega) (by omega)) rfl rfl ?_)|(refine eP ?_;refine st (bQ rfl) rfl rfl ?_)|(refine cO ?_;refine stN (aJ rfl rfl rfl rfl (by rfl)) rfl ?_))|(refine gG ?_;first|(refine aP ?_;refine bP rfl (au rfl) rfl rfl ?_)|(refine aU ?_;refine bP rfl (ak rfl (by rfl)) rfl rfl ?_)|(refine gIA ?_;refine bP rfl (bV rfl rfl (by omega) (by omega)) rfl rfl ?_))|refine aS ?_|refine aj ?_|refine ah ?_|refine bg ?_|refine aW ?_|refine aO ?_|refine aQ rfl ?_)
        refine iT (l:=13) rfl rfl (by rw [hL];rfl) rfl rfl rfl (fun _ _ _ _ he=>ig (b:=true) (by rw [fM (b:=decide (a=(n:Int))) rfl,decide_eq_true ha];rfl) he) ?_
        repeat' (first|(refine gU ?_;(refine aI ?_;refine st (aA rfl) rfl rfl ?_))|refine aj ?_|refine ah ?_)
        refine jB (by rw [hL];rfl) ?_
        repeat' (first|(refine fU ?_;first|(refine gZ ?_;refine frA (au rfl) rfl ?_)|(refine iH ?_;refine frA (ak rfl (by rfl)) rfl ?_)|(refine o7 ?_;refine frA (aG rfl rfl rfl) rfl ?_)|(refine kW ?_;refine frA (bY rfl rfl) rfl ?_))|(refine fG ?_;refine EK rfl rfl ?_)|(refine fD ⟨by kernel_rfl,?_⟩)|refine aS ?_|refine dH (by kernel_rfl) rfl ?_|refine ah ?_|refine bg ?_|refine fH ?_|refine aW ?_|refine aO ?_|refine aN rfl ?_)
        refine jC rfl rfl ?_
        repeat' (first|(refine gU ?_;first|(refine aP ?_;refine st (au rfl) rfl rfl ?_)|(refine iw ?_;refine st (dF rfl rfl (by omega)) rfl rfl ?_)|(refine eY ?_;refine st (bH rfl rfl) rfl rfl ?_))|(refine gG ?_;(refine kX ?_;refine bP rfl (gX rfl) rfl rfl ?_))|refine aj ?_|refine ah ?_|refine bg ?_|refine fH ?_|refine aW ?_|refine aN rfl ?_)
        refine ⟨rfl,k+1,by omega,by omega,?_⟩
        rw [hL,hsk]
        exact bT.drop [.ro (flL 1 2 3 S (fun i=>bI (rB S i))),.ro (ints S.d),.ro (pc S.f),.ro (ints S.s),.rw [.pointer (some ⟨0,0,none⟩)],.rw [.int .i64 0,.int .i64 0],.rw (iL (f3 S 0 n k) (S.d.length+1)),.rw [sl 6 (S.d.length+1)],.rw [.int .i64 ((0:Nat):Int)],.rw [.int .i64 (n:Int)],.rw [.pointer (some ⟨0,0,none⟩)],.rw [.int .i64 (n:Int)],.dfr,_] [_] (by simp) (H9 S _ 0 n _ (by have:=hLc;rw [hL] at this;exact this)) (by (repeat' (first|exact trivial|exact ⟨rfl,rfl,rfl⟩|exact ⟨rfl,bM rfl,rfl⟩|refine ⟨?_,?_⟩)))
       |succ h' =>
        have hc1:∀ σ':Heap,cZ (cu.ro (flL 1 2 3 S (fun i=>bI (rB S i)))::.ro (ints S.d)::.ro (pc S.f)::.ro (ints S.s)::.rw [.pointer (some ⟨0,0,none⟩)]::.rw [.int .i64 0,.int .i64 0]::.rw (iL (f3 S (h'+1) n k) (S.d.length+1))::.rw [sl 6 (S.d.length+1)]::σ') 6 (0+((((h'+1:Nat):Int) - 1).toNat)*10+n*1)=some (.int .i64 (wR S h' n)):=fun σ'=>by
         have:=Cm (f:=f3 S (h'+1) n k) (n:=S.d.length+1) (i:=h') (b:=n) (by omega) hn10
         have e:f3 S (h'+1) n k h' n=wR S h' n:=by unfold f3 oJ;rw [if_pos (by omega),if_pos hnd]
         rw [e] at this
         rw [show (((h'+1:Nat):Int) - 1).toNat=h' by omega,Nat.zero_add,Nat.mul_one];exact this
        have hxb:-1≤wR S h' n∧wR S h' n≤10000:=by
         have:=oZ hS (fun v _=>tX S v) (h:=h') hnd
         simp only [wR];omega
        by_cases hx:wR S h' n≥0
        ·have hst:=f3_set hS hkl ha hx (S.d.length+1)
         have hMb:=rw3_bound hS (h:=h'+1) (n:=n) (k:=k) (b:=(gf S.f k).2.toNat) (by omega)
         have hdn:=hS.d n hnd
         have hc2:∀ σ':Heap,cZ (cu.ro (flL 1 2 3 S (fun i=>bI (rB S i)))::.ro (ints S.d)::.ro (pc S.f)::.ro (ints S.s)::.rw [.pointer (some ⟨0,0,none⟩)]::.rw [.int .i64 0,.int .i64 0]::.rw (iL (f3 S (h'+1) n k) (S.d.length+1))::.rw [sl 6 (S.d.length+1)]::σ') 6 (0+(h'+1)*10+(gf S.f k).2.toNat*1)=some (.int .i64 (rw3 S (h'+1) n k (gf S.f k).2.toNat)):=fun σ'=>by
          have:=Cm (f:=f3 S (h'+1) n k) (n:=S.d.length+1) (i:=h'+1) (b:=(gf S.f k).2.toNat) (by omega) (by omega)
          have e:f3 S (h'+1) n k (h'+1) (gf S.f k).2.toNat=rw3 S (h'+1) n k (gf S.f k).2.toNat:=by unfold f3;rw [if_neg (by omega),if_pos rfl]
          rw [e] at this
          rw [Nat.zero_add,Nat.mul_one];exact this
         have hput3:∀ (σ':Heap) (v:Int),putCells (cu.ro (flL 1 2 3 S (fun i=>bI (rB S i)))::.ro (ints S.d)::.ro (pc S.f)::.ro (ints S.s)::.rw [.pointer (some ⟨0,0,none⟩)]::.rw [.int .i64 0,.int .i64 0]::.rw (iL (f3 S (h'+1) n k) (S.d.length+1))::.rw [sl 6 (S.d.length+1)]::σ') 6 (0+(h'+1)*10+(gf S.f k).2.toNat*1) [.int .i64 v]=some (cu.ro (flL 1 2 3 S (fun i=>bI (rB S i)))::.ro (ints S.d)::.ro (pc S.f)::.ro (ints S.s)::.rw [.pointer (some ⟨0,0,none⟩)]::.rw [.int .i64 0,.int .i64 0]::.rw (iL (set2 (f3 S (h'+1) n k) (h'+1) (gf S.f k).2.toNat v) (S.d.length+1))::.rw [sl 6 (S.d.length+1)]::σ'):=fun σ' v =>
          sO rfl (by rw [pO];simp;omega) (by rw [pO];omega) (by rw [Nat.zero_add,Nat.mul_one];exact zJ (by omega) (by omega))
         have hc3:∀ σ':Heap,cZ (cu.ro (flL 1 2 3 S (fun i=>bI (rB S i)))::.ro (ints S.d)::.ro (pc S.f)::.ro (ints S.s)::.rw [.pointer (some ⟨0,0,none⟩)]::.rw [.int .i64 0,.int .i64 0]::.rw (iL (f3 S (h'+1) n k) (S.d.length+1))::.rw [sl 6 (S.d.length+1)]::σ') 1 (0+n*1)=some (.int .i64 (gi S.d n)):=fun σ'=>by rw [Nat.zero_add,Nat.mul_one];exact gV hnd
         have hc4:∀ σ':Heap,cZ (cu.ro (flL 1 2 3 S (fun i=>bI (rB S i)))::.ro (ints S.d)::.ro (pc S.f)::.ro (ints S.s)::.rw [.pointer (some ⟨0,0,none⟩)]::.rw [.int .i64 0,.int .i64 0]::.rw (iL (f3 S (h'+1) n k) (S.d.length+1))::.rw [sl 6 (S.d.length+1)]::σ') 1 n=some (.int .i64 (gi S.d n)):=fun σ'=>gV hnd
         have hc5:∀ σ':Heap,cZ (cu.ro (flL 1 2 3 S (fun i=>bI (rB S i)))::.ro (ints S.d)::.ro (pc S.f)::.ro (ints S.s)::.rw [.pointer (some ⟨0,0,none⟩)]::.rw [.int .i64 0,.int .i64 0]::.rw (iL (f3 S (h'+1) n k) (S.d.length+1))::.rw [sl 6 (S.d.length+1)]::σ') 1 (n*1)=some (.int .i64 (gi S.d n)):=fun σ'=>by rw [Nat.mul_one];exact gV hnd
         generalize rw3 S (h'+1) n k (gf S.f k).2.toNat=M at *
         generalize wR S h' n=x at *
         generalize hp:gf S.f k=p at *
         obtain ⟨a,b⟩:=p
         simp only at hw1 hw2 hd2 ha hc2 hput3 hst
         repeat' (first|(refine gU ?_;first|(refine aP ?_;refine st (au rfl) rfl rfl ?_)|(refine aU ?_;first|refine st (ak rfl (by rfl)) rfl rfl ?_|refine st (aZ rfl (by exact hd2 _)) rfl rfl ?_)|(refine bG ?_;refine st (aG rfl rfl rfl) rfl rfl ?_)|(refine gIA ?_;first|refine st (bZ rfl rfl (by omega)) rfl rfl ?_|refine st (bV rfl rfl (by omega) (by omega)) rfl rfl ?_)|(refine eP ?_;refine st (bQ rfl) rfl rfl ?_)|(refine cO ?_;refine stN (aJ rfl rfl rfl rfl (by rfl)) rfl ?_))|(refine gG ?_;first|(refine aP ?_;refine bP rfl (au rfl) rfl rfl ?_)|(refine aU ?_;refine bP rfl (ak rfl (by rfl)) rfl rfl ?_)|(refine gIA ?_;refine bP rfl (bV rfl rfl (by omega) (by omega)) rfl rfl ?_))|refine aS ?_|refine aj ?_|refine ah ?_|refine bg ?_|refine aW ?_|refine aO ?_|refine aQ rfl ?_)
         refine iT (l:=13) rfl rfl (by rw [hL];rfl) rfl rfl rfl (fun _ _ _ _ he=>ig (b:=true) (by rw [fM (b:=decide (a=(n:Int))) rfl,decide_eq_true ha];rfl) he) ?_
         repeat' (first|(refine gU ?_;(refine aI ?_;refine st (aA rfl) rfl rfl ?_))|refine aj ?_|refine ah ?_)
         refine jB (by rw [hL];rfl) ?_
         repeat' (first|(refine gU ?_;(refine cO ?_;refine stN (aJ rfl rfl rfl rfl (by exact hput3 _ _)) rfl ?_))|(refine fU ?_;first|(refine gZ ?_;refine frA (au rfl) rfl ?_)|(refine fFA ?_;refine frA (aB rfl) rfl ?_)|(refine iH ?_;refine frA (ak rfl (by first|rfl|exact hc1 _|exact hc2 _|exact hc4 _)) rfl ?_)|(refine fAdd ?_;refine frA (tZ rfl rfl (by omega) (by omega)) rfl ?_)|(refine fSub ?_;refine frA (kC rfl rfl (by omega) (by omega)) rfl ?_)|(refine o7 ?_;refine frA (aG rfl rfl rfl) rfl ?_)|(refine kW ?_;refine frA (bH rfl rfl) rfl ?_)|(refine Gn ?_;refine frA (iR rfl) rfl ?_)|(refine fIA ?_;first|refine frA (gJ rfl rfl (by omega)) rfl ?_|refine frA (bZ rfl rfl (by omega)) rfl ?_|refine frA (gQ rfl rfl (by omega)) rfl ?_|refine frA (lC rfl rfl (by omega) (by omega)) rfl ?_|refine frA (bV rfl rfl (by omega) (by omega)) rfl ?_)|(refine Ol ?_;refine frA (zT rfl rfl) rfl ?_))|(refine fG ?_;first|(refine iH ?_;refine fE rfl (ak rfl (by first|rfl|exact hc1 _)) rfl ?_)|(refine fSub ?_;refine fE rfl (kC rfl rfl (by omega) (by omega)) rfl ?_)|(refine o7 ?_;refine fE rfl (aG rfl rfl rfl) rfl ?_)|(refine fIA ?_;first|refine fE rfl (gQ rfl rfl (by omega)) rfl ?_|refine fE rfl (lC rfl rfl (by omega) (by omega)) rfl ?_))|(refine fD ⟨by kernel_rfl,?_⟩)|refine aS ?_|refine dH (by kernel_rfl) rfl ?_|refine ah ?_|refine bg ?_|refine fH ?_|refine aO ?_|refine aQ rfl ?_)
         refine jC rfl rfl ?_
         repeat' (first|(refine gU ?_;first|(refine aP ?_;refine st (au rfl) rfl rfl ?_)|(refine iw ?_;refine st (dF rfl rfl (by omega)) rfl rfl ?_)|(refine eY ?_;refine st (bH rfl rfl) rfl rfl ?_))|(refine gG ?_;(refine kX ?_;refine bP rfl (gX rfl) rfl rfl ?_))|refine aj ?_|refine ah ?_|refine bg ?_|refine fH ?_|refine aW ?_|refine aN rfl ?_)
         refine ⟨rfl,k+1,by omega,by omega,?_⟩
         rw [hL,← hst]
         exact bT.drop [.ro (flL 1 2 3 S (fun i=>bI (rB S i))),.ro (ints S.d),.ro (pc S.f),.ro (ints S.s),.rw [.pointer (some ⟨0,0,none⟩)],.rw [.int .i64 0,.int .i64 0],.rw (iL (set2 (f3 S (h'+1) n k) (h'+1) b.toNat (max M (x+gi S.d n))) (S.d.length+1)),.rw [sl 6 (S.d.length+1)],.rw [.int .i64 ((h'+1:Nat):Int)],.rw [.int .i64 (n:Int)],.rw [.pointer (some ⟨0,0,none⟩)],.rw [.int .i64 (n:Int)],.dfr,_] [_] (by simp) (H9 S _ (h'+1) n _ (by have:=hLc;rw [hL] at this;exact this)) (by (repeat' (first|exact trivial|exact ⟨rfl,rfl,rfl⟩|exact ⟨rfl,bM rfl,rfl⟩|refine ⟨?_,?_⟩)))
        ·have hsk:=f3_no hS hkl ha (fun x=>hx x) (S.d.length+1)
         generalize wR S h' n=x at *
         generalize gf S.f k=p at *
         obtain ⟨a,b⟩:=p
         simp only at hw1 hw2 hd2 ha
         repeat' (first|(refine gU ?_;first|(refine aP ?_;refine st (au rfl) rfl rfl ?_)|(refine aU ?_;first|refine st (ak rfl (by rfl)) rfl rfl ?_|refine st (aZ rfl (by exact hd2 _)) rfl rfl ?_)|(refine bG ?_;refine st (aG rfl rfl rfl) rfl rfl ?_)|(refine gIA ?_;first|refine st (bZ rfl rfl (by omega)) rfl rfl ?_|refine st (bV rfl rfl (by omega) (by omega)) rfl rfl ?_)|(refine eP ?_;refine st (bQ rfl) rfl rfl ?_)|(refine cO ?_;refine stN (aJ rfl rfl rfl rfl (by rfl)) rfl ?_))|(refine gG ?_;first|(refine aP ?_;refine bP rfl (au rfl) rfl rfl ?_)|(refine aU ?_;refine bP rfl (ak rfl (by rfl)) rfl rfl ?_)|(refine gIA ?_;refine bP rfl (bV rfl rfl (by omega) (by omega)) rfl rfl ?_))|refine aS ?_|refine aj ?_|refine ah ?_|refine bg ?_|refine aW ?_|refine aO ?_|refine aQ rfl ?_)
         refine iT (l:=13) rfl rfl (by rw [hL];rfl) rfl rfl rfl (fun _ _ _ _ he=>ig (b:=true) (by rw [fM (b:=decide (a=(n:Int))) rfl,decide_eq_true ha];rfl) he) ?_
         repeat' (first|(refine gU ?_;(refine aI ?_;refine st (aA rfl) rfl rfl ?_))|refine aj ?_|refine ah ?_)
         refine jB (by rw [hL];rfl) ?_
         repeat' (first|(refine fU ?_;first|(refine gZ ?_;refine frA (au rfl) rfl ?_)|(refine iH ?_;refine frA (ak rfl (by rfl)) rfl ?_)|(refine o7 ?_;refine frA (aG rfl rfl rfl) rfl ?_)|(refine kW ?_;refine frA (bH rfl rfl) rfl ?_))|(refine fG ?_;first|(refine iH ?_;refine fE rfl (ak rfl (by first|rfl|exact hc1 _)) rfl ?_)|(refine fSub ?_;refine fE rfl (kC rfl rfl (by omega) (by omega)) rfl ?_)|(refine o7 ?_;refine fE rfl (aG rfl rfl rfl) rfl ?_)|(refine fIA ?_;first|refine fE rfl (gQ rfl rfl (by omega)) rfl ?_|refine fE rfl (lC rfl rfl (by omega) (by omega)) rfl ?_))|(refine fD ⟨by kernel_rfl,?_⟩)|refine aS ?_|refine dH (by kernel_rfl) rfl ?_|refine ah ?_|refine bg ?_|refine fH ?_|refine aW ?_|refine aO ?_|refine aN rfl ?_)
         refine jC rfl rfl ?_
         repeat' (first|(refine gU ?_;first|(refine aP ?_;refine st (au rfl) rfl rfl ?_)|(refine iw ?_;refine st (dF rfl rfl (by omega)) rfl rfl ?_)|(refine eY ?_;refine st (bH rfl rfl) rfl rfl ?_))|(refine gG ?_;(refine kX ?_;refine bP rfl (gX rfl) rfl rfl ?_))|refine aj ?_|refine ah ?_|refine bg ?_|refine fH ?_|refine aW ?_|refine aN rfl ?_)
         refine ⟨rfl,k+1,by omega,by omega,?_⟩
         rw [hL,hsk]
         exact bT.drop [.ro (flL 1 2 3 S (fun i=>bI (rB S i))),.ro (ints S.d),.ro (pc S.f),.ro (ints S.s),.rw [.pointer (some ⟨0,0,none⟩)],.rw [.int .i64 0,.int .i64 0],.rw (iL (f3 S (h'+1) n k) (S.d.length+1)),.rw [sl 6 (S.d.length+1)],.rw [.int .i64 ((h'+1:Nat):Int)],.rw [.int .i64 (n:Int)],.rw [.pointer (some ⟨0,0,none⟩)],.rw [.int .i64 (n:Int)],.dfr,_] [_] (by simp) (H9 S _ (h'+1) n _ (by have:=hLc;rw [hL] at this;exact this)) (by (repeat' (first|exact trivial|exact ⟨rfl,rfl,rfl⟩|exact ⟨rfl,bM rfl,rfl⟩|refine ⟨?_,?_⟩)))
      ·have hsk:=f3_skip (S:=S) (h:=h) (n:=n) (k:=k) ha (S.d.length+1)
       generalize gf S.f k=p at *
       obtain ⟨a,b⟩:=p
       simp only at hw1 hw2 hd2 ha
       repeat' (first|(refine gU ?_;first|(refine aP ?_;refine st (au rfl) rfl rfl ?_)|(refine aU ?_;first|refine st (ak rfl (by rfl)) rfl rfl ?_|refine st (aZ rfl (by exact hd2 _)) rfl rfl ?_)|(refine iw ?_;refine st (dF rfl rfl (by omega)) rfl rfl ?_)|(refine bG ?_;refine st (aG rfl rfl rfl) rfl rfl ?_)|(refine eY ?_;refine st (bY rfl rfl) rfl rfl ?_)|(refine gIA ?_;first|refine st (bZ rfl rfl (by omega)) rfl rfl ?_|refine st (bV rfl rfl (by omega) (by omega)) rfl rfl ?_)|(refine eP ?_;refine st (bQ rfl) rfl rfl ?_)|(refine cO ?_;refine stN (aJ rfl rfl rfl rfl (by rfl)) rfl ?_))|(refine gG ?_;refine nU rfl rfl ?_)|refine aS ?_|refine aj ?_|refine ah ?_|refine bg ?_|refine fH ?_|refine aW ?_|refine aO ?_|refine aQ rfl ?_|refine aN rfl ?_)
       refine ⟨rfl,k+1,by omega,by omega,?_⟩
       rw [hsk]
       exact bT.drop [.ro (flL 1 2 3 S (fun i=>bI (rB S i))),.ro (ints S.d),.ro (pc S.f),.ro (ints S.s),.rw [.pointer (some ⟨0,0,none⟩)],.rw [.int .i64 0,.int .i64 0],.rw (iL (f3 S h n k) (S.d.length+1)),.rw [sl 6 (S.d.length+1)],.rw [.int .i64 (h:Int)],.rw [.int .i64 (n:Int)],.rw [.pointer (some ⟨0,0,none⟩)],.rw [.int .i64 (n:Int)],.dfr,L] [_] (by simp) (H9 S _ h n _ hLc) (by (repeat' (first|exact trivial|exact ⟨rfl,rfl,rfl⟩|exact ⟨rfl,bM rfl,rfl⟩|refine ⟨?_,?_⟩)))
     ·obtain rfl:k=S.f.length:=by omega
      rw [f3_next]
      repeat' (first|(refine gU ?_;(refine bG ?_;refine st (aG rfl rfl rfl) rfl rfl ?_))|refine aS ?_|refine aj ?_|refine ah ?_|refine bg ?_|refine jd ?_|refine eG rfl ?_|refine dW ?_|refine aN rfl ?_)
      refine IB .nil .all ⟨_,_,_,_,_,_,_,by rw [hL];rfl,by simp,?_⟩
      dsimp only
      repeat' (first|(refine gU ?_;first|(refine aP ?_;refine st (au rfl) rfl rfl ?_)|(refine iw ?_;refine st (dF rfl rfl (by omega)) rfl rfl ?_))|refine aj ?_|refine ah ?_|refine bg ?_|refine fH ?_)
      exact ⟨n+1,⟨by omega,by omega⟩,Tail.mZ.src [.ro (flL 1 2 3 S (fun i=>bI (rB S i))),.ro (ints S.d),.ro (pc S.f),.ro (ints S.s),.rw [.pointer (some ⟨0,0,none⟩)],.rw [.int .i64 0,.int .i64 0],.rw (iL (f3 S h (n+1) 0) (S.d.length+1)),.rw [sl 6 (S.d.length+1)],.rw [.int .i64 (h:Int)]] [] [] 12 (by simp) rfl (Qg S _ h) rfl rfl rfl trivial (by (repeat' (first|exact trivial|refine ⟨bD rfl rfl,?_⟩|refine ⟨aV (m:=9) rfl (fun i hi=>aY hi) (by simp) (by rfl) rfl,?_⟩)))⟩
    ·obtain rfl:n=S.d.length:=by omega
     rw [f3_end hS]
     repeat' (first|(refine gU ?_;first|(refine aP ?_;refine st (au rfl) rfl rfl ?_)|(refine iw ?_;refine st (dF rfl rfl (by omega)) rfl rfl ?_)|(refine bG ?_;refine st (aG rfl rfl rfl) rfl rfl ?_))|refine aS ?_|refine aj ?_|refine ah ?_|refine bg ?_|refine jd ?_|refine fH ?_|refine eG rfl ?_|refine dW ?_|refine aN rfl ?_)
     exact ⟨h+1,⟨by omega,by omega⟩,.of (bT.drop [.ro (flL 1 2 3 S (fun i=>bI (rB S i))),.ro (ints S.d),.ro (pc S.f),.ro (ints S.s),.rw [.pointer (some ⟨0,0,none⟩)],.rw [.int .i64 0,.int .i64 0],.rw (iL (fun i b=>if i<h+1 then oJ S i b else 0) (S.d.length+1)),.rw [sl 6 (S.d.length+1)]] [_] (by simp) (Nz S _) (by (repeat' (first|exact trivial|exact ⟨rfl,rfl,rfl⟩|refine ⟨?_,?_⟩)))) (by simp)⟩
 ·obtain rfl:h=S.d.length+1:=by omega
  have hcw:∀ (σ':Heap) (i n:Nat),i<S.d.length+1→n<S.d.length→cZ (cu.ro (flL 1 2 3 S (fun i=>bI (rB S i)))::.ro (ints S.d)::.ro (pc S.f)::.ro (ints S.s)::.rw [.pointer (some ⟨0,0,none⟩)]::.rw [.int .i64 0,.int .i64 0]::.rw (iL (fun i b=>if i<S.d.length+1 then oJ S i b else 0) (S.d.length+1))::.rw [sl 6 (S.d.length+1)]::σ') 6 (0+i*10+n*1)=some (.int .i64 (wR S i n)):=fun σ' i n hi hn=>by
   have:=Cm (f:=fun i b=>if i<S.d.length+1 then oJ S i b else 0) (n:=S.d.length+1) (i:=i) (b:=n) hi (by omega)
   rw [if_pos hi,show oJ S i n=wR S i n by unfold oJ;rw [if_pos hn]] at this
   rw [Nat.zero_add,Nat.mul_one];exact this
  repeat' (first|(refine gU ?_;first|(refine aP ?_;refine st (au rfl) rfl rfl ?_)|(refine aI ?_;refine st (aA rfl) rfl rfl ?_)|(refine gFA ?_;refine st (aB rfl) rfl rfl ?_)|(refine aU ?_;refine st (ak rfl (by rfl)) rfl rfl ?_)|(refine bG ?_;refine st (aG rfl rfl rfl) rfl rfl ?_)|(refine fK ?_;refine st (bK rfl) rfl rfl ?_)|(refine gNil ?_;refine st (iR rfl) rfl rfl ?_))|refine aS ?_|refine aj ?_|refine ah ?_|refine bg ?_|refine jd ?_|refine eG rfl ?_|refine dW ?_|refine aO ?_|refine aN rfl ?_)
  refine Tail.lW (ι:=Nat) (fun n=>[(1,.pointer (some ⟨4,0,none⟩)),(2,.pointer (some ⟨5,0,none⟩)),(3,.bool false),(4,.int .i64 (S.d.length:Int)),(5,.pointer (some ⟨7,0,none⟩)),(10,dL 8 2 (iY S n).length),(120,.int .i64 (S.d.length:Int)),(121,.int .i64 (n:Int))])
   (fun n=>[.ro (flL 1 2 3 S (fun i=>bI (rB S i))),.ro (ints S.d),.ro (pc S.f),.ro (ints S.s),.rw [.pointer (some ⟨0,0,none⟩)],.rw [.int .i64 0,.int .i64 0],.rw (iL (fun i b=>if i<S.d.length+1 then oJ S i b else 0) (S.d.length+1)),.rw [sl 6 (S.d.length+1)],.gr (pc (iY S n)) 52]) (fun n=>S.d.length - n) (fun n=>n≤S.d.length) 0 rfl (by (repeat' (first|exact Tail.kR rfl|refine Tail.jO ?_ ?_|refine Tail.jw ?_|refine Tail.oG rfl ?_))) (fun _=>by simp) (fun n _=>hc_ma S _ _)
   (.of (bT.src [.ro (flL 1 2 3 S (fun i=>bI (rB S i))),.ro (ints S.d),.ro (pc S.f),.ro (ints S.s),.rw [.pointer (some ⟨0,0,none⟩)],.rw [.int .i64 0,.int .i64 0],.rw (iL (fun i b=>if i<S.d.length+1 then oJ S i b else 0) (S.d.length+1)),.rw [sl 6 (S.d.length+1)]] [.gr [] 52] [8] (by simp) rfl (Nz S _) rfl rfl ⟨sG,trivial⟩ (by (repeat' (first|exact trivial|refine ⟨bD rfl rfl,?_⟩|refine ⟨aV (m:=8) rfl (fun i hi=>aY hi) (by simp) (by rfl) rfl,?_⟩)))) (by simp)) (Nat.zero_le _) ?_
  clear hhH hh
  intro n hn
  have hal:=Nw (S:=S) (n:=n)
  have hlen:(pc (iY S n)).length=(iY S n).length*2:=by rw [yD];omega
  by_cases hnd:n<S.d.length
  ·have hbW:-1≤wR S S.d.length n∧wR S S.d.length n≤10000:=by
    have:=oZ hS (fun v _=>tX S v) (h:=S.d.length) hnd
    simp only [wR];omega
   have hc1:∀ σ':Heap,cZ (cu.ro (flL 1 2 3 S (fun i=>bI (rB S i)))::.ro (ints S.d)::.ro (pc S.f)::.ro (ints S.s)::.rw [.pointer (some ⟨0,0,none⟩)]::.rw [.int .i64 0,.int .i64 0]::.rw (iL (fun i b=>if i<S.d.length+1 then oJ S i b else 0) (S.d.length+1))::.rw [sl 6 (S.d.length+1)]::σ') 6 (0+S.d.length*10+n*1)=some (.int .i64 (wR S S.d.length n)):=fun σ'=>hcw σ' _ _ (by omega) hnd
   by_cases hw:wR S S.d.length n<0
   ·have hall:iY S (n+1)=iY S n:=by rw [iY,if_pos hw]
    repeat' (first|(refine gU ?_;first|(refine aP ?_;refine st (au rfl) rfl rfl ?_)|(refine aI ?_;refine st (aA rfl) rfl rfl ?_)|(refine aU ?_;refine st (ak rfl (by first|rfl|exact hc1 _)) rfl rfl ?_)|(refine iw ?_;refine st (dF rfl rfl (by omega)) rfl rfl ?_)|(refine bG ?_;refine st (aG rfl rfl rfl) rfl rfl ?_)|(refine gIA ?_;first|refine st (bZ rfl rfl (by omega)) rfl rfl ?_|refine st (gQ rfl rfl (by omega)) rfl rfl ?_))|refine aS ?_|refine aj ?_|refine ah ?_|refine bg ?_|refine jd ?_|refine eG rfl ?_|refine aW ?_|refine dW ?_|refine aO ?_|refine aQ rfl ?_)
    refine ⟨n+1,⟨by omega,by omega⟩,?_⟩
    rw [hall]
    exact .of (.same ⟨rfl,rfl,rfl,rfl,rfl,rfl,rfl,rfl,trivial⟩) (by simp)
   ·have hall:iY S (n+1)=iY S n++[(kN S n S.d.length).1]:=by rw [iY,if_neg hw]
    repeat' (first|(refine gU ?_;first|(refine aP ?_;refine st (au rfl) rfl rfl ?_)|(refine aI ?_;refine st (aA rfl) rfl rfl ?_)|(refine aU ?_;refine st (ak rfl (by first|rfl|exact hc1 _)) rfl rfl ?_)|(refine bG ?_;refine st (aG rfl rfl rfl) rfl rfl ?_)|(refine gIA ?_;first|refine st (bZ rfl rfl (by omega)) rfl rfl ?_|refine st (gQ rfl rfl (by omega)) rfl rfl ?_)|(refine uf ?_;refine st (jK (by rfl) rfl (by rfl)) rfl rfl ?_)|(refine eP ?_;refine st (bQ rfl) rfl rfl ?_)|(refine cO ?_;refine stN (aJ rfl rfl rfl rfl (by rfl)) rfl ?_))|refine aS ?_|refine aj ?_|refine ah ?_|refine bg ?_|refine aW ?_|refine aO ?_|refine aQ rfl ?_|refine aN rfl ?_)
    refine Tail.lW (ι:=Nat) (fun h=>[(1,.pointer (some ⟨4,0,none⟩)),(2,.pointer (some ⟨5,0,none⟩)),(3,.bool false),(4,.int .i64 (S.d.length:Int)),(5,.pointer (some ⟨7,0,none⟩)),(10,dL 8 2 (iY S n).length),(11,.int .i64 (n:Int)),(12,.pointer (some ⟨9,0,none⟩)),(13,.bool (kN S n h).2),(120,.int .i64 (S.d.length:Int)),(121,.int .i64 (n:Int)),(132,.int .i64 (S.d.length:Int)),(133,.int .i64 (h:Int))])
     (fun h=>[.ro (flL 1 2 3 S (fun i=>bI (rB S i))),.ro (ints S.d),.ro (pc S.f),.ro (ints S.s),.rw [.pointer (some ⟨0,0,none⟩)],.rw [.int .i64 0,.int .i64 0],.rw (iL (fun i b=>if i<S.d.length+1 then oJ S i b else 0) (S.d.length+1)),.rw [sl 6 (S.d.length+1)],.gr (pc (iY S n)) 52,.rw [.int .i64 (kN S n h).1.1,.int .i64 (kN S n h).1.2]]) (fun h=>S.d.length - h) (fun h=>h≤S.d.length) 0 rfl (by (repeat' (first|exact Tail.kR rfl|exact Tail.oH|refine Tail.jO ?_ ?_|refine Tail.jw ?_|refine Tail.oG rfl ?_))) (fun _=>by simp) (fun h _=>EF S _ _ _ _)
     (.of (.same ⟨rfl,rfl,rfl,rfl,rfl,rfl,rfl,rfl,rfl,rfl,rfl,rfl,rfl,trivial⟩) (by simp)) (Nat.zero_le _) ?_
    intro h hh
    by_cases hhd:h<S.d.length
    ·have hbw:-1≤wR S h n∧wR S h n≤10000:=by
      have:=oZ hS (fun v _=>tX S v) (h:=h) hnd
      simp only [wR];omega
     have hc2:∀ σ':Heap,cZ (cu.ro (flL 1 2 3 S (fun i=>bI (rB S i)))::.ro (ints S.d)::.ro (pc S.f)::.ro (ints S.s)::.rw [.pointer (some ⟨0,0,none⟩)]::.rw [.int .i64 0,.int .i64 0]::.rw (iL (fun i b=>if i<S.d.length+1 then oJ S i b else 0) (S.d.length+1))::.rw [sl 6 (S.d.length+1)]::σ') 6 (0+h*10+n*1)=some (.int .i64 (wR S h n)):=fun σ'=>hcw σ' _ _ (by omega) hnd
     have hln:kN S n (h+1)=if wR S h n<0 then kN S n h else
       if (kN S n h).2=false∨(wR S S.d.length n - wR S h n)*(kN S n h).1.2<(kN S n h).1.1*((S.d.length - h:Nat):Int) then ((wR S S.d.length n - wR S h n,((S.d.length - h:Nat):Int)),true) else kN S n h:=rfl
     have hlb:=AL hS (v:=n) (h:=h) hnd hh
     have eD:((S.d.length - h:Nat):Int)=(S.d.length:Int) - (h:Int):=by omega
     rw [eD] at hln
     clear hall
     generalize wR S S.d.length n=W at *
     generalize wR S h n=w at *
     by_cases hw2:w<0
     ·rw [if_pos hw2] at hln
      repeat' (first|(refine gU ?_;first|(refine aP ?_;refine st (au rfl) rfl rfl ?_)|(refine aI ?_;refine st (aA rfl) rfl rfl ?_)|(refine aU ?_;refine st (ak rfl (by first|rfl|exact hc2 _)) rfl rfl ?_)|(refine iw ?_;refine st (dF rfl rfl (by omega)) rfl rfl ?_)|(refine bG ?_;refine st (aG rfl rfl rfl) rfl rfl ?_)|(refine gIA ?_;first|refine st (bZ rfl rfl (by omega)) rfl rfl ?_|refine st (gQ rfl rfl (by omega)) rfl rfl ?_))|refine aS ?_|refine aj ?_|refine ah ?_|refine bg ?_|refine jd ?_|refine eG rfl ?_|refine aW ?_|refine dW ?_|refine aO ?_|refine aQ rfl ?_)
      refine ⟨h+1,⟨by omega,by omega⟩,?_⟩
      rw [hln]
      exact .of (.same ⟨rfl,rfl,rfl,rfl,rfl,rfl,rfl,rfl,rfl,rfl,rfl,rfl,rfl,trivial⟩) (by simp)
     ·rw [if_neg hw2] at hln
      generalize kN S n h=L at *
      obtain ⟨⟨l1,l2⟩,fl⟩:=L
      simp only at hln hlb
      have m1:=tY (a:=W - w) (d:=l2) (by omega) (by omega) hlb.2.2.1 hlb.2.2.2
      have m2:=tY (a:=l1) (d:=(S.d.length:Int) - (h:Int)) (by omega) (by omega) (by omega) (by omega)
      have hle:∀ σ':Heap,σ'.all (fun o=>!dB o)=true→Ev Try.prog 88 [rtV (W - w) ((S.d.length:Int) - (h:Int)),rtV l1 l2] σ' (.bool (decide ((W - w)*l2<l1*((S.d.length:Int) - (h:Int))))) σ':=fun σ' hσ =>
       Ev.nil (Nu _ _ _ _ (by omega) (by omega) (by omega) (by omega)) rfl rfl hσ
      cases fl with
      |false =>
       rw [if_pos (.inl rfl)] at hln
       clear hle m1 m2
       repeat' (first|(refine gU ?_;first|(refine aP ?_;refine st (au rfl) rfl rfl ?_)|(refine aI ?_;refine st (aA rfl) rfl rfl ?_)|(refine aU ?_;first|refine st (ak rfl (by first|rfl|exact hc2 _)) rfl rfl ?_|refine st (aZ rfl (by rfl)) rfl rfl ?_)|(refine iw ?_;refine st (dF rfl rfl (by omega)) rfl rfl ?_)|(refine bG ?_;refine st (aG rfl rfl rfl) rfl rfl ?_)|(refine eY ?_;refine st (bH rfl rfl) rfl rfl ?_)|(refine kX ?_;refine st (gX rfl) rfl rfl ?_)|(refine gIA ?_;first|refine st (bZ rfl rfl (by omega)) rfl rfl ?_|refine st (gQ rfl rfl (by omega)) rfl rfl ?_)|(refine cO ?_;refine stN (aJ rfl rfl rfl rfl (by rfl)) rfl ?_))|(refine gG ?_;refine nU rfl rfl ?_)|(refine fU ?_;first|(refine gZ ?_;refine frA (au rfl) rfl ?_)|(refine iH ?_;refine frA (ak rfl (by first|rfl|exact hc1 _|exact hc2 _)) rfl ?_)|(refine fSub ?_;refine frA (kC rfl rfl (by omega) (by omega)) rfl ?_)|(refine fIA ?_;first|refine frA (bZ rfl rfl (by omega)) rfl ?_|refine frA (gQ rfl rfl (by omega)) rfl ?_)|(refine yh ?_;refine frA (jK (by rfl) rfl (by rfl)) rfl ?_)|(refine zW ?_;refine fr1 (bQ rfl) rfl rfl rfl ?_))|(refine fD ⟨by kernel_rfl,?_⟩)|refine aS ?_|refine aj ?_|refine dH (by kernel_rfl) rfl ?_|refine ah ?_|refine bg ?_|refine fH ?_|refine aW ?_|refine aO ?_|refine aQ rfl ?_|refine aN rfl ?_)
       refine ⟨h+1,⟨by omega,by omega⟩,?_⟩
       rw [hln]
       exact .of (bT.drop [.ro (flL 1 2 3 S (fun i=>bI (rB S i))),.ro (ints S.d),.ro (pc S.f),.ro (ints S.s),.rw [.pointer (some ⟨0,0,none⟩)],.rw [.int .i64 0,.int .i64 0],.rw (iL (fun i b=>if i<S.d.length+1 then oJ S i b else 0) (S.d.length+1)),.rw [sl 6 (S.d.length+1)],.gr (pc (iY S n)) 52,.rw [.int .i64 (W - w),.int .i64 ((S.d.length:Int) - (h:Int))]] [_] (by simp) (EF S _ _ _ _) (by (repeat' (first|exact trivial|exact ⟨rfl,rfl,rfl⟩|exact ⟨rfl,jV rfl,rC⟩|refine ⟨?_,?_⟩)))) (by simp)
      |true =>
       by_cases hlt:(W - w)*l2<l1*((S.d.length:Int) - (h:Int))
       ·rw [if_pos (.inr hlt)] at hln
        repeat' (first|(refine gU ?_;first|(refine aP ?_;refine st (au rfl) rfl rfl ?_)|(refine aI ?_;refine st (aA rfl) rfl rfl ?_)|(refine aU ?_;first|refine st (ak rfl (by first|rfl|exact hc2 _)) rfl rfl ?_|refine st (aZ rfl (by rfl)) rfl rfl ?_)|(refine iw ?_;refine st (dF rfl rfl (by omega)) rfl rfl ?_)|(refine bG ?_;refine st (aG rfl rfl rfl) rfl rfl ?_)|(refine eY ?_;refine st (bY rfl rfl) rfl rfl ?_)|(refine kX ?_;refine st (gX rfl) rfl rfl ?_)|(refine gIA ?_;first|refine st (bZ rfl rfl (by omega)) rfl rfl ?_|refine st (gQ rfl rfl (by omega)) rfl rfl ?_)|(refine cO ?_;refine stN (aJ rfl rfl rfl rfl (by rfl)) rfl ?_))|(refine gG ?_;first|(refine aU ?_;refine bP rfl (aZ rfl (by rfl)) rfl rfl ?_)|(refine fC ?_;refine bP rfl (bC rfl rfl rfl (by exact hle _ rfl)) rfl rfl ?_))|(refine fU ?_;first|(refine gZ ?_;refine frA (au rfl) rfl ?_)|(refine iH ?_;refine frA (ak rfl (by first|rfl|exact hc1 _|exact hc2 _)) rfl ?_)|(refine fSub ?_;refine frA (kC rfl rfl (by omega) (by omega)) rfl ?_)|(refine fIA ?_;first|refine frA (bZ rfl rfl (by omega)) rfl ?_|refine frA (gQ rfl rfl (by omega)) rfl ?_)|(refine yh ?_;refine frA (jK (by rfl) rfl (by rfl)) rfl ?_)|(refine zW ?_;refine fr1 (bQ rfl) rfl rfl rfl ?_))|(refine fD ⟨by kernel_rfl,?_⟩)|refine aS ?_|refine aj ?_|refine dH (by kernel_rfl) rfl ?_|refine ah ?_|refine bg ?_|refine fH ?_|refine aW ?_|refine aO ?_|refine aQ rfl ?_|refine aN rfl ?_)
        refine ⟨h+1,⟨by omega,by omega⟩,?_⟩
        rw [hln]
        exact .of (bT.drop [.ro (flL 1 2 3 S (fun i=>bI (rB S i))),.ro (ints S.d),.ro (pc S.f),.ro (ints S.s),.rw [.pointer (some ⟨0,0,none⟩)],.rw [.int .i64 0,.int .i64 0],.rw (iL (fun i b=>if i<S.d.length+1 then oJ S i b else 0) (S.d.length+1)),.rw [sl 6 (S.d.length+1)],.gr (pc (iY S n)) 52,.rw [.int .i64 (W - w),.int .i64 ((S.d.length:Int) - (h:Int))]] [_] (by simp) (EF S _ _ _ _) (by (repeat' (first|exact trivial|exact ⟨rfl,rfl,rfl⟩|exact ⟨rfl,jV rfl,rC⟩|refine ⟨?_,?_⟩)))) (by simp)
       ·rw [if_neg (by simp [hlt])] at hln
        repeat' (first|(refine gU ?_;first|(refine aP ?_;refine st (au rfl) rfl rfl ?_)|(refine aI ?_;refine st (aA rfl) rfl rfl ?_)|(refine aU ?_;refine st (ak rfl (by first|rfl|exact hc2 _)) rfl rfl ?_)|(refine iw ?_;refine st (dF rfl rfl (by omega)) rfl rfl ?_)|(refine bG ?_;refine st (aG rfl rfl rfl) rfl rfl ?_)|(refine eY ?_;refine st (bY rfl rfl) rfl rfl ?_)|(refine kX ?_;refine st (gX rfl) rfl rfl ?_)|(refine gIA ?_;first|refine st (bZ rfl rfl (by omega)) rfl rfl ?_|refine st (gQ rfl rfl (by omega)) rfl rfl ?_)|(refine cO ?_;refine stN (aJ rfl rfl rfl rfl (by rfl)) rfl ?_))|(refine gG ?_;first|(refine aU ?_;refine bP rfl (aZ rfl (by rfl)) rfl rfl ?_)|(refine fC ?_;refine bP rfl (bC rfl rfl rfl (by exact hle _ rfl)) rfl rfl ?_))|(refine fU ?_;first|(refine gZ ?_;refine frA (au rfl) rfl ?_)|(refine iH ?_;refine frA (ak rfl (by first|rfl|exact hc1 _|exact hc2 _)) rfl ?_)|(refine fSub ?_;refine frA (kC rfl rfl (by omega) (by omega)) rfl ?_)|(refine fIA ?_;first|refine frA (bZ rfl rfl (by omega)) rfl ?_|refine frA (gQ rfl rfl (by omega)) rfl ?_)|(refine yh ?_;refine frA (jK (by rfl) rfl (by rfl)) rfl ?_)|(refine zW ?_;refine fr1 (bQ rfl) rfl rfl rfl ?_))|(refine fD ⟨by kernel_rfl,?_⟩)|refine aS ?_|refine aj ?_|refine dH (by kernel_rfl) rfl ?_|refine ah ?_|refine bg ?_|refine fH ?_|refine aW ?_|refine aO ?_|refine aQ rfl ?_|refine aN rfl ?_)
        refine ⟨h+1,⟨by omega,by omega⟩,?_⟩
        rw [hln]
        exact .of (bT.drop [.ro (flL 1 2 3 S (fun i=>bI (rB S i))),.ro (ints S.d),.ro (pc S.f),.ro (ints S.s),.rw [.pointer (some ⟨0,0,none⟩)],.rw [.int .i64 0,.int .i64 0],.rw (iL (fun i b=>if i<S.d.length+1 then oJ S i b else 0) (S.d.length+1)),.rw [sl 6 (S.d.length+1)],.gr (pc (iY S n)) 52,.rw [.int .i64 l1,.int .i64 l2]] [_] (by simp) (EF S _ _ _ _) (by (repeat' (first|exact trivial|exact ⟨rfl,rfl,rfl⟩|exact ⟨rfl,jV rfl,rC⟩|refine ⟨?_,?_⟩)))) (by simp)
    ·obtain rfl:h=S.d.length:=by omega
     have hcs:pc (iY S (n+1))=pc (iY S n)++[.int .i64 (kN S n S.d.length).1.1,.int .i64 (kN S n S.d.length).1.2]:=by rw [hall,pc_app]
     have hlen2:(iY S (n+1)).length=(iY S n).length+1:=by rw [hall];simp
     clear hall hc1
     generalize kN S n S.d.length=L at *
     generalize hA1:iY S (n+1)=A1 at *
     generalize iY S n=A at *
     repeat' (first|(refine gU ?_;first|(refine aP ?_;refine st (au rfl) rfl rfl ?_)|(refine aI ?_;refine st (aA rfl) rfl rfl ?_)|(refine aU ?_;refine st (aZ rfl (by rfl)) rfl rfl ?_)|(refine iw ?_;refine st (dF rfl rfl (by omega)) rfl rfl ?_)|(refine bG ?_;refine st (aG rfl rfl rfl) rfl rfl ?_)|(refine nI ?_;refine st (kM (by rfl) (by rfl) (by rfl) (by rfl) rfl (by rfl)) rfl rfl ?_)|(refine EJ ?_;refine st (fZ (by rfl) (by rfl) rfl (by rfl) (by exact hlen) rfl (by rfl) (by omega) (by rfl) (by omega) (by omega)) rfl rfl ?_))|refine aS ?_|refine aj ?_|refine ah ?_|refine bg ?_|refine jd ?_|refine fH ?_|refine eG rfl ?_|refine dW ?_|refine aN rfl ?_)
     refine ⟨n+1,⟨by omega,by omega⟩,?_⟩
     rw [hA1]
     exact .of (bT.src [.ro (flL 1 2 3 S (fun i=>bI (rB S i))),.ro (ints S.d),.ro (pc S.f),.ro (ints S.s),.rw [.pointer (some ⟨0,0,none⟩)],.rw [.int .i64 0,.int .i64 0],.rw (iL (fun i b=>if i<S.d.length+1 then oJ S i b else 0) (S.d.length+1)),.rw [sl 6 (S.d.length+1)]] [.gr (pc A1) 52] [11] (by simp) rfl (Nz S _) rfl rfl ⟨qC rfl (by rw [hcs];rfl) (dJ _),trivial⟩ (by (repeat' (first|exact trivial|refine ⟨bD rfl rfl,?_⟩|refine ⟨aV (m:=8) rfl (fun i hi=>aY hi) (by simp) (by rfl) rfl,?_⟩|refine ⟨vF (by rw [hlen2];rfl) (by simp) rfl,?_⟩)))) (by simp)
  ·obtain rfl:n=S.d.length:=by omega
   have hme:=JI hS
   have hmv:FW S=if (iY S S.d.length).length=0 then .tuple #[rtV 0 0,.bool false] else
    .tuple #[rtV (sZ (ni (iY S S.d.length) (iY S S.d.length).length).1.toNat (ni (iY S S.d.length) (iY S S.d.length).length).2.toNat) (sU (ni (iY S S.d.length) (iY S S.d.length).length).1.toNat (ni (iY S S.d.length) (iY S S.d.length).length).2.toNat),.bool true]:=rfl
   rw [hmv]
   have hb:∀ x ∈ iY S S.d.length,-10000≤x.1∧x.1≤10001∧0≤x.2∧x.2≤10:=fun x hx=>by
    obtain ⟨v,h1,h2,rfl⟩:=vM.1 hx
    exact AL hS h1 (Nat.le_refl _)
   clear hmv hcw hnd hn
   generalize iY S S.d.length=A at *
   by_cases hz:(A.length:Int)=0
   ·rw [if_pos (by omega)]
    clear hme
    repeat' (first|(refine gU ?_;first|(refine aP ?_;refine st (au rfl) rfl rfl ?_)|(refine aI ?_;refine st (aA rfl) rfl rfl ?_)|(refine bG ?_;refine st (aG rfl rfl rfl) rfl rfl ?_)|(refine fK ?_;refine st (vC rfl) rfl rfl ?_)|(refine uf ?_;refine st (jK (by rfl) rfl (by rfl)) rfl rfl ?_)|(refine cO ?_;refine stN (aJ rfl rfl rfl rfl (by rfl)) rfl ?_))|refine aS ?_|refine aj ?_|refine ah ?_|refine bg ?_|refine kL ?_|refine jd ?_|refine eG rfl ?_|refine dW ?_|refine dX ?_|refine aQ rfl ?_|refine aN rfl ?_)
    exact iF (.cellN inferInstance rfl rfl (.tmp rfl .nil)) (.plain rfl rfl) ⟨rfl,rfl⟩
   ·rw [if_neg (by omega)]
    have hcs:∀ (σ':Heap) (k:Nat),k<A.length→dh (cu.ro (flL 1 2 3 S (fun i=>bI (rB S i)))::.ro (ints S.d)::.ro (pc S.f)::.ro (ints S.s)::.rw [.pointer (some ⟨0,0,none⟩)]::.rw [.int .i64 0,.int .i64 0]::.rw (iL (fun i b=>if i<S.d.length+1 then oJ S i b else 0) (S.d.length+1))::.rw [sl 6 (S.d.length+1)]::.gr (pc A) 52::σ') 8 (k*2) 2=some [.int .i64 (gf A k).1,.int .i64 (gf A k).2]:=fun σ' k hk=>by
     have:=lX (σ:=cu.ro (flL 1 2 3 S (fun i=>bI (rB S i)))::.ro (ints S.d)::.ro (pc S.f)::.ro (ints S.s)::.rw [.pointer (some ⟨0,0,none⟩)]::.rw [.int .i64 0,.int .i64 0]::.rw (iL (fun i b=>if i<S.d.length+1 then oJ S i b else 0) (S.d.length+1))::.rw [sl 6 (S.d.length+1)]::.gr (pc A) 52::σ') (f:=A) (x:=8) (i:=k) (.inr (.inr ⟨52,rfl⟩)) hk
     rw [Nat.zero_add] at this;exact this
    have hg2:=hcs
    replace hcs:∀ σ':Heap,dh (cu.ro (flL 1 2 3 S (fun i=>bI (rB S i)))::.ro (ints S.d)::.ro (pc S.f)::.ro (ints S.s)::.rw [.pointer (some ⟨0,0,none⟩)]::.rw [.int .i64 0,.int .i64 0]::.rw (iL (fun i b=>if i<S.d.length+1 then oJ S i b else 0) (S.d.length+1))::.rw [sl 6 (S.d.length+1)]::.gr (pc A) 52::σ') 8 (Int.toNat 0*2) 2=some [.int .i64 (gf A 0).1,.int .i64 (gf A 0).2]:=fun σ'=>hg2 σ' 0 (by omega)
    have hbs:∀ k,k≤A.length→ni A k ∈ A:=fun k hk=>Ia (by omega) hk
    have hAl:(A.length:Int) ≠ 0:=hz
    repeat' (first|(refine gU ?_;first|refine st (sQ rfl rfl (by omega) (by omega)) rfl rfl ?_|(refine aP ?_;refine st (au rfl) rfl rfl ?_)|(refine aU ?_;refine st (aZ rfl (by exact hcs _)) rfl rfl ?_)|(refine bG ?_;refine st (aG rfl rfl rfl) rfl rfl ?_)|(refine fK ?_;refine st (vC rfl) rfl rfl ?_)|(refine eP ?_;refine st (bQ rfl) rfl rfl ?_)|(refine cO ?_;refine stN (aJ rfl rfl rfl rfl (by rfl)) rfl ?_))|refine aS ?_|refine aj ?_|refine ah ?_|refine bg ?_|refine jd ?_|refine eG rfl ?_|refine aW ?_|refine dW ?_|refine aO ?_|refine aN rfl ?_)
    refine Tail.lW (ι:=Nat) (fun k=>[(2,.pointer (some ⟨5,0,none⟩)),(16,.pointer (some ⟨9,0,none⟩)),(181,dL 8 2 A.length),(182,.int .i64 (A.length:Int)),(183,.int .i64 (k:Int))])
     (fun k=>[.ro (flL 1 2 3 S (fun i=>bI (rB S i))),.ro (ints S.d),.ro (pc S.f),.ro (ints S.s),.rw [.pointer (some ⟨0,0,none⟩)],.rw [.int .i64 0,.int .i64 0],.rw (iL (fun i b=>if i<S.d.length+1 then oJ S i b else 0) (S.d.length+1)),.rw [sl 6 (S.d.length+1)],.gr (pc A) 52,.rw [.int .i64 (ni A k).1,.int .i64 (ni A k).2]]) (fun k=>A.length - k) (fun k=>k≤A.length) 0 rfl (by (repeat' (first|exact Tail.kR rfl|refine Tail.jO ?_ ?_|refine Tail.jw ?_|refine Tail.oG rfl ?_))) (fun _=>by simp) (fun k _=>EF S _ _ _ _)
     (.of (.same ⟨rfl,rfl,rfl,rfl,rfl,trivial⟩) (by simp)) (Nat.zero_le _) ?_
    intro k hk
    by_cases hkl:k<A.length
    ·replace hcs:∀ σ':Heap,dh (cu.ro (flL 1 2 3 S (fun i=>bI (rB S i)))::.ro (ints S.d)::.ro (pc S.f)::.ro (ints S.s)::.rw [.pointer (some ⟨0,0,none⟩)]::.rw [.int .i64 0,.int .i64 0]::.rw (iL (fun i b=>if i<S.d.length+1 then oJ S i b else 0) (S.d.length+1))::.rw [sl 6 (S.d.length+1)]::.gr (pc A) 52::σ') 8 (k*2) 2=some [.int .i64 (gf A k).1,.int .i64 (gf A k).2]:=fun σ'=>hg2 σ' k hkl
     have hx:=hb _ (jW.2 ⟨k,hkl,rfl⟩:gf A k ∈ A)
     have hy:=hb _ (hbs k hk)
     have hbn:ni A (k+1)=if (ni A k).1*(gf A k).2<(gf A k).1*(ni A k).2 then gf A k else ni A k:=rfl
     clear hme hb hbs hg2
     generalize ni A k=y at *
     generalize gf A k=x at *
     obtain ⟨x1,x2⟩:=x
     obtain ⟨y1,y2⟩:=y
     simp only at hx hy hcs hbn
     have m1:=tY (a:=y1) (d:=x2) (by omega) (by omega) hx.2.2.1 hx.2.2.2
     have m2:=tY (a:=x1) (d:=y2) (by omega) (by omega) hy.2.2.1 hy.2.2.2
     have hle:∀ σ':Heap,σ'.all (fun o=>!dB o)=true→Ev Try.prog 88 [rtV y1 y2,rtV x1 x2] σ' (.bool (decide (y1*x2<x1*y2))) σ':=fun σ' hσ =>
      Ev.nil (Nu _ _ _ _ (by omega) (by omega) (by omega) (by omega)) rfl rfl hσ
     by_cases hlt:y1*x2<x1*y2
     ·rw [if_pos hlt] at hbn
      repeat' (first|(refine gU ?_;first|refine st (sQ rfl rfl (by omega) (by omega)) rfl rfl ?_|(refine aP ?_;refine st (au rfl) rfl rfl ?_)|(refine aU ?_;refine st (aZ rfl (by first|rfl|exact hcs _)) rfl rfl ?_)|(refine iw ?_;refine st (dF rfl rfl (by omega)) rfl rfl ?_)|(refine bG ?_;refine st (aG rfl rfl rfl) rfl rfl ?_)|(refine fC ?_;refine st (bC rfl rfl rfl (by exact hle _ rfl)) rfl rfl ?_)|(refine eP ?_;refine st (bQ rfl) rfl rfl ?_)|(refine cO ?_;refine stN (aJ rfl rfl rfl rfl (by rfl)) rfl ?_))|refine aS ?_|refine aj ?_|refine ah ?_|refine bg ?_|refine fH ?_|refine aW ?_|refine aO ?_|refine aQ rfl ?_)
      refine ⟨k+1,⟨by omega,by omega⟩,?_⟩
      rw [hbn]
      exact .of (bT.drop [.ro (flL 1 2 3 S (fun i=>bI (rB S i))),.ro (ints S.d),.ro (pc S.f),.ro (ints S.s),.rw [.pointer (some ⟨0,0,none⟩)],.rw [.int .i64 0,.int .i64 0],.rw (iL (fun i b=>if i<S.d.length+1 then oJ S i b else 0) (S.d.length+1)),.rw [sl 6 (S.d.length+1)],.gr (pc A) 52,.rw [.int .i64 x1,.int .i64 x2]] [_] (by simp) (EF S _ _ _ _) (by (repeat' (first|exact trivial|exact ⟨rfl,rfl,rfl⟩|exact ⟨rfl,jV rfl,rC⟩|refine ⟨?_,?_⟩)))) (by simp)
     ·rw [if_neg hlt] at hbn
      repeat' (first|(refine gU ?_;first|refine st (sQ rfl rfl (by omega) (by omega)) rfl rfl ?_|(refine aP ?_;refine st (au rfl) rfl rfl ?_)|(refine aU ?_;refine st (aZ rfl (by first|rfl|exact hcs _)) rfl rfl ?_)|(refine iw ?_;refine st (dF rfl rfl (by omega)) rfl rfl ?_)|(refine bG ?_;refine st (aG rfl rfl rfl) rfl rfl ?_)|(refine fC ?_;refine st (bC rfl rfl rfl (by exact hle _ rfl)) rfl rfl ?_)|(refine eP ?_;refine st (bQ rfl) rfl rfl ?_)|(refine cO ?_;refine stN (aJ rfl rfl rfl rfl (by rfl)) rfl ?_))|refine aS ?_|refine aj ?_|refine ah ?_|refine bg ?_|refine fH ?_|refine aW ?_|refine aO ?_|refine aQ rfl ?_|refine aN rfl ?_)
      refine ⟨k+1,⟨by omega,by omega⟩,?_⟩
      rw [hbn]
      exact .of (bT.drop [.ro (flL 1 2 3 S (fun i=>bI (rB S i))),.ro (ints S.d),.ro (pc S.f),.ro (ints S.s),.rw [.pointer (some ⟨0,0,none⟩)],.rw [.int .i64 0,.int .i64 0],.rw (iL (fun i b=>if i<S.d.length+1 then oJ S i b else 0) (S.d.length+1)),.rw [sl 6 (S.d.length+1)],.gr (pc A) 52,.rw [.int .i64 y1,.int .i64 y2]] [_] (by simp) (EF S _ _ _ _) (by (repeat' (first|exact trivial|exact ⟨rfl,rfl,rfl⟩|exact ⟨rfl,jV rfl,rC⟩|refine ⟨?_,?_⟩)))) (by simp)
    ·obtain rfl:k=A.length:=by omega
     have hM:=hme (by omega)
     have h0:=hM.nonneg hS
     have h1:=hM.b0
     have hy:=hb _ (hbs _ (Nat.le_refl _))
     clear hme hb hbs hg2 hcs hM
     generalize ni A A.length=y at *
     obtain ⟨y1,y2⟩:=y
     simp only at h0 h1 hy ⊢
     obtain ⟨m,rfl⟩:∃ m:Nat,y1=(m:Int):=⟨y1.toNat,by omega⟩
     obtain ⟨d,rfl⟩:∃ d:Nat,y2=(d:Int):=⟨y2.toNat,by omega⟩
     rw [Int.toNat_natCast,Int.toNat_natCast]
     have hra:=Ev.nil (σ:=[.ro (flL 1 2 3 S (fun i=>bI (rB S i))),.ro (ints S.d),.ro (pc S.f),.ro (ints S.s),.rw [.pointer (some ⟨0,0,none⟩)],.rw [.int .i64 0,.int .i64 0],.rw (iL (fun i b=>if i<S.d.length+1 then oJ S i b else 0) (S.d.length+1)),.rw [sl 6 (S.d.length+1)],.gr (pc A) 52,.rw [.int .i64 (m:Int),.int .i64 (d:Int)]]) (ratio_ok m d (by omega) (by omega) (by omega)) rfl rfl rfl
     repeat' (first|(refine gU ?_;first|(refine aI ?_;refine st (aA rfl) rfl rfl ?_)|(refine gFA ?_;refine st (aB rfl) rfl rfl ?_)|(refine aU ?_;refine st (ak rfl (by rfl)) rfl rfl ?_)|(refine bG ?_;refine st (aG rfl rfl rfl) rfl rfl ?_)|(refine fC ?_;refine st (bC rfl rfl rfl (by exact hra)) rfl rfl ?_)|(refine cO ?_;refine stN (aJ rfl rfl rfl rfl (by rfl)) rfl ?_))|refine aS ?_|refine aj ?_|refine ah ?_|refine bg ?_|refine jd ?_|refine eG rfl ?_|refine dW ?_|refine dX ?_|refine aN rfl ?_)
     exact iF (.cellN inferInstance rfl rfl (.tmp rfl .nil)) (.plain rfl rfl) ⟨rfl,rfl⟩
end Go.Proofs.Ytomioaiojidnbaa
namespace Go.AH.Dust
open Go Go.AH
noncomputable def lvK (S:Shp) (a b:Int) (l:Nat→Int) (n:Nat):Nat→Nat→Int
 |0=>l
 |k+1=>if (gf S.f k).1=(n:Int)∧rB S n=true then kF (lvK S a b l n k) n (max (lvK S a b l n k n) (pW S a b n+lvK S a b l n k (gf S.f k).2.toNat)) else lvK S a b l n k
noncomputable def lvN (S:Shp) (a b:Int) (l:Nat→Int):Nat→Nat→Int
 |0=>l
 |n+1=>lvK S a b (lvN S a b l n) n S.f.length
noncomputable def lvT (S:Shp) (a b:Int):Nat→Nat→Int
 |0=>fun _=>0
 |t+1=>lvN S a b (lvT S a b t) S.d.length
noncomputable def lvl (S:Shp) (a b:Int):Nat→Int:=lvT S a b (S.d.length+1)
theorem tig_of' {S:Shp} {a b:Int} {l:Nat→Int} {n k:Nat} (h:rB S n=true) (h1:pW S a b n=l n - l k):rF S a b l n k=true:=by unfold rF;rw [h,decide_eq_true h1];rfl
section
variable {S:Shp} {a b:Int}
theorem FY {l:Nat→Int} {n i:Nat} (h:i ≠ n):∀ k,lvK S a b l n k i=l i
 |0=>rfl
 |k+1=>by
  have ih:=FY (l:=l) h k
  rw [lvK]
  split
  ·unfold kF;rw [if_neg h];exact ih
  ·exact ih
theorem Lh {l:Nat→Int} {i:Nat}:∀ {n:Nat},n≤i→lvN S a b l n i=l i
 |0,_=>rfl
 |n+1,h=>by rw [lvN,FY (by omega)];exact Lh (by omega)
theorem lvT_stop {t:Nat} (hn:S.d.length≤10) (h:∀ i ∈ List.range 10,lvT S a b (t+1) i=lvT S a b t i):∀ k,lvT S a b (t+k)=lvT S a b t:=by
 have e:lvT S a b (t+1)=lvT S a b t:=by
  funext i
  by_cases hi:i<10
  ·exact h i (List.mem_range.2 hi)
  ·rw [lvT];exact Lh (by omega)
 intro k
 induction k with
 |zero=>rfl
 |succ k ih =>
  show lvN S a b (lvT S a b (t+k)) S.d.length=_
  rw [ih];exact e
theorem zK {l:Nat→Int} {n:Nat} (i:Nat):∀ k,l i≤lvK S a b l n k i
 |0=>Int.le_refl _
 |k+1=>by
  have ih:=zK (l:=l) (n:=n) i k
  rw [lvK]
  split
  ·unfold kF
   split
   ·rename_i h;subst h;omega
   ·exact ih
  ·exact ih
theorem lvK_mono2 {l:Nat→Int} {n:Nat} (i:Nat) {j k:Nat} (h:j≤k):lvK S a b l n j i≤lvK S a b l n k i:=by
 induction k with
 |zero =>
      obtain rfl:j=0:=by omega
      exact Int.le_refl _
 |succ k ih =>
  by_cases hj:j=k+1
  ·subst hj;exact Int.le_refl _
  ·have ih:=ih (by omega)
   refine Int.le_trans ih ?_
   rw [lvK]
   split
   ·unfold kF
    split
    ·rename_i h;subst h;omega
    ·exact Int.le_refl _
   ·exact Int.le_refl _
theorem lvK_edge {l:Nat→Int} {n j k:Nat} (hj:j<k) (h1:(gf S.f j).1=(n:Int)) (h2:rB S n=true):pW S a b n+l (gf S.f j).2.toNat≤lvK S a b l n k n:=by
 have h3:=lvK_mono2 (S:=S) (a:=a) (b:=b) (l:=l) (n:=n) n (show j+1≤k by omega)
 have h4:=zK (S:=S) (a:=a) (b:=b) (l:=l) (n:=n) (gf S.f j).2.toNat j
 have h5:lvK S a b l n (j+1) n=max (lvK S a b l n j n) (pW S a b n+lvK S a b l n j (gf S.f j).2.toNat):=by
  rw [lvK,if_pos ⟨h1,h2⟩];unfold kF;rw [if_pos rfl]
 omega
theorem JL {l:Nat→Int} (i:Nat):∀ n,l i≤lvN S a b l n i
 |0=>Int.le_refl _
 |n+1=>Int.le_trans (JL i n) (zK i _)
theorem lvN_mono2 {l:Nat→Int} (i:Nat) {m n:Nat} (h:m≤n):lvN S a b l m i≤lvN S a b l n i:=by
 induction n with
 |zero =>
      obtain rfl:m=0:=by omega
      exact Int.le_refl _
 |succ n ih =>
  by_cases hj:m=n+1
  ·subst hj;exact Int.le_refl _
  ·exact Int.le_trans (ih (by omega)) (zK i _)
theorem lvN_edge {l:Nat→Int} {N j:Nat} (hj:j<S.f.length) {n:Nat} (hn:n<N) (h1:(gf S.f j).1=(n:Int)) (h2:rB S n=true):pW S a b n+l (gf S.f j).2.toNat≤lvN S a b l N n:=by
 have h3:=lvN_mono2 (S:=S) (a:=a) (b:=b) (l:=l) n (show n+1≤N by omega)
 have h4:=JL (S:=S) (a:=a) (b:=b) (l:=l) (gf S.f j).2.toNat n
 have h5:=lvK_edge (S:=S) (a:=a) (b:=b) (l:=lvN S a b l n) hj h1 h2
 have h6:lvN S a b l (n+1)=lvK S a b (lvN S a b l n) n S.f.length:=rfl
 rw [h6] at h3
 omega
def Ib (S:Shp) (a b:Int) (l:Nat→Int):Prop:=∀ v,v<S.d.length→0≤l v∧∃ p h,qw S p h∧p 0=(v:Int)∧l v=sv S a b p h∧(rB S v=true∨h=0)
def LowP (S:Shp) (a b:Int) (l:Nat→Int) (t:Nat):Prop:=∀ v p h,v<S.d.length→rB S v=true→qw S p h→p 0=(v:Int)→h≤t→sv S a b p h≤l v
def FZ (x:Int) (p:Nat→Int) (i:Nat):Int:=if i=0 then x else p (i - 1)
theorem NC {x:Int} {p:Nat→Int} {h:Nat} (hw:qw S p h) (hx:(x,p 0) ∈ S.f):qw S (FZ x p) (h+1)∧FZ x p 0=x∧sv S a b (FZ x p) (h+1)=(b*cS S x - a)+sv S a b p h:=by
 refine ⟨fun i hi=>?_,rfl,?_⟩
 ·unfold FZ
  by_cases h0:i=0
  ·subst h0;exact hx
  ·rw [if_neg h0,if_neg (by omega)]
   have:=hw (i - 1) (by omega)
   rw [show i - 1+1=i by omega] at this
   exact this
 ·unfold sv
  rw [show h+1=1+h by omega,lD]
  congr 1
  simp [sumW,FZ]
theorem Lj (n:Nat):pW S a b n=b*cS S (n:Int) - a:=by unfold pW cS;rw [Int.toNat_natCast]
theorem pot_start:Ib S a b (fun _=>0):=fun v _=>⟨Int.le_refl _,fun _=>(v:Int),0,fun i hi=>by omega,rfl,rfl,.inr rfl⟩
theorem pot_set {l:Nat→Int} (hl:Ib S a b l) {n:Nat} (hr:rB S n=true) {k:Nat} (hk:k<S.d.length) (hf:((n:Int),(k:Int)) ∈ S.f):Ib S a b (kF l n (max (l n) (pW S a b n+l k))):=fun v hv=>by
 unfold kF
 by_cases hvn:v=n
 ·subst hvn
  rw [if_pos rfl]
  obtain ⟨h0,p,h,q1,q2,q3,q4⟩:=hl v hv
  rcases Int.le_total (pW S a b v+l k) (l v) with hle|hle
  ·rw [Int.max_eq_left hle];exact ⟨h0,p,h,q1,q2,q3,q4⟩
  ·rw [Int.max_eq_right hle]
   obtain ⟨_,p',h',r1,r2,r3,_⟩:=hl k hk
   obtain ⟨c1,c2,c3⟩:=NC (a:=a) (b:=b) (x:=(v:Int)) r1 (by rw [r2];exact hf)
   exact ⟨by omega,FZ (v:Int) p',h'+1,c1,c2,by rw [c3,Lj,r3],.inl hr⟩
 ·rw [if_neg hvn];exact hl v hv
theorem Qh (hS:S.ok) {l:Nat→Int} (hl:Ib S a b l) {n:Nat}:∀ {k:Nat},k≤S.f.length→Ib S a b (lvK S a b l n k)
 |0,_=>hl
 |k+1,hk=>by
  have ih:=Qh hS hl (n:=n) (k:=k) (by omega)
  rw [lvK]
  split
  ·rename_i hc
   have hw:=(hS.f k (by omega)).2.1
   have h1:=hw.1;have h2:=hw.2
   refine pot_set ih hc.2 (by omega) ?_
   rw [← hc.1,show (((gf S.f k).2.toNat:Nat):Int)=(gf S.f k).2 by omega]
   exact jW.2 ⟨k,by omega,rfl⟩
  ·exact ih
theorem Qi (hS:S.ok) {l:Nat→Int} (hl:Ib S a b l):∀ n,Ib S a b (lvN S a b l n)
 |0=>hl
 |n+1=>Qh hS (Qi hS hl n) (Nat.le_refl _)
theorem JM (hS:S.ok):∀ t,Ib S a b (lvT S a b t)
 |0=>pot_start
 |t+1=>Qi hS (JM hS t) _
theorem RN (hS:S.ok):∀ t,LowP S a b (lvT S a b t) t
 |0=>fun v p h _ _ _ _ hh=>by
  obtain rfl:h=0:=by omega
  exact Int.le_refl _
 |t+1=>fun v p h hv hr hw h0 hh=>by
  cases h with
  |zero=>exact (JM (a:=a) (b:=b) hS (t+1) v hv).1
  |succ h =>
   have e:sv S a b p (h+1)=(b*cS S (v:Int) - a)+sv S a b (fun k=>p (k+1)) h:=by
    unfold sv
    rw [show h+1=1+h by omega,lD]
    simp [sumW,h0]
   have hf:=hw 0 (by omega)
   rw [h0,Nat.zero_add] at hf
   have hw1:=(rE hS hf).2
   have g1:=hw1.1;have g2:=hw1.2
   have hr1:Rch S (p 1):=.next (lQ.1 hr) hf
   have e1:(((p 1).toNat:Nat):Int)=p 1:=by omega
   have ih:=RN hS t (p 1).toNat (fun k=>p (k+1)) h (by omega) (lQ.2 (by rw [e1];exact hr1)) (fun i hi=>hw (i+1) (by omega)) (by rw [e1]) (by omega)
   obtain ⟨j,j1,j2⟩:=jW.1 hf
   have hed:=lvN_edge (S:=S) (a:=a) (b:=b) (l:=lvT S a b t) j1 hv (by rw [j2]) hr
   rw [j2] at hed
   simp only at hed
   rw [Lj] at hed
   show _≤lvN S a b (lvT S a b t) S.d.length v
   omega
theorem sv_le (hS:S.ok) (ha:0≤a) (hb:0≤b) (hb2:b≤1000) {p:Nat→Int} {h:Nat} (hw:qw S p h) (hh:h<S.d.length):sv S a b p h≤10000000:=by
 have n10:=hS.n10
 have hs:=ng hS hw
 rw [Bq]
 have h1:b*sumW (cS S) p h≤1000*10000:=by
  refine Int.le_trans (Int.mul_le_mul_of_nonneg_left (show sumW (cS S) p h≤10000 by omega) hb) ?_
  exact Int.mul_le_mul_of_nonneg_right hb2 (by omega)
 have h2:0≤a*(h:Int):=Int.mul_nonneg ha (by omega)
 omega
theorem AO (hS:S.ok) (hM:jc S a b) (hb2:b≤1000) {l:Nat→Int} (hl:Ib S a b l) {v:Nat} (hv:v<S.d.length):0≤l v∧l v≤10000000:=by
 obtain ⟨h0,p,h,q1,q2,q3,q4⟩:=hl v hv
 refine ⟨h0,?_⟩
 rcases q4 with q4|rfl
 ·obtain ⟨q,k,r1,r2,r3,r4,r5⟩:=Ej hS hM h p q1 (by rw [q2];exact lQ.1 q4)
  have:=sv_le hS (hM.nonneg hS) (Int.le_of_lt hM.b0) hb2 r2 r1
  omega
 ·rw [q3];unfold sv;simp [sumW]
theorem lvl_prove (hS:S.ok) (hM:jc S a b) {u v:Int} (hr:Rch S u) (hf:(u,v) ∈ S.f):pW S a b u.toNat≤lvl S a b u.toNat - lvl S a b v.toNat:=by
 obtain ⟨hu,hv⟩:=rE hS hf
 have u1:=hu.1;have u2:=hu.2;have v1:=hv.1;have v2:=hv.2
 have eu:((u.toNat:Nat):Int)=u:=by omega
 have ev:((v.toNat:Nat):Int)=v:=by omega
 obtain ⟨_,p,h,q1,q2,q3,_⟩:=JM (a:=a) (b:=b) hS (S.d.length+1) v.toNat (by omega)
 obtain ⟨c1,c2,c3⟩:=NC (a:=a) (b:=b) (x:=u) q1 (by rw [q2,ev];exact hf)
 obtain ⟨q,k,r1,r2,r3,r4,r5⟩:=Ej hS hM _ _ c1 (by rw [c2];exact hr)
 have:=RN (a:=a) (b:=b) hS (S.d.length+1) u.toNat q k (by omega) (lQ.2 (by rw [eu];exact hr)) r2 (by rw [r3,c2,eu]) (by omega)
 rw [Lj,eu]
 unfold lvl
 omega
theorem JO {i:Nat} (hi:S.d.length≤i):∀ t,lvT S a b t i=0
 |0=>rfl
 |t+1=>by rw [lvT,Lh hi];exact JO hi t
theorem ND (hS:S.ok) (hM:jc S a b) (ha:a≤1000000) (hb:b≤1000):Lev a b (lvl S a b):=by
 have h0:=hM.nonneg hS
 have hb0:=hM.b0
 refine ⟨by omega,ha,by omega,hb,fun i hi=>?_⟩
 by_cases hd:i<S.d.length
 ·have:=AO hS hM hb (JM hS (S.d.length+1)) hd
  unfold lvl;omega
 ·unfold lvl;rw [JO (by omega)];omega
theorem cyc_tight (hS:S.ok) (_hM:jc S a b) {p:Nat→Int} {h:Nat} (hc:Cyc S p h) (he:b*sumW (cS S) p h=a*(h:Int)) {l:Nat→Int} (hl:∀ u v:Int,Rch S u→(u,v) ∈ S.f→pW S a b u.toNat≤l u.toNat - l v.toNat) :
  ∀ i,i<h→edg S a b l (p i) (p (i+1)):=by
 have hr:=Ho hc.wk hc.rch
 have pre:∀ (k i:Nat),i+k≤h→sumW (fun x=>b*cS S x - a) (fun j=>p (j+i)) k≤l (p i).toNat - l (p (i+k)).toNat:=by
  intro k
  induction k with
  |zero=>intro i _;simp [sumW]
  |succ k ih =>
   intro i hi
   have h1:=ih i (by omega)
   have h2:=hl _ _ (hr (i+k) (by omega)) (hc.wk (i+k) (by omega))
   simp only [sumW]
   unfold pW at h2
   unfold cS at *
   rw [show k+i=i+k by omega,← Nat.add_assoc]
   omega
 intro i hi
 have h1:sumW (fun x=>b*cS S x - a) p i≤l (p 0).toNat - l (p i).toNat:=by
  have:=pre i 0 (by omega)
  rwa [Nat.zero_add] at this
 have h2:=hl _ _ (hr i (by omega)) (hc.wk i hi)
 have h3:=pre (h - (i+1)) (i+1) (by omega)
 have hz:sv S a b p h=0:=by rw [Bq,he,Int.sub_self]
 have s1:=lD (fun x=>b*cS S x - a) p (i+1) (h - (i+1))
 rw [show i+1+(h - (i+1))=h by omega] at s1 h3
 unfold sv at hz
 simp only [sumW] at s1
 rw [hc.cl] at h3
 have hw:=lY hS (hr i (by omega))
 have w1:=hw.1
 refine ⟨hc.wk i hi,tig_of' (lQ.2 (by rw [show (((p i).toNat:Nat):Int)=p i by omega];exact hr i (by omega))) ?_⟩
 unfold pW at *
 unfold cS at *
 omega
end
end Go.AH.Dust
