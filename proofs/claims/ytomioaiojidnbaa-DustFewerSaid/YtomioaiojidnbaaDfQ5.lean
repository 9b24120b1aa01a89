/- Plans and parts of them, plainly: no run has more dust than the window of as many hours. -/
import Derived.Test.YtomioaiojidnbaaDfQ4
import Derived.Test.YtomioaiojidnbaaDfMJ
namespace Go.AH.Dust
open Go Go.AH
theorem Ti {n:Nat} (hn:9≤n) (S:Shp) (a b:Int) (f:Nat→Int) {r:Heap} (hr:eX n r):eX n ([.ro (flL 1 2 3 S (fun i=>bI (rB S i))),.ro (ints S.d),.ro (pc S.f),.ro (ints S.s),.rw [.pointer (some ⟨0,0,none⟩)],.rw [.int .i64 a,.int .i64 b],.rw (rx (fun _=>0)),.rw (rx (f)),.rw [.func (.func 76) #[.pointer (some ⟨0,0,none⟩)] #[]]]++r):=by
 have hp:∀ i,i<9→Nat.blt i n=true:=fun i hi=>Nat.blt_eq.mpr (by omega)
 refine ⟨nO (by omega),ay (aK _),ay (dJ _),ay (aK _),⟨by simp [dR,closed,hp],rfl⟩,ay rfl,ay (iI _),ay (iI _),⟨?_,rfl⟩,hr⟩
 simp [dR,closed,kU,hp]
theorem RP (S:Shp) (a b:Int) (f:Nat→Int):eX 9 [.ro (flL 1 2 3 S (fun i=>bI (rB S i))),.ro (ints S.d),.ro (pc S.f),.ro (ints S.s),.rw [.pointer (some ⟨0,0,none⟩)],.rw [.int .i64 a,.int .i64 b],.rw (rx (fun _=>0)),.rw (rx (f)),.rw [.func (.func 76) #[.pointer (some ⟨0,0,none⟩)] #[]]]:=by
 have:=Ti (n:=9) (by omega) S a b f (r:=[]) trivial
 simpa using this
theorem Qj (S:Shp) (a b:Int) (f g:Nat→Int):eX 10 [.ro (flL 1 2 3 S (fun i=>bI (rB S i))),.ro (ints S.d),.ro (pc S.f),.ro (ints S.s),.rw [.pointer (some ⟨0,0,none⟩)],.rw [.int .i64 a,.int .i64 b],.rw (rx (fun _=>0)),.rw (rx (f)),.rw [.func (.func 76) #[.pointer (some ⟨0,0,none⟩)] #[]],.rw (rx g)]:=Ti (by omega) S a b f ⟨ay (iI _),trivial⟩
theorem Ll (S:Shp) (a b:Int) (f g:Nat→Int) (n:Nat) (L:cu) (hL:fJ 15 L):eX 15 [.ro (flL 1 2 3 S (fun i=>bI (rB S i))),.ro (ints S.d),.ro (pc S.f),.ro (ints S.s),.rw [.pointer (some ⟨0,0,none⟩)],.rw [.int .i64 a,.int .i64 b],.rw (rx (fun _=>0)),.rw (rx (f)),.rw [.func (.func 76) #[.pointer (some ⟨0,0,none⟩)] #[]],.rw (rx g),.rw [.int .i64 (n:Int)],.rw [.pointer (some ⟨0,0,none⟩)],.rw [.int .i64 (n:Int)],.dfr,L] :=
 Ti (by omega) S a b f ⟨ay (iI _),ay rfl,⟨rfl,rfl⟩,ay rfl,trivial,hL,trivial⟩
end Go.AH.Dust
namespace Go.Proofs.Ytomioaiojidnbaa
open Go Go.AH
attribute [local irreducible] dO dI dM kK iM gK iC dV iJ dQ iK iE
set_option maxRecDepth 100000
set_option maxHeartbeats 1000000
open Go.AH.Dust
theorem levels_ok (S:Shp) (hS:S.ok) (a b:Int) (hM:jc S a b) (ha:a≤1000000) (hb:b≤1000):Ev Try.prog 74 [.pointer (some ⟨0,0,none⟩),rtV a b] [.ro (flL 1 2 3 S (fun i=>bI (rB S i))),.ro (ints S.d),.ro (pc S.f),.ro (ints S.s)] (.agg (rx (lvl S a b)).toArray) [.ro (flL 1 2 3 S (fun i=>bI (rB S i))),.ro (ints S.d),.ro (pc S.f),.ro (ints S.s)]:=by
 have n1:=hS.n1
 have n10:=hS.n10
 have f60:=hS.f60
 have hLv:=ND hS hM ha hb
 have ha0:=hLv.a1
 refine aX 4 58 Try.func74 rfl rfl rfl rfl rfl ?_
 repeat' (first|(refine gU ?_;first|(refine aP ?_;refine st (au rfl) rfl rfl ?_)|(refine gFA ?_;refine st (aB rfl) rfl rfl ?_)|(refine aU ?_;refine st (ak rfl (by rfl)) rfl rfl ?_)|(refine iw ?_;refine st (dF rfl rfl (by omega)) rfl rfl ?_)|(refine fK ?_;refine st (bK rfl) rfl rfl ?_)|(refine gNil ?_;refine st (iR rfl) rfl rfl ?_)|(refine BG ?_;refine st (jy rfl rfl) rfl rfl ?_)|(refine kD ?_;refine st (gI rfl) rfl rfl ?_)|(refine eP ?_;refine st (bQ rfl) rfl rfl ?_)|(refine cO ?_;refine stN (aJ rfl rfl rfl rfl (by rfl)) rfl ?_))|refine aS ?_|refine aj ?_|refine ah ?_|refine bg ?_|refine aO ?_)
 refine Tail.lW (ι:=Nat) (fun t=>[(2,.pointer (some ⟨4,0,none⟩)),(3,.pointer (some ⟨5,0,none⟩)),(4,.pointer (some ⟨6,0,none⟩)),(5,.pointer (some ⟨7,0,none⟩)),(6,.pointer (some ⟨8,0,none⟩)),(18,.int .i64 ((S.d.length+1:Nat):Int)),(19,.int .i64 (t:Int))])
  (fun t=>[.ro (flL 1 2 3 S (fun i=>bI (rB S i))),.ro (ints S.d),.ro (pc S.f),.ro (ints S.s),.rw [.pointer (some ⟨0,0,none⟩)],.rw [.int .i64 a,.int .i64 b],.rw (rx (fun _=>0)),.rw (rx (lvT S a b t)),.rw [.func (.func 76) #[.pointer (some ⟨0,0,none⟩)] #[]]]) (fun t=>S.d.length+1 - t) (fun t=>t≤S.d.length+1) 0 rfl (by (repeat' (first|exact Tail.kR rfl|refine Tail.jO ?_ ?_|refine Tail.jw ?_|refine Tail.oG rfl ?_))) (fun _=>by simp) (fun t _=>RP S a b _)
  (.of (.same ⟨rfl,rfl,rfl,rfl,rfl,rfl,rfl,trivial⟩) (by simp)) (by omega) ?_
 intro t ht
 by_cases htT:t<S.d.length+1
 ·have hd3:dh [.ro (flL 1 2 3 S (fun i=>bI (rB S i))),.ro (ints S.d),.ro (pc S.f),.ro (ints S.s),.rw [.pointer (some ⟨0,0,none⟩)],.rw [.int .i64 a,.int .i64 b],.rw (rx (fun _=>0)),.rw (rx (lvT S a b t)),.rw [.func (.func 76) #[.pointer (some ⟨0,0,none⟩)] #[]]] 7 0 10=some (rx (lvT S a b t)):=rfl
  repeat' (first|(refine gU ?_;first|(refine aP ?_;refine st (au rfl) rfl rfl ?_)|(refine gFA ?_;refine st (aB rfl) rfl rfl ?_)|(refine aU ?_;first|refine st (ak rfl (by rfl)) rfl rfl ?_|refine st (aZ rfl (by rfl)) rfl rfl ?_)|(refine bG ?_;refine st (aG rfl rfl rfl) rfl rfl ?_)|(refine fK ?_;refine st (bK rfl) rfl rfl ?_)|(refine gNil ?_;refine st (iR rfl) rfl rfl ?_)|(refine eP ?_;refine st (bQ rfl) rfl rfl ?_)|(refine cO ?_;refine stN (aJ rfl rfl rfl rfl (by rfl)) rfl ?_))|refine aS ?_|refine aj ?_|refine ah ?_|refine bg ?_|refine aW ?_|refine aO ?_|refine aQ rfl ?_)
  refine Tail.lW (ι:=Nat) (fun n=>[(2,.pointer (some ⟨4,0,none⟩)),(3,.pointer (some ⟨5,0,none⟩)),(4,.pointer (some ⟨6,0,none⟩)),(5,.pointer (some ⟨7,0,none⟩)),(6,.pointer (some ⟨8,0,none⟩)),(18,.int .i64 ((S.d.length+1:Nat):Int)),(19,.int .i64 (t:Int)),(7,.pointer (some ⟨9,0,none⟩)),(27,.int .i64 (S.d.length:Int)),(28,.int .i64 (n:Int))])
   (fun n=>[.ro (flL 1 2 3 S (fun i=>bI (rB S i))),.ro (ints S.d),.ro (pc S.f),.ro (ints S.s),.rw [.pointer (some ⟨0,0,none⟩)],.rw [.int .i64 a,.int .i64 b],.rw (rx (fun _=>0)),.rw (rx (lvN S a b (lvT S a b t) n)),.rw [.func (.func 76) #[.pointer (some ⟨0,0,none⟩)] #[]],.rw (rx (lvT S a b t))]) (fun n=>S.d.length - n) (fun n=>n≤S.d.length) 0 rfl (by (repeat' (first|exact Tail.kR rfl|exact Tail.oH|refine Tail.jO ?_ ?_|refine Tail.jw ?_|refine Tail.oG rfl ?_))) (fun _=>by simp) (fun n _=>Qj S a b _ _)
   (.of (.same ⟨rfl,rfl,rfl,rfl,rfl,rfl,rfl,rfl,rfl,rfl,trivial⟩) (by simp)) (by omega) ?_
  clear hd3
  intro n hn
  by_cases hnd:n<S.d.length
  ·have hn10:n<10:=by omega
   have hnx:=xI (σ:=[.ro (flL 1 2 3 S (fun i=>bI (rB S i))),.ro (ints S.d),.ro (pc S.f),.ro (ints S.s),.rw [.pointer (some ⟨0,0,none⟩)],.rw [.int .i64 a,.int .i64 b],.rw (rx (fun _=>0)),.rw (rx (lvN S a b (lvT S a b t) n)),.rw [.func (.func 76) #[.pointer (some ⟨0,0,none⟩)] #[]],.rw (rx (lvT S a b t)),.rw [.int .i64 (n:Int)]]) (S:=S) (r:=fun i=>bI (rB S i)) (n:=(n:Int)) (p:=0) (x:=1) (y:=2) (z:=3) ⟨.inl rfl,.inl rfl,.inl rfl,.inl rfl⟩ rfl
   have hpot:=Qi (a:=a) (b:=b) hS (JM hS t) n
   have hlk:lvN S a b (lvT S a b t) (n+1)=lvK S a b (lvN S a b (lvT S a b t) n) n S.f.length:=rfl
   have hpk:=fun k hk=>Qh hS hpot (n:=n) (k:=k) hk
   clear hpot
   repeat' (first|(refine gU ?_;first|(refine aP ?_;refine st (au rfl) rfl rfl ?_)|(refine aU ?_;refine st (ak rfl (by rfl)) rfl rfl ?_)|(refine bG ?_;refine st (aG rfl rfl rfl) rfl rfl ?_)|(refine fC ?_;refine st (bC rfl rfl rfl (by exact hnx)) rfl rfl ?_)|(refine eP ?_;refine st (bQ rfl) rfl rfl ?_)|(refine cO ?_;refine stN (aJ rfl rfl rfl rfl (by rfl)) rfl ?_))|refine aS ?_|refine aj ?_|refine ah ?_|refine bg ?_|refine aW ?_|refine aO ?_|refine aQ rfl ?_)
   refine Gs (by simp) (.same (e2:=[(2,.pointer (some ⟨4,0,none⟩)),(3,.pointer (some ⟨5,0,none⟩)),(4,.pointer (some ⟨6,0,none⟩)),(5,.pointer (some ⟨7,0,none⟩)),(6,.pointer (some ⟨8,0,none⟩)),(18,.int .i64 ((S.d.length+1:Nat):Int)),(19,.int .i64 (t:Int)),(7,.pointer (some ⟨9,0,none⟩)),(8,.pointer (some ⟨10,0,none⟩)),(27,.int .i64 (S.d.length:Int)),(28,.int .i64 (n:Int)),(33,.func (.func 87) #[] #[.pointer (some ⟨11,0,none⟩),.pointer (some ⟨12,0,none⟩)])]) ⟨rfl,rfl,rfl,rfl,rfl,rfl,rfl,rfl,rfl,rfl,rfl,rfl,trivial⟩) ?_
   refine nK (p:=[]) (q:=[.pointer (some ⟨11,0,none⟩),.pointer (some ⟨12,0,none⟩)]) rfl fun L hL=>?_
   have hLc:fJ 15 L:=by
    rw [hL]
    exact qo fun p hp=>by
     simp only [List.mem_cons,List.not_mem_nil,or_false] at hp
     rcases hp with rfl|rfl|rfl|rfl|rfl|rfl|rfl|rfl|rfl|rfl|rfl|rfl <;> exact ⟨rfl,rfl⟩
   have hLi:dB L=false:=by rw [hL];rfl
   generalize hl1:lvN S a b (lvT S a b t) n=l1 at *
   refine aX 15 28 Try.func87 rfl rfl rfl rfl rfl ?_
   repeat' (first|(refine gU ?_;first|(refine aP ?_;refine st (au rfl) rfl rfl ?_)|(refine gFA ?_;refine st (aB rfl) rfl rfl ?_)|(refine aU ?_;refine st (ak rfl (by rfl)) rfl rfl ?_)|(refine fK ?_;refine st (bK rfl) rfl rfl ?_)|(refine gNil ?_;refine st (iR rfl) rfl rfl ?_))|refine aS ?_|refine aj ?_|refine ah ?_|refine bg ?_|refine aO ?_)
   refine iD (ι:=Nat) (fun k=>[(0,.func (.yield 14) #[] #[]),(1,.pointer (some ⟨11,0,none⟩)),(2,.pointer (some ⟨12,0,none⟩)),(10,sl 2 S.f.length),(11,.int .i64 (S.f.length:Int)),(12,.int .i64 (k:Int))])
    (fun k=>[.ro (flL 1 2 3 S (fun i=>bI (rB S i))),.ro (ints S.d),.ro (pc S.f),.ro (ints S.s),.rw [.pointer (some ⟨0,0,none⟩)],.rw [.int .i64 a,.int .i64 b],.rw (rx (fun _=>0)),.rw (rx (lvK S a b l1 n k)),.rw [.func (.func 76) #[.pointer (some ⟨0,0,none⟩)] #[]],.rw (rx (lvT S a b t)),.rw [.int .i64 (n:Int)],.rw [.pointer (some ⟨0,0,none⟩)],.rw [.int .i64 (n:Int)],.dfr,L]) (fun k=>S.f.length - k) (fun k=>k≤S.f.length) 0 (by simp) (.same ⟨rfl,rfl,rfl,rfl,rfl,rfl,trivial⟩) (by omega) ?_
   intro k hk
   clear hnx
   by_cases hkl:k<S.f.length
   ·have hd2:∀ σ':Heap,dh (.ro (flL 1 2 3 S (fun i=>bI (rB S i)))::.ro (ints S.d)::.ro (pc S.f)::σ') 2 (0+k*2) 2=some [.int .i64 (gf S.f k).1,.int .i64 (gf S.f k).2]:=fun σ'=>lX (.inl rfl) hkl
    obtain ⟨hw1,hw2,-⟩:=hS.f k hkl
    have hkn:lvK S a b l1 n (k+1)=if (gf S.f k).1=(n:Int)∧rB S n=true then kF (lvK S a b l1 n k) n (max (lvK S a b l1 n k n) (pW S a b n+lvK S a b l1 n k (gf S.f k).2.toNat)) else lvK S a b l1 n k:=rfl
    have b1:=AO hS hM hb (hpk k hk) hnd
    have b2:=AO hS hM hb (hpk k hk) (v:=(gf S.f k).2.toNat) (by omega)
    have hwb:-1000000≤pW S a b n∧pW S a b n≤1000000:=by
     have:=Ew hS hLv hnd
     have:=hM.nonneg hS
     unfold pW;omega
    have hisr:∀ σ':Heap,σ'.all (fun o=>!dB o)=true→Ev Try.prog 56 [.pointer (some ⟨0,0,none⟩),.int .i64 (n:Int)] (cu.ro (flL 1 2 3 S (fun i=>bI (rB S i)))::.ro (ints S.d)::.ro (pc S.f)::.ro (ints S.s)::.rw [.pointer (some ⟨0,0,none⟩)]::.rw [.int .i64 a,.int .i64 b]::.rw (rx (fun _=>0))::.rw (rx (lvK S a b l1 n k))::.rw [.func (.func 76) #[.pointer (some ⟨0,0,none⟩)] #[]]::σ') (.bool (rB S n)) (cu.ro (flL 1 2 3 S (fun i=>bI (rB S i)))::.ro (ints S.d)::.ro (pc S.f)::.ro (ints S.s)::.rw [.pointer (some ⟨0,0,none⟩)]::.rw [.int .i64 a,.int .i64 b]::.rw (rx (fun _=>0))::.rw (rx (lvK S a b l1 n k))::.rw [.func (.func 76) #[.pointer (some ⟨0,0,none⟩)] #[]]::σ'):=fun σ' hσ=>pJ (S:=S) (q:=rB S) (r:=fun i=>bI (rB S i)) (n:=n) (p:=0) (x:=1) (y:=2) (z:=3) ⟨.inl rfl,.inl rfl,.inl rfl,.inl rfl⟩ rfl hn10 hσ
    have hwo:∀ σ':Heap,σ'.all (fun o=>!dB o)=true→Ev Try.prog 76 [.pointer (some ⟨0,0,none⟩),.int .i64 (n:Int),rtV a b] (cu.ro (flL 1 2 3 S (fun i=>bI (rB S i)))::.ro (ints S.d)::.ro (pc S.f)::.ro (ints S.s)::.rw [.pointer (some ⟨0,0,none⟩)]::.rw [.int .i64 a,.int .i64 b]::.rw (rx (fun _=>0))::.rw (rx (lvK S a b l1 n k))::.rw [.func (.func 76) #[.pointer (some ⟨0,0,none⟩)] #[]]::σ') (.int .i64 (pW S a b n)) (cu.ro (flL 1 2 3 S (fun i=>bI (rB S i)))::.ro (ints S.d)::.ro (pc S.f)::.ro (ints S.s)::.rw [.pointer (some ⟨0,0,none⟩)]::.rw [.int .i64 a,.int .i64 b]::.rw (rx (fun _=>0))::.rw (rx (lvK S a b l1 n k))::.rw [.func (.func 76) #[.pointer (some ⟨0,0,none⟩)] #[]]::σ'):=fun σ' hσ=>JF (S:=S) (r:=fun i=>bI (rB S i)) (a:=a) (b:=b) (n:=n) (p:=0) (x:=1) (y:=2) (z:=3) ⟨.inl rfl,.inl rfl,.inl rfl,.inl rfl⟩ hS hLv hnd hσ
    have hc1:∀ σ':Heap,cZ (cu.ro (flL 1 2 3 S (fun i=>bI (rB S i)))::.ro (ints S.d)::.ro (pc S.f)::.ro (ints S.s)::.rw [.pointer (some ⟨0,0,none⟩)]::.rw [.int .i64 a,.int .i64 b]::.rw (rx (fun _=>0))::.rw (rx (lvK S a b l1 n k))::.rw [.func (.func 76) #[.pointer (some ⟨0,0,none⟩)] #[]]::σ') 7 (0+n*1)=some (.int .i64 (lvK S a b l1 n k n)):=fun σ'=>by rw [Nat.zero_add,Nat.mul_one];exact qP hn10
    have hc2:∀ σ':Heap,cZ (cu.ro (flL 1 2 3 S (fun i=>bI (rB S i)))::.ro (ints S.d)::.ro (pc S.f)::.ro (ints S.s)::.rw [.pointer (some ⟨0,0,none⟩)]::.rw [.int .i64 a,.int .i64 b]::.rw (rx (fun _=>0))::.rw (rx (lvK S a b l1 n k))::.rw [.func (.func 76) #[.pointer (some ⟨0,0,none⟩)] #[]]::σ') 7 (0+(gf S.f k).2.toNat*1)=some (.int .i64 (lvK S a b l1 n k (gf S.f k).2.toNat)):=fun σ'=>by rw [Nat.zero_add,Nat.mul_one];exact qP (by omega)
    have hput3:∀ (σ':Heap) (v:Int),putCells (cu.ro (flL 1 2 3 S (fun i=>bI (rB S i)))::.ro (ints S.d)::.ro (pc S.f)::.ro (ints S.s)::.rw [.pointer (some ⟨0,0,none⟩)]::.rw [.int .i64 a,.int .i64 b]::.rw (rx (fun _=>0))::.rw (rx (lvK S a b l1 n k))::.rw [.func (.func 76) #[.pointer (some ⟨0,0,none⟩)] #[]]::σ') 7 (0+n*1) [.int .i64 v]=some (cu.ro (flL 1 2 3 S (fun i=>bI (rB S i)))::.ro (ints S.d)::.ro (pc S.f)::.ro (ints S.s)::.rw [.pointer (some ⟨0,0,none⟩)]::.rw [.int .i64 a,.int .i64 b]::.rw (rx (fun _=>0))::.rw (rx (kF (lvK S a b l1 n k) n v))::.rw [.func (.func 76) #[.pointer (some ⟨0,0,none⟩)] #[]]::σ'):=fun σ' v =>
     sO rfl (by simp [rx];omega) (by simp [rx]) (by rw [Nat.zero_add,Nat.mul_one];exact Ap hn10)
    by_cases hk1:(gf S.f k).1=(n:Int)
    ·cases hr:rB S n with
     |true =>
      rw [if_pos ⟨hk1,hr⟩] at hkn
      rw [hr] at hisr
      generalize lvK S a b l1 n k n=M at *
      generalize lvK S a b l1 n k (gf S.f k).2.toNat=x at *
      generalize pW S a b n=wv at *
      generalize gf S.f k=p at *
      obtain ⟨u,v⟩:=p
      simp only at hw1 hw2 hd2 hk1 hc2
      repeat' (first|(refine gU ?_;first|(refine aP ?_;refine st (au rfl) rfl rfl ?_)|(refine aU ?_;first|refine st (ak rfl (by rfl)) rfl rfl ?_|refine st (aZ rfl (by exact hd2 _)) rfl rfl ?_)|(refine bG ?_;refine st (aG rfl rfl rfl) rfl rfl ?_)|(refine gIA ?_;first|refine st (bZ rfl rfl (by omega)) rfl rfl ?_|refine st (bV rfl rfl (by omega) (by omega)) rfl rfl ?_)|(refine eP ?_;refine st (bQ rfl) rfl rfl ?_)|(refine cO ?_;refine stN (aJ rfl rfl rfl rfl (by rfl)) rfl ?_))|(refine gG ?_;first|(refine aP ?_;refine bP rfl (au rfl) rfl rfl ?_)|(refine aU ?_;refine bP rfl (ak rfl (by rfl)) rfl rfl ?_)|(refine gIA ?_;refine bP rfl (bV rfl rfl (by omega) (by omega)) rfl rfl ?_))|refine aS ?_|refine aj ?_|refine ah ?_|refine bg ?_|refine aW ?_|refine aO ?_|refine aQ rfl ?_)
      refine iT (l:=14) rfl rfl (by rw [hL];rfl) rfl rfl rfl (fun _ _ _ _ he=>ig (b:=true) (by rw [fM (b:=decide (u=(n:Int))) rfl,decide_eq_true hk1];rfl) he) ?_
      repeat' (first|(refine gU ?_;(refine aI ?_;refine st (aA rfl) rfl rfl ?_))|refine aj ?_|refine ah ?_)
      refine jB (by rw [hL];rfl) ?_
      repeat' (first|(refine gU ?_;first|(refine aU ?_;refine st (ak rfl (by rfl)) rfl rfl ?_)|(refine fC ?_;refine st (bC rfl rfl rfl (by exact hisr _ rfl)) rfl rfl ?_)|(refine cO ?_;refine stN (aJ rfl rfl rfl rfl (by exact hput3 _ _)) rfl ?_))|(refine fU ?_;first|refine frA (bC rfl rfl rfl (hwo _ rfl)) rfl ?_|(refine gZ ?_;refine frA (au rfl) rfl ?_)|(refine iH ?_;first|refine frA (ak rfl (by first|rfl|exact hc1 _|exact hc2 _)) rfl ?_|refine frA (aZ rfl (by rfl)) rfl ?_)|(refine fAdd ?_;refine frA (tZ rfl rfl (by omega) (by omega)) rfl ?_)|(refine fIA ?_;first|refine frA (gQ rfl rfl (by omega)) rfl ?_|refine frA (bV rfl rfl (by omega) (by omega)) rfl ?_)|(refine Ol ?_;refine frA (zT rfl rfl) rfl ?_))|(refine fD ⟨by kernel_rfl,?_⟩)|refine aS ?_|refine aj ?_|refine dH (by kernel_rfl) rfl ?_|refine ah ?_|refine bg ?_|refine fH ?_|refine aO ?_|refine aQ rfl ?_)
      refine jC rfl rfl ?_
      repeat' (first|(refine gU ?_;first|(refine aP ?_;refine st (au rfl) rfl rfl ?_)|(refine iw ?_;refine st (dF rfl rfl (by omega)) rfl rfl ?_)|(refine eY ?_;refine st (bH rfl rfl) rfl rfl ?_))|(refine gG ?_;(refine kX ?_;refine bP rfl (gX rfl) rfl rfl ?_))|refine aj ?_|refine ah ?_|refine bg ?_|refine fH ?_|refine aW ?_|refine aN rfl ?_)
      refine ⟨rfl,k+1,by omega,by omega,?_⟩
      rw [hL,hkn]
      exact bT.drop [.ro (flL 1 2 3 S (fun i=>bI (rB S i))),.ro (ints S.d),.ro (pc S.f),.ro (ints S.s),.rw [.pointer (some ⟨0,0,none⟩)],.rw [.int .i64 a,.int .i64 b],.rw (rx (fun _=>0)),.rw (rx (kF (lvK S a b l1 n k) n (max M (wv+x)))),.rw [.func (.func 76) #[.pointer (some ⟨0,0,none⟩)] #[]],.rw (rx (lvT S a b t)),.rw [.int .i64 (n:Int)],.rw [.pointer (some ⟨0,0,none⟩)],.rw [.int .i64 (n:Int)],.dfr,_] [_] (by simp) (Ll S a b _ _ n _ (by have:=hLc;rw [hL] at this;exact this)) (by (repeat' (first|exact trivial|exact ⟨rfl,rfl,rfl⟩|exact ⟨rfl,bM rfl,rfl⟩|refine ⟨?_,?_⟩)))
     |false =>
      rw [if_neg (by rw [hr];simp)] at hkn
      rw [hr] at hisr
      generalize gf S.f k=p at *
      obtain ⟨u,v⟩:=p
      simp only at hw1 hw2 hd2 hk1 hc2
      repeat' (first|(refine gU ?_;first|(refine aP ?_;refine st (au rfl) rfl rfl ?_)|(refine aU ?_;first|refine st (ak rfl (by rfl)) rfl rfl ?_|refine st (aZ rfl (by exact hd2 _)) rfl rfl ?_)|(refine bG ?_;refine st (aG rfl rfl rfl) rfl rfl ?_)|(refine gIA ?_;first|refine st (bZ rfl rfl (by omega)) rfl rfl ?_|refine st (bV rfl rfl (by omega) (by omega)) rfl rfl ?_)|(refine eP ?_;refine st (bQ rfl) rfl rfl ?_)|(refine cO ?_;refine stN (aJ rfl rfl rfl rfl (by rfl)) rfl ?_))|(refine gG ?_;first|(refine aP ?_;refine bP rfl (au rfl) rfl rfl ?_)|(refine aU ?_;refine bP rfl (ak rfl (by rfl)) rfl rfl ?_)|(refine gIA ?_;refine bP rfl (bV rfl rfl (by omega) (by omega)) rfl rfl ?_))|refine aS ?_|refine aj ?_|refine ah ?_|refine bg ?_|refine aW ?_|refine aO ?_|refine aQ rfl ?_)
      refine iT (l:=14) rfl rfl (by rw [hL];rfl) rfl rfl rfl (fun _ _ _ _ he=>ig (b:=true) (by rw [fM (b:=decide (u=(n:Int))) rfl,decide_eq_true hk1];rfl) he) ?_
      repeat' (first|(refine gU ?_;(refine aI ?_;refine st (aA rfl) rfl rfl ?_))|refine aj ?_|refine ah ?_)
      refine jB (by rw [hL];rfl) ?_
      repeat' (first|(refine gU ?_;first|(refine aU ?_;refine st (ak rfl (by rfl)) rfl rfl ?_)|(refine fC ?_;refine st (bC rfl rfl rfl (by exact hisr _ rfl)) rfl rfl ?_))|refine aS ?_|refine aj ?_|refine ah ?_|refine bg ?_|refine fH ?_|refine aW ?_|refine aO ?_|refine aN rfl ?_)
      refine jC rfl rfl ?_
      repeat' (first|(refine gU ?_;first|(refine aP ?_;refine st (au rfl) rfl rfl ?_)|(refine iw ?_;refine st (dF rfl rfl (by omega)) rfl rfl ?_)|(refine eY ?_;refine st (bH rfl rfl) rfl rfl ?_))|(refine gG ?_;(refine kX ?_;refine bP rfl (gX rfl) rfl rfl ?_))|refine aj ?_|refine ah ?_|refine bg ?_|refine fH ?_|refine aW ?_|refine aN rfl ?_)
      refine ⟨rfl,k+1,by omega,by omega,?_⟩
      rw [hL,hkn]
      exact bT.drop [.ro (flL 1 2 3 S (fun i=>bI (rB S i))),.ro (ints S.d),.ro (pc S.f),.ro (ints S.s),.rw [.pointer (some ⟨0,0,none⟩)],.rw [.int .i64 a,.int .i64 b],.rw (rx (fun _=>0)),.rw (rx (lvK S a b l1 n k)),.rw [.func (.func 76) #[.pointer (some ⟨0,0,none⟩)] #[]],.rw (rx (lvT S a b t)),.rw [.int .i64 (n:Int)],.rw [.pointer (some ⟨0,0,none⟩)],.rw [.int .i64 (n:Int)],.dfr,_] [_] (by simp) (Ll S a b _ _ n _ (by have:=hLc;rw [hL] at this;exact this)) (by (repeat' (first|exact trivial|exact ⟨rfl,rfl,rfl⟩|exact ⟨rfl,bM rfl,rfl⟩|refine ⟨?_,?_⟩)))
    ·rw [if_neg (fun x=>hk1 x.1)] at hkn
     generalize gf S.f k=p at *
     obtain ⟨u,v⟩:=p
     simp only at hw1 hw2 hd2 hk1 hc2
     repeat' (first|(refine gU ?_;first|(refine aP ?_;refine st (au rfl) rfl rfl ?_)|(refine aU ?_;first|refine st (ak rfl (by rfl)) rfl rfl ?_|refine st (aZ rfl (by exact hd2 _)) rfl rfl ?_)|(refine iw ?_;refine st (dF rfl rfl (by omega)) rfl rfl ?_)|(refine bG ?_;refine st (aG rfl rfl rfl) rfl rfl ?_)|(refine eY ?_;refine st (bY rfl rfl) rfl rfl ?_)|(refine gIA ?_;first|refine st (bZ rfl rfl (by omega)) rfl rfl ?_|refine st (bV rfl rfl (by omega) (by omega)) rfl rfl ?_)|(refine eP ?_;refine st (bQ rfl) rfl rfl ?_)|(refine cO ?_;refine stN (aJ rfl rfl rfl rfl (by rfl)) rfl ?_))|(refine gG ?_;refine nU rfl rfl ?_)|refine aS ?_|refine aj ?_|refine ah ?_|refine bg ?_|refine fH ?_|refine aW ?_|refine aO ?_|refine aQ rfl ?_|refine aN rfl ?_)
     refine ⟨rfl,k+1,by omega,by omega,?_⟩
     rw [hkn]
     exact bT.drop [.ro (flL 1 2 3 S (fun i=>bI (rB S i))),.ro (ints S.d),.ro (pc S.f),.ro (ints S.s),.rw [.pointer (some ⟨0,0,none⟩)],.rw [.int .i64 a,.int .i64 b],.rw (rx (fun _=>0)),.rw (rx (lvK S a b l1 n k)),.rw [.func (.func 76) #[.pointer (some ⟨0,0,none⟩)] #[]],.rw (rx (lvT S a b t)),.rw [.int .i64 (n:Int)],.rw [.pointer (some ⟨0,0,none⟩)],.rw [.int .i64 (n:Int)],.dfr,L] [_] (by simp) (Ll S a b _ _ n _ hLc) (by (repeat' (first|exact trivial|exact ⟨rfl,rfl,rfl⟩|exact ⟨rfl,bM rfl,rfl⟩|refine ⟨?_,?_⟩)))
   ·obtain rfl:k=S.f.length:=by omega
    rw [← hlk]
    repeat' (first|(refine gU ?_;(refine bG ?_;refine st (aG rfl rfl rfl) rfl rfl ?_))|refine aS ?_|refine aj ?_|refine ah ?_|refine bg ?_|refine jd ?_|refine eG rfl ?_|refine dW ?_|refine aN rfl ?_)
    refine IB .nil .all ⟨_,_,_,_,_,_,_,by rw [hL];rfl,by simp,?_⟩
    dsimp only
    repeat' (first|(refine gU ?_;first|(refine aP ?_;refine st (au rfl) rfl rfl ?_)|(refine iw ?_;refine st (dF rfl rfl (by omega)) rfl rfl ?_))|refine aj ?_|refine ah ?_|refine bg ?_|refine fH ?_)
    exact ⟨n+1,⟨by omega,by omega⟩,Tail.mZ.src [.ro (flL 1 2 3 S (fun i=>bI (rB S i))),.ro (ints S.d),.ro (pc S.f),.ro (ints S.s),.rw [.pointer (some ⟨0,0,none⟩)],.rw [.int .i64 a,.int .i64 b],.rw (rx (fun _=>0)),.rw (rx (lvN S a b (lvT S a b t) (n+1))),.rw [.func (.func 76) #[.pointer (some ⟨0,0,none⟩)] #[]],.rw (rx (lvT S a b t))] [] [] 13 (by simp) rfl (Qj S a b _ _) rfl rfl rfl trivial (by (repeat' (first|exact trivial|refine ⟨bD rfl rfl,?_⟩|refine ⟨aV (m:=10) rfl (fun i hi=>aY hi) (by simp) (by rfl) rfl,?_⟩)))⟩
  ·obtain rfl:n=S.d.length:=by omega
   have hst:=lvT_stop (S:=S) (a:=a) (b:=b) (t:=t) n10
   have hlt:lvN S a b (lvT S a b t) S.d.length=lvT S a b (t+1):=rfl
   rw [hlt]
   have hd3:dh [.ro (flL 1 2 3 S (fun i=>bI (rB S i))),.ro (ints S.d),.ro (pc S.f),.ro (ints S.s),.rw [.pointer (some ⟨0,0,none⟩)],.rw [.int .i64 a,.int .i64 b],.rw (rx (fun _=>0)),.rw (rx (lvT S a b (t+1))),.rw [.func (.func 76) #[.pointer (some ⟨0,0,none⟩)] #[]],.rw (rx (lvT S a b t))] 7 0 10=some (rx (lvT S a b (t+1))):=rfl
   have hd4:dh [.ro (flL 1 2 3 S (fun i=>bI (rB S i))),.ro (ints S.d),.ro (pc S.f),.ro (ints S.s),.rw [.pointer (some ⟨0,0,none⟩)],.rw [.int .i64 a,.int .i64 b],.rw (rx (fun _=>0)),.rw (rx (lvT S a b (t+1))),.rw [.func (.func 76) #[.pointer (some ⟨0,0,none⟩)] #[]],.rw (rx (lvT S a b t))] 9 0 10=some (rx (lvT S a b t)):=rfl
   by_cases hq:∀ i ∈ List.range 10,lvT S a b (t+1) i=lvT S a b t i
   ·have hst:=hst hq
    have e1:lvT S a b (t+1)=lvl S a b:=by
     unfold lvl
     rw [show S.d.length+1=t+(S.d.length+1 - t) by omega,hst,hst]
    rw [e1] at hd3
    rw [e1] at hq
    rw [e1]
    repeat' (first|(refine gU ?_;first|refine st (nJ rfl rfl rfl rfl rfl (Bj _) (Bj _)) rfl rfl ?_|(refine aU ?_;refine st (aZ rfl (by rfl)) rfl rfl ?_)|(refine bG ?_;refine st (aG rfl rfl rfl) rfl rfl ?_)|(refine cO ?_;refine stN (aJ rfl rfl rfl rfl (by rfl)) rfl ?_))|refine aS ?_|refine aj ?_|refine ah ?_|refine bg ?_|refine jd ?_|refine eG rfl ?_|refine qW rfl ?_|refine dW ?_|refine dX ?_|refine aQ rfl ?_|refine aN rfl ?_)
    exact iF (.cellN inferInstance rfl rfl .nil) (.plain rfl rfl) ⟨rfl,rfl⟩
   ·repeat' (first|(refine gU ?_;first|refine st (nJ rfl rfl rfl rfl rfl (Bj _) (Bj _)) rfl rfl ?_|(refine aP ?_;refine st (au rfl) rfl rfl ?_)|(refine aU ?_;refine st (aZ rfl (by rfl)) rfl rfl ?_)|(refine iw ?_;refine st (dF rfl rfl (by omega)) rfl rfl ?_)|(refine bG ?_;refine st (aG rfl rfl rfl) rfl rfl ?_))|refine aS ?_|refine aj ?_|refine ah ?_|refine bg ?_|refine jd ?_|refine fH ?_|refine eG rfl ?_|refine aW ?_|refine dW ?_|refine aN rfl ?_)
    exact ⟨t+1,⟨by omega,by omega⟩,.of (bT.drop [.ro (flL 1 2 3 S (fun i=>bI (rB S i))),.ro (ints S.d),.ro (pc S.f),.ro (ints S.s),.rw [.pointer (some ⟨0,0,none⟩)],.rw [.int .i64 a,.int .i64 b],.rw (rx (fun _=>0)),.rw (rx (lvT S a b (t+1))),.rw [.func (.func 76) #[.pointer (some ⟨0,0,none⟩)] #[]]] [_] (by simp) (RP S a b _) (by (repeat' (first|exact trivial|exact ⟨rfl,rfl,rfl⟩|refine ⟨?_,?_⟩)))) (by simp)⟩
 ·obtain rfl:t=S.d.length+1:=by omega
  have hd3:dh [.ro (flL 1 2 3 S (fun i=>bI (rB S i))),.ro (ints S.d),.ro (pc S.f),.ro (ints S.s),.rw [.pointer (some ⟨0,0,none⟩)],.rw [.int .i64 a,.int .i64 b],.rw (rx (fun _=>0)),.rw (rx (lvl S a b)),.rw [.func (.func 76) #[.pointer (some ⟨0,0,none⟩)] #[]]] 7 0 10=some (rx (lvl S a b)):=rfl
  have e1:lvT S a b (S.d.length+1)=lvl S a b:=rfl
  rw [e1]
  repeat' (first|(refine gU ?_;first|(refine aU ?_;refine st (aZ rfl (by rfl)) rfl rfl ?_)|(refine bG ?_;refine st (aG rfl rfl rfl) rfl rfl ?_)|(refine cO ?_;refine stN (aJ rfl rfl rfl rfl (by rfl)) rfl ?_))|refine aS ?_|refine aj ?_|refine ah ?_|refine bg ?_|refine jd ?_|refine eG rfl ?_|refine dW ?_|refine dX ?_|refine aN rfl ?_)
  exact iF (.cellN inferInstance rfl rfl .nil) (.plain rfl rfl) ⟨rfl,rfl⟩
end Go.Proofs.Ytomioaiojidnbaa
namespace Go.AH.Dust
open Go Go.AH
section
variable {S:Shp} {a b:Int} {l:Nat→Int}
structure Ic (S:Shp) (a b:Int) (l:Nat→Int) (w:List Int):Prop where
 ne:0<w.length
 wk:∀ i,i<w.length→isW S (gi w i)
 st:∀ i,i+1<w.length→edg S a b l (gi w i) (gi w (i+1))
 nd:∀ i j,i<w.length→j<w.length→gi w i=gi w j→i=j
theorem Ic.len {w:List Int} (h:Ic S a b l w):w.length≤S.d.length:=by
 refine Classical.byContradiction fun hn=>?_
 obtain ⟨i,j,h1,h2,h3⟩:=KW S.d.length (fun i=>(gi w i).toNat) (fun i hi=>by
  have:=h.wk i (by omega)
  have h1:=this.1;have h2:=this.2
  omega)
 have w1:=(h.wk i (by omega)).1
 have w2:=(h.wk j (by omega)).1
 have:=h.nd i j (by omega) (by omega) (by omega)
 omega
theorem JQ {u v:Int}:comB S a b l u v=true↔Cms (edg S a b l) u v:=by
 unfold comB;exact @decide_eq_true_iff _ (Classical.propDecidable _)
theorem NG {way:List Int} {at_ on:Int} {p:Int×Int}:onC S a b l way at_ on p=true↔p.1=at_∧rF S a b l at_.toNat p.2.toNat=true∧(on<0∨p.2 ∈ way)∧comB S a b l p.2 p.2=true:=by
 unfold onC;simp only [Bool.and_eq_true,Bool.or_eq_true,decide_eq_true_eq]
theorem EG {way:List Int} {at_:Int}:∀ {k:Nat},k≤S.f.length→0≤onS S a b l way at_ k→edg S a b l at_ (onS S a b l way at_ k)∧comB S a b l (onS S a b l way at_ k) (onS S a b l way at_ k)=true
 |0,_,h=>by simp [onS] at h
 |k+1,hk,h=>by
  unfold onS at h ⊢
  by_cases hc:onC S a b l way at_ (onS S a b l way at_ k) (gf S.f k)=true
  ·rw [if_pos hc]
   obtain ⟨h1,h2,_,h4⟩:=NG.1 hc
   exact ⟨⟨jW.2 ⟨k,by omega,Prod.ext h1 rfl⟩,h2⟩,h4⟩
  ·rw [if_neg hc] at h ⊢
   exact EG (by omega) h
theorem NH (hS:S.ok) {way:List Int} {at_:Int}:∀ {k j:Nat},k≤S.f.length→j<k→(gf S.f j).1=at_→rF S a b l at_.toNat (gf S.f j).2.toNat=true→comB S a b l (gf S.f j).2 (gf S.f j).2=true→0≤onS S a b l way at_ k
 |k+1,j,hk,hj,h1,h2,h3=>by
  have hw:=(hS.f k (by omega)).2.1.1
  unfold onS
  by_cases hc:onC S a b l way at_ (onS S a b l way at_ k) (gf S.f k)=true
  ·rw [if_pos hc];exact hw
  ·rw [if_neg hc]
   by_cases hjk:j=k
   ·subst hjk
    refine Classical.byContradiction fun hn=>hc (NG.2 ⟨h1,h2,.inl (by omega),h3⟩)
   ·exact NH hS (by omega) (by omega) h1 h2 h3
theorem cms_first {u:Int} (h:Cms (edg S a b l) u u):∃ y,edg S a b l u y∧Cms (edg S a b l) y y:=by
 cases h with
 |one h=>exact ⟨u,h,.one h⟩
 |more h k=>exact ⟨_,h,k.snoc h⟩
theorem zL {w:List Int} {x:Int}:gi (w++[x]) (w.length)=x:=by unfold gi;simp [List.getD_eq_getElem?_getD]
theorem wW {w:List Int} {x:Int} {i:Nat} (h:i<w.length):gi (w++[x]) i=gi w i:=by
 unfold gi;simp only [List.getD_eq_getElem?_getD];rw [List.getElem?_append_left h]
theorem Ic.push {w:List Int} {x:Int} (h:Ic S a b l w) (hx:isW S x) (he:edg S a b l (gi w (w.length - 1)) x) (hn:∀ i,i<w.length→gi w i ≠ x):Ic S a b l (w++[x]):=by
 have hl:(w++[x]).length=w.length+1:=by simp
 have n0:=h.ne
 refine ⟨by omega,fun i hi=>?_,fun i hi=>?_,fun i j hi hj he=>?_⟩
 ·by_cases hil:i<w.length
  ·rw [wW hil];exact h.wk i hil
  ·obtain rfl:i=w.length:=by omega
   rw [zL];exact hx
 ·by_cases hil:i+1<w.length
  ·rw [wW hil,wW (by omega)];exact h.st i hil
  ·have e:i+1=w.length:=by omega
   rw [e,zL,wW (by omega),show i=w.length - 1 by omega];exact he
 ·by_cases hil:i<w.length
  ·by_cases hjl:j<w.length
   ·rw [wW hil,wW hjl] at he;exact h.nd i j hil hjl he
   ·obtain rfl:j=w.length:=by omega
    rw [wW hil,zL] at he;exact absurd he (hn i hil)
  ·obtain rfl:i=w.length:=by omega
   by_cases hjl:j<w.length
   ·rw [wW hjl,zL] at he;exact absurd he.symm (hn j hjl)
   ·omega
structure QM (S:Shp) (a b:Int) (l:Nat→Int) (o:List Int×Nat):Prop where
 way:Ic S a b l o.1
 lt:o.2<o.1.length
 cl:edg S a b l (gi o.1 (o.1.length - 1)) (gi o.1 o.2)
theorem ixP_at {q:Nat→Bool} {n:Nat} (h:0≤ixP q n):q (ixP q n).toNat=true:=by
 unfold ixP at *
 split at h
 ·rename_i i hi
  have:=List.find?_some hi
  simpa using this
 ·omega
theorem srch_good (hS:S.ok):∀ (n:Nat) (w:List Int),S.d.length+1 - w.length=n→Ic S a b l w→∀ o,mG S a b l w=some o→QM S a b l o:=by
 intro n
 induction n with
 |zero=>intro w hn hw;have:=hw.len;omega
 |succ n ih =>
  intro w hn hw o ho
  have hl:=hw.len
  have hat:=hw.wk (w.length - 1) (by have:=hw.ne;omega)
  rw [mG,dif_pos hl] at ho
  have hon:=JK hS (a:=a) (b:=b) (l:=l) (way:=w) (at_:=gi w (w.length - 1)) (Nat.le_refl S.f.length)
  have hsp:=EG (a:=a) (b:=b) (l:=l) (way:=w) (at_:=gi w (w.length - 1)) (Nat.le_refl S.f.length)
  generalize onS S a b l w (gi w (w.length - 1)) S.f.length=on at *
  by_cases h0:on<0
  ·rw [if_pos h0] at ho;cases ho
  ·rw [if_neg h0] at ho
   obtain ⟨s1,s2⟩:=hsp (by omega)
   by_cases hi:0≤ixP (fun i=>decide (gi w i=on)) w.length
   ·rw [if_pos hi] at ho
    cases ho
    have h1:=Qc hi
    have h2:=of_decide_eq_true (ixP_at hi)
    exact ⟨hw,by simp only;omega,by simp only;rw [h2];exact s1⟩
   ·rw [if_neg hi] at ho
    refine ih (w++[on]) (by simp;omega) (hw.push (hon.resolve_left (by omega)) s1 fun i hil he=>hi (Cc.2 ⟨i,hil,decide_eq_true he⟩)) o ho
theorem srch_ex (hS:S.ok):∀ (n:Nat) (w:List Int),S.d.length+1 - w.length=n→Ic S a b l w→Cms (edg S a b l) (gi w (w.length - 1)) (gi w (w.length - 1))→∃ o,mG S a b l w=some o:=by
 intro n
 induction n with
 |zero=>intro w hn hw;have:=hw.len;omega
 |succ n ih =>
  intro w hn hw hc
  have hl:=hw.len
  rw [mG,dif_pos hl]
  have hon:=JK hS (a:=a) (b:=b) (l:=l) (way:=w) (at_:=gi w (w.length - 1)) (Nat.le_refl S.f.length)
  have hsp:=EG (a:=a) (b:=b) (l:=l) (way:=w) (at_:=gi w (w.length - 1)) (Nat.le_refl S.f.length)
  obtain ⟨y,y1,y2⟩:=cms_first hc
  obtain ⟨j,j1,j2⟩:=jW.1 y1.1
  have h0:=NH hS (a:=a) (b:=b) (l:=l) (way:=w) (at_:=gi w (w.length - 1)) (Nat.le_refl S.f.length) j1 (by rw [j2]) (by rw [j2];exact y1.2) (by rw [j2];exact JQ.2 y2)
  generalize onS S a b l w (gi w (w.length - 1)) S.f.length=on at *
  obtain ⟨s1,s2⟩:=hsp h0
  rw [if_neg (by omega)]
  by_cases hi:0≤ixP (fun i=>decide (gi w i=on)) w.length
  ·rw [if_pos hi];exact ⟨_,rfl⟩
  ·rw [if_neg hi]
   refine ih (w++[on]) (by simp;omega) (hw.push (hon.resolve_left (by omega)) s1 fun i hil he=>hi (Cc.2 ⟨i,hil,decide_eq_true he⟩)) ?_
   rw [show (w++[on]).length - 1=w.length by simp,zL]
   exact JQ.1 s2
theorem NI {k:Nat} (hk:k<S.d.length):Ic S a b l [(k:Int)]:=by
 refine ⟨by simp,fun i hi=>?_,fun i hi=>by simp at hi,fun i j hi hj _=>by simp at hi hj;omega⟩
 obtain rfl:i=0:=by simpa using hi
 exact ⟨by show (0:Int)≤(k:Int);omega,by show (k:Int) < _;omega⟩
theorem rnd_good (hS:S.ok):∀ (n k:Nat),S.d.length - k=n→∀ o,qA S a b l k=some o→QM S a b l o:=by
 intro n
 induction n with
 |zero=>intro k hk o ho;rw [qA,dif_neg (by omega)] at ho;cases ho
 |succ n ih =>
  intro k hk o ho
  rw [qA,dif_pos (by omega)] at ho
  split at ho
  ·rename_i o' he
   cases ho
   exact srch_good hS _ _ rfl (NI (by omega)) _ he
  ·exact ih (k+1) (by omega) o ho
theorem rnd_ex (hS:S.ok):∀ (n k j:Nat),S.d.length - k=n→k≤j→j<S.d.length→Cms (edg S a b l) j j→∃ o,qA S a b l k=some o:=by
 intro n
 induction n with
 |zero=>intro k j hk h1 h2;omega
 |succ n ih =>
  intro k j hk h1 h2 h3
  rw [qA,dif_pos (by omega)]
  split
  ·exact ⟨_,rfl⟩
  ·rename_i he
   by_cases hkj:k=j
   ·subst hkj
    obtain ⟨o,ho⟩:=srch_ex hS _ [(k:Int)] rfl (NI (by omega)) h3
    rw [ho] at he;cases he
   ·exact ih (k+1) j (by omega) (by omega) h2 h3
structure Qk (S:Shp) (a b:Int) (r:List Int):Prop where
 ne:0<r.length
 len:r.length≤S.d.length
 wk:∀ i,i<r.length→isW S (gi r i)
 ch:chain S r
 cl:(gi r (r.length - 1),gi r 0) ∈ S.f
 rch:Rch S (gi r 0)
 nd:∀ i j,i<r.length→j<r.length→gi r i=gi r j→i=j
 sum:b*yE S r r.length=a*(r.length:Int)
theorem vN {w:List Int} {i j:Nat}:gi (w.drop i) j=gi w (i+j):=by
 unfold gi;simp only [List.getD_eq_getElem?_getD];rw [List.getElem?_drop]
theorem QM.round {o:List Int×Nat} (h:QM S a b l o):Qk S a b (o.1.drop o.2):=by
 obtain ⟨w,i⟩:=o
 have hlt:=h.lt
 have hcl:=h.cl
 have hw:=h.way
 have hwl:=hw.len
 simp only at hlt hcl hw hwl ⊢
 have hl:(w.drop i).length=w.length - i:=by simp
 have hst:∀ j,j+1<(w.drop i).length→edg S a b l (gi (w.drop i) j) (gi (w.drop i) (j+1)):=fun j hj=>by
  rw [vN,vN,← Nat.add_assoc];exact hw.st _ (by omega)
 have hc:edg S a b l (gi (w.drop i) ((w.drop i).length - 1)) (gi (w.drop i) 0):=by
  rw [vN,vN,hl,show i+(w.length - i - 1)=w.length - 1 by omega,Nat.add_zero];exact hcl
 have hwk:∀ j,j<(w.drop i).length→isW S (gi (w.drop i) j):=fun j hj=>by rw [vN];exact hw.wk _ (by omega)
 have tig:∀ {u v:Int},edg S a b l u v→rB S u.toNat=true∧pW S a b u.toNat=l u.toNat - l v.toNat:=fun {u v} he=>by
  have:=he.2
  unfold rF at this
  simp only [Bool.and_eq_true,decide_eq_true_eq] at this
  exact this
 have hnd:∀ j k,j<(w.drop i).length→k<(w.drop i).length→gi (w.drop i) j=gi (w.drop i) k→j=k:=fun j k hj hk he=>by
  rw [vN,vN] at he
  have:=hw.nd _ _ (by omega) (by omega) he
  omega
 generalize w.drop i=r at *
 have h0:=hwk 0 (by omega)
 have h01:=h0.1
 have hsum:∀ k,k<r.length→b*yE S r k - a*(k:Int)=l (gi r 0).toNat - l (gi r k).toNat:=by
  intro k
  induction k with
  |zero=>intro _;simp [yE]
  |succ k ih =>
   intro hk
   have ih:=ih (by omega)
   have:=(tig (hst k hk)).2
   unfold pW at this
   simp only [yE]
   rw [Int.mul_add,show (((k+1:Nat)):Int)=(k:Int)+1 from rfl,Int.mul_add,Int.mul_one]
   omega
 refine ⟨by omega,by omega,hwk,fun j hj h0=>?_,hc.1,?_,hnd,?_⟩
 ·have:=(hst (j - 1) (by omega)).1
  rwa [show j - 1+1=j by omega] at this
 ·by_cases hr1:r.length=1
  ·have:=(tig hc).1
   rw [hr1] at this
   have h2:=lQ.1 this
   rwa [show (((gi r (1 - 1)).toNat:Nat):Int)=gi r 0 by simp;omega] at h2
  ·have:=(tig (hst 0 (by omega))).1
   have h2:=lQ.1 this
   rwa [show (((gi r 0).toNat:Nat):Int)=gi r 0 by omega] at h2
 ·have h1:=hsum (r.length - 1) (by omega)
  have h2:=(tig hc).2
  unfold pW at h2
  have e:r.length=r.length - 1+1:=by omega
  rw [e]
  generalize r.length - 1=k at *
  simp only [yE]
  rw [Int.mul_add,show (((k+1:Nat)):Int)=(k:Int)+1 from rfl,Int.mul_add,Int.mul_one]
  omega
theorem cms_path {E:Int→Int→Prop} {p:Nat→Int} {h:Nat} (he:∀ i,i<h→E (p i) (p (i+1))) (h0:0<h):Cms E (p 0) (p h):=by
 induction h with
 |zero=>omega
 |succ h ih =>
  by_cases hh:h=0
  ·subst hh;exact .one (he 0 (by omega))
  ·exact (ih (fun i hi=>he i (by omega)) (by omega)).snoc (he h (by omega))
theorem rnd_round (hS:S.ok) (hM:jc S a b):∃ o,qA S a b (lvl S a b) 0=some o∧Qk S a b (o.1.drop o.2)∧o.2<o.1.length:=by
 obtain ⟨p,h,hc,he⟩:=hM.att
 have ht:=cyc_tight hS hM hc he (l:=lvl S a b) fun u v hr hf=>lvl_prove hS hM hr hf
 have h1:=cms_path ht hc.h0
 rw [hc.cl] at h1
 have hw:=lY hS hc.rch
 have w1:=hw.1;have w2:=hw.2
 obtain ⟨o,ho⟩:=rnd_ex hS (a:=a) (b:=b) (l:=lvl S a b) _ 0 (p 0).toNat rfl (by omega) (by omega) (by rw [show (((p 0).toNat:Nat):Int)=p 0 by omega];exact h1)
 have hg:=rnd_good hS _ 0 rfl o ho
 exact ⟨o,ho,hg.round,hg.lt⟩
end
end Go.AH.Dust
namespace Go.AH.Dust
open Go Go.AH
theorem nok_sliceO {n b o l c:Nat}:Nok n b (.slice (some ⟨b,o,none⟩) l c):=fun k ρ ρ' v' hv hρ=>by
 have hb:=hρ b (.inr (Nat.le_refl _))
 cases hv with
 |emptySlice=>exact .emptySlice _ _ _ _
 |slice _ _ _ _ c' hc hi=>rw [← hb];exact .slice _ _ _ _ _ hc hi
 |sliceG _ _ _ _ _ _ _ _ hq=>simp at hq
theorem F5 {S:Shp} {a b:Int} {l:Nat→Int} {way:List Int} {on:Int} (h:way.length≤S.d.length) (h1:onS S a b l way (gi way (way.length - 1)) S.f.length=on) (h2:¬ on<0) (h3:¬ 0≤ixP (fun i=>decide (gi way i=on)) way.length) :
  mG S a b l way=mG S a b l (way++[on]):=by rw [mG,dif_pos h,h1,if_neg h2,if_neg h3]
theorem F6 {S:Shp} {a b:Int} {l:Nat→Int} {way:List Int} {on:Int} (h:way.length≤S.d.length) (h1:onS S a b l way (gi way (way.length - 1)) S.f.length=on) (h2:¬ on<0) (h3:0≤ixP (fun i=>decide (gi way i=on)) way.length) :
  mG S a b l way=some (way,(ixP (fun i=>decide (gi way i=on)) way.length).toNat):=by rw [mG,dif_pos h,h1,if_neg h2,if_pos h3]
theorem JR {S:Shp} {a b:Int} {l:Nat→Int} {k:Nat} {o:List Int×Nat} (h:k<S.d.length) (h1:mG S a b l [(k:Int)]=some o):qA S a b l k=some o:=by rw [qA,dif_pos h,h1]
theorem Ie {S:Shp} {a b:Int} {l:Nat→Int} {n k:Nat} (h:rB S n=true) (h1:pW S a b n=l n - l k):rF S a b l n k=true:=by unfold rF;rw [h,decide_eq_true h1];rfl
theorem Ig {S:Shp} {a b:Int} {l:Nat→Int} {u v:Int} (h:Cms (edg S a b l) u v):comB S a b l u v=true:=by
 unfold comB;exact @decide_eq_true _ (Classical.propDecidable _) h
def lT (i:Nat):Int:=gi [50,0,10] i
theorem lT_lev:Lev 40 3 lT:=⟨by decide,by decide,by decide,by decide,fun i hi=>by
 match i with
 |0=>decide
 |1=>decide
 |2=>decide
 |i+3=>simp [lT,gi]⟩
theorem e01:edg shT 40 3 lT 0 1:=⟨by decide,Ie (qF 0 (by decide)) (by decide)⟩
theorem e12:edg shT 40 3 lT 1 2:=⟨by decide,Ie (qF 1 (by decide)) (by decide)⟩
theorem e20:edg shT 40 3 lT 2 0:=⟨by decide,Ie (qF 2 (by decide)) (by decide)⟩
theorem c0:comB shT 40 3 lT 0 0=true:=Ig (.more e01 (.more e12 (.one e20)))
theorem c1:comB shT 40 3 lT 1 1=true:=Ig (.more e12 (.more e20 (.one e01)))
theorem c2:comB shT 40 3 lT 2 2=true:=Ig (.more e20 (.more e01 (.one e12)))
theorem mJ {S:Shp} {a b:Int} {l:Nat→Int} {way:List Int} {at_:Int} {k:Nat} {p:Int×Int} {on on2:Int} (hp:gf S.f k=p) (h:onS S a b l way at_ k=on) (h2:(if onC S a b l way at_ on p=true then p.2 else on)=on2):onS S a b l way at_ (k+1)=on2:=by
 subst hp;subst h;exact h2
theorem onT0:onS shT 40 3 lT [0] 0 3=1:=by
 have t:=e01.2
 have h1:onS shT 40 3 lT [0] 0 1=1:=mJ (p:=(0,1)) rfl rfl (by simp only [onC];rw [show rF shT 40 3 lT (0:Int).toNat (1:Int).toNat=true from t,c1];rfl)
 exact mJ (p:=(2,0)) rfl (mJ (p:=(1,2)) rfl h1 rfl) rfl
theorem onT1:onS shT 40 3 lT [0,1] 1 3=2:=by
 have t:=e12.2
 have h1:onS shT 40 3 lT [0,1] 1 2=2:=mJ (p:=(1,2)) rfl (mJ (p:=(0,1)) rfl rfl rfl) (by simp only [onC];rw [show rF shT 40 3 lT (1:Int).toNat (2:Int).toNat=true from t,c2];rfl)
 exact mJ (p:=(2,0)) rfl h1 rfl
theorem onT2:onS shT 40 3 lT [0,1,2] 2 3=0:=by
 have t:=e20.2
 exact mJ (p:=(2,0)) rfl (mJ (p:=(1,2)) rfl (mJ (p:=(0,1)) rfl rfl rfl) rfl) (by simp only [onC];rw [show rF shT 40 3 lT (2:Int).toNat (0:Int).toNat=true from t,c0];rfl)
theorem rndT:qA shT 40 3 lT 0=some ([0,1,2],0):=by
 refine JR (by decide) ?_
 show mG shT 40 3 lT [0]=_
 rw [F5 (on:=1) (by decide) onT0 (by decide) (by decide +kernel)]
 show mG shT 40 3 lT [0,1]=_
 rw [F5 (on:=2) (by decide) onT1 (by decide) (by decide +kernel)]
 show mG shT 40 3 lT [0,1,2]=_
 rw [F6 (on:=0) (by decide) onT2 (by decide) (by decide +kernel)]
 rfl
def lS (_:Nat):Int:=0
theorem lS_lev:Lev 30 1 lS:=⟨by decide,by decide,by decide,by decide,fun i hi=>by simp [lS]⟩
theorem e00:edg shS 30 1 lS 0 0:=⟨by decide,Ie (zH 0 (by decide)) (by decide)⟩
theorem d0:comB shS 30 1 lS 0 0=true:=Ig (.one e00)
theorem onS0:onS shS 30 1 lS [0] 0 5=0:=by
 have t:=e00.2
 have h1:onS shS 30 1 lS [0] 0 1=0:=mJ (p:=(0,0)) rfl rfl (by simp only [onC];rw [show rF shS 30 1 lS (0:Int).toNat (0:Int).toNat=true from t,d0];rfl)
 have h2:onS shS 30 1 lS [0] 0 2=0:=mJ (p:=(0,1)) rfl h1 (by simp [onC])
 exact mJ (p:=(1,1)) rfl (mJ (p:=(2,0)) rfl (mJ (p:=(1,2)) rfl h2 rfl) rfl) rfl
theorem rndS0:qA shS 30 1 lS 0=some ([0],0):=by
 refine JR (by decide) ?_
 show mG shS 30 1 lS [0]=_
 rw [F6 (on:=0) (by decide) onS0 (by decide) (by decide +kernel)]
 rfl
end Go.AH.Dust
namespace Go.Proofs.Ytomioaiojidnbaa
open Go Go.AH
attribute [local irreducible] dO dI dM kK iM gK iC dV iJ dQ iK iE
set_option maxRecDepth 100000
set_option maxHeartbeats 1000000
open Go.AH.Dust
theorem fl_all3 {S:Shp} {x y z:Nat} (h0:dG S=0) (h3:S.d.length=3) (hr:∀ i,i<S.d.length→rB S i=true):flL x y z S (fun i=>bI (rB S i))=flL x y z S JB:=by
 show sl x _::sl y _::sl z _::rx _=sl x _::sl y _::sl z _::rx _
 rw [uQ fun j _=>?_]
 by_cases hj:j<3
 ·rw [hr j (by omega)]
  simp [JB,bI,Nat.blt_eq.mpr hj]
 ·have:rB S j=false:=by
   cases hb:rB S j with
   |false=>rfl
   |true=>have:=lY (fB h0) (lQ.1 hb);omega
  rw [this]
  have hn:Nat.blt j 3=false:=by
   cases hb:Nat.blt j 3 with
   |false=>rfl
   |true=>exact absurd (Nat.blt_eq.mp hb) hj
  simp [JB,bI,hn]
theorem JU (S:Shp) (h0:dG S=0) (a b:Int) (l:Nat→Int) (hL:Lev a b l) (w:List Int) (i:Nat)
  (hm:Ev Try.prog 72 [.pointer (some ⟨0,0,none⟩)] [.ro (flL 1 2 3 S (fun i=>bI (rB S i))),.ro (ints S.d),.ro (pc S.f),.ro (ints S.s)] (.tuple #[rtV a b,.bool true]) [.ro (flL 1 2 3 S (fun i=>bI (rB S i))),.ro (ints S.d),.ro (pc S.f),.ro (ints S.s)])
  (hl:Ev Try.prog 74 [.pointer (some ⟨0,0,none⟩),rtV a b] [.ro (flL 1 2 3 S (fun i=>bI (rB S i))),.ro (ints S.d),.ro (pc S.f),.ro (ints S.s)] (.agg (rx l).toArray) [.ro (flL 1 2 3 S (fun i=>bI (rB S i))),.ro (ints S.d),.ro (pc S.f),.ro (ints S.s)]) (hr:qA S a b l 0=some (w,i)) :
  Ev Try.prog 35 [shV 0 1 2 S] S.hp (.tuple #[rtV a b,.slice (some ⟨3,i,none⟩) (w.length - i) (w.length - i),.int .i64 0]) (S.hp++[.rw (ints w)]):=by
 have hfit:=(fB h0).fit
 have hro:=round_ok S (fB h0) a b l hL
 rw [hr] at hro
 have hop:=xH (σ:=[.ro (ints S.d),.ro (pc S.f),.ro (ints S.s),.rw (shL 0 1 2 S),.rw [.int .i64 0,.int .i64 0]]) (x:=0) (y:=1) (z:=2) ⟨.inl rfl,.inl rfl,.inl rfl⟩ gW hfit h0 rfl
 refine aX 3 33 Try.func35 rfl rfl rfl rfl rfl ?_
 have hfa:FAt [.ro (ints S.d),.ro (pc S.f),.ro (ints S.s),.rw (shL 0 1 2 S),.rw [.int .i64 0,.int .i64 0],.rw (flL 0 1 2 S (fun i=>bI (rB S i)))] 5 0 1 2 S (fun i=>bI (rB S i)):=⟨.inr (.inl rfl),.inl rfl,.inl rfl,.inl rfl⟩
 have hfb:FAt [.ro (ints S.d),.ro (pc S.f),.ro (ints S.s),.rw (shL 0 1 2 S),.rw [.int .i64 0,.int .i64 0],.rw (flL 0 1 2 S (fun i=>bI (rB S i))),.rw [.int .i64 a,.int .i64 b]] 5 0 1 2 S (fun i=>bI (rB S i)):=⟨.inr (.inl rfl),.inl rfl,.inl rfl,.inl rfl⟩
 have hme:=hfa.ev (args:=[.pointer (some ⟨5,0,none⟩)]) hm ⟨VQ.ptr (q:=true) (n:=4) (ρ:=bsR [5,0,1,2]) 0 0 (by omega),trivial⟩ rfl rfl
 have hle:=hfb.ev (args:=[.pointer (some ⟨5,0,none⟩),rtV a b]) hl ⟨VQ.ptr (q:=true) (n:=4) (ρ:=bsR [5,0,1,2]) 0 0 (by omega),bU _ rfl,trivial⟩ rfl rfl
 have hro2:=hfb.evN (args:=[.pointer (some ⟨5,0,none⟩),rtV a b,.agg (rx l).toArray]) (news:=[.rw (ints w)]) (news':=[.rw (ints w)]) (v:=.slice (some ⟨7,i,none⟩) (w.length - i) (w.length - i)) hro ⟨VQ.ptr (q:=true) (n:=4) (ρ:=bsR [5,0,1,2]) 0 0 (by omega),bU _ rfl,bU _ rfl,trivial⟩ rfl (by simp [rV,ren,shf]) (by simp only [List.map_cons,List.map_nil,sW,lu _ (aK _)]) rfl
 clear hm hl hro
 repeat' (first|(refine gU ?_;first|(refine aP ?_;refine st (au rfl) rfl rfl ?_)|(refine aI ?_;refine st (aA rfl) rfl rfl ?_)|(refine aU ?_;refine st (aZ rfl (by rfl)) rfl rfl ?_)|(refine bG ?_;refine st (aG rfl rfl rfl) rfl rfl ?_)|(refine kX ?_;refine st (gX rfl) rfl rfl ?_)|(refine kP ?_;refine st (jh rfl rfl) rfl rfl ?_)|(refine fC ?_;refine st (bC rfl rfl rfl (by first|exact hop|exact hme)) rfl rfl ?_)|(refine kD ?_;refine st (gI rfl) rfl rfl ?_)|(refine eP ?_;refine st (bQ rfl) rfl rfl ?_)|(refine cO ?_;refine stN (aJ rfl rfl rfl rfl (by rfl)) rfl ?_))|(refine fU ?_;first|refine frA (bC rfl rfl rfl hle) rfl ?_|refine frN (bC rfl rfl rfl hro2) nok_sliceO (ay (aK _)).1 (ay (n:=0) (aK _)).2 rfl ?_|(refine gZ ?_;refine frA (au rfl) rfl ?_)|(refine iH ?_;refine frA (aZ rfl (by rfl)) rfl ?_))|(refine fD ⟨by kernel_rfl,?_⟩)|refine aS ?_|refine aj ?_|refine dH (by kernel_rfl) rfl ?_|refine ah ?_|refine bg ?_|refine aW ?_|refine dX ?_|refine aN rfl ?_)
 refine iF (.cellN inferInstance rfl rfl (.tmp rfl (.tmp rfl .nil))) (dQ.src [.rw (ints w)] [7] rfl rfl rfl ⟨dA (j:=7) rfl (.inl rfl) (aK _),trivial⟩ ?_) ⟨rfl,rfl⟩
 refine .tuple _ _ rfl fun j hj _=>?_
 match j,hj with
 |0,_=>exact bU _ rfl
 |1,_ =>
  have:=VQ.slice (q:=true) (n:=4) (ρ:=je 3 [7]) 3 i (w.length - i) (w.length - i) (w.length - i) (Nat.le_refl _) (by omega)
  simpa [je] using this
 |2,_=>exact bU _ rfl
def hpF (S:Shp):Heap:=[.ro (flL 1 2 3 S JB),.ro (ints S.d),.ro (pc S.f),.ro (ints S.s)]
theorem meanT72:Ev Try.prog 72 [.pointer (some ⟨0,0,none⟩)] (hpF shT) (.tuple #[rtV 40 3,.bool true]) (hpF shT):=mD (orc:=jJ ksD) tabOk (iQ Es) mixed (n:=500) (lo:=4) (by kernel_rfl)
theorem levT74:Ev Try.prog 74 [.pointer (some ⟨0,0,none⟩),rtV 40 3] (hpF shT) (.agg (rx lT).toArray) (hpF shT):=mD (orc:=jJ ksD) tabOk (iQ Es) mixed (n:=500) (lo:=4) (by kernel_rfl)
theorem meanS72:Ev Try.prog 72 [.pointer (some ⟨0,0,none⟩)] (hpF shS) (.tuple #[rtV 30 1,.bool true]) (hpF shS):=mD (orc:=jJ ksD) tabOk (iQ Es) mixed (n:=500) (lo:=4) (by kernel_rfl)
theorem levS74:Ev Try.prog 74 [.pointer (some ⟨0,0,none⟩),rtV 30 1] (hpF shS) (.agg (rx lS).toArray) (hpF shS):=mD (orc:=jJ ksD) tabOk (iQ Es) mixed (n:=500) (lo:=4) (by kernel_rfl)
def Ql (S:Shp) (a b:Int) (w:List Int):Known:=⟨35,[shV 0 1 2 S],S.css,.tuple #[rtV a b,sl 3 w.length,.int .i64 0],[.rw (ints w)]⟩
theorem JV {S:Shp} (h0:dG S=0) (h3:S.d.length=3) (hr:∀ i,i<S.d.length→rB S i=true) {a b:Int} {l:Nat→Int} (hL:Lev a b l) {w:List Int}
  (hm:Ev Try.prog 72 [.pointer (some ⟨0,0,none⟩)] (hpF S) (.tuple #[rtV a b,.bool true]) (hpF S))
  (hl:Ev Try.prog 74 [.pointer (some ⟨0,0,none⟩),rtV a b] (hpF S) (.agg (rx l).toArray) (hpF S)) (hrn:qA S a b l 0=some (w,0)):iV Try.prog (Ql S a b w):=by
 have e:hpF S=[.ro (flL 1 2 3 S (fun i=>bI (rB S i))),.ro (ints S.d),.ro (pc S.f),.ro (ints S.s)]:=by unfold hpF;rw [fl_all3 h0 h3 hr]
 rw [e] at hm hl
 exact ⟨JU S h0 a b l hL w 0 hm hl hrn,S.css_plain,rfl⟩
def ksM:List Known:=Ql shT 40 3 [0,1,2]::Ql shS 30 1 [0]::ksD
theorem pR:∀ k ∈ ksM,iV Try.prog k:=by
 intro k hk
 rcases List.mem_cons.1 hk with rfl|hk
 ·exact JV pK rfl qF lT_lev meanT72 levT74 rndT
 ·rcases List.mem_cons.1 hk with rfl|hk
  ·exact JV wV rfl zH lS_lev meanS72 levS74 rndS0
  ·exact Es k hk
end Go.Proofs.Ytomioaiojidnbaa
namespace Go.Proofs.Ytomioaiojidnbaa
open Go Go.AH
attribute [local irreducible] dO dI dM kK iM gK iC dV iJ dQ iK iE
set_option maxRecDepth 100000
set_option maxHeartbeats 1000000
open Go.AH.Dust
end Go.Proofs.Ytomioaiojidnbaa
namespace Go.Proofs.Ytomioaiojidnbaa
open Go Go.AH
open Go.AH.Dust
def JW:Known:=⟨48,[shV 0 1 2 shT],[ints shT.d,pc shT.f,ints shT.s],.tuple #[.slice (some ⟨3,0,none⟩) 3 3,.int .i64 0],[.rw [.int .i64 50,.int .i64 0,.int .i64 10]]⟩
theorem kLevelsT_ok:iV Try.prog JW:=⟨mD (orc:=jJ ksM) tabOk (iQ pR) mixed (n:=500) (lo:=3) (by kernel_rfl),by kernel_rfl,by kernel_rfl⟩
def Qm:Known:=⟨30,[shV 0 1 2 shT,.int .i64 4],[ints shT.d,pc shT.f,ints shT.s],.tuple #[.slice (some ⟨3,0,none⟩) 4 4,.int .i64 0],[.rw [.slice (some ⟨4,0,none⟩) 3 3,.slice (some ⟨5,0,none⟩) 3 3,.slice (some ⟨6,0,none⟩) 3 3,.slice (some ⟨7,0,none⟩) 3 3],.rw [.int .i64 30,.int .i64 10,.int .i64 0],.rw [.int .i64 40,.int .i64 10,.int .i64 30],.rw [.int .i64 40,.int .i64 40,.int .i64 40],.rw [.int .i64 70,.int .i64 50,.int .i64 40]]⟩
theorem kTopsT_ok:iV Try.prog Qm:=⟨mD (orc:=jJ ksM) tabOk (iQ pR) mixed (n:=500) (lo:=3) (by kernel_rfl),by kernel_rfl,by kernel_rfl⟩
def Qn:Known:=⟨33,[shV 0 1 2 shT,.int .i64 2,.int .i64 39],[ints shT.d,pc shT.f,ints shT.s],.int .i64 23,[]⟩
theorem kSafeT_ok:iV Try.prog Qn:=⟨mD (orc:=jJ ksM) tabOk (iQ pR) mixed (n:=500) (lo:=3) (by kernel_rfl),by kernel_rfl,by kernel_rfl⟩
def JX:Known:=⟨31,[shV 0 1 2 shT,.int .i64 2,.int .i64 30],[ints shT.d,pc shT.f,ints shT.s],.tuple #[.slice (some ⟨3,0,none⟩) 1 1,.int .i64 0],[.rw [.int .i64 0]]⟩
theorem kBeginsT_ok:iV Try.prog JX:=⟨mD (orc:=jJ ksM) tabOk (iQ pR) mixed (n:=500) (lo:=3) (by kernel_rfl),by kernel_rfl,by kernel_rfl⟩
def RQ:Known:=⟨47,[shV 0 1 2 shT,rtV 40 3,sl 3 3],[ints shT.d,pc shT.f,ints shT.s,ints [50,0,10]],.int .i64 0,[]⟩
theorem kChkA_ok:iV Try.prog RQ:=⟨mD (orc:=jJ ksM) tabOk (iQ pR) mixed (n:=500) (lo:=4) (by kernel_rfl),by kernel_rfl,by kernel_rfl⟩
def RS:Known:=⟨47,[shV 0 1 2 shT,rtV 13 1,sl 3 3],[ints shT.d,pc shT.f,ints shT.s,ints [17,0,3]],.int .i64 14,[]⟩
theorem kChkB_ok:iV Try.prog RS:=⟨mD (orc:=jJ ksM) tabOk (iQ pR) mixed (n:=500) (lo:=4) (by kernel_rfl),by kernel_rfl,by kernel_rfl⟩
def RU:Known:=⟨49,[shV 0 1 2 shT,rtV 40 3,sl 3 3],[ints shT.d,pc shT.f,ints shT.s,ints [50,0,10]],.int .i64 0,[]⟩
theorem kChkC_ok:iV Try.prog RU:=⟨mD (orc:=jJ ksM) tabOk (iQ pR) mixed (n:=500) (lo:=4) (by kernel_rfl),by kernel_rfl,by kernel_rfl⟩
def TQ:Known:=⟨37,[shV 0 1 2 shT,sl 3 3],[ints shT.d,pc shT.f,ints shT.s,ints [0,1,2]],.bool true,[]⟩
theorem kRnd_ok:iV Try.prog TQ:=⟨mD (orc:=jJ ksM) tabOk (iQ pR) mixed (n:=500) (lo:=4) (by kernel_rfl),by kernel_rfl,by kernel_rfl⟩
def Qo:Known:=⟨17,[shV 0 1 2 shS,sl 3 4],[ints shS.d,pc shS.f,ints shS.s,ints [2,0,0,1]],.tuple #[.int .i64 70,.int .i64 0],[]⟩
theorem kPlanA_ok:iV Try.prog Qo:=⟨mD (orc:=jJ ksM) tabOk (iQ pR) mixed (n:=500) (lo:=4) (by kernel_rfl),by kernel_rfl,by kernel_rfl⟩
def Qp:Known:=⟨17,[shV 0 1 2 shS,sl 3 2],[ints shS.d,pc shS.f,ints shS.s,ints [0,1]],.tuple #[.int .i64 0,.int .i64 16],[]⟩
theorem kPlanB_ok:iV Try.prog Qp:=⟨mD (orc:=jJ ksM) tabOk (iQ pR) mixed (n:=500) (lo:=4) (by kernel_rfl),by kernel_rfl,by kernel_rfl⟩
def RV:Known:=⟨19,[shV 0 1 2 shS,sl 3 2],[ints shS.d,pc shS.f,ints shS.s,ints [0,1]],.tuple #[.int .i64 40,.int .i64 0],[]⟩
theorem kRunA_ok:iV Try.prog RV:=⟨mD (orc:=jJ ksM) tabOk (iQ pR) mixed (n:=500) (lo:=4) (by kernel_rfl),by kernel_rfl,by kernel_rfl⟩
def RX:Known:=⟨20,[shV 0 1 2 shT,sl 3 4],[ints shT.d,pc shT.f,ints shT.s,ints [0,1,2,0]],.tuple #[.int .i64 70,.int .i64 0],[]⟩
theorem kRunB_ok:iV Try.prog RX:=⟨mD (orc:=jJ ksM) tabOk (iQ pR) mixed (n:=500) (lo:=4) (by kernel_rfl),by kernel_rfl,by kernel_rfl⟩
def RY:Known:=⟨15,[shV 0 1 2 shS],[ints shS.d,pc shS.f,ints shS.s],.tuple #[.slice (some ⟨3,0,none⟩) 3 3,.int .i64 0],[.rw [.int .i64 0,.int .i64 1,.int .i64 2]]⟩
theorem kRchS_ok:iV Try.prog RY:=⟨mD (orc:=jJ ksM) tabOk (iQ pR) mixed (n:=500) (lo:=3) (by kernel_rfl),by kernel_rfl,by kernel_rfl⟩
end Go.Proofs.Ytomioaiojidnbaa
namespace Go.Proofs.Ytomioaiojidnbaa
open Go Go.AH
def ksW:List Known:=[JW,Qm,Qn,JX,RQ,RS,RU,TQ,Qo,Qp,RV,RX,RY]++ksM
theorem ksW_ok:∀ k ∈ ksW,iV Try.prog k:=fun k hk=>(List.mem_append.1 hk).elim (fun hk=>by simp only [List.mem_cons,List.not_mem_nil,or_false] at hk;rcases hk with rfl|rfl|rfl|rfl|rfl|rfl|rfl|rfl|rfl|rfl|rfl|rfl|rfl <;> first|exact kLevelsT_ok|exact kTopsT_ok|exact kSafeT_ok|exact kBeginsT_ok|exact kChkA_ok|exact kChkB_ok|exact kChkC_ok|exact kRnd_ok|exact kPlanA_ok|exact kPlanB_ok|exact kRunA_ok|exact kRunB_ok|exact kRchS_ok) (pR k)
def knW:Known:=⟨14,[],[],.bool true,[]⟩
theorem knW_ok:iV Try.prog knW:=⟨mD (orc:=jJ ksW) tabOk (iQ ksW_ok) mixed (n:=500) (lo:=0) (by kernel_rfl),by kernel_rfl,by kernel_rfl⟩
end Go.Proofs.Ytomioaiojidnbaa
namespace Go.Proofs.Ytomioaiojidnbaa
open Go Go.AH Go.AH.Dust
theorem JY {σ:Heap} (hni:σ.all (fun o=>!dB o)=true):Ev Try.prog 14 [] σ (.bool true) σ:=Ev.nil knW_ok.1 rfl rfl hni
end Go.Proofs.Ytomioaiojidnbaa
namespace Go.AH.Dust
open Go Go.AH
noncomputable def mnN (S:Shp):Nat:=(ni (iY S S.d.length) (iY S S.d.length).length).1.toNat
noncomputable def mnM (S:Shp):Nat:=(ni (iY S S.d.length) (iY S S.d.length).length).2.toNat
noncomputable def mnE (S:Shp):Int:=if dG S ≠ 0 then dG S else if (iY S S.d.length).length=0 then 5 else 0
noncomputable def mnA (S:Shp):Int:=if mnE S=0 then sZ (mnN S) (mnM S) else 0
noncomputable def mnB (S:Shp):Int:=if mnE S=0 then sU (mnN S) (mnM S) else 0
noncomputable def mnO (S:Shp):List Int×Nat:=if mnE S=0 then (qA S (mnA S) (mnB S) (lvl S (mnA S) (mnB S)) 0).getD ([],0) else ([],0)
noncomputable def mnR (S:Shp):List Int:=(mnO S).1.drop (mnO S).2
theorem zM {S:Shp} (h:mnE S=0):dG S=0∧(iY S S.d.length).length ≠ 0:=by
 unfold mnE at h
 by_cases h0:dG S=0
 ·rw [if_neg (fun x=>x h0)] at h
  by_cases h1:(iY S S.d.length).length=0
  ·rw [if_pos h1] at h;omega
  ·exact ⟨h0,h1⟩
 ·rw [if_pos h0] at h;exact absurd h h0
theorem Ih {S:Shp} (h0:dG S=0):mnE S=if (iY S S.d.length).length=0 then 5 else 0:=by unfold mnE;rw [if_neg (fun x=>x h0)]
theorem Ii {S:Shp}:mnE S=0↔dG S=0∧∃ a b,jc S a b:=by
 constructor
 ·intro h
  obtain ⟨h0,h1⟩:=zM h
  exact ⟨h0,Classical.byContradiction fun hn=>h1 ((all_none (fB h0)).2 hn)⟩
 ·rintro ⟨h0,hx⟩
  rw [Ih h0,if_neg (fun hz=>(all_none (fB h0)).1 hz hx)]
structure MnP (S:Shp):Prop where
 mean:jc S (mnA S) (mnB S)
 red:Red (mnA S) (mnB S)
 a:mnA S≤10001
 b:mnB S≤10
theorem EH {S:Shp} (h:mnE S=0):MnP S:=by
 obtain ⟨h0,h1⟩:=zM h
 have hS:=fB h0
 have hM:=JI hS (by omega)
 have hm:=Ia (l:=iY S S.d.length) (by omega) (Nat.le_refl (iY S S.d.length).length)
 obtain ⟨v,v1,v2,v3⟩:=vM.1 hm
 have hb:=AL hS (v:=v) v1 (Nat.le_refl S.d.length)
 rw [← v3] at hb
 have ha:=hM.nonneg hS
 have hb0:=hM.b0
 have e1:((mnN S:Nat):Int)=(ni (iY S S.d.length) (iY S S.d.length).length).1:=by unfold mnN;omega
 have e2:((mnM S:Nat):Int)=(ni (iY S S.d.length) (iY S S.d.length).length).2:=by unfold mnM;omega
 obtain ⟨r1,r2,r3,r4⟩:=yJ (m:=mnN S) (d:=mnM S) (by omega)
 have eA:mnA S=sZ (mnN S) (mnM S):=by unfold mnA;rw [if_pos h]
 have eB:mnB S=sU (mnN S) (mnM S):=by unfold mnB;rw [if_pos h]
 rw [← eA,← eB] at r1 r2
 rw [← eA] at r3
 rw [← eB] at r4
 rw [← e1,← e2] at hM
 exact ⟨hM.congr r1.b0 r2.symm,r1,by omega,by omega⟩
theorem mnO_is {S:Shp} (h:mnE S=0):qA S (mnA S) (mnB S) (lvl S (mnA S) (mnB S)) 0=some (mnO S)∧Qk S (mnA S) (mnB S) (mnR S)∧(mnO S).2<(mnO S).1.length:=by
 obtain ⟨h0,h1⟩:=zM h
 obtain ⟨o,o1,o2,o3⟩:=rnd_round (fB h0) (EH h).mean
 have e:mnO S=o:=by unfold mnO;rw [if_pos h,o1];rfl
 unfold mnR
 rw [e]
 exact ⟨o1,o2,o3⟩
end Go.AH.Dust
namespace Go.Proofs.Ytomioaiojidnbaa
open Go Go.AH
attribute [local irreducible] dO dI dM kK iM gK iC dV iJ dQ iK iE
set_option maxRecDepth 100000
set_option maxHeartbeats 1000000
open Go.AH.Dust
theorem meanG_ok (S:Shp) (h0:dG S=0) (a b:Int) (l:Nat→Int) (hL:Lev a b l) (w:List Int) (i:Nat)
  (hm:Ev Try.prog 72 [.pointer (some ⟨0,0,none⟩)] [.ro (flL 1 2 3 S (fun i=>bI (rB S i))),.ro (ints S.d),.ro (pc S.f),.ro (ints S.s)] (.tuple #[rtV a b,.bool true]) [.ro (flL 1 2 3 S (fun i=>bI (rB S i))),.ro (ints S.d),.ro (pc S.f),.ro (ints S.s)])
  (hl:Ev Try.prog 74 [.pointer (some ⟨0,0,none⟩),rtV a b] [.ro (flL 1 2 3 S (fun i=>bI (rB S i))),.ro (ints S.d),.ro (pc S.f),.ro (ints S.s)] (.agg (rx l).toArray) [.ro (flL 1 2 3 S (fun i=>bI (rB S i))),.ro (ints S.d),.ro (pc S.f),.ro (ints S.s)]) (hr:qA S a b l 0=some (w,i)) :
  Ev Try.prog 35 [shV 0 1 2 S] S.hp (.tuple #[rtV a b,.slice (some ⟨3,i,none⟩) (w.length - i) (w.length - i),.int .i64 0]) (S.hp++[.rw (ints w)]):=JU S h0 a b l hL w i hm hl hr
theorem JZ {σin σ:Heap} {u v:Value} (hσ:σ.take σin.length=σin) (hu:plain u=true) (hv:plain v=true) :
  dQ σin σ (.tuple #[u,.slice none 0 0,v]) (.tuple #[u,.slice (some ⟨σin.length,0,none⟩) 0 0,v]) (σin++[.rw []]):=Hw hσ hu hv
theorem mean35_ok (S:Shp) (hS:S.fit):Ev Try.prog 35 [shV 0 1 2 S] S.hp (.tuple #[rtV (mnA S) (mnB S),.slice (some ⟨3,(mnO S).2,none⟩) (mnR S).length (mnR S).length,.int .i64 (mnE S)]) (S.hp++[.rw (ints (mnO S).1)]):=by
 by_cases h0:dG S=0
 ·have hok:=fB h0
  have hm72:=mean72_ok S hok
  by_cases hE:mnE S=0
  ·have hp:=EH hE
   obtain ⟨o1,o2,o3⟩:=mnO_is hE
   obtain ⟨_,hz⟩:=zM hE
   have hmv:FW S=.tuple #[rtV (mnA S) (mnB S),.bool true]:=by
    unfold FW;rw [if_neg hz];unfold mnA mnB;rw [if_pos hE,if_pos hE];rfl
   rw [hmv] at hm72
   have hlen:(mnR S).length=(mnO S).1.length - (mnO S).2:=by unfold mnR;simp
   rw [hlen,hE]
   exact meanG_ok S h0 (mnA S) (mnB S) (lvl S (mnA S) (mnB S)) (ND hok hp.mean (by have:=hp.a;omega) (by have:=hp.b;omega)) (mnO S).1 (mnO S).2 hm72 (levels_ok S hok _ _ hp.mean (by have:=hp.a;omega) (by have:=hp.b;omega)) o1
  ·have hz:(iY S S.d.length).length=0:=Classical.byContradiction fun hn=>hE (by rw [Ih h0,if_neg hn])
   have hE5:mnE S=5:=by rw [Ih h0,if_pos hz]
   have e1:mnA S=0:=by unfold mnA;rw [if_neg hE]
   have e2:mnB S=0:=by unfold mnB;rw [if_neg hE]
   have e3:mnO S=([],0):=by unfold mnO;rw [if_neg hE]
   have e4:mnR S=[]:=by unfold mnR;rw [e3];rfl
   have hmv:FW S=.tuple #[rtV 0 0,.bool false]:=by unfold FW;rw [if_pos hz]
   rw [hmv] at hm72
   rw [e1,e2,e3,e4,hE5]
   have hop:=xH (σ:=[.ro (ints S.d),.ro (pc S.f),.ro (ints S.s),.rw (shL 0 1 2 S),.rw [.int .i64 0,.int .i64 0]]) (x:=0) (y:=1) (z:=2) ⟨.inl rfl,.inl rfl,.inl rfl⟩ gW hS h0 rfl
   have hfa:FAt [.ro (ints S.d),.ro (pc S.f),.ro (ints S.s),.rw (shL 0 1 2 S),.rw [.int .i64 0,.int .i64 0],.rw (flL 0 1 2 S (fun i=>bI (rB S i)))] 5 0 1 2 S (fun i=>bI (rB S i)):=⟨.inr (.inl rfl),.inl rfl,.inl rfl,.inl rfl⟩
   have hme:=hfa.ev (args:=[.pointer (some ⟨5,0,none⟩)]) hm72 ⟨VQ.ptr (q:=true) (n:=4) (ρ:=bsR [5,0,1,2]) 0 0 (by omega),trivial⟩ rfl rfl
   clear hm72 hmv
   refine aX 3 33 Try.func35 rfl rfl rfl rfl rfl ?_
   repeat' (first|(refine gU ?_;first|(refine aP ?_;refine st (au rfl) rfl rfl ?_)|(refine aI ?_;refine st (aA rfl) rfl rfl ?_)|(refine aU ?_;refine st (aZ rfl (by rfl)) rfl rfl ?_)|(refine bG ?_;refine st (aG rfl rfl rfl) rfl rfl ?_)|(refine kX ?_;refine st (gX rfl) rfl rfl ?_)|(refine kP ?_;refine st (jh rfl rfl) rfl rfl ?_)|(refine uf ?_;refine st (jK (by rfl) rfl (by rfl)) rfl rfl ?_)|(refine fC ?_;refine st (bC rfl rfl rfl (by first|exact hop|exact hme)) rfl rfl ?_)|(refine kD ?_;refine st (gI rfl) rfl rfl ?_)|(refine eP ?_;refine st (bQ rfl) rfl rfl ?_)|(refine cO ?_;refine stN (aJ rfl rfl rfl rfl (by rfl)) rfl ?_))|refine aS ?_|refine aj ?_|refine ah ?_|refine bg ?_|refine kL ?_|refine aW ?_|refine dX ?_|refine aQ rfl ?_|refine aN rfl ?_)
   exact iF (.cellN inferInstance rfl rfl (.tmp rfl (.tmp rfl .nil))) (JZ rfl rfl rfl) ⟨rfl,rfl⟩
 ·have hE:mnE S=dG S:=by unfold mnE;rw [if_pos h0]
  have hE0:mnE S ≠ 0:=by rw [hE];exact h0
  have e1:mnA S=0:=by unfold mnA;rw [if_neg hE0]
  have e2:mnB S=0:=by unfold mnB;rw [if_neg hE0]
  have e3:mnO S=([],0):=by unfold mnO;rw [if_neg hE0]
  have e4:mnR S=[]:=by unfold mnR;rw [e3];rfl
  rw [e1,e2,e3,e4,hE]
  have hop:=Ea (σ:=[.ro (ints S.d),.ro (pc S.f),.ro (ints S.s),.rw (shL 0 1 2 S),.rw [.int .i64 0,.int .i64 0]]) (x:=0) (y:=1) (z:=2) ⟨.inl rfl,.inl rfl,.inl rfl⟩ gW hS h0 rfl
  refine aX 3 33 Try.func35 rfl rfl rfl rfl rfl ?_
  repeat' (first|(refine gU ?_;first|(refine aP ?_;refine st (au rfl) rfl rfl ?_)|(refine aI ?_;refine st (aA rfl) rfl rfl ?_)|(refine aU ?_;refine st (aZ rfl (by rfl)) rfl rfl ?_)|(refine bG ?_;refine st (aG rfl rfl rfl) rfl rfl ?_)|(refine kP ?_;refine st (jh rfl rfl) rfl rfl ?_)|(refine uf ?_;refine st (jK (by rfl) rfl (by rfl)) rfl rfl ?_)|(refine fC ?_;refine st (bC rfl rfl rfl (by exact hop)) rfl rfl ?_)|(refine kD ?_;refine st (gI rfl) rfl rfl ?_)|(refine eP ?_;refine st (bQ rfl) rfl rfl ?_)|(refine cO ?_;refine stN (aJ rfl rfl rfl rfl (by rfl)) rfl ?_))|refine aS ?_|refine aj ?_|refine ah ?_|refine bg ?_|refine kL ?_|refine dX ?_|refine aQ rfl ?_)
  exact iF (.cellN inferInstance rfl rfl (.tmp rfl (.tmp rfl .nil))) (JZ rfl rfl rfl) ⟨rfl,rfl⟩
theorem F7 {σ:Heap} {S:Shp} {x y z:Nat} {v:Value} (hs:SAt σ x y z S) (hv:ShS x y z S v) (hS:S.fit) (hni:σ.all (fun o=>!dB o)=true) :
  Ev Try.prog 35 [v] σ (.tuple #[rtV (mnA S) (mnB S),.slice (some ⟨σ.length,(mnO S).2,none⟩) (mnR S).length (mnR S).length,.int .i64 (mnE S)]) (σ++[.rw (ints (mnO S).1)]):=by
 refine Ev.arrsN S.css [x,y,z] (mean35_ok S hS) hs.arrs ⟨hv,trivial⟩ S.css_plain rfl ?_ ?_ hni
 ·simp [ren,uo,vP,shf]
 ·simp only [List.map_cons,List.map_nil,sW,lu _ (aK _)]
end Go.Proofs.Ytomioaiojidnbaa
namespace Go.AH.Dust
open Go Go.AH
def cl (n:Nat) (r:Nat→Int):List Value:=ints ((List.range n).map r)
theorem wX {n:Nat} {r:Nat→Int}:(cl n r).length=n:=by simp [cl,ints]
theorem Lm {n i:Nat} {r:Nat→Int} (h:i<n):(cl n r)[i]?=some (.int .i64 (r i)):=by
 simp [cl,ints,List.getElem?_map,List.getElem?_range h]
theorem sV {n:Nat} {r:Nat→Int}:gy (cl n r)=true:=aK _
theorem uU {n:Nat} {f g:Nat→Int} (h:∀ i,i<n→f i=g i):cl n f=cl n g:=by
 unfold cl
 rw [List.map_congr_left fun i hi=>h i (List.mem_range.1 hi)]
theorem cl_set {n i:Nat} {r:Nat→Int} {v:Int} (h:i<n):splice (cl n r) (0+i*1) [.int .i64 v]=cl n (kF r i v):=by
 unfold cl
 rw [Bg (by simpa using h)]
 congr 1
 refine List.ext_getElem (by simp) fun j h1 h2=>?_
 rw [List.getElem_set,List.getElem_map,List.getElem_map,List.getElem_range]
 simp only [kF]
 by_cases hij:i=j
 ·rw [if_pos hij,if_pos hij.symm]
 ·rw [if_neg hij,if_neg (fun h=>hij h.symm)]
theorem NJ {n:Nat}:jI (gB (.int .i64 0)) n=cl n (fun _=>0):=by
 rw [MW]
 unfold cl
 rw [List.map_const',List.length_range]
theorem CB {n i:Nat} {r:Nat→Int} {v:Int} (h:i<n):splice (cl n r) i [.int .i64 v]=cl n (kF r i v):=by
 have:=cl_set (r:=r) (v:=v) h
 rwa [Nat.zero_add,Nat.mul_one] at this
end Go.AH.Dust
namespace Go.Proofs.Ytomioaiojidnbaa
open Go Go.AH
attribute [local irreducible] dO dI dM kK iM gK iC dV iJ dQ iK iE
set_option maxRecDepth 100000
set_option maxHeartbeats 1000000
open Go.AH.Dust
end Go.Proofs.Ytomioaiojidnbaa
namespace Go.AH.Dust
open Go Go.AH
noncomputable def vT (S:Shp) (H:Nat):Int:=if wS S H<0 then -1 else most S H (wS S H).toNat
def mx (S:Shp) (H:Nat) (L:List Int):Nat→Int
 |0=>-1
 |i+1=>max (mx S H L i) (most S H (gi L i).toNat)
theorem xQ {S:Shp} (h0:dG S=0) {i:Nat} (hi:i<(fO S).length):∃ n:Nat,gi (fO S) i=n∧n<S.d.length∧rB S n=true:=by
 have h1:gi (fO S) i ∈ fO S:=kQ.2 ⟨i,hi,rfl⟩
 unfold fO at h1 ⊢
 rw [if_pos h0] at h1 ⊢
 obtain ⟨n,h2,h3,h4⟩:=KU.1 h1
 exact ⟨n,h3,h2,h4⟩
theorem yL {S:Shp} (h0:dG S=0) {n:Nat} (hn:n<S.d.length) (hr:rB S n=true):∃ i,i<(fO S).length∧gi (fO S) i=n:=by
 have:(n:Int) ∈ fO S:=by
  unfold fO;rw [if_pos h0];exact KU.2 ⟨n,hn,rfl,hr⟩
 exact kQ.1 this
theorem CG {a:Int} {l:List Int} {i:Nat}:gi (a::l) (i+1)=gi l i:=by simp [gi]
theorem F8 {S:Shp} {a:Int} {l:List Int}:∀ k,yE S (a::l) (k+1)=gi S.d a.toNat+yE S l k
 |0=>by simp [yE,gi]
 |k+1=>by
  have ih:=F8 (S:=S) (a:=a) (l:=l) k
  rw [yE,ih,CG]
  simp only [yE];omega
theorem NK {S:Shp} (hS:S.ok):∀ (h:Nat) (w:Int),isW S w→0≤most S h w.toNat→okW S (jD S h w)∧chain S (jD S h w)∧yE S (jD S h w) (h+1)=most S h w.toNat
 |0,w,hw,_=>by
  refine ⟨fun i hi=>?_,fun i hi h0=>?_,?_⟩
  ·have:i=0:=by simp [jD] at hi;omega
   subst this;exact hw
  ·simp [jD] at hi;omega
  ·simp [yE,jD,gi,most]
 |h+1,w,hw,hm=>by
  obtain ⟨_,j,hj,⟨c1,c2,c3⟩,hb⟩:=PZ hm
  have hw2:=(hS.f j hj).2.1
  rw [← hb] at hw2 c2 c3
  obtain ⟨i1,i2,i3⟩:=NK hS h (goN S h w.toNat) hw2 c2
  have hw0:=hw.1
  have hhd:=En S h (goN S h w.toNat)
  have hpair:(w,goN S h w.toNat) ∈ S.f:=jW.2 ⟨j,hj,Prod.ext (by rw [c1];simp only;omega) hb.symm⟩
  simp only [jD]
  generalize jD S h (goN S h w.toNat)=p at *
  refine ⟨fun i hi=>?_,fun i hi h0=>?_,?_⟩
  ·cases i with
   |zero=>exact hw
   |succ i=>rw [CG];exact i1 i (by simpa using hi)
  ·cases i with
   |zero=>omega
   |succ i =>
    rw [CG]
    cases i with
    |zero=>rw [hhd];exact hpair
    |succ i =>
     rw [show i+1+1 - 1=i+1 by omega,CG]
     have:=i2 (i+1) (by simpa using hi) (by omega)
     rwa [show i+1 - 1=i by omega] at this
  ·rw [F8,i3,c3]
theorem NM {S:Shp} {h:Int} (hE:nV S h=0):Td S (jl S h)=0∧TN S (jl S h)=wU S h∧((jl S h).length:Int)=h∧wU S h=vT S (h.toNat - 1)∧iU S h=0:=by
 have hc:iU S h=0:=by
  refine Classical.byContradiction fun hn=>?_
  unfold nV at hE;rw [if_pos hn] at hE;exact hn hE
 obtain ⟨h0,h1,h2⟩:=mY hc
 have hS:=fB h0
 have hT:¬ wS S (h.toNat - 1)<0:=fun hn=>by
  unfold nV at hE;rw [if_neg (fun x=>x hc),if_pos hn] at hE;omega
 rcases zG S (h.toNat - 1) with ⟨t1,_⟩|⟨t,t1,t2,t3,t4,t5⟩
 ·omega
 ·have hl:jl S h=jD S (h.toNat - 1) t:=by unfold jl;rw [if_pos hE,t1]
  have hv:wU S h=most S (h.toNat - 1) t:=by unfold wU;rw [if_pos hE,t1];simp
  have hlen:=Az S (h.toNat - 1) t
  obtain ⟨p1,p2,p3⟩:=NK hS (h.toNat - 1) t ⟨by omega,by omega⟩ (by simpa using t4)
  have hg:PI S (gi (jD S (h.toNat - 1) t) 0)=true:=by rw [En];unfold PI;simpa using t3
  have hE2:PG S (PI S) (jD S (h.toNat - 1) t)=0:=by
   unfold PG
   rw [if_neg (by omega),if_neg (fun hn=>hn p1),if_pos ⟨hg,p2⟩]
  refine ⟨by unfold Td;rw [if_pos h0,hl];exact hE2,?_,by rw [hl,hlen];omega,by rw [hv];unfold vT;rw [if_neg hT,t1];simp,hc⟩
  unfold TN Tc
  rw [if_pos h0,hl,if_pos hE2,hv,hlen,p3];simp
end Go.AH.Dust
namespace Go.Proofs.Ytomioaiojidnbaa
open Go Go.AH
attribute [local irreducible] dO dI dM kK iM gK iC dV iJ dQ iK iE
set_option maxRecDepth 100000
set_option maxHeartbeats 1000000
open Go.AH.Dust
end Go.Proofs.Ytomioaiojidnbaa
namespace Go.AH.Dust
open Go Go.AH
theorem J3 {S:Shp} {H:Nat}:vT S H<0↔wS S H<0:=by
 unfold vT
 rcases zG S H with ⟨t1,_⟩|⟨t,t1,t2,t3,t4,t5⟩
 ·rw [if_pos (by omega)];omega
 ·rw [if_neg (by omega),t1,Int.toNat_natCast];omega
theorem NP {S:Shp} {h:Int}:nV S h=if iU S h ≠ 0 then iU S h else if vT S (h.toNat - 1)<0 then 5 else 0:=by
 unfold nV
 by_cases hc:iU S h ≠ 0
 ·rw [if_pos hc,if_pos hc]
 ·rw [if_neg hc,if_neg hc]
  by_cases hw:wS S (h.toNat - 1)<0
  ·rw [if_pos hw,if_pos (J3.2 hw)]
  ·rw [if_neg hw,if_neg (fun x=>hw (J3.1 x))]
end Go.AH.Dust
namespace Go.Proofs.Ytomioaiojidnbaa
open Go Go.AH
attribute [local irreducible] dO dI dM kK iM gK iC dV iJ dQ iK iE
set_option maxRecDepth 100000
set_option maxHeartbeats 1000000
open Go.AH.Dust
end Go.Proofs.Ytomioaiojidnbaa
namespace Go.AH.Dust
open Go Go.AH
def zN (S:Shp) (H:Nat) (lim:Int) (w:Int):Bool:=decide (0≤most S H w.toNat) && decide (most S H w.toNat > lim)
noncomputable def wY (S:Shp) (H:Nat) (lim:Int) (k:Nat):List Int:=(rL S (min k S.d.length)).filter (zN S H lim)
noncomputable def jr (S:Shp) (h lim:Int):List Int:=if iU S h=0 then (fO S).filter (zN S (h.toNat - 1) lim) else []
theorem begK_step {S:Shp} {H:Nat} {lim:Int} {k:Nat}:wY S H lim (k+1)=if k<S.d.length∧rB S k=true∧0≤nN S H k∧nN S H k > lim then wY S H lim k++[(k:Int)] else wY S H lim k:=by
 unfold wY
 by_cases hk:k<S.d.length
 ·rw [show min (k+1) S.d.length=k+1 by omega,show min k S.d.length=k by omega]
  have hr:nN S H k=most S H k:=by unfold nN;rw [if_pos hk]
  rw [hr]
  simp only [rL]
  by_cases hb:rB S k=true
  ·rw [if_pos hb,List.filter_append]
   by_cases ho:0≤most S H k∧most S H k > lim
   ·rw [if_pos ⟨hk,hb,ho.1,ho.2⟩]
    have:zN S H lim (k:Int)=true:=by simp [zN,ho.1,ho.2]
    rw [List.filter_cons_of_pos this,List.filter_nil]
   ·rw [if_neg (fun h=>ho ⟨h.2.2.1,h.2.2.2⟩)]
    have:¬ zN S H lim (k:Int)=true:=by
     simp only [zN,Int.toNat_natCast,Bool.and_eq_true,decide_eq_true_eq];exact ho
    rw [List.filter_cons_of_neg this,List.filter_nil,List.append_nil]
  ·rw [if_neg hb,if_neg (fun h=>hb h.2.1)]
 ·rw [show min (k+1) S.d.length=S.d.length by omega,show min k S.d.length=S.d.length by omega,if_neg (fun h=>hk h.1)]
theorem begK_all {S:Shp} {h lim:Int} (hc:iU S h=0) (h10:S.d.length≤10):wY S (h.toNat - 1) lim 10=jr S h lim:=by
 unfold wY jr fO
 rw [if_pos hc,if_pos (mY hc).1,show min 10 S.d.length=S.d.length by omega]
theorem begK_len {S:Shp} {H:Nat} {lim:Int} {k:Nat}:(wY S H lim k).length≤k:=by
 unfold wY
 refine Nat.le_trans (List.length_filter_le _ _) (Nat.le_trans (Ec S _) ?_)
 omega
theorem NQ {S:Shp} {h lim:Int}:(jr S h lim).length≤200000:=by
 unfold jr
 split
 ·refine Nat.le_trans (List.length_filter_le _ _) ?_
  unfold fO
  split
  ·rename_i h0
   have:=Ec S S.d.length
   have:=(fB h0).n10
   omega
  ·simp
 ·simp
theorem fl012_closed {n:Nat} {S:Shp} {g:Nat→Int} (hn:3≤n):fJ n (.rw (flL 0 1 2 S g)):=by
 obtain ⟨a,b⟩:=iq (n:=n) (x:=0) (y:=1) (z:=2) (S:=S) (by omega) (by omega) (by omega)
 simp only [dR,okL,Bool.and_eq_true] at a b
 exact ⟨by simp only [dR,a,Bool.true_and];exact (ay (iI g)).1,by simp only [okL,b,Bool.true_and];exact (ay (n:=0) (iI g)).2⟩
theorem RZ (S:Shp) (H:Nat) {n:Nat} (hn:3≤n):eX n [.ro (ints S.d),.ro (pc S.f),.ro (ints S.s),.rw (shL 0 1 2 S),.rw (flL 0 1 2 S (fun i=>bI (rB S i))),.rw (fP S (H+1))] :=
 ⟨ay (aK _),ay (dJ _),ay (aK _),iq (by omega) (by omega) (by omega),fl012_closed hn,ay (kJ S _),trivial⟩
end Go.AH.Dust
namespace Go.Proofs.Ytomioaiojidnbaa
open Go Go.AH
attribute [local irreducible] dO dI dM kK iM gK iC dV iJ dQ iK iE
set_option maxRecDepth 100000
set_option maxHeartbeats 1000000
open Go.AH.Dust
theorem begins31_ok (S:Shp) (hS:S.fit) (h lim:Int) :
  Ev Try.prog 31 [shV 0 1 2 S,.int .i64 h,.int .i64 lim] S.hp (.tuple #[sl 3 (jr S h lim).length,.int .i64 (iU S h)]) (S.hp++[.rw (ints (jr S h lim))]):=by
 by_cases hc:iU S h=0
 ·obtain ⟨h0,h1,h24⟩:=mY hc
  have hok:=fB h0
  have n10:=hok.n10
  obtain ⟨H,rfl⟩:∃ H:Nat,h=((H+1:Nat):Int):=⟨(h - 1).toNat,by omega⟩
  have hck:=Eb (σ:=[.ro (ints S.d),.ro (pc S.f),.ro (ints S.s),.rw (shL 0 1 2 S)]) (S:=S) (h:=((H+1:Nat):Int)) (x:=0) (y:=1) (z:=2) ⟨.inl rfl,.inl rfl,.inl rfl⟩ gW hS hc rfl
  have hrows:=Np (σ:=[.ro (ints S.d),.ro (pc S.f),.ro (ints S.s),.rw (shL 0 1 2 S),.rw (flL 0 1 2 S (fun i=>bI (rB S i)))]) (S:=S) (g:=fun i=>bI (rB S i)) (H:=H+1) (p:=4) (x:=0) (y:=1) (z:=2) ⟨.inr (.inl rfl),.inl rfl,.inl rfl,.inl rfl⟩ hok (by omega) rfl
  have eH1:(((H+1:Nat):Int) - 1).toNat=H:=by omega
  have hd5:dh [.ro (ints S.d),.ro (pc S.f),.ro (ints S.s),.rw (shL 0 1 2 S),.rw (flL 0 1 2 S (fun i=>bI (rB S i))),.rw (fP S (H+1))] 5 (0+(((H+1:Nat):Int) - 1).toNat*10) 10=some (rx (nN S H)):=by rw [eH1];exact Bv (.inr (.inl rfl)) (by omega)
  have hbl:=begK_all (S:=S) (h:=((H+1:Nat):Int)) (lim:=lim) hc n10
  rw [show (((H+1:Nat):Int)).toNat - 1=H by omega] at hbl
  rw [← hbl,hc]
  refine aX 3 63 Try.func31 rfl rfl rfl rfl rfl ?_
  repeat' (first|(refine gU ?_;first|(refine aP ?_;refine st (au rfl) rfl rfl ?_)|(refine aI ?_;refine st (aA rfl) rfl rfl ?_)|(refine aU ?_;refine st (aZ rfl (by first|rfl|assumption)) rfl rfl ?_)|(refine BF ?_;refine st (kC rfl rfl (by omega) (by omega)) rfl rfl ?_)|(refine bG ?_;refine st (aG rfl rfl rfl) rfl rfl ?_)|(refine kP ?_;refine st (jh rfl rfl) rfl rfl ?_)|(refine gIA ?_;refine st (lC rfl rfl (by omega) (by omega)) rfl rfl ?_)|(refine fC ?_;refine st (bC rfl rfl rfl (by first|exact hck|exact hrows)) rfl rfl ?_)|(refine kD ?_;refine st (gI rfl) rfl rfl ?_))|refine aS ?_|refine aj ?_|refine ah ?_|refine bg ?_|refine aW ?_|refine aO ?_|refine aN rfl ?_)
  refine iD (ι:=Nat) (fun k=>[(2,.int .i64 lim),(3,.pointer (some ⟨3,0,none⟩)),(8,.pointer (some ⟨4,0,none⟩)),(10,dL 6 1 (wY S H lim k).length),(28,.agg (rx (nN S H)).toArray),(29,.int .i64 (k:Int))])
   (fun k=>[.ro (ints S.d),.ro (pc S.f),.ro (ints S.s),.rw (shL 0 1 2 S),.rw (flL 0 1 2 S (fun i=>bI (rB S i))),.rw (fP S (H+1)),.gr (ints (wY S H lim k)) 3]) (fun k=>10 - k) (fun k=>k≤10) 0 (by simp) (bT.src [.ro (ints S.d),.ro (pc S.f),.ro (ints S.s),.rw (shL 0 1 2 S),.rw (flL 0 1 2 S (fun i=>bI (rB S i))),.rw (fP S (H+1))] [.gr [] 3] [6] (by simp) rfl (RZ S H (by simp)) rfl rfl ⟨sG,trivial⟩ (by (repeat' (first|exact trivial|refine ⟨bD rfl rfl,?_⟩|refine ⟨aV (m:=6) rfl (fun i hi=>aY hi) (by simp) (by rfl) rfl,?_⟩)))) (by omega) ?_
  intro k hk
  by_cases hk10:k<10
  ·have hs:=begK_step (S:=S) (H:=H) (lim:=lim) (k:=k)
   have hkl:=begK_len (S:=S) (H:=H) (lim:=lim) (k:=k)
   have hil2:(ints (wY S H lim k)).length=(wY S H lim k).length*1:=by simp [ints]
   have hcx:(rx (nN S H)).toArray.toList[((k:Nat):Int).toNat*1]?=some (.int .i64 (nN S H k)):=by
    simpa using qP (f:=nN S H) hk10
   have hisr:=pJ (σ:=[.ro (ints S.d),.ro (pc S.f),.ro (ints S.s),.rw (shL 0 1 2 S),.rw (flL 0 1 2 S (fun i=>bI (rB S i))),.rw (fP S (H+1)),.gr (ints (wY S H lim k)) 3]) (S:=S) (q:=rB S) (r:=fun i=>bI (rB S i)) (n:=k) (p:=4) (x:=0) (y:=1) (z:=2) ⟨.inr (.inl rfl),.inl rfl,.inl rfl,.inl rfl⟩ rfl hk10 rfl
   generalize hKL:wY S H lim k=KL at *
   generalize nN S H k=rk at *
   generalize rB S k=rb at *
   by_cases hkd:k<S.d.length
   ·cases rb with
    |false =>
     rw [if_neg (fun h=>by cases h.2.1)] at hs
     repeat' (first|(refine gU ?_;first|refine st (rM rfl rfl (by omega) (by omega) hcx) rfl rfl ?_|(refine aP ?_;refine st (au rfl) rfl rfl ?_)|(refine aI ?_;refine st (aA rfl) rfl rfl ?_)|(refine gFA ?_;refine st (aB rfl) rfl rfl ?_)|(refine aU ?_;refine st (ak rfl (by rfl)) rfl rfl ?_)|(refine iw ?_;refine st (dF rfl rfl (by omega)) rfl rfl ?_)|(refine bG ?_;refine st (aG rfl rfl rfl) rfl rfl ?_)|(refine fK ?_;refine st (bK rfl) rfl rfl ?_)|(refine eY ?_;first|refine st (bH rfl rfl) rfl rfl ?_|refine st (bY rfl rfl) rfl rfl ?_))|(refine gG ?_;first|(refine aP ?_;refine bP rfl (au rfl) rfl rfl ?_)|(refine fC ?_;refine bP rfl (bC rfl rfl rfl (by exact hisr)) rfl rfl ?_)|refine nU rfl rfl ?_)|refine aS ?_|refine aj ?_|refine ah ?_|refine bg ?_|refine fH ?_|refine aW ?_|refine aO ?_|refine aQ rfl ?_|refine aN rfl ?_)
     refine ⟨rfl,k+1,by omega,by omega,?_⟩
     rw [hs]
     exact .same ⟨rfl,rfl,rfl,rfl,rfl,rfl,trivial⟩
    |true =>
     by_cases hr0:rk≥0
     ·by_cases hrl:rk > lim
      ·rw [if_pos ⟨hkd,rfl,hr0,hrl⟩] at hs
       have hlen:(wY S H lim (k+1)).length=KL.length+1:=by rw [hs];simp
       have hcs:ints (wY S H lim (k+1))=ints KL++[.int .i64 (k:Int)]:=by rw [hs,uP]
       repeat' (first|(refine gU ?_;first|refine st (rM rfl rfl (by omega) (by omega) hcx) rfl rfl ?_|(refine aP ?_;refine st (au rfl) rfl rfl ?_)|(refine aI ?_;refine st (aA rfl) rfl rfl ?_)|(refine gFA ?_;refine st (aB rfl) rfl rfl ?_)|(refine aU ?_;refine st (ak rfl (by rfl)) rfl rfl ?_)|(refine iw ?_;refine st (dF rfl rfl (by omega)) rfl rfl ?_)|(refine bG ?_;refine st (aG rfl rfl rfl) rfl rfl ?_)|(refine fK ?_;first|refine st (bK rfl) rfl rfl ?_|refine st (vC rfl) rfl rfl ?_)|(refine eY ?_;refine st (bH rfl rfl) rfl rfl ?_)|(refine Oj ?_;refine st (yj rfl rfl rfl) rfl rfl ?_)|(refine nI ?_;refine st (kM (by rfl) (by rfl) (by rfl) (by rfl) rfl (by rfl)) rfl rfl ?_)|(refine EJ ?_;refine st (fZ (by rfl) (by rfl) rfl (by rfl) (by exact hil2) rfl (by rfl) (by omega) (by rfl) (by omega) (by omega)) rfl rfl ?_))|(refine gG ?_;first|(refine aP ?_;refine bP rfl (au rfl) rfl rfl ?_)|(refine bG ?_;refine bP rfl (aG rfl rfl rfl) rfl rfl ?_)|(refine fC ?_;refine bP rfl (bC rfl rfl rfl (by exact hisr)) rfl rfl ?_))|refine aS ?_|refine aj ?_|refine ah ?_|refine bg ?_|refine fH ?_|refine aW ?_|refine aO ?_|refine aQ rfl ?_)
       exact ⟨rfl,k+1,by omega,by omega,bT.src [.ro (ints S.d),.ro (pc S.f),.ro (ints S.s),.rw (shL 0 1 2 S),.rw (flL 0 1 2 S (fun i=>bI (rB S i))),.rw (fP S (H+1))] [.gr (ints (wY S H lim (k+1))) 3] [8] (by simp) rfl (RZ S H (by simp)) rfl rfl ⟨qC rfl (by rw [hcs];rfl) (aK _),trivial⟩ (by (repeat' (first|exact trivial|refine ⟨bD rfl rfl,?_⟩|refine ⟨aV (m:=6) rfl (fun i hi=>aY hi) (by simp) (by rfl) rfl,?_⟩|refine ⟨vF (by rw [hlen];rfl) (by simp) rfl,?_⟩)))⟩
      ·rw [if_neg (fun h=>hrl h.2.2.2)] at hs
       repeat' (first|(refine gU ?_;first|refine st (rM rfl rfl (by omega) (by omega) hcx) rfl rfl ?_|(refine aP ?_;refine st (au rfl) rfl rfl ?_)|(refine aI ?_;refine st (aA rfl) rfl rfl ?_)|(refine gFA ?_;refine st (aB rfl) rfl rfl ?_)|(refine aU ?_;refine st (ak rfl (by rfl)) rfl rfl ?_)|(refine iw ?_;refine st (dF rfl rfl (by omega)) rfl rfl ?_)|(refine bG ?_;refine st (aG rfl rfl rfl) rfl rfl ?_)|(refine fK ?_;refine st (bK rfl) rfl rfl ?_)|(refine eY ?_;refine st (bH rfl rfl) rfl rfl ?_))|(refine gG ?_;first|(refine aP ?_;refine bP rfl (au rfl) rfl rfl ?_)|(refine bG ?_;refine bP rfl (aG rfl rfl rfl) rfl rfl ?_)|(refine fC ?_;refine bP rfl (bC rfl rfl rfl (by exact hisr)) rfl rfl ?_))|refine aS ?_|refine aj ?_|refine ah ?_|refine bg ?_|refine fH ?_|refine aW ?_|refine aO ?_|refine aQ rfl ?_|refine aN rfl ?_)
       refine ⟨rfl,k+1,by omega,by omega,?_⟩
       rw [hs]
       exact .same ⟨rfl,rfl,rfl,rfl,rfl,rfl,trivial⟩
     ·rw [if_neg (fun h=>hr0 h.2.2.1)] at hs
      repeat' (first|(refine gU ?_;first|refine st (rM rfl rfl (by omega) (by omega) hcx) rfl rfl ?_|(refine aP ?_;refine st (au rfl) rfl rfl ?_)|(refine aI ?_;refine st (aA rfl) rfl rfl ?_)|(refine gFA ?_;refine st (aB rfl) rfl rfl ?_)|(refine aU ?_;refine st (ak rfl (by rfl)) rfl rfl ?_)|(refine iw ?_;refine st (dF rfl rfl (by omega)) rfl rfl ?_)|(refine bG ?_;refine st (aG rfl rfl rfl) rfl rfl ?_)|(refine fK ?_;refine st (bK rfl) rfl rfl ?_)|(refine eY ?_;first|refine st (bH rfl rfl) rfl rfl ?_|refine st (bY rfl rfl) rfl rfl ?_))|(refine gG ?_;first|(refine aP ?_;refine bP rfl (au rfl) rfl rfl ?_)|(refine bG ?_;refine bP rfl (aG rfl rfl rfl) rfl rfl ?_)|(refine fC ?_;refine bP rfl (bC rfl rfl rfl (by exact hisr)) rfl rfl ?_)|refine nU rfl rfl ?_)|refine aS ?_|refine aj ?_|refine ah ?_|refine bg ?_|refine fH ?_|refine aW ?_|refine aO ?_|refine aQ rfl ?_|refine aN rfl ?_)
      refine ⟨rfl,k+1,by omega,by omega,?_⟩
      rw [hs]
      exact .same ⟨rfl,rfl,rfl,rfl,rfl,rfl,trivial⟩
   ·rw [if_neg (fun h=>hkd h.1)] at hs
    repeat' (first|(refine gU ?_;first|refine st (rM rfl rfl (by omega) (by omega) hcx) rfl rfl ?_|(refine aP ?_;refine st (au rfl) rfl rfl ?_)|(refine aI ?_;refine st (aA rfl) rfl rfl ?_)|(refine gFA ?_;refine st (aB rfl) rfl rfl ?_)|(refine aU ?_;refine st (ak rfl (by rfl)) rfl rfl ?_)|(refine iw ?_;refine st (dF rfl rfl (by omega)) rfl rfl ?_)|(refine bG ?_;refine st (aG rfl rfl rfl) rfl rfl ?_)|(refine fK ?_;refine st (bK rfl) rfl rfl ?_)|(refine eY ?_;refine st (bY rfl rfl) rfl rfl ?_))|(refine gG ?_;refine nU rfl rfl ?_)|refine aS ?_|refine aj ?_|refine ah ?_|refine bg ?_|refine fH ?_|refine aW ?_|refine aO ?_|refine aQ rfl ?_|refine aN rfl ?_)
    refine ⟨rfl,k+1,by omega,by omega,?_⟩
    rw [hs]
    exact .same ⟨rfl,rfl,rfl,rfl,rfl,rfl,trivial⟩
  ·obtain rfl:k=10:=by omega
   repeat' (first|(refine gU ?_;first|(refine aP ?_;refine st (au rfl) rfl rfl ?_)|(refine aI ?_;refine st (aA rfl) rfl rfl ?_)|(refine bG ?_;refine st (aG rfl rfl rfl) rfl rfl ?_))|refine aS ?_|refine aj ?_|refine ah ?_|refine bg ?_|refine jd ?_|refine eG rfl ?_|refine dW ?_|refine dX ?_|refine aN rfl ?_)
   exact iF (.tmp rfl (.tmp rfl .nil)) (RD (j:=6) rfl (aK _) (.inr ⟨3,rfl⟩) rfl rfl) ⟨rfl,rfl⟩
 ·have e:jr S h lim=[]:=by unfold jr;rw [if_neg hc]
  rw [e]
  have hck:=Bl (σ:=[.ro (ints S.d),.ro (pc S.f),.ro (ints S.s),.rw (shL 0 1 2 S)]) (S:=S) (h:=h) (x:=0) (y:=1) (z:=2) ⟨.inl rfl,.inl rfl,.inl rfl⟩ gW hS hc rfl
  refine aX 3 63 Try.func31 rfl rfl rfl rfl rfl ?_
  repeat' (first|(refine gU ?_;first|(refine aP ?_;refine st (au rfl) rfl rfl ?_)|(refine aI ?_;refine st (aA rfl) rfl rfl ?_)|(refine aU ?_;refine st (aZ rfl (by rfl)) rfl rfl ?_)|(refine bG ?_;refine st (aG rfl rfl rfl) rfl rfl ?_)|(refine kP ?_;refine st (jh rfl rfl) rfl rfl ?_)|(refine fC ?_;refine st (bC rfl rfl rfl (by exact hck)) rfl rfl ?_)|(refine kD ?_;refine st (gI rfl) rfl rfl ?_))|refine aS ?_|refine aj ?_|refine ah ?_|refine bg ?_|refine kL ?_|refine dX ?_|refine aQ rfl ?_)
  exact iF (.tmp rfl (.tmp rfl .nil)) (Pv rfl rfl) ⟨rfl,rfl⟩
end Go.Proofs.Ytomioaiojidnbaa
namespace Go.AH.Dust
open Go Go.AH
noncomputable def begF (S:Shp) (H:Nat) (lim:Int) (i:Nat):List Int:=((fO S).take i).filter (zN S H lim)
noncomputable def safeE (S:Shp) (h lim:Int):Int:=if iU S h ≠ 0 then iU S h else if (jr S h lim).length > 0 then 23 else 0
end Go.AH.Dust
namespace Go.Proofs.Ytomioaiojidnbaa
open Go Go.AH
attribute [local irreducible] dO dI dM kK iM gK iC dV iJ dQ iK iE
set_option maxRecDepth 100000
set_option maxHeartbeats 1000000
open Go.AH.Dust
theorem BA {σ:Heap} {S:Shp} {h lim:Int} {x y z:Nat} {v:Value} (hs:SAt σ x y z S) (hv:ShS x y z S v) (hS:S.fit) (hni:σ.all (fun o=>!dB o)=true) :
  Ev Try.prog 31 [v,.int .i64 h,.int .i64 lim] σ (.tuple #[sl σ.length (jr S h lim).length,.int .i64 (iU S h)]) (σ++[.rw (ints (jr S h lim))]):=by
 refine Ev.arrsN S.css [x,y,z] (begins31_ok S hS h lim) hs.arrs ⟨hv,.int _ _,.int _ _,trivial⟩ S.css_plain rfl ?_ ?_ hni
 ·simp [ren,uo,vP,shf]
 ·simp only [List.map_cons,List.map_nil,sW,lu _ (aK _)]
end Go.Proofs.Ytomioaiojidnbaa
namespace Go.Proofs.Ytomioaiojidnbaa
open Go Go.AH
attribute [local irreducible] dO dI dM kK iM gK iC dV iJ dQ iK iE
set_option maxRecDepth 100000
set_option maxHeartbeats 1000000
open Go.AH.Dust
end Go.Proofs.Ytomioaiojidnbaa
namespace Go.AH.Dust
open Go Go.AH
theorem J4 {S:Shp} {m:Nat→Int} {i:Nat}:∀ {k j:Nat},j<k→(gf S.f j).1=i→0≤m (gf S.f j).2.toNat→gi S.d i+m (gf S.f j).2.toNat≤kS S m i k
 |k+1,j,hj,h1,h2=>by
  simp only [kS]
  by_cases hjk:j=k
  ·subst hjk
   rw [if_pos ⟨h1,h2⟩];omega
  ·have ih:=J4 (S:=S) (m:=m) (i:=i) (k:=k) (j:=j) (by omega) h1 h2
   split <;> omega
theorem NR {S:Shp} {H i:Nat} (hi:i<S.d.length) (hr:rB S i=true):most S H i≤vT S H∨most S H i<0:=by
 unfold vT
 rcases zG S H with ⟨t1,t2⟩|⟨t,t1,t2,t3,t4,t5⟩
 ·exact .inr (t2 i hi hr)
 ·rw [if_neg (by omega),t1,Int.toNat_natCast];exact .inl (t5 i hi hr)
theorem refW_at {S:Shp} {H:Nat} (h:0≤vT S H):∃ i,i<S.d.length∧rB S i=true∧most S H i=vT S H:=by
 unfold vT at h ⊢
 rcases zG S H with ⟨t1,t2⟩|⟨t,t1,t2,t3,t4,t5⟩
 ·rw [if_pos (by omega)] at h;omega
 ·rw [if_neg (by omega),t1,Int.toNat_natCast];exact ⟨t,t2,t3,rfl⟩
def endB (S:Shp):Prop:=∀ i,i<S.d.length→rB S i=true→∃ j,j<S.f.length∧(gf S.f j).1=i
end Go.AH.Dust
namespace Go.AH.Dust
open Go Go.AH
def smB (S:Shp) (n:Int):Nat→Bool
 |0=>false
 |k+1=>smB S n k || decide ((gf S.f k).1=n)
open Classical in
noncomputable def endV (S:Shp):Bool:=decide (endB S)
end Go.AH.Dust
namespace Go.Proofs.Ytomioaiojidnbaa
open Go Go.AH
attribute [local irreducible] dO dI dM kK iM gK iC dV iJ dQ iK iE
set_option maxRecDepth 100000
set_option maxHeartbeats 1000000
open Go.AH.Dust
end Go.Proofs.Ytomioaiojidnbaa
namespace Go.AH.Dust
open Go Go.AH
theorem AP {S:Shp} (h0:dG S=0) {h:Int} (h1:1≤h) (h2:h≤24):iU S h=0:=by
 unfold iU;rw [if_neg (fun x=>x h0),if_neg (by omega)]
theorem F9 {S:Shp} {h:Int} (hc:iU S h=0):nV S h=0↔0≤vT S (h.toNat - 1):=by
 rw [NP,if_neg (fun x=>x hc)]
 by_cases hr:vT S (h.toNat - 1)<0
 ·rw [if_pos hr];omega
 ·rw [if_neg hr];omega
end Go.AH.Dust
namespace Go.Proofs.Ytomioaiojidnbaa
open Go Go.AH
attribute [local irreducible] dO dI dM kK iM gK iC dV iJ dQ iK iE
set_option maxRecDepth 100000
set_option maxHeartbeats 1000000
open Go.AH.Dust
theorem fine39_ok (S:Shp) (hS:S.fit):Ev Try.prog 39 [shV 0 1 2 S] S.hp (.bool (decide (dG S=0))) S.hp:=by
 have hfi:=great_ev (σ:=[.ro (ints S.d),.ro (pc S.f),.ro (ints S.s),.rw (shL 0 1 2 S)]) (S:=S) (x:=0) (y:=1) (z:=2) ⟨.inl rfl,.inl rfl,.inl rfl⟩ gW hS rfl
 have hA:=D8 (σ:=[.ro (ints S.d),.ro (pc S.f),.ro (ints S.s),.rw (shL 0 1 2 S)]) (S:=S) (x:=0) (y:=1) (z:=2) ⟨.inl rfl,.inl rfl,.inl rfl⟩ gW hS rfl
 by_cases hm:(S.d.length:Int) > 15∨(S.f.length:Int) > 70∨(S.s.length:Int) > 15
 ·have h0:¬ dG S=0:=fun h=>by
   have:=(fB h).n10;have:=(fB h).f60;have:=(fB h).s10;omega
  rw [decide_eq_false h0]
  refine aX 3 11 Try.func39 rfl rfl rfl rfl rfl ?_
  repeat' (first|(refine gU ?_;first|(refine aP ?_;refine st (au rfl) rfl rfl ?_)|(refine aI ?_;refine st (aA rfl) rfl rfl ?_)|(refine aU ?_;refine st (aZ rfl (by rfl)) rfl rfl ?_)|(refine eY ?_;refine st (bY rfl rfl) rfl rfl ?_)|(refine kX ?_;refine st (jf rfl) rfl rfl ?_)|(refine fC ?_;refine st (bC rfl rfl rfl (by exact hfi)) rfl rfl ?_)|(refine kD ?_;refine st (gI rfl) rfl rfl ?_))|(refine gG ?_;refine nU rfl rfl ?_)|refine aS ?_|refine aj ?_|refine ah ?_|refine bg ?_|refine dX ?_)
  all_goals exact iF (.tmp rfl .nil) (.plain rfl rfl) ⟨rfl,rfl⟩
 ·generalize dG S=E at *
  refine aX 3 11 Try.func39 rfl rfl rfl rfl rfl ?_
  repeat' (first|(refine gU ?_;first|(refine aP ?_;refine st (au rfl) rfl rfl ?_)|(refine aI ?_;refine st (aA rfl) rfl rfl ?_)|(refine aU ?_;refine st (aZ rfl (by rfl)) rfl rfl ?_)|(refine eY ?_;refine st (bH rfl rfl) rfl rfl ?_)|(refine kX ?_;refine st (jf rfl) rfl rfl ?_)|(refine fC ?_;refine st (bC rfl rfl rfl (by exact hfi)) rfl rfl ?_)|(refine kD ?_;refine st (gI rfl) rfl rfl ?_))|(refine gG ?_;first|(refine aU ?_;refine bP rfl (aZ rfl (by rfl)) rfl rfl ?_)|(refine bG ?_;refine bP rfl (aG rfl rfl rfl) rfl rfl ?_)|(refine fC ?_;refine bP rfl (bC rfl rfl rfl (by exact hA)) rfl rfl ?_))|refine aS ?_|refine aj ?_|refine ah ?_|refine bg ?_|refine dX ?_)
  all_goals exact iF (.tmp rfl .nil) (.plain rfl rfl) ⟨rfl,rfl⟩
theorem Gf {σ:Heap} {S:Shp} {x y z:Nat} {v:Value} (hs:SAt σ x y z S) (hv:ShS x y z S v) (hS:S.fit) (hni:σ.all (fun o=>!dB o)=true) :
  Ev Try.prog 39 [v] σ (.bool (decide (dG S=0))) σ:=Ev.arrs S.css [x,y,z] (fine39_ok S hS) hs.arrs ⟨hv,trivial⟩ S.css_plain rfl hni
end Go.Proofs.Ytomioaiojidnbaa
namespace Go.Proofs.Ytomioaiojidnbaa
open Go Go.AH Go.AH.Dust
end Go.Proofs.Ytomioaiojidnbaa
namespace Go.AH.Dust
open Go Go.AH
def prt (p:List Int) (i k:Nat):List Int:=(p.drop i).take k
theorem prt_len {p:List Int} {i k:Nat} (h:i+k≤p.length):(prt p i k).length=k:=by unfold prt;rw [List.length_take,List.length_drop];omega
theorem Lp {p:List Int} {i k j:Nat} (hj:j<k):gi (prt p i k) j=gi p (i+j):=by
 unfold prt gi
 simp only [List.getD_eq_getElem?_getD]
 rw [List.getElem?_take_of_lt hj,List.getElem?_drop]
theorem part_ok {S:Shp} {p:List Int} {i k:Nat} (h:i+k≤p.length) (hw:okW S p) (hc:chain S p):okW S (prt p i k)∧chain S (prt p i k):=by
 have hl:=prt_len h
 refine ⟨fun j hj=>?_,fun j hj h0=>?_⟩
 ·rw [Lp (by omega)];exact hw _ (by omega)
 ·rw [Lp (by omega),Lp (by omega),show i+(j - 1)=i+j - 1 by omega];exact hc _ (by omega) (by omega)
theorem mem_beg {S:Shp} {h lim:Int} (hc:iU S h=0) {n:Nat} (hn:n<S.d.length) (hr:rB S n=true) (h1:0≤most S (h.toNat - 1) n) (h2:lim<most S (h.toNat - 1) n):(n:Int) ∈ jr S h lim:=by
 obtain ⟨h0,_,_⟩:=mY hc
 unfold jr
 rw [if_pos hc,List.mem_filter]
 obtain ⟨i,i1,i2⟩:=yL h0 hn hr
 refine ⟨kQ.2 ⟨i,i1,i2⟩,?_⟩
 simp only [zN,Bool.and_eq_true,decide_eq_true_eq,Int.toNat_natCast]
 omega
theorem NS {S:Shp} {h lim n:Int} (hn:n ∈ jr S h lim):iU S h=0∧∃ m:Nat,n=m∧m<S.d.length∧rB S m=true∧0≤most S (h.toNat - 1) m∧lim<most S (h.toNat - 1) m:=by
 unfold jr at hn
 by_cases hc:iU S h=0
 ·rw [if_pos hc,List.mem_filter] at hn
  obtain ⟨a,b⟩:=hn
  obtain ⟨i,i1,i2⟩:=kQ.1 a
  obtain ⟨m,m1,m2,m3⟩:=xQ (mY hc).1 i1
  rw [i2] at m1
  subst m1
  simp only [zN,Bool.and_eq_true,decide_eq_true_eq,Int.toNat_natCast] at b
  exact ⟨hc,m,rfl,m2,m3,by omega,by omega⟩
 ·rw [if_neg hc] at hn;simp at hn
theorem win_none {S:Shp} {h lim:Int} (hc:iU S h=0) (hE:nV S h ≠ 0):nV S h=5∧jr S h lim=[]:=by
 have e:=NP (S:=S) (h:=h)
 rw [if_neg (fun x=>x hc)] at e
 have hz:vT S (h.toNat - 1)<0:=Classical.byContradiction fun hn=>hE (by rw [e,if_neg hn])
 refine ⟨by rw [e,if_pos hz],List.eq_nil_of_length_eq_zero (Classical.byContradiction fun hn=>?_)⟩
 obtain ⟨_,m,_,m2,m3,m4,m5⟩:=NS (S:=S) (h:=h) (lim:=lim) (n:=gi (jr S h lim) 0) (kQ.2 ⟨0,by omega,rfl⟩)
 have:=NR (H:=h.toNat - 1) m2 m3
 omega
def Qq (S:Shp) (n:Int):Nat→List Int
 |0=>[]
 |k+1=>if (gf S.f k).1=n then Qq S n k++[(gf S.f k).2] else Qq S n k
def J5 (S:Shp) (by_:List Int):Nat→List Int×Bool
 |0=>([gi S.s ((gi by_ 0).toNat % S.s.length)],true)
 |i+1=>if (J5 S by_ i).2=true then
   if (Qq S (gi (J5 S by_ i).1 i) S.f.length).length=0 then ((J5 S by_ i).1,false)
   else ((J5 S by_ i).1++[gi (Qq S (gi (J5 S by_ i).1 i) S.f.length) ((gi by_ (i+1)).toNat % (Qq S (gi (J5 S by_ i).1 i) S.f.length).length)],true)
  else J5 S by_ i
def planL (S:Shp) (by_:List Int):List Int:=(J5 S by_ (min by_.length 100 - 1)).1
end Go.AH.Dust
