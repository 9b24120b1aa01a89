/- Plans and parts of them, plainly: no run has more dust than the window of as many hours. -/
import Derived.Test.YtomioaiojidnbaaDnQ4
import Derived.Test.YtomioaiojidnbaaDnMJ
namespace Go.AH.Dust
open Go Go.AH
theorem hc_l {n:Nat} (hn:9≤n) (S:Shp) (a b:Int) (f:Nat→Int) {r:Heap} (hr:HClosed n r):HClosed n ([.ro (flL 1 2 3 S (fun i=>bI (rB S i))),.ro (ints S.d),.ro (pc S.f),.ro (ints S.s),.rw [.pointer (some ⟨0,0,none⟩)],.rw [.int .i64 a,.int .i64 b],.rw (rx (fun _=>0)),.rw (rx (f)),.rw [.func (.func 76) #[.pointer (some ⟨0,0,none⟩)] #[]]]++r):=by
 have hp:∀ i,i<9→Nat.blt i n=true:=fun i hi=>Nat.blt_eq.mpr (by omega)
 refine ⟨fl_closed (by omega),plainL_closed (ints_plain _),plainL_closed (pc_plain _),plainL_closed (ints_plain _),⟨by simp [closedL,closed,hp],rfl⟩,plainL_closed rfl,plainL_closed (rx_plain _),plainL_closed (rx_plain _),⟨?_,rfl⟩,hr⟩
 simp [closedL,closed,closedA,hp]
theorem hc_l9 (S:Shp) (a b:Int) (f:Nat→Int):HClosed 9 [.ro (flL 1 2 3 S (fun i=>bI (rB S i))),.ro (ints S.d),.ro (pc S.f),.ro (ints S.s),.rw [.pointer (some ⟨0,0,none⟩)],.rw [.int .i64 a,.int .i64 b],.rw (rx (fun _=>0)),.rw (rx (f)),.rw [.func (.func 76) #[.pointer (some ⟨0,0,none⟩)] #[]]]:=by
 have:=hc_l (n:=9) (by omega) S a b f (r:=[]) trivial
 simpa using this
theorem hc_l10 (S:Shp) (a b:Int) (f g:Nat→Int):HClosed 10 [.ro (flL 1 2 3 S (fun i=>bI (rB S i))),.ro (ints S.d),.ro (pc S.f),.ro (ints S.s),.rw [.pointer (some ⟨0,0,none⟩)],.rw [.int .i64 a,.int .i64 b],.rw (rx (fun _=>0)),.rw (rx (f)),.rw [.func (.func 76) #[.pointer (some ⟨0,0,none⟩)] #[]],.rw (rx g)]:=hc_l (by omega) S a b f ⟨plainL_closed (rx_plain _),trivial⟩
theorem hc_l15 (S:Shp) (a b:Int) (f g:Nat→Int) (n:Nat) (L:AObj) (hL:oclosed 15 L):HClosed 15 [.ro (flL 1 2 3 S (fun i=>bI (rB S i))),.ro (ints S.d),.ro (pc S.f),.ro (ints S.s),.rw [.pointer (some ⟨0,0,none⟩)],.rw [.int .i64 a,.int .i64 b],.rw (rx (fun _=>0)),.rw (rx (f)),.rw [.func (.func 76) #[.pointer (some ⟨0,0,none⟩)] #[]],.rw (rx g),.rw [.int .i64 (n:Int)],.rw [.pointer (some ⟨0,0,none⟩)],.rw [.int .i64 (n:Int)],.dfr,L] :=
 hc_l (by omega) S a b f ⟨plainL_closed (rx_plain _),plainL_closed rfl,⟨rfl,rfl⟩,plainL_closed rfl,trivial,hL,trivial⟩
end Go.AH.Dust
namespace Go.Proofs.Ytomioaiojidnbaa
open Go Go.AH
attribute [local irreducible] WOps WCode WFree retQ thenQ blockQ scopeQ OpOk ACall RetRef roundA roundB
set_option maxRecDepth 100000
set_option maxHeartbeats 1000000
open Go.AH.Dust
theorem levels_ok (S:Shp) (hS:S.ok) (a b:Int) (hM:IsMean S a b) (ha:a≤1000000) (hb:b≤1000):Ev Try.prog 74 [.pointer (some ⟨0,0,none⟩),rtV a b] [.ro (flL 1 2 3 S (fun i=>bI (rB S i))),.ro (ints S.d),.ro (pc S.f),.ro (ints S.s)] (.agg (rx (lvl S a b)).toArray) [.ro (flL 1 2 3 S (fun i=>bI (rB S i))),.ro (ints S.d),.ro (pc S.f),.ro (ints S.s)]:=by
 have n1:=hS.n1
 have n10:=hS.n10
 have f60:=hS.f60
 have hLv:=lvl_lev hS hM ha hb
 have ha0:=hLv.a1
 refine acall_intro 4 58 Try.func74 rfl rfl rfl rfl rfl ?_
 repeat' (first|(refine gU ?_;first|(refine gMove ?_;refine st (ok_move rfl) rfl rfl ?_)|(refine gFA ?_;refine st (ok_fieldAddr rfl) rfl rfl ?_)|(refine gLoad ?_;refine st (ok_load rfl (by rfl)) rfl rfl ?_)|(refine gAdd ?_;refine st (ok_inc rfl rfl (by omega)) rfl rfl ?_)|(refine gLen ?_;refine st (ok_len rfl) rfl rfl ?_)|(refine gNil ?_;refine st (ok_nilP rfl) rfl rfl ?_)|(refine gMkF ?_;refine st (ok_makeFunc rfl rfl) rfl rfl ?_)|(refine gBox ?_;refine st (ok_box rfl) rfl rfl ?_)|(refine gAlloc ?_;refine st (ok_alloc rfl) rfl rfl ?_)|(refine gStore ?_;refine stN (ok_store rfl rfl rfl rfl (by rfl)) rfl ?_))|refine W_seq ?_|refine W_region ?_|refine st_nil ?_|refine tq_n ?_|refine W_block ?_)
 refine Tail.W_loopD (ι:=Nat) (fun t=>[(2,.pointer (some ⟨4,0,none⟩)),(3,.pointer (some ⟨5,0,none⟩)),(4,.pointer (some ⟨6,0,none⟩)),(5,.pointer (some ⟨7,0,none⟩)),(6,.pointer (some ⟨8,0,none⟩)),(18,.int .i64 ((S.d.length+1:Nat):Int)),(19,.int .i64 (t:Int))])
  (fun t=>[.ro (flL 1 2 3 S (fun i=>bI (rB S i))),.ro (ints S.d),.ro (pc S.f),.ro (ints S.s),.rw [.pointer (some ⟨0,0,none⟩)],.rw [.int .i64 a,.int .i64 b],.rw (rx (fun _=>0)),.rw (rx (lvT S a b t)),.rw [.func (.func 76) #[.pointer (some ⟨0,0,none⟩)] #[]]]) (fun t=>S.d.length+1 - t) (fun t=>t≤S.d.length+1) 0 rfl (by (repeat' (first|exact Tail.tail_ret rfl|refine Tail.tail_then ?_ ?_|refine Tail.tail_block ?_|refine Tail.W_tail rfl ?_))) (fun _=>by simp) (fun t _=>hc_l9 S a b _)
  (.of (.same ⟨rfl,rfl,rfl,rfl,rfl,rfl,rfl,trivial⟩) (by simp)) (by omega) ?_
 intro t ht
 by_cases htT:t<S.d.length+1
 ·have hd3:cellsAt [.ro (flL 1 2 3 S (fun i=>bI (rB S i))),.ro (ints S.d),.ro (pc S.f),.ro (ints S.s),.rw [.pointer (some ⟨0,0,none⟩)],.rw [.int .i64 a,.int .i64 b],.rw (rx (fun _=>0)),.rw (rx (lvT S a b t)),.rw [.func (.func 76) #[.pointer (some ⟨0,0,none⟩)] #[]]] 7 0 10=some (rx (lvT S a b t)):=rfl
  repeat' (first|(refine gU ?_;first|(refine gMove ?_;refine st (ok_move rfl) rfl rfl ?_)|(refine gFA ?_;refine st (ok_fieldAddr rfl) rfl rfl ?_)|(refine gLoad ?_;first|refine st (ok_load rfl (by rfl)) rfl rfl ?_|refine st (ok_loadA rfl (by rfl)) rfl rfl ?_)|(refine gBin ?_;refine st (ok_bin rfl rfl rfl) rfl rfl ?_)|(refine gLen ?_;refine st (ok_len rfl) rfl rfl ?_)|(refine gNil ?_;refine st (ok_nilP rfl) rfl rfl ?_)|(refine gAlloc ?_;refine st (ok_alloc rfl) rfl rfl ?_)|(refine gStore ?_;refine stN (ok_store rfl rfl rfl rfl (by rfl)) rfl ?_))|refine W_seq ?_|refine W_region ?_|refine st_nil ?_|refine tq_n ?_|refine W_skip ?_|refine W_block ?_|refine W_condTA rfl ?_)
  refine Tail.W_loopD (ι:=Nat) (fun n=>[(2,.pointer (some ⟨4,0,none⟩)),(3,.pointer (some ⟨5,0,none⟩)),(4,.pointer (some ⟨6,0,none⟩)),(5,.pointer (some ⟨7,0,none⟩)),(6,.pointer (some ⟨8,0,none⟩)),(18,.int .i64 ((S.d.length+1:Nat):Int)),(19,.int .i64 (t:Int)),(7,.pointer (some ⟨9,0,none⟩)),(27,.int .i64 (S.d.length:Int)),(28,.int .i64 (n:Int))])
   (fun n=>[.ro (flL 1 2 3 S (fun i=>bI (rB S i))),.ro (ints S.d),.ro (pc S.f),.ro (ints S.s),.rw [.pointer (some ⟨0,0,none⟩)],.rw [.int .i64 a,.int .i64 b],.rw (rx (fun _=>0)),.rw (rx (lvN S a b (lvT S a b t) n)),.rw [.func (.func 76) #[.pointer (some ⟨0,0,none⟩)] #[]],.rw (rx (lvT S a b t))]) (fun n=>S.d.length - n) (fun n=>n≤S.d.length) 0 rfl (by (repeat' (first|exact Tail.tail_ret rfl|exact Tail.tail_loopD|refine Tail.tail_then ?_ ?_|refine Tail.tail_block ?_|refine Tail.W_tail rfl ?_))) (fun _=>by simp) (fun n _=>hc_l10 S a b _ _)
   (.of (.same ⟨rfl,rfl,rfl,rfl,rfl,rfl,rfl,rfl,rfl,rfl,trivial⟩) (by simp)) (by omega) ?_
  clear hd3
  intro n hn
  by_cases hnd:n<S.d.length
  ·have hn10:n<10:=by omega
   have hnx:=next_ev (σ:=[.ro (flL 1 2 3 S (fun i=>bI (rB S i))),.ro (ints S.d),.ro (pc S.f),.ro (ints S.s),.rw [.pointer (some ⟨0,0,none⟩)],.rw [.int .i64 a,.int .i64 b],.rw (rx (fun _=>0)),.rw (rx (lvN S a b (lvT S a b t) n)),.rw [.func (.func 76) #[.pointer (some ⟨0,0,none⟩)] #[]],.rw (rx (lvT S a b t)),.rw [.int .i64 (n:Int)]]) (S:=S) (r:=fun i=>bI (rB S i)) (n:=(n:Int)) (p:=0) (x:=1) (y:=2) (z:=3) ⟨.inl rfl,.inl rfl,.inl rfl,.inl rfl⟩ rfl
   have hpot:=pot_N (a:=a) (b:=b) hS (pot_T hS t) n
   have hlk:lvN S a b (lvT S a b t) (n+1)=lvK S a b (lvN S a b (lvT S a b t) n) n S.f.length:=rfl
   have hpk:=fun k hk=>pot_K hS hpot (n:=n) (k:=k) hk
   clear hpot
   repeat' (first|(refine gU ?_;first|(refine gMove ?_;refine st (ok_move rfl) rfl rfl ?_)|(refine gLoad ?_;refine st (ok_load rfl (by rfl)) rfl rfl ?_)|(refine gBin ?_;refine st (ok_bin rfl rfl rfl) rfl rfl ?_)|(refine gCall ?_;refine st (ok_call rfl rfl rfl (by exact hnx)) rfl rfl ?_)|(refine gAlloc ?_;refine st (ok_alloc rfl) rfl rfl ?_)|(refine gStore ?_;refine stN (ok_store rfl rfl rfl rfl (by rfl)) rfl ?_))|refine W_seq ?_|refine W_region ?_|refine st_nil ?_|refine tq_n ?_|refine W_skip ?_|refine W_block ?_|refine W_condTA rfl ?_)
   refine W_st (by simp) (.same (e2:=[(2,.pointer (some ⟨4,0,none⟩)),(3,.pointer (some ⟨5,0,none⟩)),(4,.pointer (some ⟨6,0,none⟩)),(5,.pointer (some ⟨7,0,none⟩)),(6,.pointer (some ⟨8,0,none⟩)),(18,.int .i64 ((S.d.length+1:Nat):Int)),(19,.int .i64 (t:Int)),(7,.pointer (some ⟨9,0,none⟩)),(8,.pointer (some ⟨10,0,none⟩)),(27,.int .i64 (S.d.length:Int)),(28,.int .i64 (n:Int)),(33,.func (.func 87) #[] #[.pointer (some ⟨11,0,none⟩),.pointer (some ⟨12,0,none⟩)])]) ⟨rfl,rfl,rfl,rfl,rfl,rfl,rfl,rfl,rfl,rfl,rfl,rfl,trivial⟩) ?_
   refine W_rangeFuncL (p:=[]) (q:=[.pointer (some ⟨11,0,none⟩),.pointer (some ⟨12,0,none⟩)]) rfl fun L hL=>?_
   have hLc:oclosed 15 L:=by
    rw [hL]
    exact env_closed fun p hp=>by
     simp only [List.mem_cons,List.not_mem_nil,or_false] at hp
     rcases hp with rfl|rfl|rfl|rfl|rfl|rfl|rfl|rfl|rfl|rfl|rfl|rfl <;> exact ⟨rfl,rfl⟩
   have hLi:isIter L=false:=by rw [hL];rfl
   generalize hl1:lvN S a b (lvT S a b t) n=l1 at *
   refine acall_intro 15 28 Try.func87 rfl rfl rfl rfl rfl ?_
   repeat' (first|(refine gU ?_;first|(refine gMove ?_;refine st (ok_move rfl) rfl rfl ?_)|(refine gFA ?_;refine st (ok_fieldAddr rfl) rfl rfl ?_)|(refine gLoad ?_;refine st (ok_load rfl (by rfl)) rfl rfl ?_)|(refine gLen ?_;refine st (ok_len rfl) rfl rfl ?_)|(refine gNil ?_;refine st (ok_nilP rfl) rfl rfl ?_))|refine W_seq ?_|refine W_region ?_|refine st_nil ?_|refine tq_n ?_|refine W_block ?_)
   refine W_loopS (ι:=Nat) (fun k=>[(0,.func (.yield 14) #[] #[]),(1,.pointer (some ⟨11,0,none⟩)),(2,.pointer (some ⟨12,0,none⟩)),(10,sl 2 S.f.length),(11,.int .i64 (S.f.length:Int)),(12,.int .i64 (k:Int))])
    (fun k=>[.ro (flL 1 2 3 S (fun i=>bI (rB S i))),.ro (ints S.d),.ro (pc S.f),.ro (ints S.s),.rw [.pointer (some ⟨0,0,none⟩)],.rw [.int .i64 a,.int .i64 b],.rw (rx (fun _=>0)),.rw (rx (lvK S a b l1 n k)),.rw [.func (.func 76) #[.pointer (some ⟨0,0,none⟩)] #[]],.rw (rx (lvT S a b t)),.rw [.int .i64 (n:Int)],.rw [.pointer (some ⟨0,0,none⟩)],.rw [.int .i64 (n:Int)],.dfr,L]) (fun k=>S.f.length - k) (fun k=>k≤S.f.length) 0 (by simp) (.same ⟨rfl,rfl,rfl,rfl,rfl,rfl,trivial⟩) (by omega) ?_
   intro k hk
   clear hnx
   by_cases hkl:k<S.f.length
   ·have hd2:∀ σ':Heap,cellsAt (.ro (flL 1 2 3 S (fun i=>bI (rB S i)))::.ro (ints S.d)::.ro (pc S.f)::σ') 2 (0+k*2) 2=some [.int .i64 (gf S.f k).1,.int .i64 (gf S.f k).2]:=fun σ'=>pc_cells (.inl rfl) hkl
    obtain ⟨hw1,hw2,-⟩:=hS.f k hkl
    have hkn:lvK S a b l1 n (k+1)=if (gf S.f k).1=(n:Int)∧rB S n=true then setI (lvK S a b l1 n k) n (max (lvK S a b l1 n k n) (worV S a b n+lvK S a b l1 n k (gf S.f k).2.toNat)) else lvK S a b l1 n k:=rfl
    have b1:=pot_bound hS hM hb (hpk k hk) hnd
    have b2:=pot_bound hS hM hb (hpk k hk) (v:=(gf S.f k).2.toNat) (by omega)
    have hwb:-1000000≤worV S a b n∧worV S a b n≤1000000:=by
     have:=worV_bound hS hLv hnd
     have:=hM.nonneg hS
     unfold worV;omega
    have hisr:∀ σ':Heap,σ'.all (fun o=>!isIter o)=true→Ev Try.prog 56 [.pointer (some ⟨0,0,none⟩),.int .i64 (n:Int)] (AObj.ro (flL 1 2 3 S (fun i=>bI (rB S i)))::.ro (ints S.d)::.ro (pc S.f)::.ro (ints S.s)::.rw [.pointer (some ⟨0,0,none⟩)]::.rw [.int .i64 a,.int .i64 b]::.rw (rx (fun _=>0))::.rw (rx (lvK S a b l1 n k))::.rw [.func (.func 76) #[.pointer (some ⟨0,0,none⟩)] #[]]::σ') (.bool (rB S n)) (AObj.ro (flL 1 2 3 S (fun i=>bI (rB S i)))::.ro (ints S.d)::.ro (pc S.f)::.ro (ints S.s)::.rw [.pointer (some ⟨0,0,none⟩)]::.rw [.int .i64 a,.int .i64 b]::.rw (rx (fun _=>0))::.rw (rx (lvK S a b l1 n k))::.rw [.func (.func 76) #[.pointer (some ⟨0,0,none⟩)] #[]]::σ'):=fun σ' hσ=>isReached_ev (S:=S) (q:=rB S) (r:=fun i=>bI (rB S i)) (n:=n) (p:=0) (x:=1) (y:=2) (z:=3) ⟨.inl rfl,.inl rfl,.inl rfl,.inl rfl⟩ rfl hn10 hσ
    have hwo:∀ σ':Heap,σ'.all (fun o=>!isIter o)=true→Ev Try.prog 76 [.pointer (some ⟨0,0,none⟩),.int .i64 (n:Int),rtV a b] (AObj.ro (flL 1 2 3 S (fun i=>bI (rB S i)))::.ro (ints S.d)::.ro (pc S.f)::.ro (ints S.s)::.rw [.pointer (some ⟨0,0,none⟩)]::.rw [.int .i64 a,.int .i64 b]::.rw (rx (fun _=>0))::.rw (rx (lvK S a b l1 n k))::.rw [.func (.func 76) #[.pointer (some ⟨0,0,none⟩)] #[]]::σ') (.int .i64 (worV S a b n)) (AObj.ro (flL 1 2 3 S (fun i=>bI (rB S i)))::.ro (ints S.d)::.ro (pc S.f)::.ro (ints S.s)::.rw [.pointer (some ⟨0,0,none⟩)]::.rw [.int .i64 a,.int .i64 b]::.rw (rx (fun _=>0))::.rw (rx (lvK S a b l1 n k))::.rw [.func (.func 76) #[.pointer (some ⟨0,0,none⟩)] #[]]::σ'):=fun σ' hσ=>worth_ev (S:=S) (r:=fun i=>bI (rB S i)) (a:=a) (b:=b) (n:=n) (p:=0) (x:=1) (y:=2) (z:=3) ⟨.inl rfl,.inl rfl,.inl rfl,.inl rfl⟩ hS hLv hnd hσ
    have hc1:∀ σ':Heap,cellGet (AObj.ro (flL 1 2 3 S (fun i=>bI (rB S i)))::.ro (ints S.d)::.ro (pc S.f)::.ro (ints S.s)::.rw [.pointer (some ⟨0,0,none⟩)]::.rw [.int .i64 a,.int .i64 b]::.rw (rx (fun _=>0))::.rw (rx (lvK S a b l1 n k))::.rw [.func (.func 76) #[.pointer (some ⟨0,0,none⟩)] #[]]::σ') 7 (0+n*1)=some (.int .i64 (lvK S a b l1 n k n)):=fun σ'=>by rw [Nat.zero_add,Nat.mul_one];exact rx_get hn10
    have hc2:∀ σ':Heap,cellGet (AObj.ro (flL 1 2 3 S (fun i=>bI (rB S i)))::.ro (ints S.d)::.ro (pc S.f)::.ro (ints S.s)::.rw [.pointer (some ⟨0,0,none⟩)]::.rw [.int .i64 a,.int .i64 b]::.rw (rx (fun _=>0))::.rw (rx (lvK S a b l1 n k))::.rw [.func (.func 76) #[.pointer (some ⟨0,0,none⟩)] #[]]::σ') 7 (0+(gf S.f k).2.toNat*1)=some (.int .i64 (lvK S a b l1 n k (gf S.f k).2.toNat)):=fun σ'=>by rw [Nat.zero_add,Nat.mul_one];exact rx_get (by omega)
    have hput3:∀ (σ':Heap) (v:Int),putCells (AObj.ro (flL 1 2 3 S (fun i=>bI (rB S i)))::.ro (ints S.d)::.ro (pc S.f)::.ro (ints S.s)::.rw [.pointer (some ⟨0,0,none⟩)]::.rw [.int .i64 a,.int .i64 b]::.rw (rx (fun _=>0))::.rw (rx (lvK S a b l1 n k))::.rw [.func (.func 76) #[.pointer (some ⟨0,0,none⟩)] #[]]::σ') 7 (0+n*1) [.int .i64 v]=some (AObj.ro (flL 1 2 3 S (fun i=>bI (rB S i)))::.ro (ints S.d)::.ro (pc S.f)::.ro (ints S.s)::.rw [.pointer (some ⟨0,0,none⟩)]::.rw [.int .i64 a,.int .i64 b]::.rw (rx (fun _=>0))::.rw (rx (setI (lvK S a b l1 n k) n v))::.rw [.func (.func 76) #[.pointer (some ⟨0,0,none⟩)] #[]]::σ'):=fun σ' v =>
     putRw rfl (by simp [rx];omega) (by simp [rx]) (by rw [Nat.zero_add,Nat.mul_one];exact rx_set hn10)
    by_cases hk1:(gf S.f k).1=(n:Int)
    ·cases hr:rB S n with
     |true =>
      rw [if_pos ⟨hk1,hr⟩] at hkn
      rw [hr] at hisr
      generalize lvK S a b l1 n k n=M at *
      generalize lvK S a b l1 n k (gf S.f k).2.toNat=x at *
      generalize worV S a b n=wv at *
      generalize gf S.f k=p at *
      obtain ⟨u,v⟩:=p
      simp only at hw1 hw2 hd2 hk1 hc2
      repeat' (first|(refine gU ?_;first|(refine gMove ?_;refine st (ok_move rfl) rfl rfl ?_)|(refine gLoad ?_;first|refine st (ok_load rfl (by rfl)) rfl rfl ?_|refine st (ok_loadA rfl (by exact hd2 _)) rfl rfl ?_)|(refine gBin ?_;refine st (ok_bin rfl rfl rfl) rfl rfl ?_)|(refine gIA ?_;first|refine st (ok_idxSN rfl rfl (by omega)) rfl rfl ?_|refine st (ok_idxA rfl rfl (by omega) (by omega)) rfl rfl ?_)|(refine gAlloc ?_;refine st (ok_alloc rfl) rfl rfl ?_)|(refine gStore ?_;refine stN (ok_store rfl rfl rfl rfl (by rfl)) rfl ?_))|(refine gG ?_;first|(refine gMove ?_;refine stGA rfl (ok_move rfl) rfl rfl ?_)|(refine gLoad ?_;refine stGA rfl (ok_load rfl (by rfl)) rfl rfl ?_)|(refine gIA ?_;refine stGA rfl (ok_idxA rfl rfl (by omega) (by omega)) rfl rfl ?_))|refine W_seq ?_|refine W_region ?_|refine st_nil ?_|refine tq_n ?_|refine W_skip ?_|refine W_block ?_|refine W_condTA rfl ?_)
      refine st_yieldG (l:=14) rfl rfl (by rw [hL];rfl) rfl rfl rfl (fun _ _ _ _ he=>wanted_rel (b:=true) (by rw [wantedA_some (b:=decide (u=(n:Int))) rfl,decide_eq_true hk1];rfl) he) ?_
      repeat' (first|(refine gU ?_;(refine gAssign ?_;refine st (ok_assign rfl) rfl rfl ?_))|refine W_region ?_|refine st_nil ?_)
      refine roundA_n (by rw [hL];rfl) ?_
      repeat' (first|(refine gU ?_;first|(refine gLoad ?_;refine st (ok_load rfl (by rfl)) rfl rfl ?_)|(refine gCall ?_;refine st (ok_call rfl rfl rfl (by exact hisr _ rfl)) rfl rfl ?_)|(refine gStore ?_;refine stN (ok_store rfl rfl rfl rfl (by exact hput3 _ _)) rfl ?_))|(refine fU ?_;first|refine frA (ok_call rfl rfl rfl (hwo _ rfl)) rfl ?_|(refine fMove ?_;refine frA (ok_move rfl) rfl ?_)|(refine fLoad ?_;first|refine frA (ok_load rfl (by first|rfl|exact hc1 _|exact hc2 _)) rfl ?_|refine frA (ok_loadA rfl (by rfl)) rfl ?_)|(refine fAdd ?_;refine frA (ok_add rfl rfl (by omega) (by omega)) rfl ?_)|(refine fIA ?_;first|refine frA (ok_idxAN rfl rfl (by omega)) rfl ?_|refine frA (ok_idxA rfl rfl (by omega) (by omega)) rfl ?_)|(refine fMax ?_;refine frA (ok_max rfl rfl) rfl ?_))|(refine fr_stop ⟨by kernel_rfl,?_⟩)|refine W_seq ?_|refine W_region ?_|refine W_regionD (by kernel_rfl) rfl ?_|refine st_nil ?_|refine tq_n ?_|refine bq_n ?_|refine W_block ?_|refine W_condTA rfl ?_)
      refine roundB_n rfl rfl ?_
      repeat' (first|(refine gU ?_;first|(refine gMove ?_;refine st (ok_move rfl) rfl rfl ?_)|(refine gAdd ?_;refine st (ok_inc rfl rfl (by omega)) rfl rfl ?_)|(refine gPick ?_;refine st (ok_pickTA rfl rfl) rfl rfl ?_))|(refine gG ?_;(refine gNot ?_;refine stGA rfl (ok_not' rfl) rfl rfl ?_))|refine W_region ?_|refine st_nil ?_|refine tq_n ?_|refine bq_n ?_|refine W_skip ?_|refine W_condFA rfl ?_)
      refine ⟨rfl,k+1,by omega,by omega,?_⟩
      rw [hL,hkn]
      exact StRef.drop [.ro (flL 1 2 3 S (fun i=>bI (rB S i))),.ro (ints S.d),.ro (pc S.f),.ro (ints S.s),.rw [.pointer (some ⟨0,0,none⟩)],.rw [.int .i64 a,.int .i64 b],.rw (rx (fun _=>0)),.rw (rx (setI (lvK S a b l1 n k) n (max M (wv+x)))),.rw [.func (.func 76) #[.pointer (some ⟨0,0,none⟩)] #[]],.rw (rx (lvT S a b t)),.rw [.int .i64 (n:Int)],.rw [.pointer (some ⟨0,0,none⟩)],.rw [.int .i64 (n:Int)],.dfr,_] [_] (by simp) (hc_l15 S a b _ _ n _ (by have:=hLc;rw [hL] at this;exact this)) (by (repeat' (first|exact trivial|exact ⟨rfl,rfl,rfl⟩|exact ⟨rfl,closed_slice rfl,rfl⟩|refine ⟨?_,?_⟩)))
     |false =>
      rw [if_neg (by rw [hr];simp)] at hkn
      rw [hr] at hisr
      generalize gf S.f k=p at *
      obtain ⟨u,v⟩:=p
      simp only at hw1 hw2 hd2 hk1 hc2
      repeat' (first|(refine gU ?_;first|(refine gMove ?_;refine st (ok_move rfl) rfl rfl ?_)|(refine gLoad ?_;first|refine st (ok_load rfl (by rfl)) rfl rfl ?_|refine st (ok_loadA rfl (by exact hd2 _)) rfl rfl ?_)|(refine gBin ?_;refine st (ok_bin rfl rfl rfl) rfl rfl ?_)|(refine gIA ?_;first|refine st (ok_idxSN rfl rfl (by omega)) rfl rfl ?_|refine st (ok_idxA rfl rfl (by omega) (by omega)) rfl rfl ?_)|(refine gAlloc ?_;refine st (ok_alloc rfl) rfl rfl ?_)|(refine gStore ?_;refine stN (ok_store rfl rfl rfl rfl (by rfl)) rfl ?_))|(refine gG ?_;first|(refine gMove ?_;refine stGA rfl (ok_move rfl) rfl rfl ?_)|(refine gLoad ?_;refine stGA rfl (ok_load rfl (by rfl)) rfl rfl ?_)|(refine gIA ?_;refine stGA rfl (ok_idxA rfl rfl (by omega) (by omega)) rfl rfl ?_))|refine W_seq ?_|refine W_region ?_|refine st_nil ?_|refine tq_n ?_|refine W_skip ?_|refine W_block ?_|refine W_condTA rfl ?_)
      refine st_yieldG (l:=14) rfl rfl (by rw [hL];rfl) rfl rfl rfl (fun _ _ _ _ he=>wanted_rel (b:=true) (by rw [wantedA_some (b:=decide (u=(n:Int))) rfl,decide_eq_true hk1];rfl) he) ?_
      repeat' (first|(refine gU ?_;(refine gAssign ?_;refine st (ok_assign rfl) rfl rfl ?_))|refine W_region ?_|refine st_nil ?_)
      refine roundA_n (by rw [hL];rfl) ?_
      repeat' (first|(refine gU ?_;first|(refine gLoad ?_;refine st (ok_load rfl (by rfl)) rfl rfl ?_)|(refine gCall ?_;refine st (ok_call rfl rfl rfl (by exact hisr _ rfl)) rfl rfl ?_))|refine W_seq ?_|refine W_region ?_|refine st_nil ?_|refine tq_n ?_|refine bq_n ?_|refine W_skip ?_|refine W_block ?_|refine W_condFA rfl ?_)
      refine roundB_n rfl rfl ?_
      repeat' (first|(refine gU ?_;first|(refine gMove ?_;refine st (ok_move rfl) rfl rfl ?_)|(refine gAdd ?_;refine st (ok_inc rfl rfl (by omega)) rfl rfl ?_)|(refine gPick ?_;refine st (ok_pickTA rfl rfl) rfl rfl ?_))|(refine gG ?_;(refine gNot ?_;refine stGA rfl (ok_not' rfl) rfl rfl ?_))|refine W_region ?_|refine st_nil ?_|refine tq_n ?_|refine bq_n ?_|refine W_skip ?_|refine W_condFA rfl ?_)
      refine ⟨rfl,k+1,by omega,by omega,?_⟩
      rw [hL,hkn]
      exact StRef.drop [.ro (flL 1 2 3 S (fun i=>bI (rB S i))),.ro (ints S.d),.ro (pc S.f),.ro (ints S.s),.rw [.pointer (some ⟨0,0,none⟩)],.rw [.int .i64 a,.int .i64 b],.rw (rx (fun _=>0)),.rw (rx (lvK S a b l1 n k)),.rw [.func (.func 76) #[.pointer (some ⟨0,0,none⟩)] #[]],.rw (rx (lvT S a b t)),.rw [.int .i64 (n:Int)],.rw [.pointer (some ⟨0,0,none⟩)],.rw [.int .i64 (n:Int)],.dfr,_] [_] (by simp) (hc_l15 S a b _ _ n _ (by have:=hLc;rw [hL] at this;exact this)) (by (repeat' (first|exact trivial|exact ⟨rfl,rfl,rfl⟩|exact ⟨rfl,closed_slice rfl,rfl⟩|refine ⟨?_,?_⟩)))
    ·rw [if_neg (fun x=>hk1 x.1)] at hkn
     generalize gf S.f k=p at *
     obtain ⟨u,v⟩:=p
     simp only at hw1 hw2 hd2 hk1 hc2
     repeat' (first|(refine gU ?_;first|(refine gMove ?_;refine st (ok_move rfl) rfl rfl ?_)|(refine gLoad ?_;first|refine st (ok_load rfl (by rfl)) rfl rfl ?_|refine st (ok_loadA rfl (by exact hd2 _)) rfl rfl ?_)|(refine gAdd ?_;refine st (ok_inc rfl rfl (by omega)) rfl rfl ?_)|(refine gBin ?_;refine st (ok_bin rfl rfl rfl) rfl rfl ?_)|(refine gPick ?_;refine st (ok_pickFA rfl rfl) rfl rfl ?_)|(refine gIA ?_;first|refine st (ok_idxSN rfl rfl (by omega)) rfl rfl ?_|refine st (ok_idxA rfl rfl (by omega) (by omega)) rfl rfl ?_)|(refine gAlloc ?_;refine st (ok_alloc rfl) rfl rfl ?_)|(refine gStore ?_;refine stN (ok_store rfl rfl rfl rfl (by rfl)) rfl ?_))|(refine gG ?_;refine stSA rfl rfl ?_)|refine W_seq ?_|refine W_region ?_|refine st_nil ?_|refine tq_n ?_|refine bq_n ?_|refine W_skip ?_|refine W_block ?_|refine W_condTA rfl ?_|refine W_condFA rfl ?_)
     refine ⟨rfl,k+1,by omega,by omega,?_⟩
     rw [hkn]
     exact StRef.drop [.ro (flL 1 2 3 S (fun i=>bI (rB S i))),.ro (ints S.d),.ro (pc S.f),.ro (ints S.s),.rw [.pointer (some ⟨0,0,none⟩)],.rw [.int .i64 a,.int .i64 b],.rw (rx (fun _=>0)),.rw (rx (lvK S a b l1 n k)),.rw [.func (.func 76) #[.pointer (some ⟨0,0,none⟩)] #[]],.rw (rx (lvT S a b t)),.rw [.int .i64 (n:Int)],.rw [.pointer (some ⟨0,0,none⟩)],.rw [.int .i64 (n:Int)],.dfr,L] [_] (by simp) (hc_l15 S a b _ _ n _ hLc) (by (repeat' (first|exact trivial|exact ⟨rfl,rfl,rfl⟩|exact ⟨rfl,closed_slice rfl,rfl⟩|refine ⟨?_,?_⟩)))
   ·obtain rfl:k=S.f.length:=by omega
    rw [← hlk]
    repeat' (first|(refine gU ?_;(refine gBin ?_;refine st (ok_bin rfl rfl rfl) rfl rfl ?_))|refine W_seq ?_|refine W_region ?_|refine st_nil ?_|refine tq_n ?_|refine tq_e ?_|refine bq_hit rfl ?_|refine W_exit ?_|refine W_condFA rfl ?_)
    refine retN .nil .all ⟨_,_,_,_,_,_,_,by rw [hL];rfl,by simp,?_⟩
    dsimp only
    repeat' (first|(refine gU ?_;first|(refine gMove ?_;refine st (ok_move rfl) rfl rfl ?_)|(refine gAdd ?_;refine st (ok_inc rfl rfl (by omega)) rfl rfl ?_))|refine W_region ?_|refine st_nil ?_|refine tq_n ?_|refine bq_n ?_)
    exact ⟨n+1,⟨by omega,by omega⟩,Tail.StRefD.src [.ro (flL 1 2 3 S (fun i=>bI (rB S i))),.ro (ints S.d),.ro (pc S.f),.ro (ints S.s),.rw [.pointer (some ⟨0,0,none⟩)],.rw [.int .i64 a,.int .i64 b],.rw (rx (fun _=>0)),.rw (rx (lvN S a b (lvT S a b t) (n+1))),.rw [.func (.func 76) #[.pointer (some ⟨0,0,none⟩)] #[]],.rw (rx (lvT S a b t))] [] [] 13 (by simp) rfl (hc_l10 S a b _ _) rfl rfl rfl trivial (by (repeat' (first|exact trivial|refine ⟨er_plain rfl rfl,?_⟩|refine ⟨er_closed (m:=10) rfl (fun i hi=>srcR_lt hi) (by simp) (by rfl) rfl,?_⟩)))⟩
  ·obtain rfl:n=S.d.length:=by omega
   have hst:=lvT_stop (S:=S) (a:=a) (b:=b) (t:=t) n10
   have hlt:lvN S a b (lvT S a b t) S.d.length=lvT S a b (t+1):=rfl
   rw [hlt]
   have hd3:cellsAt [.ro (flL 1 2 3 S (fun i=>bI (rB S i))),.ro (ints S.d),.ro (pc S.f),.ro (ints S.s),.rw [.pointer (some ⟨0,0,none⟩)],.rw [.int .i64 a,.int .i64 b],.rw (rx (fun _=>0)),.rw (rx (lvT S a b (t+1))),.rw [.func (.func 76) #[.pointer (some ⟨0,0,none⟩)] #[]],.rw (rx (lvT S a b t))] 7 0 10=some (rx (lvT S a b (t+1))):=rfl
   have hd4:cellsAt [.ro (flL 1 2 3 S (fun i=>bI (rB S i))),.ro (ints S.d),.ro (pc S.f),.ro (ints S.s),.rw [.pointer (some ⟨0,0,none⟩)],.rw [.int .i64 a,.int .i64 b],.rw (rx (fun _=>0)),.rw (rx (lvT S a b (t+1))),.rw [.func (.func 76) #[.pointer (some ⟨0,0,none⟩)] #[]],.rw (rx (lvT S a b t))] 9 0 10=some (rx (lvT S a b t)):=rfl
   by_cases hq:∀ i ∈ List.range 10,lvT S a b (t+1) i=lvT S a b t i
   ·have hst:=hst hq
    have e1:lvT S a b (t+1)=lvl S a b:=by
     unfold lvl
     rw [show S.d.length+1=t+(S.d.length+1 - t) by omega,hst,hst]
    rw [e1] at hd3
    rw [e1] at hq
    rw [e1]
    repeat' (first|(refine gU ?_;first|refine st (ok_eqArrI rfl rfl rfl rfl rfl (rx_at _) (rx_at _)) rfl rfl ?_|(refine gLoad ?_;refine st (ok_loadA rfl (by rfl)) rfl rfl ?_)|(refine gBin ?_;refine st (ok_bin rfl rfl rfl) rfl rfl ?_)|(refine gStore ?_;refine stN (ok_store rfl rfl rfl rfl (by rfl)) rfl ?_))|refine W_seq ?_|refine W_region ?_|refine st_nil ?_|refine tq_n ?_|refine tq_e ?_|refine bq_hit rfl ?_|refine bq_miss rfl ?_|refine W_exit ?_|refine W_ret ?_|refine W_condTA rfl ?_|refine W_condFA rfl ?_)
    exact ret0 (.cellN inferInstance rfl rfl .nil) (.plain rfl rfl) ⟨rfl,rfl⟩
   ·repeat' (first|(refine gU ?_;first|refine st (ok_eqArrI rfl rfl rfl rfl rfl (rx_at _) (rx_at _)) rfl rfl ?_|(refine gMove ?_;refine st (ok_move rfl) rfl rfl ?_)|(refine gLoad ?_;refine st (ok_loadA rfl (by rfl)) rfl rfl ?_)|(refine gAdd ?_;refine st (ok_inc rfl rfl (by omega)) rfl rfl ?_)|(refine gBin ?_;refine st (ok_bin rfl rfl rfl) rfl rfl ?_))|refine W_seq ?_|refine W_region ?_|refine st_nil ?_|refine tq_n ?_|refine tq_e ?_|refine bq_n ?_|refine bq_hit rfl ?_|refine W_skip ?_|refine W_exit ?_|refine W_condFA rfl ?_)
    exact ⟨t+1,⟨by omega,by omega⟩,.of (StRef.drop [.ro (flL 1 2 3 S (fun i=>bI (rB S i))),.ro (ints S.d),.ro (pc S.f),.ro (ints S.s),.rw [.pointer (some ⟨0,0,none⟩)],.rw [.int .i64 a,.int .i64 b],.rw (rx (fun _=>0)),.rw (rx (lvT S a b (t+1))),.rw [.func (.func 76) #[.pointer (some ⟨0,0,none⟩)] #[]]] [_] (by simp) (hc_l9 S a b _) (by (repeat' (first|exact trivial|exact ⟨rfl,rfl,rfl⟩|refine ⟨?_,?_⟩)))) (by simp)⟩
 ·obtain rfl:t=S.d.length+1:=by omega
  have hd3:cellsAt [.ro (flL 1 2 3 S (fun i=>bI (rB S i))),.ro (ints S.d),.ro (pc S.f),.ro (ints S.s),.rw [.pointer (some ⟨0,0,none⟩)],.rw [.int .i64 a,.int .i64 b],.rw (rx (fun _=>0)),.rw (rx (lvl S a b)),.rw [.func (.func 76) #[.pointer (some ⟨0,0,none⟩)] #[]]] 7 0 10=some (rx (lvl S a b)):=rfl
  have e1:lvT S a b (S.d.length+1)=lvl S a b:=rfl
  rw [e1]
  repeat' (first|(refine gU ?_;first|(refine gLoad ?_;refine st (ok_loadA rfl (by rfl)) rfl rfl ?_)|(refine gBin ?_;refine st (ok_bin rfl rfl rfl) rfl rfl ?_)|(refine gStore ?_;refine stN (ok_store rfl rfl rfl rfl (by rfl)) rfl ?_))|refine W_seq ?_|refine W_region ?_|refine st_nil ?_|refine tq_n ?_|refine tq_e ?_|refine bq_hit rfl ?_|refine W_exit ?_|refine W_ret ?_|refine W_condFA rfl ?_)
  exact ret0 (.cellN inferInstance rfl rfl .nil) (.plain rfl rfl) ⟨rfl,rfl⟩
end Go.Proofs.Ytomioaiojidnbaa
namespace Go.AH.Dust
open Go Go.AH
section
variable {S:Shp} {a b:Int} {l:Nat→Int}
structure WayP (S:Shp) (a b:Int) (l:Nat→Int) (w:List Int):Prop where
 ne:0<w.length
 wk:∀ i,i<w.length→isW S (gi w i)
 st:∀ i,i+1<w.length→edg S a b l (gi w i) (gi w (i+1))
 nd:∀ i j,i<w.length→j<w.length→gi w i=gi w j→i=j
theorem WayP.len {w:List Int} (h:WayP S a b l w):w.length≤S.d.length:=by
 refine Classical.byContradiction fun hn=>?_
 obtain ⟨i,j,h1,h2,h3⟩:=pigeon S.d.length (fun i=>(gi w i).toNat) (fun i hi=>by
  have:=h.wk i (by omega)
  have h1:=this.1;have h2:=this.2
  omega)
 have w1:=(h.wk i (by omega)).1
 have w2:=(h.wk j (by omega)).1
 have:=h.nd i j (by omega) (by omega) (by omega)
 omega
theorem comB_iff {u v:Int}:comB S a b l u v=true↔Cms (edg S a b l) u v:=by
 unfold comB;exact @decide_eq_true_iff _ (Classical.propDecidable _)
theorem onC_iff {way:List Int} {at_ on:Int} {p:Int×Int}:onC S a b l way at_ on p=true↔p.1=at_∧tigB S a b l at_.toNat p.2.toNat=true∧(on<0∨p.2 ∈ way)∧comB S a b l p.2 p.2=true:=by
 unfold onC;simp only [Bool.and_eq_true,Bool.or_eq_true,decide_eq_true_eq]
theorem onS_spec {way:List Int} {at_:Int}:∀ {k:Nat},k≤S.f.length→0≤onS S a b l way at_ k→edg S a b l at_ (onS S a b l way at_ k)∧comB S a b l (onS S a b l way at_ k) (onS S a b l way at_ k)=true
 |0,_,h=>by simp [onS] at h
 |k+1,hk,h=>by
  unfold onS at h ⊢
  by_cases hc:onC S a b l way at_ (onS S a b l way at_ k) (gf S.f k)=true
  ·rw [if_pos hc]
   obtain ⟨h1,h2,_,h4⟩:=onC_iff.1 hc
   exact ⟨⟨mem_gf.2 ⟨k,by omega,Prod.ext h1 rfl⟩,h2⟩,h4⟩
  ·rw [if_neg hc] at h ⊢
   exact onS_spec (by omega) h
theorem onS_pos (hS:S.ok) {way:List Int} {at_:Int}:∀ {k j:Nat},k≤S.f.length→j<k→(gf S.f j).1=at_→tigB S a b l at_.toNat (gf S.f j).2.toNat=true→comB S a b l (gf S.f j).2 (gf S.f j).2=true→0≤onS S a b l way at_ k
 |k+1,j,hk,hj,h1,h2,h3=>by
  have hw:=(hS.f k (by omega)).2.1.1
  unfold onS
  by_cases hc:onC S a b l way at_ (onS S a b l way at_ k) (gf S.f k)=true
  ·rw [if_pos hc];exact hw
  ·rw [if_neg hc]
   by_cases hjk:j=k
   ·subst hjk
    refine Classical.byContradiction fun hn=>hc (onC_iff.2 ⟨h1,h2,.inl (by omega),h3⟩)
   ·exact onS_pos hS (by omega) (by omega) h1 h2 h3
theorem cms_first {u:Int} (h:Cms (edg S a b l) u u):∃ y,edg S a b l u y∧Cms (edg S a b l) y y:=by
 cases h with
 |one h=>exact ⟨u,h,.one h⟩
 |more h k=>exact ⟨_,h,k.snoc h⟩
theorem gi_last {w:List Int} {x:Int}:gi (w++[x]) (w.length)=x:=by unfold gi;simp [List.getD_eq_getElem?_getD]
theorem gi_fst {w:List Int} {x:Int} {i:Nat} (h:i<w.length):gi (w++[x]) i=gi w i:=by
 unfold gi;simp only [List.getD_eq_getElem?_getD];rw [List.getElem?_append_left h]
theorem WayP.push {w:List Int} {x:Int} (h:WayP S a b l w) (hx:isW S x) (he:edg S a b l (gi w (w.length - 1)) x) (hn:∀ i,i<w.length→gi w i ≠ x):WayP S a b l (w++[x]):=by
 have hl:(w++[x]).length=w.length+1:=by simp
 have n0:=h.ne
 refine ⟨by omega,fun i hi=>?_,fun i hi=>?_,fun i j hi hj he=>?_⟩
 ·by_cases hil:i<w.length
  ·rw [gi_fst hil];exact h.wk i hil
  ·obtain rfl:i=w.length:=by omega
   rw [gi_last];exact hx
 ·by_cases hil:i+1<w.length
  ·rw [gi_fst hil,gi_fst (by omega)];exact h.st i hil
  ·have e:i+1=w.length:=by omega
   rw [e,gi_last,gi_fst (by omega),show i=w.length - 1 by omega];exact he
 ·by_cases hil:i<w.length
  ·by_cases hjl:j<w.length
   ·rw [gi_fst hil,gi_fst hjl] at he;exact h.nd i j hil hjl he
   ·obtain rfl:j=w.length:=by omega
    rw [gi_fst hil,gi_last] at he;exact absurd he (hn i hil)
  ·obtain rfl:i=w.length:=by omega
   by_cases hjl:j<w.length
   ·rw [gi_fst hjl,gi_last] at he;exact absurd he.symm (hn j hjl)
   ·omega
structure EndP (S:Shp) (a b:Int) (l:Nat→Int) (o:List Int×Nat):Prop where
 way:WayP S a b l o.1
 lt:o.2<o.1.length
 cl:edg S a b l (gi o.1 (o.1.length - 1)) (gi o.1 o.2)
theorem ixP_at {q:Nat→Bool} {n:Nat} (h:0≤ixP q n):q (ixP q n).toNat=true:=by
 unfold ixP at *
 split at h
 ·rename_i i hi
  have:=List.find?_some hi
  simpa using this
 ·omega
theorem srch_good (hS:S.ok):∀ (n:Nat) (w:List Int),S.d.length+1 - w.length=n→WayP S a b l w→∀ o,srchS S a b l w=some o→EndP S a b l o:=by
 intro n
 induction n with
 |zero=>intro w hn hw;have:=hw.len;omega
 |succ n ih =>
  intro w hn hw o ho
  have hl:=hw.len
  have hat:=hw.wk (w.length - 1) (by have:=hw.ne;omega)
  rw [srchS,dif_pos hl] at ho
  have hon:=onS_w hS (a:=a) (b:=b) (l:=l) (way:=w) (at_:=gi w (w.length - 1)) (Nat.le_refl S.f.length)
  have hsp:=onS_spec (a:=a) (b:=b) (l:=l) (way:=w) (at_:=gi w (w.length - 1)) (Nat.le_refl S.f.length)
  generalize onS S a b l w (gi w (w.length - 1)) S.f.length=on at *
  by_cases h0:on<0
  ·rw [if_pos h0] at ho;cases ho
  ·rw [if_neg h0] at ho
   obtain ⟨s1,s2⟩:=hsp (by omega)
   by_cases hi:0≤ixP (fun i=>decide (gi w i=on)) w.length
   ·rw [if_pos hi] at ho
    cases ho
    have h1:=ixP_lt hi
    have h2:=of_decide_eq_true (ixP_at hi)
    exact ⟨hw,by simp only;omega,by simp only;rw [h2];exact s1⟩
   ·rw [if_neg hi] at ho
    refine ih (w++[on]) (by simp;omega) (hw.push (hon.resolve_left (by omega)) s1 fun i hil he=>hi (ixP_iff.2 ⟨i,hil,decide_eq_true he⟩)) o ho
theorem srch_ex (hS:S.ok):∀ (n:Nat) (w:List Int),S.d.length+1 - w.length=n→WayP S a b l w→Cms (edg S a b l) (gi w (w.length - 1)) (gi w (w.length - 1))→∃ o,srchS S a b l w=some o:=by
 intro n
 induction n with
 |zero=>intro w hn hw;have:=hw.len;omega
 |succ n ih =>
  intro w hn hw hc
  have hl:=hw.len
  rw [srchS,dif_pos hl]
  have hon:=onS_w hS (a:=a) (b:=b) (l:=l) (way:=w) (at_:=gi w (w.length - 1)) (Nat.le_refl S.f.length)
  have hsp:=onS_spec (a:=a) (b:=b) (l:=l) (way:=w) (at_:=gi w (w.length - 1)) (Nat.le_refl S.f.length)
  obtain ⟨y,y1,y2⟩:=cms_first hc
  obtain ⟨j,j1,j2⟩:=mem_gf.1 y1.1
  have h0:=onS_pos hS (a:=a) (b:=b) (l:=l) (way:=w) (at_:=gi w (w.length - 1)) (Nat.le_refl S.f.length) j1 (by rw [j2]) (by rw [j2];exact y1.2) (by rw [j2];exact comB_iff.2 y2)
  generalize onS S a b l w (gi w (w.length - 1)) S.f.length=on at *
  obtain ⟨s1,s2⟩:=hsp h0
  rw [if_neg (by omega)]
  by_cases hi:0≤ixP (fun i=>decide (gi w i=on)) w.length
  ·rw [if_pos hi];exact ⟨_,rfl⟩
  ·rw [if_neg hi]
   refine ih (w++[on]) (by simp;omega) (hw.push (hon.resolve_left (by omega)) s1 fun i hil he=>hi (ixP_iff.2 ⟨i,hil,decide_eq_true he⟩)) ?_
   rw [show (w++[on]).length - 1=w.length by simp,gi_last]
   exact comB_iff.1 s2
theorem way_one {k:Nat} (hk:k<S.d.length):WayP S a b l [(k:Int)]:=by
 refine ⟨by simp,fun i hi=>?_,fun i hi=>by simp at hi,fun i j hi hj _=>by simp at hi hj;omega⟩
 obtain rfl:i=0:=by simpa using hi
 exact ⟨by show (0:Int)≤(k:Int);omega,by show (k:Int) < _;omega⟩
theorem rnd_good (hS:S.ok):∀ (n k:Nat),S.d.length - k=n→∀ o,rndS S a b l k=some o→EndP S a b l o:=by
 intro n
 induction n with
 |zero=>intro k hk o ho;rw [rndS,dif_neg (by omega)] at ho;cases ho
 |succ n ih =>
  intro k hk o ho
  rw [rndS,dif_pos (by omega)] at ho
  split at ho
  ·rename_i o' he
   cases ho
   exact srch_good hS _ _ rfl (way_one (by omega)) _ he
  ·exact ih (k+1) (by omega) o ho
theorem rnd_ex (hS:S.ok):∀ (n k j:Nat),S.d.length - k=n→k≤j→j<S.d.length→Cms (edg S a b l) j j→∃ o,rndS S a b l k=some o:=by
 intro n
 induction n with
 |zero=>intro k j hk h1 h2;omega
 |succ n ih =>
  intro k j hk h1 h2 h3
  rw [rndS,dif_pos (by omega)]
  split
  ·exact ⟨_,rfl⟩
  ·rename_i he
   by_cases hkj:k=j
   ·subst hkj
    obtain ⟨o,ho⟩:=srch_ex hS _ [(k:Int)] rfl (way_one (by omega)) h3
    rw [ho] at he;cases he
   ·exact ih (k+1) j (by omega) (by omega) h2 h3
structure RndP (S:Shp) (a b:Int) (r:List Int):Prop where
 ne:0<r.length
 len:r.length≤S.d.length
 wk:∀ i,i<r.length→isW S (gi r i)
 ch:chain S r
 cl:(gi r (r.length - 1),gi r 0) ∈ S.f
 rch:Rch S (gi r 0)
 nd:∀ i j,i<r.length→j<r.length→gi r i=gi r j→i=j
 sum:b*sumK S r r.length=a*(r.length:Int)
theorem gi_drop {w:List Int} {i j:Nat}:gi (w.drop i) j=gi w (i+j):=by
 unfold gi;simp only [List.getD_eq_getElem?_getD];rw [List.getElem?_drop]
theorem EndP.round {o:List Int×Nat} (h:EndP S a b l o):RndP S a b (o.1.drop o.2):=by
 obtain ⟨w,i⟩:=o
 have hlt:=h.lt
 have hcl:=h.cl
 have hw:=h.way
 have hwl:=hw.len
 simp only at hlt hcl hw hwl ⊢
 have hl:(w.drop i).length=w.length - i:=by simp
 have hst:∀ j,j+1<(w.drop i).length→edg S a b l (gi (w.drop i) j) (gi (w.drop i) (j+1)):=fun j hj=>by
  rw [gi_drop,gi_drop,← Nat.add_assoc];exact hw.st _ (by omega)
 have hc:edg S a b l (gi (w.drop i) ((w.drop i).length - 1)) (gi (w.drop i) 0):=by
  rw [gi_drop,gi_drop,hl,show i+(w.length - i - 1)=w.length - 1 by omega,Nat.add_zero];exact hcl
 have hwk:∀ j,j<(w.drop i).length→isW S (gi (w.drop i) j):=fun j hj=>by rw [gi_drop];exact hw.wk _ (by omega)
 have tig:∀ {u v:Int},edg S a b l u v→rB S u.toNat=true∧worV S a b u.toNat=l u.toNat - l v.toNat:=fun {u v} he=>by
  have:=he.2
  unfold tigB at this
  simp only [Bool.and_eq_true,decide_eq_true_eq] at this
  exact this
 have hnd:∀ j k,j<(w.drop i).length→k<(w.drop i).length→gi (w.drop i) j=gi (w.drop i) k→j=k:=fun j k hj hk he=>by
  rw [gi_drop,gi_drop] at he
  have:=hw.nd _ _ (by omega) (by omega) he
  omega
 generalize w.drop i=r at *
 have h0:=hwk 0 (by omega)
 have h01:=h0.1
 have hsum:∀ k,k<r.length→b*sumK S r k - a*(k:Int)=l (gi r 0).toNat - l (gi r k).toNat:=by
  intro k
  induction k with
  |zero=>intro _;simp [sumK]
  |succ k ih =>
   intro hk
   have ih:=ih (by omega)
   have:=(tig (hst k hk)).2
   unfold worV at this
   simp only [sumK]
   rw [Int.mul_add,show (((k+1:Nat)):Int)=(k:Int)+1 from rfl,Int.mul_add,Int.mul_one]
   omega
 refine ⟨by omega,by omega,hwk,fun j hj h0=>?_,hc.1,?_,hnd,?_⟩
 ·have:=(hst (j - 1) (by omega)).1
  rwa [show j - 1+1=j by omega] at this
 ·by_cases hr1:r.length=1
  ·have:=(tig hc).1
   rw [hr1] at this
   have h2:=rB_iff.1 this
   rwa [show (((gi r (1 - 1)).toNat:Nat):Int)=gi r 0 by simp;omega] at h2
  ·have:=(tig (hst 0 (by omega))).1
   have h2:=rB_iff.1 this
   rwa [show (((gi r 0).toNat:Nat):Int)=gi r 0 by omega] at h2
 ·have h1:=hsum (r.length - 1) (by omega)
  have h2:=(tig hc).2
  unfold worV at h2
  have e:r.length=r.length - 1+1:=by omega
  rw [e]
  generalize r.length - 1=k at *
  simp only [sumK]
  rw [Int.mul_add,show (((k+1:Nat)):Int)=(k:Int)+1 from rfl,Int.mul_add,Int.mul_one]
  omega
theorem cms_path {E:Int→Int→Prop} {p:Nat→Int} {h:Nat} (he:∀ i,i<h→E (p i) (p (i+1))) (h0:0<h):Cms E (p 0) (p h):=by
 induction h with
 |zero=>omega
 |succ h ih =>
  by_cases hh:h=0
  ·subst hh;exact .one (he 0 (by omega))
  ·exact (ih (fun i hi=>he i (by omega)) (by omega)).snoc (he h (by omega))
theorem rnd_round (hS:S.ok) (hM:IsMean S a b):∃ o,rndS S a b (lvl S a b) 0=some o∧RndP S a b (o.1.drop o.2)∧o.2<o.1.length:=by
 obtain ⟨p,h,hc,he⟩:=hM.att
 have ht:=cyc_tight hS hM hc he (l:=lvl S a b) fun u v hr hf=>lvl_prove hS hM hr hf
 have h1:=cms_path ht hc.h0
 rw [hc.cl] at h1
 have hw:=rch_work hS hc.rch
 have w1:=hw.1;have w2:=hw.2
 obtain ⟨o,ho⟩:=rnd_ex hS (a:=a) (b:=b) (l:=lvl S a b) _ 0 (p 0).toNat rfl (by omega) (by omega) (by rw [show (((p 0).toNat:Nat):Int)=p 0 by omega];exact h1)
 have hg:=rnd_good hS _ 0 rfl o ho
 exact ⟨o,ho,hg.round,hg.lt⟩
end
end Go.AH.Dust
namespace Go.AH.Dust
open Go Go.AH
theorem nok_sliceO {n b o l c:Nat}:Nok n b (.slice (some ⟨b,o,none⟩) l c):=fun k ρ ρ' v' hv hρ=>by
 have hb:=hρ b (.inr (Nat.le_refl _))
 cases hv with
 |emptySlice=>exact .emptySlice _ _ _ _
 |slice _ _ _ _ c' hc hi=>rw [← hb];exact .slice _ _ _ _ _ hc hi
 |sliceG _ _ _ _ _ _ _ _ hq=>simp at hq
theorem srch_push {S:Shp} {a b:Int} {l:Nat→Int} {way:List Int} {on:Int} (h:way.length≤S.d.length) (h1:onS S a b l way (gi way (way.length - 1)) S.f.length=on) (h2:¬ on<0) (h3:¬ 0≤ixP (fun i=>decide (gi way i=on)) way.length) :
  srchS S a b l way=srchS S a b l (way++[on]):=by rw [srchS,dif_pos h,h1,if_neg h2,if_neg h3]
theorem srch_stop {S:Shp} {a b:Int} {l:Nat→Int} {way:List Int} {on:Int} (h:way.length≤S.d.length) (h1:onS S a b l way (gi way (way.length - 1)) S.f.length=on) (h2:¬ on<0) (h3:0≤ixP (fun i=>decide (gi way i=on)) way.length) :
  srchS S a b l way=some (way,(ixP (fun i=>decide (gi way i=on)) way.length).toNat):=by rw [srchS,dif_pos h,h1,if_neg h2,if_pos h3]
theorem rnd_some {S:Shp} {a b:Int} {l:Nat→Int} {k:Nat} {o:List Int×Nat} (h:k<S.d.length) (h1:srchS S a b l [(k:Int)]=some o):rndS S a b l k=some o:=by rw [rndS,dif_pos h,h1]
theorem tig_of {S:Shp} {a b:Int} {l:Nat→Int} {n k:Nat} (h:rB S n=true) (h1:worV S a b n=l n - l k):tigB S a b l n k=true:=by unfold tigB;rw [h,decide_eq_true h1];rfl
theorem com_of {S:Shp} {a b:Int} {l:Nat→Int} {u v:Int} (h:Cms (edg S a b l) u v):comB S a b l u v=true:=by
 unfold comB;exact @decide_eq_true _ (Classical.propDecidable _) h
def lT (i:Nat):Int:=gi [50,0,10] i
theorem lT_lev:Lev 40 3 lT:=⟨by decide,by decide,by decide,by decide,fun i hi=>by
 match i with
 |0=>decide
 |1=>decide
 |2=>decide
 |i+3=>simp [lT,gi]⟩
theorem e01:edg shT 40 3 lT 0 1:=⟨by decide,tig_of (shT_rch 0 (by decide)) (by decide)⟩
theorem e12:edg shT 40 3 lT 1 2:=⟨by decide,tig_of (shT_rch 1 (by decide)) (by decide)⟩
theorem e20:edg shT 40 3 lT 2 0:=⟨by decide,tig_of (shT_rch 2 (by decide)) (by decide)⟩
theorem c0:comB shT 40 3 lT 0 0=true:=com_of (.more e01 (.more e12 (.one e20)))
theorem c1:comB shT 40 3 lT 1 1=true:=com_of (.more e12 (.more e20 (.one e01)))
theorem c2:comB shT 40 3 lT 2 2=true:=com_of (.more e20 (.more e01 (.one e12)))
theorem on_step {S:Shp} {a b:Int} {l:Nat→Int} {way:List Int} {at_:Int} {k:Nat} {p:Int×Int} {on on2:Int} (hp:gf S.f k=p) (h:onS S a b l way at_ k=on) (h2:(if onC S a b l way at_ on p=true then p.2 else on)=on2):onS S a b l way at_ (k+1)=on2:=by
 subst hp;subst h;exact h2
theorem onT0:onS shT 40 3 lT [0] 0 3=1:=by
 have t:=e01.2
 have h1:onS shT 40 3 lT [0] 0 1=1:=on_step (p:=(0,1)) rfl rfl (by simp only [onC];rw [show tigB shT 40 3 lT (0:Int).toNat (1:Int).toNat=true from t,c1];rfl)
 exact on_step (p:=(2,0)) rfl (on_step (p:=(1,2)) rfl h1 rfl) rfl
theorem onT1:onS shT 40 3 lT [0,1] 1 3=2:=by
 have t:=e12.2
 have h1:onS shT 40 3 lT [0,1] 1 2=2:=on_step (p:=(1,2)) rfl (on_step (p:=(0,1)) rfl rfl rfl) (by simp only [onC];rw [show tigB shT 40 3 lT (1:Int).toNat (2:Int).toNat=true from t,c2];rfl)
 exact on_step (p:=(2,0)) rfl h1 rfl
theorem onT2:onS shT 40 3 lT [0,1,2] 2 3=0:=by
 have t:=e20.2
 exact on_step (p:=(2,0)) rfl (on_step (p:=(1,2)) rfl (on_step (p:=(0,1)) rfl rfl rfl) rfl) (by simp only [onC];rw [show tigB shT 40 3 lT (2:Int).toNat (0:Int).toNat=true from t,c0];rfl)
theorem rndT:rndS shT 40 3 lT 0=some ([0,1,2],0):=by
 refine rnd_some (by decide) ?_
 show srchS shT 40 3 lT [0]=_
 rw [srch_push (on:=1) (by decide) onT0 (by decide) (by decide +kernel)]
 show srchS shT 40 3 lT [0,1]=_
 rw [srch_push (on:=2) (by decide) onT1 (by decide) (by decide +kernel)]
 show srchS shT 40 3 lT [0,1,2]=_
 rw [srch_stop (on:=0) (by decide) onT2 (by decide) (by decide +kernel)]
 rfl
def lS (_:Nat):Int:=0
theorem lS_lev:Lev 30 1 lS:=⟨by decide,by decide,by decide,by decide,fun i hi=>by simp [lS]⟩
theorem e00:edg shS 30 1 lS 0 0:=⟨by decide,tig_of (shS_rch 0 (by decide)) (by decide)⟩
theorem d0:comB shS 30 1 lS 0 0=true:=com_of (.one e00)
theorem onS0:onS shS 30 1 lS [0] 0 5=0:=by
 have t:=e00.2
 have h1:onS shS 30 1 lS [0] 0 1=0:=on_step (p:=(0,0)) rfl rfl (by simp only [onC];rw [show tigB shS 30 1 lS (0:Int).toNat (0:Int).toNat=true from t,d0];rfl)
 have h2:onS shS 30 1 lS [0] 0 2=0:=on_step (p:=(0,1)) rfl h1 (by simp [onC])
 exact on_step (p:=(1,1)) rfl (on_step (p:=(2,0)) rfl (on_step (p:=(1,2)) rfl h2 rfl) rfl) rfl
theorem rndS0:rndS shS 30 1 lS 0=some ([0],0):=by
 refine rnd_some (by decide) ?_
 show srchS shS 30 1 lS [0]=_
 rw [srch_stop (on:=0) (by decide) onS0 (by decide) (by decide +kernel)]
 rfl
end Go.AH.Dust
namespace Go.Proofs.Ytomioaiojidnbaa
open Go Go.AH
attribute [local irreducible] WOps WCode WFree retQ thenQ blockQ scopeQ OpOk ACall RetRef roundA roundB
set_option maxRecDepth 100000
set_option maxHeartbeats 1000000
open Go.AH.Dust
theorem fl_all3 {S:Shp} {x y z:Nat} (h0:shopE S=0) (h3:S.d.length=3) (hr:∀ i,i<S.d.length→rB S i=true):flL x y z S (fun i=>bI (rB S i))=flL x y z S all3:=by
 show sl x _::sl y _::sl z _::rx _=sl x _::sl y _::sl z _::rx _
 rw [rx_congr fun j _=>?_]
 by_cases hj:j<3
 ·rw [hr j (by omega)]
  simp [all3,bI,Nat.blt_eq.mpr hj]
 ·have:rB S j=false:=by
   cases hb:rB S j with
   |false=>rfl
   |true=>have:=rch_work (shopE_zero h0) (rB_iff.1 hb);omega
  rw [this]
  have hn:Nat.blt j 3=false:=by
   cases hb:Nat.blt j 3 with
   |false=>rfl
   |true=>exact absurd (Nat.blt_eq.mp hb) hj
  simp [all3,bI,hn]
theorem meanS_ok (S:Shp) (h0:shopE S=0) (a b:Int) (l:Nat→Int) (hL:Lev a b l) (w:List Int) (i:Nat)
  (hm:Ev Try.prog 72 [.pointer (some ⟨0,0,none⟩)] [.ro (flL 1 2 3 S (fun i=>bI (rB S i))),.ro (ints S.d),.ro (pc S.f),.ro (ints S.s)] (.tuple #[rtV a b,.bool true]) [.ro (flL 1 2 3 S (fun i=>bI (rB S i))),.ro (ints S.d),.ro (pc S.f),.ro (ints S.s)])
  (hl:Ev Try.prog 74 [.pointer (some ⟨0,0,none⟩),rtV a b] [.ro (flL 1 2 3 S (fun i=>bI (rB S i))),.ro (ints S.d),.ro (pc S.f),.ro (ints S.s)] (.agg (rx l).toArray) [.ro (flL 1 2 3 S (fun i=>bI (rB S i))),.ro (ints S.d),.ro (pc S.f),.ro (ints S.s)]) (hr:rndS S a b l 0=some (w,i)) :
  Ev Try.prog 35 [shV 0 1 2 S] S.hp (.tuple #[rtV a b,.slice (some ⟨3,i,none⟩) (w.length - i) (w.length - i),.int .i64 0]) (S.hp++[.rw (ints w)]):=by
 have hfit:=(shopE_zero h0).fit
 have hro:=round_ok S (shopE_zero h0) a b l hL
 rw [hr] at hro
 have hop:=open_evOk (σ:=[.ro (ints S.d),.ro (pc S.f),.ro (ints S.s),.rw (shL 0 1 2 S),.rw [.int .i64 0,.int .i64 0]]) (x:=0) (y:=1) (z:=2) ⟨.inl rfl,.inl rfl,.inl rfl⟩ shS_self hfit h0 rfl
 refine acall_intro 3 33 Try.func35 rfl rfl rfl rfl rfl ?_
 have hfa:FAt [.ro (ints S.d),.ro (pc S.f),.ro (ints S.s),.rw (shL 0 1 2 S),.rw [.int .i64 0,.int .i64 0],.rw (flL 0 1 2 S (fun i=>bI (rB S i)))] 5 0 1 2 S (fun i=>bI (rB S i)):=⟨.inr (.inl rfl),.inl rfl,.inl rfl,.inl rfl⟩
 have hfb:FAt [.ro (ints S.d),.ro (pc S.f),.ro (ints S.s),.rw (shL 0 1 2 S),.rw [.int .i64 0,.int .i64 0],.rw (flL 0 1 2 S (fun i=>bI (rB S i))),.rw [.int .i64 a,.int .i64 b]] 5 0 1 2 S (fun i=>bI (rB S i)):=⟨.inr (.inl rfl),.inl rfl,.inl rfl,.inl rfl⟩
 have hme:=hfa.ev (args:=[.pointer (some ⟨5,0,none⟩)]) hm ⟨VQ.ptr (q:=true) (n:=4) (ρ:=bsR [5,0,1,2]) 0 0 (by omega),trivial⟩ rfl rfl
 have hle:=hfb.ev (args:=[.pointer (some ⟨5,0,none⟩),rtV a b]) hl ⟨VQ.ptr (q:=true) (n:=4) (ρ:=bsR [5,0,1,2]) 0 0 (by omega),vrel_plain _ rfl,trivial⟩ rfl rfl
 have hro2:=hfb.evN (args:=[.pointer (some ⟨5,0,none⟩),rtV a b,.agg (rx l).toArray]) (news:=[.rw (ints w)]) (news':=[.rw (ints w)]) (v:=.slice (some ⟨7,i,none⟩) (w.length - i) (w.length - i)) hro ⟨VQ.ptr (q:=true) (n:=4) (ρ:=bsR [5,0,1,2]) 0 0 (by omega),vrel_plain _ rfl,vrel_plain _ rfl,trivial⟩ rfl (by simp [rV,ren,shf]) (by simp only [List.map_cons,List.map_nil,renO,renL_plain _ (ints_plain _)]) rfl
 clear hm hl hro
 repeat' (first|(refine gU ?_;first|(refine gMove ?_;refine st (ok_move rfl) rfl rfl ?_)|(refine gAssign ?_;refine st (ok_assign rfl) rfl rfl ?_)|(refine gLoad ?_;refine st (ok_loadA rfl (by rfl)) rfl rfl ?_)|(refine gBin ?_;refine st (ok_bin rfl rfl rfl) rfl rfl ?_)|(refine gNot ?_;refine st (ok_not' rfl) rfl rfl ?_)|(refine gExtract ?_;refine st (ok_extract rfl rfl) rfl rfl ?_)|(refine gCall ?_;refine st (ok_call rfl rfl rfl (by first|exact hop|exact hme)) rfl rfl ?_)|(refine gBox ?_;refine st (ok_box rfl) rfl rfl ?_)|(refine gAlloc ?_;refine st (ok_alloc rfl) rfl rfl ?_)|(refine gStore ?_;refine stN (ok_store rfl rfl rfl rfl (by rfl)) rfl ?_))|(refine fU ?_;first|refine frA (ok_call rfl rfl rfl hle) rfl ?_|refine frN (ok_call rfl rfl rfl hro2) nok_sliceO (plainL_closed (ints_plain _)).1 (plainL_closed (n:=0) (ints_plain _)).2 rfl ?_|(refine fMove ?_;refine frA (ok_move rfl) rfl ?_)|(refine fLoad ?_;refine frA (ok_loadA rfl (by rfl)) rfl ?_))|(refine fr_stop ⟨by kernel_rfl,?_⟩)|refine W_seq ?_|refine W_region ?_|refine W_regionD (by kernel_rfl) rfl ?_|refine st_nil ?_|refine tq_n ?_|refine W_skip ?_|refine W_ret ?_|refine W_condFA rfl ?_)
 refine ret0 (.cellN inferInstance rfl rfl (.tmp rfl (.tmp rfl .nil))) (RetRef.src [.rw (ints w)] [7] rfl rfl rfl ⟨osub_rwp (j:=7) rfl (.inl rfl) (ints_plain _),trivial⟩ ?_) ⟨rfl,rfl⟩
 refine .tuple _ _ rfl fun j hj _=>?_
 match j,hj with
 |0,_=>exact vrel_plain _ rfl
 |1,_ =>
  have:=VQ.slice (q:=true) (n:=4) (ρ:=srcR 3 [7]) 3 i (w.length - i) (w.length - i) (w.length - i) (Nat.le_refl _) (by omega)
  simpa [srcR] using this
 |2,_=>exact vrel_plain _ rfl
def hpF (S:Shp):Heap:=[.ro (flL 1 2 3 S all3),.ro (ints S.d),.ro (pc S.f),.ro (ints S.s)]
theorem meanT72:Ev Try.prog 72 [.pointer (some ⟨0,0,none⟩)] (hpF shT) (.tuple #[rtV 40 3,.bool true]) (hpF shT):=ev_run (orc:=knownsA ksD) tabOk (knownsA_ok ksD_ok) mixed (n:=500) (lo:=4) (by kernel_rfl)
theorem levT74:Ev Try.prog 74 [.pointer (some ⟨0,0,none⟩),rtV 40 3] (hpF shT) (.agg (rx lT).toArray) (hpF shT):=ev_run (orc:=knownsA ksD) tabOk (knownsA_ok ksD_ok) mixed (n:=500) (lo:=4) (by kernel_rfl)
theorem meanS72:Ev Try.prog 72 [.pointer (some ⟨0,0,none⟩)] (hpF shS) (.tuple #[rtV 30 1,.bool true]) (hpF shS):=ev_run (orc:=knownsA ksD) tabOk (knownsA_ok ksD_ok) mixed (n:=500) (lo:=4) (by kernel_rfl)
theorem levS74:Ev Try.prog 74 [.pointer (some ⟨0,0,none⟩),rtV 30 1] (hpF shS) (.agg (rx lS).toArray) (hpF shS):=ev_run (orc:=knownsA ksD) tabOk (knownsA_ok ksD_ok) mixed (n:=500) (lo:=4) (by kernel_rfl)
def kMean (S:Shp) (a b:Int) (w:List Int):Known:=⟨35,[shV 0 1 2 S],S.css,.tuple #[rtV a b,sl 3 w.length,.int .i64 0],[.rw (ints w)]⟩
theorem kMean_ok {S:Shp} (h0:shopE S=0) (h3:S.d.length=3) (hr:∀ i,i<S.d.length→rB S i=true) {a b:Int} {l:Nat→Int} (hL:Lev a b l) {w:List Int}
  (hm:Ev Try.prog 72 [.pointer (some ⟨0,0,none⟩)] (hpF S) (.tuple #[rtV a b,.bool true]) (hpF S))
  (hl:Ev Try.prog 74 [.pointer (some ⟨0,0,none⟩),rtV a b] (hpF S) (.agg (rx l).toArray) (hpF S)) (hrn:rndS S a b l 0=some (w,0)):KnownOk Try.prog (kMean S a b w):=by
 have e:hpF S=[.ro (flL 1 2 3 S (fun i=>bI (rB S i))),.ro (ints S.d),.ro (pc S.f),.ro (ints S.s)]:=by unfold hpF;rw [fl_all3 h0 h3 hr]
 rw [e] at hm hl
 exact ⟨meanS_ok S h0 a b l hL w 0 hm hl hrn,S.css_plain,rfl⟩
def ksM:List Known:=kMean shT 40 3 [0,1,2]::kMean shS 30 1 [0]::ksD
theorem ksM_ok:∀ k ∈ ksM,KnownOk Try.prog k:=by
 intro k hk
 rcases List.mem_cons.1 hk with rfl|hk
 ·exact kMean_ok shT_zero rfl shT_rch lT_lev meanT72 levT74 rndT
 ·rcases List.mem_cons.1 hk with rfl|hk
  ·exact kMean_ok shS_zero rfl shS_rch lS_lev meanS72 levS74 rndS0
  ·exact ksD_ok k hk
end Go.Proofs.Ytomioaiojidnbaa
namespace Go.Proofs.Ytomioaiojidnbaa
open Go Go.AH
attribute [local irreducible] WOps WCode WFree retQ thenQ blockQ scopeQ OpOk ACall RetRef roundA roundB
set_option maxRecDepth 100000
set_option maxHeartbeats 1000000
open Go.AH.Dust
end Go.Proofs.Ytomioaiojidnbaa
namespace Go.Proofs.Ytomioaiojidnbaa
open Go Go.AH
open Go.AH.Dust
def kLevelsT:Known:=⟨48,[shV 0 1 2 shT],[ints shT.d,pc shT.f,ints shT.s],.tuple #[.slice (some ⟨3,0,none⟩) 3 3,.int .i64 0],[.rw [.int .i64 50,.int .i64 0,.int .i64 10]]⟩
theorem kLevelsT_ok:KnownOk Try.prog kLevelsT:=⟨ev_run (orc:=knownsA ksM) tabOk (knownsA_ok ksM_ok) mixed (n:=500) (lo:=3) (by kernel_rfl),by kernel_rfl,by kernel_rfl⟩
def kTopsT:Known:=⟨30,[shV 0 1 2 shT,.int .i64 4],[ints shT.d,pc shT.f,ints shT.s],.tuple #[.slice (some ⟨3,0,none⟩) 4 4,.int .i64 0],[.rw [.slice (some ⟨4,0,none⟩) 3 3,.slice (some ⟨5,0,none⟩) 3 3,.slice (some ⟨6,0,none⟩) 3 3,.slice (some ⟨7,0,none⟩) 3 3],.rw [.int .i64 30,.int .i64 10,.int .i64 0],.rw [.int .i64 40,.int .i64 10,.int .i64 30],.rw [.int .i64 40,.int .i64 40,.int .i64 40],.rw [.int .i64 70,.int .i64 50,.int .i64 40]]⟩
theorem kTopsT_ok:KnownOk Try.prog kTopsT:=⟨ev_run (orc:=knownsA ksM) tabOk (knownsA_ok ksM_ok) mixed (n:=500) (lo:=3) (by kernel_rfl),by kernel_rfl,by kernel_rfl⟩
def kSafeT:Known:=⟨33,[shV 0 1 2 shT,.int .i64 2,.int .i64 39],[ints shT.d,pc shT.f,ints shT.s],.int .i64 23,[]⟩
theorem kSafeT_ok:KnownOk Try.prog kSafeT:=⟨ev_run (orc:=knownsA ksM) tabOk (knownsA_ok ksM_ok) mixed (n:=500) (lo:=3) (by kernel_rfl),by kernel_rfl,by kernel_rfl⟩
def kBeginsT:Known:=⟨31,[shV 0 1 2 shT,.int .i64 2,.int .i64 30],[ints shT.d,pc shT.f,ints shT.s],.tuple #[.slice (some ⟨3,0,none⟩) 1 1,.int .i64 0],[.rw [.int .i64 0]]⟩
theorem kBeginsT_ok:KnownOk Try.prog kBeginsT:=⟨ev_run (orc:=knownsA ksM) tabOk (knownsA_ok ksM_ok) mixed (n:=500) (lo:=3) (by kernel_rfl),by kernel_rfl,by kernel_rfl⟩
def kChkA:Known:=⟨47,[shV 0 1 2 shT,rtV 40 3,sl 3 3],[ints shT.d,pc shT.f,ints shT.s,ints [50,0,10]],.int .i64 0,[]⟩
theorem kChkA_ok:KnownOk Try.prog kChkA:=⟨ev_run (orc:=knownsA ksM) tabOk (knownsA_ok ksM_ok) mixed (n:=500) (lo:=4) (by kernel_rfl),by kernel_rfl,by kernel_rfl⟩
def kChkB:Known:=⟨47,[shV 0 1 2 shT,rtV 13 1,sl 3 3],[ints shT.d,pc shT.f,ints shT.s,ints [17,0,3]],.int .i64 14,[]⟩
theorem kChkB_ok:KnownOk Try.prog kChkB:=⟨ev_run (orc:=knownsA ksM) tabOk (knownsA_ok ksM_ok) mixed (n:=500) (lo:=4) (by kernel_rfl),by kernel_rfl,by kernel_rfl⟩
def kChkC:Known:=⟨49,[shV 0 1 2 shT,rtV 40 3,sl 3 3],[ints shT.d,pc shT.f,ints shT.s,ints [50,0,10]],.int .i64 0,[]⟩
theorem kChkC_ok:KnownOk Try.prog kChkC:=⟨ev_run (orc:=knownsA ksM) tabOk (knownsA_ok ksM_ok) mixed (n:=500) (lo:=4) (by kernel_rfl),by kernel_rfl,by kernel_rfl⟩
def kRnd:Known:=⟨37,[shV 0 1 2 shT,sl 3 3],[ints shT.d,pc shT.f,ints shT.s,ints [0,1,2]],.bool true,[]⟩
theorem kRnd_ok:KnownOk Try.prog kRnd:=⟨ev_run (orc:=knownsA ksM) tabOk (knownsA_ok ksM_ok) mixed (n:=500) (lo:=4) (by kernel_rfl),by kernel_rfl,by kernel_rfl⟩
def kPlanA:Known:=⟨17,[shV 0 1 2 shS,sl 3 4],[ints shS.d,pc shS.f,ints shS.s,ints [2,0,0,1]],.tuple #[.int .i64 70,.int .i64 0],[]⟩
theorem kPlanA_ok:KnownOk Try.prog kPlanA:=⟨ev_run (orc:=knownsA ksM) tabOk (knownsA_ok ksM_ok) mixed (n:=500) (lo:=4) (by kernel_rfl),by kernel_rfl,by kernel_rfl⟩
def kPlanB:Known:=⟨17,[shV 0 1 2 shS,sl 3 2],[ints shS.d,pc shS.f,ints shS.s,ints [0,1]],.tuple #[.int .i64 0,.int .i64 16],[]⟩
theorem kPlanB_ok:KnownOk Try.prog kPlanB:=⟨ev_run (orc:=knownsA ksM) tabOk (knownsA_ok ksM_ok) mixed (n:=500) (lo:=4) (by kernel_rfl),by kernel_rfl,by kernel_rfl⟩
def kRunA:Known:=⟨19,[shV 0 1 2 shS,sl 3 2],[ints shS.d,pc shS.f,ints shS.s,ints [0,1]],.tuple #[.int .i64 40,.int .i64 0],[]⟩
theorem kRunA_ok:KnownOk Try.prog kRunA:=⟨ev_run (orc:=knownsA ksM) tabOk (knownsA_ok ksM_ok) mixed (n:=500) (lo:=4) (by kernel_rfl),by kernel_rfl,by kernel_rfl⟩
def kRunB:Known:=⟨20,[shV 0 1 2 shT,sl 3 4],[ints shT.d,pc shT.f,ints shT.s,ints [0,1,2,0]],.tuple #[.int .i64 70,.int .i64 0],[]⟩
theorem kRunB_ok:KnownOk Try.prog kRunB:=⟨ev_run (orc:=knownsA ksM) tabOk (knownsA_ok ksM_ok) mixed (n:=500) (lo:=4) (by kernel_rfl),by kernel_rfl,by kernel_rfl⟩
def kRchS:Known:=⟨15,[shV 0 1 2 shS],[ints shS.d,pc shS.f,ints shS.s],.tuple #[.slice (some ⟨3,0,none⟩) 3 3,.int .i64 0],[.rw [.int .i64 0,.int .i64 1,.int .i64 2]]⟩
theorem kRchS_ok:KnownOk Try.prog kRchS:=⟨ev_run (orc:=knownsA ksM) tabOk (knownsA_ok ksM_ok) mixed (n:=500) (lo:=3) (by kernel_rfl),by kernel_rfl,by kernel_rfl⟩
end Go.Proofs.Ytomioaiojidnbaa
namespace Go.Proofs.Ytomioaiojidnbaa
open Go Go.AH
def ksW:List Known:=[kLevelsT,kTopsT,kSafeT,kBeginsT,kChkA,kChkB,kChkC,kRnd,kPlanA,kPlanB,kRunA,kRunB,kRchS]++ksM
theorem ksW_ok:∀ k ∈ ksW,KnownOk Try.prog k:=fun k hk=>(List.mem_append.1 hk).elim (fun hk=>by simp only [List.mem_cons,List.not_mem_nil,or_false] at hk;rcases hk with rfl|rfl|rfl|rfl|rfl|rfl|rfl|rfl|rfl|rfl|rfl|rfl|rfl <;> first|exact kLevelsT_ok|exact kTopsT_ok|exact kSafeT_ok|exact kBeginsT_ok|exact kChkA_ok|exact kChkB_ok|exact kChkC_ok|exact kRnd_ok|exact kPlanA_ok|exact kPlanB_ok|exact kRunA_ok|exact kRunB_ok|exact kRchS_ok) (ksM_ok k)
def knW:Known:=⟨14,[],[],.bool true,[]⟩
theorem knW_ok:KnownOk Try.prog knW:=⟨ev_run (orc:=knownsA ksW) tabOk (knownsA_ok ksW_ok) mixed (n:=500) (lo:=0) (by kernel_rfl),by kernel_rfl,by kernel_rfl⟩
end Go.Proofs.Ytomioaiojidnbaa
namespace Go.Proofs.Ytomioaiojidnbaa
open Go Go.AH Go.AH.Dust
theorem works_ev {σ:Heap} (hni:σ.all (fun o=>!isIter o)=true):Ev Try.prog 14 [] σ (.bool true) σ:=Ev.nil knW_ok.1 rfl rfl hni
end Go.Proofs.Ytomioaiojidnbaa
namespace Go.AH.Dust
open Go Go.AH
noncomputable def mnN (S:Shp):Nat:=(bstS (allS S S.d.length) (allS S S.d.length).length).1.toNat
noncomputable def mnM (S:Shp):Nat:=(bstS (allS S S.d.length) (allS S S.d.length).length).2.toNat
noncomputable def mnE (S:Shp):Int:=if shopE S ≠ 0 then shopE S else if (allS S S.d.length).length=0 then 5 else 0
noncomputable def mnA (S:Shp):Int:=if mnE S=0 then redN (mnN S) (mnM S) else 0
noncomputable def mnB (S:Shp):Int:=if mnE S=0 then redD (mnN S) (mnM S) else 0
noncomputable def mnO (S:Shp):List Int×Nat:=if mnE S=0 then (rndS S (mnA S) (mnB S) (lvl S (mnA S) (mnB S)) 0).getD ([],0) else ([],0)
noncomputable def mnR (S:Shp):List Int:=(mnO S).1.drop (mnO S).2
theorem mnE_zero {S:Shp} (h:mnE S=0):shopE S=0∧(allS S S.d.length).length ≠ 0:=by
 unfold mnE at h
 by_cases h0:shopE S=0
 ·rw [if_neg (fun x=>x h0)] at h
  by_cases h1:(allS S S.d.length).length=0
  ·rw [if_pos h1] at h;omega
  ·exact ⟨h0,h1⟩
 ·rw [if_pos h0] at h;exact absurd h h0
theorem mnE_ok {S:Shp} (h0:shopE S=0):mnE S=if (allS S S.d.length).length=0 then 5 else 0:=by unfold mnE;rw [if_neg (fun x=>x h0)]
theorem mnE_iff {S:Shp}:mnE S=0↔shopE S=0∧∃ a b,IsMean S a b:=by
 constructor
 ·intro h
  obtain ⟨h0,h1⟩:=mnE_zero h
  exact ⟨h0,Classical.byContradiction fun hn=>h1 ((all_none (shopE_zero h0)).2 hn)⟩
 ·rintro ⟨h0,hx⟩
  rw [mnE_ok h0,if_neg (fun hz=>(all_none (shopE_zero h0)).1 hz hx)]
structure MnP (S:Shp):Prop where
 mean:IsMean S (mnA S) (mnB S)
 red:Red (mnA S) (mnB S)
 a:mnA S≤10001
 b:mnB S≤10
theorem mn_ok {S:Shp} (h:mnE S=0):MnP S:=by
 obtain ⟨h0,h1⟩:=mnE_zero h
 have hS:=shopE_zero h0
 have hM:=bst_mean hS (by omega)
 have hm:=bst_mem (l:=allS S S.d.length) (by omega) (Nat.le_refl (allS S S.d.length).length)
 obtain ⟨v,v1,v2,v3⟩:=all_mem.1 hm
 have hb:=lst_bound hS (v:=v) v1 (Nat.le_refl S.d.length)
 rw [← v3] at hb
 have ha:=hM.nonneg hS
 have hb0:=hM.b0
 have e1:((mnN S:Nat):Int)=(bstS (allS S S.d.length) (allS S S.d.length).length).1:=by unfold mnN;omega
 have e2:((mnM S:Nat):Int)=(bstS (allS S S.d.length) (allS S S.d.length).length).2:=by unfold mnM;omega
 obtain ⟨r1,r2,r3,r4⟩:=red_is (m:=mnN S) (d:=mnM S) (by omega)
 have eA:mnA S=redN (mnN S) (mnM S):=by unfold mnA;rw [if_pos h]
 have eB:mnB S=redD (mnN S) (mnM S):=by unfold mnB;rw [if_pos h]
 rw [← eA,← eB] at r1 r2
 rw [← eA] at r3
 rw [← eB] at r4
 rw [← e1,← e2] at hM
 exact ⟨hM.congr r1.b0 r2.symm,r1,by omega,by omega⟩
theorem mnO_is {S:Shp} (h:mnE S=0):rndS S (mnA S) (mnB S) (lvl S (mnA S) (mnB S)) 0=some (mnO S)∧RndP S (mnA S) (mnB S) (mnR S)∧(mnO S).2<(mnO S).1.length:=by
 obtain ⟨h0,h1⟩:=mnE_zero h
 obtain ⟨o,o1,o2,o3⟩:=rnd_round (shopE_zero h0) (mn_ok h).mean
 have e:mnO S=o:=by unfold mnO;rw [if_pos h,o1];rfl
 unfold mnR
 rw [e]
 exact ⟨o1,o2,o3⟩
end Go.AH.Dust
namespace Go.Proofs.Ytomioaiojidnbaa
open Go Go.AH
attribute [local irreducible] WOps WCode WFree retQ thenQ blockQ scopeQ OpOk ACall RetRef roundA roundB
set_option maxRecDepth 100000
set_option maxHeartbeats 1000000
open Go.AH.Dust
theorem meanG_ok (S:Shp) (h0:shopE S=0) (a b:Int) (l:Nat→Int) (hL:Lev a b l) (w:List Int) (i:Nat)
  (hm:Ev Try.prog 72 [.pointer (some ⟨0,0,none⟩)] [.ro (flL 1 2 3 S (fun i=>bI (rB S i))),.ro (ints S.d),.ro (pc S.f),.ro (ints S.s)] (.tuple #[rtV a b,.bool true]) [.ro (flL 1 2 3 S (fun i=>bI (rB S i))),.ro (ints S.d),.ro (pc S.f),.ro (ints S.s)])
  (hl:Ev Try.prog 74 [.pointer (some ⟨0,0,none⟩),rtV a b] [.ro (flL 1 2 3 S (fun i=>bI (rB S i))),.ro (ints S.d),.ro (pc S.f),.ro (ints S.s)] (.agg (rx l).toArray) [.ro (flL 1 2 3 S (fun i=>bI (rB S i))),.ro (ints S.d),.ro (pc S.f),.ro (ints S.s)]) (hr:rndS S a b l 0=some (w,i)) :
  Ev Try.prog 35 [shV 0 1 2 S] S.hp (.tuple #[rtV a b,.slice (some ⟨3,i,none⟩) (w.length - i) (w.length - i),.int .i64 0]) (S.hp++[.rw (ints w)]):=meanS_ok S h0 a b l hL w i hm hl hr
theorem ret3NilO {σin σ:Heap} {u v:Value} (hσ:σ.take σin.length=σin) (hu:plain u=true) (hv:plain v=true) :
  RetRef σin σ (.tuple #[u,.slice none 0 0,v]) (.tuple #[u,.slice (some ⟨σin.length,0,none⟩) 0 0,v]) (σin++[.rw []]):=ret3Nil hσ hu hv
theorem mean35_ok (S:Shp) (hS:S.fit):Ev Try.prog 35 [shV 0 1 2 S] S.hp (.tuple #[rtV (mnA S) (mnB S),.slice (some ⟨3,(mnO S).2,none⟩) (mnR S).length (mnR S).length,.int .i64 (mnE S)]) (S.hp++[.rw (ints (mnO S).1)]):=by
 by_cases h0:shopE S=0
 ·have hok:=shopE_zero h0
  have hm72:=mean72_ok S hok
  by_cases hE:mnE S=0
  ·have hp:=mn_ok hE
   obtain ⟨o1,o2,o3⟩:=mnO_is hE
   obtain ⟨_,hz⟩:=mnE_zero hE
   have hmv:meanV S=.tuple #[rtV (mnA S) (mnB S),.bool true]:=by
    unfold meanV;rw [if_neg hz];unfold mnA mnB;rw [if_pos hE,if_pos hE];rfl
   rw [hmv] at hm72
   have hlen:(mnR S).length=(mnO S).1.length - (mnO S).2:=by unfold mnR;simp
   rw [hlen,hE]
   exact meanG_ok S h0 (mnA S) (mnB S) (lvl S (mnA S) (mnB S)) (lvl_lev hok hp.mean (by have:=hp.a;omega) (by have:=hp.b;omega)) (mnO S).1 (mnO S).2 hm72 (levels_ok S hok _ _ hp.mean (by have:=hp.a;omega) (by have:=hp.b;omega)) o1
  ·have hz:(allS S S.d.length).length=0:=Classical.byContradiction fun hn=>hE (by rw [mnE_ok h0,if_neg hn])
   have hE5:mnE S=5:=by rw [mnE_ok h0,if_pos hz]
   have e1:mnA S=0:=by unfold mnA;rw [if_neg hE]
   have e2:mnB S=0:=by unfold mnB;rw [if_neg hE]
   have e3:mnO S=([],0):=by unfold mnO;rw [if_neg hE]
   have e4:mnR S=[]:=by unfold mnR;rw [e3];rfl
   have hmv:meanV S=.tuple #[rtV 0 0,.bool false]:=by unfold meanV;rw [if_pos hz]
   rw [hmv] at hm72
   rw [e1,e2,e3,e4,hE5]
   have hop:=open_evOk (σ:=[.ro (ints S.d),.ro (pc S.f),.ro (ints S.s),.rw (shL 0 1 2 S),.rw [.int .i64 0,.int .i64 0]]) (x:=0) (y:=1) (z:=2) ⟨.inl rfl,.inl rfl,.inl rfl⟩ shS_self hS h0 rfl
   have hfa:FAt [.ro (ints S.d),.ro (pc S.f),.ro (ints S.s),.rw (shL 0 1 2 S),.rw [.int .i64 0,.int .i64 0],.rw (flL 0 1 2 S (fun i=>bI (rB S i)))] 5 0 1 2 S (fun i=>bI (rB S i)):=⟨.inr (.inl rfl),.inl rfl,.inl rfl,.inl rfl⟩
   have hme:=hfa.ev (args:=[.pointer (some ⟨5,0,none⟩)]) hm72 ⟨VQ.ptr (q:=true) (n:=4) (ρ:=bsR [5,0,1,2]) 0 0 (by omega),trivial⟩ rfl rfl
   clear hm72 hmv
   refine acall_intro 3 33 Try.func35 rfl rfl rfl rfl rfl ?_
   repeat' (first|(refine gU ?_;first|(refine gMove ?_;refine st (ok_move rfl) rfl rfl ?_)|(refine gAssign ?_;refine st (ok_assign rfl) rfl rfl ?_)|(refine gLoad ?_;refine st (ok_loadA rfl (by rfl)) rfl rfl ?_)|(refine gBin ?_;refine st (ok_bin rfl rfl rfl) rfl rfl ?_)|(refine gNot ?_;refine st (ok_not' rfl) rfl rfl ?_)|(refine gExtract ?_;refine st (ok_extract rfl rfl) rfl rfl ?_)|(refine gBuild ?_;refine st (ok_build (by rfl) rfl (by rfl)) rfl rfl ?_)|(refine gCall ?_;refine st (ok_call rfl rfl rfl (by first|exact hop|exact hme)) rfl rfl ?_)|(refine gBox ?_;refine st (ok_box rfl) rfl rfl ?_)|(refine gAlloc ?_;refine st (ok_alloc rfl) rfl rfl ?_)|(refine gStore ?_;refine stN (ok_store rfl rfl rfl rfl (by rfl)) rfl ?_))|refine W_seq ?_|refine W_region ?_|refine st_nil ?_|refine tq_n ?_|refine tq_r ?_|refine W_skip ?_|refine W_ret ?_|refine W_condTA rfl ?_|refine W_condFA rfl ?_)
   exact ret0 (.cellN inferInstance rfl rfl (.tmp rfl (.tmp rfl .nil))) (ret3NilO rfl rfl rfl) ⟨rfl,rfl⟩
 ·have hE:mnE S=shopE S:=by unfold mnE;rw [if_pos h0]
  have hE0:mnE S ≠ 0:=by rw [hE];exact h0
  have e1:mnA S=0:=by unfold mnA;rw [if_neg hE0]
  have e2:mnB S=0:=by unfold mnB;rw [if_neg hE0]
  have e3:mnO S=([],0):=by unfold mnO;rw [if_neg hE0]
  have e4:mnR S=[]:=by unfold mnR;rw [e3];rfl
  rw [e1,e2,e3,e4,hE]
  have hop:=open_evBad (σ:=[.ro (ints S.d),.ro (pc S.f),.ro (ints S.s),.rw (shL 0 1 2 S),.rw [.int .i64 0,.int .i64 0]]) (x:=0) (y:=1) (z:=2) ⟨.inl rfl,.inl rfl,.inl rfl⟩ shS_self hS h0 rfl
  refine acall_intro 3 33 Try.func35 rfl rfl rfl rfl rfl ?_
  repeat' (first|(refine gU ?_;first|(refine gMove ?_;refine st (ok_move rfl) rfl rfl ?_)|(refine gAssign ?_;refine st (ok_assign rfl) rfl rfl ?_)|(refine gLoad ?_;refine st (ok_loadA rfl (by rfl)) rfl rfl ?_)|(refine gBin ?_;refine st (ok_bin rfl rfl rfl) rfl rfl ?_)|(refine gExtract ?_;refine st (ok_extract rfl rfl) rfl rfl ?_)|(refine gBuild ?_;refine st (ok_build (by rfl) rfl (by rfl)) rfl rfl ?_)|(refine gCall ?_;refine st (ok_call rfl rfl rfl (by exact hop)) rfl rfl ?_)|(refine gBox ?_;refine st (ok_box rfl) rfl rfl ?_)|(refine gAlloc ?_;refine st (ok_alloc rfl) rfl rfl ?_)|(refine gStore ?_;refine stN (ok_store rfl rfl rfl rfl (by rfl)) rfl ?_))|refine W_seq ?_|refine W_region ?_|refine st_nil ?_|refine tq_n ?_|refine tq_r ?_|refine W_ret ?_|refine W_condTA rfl ?_)
  exact ret0 (.cellN inferInstance rfl rfl (.tmp rfl (.tmp rfl .nil))) (ret3NilO rfl rfl rfl) ⟨rfl,rfl⟩
theorem mean35_ev {σ:Heap} {S:Shp} {x y z:Nat} {v:Value} (hs:SAt σ x y z S) (hv:ShS x y z S v) (hS:S.fit) (hni:σ.all (fun o=>!isIter o)=true) :
  Ev Try.prog 35 [v] σ (.tuple #[rtV (mnA S) (mnB S),.slice (some ⟨σ.length,(mnO S).2,none⟩) (mnR S).length (mnR S).length,.int .i64 (mnE S)]) (σ++[.rw (ints (mnO S).1)]):=by
 refine Ev.arrsN S.css [x,y,z] (mean35_ok S hS) hs.arrs ⟨hv,trivial⟩ S.css_plain rfl ?_ ?_ hni
 ·simp [ren,renA,renL,shf]
 ·simp only [List.map_cons,List.map_nil,renO,renL_plain _ (ints_plain _)]
end Go.Proofs.Ytomioaiojidnbaa
namespace Go.AH.Dust
open Go Go.AH
def cl (n:Nat) (r:Nat→Int):List Value:=ints ((List.range n).map r)
theorem cl_len {n:Nat} {r:Nat→Int}:(cl n r).length=n:=by simp [cl,ints]
theorem cl_get {n i:Nat} {r:Nat→Int} (h:i<n):(cl n r)[i]?=some (.int .i64 (r i)):=by
 simp [cl,ints,List.getElem?_map,List.getElem?_range h]
theorem cl_plain {n:Nat} {r:Nat→Int}:plainL (cl n r)=true:=ints_plain _
theorem cl_set {n i:Nat} {r:Nat→Int} {v:Int} (h:i<n):splice (cl n r) (0+i*1) [.int .i64 v]=cl n (setI r i v):=by
 unfold cl
 rw [splice_ints (by simpa using h)]
 congr 1
 refine List.ext_getElem (by simp) fun j h1 h2=>?_
 rw [List.getElem_set,List.getElem_map,List.getElem_map,List.getElem_range]
 simp only [setI]
 by_cases hij:i=j
 ·rw [if_pos hij,if_pos hij.symm]
 ·rw [if_neg hij,if_neg (fun h=>hij h.symm)]
theorem cl_zero {n:Nat}:zcells (vcells (.int .i64 0)) n=cl n (fun _=>0):=by
 rw [zc_ints]
 unfold cl
 rw [List.map_const',List.length_range]
end Go.AH.Dust
namespace Go.Proofs.Ytomioaiojidnbaa
open Go Go.AH
attribute [local irreducible] WOps WCode WFree retQ thenQ blockQ scopeQ OpOk ACall RetRef roundA roundB
set_option maxRecDepth 100000
set_option maxHeartbeats 1000000
open Go.AH.Dust
end Go.Proofs.Ytomioaiojidnbaa
namespace Go.AH.Dust
open Go Go.AH
noncomputable def refW (S:Shp) (H:Nat):Int:=if winT S H<0 then -1 else most S H (winT S H).toNat
def mx (S:Shp) (H:Nat) (L:List Int):Nat→Int
 |0=>-1
 |i+1=>max (mx S H L i) (most S H (gi L i).toNat)
theorem reachL_at {S:Shp} (h0:shopE S=0) {i:Nat} (hi:i<(reachL S).length):∃ n:Nat,gi (reachL S) i=n∧n<S.d.length∧rB S n=true:=by
 have h1:gi (reachL S) i ∈ reachL S:=mem_gi.2 ⟨i,hi,rfl⟩
 unfold reachL at h1 ⊢
 rw [if_pos h0] at h1 ⊢
 obtain ⟨n,h2,h3,h4⟩:=mem_rL.1 h1
 exact ⟨n,h3,h2,h4⟩
theorem reachL_mem {S:Shp} (h0:shopE S=0) {n:Nat} (hn:n<S.d.length) (hr:rB S n=true):∃ i,i<(reachL S).length∧gi (reachL S) i=n:=by
 have:(n:Int) ∈ reachL S:=by
  unfold reachL;rw [if_pos h0];exact mem_rL.2 ⟨n,hn,rfl,hr⟩
 exact mem_gi.1 this
theorem gi_succ {a:Int} {l:List Int} {i:Nat}:gi (a::l) (i+1)=gi l i:=by simp [gi]
theorem sumK_cons {S:Shp} {a:Int} {l:List Int}:∀ k,sumK S (a::l) (k+1)=gi S.d a.toNat+sumK S l k
 |0=>by simp [sumK,gi]
 |k+1=>by
  have ih:=sumK_cons (S:=S) (a:=a) (l:=l) k
  rw [sumK,ih,gi_succ]
  simp only [sumK];omega
theorem path_ok {S:Shp} (hS:S.ok):∀ (h:Nat) (w:Int),isW S w→0≤most S h w.toNat→okW S (pathL S h w)∧chain S (pathL S h w)∧sumK S (pathL S h w) (h+1)=most S h w.toNat
 |0,w,hw,_=>by
  refine ⟨fun i hi=>?_,fun i hi h0=>?_,?_⟩
  ·have:i=0:=by simp [pathL] at hi;omega
   subst this;exact hw
  ·simp [pathL] at hi;omega
  ·simp [sumK,pathL,gi,most]
 |h+1,w,hw,hm=>by
  obtain ⟨_,j,hj,⟨c1,c2,c3⟩,hb⟩:=goN_is hm
  have hw2:=(hS.f j hj).2.1
  rw [← hb] at hw2 c2 c3
  obtain ⟨i1,i2,i3⟩:=path_ok hS h (goN S h w.toNat) hw2 c2
  have hw0:=hw.1
  have hhd:=pathL_head S h (goN S h w.toNat)
  have hpair:(w,goN S h w.toNat) ∈ S.f:=mem_gf.2 ⟨j,hj,Prod.ext (by rw [c1];simp only;omega) hb.symm⟩
  simp only [pathL]
  generalize pathL S h (goN S h w.toNat)=p at *
  refine ⟨fun i hi=>?_,fun i hi h0=>?_,?_⟩
  ·cases i with
   |zero=>exact hw
   |succ i=>rw [gi_succ];exact i1 i (by simpa using hi)
  ·cases i with
   |zero=>omega
   |succ i =>
    rw [gi_succ]
    cases i with
    |zero=>rw [hhd];exact hpair
    |succ i =>
     rw [show i+1+1 - 1=i+1 by omega,gi_succ]
     have:=i2 (i+1) (by simpa using hi) (by omega)
     rwa [show i+1 - 1=i by omega] at this
  ·rw [sumK_cons,i3,c3]
theorem win_run {S:Shp} {h:Int} (hE:winE S h=0):runE S (winL S h)=0∧runV S (winL S h)=winV S h∧((winL S h).length:Int)=h∧winV S h=refW S (h.toNat - 1)∧clockE S h=0:=by
 have hc:clockE S h=0:=by
  refine Classical.byContradiction fun hn=>?_
  unfold winE at hE;rw [if_pos hn] at hE;exact hn hE
 obtain ⟨h0,h1,h2⟩:=clockE_zero hc
 have hS:=shopE_zero h0
 have hT:¬ winT S (h.toNat - 1)<0:=fun hn=>by
  unfold winE at hE;rw [if_neg (fun x=>x hc),if_pos hn] at hE;omega
 rcases winT_is S (h.toNat - 1) with ⟨t1,_⟩|⟨t,t1,t2,t3,t4,t5⟩
 ·omega
 ·have hl:winL S h=pathL S (h.toNat - 1) t:=by unfold winL;rw [if_pos hE,t1]
  have hv:winV S h=most S (h.toNat - 1) t:=by unfold winV;rw [if_pos hE,t1];simp
  have hlen:=pathL_len S (h.toNat - 1) t
  obtain ⟨p1,p2,p3⟩:=path_ok hS (h.toNat - 1) t ⟨by omega,by omega⟩ (by simpa using t4)
  have hg:gRun S (gi (pathL S (h.toNat - 1) t) 0)=true:=by rw [pathL_head];unfold gRun;simpa using t3
  have hE2:rowE S (gRun S) (pathL S (h.toNat - 1) t)=0:=by
   unfold rowE
   rw [if_neg (by omega),if_neg (fun hn=>hn p1),if_pos ⟨hg,p2⟩]
  refine ⟨by unfold runE;rw [if_pos h0,hl];exact hE2,?_,by rw [hl,hlen];omega,by rw [hv];unfold refW;rw [if_neg hT,t1];simp,hc⟩
  unfold runV rowV
  rw [if_pos h0,hl,if_pos hE2,hv,hlen,p3];simp
end Go.AH.Dust
namespace Go.Proofs.Ytomioaiojidnbaa
open Go Go.AH
attribute [local irreducible] WOps WCode WFree retQ thenQ blockQ scopeQ OpOk ACall RetRef roundA roundB
set_option maxRecDepth 100000
set_option maxHeartbeats 1000000
open Go.AH.Dust
end Go.Proofs.Ytomioaiojidnbaa
namespace Go.AH.Dust
open Go Go.AH
theorem refW_neg {S:Shp} {H:Nat}:refW S H<0↔winT S H<0:=by
 unfold refW
 rcases winT_is S H with ⟨t1,_⟩|⟨t,t1,t2,t3,t4,t5⟩
 ·rw [if_pos (by omega)];omega
 ·rw [if_neg (by omega),t1,Int.toNat_natCast];omega
theorem winE_eq {S:Shp} {h:Int}:winE S h=if clockE S h ≠ 0 then clockE S h else if refW S (h.toNat - 1)<0 then 5 else 0:=by
 unfold winE
 by_cases hc:clockE S h ≠ 0
 ·rw [if_pos hc,if_pos hc]
 ·rw [if_neg hc,if_neg hc]
  by_cases hw:winT S (h.toNat - 1)<0
  ·rw [if_pos hw,if_pos (refW_neg.2 hw)]
  ·rw [if_neg hw,if_neg (fun x=>hw (refW_neg.1 x))]
theorem win_bad {S:Shp} {h:Int} (hE:winE S h ≠ 0):winV S h=0∧winL S h=[]:=by
 unfold winV winL;rw [if_neg hE,if_neg hE];exact ⟨rfl,rfl⟩
end Go.AH.Dust
namespace Go.Proofs.Ytomioaiojidnbaa
open Go Go.AH
attribute [local irreducible] WOps WCode WFree retQ thenQ blockQ scopeQ OpOk ACall RetRef roundA roundB
set_option maxRecDepth 100000
set_option maxHeartbeats 1000000
open Go.AH.Dust
end Go.Proofs.Ytomioaiojidnbaa
namespace Go.AH.Dust
open Go Go.AH
def overB (S:Shp) (H:Nat) (lim:Int) (w:Int):Bool:=decide (0≤most S H w.toNat) && decide (most S H w.toNat > lim)
noncomputable def begK (S:Shp) (H:Nat) (lim:Int) (k:Nat):List Int:=(rL S (min k S.d.length)).filter (overB S H lim)
noncomputable def begL (S:Shp) (h lim:Int):List Int:=if clockE S h=0 then (reachL S).filter (overB S (h.toNat - 1) lim) else []
end Go.AH.Dust
namespace Go.Proofs.Ytomioaiojidnbaa
open Go Go.AH
attribute [local irreducible] WOps WCode WFree retQ thenQ blockQ scopeQ OpOk ACall RetRef roundA roundB
set_option maxRecDepth 100000
set_option maxHeartbeats 1000000
open Go.AH.Dust
end Go.Proofs.Ytomioaiojidnbaa
namespace Go.AH.Dust
open Go Go.AH
noncomputable def begF (S:Shp) (H:Nat) (lim:Int) (i:Nat):List Int:=((reachL S).take i).filter (overB S H lim)
noncomputable def safeE (S:Shp) (h lim:Int):Int:=if clockE S h ≠ 0 then clockE S h else if (begL S h lim).length > 0 then 23 else 0
end Go.AH.Dust
namespace Go.Proofs.Ytomioaiojidnbaa
open Go Go.AH
attribute [local irreducible] WOps WCode WFree retQ thenQ blockQ scopeQ OpOk ACall RetRef roundA roundB
set_option maxRecDepth 100000
set_option maxHeartbeats 1000000
open Go.AH.Dust
end Go.Proofs.Ytomioaiojidnbaa
namespace Go.Proofs.Ytomioaiojidnbaa
open Go Go.AH
attribute [local irreducible] WOps WCode WFree retQ thenQ blockQ scopeQ OpOk ACall RetRef roundA roundB
set_option maxRecDepth 100000
set_option maxHeartbeats 1000000
open Go.AH.Dust
end Go.Proofs.Ytomioaiojidnbaa
namespace Go.AH.Dust
open Go Go.AH
theorem mostF_ge {S:Shp} {m:Nat→Int} {i:Nat}:∀ {k j:Nat},j<k→(gf S.f j).1=i→0≤m (gf S.f j).2.toNat→gi S.d i+m (gf S.f j).2.toNat≤mostF S m i k
 |k+1,j,hj,h1,h2=>by
  simp only [mostF]
  by_cases hjk:j=k
  ·subst hjk
   rw [if_pos ⟨h1,h2⟩];omega
  ·have ih:=mostF_ge (S:=S) (m:=m) (i:=i) (k:=k) (j:=j) (by omega) h1 h2
   split <;> omega
theorem refW_ge {S:Shp} {H i:Nat} (hi:i<S.d.length) (hr:rB S i=true):most S H i≤refW S H∨most S H i<0:=by
 unfold refW
 rcases winT_is S H with ⟨t1,t2⟩|⟨t,t1,t2,t3,t4,t5⟩
 ·exact .inr (t2 i hi hr)
 ·rw [if_neg (by omega),t1,Int.toNat_natCast];exact .inl (t5 i hi hr)
theorem refW_at {S:Shp} {H:Nat} (h:0≤refW S H):∃ i,i<S.d.length∧rB S i=true∧most S H i=refW S H:=by
 unfold refW at h ⊢
 rcases winT_is S H with ⟨t1,t2⟩|⟨t,t1,t2,t3,t4,t5⟩
 ·rw [if_pos (by omega)] at h;omega
 ·rw [if_neg (by omega),t1,Int.toNat_natCast];exact ⟨t,t2,t3,rfl⟩
def endB (S:Shp):Prop:=∀ i,i<S.d.length→rB S i=true→∃ j,j<S.f.length∧(gf S.f j).1=i
end Go.AH.Dust
namespace Go.AH.Dust
open Go Go.AH
def smB (S:Shp) (n:Int):Nat→Bool
 |0=>false
 |k+1=>smB S n k || decide ((gf S.f k).1=n)
open Classical in
noncomputable def endV (S:Shp):Bool:=decide (endB S)
end Go.AH.Dust
namespace Go.Proofs.Ytomioaiojidnbaa
open Go Go.AH
attribute [local irreducible] WOps WCode WFree retQ thenQ blockQ scopeQ OpOk ACall RetRef roundA roundB
set_option maxRecDepth 100000
set_option maxHeartbeats 1000000
open Go.AH.Dust
end Go.Proofs.Ytomioaiojidnbaa
namespace Go.AH.Dust
open Go Go.AH
theorem clock0 {S:Shp} (h0:shopE S=0) {h:Int} (h1:1≤h) (h2:h≤24):clockE S h=0:=by
 unfold clockE;rw [if_neg (fun x=>x h0),if_neg (by omega)]
theorem winE_refW {S:Shp} {h:Int} (hc:clockE S h=0):winE S h=0↔0≤refW S (h.toNat - 1):=by
 rw [winE_eq,if_neg (fun x=>x hc)]
 by_cases hr:refW S (h.toNat - 1)<0
 ·rw [if_pos hr];omega
 ·rw [if_neg hr];omega
end Go.AH.Dust
namespace Go.Proofs.Ytomioaiojidnbaa
open Go Go.AH
attribute [local irreducible] WOps WCode WFree retQ thenQ blockQ scopeQ OpOk ACall RetRef roundA roundB
set_option maxRecDepth 100000
set_option maxHeartbeats 1000000
open Go.AH.Dust
theorem fine39_ok (S:Shp) (hS:S.fit):Ev Try.prog 39 [shV 0 1 2 S] S.hp (.bool (decide (shopE S=0))) S.hp:=by
 have hfi:=great_ev (σ:=[.ro (ints S.d),.ro (pc S.f),.ro (ints S.s),.rw (shL 0 1 2 S)]) (S:=S) (x:=0) (y:=1) (z:=2) ⟨.inl rfl,.inl rfl,.inl rfl⟩ shS_self hS rfl
 have hA:=refShop_ev (σ:=[.ro (ints S.d),.ro (pc S.f),.ro (ints S.s),.rw (shL 0 1 2 S)]) (S:=S) (x:=0) (y:=1) (z:=2) ⟨.inl rfl,.inl rfl,.inl rfl⟩ shS_self hS rfl
 by_cases hm:(S.d.length:Int) > 15∨(S.f.length:Int) > 70∨(S.s.length:Int) > 15
 ·have h0:¬ shopE S=0:=fun h=>by
   have:=(shopE_zero h).n10;have:=(shopE_zero h).f60;have:=(shopE_zero h).s10;omega
  rw [decide_eq_false h0]
  refine acall_intro 3 11 Try.func39 rfl rfl rfl rfl rfl ?_
  repeat' (first|(refine gU ?_;first|(refine gMove ?_;refine st (ok_move rfl) rfl rfl ?_)|(refine gAssign ?_;refine st (ok_assign rfl) rfl rfl ?_)|(refine gLoad ?_;refine st (ok_loadA rfl (by rfl)) rfl rfl ?_)|(refine gPick ?_;refine st (ok_pickFA rfl rfl) rfl rfl ?_)|(refine gNot ?_;refine st (ok_notD rfl) rfl rfl ?_)|(refine gCall ?_;refine st (ok_call rfl rfl rfl (by exact hfi)) rfl rfl ?_)|(refine gBox ?_;refine st (ok_box rfl) rfl rfl ?_))|(refine gG ?_;refine stSA rfl rfl ?_)|refine W_seq ?_|refine W_region ?_|refine st_nil ?_|refine tq_n ?_|refine W_ret ?_)
  all_goals exact ret0 (.tmp rfl .nil) (.plain rfl rfl) ⟨rfl,rfl⟩
 ·generalize shopE S=E at *
  refine acall_intro 3 11 Try.func39 rfl rfl rfl rfl rfl ?_
  repeat' (first|(refine gU ?_;first|(refine gMove ?_;refine st (ok_move rfl) rfl rfl ?_)|(refine gAssign ?_;refine st (ok_assign rfl) rfl rfl ?_)|(refine gLoad ?_;refine st (ok_loadA rfl (by rfl)) rfl rfl ?_)|(refine gPick ?_;refine st (ok_pickTA rfl rfl) rfl rfl ?_)|(refine gNot ?_;refine st (ok_notD rfl) rfl rfl ?_)|(refine gCall ?_;refine st (ok_call rfl rfl rfl (by exact hfi)) rfl rfl ?_)|(refine gBox ?_;refine st (ok_box rfl) rfl rfl ?_))|(refine gG ?_;first|(refine gLoad ?_;refine stGA rfl (ok_loadA rfl (by rfl)) rfl rfl ?_)|(refine gBin ?_;refine stGA rfl (ok_bin rfl rfl rfl) rfl rfl ?_)|(refine gCall ?_;refine stGA rfl (ok_call rfl rfl rfl (by exact hA)) rfl rfl ?_))|refine W_seq ?_|refine W_region ?_|refine st_nil ?_|refine tq_n ?_|refine W_ret ?_)
  all_goals exact ret0 (.tmp rfl .nil) (.plain rfl rfl) ⟨rfl,rfl⟩
theorem fine39_ev {σ:Heap} {S:Shp} {x y z:Nat} {v:Value} (hs:SAt σ x y z S) (hv:ShS x y z S v) (hS:S.fit) (hni:σ.all (fun o=>!isIter o)=true) :
  Ev Try.prog 39 [v] σ (.bool (decide (shopE S=0))) σ:=Ev.arrs S.css [x,y,z] (fine39_ok S hS) hs.arrs ⟨hv,trivial⟩ S.css_plain rfl hni
end Go.Proofs.Ytomioaiojidnbaa
namespace Go.Proofs.Ytomioaiojidnbaa
open Go Go.AH Go.AH.Dust
end Go.Proofs.Ytomioaiojidnbaa
namespace Go.AH.Dust
open Go Go.AH
def prt (p:List Int) (i k:Nat):List Int:=(p.drop i).take k
theorem prt_len {p:List Int} {i k:Nat} (h:i+k≤p.length):(prt p i k).length=k:=by unfold prt;rw [List.length_take,List.length_drop];omega
theorem prt_gi {p:List Int} {i k j:Nat} (hj:j<k):gi (prt p i k) j=gi p (i+j):=by
 unfold prt gi
 simp only [List.getD_eq_getElem?_getD]
 rw [List.getElem?_take_of_lt hj,List.getElem?_drop]
theorem part_ok {S:Shp} {p:List Int} {i k:Nat} (h:i+k≤p.length) (hw:okW S p) (hc:chain S p):okW S (prt p i k)∧chain S (prt p i k):=by
 have hl:=prt_len h
 refine ⟨fun j hj=>?_,fun j hj h0=>?_⟩
 ·rw [prt_gi (by omega)];exact hw _ (by omega)
 ·rw [prt_gi (by omega),prt_gi (by omega),show i+(j - 1)=i+j - 1 by omega];exact hc _ (by omega) (by omega)
theorem beg_mem {S:Shp} {h lim n:Int} (hn:n ∈ begL S h lim):clockE S h=0∧∃ m:Nat,n=m∧m<S.d.length∧rB S m=true∧0≤most S (h.toNat - 1) m∧lim<most S (h.toNat - 1) m:=by
 unfold begL at hn
 by_cases hc:clockE S h=0
 ·rw [if_pos hc,List.mem_filter] at hn
  obtain ⟨a,b⟩:=hn
  obtain ⟨i,i1,i2⟩:=mem_gi.1 a
  obtain ⟨m,m1,m2,m3⟩:=reachL_at (clockE_zero hc).1 i1
  rw [i2] at m1
  subst m1
  simp only [overB,Bool.and_eq_true,decide_eq_true_eq,Int.toNat_natCast] at b
  exact ⟨hc,m,rfl,m2,m3,by omega,by omega⟩
 ·rw [if_neg hc] at hn;simp at hn
theorem win_none {S:Shp} {h lim:Int} (hc:clockE S h=0) (hE:winE S h ≠ 0):winE S h=5∧begL S h lim=[]:=by
 have e:=winE_eq (S:=S) (h:=h)
 rw [if_neg (fun x=>x hc)] at e
 have hz:refW S (h.toNat - 1)<0:=Classical.byContradiction fun hn=>hE (by rw [e,if_neg hn])
 refine ⟨by rw [e,if_pos hz],List.eq_nil_of_length_eq_zero (Classical.byContradiction fun hn=>?_)⟩
 obtain ⟨_,m,_,m2,m3,m4,m5⟩:=beg_mem (S:=S) (h:=h) (lim:=lim) (n:=gi (begL S h lim) 0) (mem_gi.2 ⟨0,by omega,rfl⟩)
 have:=refW_ge (H:=h.toNat - 1) m2 m3
 omega
def canL (S:Shp) (n:Int):Nat→List Int
 |0=>[]
 |k+1=>if (gf S.f k).1=n then canL S n k++[(gf S.f k).2] else canL S n k
def plnS (S:Shp) (by_:List Int):Nat→List Int×Bool
 |0=>([gi S.s ((gi by_ 0).toNat % S.s.length)],true)
 |i+1=>if (plnS S by_ i).2=true then
   if (canL S (gi (plnS S by_ i).1 i) S.f.length).length=0 then ((plnS S by_ i).1,false)
   else ((plnS S by_ i).1++[gi (canL S (gi (plnS S by_ i).1 i) S.f.length) ((gi by_ (i+1)).toNat % (canL S (gi (plnS S by_ i).1 i) S.f.length).length)],true)
  else plnS S by_ i
def planL (S:Shp) (by_:List Int):List Int:=(plnS S by_ (min by_.length 100 - 1)).1
end Go.AH.Dust
