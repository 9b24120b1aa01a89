/- Short forms of the rules for regions in which operations on slots alone come first. -/
import Derived.Test.YtomioaiojidnbaaDtQ2
import Derived.Test.YtomioaiojidnbaaDtQ1
namespace Go.AH.Dust
open Go Go.AH
theorem subsR {σ:Heap} {S:Shp} {g:Nat→Int} {j k:Nat} (h0:σ[0]?=some (.ro (flL 1 2 3 S g))) (h1:σ[1]?=some (.ro (ints S.d))) (h2:σ[2]?=some (.ro (pc S.f))) (h3:σ[3]?=some (.ro (ints S.s))) (h4:σ[4]?=some (.rw [slvV j 10 k]))
  (hg:OSub σ 6 (srcR 5 [j]) (srcR 5 [j] 5) (.gr (rowsC S k) 80)):OSubs σ 6 (srcR 5 [j]) 0 [.ro (flL 1 2 3 S g),.ro (ints S.d),.ro (pc S.f),.ro (ints S.s),.rw [slvV 5 10 k],.gr (rowsC S k) 80]:=by
 have hfl:oclosed 5 (.ro (flL 1 2 3 S g)):=by
  obtain ⟨a,b⟩:=shL_closed (n:=5) (x:=1) (y:=2) (z:=3) (S:=S) (by omega) (by omega) (by omega)
  simp only [closedL,okL,Bool.and_eq_true] at a b
  exact ⟨by simp only [closedL,a,Bool.true_and];exact (plainL_closed (rx_plain g)).1,by simp only [okL,b,Bool.true_and];exact (plainL_closed (n:=0) (rx_plain g)).2⟩
 exact ⟨osub_same (by omega) (by omega) h0 hfl,osub_same (by omega) (by omega) h1 (plainL_closed (ints_plain _)),osub_same (by omega) (by omega) h2 (plainL_closed (pc_plain _)),osub_same (by omega) (by omega) h3 (plainL_closed (ints_plain _)),osub_slvC rfl h4 (by omega) rfl,hg,trivial⟩
theorem fl_closed {n:Nat} {S:Shp} {g:Nat→Int} (hn:4≤n):oclosed n (.ro (flL 1 2 3 S g)):=by
 obtain ⟨a,b⟩:=shL_closed (n:=n) (x:=1) (y:=2) (z:=3) (S:=S) (by omega) (by omega) (by omega)
 simp only [closedL,okL,Bool.and_eq_true] at a b
 exact ⟨by simp only [closedL,a,Bool.true_and];exact (plainL_closed (rx_plain g)).1,by simp only [okL,b,Bool.true_and];exact (plainL_closed (n:=0) (rx_plain g)).2⟩
theorem slvC_closed {n i sz k:Nat} (h:i<n):oclosed n (.rw [slvV i sz k]):=by
 have h1:closed n (slvV i sz k)=true:=closed_slvV (Nat.blt_eq.mpr h)
 exact ⟨by simp [closedL,h1],by simp [okL,okV_slv]⟩
theorem hc_r6 (S:Shp) (g:Nat→Int) (h:Nat):HClosed 6 [.ro (flL 1 2 3 S g),.ro (ints S.d),.ro (pc S.f),.ro (ints S.s),.rw [slvV 5 10 h],.gr (rowsC S h) 80] :=
 ⟨fl_closed (by omega),plainL_closed (ints_plain _),plainL_closed (pc_plain _),plainL_closed (ints_plain _),slvC_closed (by omega),plainL_closed (rowsC_plain _ _),trivial⟩
theorem hc_r8 (S:Shp) (g r:Nat→Int) (h:Nat):HClosed 8 [.ro (flL 1 2 3 S g),.ro (ints S.d),.ro (pc S.f),.ro (ints S.s),.rw [slvV 5 10 h],.gr (rowsC S h) 80,.rw [.int .i64 (h:Int)],.rw (rx r)] :=
 ⟨fl_closed (by omega),plainL_closed (ints_plain _),plainL_closed (pc_plain _),plainL_closed (ints_plain _),slvC_closed (by omega),plainL_closed (rowsC_plain _ _),plainL_closed rfl,plainL_closed (rx_plain _),trivial⟩
theorem hc_r14 (S:Shp) (g r:Nat→Int) (h n:Nat) (d:Int) (L:AObj) (hL:oclosed 14 L):HClosed 14 [.ro (flL 1 2 3 S g),.ro (ints S.d),.ro (pc S.f),.ro (ints S.s),.rw [slvV 5 10 h],.gr (rowsC S h) 80,.rw [.int .i64 (h:Int)],.rw (rx r),.rw [.int .i64 (n:Int)],.rw [.int .i64 d],.rw [.pointer (some ⟨0,0,none⟩)],.rw [.int .i64 (n:Int)],.dfr,L] :=
 ⟨fl_closed (by omega),plainL_closed (ints_plain _),plainL_closed (pc_plain _),plainL_closed (ints_plain _),slvC_closed (by omega),plainL_closed (rowsC_plain _ _),plainL_closed rfl,plainL_closed (rx_plain _),plainL_closed rfl,plainL_closed rfl,⟨rfl,rfl⟩,plainL_closed rfl,trivial,hL,trivial⟩
theorem setI_self (r:Nat→Int) (n:Nat) (a b:Int):setI (setI r n a) n b=setI r n b:=by
 funext i;unfold setI;split <;> rfl
end Go.AH.Dust
namespace Go.Proofs.Ytomioaiojidnbaa
open Go Go.AH
attribute [local irreducible] WOps WCode WFree retQ thenQ blockQ scopeQ OpOk ACall RetRef roundA roundB
set_option maxRecDepth 100000
set_option maxHeartbeats 1000000
open Go.AH.Dust
theorem rows_ok (S:Shp) (hS:S.ok) (g:Nat→Int) (H:Nat) (hH:H≤24) :
  Ev Try.prog 62 [.pointer (some ⟨0,0,none⟩),.int .i64 (H:Int)] [.ro (flL 1 2 3 S g),.ro (ints S.d),.ro (pc S.f),.ro (ints S.s)] (sl 4 H) [.ro (flL 1 2 3 S g),.ro (ints S.d),.ro (pc S.f),.ro (ints S.s),.rw (rowsC S H)]:=by
 have n10:=hS.n10
 have f60:=hS.f60
 refine acall_intro 4 63 Try.func62 rfl rfl rfl rfl rfl ?_
 repeat' (first|(refine gU ?_;first|(refine gMove ?_;refine st (ok_move rfl) rfl rfl ?_)|(refine gAssign ?_;refine st (ok_assign rfl) rfl rfl ?_)|(refine gAlloc ?_;refine st (ok_alloc rfl) rfl rfl ?_))|refine W_seq ?_|refine W_region ?_|refine st_nil ?_|refine tq_n ?_|refine W_block ?_)
 refine Tail.W_loopD (ι:=Nat) (fun h=>[(0,.pointer (some ⟨0,0,none⟩)),(5,.pointer (some ⟨4,0,none⟩)),(12,.int .i64 (H:Int)),(13,.int .i64 (h:Int))])
  (fun h=>[.ro (flL 1 2 3 S g),.ro (ints S.d),.ro (pc S.f),.ro (ints S.s),.rw [slvV 5 10 h],.gr (rowsC S h) 80]) (fun h=>H - h) (fun h=>h≤H) 0 rfl (by (repeat' (first|exact Tail.tail_ret rfl|refine Tail.tail_then ?_ ?_|refine Tail.tail_block ?_|refine Tail.W_tail rfl ?_))) (fun _=>by simp) (fun h _=>hc_r6 S g h)
  (.of (StRef.all _ 5 [5] (by simp) rfl rfl (subsR (j:=5) rfl rfl rfl rfl rfl osub_gr0) (by (repeat' (first|exact trivial|refine ⟨er_plain rfl rfl,?_⟩|refine ⟨er_closed (m:=5) rfl (fun i hi=>srcR_lt hi) (by simp) (by rfl) rfl,?_⟩)))) (by simp)) (by omega) ?_
 intro h hh
 have hlen:=rowsC_len S h
 by_cases hhH:h<H
 ·repeat' (first|(refine gU ?_;first|(refine gMove ?_;refine st (ok_move rfl) rfl rfl ?_)|(refine gFA ?_;refine st (ok_fieldAddr rfl) rfl rfl ?_)|(refine gLoad ?_;refine st (ok_load rfl (by rfl)) rfl rfl ?_)|(refine gBin ?_;refine st (ok_bin rfl rfl rfl) rfl rfl ?_)|(refine gLen ?_;refine st (ok_len rfl) rfl rfl ?_)|(refine gNil ?_;refine st (ok_nilP rfl) rfl rfl ?_)|(refine gAlloc ?_;refine st (ok_alloc rfl) rfl rfl ?_)|(refine gStore ?_;refine stN (ok_store rfl rfl rfl rfl (by rfl)) rfl ?_))|refine W_seq ?_|refine W_region ?_|refine st_nil ?_|refine tq_n ?_|refine W_skip ?_|refine W_block ?_|refine W_condTA rfl ?_)
  refine Tail.W_loopD (ι:=Nat×(Nat→Int)) (fun q=>[(0,.pointer (some ⟨0,0,none⟩)),(5,.pointer (some ⟨4,0,none⟩)),(6,.pointer (some ⟨6,0,none⟩)),(7,.pointer (some ⟨7,0,none⟩)),(12,.int .i64 (H:Int)),(13,.int .i64 (h:Int)),(20,sl 1 S.d.length),(21,.int .i64 (S.d.length:Int)),(22,.int .i64 (q.1:Int))])
   (fun q=>[.ro (flL 1 2 3 S g),.ro (ints S.d),.ro (pc S.f),.ro (ints S.s),.rw [slvV 5 10 h],.gr (rowsC S h) 80,.rw [.int .i64 (h:Int)],.rw (rx q.2)]) (fun q=>S.d.length - q.1) (fun q=>q.1≤S.d.length∧(∀ i,i<q.1→q.2 i=most S h i)∧∀ i,q.1≤i→q.2 i=0) (0,fun _=>0) rfl (by (repeat' (first|exact Tail.tail_ret rfl|exact Tail.tail_loopD|refine Tail.tail_then ?_ ?_|refine Tail.tail_block ?_|refine Tail.W_tail rfl ?_))) (fun _=>by simp) (fun q _=>hc_r8 S g q.2 h)
   (.of (.same ⟨rfl,rfl,rfl,rfl,rfl,rfl,rfl,rfl,rfl,trivial⟩) (by simp)) ⟨Nat.zero_le _,fun i (hi:i<0)=>absurd hi (Nat.not_lt_zero _),fun _ _=>rfl⟩ ?_
  rintro ⟨n,r⟩ ⟨hn,hr1,hr2⟩
  simp only at hn hr1 hr2 ⊢
  by_cases hnd:n<S.d.length
  ·have hn10:n<10:=by omega
   have hcd:cellGet [.ro (flL 1 2 3 S g),.ro (ints S.d),.ro (pc S.f),.ro (ints S.s),.rw [slvV 5 10 h],.gr (rowsC S h) 80,.rw [.int .i64 (h:Int)],.rw (rx r)] 1 n=some (.int .i64 (gi S.d n)):=ints_get hnd
   have hdn:=hS.d n hnd
   have hput:=putRw (σ:=[.ro (flL 1 2 3 S g),.ro (ints S.d),.ro (pc S.f),.ro (ints S.s),.rw [slvV 5 10 h],.gr (rowsC S h) 80,.rw [.int .i64 (h:Int)],.rw (rx r),.rw [.int .i64 (n:Int)],.rw [.int .i64 (gi S.d n)]]) (b:=7) (o:=0+n*1) (cs':=rx (setI r n (-1))) (vs:=[.int .i64 (-1)]) rfl (by simp [rx];omega) (by simp [rx]) (by rw [Nat.zero_add,Nat.mul_one];exact rx_set hn10)
   have hstep:∀ v,v=most S h n→(∀ i,i<n+1→setI r n v i=most S h i)∧∀ i,n+1≤i→setI r n v i=0:=fun v hv=>by
    refine ⟨fun i hi=>?_,fun i hi=>?_⟩
    ·unfold setI
     by_cases hin:i=n
     ·rw [if_pos hin,hin];exact hv
     ·rw [if_neg hin];exact hr1 i (by omega)
    ·unfold setI;rw [if_neg (by omega)];exact hr2 i (by omega)
   clear hr1 hr2
   cases h with
   |zero =>
    have hst:=hstep (gi S.d n) rfl
    generalize hd:gi S.d n=d at *
    have hput2:=putRw (σ:=[.ro (flL 1 2 3 S g),.ro (ints S.d),.ro (pc S.f),.ro (ints S.s),.rw [slvV 5 10 0],.gr (rowsC S 0) 80,.rw [.int .i64 ((0:Nat):Int)],.rw (rx (setI r n (-1))),.rw [.int .i64 (n:Int)],.rw [.int .i64 d]]) (b:=7) (o:=0+n*1) (cs':=rx (setI (setI r n (-1)) n d)) (vs:=[.int .i64 d]) rfl (by simp [rx];omega) (by simp [rx]) (by rw [Nat.zero_add,Nat.mul_one];exact rx_set hn10)
    rw [setI_self] at hput2
    repeat' (first|(refine gU ?_;first|(refine gMove ?_;refine st (ok_move rfl) rfl rfl ?_)|(refine gLoad ?_;refine st (ok_load rfl (by first|rfl|assumption)) rfl rfl ?_)|(refine gAdd ?_;refine st (ok_inc rfl rfl (by omega)) rfl rfl ?_)|(refine gBin ?_;refine st (ok_bin rfl rfl rfl) rfl rfl ?_)|(refine gIA ?_;first|refine st (ok_idxN rfl rfl (by omega)) rfl rfl ?_|refine st (ok_idxAN rfl rfl (by omega)) rfl rfl ?_)|(refine gAlloc ?_;refine st (ok_alloc rfl) rfl rfl ?_)|(refine gStore ?_;refine stN (ok_store rfl rfl rfl rfl (by first|exact hput|exact hput2|rfl)) rfl ?_))|refine W_seq ?_|refine W_region ?_|refine st_nil ?_|refine tq_n ?_|refine tq_e ?_|refine bq_hit rfl ?_|refine W_skip ?_|refine W_exit ?_|refine W_block ?_|refine W_condTA rfl ?_)
    exact ⟨(n+1,setI r n d),⟨⟨by simp only;omega,hst⟩,by simp only;omega⟩,.of (StRef.drop [.ro (flL 1 2 3 S g),.ro (ints S.d),.ro (pc S.f),.ro (ints S.s),.rw [slvV 5 10 0],.gr (rowsC S 0) 80,.rw [.int .i64 ((0:Nat):Int)],.rw (rx (setI r n d))] [_,_] (by simp) (hc_r8 S g _ 0) (by (repeat' (first|exact trivial|exact ⟨rfl,rfl,rfl⟩|exact ⟨rfl,closed_slice rfl,rfl⟩|refine ⟨?_,?_⟩)))) (by simp)⟩
   |succ h' =>
    have hh10:h'+1≤24:=by omega
    have hst:=hstep (mostF S (most S h') n S.f.length) rfl
    clear hstep
    have hmb:=fun i hi=>most_bound hS h' i hi
    have hfb:=fun k hk=>mostF_bound hS (m:=most S h') (B:=1000*((h':Int)+1)) (by omega) hmb hnd k hk
    have hnx:=next_ev (σ:=[.ro (flL 1 2 3 S g),.ro (ints S.d),.ro (pc S.f),.ro (ints S.s),.rw [slvV 5 10 (h'+1)],.gr (rowsC S (h'+1)) 80,.rw [.int .i64 ((h'+1:Nat):Int)],.rw (rx (setI r n (-1))),.rw [.int .i64 (n:Int)],.rw [.int .i64 (gi S.d n)]]) (S:=S) (r:=g) (n:=(n:Int)) (p:=0) (x:=1) (y:=2) (z:=3) ⟨.inl rfl,.inl rfl,.inl rfl,.inl rfl⟩ rfl
    repeat' (first|(refine gU ?_;first|(refine gMove ?_;refine st (ok_move rfl) rfl rfl ?_)|(refine gLoad ?_;refine st (ok_load rfl (by first|rfl|assumption)) rfl rfl ?_)|(refine gBin ?_;refine st (ok_bin rfl rfl rfl) rfl rfl ?_)|(refine gIA ?_;first|refine st (ok_idxN rfl rfl (by omega)) rfl rfl ?_|refine st (ok_idxAN rfl rfl (by omega)) rfl rfl ?_)|(refine gCall ?_;refine st (ok_call rfl rfl rfl (by exact hnx)) rfl rfl ?_)|(refine gAlloc ?_;refine st (ok_alloc rfl) rfl rfl ?_)|(refine gStore ?_;refine stN (ok_store rfl rfl rfl rfl (by first|exact hput|rfl)) rfl ?_))|refine W_seq ?_|refine W_region ?_|refine st_nil ?_|refine tq_n ?_|refine W_skip ?_|refine W_block ?_|refine W_condTA rfl ?_|refine W_condFA rfl ?_)
    refine W_st (by simp) (.same (e2:=[(0,.pointer (some ⟨0,0,none⟩)),(5,.pointer (some ⟨4,0,none⟩)),(6,.pointer (some ⟨6,0,none⟩)),(7,.pointer (some ⟨7,0,none⟩)),(8,.pointer (some ⟨8,0,none⟩)),(9,.pointer (some ⟨9,0,none⟩)),(12,.int .i64 (H:Int)),(13,.int .i64 ((h'+1:Nat):Int)),(20,sl 1 S.d.length),(21,.int .i64 (S.d.length:Int)),(22,.int .i64 (n:Int)),(36,.func (.func 87) #[] #[.pointer (some ⟨10,0,none⟩),.pointer (some ⟨11,0,none⟩)])]) ⟨rfl,rfl,rfl,rfl,rfl,rfl,rfl,rfl,rfl,rfl,rfl,rfl,trivial⟩) ?_
    refine W_rangeFuncL (p:=[]) (q:=[.pointer (some ⟨10,0,none⟩),.pointer (some ⟨11,0,none⟩)]) rfl fun L hL=>?_
    have hLc:oclosed 14 L:=by
     rw [hL]
     exact env_closed fun p hp=>by
      simp only [List.mem_cons,List.not_mem_nil,or_false] at hp
      rcases hp with rfl|rfl|rfl|rfl|rfl|rfl|rfl|rfl|rfl|rfl|rfl|rfl <;> first|exact ⟨rfl,rfl⟩|exact slice_closed (by omega)
    have hLi:isIter L=false:=by rw [hL];rfl
    refine acall_intro 14 28 Try.func87 rfl rfl rfl rfl rfl ?_
    repeat' (first|(refine gU ?_;first|(refine gMove ?_;refine st (ok_move rfl) rfl rfl ?_)|(refine gFA ?_;refine st (ok_fieldAddr rfl) rfl rfl ?_)|(refine gLoad ?_;refine st (ok_load rfl (by rfl)) rfl rfl ?_)|(refine gLen ?_;refine st (ok_len rfl) rfl rfl ?_)|(refine gNil ?_;refine st (ok_nilP rfl) rfl rfl ?_))|refine W_seq ?_|refine W_region ?_|refine st_nil ?_|refine tq_n ?_|refine W_block ?_)
    refine W_loopS (ι:=Nat) (fun k=>[(0,.func (.yield 13) #[] #[]),(1,.pointer (some ⟨10,0,none⟩)),(2,.pointer (some ⟨11,0,none⟩)),(10,sl 2 S.f.length),(11,.int .i64 (S.f.length:Int)),(12,.int .i64 (k:Int))])
     (fun k=>[.ro (flL 1 2 3 S g),.ro (ints S.d),.ro (pc S.f),.ro (ints S.s),.rw [slvV 5 10 (h'+1)],.gr (rowsC S (h'+1)) 80,.rw [.int .i64 ((h'+1:Nat):Int)],.rw (rx (setI r n (mostF S (most S h') n k))),.rw [.int .i64 (n:Int)],.rw [.int .i64 (gi S.d n)],.rw [.pointer (some ⟨0,0,none⟩)],.rw [.int .i64 (n:Int)],.dfr,L]) (fun k=>S.f.length - k) (fun k=>k≤S.f.length) 0 (by simp) (.same ⟨rfl,rfl,rfl,rfl,rfl,rfl,trivial⟩) (by omega) ?_
    intro k hk
    clear hput hnx
    by_cases hkl:k<S.f.length
    ·have hd2:∀ σ':Heap,cellsAt (.ro (flL 1 2 3 S g)::.ro (ints S.d)::.ro (pc S.f)::σ') 2 (0+k*2) 2=some [.int .i64 (gf S.f k).1,.int .i64 (gf S.f k).2]:=fun σ'=>pc_cells (.inl rfl) hkl
     obtain ⟨hw1,hw2,-⟩:=hS.f k hkl
     have hMb:=hfb k hk
     have hM:mostF S (most S h') n (k+1)=if (gf S.f k).1=n∧0≤most S h' (gf S.f k).2.toNat then max (mostF S (most S h') n k) (gi S.d n+most S h' (gf S.f k).2.toNat) else mostF S (most S h') n k:=rfl
     have hrx:=rowsC_at S (h:=h'+1) (j:=h') (b:=(gf S.f k).2.toNat) (by omega) (by omega)
     have hrm:rowM S h' (gf S.f k).2.toNat=most S h' (gf S.f k).2.toNat:=by unfold rowM;rw [if_pos (by omega)]
     have hxb:=hmb (gf S.f k).2.toNat (by omega)
     rw [hrm] at hrx
     have hc1:∀ σ':Heap,cellGet (AObj.ro (flL 1 2 3 S g)::.ro (ints S.d)::.ro (pc S.f)::.ro (ints S.s)::.rw [slvV 5 10 (h'+1)]::.gr (rowsC S (h'+1)) 80::.rw [.int .i64 ((h'+1:Nat):Int)]::σ') 5 ((((h'+1:Nat):Int) - 1).toNat*10+(gf S.f k).2.toNat*1)=some (.int .i64 (most S h' (gf S.f k).2.toNat)):=fun σ'=>by
      rw [show (((h'+1:Nat):Int) - 1).toNat=h' by omega,Nat.mul_one];exact hrx
     have hc2:∀ σ':Heap,cellGet (AObj.ro (flL 1 2 3 S g)::.ro (ints S.d)::.ro (pc S.f)::.ro (ints S.s)::.rw [slvV 5 10 (h'+1)]::.gr (rowsC S (h'+1)) 80::.rw [.int .i64 ((h'+1:Nat):Int)]::.rw (rx (setI r n (mostF S (most S h') n k)))::σ') 7 (0+n*1)=some (.int .i64 (mostF S (most S h') n k)):=fun σ'=>by
      have:=rx_get (f:=setI r n (mostF S (most S h') n k)) hn10
      rw [Nat.zero_add,Nat.mul_one]
      simp only [setI,if_true] at this
      exact this
     have hput3:∀ (σ':Heap) (v:Int),putCells (AObj.ro (flL 1 2 3 S g)::.ro (ints S.d)::.ro (pc S.f)::.ro (ints S.s)::.rw [slvV 5 10 (h'+1)]::.gr (rowsC S (h'+1)) 80::.rw [.int .i64 ((h'+1:Nat):Int)]::.rw (rx (setI r n (mostF S (most S h') n k)))::σ') 7 (0+n*1) [.int .i64 v]=some (AObj.ro (flL 1 2 3 S g)::.ro (ints S.d)::.ro (pc S.f)::.ro (ints S.s)::.rw [slvV 5 10 (h'+1)]::.gr (rowsC S (h'+1)) 80::.rw [.int .i64 ((h'+1:Nat):Int)]::.rw (rx (setI r n v))::σ'):=fun σ' v=>by
      rw [← setI_self r n (mostF S (most S h') n k) v]
      exact putRw rfl (by simp [rx];omega) (by simp [rx]) (by rw [Nat.zero_add,Nat.mul_one];exact rx_set hn10)
     clear hrx hrm
     generalize mostF S (most S h') n k=M at *
     generalize gf S.f k=p at *
     obtain ⟨a,b⟩:=p
     simp only at hw1 hw2 hM hc1 hxb hd2
     generalize most S h' b.toNat=x at *
     by_cases ha:a=(n:Int)
     ·by_cases hx:x≥0
      ·rw [if_pos ⟨ha,hx⟩] at hM
       repeat' (first|(refine gU ?_;first|(refine gMove ?_;refine st (ok_move rfl) rfl rfl ?_)|(refine gLoad ?_;first|refine st (ok_load rfl (by rfl)) rfl rfl ?_|refine st (ok_loadA rfl (by exact hd2 _)) rfl rfl ?_)|(refine gBin ?_;refine st (ok_bin rfl rfl rfl) rfl rfl ?_)|(refine gIA ?_;first|refine st (ok_idxSN rfl rfl (by omega)) rfl rfl ?_|refine st (ok_idxA rfl rfl (by omega) (by omega)) rfl rfl ?_)|(refine gAlloc ?_;refine st (ok_alloc rfl) rfl rfl ?_)|(refine gStore ?_;refine stN (ok_store rfl rfl rfl rfl (by rfl)) rfl ?_))|(refine gG ?_;first|(refine gMove ?_;refine stGA rfl (ok_move rfl) rfl rfl ?_)|(refine gLoad ?_;refine stGA rfl (ok_load rfl (by rfl)) rfl rfl ?_)|(refine gIA ?_;refine stGA rfl (ok_idxA rfl rfl (by omega) (by omega)) rfl rfl ?_))|refine W_seq ?_|refine W_region ?_|refine st_nil ?_|refine tq_n ?_|refine W_skip ?_|refine W_block ?_|refine W_condTA rfl ?_)
       refine st_yieldG (l:=13) rfl rfl (by rw [hL];rfl) rfl rfl rfl (fun _ _ _ _ he=>wanted_rel (b:=true) (by rw [wantedA_some (b:=decide (a=(n:Int))) rfl,decide_eq_true ha];rfl) he) ?_
       repeat' (first|(refine gU ?_;(refine gAssign ?_;refine st (ok_assign rfl) rfl rfl ?_))|refine W_region ?_|refine st_nil ?_)
       refine roundA_n (by rw [hL];rfl) ?_
       repeat' (first|(refine gU ?_;first|refine st (ok_idxVI rfl rfl (by omega) (by omega)) rfl rfl ?_|(refine gMove ?_;refine st (ok_move rfl) rfl rfl ?_)|(refine gAssign ?_;refine st (ok_assign rfl) rfl rfl ?_)|(refine gLoad ?_;refine st (ok_load rfl (by first|rfl|exact hc1 _)) rfl rfl ?_)|(refine gSub ?_;refine st (ok_sub rfl rfl (by omega) (by omega)) rfl rfl ?_)|(refine gBin ?_;refine st (ok_bin rfl rfl rfl) rfl rfl ?_)|(refine gIA ?_;refine st (ok_idxA rfl rfl (by omega) (by omega)) rfl rfl ?_)|(refine gStore ?_;refine stN (ok_store rfl rfl rfl rfl (by exact hput3 _ _)) rfl ?_))|(refine fU ?_;first|(refine fMove ?_;refine frA (ok_move rfl) rfl ?_)|(refine fLoad ?_;refine frA (ok_load rfl (by first|rfl|exact hc2 _)) rfl ?_)|(refine fAdd ?_;refine frA (ok_add rfl rfl (by omega) (by omega)) rfl ?_)|(refine fIA ?_;refine frA (ok_idxAN rfl rfl (by omega)) rfl ?_)|(refine fMax ?_;refine frA (ok_max rfl rfl) rfl ?_))|(refine fr_stop ⟨by kernel_rfl,?_⟩)|refine W_seq ?_|refine W_region ?_|refine W_regionD (by kernel_rfl) rfl ?_|refine st_nil ?_|refine tq_n ?_|refine bq_n ?_|refine W_block ?_|refine W_condTA rfl ?_)
       refine roundB_n rfl rfl ?_
       repeat' (first|(refine gU ?_;first|(refine gMove ?_;refine st (ok_move rfl) rfl rfl ?_)|(refine gAdd ?_;refine st (ok_inc rfl rfl (by omega)) rfl rfl ?_)|(refine gPick ?_;refine st (ok_pickTA rfl rfl) rfl rfl ?_))|(refine gG ?_;(refine gNot ?_;refine stGA rfl (ok_not' rfl) rfl rfl ?_))|refine W_region ?_|refine st_nil ?_|refine tq_n ?_|refine bq_n ?_|refine W_skip ?_|refine W_condFA rfl ?_)
       refine ⟨rfl,k+1,by omega,by omega,?_⟩
       rw [hL,hM]
       exact StRef.drop [.ro (flL 1 2 3 S g),.ro (ints S.d),.ro (pc S.f),.ro (ints S.s),.rw [slvV 5 10 (h'+1)],.gr (rowsC S (h'+1)) 80,.rw [.int .i64 ((h'+1:Nat):Int)],.rw (rx (setI r n (max M (gi S.d n+x)))),.rw [.int .i64 (n:Int)],.rw [.int .i64 (gi S.d n)],.rw [.pointer (some ⟨0,0,none⟩)],.rw [.int .i64 (n:Int)],.dfr,_] [_] (by simp) (hc_r14 S g _ (h'+1) n _ _ (by have:=hLc;rw [hL] at this;exact this)) (by (repeat' (first|exact trivial|exact ⟨rfl,rfl,rfl⟩|exact ⟨rfl,closed_slice rfl,rfl⟩|refine ⟨?_,?_⟩)))
      ·rw [if_neg (fun h=>hx h.2)] at hM
       repeat' (first|(refine gU ?_;first|(refine gMove ?_;refine st (ok_move rfl) rfl rfl ?_)|(refine gLoad ?_;first|refine st (ok_load rfl (by rfl)) rfl rfl ?_|refine st (ok_loadA rfl (by exact hd2 _)) rfl rfl ?_)|(refine gBin ?_;refine st (ok_bin rfl rfl rfl) rfl rfl ?_)|(refine gIA ?_;first|refine st (ok_idxSN rfl rfl (by omega)) rfl rfl ?_|refine st (ok_idxA rfl rfl (by omega) (by omega)) rfl rfl ?_)|(refine gAlloc ?_;refine st (ok_alloc rfl) rfl rfl ?_)|(refine gStore ?_;refine stN (ok_store rfl rfl rfl rfl (by rfl)) rfl ?_))|(refine gG ?_;first|(refine gMove ?_;refine stGA rfl (ok_move rfl) rfl rfl ?_)|(refine gLoad ?_;refine stGA rfl (ok_load rfl (by rfl)) rfl rfl ?_)|(refine gIA ?_;refine stGA rfl (ok_idxA rfl rfl (by omega) (by omega)) rfl rfl ?_))|refine W_seq ?_|refine W_region ?_|refine st_nil ?_|refine tq_n ?_|refine W_skip ?_|refine W_block ?_|refine W_condTA rfl ?_)
       refine st_yieldG (l:=13) rfl rfl (by rw [hL];rfl) rfl rfl rfl (fun _ _ _ _ he=>wanted_rel (b:=true) (by rw [wantedA_some (b:=decide (a=(n:Int))) rfl,decide_eq_true ha];rfl) he) ?_
       repeat' (first|(refine gU ?_;(refine gAssign ?_;refine st (ok_assign rfl) rfl rfl ?_))|refine W_region ?_|refine st_nil ?_)
       refine roundA_n (by rw [hL];rfl) ?_
       repeat' (first|(refine gU ?_;first|refine st (ok_idxVI rfl rfl (by omega) (by omega)) rfl rfl ?_|(refine gMove ?_;refine st (ok_move rfl) rfl rfl ?_)|(refine gAssign ?_;refine st (ok_assign rfl) rfl rfl ?_)|(refine gLoad ?_;refine st (ok_load rfl (by first|rfl|exact hc1 _)) rfl rfl ?_)|(refine gSub ?_;refine st (ok_sub rfl rfl (by omega) (by omega)) rfl rfl ?_)|(refine gBin ?_;refine st (ok_bin rfl rfl rfl) rfl rfl ?_)|(refine gIA ?_;refine st (ok_idxA rfl rfl (by omega) (by omega)) rfl rfl ?_))|refine W_seq ?_|refine W_region ?_|refine st_nil ?_|refine tq_n ?_|refine bq_n ?_|refine W_skip ?_|refine W_block ?_|refine W_condFA rfl ?_)
       refine roundB_n rfl rfl ?_
       repeat' (first|(refine gU ?_;first|(refine gMove ?_;refine st (ok_move rfl) rfl rfl ?_)|(refine gAdd ?_;refine st (ok_inc rfl rfl (by omega)) rfl rfl ?_)|(refine gPick ?_;refine st (ok_pickTA rfl rfl) rfl rfl ?_))|(refine gG ?_;(refine gNot ?_;refine stGA rfl (ok_not' rfl) rfl rfl ?_))|refine W_region ?_|refine st_nil ?_|refine tq_n ?_|refine bq_n ?_|refine W_skip ?_|refine W_condFA rfl ?_)
       refine ⟨rfl,k+1,by omega,by omega,?_⟩
       rw [hL,hM]
       exact StRef.drop [.ro (flL 1 2 3 S g),.ro (ints S.d),.ro (pc S.f),.ro (ints S.s),.rw [slvV 5 10 (h'+1)],.gr (rowsC S (h'+1)) 80,.rw [.int .i64 ((h'+1:Nat):Int)],.rw (rx (setI r n M)),.rw [.int .i64 (n:Int)],.rw [.int .i64 (gi S.d n)],.rw [.pointer (some ⟨0,0,none⟩)],.rw [.int .i64 (n:Int)],.dfr,_] [_] (by simp) (hc_r14 S g _ (h'+1) n _ _ (by have:=hLc;rw [hL] at this;exact this)) (by (repeat' (first|exact trivial|exact ⟨rfl,rfl,rfl⟩|exact ⟨rfl,closed_slice rfl,rfl⟩|refine ⟨?_,?_⟩)))
     ·rw [if_neg (fun h=>ha h.1)] at hM
      repeat' (first|(refine gU ?_;first|(refine gMove ?_;refine st (ok_move rfl) rfl rfl ?_)|(refine gLoad ?_;first|refine st (ok_load rfl (by rfl)) rfl rfl ?_|refine st (ok_loadA rfl (by exact hd2 _)) rfl rfl ?_)|(refine gAdd ?_;refine st (ok_inc rfl rfl (by omega)) rfl rfl ?_)|(refine gBin ?_;refine st (ok_bin rfl rfl rfl) rfl rfl ?_)|(refine gPick ?_;refine st (ok_pickFA rfl rfl) rfl rfl ?_)|(refine gIA ?_;first|refine st (ok_idxSN rfl rfl (by omega)) rfl rfl ?_|refine st (ok_idxA rfl rfl (by omega) (by omega)) rfl rfl ?_)|(refine gAlloc ?_;refine st (ok_alloc rfl) rfl rfl ?_)|(refine gStore ?_;refine stN (ok_store rfl rfl rfl rfl (by rfl)) rfl ?_))|(refine gG ?_;refine stSA rfl rfl ?_)|refine W_seq ?_|refine W_region ?_|refine st_nil ?_|refine tq_n ?_|refine bq_n ?_|refine W_skip ?_|refine W_block ?_|refine W_condTA rfl ?_|refine W_condFA rfl ?_)
      refine ⟨rfl,k+1,by omega,by omega,?_⟩
      rw [hM]
      exact StRef.drop [.ro (flL 1 2 3 S g),.ro (ints S.d),.ro (pc S.f),.ro (ints S.s),.rw [slvV 5 10 (h'+1)],.gr (rowsC S (h'+1)) 80,.rw [.int .i64 ((h'+1:Nat):Int)],.rw (rx (setI r n M)),.rw [.int .i64 (n:Int)],.rw [.int .i64 (gi S.d n)],.rw [.pointer (some ⟨0,0,none⟩)],.rw [.int .i64 (n:Int)],.dfr,L] [_] (by simp) (hc_r14 S g _ (h'+1) n _ _ hLc) (by (repeat' (first|exact trivial|exact ⟨rfl,rfl,rfl⟩|exact ⟨rfl,closed_slice rfl,rfl⟩|refine ⟨?_,?_⟩)))
    ·obtain rfl:k=S.f.length:=by omega
     repeat' (first|(refine gU ?_;(refine gBin ?_;refine st (ok_bin rfl rfl rfl) rfl rfl ?_))|refine W_seq ?_|refine W_region ?_|refine st_nil ?_|refine tq_n ?_|refine tq_e ?_|refine bq_hit rfl ?_|refine W_exit ?_|refine W_condFA rfl ?_)
     refine retN .nil .all ⟨_,_,_,_,_,_,_,by rw [hL];rfl,by simp,?_⟩
     dsimp only
     repeat' (first|(refine gU ?_;first|(refine gMove ?_;refine st (ok_move rfl) rfl rfl ?_)|(refine gAdd ?_;refine st (ok_inc rfl rfl (by omega)) rfl rfl ?_))|refine W_region ?_|refine st_nil ?_|refine tq_n ?_|refine bq_n ?_)
     exact ⟨(n+1,setI r n (mostF S (most S h') n S.f.length)),⟨⟨by simp only;omega,hst⟩,by simp only;omega⟩,Tail.StRefD.src [.ro (flL 1 2 3 S g),.ro (ints S.d),.ro (pc S.f),.ro (ints S.s),.rw [slvV 5 10 (h'+1)],.gr (rowsC S (h'+1)) 80,.rw [.int .i64 ((h'+1:Nat):Int)],.rw (rx (setI r n (mostF S (most S h') n S.f.length)))] [] [] 12 (by simp) rfl (hc_r8 S g _ (h'+1)) rfl rfl rfl trivial (by (repeat' (first|exact trivial|refine ⟨er_plain rfl rfl,?_⟩|refine ⟨er_closed (m:=8) rfl (fun i hi=>srcR_lt hi) (by simp) (by first|rfl|exact closed_slice rfl) rfl,?_⟩)))⟩
  ·obtain rfl:n=S.d.length:=by omega
   have hrr:rx r=rx (rowM S h):=rx_congr fun i _=>by
    unfold rowM
    by_cases hi:i<S.d.length
    ·rw [if_pos hi];exact hr1 i hi
    ·rw [if_neg hi];exact hr2 i (by omega)
   rw [hrr]
   repeat' (first|(refine gU ?_;first|(refine gMove ?_;refine st (ok_move rfl) rfl rfl ?_)|(refine gLoad ?_;first|refine st (ok_load rfl (by rfl)) rfl rfl ?_|refine st (ok_loadA rfl (by rfl)) rfl rfl ?_)|(refine gAdd ?_;refine st (ok_inc rfl rfl (by omega)) rfl rfl ?_)|(refine gBin ?_;refine st (ok_bin rfl rfl rfl) rfl rfl ?_)|(refine gBuildS ?_;refine st (ok_buildS (by rfl) (by rfl) (by rfl) (by rfl) rfl (by rfl)) rfl rfl ?_)|(refine gApp ?_;refine st (ok_appendV (by rfl) (by rfl) rfl (by rfl) (by exact hlen) rfl (by rfl) (by omega) (by rfl) (by omega) (by omega)) rfl rfl ?_)|(refine gStore ?_;refine stN (ok_store rfl rfl rfl rfl (by rfl)) rfl ?_))|refine W_seq ?_|refine W_region ?_|refine st_nil ?_|refine tq_n ?_|refine tq_e ?_|refine bq_n ?_|refine bq_hit rfl ?_|refine W_exit ?_|refine W_condFA rfl ?_)
   exact ⟨h+1,⟨by omega,by omega⟩,.of (StRef.all _ 5 [9] (by simp) rfl rfl (subsR (j:=9) rfl rfl rfl rfl rfl (osub_gr rfl rfl (rowsC_plain S (h+1)))) (by (repeat' (first|exact trivial|refine ⟨er_plain rfl rfl,?_⟩|refine ⟨er_closed (m:=5) rfl (fun i hi=>srcR_lt hi) (by simp) (by rfl) rfl,?_⟩)))) (by simp)⟩
 ·obtain rfl:h=H:=by omega
  repeat' (first|(refine gU ?_;first|(refine gAssign ?_;refine st (ok_assign rfl) rfl rfl ?_)|(refine gLoad ?_;refine st (ok_load rfl (by rfl)) rfl rfl ?_)|(refine gBin ?_;refine st (ok_bin rfl rfl rfl) rfl rfl ?_))|refine W_seq ?_|refine W_region ?_|refine st_nil ?_|refine tq_n ?_|refine tq_e ?_|refine bq_hit rfl ?_|refine W_exit ?_|refine W_ret ?_|refine W_condFA rfl ?_)
  exact ret0 (.tmp rfl .nil) (RetRef.src [.rw (rowsC S h)] [5] rfl rfl rfl ⟨osub_rwp (j:=5) rfl (.inr ⟨_,rfl⟩) (rowsC_plain S h),trivial⟩ (vsub_slvR (by simp) rfl)) ⟨rfl,rfl⟩
end Go.Proofs.Ytomioaiojidnbaa
namespace Go.AH.Dust
open Go Go.AH
def bestK (r:Nat→Int) (l:List Int):Nat→Int
 |0=>-1
 |k+1=>if bestK r l k<0∨r (gi l k).toNat > r (gi l (bestK r l k).toNat).toNat then k else bestK r l k
noncomputable def topK (S:Shp) (r:Nat→Int):Nat→List Int
 |0=>[]
 |k+1=>if rB S k=true∧r k≥0 then topK S r k++[(k:Int)] else topK S r k
noncomputable def topV (S:Shp) (r:Nat→Int):Int :=
 if bestK r (topK S r S.d.length) (topK S r S.d.length).length<0 then -1 else gi (topK S r S.d.length) (bestK r (topK S r S.d.length) (topK S r S.d.length).length).toNat
theorem hc_t5 (S:Shp) (r:Nat→Int):HClosed 5 [.ro (flL 1 2 3 S (fun i=>bI (rB S i))),.ro (ints S.d),.ro (pc S.f),.ro (ints S.s),.rw (rx r)]:=⟨fl_closed (by omega),plainL_closed (ints_plain _),plainL_closed (pc_plain _),plainL_closed (ints_plain _),plainL_closed (rx_plain _),trivial⟩
abbrev rxV (r:Nat→Int):Value:=.agg (rx r).toArray
theorem bestK_range (r:Nat→Int) (l:List Int):∀ k,(k=0→bestK r l k=-1)∧(0<k→0≤bestK r l k∧bestK r l k<k)
 |0=>⟨fun _=>rfl,fun h=>by omega⟩
 |k+1=>by
  refine ⟨fun h=>by omega,fun _=>?_⟩
  have ih:=bestK_range r l k
  simp only [bestK]
  split
  ·omega
  ·rename_i h
   by_cases hk:k=0
   ·exact absurd (.inl (by rw [ih.1 hk];omega)) h
   ·have:=ih.2 (by omega);omega
theorem bestK_max (r:Nat→Int) (l:List Int):∀ k i,i<k→r (gi l i).toNat≤r (gi l (bestK r l k).toNat).toNat
 |0,i,h=>by omega
 |k+1,i,h=>by
  have ih:=bestK_max r l k
  have hr:=bestK_range r l k
  simp only [bestK]
  split
  ·rename_i hb
   rw [show ((k:Int)).toNat=k by omega]
   by_cases hik:i=k
   ·subst hik;exact Int.le_refl _
   ·have:=ih i (by omega)
    have:=hr.2 (by omega)
    omega
  ·rename_i hb
   by_cases hik:i=k
   ·subst hik;omega
   ·exact ih i (by omega)
theorem topK_len (S:Shp) (r:Nat→Int):∀ k,(topK S r k).length≤k
 |0=>by simp [topK]
 |k+1=>by
  have:=topK_len S r k
  simp only [topK];split
  ·simp;omega
  ·omega
theorem mem_topK {S:Shp} {r:Nat→Int} {n:Int}:∀ {k:Nat},n ∈ topK S r k↔∃ i:Nat,i<k∧n=i∧rB S i=true∧r i≥0
 |0=>by simp [topK]
 |k+1=>by
  have ih:=mem_topK (S:=S) (r:=r) (n:=n) (k:=k)
  simp only [topK]
  split
  ·rename_i h
   rw [List.mem_append,ih,List.mem_singleton]
   constructor
   ·rintro (⟨i,h1,h2⟩|h1)
    ·exact ⟨i,by omega,h2⟩
    ·exact ⟨k,by omega,h1,h⟩
   ·rintro ⟨i,h1,h2,h3⟩
    by_cases hik:i=k
    ·subst hik;exact .inr h2
    ·exact .inl ⟨i,by omega,h2,h3⟩
  ·rename_i h
   rw [ih]
   constructor
   ·rintro ⟨i,h1,h2⟩;exact ⟨i,by omega,h2⟩
   ·rintro ⟨i,h1,h2,h3⟩
    by_cases hik:i=k
    ·subst hik;exact absurd h3 h
    ·exact ⟨i,by omega,h2,h3⟩
theorem topV_is (S:Shp) (r:Nat→Int):(topV S r=-1∧∀ i,i<S.d.length→rB S i=true→r i<0) ∨
  (∃ t:Nat,topV S r=t∧t<S.d.length∧rB S t=true∧0≤r t∧∀ i,i<S.d.length→rB S i=true→r i≤r t):=by
 unfold topV
 generalize hl:topK S r S.d.length=l
 have hm:∀ n,n ∈ l↔∃ i:Nat,i<S.d.length∧n=i∧rB S i=true∧r i≥0:=fun n=>by rw [← hl];exact mem_topK
 have hb:=bestK_range r l l.length
 have hx:=bestK_max r l l.length
 by_cases h0:l.length=0
 ·left
  rw [if_pos (by rw [hb.1 h0];omega)]
  refine ⟨rfl,fun i hi hr=>Classical.byContradiction fun hn=>?_⟩
  have:(i:Int) ∈ l:=(hm i).2 ⟨i,hi,rfl,hr,by omega⟩
  have:=List.length_pos_of_mem this
  omega
 ·right
  have h1:=hb.2 (by omega)
  rw [if_neg (by omega)]
  have hin:gi l (bestK r l l.length).toNat ∈ l:=mem_gi.2 ⟨_,by omega,rfl⟩
  obtain ⟨t,t1,t2,t3,t4⟩:=(hm _).1 hin
  refine ⟨t,t2,t1,t3,t4,fun i hi hr=>?_⟩
  by_cases hri:r i≥0
  ·obtain ⟨j,j1,j2⟩:=mem_gi.1 ((hm i).2 ⟨i,hi,rfl,hr,hri⟩)
   have:=hx j j1
   rw [j2,t2] at this
   simpa using this
  ·omega
end Go.AH.Dust
namespace Go.Proofs.Ytomioaiojidnbaa
open Go Go.AH
attribute [local irreducible] WOps WCode WFree retQ thenQ blockQ scopeQ OpOk ACall RetRef roundA roundB
set_option maxRecDepth 100000
set_option maxHeartbeats 1000000
open Go.AH.Dust
theorem rows_ev {σ:Heap} {S:Shp} {g:Nat→Int} {H p x y z:Nat} (h:FAt σ p x y z S g) (hS:S.ok) (hH:H≤24) (hni:σ.all (fun o=>!isIter o)=true) :
  Ev Try.prog 62 [.pointer (some ⟨p,0,none⟩),.int .i64 (H:Int)] σ (sl σ.length H) (σ++[.rw (rowsC S H)]) :=
 h.evN (news:=[.rw (rowsC S H)]) (rows_ok S hS g H hH) ⟨VQ.ptr (q:=true) (n:=4) (ρ:=bsR [p,x,y,z]) 0 0 (by omega),vrel_plain _ rfl,trivial⟩ rfl (by simp [ren,shf]) (by simp [renO,renL_plain _ (rowsC_plain S H)]) hni
theorem val85_ok (r:Nat→Int) (l:List Int) (n:Nat) (hn:n<10):Ev Try.prog 85 [.int .i64 (n:Int),.pointer (some ⟨1,0,none⟩)] [.ro (ints l),.ro (rx r)] (.int .i64 (r n)) [.ro (ints l),.ro (rx r)]:=by
 have hc1:cellGet [.ro (ints l),.ro (rx r)] 1 (0+n*1)=some (.int .i64 (r n)):=by rw [Nat.zero_add,Nat.mul_one];exact rx_get hn
 refine acall_intro 2 7 Try.func85 rfl rfl rfl rfl rfl ?_
 repeat' (first|(refine gU ?_;first|(refine gMove ?_;refine st (ok_move rfl) rfl rfl ?_)|(refine gAssign ?_;refine st (ok_assign rfl) rfl rfl ?_)|(refine gLoad ?_;refine st (ok_load rfl (by exact hc1)) rfl rfl ?_)|(refine gIA ?_;refine st (ok_idxAN rfl rfl (by omega)) rfl rfl ?_))|refine W_seq ?_|refine W_region ?_|refine st_nil ?_|refine tq_n ?_|refine W_ret ?_)
 exact ret0 (.tmp rfl .nil) (.plain rfl rfl) ⟨rfl,rfl⟩
theorem greatest_ok (r:Nat→Int) (l:List Int) (hl:∀ i,i<l.length→0≤gi l i∧gi l i<10) (hN:l.length≤10) :
  Ev Try.prog 84 [sl 0 l.length,.func (.func 85) #[] #[.pointer (some ⟨1,0,none⟩)]] [.ro (ints l),.ro (rx r)] (.int .i64 (bestK r l l.length)) [.ro (ints l),.ro (rx r)]:=by
 refine acall_intro 2 32 Try.func84 rfl rfl rfl rfl rfl ?_
 repeat' (first|(refine gU ?_;first|(refine gMove ?_;refine st (ok_move rfl) rfl rfl ?_)|(refine gAssign ?_;refine st (ok_assign rfl) rfl rfl ?_)|(refine gLen ?_;refine st (ok_len rfl) rfl rfl ?_))|refine W_seq ?_|refine W_region ?_|refine st_nil ?_|refine tq_n ?_|refine W_block ?_)
 refine W_loopS (ι:=Nat) (fun k=>[(0,sl 0 l.length),(1,.func (.func 85) #[] #[.pointer (some ⟨1,0,none⟩)]),(5,.int .i64 (bestK r l k)),(8,sl 0 l.length),(9,.int .i64 (l.length:Int)),(10,.int .i64 (k:Int))])
  (fun _=>[.ro (ints l),.ro (rx r)]) (fun k=>l.length - k) (fun k=>k≤l.length) 0 (by simp) (.same ⟨rfl,rfl,rfl,rfl,rfl,rfl,trivial⟩) (by omega) ?_
 intro k hk
 by_cases hkl:k<l.length
 ·have hbr:=bestK_range r l k
  have hs:bestK r l (k+1)=if bestK r l k<0∨r (gi l k).toNat > r (gi l (bestK r l k).toNat).toNat then (k:Int) else bestK r l k:=rfl
  have hc1:cellGet [.ro (ints l),.ro (rx r)] 0 k=some (.int .i64 (gi l k)):=ints_get hkl
  have hlk:=hl k hkl
  have hv1:=val85_ok r l (gi l k).toNat (by omega)
  rw [show (((gi l k).toNat:Nat):Int)=gi l k by omega] at hv1
  by_cases hb:bestK r l k<0
  ·rw [if_pos (.inl hb)] at hs
   generalize bestK r l k=B at *
   repeat' (first|(refine gU ?_;first|(refine gMove ?_;refine st (ok_move rfl) rfl rfl ?_)|(refine gAssign ?_;refine st (ok_assign rfl) rfl rfl ?_)|(refine gLoad ?_;refine st (ok_load rfl (by exact hc1)) rfl rfl ?_)|(refine gAdd ?_;refine st (ok_inc rfl rfl (by omega)) rfl rfl ?_)|(refine gBin ?_;refine st (ok_bin rfl rfl rfl) rfl rfl ?_)|(refine gIA ?_;refine st (ok_idxN rfl rfl (by omega)) rfl rfl ?_))|(refine fU ?_;first|(refine fMove ?_;refine frA (ok_move rfl) rfl ?_)|(refine fBin ?_;refine frA (ok_bin rfl rfl rfl) rfl ?_)|(refine fPick ?_;refine frA (ok_pickTA rfl rfl) rfl ?_))|(refine fG ?_;refine frSA rfl rfl ?_)|(refine fr_stop ⟨by kernel_rfl,?_⟩)|refine W_seq ?_|refine W_region ?_|refine W_regionD (by kernel_rfl) rfl ?_|refine st_nil ?_|refine tq_n ?_|refine bq_n ?_|refine W_skip ?_|refine W_block ?_|refine W_condTA rfl ?_)
   exact ⟨rfl,k+1,by omega,by omega,.same ⟨rfl,rfl,by rw [hs];rfl,rfl,rfl,rfl,trivial⟩⟩
  ·have hk0:0<k:=Classical.byContradiction fun hn=>hb (by rw [hbr.1 (by omega)];omega)
   have hbk:=hbr.2 hk0
   have hlb:=hl (bestK r l k).toNat (by omega)
   have hc2:cellGet [.ro (ints l),.ro (rx r)] 0 (0+(bestK r l k).toNat*1)=some (.int .i64 (gi l (bestK r l k).toNat)):=by rw [Nat.zero_add,Nat.mul_one];exact ints_get (by omega)
   have hv2:=val85_ok r l (gi l (bestK r l k).toNat).toNat (by omega)
   rw [show (((gi l (bestK r l k).toNat).toNat:Nat):Int)=gi l (bestK r l k).toNat by omega] at hv2
   clear hbr
   generalize bestK r l k=B at *
   generalize gi l k=u at *
   generalize gi l B.toNat=w at *
   by_cases hq:r u.toNat > r w.toNat
   ·rw [if_pos (.inr hq)] at hs
    repeat' (first|(refine gU ?_;first|(refine gMove ?_;refine st (ok_move rfl) rfl rfl ?_)|(refine gAssign ?_;refine st (ok_assign rfl) rfl rfl ?_)|(refine gLoad ?_;refine st (ok_load rfl (by exact hc1)) rfl rfl ?_)|(refine gAdd ?_;refine st (ok_inc rfl rfl (by omega)) rfl rfl ?_)|(refine gBin ?_;refine st (ok_bin rfl rfl rfl) rfl rfl ?_)|(refine gIA ?_;refine st (ok_idxN rfl rfl (by omega)) rfl rfl ?_))|(refine fU ?_;first|(refine fMove ?_;refine frA (ok_move rfl) rfl ?_)|(refine fBin ?_;refine frA (ok_bin rfl rfl rfl) rfl ?_)|(refine fPick ?_;refine frA (ok_pickFA rfl rfl) rfl ?_))|(refine fG ?_;first|(refine fMove ?_;refine frGA rfl (ok_move rfl) rfl ?_)|(refine fLoad ?_;refine frGA rfl (ok_load rfl (by exact hc2)) rfl ?_)|(refine fBin ?_;refine frGA rfl (ok_bin rfl rfl rfl) rfl ?_)|(refine fIA ?_;refine frGA rfl (ok_idx rfl rfl (by omega) (by omega)) rfl ?_)|(refine fCall ?_;refine frGA rfl (ok_call rfl rfl rfl (by first|exact hv1|exact hv2)) rfl ?_))|(refine fr_stop ⟨by kernel_rfl,?_⟩)|refine W_seq ?_|refine W_region ?_|refine W_regionD (by kernel_rfl) rfl ?_|refine st_nil ?_|refine tq_n ?_|refine bq_n ?_|refine W_skip ?_|refine W_block ?_|refine W_condTA rfl ?_)
    exact ⟨rfl,k+1,by omega,by omega,.same ⟨rfl,rfl,by rw [hs];rfl,rfl,rfl,rfl,trivial⟩⟩
   ·rw [if_neg (fun h=>h.elim hb hq)] at hs
    repeat' (first|(refine gU ?_;first|(refine gMove ?_;refine st (ok_move rfl) rfl rfl ?_)|(refine gAssign ?_;refine st (ok_assign rfl) rfl rfl ?_)|(refine gLoad ?_;refine st (ok_load rfl (by exact hc1)) rfl rfl ?_)|(refine gAdd ?_;refine st (ok_inc rfl rfl (by omega)) rfl rfl ?_)|(refine gBin ?_;refine st (ok_bin rfl rfl rfl) rfl rfl ?_)|(refine gIA ?_;refine st (ok_idxN rfl rfl (by omega)) rfl rfl ?_))|(refine fU ?_;first|(refine fMove ?_;refine frA (ok_move rfl) rfl ?_)|(refine fBin ?_;refine frA (ok_bin rfl rfl rfl) rfl ?_)|(refine fPick ?_;refine frA (ok_pickFA rfl rfl) rfl ?_))|(refine fG ?_;first|(refine fMove ?_;refine frGA rfl (ok_move rfl) rfl ?_)|(refine fLoad ?_;refine frGA rfl (ok_load rfl (by exact hc2)) rfl ?_)|(refine fBin ?_;refine frGA rfl (ok_bin rfl rfl rfl) rfl ?_)|(refine fIA ?_;refine frGA rfl (ok_idx rfl rfl (by omega) (by omega)) rfl ?_)|(refine fCall ?_;refine frGA rfl (ok_call rfl rfl rfl (by first|exact hv1|exact hv2)) rfl ?_))|(refine fr_stop ⟨by kernel_rfl,?_⟩)|refine W_seq ?_|refine W_region ?_|refine W_regionD (by kernel_rfl) rfl ?_|refine st_nil ?_|refine tq_n ?_|refine bq_n ?_|refine W_skip ?_|refine W_block ?_|refine W_condTA rfl ?_|refine W_condFA rfl ?_)
    exact ⟨rfl,k+1,by omega,by omega,.same ⟨rfl,rfl,by rw [hs];rfl,rfl,rfl,rfl,trivial⟩⟩
 ·obtain rfl:k=l.length:=by omega
  repeat' (first|(refine gU ?_;first|(refine gMove ?_;refine st (ok_move rfl) rfl rfl ?_)|(refine gAssign ?_;refine st (ok_assign rfl) rfl rfl ?_)|(refine gBin ?_;refine st (ok_bin rfl rfl rfl) rfl rfl ?_))|refine W_seq ?_|refine W_region ?_|refine st_nil ?_|refine tq_n ?_|refine tq_e ?_|refine bq_hit rfl ?_|refine W_exit ?_|refine W_ret ?_|refine W_condFA rfl ?_)
  exact ret0 (.tmp rfl .nil) (.plain rfl rfl) ⟨rfl,rfl⟩
theorem greatest_ev {σ:Heap} {r:Nat→Int} {l:List Int} {x y:Nat} {v:Value} (hx:arrAt σ x (ints l)) (hy:arrAt σ y (rx r)) (hv:LS x l.length v) (hl:∀ i,i<l.length→0≤gi l i∧gi l i<10) (hN:l.length≤10) (hni:σ.all (fun o=>!isIter o)=true) :
  Ev Try.prog 84 [v,.func (.func 85) #[] #[.pointer (some ⟨y,0,none⟩)]] σ (.int .i64 (bestK r l l.length)) σ :=
 Ev.arrs [ints l,rx r] [x,y] (greatest_ok r l hl hN) ⟨hx,hy,trivial⟩ ⟨hv 2 0 _ (by omega) rfl,vsub_fnq (VQ.ptr (q:=true) (n:=2) (ρ:=bsR [x,y]) 1 0 (by omega)),trivial⟩ (by simp [ints_plain,rx_plain]) rfl hni
theorem top_ok (S:Shp) (hS:S.ok) (r:Nat→Int):Ev Try.prog 63 [.pointer (some ⟨0,0,none⟩),rxV r] [.ro (flL 1 2 3 S (fun i=>bI (rB S i))),.ro (ints S.d),.ro (pc S.f),.ro (ints S.s)] (.int .i64 (topV S r)) [.ro (flL 1 2 3 S (fun i=>bI (rB S i))),.ro (ints S.d),.ro (pc S.f),.ro (ints S.s)]:=by
 have n10:=hS.n10
 refine acall_intro 4 40 Try.func63 rfl rfl rfl rfl rfl ?_
 repeat' (first|(refine gU ?_;first|(refine gMove ?_;refine st (ok_move rfl) rfl rfl ?_)|(refine gAssign ?_;refine st (ok_assign rfl) rfl rfl ?_)|(refine gFA ?_;refine st (ok_fieldAddr rfl) rfl rfl ?_)|(refine gLoad ?_;refine st (ok_load rfl (by rfl)) rfl rfl ?_)|(refine gLen ?_;refine st (ok_len rfl) rfl rfl ?_)|(refine gNil ?_;refine st (ok_nilP rfl) rfl rfl ?_)|(refine gBox ?_;refine st (ok_box rfl) rfl rfl ?_))|refine W_seq ?_|refine W_region ?_|refine st_nil ?_|refine tq_n ?_|refine W_block ?_)
 refine W_loopS (ι:=Nat) (fun k=>[(0,.pointer (some ⟨0,0,none⟩)),(3,.pointer (some ⟨4,0,none⟩)),(5,slvV 5 1 (topK S r k).length),(13,.int .i64 (S.d.length:Int)),(14,.int .i64 (k:Int))])
  (fun k=>[.ro (flL 1 2 3 S (fun i=>bI (rB S i))),.ro (ints S.d),.ro (pc S.f),.ro (ints S.s),.rw (rx r),.gr (ints (topK S r k)) 3]) (fun k=>S.d.length - k) (fun k=>k≤S.d.length) 0 (by simp) (StRef.src [.ro (flL 1 2 3 S (fun i=>bI (rB S i))),.ro (ints S.d),.ro (pc S.f),.ro (ints S.s),.rw (rx r)] [.gr [] 3] [5] (by simp) rfl (hc_t5 S r) rfl rfl ⟨osub_gr0,trivial⟩ (by (repeat' (first|exact trivial|refine ⟨er_plain rfl rfl,?_⟩|refine ⟨er_closed (m:=5) rfl (fun i hi=>srcR_lt hi) (by simp) (by rfl) rfl,?_⟩)))) (by omega) ?_
 intro k hk
 have hkl:=topK_len S r k
 have hil2:(ints (topK S r k)).length=(topK S r k).length*1:=by simp [ints]
 by_cases hkd:k<S.d.length
 ·have hk10:k<10:=by omega
  have hisr:=isReached_ev (σ:=[.ro (flL 1 2 3 S (fun i=>bI (rB S i))),.ro (ints S.d),.ro (pc S.f),.ro (ints S.s),.rw (rx r),.gr (ints (topK S r k)) 3]) (S:=S) (q:=rB S) (r:=fun i=>bI (rB S i)) (n:=k) (p:=0) (x:=1) (y:=2) (z:=3) ⟨.inl rfl,.inl rfl,.inl rfl,.inl rfl⟩ rfl hk10 rfl
  have hc1:cellGet [.ro (flL 1 2 3 S (fun i=>bI (rB S i))),.ro (ints S.d),.ro (pc S.f),.ro (ints S.s),.rw (rx r),.gr (ints (topK S r k)) 3] 4 (0+k*1)=some (.int .i64 (r k)):=by rw [Nat.zero_add,Nat.mul_one];exact rx_get hk10
  have hs:topK S r (k+1)=if rB S k=true∧r k≥0 then topK S r k++[(k:Int)] else topK S r k:=rfl
  generalize hKL:topK S r k=KL at *
  generalize hrk:r k=rk at *
  cases hq:rB S k with
  |false =>
   rw [if_neg (fun h=>by rw [hq] at h;cases h.1)] at hs
   rw [hq] at hisr
   repeat' (first|(refine gU ?_;first|(refine gMove ?_;refine st (ok_move rfl) rfl rfl ?_)|(refine gAssign ?_;refine st (ok_assign rfl) rfl rfl ?_)|(refine gAdd ?_;refine st (ok_inc rfl rfl (by omega)) rfl rfl ?_)|(refine gBin ?_;refine st (ok_bin rfl rfl rfl) rfl rfl ?_)|(refine gPick ?_;refine st (ok_pickFA rfl rfl) rfl rfl ?_)|(refine gCall ?_;refine st (ok_call rfl rfl rfl (by exact hisr)) rfl rfl ?_))|(refine gG ?_;refine stSA rfl rfl ?_)|refine W_seq ?_|refine W_region ?_|refine st_nil ?_|refine tq_n ?_|refine bq_n ?_|refine W_skip ?_|refine W_block ?_|refine W_condTA rfl ?_|refine W_condFA rfl ?_)
   refine ⟨rfl,k+1,by omega,by omega,?_⟩
   rw [hs]
   exact .same ⟨rfl,rfl,rfl,rfl,rfl,trivial⟩
  |true =>
   rw [hq] at hisr
   by_cases hr0:rk≥0
   ·rw [if_pos ⟨hq,hr0⟩] at hs
    have hlen:(topK S r (k+1)).length=KL.length+1:=by rw [hs];simp
    have hcs:ints (topK S r (k+1))=ints KL++[.int .i64 (k:Int)]:=by rw [hs,ints_app]
    repeat' (first|(refine gU ?_;first|(refine gMove ?_;refine st (ok_move rfl) rfl rfl ?_)|(refine gAssign ?_;refine st (ok_assign rfl) rfl rfl ?_)|(refine gAdd ?_;refine st (ok_inc rfl rfl (by omega)) rfl rfl ?_)|(refine gBin ?_;refine st (ok_bin rfl rfl rfl) rfl rfl ?_)|(refine gPick ?_;refine st (ok_pickTA rfl rfl) rfl rfl ?_)|(refine gCall ?_;refine st (ok_call rfl rfl rfl (by exact hisr)) rfl rfl ?_)|(refine gBuildS ?_;refine st (ok_buildS (by rfl) (by rfl) (by rfl) (by rfl) rfl (by rfl)) rfl rfl ?_)|(refine gApp ?_;refine st (ok_appendV (by rfl) (by rfl) rfl (by rfl) (by exact hil2) rfl (by rfl) (by omega) (by rfl) (by omega) (by omega)) rfl rfl ?_))|(refine gG ?_;first|(refine gMove ?_;refine stGA rfl (ok_move rfl) rfl rfl ?_)|(refine gLoad ?_;refine stGA rfl (ok_load rfl (by exact hc1)) rfl rfl ?_)|(refine gBin ?_;refine stGA rfl (ok_bin rfl rfl rfl) rfl rfl ?_)|(refine gIA ?_;refine stGA rfl (ok_idxAN rfl rfl (by omega)) rfl rfl ?_))|refine W_seq ?_|refine W_region ?_|refine st_nil ?_|refine tq_n ?_|refine bq_n ?_|refine W_skip ?_|refine W_block ?_|refine W_condTA rfl ?_)
    exact ⟨rfl,k+1,by omega,by omega,StRef.src [.ro (flL 1 2 3 S (fun i=>bI (rB S i))),.ro (ints S.d),.ro (pc S.f),.ro (ints S.s),.rw (rx r)] [.gr (ints (topK S r (k+1))) 3] [7] (by simp) rfl (hc_t5 S r) rfl rfl ⟨osub_gr rfl (by rw [hcs];rfl) (ints_plain _),trivial⟩ (by (repeat' (first|exact trivial|refine ⟨er_plain rfl rfl,?_⟩|refine ⟨er_closed (m:=5) rfl (fun i hi=>srcR_lt hi) (by simp) (by rfl) rfl,?_⟩|refine ⟨er_slvV (by rw [hlen];rfl) (by simp) rfl,?_⟩)))⟩
   ·rw [if_neg (fun h=>hr0 h.2)] at hs
    repeat' (first|(refine gU ?_;first|(refine gMove ?_;refine st (ok_move rfl) rfl rfl ?_)|(refine gAssign ?_;refine st (ok_assign rfl) rfl rfl ?_)|(refine gAdd ?_;refine st (ok_inc rfl rfl (by omega)) rfl rfl ?_)|(refine gBin ?_;refine st (ok_bin rfl rfl rfl) rfl rfl ?_)|(refine gPick ?_;refine st (ok_pickTA rfl rfl) rfl rfl ?_)|(refine gCall ?_;refine st (ok_call rfl rfl rfl (by exact hisr)) rfl rfl ?_))|(refine gG ?_;first|(refine gMove ?_;refine stGA rfl (ok_move rfl) rfl rfl ?_)|(refine gLoad ?_;refine stGA rfl (ok_load rfl (by exact hc1)) rfl rfl ?_)|(refine gBin ?_;refine stGA rfl (ok_bin rfl rfl rfl) rfl rfl ?_)|(refine gIA ?_;refine stGA rfl (ok_idxAN rfl rfl (by omega)) rfl rfl ?_))|refine W_seq ?_|refine W_region ?_|refine st_nil ?_|refine tq_n ?_|refine bq_n ?_|refine W_skip ?_|refine W_block ?_|refine W_condTA rfl ?_|refine W_condFA rfl ?_)
    refine ⟨rfl,k+1,by omega,by omega,?_⟩
    rw [hs]
    exact .same ⟨rfl,rfl,rfl,rfl,rfl,trivial⟩
 ·obtain rfl:k=S.d.length:=by omega
  have hel:∀ i,i<(topK S r S.d.length).length→0≤gi (topK S r S.d.length) i∧gi (topK S r S.d.length) i<10:=fun i hi=>by
   obtain ⟨j,j1,j2,_⟩:=mem_topK.1 (mem_gi.2 ⟨i,hi,rfl⟩)
   rw [j2];omega
  have hgr:=greatest_ev (σ:=[.ro (flL 1 2 3 S (fun i=>bI (rB S i))),.ro (ints S.d),.ro (pc S.f),.ro (ints S.s),.rw (rx r),.gr (ints (topK S r S.d.length)) 3]) (r:=r) (l:=topK S r S.d.length) (x:=5) (y:=4) (v:=slvV 5 1 (topK S r S.d.length).length) (.inr (.inr ⟨_,rfl⟩)) (.inr (.inl rfl)) ls_slv hel (by omega) rfl
  have hbr:=bestK_range r (topK S r S.d.length) (topK S r S.d.length).length
  have hv:topV S r=if bestK r (topK S r S.d.length) (topK S r S.d.length).length<0 then -1 else gi (topK S r S.d.length) (bestK r (topK S r S.d.length) (topK S r S.d.length).length).toNat:=rfl
  have hc1:¬ bestK r (topK S r S.d.length) (topK S r S.d.length).length<0→cellGet [.ro (flL 1 2 3 S (fun i=>bI (rB S i))),.ro (ints S.d),.ro (pc S.f),.ro (ints S.s),.rw (rx r),.gr (ints (topK S r S.d.length)) 3] 5 ((bestK r (topK S r S.d.length) (topK S r S.d.length).length).toNat*1)=some (.int .i64 (gi (topK S r S.d.length) (bestK r (topK S r S.d.length) (topK S r S.d.length).length).toNat)):=fun h=>by
   rw [Nat.mul_one]
   refine ints_get ?_
   by_cases h0:(topK S r S.d.length).length=0
   ·exact absurd (by rw [hbr.1 h0];omega) h
   ·have:=hbr.2 (by omega);omega
  have hbl:¬ bestK r (topK S r S.d.length) (topK S r S.d.length).length<0→bestK r (topK S r S.d.length) (topK S r S.d.length).length<(topK S r S.d.length).length:=fun h=>by
   by_cases h0:(topK S r S.d.length).length=0
   ·exact absurd (by rw [hbr.1 h0];omega) h
   ·have:=hbr.2 (by omega);omega
  clear hel hbr
  generalize topK S r S.d.length=KL at *
  generalize bestK r KL KL.length=B at *
  by_cases hB:B<0
  ·rw [if_pos hB] at hv
   rw [hv]
   clear hc1 hbl
   repeat' (first|(refine gU ?_;first|(refine gMove ?_;refine st (ok_move rfl) rfl rfl ?_)|(refine gAssign ?_;refine st (ok_assign rfl) rfl rfl ?_)|(refine gBin ?_;refine st (ok_bin rfl rfl rfl) rfl rfl ?_)|(refine gMkF ?_;refine st (ok_makeFunc rfl rfl) rfl rfl ?_)|(refine gCall ?_;refine st (ok_call rfl rfl rfl (by exact hgr)) rfl rfl ?_))|refine W_seq ?_|refine W_region ?_|refine st_nil ?_|refine tq_n ?_|refine tq_r ?_|refine tq_e ?_|refine bq_hit rfl ?_|refine W_exit ?_|refine W_ret ?_|refine W_condTA rfl ?_|refine W_condFA rfl ?_)
   exact ret0 (.tmp rfl .nil) (.plain rfl rfl) ⟨rfl,rfl⟩
  ·rw [if_neg hB] at hv
   rw [hv]
   replace hc1:=hc1 hB
   replace hbl:=hbl hB
   repeat' (first|(refine gU ?_;first|refine st (ok_idxVI rfl rfl (by omega) (by omega)) rfl rfl ?_|(refine gMove ?_;refine st (ok_move rfl) rfl rfl ?_)|(refine gAssign ?_;refine st (ok_assign rfl) rfl rfl ?_)|(refine gLoad ?_;refine st (ok_load rfl (by exact hc1)) rfl rfl ?_)|(refine gBin ?_;refine st (ok_bin rfl rfl rfl) rfl rfl ?_)|(refine gMkF ?_;refine st (ok_makeFunc rfl rfl) rfl rfl ?_)|(refine gCall ?_;refine st (ok_call rfl rfl rfl (by exact hgr)) rfl rfl ?_))|refine W_seq ?_|refine W_region ?_|refine st_nil ?_|refine tq_n ?_|refine tq_e ?_|refine bq_hit rfl ?_|refine W_skip ?_|refine W_exit ?_|refine W_ret ?_|refine W_condFA rfl ?_)
   exact ret0 (.tmp rfl .nil) (.plain rfl rfl) ⟨rfl,rfl⟩
theorem top_ev {σ:Heap} {S:Shp} {r:Nat→Int} {p x y z:Nat} (h:FAt σ p x y z S (fun i=>bI (rB S i))) (hS:S.ok) (hni:σ.all (fun o=>!isIter o)=true) :
  Ev Try.prog 63 [.pointer (some ⟨p,0,none⟩),rxV r] σ (.int .i64 (topV S r)) σ :=
 h.ev (top_ok S hS r) ⟨VQ.ptr (q:=true) (n:=4) (ρ:=bsR [p,x,y,z]) 0 0 (by omega),vrel_plain _ (by simp [plain,plainA];exact rx_plain r),trivial⟩ rfl hni
end Go.Proofs.Ytomioaiojidnbaa
namespace Go.AH
open Go
section
variable {P:Program} {n0 N:Nat} {K:Env→List Nat→Heap→Prop} {mk:List Nat} {all:List Oper}
def readyOf (all:List Oper) (L:List Bool):List Nat:=Region.ready .any all.toArray L.toArray
def cntF:List Bool→Nat
 |[]=>0
 |b::L=>(if b then 0 else 1)+cntF L
def WStep (P:Program) (n0 N:Nat) (all:List Oper) (mk:List Nat) (E:List Bool→Env) (S:List Bool→Heap) (L:List Bool) (i:Nat):Prop :=
 ∃ o,all[i]?=some o∧WOps P n0 N none all [o] (fun e' mk' σ'=>mk'=mk∧StRef n0 σ' (S (L.set i true)) e' (E (L.set i true))) (E L) mk (S L)
def tabOk (all:List Oper) (tab:List (List Bool×List Nat)):Bool :=
 tab.all fun p=>(readyOf all p.1 == p.2) && p.2.all fun i=>(tab.any fun q=>q.1 == p.1.set i true) && Nat.blt (cntF (p.1.set i true)) (cntF p.1)
def StepL (P:Program) (n0 N:Nat) (all:List Oper) (mk:List Nat) (E:List Bool→Env) (S:List Bool→Heap) (L:List Bool):List Nat→Prop
 |[]=>True
 |i::is=>WStep P n0 N all mk E S L i∧StepL P n0 N all mk E S L is
def StepsT (P:Program) (n0 N:Nat) (all:List Oper) (mk:List Nat) (E:List Bool→Env) (S:List Bool→Heap):List (List Bool×List Nat)→Prop
 |[]=>True
 |p::r=>StepL P n0 N all mk E S p.1 p.2∧StepsT P n0 N all mk E S r
def tabEnd (tab:List (List Bool×List Nat)) (L1:List Bool):Bool:=tab.all fun p=>!p.2.isEmpty || p.1 == L1
def selE:List Bool→List (Nat×Value)→Env
 |true::L,p::r=>p::selE L r
 |false::L,_::r=>selE L r
 |_,_=>[]
end
section
variable {P:Program} {rd:Option Nat} {ty:TypeId} {e:Env} {σ:Heap} {x y z:Operand} {v:Value}
def mapGet (l:KMap) (k:Int×Int):Option Value :=
 match (l.map (·.1)).findIdx? (fun q=>decide (k=q)) with
 |some j=>(l[j]?).map (·.2)
 |none=>none
theorem ok_lookup {t kt et i:Nat} {l:KMap} {k:Int×Int} [hm:Mp P t kt et] [hk:Eq2 P kt] (hx:evalO e x=some (.map (some i))) (hi:σ[i]?=some (mapO l)) (hy:evalO e y=some (kv k)) (hv:mapGet l k=some v) :
  OpOk P rd (.lookup t x y false) ty e σ v σ :=
 opok_run (by simp) fun o ho _ G w0 ρ A w hs hop=>by
  obtain ⟨hxr,hil⟩:=vrel_map (hop x (by simp [Op.operands]) _ hx)
  have hyr:=vrel_plain_eq (hop y (by simp [Op.operands]) _ hy) (kv_plain k)
  obtain ⟨hG,ents,clock,hh,hM⟩:=sim_map hs hi
  obtain ⟨hl,hkeys⟩:=mrel_keys hM
  have hfind:=run_findKey2 (w:=w) hk k ents.toList (l.map (·.1)) hl hkeys
  obtain ⟨m1,m2,m3⟩:=hM
  simp only [List.length_map] at m1
  unfold mapGet at hv
  cases hf:(l.map (·.1)).findIdx? (fun q=>decide (k=q)) with
  |none=>rw [hf] at hv;cases hv
  |some j =>
   rw [hf] at hfind hv
   have hjl:j<l.length:=by have:=(List.findIdx?_eq_some_iff_findIdx_eq.1 hf).1;simpa using this
   have hje:j<ents.size:=by omega
   simp only [List.getElem?_eq_getElem hjl,Option.map_some,Option.some.injEq] at hv
   have hlook:ents.toList[j]?=some ents[j]:=by simp [hje]
   simp only [hlook,Option.map_some] at hfind
   have hrel:=(m2 j (by simpa using hjl) hje).2.2.1
   simp only [List.getElem_map,hv] at hrel
   refine ⟨ρ,ents[j].val,w,.inl ?_,hrel,Nat.le_refl _,fun _ _=>rfl,hs⟩
   simp [execOp,ho,Instr.lookup,run_underlying hm.und,hxr,hyr,MapKept.run_getObj_map hh,run_checkKey2 hk,hfind,Result.andThen]
end
end Go.AH
namespace Go.AH
open Go
def keys (l:KMap):List (Int×Int):=l.map (·.1)
theorem keys_up (l:KMap) (k:Int×Int) (v:Value):keys (mapUp l k v)=if k ∈ keys l then keys l else keys l++[k]:=by
 unfold mapUp
 cases hf:(l.map (·.1)).findIdx? (fun q=>decide (k=q)) with
 |none =>
  have:k ∉ keys l:=fun hk=>by
   rw [List.findIdx?_eq_none_iff] at hf
   have:=hf k hk
   simp at this
  rw [if_neg this];simp [keys]
 |some j =>
  obtain ⟨h1,h2,h3⟩:=List.findIdx?_eq_some_iff_getElem.1 hf
  have hk:k=(keys l)[j]:=of_decide_eq_true h2
  have:k ∈ keys l:=by rw [hk];exact List.getElem_mem h1
  rw [if_pos this]
  simp only [keys,List.map_set]
  refine List.ext_getElem (by simp) fun i h4 h5=>?_
  rw [List.getElem_set]
  split
  ·rename_i hji;subst hji;exact hk
  ·rfl
theorem keys_del_mem {l:KMap} {k p:Int×Int} (hn:(keys l).Nodup):p ∈ keys (mapDel l k)↔p ∈ keys l∧p ≠ k:=by
 unfold mapDel
 cases hf:(l.map (·.1)).findIdx? (fun q=>decide (k=q)) with
 |none =>
  have:k ∉ keys l:=fun hk=>by
   rw [List.findIdx?_eq_none_iff] at hf
   have:=hf k hk
   simp at this
  exact ⟨fun h=>⟨h,fun hpk=>this (hpk ▸ h)⟩,fun h=>h.1⟩
 |some j =>
  obtain ⟨h1,h2,h3⟩:=List.findIdx?_eq_some_iff_getElem.1 hf
  have hk:k=(keys l)[j]:=of_decide_eq_true h2
  have hke:keys (l.eraseIdx j)=(keys l).eraseIdx j:=by simp [keys,List.eraseIdx_eq_take_drop_succ,List.map_take,List.map_drop]
  simp only [hke]
  have h1':j<(keys l).length:=h1
  have hp:=List.pairwise_iff_getElem.1 hn
  rw [List.mem_eraseIdx_iff_getElem]
  constructor
  ·rintro ⟨i,hi,hne,rfl⟩
   refine ⟨List.getElem_mem _,fun he=>?_⟩
   rw [hk] at he
   rcases Nat.lt_or_gt_of_ne hne with h|h
   ·exact hp _ _ _ _ h he
   ·exact hp _ _ _ _ h he.symm
  ·rintro ⟨h4,h5⟩
   obtain ⟨i,hi,rfl⟩:=List.getElem_of_mem h4
   exact ⟨i,hi,fun hij=>h5 (by subst hij;exact hk.symm),rfl⟩
theorem mapDel_sub (l:KMap) (k:Int×Int):(mapDel l k).Sublist l:=by
 unfold mapDel
 split
 ·exact List.eraseIdx_sublist ..
 ·exact List.Sublist.refl _
theorem keys_del_nodup {l:KMap} {k:Int×Int} (hn:(keys l).Nodup):(keys (mapDel l k)).Nodup:=List.Nodup.sublist ((mapDel_sub l k).map _) hn
def left (l:KMap) (seen:List (Int×Int)):Nat:=((keys l).filter fun p=>decide (p ∉ seen)).length
theorem plainL_closed' {m:Nat} {v:Value} (h:plain v=true):closed m v=true∧okV v=true:=by
 have:=plainL_closed (n:=m) (l:=[v]) (by simp [plainL,h])
 simpa [closedL,okL] using this
theorem map_oclosed {m:Nat} {lm:KMap} (h:∀ q ∈ lm,plain q.2=true):oclosed m (mapO lm):=by
 intro p hp
 obtain ⟨q,hq,rfl⟩:=List.mem_map.1 hp
 exact plainL_closed' (h q hq)
theorem keys_up_nodup {l:KMap} {k:Int×Int} {v:Value} (hn:(keys l).Nodup):(keys (mapUp l k v)).Nodup:=by
 rw [keys_up]
 split
 ·exact hn
 ·rename_i h
  exact List.nodup_append.2 ⟨hn,by simp,fun a ha b hb=>by
   rw [List.mem_singleton] at hb
   subst hb
   intro hab;exact h (hab ▸ ha)⟩
theorem mem_key {l:KMap} {q:(Int×Int)×Value} (h:q ∈ l):q.1 ∈ keys l:=List.mem_map.2 ⟨q,h,rfl⟩
theorem key_uniq {l:KMap} (hn:(keys l).Nodup) {q r:(Int×Int)×Value} (hq:q ∈ l) (hr:r ∈ l) (h:q.1=r.1):q=r:=by
 obtain ⟨i,hi,rfl⟩:=List.getElem_of_mem hq
 obtain ⟨j,hj,rfl⟩:=List.getElem_of_mem hr
 have:=nodup_idx hn hi hj h
 subst this;rfl
theorem mem_del {l:KMap} {k:Int×Int} {q:(Int×Int)×Value} (hn:(keys l).Nodup):q ∈ mapDel l k↔q.1 ≠ k∧q ∈ l:=by
 constructor
 ·intro h
  exact ⟨((keys_del_mem hn).1 (mem_key h)).2,(mapDel_sub l k).subset h⟩
 ·rintro ⟨h1,h2⟩
  obtain ⟨r,hr,he⟩:=List.mem_map.1 ((keys_del_mem hn).2 ⟨mem_key h2,h1⟩)
  rw [← key_uniq hn ((mapDel_sub l k).subset hr) h2 he];exact hr
theorem mem_up {l:KMap} {k:Int×Int} {v:Value} {q:(Int×Int)×Value} (hn:(keys l).Nodup):q ∈ mapUp l k v↔q=(k,v)∨(q.1 ≠ k∧q ∈ l):=by
 unfold mapUp
 cases hf:(l.map (·.1)).findIdx? (fun q=>decide (k=q)) with
 |none =>
  have hk:k ∉ keys l:=fun hk=>by
   rw [List.findIdx?_eq_none_iff] at hf
   have:=hf k hk
   simp at this
  simp only [List.mem_append,List.mem_singleton]
  constructor
  ·rintro (h|h)
   ·exact .inr ⟨fun he=>hk (he ▸ mem_key h),h⟩
   ·exact .inl h
  ·rintro (h|h)
   ·exact .inr h
   ·exact .inl h.2
 |some j =>
  obtain ⟨h1,h2,h3⟩:=List.findIdx?_eq_some_iff_getElem.1 hf
  have hjl:j<l.length:=by simpa using h1
  have hk:k=l[j].1:=by have:=of_decide_eq_true h2;rwa [List.getElem_map] at this
  simp only
  constructor
  ·intro h
   obtain ⟨i,hi,rfl⟩:=List.getElem_of_mem h
   rw [List.length_set] at hi
   rw [List.getElem_set]
   split
   ·exact .inl rfl
   ·rename_i hji
    refine .inr ⟨fun he=>hji ?_,List.getElem_mem _⟩
    exact nodup_idx hn hjl hi (by rw [← hk,he])
  ·rintro (h|⟨h,h'⟩)
   ·rw [h];exact List.mem_iff_getElem.2 ⟨j,by simpa using hjl,by simp⟩
   ·obtain ⟨i,hi,rfl⟩:=List.getElem_of_mem h'
    have hji:j ≠ i:=fun he=>by subst he;exact h hk.symm
    exact List.mem_iff_getElem.2 ⟨i,by simpa using hi,by simp [hji]⟩
theorem get_mem {l:KMap} {k:Int×Int} {v:Value} (hn:(keys l).Nodup) (h:(k,v) ∈ l):mapGet l k=some v:=by
 unfold mapGet
 cases hf:(l.map (·.1)).findIdx? (fun q=>decide (k=q)) with
 |none =>
  rw [List.findIdx?_eq_none_iff] at hf
  have:=hf k (mem_key h)
  simp at this
 |some j =>
  obtain ⟨h1,h2,h3⟩:=List.findIdx?_eq_some_iff_getElem.1 hf
  have hjl:j<l.length:=by simpa using h1
  have hk:k=l[j].1:=by have:=of_decide_eq_true h2;rwa [List.getElem_map] at this
  have:=key_uniq hn (List.getElem_mem hjl) h hk.symm
  simp only [List.getElem?_eq_getElem hjl,Option.map_some,this]
end Go.AH
namespace Go.AH
open Go
theorem ok_lookupZ {P:Program} {rd:Option Nat} {ty:TypeId} {e:Env} {σ:Heap} {x y:Operand} {t kt et i size bytes:Nat} {agg:Bool} {z:Value} {l:KMap} {k:Int×Int} [hm:Mp P t kt et] [hk:Eq2 P kt] [ht:Ty P et size agg z bytes] (hz:plain z=true) (hx:evalO e x=some (.map (some i))) (hi:σ[i]?=some (mapO l)) (hy:evalO e y=some (kv k)) (hv:mapGet l k=none) :
  OpOk P rd (.lookup t x y false) ty e σ z σ :=
 opok_run (by simp) fun o ho _ G w0 ρ A w hs hop=>by
  obtain ⟨hxr,hil⟩:=vrel_map (hop x (by simp [Op.operands]) _ hx)
  have hyr:=vrel_plain_eq (hop y (by simp [Op.operands]) _ hy) (kv_plain k)
  obtain ⟨hG,ents,clock,hh,hM⟩:=sim_map hs hi
  obtain ⟨hl,hkeys⟩:=mrel_keys hM
  have hfind:=run_findKey2 (w:=w) hk k ents.toList (l.map (·.1)) hl hkeys
  have hf:(l.map (·.1)).findIdx? (fun q=>decide (k=q))=none:=by
   unfold mapGet at hv
   cases hf:(l.map (·.1)).findIdx? (fun q=>decide (k=q)) with
   |none=>rfl
   |some j =>
    rw [hf] at hv
    have hjl:j<l.length:=by have:=(List.findIdx?_eq_some_iff_findIdx_eq.1 hf).1;simpa using this
    simp [List.getElem?_eq_getElem hjl] at hv
  rw [hf] at hfind
  refine ⟨ρ,z,w,.inl ?_,vrel_plain z hz,Nat.le_refl _,fun _ _=>rfl,hs⟩
  simp [execOp,ho,Instr.lookup,run_underlying hm.und,hxr,hyr,MapKept.run_getObj_map hh,run_checkKey2 hk,hfind,Result.andThen,ht.zeroV]
structure MG (m:KMap) (G:Int×Int→Option Int):Prop where
 nd:(keys m).Nodup
 all:∀ (k:Int×Int) (v:Value),(k,v) ∈ m↔∃ n,v=.int .i64 n∧G k=some n
section
variable {m:KMap} {G:Int×Int→Option Int}
theorem MG.plain (h:MG m G):∀ r ∈ m,plain r.2=true:=fun r hr=>by
 obtain ⟨n,h1,_⟩:=(h.all r.1 r.2).1 hr
 rw [h1];rfl
theorem MG.get (h:MG m G) {k:Int×Int} {n:Int} (hk:G k=some n):mapGet m k=some (.int .i64 n):=get_mem h.nd ((h.all k _).2 ⟨n,rfl,hk⟩)
theorem MG.none (h:MG m G) {k:Int×Int} (hk:G k=none):mapGet m k=none:=by
 unfold mapGet
 cases hf:(m.map (·.1)).findIdx? (fun q=>decide (k=q)) with
 |none=>rfl
 |some j =>
  obtain ⟨h1,h2,h3⟩:=List.findIdx?_eq_some_iff_getElem.1 hf
  have hjl:j<m.length:=by simpa using h1
  have hkj:k=m[j].1:=by have:=of_decide_eq_true h2;rwa [List.getElem_map] at this
  obtain ⟨n,_,h5⟩:=(h.all m[j].1 m[j].2).1 (List.getElem_mem hjl)
  rw [← hkj,hk] at h5;cases h5
theorem MG.nil (hG:∀ k,G k=Option.none):MG [] G:=⟨List.nodup_nil,fun k v=>by simp [hG k]⟩
theorem MG.congr (h:MG m G) {G2:Int×Int→Option Int} (e:∀ k,G k=G2 k):MG m G2:=⟨h.nd,fun k v=>(h.all k v).trans (by simp only [e])⟩
theorem MG.up (h:MG m G) (k:Int×Int) (n:Int):MG (mapUp m k (.int .i64 n)) (fun q=>if q=k then some n else G q):=by
 refine ⟨keys_up_nodup h.nd,fun q v=>?_⟩
 rw [mem_up h.nd]
 constructor
 ·rintro (h1|⟨h1,h2⟩)
  ·simp only [Prod.mk.injEq] at h1
   exact ⟨n,h1.2,by rw [if_pos h1.1]⟩
  ·obtain ⟨a,h3,h4⟩:=(h.all q v).1 h2
   exact ⟨a,h3,by rw [if_neg h1];exact h4⟩
 ·rintro ⟨a,rfl,h1⟩
  by_cases hq:q=k
  ·rw [if_pos hq] at h1;cases h1;exact .inl (by rw [hq])
  ·rw [if_neg hq] at h1;exact .inr ⟨hq,(h.all q _).2 ⟨a,rfl,h1⟩⟩
theorem MG.del (h:MG m G) (k:Int×Int):MG (mapDel m k) (fun q=>if q=k then Option.none else G q):=by
 refine ⟨keys_del_nodup h.nd,fun q v=>?_⟩
 rw [mem_del h.nd]
 constructor
 ·rintro ⟨h1,h2⟩
  obtain ⟨a,h3,h4⟩:=(h.all q v).1 h2
  exact ⟨a,h3,by rw [if_neg h1];exact h4⟩
 ·rintro ⟨a,rfl,h1⟩
  by_cases hq:q=k
  ·rw [if_pos hq] at h1;cases h1
  ·rw [if_neg hq] at h1;exact ⟨hq,(h.all q _).2 ⟨a,rfl,h1⟩⟩
end
end Go.AH
namespace Go.AH.Dust
open Go Go.AH
abbrev goC (S:Shp) (h n k:Nat):Prop:=(gf S.f k).1=n∧0≤most S h (gf S.f k).2.toNat∧most S (h+1) n=gi S.d n+most S h (gf S.f k).2.toNat
def goF (S:Shp) (h n:Nat):Nat→Option Int
 |0=>none
 |k+1=>if goC S h n k then some (gf S.f k).2 else goF S h n k
theorem goF_some {S:Shp} {h n:Nat} {b:Int}:∀ {k:Nat},goF S h n k=some b→∃ j,j<k∧goC S h n j∧b=(gf S.f j).2
 |0,hb=>by cases hb
 |k+1,hb=>by
  simp only [goF] at hb
  split at hb
  ·rename_i hc
   cases hb
   exact ⟨k,by omega,hc,rfl⟩
  ·obtain ⟨j,h1,h2⟩:=goF_some hb;exact ⟨j,by omega,h2⟩
theorem goF_ex {S:Shp} {h n j:Nat}:∀ {k:Nat},j<k→goC S h n j→∃ b,goF S h n k=some b
 |0,hj,_=>by omega
 |k+1,hj,hc=>by
  simp only [goF]
  split
  ·exact ⟨_,rfl⟩
  ·rename_i hn
   by_cases hjk:j=k
   ·subst hjk;exact absurd hc hn
   ·exact goF_ex (by omega) hc
theorem mostF_at {S:Shp} {m:Nat→Int} {i:Nat}:∀ {k:Nat},0≤mostF S m i k→∃ j,j<k∧(gf S.f j).1=i∧0≤m (gf S.f j).2.toNat∧mostF S m i k=gi S.d i+m (gf S.f j).2.toNat
 |0,h=>by simp [mostF] at h
 |k+1,h=>by
  simp only [mostF] at h ⊢
  split at h
  ·rename_i hc
   rw [if_pos hc]
   by_cases hm:mostF S m i k≤gi S.d i+m (gf S.f k).2.toNat
   ·exact ⟨k,by omega,hc.1,hc.2,by omega⟩
   ·obtain ⟨j,h1,h2,h3,h4⟩:=mostF_at (S:=S) (m:=m) (i:=i) (k:=k) (by omega)
    exact ⟨j,by omega,h2,h3,by omega⟩
  ·rename_i hc
   rw [if_neg hc]
   obtain ⟨j,h1,h2⟩:=mostF_at h
   exact ⟨j,by omega,h2⟩
def goN (S:Shp) (h n:Nat):Int:=(goF S h n S.f.length).getD 0
theorem goN_is {S:Shp} {h n:Nat} (h0:0≤most S (h+1) n):goF S h n S.f.length=some (goN S h n)∧∃ j,j<S.f.length∧goC S h n j∧goN S h n=(gf S.f j).2:=by
 obtain ⟨j,h1,h2,h3,h4⟩:=mostF_at (S:=S) (m:=most S h) (i:=n) (k:=S.f.length) h0
 obtain ⟨b,hb⟩:=goF_ex (S:=S) (h:=h) (n:=n) h1 ⟨h2,h3,h4⟩
 have e:goN S h n=b:=by unfold goN;rw [hb];rfl
 rw [e]
 exact ⟨hb,goF_some hb⟩
def pathL (S:Shp):Nat→Int→List Int
 |0,w=>[w]
 |h+1,w=>w::pathL S h (goN S h w.toNat)
theorem pathL_len (S:Shp):∀ (h:Nat) (w:Int),(pathL S h w).length=h+1
 |0,_=>rfl
 |h+1,w=>by simp [pathL,pathL_len S h]
def byG (S:Shp) (H h n k:Nat) (q:Int×Int):Option Int :=
 if 0<q.1∧q.1<H∧0≤q.2∧q.2<S.d.length then
  if q.1 > h+1∨q.1=h+1∧q.2<n then goF S (q.1.toNat - 1) q.2.toNat S.f.length
  else if q.1=h+1∧q.2=n then goF S h n k else none
 else none
theorem byG_up {S:Shp} {H h n k:Nat} (hh:h+1<H) (hn:n<S.d.length) (hc:goC S h n k) (q:Int×Int):(if q=(((h+1:Nat):Int),(n:Int)) then some (gf S.f k).2 else byG S H h n k q)=byG S H h n (k+1) q:=by
 obtain ⟨a,b⟩:=q
 by_cases hq:(a,b)=(((h+1:Nat):Int),(n:Int))
 ·rw [if_pos hq]
  injection hq with h1 h2
  subst h1;subst h2
  simp only [byG]
  rw [if_pos ⟨by omega,by omega,by omega,by omega⟩,if_neg (by omega),if_pos ⟨by omega,by trivial⟩]
  simp only [goF];rw [if_pos hc]
 ·rw [if_neg hq]
  simp only [byG]
  have:¬ (a=(h:Int)+1∧b=n):=fun h=>hq (by rw [h.2,h.1];rfl)
  rw [if_neg this,if_neg this]
theorem byG_no {S:Shp} {H h n k:Nat} (hc:¬ goC S h n k) (q:Int×Int):byG S H h n k q=byG S H h n (k+1) q:=by
 simp only [byG,goF];rw [if_neg hc]
theorem byG_next {S:Shp} {H h n:Nat} (q:Int×Int):byG S H h n S.f.length q=byG S H h (n+1) 0 q:=by
 obtain ⟨a,b⟩:=q
 simp only [byG]
 by_cases h1:0<a∧a<H∧0≤b∧b<S.d.length
 ·rw [if_pos h1,if_pos h1]
  by_cases h2:a > h+1∨a=h+1∧b<n
  ·rw [if_pos h2,if_pos (by omega)]
  ·rw [if_neg h2]
   by_cases h3:a=h+1∧b=n
   ·rw [if_pos h3,if_pos (by omega),show a.toNat - 1=h by omega,show b.toNat=n by omega]
   ·rw [if_neg h3,if_neg (by omega)]
    simp only [goF];split <;> rfl
 ·rw [if_neg h1,if_neg h1]
theorem byG_hour {S:Shp} {H h:Nat} (q:Int×Int):byG S H (h+1) S.d.length 0 q=byG S H h 0 0 q:=by
 obtain ⟨a,b⟩:=q
 simp only [byG,goF]
 by_cases h1:0<a∧a<H∧0≤b∧b<S.d.length
 ·rw [if_pos h1,if_pos h1]
  repeat' split
  all_goals first|rfl|(exfalso;omega)
 ·rw [if_neg h1,if_neg h1]
end Go.AH.Dust
namespace Go.AH.Dust
open Go Go.AH
theorem er_ptr {n:Nat} {π:Rho} {e:Env} {t i j o:Nat} (h:Env.get e t=some (.pointer (some ⟨j,o,none⟩))) (hi:i<n) (hj:π i=⟨j,0,0⟩):∃ u,Env.get e t=some u∧VSub n π (.pointer (some ⟨i,o,none⟩)) u :=
 ⟨_,h,by simpa [hj] using VQ.ptr (q:=true) (n:=n) (ρ:=π) i o hi⟩
theorem byG_begin {S:Shp} {H:Nat} (q:Int×Int):byG S (H+1) H S.d.length 0 q=none:=by
 obtain ⟨a,b⟩:=q
 simp only [byG,goF]
 repeat' split
 all_goals first|rfl|(exfalso;omega)
theorem slC_closed {n i k:Nat} (h:i<n):oclosed n (.rw [sl i k]):=by
 obtain ⟨a,b⟩:=slice_closed (n:=n) (i:=i) (l:=k) (c:=k) h
 exact ⟨by simp [closedL,a],by simp [okL,b]⟩
theorem hc_p7 {n:Nat} (hn:5≤n) (S:Shp) (g:Nat→Int) (H:Nat) {r:Heap} (hr:HClosed n r):HClosed n (AObj.ro (flL 1 2 3 S g)::.ro (ints S.d)::.ro (pc S.f)::.ro (ints S.s)::.ro (rowsC S (H+1))::.rw [.pointer (some ⟨0,0,none⟩)]::.rw [sl 4 (H+1)]::r) :=
 ⟨fl_closed (by omega),plainL_closed (ints_plain _),plainL_closed (pc_plain _),plainL_closed (ints_plain _),plainL_closed (rowsC_plain _ _),⟨by simp [closedL,closed,Nat.blt_eq];omega,by simp [okL,okV]⟩,slC_closed (by omega),hr⟩
theorem byG_full {S:Shp} {H h w:Nat} (hh:h<H) (hw:w<S.d.length):byG S (H+1) 0 S.d.length 0 (((h+1:Nat):Int),(w:Int))=goF S h w S.f.length:=by
 simp only [byG]
 rw [if_pos ⟨by omega,by omega,by omega,by omega⟩,if_pos (by omega)]
 rw [show (((h+1:Nat):Int)).toNat - 1=h by omega,show ((w:Int)).toNat=w by omega]
theorem byG_zero {S:Shp} {H:Nat} {w:Int}:byG S (H+1) 0 S.d.length 0 (((0:Nat):Int),w)=none:=by
 simp only [byG]
 rw [if_neg (by omega)]
theorem hc_q9 (S:Shp) (g:Nat→Int) (H:Nat) (m:KMap) (hm:∀ q ∈ m,plain q.2=true):HClosed 9 [.ro (flL 1 2 3 S g),.ro (ints S.d),.ro (pc S.f),.ro (ints S.s),.ro (rowsC S (H+1)),.rw [.pointer (some ⟨0,0,none⟩)],.rw [sl 4 (H+1)],mapO m,.rw [.map (some 7)]] :=
 hc_p7 (by omega) S g H ⟨map_oclosed hm,⟨rfl,rfl⟩,trivial⟩
theorem hc_q10 (S:Shp) (g:Nat→Int) (H:Nat) (m:KMap) (hm:∀ q ∈ m,plain q.2=true) (t:Int):HClosed 10 [.ro (flL 1 2 3 S g),.ro (ints S.d),.ro (pc S.f),.ro (ints S.s),.ro (rowsC S (H+1)),.rw [.pointer (some ⟨0,0,none⟩)],.rw [sl 4 (H+1)],mapO m,.rw [.map (some 7)],.rw [.int .i64 t]] :=
 hc_p7 (by omega) S g H ⟨map_oclosed hm,⟨rfl,rfl⟩,plainL_closed rfl,trivial⟩
theorem hc_q15 (S:Shp) (g:Nat→Int) (H n:Nat) (m:KMap) (hm:∀ q ∈ m,plain q.2=true) (t:Int) (L:AObj) (hL:oclosed 15 L):HClosed 15 [.ro (flL 1 2 3 S g),.ro (ints S.d),.ro (pc S.f),.ro (ints S.s),.ro (rowsC S (H+1)),.rw [.pointer (some ⟨0,0,none⟩)],.rw [sl 4 (H+1)],mapO m,.rw [.map (some 7)],.rw [.int .i64 t],.rw [.int .i64 (n:Int)],.rw [.pointer (some ⟨0,0,none⟩)],.rw [.int .i64 (n:Int)],.dfr,L] :=
 hc_p7 (by omega) S g H ⟨map_oclosed hm,⟨rfl,rfl⟩,plainL_closed rfl,plainL_closed rfl,⟨rfl,rfl⟩,plainL_closed rfl,trivial,hL,trivial⟩
end Go.AH.Dust
namespace Go.Proofs.Ytomioaiojidnbaa
open Go Go.AH
attribute [local irreducible] WOps WCode WFree retQ thenQ blockQ scopeQ OpOk ACall RetRef roundA roundB
set_option maxRecDepth 100000
set_option maxHeartbeats 1000000
open Go.AH.Dust
instance:Mp Try.prog 113 115 3:=⟨by kernel_rfl⟩
theorem run64_ok (S:Shp) (hS:S.ok) (g:Nat→Int) (H first:Nat) (hH:H<24) (hf:first<S.d.length) (h0:0≤most S H first) :
  Ev Try.prog 64 [.pointer (some ⟨0,0,none⟩),sl 4 (H+1),.int .i64 (first:Int)] [.ro (flL 1 2 3 S g),.ro (ints S.d),.ro (pc S.f),.ro (ints S.s),.ro (rowsC S (H+1))] (sl 5 (H+1))
   [.ro (flL 1 2 3 S g),.ro (ints S.d),.ro (pc S.f),.ro (ints S.s),.ro (rowsC S (H+1)),.rw (ints (pathL S H first))]:=by
 have n10:=hS.n10
 have f60:=hS.f60
 refine acall_intro 5 98 Try.func64 rfl rfl rfl rfl rfl ?_
 repeat' (first|(refine gU ?_;first|refine st (ok_makeMap) rfl rfl ?_|(refine gAssign ?_;refine st (ok_assign rfl) rfl rfl ?_)|(refine gLoad ?_;refine st (ok_load rfl (by rfl)) rfl rfl ?_)|(refine gSub ?_;refine st (ok_sub rfl rfl (by omega) (by omega)) rfl rfl ?_)|(refine gLen ?_;refine st (ok_len rfl) rfl rfl ?_)|(refine gBox ?_;refine st (ok_box rfl) rfl rfl ?_)|(refine gAlloc ?_;refine st (ok_alloc rfl) rfl rfl ?_)|(refine gStore ?_;refine stN (ok_store rfl rfl rfl rfl (by rfl)) rfl ?_))|refine W_seq ?_|refine W_region ?_|refine st_nil ?_|refine tq_n ?_|refine W_block ?_)
 refine Tail.W_loopD (ι:=Nat×KMap) (fun q=>[(2,.int .i64 (first:Int)),(3,.pointer (some ⟨5,0,none⟩)),(4,.pointer (some ⟨6,0,none⟩)),(7,.pointer (some ⟨8,0,none⟩)),(8,.pointer (some ⟨9,0,none⟩))])
  (fun q=>[.ro (flL 1 2 3 S g),.ro (ints S.d),.ro (pc S.f),.ro (ints S.s),.ro (rowsC S (H+1)),.rw [.pointer (some ⟨0,0,none⟩)],.rw [sl 4 (H+1)],mapO q.2,.rw [.map (some 7)],.rw [.int .i64 (q.1:Int)]]) (fun q=>q.1) (fun q=>q.1≤H∧MG q.2 (byG S (H+1) q.1 S.d.length 0)) (H,[]) rfl (by (repeat' (first|exact Tail.tail_ret rfl|refine Tail.tail_then ?_ ?_|refine Tail.tail_block ?_|refine Tail.W_tail rfl ?_))) (fun _=>by simp) (fun q hq=>hc_q10 S g H q.2 hq.2.plain _)
  (.of ?_ (by simp)) ⟨Nat.le_refl _,MG.nil fun q=>byG_begin q⟩ ?_
 ·have e:((H+1:Nat):Int) - 1=(H:Int):=by omega
  simp only [← e]
  exact .same ⟨rfl,rfl,rfl,rfl,rfl,trivial⟩
 rintro ⟨t,m⟩ ⟨ht,hm⟩
 simp only at ht hm ⊢
 cases t with
 |zero =>
  repeat' (first|(refine gU ?_;first|(refine gMove ?_;refine st (ok_move rfl) rfl rfl ?_)|(refine gAssign ?_;refine st (ok_assign rfl) rfl rfl ?_)|(refine gLoad ?_;refine st (ok_load rfl (by rfl)) rfl rfl ?_)|(refine gSub ?_;refine st (ok_sub rfl rfl (by omega) (by omega)) rfl rfl ?_)|(refine gBin ?_;refine st (ok_bin rfl rfl rfl) rfl rfl ?_)|(refine gLen ?_;refine st (ok_len rfl) rfl rfl ?_)|(refine gBuild ?_;refine st (ok_build (by rfl) rfl (by rfl)) rfl rfl ?_)|(refine gAlloc ?_;refine st (ok_alloc rfl) rfl rfl ?_)|(refine gStore ?_;refine stN (ok_store rfl rfl rfl rfl (by rfl)) rfl ?_))|refine W_seq ?_|refine W_region ?_|refine st_nil ?_|refine tq_n ?_|refine tq_e ?_|refine bq_hit rfl ?_|refine W_exit ?_|refine W_block ?_|refine W_condFA rfl ?_)
  refine W_loopS (ι:=(Nat×Nat)×List Int×KMap) (fun q=>[(7,.pointer (some ⟨8,0,none⟩)),(12,slvV 11 1 q.2.1.length),(13,.pointer (some ⟨10,0,none⟩))])
   (fun q=>[.ro (flL 1 2 3 S g),.ro (ints S.d),.ro (pc S.f),.ro (ints S.s),.ro (rowsC S (H+1)),.rw [.pointer (some ⟨0,0,none⟩)],.rw [sl 4 (H+1)],mapO q.2.2,.rw [.map (some 7)],.rw [.int .i64 ((0:Nat):Int)],.rw [.int .i64 (q.1.1:Int),.int .i64 (q.1.2:Int)],.gr (ints q.2.1) 3]) (fun q=>q.1.1)
   (fun q=>q.1.2<S.d.length∧0≤most S q.1.1 q.1.2∧q.1.1≤H∧q.2.1.length+q.1.1=H∧q.2.1++pathL S q.1.1 q.1.2=pathL S H first∧∃ G,MG q.2.2 G∧∀ a b:Int,a≤q.1.1→G (a,b)=byG S (H+1) 0 S.d.length 0 (a,b)) ((H,first),[],m) (by simp)
   ?_ ⟨hf,h0,Nat.le_refl _,by simp,by simp,_,hm,fun a b _=>rfl⟩ ?_
  ·have e:((H+1:Nat):Int) - 1=(H:Int):=by omega
   exact StRef.src [.ro (flL 1 2 3 S g),.ro (ints S.d),.ro (pc S.f),.ro (ints S.s),.ro (rowsC S (H+1)),.rw [.pointer (some ⟨0,0,none⟩)],.rw [sl 4 (H+1)],mapO m,.rw [.map (some 7)],.rw [.int .i64 ((0:Nat):Int)]] [.rw [.int .i64 (H:Int),.int .i64 (first:Int)],.gr [] 3] [10,11] (by simp) rfl (hc_q10 S g H m hm.plain _) rfl rfl ⟨osub_rwp (j:=10) rfl (.inl (by rw [← e];rfl)) rfl,osub_gr0,trivial⟩ (by (repeat' (first|exact trivial|refine ⟨er_nil rfl,?_⟩|refine ⟨er_ptr rfl (by simp) rfl,?_⟩)))
  clear hm hf h0
  rintro ⟨⟨h,w⟩,out,m⟩ ⟨hw,hmost,hhH,hlenH,hpath,G,hm,hG⟩
  simp only at hw hmost hhH hlenH hpath hG hm ⊢
  have hil2:(ints out).length=out.length*1:=by simp [ints]
  have hdl:=hm.del ((h:Int),(w:Int))
  cases h with
  |zero =>
   have hnone:mapGet m (((0:Nat):Int),(w:Int))=none:=hm.none (by rw [hG _ _ (Int.le_refl _)];exact byG_zero)
   have hyes:((0:Nat):Int)=0∧(w:Int)=(w:Int):=⟨rfl,rfl⟩
   repeat' (first|(refine gU ?_;first|(refine gMove ?_;refine st (ok_move rfl) rfl rfl ?_)|(refine gAssign ?_;refine st (ok_assign rfl) rfl rfl ?_)|(refine gFA ?_;refine st (ok_fieldAddr rfl) rfl rfl ?_)|(refine gLoad ?_;first|refine st (ok_load rfl (by rfl)) rfl rfl ?_|refine st (ok_loadA rfl (by rfl)) rfl rfl ?_)|(refine gBuildS ?_;refine st (ok_buildS (by rfl) (by rfl) (by rfl) (by rfl) rfl (by rfl)) rfl rfl ?_)|(refine gApp ?_;refine st (ok_appendV (by rfl) (by rfl) rfl (by rfl) (by exact hil2) rfl (by rfl) (by omega) (by rfl) (by omega) (by omega)) rfl rfl ?_)|(refine gStore ?_;refine stN (ok_store rfl rfl rfl rfl (by rfl)) rfl ?_))|(refine fU ?_;first|refine frA (ok_lookupZ (i:=7) (k:=((_:Int),(_:Int))) rfl rfl rfl rfl hnone) rfl ?_|(refine fFA ?_;refine frA (ok_fieldAddr rfl) rfl ?_)|(refine fLoad ?_;first|refine frA (ok_load rfl (by rfl)) rfl ?_|refine frA (ok_loadA rfl (by rfl)) rfl ?_)|(refine fSub ?_;refine frA (ok_sub rfl rfl (by omega) (by omega)) rfl ?_)|(refine fBuild ?_;refine frA (ok_build (by rfl) rfl (by rfl)) rfl ?_)|(refine fAlloc ?_;refine fr1 (ok_alloc rfl) rfl rfl rfl ?_))|(refine fr_stop ⟨by kernel_rfl,?_⟩)|refine W_seq ?_|refine W_region ?_|refine W_regionD (by kernel_rfl) rfl ?_|refine st_nil ?_|refine tq_n ?_|refine W_block ?_)
   refine stN (ok_delete (i:=7) (l:=m) (k:=(((0:Nat):Int),(w:Int))) rfl rfl rfl) rfl ?_
   repeat' (first|(refine gU ?_;first|(refine gMove ?_;refine st (ok_move rfl) rfl rfl ?_)|(refine gAssign ?_;refine st (ok_assign rfl) rfl rfl ?_)|(refine gFA ?_;refine st (ok_fieldAddr rfl) rfl rfl ?_)|(refine gLoad ?_;first|refine st (ok_load rfl (by rfl)) rfl rfl ?_|refine st (ok_loadA rfl (by rfl)) rfl rfl ?_)|(refine gBin ?_;refine st (ok_eq2 rfl rfl) rfl rfl ?_)|(refine gBuild ?_;refine st (ok_build (by rfl) rfl (by rfl)) rfl rfl ?_))|refine W_seq ?_|refine W_region ?_|refine st_nil ?_|refine tq_n ?_|refine tq_r ?_|refine bq_r ?_|refine W_ret ?_|refine W_condTA rfl ?_)
   rw [← hpath]
   have hHe:H+1=out.length+1:=by omega
   refine ret0 (.tmp rfl .nil) (RetRef.src [.rw (ints (out++pathL S 0 w))] [13] rfl rfl rfl ⟨osub_rwp (j:=13) rfl (.inr ⟨3,by rw [pathL,ints_app];rfl⟩) (ints_plain _),trivial⟩ ?_) ⟨rfl,rfl⟩
   show VSub _ _ (sl 5 (H+1)) _
   rw [hHe]
   exact vsub_slvR (by simp) rfl
  |succ h =>
   obtain ⟨hgo,j,hj,hgc,hgb⟩:=goN_is hmost
   have hget:mapGet m (((h+1:Nat):Int),(w:Int))=some (.int .i64 (goN S h w)):=hm.get (by rw [hG _ _ (Int.le_refl _),byG_full (by omega) hw];exact hgo)
   obtain ⟨hw1,hw2,-⟩:=hS.f j hj
   rw [← hgb] at hw2
   have hmost2:0≤most S h (goN S h w).toNat:=by rw [hgb];exact hgc.2.1
   have hpl:pathL S (h+1) w=(w:Int)::pathL S h (goN S h w):=by rw [pathL];simp
   rw [hpl] at hpath
   have hbn:(((goN S h w).toNat:Nat):Int)=goN S h w:=by omega
   generalize goN S h w=b at *
   have hlen:(out++[(w:Int)]).length=out.length+1:=by simp
   have hno:¬ (((h+1:Nat):Int)=0∧(w:Int)=(w:Int)):=fun h'=>absurd h'.1 (by omega)
   have e:((h+1:Nat):Int) - 1=(h:Int):=by omega
   repeat' (first|(refine gU ?_;first|(refine gMove ?_;refine st (ok_move rfl) rfl rfl ?_)|(refine gAssign ?_;refine st (ok_assign rfl) rfl rfl ?_)|(refine gFA ?_;refine st (ok_fieldAddr rfl) rfl rfl ?_)|(refine gLoad ?_;first|refine st (ok_load rfl (by rfl)) rfl rfl ?_|refine st (ok_loadA rfl (by rfl)) rfl rfl ?_)|(refine gBuildS ?_;refine st (ok_buildS (by rfl) (by rfl) (by rfl) (by rfl) rfl (by rfl)) rfl rfl ?_)|(refine gApp ?_;refine st (ok_appendV (by rfl) (by rfl) rfl (by rfl) (by exact hil2) rfl (by rfl) (by omega) (by rfl) (by omega) (by omega)) rfl rfl ?_)|(refine gStore ?_;refine stN (ok_store rfl rfl rfl rfl (by rfl)) rfl ?_))|(refine fU ?_;first|refine frA (ok_lookup (i:=7) rfl rfl (k:=((_:Int),(_:Int))) rfl hget) rfl ?_|(refine fFA ?_;refine frA (ok_fieldAddr rfl) rfl ?_)|(refine fLoad ?_;first|refine frA (ok_load rfl (by rfl)) rfl ?_|refine frA (ok_loadA rfl (by rfl)) rfl ?_)|(refine fSub ?_;refine frA (ok_sub rfl rfl (by omega) (by omega)) rfl ?_)|(refine fBuild ?_;refine frA (ok_build (by rfl) rfl (by rfl)) rfl ?_)|(refine fAlloc ?_;refine fr1 (ok_alloc rfl) rfl rfl rfl ?_))|(refine fr_stop ⟨by kernel_rfl,?_⟩)|refine W_seq ?_|refine W_region ?_|refine W_regionD (by kernel_rfl) rfl ?_|refine st_nil ?_|refine tq_n ?_|refine W_block ?_)
   refine stN (ok_delete (i:=7) (l:=m) (k:=(((h+1:Nat):Int),(w:Int))) rfl rfl rfl) rfl ?_
   repeat' (first|(refine gU ?_;first|(refine gFA ?_;refine st (ok_fieldAddr rfl) rfl rfl ?_)|(refine gLoad ?_;first|refine st (ok_load rfl (by rfl)) rfl rfl ?_|refine st (ok_loadA rfl (by rfl)) rfl rfl ?_)|(refine gBin ?_;refine st (ok_eq2 rfl rfl) rfl rfl ?_)|(refine gBuild ?_;refine st (ok_build (by rfl) rfl (by rfl)) rfl rfl ?_)|(refine gAlloc ?_;refine st (ok_alloc rfl) rfl rfl ?_)|(refine gStore ?_;refine stN (ok_store rfl rfl rfl rfl (by rfl)) rfl ?_))|refine W_seq ?_|refine W_region ?_|refine st_nil ?_|refine tq_n ?_|refine bq_n ?_|refine W_skip ?_|refine W_condFA rfl ?_)
   refine ⟨rfl,((h,b.toNat),out++[(w:Int)],mapDel m (((h+1:Nat):Int),(w:Int))),⟨by simp only;omega,hmost2,by simp only;omega,by simp only [hlen];omega,by simp only [hbn];rw [← hpath];simp,_,hdl,fun a c ha=>?_⟩,by simp only;omega,?_⟩
   ·simp only at ha ⊢
    rw [if_neg (fun hh=>by injection hh with h1 _;omega)]
    exact hG a c (by omega)
   ·exact StRef.src [.ro (flL 1 2 3 S g),.ro (ints S.d),.ro (pc S.f),.ro (ints S.s),.ro (rowsC S (H+1)),.rw [.pointer (some ⟨0,0,none⟩)],.rw [sl 4 (H+1)],mapO (mapDel m (((h+1:Nat):Int),(w:Int))),.rw [.map (some 7)],.rw [.int .i64 ((0:Nat):Int)]] [.rw [.int .i64 (h:Int),.int .i64 ((b.toNat:Nat):Int)],.gr (ints (out++[(w:Int)])) 3] [15,13] (by simp) rfl (hc_q10 S g H _ hdl.plain _) rfl rfl ⟨osub_rwp (j:=15) rfl (.inl (by rw [hbn,← e];rfl)) rfl,osub_gr rfl (by rw [ints_app];rfl) (ints_plain _),trivial⟩ (by (repeat' (first|exact trivial|refine ⟨er_ptr rfl (by simp) rfl,?_⟩|refine ⟨er_slvV (by rw [hlen];rfl) (by simp) rfl,?_⟩)))
 |succ h =>
  have hm':=hm.congr byG_hour
  clear hm
  repeat' (first|(refine gU ?_;first|(refine gMove ?_;refine st (ok_move rfl) rfl rfl ?_)|(refine gFA ?_;refine st (ok_fieldAddr rfl) rfl rfl ?_)|(refine gLoad ?_;refine st (ok_load rfl (by rfl)) rfl rfl ?_)|(refine gBin ?_;refine st (ok_bin rfl rfl rfl) rfl rfl ?_)|(refine gLen ?_;refine st (ok_len rfl) rfl rfl ?_)|(refine gNil ?_;refine st (ok_nilP rfl) rfl rfl ?_))|refine W_seq ?_|refine W_region ?_|refine st_nil ?_|refine tq_n ?_|refine W_skip ?_|refine W_block ?_|refine W_condTA rfl ?_)
  refine Tail.W_loopD (ι:=Nat×KMap) (fun q=>[(2,.int .i64 (first:Int)),(3,.pointer (some ⟨5,0,none⟩)),(4,.pointer (some ⟨6,0,none⟩)),(7,.pointer (some ⟨8,0,none⟩)),(8,.pointer (some ⟨9,0,none⟩)),(27,sl 1 S.d.length),(28,.int .i64 (S.d.length:Int)),(29,.int .i64 (q.1:Int))])
   (fun q=>[.ro (flL 1 2 3 S g),.ro (ints S.d),.ro (pc S.f),.ro (ints S.s),.ro (rowsC S (H+1)),.rw [.pointer (some ⟨0,0,none⟩)],.rw [sl 4 (H+1)],mapO q.2,.rw [.map (some 7)],.rw [.int .i64 ((h+1:Nat):Int)]]) (fun q=>S.d.length - q.1) (fun q=>q.1≤S.d.length∧MG q.2 (byG S (H+1) h q.1 0)) (0,m) rfl (by (repeat' (first|exact Tail.tail_ret rfl|exact Tail.tail_loopD|refine Tail.tail_then ?_ ?_|refine Tail.tail_block ?_|refine Tail.W_tail rfl ?_))) (fun _=>by simp) (fun q hq=>hc_q10 S g H q.2 hq.2.plain _)
   (.of (.same ⟨rfl,rfl,rfl,rfl,rfl,rfl,rfl,rfl,trivial⟩) (by simp)) ⟨Nat.zero_le _,hm'⟩ ?_
  clear hm' m
  rintro ⟨n,m⟩ ⟨hn,hm⟩
  simp only at hn hm ⊢
  by_cases hnd:n<S.d.length
  ·have hnx:=next_ev (σ:=[.ro (flL 1 2 3 S g),.ro (ints S.d),.ro (pc S.f),.ro (ints S.s),.ro (rowsC S (H+1)),.rw [.pointer (some ⟨0,0,none⟩)],.rw [sl 4 (H+1)],mapO m,.rw [.map (some 7)],.rw [.int .i64 ((h+1:Nat):Int)],.rw [.int .i64 (n:Int)]]) (S:=S) (r:=g) (n:=(n:Int)) (p:=0) (x:=1) (y:=2) (z:=3) ⟨.inl rfl,.inl rfl,.inl rfl,.inl rfl⟩ rfl
   repeat' (first|(refine gU ?_;first|(refine gMove ?_;refine st (ok_move rfl) rfl rfl ?_)|(refine gLoad ?_;refine st (ok_load rfl (by rfl)) rfl rfl ?_)|(refine gBin ?_;refine st (ok_bin rfl rfl rfl) rfl rfl ?_)|(refine gCall ?_;refine st (ok_call rfl rfl rfl (by exact hnx)) rfl rfl ?_)|(refine gAlloc ?_;refine st (ok_alloc rfl) rfl rfl ?_)|(refine gStore ?_;refine stN (ok_store rfl rfl rfl rfl (by rfl)) rfl ?_))|refine W_seq ?_|refine W_region ?_|refine st_nil ?_|refine tq_n ?_|refine W_skip ?_|refine W_block ?_|refine W_condTA rfl ?_)
   refine W_st (by simp) (.same (e2:=[(2,.int .i64 (first:Int)),(3,.pointer (some ⟨5,0,none⟩)),(4,.pointer (some ⟨6,0,none⟩)),(7,.pointer (some ⟨8,0,none⟩)),(8,.pointer (some ⟨9,0,none⟩)),(9,.pointer (some ⟨10,0,none⟩)),(27,sl 1 S.d.length),(28,.int .i64 (S.d.length:Int)),(29,.int .i64 (n:Int)),(34,.func (.func 87) #[] #[.pointer (some ⟨11,0,none⟩),.pointer (some ⟨12,0,none⟩)])]) ⟨rfl,rfl,rfl,rfl,rfl,rfl,rfl,rfl,rfl,rfl,trivial⟩) ?_
   refine W_rangeFuncL (p:=[]) (q:=[.pointer (some ⟨11,0,none⟩),.pointer (some ⟨12,0,none⟩)]) rfl fun L hL=>?_
   have hLc:oclosed 15 L:=by
    rw [hL]
    exact env_closed fun p hp=>by
     simp only [List.mem_cons,List.not_mem_nil,or_false] at hp
     rcases hp with rfl|rfl|rfl|rfl|rfl|rfl|rfl|rfl|rfl|rfl <;> first|exact ⟨rfl,rfl⟩|exact slice_closed (by omega)
   have hLi:isIter L=false:=by rw [hL];rfl
   refine acall_intro 15 28 Try.func87 rfl rfl rfl rfl rfl ?_
   repeat' (first|(refine gU ?_;first|(refine gMove ?_;refine st (ok_move rfl) rfl rfl ?_)|(refine gFA ?_;refine st (ok_fieldAddr rfl) rfl rfl ?_)|(refine gLoad ?_;refine st (ok_load rfl (by rfl)) rfl rfl ?_)|(refine gLen ?_;refine st (ok_len rfl) rfl rfl ?_)|(refine gNil ?_;refine st (ok_nilP rfl) rfl rfl ?_))|refine W_seq ?_|refine W_region ?_|refine st_nil ?_|refine tq_n ?_|refine W_block ?_)
   refine W_loopS (ι:=Nat×KMap) (fun q=>[(0,.func (.yield 14) #[] #[]),(1,.pointer (some ⟨11,0,none⟩)),(2,.pointer (some ⟨12,0,none⟩)),(10,sl 2 S.f.length),(11,.int .i64 (S.f.length:Int)),(12,.int .i64 (q.1:Int))])
    (fun q=>[.ro (flL 1 2 3 S g),.ro (ints S.d),.ro (pc S.f),.ro (ints S.s),.ro (rowsC S (H+1)),.rw [.pointer (some ⟨0,0,none⟩)],.rw [sl 4 (H+1)],mapO q.2,.rw [.map (some 7)],.rw [.int .i64 ((h+1:Nat):Int)],.rw [.int .i64 (n:Int)],.rw [.pointer (some ⟨0,0,none⟩)],.rw [.int .i64 (n:Int)],.dfr,L]) (fun q=>S.f.length - q.1) (fun q=>q.1≤S.f.length∧MG q.2 (byG S (H+1) h n q.1)) (0,m) (by simp) (.same ⟨rfl,rfl,rfl,rfl,rfl,rfl,trivial⟩) ⟨Nat.zero_le _,hm⟩ ?_
   clear hm hnx
   rintro ⟨k,m⟩ ⟨hk,hm⟩
   simp only at hk hm ⊢
   by_cases hkl:k<S.f.length
   ·have hd2:∀ σ':Heap,cellsAt (.ro (flL 1 2 3 S g)::.ro (ints S.d)::.ro (pc S.f)::σ') 2 (0+k*2) 2=some [.int .i64 (gf S.f k).1,.int .i64 (gf S.f k).2]:=fun σ'=>pc_cells (.inl rfl) hkl
    obtain ⟨hw1,hw2,-⟩:=hS.f k hkl
    have hup:=hm.up (((h+1:Nat):Int),(n:Int)) (gf S.f k).2
    have hup2:=fun hc=>hup.congr (byG_up (by omega) hnd hc)
    have hno:=fun hc=>hm.congr (byG_no (S:=S) (H:=H+1) (h:=h) (n:=n) (k:=k) hc)
    have hmp:=hm.plain
    have hrx:=rowsC_at S (h:=H+1) (j:=h) (b:=(gf S.f k).2.toNat) (by omega) (by omega)
    have hry:=rowsC_at S (h:=H+1) (j:=h+1) (b:=n) (by omega) (by omega)
    have hrm:rowM S h (gf S.f k).2.toNat=most S h (gf S.f k).2.toNat:=by unfold rowM;rw [if_pos (by omega)]
    have hrn:rowM S (h+1) n=most S (h+1) n:=by unfold rowM;rw [if_pos (by omega)]
    have hxb:=most_bound hS h (gf S.f k).2.toNat (by omega)
    have hdb:=hS.d n hnd
    rw [hrm] at hrx
    rw [hrn] at hry
    have hc1:∀ σ':Heap,cellGet (AObj.ro (flL 1 2 3 S g)::.ro (ints S.d)::.ro (pc S.f)::.ro (ints S.s)::.ro (rowsC S (H+1))::.rw [.pointer (some ⟨0,0,none⟩)]::.rw [sl 4 (H+1)]::σ') 4 (0+(((h+1:Nat):Int) - 1).toNat*10+(gf S.f k).2.toNat*1)=some (.int .i64 (most S h (gf S.f k).2.toNat)):=fun σ'=>by
     rw [show (((h+1:Nat):Int) - 1).toNat=h by omega,Nat.mul_one,Nat.zero_add];exact hrx
    have hc2:∀ σ':Heap,cellGet (AObj.ro (flL 1 2 3 S g)::.ro (ints S.d)::.ro (pc S.f)::.ro (ints S.s)::.ro (rowsC S (H+1))::.rw [.pointer (some ⟨0,0,none⟩)]::.rw [sl 4 (H+1)]::σ') 4 (0+(h+1)*10+n*1)=some (.int .i64 (most S (h+1) n)):=fun σ'=>by
     rw [Nat.mul_one,Nat.zero_add];exact hry
    have hc3:∀ σ':Heap,cellGet (AObj.ro (flL 1 2 3 S g)::.ro (ints S.d)::.ro (pc S.f)::.ro (ints S.s)::.ro (rowsC S (H+1))::.rw [.pointer (some ⟨0,0,none⟩)]::.rw [sl 4 (H+1)]::σ') 1 n=some (.int .i64 (gi S.d n)):=fun σ'=>ints_get hnd
    have hcc:goC S h n k↔(gf S.f k).1=n∧0≤most S h (gf S.f k).2.toNat∧most S (h+1) n=gi S.d n+most S h (gf S.f k).2.toNat:=Iff.rfl
    generalize goC S h n k=C at *
    clear hrx hry hrm hrn hm hup
    generalize gf S.f k=p at *
    obtain ⟨a,b⟩:=p
    simp only at hw1 hw2 hcc hc1 hxb hd2 hup2
    generalize most S h b.toNat=x at *
    generalize most S (h+1) n=y at *
    generalize gi S.d n=d at *
    by_cases ha:a=(n:Int)
    ·by_cases hx:x≥0
     ·by_cases hy:y=d+x
      ·have hup3:=hup2 (hcc.2 ⟨ha,hx,hy⟩)
       clear hup2 hno hcc
       repeat' (first|(refine gU ?_;first|(refine gMove ?_;refine st (ok_move rfl) rfl rfl ?_)|(refine gLoad ?_;first|refine st (ok_load rfl (by rfl)) rfl rfl ?_|refine st (ok_loadA rfl (by exact hd2 _)) rfl rfl ?_)|(refine gBin ?_;refine st (ok_bin rfl rfl rfl) rfl rfl ?_)|(refine gIA ?_;first|refine st (ok_idxSN rfl rfl (by omega)) rfl rfl ?_|refine st (ok_idxA rfl rfl (by omega) (by omega)) rfl rfl ?_)|(refine gAlloc ?_;refine st (ok_alloc rfl) rfl rfl ?_)|(refine gStore ?_;refine stN (ok_store rfl rfl rfl rfl (by rfl)) rfl ?_))|(refine gG ?_;first|(refine gMove ?_;refine stGA rfl (ok_move rfl) rfl rfl ?_)|(refine gLoad ?_;refine stGA rfl (ok_load rfl (by rfl)) rfl rfl ?_)|(refine gIA ?_;refine stGA rfl (ok_idxA rfl rfl (by omega) (by omega)) rfl rfl ?_))|refine W_seq ?_|refine W_region ?_|refine st_nil ?_|refine tq_n ?_|refine W_skip ?_|refine W_block ?_|refine W_condTA rfl ?_)
       refine st_yieldG (l:=14) rfl rfl (by rw [hL];rfl) rfl rfl rfl (fun _ _ _ _ he=>wanted_rel (b:=true) (by rw [wantedA_some (b:=decide (a=(n:Int))) rfl,decide_eq_true ha];rfl) he) ?_
       repeat' (first|(refine gU ?_;(refine gAssign ?_;refine st (ok_assign rfl) rfl rfl ?_))|refine W_region ?_|refine st_nil ?_)
       refine roundA_n (by rw [hL];rfl) ?_
       repeat' (first|(refine gU ?_;first|(refine gMove ?_;refine st (ok_move rfl) rfl rfl ?_)|(refine gAssign ?_;refine st (ok_assign rfl) rfl rfl ?_)|(refine gLoad ?_;refine st (ok_load rfl (by first|rfl|exact hc1 _)) rfl rfl ?_)|(refine gSub ?_;refine st (ok_sub rfl rfl (by omega) (by omega)) rfl rfl ?_)|(refine gIA ?_;first|refine st (ok_idx rfl rfl (by omega) (by omega)) rfl rfl ?_|refine st (ok_idxA rfl rfl (by omega) (by omega)) rfl rfl ?_)|(refine gBuild ?_;refine st (ok_build (by rfl) rfl (by rfl)) rfl rfl ?_))|(refine fU ?_;first|(refine fMove ?_;refine frA (ok_move rfl) rfl ?_)|(refine fBin ?_;refine frA (ok_bin rfl rfl rfl) rfl ?_)|(refine fPick ?_;refine frA (ok_pickTA rfl rfl) rfl ?_))|(refine fG ?_;first|(refine fMove ?_;refine frGA rfl (ok_move rfl) rfl ?_)|(refine fFA ?_;refine frGA rfl (ok_fieldAddr rfl) rfl ?_)|(refine fLoad ?_;refine frGA rfl (ok_load rfl (by first|rfl|exact hc2 _|exact hc3 _)) rfl ?_)|(refine fAdd ?_;refine frGA rfl (ok_add rfl rfl (by omega) (by omega)) rfl ?_)|(refine fBin ?_;refine frGA rfl (ok_bin rfl rfl rfl) rfl ?_)|(refine fNil ?_;refine frGA rfl (ok_nilP rfl) rfl ?_)|(refine fIA ?_;first|refine frGA rfl (ok_idxN rfl rfl (by omega)) rfl ?_|refine frGA rfl (ok_idxSN rfl rfl (by omega)) rfl ?_|refine frGA rfl (ok_idxAN rfl rfl (by omega)) rfl ?_))|(refine fr_stop ⟨by kernel_rfl,?_⟩)|refine W_seq ?_|refine W_region ?_|refine W_regionD (by kernel_rfl) rfl ?_|refine st_nil ?_|refine tq_n ?_|refine W_block ?_|refine W_condTA rfl ?_)
       refine stN (ok_mapUpdate (i:=7) (l:=m) (k:=(((h+1:Nat):Int),(n:Int))) (v:=.int .i64 b) rfl rfl rfl rfl (by rw [hL];rfl)) rfl ?_
       repeat' (first|refine st_nil ?_|refine bq_n ?_)
       refine roundB_n rfl rfl ?_
       repeat' (first|(refine gU ?_;first|(refine gMove ?_;refine st (ok_move rfl) rfl rfl ?_)|(refine gAdd ?_;refine st (ok_inc rfl rfl (by omega)) rfl rfl ?_)|(refine gPick ?_;refine st (ok_pickTA rfl rfl) rfl rfl ?_))|(refine gG ?_;(refine gNot ?_;refine stGA rfl (ok_not' rfl) rfl rfl ?_))|refine W_region ?_|refine st_nil ?_|refine tq_n ?_|refine bq_n ?_|refine W_skip ?_|refine W_condFA rfl ?_)
       refine ⟨rfl,(k+1,mapUp m (((h+1:Nat):Int),(n:Int)) (.int .i64 b)),⟨by simp only;omega,hup3⟩,by simp only;omega,?_⟩
       rw [hL]
       exact StRef.drop [.ro (flL 1 2 3 S g),.ro (ints S.d),.ro (pc S.f),.ro (ints S.s),.ro (rowsC S (H+1)),.rw [.pointer (some ⟨0,0,none⟩)],.rw [sl 4 (H+1)],mapO (mapUp m (((h+1:Nat):Int),(n:Int)) (.int .i64 b)),.rw [.map (some 7)],.rw [.int .i64 ((h+1:Nat):Int)],.rw [.int .i64 (n:Int)],.rw [.pointer (some ⟨0,0,none⟩)],.rw [.int .i64 (n:Int)],.dfr,_] [_] (by simp) (hc_q15 S g H n _ hup3.plain _ _ (by have:=hLc;rw [hL] at this;exact this)) (by (repeat' (first|exact trivial|exact ⟨rfl,rfl,rfl⟩|exact ⟨rfl,closed_slice rfl,rfl⟩|refine ⟨?_,?_⟩)))
      ·have hno2:=hno (fun h=>hy (hcc.1 h).2.2)
       clear hup2 hno hcc
       repeat' (first|(refine gU ?_;first|(refine gMove ?_;refine st (ok_move rfl) rfl rfl ?_)|(refine gLoad ?_;first|refine st (ok_load rfl (by rfl)) rfl rfl ?_|refine st (ok_loadA rfl (by exact hd2 _)) rfl rfl ?_)|(refine gBin ?_;refine st (ok_bin rfl rfl rfl) rfl rfl ?_)|(refine gIA ?_;first|refine st (ok_idxSN rfl rfl (by omega)) rfl rfl ?_|refine st (ok_idxA rfl rfl (by omega) (by omega)) rfl rfl ?_)|(refine gAlloc ?_;refine st (ok_alloc rfl) rfl rfl ?_)|(refine gStore ?_;refine stN (ok_store rfl rfl rfl rfl (by rfl)) rfl ?_))|(refine gG ?_;first|(refine gMove ?_;refine stGA rfl (ok_move rfl) rfl rfl ?_)|(refine gLoad ?_;refine stGA rfl (ok_load rfl (by rfl)) rfl rfl ?_)|(refine gIA ?_;refine stGA rfl (ok_idxA rfl rfl (by omega) (by omega)) rfl rfl ?_))|refine W_seq ?_|refine W_region ?_|refine st_nil ?_|refine tq_n ?_|refine W_skip ?_|refine W_block ?_|refine W_condTA rfl ?_)
       refine st_yieldG (l:=14) rfl rfl (by rw [hL];rfl) rfl rfl rfl (fun _ _ _ _ he=>wanted_rel (b:=true) (by rw [wantedA_some (b:=decide (a=(n:Int))) rfl,decide_eq_true ha];rfl) he) ?_
       repeat' (first|(refine gU ?_;(refine gAssign ?_;refine st (ok_assign rfl) rfl rfl ?_))|refine W_region ?_|refine st_nil ?_)
       refine roundA_n (by rw [hL];rfl) ?_
       repeat' (first|(refine gU ?_;first|(refine gMove ?_;refine st (ok_move rfl) rfl rfl ?_)|(refine gAssign ?_;refine st (ok_assign rfl) rfl rfl ?_)|(refine gLoad ?_;refine st (ok_load rfl (by first|rfl|exact hc1 _)) rfl rfl ?_)|(refine gSub ?_;refine st (ok_sub rfl rfl (by omega) (by omega)) rfl rfl ?_)|(refine gIA ?_;first|refine st (ok_idx rfl rfl (by omega) (by omega)) rfl rfl ?_|refine st (ok_idxA rfl rfl (by omega) (by omega)) rfl rfl ?_))|(refine fU ?_;first|(refine fMove ?_;refine frA (ok_move rfl) rfl ?_)|(refine fBin ?_;refine frA (ok_bin rfl rfl rfl) rfl ?_)|(refine fPick ?_;refine frA (ok_pickTA rfl rfl) rfl ?_))|(refine fG ?_;first|(refine fMove ?_;refine frGA rfl (ok_move rfl) rfl ?_)|(refine fFA ?_;refine frGA rfl (ok_fieldAddr rfl) rfl ?_)|(refine fLoad ?_;refine frGA rfl (ok_load rfl (by first|rfl|exact hc2 _|exact hc3 _)) rfl ?_)|(refine fAdd ?_;refine frGA rfl (ok_add rfl rfl (by omega) (by omega)) rfl ?_)|(refine fBin ?_;refine frGA rfl (ok_bin rfl rfl rfl) rfl ?_)|(refine fNil ?_;refine frGA rfl (ok_nilP rfl) rfl ?_)|(refine fIA ?_;first|refine frGA rfl (ok_idxN rfl rfl (by omega)) rfl ?_|refine frGA rfl (ok_idxSN rfl rfl (by omega)) rfl ?_|refine frGA rfl (ok_idxAN rfl rfl (by omega)) rfl ?_))|(refine fr_stop ⟨by kernel_rfl,?_⟩)|refine W_seq ?_|refine W_region ?_|refine W_regionD (by kernel_rfl) rfl ?_|refine st_nil ?_|refine tq_n ?_|refine bq_n ?_|refine W_skip ?_|refine W_block ?_|refine W_condFA rfl ?_)
       refine roundB_n rfl rfl ?_
       repeat' (first|(refine gU ?_;first|(refine gMove ?_;refine st (ok_move rfl) rfl rfl ?_)|(refine gAdd ?_;refine st (ok_inc rfl rfl (by omega)) rfl rfl ?_)|(refine gPick ?_;refine st (ok_pickTA rfl rfl) rfl rfl ?_))|(refine gG ?_;(refine gNot ?_;refine stGA rfl (ok_not' rfl) rfl rfl ?_))|refine W_region ?_|refine st_nil ?_|refine tq_n ?_|refine bq_n ?_|refine W_skip ?_|refine W_condFA rfl ?_)
       refine ⟨rfl,(k+1,m),⟨by simp only;omega,hno2⟩,by simp only;omega,?_⟩
       rw [hL]
       exact StRef.drop [.ro (flL 1 2 3 S g),.ro (ints S.d),.ro (pc S.f),.ro (ints S.s),.ro (rowsC S (H+1)),.rw [.pointer (some ⟨0,0,none⟩)],.rw [sl 4 (H+1)],mapO m,.rw [.map (some 7)],.rw [.int .i64 ((h+1:Nat):Int)],.rw [.int .i64 (n:Int)],.rw [.pointer (some ⟨0,0,none⟩)],.rw [.int .i64 (n:Int)],.dfr,_] [_] (by simp) (hc_q15 S g H n m hmp _ _ (by have:=hLc;rw [hL] at this;exact this)) (by (repeat' (first|exact trivial|exact ⟨rfl,rfl,rfl⟩|exact ⟨rfl,closed_slice rfl,rfl⟩|refine ⟨?_,?_⟩)))
     ·have hno2:=hno (fun h=>hx (hcc.1 h).2.1)
      clear hup2 hno hcc
      repeat' (first|(refine gU ?_;first|(refine gMove ?_;refine st (ok_move rfl) rfl rfl ?_)|(refine gLoad ?_;first|refine st (ok_load rfl (by rfl)) rfl rfl ?_|refine st (ok_loadA rfl (by exact hd2 _)) rfl rfl ?_)|(refine gBin ?_;refine st (ok_bin rfl rfl rfl) rfl rfl ?_)|(refine gIA ?_;first|refine st (ok_idxSN rfl rfl (by omega)) rfl rfl ?_|refine st (ok_idxA rfl rfl (by omega) (by omega)) rfl rfl ?_)|(refine gAlloc ?_;refine st (ok_alloc rfl) rfl rfl ?_)|(refine gStore ?_;refine stN (ok_store rfl rfl rfl rfl (by rfl)) rfl ?_))|(refine gG ?_;first|(refine gMove ?_;refine stGA rfl (ok_move rfl) rfl rfl ?_)|(refine gLoad ?_;refine stGA rfl (ok_load rfl (by rfl)) rfl rfl ?_)|(refine gIA ?_;refine stGA rfl (ok_idxA rfl rfl (by omega) (by omega)) rfl rfl ?_))|refine W_seq ?_|refine W_region ?_|refine st_nil ?_|refine tq_n ?_|refine W_skip ?_|refine W_block ?_|refine W_condTA rfl ?_)
      refine st_yieldG (l:=14) rfl rfl (by rw [hL];rfl) rfl rfl rfl (fun _ _ _ _ he=>wanted_rel (b:=true) (by rw [wantedA_some (b:=decide (a=(n:Int))) rfl,decide_eq_true ha];rfl) he) ?_
      repeat' (first|(refine gU ?_;(refine gAssign ?_;refine st (ok_assign rfl) rfl rfl ?_))|refine W_region ?_|refine st_nil ?_)
      refine roundA_n (by rw [hL];rfl) ?_
      repeat' (first|(refine gU ?_;first|(refine gMove ?_;refine st (ok_move rfl) rfl rfl ?_)|(refine gAssign ?_;refine st (ok_assign rfl) rfl rfl ?_)|(refine gLoad ?_;refine st (ok_load rfl (by first|rfl|exact hc1 _)) rfl rfl ?_)|(refine gSub ?_;refine st (ok_sub rfl rfl (by omega) (by omega)) rfl rfl ?_)|(refine gIA ?_;first|refine st (ok_idx rfl rfl (by omega) (by omega)) rfl rfl ?_|refine st (ok_idxA rfl rfl (by omega) (by omega)) rfl rfl ?_))|(refine fU ?_;first|(refine fMove ?_;refine frA (ok_move rfl) rfl ?_)|(refine fBin ?_;refine frA (ok_bin rfl rfl rfl) rfl ?_)|(refine fPick ?_;refine frA (ok_pickFA rfl rfl) rfl ?_))|(refine fG ?_;refine frSA rfl rfl ?_)|(refine fr_stop ⟨by kernel_rfl,?_⟩)|refine W_seq ?_|refine W_region ?_|refine W_regionD (by kernel_rfl) rfl ?_|refine st_nil ?_|refine tq_n ?_|refine bq_n ?_|refine W_skip ?_|refine W_block ?_|refine W_condFA rfl ?_)
      refine roundB_n rfl rfl ?_
      repeat' (first|(refine gU ?_;first|(refine gMove ?_;refine st (ok_move rfl) rfl rfl ?_)|(refine gAdd ?_;refine st (ok_inc rfl rfl (by omega)) rfl rfl ?_)|(refine gPick ?_;refine st (ok_pickTA rfl rfl) rfl rfl ?_))|(refine gG ?_;(refine gNot ?_;refine stGA rfl (ok_not' rfl) rfl rfl ?_))|refine W_region ?_|refine st_nil ?_|refine tq_n ?_|refine bq_n ?_|refine W_skip ?_|refine W_condFA rfl ?_)
      refine ⟨rfl,(k+1,m),⟨by simp only;omega,hno2⟩,by simp only;omega,?_⟩
      rw [hL]
      exact StRef.drop [.ro (flL 1 2 3 S g),.ro (ints S.d),.ro (pc S.f),.ro (ints S.s),.ro (rowsC S (H+1)),.rw [.pointer (some ⟨0,0,none⟩)],.rw [sl 4 (H+1)],mapO m,.rw [.map (some 7)],.rw [.int .i64 ((h+1:Nat):Int)],.rw [.int .i64 (n:Int)],.rw [.pointer (some ⟨0,0,none⟩)],.rw [.int .i64 (n:Int)],.dfr,_] [_] (by simp) (hc_q15 S g H n m hmp _ _ (by have:=hLc;rw [hL] at this;exact this)) (by (repeat' (first|exact trivial|exact ⟨rfl,rfl,rfl⟩|exact ⟨rfl,closed_slice rfl,rfl⟩|refine ⟨?_,?_⟩)))
    ·have hno2:=hno (fun h=>ha (hcc.1 h).1)
     clear hup2 hno hcc
     repeat' (first|(refine gU ?_;first|(refine gMove ?_;refine st (ok_move rfl) rfl rfl ?_)|(refine gLoad ?_;first|refine st (ok_load rfl (by rfl)) rfl rfl ?_|refine st (ok_loadA rfl (by exact hd2 _)) rfl rfl ?_)|(refine gAdd ?_;refine st (ok_inc rfl rfl (by omega)) rfl rfl ?_)|(refine gBin ?_;refine st (ok_bin rfl rfl rfl) rfl rfl ?_)|(refine gPick ?_;refine st (ok_pickFA rfl rfl) rfl rfl ?_)|(refine gIA ?_;first|refine st (ok_idxSN rfl rfl (by omega)) rfl rfl ?_|refine st (ok_idxA rfl rfl (by omega) (by omega)) rfl rfl ?_)|(refine gAlloc ?_;refine st (ok_alloc rfl) rfl rfl ?_)|(refine gStore ?_;refine stN (ok_store rfl rfl rfl rfl (by rfl)) rfl ?_))|(refine gG ?_;refine stSA rfl rfl ?_)|refine W_seq ?_|refine W_region ?_|refine st_nil ?_|refine tq_n ?_|refine bq_n ?_|refine W_skip ?_|refine W_block ?_|refine W_condTA rfl ?_|refine W_condFA rfl ?_)
     exact ⟨rfl,(k+1,m),⟨by simp only;omega,hno2⟩,by simp only;omega,StRef.drop [.ro (flL 1 2 3 S g),.ro (ints S.d),.ro (pc S.f),.ro (ints S.s),.ro (rowsC S (H+1)),.rw [.pointer (some ⟨0,0,none⟩)],.rw [sl 4 (H+1)],mapO m,.rw [.map (some 7)],.rw [.int .i64 ((h+1:Nat):Int)],.rw [.int .i64 (n:Int)],.rw [.pointer (some ⟨0,0,none⟩)],.rw [.int .i64 (n:Int)],.dfr,L] [_] (by simp) (hc_q15 S g H n m hmp _ L hLc) (by (repeat' (first|exact trivial|exact ⟨rfl,rfl,rfl⟩|exact ⟨rfl,closed_slice rfl,rfl⟩|refine ⟨?_,?_⟩)))⟩
   ·obtain rfl:k=S.f.length:=by omega
    have hmn:=hm.congr byG_next
    repeat' (first|(refine gU ?_;(refine gBin ?_;refine st (ok_bin rfl rfl rfl) rfl rfl ?_))|refine W_seq ?_|refine W_region ?_|refine st_nil ?_|refine tq_n ?_|refine tq_e ?_|refine bq_hit rfl ?_|refine W_exit ?_|refine W_condFA rfl ?_)
    refine retN .nil .all ⟨_,_,_,_,_,_,_,by rw [hL];rfl,by simp,?_⟩
    dsimp only
    repeat' (first|(refine gU ?_;first|(refine gMove ?_;refine st (ok_move rfl) rfl rfl ?_)|(refine gAdd ?_;refine st (ok_inc rfl rfl (by omega)) rfl rfl ?_))|refine W_region ?_|refine st_nil ?_|refine tq_n ?_|refine bq_n ?_)
    exact ⟨(n+1,m),⟨⟨by simp only;omega,hmn⟩,by simp only;omega⟩,Tail.StRefD.src [.ro (flL 1 2 3 S g),.ro (ints S.d),.ro (pc S.f),.ro (ints S.s),.ro (rowsC S (H+1)),.rw [.pointer (some ⟨0,0,none⟩)],.rw [sl 4 (H+1)],mapO m,.rw [.map (some 7)],.rw [.int .i64 ((h+1:Nat):Int)]] [] [] 13 (by simp) rfl (hc_q10 S g H m hm.plain _) rfl rfl rfl trivial (by (repeat' (first|exact trivial|refine ⟨er_ptr rfl (by simp) rfl,?_⟩|refine ⟨er_plain rfl rfl,?_⟩|refine ⟨er_closed (m:=10) rfl (fun i hi=>srcR_lt hi) (by simp) (by exact closed_slice rfl) rfl,?_⟩)))⟩
  ·obtain rfl:n=S.d.length:=by omega
   have e:((h+1:Nat):Int) - 1=(h:Int):=by omega
   repeat' (first|(refine gU ?_;first|(refine gLoad ?_;refine st (ok_load rfl (by rfl)) rfl rfl ?_)|(refine gSub ?_;refine st (ok_sub rfl rfl (by omega) (by omega)) rfl rfl ?_)|(refine gBin ?_;refine st (ok_bin rfl rfl rfl) rfl rfl ?_)|(refine gAlloc ?_;refine st (ok_alloc rfl) rfl rfl ?_)|(refine gStore ?_;refine stN (ok_store rfl rfl rfl rfl (by rfl)) rfl ?_))|refine W_seq ?_|refine W_region ?_|refine st_nil ?_|refine tq_n ?_|refine tq_e ?_|refine bq_n ?_|refine bq_hit rfl ?_|refine W_exit ?_|refine W_condFA rfl ?_)
   exact ⟨(h,m),⟨⟨by simp only;omega,hm⟩,by simp only;omega⟩,.of (StRef.src [.ro (flL 1 2 3 S g),.ro (ints S.d),.ro (pc S.f),.ro (ints S.s),.ro (rowsC S (H+1)),.rw [.pointer (some ⟨0,0,none⟩)],.rw [sl 4 (H+1)],mapO m,.rw [.map (some 7)]] [.rw [.int .i64 (h:Int)]] [10] (by simp) rfl (hc_q9 S g H m hm.plain) rfl rfl ⟨osub_rwp (j:=10) rfl (.inl (by rw [← e];rfl)) rfl,trivial⟩ (by (repeat' (first|exact trivial|refine ⟨er_plain rfl rfl,?_⟩|refine ⟨er_ptr rfl (by simp) rfl,?_⟩)))) (by simp)⟩
end Go.Proofs.Ytomioaiojidnbaa
namespace Go.AH.Dust
open Go Go.AH
noncomputable def winT (S:Shp) (h:Nat):Int:=topV S (rowM S h)
noncomputable def winE (S:Shp) (h:Int):Int:=if clockE S h ≠ 0 then clockE S h else if winT S (h.toNat - 1)<0 then 5 else 0
noncomputable def winL (S:Shp) (h:Int):List Int:=if winE S h=0 then pathL S (h.toNat - 1) (winT S (h.toNat - 1)) else []
noncomputable def winV (S:Shp) (h:Int):Int:=if winE S h=0 then most S (h.toNat - 1) (winT S (h.toNat - 1)).toNat else 0
theorem winT_is (S:Shp) (h:Nat):(winT S h=-1∧∀ i,i<S.d.length→rB S i=true→most S h i<0) ∨
  (∃ t:Nat,winT S h=t∧t<S.d.length∧rB S t=true∧0≤most S h t∧∀ i,i<S.d.length→rB S i=true→most S h i≤most S h t):=by
 have e:∀ i,i<S.d.length→rowM S h i=most S h i:=fun i hi=>by unfold rowM;rw [if_pos hi]
 rcases topV_is S (rowM S h) with ⟨h1,h2⟩|⟨t,h1,h2,h3,h4,h5⟩
 ·exact .inl ⟨h1,fun i hi hr=>by rw [← e i hi];exact h2 i hi hr⟩
 ·exact .inr ⟨t,h1,h2,h3,by rw [← e t h2];exact h4,fun i hi hr=>by rw [← e i hi,← e t h2];exact h5 i hi hr⟩
theorem rowsC_drop (S:Shp):∀ {h j:Nat},j<h→((rowsC S h).drop (j*10)).take 10=rx (rowM S j)
 |0,_,hj=>by omega
 |h+1,j,hj=>by
  have hl:=rowsC_len S h
  have hx:(rx (rowM S h)).length=10:=rfl
  rw [rowsC]
  by_cases hjh:j=h
  ·subst hjh
   rw [← hl,List.drop_left,← hx,List.take_length]
  ·rw [List.drop_append_of_le_length (by omega),List.take_append_of_le_length (by rw [List.length_drop];omega)]
   exact rowsC_drop S (by omega)
theorem rowsC_cells {σ:Heap} {S:Shp} {q h j:Nat} (hq:arrAt σ q (rowsC S h)) (hj:j<h):cellsAt σ q (0+j*10) 10=some (rx (rowM S j)):=by
 have hl:=rowsC_len S h
 have ht:=rowsC_drop S hj
 rcases hq with h|h|⟨t,h⟩ <;> simp only [cellsAt,h] <;> rw [show Nat.ble (0+j*10+10) (rowsC S _).length=true from Nat.ble_eq.mpr (by omega),Nat.zero_add,ht] <;> rfl
theorem ret3 {σin σ:Heap} {cs:List Value} {n j c:Nat} {u v:Value} (hσ:σ.take σin.length=σin) (hp:plainL cs=true) (hg:σ[j]?=some (.rw cs)∨∃ t,σ[j]?=some (.gr cs t)) (hj:Nat.ble σin.length j=true) (hu:plain u=true) (hv:plain v=true) (hc:n≤c) :
  RetRef σin σ (.tuple #[u,.slice (some ⟨j,0,none⟩) n c,v]) (.tuple #[u,sl σin.length n,v]) (σin++[.rw cs]):=by
 refine RetRef.src [.rw cs] [j] hσ rfl (by simp [distinctFrom,hj]) ⟨osub_rwp srcR_at hg hp,trivial⟩ ?_
 refine .tuple _ _ rfl fun i hi _=>?_
 match i,hi with
 |0,_=>exact vrel_plain _ hu
 |1,_=>exact vsub_sl (by simp) srcR_at hc
 |2,_=>exact vrel_plain _ hv
theorem ret3Nil {σin σ:Heap} {u v:Value} (hσ:σ.take σin.length=σin) (hu:plain u=true) (hv:plain v=true) :
  RetRef σin σ (.tuple #[u,.slice none 0 0,v]) (.tuple #[u,sl σin.length 0,v]) (σin++[.rw []]):=by
 refine RetRef.src [.rw []] [σin.length] hσ rfl (by simp [distinctFrom]) ⟨.inl rfl,trivial⟩ ?_
 refine .tuple _ _ rfl fun i hi _=>?_
 match i,hi with
 |0,_=>exact vrel_plain _ hu
 |1,_=>exact .emptySlice _ _ _ _
 |2,_=>exact vrel_plain _ hv
theorem splice_all {cs vs:List Value} (h:cs.length=vs.length):splice cs 0 vs=vs:=by simp [splice,← h]
end Go.AH.Dust
namespace Go.Proofs.Ytomioaiojidnbaa
open Go Go.AH
attribute [local irreducible] WOps WCode WFree retQ thenQ blockQ scopeQ OpOk ACall RetRef roundA roundB
set_option maxRecDepth 100000
set_option maxHeartbeats 1000000
open Go.AH.Dust
theorem run64_ev {σ:Heap} {S:Shp} {g:Nat→Int} {H first p x y z q:Nat} (h:FAt σ p x y z S g) (hq:arrAt σ q (rowsC S (H+1))) (hS:S.ok) (hH:H<24) (hf:first<S.d.length) (h0:0≤most S H first) (hni:σ.all (fun o=>!isIter o)=true) :
  Ev Try.prog 64 [.pointer (some ⟨p,0,none⟩),sl q (H+1),.int .i64 (first:Int)] σ (sl σ.length (H+1)) (σ++[.rw (ints (pathL S H first))]):=by
 refine Ev.arrsR (news:=[.rw (ints (pathL S H first))]) (fCss S g++[rowsC S (H+1)]) (fBs p x y z S g++[(q,rowsC S (H+1))]) (run64_ok S hS g H first hH hf h0) (h.cells ⟨⟨hq,rfl,fun a ha ha'=>vrel_plainL _ (rowsC_plain _ _) a ha⟩,trivial⟩)
  (show AS 5 (bsR [p,x,y,z,q]) [.pointer (some ⟨0,0,none⟩),sl 4 (H+1),.int .i64 (first:Int)] [.pointer (some ⟨p,0,none⟩),sl q (H+1),.int .i64 (first:Int)] from ⟨VQ.ptr (q:=true) (n:=5) (ρ:=bsR [p,x,y,z,q]) 0 0 (by omega),vsub_sl (by omega) rfl (Nat.le_refl _),vrel_plain _ rfl,trivial⟩) rfl ?_ ?_ hni
 ·simp [ren,shf,fCss]
 ·simp only [List.map_cons,List.map_nil,renO,renL_plain _ (ints_plain _)]
theorem window_ok (S:Shp) (hS:S.fit) (h:Int):Ev Try.prog 24 [shV 0 1 2 S,.int .i64 h] S.hp (.tuple #[.int .i64 (winV S h),sl 3 (winL S h).length,.int .i64 (winE S h)]) (S.hp++[.rw (ints (winL S h))]):=by
 unfold winV winL
 by_cases hc:clockE S h=0
 ·obtain ⟨h0,h1,h24⟩:=clockE_zero hc
  have hok:=shopE_zero h0
  have n10:=hok.n10
  obtain ⟨H,rfl⟩:∃ H:Nat,h=((H+1:Nat):Int):=⟨(h - 1).toNat,by omega⟩
  have hck:=clock_evOk (σ:=[.ro (ints S.d),.ro (pc S.f),.ro (ints S.s),.rw (shL 0 1 2 S)]) (S:=S) (h:=((H+1:Nat):Int)) (x:=0) (y:=1) (z:=2) ⟨.inl rfl,.inl rfl,.inl rfl⟩ shS_self hS hc rfl
  have hrows:=rows_ev (σ:=[.ro (ints S.d),.ro (pc S.f),.ro (ints S.s),.rw (shL 0 1 2 S),.rw (flL 0 1 2 S (fun i=>bI (rB S i)))]) (S:=S) (g:=fun i=>bI (rB S i)) (H:=H+1) (p:=4) (x:=0) (y:=1) (z:=2) ⟨.inr (.inl rfl),.inl rfl,.inl rfl,.inl rfl⟩ hok (by omega) rfl
  have htop:=top_ev (σ:=[.ro (ints S.d),.ro (pc S.f),.ro (ints S.s),.rw (shL 0 1 2 S),.rw (flL 0 1 2 S (fun i=>bI (rB S i))),.rw (rowsC S (H+1))]) (S:=S) (r:=rowM S H) (p:=4) (x:=0) (y:=1) (z:=2) ⟨.inr (.inl rfl),.inl rfl,.inl rfl,.inl rfl⟩ hok rfl
  have eH:(((H+1:Nat):Int)).toNat - 1=H:=by omega
  have eH1:(((H+1:Nat):Int) - 1).toNat=H:=by omega
  have hd5:cellsAt [.ro (ints S.d),.ro (pc S.f),.ro (ints S.s),.rw (shL 0 1 2 S),.rw (flL 0 1 2 S (fun i=>bI (rB S i))),.rw (rowsC S (H+1))] 5 (0+(((H+1:Nat):Int) - 1).toNat*10) 10=some (rx (rowM S H)):=by rw [eH1];exact rowsC_cells (.inr (.inl rfl)) (by omega)
  have htw:topV S (rowM S H)=winT S H:=rfl
  rw [htw] at htop
  have heE:winE S ((H+1:Nat):Int)=if winT S H<0 then 5 else 0:=by unfold winE;rw [if_neg (fun hn=>hn hc),eH]
  rw [heE,eH]
  rcases winT_is S H with ⟨t1,t2⟩|⟨t,t1,t2,t3,t4,t5⟩
  ·have hneg:winT S H<0:=by omega
   rw [if_pos hneg,if_neg (by omega),if_neg (by omega)]
   generalize winT S H=T at *
   refine acall_intro 3 52 Try.func24 rfl rfl rfl rfl rfl ?_
   repeat' (first|(refine gU ?_;first|(refine gMove ?_;refine st (ok_move rfl) rfl rfl ?_)|(refine gAssign ?_;refine st (ok_assign rfl) rfl rfl ?_)|(refine gLoad ?_;refine st (ok_loadA rfl (by first|rfl|exact hd5)) rfl rfl ?_)|(refine gSub ?_;refine st (ok_sub rfl rfl (by omega) (by omega)) rfl rfl ?_)|(refine gBin ?_;refine st (ok_bin rfl rfl rfl) rfl rfl ?_)|(refine gExtract ?_;refine st (ok_extract rfl rfl) rfl rfl ?_)|(refine gIA ?_;refine st (ok_idx rfl rfl (by omega) (by omega)) rfl rfl ?_)|(refine gCall ?_;refine st (ok_call rfl rfl rfl (by first|exact hck|exact hrows|exact htop)) rfl rfl ?_)|(refine gBox ?_;refine st (ok_box rfl) rfl rfl ?_))|refine W_seq ?_|refine W_region ?_|refine st_nil ?_|refine tq_n ?_|refine tq_r ?_|refine W_skip ?_|refine W_ret ?_|refine W_condTA rfl ?_|refine W_condFA rfl ?_)
   exact ret0 (.tmp rfl (.tmp rfl (.tmp rfl .nil))) (ret3Nil rfl rfl rfl) ⟨rfl,rfl⟩
  ·rw [t1] at htop ⊢
   have hneg:¬ ((t:Nat):Int)<0:=by omega
   rw [if_neg hneg,if_pos rfl,if_pos rfl]
   have hrun:=run64_ev (σ:=[.ro (ints S.d),.ro (pc S.f),.ro (ints S.s),.rw (shL 0 1 2 S),.rw (flL 0 1 2 S (fun i=>bI (rB S i))),.rw (rowsC S (H+1))]) (S:=S) (g:=fun i=>bI (rB S i)) (H:=H) (first:=t) (p:=4) (x:=0) (y:=1) (z:=2) (q:=5) ⟨.inr (.inl rfl),.inl rfl,.inl rfl,.inl rfl⟩ (.inr (.inl rfl)) hok (by omega) t2 t4 rfl
   have hpl:=pathL_len S H t
   have hpi:(ints (pathL S H t)).length=H+1:=by simp [ints,hpl]
   have hcp:cellsAt [.ro (ints S.d),.ro (pc S.f),.ro (ints S.s),.rw (shL 0 1 2 S),.rw (flL 0 1 2 S (fun i=>bI (rB S i))),.rw (rowsC S (H+1)),.rw (ints (pathL S H t)),.rw (zcells (vcells (.int .i64 0)) (H+1))] 6 0 ((H+1)*1)=some (ints (pathL S H t)):=by
    have:=cellsAt_arr (σ:=[.ro (ints S.d),.ro (pc S.f),.ro (ints S.s),.rw (shL 0 1 2 S),.rw (flL 0 1 2 S (fun i=>bI (rB S i))),.rw (rowsC S (H+1)),.rw (ints (pathL S H t)),.rw (zcells (vcells (.int .i64 0)) (H+1))]) (b:=6) (.inr (.inl rfl):arrAt _ 6 (ints (pathL S H t)))
    rwa [hpi,← Nat.mul_one (H+1)] at this
   have hone:=ints_cell1 (pathL S H t)
   have hput:=putRw (σ:=[.ro (ints S.d),.ro (pc S.f),.ro (ints S.s),.rw (shL 0 1 2 S),.rw (flL 0 1 2 S (fun i=>bI (rB S i))),.rw (rowsC S (H+1)),.rw (ints (pathL S H t)),.rw (zcells (vcells (.int .i64 0)) (H+1))]) (b:=7) (o:=0) (cs':=ints (pathL S H t)) (vs:=ints (pathL S H t)) rfl (by rw [zcells_length,hpi];simp [vcells]) (by rw [zcells_length];simp [vcells]) (splice_all (by rw [zcells_length,hpi];simp [vcells]))
   have hc1:cellGet [.ro (ints S.d),.ro (pc S.f),.ro (ints S.s),.rw (shL 0 1 2 S),.rw (flL 0 1 2 S (fun i=>bI (rB S i))),.rw (rowsC S (H+1)),.rw (ints (pathL S H t)),.rw (ints (pathL S H t))] 5 (0+(((H+1:Nat):Int) - 1).toNat*10+t*1)=some (.int .i64 (most S H t)):=by
    have:=rowsC_at S (h:=H+1) (j:=H) (b:=t) (by omega) (by omega)
    rw [eH1,Nat.zero_add,Nat.mul_one]
    unfold rowM at this
    rw [if_pos t2] at this
    exact this
   have hmt:(((t:Nat):Int)).toNat=t:=by omega
   rw [hmt]
   generalize pathL S H t=PL at *
   generalize most S H t=M at *
   refine acall_intro 3 52 Try.func24 rfl rfl rfl rfl rfl ?_
   repeat' (first|(refine gU ?_;first|(refine gMove ?_;refine st (ok_move rfl) rfl rfl ?_)|(refine gAssign ?_;refine st (ok_assign rfl) rfl rfl ?_)|(refine gLoad ?_;first|refine st (ok_load rfl (by exact hc1)) rfl rfl ?_|refine st (ok_loadA rfl (by first|rfl|exact hd5)) rfl rfl ?_)|(refine gSub ?_;refine st (ok_sub rfl rfl (by omega) (by omega)) rfl rfl ?_)|(refine gBin ?_;refine st (ok_bin rfl rfl rfl) rfl rfl ?_)|(refine gLen ?_;refine st (ok_len rfl) rfl rfl ?_)|(refine gExtract ?_;refine st (ok_extract rfl rfl) rfl rfl ?_)|(refine gIA ?_;first|refine st (ok_idxAN rfl rfl (by omega)) rfl rfl ?_|refine st (ok_idx rfl rfl (by omega) (by omega)) rfl rfl ?_)|(refine gCall ?_;refine st (ok_call rfl rfl rfl (by first|exact hck|exact hrows|exact htop|exact hrun)) rfl rfl ?_)|(refine gBox ?_;refine st (ok_box rfl) rfl rfl ?_)|(refine gMakeS ?_;refine st (ok_makeS (by rfl) (by rfl) rfl rfl (by omega) (by omega) (by omega)) rfl rfl ?_)|(refine gCopy ?_;refine st (ok_copy rfl rfl (by omega) (by exact hcp) (by exact hone) (by exact hput)) rfl rfl ?_))|refine W_seq ?_|refine W_region ?_|refine st_nil ?_|refine tq_n ?_|refine W_skip ?_|refine W_ret ?_|refine W_condFA rfl ?_)
   rw [hpl]
   exact ret0 (.tmp rfl (.tmp rfl (.tmp rfl .nil))) (ret3 (j:=7) rfl (ints_plain PL) (.inl rfl) rfl rfl rfl (Nat.le_refl _)) ⟨rfl,rfl⟩
 ·have heE:winE S h=clockE S h:=by unfold winE;rw [if_pos hc]
  rw [heE,if_neg hc,if_neg hc]
  have hck:=clock_evBad (σ:=[.ro (ints S.d),.ro (pc S.f),.ro (ints S.s),.rw (shL 0 1 2 S)]) (S:=S) (h:=h) (x:=0) (y:=1) (z:=2) ⟨.inl rfl,.inl rfl,.inl rfl⟩ shS_self hS hc rfl
  refine acall_intro 3 52 Try.func24 rfl rfl rfl rfl rfl ?_
  repeat' (first|(refine gU ?_;first|(refine gMove ?_;refine st (ok_move rfl) rfl rfl ?_)|(refine gAssign ?_;refine st (ok_assign rfl) rfl rfl ?_)|(refine gLoad ?_;refine st (ok_loadA rfl (by rfl)) rfl rfl ?_)|(refine gBin ?_;refine st (ok_bin rfl rfl rfl) rfl rfl ?_)|(refine gExtract ?_;refine st (ok_extract rfl rfl) rfl rfl ?_)|(refine gCall ?_;refine st (ok_call rfl rfl rfl (by exact hck)) rfl rfl ?_)|(refine gBox ?_;refine st (ok_box rfl) rfl rfl ?_))|refine W_seq ?_|refine W_region ?_|refine st_nil ?_|refine tq_n ?_|refine tq_r ?_|refine W_ret ?_|refine W_condTA rfl ?_)
  exact ret0 (.tmp rfl (.tmp rfl (.tmp rfl .nil))) (ret3Nil rfl rfl rfl) ⟨rfl,rfl⟩
end Go.Proofs.Ytomioaiojidnbaa
namespace Go.AH
open Go
def argB1 (v:Value):List Nat:=match asSl v with
 |some p=>bif Nat.beq p.2.2.1 0 then [] else [p.1]
 |none=>[]
def argBsA:List Value→List Nat
 |[]=>[]
 |v::l=>(match asAgg v with|some a=>a.flatMap argB1|none=>argB1 v)++argBsA l
def knownsA:List Known→CallF
 |[]=>fun _ _ _=>none
 |k::ks=>fun f args σ=>bif Nat.beq k.f f then (match knownOne k args σ (argBsA args) with|some r=>some r|none=>knownsA ks f args σ) else knownsA ks f args σ
theorem knownsA_ok {P:Program}:∀ {ks:List Known},(∀ k ∈ ks,KnownOk P k)→CallOk P (knownsA ks)
 |[],_=>fun f args σ r h=>by cases h
 |k::ks,hk=>fun f args σ r h=>by
  have ih:=knownsA_ok (P:=P) (ks:=ks) fun k' h'=>hk k' (List.mem_cons_of_mem _ h')
  simp only [knownsA] at h
  cases hf:Nat.beq k.f f with
  |false=>rw [hf] at h;exact ih _ _ _ _ h
  |true =>
   rw [hf] at h
   simp only [cond_true] at h
   split at h
   ·rename_i r' hr'
    cases h
    simp only [knownOne,onlyIf_iff,Bool.and_eq_true] at hr'
    obtain ⟨⟨⟨⟨h1,h2⟩,h3⟩,h4⟩,h5⟩:=hr'
    cases h5
    obtain ⟨k1,k2,k3⟩:=hk k (by simp)
    have hfe:=Nat.eq_of_beq_eq_true hf
    subst hfe
    exact ⟨Ev.arrsN k.css (argBsA args) k1 (arrs_ok h1) (as_of (Nat.eq_of_beq_eq_true h3) (subVL_ok h2).2) k2 k3 rfl rfl h4,Keep.app⟩
   ·exact ih _ _ _ _ h
end Go.AH
namespace Go.AH.Dust
open Go Go.AH
def topQ (q:Nat→Bool) (r:Nat→Int):Nat→List Int
 |0=>[]
 |k+1=>if q k=true∧r k≥0 then topQ q r k++[(k:Int)] else topQ q r k
theorem topK_eq {S:Shp} {q:Nat→Bool} {r:Nat→Int}:∀ {k:Nat},(∀ i,i<k→rB S i=q i)→topK S r k=topQ q r k
 |0,_=>rfl
 |k+1,h=>by simp only [topK,topQ];rw [topK_eq fun i hi=>h i (by omega),h k (by omega)]
def topW (q:Nat→Bool) (n:Nat) (r:Nat→Int):Int :=
 if bestK r (topQ q r n) (topQ q r n).length<0 then -1 else gi (topQ q r n) (bestK r (topQ q r n) (topQ q r n).length).toNat
theorem winT_eq {S:Shp} {q:Nat→Bool} {h:Nat} (hq:∀ i,i<S.d.length→rB S i=q i):winT S h=topW q S.d.length (rowM S h):=by
 unfold winT topV topW;rw [topK_eq hq]
def shS:Shp:=⟨[30,10,0],[(0,0),(0,1),(1,2),(2,0),(1,1)],[2]⟩
def shT:Shp:=⟨[30,10,0],[(0,1),(1,2),(2,0)],[2]⟩
theorem shS_zero:shopE shS=0:=by decide +kernel
theorem shT_zero:shopE shT=0:=by decide +kernel
theorem shT_rch:∀ i,i<shT.d.length→rB shT i=true:=by
 have h2:Rch shT 2:=.first (by simp [shT])
 have h0:Rch shT 0:=.next h2 (by simp [shT])
 have h1:Rch shT 1:=.next h0 (by simp [shT])
 intro i hi
 have hi:i<3:=hi
 rw [rB_iff]
 match i,hi with
 |0,_=>exact h0
 |1,_=>exact h1
 |2,_=>exact h2
theorem shS_rch:∀ i,i<shS.d.length→rB shS i=true:=by
 have h2:Rch shS 2:=.first (by simp [shS])
 have h0:Rch shS 0:=.next h2 (by simp [shS])
 have h1:Rch shS 1:=.next h0 (by simp [shS])
 intro i hi
 have hi:i<3:=hi
 rw [rB_iff]
 match i,hi with
 |0,_=>exact h0
 |1,_=>exact h1
 |2,_=>exact h2
theorem win_is {S:Shp} {H t:Nat} {V:Int} {L:List Int} (h0:shopE S=0) (hH:H<24) (hr:∀ i,i<S.d.length→rB S i=true) (ht:topW (fun _=>true) S.d.length (rowM S H)=t) (hV:most S H t=V) (hL:pathL S H t=L) :
  winE S ((H+1:Nat):Int)=0∧winV S ((H+1:Nat):Int)=V∧winL S ((H+1:Nat):Int)=L:=by
 have hc:clockE S ((H+1:Nat):Int)=0:=by unfold clockE;rw [if_neg (fun h=>h h0),if_neg (by omega)]
 have eH:(((H+1:Nat):Int)).toNat - 1=H:=by omega
 have hT:winT S H=t:=by rw [winT_eq (q:=fun _=>true) hr];exact ht
 have hE:winE S ((H+1:Nat):Int)=0:=by unfold winE;rw [if_neg (fun h=>h hc),eH,hT,if_neg (by omega)]
 refine ⟨hE,?_,?_⟩
 ·unfold winV;rw [if_pos hE,eH,hT];simpa using hV
 ·unfold winL;rw [if_pos hE,eH,hT];exact hL
end Go.AH.Dust
namespace Go.Proofs.Ytomioaiojidnbaa
open Go Go.AH
attribute [local irreducible] WOps WCode WFree retQ thenQ blockQ scopeQ OpOk ACall RetRef roundA roundB
set_option maxRecDepth 100000
set_option maxHeartbeats 1000000
open Go.AH.Dust
def kWin (S:Shp) (h V:Int) (L:List Int):Known:=⟨24,[shV 0 1 2 S,.int .i64 h],S.css,.tuple #[.int .i64 V,sl 3 L.length,.int .i64 0],[.rw (ints L)]⟩
theorem kWin_ok {S:Shp} {H t:Nat} {V:Int} {L:List Int} (h0:shopE S=0) (hH:H<24) (hr:∀ i,i<S.d.length→rB S i=true) (ht:topW (fun _=>true) S.d.length (rowM S H)=t) (hV:most S H t=V) (hL:pathL S H t=L) :
  KnownOk Try.prog (kWin S ((H+1:Nat):Int) V L):=by
 obtain ⟨h1,h2,h3⟩:=win_is h0 hH hr ht hV hL
 have:=window_ok S (shopE_zero h0).fit ((H+1:Nat):Int)
 rw [h1,h2,h3] at this
 exact ⟨this,S.css_plain,rfl⟩
def kT1:Known:=kWin shT 1 30 [0]
def kT2:Known:=kWin shT 2 40 [0,1]
def kT3:Known:=kWin shT 3 40 [0,1,2]
def kT4:Known:=kWin shT 4 70 [0,1,2,0]
def kS3:Known:=kWin shS 3 90 [0,0,0]
theorem kT1_ok:KnownOk Try.prog kT1:=kWin_ok (H:=0) (t:=0) shT_zero (by omega) shT_rch (by decide +kernel) (by decide +kernel) (by decide +kernel)
theorem kT2_ok:KnownOk Try.prog kT2:=kWin_ok (H:=1) (t:=0) shT_zero (by omega) shT_rch (by decide +kernel) (by decide +kernel) (by decide +kernel)
theorem kT3_ok:KnownOk Try.prog kT3:=kWin_ok (H:=2) (t:=0) shT_zero (by omega) shT_rch (by decide +kernel) (by decide +kernel) (by decide +kernel)
theorem kT4_ok:KnownOk Try.prog kT4:=kWin_ok (H:=3) (t:=0) shT_zero (by omega) shT_rch (by decide +kernel) (by decide +kernel) (by decide +kernel)
theorem kS3_ok:KnownOk Try.prog kS3:=kWin_ok (H:=2) (t:=0) shS_zero (by omega) shS_rch (by decide +kernel) (by decide +kernel) (by decide +kernel)
def all3 (i:Nat):Int:=bif Nat.blt i 3 then 1 else 0
def kOpen (S:Shp):Known:=⟨50,[shV 0 1 2 S],S.css,.tuple #[.pointer (some ⟨3,0,none⟩),.int .i64 0],[.rw (flL 0 1 2 S all3)]⟩
theorem kOpen_ok {S:Shp} (h0:shopE S=0) (h3:S.d.length=3) (hr:∀ i,i<S.d.length→rB S i=true):KnownOk Try.prog (kOpen S):=by
 have h:=open_ok S (shopE_zero h0).fit h0
 have e:flL 0 1 2 S (fun i=>bI (rB S i))=flL 0 1 2 S all3:=by
  show sl 0 _::sl 1 _::sl 2 _::rx _=sl 0 _::sl 1 _::sl 2 _::rx _
  rw [rx_congr fun j _=>?_]
  by_cases hj:j<3
  ·rw [hr j (by omega)]
   simp [all3,bI,Nat.blt_eq.mpr hj]
  ·have:rB S j=false:=by
    cases hb:rB S j with
    |false=>rfl
    |true=>have:=rch_work (shopE_zero h0) (rB_iff.1 hb);omega
   rw [this]
   have hn:Nat.blt j 3=false:=by
    cases hb:Nat.blt j 3 with
    |false=>rfl
    |true=>exact absurd (Nat.blt_eq.mp hb) hj
   simp [all3,bI,hn]
 rw [e] at h
 exact ⟨h,S.css_plain,rfl⟩
def kReach (S:Shp):Known:=⟨16,[shV 0 1 2 S],S.css,.tuple #[sl 3 3,.int .i64 0],[.rw (ints [0,1,2])]⟩
theorem kReach_ok {S:Shp} (h0:shopE S=0) (h3:S.d.length=3) (hr:∀ i,i<S.d.length→rB S i=true):KnownOk Try.prog (kReach S):=by
 have h:=refReached_ok S (shopE_zero h0).fit
 have e:reachL S=[0,1,2]:=by
  unfold reachL
  rw [if_pos h0,h3]
  simp only [rL]
  rw [if_pos (hr 0 (by omega)),if_pos (hr 1 (by omega)),if_pos (hr 2 (by omega))]
  rfl
 rw [e,h0] at h
 exact ⟨h,S.css_plain,rfl⟩
def kShop (f:Nat) (S:Shp):Known:=⟨f,[shV 0 1 2 S],S.css,.int .i64 0,[]⟩
theorem kShop_ok {S:Shp} (h0:shopE S=0):KnownOk Try.prog (kShop 21 S):=by
 have h:=shop_ok S (shopE_zero h0).fit
 rw [h0] at h
 exact ⟨h,S.css_plain,rfl⟩
theorem kRefShop_ok {S:Shp} (h0:shopE S=0):KnownOk Try.prog (kShop 22 S):=by
 have h:=refShop_ok S (shopE_zero h0).fit
 rw [h0] at h
 exact ⟨h,S.css_plain,rfl⟩
def ksD:List Known:=[kOpen shT,kOpen shS,kReach shT,kReach shS,kShop 21 shT,kShop 21 shS,kShop 22 shT,kT1,kT2,kT3,kT4,kS3]
theorem ksD_ok:∀ k ∈ ksD,KnownOk Try.prog k:=by
 intro k hk
 simp only [ksD,List.mem_cons,List.not_mem_nil,or_false] at hk
 rcases hk with rfl|rfl|rfl|rfl|rfl|rfl|rfl|rfl|rfl|rfl|rfl|rfl
 ·exact kOpen_ok shT_zero rfl shT_rch
 ·exact kOpen_ok shS_zero rfl shS_rch
 ·exact kReach_ok shT_zero rfl shT_rch
 ·exact kReach_ok shS_zero rfl shS_rch
 ·exact kShop_ok shT_zero
 ·exact kShop_ok shS_zero
 ·exact kRefShop_ok shT_zero
 ·exact kT1_ok
 ·exact kT2_ok
 ·exact kT3_ok
 ·exact kT4_ok
 ·exact kS3_ok
end Go.Proofs.Ytomioaiojidnbaa
namespace Go.AH
open Go
section
variable {P:Program} (w:World)
theorem run_append_roomO (t ty e:TypeId) (i:TypeInfo) (ht:P.underlying t=some (.slice e)) (hi:P.info? e=some i)
  (g o sLen sCap:Nat) (cur:Array Value) (hg:w.heap[g]?=some (.cells cur e (0,0)))
  (a:Addr) (m c:Nat) (news:List Value) (hl:news.length=m*i.size) (hnews:∀ j u,news[j]?=some u→w.cell? (a.add j)=some u) (h1:∀ u ∈ news,u.oneCell'=true)
  (hroom:sLen+m≤sCap) (hfit:o+sLen*i.size+news.length≤cur.size) :
  (Builtin.append_ #[t,t] ty #[.slice (some ⟨g,o,none⟩) sLen sCap,.slice (some a) m c]).run P w =
   .ok (.slice (some ⟨g,o,none⟩) (sLen+m) sCap) (w.setRow g (cur.toList.take (o+sLen*i.size)++news++cur.toList.drop (o+sLen*i.size+news.length)).toArray):=by
 have hf:=run_firstCells_some (P:=P) w i.size m a m c news hl hnews
 have hst:=run_storeCells_at P g (o+sLen*i.size) e news 0 cur w hg (by simpa using hfit) h1
 simp only [Nat.add_zero] at hst
 simp [Builtin.append_,run_underlying ht,sizeOf,typeInfo,hi,Builtin.lenOf,hroom,hf,addr_add,hst]
end
def OpOkE (P:Program) (rd:Option Nat) (op:Op) (ty:TypeId) (e:Env) (σ:Heap) (R:Value→Heap→Prop):Prop :=
 ∀ o:Oper,o.op=op→o.type=ty→∀ G w0 ρ A w,(∀ l,rd=some l→l < σ.length)→Sim G w0 ρ σ w →
  (∀ x ∈ op.operands,∀ u,evalO e x=some u→VRel σ.length ρ u (A.eval x))→∀ (next:Act→World→Prop) (Q':Exit→Act→World→Prop),
  (∀ v σ' ρ' v' w',R v σ'→VRel σ'.length ρ' v v'→σ.length≤σ'.length→(∀ i < σ.length,ρ' i=ρ i)→Sim G w0 ρ' σ' w'→next (A.put o.dst v') w') →
  o.wpIn (fen ρ rd) 0 P A w next Q'
section
variable {P:Program} {n0 N:Nat} {rd:Option Nat} {e:Env} {mk:List Nat} {σ:Heap} {K:Env→List Nat→Heap→Prop} {all rest:List Oper}
theorem opokE_run {op:Op} {ty:TypeId} {R:Value→Heap→Prop} (hd:∀ c,op ≠ .defer c)
  (h:∀ (o:Oper),o.op=op→o.type=ty→∀ G w0 ρ (A:Act) w,Sim G w0 ρ σ w→(∀ x ∈ op.operands,∀ u,evalO e x=some u→VRel σ.length ρ u (A.eval x)) →
   ∃ v σ' ρ' v' w',R v σ'∧(execOp A.eval o).run P w=.ok (.value v') w'∧VRel σ'.length ρ' v v'∧σ.length≤σ'.length∧(∀ i < σ.length,ρ' i=ρ i)∧Sim G w0 ρ' σ' w'):OpOkE P rd op ty e σ R:=by
 intro o ho hty G w0 ρ A w _ hs hx next Q' hn
 obtain ⟨v,σ',ρ',v',w',hR,hr,h1,h2,h3,h4⟩:=h o ho hty G w0 ρ A w hs hx
 refine ⟨fun f _=>fen_fn _ _ _,?_⟩
 rw [Oper.semAt_eq _ _ _ (by rw [ho];exact hd),hr]
 exact hn v σ' ρ' v' w' hR h1 h2 h3 h4
theorem st_E {d:Nat} {op:Op} {ty:TypeId} {pos:String} {after:Array Edge} {R:Value→Heap→Prop} (h:OpOkE P rd op ty e σ R) (hrd:rdok rd n0=true) (hd:Nat.blt d N=true)
  (k:∀ v σ',R v σ'→WOps P n0 N rd all rest K ((d,v)::e) mk σ'):WOps P n0 N rd all (⟨some d,op,ty,pos,after,none⟩::rest) K e mk σ:=by
 intro G w0 ρ0 A w hi Q' hQ
 obtain ⟨h0,ρ,ha,hs,he⟩:=hi
 simp only [wpL]
 rw [if_pos (show Region.wanted _ _=true from rfl)]
 have hrd':=rdok_lt hrd
 rw [← fen_congr (rd:=rd) (ρ':=ρ) (ρ:=ρ0) fun l hl=>ha l (hrd' l hl)]
 refine h _ rfl rfl G w0 ρ A w (fun l hl=>Nat.lt_of_lt_of_le (hrd' l hl) h0) hs (fun x _ u hu=>evalO_rel he hu) _ _ ?_
 intro v σ' ρ' v' w' hR hv hle hρ hs'
 rw [fen_congr (rd:=rd) (ρ':=ρ) (ρ:=ρ0) fun l hl=>ha l (hrd' l hl)]
 refine k v σ' hR G w0 ρ0 _ w' ⟨by omega,ρ',fun i hi=>(hρ i (by omega)).trans (ha i hi),hs',?_⟩ Q' hQ
 exact erel_put (erel_mono he hle hρ) (by simpa [Nat.blt_eq] using hd) hv
end
section ops
variable {P:Program} {rd:Option Nat} {ty:TypeId} {e:Env} {σ:Heap} {x y z a b:Operand} {v u:Value}
abbrev slq (i o sz n:Nat):Value:=.slice (some ⟨i,o,some sz⟩) n n
theorem slq_inv {n:Nat} {ρ:Rho} {i o sz k:Nat} {v':Value} (h:VRel n ρ (slq i o sz k) v') :
  i<n∧∃ c',k≤c'∧(ρ i).o+o+c'*sz≤(ρ i).s∧v'=.slice (some ⟨(ρ i).b,(ρ i).o+o,none⟩) k c':=by
 cases h with
 |gslice _ _ _ _ c' _ hc hs hi _=>exact ⟨hi,c',hc,hs,rfl⟩
 |gsliceG _ _ _ _ _ _ _ _ hq=>simp at hq
theorem slq_rel {n:Nat} {ρ:Rho} {i o sz k c':Nat} (hi:i<n) (hc:k≤c') (hs:(ρ i).o+o+c'*sz≤(ρ i).s):VRel n ρ (slq i o sz k) (.slice (some ⟨(ρ i).b,(ρ i).o+o,none⟩) k c') :=
 VQ.gslice (q:=false) i o k k c' sz hc hs hi rfl
theorem ok_idxQ {t el size bytes i o n sz k:Nat} {agg:Bool} {z:Value} [ha:Sl P t el] [ht:Ty P el size agg z bytes] (h:evalO e x=some (slq i o sz n)) (hy:evalO e y=some (.int .i64 (k:Nat)))
  (h1:k<n):OpOk P rd (.indexAddr t x y) ty e σ (.pointer (some ⟨i,o+k*size,none⟩)) σ :=
 opok_run (by simp) fun op ho _ G w0 ρ A w hs hx=>by
  have hv:=hx x (by simp [Op.operands]) _ h
  have hi:=vrel_plain_eq (hx y (by simp [Op.operands]) _ hy) rfl
  obtain ⟨hil,c',hc,hsz,hr⟩:=slq_inv hv
  refine ⟨ρ,.pointer (some ⟨(ρ i).b,(ρ i).o+(o+k*size),none⟩),w,.inl ?_,.ptr _ _ hil,Nat.le_refl _,fun _ _=>rfl,hs⟩
  simp [execOp,ho,hr,hi,Instr.indexAt,asIntOf,run_und ha.und,h1,ht.sizeOf,addr_add,Nat.add_assoc]
theorem ok_sliceQ {t el size bytes i o n l:Nat} {agg:Bool} {z:Value} {k:IntKind} [ha:Sl P t el] [ht:Ty P el size agg z bytes] (hx:evalO e x=some (slq i o size n)) (hy:evalO e y=some (.int k (l:Nat))) (hl:l≤n) :
  OpOkE P rd (.slice t x (some y) none none) ty e σ (fun v σ'=>σ'=σ∧(v=slq i (o+l*size) size (n - l)∨l=n∧v=.slice none 0 1)) :=
 opokE_run (by simp) fun op ho _ G w0 ρ A w hs hop=>by
  obtain ⟨hil,c',hc,hsz,hr⟩:=slq_inv (hop x (by simp [Op.operands]) _ hx)
  have hi:=vrel_plain_eq (hop y (by simp [Op.operands]) _ hy) rfl
  obtain ⟨e1,e2⟩:=sl_elem ha
  have:=run_slice_l (P:=P) w t (some ⟨(ρ i).b,(ρ i).o+o,none⟩) n c' e1 k l (by omega) (by omega)
  simp only [Int.toNat_natCast] at this
  have hrun:(execOp A.eval op).run P w=.ok (.value (sliced (some ⟨(ρ i).b,(ρ i).o+o,none⟩) l n c' size)) w:=by
   simp [execOp,ho,hr,hi,run_sliceAt_slice _ _ _ _ _ _ e1,this,e2,ht.sizeOf]
  by_cases hcl:c'=l
  ·refine ⟨.slice none 0 1,σ,ρ,_,w,⟨rfl,.inr ⟨by omega,rfl⟩⟩,hrun,?_,Nat.le_refl _,fun _ _=>rfl,hs⟩
   simp only [sliced]
   rw [if_pos hcl,show n - l=0 by omega,show c' - l=0 by omega]
   exact .zslice _ rfl
  ·refine ⟨slq i (o+l*size) size (n - l),σ,ρ,_,w,⟨rfl,.inl rfl⟩,hrun,?_,Nat.le_refl _,fun _ _=>rfl,hs⟩
   simp only [sliced]
   rw [if_neg hcl]
   simp only [Option.map_some,addr_add]
   rw [Nat.add_assoc]
   refine slq_rel hil (by omega) ?_
   have h1:(c' - l)*size+l*size=c'*size:=by rw [← Nat.add_mul];congr 1;omega
   omega
theorem ok_appendQ {t el size bytes i o n j oj m c:Nat} {agg:Bool} {z:Value} {cs news:List Value} [ha:Sl P t el] [ht:Ty P el size agg z bytes] (hzs:z.cells.size=size) (h0:Nat.blt 0 size=true)
  (hx:evalO e x=some (slq i o size n)) (hi:σ[i]?=some (.gr cs el)) (hl:cs.length=o+n*size) (hne:cs ≠ [])
  (hy:evalO e y=some (.slice (some ⟨j,oj,none⟩) m c)) (hc:cellsAt σ j oj (m*size)=some news) (hm:0<m) (h1:news.all (·.oneCell')=true)
  (hb:n+m≤1000000) (hby:bytes≤1000000) :
  OpOkE P rd (.call { callee:=.builtin .append,args:=#[x,y],argTypes:=#[t,t] }) ty e σ
   (fun v σ'=>∃ o' cs',cs'.length=o'+(n+m)*size∧cs'.drop o'=cs.drop o++news∧(o'=o∧cs'=cs++news∨o'=0∧cs'=cs.drop o++news)∧v=slq σ.length o' size (n+m)∧σ'=σ.set i .dead++[.gr cs' el]) :=
 opokE_run (by simp) fun op ho _ G w0 ρ A w hs hop=>by
  have hsz0:0<size:=Nat.blt_eq.mp h0
  obtain ⟨hil,cap,hcap,hcs,hv⟩:=slq_inv (hop x (by simp [Op.operands,Call.operands]) _ hx)
  have hyr:=hop y (by simp [Op.operands,Call.operands]) _ hy
  obtain ⟨ie,i1,i2,i3,i4⟩:=ht.info
  obtain ⟨hnl,hnc⟩:=cellsAt_rel hs hc
  have hy':∃ c',A.eval y=.slice (some ⟨(ρ j).b,(ρ j).o+oj,none⟩) m c':=by
   generalize hr:A.eval y=r at hyr
   cases hyr with
   |emptySlice=>omega
   |slice _ _ _ _ c' _ _=>exact ⟨c',rfl⟩
   |sliceG _ _ _ _ _ _ _ _ hq=>simp at hq
  obtain ⟨c',hy'⟩:=hy'
  obtain ⟨rs,hrs,hrl,hrel⟩:∃ rs:List Value,(∀ (k:Nat) (u:Value),rs[k]?=some u→w.cell? ((⟨(ρ j).b,(ρ j).o+oj,none⟩:Addr).add k)=some u)∧rs.length=m*size∧ARel σ.length ρ news.toArray rs.toArray:=by
   have:∀ k≤news.length,∃ rs:List Value,rs.length=k∧∀ (q:Nat) (h1:q<rs.length) (h2:q<news.length),w.cell? ⟨(ρ j).b,(ρ j).o+oj+q,none⟩=some rs[q]∧VRel σ.length ρ news[q] rs[q]:=by
    intro k
    induction k with
    |zero=>intro _;exact ⟨[],rfl,fun q h1=>by simp at h1⟩
    |succ k ih =>
     intro hk
     obtain ⟨rs,e1,e2⟩:=ih (by omega)
     obtain ⟨v',e3,e4⟩:=hnc k (by omega)
     refine ⟨rs++[v'],by simp [e1],fun q h1 h2=>?_⟩
     by_cases hq:q<rs.length
     ·rw [List.getElem_append_left hq];exact e2 q hq h2
     ·have:q=k:=by simp at h1;omega
      subst this
      simp only [List.getElem_append_right (show rs.length≤q by omega),e1,Nat.sub_self,List.getElem_cons_zero]
      exact ⟨e3,e4⟩
   obtain ⟨rs,e1,e2⟩:=this news.length (Nat.le_refl _)
   refine ⟨rs,fun k u hu=>?_,by omega,by simp [e1],fun k hk hk'=>(e2 k (by simpa using hk') (by simpa using hk)).2⟩
   obtain ⟨hk,rfl⟩:=List.getElem?_eq_some_iff.1 hu
   rw [addr_add];exact (e2 k hk (by omega)).1
  have hone:∀ u ∈ rs,u.oneCell'=true:=by
   have:=arel_oneCell hrel h1
   simpa using this
  have hrun:(execOp A.eval op).run P w=((Builtin.append_ #[t,t] op.type #[.slice (some ⟨(ρ i).b,(ρ i).o+o,none⟩) n cap,.slice (some ⟨(ρ j).b,(ρ j).o+oj,none⟩) m c']).run P w).andThen fun v w=>.ok (.value v) w:=by
   simp only [execOp,ho,resolve,invoke,builtin,Sem.run_bind,Sem.run_pure,Result.andThen_ok,List.map_toArray,List.map_cons,List.map_nil,hv,hy']
  have hbytes:(n+m)*ie.bytes≤140737488355328:=by rw [i4];exact Nat.le_trans (Nat.mul_le_mul hb hby) (by decide)
  have hmm:n*size+m*size=(n+m)*size:=by rw [Nat.add_mul]
  have happ:∀ (c0:List Value) (rc0:List Value) (tail:Array Value),ARel σ.length ρ c0.toArray rc0.toArray→∀ (k:Nat) (h:k<(c0++news).length) (h':k<(rc0.toArray++rs.toArray++tail).size),VRel σ.length ρ (c0++news)[k] (rc0.toArray++rs.toArray++tail)[k]:=by
   intro c0 rc0 tail hr0 k hk hk'
   have e0:c0.length=rc0.length:=by simpa using hr0.1
   have e1:news.length=rs.length:=by simpa using hrel.1
   have hk2:k<(rc0.toArray++rs.toArray).size:=by simp at hk ⊢;omega
   rw [Array.getElem_append_left hk2]
   have:=arel_append hr0 hrel
   exact this.2 k (by simpa using hk) hk2
  obtain ⟨g1,g2,rc,g3,g3',g4,g5⟩:=hs.obj i _ hi hne
  have hbo:=g2
  rw [hbo,Nat.zero_add] at hcs
  rw [hbo,Nat.zero_add] at hrun
  by_cases hroom:n+m≤cap
  ·have hcapm:(n+m)*size≤cap*size:=Nat.mul_le_mul_right _ hroom
   have hfit:o+n*size+rs.length≤rc.size:=by rw [hrl,g3'];omega
   have hr:=run_append_roomO (P:=P) w t op.type el ie ha.und i1 (ρ i).b o n cap rc g3 ⟨(ρ j).b,(ρ j).o+oj,none⟩ m c' rs (by rw [i2];exact hrl) hrs hone hroom (by rw [i2];exact hfit)
   rw [i2] at hr
   have hs1:Sim G w0 ρ (σ.set i (.gr (cs++news) el)) (w.setRow (ρ i).b (rc.toList.take (o+n*size)++rs++rc.toList.drop (o+n*size+rs.length)).toArray):=by
    refine sim_upd hs hi hne (chg_setRow w _ _) ?_ ?_
    ·intro _
     refine ⟨g1,g2,_,setRow_heap w _ rc _ el (0,0) g3,by simp;omega,by simp;omega,fun k hk hk'=>?_⟩
     have hr0:ARel σ.length ρ cs.toArray (rc.toList.take (o+n*size)).toArray:=by
      refine ⟨by simp;omega,fun q hq hq'=>?_⟩
      simp only [List.getElem_toArray,List.getElem_take,Array.getElem_toList]
      exact g5 q (by simpa using hq) (by simp at hq';omega)
     have:=happ cs (rc.toList.take (o+n*size)) (rc.toList.drop (o+n*size+rs.length)).toArray hr0 k hk (by simpa using hk')
     simpa using this
    ·intro q k seen hj
     left
     intro hbk
     obtain ⟨_,_,ents,clock,sb,_,g6,_⟩:=hs.obj q _ hj
     rw [hbk,g3] at g6;simp at g6
   have hs2:=sim_move hs1 (i:=i) (by rw [List.getElem?_set_self (idx_lt hi)])
   simp only [List.set_set,List.length_set] at hs2
   have hdr:(cs++news).drop o=cs.drop o++news:=by rw [List.drop_append_of_le_length (by omega)]
   refine ⟨slq σ.length o size (n+m),_,_,_,_,⟨o,cs++news,by rw [List.length_append];omega,hdr,.inl ⟨rfl,rfl⟩,rfl,rfl⟩,by rw [hrun,hr];rfl,?_,by simp,fun k hk=>comp_id (movR_lt hk),hs2⟩
   have:=slq_rel (n:=(σ.set i AObj.dead++[AObj.gr (cs++news) el]).length) (ρ:=comp ρ (movR σ.length i)) (i:=σ.length) (o:=o) (sz:=size) (k:=n+m) (c':=cap) (by simp) hroom (by simpa [comp,movR_self,hbo] using hcs)
   have e1:comp ρ (movR σ.length i) σ.length=⟨(ρ i).b,(ρ i).o,(ρ i).s⟩:=by simp [comp,movR_self]
   rw [e1] at this
   simpa [hbo] using this
  ·have hld:(cs.drop o).length=n*size:=by rw [List.length_drop];omega
   have hr0:ARel σ.length ρ (cs.drop o).toArray ((rc.toList.drop o).take (n*size)).toArray:=by
    refine ⟨by simp;omega,fun q hq hq'=>?_⟩
    simp only [List.getElem_toArray,List.getElem_take,List.getElem_drop,Array.getElem_toList]
    exact g5 (o+q) (by simp at hq;omega) (by simp at hq';omega)
   have e0:(cs.drop o).length=((rc.toList.drop o).take (n*size)).length:=by simpa using hr0.1
   have hge:=grownCap_ge w (n+m) cap el
   have hsz:(((rc.toList.drop o).take (n*size)).toArray++rs.toArray++Builtin.zeroCells z.cells (grownCap w (n+m) cap el - (n+m))).size=grownCap w (n+m) cap el*size:=by
    simp only [Array.size_append,List.size_toArray,size_zeroCells,hzs,← e0,hld,hrl,← Nat.add_mul]
    congr 1;omega
   have hs2:=sim_alloc (sim_kill (sim_drew hs) i) (.cells (((rc.toList.drop o).take (n*size)).toArray++rs.toArray++Builtin.zeroCells z.cells (grownCap w (n+m) cap el - (n+m))) el) (.gr (cs.drop o++news) el) (grownCap w (n+m) cap el*size) (by
    intro _
    refine ⟨fun hg=>by have h1:=(hs.fgn _ hg).1;have:=hs.size;simp only at h1;have e2:w.drew.heap.size=w.heap.size:=rfl;omega,rfl,_,heap_alloc_self w.drew _,hsz,?_,fun k hk hk'=>?_⟩
    ·rw [hsz,List.length_append,hld,hnl,hmm];exact Nat.mul_le_mul_right _ hge
    ·exact (happ _ _ _ hr0 k hk hk').mono (by simp) fun q hq=>upd_lt (by simpa using hq))
   simp only [List.length_set] at hs2
   have:=run_append_grow (P:=P) w t op.type el ie z ha.und i1 i3 ⟨(ρ i).b,o,none⟩ n cap ((rc.toList.drop o).take (n*size)) (by rw [i2,← e0,hld]) (fun q u hu=>by
    rw [addr_add,cell_of_row w (ρ i).b (o+q) rc el (0,0) g3]
    rw [List.getElem?_take] at hu
    split at hu
    ·rw [List.getElem?_drop] at hu;simpa using hu
    ·cases hu) ⟨(ρ j).b,(ρ j).o+oj,none⟩ m c' rs (by rw [i2];exact hrl) hrs (by omega) (by omega) (growslice_fits (by omega) hbytes)
   refine ⟨slq σ.length 0 size (n+m),_,_,_,_,⟨0,cs.drop o++news,by rw [List.length_append,hld,hnl];omega,by simp,.inr ⟨rfl,rfl⟩,rfl,rfl⟩,by rw [hrun,this];simp;rfl,?_,by simp,fun k hk=>upd_lt hk,hs2⟩
   have:=slq_rel (n:=(σ.set i AObj.dead++[AObj.gr (cs.drop o++news) el]).length) (ρ:=upd ρ σ.length w.heap.size (grownCap w (n+m) cap el*size)) (i:=σ.length) (o:=0) (sz:=size) (k:=n+m) (c':=grownCap w (n+m) cap el) (by simp) hge (by simp [upd])
   rw [upd_self] at this
   simpa using this
theorem fillA_len {place:Nat→Option (Nat×Nat)}:∀ {vs:List (Nat×Value)} {cs cs':List Value},fillA place cs vs=some cs'→cs'.length=cs.length
 |[],cs,cs',h=>by cases h;rfl
 |(i,v)::vs,cs,cs',h=>by
  simp only [fillA] at h
  split at h
  ·cases h
  ·rename_i off size _
   cases hb:(Nat.beq (vcells v).length size && Nat.ble (off+(vcells v).length) cs.length) with
   |false=>rw [hb] at h;cases h
   |true =>
    rw [hb] at h
    simp only [Bool.and_eq_true] at hb
    rw [fillA_len (place:=place) h,splice_length (Nat.le_of_ble_eq_true hb.2)]
theorem ok_buildSG {t el size bytes len:Nat} {agg:Bool} {z:Value} {ps:List (Nat×Operand)} {vs:List (Nat×Value)} {cs:List Value} [ha:Sl P t el] [ht:Ty P el size agg z bytes] (hz:plain z=true)
  (hsz:z.cells.size=size) (h0:Nat.blt 0 (len*size)=true) (h1:Nat.ble (len*size) 16777216=true) (h:evalP e ps=some vs) (hf:fillA (fun i=>some (i*size,size)) (zcells (vcells z) len) vs=some cs) :
  OpOk P rd (.buildSlice t len ps.toArray) ty e σ (slq σ.length 0 size len) (σ++[.gr cs el]) :=
 opok_run (by simp) fun op ho _ G w0 ρ A w hs hx=>by
  obtain ⟨g1,g2⟩:=evalP_rel (A:=A) (n:=σ.length) (ρ:=ρ) (fun p hp u hu=>hx p.2 (by simp only [Op.operands];simp;exact ⟨p.1,hp⟩) u hu) h
  obtain ⟨ie,i1,i2,i3,_⟩:=ht.info
  obtain ⟨rc,g3,g4⟩:=fill_rel vs _ _ _ _ (made_rel (n:=σ.length) (ρ:=ρ) (k:=len) hz hsz) g1 g2 hf
  have hcl:cs.length=len*size:=by
   have hv:=(vcells_rel (vrel_plain (n:=0) (ρ:=fun k=>⟨k,0,0⟩) z hz)).1
   have hv:(vcells z).length=z.cells.size:=by simpa using hv
   rw [fillA_len hf,zcells_length,hv,hsz]
  have hrc:rc.size=len*size:=by have:=g4.1;simp at this;omega
  have hs2:=sim_alloc hs (.cells rc el) (.gr cs el) (len*size) (by
   intro _
   refine ⟨fun hg=>by have h1:=(hs.fgn _ hg).1;have:=hs.size;simp only at h1;omega,rfl,rc,heap_alloc_self w _,hrc,by omega,fun k hk hk'=>?_⟩
   exact (g4.2 k (by simpa using hk) hk').mono (by simp) fun q hq=>upd_lt hq)
  refine ⟨upd ρ σ.length w.heap.size (len*size),.slice (some ⟨w.heap.size,0,none⟩) len len,w.alloc (.cells rc el),.inl ?_,?_,by simp,fun i hi=>upd_lt hi,hs2⟩
  ·have h0':=Nat.blt_eq.mp h0
   have h1':=Nat.le_of_ble_eq_true h1
   have:=run_buildSlice (P:=P) w t el len (ps.toArray.map fun p=>(p.1,A.eval p.2)) rc ie z ha.und i1 i3 (by rw [i2];omega) (by rw [i2];omega) (by
    rw [i2]
    have em:(Array.range (len*size)).map (z.cells[· % z.cells.size]!)=madeCells z.cells (len*size):=rfl
    rw [em];simpa using g3)
   simp only [List.map_toArray] at this
   simp [execOp,ho,this]
  ·have:=slq_rel (n:=(σ++[AObj.gr cs el]).length) (ρ:=upd ρ σ.length w.heap.size (len*size)) (i:=σ.length) (o:=0) (sz:=size) (k:=len) (c':=len) (by simp) (Nat.le_refl _) (by simp [upd])
   rw [upd_self] at this
   simpa using this
end ops
end Go.AH
namespace Go.AH.Dust
open Go Go.AH
abbrev rtV (a b:Int):Value:=.agg #[.int .i64 a,.int .i64 b]
def worV (S:Shp) (a b:Int) (n:Nat):Int:=b*gi S.d n - a
noncomputable def tigB (S:Shp) (a b:Int) (l:Nat→Int) (n k:Nat):Bool:=rB S n && decide (worV S a b n=l n - l k)
structure Lev (a b:Int) (l:Nat→Int):Prop where
 a1:-1000000≤a
 a2:a≤1000000
 b1:0≤b
 b2:b≤1000
 l:∀ i,i<10→-1000000000≤l i∧l i≤1000000000
theorem worV_bound {S:Shp} (hS:S.ok) {a b:Int} {l:Nat→Int} (h:Lev a b l) {n:Nat} (hn:n<S.d.length):0≤b*gi S.d n∧b*gi S.d n≤1000000:=by
 have hd:=hS.d n hn
 have:=h.b1;have:=h.b2
 refine ⟨Int.mul_nonneg (by omega) (by omega),?_⟩
 exact Int.le_trans (Int.mul_le_mul_of_nonneg_left hd.2 (by omega)) (by omega)
structure TAt (σ:Heap) (p x y z u v w:Nat) (S:Shp) (a b:Int) (l:Nat→Int):Prop where
 fa:FAt σ p x y z S (fun i=>bI (rB S i))
 c4:arrAt σ u [.pointer (some ⟨p,0,none⟩)]
 c5:arrAt σ v [.int .i64 a,.int .i64 b]
 c6:arrAt σ w (rx l)
theorem TAt.ev {P:Program} {fn:FuncId} {args1 args:List Value} {va:Value} {σ:Heap} {p x y z u v w:Nat} {S:Shp} {a b:Int} {l:Nat→Int} (h:TAt σ p x y z u v w S a b l) (he:Ev P fn args1 [.ro (flL 1 2 3 S (fun i=>bI (rB S i))),.ro (ints S.d),.ro (pc S.f),.ro (ints S.s),.ro [.pointer (some ⟨0,0,none⟩)],.ro [.int .i64 a,.int .i64 b],.ro (rx l)] va [.ro (flL 1 2 3 S (fun i=>bI (rB S i))),.ro (ints S.d),.ro (pc S.f),.ro (ints S.s),.ro [.pointer (some ⟨0,0,none⟩)],.ro [.int .i64 a,.int .i64 b],.ro (rx l)])
  (ha:AS 7 (bsR [p,x,y,z,u,v,w]) args1 args) (hv:plain va=true) (hni:σ.all (fun o=>!isIter o)=true):Ev P fn args σ va σ:=by
 refine Ev.arrsP (fCss S (fun i=>bI (rB S i))++[[.pointer (some ⟨0,0,none⟩)],[.int .i64 a,.int .i64 b],rx l]) (fBs p x y z S (fun i=>bI (rB S i))++[(u,[.pointer (some ⟨p,0,none⟩)]),(v,[.int .i64 a,.int .i64 b]),(w,rx l)]) he
  (h.fa.cells ⟨⟨h.c4,rfl,fun k hk hk'=>?_⟩,⟨h.c5,rfl,fun k hk hk'=>vrel_plainL _ rfl k hk⟩,⟨h.c6,rfl,fun k hk hk'=>vrel_plainL _ (rx_plain l) k hk⟩,trivial⟩) ha hv hni
 match k,hk with
 |0,_=>exact VQ.ptr (q:=true) (n:=7) (ρ:=bsR [p,x,y,z,u,v,w]) 0 0 (by omega)
end Go.AH.Dust
namespace Go.Proofs.Ytomioaiojidnbaa
open Go Go.AH
attribute [local irreducible] WOps WCode WFree retQ thenQ blockQ scopeQ OpOk ACall RetRef roundA roundB
set_option maxRecDepth 100000
set_option maxHeartbeats 1000000
open Go.AH.Dust
theorem worth_ok (S:Shp) (hS:S.ok) (r:Nat→Int) (a b:Int) (l:Nat→Int) (hL:Lev a b l) (n:Nat) (hn:n<S.d.length) :
  Ev Try.prog 76 [.pointer (some ⟨0,0,none⟩),.int .i64 (n:Int),rtV a b] [.ro (flL 1 2 3 S r),.ro (ints S.d),.ro (pc S.f),.ro (ints S.s)] (.int .i64 (worV S a b n)) [.ro (flL 1 2 3 S r),.ro (ints S.d),.ro (pc S.f),.ro (ints S.s)]:=by
 obtain ⟨hm1,hm2⟩:=worV_bound hS hL hn
 have ha1:=hL.a1
 have ha2:=hL.a2
 have hc1:∀ σ':Heap,cellGet (AObj.ro (flL 1 2 3 S r)::.ro (ints S.d)::.ro (pc S.f)::.ro (ints S.s)::σ') 1 n=some (.int .i64 (gi S.d n)):=fun σ'=>ints_get hn
 have hc2:∀ σ':Heap,cellGet (AObj.ro (flL 1 2 3 S r)::.ro (ints S.d)::.ro (pc S.f)::.ro (ints S.s)::σ') 1 (0+n*1)=some (.int .i64 (gi S.d n)):=fun σ'=>by rw [Nat.zero_add,Nat.mul_one];exact ints_get hn
 have hm3:-9223372036854775808≤b*gi S.d n:=by omega
 have hm4:b*gi S.d n≤9223372036854775807:=by omega
 refine acall_intro 4 21 Try.func76 rfl rfl rfl rfl rfl ?_
 repeat' (first|(refine gU ?_;first|(refine gAssign ?_;refine st (ok_assign rfl) rfl rfl ?_)|(refine gBox ?_;refine st (ok_box rfl) rfl rfl ?_))|(refine fU ?_;first|(refine fMove ?_;refine frA (ok_move rfl) rfl ?_)|(refine fAssign ?_;refine frA (ok_assign rfl) rfl ?_)|(refine fFA ?_;refine frA (ok_fieldAddr rfl) rfl ?_)|(refine fLoad ?_;refine frA (ok_load rfl (by first|rfl|exact hc1 _)) rfl ?_)|(refine fSub ?_;refine frA (ok_sub rfl rfl (by omega) (by omega)) rfl ?_)|(refine fMul ?_;refine frA (ok_mul rfl rfl (by omega) (by omega)) rfl ?_)|(refine fNil ?_;refine frA (ok_nilP rfl) rfl ?_)|(refine fIA ?_;refine frA (ok_idxN rfl rfl (by omega)) rfl ?_))|(refine fr_stop ⟨by kernel_rfl,?_⟩)|refine W_seq ?_|refine W_region ?_|refine W_regionD (by kernel_rfl) rfl ?_|refine st_nil ?_|refine tq_n ?_|refine W_ret ?_)
 exact ret0 (.tmp rfl .nil) (.plain rfl rfl) ⟨rfl,rfl⟩
theorem worth_ev {σ:Heap} {S:Shp} {r:Nat→Int} {a b:Int} {l:Nat→Int} {n p x y z:Nat} (h:FAt σ p x y z S r) (hS:S.ok) (hL:Lev a b l) (hn:n<S.d.length) (hni:σ.all (fun o=>!isIter o)=true) :
  Ev Try.prog 76 [.pointer (some ⟨p,0,none⟩),.int .i64 (n:Int),rtV a b] σ (.int .i64 (worV S a b n)) σ :=
 h.ev (worth_ok S hS r a b l hL n hn) ⟨VQ.ptr (q:=true) (n:=4) (ρ:=bsR [p,x,y,z]) 0 0 (by omega),vrel_plain _ rfl,vrel_plain _ rfl,trivial⟩ rfl hni
theorem tight_ok (S:Shp) (hS:S.ok) (a b:Int) (l:Nat→Int) (hL:Lev a b l) (n k:Nat) (hn:n<S.d.length) (hk:k<S.d.length) :
  Ev Try.prog 90 [.int .i64 (n:Int),.int .i64 (k:Int),.pointer (some ⟨4,0,none⟩),.pointer (some ⟨5,0,none⟩),.pointer (some ⟨6,0,none⟩)] [.ro (flL 1 2 3 S (fun i=>bI (rB S i))),.ro (ints S.d),.ro (pc S.f),.ro (ints S.s),.ro [.pointer (some ⟨0,0,none⟩)],.ro [.int .i64 a,.int .i64 b],.ro (rx l)] (.bool (tigB S a b l n k)) [.ro (flL 1 2 3 S (fun i=>bI (rB S i))),.ro (ints S.d),.ro (pc S.f),.ro (ints S.s),.ro [.pointer (some ⟨0,0,none⟩)],.ro [.int .i64 a,.int .i64 b],.ro (rx l)]:=by
 have n10:=hS.n10
 have hn':(n:Int)<10:=by omega
 have hk':(k:Int)<10:=by omega
 have l1:=hL.l n (by omega)
 have l2:=hL.l k (by omega)
 have hisr:=isReached_ev (σ:=[.ro (flL 1 2 3 S (fun i=>bI (rB S i))),.ro (ints S.d),.ro (pc S.f),.ro (ints S.s),.ro [.pointer (some ⟨0,0,none⟩)],.ro [.int .i64 a,.int .i64 b],.ro (rx l)]) (S:=S) (q:=rB S) (r:=fun i=>bI (rB S i)) (n:=n) (p:=0) (x:=1) (y:=2) (z:=3) ⟨.inl rfl,.inl rfl,.inl rfl,.inl rfl⟩ rfl (by omega) rfl
 have hwo:=worth_ev (σ:=[.ro (flL 1 2 3 S (fun i=>bI (rB S i))),.ro (ints S.d),.ro (pc S.f),.ro (ints S.s),.ro [.pointer (some ⟨0,0,none⟩)],.ro [.int .i64 a,.int .i64 b],.ro (rx l)]) (S:=S) (r:=fun i=>bI (rB S i)) (a:=a) (b:=b) (n:=n) (p:=0) (x:=1) (y:=2) (z:=3) ⟨.inl rfl,.inl rfl,.inl rfl,.inl rfl⟩ hS hL hn rfl
 have hc1:cellGet [.ro (flL 1 2 3 S (fun i=>bI (rB S i))),.ro (ints S.d),.ro (pc S.f),.ro (ints S.s),.ro [.pointer (some ⟨0,0,none⟩)],.ro [.int .i64 a,.int .i64 b],.ro (rx l)] 6 (0+n*1)=some (.int .i64 (l n)):=by rw [Nat.zero_add,Nat.mul_one];exact rx_get (by omega)
 have hc2:cellGet [.ro (flL 1 2 3 S (fun i=>bI (rB S i))),.ro (ints S.d),.ro (pc S.f),.ro (ints S.s),.ro [.pointer (some ⟨0,0,none⟩)],.ro [.int .i64 a,.int .i64 b],.ro (rx l)] 6 (0+k*1)=some (.int .i64 (l k)):=by rw [Nat.zero_add,Nat.mul_one];exact rx_get (by omega)
 have hv:tigB S a b l n k=(rB S n && decide (worV S a b n=l n - l k)):=rfl
 generalize worV S a b n=W at *
 generalize l n=ln at *
 generalize l k=lk at *
 cases hr:rB S n with
 |false =>
  rw [hr] at hisr hv
  rw [hv]
  refine acall_intro 7 25 Try.func90 rfl rfl rfl rfl rfl ?_
  repeat' (first|(refine gU ?_;(refine gAssign ?_;refine st (ok_assign rfl) rfl rfl ?_))|(refine fU ?_;first|(refine fMove ?_;refine frA (ok_move rfl) rfl ?_)|(refine fAssign ?_;refine frA (ok_assign rfl) rfl ?_)|(refine fLoad ?_;refine frA (ok_load rfl (by rfl)) rfl ?_)|(refine fPick ?_;refine frA (ok_pickFA rfl rfl) rfl ?_)|(refine fCall ?_;refine frA (ok_call rfl rfl rfl (by exact hisr)) rfl ?_))|(refine fG ?_;refine frSA rfl rfl ?_)|(refine fr_stop ⟨by kernel_rfl,?_⟩)|refine W_seq ?_|refine W_region ?_|refine W_regionD (by kernel_rfl) rfl ?_|refine st_nil ?_|refine tq_n ?_|refine W_ret ?_)
  exact ret0 (.tmp rfl .nil) (.plain rfl rfl) ⟨rfl,rfl⟩
 |true =>
  rw [hr,Bool.true_and] at hv
  rw [hr] at hisr
  rw [hv]
  refine acall_intro 7 25 Try.func90 rfl rfl rfl rfl rfl ?_
  repeat' (first|(refine gU ?_;(refine gAssign ?_;refine st (ok_assign rfl) rfl rfl ?_))|(refine fU ?_;first|(refine fMove ?_;refine frA (ok_move rfl) rfl ?_)|(refine fAssign ?_;refine frA (ok_assign rfl) rfl ?_)|(refine fLoad ?_;refine frA (ok_load rfl (by rfl)) rfl ?_)|(refine fPick ?_;refine frA (ok_pickTA rfl rfl) rfl ?_)|(refine fCall ?_;refine frA (ok_call rfl rfl rfl (by exact hisr)) rfl ?_))|(refine fG ?_;first|(refine fMove ?_;refine frGA rfl (ok_move rfl) rfl ?_)|(refine fLoad ?_;first|refine frGA rfl (ok_load rfl (by first|rfl|assumption)) rfl ?_|refine frGA rfl (ok_loadA rfl (by rfl)) rfl ?_)|(refine fSub ?_;refine frGA rfl (ok_sub rfl rfl (by omega) (by omega)) rfl ?_)|(refine fBin ?_;refine frGA rfl (ok_bin rfl rfl rfl) rfl ?_)|(refine fIA ?_;refine frGA rfl (ok_idxAN rfl rfl (by omega)) rfl ?_)|(refine fCall ?_;refine frGA rfl (ok_call rfl rfl rfl (by exact hwo)) rfl ?_))|(refine fr_stop ⟨by kernel_rfl,?_⟩)|refine W_seq ?_|refine W_region ?_|refine W_regionD (by kernel_rfl) rfl ?_|refine st_nil ?_|refine tq_n ?_|refine W_ret ?_)
  exact ret0 (.tmp rfl .nil) (.plain rfl rfl) ⟨rfl,rfl⟩
theorem tight_ev {σ:Heap} {S:Shp} {a b:Int} {l:Nat→Int} {n k p x y z u v w:Nat} (h:TAt σ p x y z u v w S a b l) (hS:S.ok) (hL:Lev a b l) (hn:n<S.d.length) (hk:k<S.d.length) (hni:σ.all (fun o=>!isIter o)=true) :
  Ev Try.prog 90 [.int .i64 (n:Int),.int .i64 (k:Int),.pointer (some ⟨u,0,none⟩),.pointer (some ⟨v,0,none⟩),.pointer (some ⟨w,0,none⟩)] σ (.bool (tigB S a b l n k)) σ :=
 h.ev (tight_ok S hS a b l hL n k hn hk) ⟨.int _ _,.int _ _,VQ.ptr (q:=true) (n:=7) (ρ:=bsR [p,x,y,z,u,v,w]) 4 0 (by omega),VQ.ptr (q:=true) (n:=7) (ρ:=bsR [p,x,y,z,u,v,w]) 5 0 (by omega),VQ.ptr (q:=true) (n:=7) (ρ:=bsR [p,x,y,z,u,v,w]) 6 0 (by omega),trivial⟩ rfl hni
end Go.Proofs.Ytomioaiojidnbaa
namespace Go.AH.Dust
open Go Go.AH
inductive Cms (E:Int→Int→Prop):Int→Int→Prop
 |one {a b:Int} (h:E a b):Cms E a b
 |more {a b c:Int} (h:E a b) (k:Cms E b c):Cms E a c
theorem Cms.snoc {E:Int→Int→Prop} {a b c:Int} (h:Cms E a b) (k:E b c):Cms E a c:=by
 induction h with
 |one h=>exact .more h (.one k)
 |more h _ ih=>exact .more h (ih k)
def edg (S:Shp) (a b:Int) (l:Nat→Int) (u v:Int):Prop:=(u,v) ∈ S.f∧tigB S a b l u.toNat v.toNat=true
open Classical in
noncomputable def comB (S:Shp) (a b:Int) (l:Nat→Int) (u v:Int):Bool:=decide (Cms (edg S a b l) u v)
theorem cntB_set {r:Nat→Bool} {b:Nat} (hr:r b=false):∀ {k:Nat},cntB (setB r b true) k=cntB r k+if b<k then 1 else 0
 |0=>by simp [cntB]
 |k+1=>by
  have ih:=cntB_set (r:=r) (b:=b) hr (k:=k)
  simp only [cntB,ih]
  by_cases hbk:b=k
  ·subst hbk
   have:setB r b true b=true:=by simp [setB]
   rw [this,hr];simp
  ·have:setB r b true k=r k:=by unfold setB;rw [if_neg (fun h=>hbk h.symm)]
   rw [this]
   split <;> split <;> split <;> omega
section
variable {S:Shp} {a b:Int} {l:Nat→Int} {src dst:Int} {q:List Int} {sn:Nat→Bool}
structure Bfs (S:Shp) (a b:Int) (l:Nat→Int) (src dst:Int) (q:List Int) (sn:Nat→Bool):Prop where
 wk:∀ x ∈ q,isW S x∧(x=src∨Cms (edg S a b l) src x)
 sk:∀ i:Nat,sn i=true→Cms (edg S a b l) src i
 len:q.length≤1+cntB sn 10
 cl:∀ x,(x=src∨(isW S x∧sn x.toNat=true))→x ∈ q∨∀ y,edg S a b l x y→y ≠ dst∧sn y.toNat=true
theorem Bfs.start (hw:isW S src):Bfs S a b l src dst [src] (fun _=>false) :=
 ⟨fun x hx=>by rw [List.mem_singleton.1 hx];exact ⟨hw,.inl rfl⟩,fun i (h:false=true)=>(by cases h),by simp,fun x hx=>(by
  rcases hx with rfl|⟨_,h⟩
  ·exact .inl (by simp)
  ·cases h)⟩
theorem Bfs.stop (hS:S.ok) (h:Bfs S a b l src dst [] sn):¬ Cms (edg S a b l) src dst:=by
 have key:∀ x y,Cms (edg S a b l) x y→(x=src∨(isW S x∧sn x.toNat=true))→y ≠ dst:=by
  intro x y hc
  induction hc with
  |one he =>
   intro hx
   rcases h.cl _ hx with hm|hm
   ·simp at hm
   ·exact (hm _ he).1
  |more he _ ih =>
   intro hx
   rcases h.cl _ hx with hm|hm
   ·simp at hm
   ·exact ih (.inr ⟨(ok_pair hS he.1).2,(hm _ he).2⟩)
 intro hc
 exact key _ _ hc (.inl rfl) rfl
structure Mid (S:Shp) (a b:Int) (l:Nat→Int) (src dst x:Int) (M k:Nat) (q:List Int) (sn:Nat→Bool):Prop where
 xk:isW S x∧(x=src∨Cms (edg S a b l) src x)
 wk:∀ x ∈ q,isW S x∧(x=src∨Cms (edg S a b l) src x)
 sk:∀ i:Nat,sn i=true→Cms (edg S a b l) src i
 len:q.length≤cntB sn 10
 m:2*(10 - cntB sn 10)+q.length≤M
 cl:∀ z,z ≠ x→(z=src∨(isW S z∧sn z.toNat=true))→z ∈ q∨∀ y,edg S a b l z y→y ≠ dst∧sn y.toNat=true
 done:∀ j,j<k→(gf S.f j).1=x→tigB S a b l x.toNat (gf S.f j).2.toNat=true→(gf S.f j).2 ≠ dst∧sn (gf S.f j).2.toNat=true
theorem Bfs.pop {x:Int} (h:Bfs S a b l src dst (x::q) sn):Mid S a b l src dst x (2*(10 - cntB sn 10)+q.length) 0 q sn:=by
 have hl:=h.len
 simp only [List.length_cons] at hl
 refine ⟨h.wk x (by simp),fun y hy=>h.wk y (by simp [hy]),h.sk,by omega,Nat.le_refl _,fun z hz hs=>?_,fun j hj=>by omega⟩
 rcases h.cl z hs with hm|hm
 ·rcases List.mem_cons.1 hm with hm|hm
  ·exact absurd hm hz
  ·exact .inl hm
 ·exact .inr hm
theorem Mid.fin {x:Int} {M:Nat} (h:Mid S a b l src dst x M S.f.length q sn):Bfs S a b l src dst q sn:=by
 have hl:=h.len
 refine ⟨h.wk,h.sk,by omega,fun z hz=>?_⟩
 by_cases hzx:z=x
 ·subst hzx
  right
  rintro y ⟨hf,ht⟩
  obtain ⟨j,h1,h2⟩:=mem_gf.1 hf
  have:=h.done j h1 (by rw [h2]) (by rw [h2];exact ht)
  rw [h2] at this;exact this
 ·exact h.cl z hzx hz
theorem Mid.skip {x:Int} {M k:Nat} (h:Mid S a b l src dst x M k q sn) (hs:¬ ((gf S.f k).1=x∧tigB S a b l x.toNat (gf S.f k).2.toNat=true)):Mid S a b l src dst x M (k+1) q sn :=
 ⟨h.xk,h.wk,h.sk,h.len,h.m,h.cl,fun j hj h1 h2=>by
  by_cases hjk:j=k
  ·subst hjk;exact absurd ⟨h1,h2⟩ hs
  ·exact h.done j (by omega) h1 h2⟩
theorem Mid.seen {x:Int} {M k:Nat} (h:Mid S a b l src dst x M k q sn) (hd:(gf S.f k).2 ≠ dst) (hs:sn (gf S.f k).2.toNat=true):Mid S a b l src dst x M (k+1) q sn :=
 ⟨h.xk,h.wk,h.sk,h.len,h.m,h.cl,fun j hj h1 h2=>by
  by_cases hjk:j=k
  ·subst hjk;exact ⟨hd,hs⟩
  ·exact h.done j (by omega) h1 h2⟩
theorem Mid.hit {x:Int} {M k:Nat} (h:Mid S a b l src dst x M k q sn) (hk:k<S.f.length) (h1:(gf S.f k).1=x) (h2:tigB S a b l x.toNat (gf S.f k).2.toNat=true):Cms (edg S a b l) src (gf S.f k).2:=by
 have he:edg S a b l x (gf S.f k).2:=⟨mem_gf.2 ⟨k,hk,by rw [← h1]⟩,h2⟩
 rcases h.xk.2 with hx|hx
 ·rw [← hx];exact .one he
 ·exact hx.snoc he
theorem Mid.push {x:Int} {M k:Nat} (hS:S.ok) (h:Mid S a b l src dst x M k q sn) (hk:k<S.f.length) (h1:(gf S.f k).1=x) (h2:tigB S a b l x.toNat (gf S.f k).2.toNat=true) (hd:(gf S.f k).2 ≠ dst) (hs:sn (gf S.f k).2.toNat=false) :
  Mid S a b l src dst x M (k+1) (q++[(gf S.f k).2]) (setB sn (gf S.f k).2.toNat true):=by
 have hit:=h.hit hk h1 h2
 have hw:=(hS.f k hk).2.1
 have n10:=hS.n10
 have hc:=cntB_set hs (k:=10)
 rw [if_pos (by omega)] at hc
 have hle:=cntB_le (setB sn (gf S.f k).2.toNat true) 10
 have hl:=h.len
 have hm:=h.m
 have mono:∀ i,sn i=true→setB sn (gf S.f k).2.toNat true i=true:=fun i hi=>by unfold setB;split;rfl;exact hi
 refine ⟨h.xk,fun y hy=>?_,fun i hi=>?_,by simp only [List.length_append,List.length_singleton];omega,by simp only [List.length_append,List.length_singleton];omega,fun z hz hzs=>?_,fun j hj hj1 hj2=>?_⟩
 ·rcases List.mem_append.1 hy with hy|hy
  ·exact h.wk y hy
  ·rw [List.mem_singleton.1 hy];exact ⟨hw,.inr hit⟩
 ·unfold setB at hi
  split at hi
  ·rename_i he
   rw [show (i:Int)=(gf S.f k).2 by omega];exact hit
  ·exact h.sk i hi
 ·by_cases hzy:z=(gf S.f k).2
  ·exact .inl (by rw [hzy];simp)
  ·have:z=src∨(isW S z∧sn z.toNat=true):=by
    rcases hzs with hz2|⟨hz2,hz3⟩
    ·exact .inl hz2
    ·right
     refine ⟨hz2,?_⟩
     unfold setB at hz3
     split at hz3
     ·rename_i he
      exact absurd (show z=(gf S.f k).2 by omega) hzy
     ·exact hz3
   rcases h.cl z hz this with hm|hm
   ·exact .inl (List.mem_append_left _ hm)
   ·exact .inr fun y hy=>⟨(hm y hy).1,mono _ (hm y hy).2⟩
 ·by_cases hjk:j=k
  ·subst hjk;exact ⟨hd,by simp [setB]⟩
  ·have:=h.done j (by omega) hj1 hj2
   exact ⟨this.1,mono _ this.2⟩
end
def qV (i:Nat) (st:Option (List Int)) (q:List Int):Value:=match st with
 |some j=>slq i j.length 1 q.length
 |none=>.slice none 0 1
def qO (st:Option (List Int)) (q:List Int):AObj:=match st with
 |some j=>.gr (ints (j++q)) 3
 |none=>.gr [] 3
def qok (st:Option (List Int)) (q:List Int):Prop:=match st with
 |some j=>j++q ≠ []
 |none=>q=[]
theorem osub_qc {σ:Heap} {n i k j:Nat} {π:Rho} {st:Option (List Int)} {q:List Int} (hi:π i=⟨k,0,0⟩) (h:σ[k]?=some (.rw [qV j st q])) {p:Nat} (hp:p<n) (hj:π p=⟨j,0,0⟩):OSub σ n π (π i) (.rw [qV p st q]):=by
 refine .inr ⟨by rw [hi],[qV j st q],.inl (by rw [hi];exact h),Nat.le_refl _,fun a ha ha'=>?_⟩
 match a,ha with
 |0,_ =>
  cases st with
  |none=>exact .zsliceZ rfl
  |some jk =>
   have:=VQ.gsliceG (q:=true) (n:=n) (ρ:=π) p jk.length q.length q.length q.length 1 (Nat.le_refl _) hp rfl
   simpa [qV,hj] using this
theorem osub_qo {σ:Heap} {n k j:Nat} {π:Rho} {st:Option (List Int)} {q:List Int} (hk:π k=⟨j,0,0⟩) (h:st.isSome=true→σ[j]?=some (qO st q)):OSub σ n π (π k) (qO st q):=by
 cases st with
 |none=>exact osub_gr0
 |some jk=>exact osub_gr hk (h rfl) (ints_plain _)
theorem qc_closed {n i:Nat} {st:Option (List Int)} {q:List Int} (h:i<n):oclosed n (.rw [qV i st q]):=by
 cases st with
 |none=>exact ⟨rfl,rfl⟩
 |some j=>exact ⟨by simp [closedL,qV,closed,Nat.blt_eq,h],rfl⟩
theorem qo_closed {n:Nat} {st:Option (List Int)} {q:List Int}:oclosed n (qO st q):=by
 cases st with
 |none=>exact ⟨rfl,rfl⟩
 |some j=>exact plainL_closed (ints_plain _)
theorem roundB_r {P:Program} {n0 N:Nat} {all rest:List Oper} {K:Env→List Nat→Heap→Prop} {d l:Nat} {e e1:Env} {mk mk1:List Nat} {σ2:Heap} {o:AObj} (h1:σ2[l]?=some o) (h2:isLoop o=true) (h3:WOps P n0 N none all rest K ((d,.bool false)::e) mk (σ2.set l (loopSt .done (some .ret) o))) :
  roundB P n0 N all rest K d l e mk .ret e1 mk1 σ2:=⟨o,h1,h2,h3⟩
end Go.AH.Dust
namespace Go.AH
open Go
section
variable {P:Program} {n0 N:Nat} {K:Env→List Nat→Heap→Prop} {e:Env} {mk:List Nat} {σ:Heap} {all:List Oper} {listed:List Bool} {fuel:Nat}
end
section
variable {P:Program} {N:Nat} {rd:Option Nat} {e:Env} {σ0:Heap} {news:List (Nat×Heap)} {K:Env→List (Nat×Heap)→List Oper→Prop} {k:Nat} {all rest:List Oper} {d:Nat} {op:Op} {ty:TypeId} {pos:String} {after:Array Edge} {v:Value}
end
structure Stop (p:Prop):Prop where
 out:p
section
variable {P:Program} {n0 N:Nat} {rd:Option Nat} {Q:Post} {e:Env} {mk:List Nat} {σ:Heap}
theorem W_stop {id:Nat} {l:Array Oper} {b:Bool} (h:Stop (WCode P n0 N rd (.region id l b) Q e mk σ)):WCode P n0 N rd (.region id l b) Q e mk σ:=h.out
theorem W_cut {c:Code} (e2:Env) (σ2:Heap) (hs:σ=σ2) (he:EnvSub e e2) (h:WCode P n0 N rd c Q e2 mk σ2):WCode P n0 N rd c Q e mk σ:=by
 subst hs
 intro G w0 ρ0 A w hi
 obtain ⟨h0,ρ,ha,hs,hr⟩:=hi
 exact h G w0 ρ0 A w ⟨h0,ρ,ha,hs,⟨hr.tmps.1,fun t v hv=>hr.tmps.2 t v (envSub_mem he _ (env_mem hv))⟩,hr.mks,hr.mkb⟩
end
end Go.AH
