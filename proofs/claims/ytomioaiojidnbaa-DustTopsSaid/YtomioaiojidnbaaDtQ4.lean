/- Lists of lists of numbers that DustTops is handed; tops, plainly; what long and Clone return. -/
import Derived.Test.YtomioaiojidnbaaDtQ3
import Derived.Test.YtomioaiojidnbaaDtMJ
import Derived.Test.YtomioaiojidnbaaDtQ1
namespace Go.AH.Dust
open Go Go.AH
theorem osubs_pre {σ:Heap} {n m:Nat} {l:List Nat} (hmn:m≤n):∀ (A:Heap) (k:Nat) (rest:Heap),k+A.length≤m→(∀ i o,A[i]?=some o→σ[k+i]?=some o)→HClosed m A→OSubs σ n (srcR m l) (k+A.length) rest→OSubs σ n (srcR m l) k (A++rest)
 |[],k,rest,_,_,_,hr=>by simpa using hr
 |o::A,k,rest,hk,hA,hc,hr=>by
  simp only [List.length_cons] at hk hr
  refine ⟨osub_same (by omega) hmn (by simpa using hA 0 o rfl) hc.1,?_⟩
  exact osubs_pre hmn A (k+1) rest (by omega) (fun i o' h=>by rw [show k+1+i=k+(i+1) by omega];exact hA (i+1) o' (by simpa using h)) hc.2 (by rw [show k+1+A.length=k+(A.length+1) by omega];exact hr)
theorem hc_10 {n:Nat} (hn:7≤n) (S:Shp) (a b:Int) (l:Nat→Int) (dst:Int) {r:Heap} (hr:HClosed n r):HClosed n ([.ro (flL 1 2 3 S (fun i=>bI (rB S i))),.ro (ints S.d),.ro (pc S.f),.ro (ints S.s),.ro [.pointer (some ⟨0,0,none⟩)],.ro [.int .i64 a,.int .i64 b],.ro (rx l),.rw [.func (.func 90) #[] #[.pointer (some ⟨4,0,none⟩),.pointer (some ⟨5,0,none⟩),.pointer (some ⟨6,0,none⟩)]],.rw [.int .i64 dst],.rw [.bool false]]++r):=by
 have hp:∀ i,i<7→Nat.blt i n=true:=fun i hi=>Nat.blt_eq.mpr (by omega)
 refine ⟨fl_closed (by omega),plainL_closed (ints_plain _),plainL_closed (pc_plain _),plainL_closed (ints_plain _),⟨by simp [closedL,closed,hp],rfl⟩,plainL_closed rfl,plainL_closed (rx_plain _),⟨?_,rfl⟩,plainL_closed rfl,plainL_closed rfl,hr⟩
 simp [closedL,closed,closedA,hp]
theorem hc_c11 (S:Shp) (a b:Int) (l:Nat→Int) (dst:Int) (sn:Nat→Bool) {n:Nat} (hn:7≤n):HClosed n [.ro (flL 1 2 3 S (fun i=>bI (rB S i))),.ro (ints S.d),.ro (pc S.f),.ro (ints S.s),.ro [.pointer (some ⟨0,0,none⟩)],.ro [.int .i64 a,.int .i64 b],.ro (rx l),.rw [.func (.func 90) #[] #[.pointer (some ⟨4,0,none⟩),.pointer (some ⟨5,0,none⟩),.pointer (some ⟨6,0,none⟩)]],.rw [.int .i64 dst],.rw [.bool false],.rw (rx (fun i=>bI (sn i)))] :=
 hc_10 hn S a b l dst ⟨plainL_closed (rx_plain _),trivial⟩
theorem hc_c13 (S:Shp) (a b:Int) (l:Nat→Int) (dst:Int) (sn:Nat→Bool) (st:Option (List Int)) (q:List Int):HClosed 13 [.ro (flL 1 2 3 S (fun i=>bI (rB S i))),.ro (ints S.d),.ro (pc S.f),.ro (ints S.s),.ro [.pointer (some ⟨0,0,none⟩)],.ro [.int .i64 a,.int .i64 b],.ro (rx l),.rw [.func (.func 90) #[] #[.pointer (some ⟨4,0,none⟩),.pointer (some ⟨5,0,none⟩),.pointer (some ⟨6,0,none⟩)]],.rw [.int .i64 dst],.rw [.bool false],.rw (rx (fun i=>bI (sn i))),.rw [qV 12 st q],qO st q] :=
 hc_10 (by omega) S a b l dst ⟨plainL_closed (rx_plain _),qc_closed (by omega),qo_closed,trivial⟩
theorem subsD {σ:Heap} {st:Option (List Int)} {q:List Int} {c j d:Nat} (hcell:σ[c]?=some (.rw [qV j st q])) (hg:st.isSome=true→σ[j]?=some (qO st q)):OSubs σ 14 (srcR 11 [c,j,d]) 11 [.rw [qV 12 st q],qO st q] :=
 ⟨osub_qc (n:=14) (i:=11) (k:=c) (π:=srcR 11 [c,j,d]) (j:=j) (p:=12) rfl hcell (by omega) rfl,osub_qo (n:=14) (k:=12) (j:=j) rfl hg,trivial⟩
theorem qV_cells {i:Nat} {st:Option (List Int)} {q:List Int}:vcells (qV i st q)=[qV i st q]:=by cases st <;> rfl
theorem qV_one {i:Nat} {st:Option (List Int)} {q:List Int}:[qV i st q].all (·.oneCell')=true:=by cases st <;> rfl
theorem pre_of {A rest σ:Heap} (h:σ=A++rest):∀ i o,A[i]?=some o→σ[0+i]?=some o:=fun i o hi=>by
 rw [h,Nat.zero_add,List.getElem?_append_left (idx_lt hi)];exact hi
theorem hc_i19 (S:Shp) (a b:Int) (l:Nat→Int) (dst:Int) (sn:Nat→Bool) (st:Option (List Int)) (q:List Int) (x:Nat) (L:AObj) (hL:oclosed 19 L):HClosed 19 [.ro (flL 1 2 3 S (fun i=>bI (rB S i))),.ro (ints S.d),.ro (pc S.f),.ro (ints S.s),.ro [.pointer (some ⟨0,0,none⟩)],.ro [.int .i64 a,.int .i64 b],.ro (rx l),.rw [.func (.func 90) #[] #[.pointer (some ⟨4,0,none⟩),.pointer (some ⟨5,0,none⟩),.pointer (some ⟨6,0,none⟩)]],.rw [.int .i64 dst],.rw [.bool false],.rw (rx (fun i=>bI (sn i))),.rw [qV 18 st q],.dead,.rw [.int .i64 (x:Int)],.rw [.pointer (some ⟨0,0,none⟩)],.rw [.int .i64 (x:Int)],.dfr,L,qO st q] :=
 hc_10 (by omega) S a b l dst ⟨plainL_closed (rx_plain _),qc_closed (by omega),trivial,plainL_closed rfl,⟨rfl,rfl⟩,plainL_closed rfl,trivial,hL,qo_closed,trivial⟩
theorem subsC {σ:Heap} {st:Option (List Int)} {q:List Int} {c j:Nat} (hcell:σ[c]?=some (.rw [qV j st q])) (hg:st.isSome=true→σ[j]?=some (qO st q)):OSubs σ 13 (srcR 11 [c,j]) 11 [.rw [qV 12 st q],qO st q] :=
 ⟨osub_qc (n:=13) (i:=11) (k:=c) (π:=srcR 11 [c,j]) (j:=j) (p:=12) rfl hcell (by omega) rfl,osub_qo (n:=13) (k:=12) (j:=j) rfl hg,trivial⟩
theorem StRef.all1 {n0:Nat} {σ:Heap} {e e2:Env} (σ2:Heap) (m j:Nat) (hm:n0≤m) (hl:σ2.length=m+1) (hj:σ2[j]?=some .dead) (ho:OSubs σ σ2.length (srcR m [j]) 0 σ2) (he:EnvRen σ2.length (srcR m [j]) e e2):StRef n0 σ σ2 e e2:=by
 refine .inr fun _=>⟨srcR m [j],⟨by omega,fun i hi=>srcR_lt (by omega),fun i o2 hi=>?_,fun i k oi ok hi hk g1 g2 hij=>?_⟩,envRen_ref he⟩
 ·have:=osubs_get ho i o2 hi
  rwa [Nat.zero_add] at this
 ·have h1:=idx_lt hi
  have h2:=idx_lt hk
  have hs:srcR m [j] m=⟨j,0,0⟩:=by simp [srcR]
  by_cases hli:i<m <;> by_cases hlk:k<m
  ·rw [srcR_lt hli,srcR_lt hlk] at hij;exact hij
  ·obtain rfl:k=m:=by omega
   rw [srcR_lt hli,hs] at hij
   simp only at hij
   subst hij
   rw [hj] at hi
   obtain rfl:=Option.some.inj hi
   exact g1.elim
  ·obtain rfl:i=m:=by omega
   rw [srcR_lt hlk,hs] at hij
   simp only at hij
   subst hij
   rw [hj] at hk
   obtain rfl:=Option.some.inj hk
   exact g2.elim
  ·omega
theorem subsI {σ:Heap} {S:Shp} {a b:Int} {l:Nat→Int} {dst:Int} {sn:Nat→Bool} {st:Option (List Int)} {q:List Int} {j:Nat} {x:Nat} {L:AObj}
  (hpre:∀ i o,[.ro (flL 1 2 3 S (fun i=>bI (rB S i))),.ro (ints S.d),.ro (pc S.f),.ro (ints S.s),.ro [.pointer (some ⟨0,0,none⟩)],.ro [.int .i64 a,.int .i64 b],.ro (rx l),.rw [.func (.func 90) #[] #[.pointer (some ⟨4,0,none⟩),.pointer (some ⟨5,0,none⟩),.pointer (some ⟨6,0,none⟩)]],.rw [.int .i64 dst],.rw [.bool false],.rw (rx (fun i=>bI (sn i)))][i]?=some o→σ[0+i]?=some o) (hcell:σ[11]?=some (.rw [qV j st q])) (h13:σ[13]?=some (.rw [.int .i64 (x:Int)])) (h14:σ[14]?=some (.rw [.pointer (some ⟨0,0,none⟩)])) (h15:σ[15]?=some (.rw [.int .i64 (x:Int)])) (h16:σ[16]?=some .dfr) (h17:σ[17]?=some L)
  (hg:st.isSome=true→σ[j]?=some (qO st q)) (hL:oclosed 18 L):OSubs σ 19 (srcR 18 [j]) 0 [.ro (flL 1 2 3 S (fun i=>bI (rB S i))),.ro (ints S.d),.ro (pc S.f),.ro (ints S.s),.ro [.pointer (some ⟨0,0,none⟩)],.ro [.int .i64 a,.int .i64 b],.ro (rx l),.rw [.func (.func 90) #[] #[.pointer (some ⟨4,0,none⟩),.pointer (some ⟨5,0,none⟩),.pointer (some ⟨6,0,none⟩)]],.rw [.int .i64 dst],.rw [.bool false],.rw (rx (fun i=>bI (sn i))),.rw [qV 18 st q],.dead,.rw [.int .i64 (x:Int)],.rw [.pointer (some ⟨0,0,none⟩)],.rw [.int .i64 (x:Int)],.dfr,L,qO st q]:=by
 refine osubs_pre (m:=18) (by omega) [.ro (flL 1 2 3 S (fun i=>bI (rB S i))),.ro (ints S.d),.ro (pc S.f),.ro (ints S.s),.ro [.pointer (some ⟨0,0,none⟩)],.ro [.int .i64 a,.int .i64 b],.ro (rx l),.rw [.func (.func 90) #[] #[.pointer (some ⟨4,0,none⟩),.pointer (some ⟨5,0,none⟩),.pointer (some ⟨6,0,none⟩)]],.rw [.int .i64 dst],.rw [.bool false],.rw (rx (fun i=>bI (sn i)))] 0 _ (by simp) hpre (hc_c11 S a b l dst sn (by omega)) ?_
 show OSubs σ 19 (srcR 18 [j]) 11 _
 exact ⟨osub_qc (n:=19) (i:=11) (k:=11) (π:=srcR 18 [j]) (j:=j) (p:=18) rfl hcell (by omega) rfl,trivial,osub_same (n:=19) (m:=18) (i:=13) (by omega) (by omega) h13 (plainL_closed rfl),osub_same (n:=19) (m:=18) (i:=14) (by omega) (by omega) h14 ⟨rfl,rfl⟩,osub_same (n:=19) (m:=18) (i:=15) (by omega) (by omega) h15 (plainL_closed rfl),osub_same (n:=19) (m:=18) (i:=16) (by omega) (by omega) h16 trivial,osub_same (n:=19) (m:=18) (i:=17) (by omega) (by omega) h17 hL,osub_qo (n:=19) (k:=18) (j:=j) rfl hg,trivial⟩
end Go.AH.Dust
namespace Go.Proofs.Ytomioaiojidnbaa
open Go Go.AH
attribute [local irreducible] WOps WCode WFree retQ thenQ blockQ scopeQ OpOk ACall RetRef roundA roundB
set_option maxRecDepth 100000
set_option maxHeartbeats 1000000
open Go.AH.Dust
theorem comes_ok (S:Shp) (hS:S.ok) (a b:Int) (l:Nat→Int) (hLv:Lev a b l) (src dst:Int) (hsrc:isW S src) :
  Ev Try.prog 91 [.pointer (some ⟨0,0,none⟩),.func (.func 90) #[] #[.pointer (some ⟨4,0,none⟩),.pointer (some ⟨5,0,none⟩),.pointer (some ⟨6,0,none⟩)],.int .i64 src,.int .i64 dst] [.ro (flL 1 2 3 S (fun i=>bI (rB S i))),.ro (ints S.d),.ro (pc S.f),.ro (ints S.s),.ro [.pointer (some ⟨0,0,none⟩)],.ro [.int .i64 a,.int .i64 b],.ro (rx l)] (.bool (comB S a b l src dst)) [.ro (flL 1 2 3 S (fun i=>bI (rB S i))),.ro (ints S.d),.ro (pc S.f),.ro (ints S.s),.ro [.pointer (some ⟨0,0,none⟩)],.ro [.int .i64 a,.int .i64 b],.ro (rx l)]:=by
 have n10:=hS.n10
 have f60:=hS.f60
 refine acall_intro 7 45 Try.func91 rfl rfl rfl rfl rfl ?_
 repeat' (first|(refine gU ?_;first|(refine gBox ?_;refine st (ok_box rfl) rfl rfl ?_)|(refine gAlloc ?_;refine st (ok_alloc rfl) rfl rfl ?_))|refine W_seq ?_|refine W_stop (id:=2) ?_|refine W_region ?_|refine st_nil ?_|refine tq_n ?_)
 refine ⟨?_⟩
 refine (W_region ?_)
 refine st (ok_move rfl) rfl rfl ?_
 refine st (ok_buildSG (by rfl) (by rfl) (by rfl) (by rfl) rfl (by rfl)) rfl rfl ?_
 repeat' (first|(refine gU ?_;first|(refine gAlloc ?_;refine st (ok_alloc rfl) rfl rfl ?_)|(refine gStore ?_;refine stN (ok_store rfl rfl rfl rfl (by rfl)) rfl ?_))|refine W_seq ?_|refine st_nil ?_|refine tq_n ?_|refine W_block ?_)
 refine Tail.W_loopD (ι:=List Int×(Nat→Bool)×Option (List Int)) (fun s=>[(0,.pointer (some ⟨0,0,none⟩)),(5,.pointer (some ⟨7,0,none⟩)),(7,.pointer (some ⟨8,0,none⟩)),(8,.pointer (some ⟨9,0,none⟩)),(9,.pointer (some ⟨10,0,none⟩)),(10,.pointer (some ⟨11,0,none⟩))])
  (fun s=>[.ro (flL 1 2 3 S (fun i=>bI (rB S i))),.ro (ints S.d),.ro (pc S.f),.ro (ints S.s),.ro [.pointer (some ⟨0,0,none⟩)],.ro [.int .i64 a,.int .i64 b],.ro (rx l),.rw [.func (.func 90) #[] #[.pointer (some ⟨4,0,none⟩),.pointer (some ⟨5,0,none⟩),.pointer (some ⟨6,0,none⟩)]],.rw [.int .i64 dst],.rw [.bool false],.rw (rx (fun i=>bI (s.2.1 i))),.rw [qV 12 s.2.2 s.1],qO s.2.2 s.1]) (fun s=>2*(10 - cntB s.2.1 10)+s.1.length) (fun s=>Bfs S a b l src dst s.1 s.2.1∧qok s.2.2 s.1) ([src],fun _=>false,some []) rfl (by (repeat' (first|exact Tail.tail_ret rfl|refine Tail.tail_then ?_ ?_|refine Tail.tail_block ?_|refine Tail.W_tail rfl ?_))) (fun _=>by simp) (fun s _=>hc_c13 S a b l dst s.2.1 s.2.2 s.1)
  (.of (StRef.src [.ro (flL 1 2 3 S (fun i=>bI (rB S i))),.ro (ints S.d),.ro (pc S.f),.ro (ints S.s),.ro [.pointer (some ⟨0,0,none⟩)],.ro [.int .i64 a,.int .i64 b],.ro (rx l),.rw [.func (.func 90) #[] #[.pointer (some ⟨4,0,none⟩),.pointer (some ⟨5,0,none⟩),.pointer (some ⟨6,0,none⟩)]],.rw [.int .i64 dst],.rw [.bool false],.rw (rx (fun _=>0))] [.rw [qV 12 (some []) [src]],.gr (ints ([]++[src])) 3] [12,11] (by simp) rfl (hc_c11 S a b l dst (fun _=>false) (n:=11) (by omega)) rfl rfl (subsC (st:=some []) (q:=[src]) (c:=12) (j:=11) rfl (fun _=>rfl)) (by (repeat' (first|exact trivial|refine ⟨er_closed (m:=11) rfl (fun i hi=>srcR_lt hi) (by simp) (by rfl) rfl,?_⟩|refine ⟨er_ptr rfl (by simp) rfl,?_⟩)))) (by simp)) ⟨Bfs.start hsrc,show []++[src] ≠ [] from by simp⟩ ?_
 rintro ⟨q,sn,sg⟩ ⟨hB,hqk⟩
 simp only at hB hqk ⊢
 cases q with
 |nil =>
  have hv:comB S a b l src dst=false:=by
   unfold comB;exact @decide_eq_false _ (Classical.propDecidable _) (hB.stop hS)
  rw [hv]
  cases sg with
  |none =>
   repeat' (first|(refine gU ?_;first|(refine gLoad ?_;refine st (ok_load rfl (by rfl)) rfl rfl ?_)|(refine gBin ?_;refine st (ok_bin rfl rfl rfl) rfl rfl ?_)|(refine gLen ?_;refine st (ok_len rfl) rfl rfl ?_)|(refine gStore ?_;refine stN (ok_store rfl rfl rfl rfl (by rfl)) rfl ?_))|refine W_seq ?_|refine W_region ?_|refine st_nil ?_|refine tq_n ?_|refine tq_e ?_|refine bq_hit rfl ?_|refine W_exit ?_|refine W_ret ?_|refine W_condFA rfl ?_)
   exact ret0 (.cell1 inferInstance rfl rfl .nil) (.plain rfl rfl) ⟨rfl,rfl⟩
  |some junk =>
   repeat' (first|(refine gU ?_;first|(refine gLoad ?_;refine st (ok_load rfl (by rfl)) rfl rfl ?_)|(refine gBin ?_;refine st (ok_bin rfl rfl rfl) rfl rfl ?_)|(refine gLen ?_;refine st (ok_len rfl) rfl rfl ?_)|(refine gStore ?_;refine stN (ok_store rfl rfl rfl rfl (by rfl)) rfl ?_))|refine W_seq ?_|refine W_region ?_|refine st_nil ?_|refine tq_n ?_|refine tq_e ?_|refine bq_hit rfl ?_|refine W_exit ?_|refine W_ret ?_|refine W_condFA rfl ?_)
   exact ret0 (.cell1 inferInstance rfl rfl .nil) (.plain rfl rfl) ⟨rfl,rfl⟩
 |cons x0 q =>
  cases sg with
  |none=>cases hqk
  |some junk =>
  have hm0:=hB.pop
  have hql:=hB.len
  simp only [List.length_cons] at hql
  have hcle:=cntB_le sn 10
  obtain ⟨x,rfl⟩:∃ x:Nat,x0=(x:Int):=⟨x0.toNat,by have:=hm0.xk.1.1;omega⟩
  have hxd:x<S.d.length:=by have:=hm0.xk.1.2;omega
  clear hB
  have hpos:((((x:Int)::q).length:Nat):Int) > 0:=by simp only [List.length_cons];omega
  have hc3:cellGet [.ro (flL 1 2 3 S (fun i=>bI (rB S i))),.ro (ints S.d),.ro (pc S.f),.ro (ints S.s),.ro [.pointer (some ⟨0,0,none⟩)],.ro [.int .i64 a,.int .i64 b],.ro (rx l),.rw [.func (.func 90) #[] #[.pointer (some ⟨4,0,none⟩),.pointer (some ⟨5,0,none⟩),.pointer (some ⟨6,0,none⟩)]],.rw [.int .i64 dst],.rw [.bool false],.rw (rx (fun i=>bI (sn i))),.rw [qV 12 (some junk) ((x:Int)::q)],qO (some junk) ((x:Int)::q)] 12 (junk.length+0*1)=some (.int .i64 (x:Int)):=by
   show (ints (junk++(x:Int)::q))[junk.length+0*1]?=_
   rw [Nat.zero_mul,Nat.add_zero,ints_get (by simp)];simp [gi]
  repeat' (first|(refine gU ?_;first|refine st (ok_idxQ (k:=0) rfl rfl (Nat.succ_pos _)) rfl rfl ?_|(refine gLoad ?_;refine st (ok_load rfl (by first|rfl|exact hc3)) rfl rfl ?_)|(refine gBin ?_;refine st (ok_bin rfl rfl rfl) rfl rfl ?_)|(refine gLen ?_;refine st (ok_len rfl) rfl rfl ?_)|(refine gAlloc ?_;refine st (ok_alloc rfl) rfl rfl ?_)|(refine gStore ?_;refine stN (ok_store rfl rfl rfl rfl (by rfl)) rfl ?_))|refine W_seq ?_|refine W_stop (id:=5) ?_|refine W_region ?_|refine st_nil ?_|refine tq_n ?_|refine W_skip ?_|refine W_block ?_|refine W_condTA rfl ?_)
  refine ⟨?_⟩
  refine (W_region ?_)
  refine st (ok_load rfl rfl) rfl rfl ?_
  refine st_E (ok_sliceQ (l:=1) rfl rfl (by simp)) rfl rfl ?_
  rintro v σ' ⟨rfl,hv⟩
  obtain ⟨sg,hst1,hst2,hst3⟩:∃ sg,qok sg q∧v=qV 12 sg q∧(sg.isSome=true→AObj.gr (ints (junk++(x:Int)::q)) 3=qO sg q):=by
   rcases hv with hv|⟨h1,hv⟩
   ·refine ⟨some (junk++[(x:Int)]),by simp [qok],?_,fun _=>by simp [qO]⟩
    rw [hv];simp [qV]
   ·have hq:q=[]:=by simpa using h1.symm
    exact ⟨none,hq,hv,fun h=>by cases h⟩
  subst hst2
  clear hv hc3
  refine stN (ok_store (size:=1) rfl rfl (by rw [qV_cells];rfl) (by rw [qV_cells];exact qV_one) (by rw [qV_cells];rfl)) rfl ?_
  have hnx:=next_ev (σ:=[.ro (flL 1 2 3 S (fun i=>bI (rB S i))),.ro (ints S.d),.ro (pc S.f),.ro (ints S.s),.ro [.pointer (some ⟨0,0,none⟩)],.ro [.int .i64 a,.int .i64 b],.ro (rx l),.rw [.func (.func 90) #[] #[.pointer (some ⟨4,0,none⟩),.pointer (some ⟨5,0,none⟩),.pointer (some ⟨6,0,none⟩)]],.rw [.int .i64 dst],.rw [.bool false],.rw (rx (fun i=>bI (sn i))),.rw [qV 12 sg q],.gr (ints (junk++(x:Int)::q)) 3,.rw [.int .i64 (x:Int)]]) (S:=S) (r:=fun i=>bI (rB S i)) (n:=(x:Int)) (p:=0) (x:=1) (y:=2) (z:=3) ⟨.inl rfl,.inl rfl,.inl rfl,.inl rfl⟩ rfl
  repeat' (first|(refine gU ?_;first|(refine gMove ?_;refine st (ok_move rfl) rfl rfl ?_)|(refine gLoad ?_;refine st (ok_load rfl (by rfl)) rfl rfl ?_)|(refine gCall ?_;refine st (ok_call rfl rfl rfl (by exact hnx)) rfl rfl ?_))|refine W_seq ?_|refine W_region ?_|refine st_nil ?_|refine tq_n ?_|refine W_block ?_)
  refine W_st (by simp) (.same (e2:=[(0,.pointer (some ⟨0,0,none⟩)),(5,.pointer (some ⟨7,0,none⟩)),(7,.pointer (some ⟨8,0,none⟩)),(8,.pointer (some ⟨9,0,none⟩)),(9,.pointer (some ⟨10,0,none⟩)),(10,.pointer (some ⟨11,0,none⟩)),(11,.pointer (some ⟨13,0,none⟩)),(25,.func (.func 87) #[] #[.pointer (some ⟨14,0,none⟩),.pointer (some ⟨15,0,none⟩)])]) ⟨rfl,rfl,rfl,rfl,rfl,rfl,rfl,rfl,trivial⟩) ?_
  refine W_rangeFuncL (p:=[]) (q:=[.pointer (some ⟨14,0,none⟩),.pointer (some ⟨15,0,none⟩)]) rfl fun L hL=>?_
  have hLc:∀ n,18≤n→oclosed n L:=fun n hn=>by
   rw [hL]
   have hp:∀ i,i<18→Nat.blt i n=true:=fun i hi=>Nat.blt_eq.mpr (by omega)
   exact env_closed fun p hp=>by
    simp only [List.mem_cons,List.not_mem_nil,or_false] at hp
    rcases hp with rfl|rfl|rfl|rfl|rfl|rfl|rfl|rfl <;> exact ⟨by simp [closed,closedA,closedL,hp],rfl⟩
  have hLi:isIter L=false:=by rw [hL];rfl
  refine acall_intro 18 28 Try.func87 rfl rfl rfl rfl rfl ?_
  repeat' (first|(refine gU ?_;first|(refine gMove ?_;refine st (ok_move rfl) rfl rfl ?_)|(refine gFA ?_;refine st (ok_fieldAddr rfl) rfl rfl ?_)|(refine gLoad ?_;refine st (ok_load rfl (by rfl)) rfl rfl ?_)|(refine gLen ?_;refine st (ok_len rfl) rfl rfl ?_)|(refine gNil ?_;refine st (ok_nilP rfl) rfl rfl ?_))|refine W_seq ?_|refine W_region ?_|refine st_nil ?_|refine tq_n ?_|refine W_block ?_)
  refine W_loopS (ι:=Nat×List Int×(Nat→Bool)×Option (List Int)) (fun s=>[(0,.func (.yield 17) #[] #[]),(1,.pointer (some ⟨14,0,none⟩)),(2,.pointer (some ⟨15,0,none⟩)),(10,sl 2 S.f.length),(11,.int .i64 (S.f.length:Int)),(12,.int .i64 (s.1:Int))])
   (fun s=>[.ro (flL 1 2 3 S (fun i=>bI (rB S i))),.ro (ints S.d),.ro (pc S.f),.ro (ints S.s),.ro [.pointer (some ⟨0,0,none⟩)],.ro [.int .i64 a,.int .i64 b],.ro (rx l),.rw [.func (.func 90) #[] #[.pointer (some ⟨4,0,none⟩),.pointer (some ⟨5,0,none⟩),.pointer (some ⟨6,0,none⟩)]],.rw [.int .i64 dst],.rw [.bool false],.rw (rx (fun i=>bI (s.2.2.1 i))),.rw [qV 18 s.2.2.2 s.2.1],.dead,.rw [.int .i64 (x:Int)],.rw [.pointer (some ⟨0,0,none⟩)],.rw [.int .i64 (x:Int)],.dfr,L,qO s.2.2.2 s.2.1]) (fun s=>S.f.length - s.1) (fun s=>s.1≤S.f.length∧Mid S a b l src dst x (2*(10 - cntB sn 10)+q.length) s.1 s.2.1 s.2.2.1∧qok s.2.2.2 s.2.1) (0,q,sn,sg) (by simp)
   (StRef.all1 _ 18 12 (by simp) rfl rfl (subsI (j:=12) (pre_of rfl) rfl rfl rfl rfl rfl rfl (fun h=>by rw [← hst3 h];rfl) (hLc 18 (Nat.le_refl _))) (by (repeat' (first|exact trivial|refine ⟨er_plain rfl rfl,?_⟩|refine ⟨er_closed (m:=18) rfl (fun i hi=>srcR_lt hi) (by simp) (by first|rfl|exact closed_slice rfl) rfl,?_⟩)))) ⟨Nat.zero_le _,hm0,hst1⟩ ?_
  clear hnx hm0 hst1 hst3 hqk hpos
  rintro ⟨k,q,sn,sg⟩ ⟨hk,hm,hqk⟩
  simp only at hk hm hqk ⊢
  have hQi:isIter (qO sg q)=false:=by cases sg <;> rfl
  by_cases hkl:k<S.f.length
  ·have hd2:∀ σ':Heap,cellsAt (.ro (flL 1 2 3 S (fun i=>bI (rB S i)))::.ro (ints S.d)::.ro (pc S.f)::σ') 2 (0+k*2) 2=some [.int .i64 (gf S.f k).1,.int .i64 (gf S.f k).2]:=fun σ'=>pc_cells (.inl rfl) hkl
   obtain ⟨hw1,hw2,-⟩:=hS.f k hkl
   have hsk:=hm.skip (k:=k)
   have hseen:=hm.seen (k:=k)
   have hhit:=hm.hit hkl
   have hpush:=hm.push hS hkl
   have hql2:q.length≤10:=Nat.le_trans hm.len (cntB_le sn 10)
   clear hm
   generalize gf S.f k=p at *
   obtain ⟨z,y0⟩:=p
   simp only at hw1 hw2 hd2 hsk hseen hhit hpush
   obtain ⟨y,rfl⟩:∃ y:Nat,y0=(y:Int):=⟨y0.toNat,by have:=hw2.1;omega⟩
   have hyd:y<S.d.length:=by have:=hw2.2;omega
   simp only [Int.toNat_natCast] at hsk hseen hhit hpush
   by_cases hz:z=(x:Int)
   ·have hti:∀ σ':Heap,σ'.all (fun o=>!isIter o)=true→Ev Try.prog 90 [.int .i64 (x:Int),.int .i64 (y:Int),.pointer (some ⟨4,0,none⟩),.pointer (some ⟨5,0,none⟩),.pointer (some ⟨6,0,none⟩)] (AObj.ro (flL 1 2 3 S (fun i=>bI (rB S i)))::.ro (ints S.d)::.ro (pc S.f)::.ro (ints S.s)::.ro [.pointer (some ⟨0,0,none⟩)]::.ro [.int .i64 a,.int .i64 b]::.ro (rx l)::σ') (.bool (tigB S a b l x y)) (AObj.ro (flL 1 2 3 S (fun i=>bI (rB S i)))::.ro (ints S.d)::.ro (pc S.f)::.ro (ints S.s)::.ro [.pointer (some ⟨0,0,none⟩)]::.ro [.int .i64 a,.int .i64 b]::.ro (rx l)::σ'):=fun σ' hs=>tight_ev (p:=0) (x:=1) (y:=2) (z:=3) ⟨⟨.inl rfl,.inl rfl,.inl rfl,.inl rfl⟩,.inl rfl,.inl rfl,.inl rfl⟩ hS hLv hxd hyd hs
    generalize tigB S a b l x y=T at *
    cases T with
    |false =>
     have hm:=hsk (fun h=>by cases h.2)
     clear hsk hseen hhit hpush
     repeat' (first|(refine gU ?_;(refine gBin ?_;refine st (ok_bin rfl rfl rfl) rfl rfl ?_))|refine W_seq ?_|refine W_stop (id:=2) ?_|refine W_region ?_|refine st_nil ?_|refine tq_n ?_|refine W_skip ?_|refine W_block ?_|refine W_condTA rfl ?_)
     refine ⟨?_⟩
     refine (W_region ?_)
     repeat' (first|(refine gU ?_;first|(refine gMove ?_;refine st (ok_move rfl) rfl rfl ?_)|(refine gLoad ?_;first|refine st (ok_load rfl (by rfl)) rfl rfl ?_|refine st (ok_loadA rfl (by exact hd2 _)) rfl rfl ?_)|(refine gBin ?_;refine st (ok_bin rfl rfl rfl) rfl rfl ?_)|(refine gIA ?_;first|refine st (ok_idxSN rfl rfl (by omega)) rfl rfl ?_|refine st (ok_idxA rfl rfl (by omega) (by omega)) rfl rfl ?_)|(refine gAlloc ?_;refine st (ok_alloc rfl) rfl rfl ?_)|(refine gStore ?_;refine stN (ok_store rfl rfl rfl rfl (by rfl)) rfl ?_))|(refine gG ?_;first|(refine gMove ?_;refine stGA rfl (ok_move rfl) rfl rfl ?_)|(refine gLoad ?_;refine stGA rfl (ok_load rfl (by rfl)) rfl rfl ?_)|(refine gIA ?_;refine stGA rfl (ok_idxA rfl rfl (by omega) (by omega)) rfl rfl ?_))|refine W_seq ?_|refine W_region ?_|refine st_nil ?_|refine tq_n ?_)
     refine st_yieldG (l:=17) rfl rfl (by rw [hL];rfl) rfl rfl rfl (fun _ _ _ _ he=>wanted_rel (b:=true) (by rw [wantedA_some (b:=decide (z=(x:Int))) rfl,decide_eq_true hz];rfl) he) ?_
     repeat' (first|(refine gU ?_;(refine gAssign ?_;refine st (ok_assign rfl) rfl rfl ?_))|refine W_region ?_|refine st_nil ?_)
     refine roundA_n (by rw [hL];rfl) ?_
     repeat' (first|(refine gU ?_;first|(refine gMove ?_;refine st (ok_move rfl) rfl rfl ?_)|(refine gLoad ?_;refine st (ok_load rfl (by rfl)) rfl rfl ?_)|(refine gNot ?_;refine st (ok_not' rfl) rfl rfl ?_)|(refine gCall ?_;refine st (ok_call rfl rfl rfl (by exact hti _ (by simp [isIter];exact hQi))) rfl rfl ?_))|refine W_seq ?_|refine W_region ?_|refine st_nil ?_|refine tq_n ?_|refine tq_e ?_|refine bq_hit rfl ?_|refine W_exit ?_|refine W_block ?_|refine W_condTA rfl ?_)
     refine roundB_n rfl rfl ?_
     repeat' (first|(refine gU ?_;first|(refine gMove ?_;refine st (ok_move rfl) rfl rfl ?_)|(refine gAdd ?_;refine st (ok_inc rfl rfl (by omega)) rfl rfl ?_)|(refine gPick ?_;refine st (ok_pickTA rfl rfl) rfl rfl ?_))|(refine gG ?_;(refine gNot ?_;refine stGA rfl (ok_not' rfl) rfl rfl ?_))|refine W_region ?_|refine st_nil ?_|refine tq_n ?_|refine bq_n ?_|refine W_skip ?_|refine W_condFA rfl ?_)
     refine ⟨rfl,(k+1,q,sn,sg),⟨by simp only;omega,hm,hqk⟩,by simp only;omega,?_⟩
     rw [hL]
     exact StRef.drop [.ro (flL 1 2 3 S (fun i=>bI (rB S i))),.ro (ints S.d),.ro (pc S.f),.ro (ints S.s),.ro [.pointer (some ⟨0,0,none⟩)],.ro [.int .i64 a,.int .i64 b],.ro (rx l),.rw [.func (.func 90) #[] #[.pointer (some ⟨4,0,none⟩),.pointer (some ⟨5,0,none⟩),.pointer (some ⟨6,0,none⟩)]],.rw [.int .i64 dst],.rw [.bool false],.rw (rx (fun i=>bI (sn i))),.rw [qV 18 sg q],.dead,.rw [.int .i64 (x:Int)],.rw [.pointer (some ⟨0,0,none⟩)],.rw [.int .i64 (x:Int)],.dfr,_,qO sg q] [_] (by simp) (hc_i19 S a b l dst sn sg q x _ (by have:=hLc 19 (by omega);rw [hL] at this;exact this)) (by (repeat' (first|exact trivial|exact ⟨rfl,rfl,rfl⟩|exact ⟨rfl,closed_slice rfl,rfl⟩|refine ⟨?_,?_⟩)))
    |true =>
     clear hsk
     by_cases hyd2:(y:Int)=dst
     ·have hv:comB S a b l src dst=true:=by
       unfold comB;rw [← hyd2];exact @decide_eq_true _ (Classical.propDecidable _) (hhit hz rfl)
      clear hseen hhit hpush
      repeat' (first|(refine gU ?_;(refine gBin ?_;refine st (ok_bin rfl rfl rfl) rfl rfl ?_))|refine W_seq ?_|refine W_stop (id:=2) ?_|refine W_region ?_|refine st_nil ?_|refine tq_n ?_|refine W_skip ?_|refine W_block ?_|refine W_condTA rfl ?_)
      refine ⟨?_⟩
      refine (W_region ?_)
      repeat' (first|(refine gU ?_;first|(refine gMove ?_;refine st (ok_move rfl) rfl rfl ?_)|(refine gLoad ?_;first|refine st (ok_load rfl (by rfl)) rfl rfl ?_|refine st (ok_loadA rfl (by exact hd2 _)) rfl rfl ?_)|(refine gBin ?_;refine st (ok_bin rfl rfl rfl) rfl rfl ?_)|(refine gIA ?_;first|refine st (ok_idxSN rfl rfl (by omega)) rfl rfl ?_|refine st (ok_idxA rfl rfl (by omega) (by omega)) rfl rfl ?_)|(refine gAlloc ?_;refine st (ok_alloc rfl) rfl rfl ?_)|(refine gStore ?_;refine stN (ok_store rfl rfl rfl rfl (by rfl)) rfl ?_))|(refine gG ?_;first|(refine gMove ?_;refine stGA rfl (ok_move rfl) rfl rfl ?_)|(refine gLoad ?_;refine stGA rfl (ok_load rfl (by rfl)) rfl rfl ?_)|(refine gIA ?_;refine stGA rfl (ok_idxA rfl rfl (by omega) (by omega)) rfl rfl ?_))|refine W_seq ?_|refine W_region ?_|refine st_nil ?_|refine tq_n ?_)
      refine st_yieldG (l:=17) rfl rfl (by rw [hL];rfl) rfl rfl rfl (fun _ _ _ _ he=>wanted_rel (b:=true) (by rw [wantedA_some (b:=decide (z=(x:Int))) rfl,decide_eq_true hz];rfl) he) ?_
      repeat' (first|(refine gU ?_;(refine gAssign ?_;refine st (ok_assign rfl) rfl rfl ?_))|refine W_region ?_|refine st_nil ?_)
      refine roundA_n (by rw [hL];rfl) ?_
      repeat' (first|(refine gU ?_;first|(refine gMove ?_;refine st (ok_move rfl) rfl rfl ?_)|(refine gLoad ?_;refine st (ok_load rfl (by rfl)) rfl rfl ?_)|(refine gBin ?_;refine st (ok_bin rfl rfl rfl) rfl rfl ?_)|(refine gNot ?_;refine st (ok_not' rfl) rfl rfl ?_)|(refine gCall ?_;refine st (ok_call rfl rfl rfl (by exact hti _ (by simp [isIter];exact hQi))) rfl rfl ?_)|(refine gStore ?_;refine stN (ok_store rfl rfl rfl rfl (by rfl)) rfl ?_))|refine W_seq ?_|refine W_region ?_|refine st_nil ?_|refine tq_n ?_|refine tq_r ?_|refine bq_r ?_|refine W_skip ?_|refine W_ret ?_|refine W_block ?_|refine W_condTA rfl ?_|refine W_condFA rfl ?_)
      refine roundB_r rfl rfl ?_
      repeat' (first|(refine gU ?_;(refine gPick ?_;refine st (ok_pickTA rfl rfl) rfl rfl ?_))|(refine gG ?_;(refine gNot ?_;refine stGA rfl (ok_not' rfl) rfl rfl ?_))|refine st_nil ?_|refine tq_n ?_|refine tq_r ?_|refine bq_r ?_|refine W_ret ?_|refine W_condTA rfl ?_)
      refine ret0 .nil .all ⟨_,_,_,_,_,_,_,by rw [hL];rfl,by simp,?_⟩
      dsimp only
      repeat' (first|refine tq_r ?_|refine bq_r ?_|refine W_ret ?_)
      rw [hv]
      exact ret1 rfl (.cell1 inferInstance rfl rfl .nil) (.plain rfl rfl) ⟨rfl,rfl⟩
     ·have hcs:∀ σ':Heap,cellGet (AObj.ro (flL 1 2 3 S (fun i=>bI (rB S i)))::.ro (ints S.d)::.ro (pc S.f)::.ro (ints S.s)::.ro [.pointer (some ⟨0,0,none⟩)]::.ro [.int .i64 a,.int .i64 b]::.ro (rx l)::.rw [.func (.func 90) #[] #[.pointer (some ⟨4,0,none⟩),.pointer (some ⟨5,0,none⟩),.pointer (some ⟨6,0,none⟩)]]::.rw [.int .i64 dst]::.rw [.bool false]::.rw (rx (fun i=>bI (sn i)))::σ') 10 (0+y*1)=some (.int .i64 (bI (sn y))):=fun σ'=>by
       rw [Nat.zero_add,Nat.mul_one];exact rx_get (f:=fun i=>bI (sn i)) (by omega)
      cases hsy:sn y with
      |true =>
       have hm:=hseen hyd2 hsy
       rw [hsy] at hcs
       clear hseen hhit hpush
       repeat' (first|(refine gU ?_;(refine gBin ?_;refine st (ok_bin rfl rfl rfl) rfl rfl ?_))|refine W_seq ?_|refine W_stop (id:=2) ?_|refine W_region ?_|refine st_nil ?_|refine tq_n ?_|refine W_skip ?_|refine W_block ?_|refine W_condTA rfl ?_)
       refine ⟨?_⟩
       refine (W_region ?_)
       repeat' (first|(refine gU ?_;first|(refine gMove ?_;refine st (ok_move rfl) rfl rfl ?_)|(refine gLoad ?_;first|refine st (ok_load rfl (by rfl)) rfl rfl ?_|refine st (ok_loadA rfl (by exact hd2 _)) rfl rfl ?_)|(refine gBin ?_;refine st (ok_bin rfl rfl rfl) rfl rfl ?_)|(refine gIA ?_;first|refine st (ok_idxSN rfl rfl (by omega)) rfl rfl ?_|refine st (ok_idxA rfl rfl (by omega) (by omega)) rfl rfl ?_)|(refine gAlloc ?_;refine st (ok_alloc rfl) rfl rfl ?_)|(refine gStore ?_;refine stN (ok_store rfl rfl rfl rfl (by rfl)) rfl ?_))|(refine gG ?_;first|(refine gMove ?_;refine stGA rfl (ok_move rfl) rfl rfl ?_)|(refine gLoad ?_;refine stGA rfl (ok_load rfl (by rfl)) rfl rfl ?_)|(refine gIA ?_;refine stGA rfl (ok_idxA rfl rfl (by omega) (by omega)) rfl rfl ?_))|refine W_seq ?_|refine W_region ?_|refine st_nil ?_|refine tq_n ?_)
       refine st_yieldG (l:=17) rfl rfl (by rw [hL];rfl) rfl rfl rfl (fun _ _ _ _ he=>wanted_rel (b:=true) (by rw [wantedA_some (b:=decide (z=(x:Int))) rfl,decide_eq_true hz];rfl) he) ?_
       repeat' (first|(refine gU ?_;(refine gAssign ?_;refine st (ok_assign rfl) rfl rfl ?_))|refine W_region ?_|refine st_nil ?_)
       refine roundA_n (by rw [hL];rfl) ?_
       repeat' (first|(refine gU ?_;first|(refine gMove ?_;refine st (ok_move rfl) rfl rfl ?_)|(refine gLoad ?_;refine st (ok_load rfl (by first|rfl|exact hcs _)) rfl rfl ?_)|(refine gBin ?_;refine st (ok_bin rfl rfl rfl) rfl rfl ?_)|(refine gNot ?_;refine st (ok_not' rfl) rfl rfl ?_)|(refine gIA ?_;refine st (ok_idxAN rfl rfl (by omega)) rfl rfl ?_)|(refine gCall ?_;refine st (ok_call rfl rfl rfl (by exact hti _ (by simp [isIter];exact hQi))) rfl rfl ?_))|refine W_seq ?_|refine W_region ?_|refine st_nil ?_|refine tq_n ?_|refine bq_n ?_|refine W_skip ?_|refine W_block ?_|refine W_condFA rfl ?_)
       refine roundB_n rfl rfl ?_
       repeat' (first|(refine gU ?_;first|(refine gMove ?_;refine st (ok_move rfl) rfl rfl ?_)|(refine gAdd ?_;refine st (ok_inc rfl rfl (by omega)) rfl rfl ?_)|(refine gPick ?_;refine st (ok_pickTA rfl rfl) rfl rfl ?_))|(refine gG ?_;(refine gNot ?_;refine stGA rfl (ok_not' rfl) rfl rfl ?_))|refine W_region ?_|refine st_nil ?_|refine tq_n ?_|refine bq_n ?_|refine W_skip ?_|refine W_condFA rfl ?_)
       refine ⟨rfl,(k+1,q,sn,sg),⟨by simp only;omega,hm,hqk⟩,by simp only;omega,?_⟩
       rw [hL]
       exact StRef.drop [.ro (flL 1 2 3 S (fun i=>bI (rB S i))),.ro (ints S.d),.ro (pc S.f),.ro (ints S.s),.ro [.pointer (some ⟨0,0,none⟩)],.ro [.int .i64 a,.int .i64 b],.ro (rx l),.rw [.func (.func 90) #[] #[.pointer (some ⟨4,0,none⟩),.pointer (some ⟨5,0,none⟩),.pointer (some ⟨6,0,none⟩)]],.rw [.int .i64 dst],.rw [.bool false],.rw (rx (fun i=>bI (sn i))),.rw [qV 18 sg q],.dead,.rw [.int .i64 (x:Int)],.rw [.pointer (some ⟨0,0,none⟩)],.rw [.int .i64 (x:Int)],.dfr,_,qO sg q] [_] (by simp) (hc_i19 S a b l dst sn sg q x _ (by have:=hLc 19 (by omega);rw [hL] at this;exact this)) (by (repeat' (first|exact trivial|exact ⟨rfl,rfl,rfl⟩|exact ⟨rfl,closed_slice rfl,rfl⟩|refine ⟨?_,?_⟩)))
      |false =>
       have hm:=hpush hz rfl hyd2 hsy
       rw [hsy] at hcs
       have hput:∀ σ':Heap,putCells (AObj.ro (flL 1 2 3 S (fun i=>bI (rB S i)))::.ro (ints S.d)::.ro (pc S.f)::.ro (ints S.s)::.ro [.pointer (some ⟨0,0,none⟩)]::.ro [.int .i64 a,.int .i64 b]::.ro (rx l)::.rw [.func (.func 90) #[] #[.pointer (some ⟨4,0,none⟩),.pointer (some ⟨5,0,none⟩),.pointer (some ⟨6,0,none⟩)]]::.rw [.int .i64 dst]::.rw [.bool false]::.rw (rx (fun i=>bI (sn i)))::σ') 10 (0+y*1) [.int .i64 1]=some (AObj.ro (flL 1 2 3 S (fun i=>bI (rB S i)))::.ro (ints S.d)::.ro (pc S.f)::.ro (ints S.s)::.ro [.pointer (some ⟨0,0,none⟩)]::.ro [.int .i64 a,.int .i64 b]::.ro (rx l)::.rw [.func (.func 90) #[] #[.pointer (some ⟨4,0,none⟩),.pointer (some ⟨5,0,none⟩),.pointer (some ⟨6,0,none⟩)]]::.rw [.int .i64 dst]::.rw [.bool false]::.rw (rx (fun i=>bI (setB sn y true i)))::σ'):=fun σ'=>by
        have:=putRw (σ:=AObj.ro (flL 1 2 3 S (fun i=>bI (rB S i)))::.ro (ints S.d)::.ro (pc S.f)::.ro (ints S.s)::.ro [.pointer (some ⟨0,0,none⟩)]::.ro [.int .i64 a,.int .i64 b]::.ro (rx l)::.rw [.func (.func 90) #[] #[.pointer (some ⟨4,0,none⟩),.pointer (some ⟨5,0,none⟩),.pointer (some ⟨6,0,none⟩)]]::.rw [.int .i64 dst]::.rw [.bool false]::.rw (rx (fun i=>bI (sn i)))::σ') (b:=10) (o:=0+y*1) (vs:=[.int .i64 1]) (cs':=rx (fun i=>bI (setB sn y true i))) rfl (by simp [rx];omega) (by simp [rx]) (by rw [Nat.zero_add,Nat.mul_one,← setB_bI];exact rx_set (by omega))
        exact this
       clear hseen hhit hpush
       repeat' (first|(refine gU ?_;(refine gBin ?_;refine st (ok_bin rfl rfl rfl) rfl rfl ?_))|refine W_seq ?_|refine W_stop (id:=2) ?_|refine W_region ?_|refine st_nil ?_|refine tq_n ?_|refine W_skip ?_|refine W_block ?_|refine W_condTA rfl ?_)
       refine ⟨?_⟩
       refine (W_region ?_)
       repeat' (first|(refine gU ?_;first|(refine gMove ?_;refine st (ok_move rfl) rfl rfl ?_)|(refine gLoad ?_;first|refine st (ok_load rfl (by rfl)) rfl rfl ?_|refine st (ok_loadA rfl (by exact hd2 _)) rfl rfl ?_)|(refine gBin ?_;refine st (ok_bin rfl rfl rfl) rfl rfl ?_)|(refine gIA ?_;first|refine st (ok_idxSN rfl rfl (by omega)) rfl rfl ?_|refine st (ok_idxA rfl rfl (by omega) (by omega)) rfl rfl ?_)|(refine gAlloc ?_;refine st (ok_alloc rfl) rfl rfl ?_)|(refine gStore ?_;refine stN (ok_store rfl rfl rfl rfl (by rfl)) rfl ?_))|(refine gG ?_;first|(refine gMove ?_;refine stGA rfl (ok_move rfl) rfl rfl ?_)|(refine gLoad ?_;refine stGA rfl (ok_load rfl (by rfl)) rfl rfl ?_)|(refine gIA ?_;refine stGA rfl (ok_idxA rfl rfl (by omega) (by omega)) rfl rfl ?_))|refine W_seq ?_|refine W_region ?_|refine st_nil ?_|refine tq_n ?_)
       refine st_yieldG (l:=17) rfl rfl (by rw [hL];rfl) rfl rfl rfl (fun _ _ _ _ he=>wanted_rel (b:=true) (by rw [wantedA_some (b:=decide (z=(x:Int))) rfl,decide_eq_true hz];rfl) he) ?_
       repeat' (first|(refine gU ?_;(refine gAssign ?_;refine st (ok_assign rfl) rfl rfl ?_))|refine W_region ?_|refine st_nil ?_)
       refine roundA_n (by rw [hL];rfl) ?_
       repeat' (first|(refine gU ?_;first|(refine gMove ?_;refine st (ok_move rfl) rfl rfl ?_)|(refine gLoad ?_;refine st (ok_load rfl (by first|rfl|exact hcs _)) rfl rfl ?_)|(refine gBin ?_;refine st (ok_bin rfl rfl rfl) rfl rfl ?_)|(refine gNot ?_;refine st (ok_not' rfl) rfl rfl ?_)|(refine gIA ?_;refine st (ok_idxAN rfl rfl (by omega)) rfl rfl ?_)|(refine gCall ?_;refine st (ok_call rfl rfl rfl (by exact hti _ (by simp [isIter];exact hQi))) rfl rfl ?_)|(refine gStore ?_;refine stN (ok_store rfl rfl rfl rfl (by exact hput _)) rfl ?_))|refine W_seq ?_|refine W_stop (id:=13) ?_|refine W_region ?_|refine st_nil ?_|refine tq_n ?_|refine W_skip ?_|refine W_block ?_|refine W_condTA rfl ?_|refine W_condFA rfl ?_)
       refine ⟨?_⟩
       refine (W_region ?_)
       cases sg with
       |none =>
        obtain rfl:q=[]:=hqk
        repeat' (first|(refine gU ?_;first|(refine gMove ?_;refine st (ok_move rfl) rfl rfl ?_)|(refine gLoad ?_;refine st (ok_load rfl (by rfl)) rfl rfl ?_)|(refine gBuildS ?_;refine st (ok_buildS (by rfl) (by rfl) (by rfl) (by rfl) rfl (by rfl)) rfl rfl ?_)|(refine gApp ?_;refine st (ok_appendE (by rfl) rfl rfl (by rfl) (by omega) (by omega) (by omega)) rfl rfl ?_)|(refine gStore ?_;refine stN (ok_store rfl rfl rfl rfl (by rfl)) rfl ?_))|refine st_nil ?_|refine bq_n ?_)
        refine roundB_n rfl rfl ?_
        repeat' (first|(refine gU ?_;first|(refine gMove ?_;refine st (ok_move rfl) rfl rfl ?_)|(refine gAdd ?_;refine st (ok_inc rfl rfl (by omega)) rfl rfl ?_)|(refine gPick ?_;refine st (ok_pickTA rfl rfl) rfl rfl ?_))|(refine gG ?_;(refine gNot ?_;refine stGA rfl (ok_not' rfl) rfl rfl ?_))|refine W_region ?_|refine st_nil ?_|refine tq_n ?_|refine bq_n ?_|refine W_skip ?_|refine W_condFA rfl ?_)
        refine ⟨rfl,(k+1,[(y:Int)],setB sn y true,some []),⟨by simp only;omega,hm,by simp [qok]⟩,by simp only;omega,?_⟩
        rw [hL]
        exact StRef.all _ 18 [21] (by simp) rfl rfl (subsI (j:=21) (pre_of rfl) rfl rfl rfl rfl rfl rfl (fun _=>rfl) (by have:=hLc 18 (by omega);rw [hL] at this;exact this)) (by (repeat' (first|exact trivial|refine ⟨er_plain rfl rfl,?_⟩|refine ⟨er_closed (m:=18) rfl (fun i hi=>srcR_lt hi) (by simp) (by first|rfl|exact closed_slice rfl) rfl,?_⟩)))
       |some ju =>
        repeat' ((refine gU ?_;first|(refine gMove ?_;refine st (ok_move rfl) rfl rfl ?_)|(refine gLoad ?_;refine st (ok_load rfl (by rfl)) rfl rfl ?_)|(refine gBuildS ?_;refine st (ok_buildS (by rfl) (by rfl) (by rfl) (by rfl) rfl (by rfl)) rfl rfl ?_)))
        have hju:ju++q ≠ []:=hqk
        refine st_E (ok_appendQ (el:=3) (size:=1) (i:=18) (o:=ju.length) (n:=q.length) (cs:=ints (ju++q)) (news:=[.int .i64 (y:Int)]) (by rfl) rfl rfl rfl (by simp [ints]) (by simpa [ints] using hju) rfl rfl (by omega) rfl (by omega) (by decide)) rfl rfl ?_
        rintro v σ' ⟨o',cs',h1,h2,h3,hv,rfl⟩
        obtain ⟨sg2,hs1,rfl⟩:∃ sg2,v=qV 21 (some sg2) (q++[(y:Int)])∧cs'=ints (sg2++(q++[(y:Int)])):=by
         rcases h3 with ⟨rfl,h3⟩|⟨rfl,h3⟩
         ·exact ⟨ju,hv.trans (show slq 21 ju.length 1 (q.length+1)=_ from by simp [qV]),by rw [h3];simp [ints]⟩
         ·exact ⟨[],hv.trans (show slq 21 0 1 (q.length+1)=_ from by simp [qV]),by rw [h3];simp [ints]⟩
        subst hs1
        clear hv h1 h2 h3
        repeat' (first|(refine gU ?_;(refine gStore ?_;refine stN (ok_store rfl rfl rfl rfl (by rfl)) rfl ?_))|refine st_nil ?_|refine bq_n ?_)
        refine roundB_n rfl rfl ?_
        repeat' (first|(refine gU ?_;first|(refine gMove ?_;refine st (ok_move rfl) rfl rfl ?_)|(refine gAdd ?_;refine st (ok_inc rfl rfl (by omega)) rfl rfl ?_)|(refine gPick ?_;refine st (ok_pickTA rfl rfl) rfl rfl ?_))|(refine gG ?_;(refine gNot ?_;refine stGA rfl (ok_not' rfl) rfl rfl ?_))|refine W_region ?_|refine st_nil ?_|refine tq_n ?_|refine bq_n ?_|refine W_skip ?_|refine W_condFA rfl ?_)
        refine ⟨rfl,(k+1,q++[(y:Int)],setB sn y true,some sg2),⟨by simp only;omega,hm,by simp [qok]⟩,by simp only;omega,?_⟩
        rw [hL]
        exact StRef.all _ 18 [21] (by simp) rfl rfl (subsI (j:=21) (pre_of rfl) rfl rfl rfl rfl rfl rfl (fun _=>rfl) (by have:=hLc 18 (by omega);rw [hL] at this;exact this)) (by (repeat' (first|exact trivial|refine ⟨er_plain rfl rfl,?_⟩|refine ⟨er_closed (m:=18) rfl (fun i hi=>srcR_lt hi) (by simp) (by first|rfl|exact closed_slice rfl) rfl,?_⟩)))
   ·have hm:=hsk (fun h=>hz h.1)
    clear hsk hseen hhit hpush
    repeat' (first|(refine gU ?_;(refine gBin ?_;refine st (ok_bin rfl rfl rfl) rfl rfl ?_))|refine W_seq ?_|refine W_stop (id:=2) ?_|refine W_region ?_|refine st_nil ?_|refine tq_n ?_|refine W_skip ?_|refine W_block ?_|refine W_condTA rfl ?_)
    refine ⟨?_⟩
    refine (W_region ?_)
    repeat' (first|(refine gU ?_;first|(refine gMove ?_;refine st (ok_move rfl) rfl rfl ?_)|(refine gLoad ?_;first|refine st (ok_load rfl (by rfl)) rfl rfl ?_|refine st (ok_loadA rfl (by exact hd2 _)) rfl rfl ?_)|(refine gAdd ?_;refine st (ok_inc rfl rfl (by omega)) rfl rfl ?_)|(refine gBin ?_;refine st (ok_bin rfl rfl rfl) rfl rfl ?_)|(refine gPick ?_;refine st (ok_pickFA rfl rfl) rfl rfl ?_)|(refine gIA ?_;first|refine st (ok_idxSN rfl rfl (by omega)) rfl rfl ?_|refine st (ok_idxA rfl rfl (by omega) (by omega)) rfl rfl ?_)|(refine gAlloc ?_;refine st (ok_alloc rfl) rfl rfl ?_)|(refine gStore ?_;refine stN (ok_store rfl rfl rfl rfl (by rfl)) rfl ?_))|(refine gG ?_;refine stSA rfl rfl ?_)|refine W_seq ?_|refine W_region ?_|refine st_nil ?_|refine tq_n ?_|refine bq_n ?_|refine W_skip ?_|refine W_condFA rfl ?_)
    exact ⟨rfl,(k+1,q,sn,sg),⟨by simp only;omega,hm,hqk⟩,by simp only;omega,StRef.drop [.ro (flL 1 2 3 S (fun i=>bI (rB S i))),.ro (ints S.d),.ro (pc S.f),.ro (ints S.s),.ro [.pointer (some ⟨0,0,none⟩)],.ro [.int .i64 a,.int .i64 b],.ro (rx l),.rw [.func (.func 90) #[] #[.pointer (some ⟨4,0,none⟩),.pointer (some ⟨5,0,none⟩),.pointer (some ⟨6,0,none⟩)]],.rw [.int .i64 dst],.rw [.bool false],.rw (rx (fun i=>bI (sn i))),.rw [qV 18 sg q],.dead,.rw [.int .i64 (x:Int)],.rw [.pointer (some ⟨0,0,none⟩)],.rw [.int .i64 (x:Int)],.dfr,L,qO sg q] [_] (by simp) (hc_i19 S a b l dst sn sg q x L (hLc 19 (by omega))) (by (repeat' (first|exact trivial|exact ⟨rfl,rfl,rfl⟩|exact ⟨rfl,closed_slice rfl,rfl⟩|refine ⟨?_,?_⟩)))⟩
  ·obtain rfl:k=S.f.length:=by omega
   have hB:=hm.fin
   have hcle:=cntB_le sn 10
   have hmm:=hm.m
   repeat' (first|(refine gU ?_;(refine gBin ?_;refine st (ok_bin rfl rfl rfl) rfl rfl ?_))|refine W_seq ?_|refine W_region ?_|refine st_nil ?_|refine tq_n ?_|refine tq_e ?_|refine bq_hit rfl ?_|refine W_exit ?_|refine W_condFA rfl ?_)
   refine retN .nil .all ⟨_,_,_,_,_,_,_,by rw [hL];rfl,by simp,?_⟩
   dsimp only
   repeat' (first|refine tq_n ?_|refine bq_n ?_)
   exact ⟨(q,sn,sg),⟨⟨hB,hqk⟩,by simp only [List.length_cons];omega⟩,Tail.StRefD.src [.ro (flL 1 2 3 S (fun i=>bI (rB S i))),.ro (ints S.d),.ro (pc S.f),.ro (ints S.s),.ro [.pointer (some ⟨0,0,none⟩)],.ro [.int .i64 a,.int .i64 b],.ro (rx l),.rw [.func (.func 90) #[] #[.pointer (some ⟨4,0,none⟩),.pointer (some ⟨5,0,none⟩),.pointer (some ⟨6,0,none⟩)]],.rw [.int .i64 dst],.rw [.bool false],.rw (rx (fun i=>bI (sn i)))] [.rw [qV 12 sg q],qO sg q] [11,18] 16 (by simp) rfl (hc_c11 S a b l dst sn (by simp)) rfl rfl rfl (subsD (c:=11) (j:=18) (d:=16) rfl (fun _=>rfl)) (by (repeat' (first|exact trivial|refine ⟨er_closed (m:=11) rfl (fun i hi=>srcR_lt hi) (by simp) (by rfl) rfl,?_⟩|refine ⟨er_ptr rfl (by simp) rfl,?_⟩)))⟩
end Go.Proofs.Ytomioaiojidnbaa
namespace Go.AH.Dust
open Go Go.AH
open Classical in
noncomputable def onC (S:Shp) (a b:Int) (l:Nat→Int) (way:List Int) (at_ on:Int) (p:Int×Int):Bool :=
 decide (p.1=at_) && (tigB S a b l at_.toNat p.2.toNat && ((decide (on<0) || decide (p.2 ∈ way)) && comB S a b l p.2 p.2))
noncomputable def onS (S:Shp) (a b:Int) (l:Nat→Int) (way:List Int) (at_:Int):Nat→Int
 |0=>-1
 |k+1=>if onC S a b l way at_ (onS S a b l way at_ k) (gf S.f k)=true then (gf S.f k).2 else onS S a b l way at_ k
theorem onS_w {S:Shp} (hS:S.ok) {a b:Int} {l:Nat→Int} {way:List Int} {at_:Int}:∀ {k:Nat},k≤S.f.length→onS S a b l way at_ k=-1∨isW S (onS S a b l way at_ k)
 |0,_=>.inl rfl
 |k+1,h=>by
  unfold onS
  split
  ·exact .inr (hS.f k (by omega)).2.1
  ·exact onS_w hS (by omega)
noncomputable def srchS (S:Shp) (a b:Int) (l:Nat→Int) (way:List Int):Option (List Int×Nat) :=
 if _h:way.length≤S.d.length then
  if onS S a b l way (gi way (way.length - 1)) S.f.length<0 then none
  else if 0≤ixP (fun i=>decide (gi way i=onS S a b l way (gi way (way.length - 1)) S.f.length)) way.length then
   some (way,(ixP (fun i=>decide (gi way i=onS S a b l way (gi way (way.length - 1)) S.f.length)) way.length).toNat)
  else srchS S a b l (way++[onS S a b l way (gi way (way.length - 1)) S.f.length])
 else none
termination_by S.d.length+1 - way.length
decreasing_by simp only [List.length_append,List.length_singleton];omega
noncomputable def rndS (S:Shp) (a b:Int) (l:Nat→Int) (k:Nat):Option (List Int×Nat) :=
 if _h:k<S.d.length then
  match srchS S a b l [(k:Int)] with
  |some o=>some o
  |none=>rndS S a b l (k+1)
 else none
termination_by S.d.length - k
def rV (n:Nat):Option (List Int×Nat)→Value
 |none=>.slice none 0 0
 |some (w,i)=>.slice (some ⟨n,i,none⟩) (w.length - i) (w.length - i)
def rO:Option (List Int×Nat)→Heap
 |none=>[]
 |some (w,_)=>[.rw (ints w)]
theorem ixP_lt {q:Nat→Bool} {n:Nat} (h:0≤ixP q n):ixP q n<n:=by
 unfold ixP at *
 split at h
 ·rename_i i hi
  have:=List.mem_of_find?_eq_some hi
  rw [List.mem_range] at this
  omega
 ·omega
theorem ps_slq {x k:Nat} (h:0<k):PS x 0 k (slq x 0 1 k):=by
 have:=ps_slv (x:=x) (sz:=1) (k:=k)
 cases k with
 |zero=>omega
 |succ k=>exact this
theorem hc_8 {n:Nat} (hn:7≤n) (S:Shp) (a b:Int) (l:Nat→Int) {r:Heap} (hr:HClosed n r):HClosed n ([.ro (flL 1 2 3 S (fun i=>bI (rB S i))),.ro (ints S.d),.ro (pc S.f),.ro (ints S.s),.rw [.pointer (some ⟨0,0,none⟩)],.rw [.int .i64 a,.int .i64 b],.rw (rx l),.rw [.func (.func 90) #[] #[.pointer (some ⟨4,0,none⟩),.pointer (some ⟨5,0,none⟩),.pointer (some ⟨6,0,none⟩)]]]++r):=by
 have hp:∀ i,i<7→Nat.blt i n=true:=fun i hi=>Nat.blt_eq.mpr (by omega)
 refine ⟨fl_closed (by omega),plainL_closed (ints_plain _),plainL_closed (pc_plain _),plainL_closed (ints_plain _),⟨by simp [closedL,closed,hp],rfl⟩,plainL_closed rfl,plainL_closed (rx_plain _),⟨?_,rfl⟩,hr⟩
 simp [closedL,closed,closedA,hp]
theorem hc_c8 (S:Shp) (a b:Int) (l:Nat→Int) {n:Nat} (hn:7≤n):HClosed n [.ro (flL 1 2 3 S (fun i=>bI (rB S i))),.ro (ints S.d),.ro (pc S.f),.ro (ints S.s),.rw [.pointer (some ⟨0,0,none⟩)],.rw [.int .i64 a,.int .i64 b],.rw (rx l),.rw [.func (.func 90) #[] #[.pointer (some ⟨4,0,none⟩),.pointer (some ⟨5,0,none⟩),.pointer (some ⟨6,0,none⟩)]]]:=by
 have:=hc_8 hn S a b l (r:=[]) trivial
 simpa using this
theorem hc_c10 (S:Shp) (a b:Int) (l:Nat→Int) (way:List Int):HClosed 10 [.ro (flL 1 2 3 S (fun i=>bI (rB S i))),.ro (ints S.d),.ro (pc S.f),.ro (ints S.s),.rw [.pointer (some ⟨0,0,none⟩)],.rw [.int .i64 a,.int .i64 b],.rw (rx l),.rw [.func (.func 90) #[] #[.pointer (some ⟨4,0,none⟩),.pointer (some ⟨5,0,none⟩),.pointer (some ⟨6,0,none⟩)]],.gr (ints way) 3,.rw [qV 8 (some []) way]] :=
 hc_8 (by omega) S a b l ⟨plainL_closed (ints_plain _),qc_closed (by omega),trivial⟩
theorem hc_i16 (S:Shp) (a b:Int) (l:Nat→Int) (way:List Int) (x:Nat) (on:Int) (L:AObj) (hL:oclosed 16 L):HClosed 16 [.ro (flL 1 2 3 S (fun i=>bI (rB S i))),.ro (ints S.d),.ro (pc S.f),.ro (ints S.s),.rw [.pointer (some ⟨0,0,none⟩)],.rw [.int .i64 a,.int .i64 b],.rw (rx l),.rw [.func (.func 90) #[] #[.pointer (some ⟨4,0,none⟩),.pointer (some ⟨5,0,none⟩),.pointer (some ⟨6,0,none⟩)]],.gr (ints way) 3,.rw [qV 8 (some []) way],.rw [.int .i64 (x:Int)],.rw [.int .i64 on],.rw [.pointer (some ⟨0,0,none⟩)],.rw [.int .i64 (x:Int)],.dfr,L] :=
 hc_8 (by omega) S a b l ⟨plainL_closed (ints_plain _),qc_closed (by omega),plainL_closed rfl,plainL_closed rfl,⟨rfl,rfl⟩,plainL_closed rfl,trivial,hL,trivial⟩
theorem subs8 {σ:Heap} {q:List Int} {c j d:Nat} (hcell:σ[c]?=some (.rw [qV j (some []) q])) (hg:σ[j]?=some (.gr (ints q) 3)):OSubs σ 11 (srcR 8 [j,c,d]) 8 [.gr (ints q) 3,.rw [qV 8 (some []) q]]:=by
 refine ⟨osub_gr (j:=j) rfl hg (ints_plain _),?_,trivial⟩
 have h1:srcR 8 [j,c,d] 9=⟨c,0,0⟩:=rfl
 refine .inr ⟨by rw [h1],[qV j (some []) q],.inl (by rw [h1];exact hcell),Nat.le_refl _,fun a ha ha'=>?_⟩
 match a,ha with
 |0,_ =>
  have:=VQ.gsliceG (q:=true) (n:=11) (ρ:=srcR 8 [j,c,d]) 8 0 q.length q.length q.length 1 (Nat.le_refl _) (by omega) rfl
  simpa [qV,srcR] using this
end Go.AH.Dust
namespace Go.Proofs.Ytomioaiojidnbaa
open Go Go.AH
attribute [local irreducible] WOps WCode WFree retQ thenQ blockQ scopeQ OpOk ACall RetRef roundA roundB
set_option maxRecDepth 100000
set_option maxHeartbeats 1000000
open Go.AH.Dust
theorem comes_ev {σ:Heap} {S:Shp} {a b:Int} {l:Nat→Int} {src dst:Int} {p x y z u v w:Nat} (h:TAt σ p x y z u v w S a b l) (hS:S.ok) (hL:Lev a b l) (hsrc:isW S src) (hni:σ.all (fun o=>!isIter o)=true) :
  Ev Try.prog 91 [.pointer (some ⟨p,0,none⟩),.func (.func 90) #[] #[.pointer (some ⟨u,0,none⟩),.pointer (some ⟨v,0,none⟩),.pointer (some ⟨w,0,none⟩)],.int .i64 src,.int .i64 dst] σ (.bool (comB S a b l src dst)) σ:=by
 refine h.ev (comes_ok S hS a b l hL src dst hsrc) ⟨VQ.ptr (q:=true) (n:=7) (ρ:=bsR [p,x,y,z,u,v,w]) 0 0 (by omega),?_,.int _ _,.int _ _,trivial⟩ rfl hni
 refine .func 90 _ _ _ _ rfl rfl (fun i h _=>absurd h (by simp)) fun i h h'=>?_
 match i,h with
 |0,_=>exact VQ.ptr (q:=true) (n:=7) (ρ:=bsR [p,x,y,z,u,v,w]) 4 0 (by omega)
 |1,_=>exact VQ.ptr (q:=true) (n:=7) (ρ:=bsR [p,x,y,z,u,v,w]) 5 0 (by omega)
 |2,_=>exact VQ.ptr (q:=true) (n:=7) (ρ:=bsR [p,x,y,z,u,v,w]) 6 0 (by omega)
theorem round_ok (S:Shp) (hS:S.ok) (a b:Int) (l:Nat→Int) (hLv:Lev a b l) :
  Ev Try.prog 73 [.pointer (some ⟨0,0,none⟩),.agg #[.int .i64 a,.int .i64 b],.agg (rx l).toArray] [.ro (flL 1 2 3 S (fun i=>bI (rB S i))),.ro (ints S.d),.ro (pc S.f),.ro (ints S.s)] (rV 4 (rndS S a b l 0)) ([.ro (flL 1 2 3 S (fun i=>bI (rB S i))),.ro (ints S.d),.ro (pc S.f),.ro (ints S.s)]++rO (rndS S a b l 0)):=by
 have n10:=hS.n10
 have f60:=hS.f60
 refine acall_intro 4 88 Try.func73 rfl rfl rfl rfl rfl ?_
 repeat' (first|(refine gU ?_;first|(refine gMove ?_;refine st (ok_move rfl) rfl rfl ?_)|(refine gAssign ?_;refine st (ok_assign rfl) rfl rfl ?_)|(refine gFA ?_;refine st (ok_fieldAddr rfl) rfl rfl ?_)|(refine gLoad ?_;refine st (ok_load rfl (by rfl)) rfl rfl ?_)|(refine gLen ?_;refine st (ok_len rfl) rfl rfl ?_)|(refine gNil ?_;refine st (ok_nilP rfl) rfl rfl ?_)|(refine gMkF ?_;refine st (ok_makeFunc rfl rfl) rfl rfl ?_)|(refine gBox ?_;refine st (ok_box rfl) rfl rfl ?_)|(refine gAlloc ?_;refine st (ok_alloc rfl) rfl rfl ?_)|(refine gStore ?_;refine stN (ok_store rfl rfl rfl rfl (by rfl)) rfl ?_))|refine W_seq ?_|refine W_region ?_|refine st_nil ?_|refine tq_n ?_|refine W_block ?_|refine W_scope ?_|refine W_label ?_)
 refine Tail.W_loopD (ι:=Nat) (fun s=>[(3,.pointer (some ⟨4,0,none⟩)),(7,.pointer (some ⟨7,0,none⟩)),(8,.slice none 0 0),(21,.int .i64 (S.d.length:Int)),(22,.int .i64 (s:Int))])
  (fun _=>[.ro (flL 1 2 3 S (fun i=>bI (rB S i))),.ro (ints S.d),.ro (pc S.f),.ro (ints S.s),.rw [.pointer (some ⟨0,0,none⟩)],.rw [.int .i64 a,.int .i64 b],.rw (rx l),.rw [.func (.func 90) #[] #[.pointer (some ⟨4,0,none⟩),.pointer (some ⟨5,0,none⟩),.pointer (some ⟨6,0,none⟩)]]]) (fun s=>S.d.length - s) (fun s=>s≤S.d.length∧rndS S a b l 0=rndS S a b l s) 0 rfl (by (repeat' (first|exact Tail.tail_ret rfl|refine Tail.tail_then ?_ ?_|refine Tail.tail_block ?_|refine Tail.tail_scope ?_|refine Tail.W_tail rfl ?_))) (fun _=>by simp) (fun _ _=>hc_c8 S a b l (by simp))
  (.of (.same ⟨rfl,rfl,rfl,rfl,rfl,trivial⟩) (by simp)) ⟨Nat.zero_le _,rfl⟩ ?_
 intro k ⟨hk,hr⟩
 by_cases hkd:k<S.d.length
 ·have hrn:srchS S a b l [(k:Int)]=none→rndS S a b l 0=rndS S a b l (k+1):=fun h=>by
   rw [hr,rndS,dif_pos hkd,h]
  have hry:∀ o,srchS S a b l [(k:Int)]=some o→rndS S a b l 0=some o:=fun o h=>by
   rw [hr,rndS,dif_pos hkd,h]
  clear hr
  repeat' (first|(refine gU ?_;first|(refine gMove ?_;refine st (ok_move rfl) rfl rfl ?_)|(refine gAssign ?_;refine st (ok_assign rfl) rfl rfl ?_)|(refine gBin ?_;refine st (ok_bin rfl rfl rfl) rfl rfl ?_))|refine W_seq ?_|refine W_stop (id:=6) ?_|refine W_region ?_|refine st_nil ?_|refine tq_n ?_|refine W_skip ?_|refine W_block ?_|refine W_condTA rfl ?_)
  refine ⟨?_⟩
  refine (W_region ?_)
  refine st (ok_move rfl) rfl rfl ?_
  refine st (ok_buildSG (by rfl) (by rfl) (by rfl) (by rfl) rfl (by rfl)) rfl rfl ?_
  repeat' (first|(refine gU ?_;first|(refine gAlloc ?_;refine st (ok_alloc rfl) rfl rfl ?_)|(refine gStore ?_;refine stN (ok_store rfl rfl rfl rfl (by rfl)) rfl ?_))|refine st_nil ?_|refine tq_n ?_|refine W_block ?_)
  refine Tail.W_loopD (ι:=List Int) (fun way=>[(3,.pointer (some ⟨4,0,none⟩)),(7,.pointer (some ⟨7,0,none⟩)),(8,.slice none 0 0),(10,.pointer (some ⟨9,0,none⟩)),(21,.int .i64 (S.d.length:Int)),(22,.int .i64 (k:Int))])
   (fun way=>[.ro (flL 1 2 3 S (fun i=>bI (rB S i))),.ro (ints S.d),.ro (pc S.f),.ro (ints S.s),.rw [.pointer (some ⟨0,0,none⟩)],.rw [.int .i64 a,.int .i64 b],.rw (rx l),.rw [.func (.func 90) #[] #[.pointer (some ⟨4,0,none⟩),.pointer (some ⟨5,0,none⟩),.pointer (some ⟨6,0,none⟩)]],.gr (ints way) 3,.rw [qV 8 (some []) way]]) (fun way=>S.d.length+1 - way.length) (fun way=>way ≠ []∧(∀ x ∈ way,isW S x)∧srchS S a b l [(k:Int)]=srchS S a b l way) [(k:Int)] rfl (by (repeat' (first|exact Tail.tail_ret rfl|exact Tail.tail_loopD|refine Tail.tail_then ?_ ?_|refine Tail.tail_block ?_|refine Tail.tail_scope ?_|refine Tail.W_tail rfl ?_))) (fun _=>by simp) (fun way _=>hc_c10 S a b l way)
   (.of (.same ⟨rfl,rfl,rfl,rfl,rfl,rfl,trivial⟩) (by simp)) ⟨by simp,fun x hx=>by rw [List.mem_singleton.1 hx];exact ⟨by omega,by omega⟩,rfl⟩ ?_
  intro way ⟨hw0,hww,hsr⟩
  have hwp:0<way.length:=List.length_pos_iff.2 hw0
  by_cases hwl:way.length≤S.d.length
  ·obtain ⟨x,hx⟩:∃ x:Nat,gi way (way.length - 1)=(x:Int):=⟨(gi way (way.length - 1)).toNat,by have:=(hww _ (mem_gi.2 ⟨way.length - 1,by omega,rfl⟩)).1;omega⟩
   have hxd:x<S.d.length:=by have:=(hww _ (mem_gi.2 ⟨way.length - 1,by omega,rfl⟩)).2;omega
   have e1:((way.length:Nat):Int) - 1=((way.length - 1:Nat):Int):=by omega
   have hc2:∀ σ':Heap,cellGet (AObj.ro (flL 1 2 3 S (fun i=>bI (rB S i)))::.ro (ints S.d)::.ro (pc S.f)::.ro (ints S.s)::.rw [.pointer (some ⟨0,0,none⟩)]::.rw [.int .i64 a,.int .i64 b]::.rw (rx l)::.rw [.func (.func 90) #[] #[.pointer (some ⟨4,0,none⟩),.pointer (some ⟨5,0,none⟩),.pointer (some ⟨6,0,none⟩)]]::.gr (ints way) 3::.rw [qV 8 (some []) way]::σ') 8 (0+(way.length - 1)*1)=some (.int .i64 (x:Int)):=fun σ'=>by
    show (ints way)[0+(way.length - 1)*1]?=_
    rw [Nat.mul_one,Nat.zero_add,ints_get (by omega),hx]
   have hnx:=next_ev (σ:=[.ro (flL 1 2 3 S (fun i=>bI (rB S i))),.ro (ints S.d),.ro (pc S.f),.ro (ints S.s),.rw [.pointer (some ⟨0,0,none⟩)],.rw [.int .i64 a,.int .i64 b],.rw (rx l),.rw [.func (.func 90) #[] #[.pointer (some ⟨4,0,none⟩),.pointer (some ⟨5,0,none⟩),.pointer (some ⟨6,0,none⟩)]],.gr (ints way) 3,.rw [qV 8 (some []) way],.rw [.int .i64 (x:Int)],.rw [.int .i64 (-1)]]) (S:=S) (r:=fun i=>bI (rB S i)) (n:=(x:Int)) (p:=0) (x:=1) (y:=2) (z:=3) ⟨.inl rfl,.inl rfl,.inl rfl,.inl rfl⟩ rfl
   repeat' (first|(refine gU ?_;first|refine st (ok_idxQ (k:=way.length - 1) rfl (congrArg (fun z=>some (Value.int .i64 z)) e1) (by omega)) rfl rfl ?_|(refine gLoad ?_;refine st (ok_load rfl (by first|rfl|exact hc2 _)) rfl rfl ?_)|(refine gSub ?_;refine st (ok_sub rfl rfl (by omega) (by omega)) rfl rfl ?_)|(refine gLen ?_;refine st (ok_len rfl) rfl rfl ?_)|(refine gCall ?_;refine st (ok_call rfl rfl rfl (by exact hnx)) rfl rfl ?_)|(refine gAlloc ?_;refine st (ok_alloc rfl) rfl rfl ?_)|(refine gStore ?_;refine stN (ok_store rfl rfl rfl rfl (by rfl)) rfl ?_))|(refine fU ?_;first|(refine fMove ?_;refine frA (ok_move rfl) rfl ?_)|(refine fLoad ?_;refine frA (ok_load rfl (by rfl)) rfl ?_)|(refine fBin ?_;refine frA (ok_bin rfl rfl rfl) rfl ?_)|(refine fLen ?_;refine frA (ok_len rfl) rfl ?_)|(refine fPick ?_;refine frA (ok_pickTA rfl rfl) rfl ?_))|(refine fG ?_;first|(refine fFA ?_;refine frGA rfl (ok_fieldAddr rfl) rfl ?_)|(refine fLoad ?_;refine frGA rfl (ok_load rfl (by rfl)) rfl ?_)|(refine fBin ?_;refine frGA rfl (ok_bin rfl rfl rfl) rfl ?_)|(refine fLen ?_;refine frGA rfl (ok_len rfl) rfl ?_)|(refine fNil ?_;refine frGA rfl (ok_nilP rfl) rfl ?_))|(refine fr_stop ⟨by kernel_rfl,?_⟩)|refine W_seq ?_|refine W_region ?_|refine W_regionD (by kernel_rfl) rfl ?_|refine st_nil ?_|refine tq_n ?_|refine W_skip ?_|refine W_block ?_|refine W_condTA rfl ?_)
   refine W_st (by simp) (.same (e2:=[(3,.pointer (some ⟨4,0,none⟩)),(7,.pointer (some ⟨7,0,none⟩)),(8,.slice none 0 0),(10,.pointer (some ⟨9,0,none⟩)),(11,.pointer (some ⟨10,0,none⟩)),(12,.pointer (some ⟨11,0,none⟩)),(21,.int .i64 (S.d.length:Int)),(22,.int .i64 (k:Int)),(49,.func (.func 87) #[] #[.pointer (some ⟨12,0,none⟩),.pointer (some ⟨13,0,none⟩)])]) ⟨rfl,rfl,rfl,rfl,rfl,rfl,rfl,rfl,rfl,trivial⟩) ?_
   refine W_rangeFuncL (p:=[]) (q:=[.pointer (some ⟨12,0,none⟩),.pointer (some ⟨13,0,none⟩)]) rfl fun L hL=>?_
   have hLc:oclosed 16 L:=by
    rw [hL]
    exact env_closed fun p hp=>by
     simp only [List.mem_cons,List.not_mem_nil,or_false] at hp
     rcases hp with rfl|rfl|rfl|rfl|rfl|rfl|rfl|rfl|rfl <;> exact ⟨rfl,rfl⟩
   have hLi:isIter L=false:=by rw [hL];rfl
   refine acall_intro 16 28 Try.func87 rfl rfl rfl rfl rfl ?_
   repeat' (first|(refine gU ?_;first|(refine gMove ?_;refine st (ok_move rfl) rfl rfl ?_)|(refine gFA ?_;refine st (ok_fieldAddr rfl) rfl rfl ?_)|(refine gLoad ?_;refine st (ok_load rfl (by rfl)) rfl rfl ?_)|(refine gLen ?_;refine st (ok_len rfl) rfl rfl ?_)|(refine gNil ?_;refine st (ok_nilP rfl) rfl rfl ?_))|refine W_seq ?_|refine W_region ?_|refine st_nil ?_|refine tq_n ?_|refine W_block ?_)
   refine W_loopS (ι:=Nat) (fun s=>[(0,.func (.yield 15) #[] #[]),(1,.pointer (some ⟨12,0,none⟩)),(2,.pointer (some ⟨13,0,none⟩)),(10,sl 2 S.f.length),(11,.int .i64 (S.f.length:Int)),(12,.int .i64 (s:Int))])
    (fun s=>[.ro (flL 1 2 3 S (fun i=>bI (rB S i))),.ro (ints S.d),.ro (pc S.f),.ro (ints S.s),.rw [.pointer (some ⟨0,0,none⟩)],.rw [.int .i64 a,.int .i64 b],.rw (rx l),.rw [.func (.func 90) #[] #[.pointer (some ⟨4,0,none⟩),.pointer (some ⟨5,0,none⟩),.pointer (some ⟨6,0,none⟩)]],.gr (ints way) 3,.rw [qV 8 (some []) way],.rw [.int .i64 (x:Int)],.rw [.int .i64 (onS S a b l way (x:Int) s)],.rw [.pointer (some ⟨0,0,none⟩)],.rw [.int .i64 (x:Int)],.dfr,L]) (fun s=>S.f.length - s) (fun s=>s≤S.f.length) 0 (by simp) (.same ⟨rfl,rfl,rfl,rfl,rfl,rfl,trivial⟩) (Nat.zero_le _) ?_
   clear hnx
   intro k2 hk2
   by_cases hkl:k2<S.f.length
   ·have hd2:∀ σ':Heap,cellsAt (.ro (flL 1 2 3 S (fun i=>bI (rB S i)))::.ro (ints S.d)::.ro (pc S.f)::σ') 2 (0+k2*2) 2=some [.int .i64 (gf S.f k2).1,.int .i64 (gf S.f k2).2]:=fun σ'=>pc_cells (.inl rfl) hkl
    obtain ⟨hw1,hw2,-⟩:=hS.f k2 hkl
    have hon:=onS_w hS (a:=a) (b:=b) (l:=l) (way:=way) (at_:=(x:Int)) hk2
    have hos:onS S a b l way (x:Int) (k2+1)=if onC S a b l way (x:Int) (onS S a b l way (x:Int) k2) (gf S.f k2)=true then (gf S.f k2).2 else onS S a b l way (x:Int) k2:=rfl
    have hti:∀ y:Nat,y<S.d.length→∀ σ':Heap,(AObj.ro (flL 1 2 3 S (fun i=>bI (rB S i)))::.ro (ints S.d)::.ro (pc S.f)::.ro (ints S.s)::.rw [.pointer (some ⟨0,0,none⟩)]::.rw [.int .i64 a,.int .i64 b]::.rw (rx l)::.rw [.func (.func 90) #[] #[.pointer (some ⟨4,0,none⟩),.pointer (some ⟨5,0,none⟩),.pointer (some ⟨6,0,none⟩)]]::σ').all (fun o=>!isIter o)=true→Ev Try.prog 90 [.int .i64 (x:Int),.int .i64 (y:Int),.pointer (some ⟨4,0,none⟩),.pointer (some ⟨5,0,none⟩),.pointer (some ⟨6,0,none⟩)] (AObj.ro (flL 1 2 3 S (fun i=>bI (rB S i)))::.ro (ints S.d)::.ro (pc S.f)::.ro (ints S.s)::.rw [.pointer (some ⟨0,0,none⟩)]::.rw [.int .i64 a,.int .i64 b]::.rw (rx l)::.rw [.func (.func 90) #[] #[.pointer (some ⟨4,0,none⟩),.pointer (some ⟨5,0,none⟩),.pointer (some ⟨6,0,none⟩)]]::σ') (.bool (tigB S a b l x y)) (AObj.ro (flL 1 2 3 S (fun i=>bI (rB S i)))::.ro (ints S.d)::.ro (pc S.f)::.ro (ints S.s)::.rw [.pointer (some ⟨0,0,none⟩)]::.rw [.int .i64 a,.int .i64 b]::.rw (rx l)::.rw [.func (.func 90) #[] #[.pointer (some ⟨4,0,none⟩),.pointer (some ⟨5,0,none⟩),.pointer (some ⟨6,0,none⟩)]]::σ'):=fun y hyd σ' hs=>tight_ev (p:=0) (x:=1) (y:=2) (z:=3) ⟨⟨.inl rfl,.inl rfl,.inl rfl,.inl rfl⟩,.inr (.inl rfl),.inr (.inl rfl),.inr (.inl rfl)⟩ hS hLv hxd hyd hs
    have hco:∀ y:Int,isW S y→∀ σ':Heap,(AObj.ro (flL 1 2 3 S (fun i=>bI (rB S i)))::.ro (ints S.d)::.ro (pc S.f)::.ro (ints S.s)::.rw [.pointer (some ⟨0,0,none⟩)]::.rw [.int .i64 a,.int .i64 b]::.rw (rx l)::.rw [.func (.func 90) #[] #[.pointer (some ⟨4,0,none⟩),.pointer (some ⟨5,0,none⟩),.pointer (some ⟨6,0,none⟩)]]::σ').all (fun o=>!isIter o)=true→Ev Try.prog 91 [.pointer (some ⟨0,0,none⟩),.func (.func 90) #[] #[.pointer (some ⟨4,0,none⟩),.pointer (some ⟨5,0,none⟩),.pointer (some ⟨6,0,none⟩)],.int .i64 y,.int .i64 y] (AObj.ro (flL 1 2 3 S (fun i=>bI (rB S i)))::.ro (ints S.d)::.ro (pc S.f)::.ro (ints S.s)::.rw [.pointer (some ⟨0,0,none⟩)]::.rw [.int .i64 a,.int .i64 b]::.rw (rx l)::.rw [.func (.func 90) #[] #[.pointer (some ⟨4,0,none⟩),.pointer (some ⟨5,0,none⟩),.pointer (some ⟨6,0,none⟩)]]::σ') (.bool (comB S a b l y y)) (AObj.ro (flL 1 2 3 S (fun i=>bI (rB S i)))::.ro (ints S.d)::.ro (pc S.f)::.ro (ints S.s)::.rw [.pointer (some ⟨0,0,none⟩)]::.rw [.int .i64 a,.int .i64 b]::.rw (rx l)::.rw [.func (.func 90) #[] #[.pointer (some ⟨4,0,none⟩),.pointer (some ⟨5,0,none⟩),.pointer (some ⟨6,0,none⟩)]]::σ'):=fun y hyd σ' hs=>comes_ev (p:=0) (x:=1) (y:=2) (z:=3) ⟨⟨.inl rfl,.inl rfl,.inl rfl,.inl rfl⟩,.inr (.inl rfl),.inr (.inl rfl),.inr (.inl rfl)⟩ hS hLv hyd hs
    have hwy:∀ y:Int,∀ σ':Heap,(AObj.ro (flL 1 2 3 S (fun i=>bI (rB S i)))::.ro (ints S.d)::.ro (pc S.f)::.ro (ints S.s)::.rw [.pointer (some ⟨0,0,none⟩)]::.rw [.int .i64 a,.int .i64 b]::.rw (rx l)::.rw [.func (.func 90) #[] #[.pointer (some ⟨4,0,none⟩),.pointer (some ⟨5,0,none⟩),.pointer (some ⟨6,0,none⟩)]]::.gr (ints way) 3::σ').all (fun o=>!isIter o)=true→Ev Try.prog 54 [qV 8 (some []) way,.int .i64 y] (AObj.ro (flL 1 2 3 S (fun i=>bI (rB S i)))::.ro (ints S.d)::.ro (pc S.f)::.ro (ints S.s)::.rw [.pointer (some ⟨0,0,none⟩)]::.rw [.int .i64 a,.int .i64 b]::.rw (rx l)::.rw [.func (.func 90) #[] #[.pointer (some ⟨4,0,none⟩),.pointer (some ⟨5,0,none⟩),.pointer (some ⟨6,0,none⟩)]]::.gr (ints way) 3::σ') (.bool (decide (y ∈ way))) (AObj.ro (flL 1 2 3 S (fun i=>bI (rB S i)))::.ro (ints S.d)::.ro (pc S.f)::.ro (ints S.s)::.rw [.pointer (some ⟨0,0,none⟩)]::.rw [.int .i64 a,.int .i64 b]::.rw (rx l)::.rw [.func (.func 90) #[] #[.pointer (some ⟨4,0,none⟩),.pointer (some ⟨5,0,none⟩),.pointer (some ⟨6,0,none⟩)]]::.gr (ints way) 3::σ'):=fun y σ' hs=>has54P_ev (x:=8) (o:=0) (prtAt_arr (.inr (.inr ⟨_,rfl⟩))) (ps_slq hwp) (by omega) hs
    unfold onC at hos
    generalize hon2:onS S a b l way (x:Int) (k2+1)=on2 at hos
    generalize onS S a b l way (x:Int) k2=on at *
    generalize gf S.f k2=p at *
    obtain ⟨z,y0⟩:=p
    simp only at hw1 hw2 hd2 hos
    obtain ⟨y,rfl⟩:∃ y:Nat,y0=(y:Int):=⟨y0.toNat,by have:=hw2.1;omega⟩
    have hyd:y<S.d.length:=by have:=hw2.2;omega
    replace hti:=hti y hyd
    replace hco:=hco (y:Int) hw2
    replace hwy:=hwy (y:Int)
    simp only [Int.toNat_natCast] at hos
    obtain ⟨T,hT⟩:∃ T,tigB S a b l x y=T:=⟨_,rfl⟩
    obtain ⟨C,hC⟩:∃ C,comB S a b l (y:Int) (y:Int)=C:=⟨_,rfl⟩
    simp only [hT,hC] at hos
    simp only [hT] at hti
    simp only [hC] at hco
    clear hT hC
    by_cases hz:z=(x:Int)
    ·cases T with
     |false =>
      rw [show on2=on from by rw [hos];simp [hz]] at hon2
      clear hos
      repeat' (first|(refine gU ?_;first|(refine gMove ?_;refine st (ok_move rfl) rfl rfl ?_)|(refine gLoad ?_;first|refine st (ok_load rfl (by rfl)) rfl rfl ?_|refine st (ok_loadA rfl (by exact hd2 _)) rfl rfl ?_)|(refine gBin ?_;refine st (ok_bin rfl rfl rfl) rfl rfl ?_)|(refine gIA ?_;first|refine st (ok_idxSN rfl rfl (by omega)) rfl rfl ?_|refine st (ok_idxA rfl rfl (by omega) (by omega)) rfl rfl ?_)|(refine gAlloc ?_;refine st (ok_alloc rfl) rfl rfl ?_)|(refine gStore ?_;refine stN (ok_store rfl rfl rfl rfl (by rfl)) rfl ?_))|(refine gG ?_;first|(refine gMove ?_;refine stGA rfl (ok_move rfl) rfl rfl ?_)|(refine gLoad ?_;refine stGA rfl (ok_load rfl (by rfl)) rfl rfl ?_)|(refine gIA ?_;refine stGA rfl (ok_idxA rfl rfl (by omega) (by omega)) rfl rfl ?_))|refine W_seq ?_|refine W_region ?_|refine st_nil ?_|refine tq_n ?_|refine W_skip ?_|refine W_block ?_|refine W_condTA rfl ?_)
      refine st_yieldG (l:=15) rfl rfl (by rw [hL];rfl) rfl rfl rfl (fun _ _ _ _ he=>wanted_rel (b:=true) (by rw [wantedA_some (b:=decide (z=(x:Int))) rfl,decide_eq_true hz];rfl) he) ?_
      repeat' (first|(refine gU ?_;(refine gAssign ?_;refine st (ok_assign rfl) rfl rfl ?_))|refine W_region ?_|refine st_nil ?_)
      refine roundA_n (by rw [hL];rfl) ?_
      repeat' (first|(refine gU ?_;first|(refine gMove ?_;refine st (ok_move rfl) rfl rfl ?_)|(refine gLoad ?_;refine st (ok_load rfl (by rfl)) rfl rfl ?_)|(refine gPick ?_;refine st (ok_pickFA rfl rfl) rfl rfl ?_)|(refine gCall ?_;refine st (ok_call rfl rfl rfl (by exact hti _ (by simp [isIter]))) rfl rfl ?_))|(refine gG ?_;first|refine stSU rfl rfl ?_|refine stSA rfl rfl ?_)|refine W_seq ?_|refine W_region ?_|refine st_nil ?_|refine tq_n ?_|refine bq_n ?_|refine W_skip ?_|refine W_block ?_|refine W_condFA rfl ?_)
      refine roundB_n rfl rfl ?_
      repeat' (first|(refine gU ?_;first|(refine gMove ?_;refine st (ok_move rfl) rfl rfl ?_)|(refine gAdd ?_;refine st (ok_inc rfl rfl (by omega)) rfl rfl ?_)|(refine gPick ?_;refine st (ok_pickTA rfl rfl) rfl rfl ?_))|(refine gG ?_;(refine gNot ?_;refine stGA rfl (ok_not' rfl) rfl rfl ?_))|refine W_region ?_|refine st_nil ?_|refine tq_n ?_|refine bq_n ?_|refine W_skip ?_|refine W_condFA rfl ?_)
      refine ⟨rfl,k2+1,by omega,by omega,?_⟩
      rw [hon2]
      rw [hL]
      exact StRef.drop [.ro (flL 1 2 3 S (fun i=>bI (rB S i))),.ro (ints S.d),.ro (pc S.f),.ro (ints S.s),.rw [.pointer (some ⟨0,0,none⟩)],.rw [.int .i64 a,.int .i64 b],.rw (rx l),.rw [.func (.func 90) #[] #[.pointer (some ⟨4,0,none⟩),.pointer (some ⟨5,0,none⟩),.pointer (some ⟨6,0,none⟩)]],.gr (ints way) 3,.rw [qV 8 (some []) way],.rw [.int .i64 (x:Int)],.rw [.int .i64 on],.rw [.pointer (some ⟨0,0,none⟩)],.rw [.int .i64 (x:Int)],.dfr,_] [_] (by simp) (hc_i16 S a b l way x on _ (by have:=hLc;rw [hL] at this;exact this)) (by (repeat' (first|exact trivial|exact ⟨rfl,rfl,rfl⟩|exact ⟨rfl,closed_slice rfl,rfl⟩|refine ⟨?_,?_⟩)))
     |true =>
      by_cases ho:on<0
      ·cases C with
       |false =>
        rw [show on2=on from by rw [hos];simp [hz]] at hon2
        clear hos
        repeat' (first|(refine gU ?_;first|(refine gMove ?_;refine st (ok_move rfl) rfl rfl ?_)|(refine gLoad ?_;first|refine st (ok_load rfl (by rfl)) rfl rfl ?_|refine st (ok_loadA rfl (by exact hd2 _)) rfl rfl ?_)|(refine gBin ?_;refine st (ok_bin rfl rfl rfl) rfl rfl ?_)|(refine gIA ?_;first|refine st (ok_idxSN rfl rfl (by omega)) rfl rfl ?_|refine st (ok_idxA rfl rfl (by omega) (by omega)) rfl rfl ?_)|(refine gAlloc ?_;refine st (ok_alloc rfl) rfl rfl ?_)|(refine gStore ?_;refine stN (ok_store rfl rfl rfl rfl (by rfl)) rfl ?_))|(refine gG ?_;first|(refine gMove ?_;refine stGA rfl (ok_move rfl) rfl rfl ?_)|(refine gLoad ?_;refine stGA rfl (ok_load rfl (by rfl)) rfl rfl ?_)|(refine gIA ?_;refine stGA rfl (ok_idxA rfl rfl (by omega) (by omega)) rfl rfl ?_))|refine W_seq ?_|refine W_region ?_|refine st_nil ?_|refine tq_n ?_|refine W_skip ?_|refine W_block ?_|refine W_condTA rfl ?_)
        refine st_yieldG (l:=15) rfl rfl (by rw [hL];rfl) rfl rfl rfl (fun _ _ _ _ he=>wanted_rel (b:=true) (by rw [wantedA_some (b:=decide (z=(x:Int))) rfl,decide_eq_true hz];rfl) he) ?_
        repeat' (first|(refine gU ?_;(refine gAssign ?_;refine st (ok_assign rfl) rfl rfl ?_))|refine W_region ?_|refine st_nil ?_)
        refine roundA_n (by rw [hL];rfl) ?_
        repeat' (first|(refine gU ?_;first|(refine gMove ?_;refine st (ok_move rfl) rfl rfl ?_)|(refine gLoad ?_;refine st (ok_load rfl (by rfl)) rfl rfl ?_)|(refine gPick ?_;refine st (ok_pickTA rfl rfl) rfl rfl ?_)|(refine gCall ?_;refine st (ok_call rfl rfl rfl (by exact hti _ (by simp [isIter]))) rfl rfl ?_))|(refine gG ?_;first|(refine gMove ?_;refine stGA rfl (ok_move rfl) rfl rfl ?_)|(refine gLoad ?_;refine stGA rfl (ok_load rfl (by rfl)) rfl rfl ?_)|(refine gBin ?_;refine stGA rfl (ok_bin rfl rfl rfl) rfl rfl ?_)|(refine gPick ?_;refine stGA rfl (ok_pickTA rfl rfl) rfl rfl ?_)|(refine gCall ?_;refine stGA rfl (ok_call rfl rfl rfl (by exact hco _ (by simp [isIter]))) rfl rfl ?_)|refine stSA rfl rfl ?_)|refine W_seq ?_|refine W_region ?_|refine st_nil ?_|refine tq_n ?_|refine bq_n ?_|refine W_skip ?_|refine W_block ?_|refine W_condFA rfl ?_)
        refine roundB_n rfl rfl ?_
        repeat' (first|(refine gU ?_;first|(refine gMove ?_;refine st (ok_move rfl) rfl rfl ?_)|(refine gAdd ?_;refine st (ok_inc rfl rfl (by omega)) rfl rfl ?_)|(refine gPick ?_;refine st (ok_pickTA rfl rfl) rfl rfl ?_))|(refine gG ?_;(refine gNot ?_;refine stGA rfl (ok_not' rfl) rfl rfl ?_))|refine W_region ?_|refine st_nil ?_|refine tq_n ?_|refine bq_n ?_|refine W_skip ?_|refine W_condFA rfl ?_)
        refine ⟨rfl,k2+1,by omega,by omega,?_⟩
        rw [hon2]
        rw [hL]
        exact StRef.drop [.ro (flL 1 2 3 S (fun i=>bI (rB S i))),.ro (ints S.d),.ro (pc S.f),.ro (ints S.s),.rw [.pointer (some ⟨0,0,none⟩)],.rw [.int .i64 a,.int .i64 b],.rw (rx l),.rw [.func (.func 90) #[] #[.pointer (some ⟨4,0,none⟩),.pointer (some ⟨5,0,none⟩),.pointer (some ⟨6,0,none⟩)]],.gr (ints way) 3,.rw [qV 8 (some []) way],.rw [.int .i64 (x:Int)],.rw [.int .i64 on],.rw [.pointer (some ⟨0,0,none⟩)],.rw [.int .i64 (x:Int)],.dfr,_] [_] (by simp) (hc_i16 S a b l way x on _ (by have:=hLc;rw [hL] at this;exact this)) (by (repeat' (first|exact trivial|exact ⟨rfl,rfl,rfl⟩|exact ⟨rfl,closed_slice rfl,rfl⟩|refine ⟨?_,?_⟩)))
       |true =>
        rw [show on2=(y:Int) from by rw [hos];simp [hz,ho]] at hon2
        clear hos
        repeat' (first|(refine gU ?_;first|(refine gMove ?_;refine st (ok_move rfl) rfl rfl ?_)|(refine gLoad ?_;first|refine st (ok_load rfl (by rfl)) rfl rfl ?_|refine st (ok_loadA rfl (by exact hd2 _)) rfl rfl ?_)|(refine gBin ?_;refine st (ok_bin rfl rfl rfl) rfl rfl ?_)|(refine gIA ?_;first|refine st (ok_idxSN rfl rfl (by omega)) rfl rfl ?_|refine st (ok_idxA rfl rfl (by omega) (by omega)) rfl rfl ?_)|(refine gAlloc ?_;refine st (ok_alloc rfl) rfl rfl ?_)|(refine gStore ?_;refine stN (ok_store rfl rfl rfl rfl (by rfl)) rfl ?_))|(refine gG ?_;first|(refine gMove ?_;refine stGA rfl (ok_move rfl) rfl rfl ?_)|(refine gLoad ?_;refine stGA rfl (ok_load rfl (by rfl)) rfl rfl ?_)|(refine gIA ?_;refine stGA rfl (ok_idxA rfl rfl (by omega) (by omega)) rfl rfl ?_))|refine W_seq ?_|refine W_region ?_|refine st_nil ?_|refine tq_n ?_|refine W_skip ?_|refine W_block ?_|refine W_condTA rfl ?_)
        refine st_yieldG (l:=15) rfl rfl (by rw [hL];rfl) rfl rfl rfl (fun _ _ _ _ he=>wanted_rel (b:=true) (by rw [wantedA_some (b:=decide (z=(x:Int))) rfl,decide_eq_true hz];rfl) he) ?_
        repeat' (first|(refine gU ?_;(refine gAssign ?_;refine st (ok_assign rfl) rfl rfl ?_))|refine W_region ?_|refine st_nil ?_)
        refine roundA_n (by rw [hL];rfl) ?_
        repeat' (first|(refine gU ?_;first|(refine gMove ?_;refine st (ok_move rfl) rfl rfl ?_)|(refine gLoad ?_;refine st (ok_load rfl (by rfl)) rfl rfl ?_)|(refine gPick ?_;refine st (ok_pickTA rfl rfl) rfl rfl ?_)|(refine gCall ?_;refine st (ok_call rfl rfl rfl (by exact hti _ (by simp [isIter]))) rfl rfl ?_)|(refine gStore ?_;refine stN (ok_store rfl rfl rfl rfl (by rfl)) rfl ?_))|(refine gG ?_;first|(refine gMove ?_;refine stGA rfl (ok_move rfl) rfl rfl ?_)|(refine gLoad ?_;refine stGA rfl (ok_load rfl (by rfl)) rfl rfl ?_)|(refine gBin ?_;refine stGA rfl (ok_bin rfl rfl rfl) rfl rfl ?_)|(refine gPick ?_;refine stGA rfl (ok_pickTA rfl rfl) rfl rfl ?_)|(refine gCall ?_;refine stGA rfl (ok_call rfl rfl rfl (by exact hco _ (by simp [isIter]))) rfl rfl ?_)|refine stSA rfl rfl ?_)|refine W_seq ?_|refine W_region ?_|refine st_nil ?_|refine tq_n ?_|refine bq_n ?_|refine W_block ?_|refine W_condTA rfl ?_)
        refine roundB_n rfl rfl ?_
        repeat' (first|(refine gU ?_;first|(refine gMove ?_;refine st (ok_move rfl) rfl rfl ?_)|(refine gAdd ?_;refine st (ok_inc rfl rfl (by omega)) rfl rfl ?_)|(refine gPick ?_;refine st (ok_pickTA rfl rfl) rfl rfl ?_))|(refine gG ?_;(refine gNot ?_;refine stGA rfl (ok_not' rfl) rfl rfl ?_))|refine W_region ?_|refine st_nil ?_|refine tq_n ?_|refine bq_n ?_|refine W_skip ?_|refine W_condFA rfl ?_)
        refine ⟨rfl,k2+1,by omega,by omega,?_⟩
        rw [hon2]
        rw [hL]
        exact StRef.drop [.ro (flL 1 2 3 S (fun i=>bI (rB S i))),.ro (ints S.d),.ro (pc S.f),.ro (ints S.s),.rw [.pointer (some ⟨0,0,none⟩)],.rw [.int .i64 a,.int .i64 b],.rw (rx l),.rw [.func (.func 90) #[] #[.pointer (some ⟨4,0,none⟩),.pointer (some ⟨5,0,none⟩),.pointer (some ⟨6,0,none⟩)]],.gr (ints way) 3,.rw [qV 8 (some []) way],.rw [.int .i64 (x:Int)],.rw [.int .i64 (y:Int)],.rw [.pointer (some ⟨0,0,none⟩)],.rw [.int .i64 (x:Int)],.dfr,_] [_] (by simp) (hc_i16 S a b l way x (y:Int) _ (by have:=hLc;rw [hL] at this;exact this)) (by (repeat' (first|exact trivial|exact ⟨rfl,rfl,rfl⟩|exact ⟨rfl,closed_slice rfl,rfl⟩|refine ⟨?_,?_⟩)))
      ·by_cases hm:(y:Int) ∈ way
       ·simp only [hm,decide_true] at hwy
        cases C with
        |false =>
         rw [show on2=on from by rw [hos];simp [hz]] at hon2
         clear hos
         repeat' (first|(refine gU ?_;first|(refine gMove ?_;refine st (ok_move rfl) rfl rfl ?_)|(refine gLoad ?_;first|refine st (ok_load rfl (by rfl)) rfl rfl ?_|refine st (ok_loadA rfl (by exact hd2 _)) rfl rfl ?_)|(refine gBin ?_;refine st (ok_bin rfl rfl rfl) rfl rfl ?_)|(refine gIA ?_;first|refine st (ok_idxSN rfl rfl (by omega)) rfl rfl ?_|refine st (ok_idxA rfl rfl (by omega) (by omega)) rfl rfl ?_)|(refine gAlloc ?_;refine st (ok_alloc rfl) rfl rfl ?_)|(refine gStore ?_;refine stN (ok_store rfl rfl rfl rfl (by rfl)) rfl ?_))|(refine gG ?_;first|(refine gMove ?_;refine stGA rfl (ok_move rfl) rfl rfl ?_)|(refine gLoad ?_;refine stGA rfl (ok_load rfl (by rfl)) rfl rfl ?_)|(refine gIA ?_;refine stGA rfl (ok_idxA rfl rfl (by omega) (by omega)) rfl rfl ?_))|refine W_seq ?_|refine W_region ?_|refine st_nil ?_|refine tq_n ?_|refine W_skip ?_|refine W_block ?_|refine W_condTA rfl ?_)
         refine st_yieldG (l:=15) rfl rfl (by rw [hL];rfl) rfl rfl rfl (fun _ _ _ _ he=>wanted_rel (b:=true) (by rw [wantedA_some (b:=decide (z=(x:Int))) rfl,decide_eq_true hz];rfl) he) ?_
         repeat' (first|(refine gU ?_;(refine gAssign ?_;refine st (ok_assign rfl) rfl rfl ?_))|refine W_region ?_|refine st_nil ?_)
         refine roundA_n (by rw [hL];rfl) ?_
         repeat' (first|(refine gU ?_;first|(refine gMove ?_;refine st (ok_move rfl) rfl rfl ?_)|(refine gLoad ?_;refine st (ok_load rfl (by rfl)) rfl rfl ?_)|(refine gPick ?_;refine st (ok_pickTA rfl rfl) rfl rfl ?_)|(refine gCall ?_;refine st (ok_call rfl rfl rfl (by exact hti _ (by simp [isIter]))) rfl rfl ?_))|(refine gG ?_;first|(refine gMove ?_;refine stGA rfl (ok_move rfl) rfl rfl ?_)|(refine gLoad ?_;refine stGA rfl (ok_load rfl (by rfl)) rfl rfl ?_)|(refine gBin ?_;refine stGA rfl (ok_bin rfl rfl rfl) rfl rfl ?_)|(refine gPick ?_;refine stGA rfl (ok_pickFA rfl rfl) rfl rfl ?_)|(refine gCall ?_;refine stGA rfl (ok_call rfl rfl rfl (by first|exact hwy _ (by simp [isIter])|exact hco _ (by simp [isIter]))) rfl rfl ?_))|refine W_seq ?_|refine W_region ?_|refine st_nil ?_|refine tq_n ?_|refine bq_n ?_|refine W_skip ?_|refine W_block ?_|refine W_condFA rfl ?_)
         refine roundB_n rfl rfl ?_
         repeat' (first|(refine gU ?_;first|(refine gMove ?_;refine st (ok_move rfl) rfl rfl ?_)|(refine gAdd ?_;refine st (ok_inc rfl rfl (by omega)) rfl rfl ?_)|(refine gPick ?_;refine st (ok_pickTA rfl rfl) rfl rfl ?_))|(refine gG ?_;(refine gNot ?_;refine stGA rfl (ok_not' rfl) rfl rfl ?_))|refine W_region ?_|refine st_nil ?_|refine tq_n ?_|refine bq_n ?_|refine W_skip ?_|refine W_condFA rfl ?_)
         refine ⟨rfl,k2+1,by omega,by omega,?_⟩
         rw [hon2]
         rw [hL]
         exact StRef.drop [.ro (flL 1 2 3 S (fun i=>bI (rB S i))),.ro (ints S.d),.ro (pc S.f),.ro (ints S.s),.rw [.pointer (some ⟨0,0,none⟩)],.rw [.int .i64 a,.int .i64 b],.rw (rx l),.rw [.func (.func 90) #[] #[.pointer (some ⟨4,0,none⟩),.pointer (some ⟨5,0,none⟩),.pointer (some ⟨6,0,none⟩)]],.gr (ints way) 3,.rw [qV 8 (some []) way],.rw [.int .i64 (x:Int)],.rw [.int .i64 on],.rw [.pointer (some ⟨0,0,none⟩)],.rw [.int .i64 (x:Int)],.dfr,_] [_] (by simp) (hc_i16 S a b l way x on _ (by have:=hLc;rw [hL] at this;exact this)) (by (repeat' (first|exact trivial|exact ⟨rfl,rfl,rfl⟩|exact ⟨rfl,closed_slice rfl,rfl⟩|refine ⟨?_,?_⟩)))
        |true =>
         rw [show on2=(y:Int) from by rw [hos];simp [hz,hm]] at hon2
         clear hos
         repeat' (first|(refine gU ?_;first|(refine gMove ?_;refine st (ok_move rfl) rfl rfl ?_)|(refine gLoad ?_;first|refine st (ok_load rfl (by rfl)) rfl rfl ?_|refine st (ok_loadA rfl (by exact hd2 _)) rfl rfl ?_)|(refine gBin ?_;refine st (ok_bin rfl rfl rfl) rfl rfl ?_)|(refine gIA ?_;first|refine st (ok_idxSN rfl rfl (by omega)) rfl rfl ?_|refine st (ok_idxA rfl rfl (by omega) (by omega)) rfl rfl ?_)|(refine gAlloc ?_;refine st (ok_alloc rfl) rfl rfl ?_)|(refine gStore ?_;refine stN (ok_store rfl rfl rfl rfl (by rfl)) rfl ?_))|(refine gG ?_;first|(refine gMove ?_;refine stGA rfl (ok_move rfl) rfl rfl ?_)|(refine gLoad ?_;refine stGA rfl (ok_load rfl (by rfl)) rfl rfl ?_)|(refine gIA ?_;refine stGA rfl (ok_idxA rfl rfl (by omega) (by omega)) rfl rfl ?_))|refine W_seq ?_|refine W_region ?_|refine st_nil ?_|refine tq_n ?_|refine W_skip ?_|refine W_block ?_|refine W_condTA rfl ?_)
         refine st_yieldG (l:=15) rfl rfl (by rw [hL];rfl) rfl rfl rfl (fun _ _ _ _ he=>wanted_rel (b:=true) (by rw [wantedA_some (b:=decide (z=(x:Int))) rfl,decide_eq_true hz];rfl) he) ?_
         repeat' (first|(refine gU ?_;(refine gAssign ?_;refine st (ok_assign rfl) rfl rfl ?_))|refine W_region ?_|refine st_nil ?_)
         refine roundA_n (by rw [hL];rfl) ?_
         repeat' (first|(refine gU ?_;first|(refine gMove ?_;refine st (ok_move rfl) rfl rfl ?_)|(refine gLoad ?_;refine st (ok_load rfl (by rfl)) rfl rfl ?_)|(refine gPick ?_;refine st (ok_pickTA rfl rfl) rfl rfl ?_)|(refine gCall ?_;refine st (ok_call rfl rfl rfl (by exact hti _ (by simp [isIter]))) rfl rfl ?_)|(refine gStore ?_;refine stN (ok_store rfl rfl rfl rfl (by rfl)) rfl ?_))|(refine gG ?_;first|(refine gMove ?_;refine stGA rfl (ok_move rfl) rfl rfl ?_)|(refine gLoad ?_;refine stGA rfl (ok_load rfl (by rfl)) rfl rfl ?_)|(refine gBin ?_;refine stGA rfl (ok_bin rfl rfl rfl) rfl rfl ?_)|(refine gPick ?_;refine stGA rfl (ok_pickFA rfl rfl) rfl rfl ?_)|(refine gCall ?_;refine stGA rfl (ok_call rfl rfl rfl (by first|exact hwy _ (by simp [isIter])|exact hco _ (by simp [isIter]))) rfl rfl ?_))|refine W_seq ?_|refine W_region ?_|refine st_nil ?_|refine tq_n ?_|refine bq_n ?_|refine W_block ?_|refine W_condTA rfl ?_)
         refine roundB_n rfl rfl ?_
         repeat' (first|(refine gU ?_;first|(refine gMove ?_;refine st (ok_move rfl) rfl rfl ?_)|(refine gAdd ?_;refine st (ok_inc rfl rfl (by omega)) rfl rfl ?_)|(refine gPick ?_;refine st (ok_pickTA rfl rfl) rfl rfl ?_))|(refine gG ?_;(refine gNot ?_;refine stGA rfl (ok_not' rfl) rfl rfl ?_))|refine W_region ?_|refine st_nil ?_|refine tq_n ?_|refine bq_n ?_|refine W_skip ?_|refine W_condFA rfl ?_)
         refine ⟨rfl,k2+1,by omega,by omega,?_⟩
         rw [hon2]
         rw [hL]
         exact StRef.drop [.ro (flL 1 2 3 S (fun i=>bI (rB S i))),.ro (ints S.d),.ro (pc S.f),.ro (ints S.s),.rw [.pointer (some ⟨0,0,none⟩)],.rw [.int .i64 a,.int .i64 b],.rw (rx l),.rw [.func (.func 90) #[] #[.pointer (some ⟨4,0,none⟩),.pointer (some ⟨5,0,none⟩),.pointer (some ⟨6,0,none⟩)]],.gr (ints way) 3,.rw [qV 8 (some []) way],.rw [.int .i64 (x:Int)],.rw [.int .i64 (y:Int)],.rw [.pointer (some ⟨0,0,none⟩)],.rw [.int .i64 (x:Int)],.dfr,_] [_] (by simp) (hc_i16 S a b l way x (y:Int) _ (by have:=hLc;rw [hL] at this;exact this)) (by (repeat' (first|exact trivial|exact ⟨rfl,rfl,rfl⟩|exact ⟨rfl,closed_slice rfl,rfl⟩|refine ⟨?_,?_⟩)))
       ·simp only [hm,decide_false] at hwy
        rw [show on2=on from by rw [hos];simp [hz,hm,ho]] at hon2
        clear hos
        repeat' (first|(refine gU ?_;first|(refine gMove ?_;refine st (ok_move rfl) rfl rfl ?_)|(refine gLoad ?_;first|refine st (ok_load rfl (by rfl)) rfl rfl ?_|refine st (ok_loadA rfl (by exact hd2 _)) rfl rfl ?_)|(refine gBin ?_;refine st (ok_bin rfl rfl rfl) rfl rfl ?_)|(refine gIA ?_;first|refine st (ok_idxSN rfl rfl (by omega)) rfl rfl ?_|refine st (ok_idxA rfl rfl (by omega) (by omega)) rfl rfl ?_)|(refine gAlloc ?_;refine st (ok_alloc rfl) rfl rfl ?_)|(refine gStore ?_;refine stN (ok_store rfl rfl rfl rfl (by rfl)) rfl ?_))|(refine gG ?_;first|(refine gMove ?_;refine stGA rfl (ok_move rfl) rfl rfl ?_)|(refine gLoad ?_;refine stGA rfl (ok_load rfl (by rfl)) rfl rfl ?_)|(refine gIA ?_;refine stGA rfl (ok_idxA rfl rfl (by omega) (by omega)) rfl rfl ?_))|refine W_seq ?_|refine W_region ?_|refine st_nil ?_|refine tq_n ?_|refine W_skip ?_|refine W_block ?_|refine W_condTA rfl ?_)
        refine st_yieldG (l:=15) rfl rfl (by rw [hL];rfl) rfl rfl rfl (fun _ _ _ _ he=>wanted_rel (b:=true) (by rw [wantedA_some (b:=decide (z=(x:Int))) rfl,decide_eq_true hz];rfl) he) ?_
        repeat' (first|(refine gU ?_;(refine gAssign ?_;refine st (ok_assign rfl) rfl rfl ?_))|refine W_region ?_|refine st_nil ?_)
        refine roundA_n (by rw [hL];rfl) ?_
        repeat' (first|(refine gU ?_;first|(refine gMove ?_;refine st (ok_move rfl) rfl rfl ?_)|(refine gLoad ?_;refine st (ok_load rfl (by rfl)) rfl rfl ?_)|(refine gPick ?_;first|refine st (ok_pickTA rfl rfl) rfl rfl ?_|refine st (ok_pickFA rfl rfl) rfl rfl ?_)|(refine gCall ?_;refine st (ok_call rfl rfl rfl (by exact hti _ (by simp [isIter]))) rfl rfl ?_))|(refine gG ?_;first|(refine gMove ?_;refine stGA rfl (ok_move rfl) rfl rfl ?_)|(refine gLoad ?_;refine stGA rfl (ok_load rfl (by rfl)) rfl rfl ?_)|(refine gBin ?_;refine stGA rfl (ok_bin rfl rfl rfl) rfl rfl ?_)|(refine gPick ?_;refine stGA rfl (ok_pickFA rfl rfl) rfl rfl ?_)|(refine gCall ?_;refine stGA rfl (ok_call rfl rfl rfl (by exact hwy _ (by simp [isIter]))) rfl rfl ?_)|refine stSA rfl rfl ?_)|refine W_seq ?_|refine W_region ?_|refine st_nil ?_|refine tq_n ?_|refine bq_n ?_|refine W_skip ?_|refine W_block ?_|refine W_condFA rfl ?_)
        refine roundB_n rfl rfl ?_
        repeat' (first|(refine gU ?_;first|(refine gMove ?_;refine st (ok_move rfl) rfl rfl ?_)|(refine gAdd ?_;refine st (ok_inc rfl rfl (by omega)) rfl rfl ?_)|(refine gPick ?_;refine st (ok_pickTA rfl rfl) rfl rfl ?_))|(refine gG ?_;(refine gNot ?_;refine stGA rfl (ok_not' rfl) rfl rfl ?_))|refine W_region ?_|refine st_nil ?_|refine tq_n ?_|refine bq_n ?_|refine W_skip ?_|refine W_condFA rfl ?_)
        refine ⟨rfl,k2+1,by omega,by omega,?_⟩
        rw [hon2]
        rw [hL]
        exact StRef.drop [.ro (flL 1 2 3 S (fun i=>bI (rB S i))),.ro (ints S.d),.ro (pc S.f),.ro (ints S.s),.rw [.pointer (some ⟨0,0,none⟩)],.rw [.int .i64 a,.int .i64 b],.rw (rx l),.rw [.func (.func 90) #[] #[.pointer (some ⟨4,0,none⟩),.pointer (some ⟨5,0,none⟩),.pointer (some ⟨6,0,none⟩)]],.gr (ints way) 3,.rw [qV 8 (some []) way],.rw [.int .i64 (x:Int)],.rw [.int .i64 on],.rw [.pointer (some ⟨0,0,none⟩)],.rw [.int .i64 (x:Int)],.dfr,_] [_] (by simp) (hc_i16 S a b l way x on _ (by have:=hLc;rw [hL] at this;exact this)) (by (repeat' (first|exact trivial|exact ⟨rfl,rfl,rfl⟩|exact ⟨rfl,closed_slice rfl,rfl⟩|refine ⟨?_,?_⟩)))
    ·rw [show on2=on from by rw [hos];simp [hz]] at hon2
     clear hos
     repeat' (first|(refine gU ?_;first|(refine gMove ?_;refine st (ok_move rfl) rfl rfl ?_)|(refine gLoad ?_;first|refine st (ok_load rfl (by rfl)) rfl rfl ?_|refine st (ok_loadA rfl (by exact hd2 _)) rfl rfl ?_)|(refine gAdd ?_;refine st (ok_inc rfl rfl (by omega)) rfl rfl ?_)|(refine gBin ?_;refine st (ok_bin rfl rfl rfl) rfl rfl ?_)|(refine gPick ?_;refine st (ok_pickFA rfl rfl) rfl rfl ?_)|(refine gIA ?_;first|refine st (ok_idxSN rfl rfl (by omega)) rfl rfl ?_|refine st (ok_idxA rfl rfl (by omega) (by omega)) rfl rfl ?_)|(refine gAlloc ?_;refine st (ok_alloc rfl) rfl rfl ?_)|(refine gStore ?_;refine stN (ok_store rfl rfl rfl rfl (by rfl)) rfl ?_))|(refine gG ?_;refine stSA rfl rfl ?_)|refine W_seq ?_|refine W_region ?_|refine st_nil ?_|refine tq_n ?_|refine bq_n ?_|refine W_skip ?_|refine W_block ?_|refine W_condTA rfl ?_|refine W_condFA rfl ?_)
     refine ⟨rfl,k2+1,by omega,by omega,?_⟩
     rw [hon2]
     exact StRef.drop [.ro (flL 1 2 3 S (fun i=>bI (rB S i))),.ro (ints S.d),.ro (pc S.f),.ro (ints S.s),.rw [.pointer (some ⟨0,0,none⟩)],.rw [.int .i64 a,.int .i64 b],.rw (rx l),.rw [.func (.func 90) #[] #[.pointer (some ⟨4,0,none⟩),.pointer (some ⟨5,0,none⟩),.pointer (some ⟨6,0,none⟩)]],.gr (ints way) 3,.rw [qV 8 (some []) way],.rw [.int .i64 (x:Int)],.rw [.int .i64 on],.rw [.pointer (some ⟨0,0,none⟩)],.rw [.int .i64 (x:Int)],.dfr,_] [_] (by simp) (hc_i16 S a b l way x on _ (by have:=hLc;exact this)) (by (repeat' (first|exact trivial|exact ⟨rfl,rfl,rfl⟩|exact ⟨rfl,closed_slice rfl,rfl⟩|refine ⟨?_,?_⟩)))
   ·obtain rfl:k2=S.f.length:=by omega
    have hon:=onS_w hS (a:=a) (b:=b) (l:=l) (way:=way) (at_:=(x:Int)) (Nat.le_refl S.f.length)
    have hse:srchS S a b l way=if onS S a b l way (x:Int) S.f.length<0 then none
      else if 0≤ixP (fun i=>decide (gi way i=onS S a b l way (x:Int) S.f.length)) way.length then some (way,(ixP (fun i=>decide (gi way i=onS S a b l way (x:Int) S.f.length)) way.length).toNat)
      else srchS S a b l (way++[onS S a b l way (x:Int) S.f.length]):=by
     rw [srchS,dif_pos hwl,hx]
    rw [hse] at hsr
    clear hse
    generalize onS S a b l way (x:Int) S.f.length=on at *
    by_cases ho:on<0
    ·have hn:=hrn (by rw [hsr,if_pos ho])
     repeat' (first|(refine gU ?_;(refine gBin ?_;refine st (ok_bin rfl rfl rfl) rfl rfl ?_))|refine W_seq ?_|refine W_region ?_|refine st_nil ?_|refine tq_n ?_|refine tq_e ?_|refine bq_hit rfl ?_|refine W_exit ?_|refine W_condFA rfl ?_)
     refine retN .nil .all ⟨_,_,_,_,_,_,_,by rw [hL];rfl,by simp,?_⟩
     dsimp only
     repeat' (first|(refine gU ?_;first|(refine gMove ?_;refine st (ok_move rfl) rfl rfl ?_)|(refine gLoad ?_;refine st (ok_load rfl (by rfl)) rfl rfl ?_)|(refine gAdd ?_;refine st (ok_inc rfl rfl (by omega)) rfl rfl ?_)|(refine gBin ?_;refine st (ok_bin rfl rfl rfl) rfl rfl ?_))|refine W_seq ?_|refine W_region ?_|refine st_nil ?_|refine tq_n ?_|refine tq_e ?_|refine bq_n ?_|refine bq_hit rfl ?_|refine bq_miss rfl ?_|refine W_exit ?_|refine W_condTA rfl ?_)
     exact ⟨k+1,⟨⟨by omega,hn⟩,by omega⟩,Tail.StRefD.src [.ro (flL 1 2 3 S (fun i=>bI (rB S i))),.ro (ints S.d),.ro (pc S.f),.ro (ints S.s),.rw [.pointer (some ⟨0,0,none⟩)],.rw [.int .i64 a,.int .i64 b],.rw (rx l),.rw [.func (.func 90) #[] #[.pointer (some ⟨4,0,none⟩),.pointer (some ⟨5,0,none⟩),.pointer (some ⟨6,0,none⟩)]]] [] [] 14 (by simp) rfl (hc_c8 S a b l (by simp)) rfl rfl rfl trivial (by (repeat' (first|exact trivial|refine ⟨er_plain rfl rfl,?_⟩|refine ⟨er_closed (m:=8) rfl (fun i hi=>srcR_lt hi) (by simp) (by rfl) rfl,?_⟩)))⟩
    ·rw [if_neg ho] at hsr
     have hix:∀ σ':Heap,(AObj.ro (flL 1 2 3 S (fun i=>bI (rB S i)))::.ro (ints S.d)::.ro (pc S.f)::.ro (ints S.s)::.rw [.pointer (some ⟨0,0,none⟩)]::.rw [.int .i64 a,.int .i64 b]::.rw (rx l)::.rw [.func (.func 90) #[] #[.pointer (some ⟨4,0,none⟩),.pointer (some ⟨5,0,none⟩),.pointer (some ⟨6,0,none⟩)]]::.gr (ints way) 3::σ').all (fun o=>!isIter o)=true→Ev Try.prog 80 [qV 8 (some []) way,.int .i64 on] (AObj.ro (flL 1 2 3 S (fun i=>bI (rB S i)))::.ro (ints S.d)::.ro (pc S.f)::.ro (ints S.s)::.rw [.pointer (some ⟨0,0,none⟩)]::.rw [.int .i64 a,.int .i64 b]::.rw (rx l)::.rw [.func (.func 90) #[] #[.pointer (some ⟨4,0,none⟩),.pointer (some ⟨5,0,none⟩),.pointer (some ⟨6,0,none⟩)]]::.gr (ints way) 3::σ') (.int .i64 (ixP (fun i=>decide (gi way i=on)) way.length)) (AObj.ro (flL 1 2 3 S (fun i=>bI (rB S i)))::.ro (ints S.d)::.ro (pc S.f)::.ro (ints S.s)::.rw [.pointer (some ⟨0,0,none⟩)]::.rw [.int .i64 a,.int .i64 b]::.rw (rx l)::.rw [.func (.func 90) #[] #[.pointer (some ⟨4,0,none⟩),.pointer (some ⟨5,0,none⟩),.pointer (some ⟨6,0,none⟩)]]::.gr (ints way) 3::σ'):=fun σ' hs=>index80P_ev (x:=8) (o:=0) (prtAt_arr (.inr (.inr ⟨_,rfl⟩))) (ps_slq hwp) (by omega) hs
     have hil:=ixP_lt (q:=fun i=>decide (gi way i=on)) (n:=way.length)
     generalize ixP (fun i=>decide (gi way i=on)) way.length=ix at *
     by_cases hi:0≤ix
     ·have hy:=hry _ (by rw [hsr,if_pos hi])
      replace hil:=hil hi
      rw [hy]
      obtain ⟨m,rfl⟩:∃ m:Nat,ix=(m:Int):=⟨ix.toNat,by omega⟩
      simp only [Int.toNat_natCast]
      repeat' (first|(refine gU ?_;(refine gBin ?_;refine st (ok_bin rfl rfl rfl) rfl rfl ?_))|refine W_seq ?_|refine W_region ?_|refine st_nil ?_|refine tq_n ?_|refine tq_e ?_|refine bq_hit rfl ?_|refine W_exit ?_|refine W_condFA rfl ?_)
      refine retN .nil .all ⟨_,_,_,_,_,_,_,by rw [hL];rfl,by simp,?_⟩
      dsimp only
      repeat' (first|(refine gU ?_;first|(refine gMove ?_;refine st (ok_move rfl) rfl rfl ?_)|(refine gAssign ?_;refine st (ok_assign rfl) rfl rfl ?_)|(refine gLoad ?_;refine st (ok_load rfl (by rfl)) rfl rfl ?_)|(refine gBin ?_;refine st (ok_bin rfl rfl rfl) rfl rfl ?_)|(refine gCall ?_;refine st (ok_call rfl rfl rfl (by exact hix _ (by simp [isIter]))) rfl rfl ?_))|refine W_seq ?_|refine W_stop (id:=17) ?_|refine W_region ?_|refine st_nil ?_|refine tq_n ?_|refine bq_n ?_|refine W_skip ?_|refine W_condTA rfl ?_|refine W_condFA rfl ?_)
      refine ⟨?_⟩
      refine (W_region ?_)
      refine st (ok_load rfl rfl) rfl rfl ?_
      refine st (ok_move rfl) rfl rfl ?_
      refine st_E (ok_sliceQ (i:=8) (o:=0) (n:=way.length) (size:=1) (l:=m) rfl rfl (by omega)) rfl rfl ?_
      rintro v σ' ⟨rfl,hv⟩
      obtain rfl:v=slq 8 (0+m*1) 1 (way.length - m):=by
       rcases hv with hv|⟨h1,_⟩
       ·exact hv
       ·omega
      clear hv
      repeat' (first|(refine gU ?_;first|(refine gMove ?_;refine st (ok_move rfl) rfl rfl ?_)|(refine gAssign ?_;refine st (ok_assign rfl) rfl rfl ?_))|refine W_seq ?_|refine W_region ?_|refine st_nil ?_|refine tq_n ?_|refine tq_e ?_|refine bq_hit rfl ?_|refine bq_miss rfl ?_|refine W_exit ?_|refine W_ret ?_|refine sq_r ?_)
      refine ret1 (m:=14) rfl (.tmp rfl .nil) (RetRef.src [.rw (ints way)] [8] rfl rfl rfl ⟨osub_rwp (j:=8) rfl (.inr ⟨3,rfl⟩) (ints_plain _),trivial⟩ ?_) ⟨rfl,rfl⟩
      have:=VQ.sliceG (q:=true) (n:=5) (ρ:=srcR 4 [8]) 4 m (way.length - m) (way.length - m) (way.length - m) 1 (Nat.le_refl _) (by omega) rfl
      show VSub 5 (srcR 4 [8]) _ _
      simpa [srcR,rV,retV] using this
     ·rw [if_neg hi] at hsr
      repeat' (first|(refine gU ?_;(refine gBin ?_;refine st (ok_bin rfl rfl rfl) rfl rfl ?_))|refine W_seq ?_|refine W_region ?_|refine st_nil ?_|refine tq_n ?_|refine tq_e ?_|refine bq_hit rfl ?_|refine W_exit ?_|refine W_condFA rfl ?_)
      refine retN .nil .all ⟨_,_,_,_,_,_,_,by rw [hL];rfl,by simp,?_⟩
      dsimp only
      repeat' (first|(refine gU ?_;first|(refine gMove ?_;refine st (ok_move rfl) rfl rfl ?_)|(refine gAssign ?_;refine st (ok_assign rfl) rfl rfl ?_)|(refine gLoad ?_;refine st (ok_load rfl (by rfl)) rfl rfl ?_)|(refine gBin ?_;refine st (ok_bin rfl rfl rfl) rfl rfl ?_)|(refine gCall ?_;refine st (ok_call rfl rfl rfl (by exact hix _ (by simp [isIter]))) rfl rfl ?_))|refine W_seq ?_|refine W_stop (id:=18) ?_|refine W_region ?_|refine st_nil ?_|refine tq_n ?_|refine bq_n ?_|refine W_skip ?_|refine W_condFA rfl ?_)
      refine ⟨?_⟩
      refine (W_region ?_)
      repeat' ((refine gU ?_;first|(refine gLoad ?_;refine st (ok_load rfl (by rfl)) rfl rfl ?_)|(refine gBuildS ?_;refine st (ok_buildS (by rfl) (by rfl) (by rfl) (by rfl) rfl (by rfl)) rfl rfl ?_)))
      refine st_E (ok_appendQ (el:=3) (size:=1) (i:=8) (o:=0) (n:=way.length) (cs:=ints way) (news:=[.int .i64 on]) (by rfl) rfl rfl rfl (by simp [ints]) (by simpa [ints] using hw0) rfl rfl (by omega) rfl (by omega) (by decide)) rfl rfl ?_
      rintro v σ' ⟨o',cs',h1,h2,h3,hv,rfl⟩
      obtain ⟨hs1,rfl⟩:v=qV 17 (some []) (way++[on])∧cs'=ints (way++[on]):=by
       have h4:o'=0:=by rcases h3 with ⟨h,_⟩|⟨h,_⟩ <;> exact h
       subst h4
       refine ⟨hv.trans (show slq 17 0 1 (way.length+1)=_ from by simp [qV]),?_⟩
       rcases h3 with ⟨_,h3⟩|⟨_,h3⟩ <;> rw [h3] <;> simp [ints]
      subst hs1
      clear hv h1 h2 h3
      repeat' (first|(refine gU ?_;(refine gStore ?_;refine stN (ok_store rfl rfl rfl rfl (by rfl)) rfl ?_))|refine st_nil ?_|refine tq_n ?_|refine bq_n ?_)
      refine ⟨way++[on],⟨⟨by simp,fun y hy=>?_,hsr⟩,by simp only [List.length_append,List.length_singleton];omega⟩,Tail.StRefD.src [.ro (flL 1 2 3 S (fun i=>bI (rB S i))),.ro (ints S.d),.ro (pc S.f),.ro (ints S.s),.rw [.pointer (some ⟨0,0,none⟩)],.rw [.int .i64 a,.int .i64 b],.rw (rx l),.rw [.func (.func 90) #[] #[.pointer (some ⟨4,0,none⟩),.pointer (some ⟨5,0,none⟩),.pointer (some ⟨6,0,none⟩)]]] [.gr (ints (way++[on])) 3,.rw [qV 8 (some []) (way++[on])]] [17,9] 14 (by simp) rfl (hc_c8 S a b l (by simp)) rfl rfl rfl (subs8 (c:=9) (j:=17) (d:=14) rfl rfl) (by (repeat' (first|exact trivial|refine ⟨er_plain rfl rfl,?_⟩|refine ⟨er_closed (m:=8) rfl (fun i hi=>srcR_lt hi) (by simp) (by rfl) rfl,?_⟩|refine ⟨er_ptr rfl (by simp) rfl,?_⟩)))⟩
      rcases List.mem_append.1 hy with hy|hy
      ·exact hww y hy
      ·rw [List.mem_singleton.1 hy]
       rcases hon with hon|hon
       ·omega
       ·exact hon
  ·have hn:=hrn (by rw [hsr,srchS,dif_neg hwl])
   repeat' (first|(refine gU ?_;first|(refine gMove ?_;refine st (ok_move rfl) rfl rfl ?_)|(refine gAdd ?_;refine st (ok_inc rfl rfl (by omega)) rfl rfl ?_))|(refine fU ?_;first|(refine fMove ?_;refine frA (ok_move rfl) rfl ?_)|(refine fLoad ?_;refine frA (ok_load rfl (by rfl)) rfl ?_)|(refine fBin ?_;refine frA (ok_bin rfl rfl rfl) rfl ?_)|(refine fLen ?_;refine frA (ok_len rfl) rfl ?_)|(refine fPick ?_;refine frA (ok_pickTA rfl rfl) rfl ?_))|(refine fG ?_;first|(refine fFA ?_;refine frGA rfl (ok_fieldAddr rfl) rfl ?_)|(refine fLoad ?_;refine frGA rfl (ok_load rfl (by rfl)) rfl ?_)|(refine fBin ?_;refine frGA rfl (ok_bin rfl rfl rfl) rfl ?_)|(refine fLen ?_;refine frGA rfl (ok_len rfl) rfl ?_)|(refine fNil ?_;refine frGA rfl (ok_nilP rfl) rfl ?_))|(refine fr_stop ⟨by kernel_rfl,?_⟩)|refine W_seq ?_|refine W_region ?_|refine W_regionD (by kernel_rfl) rfl ?_|refine st_nil ?_|refine tq_n ?_|refine tq_e ?_|refine bq_n ?_|refine bq_hit rfl ?_|refine W_exit ?_|refine W_condFA rfl ?_)
   exact ⟨k+1,⟨⟨by omega,hn⟩,by omega⟩,.of (StRef.drop [.ro (flL 1 2 3 S (fun i=>bI (rB S i))),.ro (ints S.d),.ro (pc S.f),.ro (ints S.s),.rw [.pointer (some ⟨0,0,none⟩)],.rw [.int .i64 a,.int .i64 b],.rw (rx l),.rw [.func (.func 90) #[] #[.pointer (some ⟨4,0,none⟩),.pointer (some ⟨5,0,none⟩),.pointer (some ⟨6,0,none⟩)]]] [_,_] (by simp) (hc_c8 S a b l (by simp)) (by (repeat' (first|exact trivial|exact ⟨rfl,rfl,rfl⟩|refine ⟨?_,?_⟩)))) (by simp)⟩
 ·obtain rfl:k=S.d.length:=by omega
  have hr0:rndS S a b l 0=none:=by rw [hr,rndS,dif_neg (by omega)]
  rw [hr0]
  repeat' (first|(refine gU ?_;first|(refine gMove ?_;refine st (ok_move rfl) rfl rfl ?_)|(refine gAssign ?_;refine st (ok_assign rfl) rfl rfl ?_)|(refine gBin ?_;refine st (ok_bin rfl rfl rfl) rfl rfl ?_))|refine W_seq ?_|refine W_region ?_|refine st_nil ?_|refine tq_n ?_|refine tq_e ?_|refine bq_hit rfl ?_|refine W_exit ?_|refine W_ret ?_|refine sq_r ?_|refine W_condFA rfl ?_)
  exact ret0 (.tmp rfl .nil) (.plain rfl rfl) ⟨rfl,rfl⟩
end Go.Proofs.Ytomioaiojidnbaa
namespace Go.AH.Dust
open Go Go.AH
theorem nok_sliceO {n b o l c:Nat}:Nok n b (.slice (some ⟨b,o,none⟩) l c):=fun k ρ ρ' v' hv hρ=>by
 have hb:=hρ b (.inr (Nat.le_refl _))
 cases hv with
 |emptySlice=>exact .emptySlice _ _ _ _
 |slice _ _ _ _ c' hc hi=>rw [← hb];exact .slice _ _ _ _ _ hc hi
 |sliceG _ _ _ _ _ _ _ _ hq=>simp at hq
theorem srch_push {S:Shp} {a b:Int} {l:Nat→Int} {way:List Int} {on:Int} (h:way.length≤S.d.length) (h1:onS S a b l way (gi way (way.length - 1)) S.f.length=on) (h2:¬ on<0) (h3:¬ 0≤ixP (fun i=>decide (gi way i=on)) way.length) :
  srchS S a b l way=srchS S a b l (way++[on]):=by rw [srchS,dif_pos h,h1,if_neg h2,if_neg h3]
theorem srch_stop {S:Shp} {a b:Int} {l:Nat→Int} {way:List Int} {on:Int} (h:way.length≤S.d.length) (h1:onS S a b l way (gi way (way.length - 1)) S.f.length=on) (h2:¬ on<0) (h3:0≤ixP (fun i=>decide (gi way i=on)) way.length) :
  srchS S a b l way=some (way,(ixP (fun i=>decide (gi way i=on)) way.length).toNat):=by rw [srchS,dif_pos h,h1,if_neg h2,if_pos h3]
theorem rnd_some {S:Shp} {a b:Int} {l:Nat→Int} {k:Nat} {o:List Int×Nat} (h:k<S.d.length) (h1:srchS S a b l [(k:Int)]=some o):rndS S a b l k=some o:=by rw [rndS,dif_pos h,h1]
theorem tig_of {S:Shp} {a b:Int} {l:Nat→Int} {n k:Nat} (h:rB S n=true) (h1:worV S a b n=l n - l k):tigB S a b l n k=true:=by unfold tigB;rw [h,decide_eq_true h1];rfl
theorem com_of {S:Shp} {a b:Int} {l:Nat→Int} {u v:Int} (h:Cms (edg S a b l) u v):comB S a b l u v=true:=by
 unfold comB;exact @decide_eq_true _ (Classical.propDecidable _) h
def lT (i:Nat):Int:=gi [50,0,10] i
theorem lT_lev:Lev 40 3 lT:=⟨by decide,by decide,by decide,by decide,fun i hi=>by
 match i with
 |0=>decide
 |1=>decide
 |2=>decide
 |i+3=>simp [lT,gi]⟩
theorem e01:edg shT 40 3 lT 0 1:=⟨by decide,tig_of (shT_rch 0 (by decide)) (by decide)⟩
theorem e12:edg shT 40 3 lT 1 2:=⟨by decide,tig_of (shT_rch 1 (by decide)) (by decide)⟩
theorem e20:edg shT 40 3 lT 2 0:=⟨by decide,tig_of (shT_rch 2 (by decide)) (by decide)⟩
theorem c0:comB shT 40 3 lT 0 0=true:=com_of (.more e01 (.more e12 (.one e20)))
theorem c1:comB shT 40 3 lT 1 1=true:=com_of (.more e12 (.more e20 (.one e01)))
theorem c2:comB shT 40 3 lT 2 2=true:=com_of (.more e20 (.more e01 (.one e12)))
theorem on_step {S:Shp} {a b:Int} {l:Nat→Int} {way:List Int} {at_:Int} {k:Nat} {p:Int×Int} {on on2:Int} (hp:gf S.f k=p) (h:onS S a b l way at_ k=on) (h2:(if onC S a b l way at_ on p=true then p.2 else on)=on2):onS S a b l way at_ (k+1)=on2:=by
 subst hp;subst h;exact h2
theorem onT0:onS shT 40 3 lT [0] 0 3=1:=by
 have t:=e01.2
 have h1:onS shT 40 3 lT [0] 0 1=1:=on_step (p:=(0,1)) rfl rfl (by simp only [onC];rw [show tigB shT 40 3 lT (0:Int).toNat (1:Int).toNat=true from t,c1];rfl)
 exact on_step (p:=(2,0)) rfl (on_step (p:=(1,2)) rfl h1 rfl) rfl
theorem onT1:onS shT 40 3 lT [0,1] 1 3=2:=by
 have t:=e12.2
 have h1:onS shT 40 3 lT [0,1] 1 2=2:=on_step (p:=(1,2)) rfl (on_step (p:=(0,1)) rfl rfl rfl) (by simp only [onC];rw [show tigB shT 40 3 lT (1:Int).toNat (2:Int).toNat=true from t,c2];rfl)
 exact on_step (p:=(2,0)) rfl h1 rfl
theorem onT2:onS shT 40 3 lT [0,1,2] 2 3=0:=by
 have t:=e20.2
 exact on_step (p:=(2,0)) rfl (on_step (p:=(1,2)) rfl (on_step (p:=(0,1)) rfl rfl rfl) rfl) (by simp only [onC];rw [show tigB shT 40 3 lT (2:Int).toNat (0:Int).toNat=true from t,c0];rfl)
theorem rndT:rndS shT 40 3 lT 0=some ([0,1,2],0):=by
 refine rnd_some (by decide) ?_
 show srchS shT 40 3 lT [0]=_
 rw [srch_push (on:=1) (by decide) onT0 (by decide) (by decide +kernel)]
 show srchS shT 40 3 lT [0,1]=_
 rw [srch_push (on:=2) (by decide) onT1 (by decide) (by decide +kernel)]
 show srchS shT 40 3 lT [0,1,2]=_
 rw [srch_stop (on:=0) (by decide) onT2 (by decide) (by decide +kernel)]
 rfl
def lS (_:Nat):Int:=0
theorem lS_lev:Lev 30 1 lS:=⟨by decide,by decide,by decide,by decide,fun i hi=>by simp [lS]⟩
theorem e00:edg shS 30 1 lS 0 0:=⟨by decide,tig_of (shS_rch 0 (by decide)) (by decide)⟩
theorem d0:comB shS 30 1 lS 0 0=true:=com_of (.one e00)
theorem onS0:onS shS 30 1 lS [0] 0 5=0:=by
 have t:=e00.2
 have h1:onS shS 30 1 lS [0] 0 1=0:=on_step (p:=(0,0)) rfl rfl (by simp only [onC];rw [show tigB shS 30 1 lS (0:Int).toNat (0:Int).toNat=true from t,d0];rfl)
 have h2:onS shS 30 1 lS [0] 0 2=0:=on_step (p:=(0,1)) rfl h1 (by simp [onC])
 exact on_step (p:=(1,1)) rfl (on_step (p:=(2,0)) rfl (on_step (p:=(1,2)) rfl h2 rfl) rfl) rfl
theorem rndS0:rndS shS 30 1 lS 0=some ([0],0):=by
 refine rnd_some (by decide) ?_
 show srchS shS 30 1 lS [0]=_
 rw [srch_stop (on:=0) (by decide) onS0 (by decide) (by decide +kernel)]
 rfl
end Go.AH.Dust
namespace Go.Proofs.Ytomioaiojidnbaa
open Go Go.AH
attribute [local irreducible] WOps WCode WFree retQ thenQ blockQ scopeQ OpOk ACall RetRef roundA roundB
set_option maxRecDepth 100000
set_option maxHeartbeats 1000000
open Go.AH.Dust
theorem fl_all3 {S:Shp} {x y z:Nat} (h0:shopE S=0) (h3:S.d.length=3) (hr:∀ i,i<S.d.length→rB S i=true):flL x y z S (fun i=>bI (rB S i))=flL x y z S all3:=by
 show sl x _::sl y _::sl z _::rx _=sl x _::sl y _::sl z _::rx _
 rw [rx_congr fun j _=>?_]
 by_cases hj:j<3
 ·rw [hr j (by omega)]
  simp [all3,bI,Nat.blt_eq.mpr hj]
 ·have:rB S j=false:=by
   cases hb:rB S j with
   |false=>rfl
   |true=>have:=rch_work (shopE_zero h0) (rB_iff.1 hb);omega
  rw [this]
  have hn:Nat.blt j 3=false:=by
   cases hb:Nat.blt j 3 with
   |false=>rfl
   |true=>exact absurd (Nat.blt_eq.mp hb) hj
  simp [all3,bI,hn]
theorem meanS_ok (S:Shp) (h0:shopE S=0) (a b:Int) (l:Nat→Int) (hL:Lev a b l) (w:List Int) (i:Nat)
  (hm:Ev Try.prog 72 [.pointer (some ⟨0,0,none⟩)] [.ro (flL 1 2 3 S (fun i=>bI (rB S i))),.ro (ints S.d),.ro (pc S.f),.ro (ints S.s)] (.tuple #[rtV a b,.bool true]) [.ro (flL 1 2 3 S (fun i=>bI (rB S i))),.ro (ints S.d),.ro (pc S.f),.ro (ints S.s)])
  (hl:Ev Try.prog 74 [.pointer (some ⟨0,0,none⟩),rtV a b] [.ro (flL 1 2 3 S (fun i=>bI (rB S i))),.ro (ints S.d),.ro (pc S.f),.ro (ints S.s)] (.agg (rx l).toArray) [.ro (flL 1 2 3 S (fun i=>bI (rB S i))),.ro (ints S.d),.ro (pc S.f),.ro (ints S.s)]) (hr:rndS S a b l 0=some (w,i)) :
  Ev Try.prog 35 [shV 0 1 2 S] S.hp (.tuple #[rtV a b,.slice (some ⟨3,i,none⟩) (w.length - i) (w.length - i),.int .i64 0]) (S.hp++[.rw (ints w)]):=by
 have hfit:=(shopE_zero h0).fit
 have hro:=round_ok S (shopE_zero h0) a b l hL
 rw [hr] at hro
 have hop:=open_evOk (σ:=[.ro (ints S.d),.ro (pc S.f),.ro (ints S.s),.rw (shL 0 1 2 S),.rw [.int .i64 0,.int .i64 0]]) (x:=0) (y:=1) (z:=2) ⟨.inl rfl,.inl rfl,.inl rfl⟩ shS_self hfit h0 rfl
 refine acall_intro 3 33 Try.func35 rfl rfl rfl rfl rfl ?_
 have hfa:FAt [.ro (ints S.d),.ro (pc S.f),.ro (ints S.s),.rw (shL 0 1 2 S),.rw [.int .i64 0,.int .i64 0],.rw (flL 0 1 2 S (fun i=>bI (rB S i)))] 5 0 1 2 S (fun i=>bI (rB S i)):=⟨.inr (.inl rfl),.inl rfl,.inl rfl,.inl rfl⟩
 have hfb:FAt [.ro (ints S.d),.ro (pc S.f),.ro (ints S.s),.rw (shL 0 1 2 S),.rw [.int .i64 0,.int .i64 0],.rw (flL 0 1 2 S (fun i=>bI (rB S i))),.rw [.int .i64 a,.int .i64 b]] 5 0 1 2 S (fun i=>bI (rB S i)):=⟨.inr (.inl rfl),.inl rfl,.inl rfl,.inl rfl⟩
 have hme:=hfa.ev (args:=[.pointer (some ⟨5,0,none⟩)]) hm ⟨VQ.ptr (q:=true) (n:=4) (ρ:=bsR [5,0,1,2]) 0 0 (by omega),trivial⟩ rfl rfl
 have hle:=hfb.ev (args:=[.pointer (some ⟨5,0,none⟩),rtV a b]) hl ⟨VQ.ptr (q:=true) (n:=4) (ρ:=bsR [5,0,1,2]) 0 0 (by omega),vrel_plain _ rfl,trivial⟩ rfl rfl
 have hro2:=hfb.evN (args:=[.pointer (some ⟨5,0,none⟩),rtV a b,.agg (rx l).toArray]) (news:=[.rw (ints w)]) (news':=[.rw (ints w)]) (v:=.slice (some ⟨7,i,none⟩) (w.length - i) (w.length - i)) hro ⟨VQ.ptr (q:=true) (n:=4) (ρ:=bsR [5,0,1,2]) 0 0 (by omega),vrel_plain _ rfl,vrel_plain _ rfl,trivial⟩ rfl (by simp [rV,ren,shf]) (by simp only [List.map_cons,List.map_nil,renO,renL_plain _ (ints_plain _)]) rfl
 clear hm hl hro
 repeat' (first|(refine gU ?_;first|(refine gMove ?_;refine st (ok_move rfl) rfl rfl ?_)|(refine gAssign ?_;refine st (ok_assign rfl) rfl rfl ?_)|(refine gLoad ?_;refine st (ok_loadA rfl (by rfl)) rfl rfl ?_)|(refine gBin ?_;refine st (ok_bin rfl rfl rfl) rfl rfl ?_)|(refine gNot ?_;refine st (ok_not' rfl) rfl rfl ?_)|(refine gExtract ?_;refine st (ok_extract rfl rfl) rfl rfl ?_)|(refine gCall ?_;refine st (ok_call rfl rfl rfl (by first|exact hop|exact hme)) rfl rfl ?_)|(refine gBox ?_;refine st (ok_box rfl) rfl rfl ?_)|(refine gAlloc ?_;refine st (ok_alloc rfl) rfl rfl ?_)|(refine gStore ?_;refine stN (ok_store rfl rfl rfl rfl (by rfl)) rfl ?_))|(refine fU ?_;first|refine frA (ok_call rfl rfl rfl hle) rfl ?_|refine frN (ok_call rfl rfl rfl hro2) nok_sliceO (plainL_closed (ints_plain _)).1 (plainL_closed (n:=0) (ints_plain _)).2 rfl ?_|(refine fMove ?_;refine frA (ok_move rfl) rfl ?_)|(refine fLoad ?_;refine frA (ok_loadA rfl (by rfl)) rfl ?_))|(refine fr_stop ⟨by kernel_rfl,?_⟩)|refine W_seq ?_|refine W_region ?_|refine W_regionD (by kernel_rfl) rfl ?_|refine st_nil ?_|refine tq_n ?_|refine W_skip ?_|refine W_ret ?_|refine W_condFA rfl ?_)
 refine ret0 (.cellN inferInstance rfl rfl (.tmp rfl (.tmp rfl .nil))) (RetRef.src [.rw (ints w)] [7] rfl rfl rfl ⟨osub_rwp (j:=7) rfl (.inl rfl) (ints_plain _),trivial⟩ ?_) ⟨rfl,rfl⟩
 refine .tuple _ _ rfl fun j hj _=>?_
 match j,hj with
 |0,_=>exact vrel_plain _ rfl
 |1,_ =>
  have:=VQ.slice (q:=true) (n:=4) (ρ:=srcR 3 [7]) 3 i (w.length - i) (w.length - i) (w.length - i) (Nat.le_refl _) (by omega)
  simpa [srcR] using this
 |2,_=>exact vrel_plain _ rfl
def hpF (S:Shp):Heap:=[.ro (flL 1 2 3 S all3),.ro (ints S.d),.ro (pc S.f),.ro (ints S.s)]
theorem meanT72:Ev Try.prog 72 [.pointer (some ⟨0,0,none⟩)] (hpF shT) (.tuple #[rtV 40 3,.bool true]) (hpF shT):=ev_run (orc:=knownsA ksD) tabOk (knownsA_ok ksD_ok) mixed (n:=500) (lo:=4) (by kernel_rfl)
theorem levT74:Ev Try.prog 74 [.pointer (some ⟨0,0,none⟩),rtV 40 3] (hpF shT) (.agg (rx lT).toArray) (hpF shT):=ev_run (orc:=knownsA ksD) tabOk (knownsA_ok ksD_ok) mixed (n:=500) (lo:=4) (by kernel_rfl)
theorem meanS72:Ev Try.prog 72 [.pointer (some ⟨0,0,none⟩)] (hpF shS) (.tuple #[rtV 30 1,.bool true]) (hpF shS):=ev_run (orc:=knownsA ksD) tabOk (knownsA_ok ksD_ok) mixed (n:=500) (lo:=4) (by kernel_rfl)
theorem levS74:Ev Try.prog 74 [.pointer (some ⟨0,0,none⟩),rtV 30 1] (hpF shS) (.agg (rx lS).toArray) (hpF shS):=ev_run (orc:=knownsA ksD) tabOk (knownsA_ok ksD_ok) mixed (n:=500) (lo:=4) (by kernel_rfl)
def kMean (S:Shp) (a b:Int) (w:List Int):Known:=⟨35,[shV 0 1 2 S],S.css,.tuple #[rtV a b,sl 3 w.length,.int .i64 0],[.rw (ints w)]⟩
theorem kMean_ok {S:Shp} (h0:shopE S=0) (h3:S.d.length=3) (hr:∀ i,i<S.d.length→rB S i=true) {a b:Int} {l:Nat→Int} (hL:Lev a b l) {w:List Int}
  (hm:Ev Try.prog 72 [.pointer (some ⟨0,0,none⟩)] (hpF S) (.tuple #[rtV a b,.bool true]) (hpF S))
  (hl:Ev Try.prog 74 [.pointer (some ⟨0,0,none⟩),rtV a b] (hpF S) (.agg (rx l).toArray) (hpF S)) (hrn:rndS S a b l 0=some (w,0)):KnownOk Try.prog (kMean S a b w):=by
 have e:hpF S=[.ro (flL 1 2 3 S (fun i=>bI (rB S i))),.ro (ints S.d),.ro (pc S.f),.ro (ints S.s)]:=by unfold hpF;rw [fl_all3 h0 h3 hr]
 rw [e] at hm hl
 exact ⟨meanS_ok S h0 a b l hL w 0 hm hl hrn,S.css_plain,rfl⟩
def ksM:List Known:=kMean shT 40 3 [0,1,2]::kMean shS 30 1 [0]::ksD
theorem ksM_ok:∀ k ∈ ksM,KnownOk Try.prog k:=by
 intro k hk
 rcases List.mem_cons.1 hk with rfl|hk
 ·exact kMean_ok shT_zero rfl shT_rch lT_lev meanT72 levT74 rndT
 ·rcases List.mem_cons.1 hk with rfl|hk
  ·exact kMean_ok shS_zero rfl shS_rch lS_lev meanS72 levS74 rndS0
  ·exact ksD_ok k hk
end Go.Proofs.Ytomioaiojidnbaa
namespace Go.Proofs.Ytomioaiojidnbaa
open Go Go.AH
attribute [local irreducible] WOps WCode WFree retQ thenQ blockQ scopeQ OpOk ACall RetRef roundA roundB
set_option maxRecDepth 100000
set_option maxHeartbeats 1000000
open Go.AH.Dust
theorem reachL_le {S:Shp}:(reachL S).length≤200000:=by
 unfold reachL
 split
 ·rename_i h
  have:=rL_len S S.d.length
  have:=(shopE_zero h).n10
  omega
 ·simp
end Go.Proofs.Ytomioaiojidnbaa
namespace Go.Proofs.Ytomioaiojidnbaa
open Go Go.AH
open Go.AH.Dust
def kLevelsT:Known:=⟨48,[shV 0 1 2 shT],[ints shT.d,pc shT.f,ints shT.s],.tuple #[.slice (some ⟨3,0,none⟩) 3 3,.int .i64 0],[.rw [.int .i64 50,.int .i64 0,.int .i64 10]]⟩
theorem kLevelsT_ok:KnownOk Try.prog kLevelsT:=⟨ev_run (orc:=knownsA ksM) tabOk (knownsA_ok ksM_ok) mixed (n:=500) (lo:=3) (by kernel_rfl),by kernel_rfl,by kernel_rfl⟩
def kTopsT:Known:=⟨30,[shV 0 1 2 shT,.int .i64 4],[ints shT.d,pc shT.f,ints shT.s],.tuple #[.slice (some ⟨3,0,none⟩) 4 4,.int .i64 0],[.rw [.slice (some ⟨4,0,none⟩) 3 3,.slice (some ⟨5,0,none⟩) 3 3,.slice (some ⟨6,0,none⟩) 3 3,.slice (some ⟨7,0,none⟩) 3 3],.rw [.int .i64 30,.int .i64 10,.int .i64 0],.rw [.int .i64 40,.int .i64 10,.int .i64 30],.rw [.int .i64 40,.int .i64 40,.int .i64 40],.rw [.int .i64 70,.int .i64 50,.int .i64 40]]⟩
theorem kTopsT_ok:KnownOk Try.prog kTopsT:=⟨ev_run (orc:=knownsA ksM) tabOk (knownsA_ok ksM_ok) mixed (n:=500) (lo:=3) (by kernel_rfl),by kernel_rfl,by kernel_rfl⟩
def kSafeT:Known:=⟨33,[shV 0 1 2 shT,.int .i64 2,.int .i64 39],[ints shT.d,pc shT.f,ints shT.s],.int .i64 23,[]⟩
theorem kSafeT_ok:KnownOk Try.prog kSafeT:=⟨ev_run (orc:=knownsA ksM) tabOk (knownsA_ok ksM_ok) mixed (n:=500) (lo:=3) (by kernel_rfl),by kernel_rfl,by kernel_rfl⟩
def kBeginsT:Known:=⟨31,[shV 0 1 2 shT,.int .i64 2,.int .i64 30],[ints shT.d,pc shT.f,ints shT.s],.tuple #[.slice (some ⟨3,0,none⟩) 1 1,.int .i64 0],[.rw [.int .i64 0]]⟩
theorem kBeginsT_ok:KnownOk Try.prog kBeginsT:=⟨ev_run (orc:=knownsA ksM) tabOk (knownsA_ok ksM_ok) mixed (n:=500) (lo:=3) (by kernel_rfl),by kernel_rfl,by kernel_rfl⟩
def kChkA:Known:=⟨47,[shV 0 1 2 shT,rtV 40 3,sl 3 3],[ints shT.d,pc shT.f,ints shT.s,ints [50,0,10]],.int .i64 0,[]⟩
theorem kChkA_ok:KnownOk Try.prog kChkA:=⟨ev_run (orc:=knownsA ksM) tabOk (knownsA_ok ksM_ok) mixed (n:=500) (lo:=4) (by kernel_rfl),by kernel_rfl,by kernel_rfl⟩
def kChkB:Known:=⟨47,[shV 0 1 2 shT,rtV 13 1,sl 3 3],[ints shT.d,pc shT.f,ints shT.s,ints [17,0,3]],.int .i64 14,[]⟩
theorem kChkB_ok:KnownOk Try.prog kChkB:=⟨ev_run (orc:=knownsA ksM) tabOk (knownsA_ok ksM_ok) mixed (n:=500) (lo:=4) (by kernel_rfl),by kernel_rfl,by kernel_rfl⟩
def kChkC:Known:=⟨49,[shV 0 1 2 shT,rtV 40 3,sl 3 3],[ints shT.d,pc shT.f,ints shT.s,ints [50,0,10]],.int .i64 0,[]⟩
theorem kChkC_ok:KnownOk Try.prog kChkC:=⟨ev_run (orc:=knownsA ksM) tabOk (knownsA_ok ksM_ok) mixed (n:=500) (lo:=4) (by kernel_rfl),by kernel_rfl,by kernel_rfl⟩
def kRnd:Known:=⟨37,[shV 0 1 2 shT,sl 3 3],[ints shT.d,pc shT.f,ints shT.s,ints [0,1,2]],.bool true,[]⟩
theorem kRnd_ok:KnownOk Try.prog kRnd:=⟨ev_run (orc:=knownsA ksM) tabOk (knownsA_ok ksM_ok) mixed (n:=500) (lo:=4) (by kernel_rfl),by kernel_rfl,by kernel_rfl⟩
def kPlanA:Known:=⟨17,[shV 0 1 2 shS,sl 3 4],[ints shS.d,pc shS.f,ints shS.s,ints [2,0,0,1]],.tuple #[.int .i64 70,.int .i64 0],[]⟩
theorem kPlanA_ok:KnownOk Try.prog kPlanA:=⟨ev_run (orc:=knownsA ksM) tabOk (knownsA_ok ksM_ok) mixed (n:=500) (lo:=4) (by kernel_rfl),by kernel_rfl,by kernel_rfl⟩
def kPlanB:Known:=⟨17,[shV 0 1 2 shS,sl 3 2],[ints shS.d,pc shS.f,ints shS.s,ints [0,1]],.tuple #[.int .i64 0,.int .i64 16],[]⟩
theorem kPlanB_ok:KnownOk Try.prog kPlanB:=⟨ev_run (orc:=knownsA ksM) tabOk (knownsA_ok ksM_ok) mixed (n:=500) (lo:=4) (by kernel_rfl),by kernel_rfl,by kernel_rfl⟩
def kRunA:Known:=⟨19,[shV 0 1 2 shS,sl 3 2],[ints shS.d,pc shS.f,ints shS.s,ints [0,1]],.tuple #[.int .i64 40,.int .i64 0],[]⟩
theorem kRunA_ok:KnownOk Try.prog kRunA:=⟨ev_run (orc:=knownsA ksM) tabOk (knownsA_ok ksM_ok) mixed (n:=500) (lo:=4) (by kernel_rfl),by kernel_rfl,by kernel_rfl⟩
def kRunB:Known:=⟨20,[shV 0 1 2 shT,sl 3 4],[ints shT.d,pc shT.f,ints shT.s,ints [0,1,2,0]],.tuple #[.int .i64 70,.int .i64 0],[]⟩
theorem kRunB_ok:KnownOk Try.prog kRunB:=⟨ev_run (orc:=knownsA ksM) tabOk (knownsA_ok ksM_ok) mixed (n:=500) (lo:=4) (by kernel_rfl),by kernel_rfl,by kernel_rfl⟩
def kRchS:Known:=⟨15,[shV 0 1 2 shS],[ints shS.d,pc shS.f,ints shS.s],.tuple #[.slice (some ⟨3,0,none⟩) 3 3,.int .i64 0],[.rw [.int .i64 0,.int .i64 1,.int .i64 2]]⟩
theorem kRchS_ok:KnownOk Try.prog kRchS:=⟨ev_run (orc:=knownsA ksM) tabOk (knownsA_ok ksM_ok) mixed (n:=500) (lo:=3) (by kernel_rfl),by kernel_rfl,by kernel_rfl⟩
end Go.Proofs.Ytomioaiojidnbaa
namespace Go.Proofs.Ytomioaiojidnbaa
open Go Go.AH
def ksW:List Known:=[kLevelsT,kTopsT,kSafeT,kBeginsT,kChkA,kChkB,kChkC,kRnd,kPlanA,kPlanB,kRunA,kRunB,kRchS]++ksM
theorem ksW_ok:∀ k ∈ ksW,KnownOk Try.prog k:=fun k hk=>(List.mem_append.1 hk).elim (fun hk=>by simp only [List.mem_cons,List.not_mem_nil,or_false] at hk;rcases hk with rfl|rfl|rfl|rfl|rfl|rfl|rfl|rfl|rfl|rfl|rfl|rfl|rfl <;> first|exact kLevelsT_ok|exact kTopsT_ok|exact kSafeT_ok|exact kBeginsT_ok|exact kChkA_ok|exact kChkB_ok|exact kChkC_ok|exact kRnd_ok|exact kPlanA_ok|exact kPlanB_ok|exact kRunA_ok|exact kRunB_ok|exact kRchS_ok) (ksM_ok k)
def knW:Known:=⟨14,[],[],.bool true,[]⟩
theorem knW_ok:KnownOk Try.prog knW:=⟨ev_run (orc:=knownsA ksW) tabOk (knownsA_ok ksW_ok) mixed (n:=500) (lo:=0) (by kernel_rfl),by kernel_rfl,by kernel_rfl⟩
end Go.Proofs.Ytomioaiojidnbaa
namespace Go.Proofs.Ytomioaiojidnbaa
open Go Go.AH Go.AH.Dust
theorem works_ev {σ:Heap} (hni:σ.all (fun o=>!isIter o)=true):Ev Try.prog 14 [] σ (.bool true) σ:=Ev.nil knW_ok.1 rfl rfl hni
end Go.Proofs.Ytomioaiojidnbaa
namespace Go.AH.Dust
open Go Go.AH
def cl (n:Nat) (r:Nat→Int):List Value:=ints ((List.range n).map r)
theorem cl_len {n:Nat} {r:Nat→Int}:(cl n r).length=n:=by simp [cl,ints]
theorem cl_get {n i:Nat} {r:Nat→Int} (h:i<n):(cl n r)[i]?=some (.int .i64 (r i)):=by
 simp [cl,ints,List.getElem?_map,List.getElem?_range h]
theorem cl_plain {n:Nat} {r:Nat→Int}:plainL (cl n r)=true:=ints_plain _
theorem cl_congr {n:Nat} {f g:Nat→Int} (h:∀ i,i<n→f i=g i):cl n f=cl n g:=by
 unfold cl
 rw [List.map_congr_left fun i hi=>h i (List.mem_range.1 hi)]
theorem cl_set {n i:Nat} {r:Nat→Int} {v:Int} (h:i<n):splice (cl n r) (0+i*1) [.int .i64 v]=cl n (setI r i v):=by
 unfold cl
 rw [splice_ints (by simpa using h)]
 congr 1
 refine List.ext_getElem (by simp) fun j h1 h2=>?_
 rw [List.getElem_set,List.getElem_map,List.getElem_map,List.getElem_range]
 simp only [setI]
 by_cases hij:i=j
 ·rw [if_pos hij,if_pos hij.symm]
 ·rw [if_neg hij,if_neg (fun h=>hij h.symm)]
theorem cl_gi {l:List Int}:ints l=cl l.length (gi l):=by
 unfold cl
 congr 1
 refine List.ext_getElem (by simp) fun j h1 h2=>?_
 have hj:j<l.length:=by simpa using h1
 simp [gi,List.getD_eq_getElem?_getD,List.getElem?_eq_getElem hj]
theorem cl_zero {n:Nat}:zcells (vcells (.int .i64 0)) n=cl n (fun _=>0):=by
 rw [zc_ints]
 unfold cl
 rw [List.map_const',List.length_range]
theorem hc_m4 (S:Shp) {n:Nat} (hn:3≤n):HClosed n [.ro (ints S.d),.ro (pc S.f),.ro (ints S.s),.rw (shL 0 1 2 S)] :=
 ⟨plainL_closed (ints_plain _),plainL_closed (pc_plain _),plainL_closed (ints_plain _),shL_closed (by omega) (by omega) (by omega),trivial⟩
theorem hc_m5 (S:Shp) (r:Nat→Int) {n:Nat} (hn:3≤n):HClosed n [.ro (ints S.d),.ro (pc S.f),.ro (ints S.s),.rw (shL 0 1 2 S),.rw (cl S.d.length r)] :=
 ⟨plainL_closed (ints_plain _),plainL_closed (pc_plain _),plainL_closed (ints_plain _),shL_closed (by omega) (by omega) (by omega),plainL_closed cl_plain,trivial⟩
theorem cl_set1 {n i:Nat} {r:Nat→Int} {v:Int} (h:i<n):splice (cl n r) i [.int .i64 v]=cl n (setI r i v):=by
 have:=cl_set (r:=r) (v:=v) h
 rwa [Nat.zero_add,Nat.mul_one] at this
end Go.AH.Dust
namespace Go.Proofs.Ytomioaiojidnbaa
open Go Go.AH
attribute [local irreducible] WOps WCode WFree retQ thenQ blockQ scopeQ OpOk ACall RetRef roundA roundB
set_option maxRecDepth 100000
set_option maxHeartbeats 1000000
open Go.AH.Dust
theorem most66_ok (S:Shp) (hS:S.ok) (H:Nat) (hH:H<24) :
  Ev Try.prog 66 [shV 0 1 2 S,.int .i64 ((H+1:Nat):Int)] [.ro (ints S.d),.ro (pc S.f),.ro (ints S.s)] (sl 3 S.d.length) ([.ro (ints S.d),.ro (pc S.f),.ro (ints S.s)]++[.rw (cl S.d.length (most S H))]):=by
 have n10:=hS.n10
 have f60:=hS.f60
 have n1:=hS.n1
 have hca:∀ σ':Heap,cellsAt (.ro (ints S.d)::σ') 0 0 (S.d.length*1)=some (ints S.d):=fun σ'=>by
  have:=cellsAt_arr (σ:=.ro (ints S.d)::σ') (b:=0) (cs:=ints S.d) (.inl rfl)
  rw [ints_length] at this;rw [Nat.mul_one];exact this
 refine acall_intro 3 77 Try.func66 rfl rfl rfl rfl rfl ?_
 repeat' (first|(refine gU ?_;first|(refine gAssign ?_;refine st (ok_assign rfl) rfl rfl ?_)|(refine gFA ?_;refine st (ok_fieldAddr rfl) rfl rfl ?_)|(refine gLoad ?_;refine st (ok_load rfl (by rfl)) rfl rfl ?_)|(refine gBox ?_;refine st (ok_box rfl) rfl rfl ?_)|(refine gBuildS ?_;refine st (ok_buildS0) rfl rfl ?_)|(refine gApp ?_;refine st (ok_appendE (by rfl) rfl rfl (by exact hca _) (by omega) (by omega) (by omega)) rfl rfl ?_))|refine W_seq ?_|refine W_region ?_|refine st_nil ?_|refine tq_n ?_|refine W_block ?_)
 refine W_loopS (ι:=Nat) (fun h=>[(1,.int .i64 ((H+1:Nat):Int)),(2,.pointer (some ⟨3,0,none⟩)),(5,sl 4 S.d.length),(6,.int .i64 ((h+1:Nat):Int))])
  (fun h=>[.ro (ints S.d),.ro (pc S.f),.ro (ints S.s),.rw (shL 0 1 2 S),.rw (cl S.d.length (most S h))]) (fun h=>H - h) (fun h=>h≤H) 0 (by simp)
  (StRef.src [.ro (ints S.d),.ro (pc S.f),.ro (ints S.s),.rw (shL 0 1 2 S)] [.rw (cl S.d.length (most S 0))] [5] (by simp) rfl (hc_m4 S (by simp)) rfl rfl ⟨osub_rwp (j:=5) rfl (.inr ⟨2,by rw [show cl S.d.length (most S 0)=ints S.d from cl_gi.symm];rfl⟩) cl_plain,trivial⟩ (by (repeat' (first|exact trivial|refine ⟨er_plain rfl rfl,?_⟩|refine ⟨er_closed (m:=4) rfl (fun i hi=>srcR_lt hi) (by simp) (by rfl) rfl,?_⟩|refine ⟨⟨_,rfl,vsub_slvR (by simp) rfl⟩,?_⟩)))) (Nat.zero_le _) ?_
 intro h hh
 by_cases hlt:h<H
 ·repeat' (first|(refine gU ?_;first|(refine gMove ?_;refine st (ok_move rfl) rfl rfl ?_)|(refine gAssign ?_;refine st (ok_assign rfl) rfl rfl ?_)|(refine gBin ?_;refine st (ok_bin rfl rfl rfl) rfl rfl ?_)|(refine gLen ?_;refine st (ok_len rfl) rfl rfl ?_)|(refine gMakeS ?_;refine st (ok_makeS (by rfl) (by rfl) rfl rfl (by omega) (by omega) (by omega)) rfl rfl ?_))|refine W_seq ?_|refine W_region ?_|refine st_nil ?_|refine tq_n ?_|refine W_skip ?_|refine W_block ?_|refine W_condTA rfl ?_)
  refine W_loopS (ι:=Nat) (fun i=>[(1,.int .i64 ((H+1:Nat):Int)),(2,.pointer (some ⟨3,0,none⟩)),(5,sl 4 S.d.length),(6,.int .i64 ((h+1:Nat):Int)),(7,sl 5 S.d.length),(8,.int .i64 (i:Int))])
   (fun i=>[.ro (ints S.d),.ro (pc S.f),.ro (ints S.s),.rw (shL 0 1 2 S),.rw (cl S.d.length (most S h)),.rw (cl S.d.length (fun j=>if j<i then -1 else 0))]) (fun i=>S.d.length - i) (fun i=>i≤S.d.length) 0 (by simp)
   (StRef.src [.ro (ints S.d),.ro (pc S.f),.ro (ints S.s),.rw (shL 0 1 2 S),.rw (cl S.d.length (most S h))] [.rw (cl S.d.length (fun j=>if j<0 then -1 else 0))] [5] (by simp) rfl (hc_m5 S _ (by simp)) rfl rfl ⟨osub_rwp (j:=5) rfl (.inl (by rw [show cl S.d.length (fun j=>if j<0 then -1 else 0)=cl S.d.length (fun _=>0) from rfl,← cl_zero];rfl)) cl_plain,trivial⟩ (by (repeat' (first|exact trivial|refine ⟨er_plain rfl rfl,?_⟩|refine ⟨er_closed (m:=5) rfl (fun i hi=>srcR_lt hi) (by simp) (by first|rfl|exact closed_slice rfl) rfl,?_⟩|refine ⟨⟨_,rfl,vsub_sl (by simp) rfl (Nat.le_refl _)⟩,?_⟩)))) (Nat.zero_le _) ?_
  intro i hi
  by_cases hin:i<S.d.length
  ·have hput:putCells [.ro (ints S.d),.ro (pc S.f),.ro (ints S.s),.rw (shL 0 1 2 S),.rw (cl S.d.length (most S h)),.rw (cl S.d.length (fun j=>if j<i then -1 else 0))] 5 i [.int .i64 (-1)]=some [.ro (ints S.d),.ro (pc S.f),.ro (ints S.s),.rw (shL 0 1 2 S),.rw (cl S.d.length (most S h)),.rw (cl S.d.length (fun j=>if j<i+1 then -1 else 0))]:=by
    have:=putRw (σ:=[.ro (ints S.d),.ro (pc S.f),.ro (ints S.s),.rw (shL 0 1 2 S),.rw (cl S.d.length (most S h)),.rw (cl S.d.length (fun j=>if j<i then -1 else 0))]) (b:=5) (o:=i) (vs:=[.int .i64 (-1)]) (cs':=cl S.d.length (fun j=>if j<i+1 then -1 else 0)) rfl (by rw [cl_len];simp;omega) (by rw [cl_len];omega) (by
     rw [cl_set1 hin]
     refine cl_congr fun j _=>?_
     simp only [setI]
     split <;> split <;> first|rfl|(split <;> first|rfl|omega)|omega)
    exact this
   repeat' (first|(refine gU ?_;first|(refine gMove ?_;refine st (ok_move rfl) rfl rfl ?_)|(refine gAssign ?_;refine st (ok_assign rfl) rfl rfl ?_)|(refine gAdd ?_;refine st (ok_inc rfl rfl (by omega)) rfl rfl ?_)|(refine gBin ?_;refine st (ok_bin rfl rfl rfl) rfl rfl ?_)|(refine gLen ?_;refine st (ok_len rfl) rfl rfl ?_)|(refine gIA ?_;refine st (ok_idxN rfl rfl (by omega)) rfl rfl ?_)|(refine gStore ?_;refine stN (ok_store rfl rfl rfl rfl (by exact hput)) rfl ?_))|refine W_seq ?_|refine W_region ?_|refine st_nil ?_|refine tq_n ?_|refine bq_n ?_|refine W_skip ?_|refine W_block ?_|refine W_condTA rfl ?_)
   exact ⟨rfl,i+1,by omega,by omega,.same ⟨rfl,rfl,rfl,rfl,rfl,rfl,trivial⟩⟩
  ·obtain rfl:i=S.d.length:=by omega
   repeat' (first|(refine gU ?_;first|(refine gMove ?_;refine st (ok_move rfl) rfl rfl ?_)|(refine gAssign ?_;refine st (ok_assign rfl) rfl rfl ?_)|(refine gBin ?_;refine st (ok_bin rfl rfl rfl) rfl rfl ?_)|(refine gLen ?_;refine st (ok_len rfl) rfl rfl ?_))|refine W_seq ?_|refine W_region ?_|refine st_nil ?_|refine tq_n ?_|refine tq_e ?_|refine bq_hit rfl ?_|refine W_exit ?_|refine W_block ?_|refine W_condFA rfl ?_)
   refine W_loopS (ι:=Nat) (fun k=>[(1,.int .i64 ((H+1:Nat):Int)),(2,.pointer (some ⟨3,0,none⟩)),(5,sl 4 S.d.length),(6,.int .i64 ((h+1:Nat):Int)),(7,sl 5 S.d.length),(9,.int .i64 (k:Int))])
    (fun k=>[.ro (ints S.d),.ro (pc S.f),.ro (ints S.s),.rw (shL 0 1 2 S),.rw (cl S.d.length (most S h)),.rw (cl S.d.length (fun j=>mostF S (most S h) j k))]) (fun k=>S.f.length - k) (fun k=>k≤S.f.length) 0 (by simp)
    (StRef.src [.ro (ints S.d),.ro (pc S.f),.ro (ints S.s),.rw (shL 0 1 2 S),.rw (cl S.d.length (most S h))] [.rw (cl S.d.length (fun j=>mostF S (most S h) j 0))] [5] (by simp) rfl (hc_m5 S _ (by simp)) rfl rfl ⟨osub_rwp (j:=5) rfl (.inl (by rw [show cl S.d.length (fun j=>mostF S (most S h) j 0)=cl S.d.length (fun j=>if j<S.d.length then -1 else 0) from cl_congr fun j hj=>by rw [if_pos hj];rfl];rfl)) cl_plain,trivial⟩ (by (repeat' (first|exact trivial|refine ⟨er_plain rfl rfl,?_⟩|refine ⟨er_closed (m:=5) rfl (fun i hi=>srcR_lt hi) (by simp) (by first|rfl|exact closed_slice rfl) rfl,?_⟩|refine ⟨⟨_,rfl,vsub_sl (by simp) rfl (Nat.le_refl _)⟩,?_⟩)))) (Nat.zero_le _) ?_
   intro k hk
   by_cases hkl:k<S.f.length
   ·obtain ⟨hw1,hw2,-⟩:=hS.f k hkl
    have ha1:=hw1.1;have ha2:=hw1.2;have hb1:=hw2.1;have hb2:=hw2.2
    have hc1:∀ r,cellGet [.ro (ints S.d),.ro (pc S.f),.ro (ints S.s),.rw (shL 0 1 2 S),.rw (cl S.d.length (most S h)),.rw r] 1 (0+k*2+0*1)=some (.int .i64 (gf S.f k).1):=fun r=>pc_get0 (.inl rfl) hkl
    have hc2:∀ r,cellGet [.ro (ints S.d),.ro (pc S.f),.ro (ints S.s),.rw (shL 0 1 2 S),.rw (cl S.d.length (most S h)),.rw r] 1 (0+k*2+1*1)=some (.int .i64 (gf S.f k).2):=fun r=>pc_get1 (.inl rfl) hkl
    have hc3:∀ r o,o=(gf S.f k).2.toNat→cellGet [.ro (ints S.d),.ro (pc S.f),.ro (ints S.s),.rw (shL 0 1 2 S),.rw (cl S.d.length (most S h)),.rw r] 4 o=some (.int .i64 (most S h (gf S.f k).2.toNat)):=fun r o ho=>by subst ho;exact cl_get (by omega)
    have hc4:∀ r o,o=(gf S.f k).1.toNat→cellGet [.ro (ints S.d),.ro (pc S.f),.ro (ints S.s),.rw (shL 0 1 2 S),.rw (cl S.d.length (most S h)),.rw (cl S.d.length r)] 5 o=some (.int .i64 (r (gf S.f k).1.toNat)):=fun r o ho=>by subst ho;exact cl_get (by omega)
    have hc5:∀ r o,o=(gf S.f k).1.toNat→cellGet [.ro (ints S.d),.ro (pc S.f),.ro (ints S.s),.rw (shL 0 1 2 S),.rw (cl S.d.length (most S h)),.rw r] 0 o=some (.int .i64 (gi S.d (gf S.f k).1.toNat)):=fun r o ho=>by subst ho;exact ints_get (by omega)
    have hmb:=most_bound hS h (gf S.f k).2.toNat (by omega)
    have hda:=hS.d (gf S.f k).1.toNat (by omega)
    have hmf:=mostF_bound hS (m:=most S h) (B:=1000*((h:Int)+1)) (by omega) (fun j hj=>most_bound hS h j hj) (i:=(gf S.f k).1.toNat) (by omega) k hk
    have hput2:∀ v o,o=(gf S.f k).1.toNat→v=max (mostF S (most S h) (gf S.f k).1.toNat k) (gi S.d (gf S.f k).1.toNat+most S h (gf S.f k).2.toNat)→0≤most S h (gf S.f k).2.toNat→putCells [.ro (ints S.d),.ro (pc S.f),.ro (ints S.s),.rw (shL 0 1 2 S),.rw (cl S.d.length (most S h)),.rw (cl S.d.length (fun j=>mostF S (most S h) j k))] 5 o [.int .i64 v]=some [.ro (ints S.d),.ro (pc S.f),.ro (ints S.s),.rw (shL 0 1 2 S),.rw (cl S.d.length (most S h)),.rw (cl S.d.length (fun j=>mostF S (most S h) j (k+1)))]:=fun v o ho hv hm=>by
     subst ho
     have:=putRw (σ:=[.ro (ints S.d),.ro (pc S.f),.ro (ints S.s),.rw (shL 0 1 2 S),.rw (cl S.d.length (most S h)),.rw (cl S.d.length (fun j=>mostF S (most S h) j k))]) (b:=5) (o:=(gf S.f k).1.toNat) (vs:=[.int .i64 v]) (cs':=cl S.d.length (fun j=>mostF S (most S h) j (k+1))) rfl (by rw [cl_len];simp;omega) (by rw [cl_len];omega) (by
      rw [cl_set1 (by omega)]
      refine cl_congr fun j _=>?_
      simp only [setI,mostF]
      by_cases hj:j=(gf S.f k).1.toNat
      ·rw [if_pos hj,if_pos ⟨by omega,hm⟩,hv,hj]
      ·rw [if_neg hj,if_neg (fun hc=>hj (by omega))])
     exact this
    have hno:¬ 0≤most S h (gf S.f k).2.toNat→cl S.d.length (fun j=>mostF S (most S h) j k)=cl S.d.length (fun j=>mostF S (most S h) j (k+1)):=fun hm=>cl_congr fun j _=>by
     simp only [mostF];rw [if_neg (fun hc=>hm hc.2)]
    by_cases hm:most S h (gf S.f k).2.toNat≥0
    ·have hput2:=fun v o ho hv=>hput2 v o ho hv hm
     repeat' (first|(refine gU ?_;first|(refine gMove ?_;refine st (ok_move rfl) rfl rfl ?_)|(refine gAssign ?_;refine st (ok_assign rfl) rfl rfl ?_)|(refine gFA ?_;refine st (ok_fieldAddr rfl) rfl rfl ?_)|(refine gLoad ?_;refine st (ok_load rfl (by first|rfl|exact hc3 _ _ (by omega))) rfl rfl ?_)|(refine gAdd ?_;refine st (ok_inc rfl rfl (by omega)) rfl rfl ?_)|(refine gBin ?_;refine st (ok_bin rfl rfl rfl) rfl rfl ?_)|(refine gLen ?_;refine st (ok_len rfl) rfl rfl ?_)|(refine gIA ?_;refine st (ok_idx rfl rfl (by omega) (by omega)) rfl rfl ?_)|(refine gStore ?_;refine stN (ok_store rfl rfl rfl rfl (by exact hput2 _ _ (by omega) rfl)) rfl ?_))|(refine fU ?_;first|(refine fMove ?_;refine frA (ok_move rfl) rfl ?_)|(refine fAssign ?_;refine frA (ok_assign rfl) rfl ?_)|(refine fFA ?_;refine frA (ok_fieldAddr rfl) rfl ?_)|(refine fLoad ?_;refine frA (ok_load rfl (by first|rfl|exact hc1 _|exact hc2 _|exact hc3 _ _ (by omega)|exact hc4 _ _ (by omega)|exact hc5 _ _ (by omega))) rfl ?_)|(refine fAdd ?_;refine frA (ok_add rfl rfl (by omega) (by omega)) rfl ?_)|(refine fIA ?_;first|refine frA (ok_idxSN rfl rfl (by omega)) rfl ?_|refine frA (ok_idx rfl rfl (by omega) (by omega)) rfl ?_|refine frA (ok_idxA rfl rfl (by omega) (by omega)) rfl ?_)|(refine fMax ?_;refine frA (ok_max rfl rfl) rfl ?_))|(refine fr_stop ⟨by kernel_rfl,?_⟩)|refine W_seq ?_|refine W_region ?_|refine W_regionD (by kernel_rfl) rfl ?_|refine st_nil ?_|refine tq_n ?_|refine bq_n ?_|refine W_skip ?_|refine W_block ?_|refine W_condTA rfl ?_)
     exact ⟨rfl,k+1,by omega,by omega,.same ⟨rfl,rfl,rfl,rfl,rfl,rfl,trivial⟩⟩
    ·have hno2:=hno hm
     repeat' (first|(refine gU ?_;first|(refine gMove ?_;refine st (ok_move rfl) rfl rfl ?_)|(refine gAssign ?_;refine st (ok_assign rfl) rfl rfl ?_)|(refine gFA ?_;refine st (ok_fieldAddr rfl) rfl rfl ?_)|(refine gLoad ?_;refine st (ok_load rfl (by first|rfl|exact hc3 _ _ (by omega))) rfl rfl ?_)|(refine gAdd ?_;refine st (ok_inc rfl rfl (by omega)) rfl rfl ?_)|(refine gBin ?_;refine st (ok_bin rfl rfl rfl) rfl rfl ?_)|(refine gLen ?_;refine st (ok_len rfl) rfl rfl ?_)|(refine gIA ?_;refine st (ok_idx rfl rfl (by omega) (by omega)) rfl rfl ?_))|(refine fU ?_;first|(refine fMove ?_;refine frA (ok_move rfl) rfl ?_)|(refine fAssign ?_;refine frA (ok_assign rfl) rfl ?_)|(refine fFA ?_;refine frA (ok_fieldAddr rfl) rfl ?_)|(refine fLoad ?_;refine frA (ok_load rfl (by first|rfl|exact hc1 _|exact hc2 _)) rfl ?_)|(refine fIA ?_;first|refine frA (ok_idxSN rfl rfl (by omega)) rfl ?_|refine frA (ok_idxA rfl rfl (by omega) (by omega)) rfl ?_))|(refine fr_stop ⟨by kernel_rfl,?_⟩)|refine W_seq ?_|refine W_region ?_|refine W_regionD (by kernel_rfl) rfl ?_|refine st_nil ?_|refine tq_n ?_|refine bq_n ?_|refine W_skip ?_|refine W_block ?_|refine W_condTA rfl ?_|refine W_condFA rfl ?_)
     refine ⟨rfl,k+1,by omega,by omega,?_⟩
     simp only [← hno2]
     exact .same ⟨rfl,rfl,rfl,rfl,rfl,rfl,trivial⟩
   ·obtain rfl:k=S.f.length:=by omega
    repeat' (first|(refine gU ?_;first|(refine gMove ?_;refine st (ok_move rfl) rfl rfl ?_)|(refine gAssign ?_;refine st (ok_assign rfl) rfl rfl ?_)|(refine gFA ?_;refine st (ok_fieldAddr rfl) rfl rfl ?_)|(refine gLoad ?_;refine st (ok_load rfl (by rfl)) rfl rfl ?_)|(refine gAdd ?_;refine st (ok_inc rfl rfl (by omega)) rfl rfl ?_)|(refine gBin ?_;refine st (ok_bin rfl rfl rfl) rfl rfl ?_)|(refine gLen ?_;refine st (ok_len rfl) rfl rfl ?_))|refine W_seq ?_|refine W_region ?_|refine st_nil ?_|refine tq_n ?_|refine tq_e ?_|refine bq_n ?_|refine bq_hit rfl ?_|refine W_exit ?_|refine W_condFA rfl ?_)
    exact ⟨rfl,h+1,by omega,by omega,StRef.src [.ro (ints S.d),.ro (pc S.f),.ro (ints S.s),.rw (shL 0 1 2 S)] [.rw (cl S.d.length (most S (h+1)))] [5] (by simp) rfl (hc_m4 S (by simp)) rfl rfl ⟨osub_rwp (j:=5) rfl (.inl rfl) cl_plain,trivial⟩ (by (repeat' (first|exact trivial|refine ⟨er_plain rfl rfl,?_⟩|refine ⟨er_closed (m:=4) rfl (fun i hi=>srcR_lt hi) (by simp) (by rfl) rfl,?_⟩|refine ⟨⟨_,rfl,vsub_sl (by simp) rfl (Nat.le_refl _)⟩,?_⟩)))⟩
 ·obtain rfl:h=H:=by omega
  repeat' (first|(refine gU ?_;first|(refine gMove ?_;refine st (ok_move rfl) rfl rfl ?_)|(refine gAssign ?_;refine st (ok_assign rfl) rfl rfl ?_)|(refine gBin ?_;refine st (ok_bin rfl rfl rfl) rfl rfl ?_))|refine W_seq ?_|refine W_region ?_|refine st_nil ?_|refine tq_n ?_|refine tq_e ?_|refine bq_hit rfl ?_|refine W_exit ?_|refine W_ret ?_|refine W_condFA rfl ?_)
  refine ret0 (.tmp rfl .nil) (RetRef.src [.rw (cl S.d.length (most S h))] [4] rfl rfl rfl ⟨osub_rwp (j:=4) rfl (.inl rfl) cl_plain,trivial⟩ ?_) ⟨rfl,rfl⟩
  exact vsub_sl (by simp) rfl (Nat.le_refl _)
theorem most66_ev {σ:Heap} {S:Shp} {x y z:Nat} {v:Value} (h:SAt σ x y z S) (hv:ShS x y z S v) (hS:S.ok) {H:Nat} (hH:H<24) (hni:σ.all (fun o=>!isIter o)=true) :
  Ev Try.prog 66 [v,.int .i64 ((H+1:Nat):Int)] σ (sl σ.length S.d.length) (σ++[.rw (cl S.d.length (most S H))]):=by
 refine Ev.arrsN S.css [x,y,z] (most66_ok S hS H hH) h.arrs ⟨hv,.int _ _,trivial⟩ S.css_plain rfl ?_ ?_ hni
 ·simp [ren,shf]
 ·simp only [List.map_cons,List.map_nil,renO,renL_plain _ cl_plain]
theorem hours65_ok (S:Shp) (hS:S.fit) (h:Int):Ev Try.prog 65 [shV 0 1 2 S,.int .i64 h] S.hp (.int .i64 (clockE S h)) S.hp:=by
 have hcs:=refShop_ev (σ:=[.ro (ints S.d),.ro (pc S.f),.ro (ints S.s),.rw (shL 0 1 2 S)]) (S:=S) (x:=0) (y:=1) (z:=2) ⟨.inl rfl,.inl rfl,.inl rfl⟩ shS_self hS rfl
 unfold clockE
 by_cases h0:shopE S=0
 ·rw [h0] at hcs ⊢
  rw [if_neg (by simp)]
  by_cases h1:h<1
  ·rw [if_pos (.inl h1)]
   refine acall_intro 3 16 Try.func65 rfl rfl rfl rfl rfl ?_
   repeat' (first|(refine gU ?_;first|(refine gMove ?_;refine st (ok_move rfl) rfl rfl ?_)|(refine gAssign ?_;refine st (ok_assign rfl) rfl rfl ?_)|(refine gLoad ?_;refine st (ok_loadA rfl (by rfl)) rfl rfl ?_)|(refine gBin ?_;refine st (ok_bin rfl rfl rfl) rfl rfl ?_)|(refine gPick ?_;refine st (ok_pickTA rfl rfl) rfl rfl ?_)|(refine gCall ?_;refine st (ok_call rfl rfl rfl (by exact hcs)) rfl rfl ?_)|(refine gBox ?_;refine st (ok_box rfl) rfl rfl ?_))|(refine gG ?_;refine stSA rfl rfl ?_)|refine W_seq ?_|refine W_region ?_|refine st_nil ?_|refine tq_n ?_|refine tq_r ?_|refine W_skip ?_|refine W_ret ?_|refine W_condTA rfl ?_|refine W_condFA rfl ?_)
   all_goals exact ret0 (.tmp rfl .nil) (.plain rfl rfl) ⟨rfl,rfl⟩
  ·by_cases h2:h > 24
   ·rw [if_pos (.inr h2)]
    refine acall_intro 3 16 Try.func65 rfl rfl rfl rfl rfl ?_
    repeat' (first|(refine gU ?_;first|(refine gMove ?_;refine st (ok_move rfl) rfl rfl ?_)|(refine gAssign ?_;refine st (ok_assign rfl) rfl rfl ?_)|(refine gLoad ?_;refine st (ok_loadA rfl (by rfl)) rfl rfl ?_)|(refine gBin ?_;refine st (ok_bin rfl rfl rfl) rfl rfl ?_)|(refine gPick ?_;refine st (ok_pickFA rfl rfl) rfl rfl ?_)|(refine gCall ?_;refine st (ok_call rfl rfl rfl (by exact hcs)) rfl rfl ?_)|(refine gBox ?_;refine st (ok_box rfl) rfl rfl ?_))|(refine gG ?_;first|(refine gMove ?_;refine stGA rfl (ok_move rfl) rfl rfl ?_)|(refine gBin ?_;refine stGA rfl (ok_bin rfl rfl rfl) rfl rfl ?_))|refine W_seq ?_|refine W_region ?_|refine st_nil ?_|refine tq_n ?_|refine tq_r ?_|refine W_skip ?_|refine W_ret ?_|refine W_condTA rfl ?_|refine W_condFA rfl ?_)
    all_goals exact ret0 (.tmp rfl .nil) (.plain rfl rfl) ⟨rfl,rfl⟩
   ·rw [if_neg (by omega)]
    refine acall_intro 3 16 Try.func65 rfl rfl rfl rfl rfl ?_
    repeat' (first|(refine gU ?_;first|(refine gMove ?_;refine st (ok_move rfl) rfl rfl ?_)|(refine gAssign ?_;refine st (ok_assign rfl) rfl rfl ?_)|(refine gLoad ?_;refine st (ok_loadA rfl (by rfl)) rfl rfl ?_)|(refine gBin ?_;refine st (ok_bin rfl rfl rfl) rfl rfl ?_)|(refine gPick ?_;refine st (ok_pickFA rfl rfl) rfl rfl ?_)|(refine gCall ?_;refine st (ok_call rfl rfl rfl (by exact hcs)) rfl rfl ?_)|(refine gBox ?_;refine st (ok_box rfl) rfl rfl ?_))|(refine gG ?_;first|(refine gMove ?_;refine stGA rfl (ok_move rfl) rfl rfl ?_)|(refine gBin ?_;refine stGA rfl (ok_bin rfl rfl rfl) rfl rfl ?_))|refine W_seq ?_|refine W_region ?_|refine st_nil ?_|refine tq_n ?_|refine W_skip ?_|refine W_ret ?_|refine W_condFA rfl ?_)
    all_goals exact ret0 (.tmp rfl .nil) (.plain rfl rfl) ⟨rfl,rfl⟩
 ·rw [if_pos h0]
  generalize shopE S=e at *
  refine acall_intro 3 16 Try.func65 rfl rfl rfl rfl rfl ?_
  repeat' (first|(refine gU ?_;first|(refine gAssign ?_;refine st (ok_assign rfl) rfl rfl ?_)|(refine gLoad ?_;refine st (ok_loadA rfl (by rfl)) rfl rfl ?_)|(refine gBin ?_;refine st (ok_bin rfl rfl rfl) rfl rfl ?_)|(refine gCall ?_;refine st (ok_call rfl rfl rfl (by exact hcs)) rfl rfl ?_)|(refine gBox ?_;refine st (ok_box rfl) rfl rfl ?_))|refine W_seq ?_|refine W_region ?_|refine st_nil ?_|refine tq_n ?_|refine tq_r ?_|refine W_ret ?_|refine W_condTA rfl ?_)
  all_goals exact ret0 (.tmp rfl .nil) (.plain rfl rfl) ⟨rfl,rfl⟩
theorem hours65_ev {σ:Heap} {S:Shp} {x y z:Nat} {v:Value} {h:Int} (hh:SAt σ x y z S) (hv:ShS x y z S v) (hS:S.fit) (hni:σ.all (fun o=>!isIter o)=true) :
  Ev Try.prog 65 [v,.int .i64 h] σ (.int .i64 (clockE S h)) σ:=Ev.arrs S.css [x,y,z] (hours65_ok S hS h) hh.arrs ⟨hv,.int _ _,trivial⟩ S.css_plain rfl hni
end Go.Proofs.Ytomioaiojidnbaa
namespace Go.AH.Dust
open Go Go.AH
noncomputable def refW (S:Shp) (H:Nat):Int:=if winT S H<0 then -1 else most S H (winT S H).toNat
def mx (S:Shp) (H:Nat) (L:List Int):Nat→Int
 |0=>-1
 |i+1=>max (mx S H L i) (most S H (gi L i).toNat)
theorem mx_ge {S:Shp} {H:Nat} {L:List Int}:∀ {k i:Nat},i<k→most S H (gi L i).toNat≤mx S H L k
 |k+1,i,h=>by
  simp only [mx]
  by_cases hik:i=k
  ·subst hik;omega
  ·have:=mx_ge (S:=S) (H:=H) (L:=L) (k:=k) (i:=i) (by omega);omega
theorem mx_cases {S:Shp} {H:Nat} {L:List Int}:∀ k,mx S H L k=-1∨∃ i,i<k∧mx S H L k=most S H (gi L i).toNat
 |0=>.inl rfl
 |k+1=>by
  simp only [mx]
  rcases Int.le_total (most S H (gi L k).toNat) (mx S H L k) with h|h
  ·rw [Int.max_eq_left h]
   rcases mx_cases (S:=S) (H:=H) (L:=L) k with h1|⟨i,h1,h2⟩
   ·exact .inl h1
   ·exact .inr ⟨i,by omega,h2⟩
  ·rw [Int.max_eq_right h];exact .inr ⟨k,by omega,rfl⟩
theorem mx_m1 {S:Shp} {H:Nat} {L:List Int}:∀ k,-1≤mx S H L k
 |0=>by simp [mx]
 |k+1=>by have:=mx_m1 (S:=S) (H:=H) (L:=L) k;simp only [mx];omega
theorem reachL_at {S:Shp} (h0:shopE S=0) {i:Nat} (hi:i<(reachL S).length):∃ n:Nat,gi (reachL S) i=n∧n<S.d.length∧rB S n=true:=by
 have h1:gi (reachL S) i ∈ reachL S:=mem_gi.2 ⟨i,hi,rfl⟩
 unfold reachL at h1 ⊢
 rw [if_pos h0] at h1 ⊢
 obtain ⟨n,h2,h3,h4⟩:=mem_rL.1 h1
 exact ⟨n,h3,h2,h4⟩
theorem reachL_mem {S:Shp} (h0:shopE S=0) {n:Nat} (hn:n<S.d.length) (hr:rB S n=true):∃ i,i<(reachL S).length∧gi (reachL S) i=n:=by
 have:(n:Int) ∈ reachL S:=by
  unfold reachL;rw [if_pos h0];exact mem_rL.2 ⟨n,hn,rfl,hr⟩
 exact mem_gi.1 this
theorem mx_refW {S:Shp} (h0:shopE S=0) {H:Nat}:mx S H (reachL S) (reachL S).length=refW S H:=by
 have hm:=mx_m1 (S:=S) (H:=H) (L:=reachL S) (reachL S).length
 unfold refW
 rcases winT_is S H with ⟨t1,t2⟩|⟨t,t1,t2,t3,t4,t5⟩
 ·rw [if_pos (by omega)]
  rcases mx_cases (S:=S) (H:=H) (L:=reachL S) (reachL S).length with h|⟨i,h1,h2⟩
  ·exact h
  ·obtain ⟨n,e1,e2,e3⟩:=reachL_at h0 h1
   have:=t2 n e2 e3
   rw [e1,Int.toNat_natCast] at h2
   omega
 ·rw [if_neg (by omega),t1,Int.toNat_natCast]
  obtain ⟨i,h1,h2⟩:=reachL_mem h0 t2 t3
  have h3:=mx_ge (S:=S) (H:=H) (L:=reachL S) h1
  rw [h2,Int.toNat_natCast] at h3
  rcases mx_cases (S:=S) (H:=H) (L:=reachL S) (reachL S).length with h|⟨i',h1',h2'⟩
  ·omega
  ·obtain ⟨n,e1,e2,e3⟩:=reachL_at h0 h1'
   have:=t5 n e2 e3
   rw [e1,Int.toNat_natCast] at h2'
   omega
end Go.AH.Dust
namespace Go.Proofs.Ytomioaiojidnbaa
open Go Go.AH
attribute [local irreducible] WOps WCode WFree retQ thenQ blockQ scopeQ OpOk ACall RetRef roundA roundB
set_option maxRecDepth 100000
set_option maxHeartbeats 1000000
open Go.AH.Dust
theorem refWin_ok (S:Shp) (h0:shopE S=0) (H:Nat) (hH:H<24):Ev Try.prog 26 [shV 0 1 2 S,.int .i64 ((H+1:Nat):Int)] S.hp (.int .i64 (refW S H)) S.hp:=by
 have hS:=shopE_zero h0
 have n10:=hS.n10
 have hre:=refReached_ev (σ:=[.ro (ints S.d),.ro (pc S.f),.ro (ints S.s),.rw (shL 0 1 2 S)]) (S:=S) (x:=0) (y:=1) (z:=2) ⟨.inl rfl,.inl rfl,.inl rfl⟩ shS_self hS.fit rfl
 have hmo:=most66_ev (σ:=[.ro (ints S.d),.ro (pc S.f),.ro (ints S.s),.rw (shL 0 1 2 S),.rw (ints (reachL S))]) (S:=S) (x:=0) (y:=1) (z:=2) ⟨.inl rfl,.inl rfl,.inl rfl⟩ shS_self hS hH rfl
 have hlen:=reachL_le (S:=S)
 rw [← mx_refW h0]
 refine acall_intro 3 34 Try.func26 rfl rfl rfl rfl rfl ?_
 repeat' (first|(refine gU ?_;first|(refine gMove ?_;refine st (ok_move rfl) rfl rfl ?_)|(refine gAssign ?_;refine st (ok_assign rfl) rfl rfl ?_)|(refine gLoad ?_;refine st (ok_loadA rfl (by rfl)) rfl rfl ?_)|(refine gExtract ?_;refine st (ok_extract rfl rfl) rfl rfl ?_)|(refine gCall ?_;refine st (ok_call rfl rfl rfl (by first|exact hre|exact hmo)) rfl rfl ?_)|(refine gBox ?_;refine st (ok_box rfl) rfl rfl ?_))|refine W_seq ?_|refine W_region ?_|refine st_nil ?_|refine tq_n ?_|refine W_block ?_)
 refine W_loopS (ι:=Nat) (fun i=>[(5,sl 4 (reachL S).length),(7,sl 5 S.d.length),(8,.int .i64 (mx S H (reachL S) i)),(9,.int .i64 (i:Int))]) (fun _=>[.ro (ints S.d),.ro (pc S.f),.ro (ints S.s),.rw (shL 0 1 2 S),.rw (ints (reachL S)),.rw (cl S.d.length (most S H))]) (fun i=>(reachL S).length - i) (fun i=>i≤(reachL S).length) 0 (by simp) (.same ⟨rfl,rfl,rfl,rfl,trivial⟩) (Nat.zero_le _) ?_
 intro i hi
 by_cases hil:i<(reachL S).length
 ·obtain ⟨n,e1,e2,_⟩:=reachL_at h0 hil
  have hc1:cellGet [.ro (ints S.d),.ro (pc S.f),.ro (ints S.s),.rw (shL 0 1 2 S),.rw (ints (reachL S)),.rw (cl S.d.length (most S H))] 4 i=some (.int .i64 (n:Int)):=by rw [← e1];exact ints_get hil
  have hc2:cellGet [.ro (ints S.d),.ro (pc S.f),.ro (ints S.s),.rw (shL 0 1 2 S),.rw (ints (reachL S)),.rw (cl S.d.length (most S H))] 5 n=some (.int .i64 (most S H n)):=cl_get e2
  have hmx:mx S H (reachL S) (i+1)=max (mx S H (reachL S) i) (most S H n):=by simp only [mx];rw [e1];simp
  repeat' (first|(refine gU ?_;first|(refine gMove ?_;refine st (ok_move rfl) rfl rfl ?_)|(refine gAssign ?_;refine st (ok_assign rfl) rfl rfl ?_)|(refine gLoad ?_;refine st (ok_load rfl (by first|exact hc1|exact hc2)) rfl rfl ?_)|(refine gAdd ?_;refine st (ok_inc rfl rfl (by omega)) rfl rfl ?_)|(refine gBin ?_;refine st (ok_bin rfl rfl rfl) rfl rfl ?_)|(refine gLen ?_;refine st (ok_len rfl) rfl rfl ?_)|(refine gIA ?_;refine st (ok_idxN rfl rfl (by omega)) rfl rfl ?_)|(refine gMax ?_;refine st (ok_max rfl rfl) rfl rfl ?_))|refine W_seq ?_|refine W_region ?_|refine st_nil ?_|refine tq_n ?_|refine bq_n ?_|refine W_skip ?_|refine W_block ?_|refine W_condTA rfl ?_)
  exact ⟨rfl,i+1,by omega,by omega,.same ⟨rfl,rfl,by rw [hmx];rfl,rfl,trivial⟩⟩
 ·obtain rfl:i=(reachL S).length:=by omega
  repeat' (first|(refine gU ?_;first|(refine gMove ?_;refine st (ok_move rfl) rfl rfl ?_)|(refine gAssign ?_;refine st (ok_assign rfl) rfl rfl ?_)|(refine gBin ?_;refine st (ok_bin rfl rfl rfl) rfl rfl ?_)|(refine gLen ?_;refine st (ok_len rfl) rfl rfl ?_))|refine W_seq ?_|refine W_region ?_|refine st_nil ?_|refine tq_n ?_|refine tq_e ?_|refine bq_hit rfl ?_|refine W_exit ?_|refine W_ret ?_|refine W_condFA rfl ?_)
  exact ret0 (.tmp rfl .nil) (.plain rfl rfl) ⟨rfl,rfl⟩
end Go.Proofs.Ytomioaiojidnbaa
namespace Go.AH.Dust
open Go Go.AH
theorem refW_neg {S:Shp} {H:Nat}:refW S H<0↔winT S H<0:=by
 unfold refW
 rcases winT_is S H with ⟨t1,_⟩|⟨t,t1,t2,t3,t4,t5⟩
 ·rw [if_pos (by omega)];omega
 ·rw [if_neg (by omega),t1,Int.toNat_natCast];omega
theorem winE_eq {S:Shp} {h:Int}:winE S h=if clockE S h ≠ 0 then clockE S h else if refW S (h.toNat - 1)<0 then 5 else 0:=by
 unfold winE
 by_cases hc:clockE S h ≠ 0
 ·rw [if_pos hc,if_pos hc]
 ·rw [if_neg hc,if_neg hc]
  by_cases hw:winT S (h.toNat - 1)<0
  ·rw [if_pos hw,if_pos (refW_neg.2 hw)]
  ·rw [if_neg hw,if_neg (fun x=>hw (refW_neg.1 x))]
end Go.AH.Dust
namespace Go.Proofs.Ytomioaiojidnbaa
open Go Go.AH
attribute [local irreducible] WOps WCode WFree retQ thenQ blockQ scopeQ OpOk ACall RetRef roundA roundB
set_option maxRecDepth 100000
set_option maxHeartbeats 1000000
open Go.AH.Dust
theorem refWin_ev {σ:Heap} {S:Shp} {x y z:Nat} {v:Value} {h:Int} (hh:SAt σ x y z S) (hv:ShS x y z S v) (hc:clockE S h=0) (hni:σ.all (fun o=>!isIter o)=true) :
  Ev Try.prog 26 [v,.int .i64 h] σ (.int .i64 (refW S (h.toNat - 1))) σ:=by
 obtain ⟨h0,h1,h2⟩:=clockE_zero hc
 obtain ⟨H,rfl⟩:∃ H:Nat,h=((H+1:Nat):Int):=⟨h.toNat - 1,by omega⟩
 rw [show (((H+1:Nat):Int)).toNat - 1=H by omega]
 exact Ev.arrs S.css [x,y,z] (refWin_ok S h0 H (by omega)) hh.arrs ⟨hv,.int _ _,trivial⟩ S.css_plain rfl hni
theorem winErr_ok (S:Shp) (hS:S.fit) (h:Int):Ev Try.prog 25 [shV 0 1 2 S,.int .i64 h] S.hp (.int .i64 (winE S h)) S.hp:=by
 have hho:=hours65_ev (σ:=[.ro (ints S.d),.ro (pc S.f),.ro (ints S.s),.rw (shL 0 1 2 S)]) (S:=S) (h:=h) (x:=0) (y:=1) (z:=2) ⟨.inl rfl,.inl rfl,.inl rfl⟩ shS_self hS rfl
 rw [winE_eq]
 by_cases hc:clockE S h=0
 ·have hwi:=refWin_ev (σ:=[.ro (ints S.d),.ro (pc S.f),.ro (ints S.s),.rw (shL 0 1 2 S)]) (S:=S) (h:=h) (x:=0) (y:=1) (z:=2) ⟨.inl rfl,.inl rfl,.inl rfl⟩ shS_self hc rfl
  rw [hc] at hho ⊢
  rw [if_neg (by simp)]
  generalize refW S (h.toNat - 1)=w at *
  by_cases hw:w<0
  ·rw [if_pos hw]
   refine acall_intro 3 16 Try.func25 rfl rfl rfl rfl rfl ?_
   repeat' (first|(refine gU ?_;first|(refine gMove ?_;refine st (ok_move rfl) rfl rfl ?_)|(refine gAssign ?_;refine st (ok_assign rfl) rfl rfl ?_)|(refine gLoad ?_;refine st (ok_loadA rfl (by rfl)) rfl rfl ?_)|(refine gBin ?_;refine st (ok_bin rfl rfl rfl) rfl rfl ?_)|(refine gCall ?_;refine st (ok_call rfl rfl rfl (by first|exact hho|exact hwi)) rfl rfl ?_)|(refine gBox ?_;refine st (ok_box rfl) rfl rfl ?_))|refine W_seq ?_|refine W_region ?_|refine st_nil ?_|refine tq_n ?_|refine tq_r ?_|refine W_skip ?_|refine W_ret ?_|refine W_condTA rfl ?_|refine W_condFA rfl ?_)
   all_goals exact ret0 (.tmp rfl .nil) (.plain rfl rfl) ⟨rfl,rfl⟩
  ·rw [if_neg hw]
   refine acall_intro 3 16 Try.func25 rfl rfl rfl rfl rfl ?_
   repeat' (first|(refine gU ?_;first|(refine gMove ?_;refine st (ok_move rfl) rfl rfl ?_)|(refine gAssign ?_;refine st (ok_assign rfl) rfl rfl ?_)|(refine gLoad ?_;refine st (ok_loadA rfl (by rfl)) rfl rfl ?_)|(refine gBin ?_;refine st (ok_bin rfl rfl rfl) rfl rfl ?_)|(refine gCall ?_;refine st (ok_call rfl rfl rfl (by first|exact hho|exact hwi)) rfl rfl ?_)|(refine gBox ?_;refine st (ok_box rfl) rfl rfl ?_))|refine W_seq ?_|refine W_region ?_|refine st_nil ?_|refine tq_n ?_|refine W_skip ?_|refine W_ret ?_|refine W_condFA rfl ?_)
   all_goals exact ret0 (.tmp rfl .nil) (.plain rfl rfl) ⟨rfl,rfl⟩
 ·rw [if_pos hc]
  generalize clockE S h=e at *
  refine acall_intro 3 16 Try.func25 rfl rfl rfl rfl rfl ?_
  repeat' (first|(refine gU ?_;first|(refine gMove ?_;refine st (ok_move rfl) rfl rfl ?_)|(refine gAssign ?_;refine st (ok_assign rfl) rfl rfl ?_)|(refine gLoad ?_;refine st (ok_loadA rfl (by rfl)) rfl rfl ?_)|(refine gBin ?_;refine st (ok_bin rfl rfl rfl) rfl rfl ?_)|(refine gCall ?_;refine st (ok_call rfl rfl rfl (by exact hho)) rfl rfl ?_)|(refine gBox ?_;refine st (ok_box rfl) rfl rfl ?_))|refine W_seq ?_|refine W_region ?_|refine st_nil ?_|refine tq_n ?_|refine tq_r ?_|refine W_ret ?_|refine W_condTA rfl ?_)
  all_goals exact ret0 (.tmp rfl .nil) (.plain rfl rfl) ⟨rfl,rfl⟩
theorem winErr_ev {σ:Heap} {S:Shp} {x y z:Nat} {v:Value} {h:Int} (hh:SAt σ x y z S) (hv:ShS x y z S v) (hS:S.fit) (hni:σ.all (fun o=>!isIter o)=true) :
  Ev Try.prog 25 [v,.int .i64 h] σ (.int .i64 (winE S h)) σ:=Ev.arrs S.css [x,y,z] (winErr_ok S hS h) hh.arrs ⟨hv,.int _ _,trivial⟩ S.css_plain rfl hni
end Go.Proofs.Ytomioaiojidnbaa
namespace Go.AH
open Go
theorem sim_open {G:Nat→Prop} {w0 w:World} {ρ:Rho} {σ:Heap} (hs:Sim G w0 ρ σ w) {j k:Nat} {qs:List (List Value)} {sp:List (Nat×Value)} {q:List Value} (hj:σ[j]?=some (.deep qs sp)) (hk:qs[k]?=some q) (hp:plainL q=true) :
  ∃ ρ':Rho,(∀ i < σ.length,ρ' i=ρ i)∧Sim G w0 ρ' (σ.set j (.deep qs ((k,.slice (some ⟨σ.length,0,none⟩) q.length q.length)::sp))++[.ro q]) w:=by
 obtain ⟨hkl,hkq⟩:=List.getElem?_eq_some_iff.1 hk
 have hold:=hs.obj j _ hj
 obtain ⟨g1,g2⟩:=hold.1 (List.ne_nil_of_length_pos (by omega))
 obtain ⟨v',g3,a,cap,g4,g5,g6⟩:=g2 k hkl
 rw [hkq] at g4 g5 g6
 subst g4
 have hjl:=idx_lt hj
 obtain ⟨pl,hpl,hro⟩:∃ pl:Pl,(q ≠ []→a=some ⟨pl.b,pl.o,none⟩)∧(q ≠ []→G pl.b∧∀ (m:Nat) (h:m<q.length),w.cell? ⟨pl.b,pl.o+m,none⟩=some q[m]):=by
  by_cases hq:q=[]
  ·exact ⟨⟨0,0,0⟩,fun h=>absurd hq h,fun h=>absurd hq h⟩
  ·obtain ⟨b,o,h1,h2,h3⟩:=g6 hq
   exact ⟨⟨b,o,0⟩,fun _=>h1,fun _=>⟨h2,h3⟩⟩
 refine ⟨fun i=>if i=σ.length then pl else ρ i,fun i hi=>if_neg (by omega),hs.os,hs.tape,hs.output,hs.size,hs.fgn,fun i x hx=>?_,fun i i' oi oi' hi hi' hoi hoi' hii=>?_⟩
 ·have hlt:∀ m < σ.length,(fun i=>if i=σ.length then pl else ρ i) m=ρ m:=fun m hm=>if_neg (by omega)
  simp only [List.length_append,List.length_set,List.length_cons,List.length_nil]
  rcases getElem?_snoc hx with hx|⟨rfl,rfl⟩
  ·have hil:=idx_lt hx
   rw [List.length_set] at hil
   rw [if_neg (show ¬ i=σ.length by omega)]
   rcases getElem?_set' hx with ⟨rfl,rfl⟩|⟨_,hx⟩
   ·refine ⟨fun hq=>hold.1 hq,fun y hy=>?_⟩
    rcases List.mem_cons.1 hy with rfl|hy
    ·refine ⟨g1,_,g3,?_⟩
     by_cases hq:q=[]
     ·subst hq;exact .emptySlice _ _ _ _
     ·rw [hpl hq]
      have:=VQ.slice (q:=false) (n:=σ.length+(0+1)) (ρ:=fun i=>if i=σ.length then pl else ρ i) σ.length 0 q.length q.length cap g5 (by omega)
      simpa using this
    ·obtain ⟨h1,v2,h2,h3⟩:=hold.2 y hy
     exact ⟨h1,v2,h2,h3.mono (by omega) hlt⟩
   ·exact orel_mono (hs.obj i x hx) (by omega) hlt (fun _ h=>h) (fun _ _ _ _ h=>h) (fun _ _ _ h=>h)
  ·simp only [List.length_set,if_pos]
   intro hq
   obtain ⟨h1,h2⟩:=hro hq
   exact ⟨h1,fun m hm=>⟨_,h2 m hm,vrel_plainL q hp m hm⟩⟩
 ·have hown:∀ (m:Nat) (o:AObj),(σ.set j (.deep qs ((k,.slice (some ⟨σ.length,0,none⟩) q.length q.length)::sp))++[.ro q])[m]?=some o→o.owned→σ[m]?=some o∧m < σ.length:=by
   intro m o hm ho
   rcases getElem?_snoc hm with hm|⟨_,rfl⟩
   ·rcases getElem?_set' hm with ⟨_,rfl⟩|⟨_,hm⟩
    ·exact ho.elim
    ·exact ⟨hm,idx_lt hm⟩
   ·exact ho.elim
  obtain ⟨h1,h2⟩:=hown i oi hi hoi
  obtain ⟨h3,h4⟩:=hown i' oi' hi' hoi'
  rw [if_neg (by omega),if_neg (by omega)] at hii
  exact hs.inj i i' oi oi' h1 h3 hoi hoi' hii
theorem sim_shut {G:Nat→Prop} {w0 w:World} {ρ:Rho} {σ:Heap} (hs:Sim G w0 ρ σ w) {j:Nat} {qs:List (List Value)} {sp:List (Nat×Value)} (hj:σ[j]?=some (.deep qs sp)):Sim G w0 ρ (σ.set j (.deep qs [])) w:=by
 refine ⟨hs.os,hs.tape,hs.output,hs.size,hs.fgn,fun i x hx=>?_,fun i i' oi oi' hi hi' hoi hoi' hii=>?_⟩
 ·rw [List.length_set]
  rcases getElem?_set' hx with ⟨rfl,rfl⟩|⟨_,hx⟩
  ·exact ⟨(hs.obj _ _ hj).1,fun y hy=>by simp at hy⟩
  ·exact hs.obj i x hx
 ·rcases getElem?_set' hi with ⟨_,rfl⟩|⟨_,hi⟩
  ·exact hoi.elim
  rcases getElem?_set' hi' with ⟨_,rfl⟩|⟨_,hi'⟩
  ·exact hoi'.elim
  exact hs.inj i i' oi oi' hi hi' hoi hoi' hii
theorem osub_shut {σ:Heap} {n j:Nat} {π:Rho} {p:Pl} {o:AObj} {qs:List (List Value)} {sp:List (Nat×Value)} (hj:σ[j]?=some (.deep qs sp)) (h:OSub (σ.set j (.deep qs [])) n π p o):OSub σ n π p o:=by
 have g:∀ (i:Nat) (x:AObj),(σ.set j (.deep qs []))[i]?=some x→(∀ q s,x ≠ .deep q s)→σ[i]?=some x:=fun i x hx hne=>by
  rcases getElem?_set' hx with ⟨_,rfl⟩|⟨_,hx⟩
  ·exact absurd rfl (hne _ _)
  ·exact hx
 have gd:∀ (i:Nat) (q:List (List Value)) (s:List (Nat×Value)),(σ.set j (.deep qs []))[i]?=some (.deep q s)→∃ s',σ[i]?=some (.deep q s')∧∀ x ∈ s,x ∈ s':=fun i q s hx=>by
  rcases getElem?_set' hx with ⟨rfl,he⟩|⟨_,hx⟩
  ·cases he;exact ⟨sp,hj,fun x hx=>by simp at hx⟩
  ·exact ⟨s,hx,fun _ h=>h⟩
 have n1:∀ {cs:List Value},∀ q s,AObj.ro cs ≠ .deep q s:=fun q s h=>by cases h
 cases o with
 |dead=>trivial
 |ro cs=>exact h.imp id fun ⟨c,h1,h2⟩=>⟨c,g _ _ h1 (fun _ _ h=>by cases h),h2⟩
 |rw cs=>exact h.imp id fun ⟨h0,c,h1,h2⟩=>⟨h0,c,h1.imp (fun h=>g _ _ h (fun _ _ h=>by cases h)) fun ⟨t,ht⟩=>⟨t,g _ _ ht (fun _ _ h=>by cases h)⟩,h2⟩
 |gr cs t=>exact h.imp id fun ⟨h0,c,h1,h2⟩=>⟨h0,c,g _ _ h1 (fun _ _ h=>by cases h),h2⟩
 |dfr=>exact g _ _ h (fun _ _ h=>by cases h)
 |loop st pend N e params assign body=>obtain ⟨e1,h1,h2⟩:=h;exact ⟨e1,g _ _ h1 (fun _ _ h=>by cases h),h2⟩
 |map es=>obtain ⟨es',h1,h2⟩:=h;exact ⟨es',g _ _ h1 (fun _ _ h=>by cases h),h2⟩
 |iter m seen=>exact ⟨h.1,g _ _ h.2.1 (fun _ _ h=>by cases h),h.2.2⟩
 |deep q2 s2 =>
  obtain ⟨h0,h1,h2⟩:=h
  refine ⟨h0,h1.imp id fun ⟨s,h3⟩=>(gd _ _ _ h3).imp fun s' h4=>h4.1,fun x hx=>?_⟩
  obtain ⟨q3,s3,h3,v,h4,h5⟩:=h2 x hx
  obtain ⟨s',h6,h7⟩:=gd _ _ _ h3
  exact ⟨q3,s',h6,v,h7 _ h4,h5⟩
theorem href_shut {n0 j:Nat} {π:Rho} {σ σ2:Heap} {qs:List (List Value)} {sp:List (Nat×Value)} (hj:σ[j]?=some (.deep qs sp)) (h:HRef n0 π (σ.set j (.deep qs [])) σ2):HRef n0 π σ σ2 :=
 ⟨h.le,h.id,fun i o hi=>osub_shut hj (h.obj i o hi),h.inj⟩
theorem StRef.srcD {n0 j:Nat} {σ:Heap} {e e2:Env} {qs:List (List Value)} {sp:List (Nat×Value)} (hj:σ[j]?=some (.deep qs sp)) (σ0 news:Heap) (l:List Nat) (hn0:n0≤σ0.length) (hσ:(σ.set j (.deep qs [])).take σ0.length=σ0) (hcl:HClosed σ0.length σ0) (hl:l.length=news.length) (hd:distinctFrom σ0.length l=true)
  (ho:OSubs (σ.set j (.deep qs [])) (σ0.length+news.length) (srcR σ0.length l) σ0.length news) (he:EnvRen (σ0.length+news.length) (srcR σ0.length l) e e2):StRef n0 σ (σ0++news) e e2 :=
 .inr fun _=>⟨_,href_shut hj (href_src l hn0 hσ hcl hl hd ho),by rw [List.length_append];exact envRen_ref he⟩
theorem StRef.dropD {n0 j:Nat} {σ:Heap} {e e2:Env} {qs:List (List Value)} {sp:List (Nat×Value)} (hj:σ[j]?=some (.deep qs sp)) (σ0:Heap) (hn0:n0≤σ0.length) (hσ:(σ.set j (.deep qs [])).take σ0.length=σ0) (hcl:HClosed σ0.length σ0) (he:EnvC σ0.length e e2):StRef n0 σ σ0 e e2:=by
 have hr:∀ e2:Env,EnvC σ0.length e e2→EnvRen (σ0.length+0) (srcR σ0.length []) e e2:=by
  intro e2
  induction e2 with
  |nil=>intro _;trivial
  |cons p r ih =>
   intro h
   exact ⟨er_closed h.1.1 (fun i hi=>srcR_lt hi) (Nat.le_refl _) h.1.2.1 h.1.2.2,ih h.2⟩
 have:=StRef.srcD (n0:=n0) (e:=e) (e2:=e2) hj σ0 [] [] hn0 hσ hcl rfl rfl trivial (hr e2 he)
 simpa using this
theorem RetRef.plainD {j:Nat} {σin σ:Heap} {v:Value} {qs:List (List Value)} {sp:List (Nat×Value)} (hj:σ[j]?=some (.deep qs sp)) (hσ:(σ.set j (.deep qs [])).take σin.length=σin) (hv:AH.plain v=true):RetRef σin σ v v σin:=by
 have hle:σin.length≤σ.length:=by
  have:=congrArg List.length hσ
  simp at this;omega
 refine .inr fun hcl=>⟨fun i=>⟨i,0,0⟩,⟨Nat.le_refl _,fun _ _=>rfl,fun i o hi=>?_,fun i i' oi oi' _ _ _ _ h=>h⟩,vrel_plain v hv⟩
 exact osub_shut hj (osub_refl (m:=σin.length) (fun _ _=>rfl) (Nat.le_refl _) (idx_lt hi) (take_get hσ hi) (hcl i o hi))
section
variable {P:Program} {n0 N:Nat} {rd:Option Nat} {Q:Post} {e:Env} {mk:List Nat} {σ:Heap}
theorem W_open {c:Code} (j k:Nat) {qs:List (List Value)} {sp:List (Nat×Value)} {q:List Value} (hj:σ[j]?=some (.deep qs sp)) (hk:qs[k]?=some q) (hp:plainL q=true)
  (h:WCode P n0 N rd c Q e mk (σ.set j (.deep qs ((k,.slice (some ⟨σ.length,0,none⟩) q.length q.length)::sp))++[.ro q])):WCode P n0 N rd c Q e mk σ:=by
 rintro G w0 ρ0 A w ⟨h0,ρ,hag,hs,her⟩
 obtain ⟨ρ',h1,h2⟩:=sim_open hs hj hk hp
 refine h G w0 ρ0 A w ⟨by simp;omega,ρ',fun i hi=>(h1 i (by omega)).trans (hag i hi),h2,?_⟩
 have:=erel_mono (m:=(σ.set j (.deep qs ((k,.slice (some ⟨σ.length,0,none⟩) q.length q.length)::sp))++[AObj.ro q]).length) (ρ':=ρ') her (by simp) h1
 exact this
theorem W_shut {c:Code} (j:Nat) {qs:List (List Value)} {sp:List (Nat×Value)} (hj:σ[j]?=some (.deep qs sp)) (h:WCode P n0 N rd c Q e mk (σ.set j (.deep qs []))):WCode P n0 N rd c Q e mk σ:=by
 rintro G w0 ρ0 A w ⟨h0,ρ,hag,hs,her⟩
 exact h G w0 ρ0 A w ⟨by rw [List.length_set];exact h0,ρ,hag,sim_shut hs hj,by rw [List.length_set];exact her⟩
end
def ObjAt (σ:Heap) (p:Nat×Nat):AObj→Prop
 |.ro cs=>prtAt σ p cs∧plainL cs=true
 |.deep qs []=>p.1 < σ.length∧(qs=[]∨DeepIn σ ⟨p.1,p.2,0⟩ qs)
 |_=>False
def ObjsAt (σ:Heap):Heap→List (Nat×Nat)→Prop
 |[],[]=>True
 |o::os,b::bs=>ObjAt σ b o∧ObjsAt σ os bs
 |_,_=>False
theorem objsAt_get {σ:Heap}:∀ {os:Heap} {bs:List (Nat×Nat)},ObjsAt σ os bs→∀ (k:Nat) (o:AObj),os[k]?=some o→∃ b,bs[k]?=some b∧ObjAt σ b o
 |[],[],_,k,o,hk=>by simp at hk
 |o0::os,b0::bs,h,k,o,hk=>by
  cases k with
  |zero=>simp at hk;subst hk;exact ⟨b0,rfl,h.1⟩
  |succ k=>exact objsAt_get h.2 k o (by simpa using hk)
 |[],_::_,h,_,_,_=>h.elim
 |_::_,[],h,_,_,_=>h.elim
section
variable {P:Program} {σ:Heap} {f:FuncId}
theorem Ev.objsN {args1 args:List Value} {v1 v:Value} {news news':Heap} (σ1:Heap) (bs:List (Nat×Nat)) (h:Ev P f args1 σ1 v1 (σ1++news)) (hb:ObjsAt σ σ1 bs) (ha:AS σ1.length (psR bs) args1 args)
  (hm:news.all isMem=true) (hv:ren (shf σ1.length σ.length (psR bs)) v1=v) (hn:news.map (renO (shf σ1.length σ.length (psR bs)))=news') (hni:σ.all (fun o=>!isIter o)=true):Ev P f args σ v (σ++news'):=by
 obtain ⟨h1,h2⟩:=as_get ha
 subst hv hn
 refine ACall.frame (π:=psR bs) h (fun k o hk=>?_) (fun k hk=>?_) hni h1 (by simpa using h2) ?_
 ·obtain ⟨b,g1,g2⟩:=objsAt_get hb k o hk
  unfold ObjAt at g2
  split at g2
  ·rename_i cs
   refine .inl ⟨cs,rfl,.inr ⟨cs,?_,fun j hj _=>vrel_plainL cs g2.2 j hj⟩⟩
   simp only [psR,g1]
   exact cellsAt_prt g2.1
  ·rename_i qs
   refine .inr ⟨qs,rfl,?_⟩
   simp only [psR,g1]
   exact g2.2
  ·exact g2.elim
 ·obtain ⟨b,g1,g2⟩:=objsAt_get hb k σ1[k] (by simp)
  simp only [psR,g1]
  unfold ObjAt at g2
  split at g2
  ·obtain ⟨⟨all,g2,_⟩,_⟩:=g2
   rcases g2 with g2|g2|⟨t,g2⟩ <;> exact idx_lt g2
  ·exact g2.1
  ·exact g2.elim
 ·rintro v2 s1 ⟨rfl,rfl⟩
  exact ⟨news,rfl,hm,rfl,rfl⟩
theorem Ev.objs {args1 args:List Value} {v:Value} (σ1:Heap) (bs:List (Nat×Nat)) (h:Ev P f args1 σ1 v σ1) (hb:ObjsAt σ σ1 bs) (ha:AS σ1.length (psR bs) args1 args) (hv:plain v=true) (hni:σ.all (fun o=>!isIter o)=true):Ev P f args σ v σ:=by
 have:=Ev.objsN (news:=[]) (news':=[]) σ1 bs (by simpa using h) hb ha rfl (ren_plain v hv) rfl hni
 simpa using this
end
end Go.AH
namespace Go.AH
open Go
def rowsO (R:Nat→List Int):Nat→Heap
 |0=>[]
 |k+1=>rowsO R k++[.rw (ints (R k))]
theorem rowsO_len (R:Nat→List Int):∀ k,(rowsO R k).length=k
 |0=>rfl
 |k+1=>by rw [rowsO,List.length_append,rowsO_len R k];rfl
theorem rowsO_get {R:Nat→List Int}:∀ {k j:Nat},j<k→(rowsO R k)[j]?=some (.rw (ints (R j)))
 |0,j,h=>by omega
 |k+1,j,h=>by
  have hl:=rowsO_len R k
  rw [rowsO]
  by_cases hj:j<k
  ·rw [List.getElem?_append_left (by omega)];exact rowsO_get hj
  ·obtain rfl:j=k:=by omega
   rw [List.getElem?_append_right (by omega),hl,Nat.sub_self];rfl
theorem rowsO_none {R:Nat→List Int} {k j:Nat} (h:k≤j):(rowsO R k)[j]?=none:=List.getElem?_eq_none (by rw [rowsO_len];exact h)
def slC (b w:Nat):Nat→List Value
 |0=>[]
 |k+1=>slC b w k++[.slice (some ⟨b+k,0,none⟩) w w]
theorem slC_len (b w:Nat):∀ k,(slC b w k).length=k
 |0=>rfl
 |k+1=>by rw [slC,List.length_append,slC_len b w k];rfl
theorem slC_get {b w:Nat}:∀ {k j:Nat},j<k→(slC b w k)[j]?=some (.slice (some ⟨b+j,0,none⟩) w w)
 |0,j,h=>by omega
 |k+1,j,h=>by
  have hl:=slC_len b w k
  rw [slC]
  by_cases hj:j<k
  ·rw [List.getElem?_append_left (by omega)];exact slC_get hj
  ·obtain rfl:j=k:=by omega
   rw [List.getElem?_append_right (by omega),hl,Nat.sub_self];rfl
theorem slC_get' {b w k j:Nat} (h:j<(slC b w k).length):(slC b w k)[j]=.slice (some ⟨b+j,0,none⟩) w w:=by
 have hl:=slC_len b w k
 have:=slC_get (b:=b) (w:=w) (k:=k) (j:=j) (by omega)
 rw [List.getElem?_eq_getElem h] at this
 exact Option.some.inj this
theorem get_last {σ:Heap} {o:AObj}:(σ++[o])[σ.length]?=some o:=by simp
theorem put_last {σ:Heap} {cs vs:List Value} (h:vs.length≤cs.length) (h0:0<cs.length):putCells (σ++[.rw cs]) σ.length 0 vs=some (σ++[.rw (splice cs 0 vs)]):=by
 unfold putCells
 rw [get_last]
 simp only [Nat.zero_add]
 rw [show Nat.ble vs.length cs.length=true from Nat.ble_eq_true_of_le h,show Nat.blt 0 cs.length=true from Nat.blt_eq.mpr h0]
 simp
theorem cells_last {σ:Heap} {cs:List Value} {n:Nat} (h:cs.length=n):cellsAt (σ++[.rw cs]) σ.length 0 n=some cs:=by
 unfold cellsAt
 rw [get_last]
 simp only [Nat.zero_add,← h,List.drop_zero,List.take_length,show Nat.ble cs.length cs.length=true from Nat.ble_eq_true_of_le (Nat.le_refl _),cond_true]
theorem arr_last {σ:Heap} {cs:List Value}:arrAt (σ++[.rw cs]) σ.length cs:=.inr (.inl get_last)
def rowPi (m k g x:Nat):Rho:=fun i=>if i<m then ⟨i,0,0⟩ else if i=m then ⟨g,0,0⟩ else if i=m+1+k then ⟨x,0,0⟩ else ⟨i,0,0⟩
theorem rowPi_lt {m k g x i:Nat} (h:i<m):rowPi m k g x i=⟨i,0,0⟩:=by simp [rowPi,h]
theorem rowPi_m {m k g x:Nat}:rowPi m k g x m=⟨g,0,0⟩:=by simp [rowPi]
theorem rowPi_mid {m k g x j:Nat} (h:j<k):rowPi m k g x (m+1+j)=⟨m+1+j,0,0⟩:=by
 unfold rowPi;rw [if_neg (by omega),if_neg (by omega),if_neg (by omega)]
theorem rowPi_k {m k g x:Nat}:rowPi m k g x (m+1+k)=⟨x,0,0⟩:=by
 unfold rowPi;rw [if_neg (by omega),if_neg (by omega),if_pos rfl]
theorem StRef.row {n0 m k g x w:Nat} {H K:Heap} {t:TypeId} {R:Nat→List Int} {e e2:Env} (hm:K.length=m) (hn0:n0≤m) (hK:H.take m=K) (hcl:HClosed m K) (hg:H[g]?=some (.gr (slC (m+1) w k++[.slice (some ⟨x,0,none⟩) w w]) t)) (hrow:∀ j<k,H[m+1+j]?=some (.rw (ints (R j))))
  (hx:H[x]?=some (.rw (ints (R k)))) (hxg:m+1+k≤x∧m+1+k≤g∧x ≠ g) (he:EnvRen (m+1+(k+1)) (rowPi m k g x) e e2):StRef n0 H (K++[.gr (slC (m+1) w (k+1)) t]++rowsO R (k+1)) e e2:=by
 refine .inr fun _=>⟨rowPi m k g x,?_,?_⟩
 ·have hlen:(K++[AObj.gr (slC (m+1) w (k+1)) t]++rowsO R (k+1)).length=m+1+(k+1):=by simp [rowsO_len,hm];omega
  have get:∀ (i:Nat) (o:AObj),(K++[AObj.gr (slC (m+1) w (k+1)) t]++rowsO R (k+1))[i]?=some o→(i<m∧K[i]?=some o)∨(i=m∧o=.gr (slC (m+1) w (k+1)) t)∨∃ j,j<k+1∧i=m+1+j∧o=.rw (ints (R j)):=by
   intro i o hi
   by_cases h1:i<m
   ·rw [List.getElem?_append_left (by simp;omega),List.getElem?_append_left (by omega)] at hi;exact .inl ⟨h1,hi⟩
   ·by_cases h2:i=m
    ·subst h2
     rw [List.getElem?_append_left (by simp;omega),List.getElem?_append_right (by omega),hm,Nat.sub_self] at hi
     simp only [List.getElem?_cons_zero,Option.some.injEq] at hi
     exact .inr (.inl ⟨rfl,hi.symm⟩)
    ·rw [List.getElem?_append_right (by simp;omega)] at hi
     simp only [List.length_append,List.length_cons,List.length_nil,hm] at hi
     by_cases h3:i - (m+(0+1))<k+1
     ·rw [rowsO_get h3] at hi
      cases hi
      exact .inr (.inr ⟨i - (m+(0+1)),h3,by omega,rfl⟩)
     ·rw [rowsO_none (by omega)] at hi;cases hi
  refine ⟨by rw [hlen];omega,fun i hi=>rowPi_lt (by omega),fun i o hi=>?_,fun i j oi oj hi hj _ _ hij=>?_⟩
  ·rw [hlen]
   rcases get i o hi with ⟨h1,h2⟩|⟨rfl,rfl⟩|⟨j,h1,rfl,rfl⟩
   ·exact osub_refl (fun i hi=>rowPi_lt hi) (by omega) h1 (by
     have h3:=h2
     rw [← hK,List.getElem?_take,if_pos h1] at h3;exact h3) (hclosed_get hcl i o h2)
   ·refine .inr ⟨by rw [rowPi_m],_,by rw [rowPi_m];exact hg,by simp [slC],fun a ha ha'=>?_⟩
    rw [slC_get' ha]
    have hal:a<k+1:=by rw [slC_len] at ha;exact ha
    have hsl:=slC_len (i+1) w k
    by_cases hak:a<k
    ·rw [List.getElem_append_left (by omega),slC_get' (by omega)]
     have:=VQ.slice (q:=true) (n:=i+1+(k+1)) (ρ:=rowPi i k g x) (i+1+a) 0 w w w (Nat.le_refl _) (by omega)
     rw [rowPi_mid hak] at this
     simpa using this
    ·obtain rfl:a=k:=by omega
     rw [List.getElem_append_right (by omega)]
     have:=VQ.slice (q:=true) (n:=i+1+(a+1)) (ρ:=rowPi i a g x) (i+1+a) 0 w w w (Nat.le_refl _) (by omega)
     rw [rowPi_k] at this
     simpa [hsl] using this
   ·by_cases hjk:j<k
    ·rw [rowPi_mid hjk]
     exact .inr ⟨rfl,_,.inl (hrow j hjk),Nat.le_refl _,fun a ha _=>vrel_plainL _ (ints_plain (R j)) a ha⟩
    ·obtain rfl:j=k:=by omega
     rw [rowPi_k]
     exact .inr ⟨rfl,_,.inl hx,Nat.le_refl _,fun a ha _=>vrel_plainL _ (ints_plain (R j)) a ha⟩
  ·have pl:∀ (i:Nat) (o:AObj),(K++[AObj.gr (slC (m+1) w (k+1)) t]++rowsO R (k+1))[i]?=some o→(i<m∧(rowPi m k g x i).b=i)∨(i=m∧(rowPi m k g x i).b=g)∨(m<i∧i<m+1+k∧(rowPi m k g x i).b=i)∨(i=m+1+k∧(rowPi m k g x i).b=x):=by
    intro i o hi
    rcases get i o hi with ⟨h1,_⟩|⟨rfl,_⟩|⟨j,h1,rfl,_⟩
    ·exact .inl ⟨h1,by rw [rowPi_lt h1]⟩
    ·exact .inr (.inl ⟨rfl,by rw [rowPi_m]⟩)
    ·by_cases hjk:j<k
     ·exact .inr (.inr (.inl ⟨by omega,by omega,by rw [rowPi_mid hjk]⟩))
     ·obtain rfl:j=k:=by omega
      exact .inr (.inr (.inr ⟨rfl,by rw [rowPi_k]⟩))
   have h1:=pl i oi hi
   have h2:=pl j oj hj
   omega
 ·rw [show (K++[AObj.gr (slC (m+1) w (k+1)) t]++rowsO R (k+1)).length=m+1+(k+1) by simp [rowsO_len,hm];omega]
  exact envRen_ref he
def retPi (a m:Nat):Rho:=fun i=>if i<a then ⟨i,0,0⟩ else ⟨m+(i - a),0,0⟩
theorem RetRef.rows {m n w:Nat} {σin K:Heap} {t:TypeId} {R:Nat→List Int} {f:Value} (hm:K.length=m) (hin:K.take σin.length=σin) (hle:σin.length≤m) (hf:AH.plain f=true) :
  RetRef σin (K++[.gr (slC (m+1) w n) t]++rowsO R n) (.tuple #[slvV m 1 n,f]) (.tuple #[.slice (some ⟨σin.length,0,none⟩) n n,f]) (σin++([.rw (slC (σin.length+1) w n)]++rowsO R n)):=by
 refine .inr fun hcl=>⟨retPi σin.length m,?_,?_⟩
 ·have hlt:∀ i < σin.length,retPi σin.length m i=⟨i,0,0⟩:=fun i hi=>if_pos hi
  have hge:∀ j,retPi σin.length m (σin.length+j)=⟨m+j,0,0⟩:=fun j=>by
   unfold retPi;rw [if_neg (by omega),show σin.length+j - σin.length=j by omega]
  have hlen:(σin++([AObj.rw (slC (σin.length+1) w n)]++rowsO R n)).length=σin.length+1+n:=by simp [rowsO_len];omega
  have get:∀ (i:Nat) (o:AObj),(σin++([AObj.rw (slC (σin.length+1) w n)]++rowsO R n))[i]?=some o→(i < σin.length∧σin[i]?=some o)∨(i=σin.length+0∧o=.rw (slC (σin.length+1) w n))∨∃ j,j<n∧i=σin.length+(1+j)∧o=.rw (ints (R j)):=by
   intro i o hi
   by_cases h1:i < σin.length
   ·rw [List.getElem?_append_left h1] at hi;exact .inl ⟨h1,hi⟩
   ·rw [List.getElem?_append_right (by omega)] at hi
    by_cases h2:i=σin.length
    ·subst h2
     rw [Nat.sub_self] at hi
     simp only [List.cons_append,List.nil_append,List.getElem?_cons_zero,Option.some.injEq] at hi
     exact .inr (.inl ⟨rfl,hi.symm⟩)
    ·rw [List.getElem?_append_right (by simp;omega)] at hi
     simp only [List.length_cons,List.length_nil] at hi
     by_cases h3:i - σin.length - (0+1)<n
     ·rw [rowsO_get h3] at hi
      cases hi
      exact .inr (.inr ⟨i - σin.length - (0+1),h3,by omega,rfl⟩)
     ·rw [rowsO_none (by omega)] at hi;cases hi
  have atK:∀ i,i<m→(K++[AObj.gr (slC (m+1) w n) t]++rowsO R n)[i]?=K[i]?:=fun i hi=>by
   rw [List.getElem?_append_left (by simp;omega),List.getElem?_append_left (by omega)]
  have atM:(K++[AObj.gr (slC (m+1) w n) t]++rowsO R n)[m+0]?=some (.gr (slC (m+1) w n) t):=by
   rw [List.getElem?_append_left (by simp;omega),List.getElem?_append_right (by omega),hm];simp
  have atR:∀ j<n,(K++[AObj.gr (slC (m+1) w n) t]++rowsO R n)[m+(1+j)]?=some (.rw (ints (R j))):=fun j hj=>by
   rw [List.getElem?_append_right (by simp;omega)]
   simp only [List.length_append,List.length_cons,List.length_nil,hm]
   rw [show m+(1+j) - (m+(0+1))=j by omega]
   exact rowsO_get hj
  refine ⟨by rw [hlen];omega,hlt,fun i o hi=>?_,fun i j oi oj hi hj _ _ hij=>?_⟩
  ·rw [hlen]
   rcases get i o hi with ⟨h1,h2⟩|⟨rfl,rfl⟩|⟨j,h1,rfl,rfl⟩
   ·refine osub_refl hlt (by omega) h1 ?_ (hcl i o h2)
    rw [atK i (by omega)]
    have h3:=h2
    rw [← hin,List.getElem?_take,if_pos h1] at h3;exact h3
   ·rw [hge]
    refine .inr ⟨rfl,_,.inr ⟨t,atM⟩,by simp [slC_len],fun a ha ha'=>?_⟩
    rw [slC_get' ha,slC_get' ha']
    have:=VQ.slice (q:=true) (n:=σin.length+1+n) (ρ:=retPi σin.length m) (σin.length+1+a) 0 w w w (Nat.le_refl _) (by rw [slC_len] at ha;omega)
    rw [show σin.length+1+a=σin.length+(1+a) by omega,hge] at this
    simpa [Nat.add_assoc] using this
   ·rw [hge]
    exact .inr ⟨rfl,_,.inl (atR j h1),Nat.le_refl _,fun a ha _=>vrel_plainL _ (ints_plain (R j)) a ha⟩
  ·have pl:∀ (i:Nat) (o:AObj),(σin++([AObj.rw (slC (σin.length+1) w n)]++rowsO R n))[i]?=some o→(i < σin.length∧(retPi σin.length m i).b=i)∨(σin.length≤i∧(retPi σin.length m i).b=m+(i - σin.length)):=by
    intro i o _
    by_cases h1:i < σin.length
    ·exact .inl ⟨h1,by rw [hlt i h1]⟩
    ·refine .inr ⟨by omega,?_⟩
     unfold retPi;rw [if_neg h1]
   have h1:=pl i oi hi
   have h2:=pl j oj hj
   omega
 ·have hlen:(σin++([AObj.rw (slC (σin.length+1) w n)]++rowsO R n)).length=σin.length+1+n:=by simp [rowsO_len];omega
  rw [hlen]
  refine .tuple _ _ rfl fun i hi _=>?_
  match i,hi with
  |0,_ =>
   show VSub _ _ (.slice (some ⟨σin.length,0,none⟩) n n) (slvV m 1 n)
   cases n with
   |zero=>exact .emptySlice _ _ _ _
   |succ n =>
    have:=VQ.sliceG (q:=true) (n:=σin.length+1+(n+1)) (ρ:=retPi σin.length m) σin.length 0 (n+1) (n+1) (n+1) 1 (Nat.le_refl _) (by omega) rfl
    have e0:retPi σin.length m σin.length=⟨m,0,0⟩:=by unfold retPi;rw [if_neg (by omega),Nat.sub_self];rfl
    rw [e0] at this
    simpa [slvV] using this
  |1,_=>exact vrel_plain _ hf
end Go.AH
namespace Go.AH.Dust
open Go Go.AH
def gq (qs:List (List Int)) (i:Nat):List Int:=qs.getD i []
def rowsQ (qs:List (List Int)):List (List Value):=qs.map ints
theorem rowsQ_get {qs:List (List Int)} {i:Nat} (h:i<qs.length):(rowsQ qs)[i]?=some (ints (gq qs i)):=by simp [rowsQ,gq,h]
theorem rowsQ_len (qs:List (List Int)):(rowsQ qs).length=qs.length:=by simp [rowsQ]
theorem hc_deep1 (Q:List (List Value)):HClosed 1 [.deep Q []]:=⟨fun x hx=>by simp at hx,trivial⟩
def longP (qs:List (List Int)):Prop:=qs.length > 30∨∃ i<qs.length,(gq qs i).length > 20
def tLen (S:Shp) (Q:List (List Int)):Prop:=∃ h,h<Q.length∧(gq Q h).length ≠ S.d.length
def tRng (Q:List (List Int)):Prop:=∃ h,h<Q.length∧∃ i,i<(gq Q h).length∧(gi (gq Q h) i < -1∨gi (gq Q h) i > 1000000)
def tLow (S:Shp) (Q:List (List Int)) (i:Nat):Prop:=gi (gq Q 0) i<gi S.d i
def tStep (S:Shp) (Q:List (List Int)) (h k:Nat):Prop:=0≤gi (gq Q (h - 1)) (gf S.f k).2.toNat∧gi (gq Q h) (gf S.f k).1.toNat<gi S.d (gf S.f k).1.toNat+gi (gq Q (h - 1)) (gf S.f k).2.toNat
def tSum (S:Shp) (Q:List (List Int)):Prop:=(∃ i,i<S.d.length∧tLow S Q i)∨∃ h,1≤h∧h<Q.length∧∃ k,k<S.f.length∧tStep S Q h k
open Classical in
noncomputable def topE (S:Shp) (Q:List (List Int)):Int :=
 if shopE S ≠ 0 then shopE S else if Q.length<1∨Q.length > 24 then 2 else if tLen S Q then 15 else if tRng Q then 3 else if tSum S Q then 14 else 0
theorem topE_shop {S:Shp} {Q:List (List Int)} (h:shopE S ≠ 0):topE S Q=shopE S:=by unfold topE;rw [if_pos h]
theorem topE_2 {S:Shp} {Q:List (List Int)} (h:shopE S=0) (h1:Q.length<1∨Q.length > 24):topE S Q=2:=by unfold topE;rw [if_neg (fun x=>x h),if_pos h1]
theorem topE_15 {S:Shp} {Q:List (List Int)} (h:shopE S=0) (h1:¬ (Q.length<1∨Q.length > 24)) (h2:tLen S Q):topE S Q=15:=by unfold topE;rw [if_neg (fun x=>x h),if_neg h1,if_pos h2]
theorem topE_3 {S:Shp} {Q:List (List Int)} (h:shopE S=0) (h1:¬ (Q.length<1∨Q.length > 24)) (h2:¬ tLen S Q) (h3:tRng Q):topE S Q=3:=by unfold topE;rw [if_neg (fun x=>x h),if_neg h1,if_neg h2,if_pos h3]
theorem topE_14 {S:Shp} {Q:List (List Int)} (h:shopE S=0) (h1:¬ (Q.length<1∨Q.length > 24)) (h2:¬ tLen S Q) (h3:¬ tRng Q) (h4:tSum S Q):topE S Q=14:=by unfold topE;rw [if_neg (fun x=>x h),if_neg h1,if_neg h2,if_neg h3,if_pos h4]
theorem topE_0 {S:Shp} {Q:List (List Int)} (h:shopE S=0) (h1:¬ (Q.length<1∨Q.length > 24)) (h2:¬ tLen S Q) (h3:¬ tRng Q) (h4:¬ tSum S Q):topE S Q=0:=by unfold topE;rw [if_neg (fun x=>x h),if_neg h1,if_neg h2,if_neg h3,if_neg h4]
def mxB (f:Nat→Int) (r:Nat→Bool):Nat→Int
 |0=>-1
 |k+1=>if r k=true then max (mxB f r k) (f k) else mxB f r k
def mxL (f:Nat→Int) (L:List Int):Nat→Int
 |0=>-1
 |k+1=>max (mxL f L k) (f (gi L k).toNat)
theorem mxL_app {f:Nat→Int} {L:List Int} {a:Int}:∀ k,k≤L.length→mxL f (L++[a]) k=mxL f L k
 |0,_=>rfl
 |k+1,h=>by
  simp only [mxL]
  rw [mxL_app k (by omega)]
  have:gi (L++[a]) k=gi L k:=by simp [gi,List.getElem?_append_left (show k<L.length by omega)]
  rw [this]
theorem mxL_rL {f:Nat→Int} {S:Shp}:∀ k,mxL f (rL S k) (rL S k).length=mxB f (rB S) k
 |0=>rfl
 |k+1=>by
  have ih:=mxL_rL (f:=f) (S:=S) k
  simp only [rL,mxB]
  split
  ·rw [List.length_append]
   show mxL f (rL S k++[(k:Int)]) ((rL S k).length+1)=_
   simp only [mxL]
   rw [mxL_app _ (Nat.le_refl _),ih]
   have:gi (rL S k++[(k:Int)]) (rL S k).length=k:=by simp [gi]
   rw [this];simp
  ·exact ih
theorem mxL_reach {f:Nat→Int} {S:Shp} (h0:shopE S=0):mxL f (reachL S) (reachL S).length=mxB f (rB S) S.d.length:=by
 unfold reachL;rw [if_pos h0];exact mxL_rL _
theorem mxL_mx {S:Shp} {H:Nat} {L:List Int}:∀ k,mxL (most S H) L k=mx S H L k
 |0=>rfl
 |k+1=>by simp only [mxL,mx];rw [mxL_mx k]
open Classical in
noncomputable def topM (S:Shp) (Q:List (List Int)):Int:=if topE S Q=0 then mxB (gi (gq Q (Q.length - 1))) (rB S) S.d.length else 0
theorem topM_0 {S:Shp} {Q:List (List Int)} (h:topE S Q=0):topM S Q=mxB (gi (gq Q (Q.length - 1))) (rB S) S.d.length:=if_pos h
theorem topM_bad {S:Shp} {Q:List (List Int)} (h:topE S Q ≠ 0):topM S Q=0:=if_neg h
end Go.AH.Dust
namespace Go.Proofs.Ytomioaiojidnbaa
open Go Go.AH
attribute [local irreducible] WOps WCode WFree retQ thenQ blockQ scopeQ OpOk ACall RetRef roundA roundB
set_option maxRecDepth 100000
set_option maxHeartbeats 1000000
open Go.AH.Dust
theorem long27_ok (qs:List (List Int)) (c:Nat) (hN:qs.length≤9223372036854775807) (b:Bool) (hb:b=true↔longP qs):Ev Try.prog 27 [.slice (some ⟨0,0,none⟩) qs.length c] [.deep (rowsQ qs) []] (.bool b) [.deep (rowsQ qs) []]:=by
 unfold longP at hb
 refine acall_intro 1 19 Try.func27 rfl rfl rfl rfl rfl ?_
 by_cases h1:(qs.length:Int) > 30
 ·obtain rfl:b=true:=hb.2 (.inl (by omega))
  repeat' (first|(refine gU ?_;first|(refine gMove ?_;refine st (ok_move rfl) rfl rfl ?_)|(refine gAssign ?_;refine st (ok_assign rfl) rfl rfl ?_)|(refine gBin ?_;refine st (ok_bin rfl rfl rfl) rfl rfl ?_)|(refine gLen ?_;refine st (ok_len rfl) rfl rfl ?_))|refine W_seq ?_|refine W_region ?_|refine st_nil ?_|refine tq_n ?_|refine tq_r ?_|refine W_ret ?_|refine W_condTA rfl ?_)
  exact ret0 (.tmp rfl .nil) (.plain rfl rfl) ⟨rfl,rfl⟩
 ·repeat' (first|(refine gU ?_;first|(refine gMove ?_;refine st (ok_move rfl) rfl rfl ?_)|(refine gAssign ?_;refine st (ok_assign rfl) rfl rfl ?_)|(refine gBin ?_;refine st (ok_bin rfl rfl rfl) rfl rfl ?_)|(refine gLen ?_;refine st (ok_len rfl) rfl rfl ?_))|refine W_seq ?_|refine W_region ?_|refine st_nil ?_|refine tq_n ?_|refine W_skip ?_|refine W_block ?_|refine W_condFA rfl ?_)
  refine W_loopS (ι:=Nat) (fun i=>[(0,.slice (some ⟨0,0,none⟩) qs.length c),(3,.int .i64 (i:Int))]) (fun _=>[.deep (rowsQ qs) []]) (fun i=>qs.length - i) (fun i=>i≤qs.length∧∀ j<i,¬ (gq qs j).length > 20) 0 (by simp) (.same ⟨rfl,rfl,trivial⟩) ⟨by omega,fun j hj=>by omega⟩ ?_
  rintro i ⟨hi,hall⟩
  by_cases hil:i<qs.length
  ·refine W_open 0 i rfl (rowsQ_get hil) (ints_plain _) ?_
   rw [ints_length]
   have hc1:cellGet [.deep (rowsQ qs) [(i,.slice (some ⟨1,0,none⟩) (gq qs i).length (gq qs i).length)],.ro (ints (gq qs i))] 0 i=some (.slice (some ⟨1,0,none⟩) (gq qs i).length (gq qs i).length):=by simp [cellGet,spGet]
   by_cases hq:((gq qs i).length:Int) > 20
   ·obtain rfl:b=true:=hb.2 (.inr ⟨i,hil,by omega⟩)
    generalize gq qs i=q at *
    repeat' (first|(refine gU ?_;first|(refine gMove ?_;refine st (ok_move rfl) rfl rfl ?_)|(refine gAssign ?_;refine st (ok_assign rfl) rfl rfl ?_)|(refine gLoad ?_;refine st (ok_load rfl (by exact hc1)) rfl rfl ?_)|(refine gBin ?_;refine st (ok_bin rfl rfl rfl) rfl rfl ?_)|(refine gLen ?_;refine st (ok_len rfl) rfl rfl ?_)|(refine gIA ?_;refine st (ok_idxN rfl rfl (by omega)) rfl rfl ?_))|refine W_seq ?_|refine W_region ?_|refine st_nil ?_|refine tq_n ?_|refine tq_r ?_|refine bq_r ?_|refine W_skip ?_|refine W_ret ?_|refine W_block ?_|refine W_condTA rfl ?_)
    exact ret0 (.tmp rfl .nil) (.plainD (j:=0) rfl rfl rfl) ⟨rfl,rfl⟩
   ·have hq':¬ (gq qs i).length > 20:=by omega
    have hall2:∀ j<i+1,¬ (gq qs j).length > 20:=fun j hj=>by
     by_cases hji:j=i
     ·subst hji;exact hq'
     ·exact hall j (by omega)
    generalize gq qs i=q at *
    repeat' (first|(refine gU ?_;first|(refine gMove ?_;refine st (ok_move rfl) rfl rfl ?_)|(refine gAssign ?_;refine st (ok_assign rfl) rfl rfl ?_)|(refine gLoad ?_;refine st (ok_load rfl (by exact hc1)) rfl rfl ?_)|(refine gAdd ?_;refine st (ok_inc rfl rfl (by omega)) rfl rfl ?_)|(refine gBin ?_;refine st (ok_bin rfl rfl rfl) rfl rfl ?_)|(refine gLen ?_;refine st (ok_len rfl) rfl rfl ?_)|(refine gIA ?_;refine st (ok_idxN rfl rfl (by omega)) rfl rfl ?_))|refine W_seq ?_|refine W_region ?_|refine st_nil ?_|refine tq_n ?_|refine bq_n ?_|refine W_skip ?_|refine W_block ?_|refine W_condTA rfl ?_|refine W_condFA rfl ?_)
    exact ⟨rfl,i+1,⟨by omega,hall2⟩,by omega,.dropD (j:=0) rfl [.deep (rowsQ qs) []] (by simp) rfl (hc_deep1 _) (by (repeat' (first|exact trivial|exact ⟨rfl,rfl,rfl⟩|exact ⟨rfl,closed_slice rfl,rfl⟩|refine ⟨?_,?_⟩)))⟩
  ·obtain rfl:i=qs.length:=by omega
   obtain rfl:b=false:=by
    cases b with
    |false=>rfl
    |true =>
     rcases hb.1 rfl with h|⟨j,h2,h3⟩
     ·omega
     ·exact absurd h3 (hall j h2)
   repeat' (first|(refine gU ?_;first|(refine gMove ?_;refine st (ok_move rfl) rfl rfl ?_)|(refine gAssign ?_;refine st (ok_assign rfl) rfl rfl ?_)|(refine gBin ?_;refine st (ok_bin rfl rfl rfl) rfl rfl ?_)|(refine gLen ?_;refine st (ok_len rfl) rfl rfl ?_))|refine W_seq ?_|refine W_region ?_|refine st_nil ?_|refine tq_n ?_|refine tq_e ?_|refine bq_hit rfl ?_|refine W_exit ?_|refine W_ret ?_|refine W_condFA rfl ?_)
   exact ret0 (.tmp rfl .nil) (.plain rfl rfl) ⟨rfl,rfl⟩
theorem long27_ev {σ:Heap} {qs:List (List Int)} {x c:Nat} (hx:ObjAt σ (x,0) (.deep (rowsQ qs) [])) (hN:qs.length≤9223372036854775807) (b:Bool) (hb:b=true↔longP qs) (hni:σ.all (fun o=>!isIter o)=true) :
  Ev Try.prog 27 [.slice (some ⟨x,0,none⟩) qs.length c] σ (.bool b) σ :=
 Ev.objs [.deep (rowsQ qs) []] [(x,0)] (long27_ok qs c hN b hb) ⟨hx,trivial⟩ ⟨by simpa [psR] using VQ.slice (q:=true) (n:=1) (ρ:=psR [(x,0)]) 0 0 qs.length c c (Nat.le_refl _) (by omega),trivial⟩ rfl hni
theorem clone71_ok (q:List Int) (c:Nat) (h0:0<q.length) (hN:q.length≤1000000) :
  Ev Try.prog 71 [.slice (some ⟨0,0,none⟩) q.length c] [.ro (ints q)] (.slice (some ⟨1,0,none⟩) q.length q.length) [.ro (ints q),.rw (ints q)]:=by
 have hcs:∀ σ':Heap,cellsAt (.ro (ints q)::σ') 0 0 (q.length*1)=some (ints q):=fun σ'=>by
  have:=cellsAt_arr (σ:=.ro (ints q)::σ') (b:=0) (cs:=ints q) (.inl rfl)
  rw [ints_length] at this;rw [Nat.mul_one];exact this
 replace hcs:=hcs [.dead]
 have hone:=ints_cell1 q
 refine acall_intro 1 8 Try.func71 rfl rfl rfl rfl rfl ?_
 repeat' (first|(refine gU ?_;first|(refine gMove ?_;refine st (ok_move rfl) rfl rfl ?_)|(refine gAssign ?_;refine st (ok_assign rfl) rfl rfl ?_)|(refine gBin ?_;refine st (ok_eqNil rfl (by omega) rfl) rfl rfl ?_)|(refine gBuildS ?_;refine st (ok_buildS0) rfl rfl ?_)|(refine gApp ?_;refine st (ok_appendE (by rfl) rfl rfl (by exact hcs) (by omega) (by omega) (by omega)) rfl rfl ?_))|refine W_seq ?_|refine W_region ?_|refine st_nil ?_|refine tq_n ?_|refine W_skip ?_|refine W_ret ?_|refine W_condFA rfl ?_)
 exact ret0 (.tmp rfl .nil) (retOne rfl (ints_plain _) (.inr ⟨_,rfl⟩) rfl) ⟨rfl,rfl⟩
theorem clone71_ev {σ:Heap} {q:List Int} {n x c:Nat} (hn:q.length=n) (hx:prtAt σ (x,0) (ints q)) (h0:0<n) (hN:n≤1000000) (hni:σ.all (fun o=>!isIter o)=true) :
  Ev Try.prog 71 [.slice (some ⟨x,0,none⟩) n c] σ (.slice (some ⟨σ.length,0,none⟩) n n) (σ++[.rw (ints q)]):=by
 subst hn
 refine Ev.partsN [ints q] [(x,0)] (clone71_ok q c h0 hN) ⟨hx,trivial⟩ ⟨by simpa [psR] using VQ.slice (q:=true) (n:=1) (ρ:=psR [(x,0)]) 0 0 q.length c c (Nat.le_refl _) (by omega),trivial⟩ (by simp [ints_plain]) rfl ?_ ?_ hni
 ·simp [ren,shf]
 ·simp only [List.map_cons,List.map_nil,renO,renL_plain _ (ints_plain _)]
end Go.Proofs.Ytomioaiojidnbaa
