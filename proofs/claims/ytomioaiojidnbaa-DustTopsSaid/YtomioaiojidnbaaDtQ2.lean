/- The most dust of runs, plainly. -/
import Derived.Test.YtomioaiojidnbaaDtQ1
namespace Go.AH.Dust
open Go Go.AH
theorem hc3 (S:Shp):HClosed 3 S.hp:=⟨plainL_closed (ints_plain _),plainL_closed (pc_plain _),plainL_closed (ints_plain _),trivial⟩
theorem shL_closed {n x y z:Nat} {S:Shp} (hx:x<n) (hy:y<n) (hz:z<n):closedL n (shL x y z S)=true∧okL (shL x y z S)=true:=by
 obtain ⟨a1,a2⟩:=slice_closed (n:=n) (i:=x) (l:=S.d.length) (c:=S.d.length) hx
 obtain ⟨b1,b2⟩:=slice_closed (n:=n) (i:=y) (l:=S.f.length) (c:=S.f.length) hy
 obtain ⟨c1,c2⟩:=slice_closed (n:=n) (i:=z) (l:=S.s.length) (c:=S.s.length) hz
 simp [closedL,okL,a1,b1,c1,a2,b2,c2]
theorem hc4 (S:Shp):HClosed 4 [.ro (ints S.d),.ro (pc S.f),.ro (ints S.s),.rw (shL 0 1 2 S)]:=⟨plainL_closed (ints_plain _),plainL_closed (pc_plain _),plainL_closed (ints_plain _),shL_closed (by omega) (by omega) (by omega),trivial⟩
theorem prt_take {σ:Heap} {f:List (Int×Int)} {x i:Nat} (hx:arrAt σ x (pc f)) (hi:i≤f.length):prtAt σ (x,0) (pc (f.take i)):=by
 refine ⟨pc f,hx,?_,?_⟩
 ·have h:∀ (f:List (Int×Int)) (i:Nat),i≤f.length→pc f=pc (f.take i)++pc (f.drop i):=by
   intro f
   induction f with
   |nil=>intro i hi;simp [pc]
   |cons p f ih =>
    intro i hi
    cases i with
    |zero=>simp [pc]
    |succ i=>simp only [List.take_succ_cons,List.drop_succ_cons,pc,List.cons_append];rw [ih i (by simpa using hi)]
  rw [List.drop_zero,h f i hi,List.take_left]
 ·rw [pc_len,pc_len,List.length_take];omega
theorem mem_take {f:List (Int×Int)} {p:Int×Int} {i:Nat} (hi:i≤f.length):p ∈ f.take i↔∃ k,k<i∧gf f k=p:=by
 rw [mem_gf,List.length_take,Nat.min_eq_left hi]
 have e:∀ k,k<i→gf (f.take i) k=gf f k:=fun k hk=>by simp [gf,List.getD_eq_getElem?_getD,hk]
 exact ⟨fun ⟨k,h1,h2⟩=>⟨k,h1,by rw [← e k h1];exact h2⟩,fun ⟨k,h1,h2⟩=>⟨k,h1,by rw [e k h1];exact h2⟩⟩
theorem box_at {σ:Heap} {p x y z:Nat} {S:Shp} (h:SAt σ x y z S) (hp:arrAt σ p (shL x y z S)):ArrsR σ 4 (bsR [x,y,z,p]) [ints S.d,pc S.f,ints S.s,shL 0 1 2 S] [(x,ints S.d),(y,pc S.f),(z,ints S.s),(p,shL x y z S)]:=by
 refine ⟨⟨h.1,rfl,fun a ha ha'=>vrel_plainL _ (ints_plain _) a ha⟩,⟨h.2.1,rfl,fun a ha ha'=>vrel_plainL _ (pc_plain _) a ha⟩,⟨h.2.2,rfl,fun a ha ha'=>vrel_plainL _ (ints_plain _) a ha⟩,⟨hp,rfl,fun a ha ha'=>?_⟩,trivial⟩
 match a,ha with
 |0,_=>exact vsub_sl (by omega) rfl (Nat.le_refl _)
 |1,_=>exact vsub_sl (by omega) rfl (Nat.le_refl _)
 |2,_=>exact vsub_sl (by omega) rfl (Nat.le_refl _)
end Go.AH.Dust
namespace Go.Proofs.Ytomioaiojidnbaa
open Go Go.AH
attribute [local irreducible] WOps WCode WFree retQ thenQ blockQ scopeQ OpOk ACall RetRef roundA roundB
set_option maxRecDepth 100000
set_option maxHeartbeats 1000000
open Go.AH.Dust
theorem work57_ev {σ:Heap} {S:Shp} {n:Int} {p x y z:Nat} (h:SAt σ x y z S) (hp:arrAt σ p (shL x y z S)) (hS:S.fit) (hni:σ.all (fun o=>!isIter o)=true) :
  Ev Try.prog 57 [.int .i64 n,.pointer (some ⟨p,0,none⟩)] σ (.bool (decide (isW S n))) σ:=by
 have w':Ev Try.prog 57 [.int .i64 n,.pointer (some ⟨3,0,none⟩)] [.ro (ints S.d),.ro (pc S.f),.ro (ints S.s),.ro (shL 0 1 2 S)] (.bool (decide (isW S n))) [.ro (ints S.d),.ro (pc S.f),.ro (ints S.s),.ro (shL 0 1 2 S)]:=work57r_ok S n hS
 exact Ev.arrsP [ints S.d,pc S.f,ints S.s,shL 0 1 2 S] [(x,ints S.d),(y,pc S.f),(z,ints S.s),(p,shL x y z S)] w' (box_at h hp) ⟨.int _ _,by simpa [bsR] using VQ.ptr (q:=true) (n:=4) (ρ:=bsR [x,y,z,p]) 3 0 (by omega),trivial⟩ rfl hni
theorem shop_ok (S:Shp) (hS:S.fit):Ev Try.prog 21 [shV 0 1 2 S] S.hp (.int .i64 (shopE S)) S.hp:=by
 have n1:=hS.d
 have n2:=hS.f
 have n3:=hS.s
 by_cases a1:(S.d.length:Int)=0
 ·have e:shopE S=6:=by unfold shopE;rw [if_pos (by omega)]
  rw [e]
  refine acall_intro 3 84 Try.func21 rfl rfl rfl rfl rfl ?_
  repeat' (first|(refine gU ?_;first|(refine gMove ?_;refine st (ok_move rfl) rfl rfl ?_)|(refine gAssign ?_;refine st (ok_assign rfl) rfl rfl ?_)|(refine gFA ?_;refine st (ok_fieldAddr rfl) rfl rfl ?_)|(refine gLoad ?_;refine st (ok_load rfl (by rfl)) rfl rfl ?_)|(refine gBin ?_;refine st (ok_bin rfl rfl rfl) rfl rfl ?_)|(refine gLen ?_;refine st (ok_len rfl) rfl rfl ?_)|(refine gPick ?_;refine st (ok_pickTA rfl rfl) rfl rfl ?_)|(refine gMkF ?_;refine st (ok_makeFunc rfl rfl) rfl rfl ?_)|(refine gBox ?_;refine st (ok_box rfl) rfl rfl ?_))|(refine gG ?_;refine stSA rfl rfl ?_)|refine W_seq ?_|refine W_region ?_|refine st_nil ?_|refine tq_n ?_|refine tq_r ?_|refine bq_r ?_|refine W_ret ?_|refine W_block ?_|refine W_condTA rfl ?_)
  exact ret0 (.tmp rfl .nil) (.plain rfl rfl) ⟨rfl,rfl⟩
 by_cases a2:(S.d.length:Int) > 10
 ·have e:shopE S=6:=by unfold shopE;rw [if_pos (by omega)]
  rw [e]
  refine acall_intro 3 84 Try.func21 rfl rfl rfl rfl rfl ?_
  repeat' (first|(refine gU ?_;first|(refine gMove ?_;refine st (ok_move rfl) rfl rfl ?_)|(refine gAssign ?_;refine st (ok_assign rfl) rfl rfl ?_)|(refine gFA ?_;refine st (ok_fieldAddr rfl) rfl rfl ?_)|(refine gLoad ?_;refine st (ok_load rfl (by rfl)) rfl rfl ?_)|(refine gBin ?_;refine st (ok_bin rfl rfl rfl) rfl rfl ?_)|(refine gLen ?_;refine st (ok_len rfl) rfl rfl ?_)|(refine gPick ?_;first|refine st (ok_pickTA rfl rfl) rfl rfl ?_|refine st (ok_pickFA rfl rfl) rfl rfl ?_)|(refine gMkF ?_;refine st (ok_makeFunc rfl rfl) rfl rfl ?_)|(refine gBox ?_;refine st (ok_box rfl) rfl rfl ?_))|(refine gG ?_;first|(refine gFA ?_;refine stGA rfl (ok_fieldAddr rfl) rfl rfl ?_)|(refine gLoad ?_;refine stGA rfl (ok_load rfl (by rfl)) rfl rfl ?_)|(refine gBin ?_;refine stGA rfl (ok_bin rfl rfl rfl) rfl rfl ?_)|(refine gLen ?_;refine stGA rfl (ok_len rfl) rfl rfl ?_)|refine stSA rfl rfl ?_)|refine W_seq ?_|refine W_region ?_|refine st_nil ?_|refine tq_n ?_|refine tq_r ?_|refine bq_r ?_|refine W_ret ?_|refine W_block ?_|refine W_condTA rfl ?_)
  exact ret0 (.tmp rfl .nil) (.plain rfl rfl) ⟨rfl,rfl⟩
 by_cases a3:(S.f.length:Int) > 60
 ·have e:shopE S=6:=by unfold shopE;rw [if_pos (by omega)]
  rw [e]
  refine acall_intro 3 84 Try.func21 rfl rfl rfl rfl rfl ?_
  repeat' (first|(refine gU ?_;first|(refine gMove ?_;refine st (ok_move rfl) rfl rfl ?_)|(refine gAssign ?_;refine st (ok_assign rfl) rfl rfl ?_)|(refine gFA ?_;refine st (ok_fieldAddr rfl) rfl rfl ?_)|(refine gLoad ?_;refine st (ok_load rfl (by rfl)) rfl rfl ?_)|(refine gBin ?_;refine st (ok_bin rfl rfl rfl) rfl rfl ?_)|(refine gLen ?_;refine st (ok_len rfl) rfl rfl ?_)|(refine gPick ?_;refine st (ok_pickFA rfl rfl) rfl rfl ?_)|(refine gMkF ?_;refine st (ok_makeFunc rfl rfl) rfl rfl ?_)|(refine gBox ?_;refine st (ok_box rfl) rfl rfl ?_))|(refine gG ?_;first|(refine gFA ?_;refine stGA rfl (ok_fieldAddr rfl) rfl rfl ?_)|(refine gLoad ?_;refine stGA rfl (ok_load rfl (by rfl)) rfl rfl ?_)|(refine gBin ?_;refine stGA rfl (ok_bin rfl rfl rfl) rfl rfl ?_)|(refine gLen ?_;refine stGA rfl (ok_len rfl) rfl rfl ?_))|refine W_seq ?_|refine W_region ?_|refine st_nil ?_|refine tq_n ?_|refine tq_r ?_|refine bq_r ?_|refine W_ret ?_|refine W_block ?_|refine W_condTA rfl ?_)
  exact ret0 (.tmp rfl .nil) (.plain rfl rfl) ⟨rfl,rfl⟩
 have e0:¬ (S.d.length=0∨S.d.length > 10∨S.f.length > 60):=by omega
 have hwi:=within_ev (σ:=[.ro (ints S.d),.ro (pc S.f),.ro (ints S.s),.rw (shL 0 1 2 S)]) (l:=S.d) (lo:=0) (hi:=1000) (x:=0) (c:=S.d.length) (.inl rfl) (by omega) rfl
 by_cases hD:okD S
 case neg =>
  have e:shopE S=3:=by unfold shopE;rw [if_neg e0,if_pos hD]
  have hb:badIx 0 1000 S.d≥0:=badIx_iff.2 (Classical.byContradiction fun hn=>hD fun i hi=>by
   have:¬ (gi S.d i<0∨gi S.d i > 1000):=fun h=>hn ⟨i,hi,h⟩
   omega)
  rw [e]
  refine acall_intro 3 84 Try.func21 rfl rfl rfl rfl rfl ?_
  repeat' (first|(refine gU ?_;first|(refine gMove ?_;refine st (ok_move rfl) rfl rfl ?_)|(refine gAssign ?_;refine st (ok_assign rfl) rfl rfl ?_)|(refine gFA ?_;refine st (ok_fieldAddr rfl) rfl rfl ?_)|(refine gLoad ?_;refine st (ok_load rfl (by rfl)) rfl rfl ?_)|(refine gBin ?_;refine st (ok_bin rfl rfl rfl) rfl rfl ?_)|(refine gLen ?_;refine st (ok_len rfl) rfl rfl ?_)|(refine gPick ?_;refine st (ok_pickFA rfl rfl) rfl rfl ?_)|(refine gNot ?_;refine st (ok_notD rfl) rfl rfl ?_)|(refine gMkF ?_;refine st (ok_makeFunc rfl rfl) rfl rfl ?_)|(refine gCall ?_;refine st (ok_call rfl rfl rfl (by exact hwi)) rfl rfl ?_)|(refine gBox ?_;refine st (ok_box rfl) rfl rfl ?_))|(refine gG ?_;first|(refine gFA ?_;refine stGA rfl (ok_fieldAddr rfl) rfl rfl ?_)|(refine gLoad ?_;refine stGA rfl (ok_load rfl (by rfl)) rfl rfl ?_)|(refine gBin ?_;refine stGA rfl (ok_bin rfl rfl rfl) rfl rfl ?_)|(refine gLen ?_;refine stGA rfl (ok_len rfl) rfl rfl ?_))|refine W_seq ?_|refine W_region ?_|refine st_nil ?_|refine tq_n ?_|refine tq_r ?_|refine bq_r ?_|refine W_ret ?_|refine W_block ?_|refine W_condTA rfl ?_|refine W_condFA rfl ?_)
  exact ret0 (.tmp rfl .nil) (.plain rfl rfl) ⟨rfl,rfl⟩
 have e1:¬ ¬ okD S:=fun h=>h hD
 have hb:¬ badIx 0 1000 S.d≥0:=fun h=>by
  obtain ⟨i,h1,h2⟩:=badIx_iff.1 h
  have:=hD i h1;omega
 by_cases a4:(S.s.length:Int)=0
 ·have e:shopE S=2:=by unfold shopE;rw [if_neg e0,if_neg e1,if_neg (fun h=>h.2.2 (by omega))]
  rw [e]
  refine acall_intro 3 84 Try.func21 rfl rfl rfl rfl rfl ?_
  repeat' (first|(refine gU ?_;first|(refine gMove ?_;refine st (ok_move rfl) rfl rfl ?_)|(refine gAssign ?_;refine st (ok_assign rfl) rfl rfl ?_)|(refine gFA ?_;refine st (ok_fieldAddr rfl) rfl rfl ?_)|(refine gLoad ?_;refine st (ok_load rfl (by rfl)) rfl rfl ?_)|(refine gBin ?_;refine st (ok_bin rfl rfl rfl) rfl rfl ?_)|(refine gLen ?_;refine st (ok_len rfl) rfl rfl ?_)|(refine gPick ?_;refine st (ok_pickFA rfl rfl) rfl rfl ?_)|(refine gNot ?_;refine st (ok_notD rfl) rfl rfl ?_)|(refine gMkF ?_;refine st (ok_makeFunc rfl rfl) rfl rfl ?_)|(refine gCall ?_;refine st (ok_call rfl rfl rfl (by exact hwi)) rfl rfl ?_)|(refine gBox ?_;refine st (ok_box rfl) rfl rfl ?_))|(refine gG ?_;first|(refine gFA ?_;refine stGA rfl (ok_fieldAddr rfl) rfl rfl ?_)|(refine gLoad ?_;refine stGA rfl (ok_load rfl (by rfl)) rfl rfl ?_)|(refine gBin ?_;refine stGA rfl (ok_bin rfl rfl rfl) rfl rfl ?_)|(refine gLen ?_;refine stGA rfl (ok_len rfl) rfl rfl ?_))|refine W_seq ?_|refine W_region ?_|refine st_nil ?_|refine tq_n ?_|refine tq_r ?_|refine bq_r ?_|refine W_ret ?_|refine W_block ?_|refine W_condTA rfl ?_|refine W_condFA rfl ?_)
  exact ret0 (.tmp rfl .nil) (.plain rfl rfl) ⟨rfl,rfl⟩
 refine acall_intro 3 84 Try.func21 rfl rfl rfl rfl rfl ?_
 repeat' (first|(refine gU ?_;first|(refine gMove ?_;refine st (ok_move rfl) rfl rfl ?_)|(refine gAssign ?_;refine st (ok_assign rfl) rfl rfl ?_)|(refine gFA ?_;refine st (ok_fieldAddr rfl) rfl rfl ?_)|(refine gLoad ?_;refine st (ok_load rfl (by rfl)) rfl rfl ?_)|(refine gBin ?_;refine st (ok_bin rfl rfl rfl) rfl rfl ?_)|(refine gLen ?_;refine st (ok_len rfl) rfl rfl ?_)|(refine gPick ?_;refine st (ok_pickFA rfl rfl) rfl rfl ?_)|(refine gNot ?_;refine st (ok_notD rfl) rfl rfl ?_)|(refine gMkF ?_;refine st (ok_makeFunc rfl rfl) rfl rfl ?_)|(refine gCall ?_;refine st (ok_call rfl rfl rfl (by exact hwi)) rfl rfl ?_)|(refine gBox ?_;refine st (ok_box rfl) rfl rfl ?_))|(refine gG ?_;first|(refine gFA ?_;refine stGA rfl (ok_fieldAddr rfl) rfl rfl ?_)|(refine gLoad ?_;refine stGA rfl (ok_load rfl (by rfl)) rfl rfl ?_)|(refine gBin ?_;refine stGA rfl (ok_bin rfl rfl rfl) rfl rfl ?_)|(refine gLen ?_;refine stGA rfl (ok_len rfl) rfl rfl ?_))|refine W_seq ?_|refine W_region ?_|refine st_nil ?_|refine tq_n ?_|refine bq_n ?_|refine W_skip ?_|refine W_block ?_|refine W_condFA rfl ?_)
 refine W_loopS (ι:=Nat) (fun i=>[(1,.pointer (some ⟨3,0,none⟩)),(3,.func (.func 57) #[] #[.pointer (some ⟨3,0,none⟩)]),(38,sl 1 S.f.length),(39,.int .i64 (S.f.length:Int)),(40,.int .i64 (i:Int))])
  (fun _=>[.ro (ints S.d),.ro (pc S.f),.ro (ints S.s),.rw (shL 0 1 2 S)]) (fun i=>S.f.length - i) (fun i=>i≤S.f.length∧∀ j,j<i→okP S j) 0 (by simp) (.same ⟨rfl,rfl,rfl,rfl,rfl,trivial⟩) ⟨by omega,fun j h=>by omega⟩ ?_
 intro i ⟨hi',hall⟩
 by_cases hil:i<S.f.length
 ·have hd2:cellsAt [.ro (ints S.d),.ro (pc S.f),.ro (ints S.s),.rw (shL 0 1 2 S)] 1 (0+i*2) 2=some [.int .i64 (gf S.f i).1,.int .i64 (gf S.f i).2]:=pc_cells (.inl rfl) hil
  have hw1:=work57_ev (σ:=[.ro (ints S.d),.ro (pc S.f),.ro (ints S.s),.rw (shL 0 1 2 S),.rw [.int .i64 (gf S.f i).1,.int .i64 (gf S.f i).2]]) (S:=S) (n:=(gf S.f i).1) (p:=3) (x:=0) (y:=1) (z:=2) ⟨.inl rfl,.inl rfl,.inl rfl⟩ (.inr (.inl rfl)) hS rfl
  have hw2:=work57_ev (σ:=[.ro (ints S.d),.ro (pc S.f),.ro (ints S.s),.rw (shL 0 1 2 S),.rw [.int .i64 (gf S.f i).1,.int .i64 (gf S.f i).2]]) (S:=S) (n:=(gf S.f i).2) (p:=3) (x:=0) (y:=1) (z:=2) ⟨.inl rfl,.inl rfl,.inl rfl⟩ (.inr (.inl rfl)) hS rfl
  have hh:=has59_ev (σ:=[.ro (ints S.d),.ro (pc S.f),.ro (ints S.s),.rw (shL 0 1 2 S),.rw [.int .i64 (gf S.f i).1,.int .i64 (gf S.f i).2]]) (f:=S.f.take i) (p:=gf S.f i) (x:=1) (o:=0) (c:=S.f.length) (n:=i) (by rw [List.length_take];omega) (prt_take (.inl rfl) hi') (by rw [List.length_take];omega) rfl
  by_cases b1:isW S (gf S.f i).1
  case neg =>
   have e:shopE S=2:=by unfold shopE;rw [if_neg e0,if_neg e1,if_neg (fun h=>b1 (h.1 i hil).1)]
   rw [e]
   repeat' (first|(refine gU ?_;first|(refine gMove ?_;refine st (ok_move rfl) rfl rfl ?_)|(refine gAssign ?_;refine st (ok_assign rfl) rfl rfl ?_)|(refine gLoad ?_;refine st (ok_loadA rfl (by assumption)) rfl rfl ?_)|(refine gBin ?_;refine st (ok_bin rfl rfl rfl) rfl rfl ?_)|(refine gIA ?_;refine st (ok_idxSN rfl rfl (by omega)) rfl rfl ?_)|(refine gAlloc ?_;refine st (ok_alloc rfl) rfl rfl ?_)|(refine gStore ?_;refine stN (ok_store rfl rfl rfl rfl (by rfl)) rfl ?_))|(refine fU ?_;first|(refine fMove ?_;refine frA (ok_move rfl) rfl ?_)|(refine fLoad ?_;refine frA (ok_load rfl (by rfl)) rfl ?_)|(refine fPick ?_;refine frA (ok_pickTA rfl rfl) rfl ?_)|(refine fNot ?_;refine frA (ok_notD rfl) rfl ?_)|(refine fIA ?_;refine frA (ok_idxA rfl rfl (by omega) (by omega)) rfl ?_)|(refine fCall ?_;refine frA (ok_call rfl rfl rfl (by exact hw1)) rfl ?_))|(refine fG ?_;refine frSA rfl rfl ?_)|(refine fr_stop ⟨by kernel_rfl,?_⟩)|refine W_seq ?_|refine W_region ?_|refine W_regionD (by kernel_rfl) rfl ?_|refine st_nil ?_|refine tq_n ?_|refine tq_r ?_|refine bq_r ?_|refine W_skip ?_|refine W_ret ?_|refine W_block ?_|refine W_condTA rfl ?_)
   exact ret0 (.tmp rfl .nil) (.plain rfl rfl) ⟨rfl,rfl⟩
  by_cases b2:isW S (gf S.f i).2
  case neg =>
   have e:shopE S=2:=by unfold shopE;rw [if_neg e0,if_neg e1,if_neg (fun h=>b2 (h.1 i hil).2.1)]
   rw [e]
   repeat' (first|(refine gU ?_;first|(refine gMove ?_;refine st (ok_move rfl) rfl rfl ?_)|(refine gAssign ?_;refine st (ok_assign rfl) rfl rfl ?_)|(refine gLoad ?_;refine st (ok_loadA rfl (by assumption)) rfl rfl ?_)|(refine gBin ?_;refine st (ok_bin rfl rfl rfl) rfl rfl ?_)|(refine gIA ?_;refine st (ok_idxSN rfl rfl (by omega)) rfl rfl ?_)|(refine gAlloc ?_;refine st (ok_alloc rfl) rfl rfl ?_)|(refine gStore ?_;refine stN (ok_store rfl rfl rfl rfl (by rfl)) rfl ?_))|(refine fU ?_;first|(refine fMove ?_;refine frA (ok_move rfl) rfl ?_)|(refine fLoad ?_;refine frA (ok_load rfl (by rfl)) rfl ?_)|(refine fPick ?_;first|refine frA (ok_pickTA rfl rfl) rfl ?_|refine frA (ok_pickFA rfl rfl) rfl ?_)|(refine fNot ?_;refine frA (ok_notD rfl) rfl ?_)|(refine fIA ?_;refine frA (ok_idxA rfl rfl (by omega) (by omega)) rfl ?_)|(refine fCall ?_;refine frA (ok_call rfl rfl rfl (by exact hw1)) rfl ?_))|(refine fG ?_;first|(refine fMove ?_;refine frGA rfl (ok_move rfl) rfl ?_)|(refine fLoad ?_;refine frGA rfl (ok_load rfl (by rfl)) rfl ?_)|(refine fNot ?_;refine frGA rfl (ok_notD rfl) rfl ?_)|(refine fIA ?_;refine frGA rfl (ok_idxA rfl rfl (by omega) (by omega)) rfl ?_)|(refine fCall ?_;refine frGA rfl (ok_call rfl rfl rfl (by exact hw2)) rfl ?_)|refine frSA rfl rfl ?_)|(refine fr_stop ⟨by kernel_rfl,?_⟩)|refine W_seq ?_|refine W_region ?_|refine W_regionD (by kernel_rfl) rfl ?_|refine st_nil ?_|refine tq_n ?_|refine tq_r ?_|refine bq_r ?_|refine W_skip ?_|refine W_ret ?_|refine W_block ?_|refine W_condTA rfl ?_)
   exact ret0 (.tmp rfl .nil) (.plain rfl rfl) ⟨rfl,rfl⟩
  by_cases b3:gf S.f i ∈ S.f.take i
  ·have e:shopE S=2:=by unfold shopE;rw [if_neg e0,if_neg e1,if_neg (fun h=>by obtain ⟨k,h1,h2⟩:=(mem_take hi').1 b3;exact (h.1 i hil).2.2 k h1 h2)]
   rw [e]
   repeat' (first|(refine gU ?_;first|(refine gMove ?_;refine st (ok_move rfl) rfl rfl ?_)|(refine gAssign ?_;refine st (ok_assign rfl) rfl rfl ?_)|(refine gLoad ?_;refine st (ok_loadA rfl (by assumption)) rfl rfl ?_)|(refine gBin ?_;refine st (ok_bin rfl rfl rfl) rfl rfl ?_)|(refine gIA ?_;refine st (ok_idxSN rfl rfl (by omega)) rfl rfl ?_)|(refine gAlloc ?_;refine st (ok_alloc rfl) rfl rfl ?_)|(refine gStore ?_;refine stN (ok_store rfl rfl rfl rfl (by rfl)) rfl ?_))|(refine fU ?_;first|(refine fMove ?_;refine frA (ok_move rfl) rfl ?_)|(refine fLoad ?_;refine frA (ok_load rfl (by rfl)) rfl ?_)|(refine fPick ?_;refine frA (ok_pickFA rfl rfl) rfl ?_)|(refine fNot ?_;refine frA (ok_notD rfl) rfl ?_)|(refine fIA ?_;refine frA (ok_idxA rfl rfl (by omega) (by omega)) rfl ?_)|(refine fCall ?_;refine frA (ok_call rfl rfl rfl (by exact hw1)) rfl ?_))|(refine fG ?_;first|(refine fMove ?_;refine frGA rfl (ok_move rfl) rfl ?_)|(refine fFA ?_;refine frGA rfl (ok_fieldAddr rfl) rfl ?_)|(refine fLoad ?_;first|refine frGA rfl (ok_load rfl (by rfl)) rfl ?_|refine frGA rfl (ok_loadA rfl (by rfl)) rfl ?_)|(refine fNot ?_;refine frGA rfl (ok_notD rfl) rfl ?_)|(refine fIA ?_;refine frGA rfl (ok_idxA rfl rfl (by omega) (by omega)) rfl ?_)|(refine fSlice ?_;refine frGA rfl (ok_sliceH rfl rfl (by omega)) rfl ?_)|(refine fCall ?_;refine frGA rfl (ok_call rfl rfl rfl (by first|exact hw2|exact hh)) rfl ?_))|(refine fr_stop ⟨by kernel_rfl,?_⟩)|refine W_seq ?_|refine W_region ?_|refine W_regionD (by kernel_rfl) rfl ?_|refine st_nil ?_|refine tq_n ?_|refine tq_r ?_|refine bq_r ?_|refine W_skip ?_|refine W_ret ?_|refine W_block ?_|refine W_condTA rfl ?_)
   exact ret0 (.tmp rfl .nil) (.plain rfl rfl) ⟨rfl,rfl⟩
  ·repeat' (first|(refine gU ?_;first|(refine gMove ?_;refine st (ok_move rfl) rfl rfl ?_)|(refine gAssign ?_;refine st (ok_assign rfl) rfl rfl ?_)|(refine gLoad ?_;refine st (ok_loadA rfl (by assumption)) rfl rfl ?_)|(refine gAdd ?_;refine st (ok_inc rfl rfl (by omega)) rfl rfl ?_)|(refine gBin ?_;refine st (ok_bin rfl rfl rfl) rfl rfl ?_)|(refine gIA ?_;refine st (ok_idxSN rfl rfl (by omega)) rfl rfl ?_)|(refine gAlloc ?_;refine st (ok_alloc rfl) rfl rfl ?_)|(refine gStore ?_;refine stN (ok_store rfl rfl rfl rfl (by rfl)) rfl ?_))|(refine fU ?_;first|(refine fMove ?_;refine frA (ok_move rfl) rfl ?_)|(refine fLoad ?_;refine frA (ok_load rfl (by rfl)) rfl ?_)|(refine fPick ?_;refine frA (ok_pickFA rfl rfl) rfl ?_)|(refine fNot ?_;refine frA (ok_notD rfl) rfl ?_)|(refine fIA ?_;refine frA (ok_idxA rfl rfl (by omega) (by omega)) rfl ?_)|(refine fCall ?_;refine frA (ok_call rfl rfl rfl (by exact hw1)) rfl ?_))|(refine fG ?_;first|(refine fMove ?_;refine frGA rfl (ok_move rfl) rfl ?_)|(refine fFA ?_;refine frGA rfl (ok_fieldAddr rfl) rfl ?_)|(refine fLoad ?_;first|refine frGA rfl (ok_load rfl (by rfl)) rfl ?_|refine frGA rfl (ok_loadA rfl (by rfl)) rfl ?_)|(refine fNot ?_;refine frGA rfl (ok_notD rfl) rfl ?_)|(refine fIA ?_;refine frGA rfl (ok_idxA rfl rfl (by omega) (by omega)) rfl ?_)|(refine fSlice ?_;refine frGA rfl (ok_sliceH rfl rfl (by omega)) rfl ?_)|(refine fCall ?_;refine frGA rfl (ok_call rfl rfl rfl (by first|exact hw2|exact hh)) rfl ?_))|(refine fr_stop ⟨by kernel_rfl,?_⟩)|refine W_seq ?_|refine W_region ?_|refine W_regionD (by kernel_rfl) rfl ?_|refine st_nil ?_|refine tq_n ?_|refine bq_n ?_|refine W_skip ?_|refine W_block ?_|refine W_condTA rfl ?_|refine W_condFA rfl ?_)
   refine ⟨rfl,i+1,⟨by omega,fun j hj=>?_⟩,by omega,StRef.drop [.ro (ints S.d),.ro (pc S.f),.ro (ints S.s),.rw (shL 0 1 2 S)] _ (by simp) (hc4 S) (by (repeat' (first|exact trivial|exact ⟨rfl,rfl,rfl⟩|exact ⟨rfl,closed_slice rfl,rfl⟩|refine ⟨?_,?_⟩)))⟩
   by_cases hji:j=i
   ·subst hji;exact ⟨b1,b2,fun k hk hq=>b3 ((mem_take hi').2 ⟨k,hk,hq⟩)⟩
   ·exact hall j (by omega)
 have hF:okF S:=fun j hj=>hall j (by omega)
 repeat' (first|(refine gU ?_;first|(refine gMove ?_;refine st (ok_move rfl) rfl rfl ?_)|(refine gAssign ?_;refine st (ok_assign rfl) rfl rfl ?_)|(refine gFA ?_;refine st (ok_fieldAddr rfl) rfl rfl ?_)|(refine gLoad ?_;refine st (ok_load rfl (by rfl)) rfl rfl ?_)|(refine gBin ?_;refine st (ok_bin rfl rfl rfl) rfl rfl ?_)|(refine gLen ?_;refine st (ok_len rfl) rfl rfl ?_))|refine W_seq ?_|refine W_region ?_|refine st_nil ?_|refine tq_n ?_|refine tq_e ?_|refine bq_hit rfl ?_|refine W_exit ?_|refine W_block ?_|refine W_condFA rfl ?_)
 refine W_loopS (ι:=Nat) (fun i=>[(1,.pointer (some ⟨3,0,none⟩)),(3,.func (.func 57) #[] #[.pointer (some ⟨3,0,none⟩)]),(6,.int .i64 (if i=0 then -1 else gi S.s (i - 1))),(67,sl 2 S.s.length),(68,.int .i64 (S.s.length:Int)),(69,.int .i64 (i:Int))])
  (fun _=>[.ro (ints S.d),.ro (pc S.f),.ro (ints S.s),.rw (shL 0 1 2 S)]) (fun i=>S.s.length - i) (fun i=>i≤S.s.length∧∀ j,j<i→okQ S j) 0 (by simp) (.same ⟨rfl,rfl,rfl,rfl,rfl,rfl,trivial⟩) ⟨by omega,fun j h=>by omega⟩ ?_
 clear hil hall hi' i
 intro i ⟨hi',hall⟩
 by_cases hil:i<S.s.length
 ·have hcd:cellGet [.ro (ints S.d),.ro (pc S.f),.ro (ints S.s),.rw (shL 0 1 2 S)] 2 i=some (.int .i64 (gi S.s i)):=ints_get hil
  have hw1:=work57_ev (σ:=[.ro (ints S.d),.ro (pc S.f),.ro (ints S.s),.rw (shL 0 1 2 S)]) (S:=S) (n:=gi S.s i) (p:=3) (x:=0) (y:=1) (z:=2) ⟨.inl rfl,.inl rfl,.inl rfl⟩ (.inr (.inl rfl)) hS rfl
  generalize hL:(if i=0 then -1 else gi S.s (i - 1))=L
  have hQ0:okQ S i↔isW S (gi S.s i)∧¬ gi S.s i≤L:=by
   subst hL
   by_cases h0:i=0
   ·rw [if_pos h0];exact ⟨fun h=>⟨h.1,by have:=h.1.1;omega⟩,fun h=>⟨h.1,.inl h0⟩⟩
   ·rw [if_neg h0];exact ⟨fun h=>⟨h.1,by have:=h.2;omega⟩,fun h=>⟨h.1,.inr (by have:=h.2;omega)⟩⟩
  by_cases b1:gi S.s i≤L
  ·have e:shopE S=2:=by unfold shopE;rw [if_neg e0,if_neg e1,if_neg (fun h=>(hQ0.1 (h.2.1 i hil)).2 b1)]
   rw [e]
   repeat' (first|(refine gU ?_;first|(refine gMove ?_;refine st (ok_move rfl) rfl rfl ?_)|(refine gAssign ?_;refine st (ok_assign rfl) rfl rfl ?_)|(refine gLoad ?_;refine st (ok_load rfl (by assumption)) rfl rfl ?_)|(refine gBin ?_;refine st (ok_bin rfl rfl rfl) rfl rfl ?_)|(refine gPick ?_;refine st (ok_pickTA rfl rfl) rfl rfl ?_)|(refine gIA ?_;refine st (ok_idxN rfl rfl (by omega)) rfl rfl ?_))|(refine gG ?_;refine stSA rfl rfl ?_)|refine W_seq ?_|refine W_region ?_|refine st_nil ?_|refine tq_n ?_|refine tq_r ?_|refine bq_r ?_|refine W_skip ?_|refine W_ret ?_|refine W_block ?_|refine W_condTA rfl ?_)
   exact ret0 (.tmp rfl .nil) (.plain rfl rfl) ⟨rfl,rfl⟩
  by_cases b2:isW S (gi S.s i)
  ·repeat' (first|(refine gU ?_;first|(refine gMove ?_;refine st (ok_move rfl) rfl rfl ?_)|(refine gAssign ?_;refine st (ok_assign rfl) rfl rfl ?_)|(refine gLoad ?_;refine st (ok_load rfl (by assumption)) rfl rfl ?_)|(refine gAdd ?_;refine st (ok_inc rfl rfl (by omega)) rfl rfl ?_)|(refine gBin ?_;refine st (ok_bin rfl rfl rfl) rfl rfl ?_)|(refine gPick ?_;refine st (ok_pickFA rfl rfl) rfl rfl ?_)|(refine gIA ?_;refine st (ok_idxN rfl rfl (by omega)) rfl rfl ?_))|(refine gG ?_;first|(refine gMove ?_;refine stGA rfl (ok_move rfl) rfl rfl ?_)|(refine gNot ?_;refine stGA rfl (ok_notD rfl) rfl rfl ?_)|(refine gCall ?_;refine stGA rfl (ok_call rfl rfl rfl (by exact hw1)) rfl rfl ?_))|refine W_seq ?_|refine W_region ?_|refine st_nil ?_|refine tq_n ?_|refine bq_n ?_|refine W_skip ?_|refine W_block ?_|refine W_condTA rfl ?_|refine W_condFA rfl ?_)
   refine ⟨rfl,i+1,⟨by omega,fun j hj=>?_⟩,by omega,.same ⟨rfl,rfl,rfl,rfl,rfl,rfl,trivial⟩⟩
   by_cases hji:j=i
   ·subst hji;exact hQ0.2 ⟨b2,b1⟩
   ·exact hall j (by omega)
  ·have e:shopE S=2:=by unfold shopE;rw [if_neg e0,if_neg e1,if_neg (fun h=>b2 (h.2.1 i hil).1)]
   rw [e]
   repeat' (first|(refine gU ?_;first|(refine gMove ?_;refine st (ok_move rfl) rfl rfl ?_)|(refine gAssign ?_;refine st (ok_assign rfl) rfl rfl ?_)|(refine gLoad ?_;refine st (ok_load rfl (by assumption)) rfl rfl ?_)|(refine gBin ?_;refine st (ok_bin rfl rfl rfl) rfl rfl ?_)|(refine gPick ?_;refine st (ok_pickFA rfl rfl) rfl rfl ?_)|(refine gIA ?_;refine st (ok_idxN rfl rfl (by omega)) rfl rfl ?_))|(refine gG ?_;first|(refine gMove ?_;refine stGA rfl (ok_move rfl) rfl rfl ?_)|(refine gNot ?_;refine stGA rfl (ok_notD rfl) rfl rfl ?_)|(refine gCall ?_;refine stGA rfl (ok_call rfl rfl rfl (by exact hw1)) rfl rfl ?_))|refine W_seq ?_|refine W_region ?_|refine st_nil ?_|refine tq_n ?_|refine tq_r ?_|refine bq_r ?_|refine W_skip ?_|refine W_ret ?_|refine W_block ?_|refine W_condTA rfl ?_)
   exact ret0 (.tmp rfl .nil) (.plain rfl rfl) ⟨rfl,rfl⟩
 have hQ:okS S:=fun j hj=>hall j (by omega)
 have e:shopE S=0:=by unfold shopE;rw [if_neg e0,if_neg e1,if_pos ⟨hF,hQ,by omega⟩]
 rw [e]
 repeat' (first|(refine gU ?_;first|(refine gAssign ?_;refine st (ok_assign rfl) rfl rfl ?_)|(refine gBin ?_;refine st (ok_bin rfl rfl rfl) rfl rfl ?_))|refine W_seq ?_|refine W_region ?_|refine st_nil ?_|refine tq_n ?_|refine tq_e ?_|refine bq_hit rfl ?_|refine W_exit ?_|refine W_ret ?_|refine W_condFA rfl ?_)
 exact ret0 (.tmp rfl .nil) (.plain rfl rfl) ⟨rfl,rfl⟩
theorem shop_ev {σ:Heap} {S:Shp} {x y z:Nat} {v:Value} (h:SAt σ x y z S) (hv:ShS x y z S v) (hS:S.fit) (hni:σ.all (fun o=>!isIter o)=true) :
  Ev Try.prog 21 [v] σ (.int .i64 (shopE S)) σ:=Ev.arrs S.css [x,y,z] (shop_ok S hS) h.arrs ⟨hv,trivial⟩ S.css_plain rfl hni
end Go.Proofs.Ytomioaiojidnbaa
namespace Go.AH.Dust
open Go Go.AH
def rx (r:Nat→Int):List Value:=[.int .i64 (r 0),.int .i64 (r 1),.int .i64 (r 2),.int .i64 (r 3),.int .i64 (r 4),.int .i64 (r 5),.int .i64 (r 6),.int .i64 (r 7),.int .i64 (r 8),.int .i64 (r 9)]
theorem rx_congr {f g:Nat→Int} (h:∀ j<10,f j=g j):rx f=rx g:=by
 simp only [rx,h 0 (by omega),h 1 (by omega),h 2 (by omega),h 3 (by omega),h 4 (by omega),h 5 (by omega),h 6 (by omega),h 7 (by omega),h 8 (by omega),h 9 (by omega)]
theorem rx_plain (f:Nat→Int):plainL (rx f)=true:=rfl
theorem rx_get {f:Nat→Int}:∀ {b:Nat},b<10→(rx f)[b]?=some (.int .i64 (f b))
 |0,_=>rfl|1,_=>rfl|2,_=>rfl|3,_=>rfl|4,_=>rfl|5,_=>rfl|6,_=>rfl|7,_=>rfl|8,_=>rfl|9,_=>rfl
theorem rx_at (f:Nat→Int):IntsAt f 10 (rx f).toArray:=fun _i hi=>rx_get hi
def setI (f:Nat→Int) (b:Nat) (v:Int) (i:Nat):Int:=if i=b then v else f i
theorem rx_set {f:Nat→Int} {v:Int}:∀ {b:Nat},b<10→splice (rx f) b [.int .i64 v]=rx (setI f b v)
 |0,_=>rfl|1,_=>rfl|2,_=>rfl|3,_=>rfl|4,_=>rfl|5,_=>rfl|6,_=>rfl|7,_=>rfl|8,_=>rfl|9,_=>rfl
abbrev flL (x y z:Nat) (S:Shp) (r:Nat→Int):List Value:=sl x S.d.length::sl y S.f.length::sl z S.s.length::rx r
theorem fl_set {x y z:Nat} {S:Shp} {f:Nat→Int} {v:Int}:∀ {b:Nat},b<10→splice (flL x y z S f) (3+b) [.int .i64 v]=flL x y z S (setI f b v)
 |0,_=>rfl|1,_=>rfl|2,_=>rfl|3,_=>rfl|4,_=>rfl|5,_=>rfl|6,_=>rfl|7,_=>rfl|8,_=>rfl|9,_=>rfl
theorem fl_get {x y z:Nat} {S:Shp} {f:Nat→Int}:∀ {b:Nat},b<10→(flL x y z S f)[3+b]?=some (.int .i64 (f b))
 |0,_=>rfl|1,_=>rfl|2,_=>rfl|3,_=>rfl|4,_=>rfl|5,_=>rfl|6,_=>rfl|7,_=>rfl|8,_=>rfl|9,_=>rfl
theorem bI_inj {a b:Bool} (h:bI a=bI b):a=b:=by cases a <;> cases b <;> simp_all [bI]
def setB (r:Nat→Bool) (b:Nat) (v:Bool) (i:Nat):Bool:=if i=b then v else r i
theorem setB_bI (r:Nat→Bool) (b:Nat) (v:Bool):setI (fun i=>bI (r i)) b (bI v)=fun i=>bI (setB r b v i):=by
 funext i;unfold setI setB;by_cases h:i=b
 ·rw [if_pos h,if_pos h]
 ·rw [if_neg h,if_neg h]
inductive Rch (S:Shp):Int→Prop
 |first {n:Int} (h:n ∈ S.s):Rch S n
 |next {a b:Int} (h:Rch S a) (hf:(a,b) ∈ S.f):Rch S b
open Classical in
noncomputable def rB (S:Shp) (i:Nat):Bool:=decide (Rch S i)
theorem rB_iff {S:Shp} {i:Nat}:rB S i=true↔Rch S i:=by unfold rB;exact @decide_eq_true_iff _ (Classical.propDecidable _)
theorem ok_fst {S:Shp} (h:S.ok) {n:Int} (hn:n ∈ S.s):isW S n:=by
 obtain ⟨i,h1,h2⟩:=mem_gi.1 hn
 rw [← h2];exact (h.s i h1).1
theorem ok_pair {S:Shp} (h:S.ok) {a b:Int} (hn:(a,b) ∈ S.f):isW S a∧isW S b:=by
 obtain ⟨i,h1,h2⟩:=mem_gf.1 hn
 obtain ⟨u,v,-⟩:=h.f i h1
 rw [h2] at u v;exact ⟨u,v⟩
theorem rch_work {S:Shp} (h:S.ok) {n:Int} (hr:Rch S n):isW S n:=by
 cases hr with
 |first hn=>exact ok_fst h hn
 |next _ hf=>exact (ok_pair h hf).2
theorem rB_of {S:Shp} (_hS:S.ok) {r:Nat→Bool} (h1:∀ i,r i=true→Rch S i) (h2:∀ n ∈ S.s,r n.toNat=true) (h3:∀ p ∈ S.f,r p.1.toNat=true→r p.2.toNat=true):r=rB S:=by
 have key:∀ n:Int,Rch S n→r n.toNat=true:=fun n hn=>by
  induction hn with
  |first h=>exact h2 _ h
  |next h hf ih=>exact h3 _ hf ih
 funext i
 cases hb:rB S i with
 |true=>simpa using key i (rB_iff.1 hb)
 |false =>
  cases hr:r i with
  |false=>rfl
  |true=>rw [rB_iff.2 (h1 i hr)] at hb;cases hb
def cntB (r:Nat→Bool):Nat→Nat
 |0=>0
 |k+1=>cntB r k+if r k then 1 else 0
theorem cntB_le (r:Nat→Bool):∀ k,cntB r k≤k
 |0=>Nat.le_refl _
 |k+1=>by have:=cntB_le r k;simp only [cntB];split <;> omega
theorem cntB_mono {r q:Nat→Bool} (h:∀ i,r i=true→q i=true):∀ k,cntB r k≤cntB q k
 |0=>Nat.le_refl _
 |k+1=>by
  have ih:=cntB_mono h k
  simp only [cntB]
  cases hr:r k with
  |false=>simp;omega
  |true=>rw [h k hr];omega
theorem cntB_lt {r q:Nat→Bool} (h:∀ i,r i=true→q i=true):∀ {k i},i<k→r i ≠ q i→cntB r k<cntB q k
 |0,_,hi,_=>by omega
 |k+1,i,hi,hne=>by
  simp only [cntB]
  by_cases hik:i=k
  ·subst hik
   have hm:=cntB_mono h i
   cases hr:r i with
   |false =>
    cases hq:q i with
    |false=>rw [hr,hq] at hne;exact absurd rfl hne
    |true=>simp;omega
   |true=>rw [hr,h i hr] at hne;exact absurd rfl hne
  ·have ih:=cntB_lt h (k:=k) (i:=i) (by omega) hne
   cases hr:r k with
   |false=>simp;omega
   |true=>rw [h k hr];omega
theorem hc5 (S:Shp) (f:Nat→Int):HClosed 5 [.ro (ints S.d),.ro (pc S.f),.ro (ints S.s),.rw (shL 0 1 2 S),.rw (flL 0 1 2 S f)]:=by
 obtain ⟨a,b⟩:=shL_closed (n:=5) (x:=0) (y:=1) (z:=2) (S:=S) (by omega) (by omega) (by omega)
 refine ⟨plainL_closed (ints_plain _),plainL_closed (pc_plain _),plainL_closed (ints_plain _),⟨a,b⟩,?_,trivial⟩
 simp only [closedL,okL,Bool.and_eq_true] at a b
 exact ⟨by simp only [closedL,a,Bool.true_and];exact (plainL_closed (rx_plain f)).1,by simp only [okL,b,Bool.true_and];exact (plainL_closed (n:=0) (rx_plain f)).2⟩
theorem hc6 (S:Shp) (f g:Nat→Int):HClosed 6 [.ro (ints S.d),.ro (pc S.f),.ro (ints S.s),.rw (shL 0 1 2 S),.rw (flL 0 1 2 S f),.rw (rx g)]:=by
 obtain ⟨a,b⟩:=shL_closed (n:=6) (x:=0) (y:=1) (z:=2) (S:=S) (by omega) (by omega) (by omega)
 refine ⟨plainL_closed (ints_plain _),plainL_closed (pc_plain _),plainL_closed (ints_plain _),⟨a,b⟩,?_,plainL_closed (rx_plain _),trivial⟩
 simp only [closedL,okL,Bool.and_eq_true] at a b
 exact ⟨by simp only [closedL,a,Bool.true_and];exact (plainL_closed (rx_plain f)).1,by simp only [okL,b,Bool.true_and];exact (plainL_closed (n:=0) (rx_plain f)).2⟩
theorem osub_fl {σ:Heap} {n i p:Nat} {π:Rho} {S:Shp} {f:Nat→Int} (hi:π i=⟨p,0,0⟩) (h:σ[p]?=some (.rw (flL 0 1 2 S f))) (hπ:∀ i<3,π i=⟨i,0,0⟩) (hn:3≤n):OSub σ n π (π i) (.rw (flL 0 1 2 S f)):=by
 refine .inr ⟨by rw [hi],flL 0 1 2 S f,.inl (by rw [hi];exact h),Nat.le_refl _,fun a ha ha'=>?_⟩
 match a,ha with
 |0,_=>exact vsub_sl (by omega) (hπ 0 (by omega)) (Nat.le_refl _)
 |1,_=>exact vsub_sl (by omega) (hπ 1 (by omega)) (Nat.le_refl _)
 |2,_=>exact vsub_sl (by omega) (hπ 2 (by omega)) (Nat.le_refl _)
 |a+3,ha=>exact vrel_plainL _ (rx_plain f) a (by simpa using ha)
end Go.AH.Dust
namespace Go.Proofs.Ytomioaiojidnbaa
open Go Go.AH
attribute [local irreducible] WOps WCode WFree retQ thenQ blockQ scopeQ OpOk ACall RetRef roundA roundB
set_option maxRecDepth 100000
set_option maxHeartbeats 1000000
open Go.AH.Dust
theorem newFloor_ok (S:Shp) (hS:S.ok):Ev Try.prog 77 [shV 0 1 2 S] S.hp (.pointer (some ⟨3,0,none⟩)) (S.hp++[.rw (flL 0 1 2 S (fun i=>bI (rB S i)))]):=by
 have n1:=hS.n10
 have n2:=hS.f60
 have n3:=hS.s10
 refine acall_intro 3 66 Try.func77 rfl rfl rfl rfl rfl ?_
 repeat' (first|(refine gU ?_;first|(refine gMove ?_;refine st (ok_move rfl) rfl rfl ?_)|(refine gAssign ?_;refine st (ok_assign rfl) rfl rfl ?_)|(refine gFA ?_;refine st (ok_fieldAddr rfl) rfl rfl ?_)|(refine gLoad ?_;first|refine st (ok_load rfl (by rfl)) rfl rfl ?_|refine st (ok_loadA rfl (by rfl)) rfl rfl ?_)|(refine gLen ?_;refine st (ok_len rfl) rfl rfl ?_)|(refine gNil ?_;refine st (ok_nilP rfl) rfl rfl ?_)|(refine gBuild ?_;refine st (ok_build (by rfl) rfl (by rfl)) rfl rfl ?_)|(refine gSlice ?_;refine st (ok_sliceA rfl) rfl rfl ?_)|(refine gBox ?_;refine st (ok_box rfl) rfl rfl ?_)|(refine gClear ?_;refine stN (ok_clear (by rfl) (by rfl) rfl (by omega) (by rfl) (by rfl)) rfl ?_))|refine W_seq ?_|refine W_region ?_|refine st_nil ?_|refine tq_n ?_|refine W_block ?_)
 refine W_loopS (ι:=Nat×(Nat→Bool)) (fun k=>[(1,.pointer (some ⟨3,0,none⟩)),(3,.pointer (some ⟨4,0,none⟩)),(17,sl 2 S.s.length),(18,.int .i64 (S.s.length:Int)),(19,.int .i64 (k.1:Int))])
  (fun k=>[.ro (ints S.d),.ro (pc S.f),.ro (ints S.s),.rw (shL 0 1 2 S),.rw (flL 0 1 2 S (fun i=>bI (k.2 i)))]) (fun k=>S.s.length - k.1) (fun k=>k.1≤S.s.length∧(∀ i,k.2 i=true→Rch S i)∧∀ j,j<k.1→k.2 (gi S.s j).toNat=true) (0,fun _=>false) (by simp) (.same ⟨rfl,rfl,rfl,rfl,rfl,trivial⟩) ⟨Nat.zero_le _,fun i (h:false=true)=>(by cases h),fun j (h:j<0)=>absurd h (Nat.not_lt_zero _)⟩ ?_
 rintro ⟨k,r⟩ ⟨hk,hr1,hr2⟩
 simp only at hk hr1 hr2 ⊢
 by_cases hkl:k<S.s.length
 ·have hcd:cellGet [.ro (ints S.d),.ro (pc S.f),.ro (ints S.s),.rw (shL 0 1 2 S),.rw (flL 0 1 2 S (fun i=>bI (r i)))] 2 k=some (.int .i64 (gi S.s k)):=ints_get hkl
  have hw:=(hS.s k hkl).1
  have hb:(gi S.s k).toNat<10:=by omega
  have hput:=putRw (σ:=[.ro (ints S.d),.ro (pc S.f),.ro (ints S.s),.rw (shL 0 1 2 S),.rw (flL 0 1 2 S (fun i=>bI (r i)))]) (b:=4) (o:=3+(gi S.s k).toNat*1) (cs':=flL 0 1 2 S (fun i=>bI (setB r (gi S.s k).toNat true i))) (vs:=[.int .i64 1]) rfl (by simp [flL,rx];omega) (by simp [flL]) (by rw [Nat.mul_one,← setB_bI];exact fl_set hb)
  repeat' (first|(refine gU ?_;first|(refine gMove ?_;refine st (ok_move rfl) rfl rfl ?_)|(refine gAssign ?_;refine st (ok_assign rfl) rfl rfl ?_)|(refine gFA ?_;refine st (ok_fieldAddr rfl) rfl rfl ?_)|(refine gLoad ?_;refine st (ok_load rfl (by assumption)) rfl rfl ?_)|(refine gAdd ?_;refine st (ok_inc rfl rfl (by omega)) rfl rfl ?_)|(refine gBin ?_;refine st (ok_bin rfl rfl rfl) rfl rfl ?_)|(refine gNil ?_;refine st (ok_nilP rfl) rfl rfl ?_)|(refine gIA ?_;first|refine st (ok_idxN rfl rfl (by omega)) rfl rfl ?_|refine st (ok_idxA rfl rfl (by omega) (by omega)) rfl rfl ?_)|(refine gStore ?_;refine stN (ok_store rfl rfl rfl rfl (by exact hput)) rfl ?_))|refine W_seq ?_|refine W_region ?_|refine st_nil ?_|refine tq_n ?_|refine bq_n ?_|refine W_skip ?_|refine W_block ?_|refine W_condTA rfl ?_)
  refine ⟨rfl,(k+1,setB r (gi S.s k).toNat true),⟨by simp only;omega,fun i hi=>?_,fun j hj=>?_⟩,by simp only;omega,.same ⟨rfl,rfl,rfl,rfl,rfl,trivial⟩⟩
  ·simp only [setB] at hi
   by_cases h:i=(gi S.s k).toNat
   ·have:(i:Int)=gi S.s k:=by omega
    rw [this];exact .first (mem_gi.2 ⟨k,hkl,rfl⟩)
   ·rw [if_neg h] at hi;exact hr1 i hi
  ·simp only [setB]
   by_cases h:(gi S.s j).toNat=(gi S.s k).toNat
   ·rw [if_pos h]
   ·rw [if_neg h];exact hr2 j (by
     simp only at hj
     by_cases hjk:j=k
     ·subst hjk;exact absurd rfl h
     ·omega)
 have hr3:∀ n ∈ S.s,r n.toNat=true:=fun n hn=>by
  obtain ⟨j,h1,h2⟩:=mem_gi.1 hn
  rw [← h2];exact hr2 j (by omega)
 repeat' (first|(refine gU ?_;(refine gBin ?_;refine st (ok_bin rfl rfl rfl) rfl rfl ?_))|refine W_seq ?_|refine W_region ?_|refine st_nil ?_|refine tq_n ?_|refine tq_e ?_|refine bq_hit rfl ?_|refine W_exit ?_|refine W_block ?_|refine W_condFA rfl ?_)
 refine W_loopS (ι:=Nat→Bool) (fun _=>[(1,.pointer (some ⟨3,0,none⟩)),(3,.pointer (some ⟨4,0,none⟩))])
  (fun r=>[.ro (ints S.d),.ro (pc S.f),.ro (ints S.s),.rw (shL 0 1 2 S),.rw (flL 0 1 2 S (fun i=>bI (r i)))]) (fun r=>10 - cntB r 10) (fun r=>(∀ i,r i=true→Rch S i)∧∀ n ∈ S.s,r n.toNat=true) r (by simp) (.same ⟨rfl,rfl,trivial⟩) ⟨hr1,hr3⟩ ?_
 clear hkl hr1 hr2 hr3 hk k r
 rintro r ⟨hr1,hr3⟩
 repeat' (first|(refine gU ?_;first|(refine gMove ?_;refine st (ok_move rfl) rfl rfl ?_)|(refine gFA ?_;refine st (ok_fieldAddr rfl) rfl rfl ?_)|(refine gLoad ?_;first|refine st (ok_load rfl (by rfl)) rfl rfl ?_|refine st (ok_loadA rfl (by rfl)) rfl rfl ?_)|(refine gLen ?_;refine st (ok_len rfl) rfl rfl ?_)|(refine gNil ?_;refine st (ok_nilP rfl) rfl rfl ?_)|(refine gAlloc ?_;refine st (ok_alloc rfl) rfl rfl ?_)|(refine gStore ?_;refine stN (ok_store rfl rfl rfl rfl (by rfl)) rfl ?_))|refine W_seq ?_|refine W_region ?_|refine st_nil ?_|refine tq_n ?_|refine W_block ?_)
 refine W_loopS (ι:=Nat×(Nat→Bool)) (fun k=>[(1,.pointer (some ⟨3,0,none⟩)),(3,.pointer (some ⟨4,0,none⟩)),(6,.pointer (some ⟨5,0,none⟩)),(34,sl 1 S.f.length),(35,.int .i64 (S.f.length:Int)),(36,.int .i64 (k.1:Int))])
  (fun k=>[.ro (ints S.d),.ro (pc S.f),.ro (ints S.s),.rw (shL 0 1 2 S),.rw (flL 0 1 2 S (fun i=>bI (k.2 i))),.rw (rx (fun i=>bI (r i)))]) (fun k=>S.f.length - k.1) (fun k=>k.1≤S.f.length∧(∀ i,k.2 i=true→Rch S i)∧(∀ i,r i=true→k.2 i=true)∧∀ j,j<k.1→r (gf S.f j).1.toNat=true→k.2 (gf S.f j).2.toNat=true) (0,r) (by simp) (.same ⟨rfl,rfl,rfl,rfl,rfl,rfl,trivial⟩) ⟨Nat.zero_le _,hr1,fun i h=>h,fun j (h:j<0)=>absurd h (Nat.not_lt_zero _)⟩ ?_
 rintro ⟨k,q⟩ ⟨hk,hq1,hq2,hq3⟩
 simp only at hk hq1 hq2 hq3 ⊢
 by_cases hkl:k<S.f.length
 ·have hd2:cellsAt [.ro (ints S.d),.ro (pc S.f),.ro (ints S.s),.rw (shL 0 1 2 S),.rw (flL 0 1 2 S (fun i=>bI (q i))),.rw (rx (fun i=>bI (r i)))] 1 (0+k*2) 2=some [.int .i64 (gf S.f k).1,.int .i64 (gf S.f k).2]:=pc_cells (.inl rfl) hkl
  obtain ⟨hw1,hw2,-⟩:=hS.f k hkl
  have hmem:gf S.f k ∈ S.f:=mem_gf.2 ⟨k,hkl,rfl⟩
  have hall:∀ j,j<k+1→j=k∨j<k:=fun j hj=>by omega
  generalize hgen:gf S.f k=p at *
  obtain ⟨a,b⟩:=p
  simp only at hw1 hw2
  have ha:a.toNat<10:=by omega
  have hb:b.toNat<10:=by omega
  have hc1:cellGet [.ro (ints S.d),.ro (pc S.f),.ro (ints S.s),.rw (shL 0 1 2 S),.rw (flL 0 1 2 S (fun i=>bI (q i))),.rw (rx (fun i=>bI (r i))),.rw [.int .i64 a,.int .i64 b]] 4 (3+a.toNat*1)=some (.int .i64 (bI (q a.toNat))):=by
   rw [Nat.mul_one];exact fl_get (f:=fun i=>bI (q i)) ha
  have hc2:cellGet [.ro (ints S.d),.ro (pc S.f),.ro (ints S.s),.rw (shL 0 1 2 S),.rw (flL 0 1 2 S (fun i=>bI (q i))),.rw (rx (fun i=>bI (r i))),.rw [.int .i64 a,.int .i64 b]] 4 (3+b.toNat*1)=some (.int .i64 (bI (q b.toNat))):=by
   rw [Nat.mul_one];exact fl_get (f:=fun i=>bI (q i)) hb
  have hput:=putRw (σ:=[.ro (ints S.d),.ro (pc S.f),.ro (ints S.s),.rw (shL 0 1 2 S),.rw (flL 0 1 2 S (fun i=>bI (q i))),.rw (rx (fun i=>bI (r i))),.rw [.int .i64 a,.int .i64 b]]) (b:=4) (o:=3+b.toNat*1) (cs':=flL 0 1 2 S (fun i=>bI (setB q b.toNat (q b.toNat || q a.toNat) i))) (vs:=[.int .i64 (bI (q b.toNat || q a.toNat))]) rfl (by simp [flL,rx];omega) (by simp [flL]) (by rw [Nat.mul_one,← setB_bI];exact fl_set hb)
  repeat' (first|(refine gU ?_;first|(refine gMove ?_;refine st (ok_move rfl) rfl rfl ?_)|(refine gLoad ?_;refine st (ok_loadA rfl (by assumption)) rfl rfl ?_)|(refine gAdd ?_;refine st (ok_inc rfl rfl (by omega)) rfl rfl ?_)|(refine gBin ?_;refine st (ok_bin rfl rfl rfl) rfl rfl ?_)|(refine gIA ?_;refine st (ok_idxSN rfl rfl (by omega)) rfl rfl ?_)|(refine gAlloc ?_;refine st (ok_alloc rfl) rfl rfl ?_)|(refine gStore ?_;refine stN (ok_store rfl rfl rfl rfl (by first|exact hput|rfl)) rfl ?_))|(refine fU ?_;first|refine frA (ok_orB rfl rfl) rfl ?_|(refine fMove ?_;refine frA (ok_move rfl) rfl ?_)|(refine fFA ?_;refine frA (ok_fieldAddr rfl) rfl ?_)|(refine fLoad ?_;refine frA (ok_load rfl (by first|rfl|assumption)) rfl ?_)|(refine fNil ?_;refine frA (ok_nilP rfl) rfl ?_)|(refine fIA ?_;refine frA (ok_idxA rfl rfl (by omega) (by omega)) rfl ?_))|(refine fr_stop ⟨by kernel_rfl,?_⟩)|refine W_seq ?_|refine W_region ?_|refine W_regionD (by kernel_rfl) rfl ?_|refine st_nil ?_|refine tq_n ?_|refine bq_n ?_|refine W_skip ?_|refine W_block ?_|refine W_condTA rfl ?_)
  refine ⟨rfl,(k+1,setB q b.toNat (q b.toNat || q a.toNat)),⟨by simp only;omega,fun i hi=>?_,fun i hi=>?_,fun j hj hra=>?_⟩,by simp only;omega,StRef.drop [.ro (ints S.d),.ro (pc S.f),.ro (ints S.s),.rw (shL 0 1 2 S),.rw (flL 0 1 2 S (fun i=>bI (setB q b.toNat (q b.toNat || q a.toNat) i))),.rw (rx (fun i=>bI (r i)))] [_] (by simp) (hc6 S _ _) (by (repeat' (first|exact trivial|exact ⟨rfl,rfl,rfl⟩|exact ⟨rfl,closed_slice rfl,rfl⟩|refine ⟨?_,?_⟩)))⟩
  ·simp only [setB] at hi
   by_cases h:i=b.toNat
   ·rw [if_pos h] at hi
    have e:(i:Int)=b:=by omega
    rcases Bool.or_eq_true_iff.1 hi with h1|h1
    ·have:=hq1 _ h1;rwa [← h] at this
    ·have:=hq1 _ h1
     rw [show ((a.toNat:Nat):Int)=a by omega] at this
     rw [e];exact .next this hmem
   ·rw [if_neg h] at hi;exact hq1 i hi
  ·simp only [setB]
   by_cases h:i=b.toNat
   ·rw [if_pos h,← h,hq2 i hi];rfl
   ·rw [if_neg h];exact hq2 i hi
  ·simp only [setB]
   rcases hall j hj with hjk|hjk
   ·subst hjk
    rw [hgen] at hra ⊢
    simp only at hra ⊢
    simp [hq2 _ hra]
   ·have:=hq3 j hjk hra
    by_cases h:(gf S.f j).2.toNat=b.toNat
    ·rw [if_pos h,← h,this];rfl
    ·rw [if_neg h];exact this
 obtain rfl:k=S.f.length:=by omega
 have hd3:cellsAt [.ro (ints S.d),.ro (pc S.f),.ro (ints S.s),.rw (shL 0 1 2 S),.rw (flL 0 1 2 S (fun i=>bI (q i))),.rw (rx (fun i=>bI (r i)))] 4 (0+3) 10=some (rx (fun i=>bI (q i))):=rfl
 have hd4:cellsAt [.ro (ints S.d),.ro (pc S.f),.ro (ints S.s),.rw (shL 0 1 2 S),.rw (flL 0 1 2 S (fun i=>bI (q i))),.rw (rx (fun i=>bI (r i)))] 5 0 10=some (rx (fun i=>bI (r i))):=rfl
 by_cases hq:∀ i ∈ List.range 10,bI (q i)=bI (r i)
 ·have e:q=rB S:=rB_of hS hq1 (fun n hn=>hq2 _ (hr3 n hn)) fun p hp hpa=>by
   obtain ⟨j,h1,h2⟩:=mem_gf.1 hp
   obtain ⟨w1,w2,-⟩:=hS.f j h1
   have h3:=hq3 j h1
   rw [h2] at h3 w1 w2
   exact h3 (by rw [← bI_inj (hq p.1.toNat (List.mem_range.2 (by omega)))];exact hpa)
  subst e
  repeat' (first|(refine gU ?_;first|(refine gMove ?_;refine st (ok_move rfl) rfl rfl ?_)|(refine gAssign ?_;refine st (ok_assign rfl) rfl rfl ?_)|(refine gBin ?_;refine st (ok_bin rfl rfl rfl) rfl rfl ?_))|(refine fU ?_;first|refine frA (ok_eqArrI rfl rfl rfl rfl rfl (rx_at _) (rx_at _)) rfl ?_|(refine fMove ?_;refine frA (ok_move rfl) rfl ?_)|(refine fFA ?_;refine frA (ok_fieldAddr rfl) rfl ?_)|(refine fLoad ?_;refine frA (ok_loadA rfl (by first|exact hd3|exact hd4)) rfl ?_)|(refine fNil ?_;refine frA (ok_nilP rfl) rfl ?_))|(refine fr_stop ⟨by kernel_rfl,?_⟩)|refine W_seq ?_|refine W_region ?_|refine W_regionD (by kernel_rfl) rfl ?_|refine st_nil ?_|refine tq_n ?_|refine tq_r ?_|refine tq_e ?_|refine bq_r ?_|refine bq_hit rfl ?_|refine W_exit ?_|refine W_ret ?_|refine W_condTA rfl ?_|refine W_condFA rfl ?_)
  exact ret0 (.tmp rfl .nil) (RetRef.src (σin:=S.hp) [.rw (flL 0 1 2 S (fun i=>bI (rB S i)))] [4] rfl rfl rfl ⟨osub_fl (p:=4) rfl rfl (fun i hi=>(srcR_lt hi:srcR 3 [4] i=⟨i,0,0⟩)) (by simp),trivial⟩ (VQ.ptr (q:=true) (n:=4) (ρ:=srcR 3 [4]) 3 0 (by omega))) ⟨rfl,rfl⟩
 ·have hne:∃ i,i<10∧r i ≠ q i:=Classical.byContradiction fun hn=>hq fun i hi=>by
   rw [Classical.byContradiction fun h:¬ r i=q i=>hn ⟨i,List.mem_range.1 hi,h⟩]
  obtain ⟨i,hi,hne⟩:=hne
  have hlt:=cntB_lt hq2 hi hne
  have hle:=cntB_le q 10
  repeat' (first|(refine gU ?_;(refine gBin ?_;refine st (ok_bin rfl rfl rfl) rfl rfl ?_))|(refine fU ?_;first|refine frA (ok_eqArrI rfl rfl rfl rfl rfl (rx_at _) (rx_at _)) rfl ?_|(refine fMove ?_;refine frA (ok_move rfl) rfl ?_)|(refine fFA ?_;refine frA (ok_fieldAddr rfl) rfl ?_)|(refine fLoad ?_;refine frA (ok_loadA rfl (by first|exact hd3|exact hd4)) rfl ?_)|(refine fNil ?_;refine frA (ok_nilP rfl) rfl ?_))|(refine fr_stop ⟨by kernel_rfl,?_⟩)|refine W_seq ?_|refine W_region ?_|refine W_regionD (by kernel_rfl) rfl ?_|refine st_nil ?_|refine tq_n ?_|refine tq_e ?_|refine bq_n ?_|refine bq_hit rfl ?_|refine W_skip ?_|refine W_exit ?_|refine W_condFA rfl ?_)
  exact ⟨rfl,q,⟨hq1,fun n hn=>hq2 _ (hr3 n hn)⟩,by omega,StRef.drop [.ro (ints S.d),.ro (pc S.f),.ro (ints S.s),.rw (shL 0 1 2 S),.rw (flL 0 1 2 S (fun i=>bI (q i)))] [_] (by simp) (hc5 S _) (by (repeat' (first|exact trivial|exact ⟨rfl,rfl,rfl⟩|refine ⟨?_,?_⟩)))⟩
end Go.Proofs.Ytomioaiojidnbaa
namespace Go.AH.Dust
open Go Go.AH
theorem fl_ren {ρ:Rho} {x y z a b c:Nat} {S:Shp} {r:Nat→Int} (h1:ρ x=⟨a,0,0⟩) (h2:ρ y=⟨b,0,0⟩) (h3:ρ z=⟨c,0,0⟩):renL ρ (flL x y z S r)=flL a b c S r:=by
 simp only [flL,renL,ren,h1,h2,h3,renL_plain _ (rx_plain r)]
structure FAt (σ:Heap) (p x y z:Nat) (S:Shp) (r:Nat→Int):Prop where
 fl:arrAt σ p (flL x y z S r)
 sh:SAt σ x y z S
def fCss (S:Shp) (r:Nat→Int):List (List Value):=[flL 1 2 3 S r,ints S.d,pc S.f,ints S.s]
def fBs (p x y z:Nat) (S:Shp) (r:Nat→Int):List (Nat×List Value):=[(p,flL x y z S r),(x,ints S.d),(y,pc S.f),(z,ints S.s)]
theorem FAt.cells {σ:Heap} {p x y z:Nat} {S:Shp} {r:Nat→Int} (h:FAt σ p x y z S r) {bs:List (Nat×List Value)} {rest:List (List Value)} (hr:ArrsR σ (fCss S r++rest).length (bsR ((fBs p x y z S r++bs).map (·.1))) rest bs) :
  ArrsR σ (fCss S r++rest).length (bsR ((fBs p x y z S r++bs).map (·.1))) (fCss S r++rest) (fBs p x y z S r++bs):=by
 refine ⟨⟨h.fl,rfl,fun a ha ha'=>?_⟩,⟨h.sh.1,rfl,fun a ha ha'=>vrel_plainL _ (ints_plain _) a ha⟩,⟨h.sh.2.1,rfl,fun a ha ha'=>vrel_plainL _ (pc_plain _) a ha⟩,⟨h.sh.2.2,rfl,fun a ha ha'=>vrel_plainL _ (ints_plain _) a ha⟩,hr⟩
 match a,ha with
 |0,_=>exact vsub_sl (by simp [fCss]) rfl (Nat.le_refl _)
 |1,_=>exact vsub_sl (by simp [fCss]) rfl (Nat.le_refl _)
 |2,_=>exact vsub_sl (by simp [fCss]) rfl (Nat.le_refl _)
 |a+3,ha=>exact vrel_plainL _ (rx_plain r) a (by simpa using ha)
theorem FAt.ev {P:Program} {fn:FuncId} {args1 args:List Value} {v:Value} {σ:Heap} {p x y z:Nat} {S:Shp} {r:Nat→Int} (hb:FAt σ p x y z S r) (h:Ev P fn args1 [.ro (flL 1 2 3 S r),.ro (ints S.d),.ro (pc S.f),.ro (ints S.s)] v [.ro (flL 1 2 3 S r),.ro (ints S.d),.ro (pc S.f),.ro (ints S.s)]) (ha:AS 4 (bsR [p,x,y,z]) args1 args) (hv:plain v=true) (hni:σ.all (fun o=>!isIter o)=true):Ev P fn args σ v σ :=
 Ev.arrsP (fCss S r++[]) (fBs p x y z S r++[]) h (hb.cells trivial) ha hv hni
theorem FAt.evN {P:Program} {fn:FuncId} {args1 args:List Value} {v v1:Value} {news news':Heap} {σ:Heap} {p x y z:Nat} {S:Shp} {r:Nat→Int} (hb:FAt σ p x y z S r) (h:Ev P fn args1 [.ro (flL 1 2 3 S r),.ro (ints S.d),.ro (pc S.f),.ro (ints S.s)] v1 ([.ro (flL 1 2 3 S r),.ro (ints S.d),.ro (pc S.f),.ro (ints S.s)]++news)) (ha:AS 4 (bsR [p,x,y,z]) args1 args) (hm:news.all isMem=true)
  (hv:ren (shf 4 σ.length (bsR [p,x,y,z])) v1=v) (hn:news.map (renO (shf 4 σ.length (bsR [p,x,y,z])))=news') (hni:σ.all (fun o=>!isIter o)=true):Ev P fn args σ v (σ++news') :=
 Ev.arrsR (fCss S r++[]) (fBs p x y z S r++[]) h (hb.cells trivial) ha hm hv hn hni
theorem vsub_tup2 {n:Nat} {π:Rho} {a b a' b':Value} (h1:VSub n π a a') (h2:VSub n π b b'):VSub n π (.tuple #[a,b]) (.tuple #[a',b']):=by
 refine .tuple _ _ rfl fun i h _=>?_
 match i,h with
 |0,_=>exact h1
 |1,_=>exact h2
def clockE (S:Shp) (h:Int):Int:=if shopE S ≠ 0 then shopE S else if h<1∨h > 24 then 2 else 0
theorem clockE_zero {S:Shp} {h:Int} (hc:clockE S h=0):shopE S=0∧1≤h∧h≤24:=by
 unfold clockE at hc
 by_cases h1:shopE S ≠ 0
 ·rw [if_pos h1] at hc;exact absurd hc h1
 ·rw [if_neg h1] at hc
  by_cases h2:h<1∨h > 24
  ·rw [if_pos h2] at hc;omega
  ·exact ⟨Classical.byContradiction h1,by omega,by omega⟩
end Go.AH.Dust
namespace Go.Proofs.Ytomioaiojidnbaa
open Go Go.AH
attribute [local irreducible] WOps WCode WFree retQ thenQ blockQ scopeQ OpOk ACall RetRef roundA roundB
set_option maxRecDepth 100000
set_option maxHeartbeats 1000000
open Go.AH.Dust
theorem newFloor_ev {σ:Heap} {S:Shp} {x y z:Nat} {v:Value} (h:SAt σ x y z S) (hv:ShS x y z S v) (hS:S.ok) (hni:σ.all (fun o=>!isIter o)=true) :
  Ev Try.prog 77 [v] σ (.pointer (some ⟨σ.length,0,none⟩)) (σ++[.rw (flL x y z S (fun i=>bI (rB S i)))]):=by
 refine Ev.arrsN S.css [x,y,z] (newFloor_ok S hS) h.arrs ⟨hv,trivial⟩ S.css_plain rfl ?_ ?_ hni
 ·simp [ren,shf]
 ·simp only [List.map_cons,List.map_nil,renO]
  rw [fl_ren (a:=x) (b:=y) (c:=z) (by simp [shf,bsR]) (by simp [shf,bsR]) (by simp [shf,bsR])]
theorem open_ok (S:Shp) (hS:S.fit) (h0:shopE S=0):Ev Try.prog 50 [shV 0 1 2 S] S.hp (.tuple #[.pointer (some ⟨3,0,none⟩),.int .i64 0]) (S.hp++[.rw (flL 0 1 2 S (fun i=>bI (rB S i)))]):=by
 have hok:=shopE_zero h0
 have hnf:=newFloor_ev (σ:=[.ro (ints S.d),.ro (pc S.f),.ro (ints S.s),.rw (shL 0 1 2 S)]) (S:=S) (x:=0) (y:=1) (z:=2) ⟨.inl rfl,.inl rfl,.inl rfl⟩ shS_self hok rfl
 refine acall_intro 3 12 Try.func50 rfl rfl rfl rfl rfl ?_
 repeat' (first|(refine gU ?_;first|(refine gMove ?_;refine st (ok_move rfl) rfl rfl ?_)|(refine gAssign ?_;refine st (ok_assign rfl) rfl rfl ?_)|(refine gLoad ?_;refine st (ok_loadA rfl (by rfl)) rfl rfl ?_)|(refine gBin ?_;refine st (ok_bin rfl rfl rfl) rfl rfl ?_)|(refine gCall ?_;refine st (ok_call rfl rfl rfl (by first|exact shop_ev ⟨.inl rfl,.inl rfl,.inl rfl⟩ shS_self hS rfl|exact hnf)) rfl rfl ?_)|(refine gBox ?_;refine st (ok_box rfl) rfl rfl ?_))|refine W_seq ?_|refine W_region ?_|refine st_nil ?_|refine tq_n ?_|refine W_skip ?_|refine W_ret ?_|refine W_condFA rfl ?_)
 exact ret0 (.tmp rfl (.tmp rfl .nil)) (RetRef.src (σin:=S.hp) [.rw (flL 0 1 2 S (fun i=>bI (rB S i)))] [4] rfl rfl rfl ⟨osub_fl (p:=4) rfl rfl (fun i hi=>(srcR_lt hi:srcR 3 [4] i=⟨i,0,0⟩)) (by simp),trivial⟩ (vsub_tup2 (VQ.ptr (q:=true) (n:=4) (ρ:=srcR 3 [4]) 3 0 (by omega)) (.int _ _))) ⟨rfl,rfl⟩
theorem open_bad (S:Shp) (hS:S.fit) (h0:shopE S ≠ 0):Ev Try.prog 50 [shV 0 1 2 S] S.hp (.tuple #[.pointer none,.int .i64 (shopE S)]) S.hp:=by
 refine acall_intro 3 12 Try.func50 rfl rfl rfl rfl rfl ?_
 repeat' (first|(refine gU ?_;first|(refine gMove ?_;refine st (ok_move rfl) rfl rfl ?_)|(refine gAssign ?_;refine st (ok_assign rfl) rfl rfl ?_)|(refine gLoad ?_;refine st (ok_loadA rfl (by rfl)) rfl rfl ?_)|(refine gBin ?_;refine st (ok_bin rfl rfl rfl) rfl rfl ?_)|(refine gCall ?_;refine st (ok_call rfl rfl rfl (by exact shop_ev ⟨.inl rfl,.inl rfl,.inl rfl⟩ shS_self hS rfl)) rfl rfl ?_)|(refine gBox ?_;refine st (ok_box rfl) rfl rfl ?_))|refine W_seq ?_|refine W_region ?_|refine st_nil ?_|refine tq_n ?_|refine tq_r ?_|refine W_ret ?_|refine W_condTA rfl ?_)
 exact ret0 (.tmp rfl (.tmp rfl .nil)) (.plain rfl rfl) ⟨rfl,rfl⟩
theorem open_evOk {σ:Heap} {S:Shp} {x y z:Nat} {v:Value} (h:SAt σ x y z S) (hv:ShS x y z S v) (hS:S.fit) (h0:shopE S=0) (hni:σ.all (fun o=>!isIter o)=true) :
  Ev Try.prog 50 [v] σ (.tuple #[.pointer (some ⟨σ.length,0,none⟩),.int .i64 0]) (σ++[.rw (flL x y z S (fun i=>bI (rB S i)))]):=by
 refine Ev.arrsN S.css [x,y,z] (open_ok S hS h0) h.arrs ⟨hv,trivial⟩ S.css_plain rfl ?_ ?_ hni
 ·simp [ren,renA,renL,shf]
 ·simp only [List.map_cons,List.map_nil,renO]
  rw [fl_ren (a:=x) (b:=y) (c:=z) (by simp [shf,bsR]) (by simp [shf,bsR]) (by simp [shf,bsR])]
theorem open_evBad {σ:Heap} {S:Shp} {x y z:Nat} {v:Value} (h:SAt σ x y z S) (hv:ShS x y z S v) (hS:S.fit) (h0:shopE S ≠ 0) (hni:σ.all (fun o=>!isIter o)=true) :
  Ev Try.prog 50 [v] σ (.tuple #[.pointer none,.int .i64 (shopE S)]) σ:=Ev.arrs S.css [x,y,z] (open_bad S hS h0) h.arrs ⟨hv,trivial⟩ S.css_plain rfl hni
theorem clock_ok (S:Shp) (hS:S.fit) (h:Int) (h0:clockE S h=0):Ev Try.prog 61 [shV 0 1 2 S,.int .i64 h] S.hp (.tuple #[.pointer (some ⟨3,0,none⟩),.int .i64 0]) (S.hp++[.rw (flL 0 1 2 S (fun i=>bI (rB S i)))]):=by
 obtain ⟨h1,h2,h3⟩:=clockE_zero h0
 have hop:=open_evOk (σ:=[.ro (ints S.d),.ro (pc S.f),.ro (ints S.s),.rw (shL 0 1 2 S)]) (S:=S) (x:=0) (y:=1) (z:=2) ⟨.inl rfl,.inl rfl,.inl rfl⟩ shS_self hS h1 rfl
 refine acall_intro 3 25 Try.func61 rfl rfl rfl rfl rfl ?_
 repeat' (first|(refine gU ?_;first|(refine gMove ?_;refine st (ok_move rfl) rfl rfl ?_)|(refine gAssign ?_;refine st (ok_assign rfl) rfl rfl ?_)|(refine gLoad ?_;refine st (ok_loadA rfl (by rfl)) rfl rfl ?_)|(refine gBin ?_;refine st (ok_bin rfl rfl rfl) rfl rfl ?_)|(refine gPick ?_;refine st (ok_pickFA rfl rfl) rfl rfl ?_)|(refine gExtract ?_;refine st (ok_extract rfl rfl) rfl rfl ?_)|(refine gCall ?_;refine st (ok_call rfl rfl rfl (by exact hop)) rfl rfl ?_)|(refine gBox ?_;refine st (ok_box rfl) rfl rfl ?_))|(refine gG ?_;first|(refine gMove ?_;refine stGA rfl (ok_move rfl) rfl rfl ?_)|(refine gBin ?_;refine stGA rfl (ok_bin rfl rfl rfl) rfl rfl ?_))|refine W_seq ?_|refine W_region ?_|refine st_nil ?_|refine tq_n ?_|refine bq_n ?_|refine W_skip ?_|refine W_ret ?_|refine W_block ?_|refine W_condFA rfl ?_)
 exact ret0 (.tmp rfl (.tmp rfl .nil)) (RetRef.src (σin:=S.hp) [.rw (flL 0 1 2 S (fun i=>bI (rB S i)))] [4] rfl rfl rfl ⟨osub_fl (p:=4) rfl rfl (fun i hi=>(srcR_lt hi:srcR 3 [4] i=⟨i,0,0⟩)) (by simp),trivial⟩ (vsub_tup2 (VQ.ptr (q:=true) (n:=4) (ρ:=srcR 3 [4]) 3 0 (by omega)) (.int _ _))) ⟨rfl,rfl⟩
theorem clock_bad (S:Shp) (hS:S.fit) (h:Int) (h0:clockE S h ≠ 0):Ev Try.prog 61 [shV 0 1 2 S,.int .i64 h] S.hp (.tuple #[.pointer none,.int .i64 (clockE S h)]) S.hp:=by
 by_cases h1:shopE S=0
 ·have hop:=open_evOk (σ:=[.ro (ints S.d),.ro (pc S.f),.ro (ints S.s),.rw (shL 0 1 2 S)]) (S:=S) (x:=0) (y:=1) (z:=2) ⟨.inl rfl,.inl rfl,.inl rfl⟩ shS_self hS h1 rfl
  have he:clockE S h=if h<1∨h > 24 then 2 else 0:=by unfold clockE;rw [if_neg (fun hn=>hn h1)]
  have hb:h<1∨h > 24:=Classical.byContradiction fun hn=>h0 (by rw [he,if_neg hn])
  rw [he,if_pos hb]
  by_cases hb1:h<1
  ·refine acall_intro 3 25 Try.func61 rfl rfl rfl rfl rfl ?_
   repeat' (first|(refine gU ?_;first|(refine gMove ?_;refine st (ok_move rfl) rfl rfl ?_)|(refine gAssign ?_;refine st (ok_assign rfl) rfl rfl ?_)|(refine gLoad ?_;refine st (ok_loadA rfl (by rfl)) rfl rfl ?_)|(refine gBin ?_;refine st (ok_bin rfl rfl rfl) rfl rfl ?_)|(refine gPick ?_;refine st (ok_pickTA rfl rfl) rfl rfl ?_)|(refine gExtract ?_;refine st (ok_extract rfl rfl) rfl rfl ?_)|(refine gCall ?_;refine st (ok_call rfl rfl rfl (by exact hop)) rfl rfl ?_)|(refine gBox ?_;refine st (ok_box rfl) rfl rfl ?_))|(refine gG ?_;refine stSA rfl rfl ?_)|refine W_seq ?_|refine W_region ?_|refine st_nil ?_|refine tq_n ?_|refine tq_r ?_|refine bq_r ?_|refine W_ret ?_|refine W_block ?_|refine W_condTA rfl ?_|refine W_condFA rfl ?_)
   exact ret0 (.tmp rfl (.tmp rfl .nil)) (.plain rfl rfl) ⟨rfl,rfl⟩
  ·have hb2:h > 24:=by omega
   refine acall_intro 3 25 Try.func61 rfl rfl rfl rfl rfl ?_
   repeat' (first|(refine gU ?_;first|(refine gMove ?_;refine st (ok_move rfl) rfl rfl ?_)|(refine gAssign ?_;refine st (ok_assign rfl) rfl rfl ?_)|(refine gLoad ?_;refine st (ok_loadA rfl (by rfl)) rfl rfl ?_)|(refine gBin ?_;refine st (ok_bin rfl rfl rfl) rfl rfl ?_)|(refine gPick ?_;refine st (ok_pickFA rfl rfl) rfl rfl ?_)|(refine gExtract ?_;refine st (ok_extract rfl rfl) rfl rfl ?_)|(refine gCall ?_;refine st (ok_call rfl rfl rfl (by exact hop)) rfl rfl ?_)|(refine gBox ?_;refine st (ok_box rfl) rfl rfl ?_))|(refine gG ?_;first|(refine gMove ?_;refine stGA rfl (ok_move rfl) rfl rfl ?_)|(refine gBin ?_;refine stGA rfl (ok_bin rfl rfl rfl) rfl rfl ?_))|refine W_seq ?_|refine W_region ?_|refine st_nil ?_|refine tq_n ?_|refine tq_r ?_|refine bq_r ?_|refine W_ret ?_|refine W_block ?_|refine W_condTA rfl ?_|refine W_condFA rfl ?_)
   exact ret0 (.tmp rfl (.tmp rfl .nil)) (.plain rfl rfl) ⟨rfl,rfl⟩
 ·have hop:=open_evBad (σ:=[.ro (ints S.d),.ro (pc S.f),.ro (ints S.s),.rw (shL 0 1 2 S)]) (S:=S) (x:=0) (y:=1) (z:=2) ⟨.inl rfl,.inl rfl,.inl rfl⟩ shS_self hS h1 rfl
  have he:clockE S h=shopE S:=by unfold clockE;rw [if_pos h1]
  rw [he]
  refine acall_intro 3 25 Try.func61 rfl rfl rfl rfl rfl ?_
  repeat' (first|(refine gU ?_;first|(refine gMove ?_;refine st (ok_move rfl) rfl rfl ?_)|(refine gAssign ?_;refine st (ok_assign rfl) rfl rfl ?_)|(refine gLoad ?_;refine st (ok_loadA rfl (by rfl)) rfl rfl ?_)|(refine gBin ?_;refine st (ok_bin rfl rfl rfl) rfl rfl ?_)|(refine gExtract ?_;refine st (ok_extract rfl rfl) rfl rfl ?_)|(refine gCall ?_;refine st (ok_call rfl rfl rfl (by exact hop)) rfl rfl ?_)|(refine gBox ?_;refine st (ok_box rfl) rfl rfl ?_))|refine W_seq ?_|refine W_region ?_|refine st_nil ?_|refine tq_n ?_|refine tq_r ?_|refine bq_r ?_|refine W_ret ?_|refine W_block ?_|refine W_condTA rfl ?_)
  exact ret0 (.tmp rfl (.tmp rfl .nil)) (.plain rfl rfl) ⟨rfl,rfl⟩
theorem clock_evOk {σ:Heap} {S:Shp} {h:Int} {x y z:Nat} {v:Value} (hs:SAt σ x y z S) (hv:ShS x y z S v) (hS:S.fit) (h0:clockE S h=0) (hni:σ.all (fun o=>!isIter o)=true) :
  Ev Try.prog 61 [v,.int .i64 h] σ (.tuple #[.pointer (some ⟨σ.length,0,none⟩),.int .i64 0]) (σ++[.rw (flL x y z S (fun i=>bI (rB S i)))]):=by
 refine Ev.arrsN S.css [x,y,z] (clock_ok S hS h h0) hs.arrs ⟨hv,.int _ _,trivial⟩ S.css_plain rfl ?_ ?_ hni
 ·simp [ren,renA,renL,shf]
 ·simp only [List.map_cons,List.map_nil,renO]
  rw [fl_ren (a:=x) (b:=y) (c:=z) (by simp [shf,bsR]) (by simp [shf,bsR]) (by simp [shf,bsR])]
theorem clock_evBad {σ:Heap} {S:Shp} {h:Int} {x y z:Nat} {v:Value} (hs:SAt σ x y z S) (hv:ShS x y z S v) (hS:S.fit) (h0:clockE S h ≠ 0) (hni:σ.all (fun o=>!isIter o)=true) :
  Ev Try.prog 61 [v,.int .i64 h] σ (.tuple #[.pointer none,.int .i64 (clockE S h)]) σ:=Ev.arrs S.css [x,y,z] (clock_bad S hS h h0) hs.arrs ⟨hv,.int _ _,trivial⟩ S.css_plain rfl hni
theorem isReached_ok (S:Shp) (q:Nat→Bool) (r:Nat→Int) (hr:r=fun i=>bI (q i)) (n:Nat) (hn:n<10):Ev Try.prog 56 [.pointer (some ⟨0,0,none⟩),.int .i64 (n:Int)] [.ro (flL 1 2 3 S r),.ro (ints S.d),.ro (pc S.f),.ro (ints S.s)] (.bool (q n)) [.ro (flL 1 2 3 S r),.ro (ints S.d),.ro (pc S.f),.ro (ints S.s)]:=by
 have hn':(n:Int)<10:=by omega
 have hc1:cellGet [.ro (flL 1 2 3 S r),.ro (ints S.d),.ro (pc S.f),.ro (ints S.s)] 0 (3+n*1)=some (.int .i64 (r n)):=by rw [Nat.mul_one];exact fl_get hn
 have hc2:cellGet [.ro (flL 1 2 3 S r),.ro (ints S.d),.ro (pc S.f),.ro (ints S.s)] 0 (0+3+n*1)=some (.int .i64 (r n)):=by rw [Nat.mul_one];exact fl_get hn
 have e:decide (r n=1)=q n:=by rw [hr];show decide (bI (q n)=1)=q n;cases q n <;> decide
 refine acall_intro 4 12 Try.func56 rfl rfl rfl rfl rfl ?_
 repeat' (first|(refine gU ?_;first|(refine gMove ?_;refine st (ok_move rfl) rfl rfl ?_)|(refine gAssign ?_;refine st (ok_assign rfl) rfl rfl ?_)|(refine gFA ?_;refine st (ok_fieldAddr rfl) rfl rfl ?_)|(refine gLoad ?_;refine st (ok_load rfl (by assumption)) rfl rfl ?_)|(refine gBin ?_;refine st (ok_bin rfl rfl rfl) rfl rfl ?_)|(refine gNil ?_;refine st (ok_nilP rfl) rfl rfl ?_)|(refine gIA ?_;refine st (ok_idxAN rfl rfl (by omega)) rfl rfl ?_))|refine W_seq ?_|refine W_region ?_|refine st_nil ?_|refine tq_n ?_|refine W_ret ?_)
 exact ret0 (.tmp rfl .nil) (.plain rfl rfl) ⟨by rw [← e];rfl,rfl⟩
theorem isReached_ev {σ:Heap} {S:Shp} {q:Nat→Bool} {r:Nat→Int} {n p x y z:Nat} (h:FAt σ p x y z S r) (hr:r=fun i=>bI (q i)) (hn:n<10) (hni:σ.all (fun o=>!isIter o)=true) :
  Ev Try.prog 56 [.pointer (some ⟨p,0,none⟩),.int .i64 (n:Int)] σ (.bool (q n)) σ :=
 h.ev (isReached_ok S q r hr n hn) ⟨VQ.ptr (q:=true) (n:=4) (ρ:=bsR [p,x,y,z]) 0 0 (by omega),vrel_plain _ rfl,trivial⟩ rfl hni
theorem next_ok (S:Shp) (r:Nat→Int) (n:Int):Ev Try.prog 70 [.pointer (some ⟨0,0,none⟩),.int .i64 n] [.ro (flL 1 2 3 S r),.ro (ints S.d),.ro (pc S.f),.ro (ints S.s)] (.func (.func 87) #[] #[.pointer (some ⟨4,0,none⟩),.pointer (some ⟨5,0,none⟩)]) [.ro (flL 1 2 3 S r),.ro (ints S.d),.ro (pc S.f),.ro (ints S.s),.rw [.pointer (some ⟨0,0,none⟩)],.rw [.int .i64 n]]:=by
 refine acall_intro 4 6 Try.func70 rfl rfl rfl rfl rfl ?_
 repeat' (first|(refine gU ?_;first|(refine gAssign ?_;refine st (ok_assign rfl) rfl rfl ?_)|(refine gMkF ?_;refine st (ok_makeFunc rfl rfl) rfl rfl ?_)|(refine gBox ?_;refine st (ok_box rfl) rfl rfl ?_))|refine W_seq ?_|refine W_region ?_|refine st_nil ?_|refine tq_n ?_|refine W_ret ?_)
 exact ret0 (.tmp rfl .nil) .all ⟨rfl,rfl⟩
theorem next_ev {σ:Heap} {S:Shp} {r:Nat→Int} {n:Int} {p x y z:Nat} (h:FAt σ p x y z S r) (hni:σ.all (fun o=>!isIter o)=true) :
  Ev Try.prog 70 [.pointer (some ⟨p,0,none⟩),.int .i64 n] σ (.func (.func 87) #[] #[.pointer (some ⟨σ.length,0,none⟩),.pointer (some ⟨σ.length+1,0,none⟩)]) (σ++[.rw [.pointer (some ⟨p,0,none⟩)],.rw [.int .i64 n]]) :=
 h.evN (news:=[.rw [.pointer (some ⟨0,0,none⟩)],.rw [.int .i64 n]]) (next_ok S r n) ⟨VQ.ptr (q:=true) (n:=4) (ρ:=bsR [p,x,y,z]) 0 0 (by omega),vrel_plain _ rfl,trivial⟩ rfl (by simp [ren,renA,renL,shf]) (by simp [renO,renL,ren,shf,bsR]) hni
end Go.Proofs.Ytomioaiojidnbaa
namespace Go.AH.Dust
open Go Go.AH
noncomputable def rL (S:Shp):Nat→List Int
 |0=>[]
 |k+1=>if rB S k=true then rL S k++[(k:Int)] else rL S k
noncomputable def reachL (S:Shp):List Int:=if shopE S=0 then rL S S.d.length else []
theorem rL_len (S:Shp):∀ k,(rL S k).length≤k
 |0=>by simp [rL]
 |k+1=>by
  have:=rL_len S k
  simp only [rL];split
  ·simp;omega
  ·omega
theorem mem_rL {S:Shp} {n:Int}:∀ {k:Nat},n ∈ rL S k↔∃ i:Nat,i<k∧n=i∧rB S i=true
 |0=>by simp [rL]
 |k+1=>by
  have ih:=mem_rL (S:=S) (n:=n) (k:=k)
  simp only [rL]
  split
  ·rename_i h
   rw [List.mem_append,ih,List.mem_singleton]
   constructor
   ·rintro (⟨i,h1,h2⟩|h1)
    ·exact ⟨i,by omega,h2⟩
    ·exact ⟨k,by omega,h1,h⟩
   ·rintro ⟨i,h1,h2,h3⟩
    by_cases hik:i=k
    ·subst hik;exact .inr h2
    ·exact .inl ⟨i,by omega,h2,h3⟩
  ·rename_i h
   rw [ih]
   constructor
   ·rintro ⟨i,h1,h2⟩;exact ⟨i,by omega,h2⟩
   ·rintro ⟨i,h1,h2,h3⟩
    by_cases hik:i=k
    ·subst hik;exact absurd h3 h
    ·exact ⟨i,by omega,h2,h3⟩
end Go.AH.Dust
namespace Go.Proofs.Ytomioaiojidnbaa
open Go Go.AH
attribute [local irreducible] WOps WCode WFree retQ thenQ blockQ scopeQ OpOk ACall RetRef roundA roundB
set_option maxRecDepth 100000
set_option maxHeartbeats 1000000
open Go.AH.Dust
end Go.Proofs.Ytomioaiojidnbaa
namespace Go.AH.Dust
open Go Go.AH
theorem ok_idxV {P:Program} {rd:Option Nat} {ty:TypeId} {e:Env} {σ:Heap} {x y:Operand} {t el size bytes i n k sz:Nat} {agg:Bool} {z:Value} [ha:Sl P t el] [ht:Ty P el size agg z bytes] (h:evalO e x=some (slvV i sz n)) (hy:evalO e y=some (.int .i64 (k:Nat)))
  (h1:k<n):OpOk P rd (.indexAddr t x y) ty e σ (.pointer (some ⟨i,k*size,none⟩)) σ:=by
 cases n with
 |zero=>omega
 |succ n =>
  have:=ok_idxG (P:=P) (rd:=rd) (ty:=ty) (σ:=σ) (t:=t) (ha:=ha) (ht:=ht) (i:=i) (n:=n+1) (c:=n+1) (sz:=sz) h hy (by omega) (by omega)
  simpa using this
theorem nodup_le:∀ {n:Nat} {l:List Int},l.Nodup→(∀ x ∈ l,0≤x∧x<n)→l.length≤n
 |0,[],_,_=>Nat.le_refl _
 |0,x::l,_,h=>by have:=h x (by simp);omega
 |n+1,l,hn,h=>by
  by_cases hm:(n:Int) ∈ l
  ·have ih:=nodup_le (n:=n) (l:=l.erase n) (hn.erase _) fun x hx=>by
    have h1:=(hn.mem_erase_iff.1 hx)
    have:=h x h1.2
    have h2:=h1.1
    omega
   have:=List.length_erase_of_mem hm
   have hp:=List.length_pos_of_mem hm
   omega
  ·have:=nodup_le (n:=n) (l:=l) hn fun x hx=>by
    have:=h x hx
    have h2:x ≠ n:=fun e=>hm (e ▸ hx)
    omega
   omega
structure Seen (S:Shp) (q:List Int):Prop where
 nd:q.Nodup
 rch:∀ n ∈ q,Rch S n
 fst:∀ n ∈ S.s,n ∈ q
theorem Seen.len {S:Shp} (h:S.ok) {q:List Int} (hq:Seen S q):q.length≤10:=by
 have:=nodup_le (n:=S.d.length) hq.nd fun x hx=>rch_work h (hq.rch x hx)
 have:=h.n10;omega
theorem Seen.snoc {S:Shp} {q:List Int} (hq:Seen S q) {a b:Int} (ha:a ∈ q) (hab:(a,b) ∈ S.f) (hb:b ∉ q):Seen S (q++[b]):=by
 refine ⟨?_,fun n hn=>?_,fun n hn=>List.mem_append_left _ (hq.fst n hn)⟩
 ·rw [List.nodup_append]
  refine ⟨hq.nd,by simp,fun x hx y hy hxy=>hb ?_⟩
  rw [List.mem_singleton] at hy
  rw [← hy,← hxy];exact hx
 ·rcases List.mem_append.1 hn with h|h
  ·exact hq.rch n h
  ·rw [List.mem_singleton.1 h];exact .next (hq.rch a ha) hab
theorem seen_first {S:Shp} (h:S.ok):Seen S S.s:=by
 refine ⟨?_,fun n hn=>.first hn,fun n hn=>hn⟩
 have key:∀ i j,i<j→j<S.s.length→gi S.s i<gi S.s j:=by
  intro i j hij hj
  induction j with
  |zero=>omega
  |succ j ih =>
   have h1:=(h.s (j+1) hj).2
   simp only [Nat.add_sub_cancel] at h1
   by_cases hij':i=j
   ·subst hij';omega
   ·have:=ih (by omega) (by omega);omega
 rw [List.nodup_iff_pairwise_ne,List.pairwise_iff_getElem]
 intro i j hi hj hij he
 have:=key i j hij hj
 simp only [gi,List.getD_eq_getElem?_getD,List.getElem?_eq_getElem hi,List.getElem?_eq_getElem hj,Option.getD_some] at this
 omega
theorem Seen.iff {S:Shp} {q:List Int} (hq:Seen S q) (hc:∀ j,j<q.length→∀ k,k<S.f.length→(gf S.f k).1=gi q j→(gf S.f k).2 ∈ q) (n:Int):n ∈ q↔Rch S n:=by
 refine ⟨hq.rch n,fun h=>?_⟩
 induction h with
 |first h=>exact hq.fst _ h
 |next h hf ih =>
  obtain ⟨j,h1,h2⟩:=mem_gi.1 ih
  obtain ⟨k,h3,h4⟩:=mem_gf.1 hf
  have:=hc j h1 k h3 (by rw [h4,h2])
  rw [h4] at this;exact this
theorem gi_app {q e:List Int} {i:Nat} (h:i<q.length):gi (q++e) i=gi q i:=by simp [gi,List.getD_eq_getElem?_getD,List.getElem?_append_left h]
theorem hc4' (S:Shp):HClosed 4 [.ro (ints S.d),.ro (pc S.f),.ro (ints S.s),.rw (shL 0 1 2 S)]:=hc4 S
theorem hc5g (S:Shp) (q:List Int):HClosed 5 [.ro (ints S.d),.ro (pc S.f),.ro (ints S.s),.rw (shL 0 1 2 S),.gr (ints q) 3]:=by
 obtain ⟨a,b⟩:=shL_closed (n:=5) (x:=0) (y:=1) (z:=2) (S:=S) (by omega) (by omega) (by omega)
 exact ⟨plainL_closed (ints_plain _),plainL_closed (pc_plain _),plainL_closed (ints_plain _),⟨a,b⟩,plainL_closed (ints_plain _),trivial⟩
end Go.AH.Dust
namespace Go.Proofs.Ytomioaiojidnbaa
open Go Go.AH
attribute [local irreducible] WOps WCode WFree retQ thenQ blockQ scopeQ OpOk ACall RetRef roundA roundB
set_option maxRecDepth 100000
set_option maxHeartbeats 1000000
open Go.AH.Dust
theorem refReached_ok (S:Shp) (hS:S.fit):Ev Try.prog 16 [shV 0 1 2 S] S.hp (.tuple #[sl 3 (reachL S).length,.int .i64 (shopE S)]) (S.hp++[.rw (ints (reachL S))]):=by
 unfold reachL
 have hrs:=refShop_ev (σ:=[.ro (ints S.d),.ro (pc S.f),.ro (ints S.s),.rw (shL 0 1 2 S)]) (S:=S) (x:=0) (y:=1) (z:=2) ⟨.inl rfl,.inl rfl,.inl rfl⟩ shS_self hS rfl
 by_cases h0:shopE S=0
 case neg =>
  rw [if_neg h0]
  refine acall_intro 3 77 Try.func16 rfl rfl rfl rfl rfl ?_
  repeat' (first|(refine gU ?_;first|(refine gAssign ?_;refine st (ok_assign rfl) rfl rfl ?_)|(refine gLoad ?_;refine st (ok_loadA rfl (by rfl)) rfl rfl ?_)|(refine gBin ?_;refine st (ok_bin rfl rfl rfl) rfl rfl ?_)|(refine gCall ?_;refine st (ok_call rfl rfl rfl (by exact hrs)) rfl rfl ?_)|(refine gBox ?_;refine st (ok_box rfl) rfl rfl ?_))|refine W_seq ?_|refine W_region ?_|refine st_nil ?_|refine tq_n ?_|refine tq_r ?_|refine W_ret ?_|refine W_condTA rfl ?_)
  exact ret0 (.tmp rfl (.tmp rfl .nil)) (retNil rfl rfl) ⟨rfl,rfl⟩
 rw [if_pos h0,h0]
 rw [h0] at hrs
 have hok:=shopE_zero h0
 have n10:=hok.n10
 have s10:=hok.s10
 have s0:=hok.s0
 have f60:=hok.f60
 have hs1:cellsAt [.ro (ints S.d),.ro (pc S.f),.ro (ints S.s),.rw (shL 0 1 2 S)] 2 0 (S.s.length*1)=some (ints S.s):=by
  have:=cellsAt_arr (σ:=[.ro (ints S.d),.ro (pc S.f),.ro (ints S.s),.rw (shL 0 1 2 S)]) (b:=2) (cs:=ints S.s) (.inl rfl)
  rwa [ints_length,← Nat.mul_one S.s.length] at this
 refine acall_intro 3 77 Try.func16 rfl rfl rfl rfl rfl ?_
 repeat' (first|(refine gU ?_;first|(refine gAssign ?_;refine st (ok_assign rfl) rfl rfl ?_)|(refine gFA ?_;refine st (ok_fieldAddr rfl) rfl rfl ?_)|(refine gLoad ?_;first|refine st (ok_load rfl (by rfl)) rfl rfl ?_|refine st (ok_loadA rfl (by rfl)) rfl rfl ?_)|(refine gBin ?_;refine st (ok_bin rfl rfl rfl) rfl rfl ?_)|(refine gCall ?_;refine st (ok_call rfl rfl rfl (by exact hrs)) rfl rfl ?_)|(refine gBox ?_;refine st (ok_box rfl) rfl rfl ?_)|(refine gBuildS ?_;refine st (ok_buildS0) rfl rfl ?_)|(refine gApp ?_;refine st (ok_appendE (by rfl) rfl rfl (by exact hs1) (by omega) (by omega) (by omega)) rfl rfl ?_))|refine W_seq ?_|refine W_region ?_|refine st_nil ?_|refine tq_n ?_|refine W_skip ?_|refine W_block ?_|refine W_condFA rfl ?_)
 refine W_loopS (ι:=Nat×List Int) (fun p=>[(1,.pointer (some ⟨3,0,none⟩)),(4,slvV 4 1 p.2.length),(5,.int .i64 (p.1:Int))])
  (fun p=>[.ro (ints S.d),.ro (pc S.f),.ro (ints S.s),.rw (shL 0 1 2 S),.gr (ints p.2) 3]) (fun p=>10 - p.1) (fun p=>p.1≤p.2.length∧Seen S p.2∧∀ j,j<p.1→∀ k,k<S.f.length→(gf S.f k).1=gi p.2 j→(gf S.f k).2 ∈ p.2) (0,S.s) (by simp)
  (StRef.src [.ro (ints S.d),.ro (pc S.f),.ro (ints S.s),.rw (shL 0 1 2 S)] [.gr (ints S.s) 3] [5] (by simp) rfl (hc4' S) rfl rfl ⟨osub_gr rfl rfl (ints_plain _),trivial⟩ (by (repeat' (first|exact trivial|refine ⟨er_plain rfl rfl,?_⟩|refine ⟨er_closed (m:=4) rfl (fun i hi=>srcR_lt hi) (by simp) (by rfl) rfl,?_⟩|refine ⟨er_slvV rfl (by simp) rfl,?_⟩)))) ⟨Nat.zero_le _,seen_first hok,fun j (h:j<0)=>absurd h (Nat.not_lt_zero _)⟩ ?_
 rintro ⟨i,q⟩ ⟨hi,hq,hcl⟩
 simp only at hi hq hcl ⊢
 have hq10:=hq.len hok
 by_cases hil:i<q.length
 ·have hi10:i<10:=by omega
  have hil2:(ints q).length=q.length*1:=by simp [ints]
  repeat' (first|(refine gU ?_;first|(refine gMove ?_;refine st (ok_move rfl) rfl rfl ?_)|(refine gAssign ?_;refine st (ok_assign rfl) rfl rfl ?_)|(refine gBin ?_;refine st (ok_bin rfl rfl rfl) rfl rfl ?_)|(refine gLen ?_;refine st (ok_lenV rfl) rfl rfl ?_))|refine W_seq ?_|refine W_region ?_|refine st_nil ?_|refine tq_n ?_|refine W_skip ?_|refine W_block ?_|refine W_condTA rfl ?_)
  refine W_loopS (ι:=Nat×List Int) (fun p=>[(1,.pointer (some ⟨3,0,none⟩)),(4,slvV 4 1 p.2.length),(5,.int .i64 (i:Int)),(6,.int .i64 (p.1:Int))])
   (fun p=>[.ro (ints S.d),.ro (pc S.f),.ro (ints S.s),.rw (shL 0 1 2 S),.gr (ints p.2) 3]) (fun p=>S.f.length - p.1) (fun p=>p.1≤S.f.length∧Seen S p.2∧(∃ e,p.2=q++e)∧∀ k,k<p.1→(gf S.f k).1=gi q i→(gf S.f k).2 ∈ p.2) (0,q) (by simp)
   (.same ⟨rfl,rfl,rfl,rfl,trivial⟩) ⟨Nat.zero_le _,hq,⟨[],by simp⟩,fun j (h:j<0)=>absurd h (Nat.not_lt_zero _)⟩ ?_
  clear hil2
  rintro ⟨k,q2⟩ ⟨hk,hq2,⟨e,rfl⟩,hcl2⟩
  simp only at hk hq2 hcl2 ⊢
  have hgi:gi (q++e) i=gi q i:=gi_app hil
  have hlt:i<(q++e).length:=by simp;omega
  have hq2l:=hq2.len hok
  generalize hq2e:q++e=q2 at *
  by_cases hkl:k<S.f.length
  ·have hil2:(ints q2).length=q2.length*1:=by simp [ints]
   have hc1:cellGet [.ro (ints S.d),.ro (pc S.f),.ro (ints S.s),.rw (shL 0 1 2 S),.gr (ints q2) 3] 1 (0+k*2+0*1)=some (.int .i64 (gf S.f k).1):=pc_get0 (.inl rfl) hkl
   have hc2:cellGet [.ro (ints S.d),.ro (pc S.f),.ro (ints S.s),.rw (shL 0 1 2 S),.gr (ints q2) 3] 1 (0+k*2+1*1)=some (.int .i64 (gf S.f k).2):=pc_get1 (.inl rfl) hkl
   have hc3:cellGet [.ro (ints S.d),.ro (pc S.f),.ro (ints S.s),.rw (shL 0 1 2 S),.gr (ints q2) 3] 4 (i*1)=some (.int .i64 (gi q i)):=by rw [Nat.mul_one,← hgi];exact ints_get hlt
   have hin:=in51_ev (σ:=[.ro (ints S.d),.ro (pc S.f),.ro (ints S.s),.rw (shL 0 1 2 S),.gr (ints q2) 3]) (l:=q2) (p:=(gf S.f k).2) (x:=4) (o:=0) (v:=slvV 4 1 q2.length) (prtAt_arr (.inr (.inr ⟨_,rfl⟩))) ps_slv (by omega) rfl
   have hmem:gf S.f k ∈ S.f:=mem_gf.2 ⟨k,hkl,rfl⟩
   have hall:∀ j,j<k+1→j=k∨j<k:=fun j hj=>by omega
   have hi2:i<q2.length:=hlt
   by_cases ha:(gf S.f k).1=gi q i
   ·have haq:(gf S.f k).1 ∈ q2:=mem_gi.2 ⟨i,hlt,by rw [hgi,ha]⟩
    by_cases hb:(gf S.f k).2 ∈ q2
    ·have hb':¬ ¬ (gf S.f k).2 ∈ q2:=fun h=>h hb
     repeat' (first|(refine gU ?_;first|(refine gMove ?_;refine st (ok_move rfl) rfl rfl ?_)|(refine gAssign ?_;refine st (ok_assign rfl) rfl rfl ?_)|(refine gFA ?_;refine st (ok_fieldAddr rfl) rfl rfl ?_)|(refine gLoad ?_;refine st (ok_load rfl (by rfl)) rfl rfl ?_)|(refine gAdd ?_;refine st (ok_inc rfl rfl (by omega)) rfl rfl ?_)|(refine gBin ?_;refine st (ok_bin rfl rfl rfl) rfl rfl ?_)|(refine gLen ?_;refine st (ok_len rfl) rfl rfl ?_))|(refine fU ?_;first|refine frA (ok_idxV rfl rfl (by omega)) rfl ?_|(refine fMove ?_;refine frA (ok_move rfl) rfl ?_)|(refine fFA ?_;refine frA (ok_fieldAddr rfl) rfl ?_)|(refine fLoad ?_;refine frA (ok_load rfl (by first|rfl|exact hc1|exact hc3)) rfl ?_)|(refine fBin ?_;refine frA (ok_bin rfl rfl rfl) rfl ?_)|(refine fPick ?_;refine frA (ok_pickTA rfl rfl) rfl ?_)|(refine fIA ?_;first|refine frA (ok_idxSN rfl rfl (by omega)) rfl ?_|refine frA (ok_idxA rfl rfl (by omega) (by omega)) rfl ?_))|(refine fG ?_;first|(refine fMove ?_;refine frGA rfl (ok_move rfl) rfl ?_)|(refine fFA ?_;refine frGA rfl (ok_fieldAddr rfl) rfl ?_)|(refine fLoad ?_;refine frGA rfl (ok_load rfl (by first|rfl|exact hc2)) rfl ?_)|(refine fNot ?_;refine frGA rfl (ok_notD rfl) rfl ?_)|(refine fIA ?_;first|refine frGA rfl (ok_idxSN rfl rfl (by omega)) rfl ?_|refine frGA rfl (ok_idxA rfl rfl (by omega) (by omega)) rfl ?_)|(refine fCall ?_;refine frGA rfl (ok_call rfl rfl rfl (by exact hin)) rfl ?_))|(refine fr_stop ⟨by kernel_rfl,?_⟩)|refine W_seq ?_|refine W_region ?_|refine W_regionD (by kernel_rfl) rfl ?_|refine st_nil ?_|refine tq_n ?_|refine bq_n ?_|refine W_skip ?_|refine W_block ?_|refine W_condTA rfl ?_|refine W_condFA rfl ?_)
     refine ⟨rfl,(k+1,q2),⟨by simp only;omega,hq2,⟨e,hq2e.symm⟩,fun j hj hje=>?_⟩,by simp only;omega,.same ⟨rfl,rfl,rfl,rfl,trivial⟩⟩
     rcases hall j hj with h|h
     ·subst h;exact hb
     ·exact hcl2 j h hje
    ·have hlen:(q2++[(gf S.f k).2]).length=q2.length+1:=by simp
     have hsn:=hq2.snoc haq hmem hb
     repeat' (first|(refine gU ?_;first|(refine gMove ?_;refine st (ok_move rfl) rfl rfl ?_)|(refine gAssign ?_;refine st (ok_assign rfl) rfl rfl ?_)|(refine gFA ?_;refine st (ok_fieldAddr rfl) rfl rfl ?_)|(refine gLoad ?_;refine st (ok_load rfl (by first|rfl|exact hc2)) rfl rfl ?_)|(refine gAdd ?_;refine st (ok_inc rfl rfl (by omega)) rfl rfl ?_)|(refine gBin ?_;refine st (ok_bin rfl rfl rfl) rfl rfl ?_)|(refine gLen ?_;refine st (ok_len rfl) rfl rfl ?_)|(refine gIA ?_;first|refine st (ok_idxSN rfl rfl (by omega)) rfl rfl ?_|refine st (ok_idxA rfl rfl (by omega) (by omega)) rfl rfl ?_)|(refine gBuildS ?_;refine st (ok_buildS (by rfl) (by rfl) (by rfl) (by rfl) rfl (by rfl)) rfl rfl ?_)|(refine gApp ?_;refine st (ok_appendV (by rfl) (by rfl) rfl (by rfl) (by exact hil2) rfl (by rfl) (by omega) (by rfl) (by omega) (by omega)) rfl rfl ?_))|(refine fU ?_;first|refine frA (ok_idxV rfl rfl (by omega)) rfl ?_|(refine fMove ?_;refine frA (ok_move rfl) rfl ?_)|(refine fFA ?_;refine frA (ok_fieldAddr rfl) rfl ?_)|(refine fLoad ?_;refine frA (ok_load rfl (by first|rfl|exact hc1|exact hc3)) rfl ?_)|(refine fBin ?_;refine frA (ok_bin rfl rfl rfl) rfl ?_)|(refine fPick ?_;refine frA (ok_pickTA rfl rfl) rfl ?_)|(refine fIA ?_;first|refine frA (ok_idxSN rfl rfl (by omega)) rfl ?_|refine frA (ok_idxA rfl rfl (by omega) (by omega)) rfl ?_))|(refine fG ?_;first|(refine fMove ?_;refine frGA rfl (ok_move rfl) rfl ?_)|(refine fFA ?_;refine frGA rfl (ok_fieldAddr rfl) rfl ?_)|(refine fLoad ?_;refine frGA rfl (ok_load rfl (by first|rfl|exact hc2)) rfl ?_)|(refine fNot ?_;refine frGA rfl (ok_notD rfl) rfl ?_)|(refine fIA ?_;first|refine frGA rfl (ok_idxSN rfl rfl (by omega)) rfl ?_|refine frGA rfl (ok_idxA rfl rfl (by omega) (by omega)) rfl ?_)|(refine fCall ?_;refine frGA rfl (ok_call rfl rfl rfl (by exact hin)) rfl ?_))|(refine fr_stop ⟨by kernel_rfl,?_⟩)|refine W_seq ?_|refine W_region ?_|refine W_regionD (by kernel_rfl) rfl ?_|refine st_nil ?_|refine tq_n ?_|refine bq_n ?_|refine W_skip ?_|refine W_block ?_|refine W_condTA rfl ?_)
     refine ⟨rfl,(k+1,q2++[(gf S.f k).2]),⟨by simp only;omega,hsn,⟨e++[(gf S.f k).2],by rw [← hq2e];simp⟩,fun j hj hje=>?_⟩,by simp only;omega,StRef.src [.ro (ints S.d),.ro (pc S.f),.ro (ints S.s),.rw (shL 0 1 2 S)] [.gr (ints (q2++[(gf S.f k).2])) 3] [6] (by simp) rfl (hc4' S) rfl rfl ⟨osub_gr rfl (by rw [ints_app];rfl) (ints_plain _),trivial⟩ (by (repeat' (first|exact trivial|refine ⟨er_plain rfl rfl,?_⟩|refine ⟨er_closed (m:=4) rfl (fun i hi=>srcR_lt hi) (by simp) (by rfl) rfl,?_⟩|refine ⟨er_slvV (by rw [hlen];rfl) (by simp) rfl,?_⟩)))⟩
     rcases hall j hj with h|h
     ·subst h;simp
     ·exact List.mem_append_left _ (hcl2 j h hje)
   ·repeat' (first|(refine gU ?_;first|(refine gMove ?_;refine st (ok_move rfl) rfl rfl ?_)|(refine gAssign ?_;refine st (ok_assign rfl) rfl rfl ?_)|(refine gFA ?_;refine st (ok_fieldAddr rfl) rfl rfl ?_)|(refine gLoad ?_;refine st (ok_load rfl (by rfl)) rfl rfl ?_)|(refine gAdd ?_;refine st (ok_inc rfl rfl (by omega)) rfl rfl ?_)|(refine gBin ?_;refine st (ok_bin rfl rfl rfl) rfl rfl ?_)|(refine gLen ?_;refine st (ok_len rfl) rfl rfl ?_))|(refine fU ?_;first|refine frA (ok_idxV rfl rfl (by omega)) rfl ?_|(refine fMove ?_;refine frA (ok_move rfl) rfl ?_)|(refine fFA ?_;refine frA (ok_fieldAddr rfl) rfl ?_)|(refine fLoad ?_;refine frA (ok_load rfl (by first|rfl|exact hc1|exact hc3)) rfl ?_)|(refine fBin ?_;refine frA (ok_bin rfl rfl rfl) rfl ?_)|(refine fPick ?_;refine frA (ok_pickFA rfl rfl) rfl ?_)|(refine fIA ?_;first|refine frA (ok_idxSN rfl rfl (by omega)) rfl ?_|refine frA (ok_idxA rfl rfl (by omega) (by omega)) rfl ?_))|(refine fG ?_;refine frSA rfl rfl ?_)|(refine fr_stop ⟨by kernel_rfl,?_⟩)|refine W_seq ?_|refine W_region ?_|refine W_regionD (by kernel_rfl) rfl ?_|refine st_nil ?_|refine tq_n ?_|refine bq_n ?_|refine W_skip ?_|refine W_block ?_|refine W_condTA rfl ?_|refine W_condFA rfl ?_)
    refine ⟨rfl,(k+1,q2),⟨by simp only;omega,hq2,⟨e,hq2e.symm⟩,fun j hj hje=>?_⟩,by simp only;omega,.same ⟨rfl,rfl,rfl,rfl,trivial⟩⟩
    rcases hall j hj with h|h
    ·subst h;exact absurd hje ha
    ·exact hcl2 j h hje
  ·repeat' (first|(refine gU ?_;first|(refine gMove ?_;refine st (ok_move rfl) rfl rfl ?_)|(refine gAssign ?_;refine st (ok_assign rfl) rfl rfl ?_)|(refine gFA ?_;refine st (ok_fieldAddr rfl) rfl rfl ?_)|(refine gLoad ?_;refine st (ok_load rfl (by rfl)) rfl rfl ?_)|(refine gAdd ?_;refine st (ok_inc rfl rfl (by omega)) rfl rfl ?_)|(refine gBin ?_;refine st (ok_bin rfl rfl rfl) rfl rfl ?_)|(refine gLen ?_;refine st (ok_len rfl) rfl rfl ?_))|refine W_seq ?_|refine W_region ?_|refine st_nil ?_|refine tq_n ?_|refine tq_e ?_|refine bq_n ?_|refine bq_hit rfl ?_|refine W_exit ?_|refine W_condFA rfl ?_)
   refine ⟨rfl,(i+1,q2),⟨by simp only;omega,hq2,fun j hj k' hk' hje=>?_⟩,by simp only;omega,.same ⟨rfl,rfl,rfl,trivial⟩⟩
   simp only at hj hje ⊢
   by_cases hji:j=i
   ·subst hji;exact hcl2 k' (by omega) (by rw [hje,hgi])
   ·have hjq:j<q.length:=by omega
    have e1:gi q2 j=gi q j:=by rw [← hq2e];exact gi_app hjq
    have:=hcl j (by omega) k' hk' (by rw [hje,e1])
    rw [← hq2e];exact List.mem_append_left _ this
 have hiff:=hq.iff fun j hj=>hcl j (by omega)
 have hrB:∀ k:Nat,(k:Int) ∈ q↔rB S k=true:=fun k=>by rw [hiff,rB_iff]
 repeat' (first|(refine gU ?_;first|(refine gMove ?_;refine st (ok_move rfl) rfl rfl ?_)|(refine gAssign ?_;refine st (ok_assign rfl) rfl rfl ?_)|(refine gBin ?_;refine st (ok_bin rfl rfl rfl) rfl rfl ?_)|(refine gLen ?_;refine st (ok_lenV rfl) rfl rfl ?_))|refine W_seq ?_|refine W_region ?_|refine st_nil ?_|refine tq_n ?_|refine tq_e ?_|refine bq_hit rfl ?_|refine W_exit ?_|refine W_block ?_|refine W_condFA rfl ?_)
 refine W_loopS (ι:=Nat) (fun k=>[(1,.pointer (some ⟨3,0,none⟩)),(4,slvV 4 1 q.length),(7,slvV 5 1 (rL S k).length),(8,.int .i64 (k:Int))])
  (fun k=>[.ro (ints S.d),.ro (pc S.f),.ro (ints S.s),.rw (shL 0 1 2 S),.gr (ints q) 3,.gr (ints (rL S k)) 3]) (fun k=>S.d.length - k) (fun k=>k≤S.d.length) 0 (by simp) (StRef.src [.ro (ints S.d),.ro (pc S.f),.ro (ints S.s),.rw (shL 0 1 2 S),.gr (ints q) 3] [.gr [] 3] [5] (by simp) rfl (hc5g S q) rfl rfl ⟨osub_gr0,trivial⟩ (by (repeat' (first|exact trivial|refine ⟨er_plain rfl rfl,?_⟩|refine ⟨er_closed (m:=5) rfl (fun i hi=>srcR_lt hi) (by simp) (by rfl) rfl,?_⟩|refine ⟨er_closed (m:=5) rfl (fun i hi=>srcR_lt hi) (by simp) (closed_slvV rfl) okV_slv,?_⟩)))) (by omega) ?_
 clear hil hcl hrs
 intro k hk
 have hkl:=rL_len S k
 have hil3:(ints (rL S k)).length=(rL S k).length*1:=by simp [ints]
 have hs:rL S (k+1)=if rB S k=true then rL S k++[(k:Int)] else rL S k:=rfl
 have hin:=in51_ev (σ:=[.ro (ints S.d),.ro (pc S.f),.ro (ints S.s),.rw (shL 0 1 2 S),.gr (ints q) 3,.gr (ints (rL S k)) 3]) (l:=q) (p:=(k:Int)) (x:=4) (o:=0) (v:=slvV 4 1 q.length) (prtAt_arr (.inr (.inr ⟨_,rfl⟩))) ps_slv (by omega) rfl
 by_cases hkd:k<S.d.length
 ·generalize hKL:rL S k=KL at *
  by_cases hb:(k:Int) ∈ q
  ·rw [if_pos ((hrB k).1 hb)] at hs
   have hlen:(rL S (k+1)).length=KL.length+1:=by rw [hs];simp
   have hcs:ints (rL S (k+1))=ints KL++[.int .i64 (k:Int)]:=by rw [hs,ints_app]
   repeat' (first|(refine gU ?_;first|(refine gMove ?_;refine st (ok_move rfl) rfl rfl ?_)|(refine gAssign ?_;refine st (ok_assign rfl) rfl rfl ?_)|(refine gFA ?_;refine st (ok_fieldAddr rfl) rfl rfl ?_)|(refine gLoad ?_;refine st (ok_load rfl (by rfl)) rfl rfl ?_)|(refine gAdd ?_;refine st (ok_inc rfl rfl (by omega)) rfl rfl ?_)|(refine gBin ?_;refine st (ok_bin rfl rfl rfl) rfl rfl ?_)|(refine gLen ?_;refine st (ok_len rfl) rfl rfl ?_)|(refine gCall ?_;refine st (ok_call rfl rfl rfl (by exact hin)) rfl rfl ?_)|(refine gBuildS ?_;refine st (ok_buildS (by rfl) (by rfl) (by rfl) (by rfl) rfl (by rfl)) rfl rfl ?_)|(refine gApp ?_;refine st (ok_appendV (by rfl) (by rfl) rfl (by rfl) (by exact hil3) rfl (by rfl) (by omega) (by rfl) (by omega) (by omega)) rfl rfl ?_))|refine W_seq ?_|refine W_region ?_|refine st_nil ?_|refine tq_n ?_|refine bq_n ?_|refine W_skip ?_|refine W_block ?_|refine W_condTA rfl ?_)
   exact ⟨rfl,k+1,by omega,by omega,StRef.src [.ro (ints S.d),.ro (pc S.f),.ro (ints S.s),.rw (shL 0 1 2 S),.gr (ints q) 3] [.gr (ints (rL S (k+1))) 3] [7] (by simp) rfl (hc5g S q) rfl rfl ⟨osub_gr rfl (by rw [hcs];rfl) (ints_plain _),trivial⟩ (by (repeat' (first|exact trivial|refine ⟨er_plain rfl rfl,?_⟩|refine ⟨er_closed (m:=5) rfl (fun i hi=>srcR_lt hi) (by simp) (by rfl) rfl,?_⟩|refine ⟨er_closed (m:=5) rfl (fun i hi=>srcR_lt hi) (by simp) (closed_slvV rfl) okV_slv,?_⟩|refine ⟨er_slvV (by rw [hlen];rfl) (by simp) rfl,?_⟩)))⟩
  ·rw [if_neg (fun h=>hb ((hrB k).2 h))] at hs
   repeat' (first|(refine gU ?_;first|(refine gMove ?_;refine st (ok_move rfl) rfl rfl ?_)|(refine gAssign ?_;refine st (ok_assign rfl) rfl rfl ?_)|(refine gFA ?_;refine st (ok_fieldAddr rfl) rfl rfl ?_)|(refine gLoad ?_;refine st (ok_load rfl (by rfl)) rfl rfl ?_)|(refine gAdd ?_;refine st (ok_inc rfl rfl (by omega)) rfl rfl ?_)|(refine gBin ?_;refine st (ok_bin rfl rfl rfl) rfl rfl ?_)|(refine gLen ?_;refine st (ok_len rfl) rfl rfl ?_)|(refine gCall ?_;refine st (ok_call rfl rfl rfl (by exact hin)) rfl rfl ?_))|refine W_seq ?_|refine W_region ?_|refine st_nil ?_|refine tq_n ?_|refine bq_n ?_|refine W_skip ?_|refine W_block ?_|refine W_condTA rfl ?_|refine W_condFA rfl ?_)
   refine ⟨rfl,k+1,by omega,by omega,?_⟩
   rw [hs]
   exact .same ⟨rfl,rfl,rfl,rfl,trivial⟩
 ·obtain rfl:k=S.d.length:=by omega
  generalize rL S S.d.length=KL at *
  repeat' (first|(refine gU ?_;first|(refine gMove ?_;refine st (ok_move rfl) rfl rfl ?_)|(refine gAssign ?_;refine st (ok_assign rfl) rfl rfl ?_)|(refine gFA ?_;refine st (ok_fieldAddr rfl) rfl rfl ?_)|(refine gLoad ?_;refine st (ok_load rfl (by rfl)) rfl rfl ?_)|(refine gBin ?_;refine st (ok_bin rfl rfl rfl) rfl rfl ?_)|(refine gLen ?_;refine st (ok_len rfl) rfl rfl ?_))|refine W_seq ?_|refine W_region ?_|refine st_nil ?_|refine tq_n ?_|refine tq_e ?_|refine bq_hit rfl ?_|refine W_exit ?_|refine W_ret ?_|refine W_condFA rfl ?_)
  exact ret0 (.tmp rfl (.tmp rfl .nil)) (retSl (j:=5) rfl (ints_plain KL) (.inr ⟨3,rfl⟩) rfl rfl) ⟨rfl,rfl⟩
theorem refReached_ev {σ:Heap} {S:Shp} {x y z:Nat} {v:Value} (h:SAt σ x y z S) (hv:ShS x y z S v) (hS:S.fit) (hni:σ.all (fun o=>!isIter o)=true) :
  Ev Try.prog 16 [v] σ (.tuple #[sl σ.length (reachL S).length,.int .i64 (shopE S)]) (σ++[.rw (ints (reachL S))]):=by
 refine Ev.arrsN S.css [x,y,z] (refReached_ok S hS) h.arrs ⟨hv,trivial⟩ S.css_plain rfl ?_ ?_ hni
 ·simp [ren,renA,renL,shf]
 ·simp only [List.map_cons,List.map_nil,renO,renL_plain _ (ints_plain _)]
end Go.Proofs.Ytomioaiojidnbaa
namespace Go.AH.Dust
open Go Go.AH
def minK (l:List Int):Nat→Int
 |0=>gi l 0
 |k+1=>min (minK l k) (gi l (k+1))
def maxK (l:List Int):Nat→Int
 |0=>gi l 0
 |k+1=>max (maxK l k) (gi l (k+1))
abbrev chain (S:Shp) (l:List Int):Prop:=∀ i,i<l.length→0<i→(gi l (i - 1),gi l i) ∈ S.f
abbrev okW (S:Shp) (l:List Int):Prop:=∀ i,i<l.length→isW S (gi l i)
def rowE (S:Shp) (g:Int→Bool) (l:List Int):Int:=if l.length=0∨l.length > 100 then 6 else if ¬ okW S l then 3 else if g (gi l 0)=true∧chain S l then 0 else 16
def sumK (S:Shp) (l:List Int):Nat→Int
 |0=>0
 |k+1=>sumK S l k+gi S.d (gi l k).toNat
def rowV (S:Shp) (g:Int→Bool) (l:List Int):Int:=if rowE S g l=0 then sumK S l l.length else 0
end Go.AH.Dust
namespace Go.Proofs.Ytomioaiojidnbaa
open Go Go.AH
attribute [local irreducible] WOps WCode WFree retQ thenQ blockQ scopeQ OpOk ACall RetRef roundA roundB
set_option maxRecDepth 100000
set_option maxHeartbeats 1000000
open Go.AH.Dust
end Go.Proofs.Ytomioaiojidnbaa
namespace Go.AH.Dust
open Go Go.AH
noncomputable def gPlan (S:Shp) (n:Int):Bool:=decide (n ∈ S.s)
noncomputable def gRun (S:Shp) (n:Int):Bool:=rB S n.toNat
noncomputable def planE (S:Shp) (l:List Int):Int:=if shopE S=0 then rowE S (gPlan S) l else shopE S
noncomputable def planV (S:Shp) (l:List Int):Int:=if shopE S=0 then rowV S (gPlan S) l else 0
noncomputable def runE (S:Shp) (l:List Int):Int:=if shopE S=0 then rowE S (gRun S) l else shopE S
noncomputable def runV (S:Shp) (l:List Int):Int:=if shopE S=0 then rowV S (gRun S) l else 0
def LS (w k:Nat) (v:Value):Prop:=∀ (n i:Nat) (π:Rho),i<n→π i=⟨w,0,0⟩→VSub n π (sl i k) v
theorem ls_slv {w sz k:Nat}:LS w k (slvV w sz k):=fun _n _i _π hi hp=>vsub_slvR hi hp
end Go.AH.Dust
namespace Go.Proofs.Ytomioaiojidnbaa
open Go Go.AH
attribute [local irreducible] WOps WCode WFree retQ thenQ blockQ scopeQ OpOk ACall RetRef roundA roundB
set_option maxRecDepth 100000
set_option maxHeartbeats 1000000
open Go.AH.Dust
end Go.Proofs.Ytomioaiojidnbaa
namespace Go.Proofs.Ytomioaiojidnbaa
open Go Go.AH
attribute [local irreducible] WOps WCode WFree retQ thenQ blockQ scopeQ OpOk ACall RetRef roundA roundB
set_option maxRecDepth 100000
set_option maxHeartbeats 1000000
open Go.AH.Dust
theorem vsub_fnq {n:Nat} {π:Rho} {f:FuncId} {a a':Value} (h1:VSub n π a a'):VSub n π (.func (.func f) #[] #[a]) (.func (.func f) #[] #[a']):=by
 refine .func f _ _ _ _ rfl rfl (fun i h _=>by simp at h) (fun i h _=>?_)
 match i,h with
 |0,_=>exact h1
end Go.Proofs.Ytomioaiojidnbaa
namespace Go.AH.Tail
open Go Go.AH
def Cl (σ:Heap):Prop:=∀ (i:Nat) (o:AObj),σ[i]?=some o→oclosed σ.length o
def ECl (n:Nat) (e:Env):Prop:=∀ t v,Env.get e t=some v→closed n v=true∧okV v=true
theorem orel_low {G G':Nat→Prop} {n m:Nat} {ρ:Rho} {w:World} {p:Pl} {o:AObj} (h:ORel G m ρ w p o) (hc:oclosed n o) (hg:∀ b,G b→G' b) (hg':o.owned→¬ G' p.b):ORel G' n ρ w p o:=by
 cases o with
 |dead=>trivial
 |ro cs =>
  intro hne
  obtain ⟨g,h2⟩:=h hne
  refine ⟨hg _ g,fun k hk=>?_⟩
  obtain ⟨v',h3,h4⟩:=h2 k hk
  exact ⟨v',h3,vq_lower h4 ((closedL_iff n cs).1 hc.1 _ (List.getElem_mem hk))⟩
 |rw cs =>
  intro hne
  obtain ⟨_,ho,rc,t,h3,h4,h5⟩:=h hne
  exact ⟨hg' hne,ho,rc,t,h3,h4,fun k hk hk'=>vq_lower (h5 k hk hk') ((closedL_iff n cs).1 hc.1 _ (List.getElem_mem hk))⟩
 |gr cs e =>
  intro hne
  obtain ⟨_,ho,rc,h3,hs,h4,h5⟩:=h hne
  exact ⟨hg' hne,ho,rc,h3,hs,h4,fun k hk hk'=>vq_lower (h5 k hk hk') ((closedL_iff n cs).1 hc.1 _ (List.getElem_mem hk))⟩
 |dfr=>exact ⟨hg' trivial,h.2⟩
 |loop st pend N e params assign body =>
  obtain ⟨_,r,h1,h2,h3,h4,h5,h6,h8⟩:=h
  refine ⟨hg' trivial,r,h1,h2,h3,h4,h5,h6,h8.1,fun t v hv=>?_⟩
  obtain ⟨v',a,b⟩:=h8.2 t v hv
  exact ⟨v',a,vq_lower b (hc t v hv).1⟩
 |map es =>
  obtain ⟨_,ents,clock,h3,h4,h5,h6⟩:=h
  refine ⟨hg' trivial,ents,clock,h3,h4,fun i hi hi'=>?_,h6⟩
  obtain ⟨a,b,c,d⟩:=h5 i hi hi'
  exact ⟨a,b,vq_lower c (hc _ (List.getElem_mem hi)).1,d⟩
 |iter m seen=>exact ⟨hg' trivial,hc,h.2.2⟩
 |deep qs sp =>
  refine ⟨fun hq=>?_,fun x hx=>?_⟩
  ·obtain ⟨h1,h2⟩:=h.1 hq
   refine ⟨hg _ h1,fun k hk=>?_⟩
   obtain ⟨v',h3,h4⟩:=h2 k hk
   exact ⟨v',h3,frow_mono h4 hg (fun _ _ _ hy=>hy)⟩
  ·obtain ⟨h1,v',h3,h4⟩:=h.2 x hx
   exact ⟨hg _ h1,v',h3,vq_lower h4 (hc x hx).1⟩
def dfs (k:Nat):Heap:=List.replicate k .dfr
theorem dfs_len (σ:Heap) (k:Nat):(σ++dfs k).length=σ.length+k:=by simp [dfs]
theorem dfs_get {σ:Heap} {k i:Nat} {o:AObj} (h:(σ++dfs k)[i]?=some o):(i < σ.length∧σ[i]?=some o)∨(σ.length≤i∧i < σ.length+k∧o=.dfr):=by
 by_cases hi:i < σ.length
 ·rw [List.getElem?_append_left hi] at h;exact .inl ⟨hi,h⟩
 ·rw [List.getElem?_append_right (by omega)] at h
  simp only [dfs,List.getElem?_replicate] at h
  split at h
  ·cases h;exact .inr ⟨by omega,by omega,rfl⟩
  ·cases h
theorem dfs_at {σ:Heap} {k i:Nat} (h1:σ.length≤i) (h2:i < σ.length+k):(σ++dfs k)[i]?=some .dfr:=by
 rw [List.getElem?_append_right h1]
 simp only [dfs,List.getElem?_replicate]
 rw [if_pos (by omega)]
theorem dfs_lt {σ:Heap} {k i:Nat} {o:AObj} (h:σ[i]?=some o):(σ++dfs k)[i]?=some o:=by
 rw [List.getElem?_append_left (idx_lt h)];exact h
theorem dfs_dfs (σ:Heap) (k j:Nat):σ++dfs k++dfs j=σ++dfs (k+j):=by
 rw [List.append_assoc];simp [dfs,List.replicate_append_replicate]
def TOk (n k:Nat) (T:List Nat):Prop:=T.Nodup∧∀ t ∈ T,n≤t∧t<n+k
def shiftT (n m:Nat) (T:List Nat):List Nat:=T.map fun t=>t - n+m
theorem nodup_map' {f:Nat→Nat}:∀ {T:List Nat},T.Nodup→(∀ x ∈ T,∀ y ∈ T,f x=f y→x=y)→(T.map f).Nodup
 |[],_,_=>List.nodup_nil
 |a::T,h,hi=>by
  have h':=List.nodup_cons.1 h
  rw [List.map_cons,List.nodup_cons]
  refine ⟨fun hm=>?_,nodup_map' h'.2 fun x hx y hy=>hi x (by simp [hx]) y (by simp [hy])⟩
  obtain ⟨b,hb,he⟩:=List.mem_map.1 hm
  exact h'.1 (by rw [← hi b (by simp [hb]) a (by simp) he];exact hb)
def joinR (n:Nat) (ρ':Rho) (m:Nat) (ρ:Rho):Rho:=fun i=>if i<n then ρ' i else ρ (i - n+m)
theorem joinR_lt {n m i:Nat} {ρ ρ':Rho} (h:i<n):joinR n ρ' m ρ i=ρ' i:=if_pos h
theorem joinR_ge {n m i:Nat} {ρ ρ':Rho} (h:n≤i):joinR n ρ' m ρ i=ρ (m+(i - n)):=by
 unfold joinR;rw [if_neg (by omega),Nat.add_comm]
theorem TOk.shift {n k m:Nat} {T:List Nat} (h:TOk n k T):TOk m k (shiftT n m T):=by
 refine ⟨?_,fun t ht=>?_⟩
 ·exact nodup_map' h.1 fun x hx y hy he=>by have:=h.2 x hx;have:=h.2 y hy;omega
 ·obtain ⟨u,hu,rfl⟩:=List.mem_map.1 ht
  have:=h.2 u hu;omega
theorem TOk.app {n k j:Nat} {T U:List Nat} (h:TOk n k T) (h':TOk (n+k) j U):TOk n (k+j) (T++U):=by
 refine ⟨List.nodup_append.2 ⟨h.1,h'.1,fun a ha b hb=>?_⟩,fun t ht=>?_⟩
 ·have:=h.2 a ha;have:=h'.2 b hb;omega
 ·rcases List.mem_append.1 ht with ht|ht
  ·have:=h.2 t ht;omega
  ·have:=h'.2 t ht;omega
section
variable {P:Program} {n0 N:Nat} {G:Nat→Prop} {w0:World} {ρ0:Rho} {e:Env} {mk T:List Nat} {σ:Heap} {k:Nat} {A:Act} {w:World}
theorem Cl.of {ρ:Rho} (hs:Sim G w0 ρ σ w):Cl σ:=fun i o hi=>orel_closed (hs.obj i o hi)
theorem ECl.of {n:Nat} {ρ:Rho} {tmps:Array Value} (h:TRel n ρ N e tmps):ECl n e:=fun t v hv=>by
 obtain ⟨v',_,h2⟩:=h.2 t v hv
 exact ⟨vq_closed h2,vq_ok h2⟩
theorem dfr_cell {b o:Nat} {ds:Option (List Deferred)} (h:w.heap[b]?=some (.deferred ds)):w.cell? ⟨b,o,none⟩=none:=by simp [World.cell?,h]
theorem inv_hide (hi:Inv n0 N G w0 ρ0 e (mk++T) (σ++dfs k) A w) (h0:n0≤σ.length) (hT:TOk σ.length k T) (hmk:∀ i ∈ mk,i < σ.length) (hc:Cl σ) (he:ECl σ.length e) :
  ∃ G' w0' ρ0',Inv n0 N G' w0' ρ0' e mk σ A w∧(∀ i<n0,ρ0' i=ρ0 i) ∧
   ∀ e' mk' σ' A' w',Inv n0 N G' w0' ρ0' e' mk' σ' A' w'→Inv n0 N G w0 ρ0 e' (mk'++shiftT σ.length σ'.length T) (σ'++dfs k) A' w':=by
 obtain ⟨_,ρ,hag,hs,her⟩:=hi
 have hd:∀ t<k,ORel G (σ++dfs k).length ρ w (ρ (σ.length+t)) .dfr:=fun t ht=>hs.obj _ _ (dfs_at (by omega) (by omega))
 have hG:∀ b,(G b∨∃ t<k,(ρ (σ.length+t)).b=b)→b<w.heap.size:=by
  rintro b (hb|⟨t,ht,rfl⟩)
  ·exact Nat.lt_of_lt_of_le (hs.fgn b hb).1 hs.size
  ·exact block_lt (hd t ht).2
 have hown:∀ i o,σ[i]?=some o→o.owned→¬ (G (ρ i).b∨∃ t<k,(ρ (σ.length+t)).b=(ρ i).b):=by
  rintro i o hio ho (hb|⟨t,ht,hb⟩)
  ·exact (orel_block (hs.obj i o (dfs_lt hio)) ho).2 hb
  ·have:=hs.inj _ _ _ _ (dfs_at (by omega) (by omega:σ.length+t < σ.length+k)) (dfs_lt hio) trivial ho hb
   have:=idx_lt hio;omega
 refine ⟨fun b=>G b∨∃ t<k,(ρ (σ.length+t)).b=b,w,stashR n0 ρ0 (T.map (fun t=>(ρ t).b)++(List.range (ρ0 n0).b).map fun j=>(ρ0 (n0+1+j)).b),⟨h0,ρ,fun i hi=>(hag i hi).trans (stashR_lt hi).symm,⟨rfl,rfl,rfl,Nat.le_refl _,fun b hb=>⟨hG b hb,rfl⟩,fun i o hio=>?_,fun i j oi oj hi hj=>hs.inj i j oi oj (dfs_lt hi) (dfs_lt hj)⟩,⟨⟨her.tmps.1,fun t v hv=>?_⟩,?_,hmk⟩⟩,fun i hi=>stashR_lt hi,?_⟩
 ·exact orel_low (hs.obj i o (dfs_lt hio)) (hc i o hio) (fun b hb=>.inl hb) (hown i o hio)
 ·obtain ⟨v',h1,h2⟩:=her.tmps.2 t v hv
  exact ⟨v',h1,vq_lower h2 (he t v hv).1⟩
 ·rw [her.mks,tlOf_stash,List.map_append,List.map_append,List.append_assoc,List.map_map,List.map_map]
  rfl
 ·rintro e' mk' σ' A' w' ⟨g0,ρ',hag',hs',her'⟩
  have hlen:=dfs_len σ' k
  have hw:∀ t<k,w'.heap[(ρ (σ.length+t)).b]?=some (.deferred (some [])):=fun t ht=>by
   rw [(hs'.fgn _ (.inr ⟨t,ht,rfl⟩)).2];exact (hd t ht).2
  have elo:∀ i < σ'.length,joinR σ'.length ρ' σ.length ρ i=ρ' i:=fun i hi=>joinR_lt hi
  have ehi:∀ i,σ'.length≤i→joinR σ'.length ρ' σ.length ρ i=ρ (σ.length+(i - σ'.length)):=fun i hi=>joinR_ge hi
  refine ⟨by omega,joinR σ'.length ρ' σ.length ρ,fun i hi=>?_,⟨hs'.os.trans hs.os,hs'.tape.trans hs.tape,hs'.output.trans hs.output,Nat.le_trans hs.size hs'.size,fun b hb=>?_,fun i o hio=>?_,fun i j oi oj hi hj hoi hoj hij=>?_⟩,⟨?_,?_,fun i hi=>?_⟩⟩
  ·rw [elo i (by omega)]
   exact (hag' i hi).trans (stashR_lt hi)
  ·have h1:=hs'.fgn b (.inl hb)
   have h2:=hs.fgn b hb
   exact ⟨h2.1,h1.2.trans h2.2⟩
  ·rcases dfs_get hio with ⟨hi,hio⟩|⟨hi1,hi2,rfl⟩
   ·rw [elo i hi]
    have h1:=hs'.obj i o hio
    have h2:ORel G σ'.length ρ' w' (ρ' i) o:=by
     cases o with
     |dead=>trivial
     |ro cs =>
      intro hne
      obtain ⟨g,h2⟩:=h1 hne
      refine ⟨g.resolve_right ?_,h2⟩
      rintro ⟨t,ht,hb⟩
      obtain ⟨v',h3,_⟩:=h2 0 (by cases cs with|nil=>exact absurd rfl hne|cons=>simp)
      rw [dfr_cell (by rw [← hb];exact hw t ht)] at h3;cases h3
     |rw cs=>intro hne;obtain ⟨g,h2⟩:=h1 hne;exact ⟨fun hb=>g (.inl hb),h2⟩
     |gr cs e=>intro hne;obtain ⟨g,h2⟩:=h1 hne;exact ⟨fun hb=>g (.inl hb),h2⟩
     |dfr=>exact ⟨fun hb=>h1.1 (.inl hb),h1.2⟩
     |loop st pend N e params assign body=>exact ⟨fun hb=>h1.1 (.inl hb),h1.2⟩
     |map es=>exact ⟨fun hb=>h1.1 (.inl hb),h1.2⟩
     |iter m seen=>exact ⟨fun hb=>h1.1 (.inl hb),h1.2⟩
     |deep qs sp =>
      have hG':∀ {b o:Nat} {v':Value},(G b∨∃ t<k,(ρ (σ.length+t)).b=b)→w'.cell? ⟨b,o,none⟩=some v'→G b:=fun {b o v'} g h3=>by
       refine g.resolve_right ?_
       rintro ⟨t,ht,hb⟩
       rw [dfr_cell (by rw [← hb];exact hw t ht)] at h3;cases h3
      refine ⟨fun hq=>?_,fun x hx=>?_⟩
      ·obtain ⟨g1,g2⟩:=h1.1 hq
       obtain ⟨v0,g3,_⟩:=g2 0 (List.length_pos_iff.2 hq)
       refine ⟨hG' g1 g3,fun m hm=>?_⟩
       obtain ⟨v',g4,a,cap,g5,g6,g7⟩:=g2 m hm
       refine ⟨v',g4,a,cap,g5,g6,fun hqm=>?_⟩
       obtain ⟨b,o,g8,g9,g10⟩:=g7 hqm
       exact ⟨b,o,g8,hG' g9 (g10 0 (List.length_pos_iff.2 hqm)),g10⟩
      ·obtain ⟨g1,v',g3,g4⟩:=h1.2 x hx
       exact ⟨hG' g1 g3,v',g3,g4⟩
    exact orel_mono h2 (by omega) elo (fun _ h=>h) (fun _ _ _ _ h=>h) (fun _ _ _ h=>h)
   ·rw [ehi i hi1]
    exact ⟨(hd _ (by omega)).1,hw _ (by omega)⟩
  ·rcases dfs_get hi with ⟨hi1,hi⟩|⟨hi1,hi2,rfl⟩ <;> rcases dfs_get hj with ⟨hj1,hj⟩|⟨hj1,hj2,rfl⟩
   ·rw [elo i hi1,elo j hj1] at hij
    exact hs'.inj i j oi oj hi hj hoi hoj hij
   ·exfalso
    rw [elo i hi1,ehi j hj1] at hij
    exact (orel_block (hs'.obj i oi hi) hoi).2 (.inr ⟨_,by omega,hij.symm⟩)
   ·exfalso
    rw [elo j hj1,ehi i hi1] at hij
    exact (orel_block (hs'.obj j oj hj) hoj).2 (.inr ⟨_,by omega,hij⟩)
   ·rw [ehi i hi1,ehi j hj1] at hij
    have:=hs.inj _ _ _ _ (dfs_at (by omega) (by omega)) (dfs_at (σ:=σ) (k:=k) (by omega) (by omega)) trivial trivial hij
    omega
  ·exact trel_mono her'.tmps (by omega) elo
  ·rw [her'.mks,tlOf_stash,List.map_append,List.map_append,← List.append_assoc]
   congr 1
   ·congr 1
    ·exact List.map_congr_left fun i hi=>by rw [elo i (her'.mkb i hi)]
    ·simp only [shiftT,List.map_map]
     refine List.map_congr_left fun t ht=>?_
     have:=hT.2 t ht
     simp only [Function.comp_apply]
     rw [ehi _ (by omega),show σ.length+(t - σ.length+σ'.length - σ'.length)=t by omega]
   ·rw [List.map_map];rfl
  ·rcases List.mem_append.1 hi with hi|hi
   ·have:=her'.mkb i hi;omega
   ·have:=hT.shift (m:=σ'.length) |>.2 i hi;omega
end
def Tl (n0:Nat) (K:Env→List Nat→Heap→Prop):Prop:=∀ e mk σ k T,K e mk σ→n0≤σ.length→Cl σ→ECl σ.length e→(∀ i ∈ mk,i < σ.length)→TOk σ.length k T→K e (mk++T) (σ++dfs k)
def TailQ (n0:Nat) (Q:Post):Prop:=∀ ex,Tl n0 (Q ex)
section
variable {P:Program} {n0 N:Nat} {rd:Option Nat} {Q:Post}
theorem W_tail {c:Code} (hrd:rdok rd n0=true) (hQ:TailQ n0 Q):Tl n0 (WCode P n0 N rd c Q):=by
 intro e mk σ k T h h0 hc he hmk hT G w0 ρ0 A w hi
 obtain ⟨G',w0',ρ0',h1,h2,h3⟩:=inv_hide hi h0 hT hmk hc he
 have h4:=h G' w0' ρ0' A w h1
 rw [fen_congr (ρ:=ρ0) (ρ':=ρ0') fun l hl=>h2 l (rdok_lt hrd l hl)] at h4
 refine wpIn_mono h4 ?_
 rintro ex A' w' ⟨e',mk',σ',q,hi'⟩
 have hi2:=hi'
 obtain ⟨g0,ρ',_,hs',her'⟩:=hi2
 exact ⟨e',_,_,hQ ex e' mk' σ' k _ q g0 (Cl.of hs') (ECl.of her'.tmps) her'.mkb hT.shift,h3 _ _ _ _ _ hi'⟩
theorem tail_then {K:Env→List Nat→Heap→Prop} (hK:Tl n0 K) (hQ:TailQ n0 Q):TailQ n0 (thenQ K Q):=fun ex=>by
 cases ex with
 |normal=>exact hK
 |_=>exact hQ _
theorem tail_block {id:Nat} (hQ:TailQ n0 Q):TailQ n0 (blockQ id Q):=fun ex=>by
 cases ex with
 |exit id' =>
  intro e mk σ k T h h0 hc he hmk hT
  change (if id'=id then Q .normal e mk σ else Q (.exit id') e mk σ) at h
  change (if id'=id then Q .normal e (mk++T) (σ++dfs k) else Q (.exit id') e (mk++T) (σ++dfs k))
  by_cases hid:id'=id
  ·rw [if_pos hid] at h ⊢;exact hQ _ _ _ _ _ _ h h0 hc he hmk hT
  ·rw [if_neg hid] at h ⊢;exact hQ _ _ _ _ _ _ h h0 hc he hmk hT
 |_=>exact hQ _
theorem tail_scope (hQ:TailQ n0 Q):TailQ n0 (scopeQ Q):=fun ex=>by
 cases ex with
 |goto l=>intro e mk σ k T h;exact h.elim
 |_=>exact hQ _
theorem killAll_app:∀ (mk:List Nat) (σ X:Heap),(∀ i ∈ mk,i < σ.length)→killAll mk (σ++X)=killAll mk σ++X
 |[],_,_,_=>rfl
 |i::mk,σ,X,h=>by
  simp only [killAll]
  rw [List.set_append_left _ _ (h i (by simp)),killAll_app mk (σ.set i .dead) X fun j hj=>by rw [List.length_set];exact h j (by simp [hj])]
theorem killAll_two (mk T:List Nat) (σ:Heap):killAll (mk++T) σ=killAll T (killAll mk σ):=by
 induction mk generalizing σ with
 |nil=>rfl
 |cons i mk ih=>exact ih _
theorem killAll_tail:∀ (T:List Nat) (σ X:Heap),(∀ t ∈ T,σ.length≤t)→∃ Y,killAll T (σ++X)=σ++Y
 |[],_,X,_=>⟨X,rfl⟩
 |t::T,σ,X,h=>by
  simp only [killAll]
  rw [List.set_append_right _ _ (h t (by simp))]
  exact killAll_tail T σ _ fun u hu=>h u (by simp [hu])
theorem cellsAt_app {σ:Heap} {b o n:Nat} {cs:List Value} (X:Heap) (h:cellsAt σ b o n=some cs):cellsAt (σ++X) b o n=some cs:=by
 have hb:b < σ.length:=by
  apply Classical.byContradiction;intro hn
  have:σ[b]?=none:=List.getElem?_eq_none (by omega)
  simp only [cellsAt,this] at h
  cases h
 have e1:(σ++X)[b]?=σ[b]?:=List.getElem?_append_left hb
 unfold cellsAt at h ⊢
 rw [e1];exact h
theorem cellGet_app {σ:Heap} {b o:Nat} {v:Value} (X:Heap) (h:cellGet σ b o=some v):cellGet (σ++X) b o=some v:=by
 have hb:b < σ.length:=by
  apply Classical.byContradiction;intro hn
  have:σ[b]?=none:=List.getElem?_eq_none (by omega)
  simp only [cellGet,this] at h
  cases h
 have e1:(σ++X)[b]?=σ[b]?:=List.getElem?_append_left hb
 unfold cellGet at h ⊢
 rw [e1];exact h
theorem resok_app {e:Env} {σ:Heap} (X:Heap) {rv:List ResultVar} {vs:List Value} (h:ResOk P e σ rv vs):ResOk P e (σ++X) rv vs:=by
 induction h with
 |nil=>exact .nil
 |tmp h _ ih=>exact .tmp h ih
 |cellN ht h hc _ ih=>exact .cellN ht h (cellsAt_app X hc) ih
 |cell1 ht h hc _ ih=>exact .cell1 ht h (cellGet_app X hc) ih
theorem osub_app {σ:Heap} {n:Nat} {π:Rho} {p:Pl} {o:AObj} (X:Heap) (h:OSub σ n π p o):OSub (σ++X) n π p o:=by
 have g:∀ (i:Nat) (x:AObj),σ[i]?=some x→(σ++X)[i]?=some x:=fun i x hx=>by rw [List.getElem?_append_left (idx_lt hx)];exact hx
 cases o with
 |dead=>trivial
 |ro cs=>exact h.imp id fun ⟨c,h1,h2⟩=>⟨c,g _ _ h1,h2⟩
 |rw cs=>exact h.imp id fun ⟨h0,c,h1,h2⟩=>⟨h0,c,h1.imp (g _ _) fun ⟨t,ht⟩=>⟨t,g _ _ ht⟩,h2⟩
 |gr cs t=>exact h.imp id fun ⟨h0,c,h1,h2⟩=>⟨h0,c,g _ _ h1,h2⟩
 |dfr=>exact g _ _ h
 |loop st pend N e params assign body=>obtain ⟨e1,h1,h2⟩:=h;exact ⟨e1,g _ _ h1,h2⟩
 |map es=>obtain ⟨es',h1,h2⟩:=h;exact ⟨es',g _ _ h1,h2⟩
 |iter m seen=>exact ⟨h.1,g _ _ h.2.1,h.2.2⟩
 |deep qs sp=>exact ⟨h.1,h.2.1.imp id fun ⟨sp',h1⟩=>⟨sp',g _ _ h1⟩,fun x hx=>let ⟨q1,s1,h1,h2⟩:=h.2.2 x hx;⟨q1,s1,g _ _ h1,h2⟩⟩
theorem osub_mono {σ:Heap} {n m:Nat} {π π':Rho} {p:Pl} {o:AObj} (h:OSub σ n π p o) (hn:n≤m) (hπ:∀ i<n,π' i=π i):OSub σ m π' p o:=by
 cases o with
 |dead=>trivial
 |ro cs=>exact h.imp id fun ⟨c,h1,h2⟩=>⟨c,h1,fun k hk=>let ⟨a,b⟩:=h2 k hk;⟨a,b.mono hn hπ⟩⟩
 |rw cs=>exact h.imp id fun ⟨h0,c,h1,h2,h3⟩=>⟨h0,c,h1,h2,fun k hk hk'=>(h3 k hk hk').mono hn hπ⟩
 |gr cs t=>exact h.imp id fun ⟨h0,c,h1,h2,h3⟩=>⟨h0,c,h1,h2,fun k hk hk'=>(h3 k hk hk').mono hn hπ⟩
 |dfr=>exact h
 |loop st pend N e params assign body =>
  obtain ⟨e1,h1,h2⟩:=h
  refine ⟨e1,h1,fun t v hv=>?_⟩
  obtain ⟨u,a,b⟩:=h2 t v hv
  exact ⟨u,a,b.mono hn hπ⟩
 |map es =>
  obtain ⟨es',h1,h2,h3⟩:=h
  exact ⟨es',h1,h2,fun i hi hi'=>⟨(h3 i hi hi').1,(h3 i hi hi').2.mono hn hπ⟩⟩
 |iter k seen=>exact ⟨Nat.lt_of_lt_of_le h.1 hn,by rw [hπ k h.1];exact h.2.1,h.2.2⟩
 |deep qs sp=>exact ⟨h.1,h.2.1,fun x hx=>let ⟨q1,s1,h1,v,h2,h3⟩:=h.2.2 x hx;⟨q1,s1,h1,v,h2,h3.mono hn hπ⟩⟩
theorem href_app {m:Nat} {π:Rho} {σ σ2:Heap} (X:Heap) (h:HRef m π σ σ2):HRef m π (σ++X) σ2:=⟨h.le,h.id,fun i o hi=>osub_app X (h.obj i o hi),h.inj⟩
theorem href_self {m:Nat} {σ:Heap} (hm:m≤σ.length) (hc:Cl σ):HRef m (fun i=>⟨i,0,0⟩) σ σ :=
 ⟨hm,fun _ _=>rfl,fun i o hi=>osub_refl (m:=σ.length) (fun _ _=>rfl) (Nat.le_refl _) (idx_lt hi) hi (hc i o hi),fun _i _j _oi _oj _hi _hj _ _ h=>h⟩
theorem cl_kill {σ:Heap} (hc:Cl σ):∀ mk:List Nat,Cl (killAll mk σ):=fun mk=>by
 induction mk generalizing σ with
 |nil=>exact hc
 |cons i mk ih =>
  refine ih fun j o hj=>?_
  rw [List.length_set]
  rcases getElem?_set' hj with ⟨_,rfl⟩|⟨_,h⟩
  ·trivial
  ·exact hc j o h
theorem retref_app {σin σ:Heap} {v v2:Value} {σ2:Heap} (X:Heap) (h:RetRef σin σ v v2 σ2) (hle:σin.length≤σ.length) (hc:Cl σ) (hv:closed σ.length v=true∧okV v=true):RetRef σin (σ++X) v v2 σ2:=by
 rcases h with ⟨rfl,rfl⟩|h
 ·exact .inr fun _=>⟨fun i=>⟨i,0,0⟩,href_app X (href_self hle hc),vsub_refl (fun _ _=>rfl) (Nat.le_refl _) _ hv.1 hv.2⟩
 ·exact .inr fun hin=>by
   obtain ⟨π,h1,h2⟩:=h hin
   exact ⟨π,href_app X h1,h2⟩
theorem resok_closed {e:Env} {σ:Heap} (hc:Cl σ) (he:ECl σ.length e) {rv:List ResultVar} {vs:List Value} (h:ResOk P e σ rv vs):closedL σ.length vs=true∧okL vs=true:=by
 have hcells:∀ {b o n:Nat} {cs:List Value},cellsAt σ b o n=some cs→closedL σ.length cs=true∧okL cs=true:=fun {b o n cs} h=>by
  have sub:∀ l:List Value,(closedL σ.length l=true∧okL l=true)→closedL σ.length ((l.drop o).take n)=true∧okL ((l.drop o).take n)=true:=fun l hl =>
   ⟨(closedL_iff _ _).2 fun v hv=>(closedL_iff _ _).1 hl.1 v (List.mem_of_mem_drop (List.mem_of_mem_take hv)),(okL_iff _).2 fun v hv=>(okL_iff _).1 hl.2 v (List.mem_of_mem_drop (List.mem_of_mem_take hv))⟩
  unfold cellsAt at h
  cases hb:σ[b]? with
  |none=>rw [hb] at h;cases h
  |some x =>
   rw [hb] at h
   have hx:=hc b x hb
   have fin:∀ l0:List Value,(closedL σ.length l0=true∧okL l0=true)→(bif Nat.ble (o+n) l0.length then some ((l0.drop o).take n) else none)=some cs→closedL σ.length cs=true∧okL cs=true:=fun l0 hl h=>by
    cases hb2:Nat.ble (o+n) l0.length with
    |true=>rw [hb2] at h;cases h;exact sub _ hl
    |false=>rw [hb2] at h;cases h
   cases x with
   |ro l0=>exact fin l0 hx h
   |rw l0=>exact fin l0 hx h
   |gr l0 t=>exact fin l0 hx h
   |deep qs sp =>
    simp only at h
    cases hn:Nat.beq n 1 with
    |false=>rw [hn] at h;cases h
    |true =>
     simp only [hn,cond_true,Option.map_eq_some_iff] at h
     obtain ⟨v,hv,rfl⟩:=h
     have:=hx _ (spGet_mem hv)
     exact ⟨by simp [closedL,this.1],by simp [okL,this.2]⟩
   |_=>cases h
 induction h with
 |nil=>exact ⟨rfl,rfl⟩
 |tmp h _ ih =>
  have:=he _ _ h
  exact ⟨by simp [closedL,this.1,ih.1],by simp [okL,this.2,ih.2]⟩
 |cellN ht h hcs _ ih =>
  have:=hcells hcs
  exact ⟨by simp [closedL,closed,closedA,this.1,ih.1],by simp [okL,okV,okA,this.2,ih.2]⟩
 |cell1 ht h hcs _ ih =>
  have:=hcells (cellGet_at hcs)
  have h1:=(closedL_iff _ _).1 this.1 _ (List.mem_singleton.2 rfl)
  have h2:=(okL_iff _).1 this.2 _ (List.mem_singleton.2 rfl)
  exact ⟨by simp [closedL,h1,ih.1],by simp [okL,h2,ih.2]⟩
theorem retV_closed {n:Nat} {vs:List Value} (h:closedL n vs=true∧okL vs=true):closed n (retV vs)=true∧okV (retV vs)=true:=by
 match vs,h with
 |[],_=>exact ⟨rfl,rfl⟩
 |[v],h=>exact ⟨(closedL_iff _ _).1 h.1 v (by simp),(okL_iff _).1 h.2 v (by simp)⟩
 |v::v2::vs,h=>exact ⟨h.1,h.2⟩
theorem tail_ret {σin:Heap} {rv:List ResultVar} {R:Value→Heap→Prop} (hle:Nat.ble σin.length n0=true):TailQ n0 (retQ P σin rv R):=fun ex=>by
 have key:Tl n0 (retQ P σin rv R .ret):=by
  rintro e mk σ k T ⟨hnd,hm,vs,v2,σ2,hr,href,hR⟩ h0 hc he hmk hT
  have hl:=Nat.le_of_ble_eq_true hle
  obtain ⟨Y,hY⟩:=killAll_tail T (killAll mk σ) (dfs k) fun t ht=>by rw [killAll_length];exact (hT.2 t ht).1
  have e1:killAll (mk++T) (σ++dfs k)=killAll mk σ++Y:=by rw [killAll_two,killAll_app mk σ _ hmk,hY]
  have hck:=cl_kill hc mk
  refine ⟨List.nodup_append.2 ⟨hnd,hT.1,fun a ha b hb=>?_⟩,fun i hi=>?_,vs,v2,σ2,?_,?_,hR⟩
  ·have:=hmk a ha;have:=hT.2 b hb;omega
  ·rcases List.mem_append.1 hi with hi|hi
   ·exact dfs_lt (hm i hi)
   ·have:=hT.2 i hi;exact dfs_at this.1 this.2
  ·rw [e1];exact resok_app Y hr
  ·rw [e1]
   exact retref_app Y href (by rw [killAll_length];omega) hck (retV_closed (resok_closed hck (by rw [killAll_length];exact he) hr))
 cases ex with
 |normal=>exact key
 |ret=>exact key
 |_=>intro e mk σ k T h;exact h.elim
end
def StRefD (n0:Nat) (σ:Heap) (e:Env) (mk:List Nat) (σ2:Heap) (e2:Env):Prop :=
 Cl σ→ECl σ.length e→∃ π k T,HRef n0 π σ (σ2++dfs k)∧ERef σ2.length π e e2∧mk=T.map (fun t=>(π t).b)∧TOk σ2.length k T
section
variable {P:Program} {n0 N:Nat} {rd:Option Nat} {Q:Post} {e e2:Env} {σ σ2:Heap} {mk:List Nat}
theorem StRefD.of (h:StRef n0 σ σ2 e e2) (hn:n0≤σ2.length):StRefD n0 σ e [] σ2 e2:=fun hc he=>by
 rcases h with ⟨rfl,h⟩|h
 ·refine ⟨fun i=>⟨i,0,0⟩,0,[],by simpa [dfs] using href_self hn hc,fun p hp=>?_,rfl,List.nodup_nil,fun t ht=>by simp at ht⟩
  have:=envSub_mem h p hp
  exact ⟨_,this,vsub_refl (fun _ _=>rfl) (Nat.le_refl _) _ (he _ _ this).1 (he _ _ this).2⟩
 ·obtain ⟨π,h1,h2⟩:=h hc
  exact ⟨π,0,[],by simpa [dfs] using h1,h2,rfl,List.nodup_nil,fun t ht=>by simp at ht⟩
theorem osubs_snoc {σ:Heap} {n:Nat} {π:Rho} {o:AObj}:∀ {news:Heap} {k:Nat},OSubs σ n π k news→OSub σ n π (π (k+news.length)) o→OSubs σ n π k (news++[o])
 |[],k,_,h=>⟨h,trivial⟩
 |x::r,k,h,ho=>⟨h.1,osubs_snoc h.2 (by rw [show k+1+r.length=k+(x::r).length from by simp;omega];exact ho)⟩
theorem StRefD.src (σ0 news:Heap) (l:List Nat) (d:Nat) (hn0:n0≤σ0.length) (hσ:σ.take σ0.length=σ0) (hcl:HClosed σ0.length σ0) (hl:l.length=news.length) (hd:distinctFrom σ0.length (l++[d])=true) (hdf:σ[d]?=some .dfr)
  (ho:OSubs σ (σ0.length+(news.length+1)) (srcR σ0.length (l++[d])) σ0.length news) (he:EnvRen (σ0.length+news.length) (srcR σ0.length (l++[d])) e e2):StRefD n0 σ e [d] (σ0++news) e2:=fun _ _=>by
 have hs:srcR σ0.length (l++[d]) (σ0.length+news.length)=⟨d,0,0⟩:=by
  simp only [srcR]
  rw [if_neg (by omega),show σ0.length+news.length - σ0.length=l.length by omega]
  simp
 have h1:=href_src (n0:=n0) (σ:=σ) (σ0:=σ0) (news:=news++[.dfr]) (l++[d]) hn0 hσ hcl (by simp [hl]) hd (by
  rw [show (news++[AObj.dfr]).length=news.length+1 by simp]
  exact osubs_snoc ho (by rw [hs];exact hdf))
 refine ⟨_,1,[σ0.length+news.length],by simpa [dfs,List.append_assoc] using h1,by rw [List.length_append];exact envRen_ref he,by simp [hs],by simp,fun t ht=>?_⟩
 rw [List.mem_singleton.1 ht,List.length_append];omega
theorem inv_refD {G:Nat→Prop} {w0:World} {ρ0:Rho} {A:Act} {w:World} (h:StRefD n0 σ e mk σ2 e2) (hi:Inv n0 N G w0 ρ0 e mk σ A w) (_hc2:HClosed σ2.length σ2):∃ k T,TOk σ2.length k T∧Inv n0 N G w0 ρ0 e2 T (σ2++dfs k) A w∧ECl σ2.length e2:=by
 obtain ⟨h0,ρ,ha,hs,ht,hmk,hmb⟩:=hi
 obtain ⟨π,k,T,h1,h2,h3,h4⟩:=h (Cl.of hs) (ECl.of ht)
 have hlen:=dfs_len σ2 k
 refine ⟨k,T,h4,⟨h1.le,comp ρ π,fun i hi=>(comp_id (h1.id i hi)).trans (ha i hi),sim_ref h1 hs,trel_mono (trel_ref h2 ht) (by omega) (fun _ _=>rfl),?_,fun i hi=>by have:=h4.2 i hi;omega⟩,fun t v hv=>?_⟩
 ·rw [hmk,h3,List.map_map];rfl
 ·obtain ⟨u,_,h6⟩:=h2 _ (env_mem hv)
  exact ⟨vq_closed h6,vq_ok h6⟩
theorem tail_st {σ2:Heap} {e2:Env} {k:Nat} {T:List Nat} (h:StRefD n0 σ e mk σ2 e2) (hc:Cl σ) (he:ECl σ.length e) (_hmk:∀ i ∈ mk,i < σ.length) (hT:TOk σ.length k T):StRefD n0 (σ++dfs k) e (mk++T) σ2 e2:=fun _ _=>by
 obtain ⟨π,k1,T1,h1,h2,h3,h4⟩:=h hc he
 have hl1:=dfs_len σ2 k1
 have hle:=h1.le
 have elo:∀ i<(σ2++dfs k1).length,joinR (σ2.length+k1) π σ.length (fun i=>⟨i,0,0⟩) i=π i:=fun i hi=>joinR_lt (by omega)
 have ehi:∀ i,σ2.length+k1≤i→joinR (σ2.length+k1) π σ.length (fun i=>⟨i,0,0⟩) i=⟨σ.length+(i - (σ2.length+k1)),0,0⟩:=fun i hi=>joinR_ge hi
 have vs:∀ {m:Nat} {v v':Value},m≤(σ2++dfs k1).length→VSub m π v v'→VSub m (joinR (σ2.length+k1) π σ.length (fun i=>⟨i,0,0⟩)) v v':=fun {m v v'} hm h=>h.mono (Nat.le_refl _) fun i hi=>elo i (by omega)
 have hdk:(σ2++dfs k1).length≤(σ2++dfs (k1+k)).length:=by rw [hl1,dfs_len];omega
 refine ⟨joinR (σ2.length+k1) π σ.length (fun i=>⟨i,0,0⟩),k1+k,T1++shiftT σ.length (σ2.length+k1) T,⟨by rw [← dfs_dfs,dfs_len];omega,fun i hi=>(elo i (by omega)).trans (h1.id i hi),fun i o hi=>?_,fun i j oi oj hi hj hoi hoj hij=>?_⟩,fun p hp=>?_,?_,h4.app hT.shift⟩
 ·rw [← dfs_dfs] at hi
  rcases dfs_get hi with ⟨g1,g2⟩|⟨g1,g2,rfl⟩
  ·rw [elo i g1]
   exact osub_app _ (osub_mono (h1.obj i o g2) hdk elo)
  ·rw [ehi i (by omega)]
   exact dfs_at (by simp only;omega) (by simp only;omega)
 ·rw [← dfs_dfs] at hi hj
  have own:∀ i oi,(σ2++dfs k1)[i]?=some oi→oi.owned→(π i).b < σ.length:=fun i oi hi ho=>by
   obtain ⟨o,h,_⟩:=osub_owned (h1.obj i oi hi) ho
   exact idx_lt h
  rcases dfs_get hi with ⟨g1,g2⟩|⟨g1,g2,rfl⟩ <;> rcases dfs_get hj with ⟨f1,f2⟩|⟨f1,f2,rfl⟩
  ·rw [elo i g1,elo j f1] at hij
   exact h1.inj i j oi oj g2 f2 hoi hoj hij
  ·have:=own i oi g2 hoi
   rw [elo i g1,ehi j (by omega)] at hij
   simp only at hij;omega
  ·have:=own j oj f2 hoj
   rw [elo j f1,ehi i (by omega)] at hij
   simp only at hij;omega
  ·rw [ehi i (by omega),ehi j (by omega)] at hij
   simp only at hij;omega
 ·obtain ⟨u,g1,g2⟩:=h2 p hp
  exact ⟨u,g1,vs (by omega) g2⟩
 ·rw [List.map_append,h3]
  congr 1
  ·exact List.map_congr_left fun t ht=>by rw [elo t (by have:=h4.2 t ht;omega)]
  ·simp only [shiftT,List.map_map]
   refine (List.map_id T).symm.trans (List.map_congr_left fun t ht=>?_)
   have:=hT.2 t ht
   simp only [Function.comp_apply,id]
   rw [ehi _ (by omega)]
   simp only;omega
theorem tail_loopD {ι:Type} {E:ι→Env} {S:ι→Heap} {q:ι→Prop}:Tl n0 (fun e' mk' σ'=>∃ i',q i'∧StRefD n0 σ' e' mk' (S i') (E i')):=by
 rintro e mk σ k T ⟨i',h1,h2⟩ h0 hc he hmk hT
 exact ⟨i',h1,tail_st h2 hc he hmk hT⟩
theorem W_loopD {ι:Type} (E:ι→Env) (S:ι→Heap) (μ:ι→Nat) (p:ι→Prop) (i0:ι) {body:Code} (hrd:rdok rd n0=true) (hQ:TailQ n0 Q) (hn:∀ i,n0≤(S i).length) (hc:∀ i,p i→HClosed (S i).length (S i)) (h0:StRefD n0 σ e mk (S i0) (E i0)) (hp:p i0)
  (round:∀ i,p i→WCode P n0 N rd body (thenQ (fun e' mk' σ'=>∃ i',(p i'∧μ i' < μ i)∧StRefD n0 σ' e' mk' (S i') (E i')) Q) (E i) [] (S i)):WCode P n0 N rd (.loop body) Q e mk σ:=by
 have cl:∀ i,p i→Cl (S i):=fun i hi j o hj=>hclosed_get (hc i hi) j o hj
 have main:∀ i k T,p i→TOk (S i).length k T→ECl (S i).length (E i)→WCode P n0 N rd (.loop body) Q (E i) T (S i++dfs k):=by
  intro i k T hpi hT he
  refine W_loop (fun m e1 mk1 σ1=>∃ i k T,p i∧μ i=m∧e1=E i∧mk1=T∧σ1=S i++dfs k∧TOk (S i).length k T∧ECl (S i).length (E i)) (m0:=μ i) ⟨i,k,T,hpi,rfl,rfl,rfl,rfl,hT,he⟩ ?_
  rintro m e1 mk1 σ1 ⟨i,k,T,hpi,rfl,rfl,rfl,rfl,hT,he⟩ G w0 ρ0 A w hi
  obtain ⟨G',w0',ρ0',h1,h2,h3⟩:=inv_hide (mk:=[]) hi (hn i) hT (fun i hi=>by simp at hi) (cl i hpi) he
  have h4:=round i hpi G' w0' ρ0' A w h1
  rw [fen_congr (ρ:=ρ0) (ρ':=ρ0') fun l hl=>h2 l (rdok_lt hrd l hl)] at h4
  refine wpIn_mono h4 ?_
  rintro ex A' w' ⟨e',mk',σ',q,hi'⟩
  have hi2:=hi'
  obtain ⟨g0,ρ',_,hs',her'⟩:=hi2
  cases ex with
  |normal =>
   obtain ⟨i',⟨q1,q2⟩,q3⟩:=q
   obtain ⟨k',T',r1,r2,r3⟩:=inv_refD q3 hi' (hc i' q1)
   have r4:=h3 _ _ _ _ _ r2
   rw [dfs_dfs] at r4
   rw [dfs_len] at r4
   exact ⟨E i',_,_,⟨μ i',q2,i',k'+k,_,q1,rfl,rfl,rfl,rfl,r1.app hT.shift,r3⟩,r4⟩
  |_=>exact ⟨e',_,_,hQ _ e' mk' σ' k _ q g0 (Cl.of hs') (ECl.of her'.tmps) her'.mkb hT.shift,h3 _ _ _ _ _ hi'⟩
 intro G w0 ρ0 A w hi
 obtain ⟨k,T,r1,r2,r3⟩:=inv_refD h0 hi (hc i0 hp)
 exact main i0 k T hp r1 r3 G w0 ρ0 A w r2
end
end Go.AH.Tail
namespace Go.AH.Dust
open Go Go.AH
def mostF (S:Shp) (m:Nat→Int) (i:Nat):Nat→Int
 |0=>-1
 |k+1=>if (gf S.f k).1=i∧0≤m (gf S.f k).2.toNat then max (mostF S m i k) (gi S.d i+m (gf S.f k).2.toNat) else mostF S m i k
def most (S:Shp):Nat→Nat→Int
 |0,i=>gi S.d i
 |h+1,i=>mostF S (most S h) i S.f.length
theorem mostF_bound {S:Shp} (hS:S.ok) {m:Nat→Int} {B:Int} (hB:0≤B) (hm:∀ i,i<S.d.length→-1≤m i∧m i≤B) {i:Nat} (hi:i<S.d.length):∀ k,k≤S.f.length→-1≤mostF S m i k∧mostF S m i k≤B+1000
 |0,_=>by simp only [mostF];omega
 |k+1,hk=>by
  have ih:=mostF_bound hS hB hm hi k (by omega)
  have hd:=hS.d i hi
  have hf:=(hS.f k (by omega)).2.1
  have hb:=hm (gf S.f k).2.toNat (by omega)
  simp only [mostF]
  split <;> omega
theorem most_bound {S:Shp} (hS:S.ok):∀ (h i:Nat),i<S.d.length→-1≤most S h i∧most S h i≤1000*((h:Int)+1)
 |0,i,hi=>by have:=hS.d i hi;simp only [most];omega
 |h+1,i,hi=>by
  have:=mostF_bound hS (m:=most S h) (B:=1000*((h:Int)+1)) (by omega) (fun j hj=>most_bound hS h j hj) hi S.f.length (Nat.le_refl _)
  simp only [most];omega
def rowM (S:Shp) (h i:Nat):Int:=if i<S.d.length then most S h i else 0
def rowsC (S:Shp):Nat→List Value
 |0=>[]
 |h+1=>rowsC S h++rx (rowM S h)
theorem rowsC_len (S:Shp):∀ h,(rowsC S h).length=h*10
 |0=>rfl
 |h+1=>by rw [rowsC,List.length_append,rowsC_len S h];simp [rx];omega
theorem rowsC_plain (S:Shp):∀ h,plainL (rowsC S h)=true
 |0=>rfl
 |h+1=>by rw [rowsC,plainL_append,rowsC_plain S h];rfl
theorem rowsC_at (S:Shp):∀ {h j b:Nat},j<h→b<10→(rowsC S h)[j*10+b]?=some (.int .i64 (rowM S j b))
 |0,_,_,h,_=>by omega
 |h+1,j,b,hj,hb=>by
  have hl:=rowsC_len S h
  rw [rowsC]
  by_cases hjh:j=h
  ·subst hjh
   rw [List.getElem?_append_right (by omega),hl,show j*10+b - j*10=b by omega];exact rx_get hb
  ·rw [List.getElem?_append_left (by omega)];exact rowsC_at S (by omega) hb
theorem ok_idxVI {P:Program} {rd:Option Nat} {ty:TypeId} {e:Env} {σ:Heap} {x y:Operand} {t el size bytes i n sz:Nat} {j:Int} {agg:Bool} {z:Value} [ha:Sl P t el] [ht:Ty P el size agg z bytes] (h:evalO e x=some (slvV i sz n)) (hy:evalO e y=some (.int .i64 j))
  (h0:0≤j) (h1:j<n):OpOk P rd (.indexAddr t x y) ty e σ (.pointer (some ⟨i,j.toNat*size,none⟩)) σ:=by
 cases n with
 |zero=>omega
 |succ n=>exact ok_idxG (P:=P) (rd:=rd) (ty:=ty) (σ:=σ) (t:=t) (ha:=ha) (ht:=ht) (i:=i) (n:=n+1) (c:=n+1) (sz:=sz) h hy h0 h1
end Go.AH.Dust
