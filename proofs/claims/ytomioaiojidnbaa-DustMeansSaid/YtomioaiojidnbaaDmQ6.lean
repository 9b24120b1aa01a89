/- The argument of a law of dust that is a shop. -/
import Derived.Test.YtomioaiojidnbaaDmQ5
import Derived.Test.YtomioaiojidnbaaDmMM
import Derived.OpenShut
import Derived.Test.YtomioaiojidnbaaDmQ1
import Derived.Deep.Slices
namespace Go.AH.Dust
open Go Go.AH
def u8s (l:List Int):List Value:=l.map (.int .u8)
end Go.AH.Dust
namespace Go.Proofs.Ytomioaiojidnbaa
open Go Go.AH
attribute [local irreducible] WOps WCode WFree retQ thenQ blockQ scopeQ OpOk ACall RetRef roundA roundB
set_option maxRecDepth 100000
set_option maxHeartbeats 1000000
open Go.AH.Dust
end Go.Proofs.Ytomioaiojidnbaa
namespace Go.AH.Dust
open Go Go.AH
theorem shS_parts {x y z w o:Nat} {S:Shp} {v:Value} (h:ShS x y z S v):VSub 4 (psR [(x,0),(y,0),(z,0),(w,o)]) (shV 0 1 2 S) v:=by
 refine VQ.mono h (by omega) fun i hi=>?_
 match i,hi with
 |0,_=>rfl
 |1,_=>rfl
 |2,_=>rfl
theorem PS.four {x y z w o k:Nat} {v:Value} (h:PS w o k v):VSub 4 (psR [(x,0),(y,0),(z,0),(w,o)]) (sl 3 k) v:=by
 unfold PS at h
 cases h with
 |emptySlice i o a c=>exact .emptySlice _ _ _ _
 |slice i o l c c' hc hi=>exact (VQ.slice (q:=true) (n:=4) (ρ:=psR [(x,0),(y,0),(z,0),(w,_)]) 3 0 k k c' hc (by omega))
 |sliceG i o l c c' sz hc hi hq=>exact (VQ.sliceG (q:=true) (n:=4) (ρ:=psR [(x,0),(y,0),(z,0),(w,_)]) 3 0 k k c' sz hc (by omega) hq)
end Go.AH.Dust
namespace Go.Proofs.Ytomioaiojidnbaa
open Go Go.AH
attribute [local irreducible] WOps WCode WFree retQ thenQ blockQ scopeQ OpOk ACall RetRef roundA roundB
set_option maxRecDepth 100000
set_option maxHeartbeats 1000000
open Go.AH.Dust
end Go.Proofs.Ytomioaiojidnbaa
namespace Go.AH.Dust
open Go Go.AH
noncomputable def rdB (S:Shp) (l:List Int):Bool:=decide (runE S l=0∧(gi l (l.length - 1),gi l 0) ∈ S.f∧∀ i,i<l.length→gi l i ∉ l.take i)
theorem mem_takeI {l:List Int} {i:Nat} {x:Int}:x ∈ l.take i↔∃ j,j<i∧j<l.length∧gi l j=x:=by
 rw [List.mem_take_iff_getElem]
 constructor
 ·rintro ⟨j,hj,rfl⟩
  have h2:j<l.length:=by omega
  exact ⟨j,by omega,h2,by unfold gi;rw [List.getD_eq_getElem?_getD,List.getElem?_eq_getElem h2];rfl⟩
 ·rintro ⟨j,h1,h2,rfl⟩
  exact ⟨j,by omega,by unfold gi;rw [List.getD_eq_getElem?_getD,List.getElem?_eq_getElem h2];rfl⟩
theorem rdB_of {S:Shp} (h0:shopE S=0) {a b:Int} {r:List Int} (h:RndP S a b r):rdB S r=true∧runE S r=0∧runV S r=sumK S r r.length:=by
 have n10:=(shopE_zero h0).n10
 have hl:=h.len
 have hne:=h.ne
 have hw:=h.wk 0 hne
 have w1:=hw.1
 have hE:rowE S (gRun S) r=0:=by
  unfold rowE
  rw [if_neg (by omega),if_neg (fun hn=>hn h.wk),if_pos ⟨by unfold gRun;rw [rB_iff,show (((gi r 0).toNat:Nat):Int)=gi r 0 by omega];exact h.rch,h.ch⟩]
 have hR:runE S r=0:=by unfold runE;rw [if_pos h0];exact hE
 refine ⟨decide_eq_true ⟨hR,h.cl,fun i hi hm=>?_⟩,hR,by unfold runV rowV;rw [if_pos h0,if_pos hE]⟩
 obtain ⟨j,j1,j2,j3⟩:=mem_takeI.1 hm
 have:=h.nd j i j2 hi j3
 omega
end Go.AH.Dust
namespace Go.Proofs.Ytomioaiojidnbaa
open Go Go.AH
attribute [local irreducible] WOps WCode WFree retQ thenQ blockQ scopeQ OpOk ACall RetRef roundA roundB
set_option maxRecDepth 100000
set_option maxHeartbeats 1000000
open Go.AH.Dust
theorem isRound_ok (S:Shp) (hS:S.fit) (l:List Int) (hN:l.length≤9223372036854775807):Ev Try.prog 37 [shV 0 1 2 S,sl 3 l.length] [.ro (ints S.d),.ro (pc S.f),.ro (ints S.s),.ro (ints l)] (.bool (rdB S l)) [.ro (ints S.d),.ro (pc S.f),.ro (ints S.s),.ro (ints l)]:=by
 have hA:=refRun_ev (σ:=[.ro (ints S.d),.ro (pc S.f),.ro (ints S.s),.ro (ints l),.rw (shL 0 1 2 S)]) (S:=S) (l:=l) (x:=0) (y:=1) (z:=2) (w:=3) ⟨.inl rfl,.inl rfl,.inl rfl⟩ shS_self (.inl rfl) ls_self hS hN rfl
 by_cases hE:runE S l=0
 ·have hlen:1≤l.length:=by
   unfold runE at hE
   by_cases h0:shopE S=0
   ·rw [if_pos h0] at hE;exact (rowE_zero hE).1
   ·rw [if_neg h0] at hE;exact absurd hE h0
  have hfo:=follows_ev (σ:=[.ro (ints S.d),.ro (pc S.f),.ro (ints S.s),.ro (ints l),.rw (shL 0 1 2 S)]) (S:=S) (a:=gi l (l.length - 1)) (b:=gi l 0) (x:=0) (y:=1) (z:=2) ⟨.inl rfl,.inl rfl,.inl rfl⟩ shS_self hS rfl
  have hc1:cellGet [.ro (ints S.d),.ro (pc S.f),.ro (ints S.s),.ro (ints l),.rw (shL 0 1 2 S)] 3 (0+((l.length:Int) - 1).toNat*1)=some (.int .i64 (gi l (l.length - 1))):=by
   rw [show ((l.length:Int) - 1).toNat=l.length - 1 by omega,Nat.zero_add,Nat.mul_one];exact ints_get (by omega)
  have hc2:cellGet [.ro (ints S.d),.ro (pc S.f),.ro (ints S.s),.ro (ints l),.rw (shL 0 1 2 S)] 3 (0+Int.toNat 0*1)=some (.int .i64 (gi l 0)):=ints_get (by omega)
  have hc3:cellGet [.ro (ints S.d),.ro (pc S.f),.ro (ints S.s),.ro (ints l),.rw (shL 0 1 2 S)] 3 0=some (.int .i64 (gi l 0)):=ints_get (by omega)
  have hrd:rdB S l=decide (runE S l=0∧(gi l (l.length - 1),gi l 0) ∈ S.f∧∀ i,i<l.length→gi l i ∉ l.take i):=rfl
  rw [hE] at hA
  generalize runV S l=rv at *
  by_cases hf:(gi l (l.length - 1),gi l 0) ∈ S.f
  ·rw [decide_eq_true hf] at hfo
   refine acall_intro 4 44 Try.func37 rfl rfl rfl rfl rfl ?_
   repeat' (first|(refine gU ?_;first|(refine gMove ?_;refine st (ok_move rfl) rfl rfl ?_)|(refine gAssign ?_;refine st (ok_assign rfl) rfl rfl ?_)|(refine gLoad ?_;refine st (ok_loadA rfl (by rfl)) rfl rfl ?_)|(refine gExtract ?_;refine st (ok_extract rfl rfl) rfl rfl ?_)|(refine gCall ?_;refine st (ok_call rfl rfl rfl (by exact hA)) rfl rfl ?_)|(refine gBox ?_;refine st (ok_box rfl) rfl rfl ?_))|(refine fU ?_;first|(refine fMove ?_;refine frA (ok_move rfl) rfl ?_)|(refine fBin ?_;refine frA (ok_bin rfl rfl rfl) rfl ?_)|(refine fPick ?_;refine frA (ok_pickFA rfl rfl) rfl ?_))|(refine fG ?_;first|refine frGA rfl (ok_call rfl rfl rfl hfo) rfl ?_|(refine fMove ?_;refine frGA rfl (ok_move rfl) rfl ?_)|(refine fLoad ?_;first|refine frGA rfl (ok_load rfl (by first|exact hc1|exact hc2)) rfl ?_|refine frGA rfl (ok_loadA rfl (by rfl)) rfl ?_)|(refine fSub ?_;refine frGA rfl (ok_sub rfl rfl (by omega) (by omega)) rfl ?_)|(refine fLen ?_;refine frGA rfl (ok_len rfl) rfl ?_)|(refine fNot ?_;refine frGA rfl (ok_not' rfl) rfl ?_)|(refine fIA ?_;refine frGA rfl (ok_idx rfl rfl (by omega) (by omega)) rfl ?_))|(refine fr_stop ⟨by kernel_rfl,?_⟩)|refine W_seq ?_|refine W_region ?_|refine W_regionD (by kernel_rfl) rfl ?_|refine st_nil ?_|refine tq_n ?_|refine W_skip ?_|refine W_block ?_|refine W_condFA rfl ?_)
   refine W_loopS (ι:=Nat) (fun i=>[(1,sl 3 l.length),(7,.int .i64 (i:Int))]) (fun _=>[.ro (ints S.d),.ro (pc S.f),.ro (ints S.s),.ro (ints l),.rw (shL 0 1 2 S)]) (fun i=>l.length - i) (fun i=>i≤l.length∧∀ j<i,gi l j ∉ l.take j) 0 (by simp) (.same ⟨rfl,rfl,trivial⟩) ⟨Nat.zero_le _,fun j hj=>by omega⟩ ?_
   clear hfo hA hc1 hc2 hc3
   rintro i ⟨hi,hnd⟩
   by_cases hil:i<l.length
   ·have hc1:cellGet [.ro (ints S.d),.ro (pc S.f),.ro (ints S.s),.ro (ints l),.rw (shL 0 1 2 S)] 3 i=some (.int .i64 (gi l i)):=ints_get hil
    have hc2:cellGet [.ro (ints S.d),.ro (pc S.f),.ro (ints S.s),.ro (ints l),.rw (shL 0 1 2 S)] 3 (0+i*1)=some (.int .i64 (gi l i)):=by rw [Nat.zero_add,Nat.mul_one];exact ints_get hil
    have htl:(l.take i).length=i:=by rw [List.length_take];omega
    have hin:=in51_ev (σ:=[.ro (ints S.d),.ro (pc S.f),.ro (ints S.s),.ro (ints l),.rw (shL 0 1 2 S)]) (l:=l.take i) (p:=gi l i) (x:=3) (o:=0) (v:=.slice (some ⟨3,0,none⟩) i l.length) ⟨ints l,.inl rfl,by simp [ints,List.map_take],by simp [ints];omega⟩ (by rw [htl];exact ps_sl hi) (by omega) rfl
    by_cases hm:gi l i ∈ l.take i
    ·rw [decide_eq_true hm] at hin
     rw [hrd,decide_eq_false (fun h=>h.2.2 i hil hm)]
     generalize gi l i=x at *
     repeat' (first|(refine gU ?_;first|(refine gMove ?_;refine st (ok_move rfl) rfl rfl ?_)|(refine gAssign ?_;refine st (ok_assign rfl) rfl rfl ?_)|(refine gBin ?_;refine st (ok_bin rfl rfl rfl) rfl rfl ?_)|(refine gLen ?_;refine st (ok_len rfl) rfl rfl ?_))|(refine fU ?_;first|refine frA (ok_call rfl rfl rfl hin) rfl ?_|(refine fMove ?_;refine frA (ok_move rfl) rfl ?_)|(refine fLoad ?_;refine frA (ok_load rfl (by exact hc1)) rfl ?_)|(refine fIA ?_;refine frA (ok_idxN rfl rfl (by omega)) rfl ?_)|(refine fSlice ?_;refine frA (ok_sliceH rfl rfl (by omega)) rfl ?_))|(refine fr_stop ⟨by kernel_rfl,?_⟩)|refine W_seq ?_|refine W_region ?_|refine W_regionD (by kernel_rfl) rfl ?_|refine st_nil ?_|refine tq_n ?_|refine tq_r ?_|refine bq_r ?_|refine W_skip ?_|refine W_ret ?_|refine W_block ?_|refine W_condTA rfl ?_)
     exact ret0 (.tmp rfl .nil) (.plain rfl rfl) ⟨rfl,rfl⟩
    ·rw [decide_eq_false hm] at hin
     have hnd2:∀ j<i+1,gi l j ∉ l.take j:=fun j hj=>by
      by_cases hji:j=i
      ·subst hji;exact hm
      ·exact hnd j (by omega)
     generalize gi l i=x at *
     repeat' (first|(refine gU ?_;first|(refine gMove ?_;refine st (ok_move rfl) rfl rfl ?_)|(refine gAssign ?_;refine st (ok_assign rfl) rfl rfl ?_)|(refine gAdd ?_;refine st (ok_inc rfl rfl (by omega)) rfl rfl ?_)|(refine gBin ?_;refine st (ok_bin rfl rfl rfl) rfl rfl ?_)|(refine gLen ?_;refine st (ok_len rfl) rfl rfl ?_))|(refine fU ?_;first|refine frA (ok_call rfl rfl rfl hin) rfl ?_|(refine fMove ?_;refine frA (ok_move rfl) rfl ?_)|(refine fLoad ?_;refine frA (ok_load rfl (by exact hc1)) rfl ?_)|(refine fIA ?_;refine frA (ok_idxN rfl rfl (by omega)) rfl ?_)|(refine fSlice ?_;refine frA (ok_sliceH rfl rfl (by omega)) rfl ?_))|(refine fr_stop ⟨by kernel_rfl,?_⟩)|refine W_seq ?_|refine W_region ?_|refine W_regionD (by kernel_rfl) rfl ?_|refine st_nil ?_|refine tq_n ?_|refine bq_n ?_|refine W_skip ?_|refine W_block ?_|refine W_condTA rfl ?_|refine W_condFA rfl ?_)
     exact ⟨rfl,i+1,⟨by omega,hnd2⟩,by omega,.same ⟨rfl,rfl,trivial⟩⟩
   ·obtain rfl:i=l.length:=by omega
    rw [hrd,decide_eq_true ⟨hE,hf,hnd⟩]
    repeat' (first|(refine gU ?_;first|(refine gMove ?_;refine st (ok_move rfl) rfl rfl ?_)|(refine gAssign ?_;refine st (ok_assign rfl) rfl rfl ?_)|(refine gBin ?_;refine st (ok_bin rfl rfl rfl) rfl rfl ?_)|(refine gLen ?_;refine st (ok_len rfl) rfl rfl ?_))|refine W_seq ?_|refine W_region ?_|refine st_nil ?_|refine tq_n ?_|refine tq_e ?_|refine bq_hit rfl ?_|refine W_exit ?_|refine W_ret ?_|refine W_condFA rfl ?_)
    exact ret0 (.tmp rfl .nil) (.plain rfl rfl) ⟨rfl,rfl⟩
  ·rw [decide_eq_false hf] at hfo
   rw [hrd,decide_eq_false (fun h=>hf h.2.1)]
   refine acall_intro 4 44 Try.func37 rfl rfl rfl rfl rfl ?_
   repeat' (first|(refine gU ?_;first|(refine gMove ?_;refine st (ok_move rfl) rfl rfl ?_)|(refine gAssign ?_;refine st (ok_assign rfl) rfl rfl ?_)|(refine gLoad ?_;refine st (ok_loadA rfl (by rfl)) rfl rfl ?_)|(refine gExtract ?_;refine st (ok_extract rfl rfl) rfl rfl ?_)|(refine gCall ?_;refine st (ok_call rfl rfl rfl (by exact hA)) rfl rfl ?_)|(refine gBox ?_;refine st (ok_box rfl) rfl rfl ?_))|(refine fU ?_;first|(refine fMove ?_;refine frA (ok_move rfl) rfl ?_)|(refine fBin ?_;refine frA (ok_bin rfl rfl rfl) rfl ?_)|(refine fPick ?_;refine frA (ok_pickFA rfl rfl) rfl ?_))|(refine fG ?_;first|refine frGA rfl (ok_call rfl rfl rfl hfo) rfl ?_|(refine fMove ?_;refine frGA rfl (ok_move rfl) rfl ?_)|(refine fLoad ?_;first|refine frGA rfl (ok_load rfl (by first|exact hc1|exact hc2)) rfl ?_|refine frGA rfl (ok_loadA rfl (by rfl)) rfl ?_)|(refine fSub ?_;refine frGA rfl (ok_sub rfl rfl (by omega) (by omega)) rfl ?_)|(refine fLen ?_;refine frGA rfl (ok_len rfl) rfl ?_)|(refine fNot ?_;refine frGA rfl (ok_not' rfl) rfl ?_)|(refine fIA ?_;refine frGA rfl (ok_idx rfl rfl (by omega) (by omega)) rfl ?_))|(refine fr_stop ⟨by kernel_rfl,?_⟩)|refine W_seq ?_|refine W_region ?_|refine W_regionD (by kernel_rfl) rfl ?_|refine st_nil ?_|refine tq_n ?_|refine tq_r ?_|refine W_ret ?_|refine W_condTA rfl ?_)
   exact ret0 (.tmp rfl .nil) (.plain rfl rfl) ⟨rfl,rfl⟩
 ·have hrd:rdB S l=false:=decide_eq_false (fun h=>hE h.1)
  rw [hrd]
  generalize runE S l=rE at *
  refine acall_intro 4 44 Try.func37 rfl rfl rfl rfl rfl ?_
  repeat' (first|(refine gU ?_;first|(refine gMove ?_;refine st (ok_move rfl) rfl rfl ?_)|(refine gAssign ?_;refine st (ok_assign rfl) rfl rfl ?_)|(refine gLoad ?_;refine st (ok_loadA rfl (by rfl)) rfl rfl ?_)|(refine gExtract ?_;refine st (ok_extract rfl rfl) rfl rfl ?_)|(refine gCall ?_;refine st (ok_call rfl rfl rfl (by exact hA)) rfl rfl ?_)|(refine gBox ?_;refine st (ok_box rfl) rfl rfl ?_))|(refine fU ?_;first|(refine fMove ?_;refine frA (ok_move rfl) rfl ?_)|(refine fBin ?_;refine frA (ok_bin rfl rfl rfl) rfl ?_)|(refine fPick ?_;refine frA (ok_pickTA rfl rfl) rfl ?_))|(refine fG ?_;refine frSA rfl rfl ?_)|(refine fr_stop ⟨by kernel_rfl,?_⟩)|refine W_seq ?_|refine W_region ?_|refine W_regionD (by kernel_rfl) rfl ?_|refine st_nil ?_|refine tq_n ?_|refine tq_r ?_|refine W_ret ?_|refine W_condTA rfl ?_)
  exact ret0 (.tmp rfl .nil) (.plain rfl rfl) ⟨rfl,rfl⟩
theorem isRound_ev {σ:Heap} {S:Shp} {l:List Int} {x y z w o:Nat} {v u:Value} (h:SAt σ x y z S) (hv:ShS x y z S v) (hl:prtAt σ (w,o) (ints l)) (hu:PS w o l.length u) (hS:S.fit) (hN:l.length≤9223372036854775807) (hni:σ.all (fun o=>!isIter o)=true) :
  Ev Try.prog 37 [v,u] σ (.bool (rdB S l)) σ:=by
 refine Ev.parts (S.css++[ints l]) [(x,0),(y,0),(z,0),(w,o)] (isRound_ok S hS l hN) ⟨prtAt_arr h.1,prtAt_arr h.2.1,prtAt_arr h.2.2,hl,trivial⟩ ⟨shS_parts hv,hu.four,trivial⟩ (css_plain1 S l) rfl hni
theorem refRunP_ev {σ:Heap} {S:Shp} {l:List Int} {x y z w o:Nat} {v u:Value} (h:SAt σ x y z S) (hv:ShS x y z S v) (hl:prtAt σ (w,o) (ints l)) (hu:PS w o l.length u) (hS:S.fit) (hN:l.length≤9223372036854775807) (hni:σ.all (fun o=>!isIter o)=true) :
  Ev Try.prog 20 [v,u] σ (.tuple #[.int .i64 (runV S l),.int .i64 (runE S l)]) σ:=by
 refine Ev.parts (S.css++[ints l]) [(x,0),(y,0),(z,0),(w,o)] (refRun_ok S hS l hN) ⟨prtAt_arr h.1,prtAt_arr h.2.1,prtAt_arr h.2.2,hl,trivial⟩ ⟨shS_parts hv,hu.four,trivial⟩ (css_plain1 S l) rfl hni
end Go.Proofs.Ytomioaiojidnbaa
namespace Go.AH.Dust
open Go Go.AH
def wO (S:Shp) (i h:Nat):Int:=wyB S (bO i) h i
def rmS (S:Shp) (i h:Nat) (st:(Int×Int)×Bool):(Int×Int)×Bool :=
 if 0≤wO S i h then (if st.2=false∨st.1.1*redD (wO S i h).toNat h<redN (wO S i h).toNat h*st.1.2 then (redN (wO S i h).toNat h,redD (wO S i h).toNat h) else st.1,true) else st
def rmH (S:Shp) (i:Nat) (st:(Int×Int)×Bool):Nat→(Int×Int)×Bool
 |0=>st
 |h+1=>rmS S i (h+1) (rmH S i st h)
def rmL (S:Shp) (L:List Int):Nat→(Int×Int)×Bool
 |0=>((0,1),false)
 |j+1=>rmH S (gi L j).toNat (rmL S L j) S.d.length
section
variable {S:Shp}
structure RmP (S:Shp) (C:Nat→Nat→Prop) (st:(Int×Int)×Bool):Prop where
 no:st.2=false→st.1=(0,1)∧∀ i h,C i h→wO S i h<0
 red:st.2=true→Red st.1.1 st.1.2
 att:st.2=true→∃ i h,C i h∧0≤wO S i h∧st.1.1*(h:Int)=wO S i h*st.1.2
 le:st.2=true→∀ i h,C i h→0≤wO S i h→wO S i h*st.1.2≤st.1.1*(h:Int)
theorem RmP.congr {C C':Nat→Nat→Prop} {st:(Int×Int)×Bool} (h:RmP S C st) (hc:∀ i h,C i h↔C' i h):RmP S C' st :=
 ⟨fun h1=>⟨(h.no h1).1,fun i k hk=>(h.no h1).2 i k ((hc i k).2 hk)⟩,h.red,fun h1=>let ⟨i,k,a,b⟩:=h.att h1;⟨i,k,(hc i k).1 a,b⟩,fun h1 i k hk=>h.le h1 i k ((hc i k).2 hk)⟩
theorem rm_step {C:Nat→Nat→Prop} {st:(Int×Int)×Bool} (hp:RmP S C st) {i h:Nat} (hh:0<h):RmP S (fun i' h'=>C i' h'∨(i'=i∧h'=h)) (rmS S i h st):=by
 unfold rmS
 by_cases hw:0≤wO S i h
 ·rw [if_pos hw]
  obtain ⟨r1,r2,r3,r4⟩:=red_is (m:=(wO S i h).toNat) hh
  have ew:(((wO S i h).toNat:Nat):Int)=wO S i h:=by omega
  rw [ew] at r2
  generalize redN (wO S i h).toNat h=a at *
  generalize redD (wO S i h).toNat h=b at *
  have hb:=r1.b0
  cases hf:st.2 with
  |false =>
   rw [if_pos (.inl rfl)]
   obtain ⟨_,n2⟩:=hp.no hf
   refine ⟨fun h=>(by cases h),fun _=>r1,fun _=>⟨i,h,.inr ⟨rfl,rfl⟩,hw,r2⟩,fun _ i' h' hc h0=>?_⟩
   rcases hc with hc|⟨rfl,rfl⟩
   ·have:=n2 i' h' hc;omega
   ·simp only;omega
  |true =>
   have s1:=hp.red hf
   have hd:=s1.b0
   by_cases hl:st.1.1*b<a*st.1.2
   ·rw [if_pos (.inr hl)]
    refine ⟨fun h=>(by cases h),fun _=>r1,fun _=>⟨i,h,.inr ⟨rfl,rfl⟩,hw,r2⟩,fun _ i' h' hc h0=>?_⟩
    rcases hc with hc|⟨rfl,rfl⟩
    ·exact mul_trans (d:=st.1.2) hd (by omega) (Int.le_of_lt hb) (hp.le hf i' h' hc h0) (Int.le_of_lt hl)
    ·simp only;omega
   ·rw [if_neg (by simp [hl])]
    refine ⟨fun h=>(by cases h),fun _=>s1,fun _=>?_,fun _ i' h' hc h0=>?_⟩
    ·obtain ⟨i',h',c1,c2⟩:=hp.att hf
     exact ⟨i',h',.inl c1,c2⟩
    ·rcases hc with hc|⟨rfl,rfl⟩
     ·exact hp.le hf i' h' hc h0
     ·exact mul_trans (c:=a) (d:=b) hb (by omega) (Int.le_of_lt hd) (by rw [r2];exact Int.le_refl _) (Int.not_lt.1 hl)
 ·rw [if_neg hw]
  refine ⟨fun h1=>⟨(hp.no h1).1,fun i' h' hc=>?_⟩,hp.red,fun h1=>?_,fun h1 i' h' hc h0=>?_⟩
  ·rcases hc with hc|⟨rfl,rfl⟩
   ·exact (hp.no h1).2 i' h' hc
   ·omega
  ·obtain ⟨i',h',c1,c2⟩:=hp.att h1
   exact ⟨i',h',.inl c1,c2⟩
  ·rcases hc with hc|⟨rfl,rfl⟩
   ·exact hp.le h1 i' h' hc h0
   ·exact absurd h0 hw
theorem rmH_ok {C:Nat→Nat→Prop} {st:(Int×Int)×Bool} (hp:RmP S C st) {i:Nat}:∀ h,RmP S (fun i' h'=>C i' h'∨(i'=i∧1≤h'∧h'≤h)) (rmH S i st h)
 |0=>hp.congr fun i' h'=>⟨.inl,fun x=>x.elim id fun x=>by omega⟩
 |h+1=>by
  refine (rm_step (rmH_ok hp h) (i:=i) (h:=h+1) (by omega)).congr fun i' h'=>?_
  constructor
  ·rintro ((h1|h1)|h1)
   ·exact .inl h1
   ·exact .inr (by omega)
   ·exact .inr (by omega)
  ·rintro (h1|h1)
   ·exact .inl (.inl h1)
   ·by_cases hk:h'=h+1
    ·exact .inr (by omega)
    ·exact .inl (.inr (by omega))
theorem rmL_ok {L:List Int}:∀ j,RmP S (fun i' h'=>(∃ q,q<j∧i'=(gi L q).toNat)∧1≤h'∧h'≤S.d.length) (rmL S L j)
 |0=>⟨fun _=>⟨rfl,fun i h ⟨⟨q,hq,_⟩,_⟩=>by omega⟩,fun h=>by simp [rmL] at h,fun h=>by simp [rmL] at h,fun h=>by simp [rmL] at h⟩
 |j+1=>by
  refine (rmH_ok (rmL_ok (L:=L) j) (i:=(gi L j).toNat) S.d.length).congr fun i' h'=>?_
  constructor
  ·rintro (⟨⟨q,q1,q2⟩,h1⟩|⟨h1,h2⟩)
   ·exact ⟨⟨q,by omega,q2⟩,h1⟩
   ·exact ⟨⟨j,by omega,h1⟩,h2⟩
  ·rintro ⟨⟨q,q1,q2⟩,h1⟩
   by_cases hq:q=j
   ·subst hq;exact .inr ⟨q2,h1⟩
   ·exact .inl ⟨⟨q,by omega,q2⟩,h1⟩
def RmB (st:(Int×Int)×Bool):Prop:=0≤st.1.1∧st.1.1≤10001∧0≤st.1.2∧st.1.2≤10
theorem wO_bound (hS:S.ok) {i h:Nat} (hi:i<S.d.length):-1≤wO S i h∧wO S i h≤1000*(h:Int):=wyB_bound hS (fun v _=>bO_is i v) hi
theorem rmS_bound (hS:S.ok) {st:(Int×Int)×Bool} (hb:RmB st) {i h:Nat} (hi:i<S.d.length) (h0:0<h) (hh:h≤10):RmB (rmS S i h st):=by
 unfold rmS
 split
 ·rename_i hw
  obtain ⟨r1,r2,r3,r4⟩:=red_is (m:=(wO S i h).toNat) h0
  have r5:=r1.a0
  have r6:=r1.b0
  have hb2:=wO_bound hS (h:=h) hi
  split
  ·unfold RmB;refine ⟨r5,?_,?_,?_⟩ <;> simp only <;> omega
  ·exact hb
 ·exact hb
theorem rmH_bound (hS:S.ok) {st:(Int×Int)×Bool} (hb:RmB st) {i:Nat} (hi:i<S.d.length):∀ {h:Nat},h≤10→RmB (rmH S i st h)
 |0,_=>hb
 |h+1,hh=>rmS_bound hS (rmH_bound hS hb hi (h:=h) (by omega)) hi (by omega) hh
theorem rmL_bound (hS:S.ok) {L:List Int} (hL:∀ j,j<L.length→(gi L j).toNat<S.d.length):∀ {j:Nat},j≤L.length→RmB (rmL S L j)
 |0,_=>by simp [RmB,rmL]
 |j+1,hj=>rmH_bound hS (rmL_bound hS hL (j:=j) (by omega)) (hL j (by omega)) hS.n10
theorem rm_mean (h0:shopE S=0):if (rmL S (reachL S) (reachL S).length).2=true then IsMean S (rmL S (reachL S) (reachL S).length).1.1 (rmL S (reachL S) (reachL S).length).1.2∧Red (rmL S (reachL S) (reachL S).length).1.1 (rmL S (reachL S) (reachL S).length).1.2
  else (rmL S (reachL S) (reachL S).length).1=(0,1)∧¬ ∃ a b,IsMean S a b:=by
 have hS:=shopE_zero h0
 have hp:=rmL_ok (S:=S) (L:=reachL S) (reachL S).length
 generalize rmL S (reachL S) (reachL S).length=st at *
 have hC:∀ {p:Nat→Int} {h:Nat},h≤S.d.length→Cyc S p h→((∃ q,q<(reachL S).length∧(p 0).toNat=(gi (reachL S) q).toNat)∧1≤h∧h≤S.d.length)∧sumW (cS S) p h≤wO S (p 0).toNat h∧0≤wO S (p 0).toNat h:=fun {p h} hh hc=>by
  have hw:=rch_work hS hc.rch
  have w1:=hw.1;have w2:=hw.2
  have e:(((p 0).toNat:Nat):Int)=p 0:=by omega
  obtain ⟨q,q1,q2⟩:=reachL_mem h0 (show (p 0).toNat<S.d.length by omega) (rB_iff.2 (by rw [e];exact hc.rch))
  have hg:=wyB_ge hS (base:=bO (p 0).toNat) (p:=p) (by unfold bO;rw [if_pos rfl]) hc.wk
  rw [hc.cl] at hg
  exact ⟨⟨⟨q,q1,by rw [q2,Int.toNat_natCast]⟩,hc.h0,hh⟩,hg⟩
 cases hf:st.2 with
 |true =>
  rw [if_pos rfl]
  have hr:=hp.red hf
  have hb:=hr.b0
  refine ⟨⟨hb,fun p h hc=>mean_long hS (fun p h hh hc=>?_) h p hc,?_⟩,hr⟩
  ·obtain ⟨c1,c2,c3⟩:=hC hh hc
   have h1:=hp.le hf _ _ c1 c3
   have h2:=Int.mul_le_mul_of_nonneg_left c2 (Int.le_of_lt hb)
   rw [Int.mul_comm st.1.2 (wO S (p 0).toNat h)] at h2
   omega
  ·obtain ⟨i,h,⟨⟨q,q1,q2⟩,c2,c3⟩,c4,c5⟩:=hp.att hf
   obtain ⟨m,m1,m2,m3⟩:=reachL_at h0 q1
   obtain rfl:i=m:=by rw [q2,m1,Int.toNat_natCast]
   obtain ⟨p,p1,p2,p3,p4,p5⟩:=wyB_at hS (fun v _=>bO_is i v) m2 c4
   have p3a:=p3.1
   have e:(p 0).toNat=i:=by
    unfold bO at p4
    by_cases hx:(p 0).toNat=i
    ·exact hx
    ·rw [if_neg hx] at p4;omega
   have e2:p 0=(i:Int):=by omega
   refine ⟨p,h,⟨by omega,p1,by rw [p2,e2],by rw [e2];exact rB_iff.1 m3⟩,?_⟩
   rw [p5]
   unfold wO at c5
   rw [c5,Int.mul_comm]
 |false =>
  rw [if_neg (by simp)]
  obtain ⟨n1,n2⟩:=hp.no hf
  refine ⟨n1,?_⟩
  rintro ⟨a,b,hM⟩
  obtain ⟨v,v1,v2⟩:=(karp_ex hS).1 ⟨a,b,hM⟩
  obtain ⟨p,p1,p2,p3,p4,p5⟩:=wyB_at hS (fun v _=>bR_is S v) v1 v2
  obtain ⟨i,j,h1,h2,h3⟩:=wk_closed hS p1 p3 (Nat.le_refl _)
  have hc:=Cyc.part p1 ((bR_rch p3).1 p4) h1 h2 h3
  obtain ⟨c1,c2,c3⟩:=hC (show j - i≤S.d.length by omega) hc
  have:=n2 _ _ c1
  omega
theorem rm_is (h0:shopE S=0):rmL S (reachL S) (reachL S).length=if mnE S=0 then ((mnA S,mnB S),true) else ((0,1),false):=by
 have h:=rm_mean h0
 cases hf:(rmL S (reachL S) (reachL S).length).2 with
 |true =>
  rw [if_pos hf] at h
  have hE:mnE S=0:=mnE_iff.2 ⟨h0,_,_,h.1⟩
  obtain ⟨e1,e2⟩:=h.1.red (mn_ok hE).mean h.2 (mn_ok hE).red
  rw [if_pos hE]
  exact Prod.ext (Prod.ext e1 e2) hf
 |false =>
  rw [if_neg (by rw [hf];simp)] at h
  have hE:mnE S ≠ 0:=fun hx=>h.2 (mnE_iff.1 hx).2
  rw [if_neg hE]
  exact Prod.ext h.1 hf
end
end Go.AH.Dust
namespace Go.AH.Dust
open Go Go.AH
theorem hc_n {n:Nat} (hn:6≤n) (S:Shp) (L:List Int) (a b:Int) {r:Heap} (hr:HClosed n r):HClosed n ([.ro (ints S.d),.ro (pc S.f),.ro (ints S.s),.rw (shL 0 1 2 S),.rw [.int .i64 0,.int .i64 0],.rw (ints L),.rw [.int .i64 a,.int .i64 b]]++r) :=
 ⟨plainL_closed (ints_plain _),plainL_closed (pc_plain _),plainL_closed (ints_plain _),shL_closed (by omega) (by omega) (by omega),plainL_closed rfl,plainL_closed (ints_plain _),plainL_closed rfl,hr⟩
theorem hc_n7 (S:Shp) (L:List Int) (a b:Int) {n:Nat} (hn:6≤n):HClosed n [.ro (ints S.d),.ro (pc S.f),.ro (ints S.s),.rw (shL 0 1 2 S),.rw [.int .i64 0,.int .i64 0],.rw (ints L),.rw [.int .i64 a,.int .i64 b]]:=by
 have:=hc_n hn S L a b (r:=[]) trivial
 simpa using this
theorem hc_n8 (S:Shp) (L:List Int) (a b:Int) (f:Nat→Int) {n:Nat} (hn:6≤n):HClosed n [.ro (ints S.d),.ro (pc S.f),.ro (ints S.s),.rw (shL 0 1 2 S),.rw [.int .i64 0,.int .i64 0],.rw (ints L),.rw [.int .i64 a,.int .i64 b],.rw (cl S.d.length f)]:=hc_n hn S L a b ⟨plainL_closed cl_plain,trivial⟩
theorem wyF_bound {S:Shp} (hS:S.ok) {m:Nat→Int} {B:Int} (hB:0≤B) (hm:∀ i,i<S.d.length→m i≤B) {v k:Nat} (hk:k≤S.f.length):-1≤wyF S m v k∧wyF S m v k≤B+1000:=by
 rw [← wyD_all (D:=fun _=>true) (fun _ _=>rfl)]
 exact wyD_bound hS hB hm hk
end Go.AH.Dust
namespace Go.Proofs.Ytomioaiojidnbaa
open Go Go.AH
attribute [local irreducible] WOps WCode WFree retQ thenQ blockQ scopeQ OpOk ACall RetRef roundA roundB
set_option maxRecDepth 100000
set_option maxHeartbeats 1000000
open Go.AH.Dust
theorem refMean_ok (S:Shp) (hS:S.fit) (h0:shopE S=0):Ev Try.prog 36 [shV 0 1 2 S] S.hp (.tuple #[rtV (rmL S (reachL S) (reachL S).length).1.1 (rmL S (reachL S) (reachL S).length).1.2,.bool (rmL S (reachL S) (reachL S).length).2]) S.hp:=by
 have hok:=shopE_zero h0
 have n10:=hok.n10
 have f60:=hok.f60
 have n1:=hok.n1
 have hre:=refReached_ev (σ:=[.ro (ints S.d),.ro (pc S.f),.ro (ints S.s),.rw (shL 0 1 2 S),.rw [.int .i64 0,.int .i64 0]]) (S:=S) (x:=0) (y:=1) (z:=2) ⟨.inl rfl,.inl rfl,.inl rfl⟩ shS_self hS rfl
 have hrl:=rL_len S S.d.length
 have hrl2:(reachL S).length≤S.d.length:=by unfold reachL;rw [if_pos h0];exact hrl
 have hL:∀ i,i<(reachL S).length→∃ m:Nat,gi (reachL S) i=(m:Int)∧m<S.d.length:=fun i hi=>by
  obtain ⟨m,m1,m2,_⟩:=reachL_at h0 hi;exact ⟨m,m1,m2⟩
 have hB:=fun j hj=>rmL_bound hok (L:=reachL S) (fun j hj=>by obtain ⟨m,m1,m2⟩:=hL j hj;rw [m1,Int.toNat_natCast];exact m2) (j:=j) hj
 rw [h0] at hre
 clear hrl
 generalize reachL S=L at *
 refine acall_intro 3 135 Try.func36 rfl rfl rfl rfl rfl ?_
 repeat' (first|(refine gU ?_;first|(refine gMove ?_;refine st (ok_move rfl) rfl rfl ?_)|(refine gAssign ?_;refine st (ok_assign rfl) rfl rfl ?_)|(refine gFA ?_;refine st (ok_fieldAddr rfl) rfl rfl ?_)|(refine gLoad ?_;first|refine st (ok_load rfl (by rfl)) rfl rfl ?_|refine st (ok_loadA rfl (by rfl)) rfl rfl ?_)|(refine gLen ?_;refine st (ok_len rfl) rfl rfl ?_)|(refine gExtract ?_;refine st (ok_extract rfl rfl) rfl rfl ?_)|(refine gBuild ?_;refine st (ok_build (by rfl) rfl (by rfl)) rfl rfl ?_)|(refine gCall ?_;refine st (ok_call rfl rfl rfl (by exact hre)) rfl rfl ?_)|(refine gBox ?_;refine st (ok_box rfl) rfl rfl ?_)|(refine gAlloc ?_;refine st (ok_alloc rfl) rfl rfl ?_)|(refine gStore ?_;refine stN (ok_store rfl rfl rfl rfl (by rfl)) rfl ?_))|refine W_seq ?_|refine W_region ?_|refine st_nil ?_|refine tq_n ?_|refine W_block ?_)
 refine W_loopS (ι:=Nat) (fun i=>[(1,.pointer (some ⟨3,0,none⟩)),(2,.pointer (some ⟨4,0,none⟩)),(4,sl 5 L.length),(6,.pointer (some ⟨6,0,none⟩)),(7,.bool (rmL S L i).2),(8,.int .i64 (S.d.length:Int)),(9,.int .i64 (i:Int))]) (fun i=>[.ro (ints S.d),.ro (pc S.f),.ro (ints S.s),.rw (shL 0 1 2 S),.rw [.int .i64 0,.int .i64 0],.rw (ints L),.rw [.int .i64 (rmL S L i).1.1,.int .i64 (rmL S L i).1.2]]) (fun i=>L.length - i) (fun i=>i≤L.length) 0 (by simp) (.same ⟨rfl,rfl,rfl,rfl,rfl,rfl,rfl,trivial⟩) (Nat.zero_le _) ?_
 clear hre
 intro i hi
 by_cases hil:i<L.length
 ·obtain ⟨m,m1,m2⟩:=hL i hil
  have hL1:rmL S L (i+1)=rmH S m (rmL S L i) S.d.length:=by rw [rmL,m1,Int.toNat_natCast]
  have hB1:=hB i hi
  clear hB hL
  generalize rmL S L i=sq at *
  have hcL:∀ σ':Heap,cellGet (AObj.ro (ints S.d)::.ro (pc S.f)::.ro (ints S.s)::.rw (shL 0 1 2 S)::.rw [.int .i64 0,.int .i64 0]::.rw (ints L)::.rw [.int .i64 (sq).1.1,.int .i64 (sq).1.2]::σ') 5 i=some (.int .i64 (m:Int)):=fun σ'=>by rw [← m1];exact ints_get hil
  repeat' (first|(refine gU ?_;first|(refine gMove ?_;refine st (ok_move rfl) rfl rfl ?_)|(refine gAssign ?_;refine st (ok_assign rfl) rfl rfl ?_)|(refine gBin ?_;refine st (ok_bin rfl rfl rfl) rfl rfl ?_)|(refine gLen ?_;refine st (ok_len rfl) rfl rfl ?_)|(refine gMakeS ?_;refine st (ok_makeS (by rfl) (by rfl) rfl rfl (by omega) (by omega) (by omega)) rfl rfl ?_))|refine W_seq ?_|refine W_region ?_|refine st_nil ?_|refine tq_n ?_|refine W_skip ?_|refine W_block ?_|refine W_condTA rfl ?_)
  refine W_loopS (ι:=Nat) (fun v=>[(1,.pointer (some ⟨3,0,none⟩)),(2,.pointer (some ⟨4,0,none⟩)),(4,sl 5 L.length),(6,.pointer (some ⟨6,0,none⟩)),(7,.bool (sq).2),(8,.int .i64 (S.d.length:Int)),(9,.int .i64 (i:Int)),(10,sl 7 S.d.length),(11,.int .i64 (v:Int))])
   (fun v=>[.ro (ints S.d),.ro (pc S.f),.ro (ints S.s),.rw (shL 0 1 2 S),.rw [.int .i64 0,.int .i64 0],.rw (ints L),.rw [.int .i64 (sq).1.1,.int .i64 (sq).1.2],.rw (cl S.d.length (fun j=>if j<v then -1 else 0))]) (fun v=>S.d.length - v) (fun v=>v≤S.d.length) 0 (by simp)
   (StRef.src [.ro (ints S.d),.ro (pc S.f),.ro (ints S.s),.rw (shL 0 1 2 S),.rw [.int .i64 0,.int .i64 0],.rw (ints L),.rw [.int .i64 (sq).1.1,.int .i64 (sq).1.2]] [.rw (cl S.d.length (fun j=>if j<0 then -1 else 0))] [7] (by simp) rfl (hc_n7 S L _ _ (by simp)) rfl rfl ⟨osub_rwp (j:=7) rfl (.inl (by rw [show cl S.d.length (fun j=>if j<0 then -1 else 0)=cl S.d.length (fun _=>0) from rfl,← cl_zero];rfl)) cl_plain,trivial⟩ (by (repeat' (first|exact trivial|refine ⟨er_plain rfl rfl,?_⟩|refine ⟨er_closed (m:=7) rfl (fun i hi=>srcR_lt hi) (by simp) (by first|rfl|exact closed_slice rfl) rfl,?_⟩|refine ⟨⟨_,rfl,vsub_sl (by simp) rfl (Nat.le_refl _)⟩,?_⟩)))) (Nat.zero_le _) ?_
  intro v hv
  by_cases hvn:v<S.d.length
  ·have hput:putCells [.ro (ints S.d),.ro (pc S.f),.ro (ints S.s),.rw (shL 0 1 2 S),.rw [.int .i64 0,.int .i64 0],.rw (ints L),.rw [.int .i64 (sq).1.1,.int .i64 (sq).1.2],.rw (cl S.d.length (fun j=>if j<v then -1 else 0))] 7 v [.int .i64 (-1)]=some [.ro (ints S.d),.ro (pc S.f),.ro (ints S.s),.rw (shL 0 1 2 S),.rw [.int .i64 0,.int .i64 0],.rw (ints L),.rw [.int .i64 (sq).1.1,.int .i64 (sq).1.2],.rw (cl S.d.length (fun j=>if j<v+1 then -1 else 0))] :=
    putRw (cs':=cl S.d.length (fun j=>if j<v+1 then -1 else 0)) rfl (by rw [cl_len];simp;omega) (by rw [cl_len];omega) (by
     rw [cl_set1 hvn]
     refine cl_congr fun j _=>?_
     simp only [setI]
     split <;> split <;> first|rfl|(split <;> first|rfl|omega)|omega)
   repeat' (first|(refine gU ?_;first|(refine gMove ?_;refine st (ok_move rfl) rfl rfl ?_)|(refine gAssign ?_;refine st (ok_assign rfl) rfl rfl ?_)|(refine gAdd ?_;refine st (ok_inc rfl rfl (by omega)) rfl rfl ?_)|(refine gBin ?_;refine st (ok_bin rfl rfl rfl) rfl rfl ?_)|(refine gIA ?_;refine st (ok_idxN rfl rfl (by omega)) rfl rfl ?_)|(refine gStore ?_;refine stN (ok_store rfl rfl rfl rfl (by exact hput)) rfl ?_))|refine W_seq ?_|refine W_region ?_|refine st_nil ?_|refine tq_n ?_|refine bq_n ?_|refine W_skip ?_|refine W_block ?_|refine W_condTA rfl ?_)
   exact ⟨rfl,v+1,by omega,by omega,.same ⟨rfl,rfl,rfl,rfl,rfl,rfl,rfl,rfl,rfl,trivial⟩⟩
  ·obtain rfl:v=S.d.length:=by omega
   have hput0:putCells [.ro (ints S.d),.ro (pc S.f),.ro (ints S.s),.rw (shL 0 1 2 S),.rw [.int .i64 0,.int .i64 0],.rw (ints L),.rw [.int .i64 (sq).1.1,.int .i64 (sq).1.2],.rw (cl S.d.length (fun j=>if j<S.d.length then -1 else 0))] 7 m [.int .i64 0]=some [.ro (ints S.d),.ro (pc S.f),.ro (ints S.s),.rw (shL 0 1 2 S),.rw [.int .i64 0,.int .i64 0],.rw (ints L),.rw [.int .i64 (sq).1.1,.int .i64 (sq).1.2],.rw (cl S.d.length (wyB S (bO m) 0))] :=
    putRw (cs':=cl S.d.length (wyB S (bO m) 0)) rfl (by rw [cl_len];simp;omega) (by rw [cl_len];omega) (by
     rw [cl_set1 m2]
     refine cl_congr fun j hj=>?_
     simp only [setI,wyB,bO]
     rw [if_pos hj])
   have hc1:∀ σ':Heap,cellGet (AObj.ro (ints S.d)::.ro (pc S.f)::.ro (ints S.s)::.rw (shL 0 1 2 S)::.rw [.int .i64 0,.int .i64 0]::.rw (ints L)::.rw [.int .i64 (sq).1.1,.int .i64 (sq).1.2]::σ') 5 i=some (.int .i64 (m:Int)):=hcL
   have hc2:∀ σ':Heap,cellGet (AObj.ro (ints S.d)::.ro (pc S.f)::.ro (ints S.s)::.rw (shL 0 1 2 S)::.rw [.int .i64 0,.int .i64 0]::.rw (ints L)::.rw [.int .i64 (sq).1.1,.int .i64 (sq).1.2]::σ') 5 (0+i*1)=some (.int .i64 (m:Int)):=fun σ'=>by rw [Nat.zero_add,Nat.mul_one];exact hcL σ'
   repeat' (first|(refine gU ?_;first|(refine gMove ?_;refine st (ok_move rfl) rfl rfl ?_)|(refine gAssign ?_;refine st (ok_assign rfl) rfl rfl ?_)|(refine gLoad ?_;refine st (ok_load rfl (by exact hc1 _)) rfl rfl ?_)|(refine gBin ?_;refine st (ok_bin rfl rfl rfl) rfl rfl ?_)|(refine gIA ?_;refine st (ok_idxN rfl rfl (by omega)) rfl rfl ?_)|(refine gStore ?_;refine stN (ok_store rfl rfl rfl rfl (by exact hput0)) rfl ?_))|refine W_seq ?_|refine W_region ?_|refine st_nil ?_|refine tq_n ?_|refine tq_e ?_|refine bq_hit rfl ?_|refine W_exit ?_|refine W_block ?_|refine W_condFA rfl ?_)
   refine W_loopS (ι:=Nat) (fun h=>[(1,.pointer (some ⟨3,0,none⟩)),(2,.pointer (some ⟨4,0,none⟩)),(4,sl 5 L.length),(6,.pointer (some ⟨6,0,none⟩)),(7,.bool (rmH S m sq h).2),(8,.int .i64 (S.d.length:Int)),(9,.int .i64 (i:Int)),(10,sl 7 S.d.length),(12,.int .i64 ((h+1:Nat):Int))])
    (fun h=>[.ro (ints S.d),.ro (pc S.f),.ro (ints S.s),.rw (shL 0 1 2 S),.rw [.int .i64 0,.int .i64 0],.rw (ints L),.rw [.int .i64 (rmH S m sq h).1.1,.int .i64 (rmH S m sq h).1.2],.rw (cl S.d.length (wyB S (bO m) h))]) (fun h=>S.d.length - h) (fun h=>h≤S.d.length) 0 (by simp) (.same ⟨rfl,rfl,rfl,rfl,rfl,rfl,rfl,rfl,rfl,trivial⟩) (Nat.zero_le _) ?_
   clear hv hvn hput0 hc1 hc2
   intro h hh
   have hBh:=rmH_bound hok hB1 m2 (h:=h) (by omega)
   have hhs:rmH S m sq (h+1)=rmS S m (h+1) (rmH S m sq h):=rfl
   by_cases hhn:h<S.d.length
   ·generalize rmH S m sq h=sh at *
    have hwb:=fun v (hv:v<S.d.length)=>wyB_bound hok (fun v _=>bO_is m v) (h:=h) hv
    have hWn:wyB S (bO m) (h+1)=fun v=>wyF S (wyB S (bO m) h) v S.f.length:=rfl
    have hWo:wO S m (h+1)=wyF S (wyB S (bO m) h) m S.f.length:=rfl
    have hfb:=fun v k (hk:k≤S.f.length)=>wyF_bound hok (m:=wyB S (bO m) h) (B:=1000*(h:Int)) (v:=v) (by omega) (fun i hi=>(hwb i hi).2) hk
    repeat' (first|(refine gU ?_;first|(refine gMove ?_;refine st (ok_move rfl) rfl rfl ?_)|(refine gAssign ?_;refine st (ok_assign rfl) rfl rfl ?_)|(refine gBin ?_;refine st (ok_bin rfl rfl rfl) rfl rfl ?_)|(refine gMakeS ?_;refine st (ok_makeS (by rfl) (by rfl) rfl rfl (by omega) (by omega) (by omega)) rfl rfl ?_))|refine W_seq ?_|refine W_region ?_|refine st_nil ?_|refine tq_n ?_|refine W_skip ?_|refine W_block ?_|refine W_condTA rfl ?_)
    refine W_loopS (ι:=Nat) (fun v=>[(1,.pointer (some ⟨3,0,none⟩)),(2,.pointer (some ⟨4,0,none⟩)),(4,sl 5 L.length),(6,.pointer (some ⟨6,0,none⟩)),(7,.bool (sh).2),(8,.int .i64 (S.d.length:Int)),(9,.int .i64 (i:Int)),(10,sl 7 S.d.length),(12,.int .i64 ((h+1:Nat):Int)),(13,sl 8 S.d.length),(14,.int .i64 (v:Int))])
     (fun v=>[.ro (ints S.d),.ro (pc S.f),.ro (ints S.s),.rw (shL 0 1 2 S),.rw [.int .i64 0,.int .i64 0],.rw (ints L),.rw [.int .i64 (sh).1.1,.int .i64 (sh).1.2],.rw (cl S.d.length (wyB S (bO m) h)),.rw (cl S.d.length (fun j=>if j<v then -1 else 0))]) (fun v=>S.d.length - v) (fun v=>v≤S.d.length) 0 (by simp)
     (StRef.src [.ro (ints S.d),.ro (pc S.f),.ro (ints S.s),.rw (shL 0 1 2 S),.rw [.int .i64 0,.int .i64 0],.rw (ints L),.rw [.int .i64 (sh).1.1,.int .i64 (sh).1.2],.rw (cl S.d.length (wyB S (bO m) h))] [.rw (cl S.d.length (fun j=>if j<0 then -1 else 0))] [8] (by simp) rfl (hc_n8 S L _ _ _ (by simp)) rfl rfl ⟨osub_rwp (j:=8) rfl (.inl (by rw [show cl S.d.length (fun j=>if j<0 then -1 else 0)=cl S.d.length (fun _=>0) from rfl,← cl_zero];rfl)) cl_plain,trivial⟩ (by (repeat' (first|exact trivial|refine ⟨er_plain rfl rfl,?_⟩|refine ⟨er_closed (m:=8) rfl (fun i hi=>srcR_lt hi) (by simp) (by first|rfl|exact closed_slice rfl) rfl,?_⟩|refine ⟨⟨_,rfl,vsub_sl (by simp) rfl (Nat.le_refl _)⟩,?_⟩)))) (Nat.zero_le _) ?_
    intro v hv
    by_cases hvn:v<S.d.length
    ·have hput:putCells [.ro (ints S.d),.ro (pc S.f),.ro (ints S.s),.rw (shL 0 1 2 S),.rw [.int .i64 0,.int .i64 0],.rw (ints L),.rw [.int .i64 (sh).1.1,.int .i64 (sh).1.2],.rw (cl S.d.length (wyB S (bO m) h)),.rw (cl S.d.length (fun j=>if j<v then -1 else 0))] 8 v [.int .i64 (-1)]=some [.ro (ints S.d),.ro (pc S.f),.ro (ints S.s),.rw (shL 0 1 2 S),.rw [.int .i64 0,.int .i64 0],.rw (ints L),.rw [.int .i64 (sh).1.1,.int .i64 (sh).1.2],.rw (cl S.d.length (wyB S (bO m) h)),.rw (cl S.d.length (fun j=>if j<v+1 then -1 else 0))] :=
      putRw (cs':=cl S.d.length (fun j=>if j<v+1 then -1 else 0)) rfl (by rw [cl_len];simp;omega) (by rw [cl_len];omega) (by
       rw [cl_set1 hvn]
       refine cl_congr fun j _=>?_
       simp only [setI]
       split <;> split <;> first|rfl|(split <;> first|rfl|omega)|omega)
     clear hfb hwb
     repeat' (first|(refine gU ?_;first|(refine gMove ?_;refine st (ok_move rfl) rfl rfl ?_)|(refine gAssign ?_;refine st (ok_assign rfl) rfl rfl ?_)|(refine gAdd ?_;refine st (ok_inc rfl rfl (by omega)) rfl rfl ?_)|(refine gBin ?_;refine st (ok_bin rfl rfl rfl) rfl rfl ?_)|(refine gIA ?_;refine st (ok_idxN rfl rfl (by omega)) rfl rfl ?_)|(refine gStore ?_;refine stN (ok_store rfl rfl rfl rfl (by exact hput)) rfl ?_))|refine W_seq ?_|refine W_region ?_|refine st_nil ?_|refine tq_n ?_|refine bq_n ?_|refine W_skip ?_|refine W_block ?_|refine W_condTA rfl ?_)
     exact ⟨rfl,v+1,by omega,by omega,.same ⟨rfl,rfl,rfl,rfl,rfl,rfl,rfl,rfl,rfl,rfl,rfl,trivial⟩⟩
    ·obtain rfl:v=S.d.length:=by omega
     rw [show cl S.d.length (fun j=>if j<S.d.length then -1 else 0)=cl S.d.length (fun j=>wyF S (wyB S (bO m) h) j 0) from cl_congr fun j hj=>by rw [if_pos hj];rfl]
     repeat' (first|(refine gU ?_;first|(refine gMove ?_;refine st (ok_move rfl) rfl rfl ?_)|(refine gAssign ?_;refine st (ok_assign rfl) rfl rfl ?_)|(refine gBin ?_;refine st (ok_bin rfl rfl rfl) rfl rfl ?_))|refine W_seq ?_|refine W_region ?_|refine st_nil ?_|refine tq_n ?_|refine tq_e ?_|refine bq_hit rfl ?_|refine W_exit ?_|refine W_block ?_|refine W_condFA rfl ?_)
     refine W_loopS (ι:=Nat) (fun k=>[(1,.pointer (some ⟨3,0,none⟩)),(2,.pointer (some ⟨4,0,none⟩)),(4,sl 5 L.length),(6,.pointer (some ⟨6,0,none⟩)),(7,.bool (sh).2),(8,.int .i64 (S.d.length:Int)),(9,.int .i64 (i:Int)),(10,sl 7 S.d.length),(12,.int .i64 ((h+1:Nat):Int)),(13,sl 8 S.d.length),(15,.int .i64 (k:Int))])
      (fun k=>[.ro (ints S.d),.ro (pc S.f),.ro (ints S.s),.rw (shL 0 1 2 S),.rw [.int .i64 0,.int .i64 0],.rw (ints L),.rw [.int .i64 (sh).1.1,.int .i64 (sh).1.2],.rw (cl S.d.length (wyB S (bO m) h)),.rw (cl S.d.length (fun j=>wyF S (wyB S (bO m) h) j k))]) (fun k=>S.f.length - k) (fun k=>k≤S.f.length) 0 (by simp)
      (.same ⟨rfl,rfl,rfl,rfl,rfl,rfl,rfl,rfl,rfl,rfl,rfl,trivial⟩) (Nat.zero_le _) ?_
     clear hv hvn
     intro k hk
     by_cases hkl:k<S.f.length
     ·obtain ⟨hw1,hw2,-⟩:=hok.f k hkl
      have ha1:=hw1.1;have ha2:=hw1.2;have hb1:=hw2.1;have hb2:=hw2.2
      have hc6:∀ r,cellGet [.ro (ints S.d),.ro (pc S.f),.ro (ints S.s),.rw (shL 0 1 2 S),.rw [.int .i64 0,.int .i64 0],.rw (ints L),.rw [.int .i64 (sh).1.1,.int .i64 (sh).1.2],.rw (cl S.d.length (wyB S (bO m) h)),.rw r] 1 (0+k*2+0*1)=some (.int .i64 (gf S.f k).1):=fun r=>pc_get0 (.inl rfl) hkl
      have hc7:∀ r,cellGet [.ro (ints S.d),.ro (pc S.f),.ro (ints S.s),.rw (shL 0 1 2 S),.rw [.int .i64 0,.int .i64 0],.rw (ints L),.rw [.int .i64 (sh).1.1,.int .i64 (sh).1.2],.rw (cl S.d.length (wyB S (bO m) h)),.rw r] 1 (0+k*2+1*1)=some (.int .i64 (gf S.f k).2):=fun r=>pc_get1 (.inl rfl) hkl
      have hc3:∀ r o,o=(gf S.f k).1.toNat→cellGet [.ro (ints S.d),.ro (pc S.f),.ro (ints S.s),.rw (shL 0 1 2 S),.rw [.int .i64 0,.int .i64 0],.rw (ints L),.rw [.int .i64 (sh).1.1,.int .i64 (sh).1.2],.rw (cl S.d.length (wyB S (bO m) h)),.rw r] 7 o=some (.int .i64 (wyB S (bO m) h (gf S.f k).1.toNat)):=fun r o ho=>by subst ho;exact cl_get (by omega)
      have hc4:∀ r o,o=(gf S.f k).2.toNat→cellGet [.ro (ints S.d),.ro (pc S.f),.ro (ints S.s),.rw (shL 0 1 2 S),.rw [.int .i64 0,.int .i64 0],.rw (ints L),.rw [.int .i64 (sh).1.1,.int .i64 (sh).1.2],.rw (cl S.d.length (wyB S (bO m) h)),.rw (cl S.d.length r)] 8 o=some (.int .i64 (r (gf S.f k).2.toNat)):=fun r o ho=>by subst ho;exact cl_get (by omega)
      have hc5:∀ r o,o=(gf S.f k).1.toNat→cellGet [.ro (ints S.d),.ro (pc S.f),.ro (ints S.s),.rw (shL 0 1 2 S),.rw [.int .i64 0,.int .i64 0],.rw (ints L),.rw [.int .i64 (sh).1.1,.int .i64 (sh).1.2],.rw (cl S.d.length (wyB S (bO m) h)),.rw r] 0 o=some (.int .i64 (gi S.d (gf S.f k).1.toNat)):=fun r o ho=>by subst ho;exact ints_get (by omega)
      have hmb:=hwb (gf S.f k).1.toNat (by omega)
      have hda:=hok.d (gf S.f k).1.toNat (by omega)
      have hmf:=hfb (gf S.f k).2.toNat k hk
      have hput2:∀ v o,o=(gf S.f k).2.toNat→v=max (wyF S (wyB S (bO m) h) (gf S.f k).2.toNat k) (wyB S (bO m) h (gf S.f k).1.toNat+gi S.d (gf S.f k).1.toNat)→0≤wyB S (bO m) h (gf S.f k).1.toNat→putCells [.ro (ints S.d),.ro (pc S.f),.ro (ints S.s),.rw (shL 0 1 2 S),.rw [.int .i64 0,.int .i64 0],.rw (ints L),.rw [.int .i64 (sh).1.1,.int .i64 (sh).1.2],.rw (cl S.d.length (wyB S (bO m) h)),.rw (cl S.d.length (fun j=>wyF S (wyB S (bO m) h) j k))] 8 o [.int .i64 v]=some [.ro (ints S.d),.ro (pc S.f),.ro (ints S.s),.rw (shL 0 1 2 S),.rw [.int .i64 0,.int .i64 0],.rw (ints L),.rw [.int .i64 (sh).1.1,.int .i64 (sh).1.2],.rw (cl S.d.length (wyB S (bO m) h)),.rw (cl S.d.length (fun j=>wyF S (wyB S (bO m) h) j (k+1)))]:=fun v o ho hv hm=>by
       subst ho
       exact putRw (cs':=cl S.d.length (fun j=>wyF S (wyB S (bO m) h) j (k+1))) rfl (by rw [cl_len];simp;omega) (by rw [cl_len];omega) (by
        rw [cl_set1 (by omega)]
        refine cl_congr fun j _=>?_
        simp only [setI,wyF]
        by_cases hj:j=(gf S.f k).2.toNat
        ·rw [if_pos hj,if_pos ⟨by omega,hm⟩,hv,hj]
        ·rw [if_neg hj,if_neg (fun hc=>hj (by omega))])
      have hno:¬ 0≤wyB S (bO m) h (gf S.f k).1.toNat→cl S.d.length (fun j=>wyF S (wyB S (bO m) h) j k)=cl S.d.length (fun j=>wyF S (wyB S (bO m) h) j (k+1)):=fun hm=>cl_congr fun j _=>by
       simp only [wyF];rw [if_neg (fun hc=>hm hc.2)]
      clear hfb hwb hWn hWo
      by_cases hm:wyB S (bO m) h (gf S.f k).1.toNat≥0
      ·have hput2:=fun v o ho hv=>hput2 v o ho hv hm
       repeat' (first|(refine gU ?_;first|(refine gMove ?_;refine st (ok_move rfl) rfl rfl ?_)|(refine gAssign ?_;refine st (ok_assign rfl) rfl rfl ?_)|(refine gFA ?_;refine st (ok_fieldAddr rfl) rfl rfl ?_)|(refine gLoad ?_;refine st (ok_load rfl (by first|rfl|exact hc3 _ _ (by omega))) rfl rfl ?_)|(refine gAdd ?_;refine st (ok_inc rfl rfl (by omega)) rfl rfl ?_)|(refine gBin ?_;refine st (ok_bin rfl rfl rfl) rfl rfl ?_)|(refine gLen ?_;refine st (ok_len rfl) rfl rfl ?_)|(refine gIA ?_;refine st (ok_idx rfl rfl (by omega) (by omega)) rfl rfl ?_)|(refine gStore ?_;refine stN (ok_store rfl rfl rfl rfl (by exact hput2 _ _ (by omega) rfl)) rfl ?_))|(refine fU ?_;first|(refine fMove ?_;refine frA (ok_move rfl) rfl ?_)|(refine fAssign ?_;refine frA (ok_assign rfl) rfl ?_)|(refine fFA ?_;refine frA (ok_fieldAddr rfl) rfl ?_)|(refine fLoad ?_;refine frA (ok_load rfl (by first|rfl|exact hc3 _ _ (by omega)|exact hc4 _ _ (by omega)|exact hc5 _ _ (by omega)|exact hc6 _|exact hc7 _)) rfl ?_)|(refine fAdd ?_;refine frA (ok_add rfl rfl (by omega) (by omega)) rfl ?_)|(refine fIA ?_;first|refine frA (ok_idxSN rfl rfl (by omega)) rfl ?_|refine frA (ok_idx rfl rfl (by omega) (by omega)) rfl ?_|refine frA (ok_idxA rfl rfl (by omega) (by omega)) rfl ?_)|(refine fMax ?_;refine frA (ok_max rfl rfl) rfl ?_))|(refine fr_stop ⟨by kernel_rfl,?_⟩)|refine W_seq ?_|refine W_region ?_|refine W_regionD (by kernel_rfl) rfl ?_|refine st_nil ?_|refine tq_n ?_|refine bq_n ?_|refine W_skip ?_|refine W_block ?_|refine W_condTA rfl ?_)
       exact ⟨rfl,k+1,by omega,by omega,.same ⟨rfl,rfl,rfl,rfl,rfl,rfl,rfl,rfl,rfl,rfl,rfl,trivial⟩⟩
      ·have hno2:=hno hm
       repeat' (first|(refine gU ?_;first|(refine gMove ?_;refine st (ok_move rfl) rfl rfl ?_)|(refine gAssign ?_;refine st (ok_assign rfl) rfl rfl ?_)|(refine gFA ?_;refine st (ok_fieldAddr rfl) rfl rfl ?_)|(refine gLoad ?_;refine st (ok_load rfl (by first|rfl|exact hc3 _ _ (by omega))) rfl rfl ?_)|(refine gAdd ?_;refine st (ok_inc rfl rfl (by omega)) rfl rfl ?_)|(refine gBin ?_;refine st (ok_bin rfl rfl rfl) rfl rfl ?_)|(refine gLen ?_;refine st (ok_len rfl) rfl rfl ?_)|(refine gIA ?_;refine st (ok_idx rfl rfl (by omega) (by omega)) rfl rfl ?_))|(refine fU ?_;first|(refine fMove ?_;refine frA (ok_move rfl) rfl ?_)|(refine fAssign ?_;refine frA (ok_assign rfl) rfl ?_)|(refine fFA ?_;refine frA (ok_fieldAddr rfl) rfl ?_)|(refine fLoad ?_;refine frA (ok_load rfl (by first|rfl|exact hc6 _|exact hc7 _)) rfl ?_)|(refine fIA ?_;first|refine frA (ok_idxSN rfl rfl (by omega)) rfl ?_|refine frA (ok_idxA rfl rfl (by omega) (by omega)) rfl ?_))|(refine fr_stop ⟨by kernel_rfl,?_⟩)|refine W_seq ?_|refine W_region ?_|refine W_regionD (by kernel_rfl) rfl ?_|refine st_nil ?_|refine tq_n ?_|refine bq_n ?_|refine W_skip ?_|refine W_block ?_|refine W_condTA rfl ?_|refine W_condFA rfl ?_)
       refine ⟨rfl,k+1,by omega,by omega,?_⟩
       simp only [← hno2]
       exact .same ⟨rfl,rfl,rfl,rfl,rfl,rfl,rfl,rfl,rfl,rfl,rfl,trivial⟩
     ·obtain rfl:k=S.f.length:=by omega
      have hc1:∀ σ':Heap,cellGet (AObj.ro (ints S.d)::.ro (pc S.f)::.ro (ints S.s)::.rw (shL 0 1 2 S)::.rw [.int .i64 0,.int .i64 0]::.rw (ints L)::.rw [.int .i64 (sh).1.1,.int .i64 (sh).1.2]::σ') 5 i=some (.int .i64 (m:Int)):=fun σ'=>by rw [← m1];exact ints_get hil
      have hc2:∀ σ':Heap,cellGet (AObj.ro (ints S.d)::.ro (pc S.f)::.ro (ints S.s)::.rw (shL 0 1 2 S)::.rw [.int .i64 0,.int .i64 0]::.rw (ints L)::.rw [.int .i64 (sh).1.1,.int .i64 (sh).1.2]::σ') 5 (0+i*1)=some (.int .i64 (m:Int)):=fun σ'=>by rw [Nat.zero_add,Nat.mul_one,← m1];exact ints_get hil
      have hc3:∀ (σ':Heap) o,o=m→cellGet (AObj.ro (ints S.d)::.ro (pc S.f)::.ro (ints S.s)::.rw (shL 0 1 2 S)::.rw [.int .i64 0,.int .i64 0]::.rw (ints L)::.rw [.int .i64 (sh).1.1,.int .i64 (sh).1.2]::.rw (cl S.d.length (wyB S (bO m) h))::.rw (cl S.d.length (fun j=>wyF S (wyB S (bO m) h) j S.f.length))::σ') 8 o=some (.int .i64 (wO S m (h+1))):=fun σ' o ho=>by subst ho;exact cl_get m2
      have hwo:=wO_bound hok (i:=m) (h:=h+1) m2
      have hrs:rmS S m (h+1) sh=if 0≤wO S m (h+1) then (if sh.2=false∨sh.1.1*redD (wO S m (h+1)).toNat (h+1)<redN (wO S m (h+1)).toNat (h+1)*sh.1.2 then (redN (wO S m (h+1)).toNat (h+1),redD (wO S m (h+1)).toNat (h+1)) else sh.1,true) else sh:=rfl
      clear hfb hwb hWo hWn
      generalize wO S m (h+1)=w at *
      by_cases hw:w≥0
      ·obtain ⟨w,rfl⟩:∃ w':Nat,w=(w':Int):=⟨w.toNat,by omega⟩
       rw [if_pos (by omega),Int.toNat_natCast] at hrs
       obtain ⟨r1,_,r3,r4⟩:=red_is (m:=w) (show 0<h+1 by omega)
       have r5:=r1.a0
       have r6:=r1.b0
       have hof:=fun (σ':Heap) (hσ:σ'.all (fun o=>!isIter o)=true)=>Ev.nil (σ:=σ') (of_ok w (h+1) (by omega) (by omega) (by omega)) rfl rfl hσ
       generalize redN w (h+1)=a at *
       generalize redD w (h+1)=b at *
       obtain ⟨⟨s1,s2⟩,fl⟩:=sh
       simp only [RmB] at hrs hBh hc1 hc2 hc3 ⊢
       have q1:=dz_prod (a:=s1) (d:=b) (by omega) (by omega) (by omega) (by omega)
       have q2:=dz_prod (a:=a) (d:=s2) (by omega) (by omega) hBh.2.2.1 hBh.2.2.2
       have hle:∀ σ':Heap,σ'.all (fun o=>!isIter o)=true→Ev Try.prog 42 [rtV s1 s2,rtV a b] σ' (.bool (decide (s1*b<a*s2))) σ':=fun σ' hσ=>Ev.nil (refLess_ok _ _ _ _ (by omega) (by omega) (by omega) (by omega)) rfl rfl hσ
       replace hof:=hof _ (rfl:([.ro (ints S.d),.ro (pc S.f),.ro (ints S.s),.rw (shL 0 1 2 S),.rw [.int .i64 0,.int .i64 0],.rw (ints L),.rw [.int .i64 s1,.int .i64 s2],.rw (cl S.d.length (wyB S (bO m) h)),.rw (cl S.d.length (fun j=>wyF S (wyB S (bO m) h) j S.f.length))]:Heap).all (fun o=>!isIter o)=true)
       clear q1 q2 hBh hwo r1 r3 r4 r5 r6
       cases fl with
       |false =>
        rw [if_pos (.inl rfl)] at hrs
        clear hle
        repeat' (first|(refine gU ?_;first|(refine gMove ?_;refine st (ok_move rfl) rfl rfl ?_)|(refine gAssign ?_;refine st (ok_assign rfl) rfl rfl ?_)|(refine gFA ?_;refine st (ok_fieldAddr rfl) rfl rfl ?_)|(refine gLoad ?_;first|refine st (ok_load rfl (by first|rfl|exact hc1 _|exact hc3 _ _ (by omega))) rfl rfl ?_|refine st (ok_loadA rfl (by rfl)) rfl rfl ?_)|(refine gAdd ?_;refine st (ok_inc rfl rfl (by omega)) rfl rfl ?_)|(refine gBin ?_;refine st (ok_bin rfl rfl rfl) rfl rfl ?_)|(refine gLen ?_;refine st (ok_len rfl) rfl rfl ?_)|(refine gPick ?_;refine st (ok_pickTA rfl rfl) rfl rfl ?_)|(refine gNot ?_;refine st (ok_not' rfl) rfl rfl ?_)|(refine gIA ?_;refine st (ok_idxN rfl rfl (by omega)) rfl rfl ?_)|(refine gCall ?_;refine st (ok_call rfl rfl rfl (by exact hof)) rfl rfl ?_)|(refine gAlloc ?_;refine st (ok_alloc rfl) rfl rfl ?_)|(refine gStore ?_;refine stN (ok_store rfl rfl rfl rfl (by rfl)) rfl ?_))|(refine gG ?_;refine stSA rfl rfl ?_)|refine W_seq ?_|refine W_region ?_|refine st_nil ?_|refine tq_n ?_|refine tq_e ?_|refine bq_n ?_|refine bq_hit rfl ?_|refine W_exit ?_|refine W_condTA rfl ?_|refine W_condFA rfl ?_)
        refine ⟨rfl,h+1,by omega,by omega,?_⟩
        rw [hhs,hrs]
        exact StRef.src [.ro (ints S.d),.ro (pc S.f),.ro (ints S.s),.rw (shL 0 1 2 S),.rw [.int .i64 0,.int .i64 0],.rw (ints L),.rw [.int .i64 a,.int .i64 b]] [.rw (cl S.d.length (wyB S (bO m) (h+1)))] [8] (by simp) rfl (hc_n7 S L _ _ (by simp)) rfl rfl ⟨osub_rwp (j:=8) rfl (.inl rfl) cl_plain,trivial⟩ (by (repeat' (first|exact trivial|refine ⟨er_plain rfl rfl,?_⟩|refine ⟨er_closed (m:=7) rfl (fun i hi=>srcR_lt hi) (by simp) (by first|rfl|exact closed_slice rfl) rfl,?_⟩|refine ⟨⟨_,rfl,vsub_sl (by simp) rfl (Nat.le_refl _)⟩,?_⟩)))
       |true =>
        by_cases hlt:s1*b<a*s2
        ·rw [if_pos (.inr hlt)] at hrs
         repeat' (first|(refine gU ?_;first|(refine gMove ?_;refine st (ok_move rfl) rfl rfl ?_)|(refine gAssign ?_;refine st (ok_assign rfl) rfl rfl ?_)|(refine gFA ?_;refine st (ok_fieldAddr rfl) rfl rfl ?_)|(refine gLoad ?_;first|refine st (ok_load rfl (by first|rfl|exact hc1 _|exact hc3 _ _ (by omega))) rfl rfl ?_|refine st (ok_loadA rfl (by rfl)) rfl rfl ?_)|(refine gAdd ?_;refine st (ok_inc rfl rfl (by omega)) rfl rfl ?_)|(refine gBin ?_;refine st (ok_bin rfl rfl rfl) rfl rfl ?_)|(refine gLen ?_;refine st (ok_len rfl) rfl rfl ?_)|(refine gPick ?_;refine st (ok_pickFA rfl rfl) rfl rfl ?_)|(refine gNot ?_;refine st (ok_not' rfl) rfl rfl ?_)|(refine gIA ?_;refine st (ok_idxN rfl rfl (by omega)) rfl rfl ?_)|(refine gCall ?_;refine st (ok_call rfl rfl rfl (by exact hof)) rfl rfl ?_)|(refine gAlloc ?_;refine st (ok_alloc rfl) rfl rfl ?_)|(refine gStore ?_;refine stN (ok_store rfl rfl rfl rfl (by rfl)) rfl ?_))|(refine gG ?_;first|(refine gLoad ?_;refine stGA rfl (ok_loadA rfl (by rfl)) rfl rfl ?_)|(refine gCall ?_;refine stGA rfl (ok_call rfl rfl rfl (by exact hle _ rfl)) rfl rfl ?_))|refine W_seq ?_|refine W_region ?_|refine st_nil ?_|refine tq_n ?_|refine tq_e ?_|refine bq_n ?_|refine bq_hit rfl ?_|refine W_exit ?_|refine W_condTA rfl ?_|refine W_condFA rfl ?_)
         refine ⟨rfl,h+1,by omega,by omega,?_⟩
         rw [hhs,hrs]
         exact StRef.src [.ro (ints S.d),.ro (pc S.f),.ro (ints S.s),.rw (shL 0 1 2 S),.rw [.int .i64 0,.int .i64 0],.rw (ints L),.rw [.int .i64 a,.int .i64 b]] [.rw (cl S.d.length (wyB S (bO m) (h+1)))] [8] (by simp) rfl (hc_n7 S L _ _ (by simp)) rfl rfl ⟨osub_rwp (j:=8) rfl (.inl rfl) cl_plain,trivial⟩ (by (repeat' (first|exact trivial|refine ⟨er_plain rfl rfl,?_⟩|refine ⟨er_closed (m:=7) rfl (fun i hi=>srcR_lt hi) (by simp) (by first|rfl|exact closed_slice rfl) rfl,?_⟩|refine ⟨⟨_,rfl,vsub_sl (by simp) rfl (Nat.le_refl _)⟩,?_⟩)))
        ·rw [if_neg (by simp [hlt])] at hrs
         repeat' (first|(refine gU ?_;first|(refine gMove ?_;refine st (ok_move rfl) rfl rfl ?_)|(refine gAssign ?_;refine st (ok_assign rfl) rfl rfl ?_)|(refine gFA ?_;refine st (ok_fieldAddr rfl) rfl rfl ?_)|(refine gLoad ?_;refine st (ok_load rfl (by first|rfl|exact hc1 _|exact hc3 _ _ (by omega))) rfl rfl ?_)|(refine gAdd ?_;refine st (ok_inc rfl rfl (by omega)) rfl rfl ?_)|(refine gBin ?_;refine st (ok_bin rfl rfl rfl) rfl rfl ?_)|(refine gLen ?_;refine st (ok_len rfl) rfl rfl ?_)|(refine gPick ?_;refine st (ok_pickFA rfl rfl) rfl rfl ?_)|(refine gNot ?_;refine st (ok_not' rfl) rfl rfl ?_)|(refine gIA ?_;refine st (ok_idxN rfl rfl (by omega)) rfl rfl ?_)|(refine gCall ?_;refine st (ok_call rfl rfl rfl (by exact hof)) rfl rfl ?_)|(refine gAlloc ?_;refine st (ok_alloc rfl) rfl rfl ?_)|(refine gStore ?_;refine stN (ok_store rfl rfl rfl rfl (by rfl)) rfl ?_))|(refine gG ?_;first|(refine gLoad ?_;refine stGA rfl (ok_loadA rfl (by rfl)) rfl rfl ?_)|(refine gCall ?_;refine stGA rfl (ok_call rfl rfl rfl (by exact hle _ rfl)) rfl rfl ?_))|refine W_seq ?_|refine W_region ?_|refine st_nil ?_|refine tq_n ?_|refine tq_e ?_|refine bq_n ?_|refine bq_hit rfl ?_|refine W_skip ?_|refine W_exit ?_|refine W_condTA rfl ?_|refine W_condFA rfl ?_)
         refine ⟨rfl,h+1,by omega,by omega,?_⟩
         rw [hhs,hrs]
         exact StRef.src [.ro (ints S.d),.ro (pc S.f),.ro (ints S.s),.rw (shL 0 1 2 S),.rw [.int .i64 0,.int .i64 0],.rw (ints L),.rw [.int .i64 s1,.int .i64 s2]] [.rw (cl S.d.length (wyB S (bO m) (h+1)))] [8] (by simp) rfl (hc_n7 S L _ _ (by simp)) rfl rfl ⟨osub_rwp (j:=8) rfl (.inl rfl) cl_plain,trivial⟩ (by (repeat' (first|exact trivial|refine ⟨er_plain rfl rfl,?_⟩|refine ⟨er_closed (m:=7) rfl (fun i hi=>srcR_lt hi) (by simp) (by first|rfl|exact closed_slice rfl) rfl,?_⟩|refine ⟨⟨_,rfl,vsub_sl (by simp) rfl (Nat.le_refl _)⟩,?_⟩)))
      ·rw [if_neg (by omega)] at hrs
       repeat' (first|(refine gU ?_;first|(refine gMove ?_;refine st (ok_move rfl) rfl rfl ?_)|(refine gAssign ?_;refine st (ok_assign rfl) rfl rfl ?_)|(refine gFA ?_;refine st (ok_fieldAddr rfl) rfl rfl ?_)|(refine gLoad ?_;refine st (ok_load rfl (by first|rfl|exact hc1 _|exact hc3 _ _ (by omega))) rfl rfl ?_)|(refine gAdd ?_;refine st (ok_inc rfl rfl (by omega)) rfl rfl ?_)|(refine gBin ?_;refine st (ok_bin rfl rfl rfl) rfl rfl ?_)|(refine gLen ?_;refine st (ok_len rfl) rfl rfl ?_)|(refine gIA ?_;refine st (ok_idxN rfl rfl (by omega)) rfl rfl ?_))|refine W_seq ?_|refine W_region ?_|refine st_nil ?_|refine tq_n ?_|refine tq_e ?_|refine bq_n ?_|refine bq_hit rfl ?_|refine W_skip ?_|refine W_exit ?_|refine W_condFA rfl ?_)
       refine ⟨rfl,h+1,by omega,by omega,?_⟩
       rw [hhs,hrs]
       exact StRef.src [.ro (ints S.d),.ro (pc S.f),.ro (ints S.s),.rw (shL 0 1 2 S),.rw [.int .i64 0,.int .i64 0],.rw (ints L),.rw [.int .i64 (sh).1.1,.int .i64 (sh).1.2]] [.rw (cl S.d.length (wyB S (bO m) (h+1)))] [8] (by simp) rfl (hc_n7 S L _ _ (by simp)) rfl rfl ⟨osub_rwp (j:=8) rfl (.inl rfl) cl_plain,trivial⟩ (by (repeat' (first|exact trivial|refine ⟨er_plain rfl rfl,?_⟩|refine ⟨er_closed (m:=7) rfl (fun i hi=>srcR_lt hi) (by simp) (by first|rfl|exact closed_slice rfl) rfl,?_⟩|refine ⟨⟨_,rfl,vsub_sl (by simp) rfl (Nat.le_refl _)⟩,?_⟩)))
   ·obtain rfl:h=S.d.length:=by omega
    clear hhs hB1 hBh
    repeat' (first|(refine gU ?_;first|(refine gMove ?_;refine st (ok_move rfl) rfl rfl ?_)|(refine gAssign ?_;refine st (ok_assign rfl) rfl rfl ?_)|(refine gAdd ?_;refine st (ok_inc rfl rfl (by omega)) rfl rfl ?_)|(refine gBin ?_;refine st (ok_bin rfl rfl rfl) rfl rfl ?_))|refine W_seq ?_|refine W_region ?_|refine st_nil ?_|refine tq_n ?_|refine tq_e ?_|refine bq_n ?_|refine bq_hit rfl ?_|refine W_exit ?_|refine W_condFA rfl ?_)
    refine ⟨rfl,i+1,by omega,by omega,?_⟩
    rw [hL1]
    exact StRef.drop [.ro (ints S.d),.ro (pc S.f),.ro (ints S.s),.rw (shL 0 1 2 S),.rw [.int .i64 0,.int .i64 0],.rw (ints L),.rw [.int .i64 (rmH S m sq S.d.length).1.1,.int .i64 (rmH S m sq S.d.length).1.2]] [_] (by simp) (hc_n7 S L _ _ (by simp)) (by (repeat' (first|exact trivial|exact ⟨rfl,rfl,rfl⟩|exact ⟨rfl,closed_slice rfl,rfl⟩|refine ⟨?_,?_⟩)))
 ·obtain rfl:i=L.length:=by omega
  repeat' (first|(refine gU ?_;first|(refine gMove ?_;refine st (ok_move rfl) rfl rfl ?_)|(refine gAssign ?_;refine st (ok_assign rfl) rfl rfl ?_)|(refine gLoad ?_;refine st (ok_loadA rfl (by rfl)) rfl rfl ?_)|(refine gBin ?_;refine st (ok_bin rfl rfl rfl) rfl rfl ?_)|(refine gLen ?_;refine st (ok_len rfl) rfl rfl ?_)|(refine gStore ?_;refine stN (ok_store rfl rfl rfl rfl (by rfl)) rfl ?_))|refine W_seq ?_|refine W_region ?_|refine st_nil ?_|refine tq_n ?_|refine tq_e ?_|refine bq_hit rfl ?_|refine W_exit ?_|refine W_ret ?_|refine W_condFA rfl ?_)
  exact ret0 (.cellN inferInstance rfl rfl (.tmp rfl .nil)) (.plain rfl rfl) ⟨rfl,rfl⟩
end Go.Proofs.Ytomioaiojidnbaa
namespace Go.AH.Dust
open Go Go.AH
theorem RndP.of {S:Shp} {a b:Int} {r:List Int} {m:Nat} (h:RndP S a b r) (hr:Red a b) (hs:sumK S r r.length=(m:Int)):redN m r.length=a∧redD m r.length=b:=by
 have hl:=h.ne
 obtain ⟨r1,r2,_,_⟩:=red_is (m:=m) hl
 have hsum:=h.sum
 rw [hs] at hsum
 refine r1.uniq hr (Int.eq_of_mul_eq_mul_right (show ((r.length:Nat):Int) ≠ 0 by omega) ?_)
 have e1:redN m r.length*b*(r.length:Int)=redN m r.length*(r.length:Int)*b:=by rw [Int.mul_assoc,Int.mul_comm b,← Int.mul_assoc]
 have e2:a*redD m r.length*(r.length:Int)=a*(r.length:Int)*redD m r.length:=by rw [Int.mul_assoc,Int.mul_comm (redD m r.length),← Int.mul_assoc]
 rw [e1,e2,r2,← hsum,Int.mul_comm b,Int.mul_assoc,Int.mul_assoc,Int.mul_comm b]
theorem prt_drop {σ:Heap} {x i:Nat} {w:List Int} (h:arrAt σ x (ints w)) (hi:i≤w.length):prtAt σ (x,i) (ints (w.drop i)) :=
 ⟨ints w,h,by simp only [ints,List.map_drop,List.length_drop,List.length_map];rw [List.take_of_length_le (by simp)],by simp [ints];omega⟩
end Go.AH.Dust
namespace Go.Proofs.Ytomioaiojidnbaa
open Go Go.AH
attribute [local irreducible] WOps WCode WFree retQ thenQ blockQ scopeQ OpOk ACall RetRef roundA roundB
set_option maxRecDepth 100000
set_option maxHeartbeats 1000000
open Go.AH.Dust
theorem refMean_ev {σ:Heap} {S:Shp} {x y z:Nat} {v:Value} (hs:SAt σ x y z S) (hv:ShS x y z S v) (hS:S.fit) (h0:shopE S=0) (hni:σ.all (fun o=>!isIter o)=true) :
  Ev Try.prog 36 [v] σ (if mnE S=0 then .tuple #[rtV (mnA S) (mnB S),.bool true] else .tuple #[rtV 0 1,.bool false]) σ:=by
 have h:=refMean_ok S hS h0
 rw [rm_is h0] at h
 by_cases hE:mnE S=0
 ·rw [if_pos hE] at h ⊢
  exact Ev.arrs S.css [x,y,z] h hs.arrs ⟨hv,trivial⟩ S.css_plain rfl hni
 ·rw [if_neg hE] at h ⊢
  exact Ev.arrs S.css [x,y,z] h hs.arrs ⟨hv,trivial⟩ S.css_plain rfl hni
theorem dustMeans_own (hwo:∀ σ:Heap,σ.all (fun o=>!isIter o)=true→Ev Try.prog 14 [] σ (.bool true) σ) (S:Shp) (hS:S.fit):Ev Try.prog 7 [shV 0 1 2 S] S.hp (.bool true) S.hp:=by
 have hgr:=great_ev (σ:=[.ro (ints S.d),.ro (pc S.f),.ro (ints S.s),.rw (shL 0 1 2 S)]) (S:=S) (x:=0) (y:=1) (z:=2) ⟨.inl rfl,.inl rfl,.inl rfl⟩ shS_self hS rfl
 by_cases hm:(S.d.length:Int) > 15∨(S.f.length:Int) > 70∨(S.s.length:Int) > 15
 ·refine acall_intro 3 93 Try.func7 rfl rfl rfl rfl rfl ?_
  repeat' (first|(refine gU ?_;first|(refine gAssign ?_;refine st (ok_assign rfl) rfl rfl ?_)|(refine gLoad ?_;refine st (ok_loadA rfl (by rfl)) rfl rfl ?_)|(refine gCall ?_;refine st (ok_call rfl rfl rfl (by first|exact hgr|exact hwo _ rfl)) rfl rfl ?_)|(refine gBox ?_;refine st (ok_box rfl) rfl rfl ?_))|refine W_seq ?_|refine W_region ?_|refine st_nil ?_|refine tq_n ?_|refine tq_r ?_|refine W_ret ?_|refine W_condTA rfl ?_)
  all_goals exact ret0 (.tmp rfl .nil) (.plain rfl rfl) ⟨rfl,rfl⟩
 have hA:=mean35_ev (σ:=[.ro (ints S.d),.ro (pc S.f),.ro (ints S.s),.rw (shL 0 1 2 S)]) (S:=S) (x:=0) (y:=1) (z:=2) ⟨.inl rfl,.inl rfl,.inl rfl⟩ shS_self hS rfl
 have hsh:=fun w a b=>refShop_ev (σ:=[.ro (ints S.d),.ro (pc S.f),.ro (ints S.s),.rw (shL 0 1 2 S),.rw (ints w),.rw [.int .i64 a,.int .i64 b]]) (S:=S) (x:=0) (y:=1) (z:=2) ⟨.inl rfl,.inl rfl,.inl rfl⟩ shS_self hS rfl
 by_cases h0:shopE S=0
 ·have hB:=fun w a b=>refMean_ev (σ:=[.ro (ints S.d),.ro (pc S.f),.ro (ints S.s),.rw (shL 0 1 2 S),.rw (ints w),.rw [.int .i64 a,.int .i64 b]]) (S:=S) (x:=0) (y:=1) (z:=2) ⟨.inl rfl,.inl rfl,.inl rfl⟩ shS_self hS h0 rfl
  rw [h0] at hsh
  by_cases hE:mnE S=0
  ·obtain ⟨o1,o2,o3⟩:=mnO_is hE
   have hred:=(mn_ok hE).red
   obtain ⟨d1,d2,d3⟩:=rdB_of h0 o2
   obtain ⟨m,hm2⟩:∃ m:Nat,sumK S (mnR S) (mnR S).length=(m:Int):=⟨(sumK S (mnR S) (mnR S).length).toNat,by have:=sumK_bound (shopE_zero h0) (l:=mnR S) o2.wk _ (Nat.le_refl _);omega⟩
   have hmb:=sumK_bound (shopE_zero h0) (l:=mnR S) o2.wk _ (Nat.le_refl _)
   rw [hm2] at hmb
   obtain ⟨f1,f2⟩:=o2.of hred hm2
   have n10:=(shopE_zero h0).n10
   have hl:=o2.len
   have hl0:=o2.ne
   have hof:=fun σ hσ=>Ev.nil (σ:=σ) (of_ok m (mnR S).length (by omega) (by omega) (by omega)) rfl rfl hσ
   rw [f1,f2] at hof
   have hpr:=fun (σ:Heap) (h:σ[4]?=some (.rw (ints (mnO S).1)))=>prt_drop (σ:=σ) (x:=4) (i:=(mnO S).2) (w:=(mnO S).1) (.inr (.inl h)) (by omega)
   have hps:PS 4 (mnO S).2 (mnR S).length (.slice (some ⟨4,(mnO S).2,none⟩) (mnR S).length (mnR S).length):=ps_sl (Nat.le_refl _)
   have hR:=fun a b=>isRound_ev (σ:=[.ro (ints S.d),.ro (pc S.f),.ro (ints S.s),.rw (shL 0 1 2 S),.rw (ints (mnO S).1),.rw [.int .i64 a,.int .i64 b],.rw [.int .i64 a,.int .i64 b]]) (S:=S) (l:=mnR S) (x:=0) (y:=1) (z:=2) (w:=4) (o:=(mnO S).2) ⟨.inl rfl,.inl rfl,.inl rfl⟩ shS_self (hpr _ rfl) hps hS (by omega) rfl
   have hC:=fun a b=>refRunP_ev (σ:=[.ro (ints S.d),.ro (pc S.f),.ro (ints S.s),.rw (shL 0 1 2 S),.rw (ints (mnO S).1),.rw [.int .i64 a,.int .i64 b],.rw [.int .i64 a,.int .i64 b]]) (S:=S) (l:=mnR S) (x:=0) (y:=1) (z:=2) (w:=4) (o:=(mnO S).2) ⟨.inl rfl,.inl rfl,.inl rfl⟩ shS_self (hpr _ rfl) hps hS (by omega) rfl
   rw [if_pos hE] at hB
   rw [hE] at hA
   rw [d1] at hR
   rw [d2,d3,hm2] at hC
   clear hE o1 o2 o3 hred d1 d2 d3 hm2 f1 f2 hpr hps
   replace hsh:=hsh (mnO S).1 (mnA S) (mnB S)
   replace hB:=hB (mnO S).1 (mnA S) (mnB S)
   replace hR:=hR (mnA S) (mnB S)
   replace hC:=hC (mnA S) (mnB S)
   generalize mnR S=R at *
   generalize mnO S=O at *
   obtain ⟨w,i⟩:=O
   simp only at hA hsh hB hR hC
   generalize mnA S=a at *
   generalize mnB S=b at *
   replace hof:=hof [.ro (ints S.d),.ro (pc S.f),.ro (ints S.s),.rw (shL 0 1 2 S),.rw (ints w),.rw [.int .i64 a,.int .i64 b],.rw [.int .i64 a,.int .i64 b]] rfl
   refine acall_intro 3 93 Try.func7 rfl rfl rfl rfl rfl ?_
   repeat' (first|(refine gU ?_;first|(refine gMove ?_;refine st (ok_move rfl) rfl rfl ?_)|(refine gAssign ?_;refine st (ok_assign rfl) rfl rfl ?_)|(refine gLoad ?_;refine st (ok_loadA rfl (by rfl)) rfl rfl ?_)|(refine gBin ?_;refine st (ok_bin rfl rfl rfl) rfl rfl ?_)|(refine gPick ?_;refine st (ok_pickFA rfl rfl) rfl rfl ?_)|(refine gNot ?_;refine st (ok_not' rfl) rfl rfl ?_)|(refine gExtract ?_;refine st (ok_extract rfl rfl) rfl rfl ?_)|(refine gCall ?_;refine st (ok_call rfl rfl rfl (by first|exact hgr|exact hA|exact hsh|exact hB|exact hC)) rfl rfl ?_)|(refine gBox ?_;refine st (ok_box rfl) rfl rfl ?_)|(refine gAlloc ?_;refine st (ok_alloc rfl) rfl rfl ?_)|(refine gStore ?_;refine stN (ok_store rfl rfl rfl rfl (by rfl)) rfl ?_))|(refine gG ?_;first|(refine gMove ?_;refine stGA rfl (ok_move rfl) rfl rfl ?_)|(refine gLoad ?_;refine stGA rfl (ok_loadA rfl (by rfl)) rfl rfl ?_)|(refine gBin ?_;refine stGA rfl (ok_neq2 rfl rfl) rfl rfl ?_)|(refine gNot ?_;refine stGA rfl (ok_not' rfl) rfl rfl ?_)|(refine gCall ?_;refine stGA rfl (ok_call rfl rfl rfl (by exact hR)) rfl rfl ?_))|(refine fU ?_;first|(refine fMove ?_;refine frA (ok_move rfl) rfl ?_)|(refine fAssign ?_;refine frA (ok_assign rfl) rfl ?_)|(refine fBin ?_;refine frA (ok_bin rfl rfl rfl) rfl ?_)|(refine fPick ?_;refine frA (ok_pickTA rfl rfl) rfl ?_))|(refine fG ?_;first|refine frGA rfl (ok_call rfl rfl rfl hof) rfl ?_|refine frGA rfl (ok_call rfl rfl rfl (hwo _ rfl)) rfl ?_|(refine fMove ?_;refine frGA rfl (ok_move rfl) rfl ?_)|(refine fLoad ?_;refine frGA rfl (ok_loadA rfl (by rfl)) rfl ?_)|(refine fBin ?_;refine frGA rfl (ok_eq2 rfl rfl) rfl ?_)|(refine fLen ?_;refine frGA rfl (ok_len rfl) rfl ?_))|(refine fr_stop ⟨by kernel_rfl,?_⟩)|refine W_seq ?_|refine W_region ?_|refine W_regionD (by kernel_rfl) rfl ?_|refine st_nil ?_|refine tq_n ?_|refine W_skip ?_|refine W_ret ?_|refine W_condFA rfl ?_)
   all_goals exact ret0 (.tmp rfl .nil) (.plain rfl rfl) ⟨rfl,rfl⟩
  ·have hz:(allS S S.d.length).length=0:=Classical.byContradiction fun hn=>hE (by rw [mnE_ok h0,if_neg hn])
   have hE5:mnE S=5:=by rw [mnE_ok h0,if_pos hz]
   have e1:mnA S=0:=by unfold mnA;rw [if_neg hE]
   have e2:mnB S=0:=by unfold mnB;rw [if_neg hE]
   have e3:mnO S=([],0):=by unfold mnO;rw [if_neg hE]
   have e4:mnR S=[]:=by unfold mnR;rw [e3];rfl
   rw [if_neg hE] at hB
   rw [e1,e2,e3,e4,hE5] at hA
   replace hsh:=hsh [] 0 0
   replace hB:=hB [] 0 0
   clear e1 e2 e3 e4 hE5 hE hz
   refine acall_intro 3 93 Try.func7 rfl rfl rfl rfl rfl ?_
   repeat' (first|(refine gU ?_;first|(refine gMove ?_;refine st (ok_move rfl) rfl rfl ?_)|(refine gAssign ?_;refine st (ok_assign rfl) rfl rfl ?_)|(refine gLoad ?_;refine st (ok_loadA rfl (by rfl)) rfl rfl ?_)|(refine gBin ?_;refine st (ok_bin rfl rfl rfl) rfl rfl ?_)|(refine gPick ?_;refine st (ok_pickTA rfl rfl) rfl rfl ?_)|(refine gNot ?_;refine st (ok_not' rfl) rfl rfl ?_)|(refine gExtract ?_;refine st (ok_extract rfl rfl) rfl rfl ?_)|(refine gCall ?_;refine st (ok_call rfl rfl rfl (by first|exact hgr|exact hA|exact hsh|exact hB)) rfl rfl ?_)|(refine gBox ?_;refine st (ok_box rfl) rfl rfl ?_)|(refine gAlloc ?_;refine st (ok_alloc rfl) rfl rfl ?_)|(refine gStore ?_;refine stN (ok_store rfl rfl rfl rfl (by rfl)) rfl ?_))|(refine gG ?_;first|(refine gMove ?_;refine stGA rfl (ok_move rfl) rfl rfl ?_)|(refine gLoad ?_;refine stGA rfl (ok_loadA rfl (by rfl)) rfl rfl ?_)|(refine gBin ?_;first|refine stGA rfl (ok_bin rfl rfl rfl) rfl rfl ?_|refine stGA rfl (ok_eq2 rfl rfl) rfl rfl ?_)|(refine gLen ?_;refine stGA rfl (ok_len rfl) rfl rfl ?_)|(refine gBuild ?_;refine stGA rfl (ok_build (by rfl) rfl (by rfl)) rfl rfl ?_)|(refine gCall ?_;refine stGA rfl (ok_call rfl rfl rfl (by exact hwo _ rfl)) rfl rfl ?_))|refine W_seq ?_|refine W_region ?_|refine st_nil ?_|refine tq_n ?_|refine tq_r ?_|refine W_skip ?_|refine W_ret ?_|refine W_condTA rfl ?_|refine W_condFA rfl ?_)
   all_goals exact ret0 (.tmp rfl .nil) (.plain rfl rfl) ⟨rfl,rfl⟩
 ·have hE:mnE S=shopE S:=by unfold mnE;rw [if_pos h0]
  have hE0:mnE S ≠ 0:=by rw [hE];exact h0
  have e1:mnA S=0:=by unfold mnA;rw [if_neg hE0]
  have e2:mnB S=0:=by unfold mnB;rw [if_neg hE0]
  have e3:mnO S=([],0):=by unfold mnO;rw [if_neg hE0]
  have e4:mnR S=[]:=by unfold mnR;rw [e3];rfl
  rw [e1,e2,e3,e4,hE] at hA
  replace hsh:=hsh [] 0 0
  clear e1 e2 e3 e4 hE hE0
  generalize shopE S=e at *
  refine acall_intro 3 93 Try.func7 rfl rfl rfl rfl rfl ?_
  repeat' (first|(refine gU ?_;first|(refine gMove ?_;refine st (ok_move rfl) rfl rfl ?_)|(refine gAssign ?_;refine st (ok_assign rfl) rfl rfl ?_)|(refine gLoad ?_;refine st (ok_loadA rfl (by rfl)) rfl rfl ?_)|(refine gBin ?_;refine st (ok_bin rfl rfl rfl) rfl rfl ?_)|(refine gPick ?_;refine st (ok_pickTA rfl rfl) rfl rfl ?_)|(refine gExtract ?_;refine st (ok_extract rfl rfl) rfl rfl ?_)|(refine gCall ?_;refine st (ok_call rfl rfl rfl (by first|exact hgr|exact hA|exact hsh)) rfl rfl ?_)|(refine gBox ?_;refine st (ok_box rfl) rfl rfl ?_)|(refine gAlloc ?_;refine st (ok_alloc rfl) rfl rfl ?_)|(refine gStore ?_;refine stN (ok_store rfl rfl rfl rfl (by rfl)) rfl ?_))|(refine gG ?_;first|(refine gMove ?_;refine stGA rfl (ok_move rfl) rfl rfl ?_)|(refine gLoad ?_;refine stGA rfl (ok_loadA rfl (by rfl)) rfl rfl ?_)|(refine gBin ?_;first|refine stGA rfl (ok_bin rfl rfl rfl) rfl rfl ?_|refine stGA rfl (ok_eq2 rfl rfl) rfl rfl ?_)|(refine gLen ?_;refine stGA rfl (ok_len rfl) rfl rfl ?_)|(refine gBuild ?_;refine stGA rfl (ok_build (by rfl) rfl (by rfl)) rfl rfl ?_)|(refine gCall ?_;refine stGA rfl (ok_call rfl rfl rfl (by exact hwo _ rfl)) rfl rfl ?_))|refine W_seq ?_|refine W_region ?_|refine st_nil ?_|refine tq_n ?_|refine tq_r ?_|refine W_skip ?_|refine W_ret ?_|refine W_condTA rfl ?_|refine W_condFA rfl ?_)
  all_goals exact ret0 (.tmp rfl .nil) (.plain rfl rfl) ⟨rfl,rfl⟩
theorem dustMeans_law (S:Shp) (hS:S.fit):Ev Try.prog 7 [shV 0 1 2 S] S.hp (.bool true) S.hp:=dustMeans_own (fun _ h=>works_ev h) S hS
end Go.Proofs.Ytomioaiojidnbaa
namespace Go.AH
open Go Go.RowKit Go.WideShapes Go.ChangeShapes
section
variable {H:Type} {enc:TypeId×Value→H} {P:Program} {W:World}
def cellsI (l:List Int):List Value:=l.map (.int .i64)
structure SlArg (W:World) (v:Value) (n size:Nat) (cs:List Value) (pl:Pl):Prop where
 len:n≤9223372036854775807
 rel:∀ (m:Nat) (ρ:Rho) (i:Nat),i<m→ρ i=pl→VRel m ρ (.slice (some ⟨i,0,none⟩) n n) v
 sz:cs.length=n*size
 cells:cs ≠ []→pl.b<W.heap.size∧∀ (k:Nat) (h:k<cs.length),W.cell? ⟨pl.b,pl.o+k,none⟩=some cs[k]
theorem cell_lt {w:World} {a:Addr} {v:Value} (h:w.cell? a=some v):a.block<w.heap.size∧a.spot=none:=by
 unfold World.cell? at h
 split at h
 ·rename_i hb
  refine ⟨(Array.getElem?_eq_some_iff.1 hb).1,?_⟩
  split at h
  ·cases h
  ·rename_i hs;simpa using hs
 ·cases h
theorem SlArg.hro {v:Value} {n size:Nat} {cs:List Value} {pl:Pl} (h:SlArg W v n size cs pl) (hp:plainL cs=true) (ρ:Rho) (i m:Nat) (hρ:ρ i=pl) (hne:cs ≠ []) :
  (ρ i).b<W.heap.size∧∀ (k:Nat) (hk:k<cs.length),∃ v',W.cell? ⟨(ρ i).b,(ρ i).o+k,none⟩=some v'∧VRel m ρ cs[k] v':=by
 rw [hρ]
 obtain ⟨h1,h2⟩:=h.cells hne
 exact ⟨h1,fun k hk=>⟨_,h2 k hk,vrel_plainL cs hp k hk⟩⟩
end
end Go.AH
namespace Go.AH
open Go Go.RowKit Go.WideShapes Go.ChangeShapes
section
variable {H:Type} {enc:TypeId×Value→H} {P:Program} {w:World} {base:Nat} {spare:Nat→Bool} {held:Bool}
end
section
variable {H:Type} {enc:TypeId×Value→H} {P:Program} {W:World}
end
end Go.AH
namespace Go.AH
open Go Go.RowKit Go.WideShapes Go.ChangeShapes
section
variable {H:Type} {enc:TypeId×Value→H} {P:Program} {w:World} {base:Nat} {spare:Nat→Bool} {held:Bool}
end
end Go.AH
namespace Go.AH
open Go Go.RowKit Go.WideShapes Go.ChangeShapes
section
variable {H:Type} {enc:TypeId×Value→H} {P:Program} {w:World} {base:Nat} {spare:Nat→Bool} {held:Bool}
end
section
variable {H:Type} {enc:TypeId×Value→H} {P:Program} {W:World}
end
end Go.AH
namespace Go.Proofs.Ytomioaiojidnbaa
open Go Go.AH Go.RowKit Go.WideShapes Go.ChangeShapes Go.AH.Dust
theorem add_cell {b o k:Nat}:(⟨b,o,none⟩:Addr).add k=⟨b,o+k,none⟩:=by
 unfold Addr.add
 split
 ·rename_i h;subst h;rfl
 ·rfl
theorem listP_of {Q:Nat→Int×Int→Prop} {n:Nat} (h:∀ i<n,∃ p,Q i p):∃ l:List (Int×Int),l.length=n∧∀ i<n,Q i (gf l i):=by
 induction n with
 |zero=>exact ⟨[],rfl,fun i hi=>by omega⟩
 |succ n ih =>
  obtain ⟨l,h1,h2⟩:=ih fun i hi=>h i (by omega)
  obtain ⟨p,hp⟩:=h n (by omega)
  refine ⟨l++[p],by simp [h1],fun i hi=>?_⟩
  by_cases hin:i<n
  ·have:gf (l++[p]) i=gf l i:=by simp only [gf,List.getD_eq_getElem?_getD];rw [List.getElem?_append_left (by omega)]
   rw [this];exact h2 i hin
  ·obtain rfl:i=n:=by omega
   have:gf (l++[p]) i=p:=by simp only [gf,List.getD_eq_getElem?_getD];rw [List.getElem?_append_right (by omega),h1,Nat.sub_self];rfl
   rw [this];exact hp
section
variable {H:Type} {enc:TypeId×Value→H} {P:Program} {W:World}
theorem readF_ints {t e:TypeId} {v:Value} {fuel:Nat} {x:DataW H×List MemPlace} (ht:P.underlying t=some (.slice e)) (he:P.underlying e=some (.int .i64)) (hc:P.cellsOf e=1)
  (hf:DataW.trod enc P W 0 (fun _=>true) true fuel t [v]=some x):∃ (l:List Int) (pl:Pl),SlArg W v l.length 1 (ints l) pl:=by
 rcases open_ints ht he hc hf with ⟨hcs,-⟩|⟨a,len,cap,zs,hcs,-,hl,hm,hz,-,hcell,hwf⟩
 ·cases hcs
  exact ⟨[],⟨0,0,0⟩,⟨by simp,fun m ρ i hi hρ=>.emptySlice _ _ _ _,rfl,fun h=>absurd rfl h⟩⟩
 ·cases hcs
  simp only [if_true] at hz
  have hlz:(zs.take len).length=len:=by rw [List.length_take];omega
  have hm':len≤9223372036854775807:=by unfold maxLen at hm;omega
  by_cases h0:len=0
  ·subst h0
   exact ⟨[],⟨0,0,0⟩,⟨by simp,fun m ρ i hi hρ=>.emptySlice _ _ _ _,rfl,fun h=>absurd rfl h⟩⟩
  ·have h1:=hcell 0 (by omega)
   have ha:a.add 0=a:=by simp [Addr.add]
   rw [ha] at h1
   obtain ⟨hb,hs⟩:=cell_lt h1
   obtain ⟨b,o,sp⟩:=a
   simp only at hb hs
   subst hs
   refine ⟨zs.take len,⟨b,o,0⟩,⟨by omega,fun m ρ i hi hρ=>?_,by simp [ints],fun _=>⟨hb,fun k hk=>?_⟩⟩⟩
   ·rw [hlz]
    have:=VQ.slice (q:=false) (n:=m) (ρ:=ρ) i 0 len len cap hl hi
    rw [hρ] at this
    simpa using this
   ·have hk':k<len:=by
     simp only [ints,List.length_map] at hk
     omega
    have h2:=hcell k (by omega)
    have hk2:zs.getD k 0=(zs.take len)[k]'(by omega):=by
     rw [List.getElem_take,List.getD_eq_getElem?_getD,List.getElem?_eq_getElem (by omega)];rfl
    rw [add_cell,hk2] at h2
    simpa [ints] using h2
theorem readF_pairs {t e f:TypeId} {v:Value} {fuel:Nat} {x:DataW H×List MemPlace} (ht:P.underlying t=some (.slice e)) (he:P.underlying e=some (.array 2 f)) (hf0:P.underlying f=some (.int .i64)) (hce:P.cellsOf e=2) (hcf:P.cellsOf f=1)
  (hf:DataW.trod enc P W 0 (fun _=>true) true fuel t [v]=some x):∃ (l:List (Int×Int)) (pl:Pl),SlArg W v l.length 2 (pc l) pl:=by
 have hempty:∀ (a0:Option Addr) (cap:Nat),∃ (l:List (Int×Int)) (pl:Pl),SlArg W (.slice a0 0 cap) l.length 2 (pc l) pl:=fun a0 cap =>
  ⟨[],⟨0,0,0⟩,⟨by simp,fun m ρ i hi hρ=>.emptySlice _ _ _ _,rfl,fun h=>absurd rfl h⟩⟩
 rcases Deep.open_slice ht hf with ⟨hcs,-⟩|⟨a,len,cap,m,n,D,Pl,hcs,-,hl,hm,hmm,-,hi⟩
 ·cases hcs;exact hempty _ _
 ·cases hcs
  simp only [if_true] at hmm
  by_cases h0:len=0
  ·subst h0;exact hempty _ _
  ·have each:∀ i<len,∃ q:Int×Int,W.cell? (a.add (i*2))=some (.int .i64 q.1)∧W.cell? ((a.add (i*2)).add 1)=some (.int .i64 q.2):=fun i hil=>by
    obtain ⟨cs,hc,htr⟩:=hi i (by omega)
    rw [hce] at hc
    obtain ⟨_,hcl,hat⟩:=World.cells?_some hc
    match cs,hcl with
    |[c0,c1],_ =>
     obtain ⟨zs,m',_,_,_,hlen2,hg2⟩:=DataW.trod_array he htr
     match zs,hlen2 with
     |[z0,z1],_ =>
      have q0:=hg2 0 (by omega)
      have q1:=hg2 1 (by omega)
      simp only [hcf,List.getElem?_cons_zero,List.getElem?_cons_succ] at q0 q1
      obtain ⟨n0,e0,_,w0⟩:=DataW.trod_int hf0 q0
      obtain ⟨n1,e1,_,w1⟩:=DataW.trod_int hf0 q1
      cases e0;cases e1
      have g0:=hat 0 (by omega)
      have g1:=hat 1 (by omega)
      have ha:(a.add (i*2)).add 0=a.add (i*2):=by simp [Addr.add]
      rw [ha] at g0
      exact ⟨(n0,n1),by simpa using g0,by simpa using g1⟩
   obtain ⟨l,hll,hq⟩:=listP_of each
   have h1:=(hq 0 (by omega)).1
   have ha:a.add (0*2)=a:=by simp [Addr.add]
   rw [ha] at h1
   obtain ⟨hb,hs⟩:=cell_lt h1
   obtain ⟨b,o,sp⟩:=a
   simp only at hb hs
   subst hs
   have hm':len≤9223372036854775807:=by unfold maxLen at hm;omega
   have hlen:=pc_len l
   refine ⟨l,⟨b,o,0⟩,⟨by omega,fun m ρ i hi hρ=>?_,by omega,fun _=>⟨hb,fun k hk=>?_⟩⟩⟩
   ·rw [hll]
    have:=VQ.slice (q:=false) (n:=m) (ρ:=ρ) i 0 len len cap hl hi
    rw [hρ] at this
    simpa using this
   ·obtain ⟨g0,g1⟩:=hq (k / 2) (by omega)
    simp only [add_cell] at g0 g1
    have h3:=List.getElem?_eq_getElem (l:=pc l) (i:=k) hk
    rcases (show k % 2=0∨k % 2=1 by omega) with h2|h2
    ·have hg:=pc_at0 (f:=l) (i:=k / 2) (by omega)
     rw [show k / 2*2=k by omega,h3] at hg
     rw [show o+k=o+k / 2*2 by omega,g0];exact hg.symm
    ·have hg:=pc_at1 (f:=l) (i:=k / 2) (by omega)
     rw [show k / 2*2+1=k by omega,h3] at hg
     rw [show o+k=o+k / 2*2+1 by omega,g1];exact hg.symm
end
structure ShArg (W:World) (v:Value) (S:Shp) (a b c:Pl):Prop where
 fit:S.fit
 rel:∀ (m:Nat) (ρ:Rho) (i j k:Nat),i<m→j<m→k<m→ρ i=a→ρ j=b→ρ k=c→VRel m ρ (shV i j k S) v
 d:∀ (ρ:Rho) (i m:Nat),ρ i=a→ints S.d ≠ []→(ρ i).b<W.heap.size∧∀ (k:Nat) (hk:k<(ints S.d).length),∃ v',W.cell? ⟨(ρ i).b,(ρ i).o+k,none⟩=some v'∧VRel m ρ (ints S.d)[k] v'
 f:∀ (ρ:Rho) (i m:Nat),ρ i=b→pc S.f ≠ []→(ρ i).b<W.heap.size∧∀ (k:Nat) (hk:k<(pc S.f).length),∃ v',W.cell? ⟨(ρ i).b,(ρ i).o+k,none⟩=some v'∧VRel m ρ (pc S.f)[k] v'
 s:∀ (ρ:Rho) (i m:Nat),ρ i=c→ints S.s ≠ []→(ρ i).b<W.heap.size∧∀ (k:Nat) (hk:k<(ints S.s).length),∃ v',W.cell? ⟨(ρ i).b,(ρ i).o+k,none⟩=some v'∧VRel m ρ (ints S.s)[k] v'
set_option maxRecDepth 100000 in
theorem read_shop {H:Type} {enc:TypeId×Value→H} {W:World} {b0:Nat} {v:Value} {d:DataW H} {p:List MemPlace} (hval:Value.okWide Try.prog W .any b0 26 v) (h:DataW.Trod enc Try.prog W 0 (fun _=>true) true 26 v d p) :
  ∃ (S:Shp) (a b c:Pl),ShArg W v S a b c:=by
 obtain ⟨cs,rfl,hsz⟩:=okWide_struct Try.underlying26 hval
 have k26:Try.prog.cellsOf 26=3:=by kernel_rfl
 have hsz3:cs.size=3:=hsz.trans k26
 obtain ⟨l⟩:=cs
 match l,hsz3 with
 |[c0,c1,c2],_ =>
  obtain ⟨fuel,hf⟩:=h
  obtain ⟨xs,n,_,_,_,hlen,hg⟩:=DataW.trod_struct Try.underlying26 hf
  match xs,hlen with
  |[y0,y1,y2],_ =>
   have k70:Try.prog.cellsOf 70=2:=by kernel_rfl
   have k3:Try.prog.cellsOf 3=1:=by kernel_rfl
   have k2:Try.prog.cellsOf 2=1:=by kernel_rfl
   have g0:=hg 0 _ rfl
   have g1:=hg 1 _ rfl
   have g2:=hg 2 _ rfl
   simp only [Value.cells,List.getElem?_cons_zero,List.getElem?_cons_succ] at g0 g1 g2
   obtain ⟨sd,a,hd⟩:=readF_ints Try.underlying22 Try.underlying2 k2 g0
   obtain ⟨sf,b,hf'⟩:=readF_pairs Try.underlying23 Try.underlying70 Try.underlying3 k70 k3 g1
   obtain ⟨ss,c,hs⟩:=readF_ints Try.underlying24 Try.underlying3 k3 g2
   refine ⟨⟨sd,sf,ss⟩,a,b,c,⟨hd.len,hf'.len,hs.len⟩,fun m ρ i j k hi hj hk h1 h2 h3=>?_,fun ρ i m hi hne=>hd.hro (ints_plain sd) ρ i m hi hne,fun ρ i m hi hne=>hf'.hro (pc_plain sf) ρ i m hi hne,fun ρ i m hi hne=>hs.hro (ints_plain ss) ρ i m hi hne⟩
   refine .agg _ _ rfl fun r hr _=>?_
   match r,hr with
   |0,_=>exact hd.rel m ρ i hi h1
   |1,_=>exact hf'.rel m ρ j hj h2
   |2,_=>exact hs.rel m ρ k hk h3
end Go.Proofs.Ytomioaiojidnbaa
