/- The arguments of DustTops that are lists of rows; calls that are handed such a list. -/
import Derived.Test.YtomioaiojidnbaaDtQ4
import Derived.Test.YtomioaiojidnbaaDtMM
import Derived.OpenShut
import Derived.Test.YtomioaiojidnbaaDtQ1
import Derived.Deep.Slices
namespace Go.AH.Dust
open Go Go.AH
def fstI (p:Nat→Bool) (n:Nat):Int:=match (List.range n).find? p with|some i=>i|none=>-1
theorem fstI_some {p:Nat→Bool} {n i:Nat} (hi':i<n) (h:p i=true) (hall:∀ j<i,p j=false):fstI p n=i:=by
 have:(List.range n).find? p=some i:=by
  rw [List.find?_range_eq_some]
  exact ⟨h,by simpa using hi',fun j hj=>by simpa using hall j hj⟩
 simp only [fstI,this]
theorem fstI_none {p:Nat→Bool} {n:Nat} (hall:∀ j<n,p j=false):fstI p n=-1:=by
 have:(List.range n).find? p=none:=by
  rw [List.find?_eq_none]
  intro j hj
  have:=hall j (by simpa using hj)
  simp [this]
 simp only [fstI,this]
theorem fstI_iff {p:Nat→Bool} {n:Nat}:fstI p n≥0↔∃ i,i<n∧p i=true:=by
 constructor
 ·intro h
  refine Classical.byContradiction fun hn=>?_
  rw [fstI_none fun j hj=>by
   cases hp:p j with
   |false=>rfl
   |true=>exact absurd ⟨j,hj,hp⟩ hn] at h
  omega
 ·rintro ⟨i,h1,h2⟩
  unfold fstI
  cases hf:(List.range n).find? p with
  |none=>have:=List.find?_eq_none.1 hf i (by simpa using h1);exact absurd h2 (by simpa using this)
  |some j=>simp only;omega
theorem hc_k9 (S:Shp) (Q:List (List Int)) (c:Nat):HClosed 9 [.ro (ints S.d),.ro (pc S.f),.ro (ints S.s),.deep (rowsQ Q) [],.rw (shL 0 1 2 S),.rw [.slice (some ⟨3,0,none⟩) Q.length c],.rw [.int .i64 0],.rw [.int .i64 0],.rw (flL 0 1 2 S (fun i=>bI (rB S i)))]:=by
 obtain ⟨a1,a2⟩:=slice_closed (n:=9) (i:=3) (l:=Q.length) (c:=c) (by omega)
 obtain ⟨a,b⟩:=shL_closed (n:=9) (x:=0) (y:=1) (z:=2) (S:=S) (by omega) (by omega) (by omega)
 refine ⟨plainL_closed (ints_plain _),plainL_closed (pc_plain _),plainL_closed (ints_plain _),fun x hx=>by simp at hx,⟨a,b⟩,⟨by simp [closedL,a1],by simp [okL,a2]⟩,plainL_closed rfl,plainL_closed rfl,?_,trivial⟩
 simp only [closedL,okL,Bool.and_eq_true] at a b
 exact ⟨by simp only [closedL,a,Bool.true_and];exact (plainL_closed (rx_plain _)).1,by simp only [okL,b,Bool.true_and];exact (plainL_closed (n:=0) (rx_plain _)).2⟩
end Go.AH.Dust
namespace Go.Proofs.Ytomioaiojidnbaa
open Go Go.AH
attribute [local irreducible] WOps WCode WFree retQ thenQ blockQ scopeQ OpOk ACall RetRef roundA roundB
set_option maxRecDepth 100000
set_option maxHeartbeats 1000000
open Go.AH.Dust
theorem clo68_ok (S:Shp) (Q:List (List Int)) (c i:Nat):Ev Try.prog 68 [.slice (some ⟨9,0,none⟩) (gq Q i).length (gq Q i).length,.pointer (some ⟨4,0,none⟩)] [.ro (ints S.d),.ro (pc S.f),.ro (ints S.s),.deep (rowsQ Q) [(i,.slice (some ⟨9,0,none⟩) (gq Q i).length (gq Q i).length)],.rw (shL 0 1 2 S),.rw [.slice (some ⟨3,0,none⟩) Q.length c],.rw [.int .i64 0],.rw [.int .i64 0],.rw (flL 0 1 2 S (fun i=>bI (rB S i))),.ro (ints (gq Q i))] (.bool (decide ((gq Q i).length ≠ S.d.length))) [.ro (ints S.d),.ro (pc S.f),.ro (ints S.s),.deep (rowsQ Q) [(i,.slice (some ⟨9,0,none⟩) (gq Q i).length (gq Q i).length)],.rw (shL 0 1 2 S),.rw [.slice (some ⟨3,0,none⟩) Q.length c],.rw [.int .i64 0],.rw [.int .i64 0],.rw (flL 0 1 2 S (fun i=>bI (rB S i))),.ro (ints (gq Q i))]:=by
 have e:decide ((gq Q i).length ≠ S.d.length)=decide (((gq Q i).length:Int) ≠ (S.d.length:Int)):=by
  by_cases h:(gq Q i).length=S.d.length
  ·rw [h];simp
  ·rw [decide_eq_true h,decide_eq_true (by omega)]
 generalize gq Q i=q at *
 refine acall_intro 10 10 Try.func68 rfl rfl rfl rfl rfl ?_
 repeat' (first|(refine gU ?_;first|(refine gMove ?_;refine st (ok_move rfl) rfl rfl ?_)|(refine gAssign ?_;refine st (ok_assign rfl) rfl rfl ?_)|(refine gFA ?_;refine st (ok_fieldAddr rfl) rfl rfl ?_)|(refine gLoad ?_;refine st (ok_load rfl (by rfl)) rfl rfl ?_)|(refine gBin ?_;refine st (ok_bin rfl rfl rfl) rfl rfl ?_)|(refine gLen ?_;refine st (ok_len rfl) rfl rfl ?_))|refine W_seq ?_|refine W_region ?_|refine st_nil ?_|refine tq_n ?_|refine W_ret ?_)
 exact ret0 (.tmp rfl .nil) (.plain rfl rfl) ⟨by rw [e];rfl,rfl⟩
theorem idx86a_ok (S:Shp) (Q:List (List Int)) (c:Nat) (hN:Q.length≤1000) :
  Ev Try.prog 86 [.slice (some ⟨3,0,none⟩) Q.length c,.func (.func 68) #[] #[.pointer (some ⟨4,0,none⟩)]] [.ro (ints S.d),.ro (pc S.f),.ro (ints S.s),.deep (rowsQ Q) [],.rw (shL 0 1 2 S),.rw [.slice (some ⟨3,0,none⟩) Q.length c],.rw [.int .i64 0],.rw [.int .i64 0],.rw (flL 0 1 2 S (fun i=>bI (rB S i)))] (.int .i64 (fstI (fun i=>decide ((gq Q i).length ≠ S.d.length)) Q.length)) [.ro (ints S.d),.ro (pc S.f),.ro (ints S.s),.deep (rowsQ Q) [],.rw (shL 0 1 2 S),.rw [.slice (some ⟨3,0,none⟩) Q.length c],.rw [.int .i64 0],.rw [.int .i64 0],.rw (flL 0 1 2 S (fun i=>bI (rB S i)))]:=by
 refine acall_intro 9 19 Try.func86 rfl rfl rfl rfl rfl ?_
 repeat' (first|(refine gU ?_;first|(refine gMove ?_;refine st (ok_move rfl) rfl rfl ?_)|(refine gAssign ?_;refine st (ok_assign rfl) rfl rfl ?_)|(refine gLen ?_;refine st (ok_len rfl) rfl rfl ?_))|refine W_seq ?_|refine W_region ?_|refine st_nil ?_|refine tq_n ?_|refine W_block ?_)
 refine W_loopS (ι:=Nat) (fun i=>[(0,.slice (some ⟨3,0,none⟩) Q.length c),(1,.func (.func 68) #[] #[.pointer (some ⟨4,0,none⟩)]),(7,.int .i64 (Q.length:Int)),(8,.int .i64 (i:Int))]) (fun _=>[.ro (ints S.d),.ro (pc S.f),.ro (ints S.s),.deep (rowsQ Q) [],.rw (shL 0 1 2 S),.rw [.slice (some ⟨3,0,none⟩) Q.length c],.rw [.int .i64 0],.rw [.int .i64 0],.rw (flL 0 1 2 S (fun i=>bI (rB S i)))]) (fun i=>Q.length - i) (fun i=>i≤Q.length∧∀ j<i,decide ((gq Q j).length ≠ S.d.length)=false) 0 (by simp) (.same ⟨rfl,rfl,rfl,rfl,trivial⟩) ⟨by omega,fun j h=>by omega⟩ ?_
 rintro i ⟨hi,hall⟩
 by_cases hil:i<Q.length
 ·refine W_open 3 i rfl (rowsQ_get hil) (ints_plain _) ?_
  rw [ints_length]
  have hc1:cellGet [.ro (ints S.d),.ro (pc S.f),.ro (ints S.s),.deep (rowsQ Q) [(i,.slice (some ⟨9,0,none⟩) (gq Q i).length (gq Q i).length)],.rw (shL 0 1 2 S),.rw [.slice (some ⟨3,0,none⟩) Q.length c],.rw [.int .i64 0],.rw [.int .i64 0],.rw (flL 0 1 2 S (fun i=>bI (rB S i))),.ro (ints (gq Q i))] 3 i=some (.slice (some ⟨9,0,none⟩) (gq Q i).length (gq Q i).length):=by simp [cellGet,spGet]
  have hclo:=fun c=>clo68_ok S Q c i
  cases hb:decide ((gq Q i).length ≠ S.d.length) with
  |true =>
   simp only [hb] at hclo
   rw [fstI_some hil hb hall]
   generalize gq Q i=q at *
   repeat' (first|(refine gU ?_;first|(refine gMove ?_;refine st (ok_move rfl) rfl rfl ?_)|(refine gAssign ?_;refine st (ok_assign rfl) rfl rfl ?_)|(refine gLoad ?_;refine st (ok_load rfl (by exact hc1)) rfl rfl ?_)|(refine gBin ?_;refine st (ok_bin rfl rfl rfl) rfl rfl ?_)|(refine gIA ?_;refine st (ok_idxN rfl rfl (by omega)) rfl rfl ?_)|(refine gCall ?_;refine st (ok_call rfl rfl rfl (by exact hclo _)) rfl rfl ?_))|refine W_seq ?_|refine W_region ?_|refine st_nil ?_|refine tq_n ?_|refine tq_r ?_|refine bq_r ?_|refine W_skip ?_|refine W_ret ?_|refine W_block ?_|refine W_condTA rfl ?_)
   exact ret0 (.tmp rfl .nil) (.plainD (j:=3) rfl rfl rfl) ⟨rfl,rfl⟩
  |false =>
   simp only [hb] at hclo
   have hall2:∀ j<i+1,decide ((gq Q j).length ≠ S.d.length)=false:=fun j hj=>by
    by_cases hji:j=i
    ·subst hji;exact hb
    ·exact hall j (by omega)
   generalize gq Q i=q at *
   repeat' (first|(refine gU ?_;first|(refine gMove ?_;refine st (ok_move rfl) rfl rfl ?_)|(refine gAssign ?_;refine st (ok_assign rfl) rfl rfl ?_)|(refine gLoad ?_;refine st (ok_load rfl (by exact hc1)) rfl rfl ?_)|(refine gAdd ?_;refine st (ok_inc rfl rfl (by omega)) rfl rfl ?_)|(refine gBin ?_;refine st (ok_bin rfl rfl rfl) rfl rfl ?_)|(refine gIA ?_;refine st (ok_idxN rfl rfl (by omega)) rfl rfl ?_)|(refine gCall ?_;refine st (ok_call rfl rfl rfl (by exact hclo _)) rfl rfl ?_))|refine W_seq ?_|refine W_region ?_|refine st_nil ?_|refine tq_n ?_|refine bq_n ?_|refine W_skip ?_|refine W_block ?_|refine W_condTA rfl ?_|refine W_condFA rfl ?_)
   exact ⟨rfl,i+1,⟨by omega,hall2⟩,by omega,.dropD (j:=3) rfl [.ro (ints S.d),.ro (pc S.f),.ro (ints S.s),.deep (rowsQ Q) [],.rw (shL 0 1 2 S),.rw [.slice (some ⟨3,0,none⟩) Q.length c],.rw [.int .i64 0],.rw [.int .i64 0],.rw (flL 0 1 2 S (fun i=>bI (rB S i)))] (by simp) rfl (hc_k9 S Q c) (by (repeat' (first|exact trivial|exact ⟨rfl,rfl,rfl⟩|exact ⟨rfl,closed_slice rfl,rfl⟩|refine ⟨?_,?_⟩)))⟩
 ·obtain rfl:i=Q.length:=by omega
  rw [fstI_none hall]
  repeat' (first|(refine gU ?_;first|(refine gAssign ?_;refine st (ok_assign rfl) rfl rfl ?_)|(refine gBin ?_;refine st (ok_bin rfl rfl rfl) rfl rfl ?_))|refine W_seq ?_|refine W_region ?_|refine st_nil ?_|refine tq_n ?_|refine tq_e ?_|refine bq_hit rfl ?_|refine W_exit ?_|refine W_ret ?_|refine W_condFA rfl ?_)
  exact ret0 (.tmp rfl .nil) (.plain rfl rfl) ⟨rfl,rfl⟩
theorem con67a_ok (S:Shp) (Q:List (List Int)) (c:Nat) (hN:Q.length≤1000) :
  Ev Try.prog 67 [.slice (some ⟨3,0,none⟩) Q.length c,.func (.func 68) #[] #[.pointer (some ⟨4,0,none⟩)]] [.ro (ints S.d),.ro (pc S.f),.ro (ints S.s),.deep (rowsQ Q) [],.rw (shL 0 1 2 S),.rw [.slice (some ⟨3,0,none⟩) Q.length c],.rw [.int .i64 0],.rw [.int .i64 0],.rw (flL 0 1 2 S (fun i=>bI (rB S i)))] (.bool (decide (fstI (fun i=>decide ((gq Q i).length ≠ S.d.length)) Q.length≥0))) [.ro (ints S.d),.ro (pc S.f),.ro (ints S.s),.deep (rowsQ Q) [],.rw (shL 0 1 2 S),.rw [.slice (some ⟨3,0,none⟩) Q.length c],.rw [.int .i64 0],.rw [.int .i64 0],.rw (flL 0 1 2 S (fun i=>bI (rB S i)))]:=by
 have hidx:=idx86a_ok S Q c hN
 generalize fstI (fun i=>decide ((gq Q i).length ≠ S.d.length)) Q.length=r at *
 refine acall_intro 9 9 Try.func67 rfl rfl rfl rfl rfl ?_
 repeat' (first|(refine gU ?_;first|(refine gMove ?_;refine st (ok_move rfl) rfl rfl ?_)|(refine gAssign ?_;refine st (ok_assign rfl) rfl rfl ?_)|(refine gBin ?_;refine st (ok_bin rfl rfl rfl) rfl rfl ?_)|(refine gCall ?_;refine st (ok_call rfl rfl rfl (by exact hidx)) rfl rfl ?_))|refine W_seq ?_|refine W_region ?_|refine st_nil ?_|refine tq_n ?_|refine W_ret ?_)
 exact ret0 (.tmp rfl .nil) (.plain rfl rfl) ⟨rfl,rfl⟩
theorem clo69_ok (S:Shp) (Q:List (List Int)) (c i:Nat) (hq:(gq Q i).length≤1000000):Ev Try.prog 69 [.slice (some ⟨9,0,none⟩) (gq Q i).length (gq Q i).length] [.ro (ints S.d),.ro (pc S.f),.ro (ints S.s),.deep (rowsQ Q) [(i,.slice (some ⟨9,0,none⟩) (gq Q i).length (gq Q i).length)],.rw (shL 0 1 2 S),.rw [.slice (some ⟨3,0,none⟩) Q.length c],.rw [.int .i64 0],.rw [.int .i64 0],.rw (flL 0 1 2 S (fun i=>bI (rB S i))),.ro (ints (gq Q i))] (.bool (decide (badIx (-1) 1000000 (gq Q i)≥0))) [.ro (ints S.d),.ro (pc S.f),.ro (ints S.s),.deep (rowsQ Q) [(i,.slice (some ⟨9,0,none⟩) (gq Q i).length (gq Q i).length)],.rw (shL 0 1 2 S),.rw [.slice (some ⟨3,0,none⟩) Q.length c],.rw [.int .i64 0],.rw [.int .i64 0],.rw (flL 0 1 2 S (fun i=>bI (rB S i))),.ro (ints (gq Q i))]:=by
 have hwi:=within_ev (σ:=[.ro (ints S.d),.ro (pc S.f),.ro (ints S.s),.deep (rowsQ Q) [(i,.slice (some ⟨9,0,none⟩) (gq Q i).length (gq Q i).length)],.rw (shL 0 1 2 S),.rw [.slice (some ⟨3,0,none⟩) Q.length c],.rw [.int .i64 0],.rw [.int .i64 0],.rw (flL 0 1 2 S (fun i=>bI (rB S i))),.ro (ints (gq Q i))]) (l:=gq Q i) (lo:=-1) (hi:=1000000) (x:=9) (c:=(gq Q i).length) (.inl rfl) hq rfl
 have e:(!decide (¬ badIx (-1) 1000000 (gq Q i)≥0))=decide (badIx (-1) 1000000 (gq Q i)≥0):=by
  by_cases h:badIx (-1) 1000000 (gq Q i)≥0
  ·rw [decide_eq_true h,decide_eq_false (fun x=>x h)];rfl
  ·rw [decide_eq_false h,decide_eq_true h];rfl
 rw [← e]
 generalize decide (¬ badIx (-1) 1000000 (gq Q i)≥0)=b at *
 refine acall_intro 10 6 Try.func69 rfl rfl rfl rfl rfl ?_
 repeat' (first|(refine gU ?_;first|(refine gMove ?_;refine st (ok_move rfl) rfl rfl ?_)|(refine gAssign ?_;refine st (ok_assign rfl) rfl rfl ?_)|(refine gNot ?_;refine st (ok_not' rfl) rfl rfl ?_)|(refine gCall ?_;refine st (ok_call rfl rfl rfl (by exact hwi)) rfl rfl ?_))|refine W_seq ?_|refine W_region ?_|refine st_nil ?_|refine tq_n ?_|refine W_ret ?_)
 exact ret0 (.tmp rfl .nil) (.plain rfl rfl) ⟨rfl,rfl⟩
theorem idx86b_ok (S:Shp) (Q:List (List Int)) (c:Nat) (hN:Q.length≤1000) (hq:∀ i<Q.length,(gq Q i).length≤1000000) :
  Ev Try.prog 86 [.slice (some ⟨3,0,none⟩) Q.length c,.func (.func 69) #[] #[]] [.ro (ints S.d),.ro (pc S.f),.ro (ints S.s),.deep (rowsQ Q) [],.rw (shL 0 1 2 S),.rw [.slice (some ⟨3,0,none⟩) Q.length c],.rw [.int .i64 0],.rw [.int .i64 0],.rw (flL 0 1 2 S (fun i=>bI (rB S i)))] (.int .i64 (fstI (fun i=>decide (badIx (-1) 1000000 (gq Q i)≥0)) Q.length)) [.ro (ints S.d),.ro (pc S.f),.ro (ints S.s),.deep (rowsQ Q) [],.rw (shL 0 1 2 S),.rw [.slice (some ⟨3,0,none⟩) Q.length c],.rw [.int .i64 0],.rw [.int .i64 0],.rw (flL 0 1 2 S (fun i=>bI (rB S i)))]:=by
 refine acall_intro 9 19 Try.func86 rfl rfl rfl rfl rfl ?_
 repeat' (first|(refine gU ?_;first|(refine gMove ?_;refine st (ok_move rfl) rfl rfl ?_)|(refine gAssign ?_;refine st (ok_assign rfl) rfl rfl ?_)|(refine gLen ?_;refine st (ok_len rfl) rfl rfl ?_))|refine W_seq ?_|refine W_region ?_|refine st_nil ?_|refine tq_n ?_|refine W_block ?_)
 refine W_loopS (ι:=Nat) (fun i=>[(0,.slice (some ⟨3,0,none⟩) Q.length c),(1,.func (.func 69) #[] #[]),(7,.int .i64 (Q.length:Int)),(8,.int .i64 (i:Int))]) (fun _=>[.ro (ints S.d),.ro (pc S.f),.ro (ints S.s),.deep (rowsQ Q) [],.rw (shL 0 1 2 S),.rw [.slice (some ⟨3,0,none⟩) Q.length c],.rw [.int .i64 0],.rw [.int .i64 0],.rw (flL 0 1 2 S (fun i=>bI (rB S i)))]) (fun i=>Q.length - i) (fun i=>i≤Q.length∧∀ j<i,decide (badIx (-1) 1000000 (gq Q j)≥0)=false) 0 (by simp) (.same ⟨rfl,rfl,rfl,rfl,trivial⟩) ⟨by omega,fun j h=>by omega⟩ ?_
 rintro i ⟨hi,hall⟩
 by_cases hil:i<Q.length
 ·refine W_open 3 i rfl (rowsQ_get hil) (ints_plain _) ?_
  rw [ints_length]
  have hc1:cellGet [.ro (ints S.d),.ro (pc S.f),.ro (ints S.s),.deep (rowsQ Q) [(i,.slice (some ⟨9,0,none⟩) (gq Q i).length (gq Q i).length)],.rw (shL 0 1 2 S),.rw [.slice (some ⟨3,0,none⟩) Q.length c],.rw [.int .i64 0],.rw [.int .i64 0],.rw (flL 0 1 2 S (fun i=>bI (rB S i))),.ro (ints (gq Q i))] 3 i=some (.slice (some ⟨9,0,none⟩) (gq Q i).length (gq Q i).length):=by simp [cellGet,spGet]
  have hclo:=fun c=>clo69_ok S Q c i (hq i hil)
  cases hb:decide (badIx (-1) 1000000 (gq Q i)≥0) with
  |true =>
   simp only [hb] at hclo
   rw [fstI_some hil hb hall]
   clear hb
   generalize gq Q i=q at *
   repeat' (first|(refine gU ?_;first|(refine gMove ?_;refine st (ok_move rfl) rfl rfl ?_)|(refine gAssign ?_;refine st (ok_assign rfl) rfl rfl ?_)|(refine gLoad ?_;refine st (ok_load rfl (by exact hc1)) rfl rfl ?_)|(refine gBin ?_;refine st (ok_bin rfl rfl rfl) rfl rfl ?_)|(refine gIA ?_;refine st (ok_idxN rfl rfl (by omega)) rfl rfl ?_)|(refine gCall ?_;refine st (ok_call rfl rfl rfl (by exact hclo _)) rfl rfl ?_))|refine W_seq ?_|refine W_region ?_|refine st_nil ?_|refine tq_n ?_|refine tq_r ?_|refine bq_r ?_|refine W_skip ?_|refine W_ret ?_|refine W_block ?_|refine W_condTA rfl ?_)
   exact ret0 (.tmp rfl .nil) (.plainD (j:=3) rfl rfl rfl) ⟨rfl,rfl⟩
  |false =>
   simp only [hb] at hclo
   have hall2:∀ j<i+1,decide (badIx (-1) 1000000 (gq Q j)≥0)=false:=fun j hj=>by
    by_cases hji:j=i
    ·subst hji;exact hb
    ·exact hall j (by omega)
   clear hb
   generalize gq Q i=q at *
   repeat' (first|(refine gU ?_;first|(refine gMove ?_;refine st (ok_move rfl) rfl rfl ?_)|(refine gAssign ?_;refine st (ok_assign rfl) rfl rfl ?_)|(refine gLoad ?_;refine st (ok_load rfl (by exact hc1)) rfl rfl ?_)|(refine gAdd ?_;refine st (ok_inc rfl rfl (by omega)) rfl rfl ?_)|(refine gBin ?_;refine st (ok_bin rfl rfl rfl) rfl rfl ?_)|(refine gIA ?_;refine st (ok_idxN rfl rfl (by omega)) rfl rfl ?_)|(refine gCall ?_;refine st (ok_call rfl rfl rfl (by exact hclo _)) rfl rfl ?_))|refine W_seq ?_|refine W_region ?_|refine st_nil ?_|refine tq_n ?_|refine bq_n ?_|refine W_skip ?_|refine W_block ?_|refine W_condTA rfl ?_|refine W_condFA rfl ?_)
   exact ⟨rfl,i+1,⟨by omega,hall2⟩,by omega,.dropD (j:=3) rfl [.ro (ints S.d),.ro (pc S.f),.ro (ints S.s),.deep (rowsQ Q) [],.rw (shL 0 1 2 S),.rw [.slice (some ⟨3,0,none⟩) Q.length c],.rw [.int .i64 0],.rw [.int .i64 0],.rw (flL 0 1 2 S (fun i=>bI (rB S i)))] (by simp) rfl (hc_k9 S Q c) (by (repeat' (first|exact trivial|exact ⟨rfl,rfl,rfl⟩|exact ⟨rfl,closed_slice rfl,rfl⟩|refine ⟨?_,?_⟩)))⟩
 ·obtain rfl:i=Q.length:=by omega
  rw [fstI_none hall]
  repeat' (first|(refine gU ?_;first|(refine gAssign ?_;refine st (ok_assign rfl) rfl rfl ?_)|(refine gBin ?_;refine st (ok_bin rfl rfl rfl) rfl rfl ?_))|refine W_seq ?_|refine W_region ?_|refine st_nil ?_|refine tq_n ?_|refine tq_e ?_|refine bq_hit rfl ?_|refine W_exit ?_|refine W_ret ?_|refine W_condFA rfl ?_)
  exact ret0 (.tmp rfl .nil) (.plain rfl rfl) ⟨rfl,rfl⟩
theorem con67b_ok (S:Shp) (Q:List (List Int)) (c:Nat) (hN:Q.length≤1000) (hq:∀ i<Q.length,(gq Q i).length≤1000000) :
  Ev Try.prog 67 [.slice (some ⟨3,0,none⟩) Q.length c,.func (.func 69) #[] #[]] [.ro (ints S.d),.ro (pc S.f),.ro (ints S.s),.deep (rowsQ Q) [],.rw (shL 0 1 2 S),.rw [.slice (some ⟨3,0,none⟩) Q.length c],.rw [.int .i64 0],.rw [.int .i64 0],.rw (flL 0 1 2 S (fun i=>bI (rB S i)))] (.bool (decide (fstI (fun i=>decide (badIx (-1) 1000000 (gq Q i)≥0)) Q.length≥0))) [.ro (ints S.d),.ro (pc S.f),.ro (ints S.s),.deep (rowsQ Q) [],.rw (shL 0 1 2 S),.rw [.slice (some ⟨3,0,none⟩) Q.length c],.rw [.int .i64 0],.rw [.int .i64 0],.rw (flL 0 1 2 S (fun i=>bI (rB S i)))]:=by
 have hidx:=idx86b_ok S Q c hN hq
 generalize fstI (fun i=>decide (badIx (-1) 1000000 (gq Q i)≥0)) Q.length=r at *
 refine acall_intro 9 9 Try.func67 rfl rfl rfl rfl rfl ?_
 repeat' (first|(refine gU ?_;first|(refine gMove ?_;refine st (ok_move rfl) rfl rfl ?_)|(refine gAssign ?_;refine st (ok_assign rfl) rfl rfl ?_)|(refine gBin ?_;refine st (ok_bin rfl rfl rfl) rfl rfl ?_)|(refine gCall ?_;refine st (ok_call rfl rfl rfl (by exact hidx)) rfl rfl ?_))|refine W_seq ?_|refine W_region ?_|refine st_nil ?_|refine tq_n ?_|refine W_ret ?_)
 exact ret0 (.tmp rfl .nil) (.plain rfl rfl) ⟨rfl,rfl⟩
end Go.Proofs.Ytomioaiojidnbaa
namespace Go.AH.Dust
open Go Go.AH
theorem fl_closed3 {n:Nat} {S:Shp} {g:Nat→Int} (hn:3≤n):oclosed n (.rw (flL 0 1 2 S g)):=by
 obtain ⟨a,b⟩:=shL_closed (n:=n) (x:=0) (y:=1) (z:=2) (S:=S) (by omega) (by omega) (by omega)
 simp only [closedL,okL,Bool.and_eq_true] at a b
 exact ⟨by simp only [closedL,a,Bool.true_and];exact (plainL_closed (rx_plain g)).1,by simp only [okL,b,Bool.true_and];exact (plainL_closed (n:=0) (rx_plain g)).2⟩
theorem sl_closed1 {n i k c:Nat} (h:i<n):oclosed n (.rw [.slice (some ⟨i,0,none⟩) k c]):=by
 obtain ⟨a,b⟩:=slice_closed (n:=n) (i:=i) (l:=k) (c:=c) h
 exact ⟨by simp [closedL,a],by simp [okL,b]⟩
theorem hc_k13 {n:Nat} (S:Shp) (Q:List (List Int)) (c h:Nat) (p q:List Int) (hn:13≤n):HClosed n [.ro (ints S.d),.ro (pc S.f),.ro (ints S.s),.deep (rowsQ Q) [(h,sl 10 S.d.length),(h - 1,sl 9 S.d.length)],.rw (shL 0 1 2 S),.rw [.slice (some ⟨3,0,none⟩) Q.length c],.rw [.int .i64 0],.rw [.int .i64 0],.rw (flL 0 1 2 S (fun i=>bI (rB S i))),.ro (ints p),.ro (ints q),.rw [.int .i64 (h:Int)],.rw [sl 10 S.d.length]]:=by
 obtain ⟨a1,a2⟩:=slice_closed (n:=n) (i:=9) (l:=S.d.length) (c:=S.d.length) (by omega)
 obtain ⟨b1,b2⟩:=slice_closed (n:=n) (i:=10) (l:=S.d.length) (c:=S.d.length) (by omega)
 refine ⟨plainL_closed (ints_plain _),plainL_closed (pc_plain _),plainL_closed (ints_plain _),fun x hx=>?_,shL_closed (by omega) (by omega) (by omega),sl_closed1 (by omega),plainL_closed rfl,plainL_closed rfl,fl_closed3 (by omega),plainL_closed (ints_plain _),plainL_closed (ints_plain _),plainL_closed rfl,sl_closed1 (by omega),trivial⟩
 simp only [List.mem_cons,List.not_mem_nil,or_false] at hx
 rcases hx with rfl|rfl
 ·exact ⟨b1,b2⟩
 ·exact ⟨a1,a2⟩
theorem hc_k19 (S:Shp) (Q:List (List Int)) (c h j:Nat) (d:Int) (p q:List Int) (L:AObj) (hL:oclosed 19 L):HClosed 19 [.ro (ints S.d),.ro (pc S.f),.ro (ints S.s),.deep (rowsQ Q) [(h,sl 10 S.d.length),(h - 1,sl 9 S.d.length)],.rw (shL 0 1 2 S),.rw [.slice (some ⟨3,0,none⟩) Q.length c],.rw [.int .i64 0],.rw [.int .i64 0],.rw (flL 0 1 2 S (fun i=>bI (rB S i))),.ro (ints p),.ro (ints q),.rw [.int .i64 (h:Int)],.rw [sl 10 S.d.length],.rw [.int .i64 (j:Int)],.rw [.int .i64 d],.rw [.pointer (some ⟨8,0,none⟩)],.rw [.int .i64 (j:Int)],.dfr,L]:=by
 have:=hc_k13 S Q c h p q (n:=19) (by omega)
 simp only [HClosed] at this ⊢
 obtain ⟨h1,h2,h3,h4,h5,h6,h7,h8,h9,h10,h11,h12,h13,_⟩:=this
 exact ⟨h1,h2,h3,h4,h5,h6,h7,h8,h9,h10,h11,h12,h13,plainL_closed rfl,plainL_closed rfl,⟨rfl,rfl⟩,plainL_closed rfl,trivial,hL,trivial⟩
def stP (S:Shp) (p q:List Int) (k:Nat):Prop:=0≤gi p (gf S.f k).2.toNat∧gi q (gf S.f k).1.toNat<gi S.d (gf S.f k).1.toNat+gi p (gf S.f k).2.toNat
theorem tRng_iff {Q:List (List Int)}:tRng Q↔∃ i,i<Q.length∧decide (badIx (-1) 1000000 (gq Q i)≥0)=true:=by
 constructor
 ·rintro ⟨h,h1,i,h2,h3⟩
  exact ⟨h,h1,decide_eq_true (badIx_iff.2 ⟨i,h2,h3⟩)⟩
 ·rintro ⟨h,h1,h2⟩
  obtain ⟨i,h3,h4⟩:=badIx_iff.1 (of_decide_eq_true h2)
  exact ⟨h,h1,i,h3,h4⟩
end Go.AH.Dust
namespace Go.Proofs.Ytomioaiojidnbaa
open Go Go.AH
attribute [local irreducible] WOps WCode WFree retQ thenQ blockQ scopeQ OpOk ACall RetRef roundA roundB
set_option maxRecDepth 100000
set_option maxHeartbeats 1000000
open Go.AH.Dust
theorem chkTops_ok (S:Shp) (hS:S.fit) (Q:List (List Int)) (c:Nat) (hN:Q.length≤9223372036854775807) (hlQ:∀ i<Q.length,(gq Q i).length≤1000000) :
  Ev Try.prog 28 [shV 0 1 2 S,.slice (some ⟨3,0,none⟩) Q.length c] [.ro (ints S.d),.ro (pc S.f),.ro (ints S.s),.deep (rowsQ Q) []] (.tuple #[.int .i64 (topM S Q),.int .i64 (topE S Q)]) [.ro (ints S.d),.ro (pc S.f),.ro (ints S.s),.deep (rowsQ Q) []]:=by
 by_cases h0:shopE S=0
 case neg =>
  have hop:=open_evBad (σ:=[.ro (ints S.d),.ro (pc S.f),.ro (ints S.s),.deep (rowsQ Q) [],.rw (shL 0 1 2 S),.rw [.slice (some ⟨3,0,none⟩) Q.length c],.rw [.int .i64 0],.rw [.int .i64 0]]) (S:=S) (x:=0) (y:=1) (z:=2) ⟨.inl rfl,.inl rfl,.inl rfl⟩ shS_self hS h0 rfl
  have he:=topE_shop (Q:=Q) h0
  rw [topM_bad (by rw [he];exact h0),he]
  refine acall_intro 4 122 Try.func28 rfl rfl rfl rfl rfl ?_
  repeat' (first|(refine gU ?_;first|(refine gMove ?_;refine st (ok_move rfl) rfl rfl ?_)|(refine gAssign ?_;refine st (ok_assign rfl) rfl rfl ?_)|(refine gLoad ?_;refine st (ok_loadA rfl (by rfl)) rfl rfl ?_)|(refine gBin ?_;refine st (ok_bin rfl rfl rfl) rfl rfl ?_)|(refine gExtract ?_;refine st (ok_extract rfl rfl) rfl rfl ?_)|(refine gCall ?_;refine st (ok_call rfl rfl rfl (by exact hop)) rfl rfl ?_)|(refine gBox ?_;refine st (ok_box rfl) rfl rfl ?_)|(refine gAlloc ?_;refine st (ok_alloc rfl) rfl rfl ?_)|(refine gStore ?_;refine stN (ok_store rfl rfl rfl rfl (by rfl)) rfl ?_))|refine W_seq ?_|refine W_region ?_|refine st_nil ?_|refine tq_n ?_|refine tq_r ?_|refine bq_r ?_|refine W_ret ?_|refine W_block ?_|refine W_condTA rfl ?_)
  exact ret0 (.cell1 inferInstance rfl rfl (.cell1 inferInstance rfl rfl .nil)) (.plain rfl rfl) ⟨rfl,rfl⟩
 have hok:=shopE_zero h0
 have n10:=hok.n10
 have f60:=hok.f60
 have hop:=open_evOk (σ:=[.ro (ints S.d),.ro (pc S.f),.ro (ints S.s),.deep (rowsQ Q) [],.rw (shL 0 1 2 S),.rw [.slice (some ⟨3,0,none⟩) Q.length c],.rw [.int .i64 0],.rw [.int .i64 0]]) (S:=S) (x:=0) (y:=1) (z:=2) ⟨.inl rfl,.inl rfl,.inl rfl⟩ shS_self hS h0 rfl
 by_cases hQ0:(Q.length:Int)=0
 ·have he:=topE_2 (Q:=Q) h0 (.inl (by omega))
  rw [topM_bad (by rw [he];omega),he]
  refine acall_intro 4 122 Try.func28 rfl rfl rfl rfl rfl ?_
  repeat' (first|(refine gU ?_;first|(refine gMove ?_;refine st (ok_move rfl) rfl rfl ?_)|(refine gAssign ?_;refine st (ok_assign rfl) rfl rfl ?_)|(refine gLoad ?_;first|refine st (ok_load rfl (by rfl)) rfl rfl ?_|refine st (ok_loadA rfl (by rfl)) rfl rfl ?_)|(refine gBin ?_;refine st (ok_bin rfl rfl rfl) rfl rfl ?_)|(refine gLen ?_;refine st (ok_len rfl) rfl rfl ?_)|(refine gPick ?_;refine st (ok_pickTA rfl rfl) rfl rfl ?_)|(refine gExtract ?_;refine st (ok_extract rfl rfl) rfl rfl ?_)|(refine gCall ?_;refine st (ok_call rfl rfl rfl (by exact hop)) rfl rfl ?_)|(refine gBox ?_;refine st (ok_box rfl) rfl rfl ?_)|(refine gAlloc ?_;refine st (ok_alloc rfl) rfl rfl ?_)|(refine gStore ?_;refine stN (ok_store rfl rfl rfl rfl (by rfl)) rfl ?_))|(refine gG ?_;refine stSA rfl rfl ?_)|refine W_seq ?_|refine W_region ?_|refine st_nil ?_|refine tq_n ?_|refine tq_r ?_|refine bq_r ?_|refine W_ret ?_|refine W_block ?_|refine W_condTA rfl ?_|refine W_condFA rfl ?_)
  exact ret0 (.cell1 inferInstance rfl rfl (.cell1 inferInstance rfl rfl .nil)) (.plain rfl rfl) ⟨rfl,rfl⟩
 by_cases hQ24:(Q.length:Int) > 24
 ·have he:=topE_2 (Q:=Q) h0 (.inr (by omega))
  rw [topM_bad (by rw [he];omega),he]
  refine acall_intro 4 122 Try.func28 rfl rfl rfl rfl rfl ?_
  repeat' (first|(refine gU ?_;first|(refine gMove ?_;refine st (ok_move rfl) rfl rfl ?_)|(refine gAssign ?_;refine st (ok_assign rfl) rfl rfl ?_)|(refine gLoad ?_;first|refine st (ok_load rfl (by rfl)) rfl rfl ?_|refine st (ok_loadA rfl (by rfl)) rfl rfl ?_)|(refine gBin ?_;refine st (ok_bin rfl rfl rfl) rfl rfl ?_)|(refine gLen ?_;refine st (ok_len rfl) rfl rfl ?_)|(refine gPick ?_;refine st (ok_pickFA rfl rfl) rfl rfl ?_)|(refine gExtract ?_;refine st (ok_extract rfl rfl) rfl rfl ?_)|(refine gCall ?_;refine st (ok_call rfl rfl rfl (by exact hop)) rfl rfl ?_)|(refine gBox ?_;refine st (ok_box rfl) rfl rfl ?_)|(refine gAlloc ?_;refine st (ok_alloc rfl) rfl rfl ?_)|(refine gStore ?_;refine stN (ok_store rfl rfl rfl rfl (by rfl)) rfl ?_))|(refine gG ?_;first|(refine gLoad ?_;refine stGA rfl (ok_load rfl (by rfl)) rfl rfl ?_)|(refine gBin ?_;refine stGA rfl (ok_bin rfl rfl rfl) rfl rfl ?_)|(refine gLen ?_;refine stGA rfl (ok_len rfl) rfl rfl ?_))|refine W_seq ?_|refine W_region ?_|refine st_nil ?_|refine tq_n ?_|refine tq_r ?_|refine bq_r ?_|refine W_ret ?_|refine W_block ?_|refine W_condTA rfl ?_|refine W_condFA rfl ?_)
  exact ret0 (.cell1 inferInstance rfl rfl (.cell1 inferInstance rfl rfl .nil)) (.plain rfl rfl) ⟨rfl,rfl⟩
 have hQ2:¬ (Q.length<1∨Q.length > 24):=by omega
 have hcon1:=con67a_ok S Q c (by omega)
 by_cases hL1:tLen S Q
 ·have he:=topE_15 h0 hQ2 hL1
  obtain ⟨i,i1,i2⟩:=hL1
  rw [decide_eq_true (fstI_iff.2 ⟨i,i1,decide_eq_true i2⟩)] at hcon1
  rw [topM_bad (by rw [he];omega),he]
  refine acall_intro 4 122 Try.func28 rfl rfl rfl rfl rfl ?_
  repeat' (first|(refine gU ?_;first|(refine gMove ?_;refine st (ok_move rfl) rfl rfl ?_)|(refine gAssign ?_;refine st (ok_assign rfl) rfl rfl ?_)|(refine gLoad ?_;first|refine st (ok_load rfl (by rfl)) rfl rfl ?_|refine st (ok_loadA rfl (by rfl)) rfl rfl ?_)|(refine gBin ?_;refine st (ok_bin rfl rfl rfl) rfl rfl ?_)|(refine gLen ?_;refine st (ok_len rfl) rfl rfl ?_)|(refine gPick ?_;refine st (ok_pickFA rfl rfl) rfl rfl ?_)|(refine gExtract ?_;refine st (ok_extract rfl rfl) rfl rfl ?_)|(refine gMkF ?_;refine st (ok_makeFunc rfl rfl) rfl rfl ?_)|(refine gCall ?_;refine st (ok_call rfl rfl rfl (by first|exact hop|exact hcon1)) rfl rfl ?_)|(refine gBox ?_;refine st (ok_box rfl) rfl rfl ?_)|(refine gAlloc ?_;refine st (ok_alloc rfl) rfl rfl ?_)|(refine gStore ?_;refine stN (ok_store rfl rfl rfl rfl (by rfl)) rfl ?_))|(refine gG ?_;first|(refine gLoad ?_;refine stGA rfl (ok_load rfl (by rfl)) rfl rfl ?_)|(refine gBin ?_;refine stGA rfl (ok_bin rfl rfl rfl) rfl rfl ?_)|(refine gLen ?_;refine stGA rfl (ok_len rfl) rfl rfl ?_))|refine W_seq ?_|refine W_region ?_|refine st_nil ?_|refine tq_n ?_|refine tq_r ?_|refine bq_r ?_|refine W_ret ?_|refine W_block ?_|refine W_condTA rfl ?_|refine W_condFA rfl ?_)
  exact ret0 (.cell1 inferInstance rfl rfl (.cell1 inferInstance rfl rfl .nil)) (.plain rfl rfl) ⟨rfl,rfl⟩
 have hlen:∀ h<Q.length,(gq Q h).length=S.d.length:=fun h hh=>Classical.byContradiction fun hn=>hL1 ⟨h,hh,hn⟩
 rw [decide_eq_false (fun h=>by obtain ⟨i,i1,i2⟩:=fstI_iff.1 h;exact (of_decide_eq_true i2) (hlen i i1))] at hcon1
 have hcon2:=con67b_ok S Q c (by omega) hlQ
 by_cases hR:tRng Q
 ·have he:=topE_3 h0 hQ2 hL1 hR
  rw [decide_eq_true (fstI_iff.2 (tRng_iff.1 hR))] at hcon2
  rw [topM_bad (by rw [he];omega),he]
  refine acall_intro 4 122 Try.func28 rfl rfl rfl rfl rfl ?_
  repeat' (first|(refine gU ?_;first|(refine gMove ?_;refine st (ok_move rfl) rfl rfl ?_)|(refine gAssign ?_;refine st (ok_assign rfl) rfl rfl ?_)|(refine gLoad ?_;first|refine st (ok_load rfl (by rfl)) rfl rfl ?_|refine st (ok_loadA rfl (by rfl)) rfl rfl ?_)|(refine gBin ?_;refine st (ok_bin rfl rfl rfl) rfl rfl ?_)|(refine gLen ?_;refine st (ok_len rfl) rfl rfl ?_)|(refine gPick ?_;refine st (ok_pickFA rfl rfl) rfl rfl ?_)|(refine gExtract ?_;refine st (ok_extract rfl rfl) rfl rfl ?_)|(refine gMkF ?_;refine st (ok_makeFunc rfl rfl) rfl rfl ?_)|(refine gCall ?_;refine st (ok_call rfl rfl rfl (by first|exact hop|exact hcon1|exact hcon2)) rfl rfl ?_)|(refine gBox ?_;refine st (ok_box rfl) rfl rfl ?_)|(refine gAlloc ?_;refine st (ok_alloc rfl) rfl rfl ?_)|(refine gStore ?_;refine stN (ok_store rfl rfl rfl rfl (by rfl)) rfl ?_))|(refine gG ?_;first|(refine gLoad ?_;refine stGA rfl (ok_load rfl (by rfl)) rfl rfl ?_)|(refine gBin ?_;refine stGA rfl (ok_bin rfl rfl rfl) rfl rfl ?_)|(refine gLen ?_;refine stGA rfl (ok_len rfl) rfl rfl ?_))|refine W_seq ?_|refine W_region ?_|refine st_nil ?_|refine tq_n ?_|refine tq_r ?_|refine bq_r ?_|refine W_ret ?_|refine W_block ?_|refine W_condTA rfl ?_|refine W_condFA rfl ?_)
  exact ret0 (.cell1 inferInstance rfl rfl (.cell1 inferInstance rfl rfl .nil)) (.plain rfl rfl) ⟨rfl,rfl⟩
 rw [decide_eq_false (fun h=>hR (tRng_iff.2 (fstI_iff.1 h)))] at hcon2
 have hrng:∀ h<Q.length,∀ i<S.d.length,-1≤gi (gq Q h) i∧gi (gq Q h) i≤1000000:=fun h hh i hi=>by
  have hn:¬ (gi (gq Q h) i < -1∨gi (gq Q h) i > 1000000):=fun hn=>hR ⟨h,hh,i,by rw [hlen h hh];exact hi,hn⟩
  omega
 have h14:tSum S Q→topE S Q=14:=topE_14 h0 hQ2 hL1 hR
 have h14M:tSum S Q→topM S Q=0:=fun h=>topM_bad (by rw [h14 h];omega)
 have hE0:¬ tSum S Q→topE S Q=0:=topE_0 h0 hQ2 hL1 hR
 refine acall_intro 4 122 Try.func28 rfl rfl rfl rfl rfl ?_
 repeat' (first|(refine gU ?_;first|(refine gMove ?_;refine st (ok_move rfl) rfl rfl ?_)|(refine gAssign ?_;refine st (ok_assign rfl) rfl rfl ?_)|(refine gLoad ?_;first|refine st (ok_load rfl (by rfl)) rfl rfl ?_|refine st (ok_loadA rfl (by rfl)) rfl rfl ?_)|(refine gBin ?_;refine st (ok_bin rfl rfl rfl) rfl rfl ?_)|(refine gLen ?_;refine st (ok_len rfl) rfl rfl ?_)|(refine gPick ?_;refine st (ok_pickFA rfl rfl) rfl rfl ?_)|(refine gExtract ?_;refine st (ok_extract rfl rfl) rfl rfl ?_)|(refine gMkF ?_;refine st (ok_makeFunc rfl rfl) rfl rfl ?_)|(refine gCall ?_;refine st (ok_call rfl rfl rfl (by first|exact hop|exact hcon1|exact hcon2)) rfl rfl ?_)|(refine gBox ?_;refine st (ok_box rfl) rfl rfl ?_)|(refine gAlloc ?_;refine st (ok_alloc rfl) rfl rfl ?_))|(refine gG ?_;first|(refine gLoad ?_;refine stGA rfl (ok_load rfl (by rfl)) rfl rfl ?_)|(refine gBin ?_;refine stGA rfl (ok_bin rfl rfl rfl) rfl rfl ?_)|(refine gLen ?_;refine stGA rfl (ok_len rfl) rfl rfl ?_))|refine W_seq ?_|refine W_region ?_|refine st_nil ?_|refine tq_n ?_|refine bq_n ?_|refine W_skip ?_|refine W_block ?_|refine W_condFA rfl ?_)
 refine Tail.W_loopD (ι:=Nat) (fun h=>[(2,.pointer (some ⟨4,0,none⟩)),(3,.pointer (some ⟨5,0,none⟩)),(4,.pointer (some ⟨6,0,none⟩)),(5,.pointer (some ⟨7,0,none⟩)),(6,.pointer (some ⟨8,0,none⟩)),(41,.slice (some ⟨3,0,none⟩) Q.length c),(42,.int .i64 (Q.length:Int)),(43,.int .i64 (h:Int))])
  (fun h=>[.ro (ints S.d),.ro (pc S.f),.ro (ints S.s),.deep (rowsQ Q) [],.rw (shL 0 1 2 S),.rw [.slice (some ⟨3,0,none⟩) Q.length c],.rw [.int .i64 0],.rw [.int .i64 0],.rw (flL 0 1 2 S (fun i=>bI (rB S i)))]) (fun h=>Q.length - h) (fun h=>h≤Q.length∧(0<h→∀ i,i<S.d.length→¬ tLow S Q i)∧∀ g,1≤g→g<h→∀ k,k<S.f.length→¬ tStep S Q g k) 0 rfl (by (repeat' (first|exact Tail.tail_ret rfl|refine Tail.tail_then ?_ ?_|refine Tail.tail_block ?_|refine Tail.W_tail rfl ?_))) (fun _=>by simp) (fun h _=>hc_k9 S Q c)
  (.of (.same ⟨rfl,rfl,rfl,rfl,rfl,rfl,rfl,rfl,trivial⟩) (by simp)) ⟨Nat.zero_le _,fun h=>absurd h (by omega),fun g _ h=>absurd h (Nat.not_lt_zero _)⟩ ?_
 clear hop hcon1 hcon2 hlQ
 rintro h ⟨hh,hI1,hI2⟩
 by_cases hhl:h<Q.length
 ·have hq:=hlen h hhl
  have hp:=hlen (h - 1) (by omega)
  have hrq:=hrng h hhl
  have hrp:=hrng (h - 1) (by omega)
  have hnext:(h=0→∀ i,i<S.d.length→¬ gi (gq Q h) i<gi S.d i)→(0<h→∀ k,k<S.f.length→¬ stP S (gq Q (h - 1)) (gq Q h) k) →
    h+1≤Q.length∧(0<h+1→∀ i,i<S.d.length→¬ tLow S Q i)∧∀ g,1≤g→g<h+1→∀ k,k<S.f.length→¬ tStep S Q g k:=by
   intro a b
   refine ⟨by omega,fun _ i hi hl=>?_,fun g g1 g2 k hk=>?_⟩
   ·by_cases hz:h=0
    ·subst hz;exact a rfl i hi hl
    ·exact hI1 (by omega) i hi hl
   ·by_cases hgh:g=h
    ·subst hgh;exact b (by omega) k hk
    ·exact hI2 g g1 (by omega) k hk
  have hlw:h=0→∀ i,i<S.d.length→gi (gq Q h) i<gi S.d i→tSum S Q:=fun hz i hi hl=>.inl ⟨i,hi,by subst hz;exact hl⟩
  have hsp:0<h→∀ k,k<S.f.length→stP S (gq Q (h - 1)) (gq Q h) k→tSum S Q:=fun hz k hk hl=>.inr ⟨h,hz,hhl,k,hk,hl⟩
  refine W_open 3 (h - 1) rfl (rowsQ_get (show h - 1<Q.length by omega)) (ints_plain _) ?_
  refine W_open 3 h rfl (rowsQ_get hhl) (ints_plain _) ?_
  rw [ints_length,ints_length,hq,hp]
  clear hI1 hI2 hlen hrng hL1 hR hE0
  have h14':=h14
  generalize gq Q h=q at *
  generalize gq Q (h - 1)=p at *
  refine W_cut [(2,.pointer (some ⟨4,0,none⟩)),(3,.pointer (some ⟨5,0,none⟩)),(4,.pointer (some ⟨6,0,none⟩)),(5,.pointer (some ⟨7,0,none⟩)),(6,.pointer (some ⟨8,0,none⟩)),(41,.slice (some ⟨3,0,none⟩) Q.length c),(42,.int .i64 (Q.length:Int)),(43,.int .i64 (h:Int))] [.ro (ints S.d),.ro (pc S.f),.ro (ints S.s),.deep (rowsQ Q) [(h,sl 10 S.d.length),(h - 1,sl 9 S.d.length)],.rw (shL 0 1 2 S),.rw [.slice (some ⟨3,0,none⟩) Q.length c],.rw [.int .i64 0],.rw [.int .i64 0],.rw (flL 0 1 2 S (fun i=>bI (rB S i))),.ro (ints p),.ro (ints q)] rfl ⟨rfl,rfl,rfl,rfl,rfl,rfl,rfl,rfl,trivial⟩ ?_
  have hc1:cellGet [.ro (ints S.d),.ro (pc S.f),.ro (ints S.s),.deep (rowsQ Q) [(h,sl 10 S.d.length),(h - 1,sl 9 S.d.length)],.rw (shL 0 1 2 S),.rw [.slice (some ⟨3,0,none⟩) Q.length c],.rw [.int .i64 0],.rw [.int .i64 0],.rw (flL 0 1 2 S (fun i=>bI (rB S i))),.ro (ints p),.ro (ints q)] 3 h=some (sl 10 S.d.length):=by simp [cellGet,spGet]
  have hhlI:(h:Int)<(Q.length:Int):=by omega
  repeat' (first|(refine gU ?_;first|(refine gMove ?_;refine st (ok_move rfl) rfl rfl ?_)|(refine gFA ?_;refine st (ok_fieldAddr rfl) rfl rfl ?_)|(refine gLoad ?_;refine st (ok_load rfl (by first|rfl|exact hc1)) rfl rfl ?_)|(refine gBin ?_;refine st (ok_bin rfl rfl rfl) rfl rfl ?_)|(refine gLen ?_;refine st (ok_len rfl) rfl rfl ?_)|(refine gIA ?_;refine st (ok_idxN rfl rfl (by omega)) rfl rfl ?_)|(refine gAlloc ?_;refine st (ok_alloc rfl) rfl rfl ?_)|(refine gStore ?_;refine stN (ok_store rfl rfl rfl rfl (by rfl)) rfl ?_))|refine W_seq ?_|refine W_region ?_|refine st_nil ?_|refine tq_n ?_|refine W_skip ?_|refine W_block ?_|refine W_condTA rfl ?_)
  refine Tail.W_loopD (ι:=Nat) (fun j=>[(2,.pointer (some ⟨4,0,none⟩)),(3,.pointer (some ⟨5,0,none⟩)),(4,.pointer (some ⟨6,0,none⟩)),(5,.pointer (some ⟨7,0,none⟩)),(6,.pointer (some ⟨8,0,none⟩)),(8,.pointer (some ⟨11,0,none⟩)),(9,.pointer (some ⟨12,0,none⟩)),(41,.slice (some ⟨3,0,none⟩) Q.length c),(42,.int .i64 (Q.length:Int)),(43,.int .i64 (h:Int)),(49,sl 0 S.d.length),(50,.int .i64 (S.d.length:Int)),(51,.int .i64 (j:Int))])
   (fun _=>[.ro (ints S.d),.ro (pc S.f),.ro (ints S.s),.deep (rowsQ Q) [(h,sl 10 S.d.length),(h - 1,sl 9 S.d.length)],.rw (shL 0 1 2 S),.rw [.slice (some ⟨3,0,none⟩) Q.length c],.rw [.int .i64 0],.rw [.int .i64 0],.rw (flL 0 1 2 S (fun i=>bI (rB S i))),.ro (ints p),.ro (ints q),.rw [.int .i64 (h:Int)],.rw [sl 10 S.d.length]]) (fun j=>S.d.length - j) (fun j=>j≤S.d.length∧(h=0→∀ i,i<j→¬ gi q i<gi S.d i)∧(0<h→∀ k,k<S.f.length→(gf S.f k).1<(j:Int)→¬ stP S p q k)) 0 rfl (by (repeat' (first|exact Tail.tail_ret rfl|exact Tail.tail_loopD|refine Tail.tail_then ?_ ?_|refine Tail.tail_block ?_|refine Tail.W_tail rfl ?_))) (fun _=>by simp) (fun _ _=>hc_k13 S Q c h p q (Nat.le_refl _))
   (.of (.same ⟨rfl,rfl,rfl,rfl,rfl,rfl,rfl,rfl,rfl,rfl,rfl,rfl,rfl,trivial⟩) (by simp)) ⟨Nat.zero_le _,fun _ i hi=>absurd hi (Nat.not_lt_zero _),fun _ k hk hk2=>by have:=(hok.f k hk).1;omega⟩ ?_
  clear hc1
  rintro j ⟨hj,hJ1,hJ2⟩
  by_cases hjn:j<S.d.length
  ·have hcd:cellGet [.ro (ints S.d),.ro (pc S.f),.ro (ints S.s),.deep (rowsQ Q) [(h,sl 10 S.d.length),(h - 1,sl 9 S.d.length)],.rw (shL 0 1 2 S),.rw [.slice (some ⟨3,0,none⟩) Q.length c],.rw [.int .i64 0],.rw [.int .i64 0],.rw (flL 0 1 2 S (fun i=>bI (rB S i))),.ro (ints p),.ro (ints q),.rw [.int .i64 (h:Int)],.rw [sl 10 S.d.length]] 0 j=some (.int .i64 (gi S.d j)):=ints_get hjn
   have hdj:=hok.d j hjn
   have hqj:=hrq j hjn
   have hjnI:(j:Int)<(S.d.length:Int):=by omega
   have hc3:∀ σ':Heap,cellGet (AObj.ro (ints S.d)::.ro (pc S.f)::.ro (ints S.s)::.deep (rowsQ Q) [(h,sl 10 S.d.length),(h - 1,sl 9 S.d.length)]::.rw (shL 0 1 2 S)::.rw [.slice (some ⟨3,0,none⟩) Q.length c]::.rw [.int .i64 0]::.rw [.int .i64 0]::.rw (flL 0 1 2 S (fun i=>bI (rB S i)))::.ro (ints p)::.ro (ints q)::.rw [.int .i64 (h:Int)]::.rw [sl 10 S.d.length]::σ') 10 j=some (.int .i64 (gi q j)):=fun _=>ints_get (by omega)
   have hc4:∀ σ':Heap,cellGet (AObj.ro (ints S.d)::.ro (pc S.f)::.ro (ints S.s)::.deep (rowsQ Q) [(h,sl 10 S.d.length),(h - 1,sl 9 S.d.length)]::.rw (shL 0 1 2 S)::.rw [.slice (some ⟨3,0,none⟩) Q.length c]::.rw [.int .i64 0]::.rw [.int .i64 0]::.rw (flL 0 1 2 S (fun i=>bI (rB S i)))::.ro (ints p)::.ro (ints q)::.rw [.int .i64 (h:Int)]::.rw [sl 10 S.d.length]::σ') 10 (0+j*1)=some (.int .i64 (gi q j)):=fun _=>by rw [Nat.zero_add,Nat.mul_one];exact ints_get (by omega)
   obtain ⟨d,hd⟩:∃ d,gi S.d j=d:=⟨_,rfl⟩
   rw [hd] at hcd hdj
   have hnx:=next_ev (σ:=[.ro (ints S.d),.ro (pc S.f),.ro (ints S.s),.deep (rowsQ Q) [(h,sl 10 S.d.length),(h - 1,sl 9 S.d.length)],.rw (shL 0 1 2 S),.rw [.slice (some ⟨3,0,none⟩) Q.length c],.rw [.int .i64 0],.rw [.int .i64 0],.rw (flL 0 1 2 S (fun i=>bI (rB S i))),.ro (ints p),.ro (ints q),.rw [.int .i64 (h:Int)],.rw [sl 10 S.d.length],.rw [.int .i64 (j:Int)],.rw [.int .i64 d]]) (S:=S) (r:=fun i=>bI (rB S i)) (n:=(j:Int)) (p:=8) (x:=0) (y:=1) (z:=2) ⟨.inr (.inl rfl),.inl rfl,.inl rfl,.inl rfl⟩ rfl
   by_cases hbad:h=0∧gi q j<d
   ·have ht:=hlw hbad.1 j hjn (by rw [hd];exact hbad.2)
    rw [h14M ht,h14 ht]
    have hz:(h:Int)=0:=by omega
    have hlt:=hbad.2
    generalize gi q j=x at *
    repeat' (first|(refine gU ?_;first|(refine gMove ?_;refine st (ok_move rfl) rfl rfl ?_)|(refine gLoad ?_;refine st (ok_load rfl (by assumption)) rfl rfl ?_)|(refine gBin ?_;refine st (ok_bin rfl rfl rfl) rfl rfl ?_)|(refine gIA ?_;refine st (ok_idxN rfl rfl (by omega)) rfl rfl ?_)|(refine gAlloc ?_;refine st (ok_alloc rfl) rfl rfl ?_)|(refine gStore ?_;refine stN (ok_store rfl rfl rfl rfl (by rfl)) rfl ?_))|(refine fU ?_;first|(refine fMove ?_;refine frA (ok_move rfl) rfl ?_)|(refine fLoad ?_;refine frA (ok_load rfl (by rfl)) rfl ?_)|(refine fBin ?_;refine frA (ok_bin rfl rfl rfl) rfl ?_)|(refine fPick ?_;refine frA (ok_pickTA rfl rfl) rfl ?_))|(refine fG ?_;first|(refine fLoad ?_;refine frGA rfl (ok_load rfl (by first|rfl|exact hc3 _)) rfl ?_)|(refine fBin ?_;refine frGA rfl (ok_bin rfl rfl rfl) rfl ?_)|(refine fIA ?_;refine frGA rfl (ok_idxN rfl rfl (by omega)) rfl ?_))|(refine fr_stop ⟨by kernel_rfl,?_⟩)|refine W_seq ?_|refine W_region ?_|refine W_regionD (by kernel_rfl) rfl ?_|refine st_nil ?_|refine tq_n ?_|refine tq_r ?_|refine bq_r ?_|refine W_skip ?_|refine W_ret ?_|refine W_block ?_|refine W_condTA rfl ?_)
    exact ret0 (.cell1 inferInstance rfl rfl (.cell1 inferInstance rfl rfl .nil)) (.plainD (j:=3) rfl rfl rfl) ⟨rfl,rfl⟩
   ·have hJ1':h=0→∀ i,i<j+1→¬ gi q i<gi S.d i:=fun hz i hi hl=>by
     by_cases hij:i=j
     ·subst hij;exact hbad ⟨hz,by rw [← hd];exact hl⟩
     ·exact hJ1 hz i (by omega) hl
    have hsp2:0<h→∀ k,k<S.f.length→(gf S.f k).1=(j:Int)→0≤gi p (gf S.f k).2.toNat→gi q j<d+gi p (gf S.f k).2.toNat→tSum S Q:=fun hz k hk ha h1 h2=>hsp hz k hk ⟨h1,by rw [ha,Int.toNat_natCast,hd];exact h2⟩
    have hns2:∀ k,(gf S.f k).1=(j:Int)→(0<h→¬ (0≤gi p (gf S.f k).2.toNat∧gi q j<d+gi p (gf S.f k).2.toNat))→(0<h→¬ stP S p q k):=fun k ha hn hz hs=>hn hz ⟨hs.1,by have:=hs.2;rw [ha,Int.toNat_natCast,hd] at this;exact this⟩
    have hfin:(0<h→∀ k,k<S.f.length→(gf S.f k).1=(j:Int)→¬ stP S p q k)→(0<h→∀ k,k<S.f.length→(gf S.f k).1<((j+1:Nat):Int)→¬ stP S p q k):=fun hn hz k hk hk2=>by
     by_cases he:(gf S.f k).1=(j:Int)
     ·exact hn hz k hk he
     ·exact hJ2 hz k hk (by omega)
    clear hlw hJ1 hJ2 hsp hnext h14' hrq
    have key:((h:Int)=0∧¬ gi q j<d)∨¬ (h:Int)=0:=by omega
    generalize gi q j=x at *
    have key0:=key
    rcases key with ⟨hz,hlt⟩|hz
    all_goals
     repeat' (first|(refine gU ?_;first|(refine gMove ?_;refine st (ok_move rfl) rfl rfl ?_)|(refine gLoad ?_;refine st (ok_load rfl (by first|rfl|assumption)) rfl rfl ?_)|(refine gBin ?_;refine st (ok_bin rfl rfl rfl) rfl rfl ?_)|(refine gIA ?_;refine st (ok_idxN rfl rfl (by omega)) rfl rfl ?_)|(refine gCall ?_;refine st (ok_call rfl rfl rfl (by exact hnx)) rfl rfl ?_)|(refine gAlloc ?_;refine st (ok_alloc rfl) rfl rfl ?_)|(refine gStore ?_;refine stN (ok_store rfl rfl rfl rfl (by rfl)) rfl ?_))|(refine fU ?_;first|(refine fMove ?_;refine frA (ok_move rfl) rfl ?_)|(refine fLoad ?_;refine frA (ok_load rfl (by rfl)) rfl ?_)|(refine fBin ?_;refine frA (ok_bin rfl rfl rfl) rfl ?_)|(refine fPick ?_;first|refine frA (ok_pickTA rfl rfl) rfl ?_|refine frA (ok_pickFA rfl rfl) rfl ?_))|(refine fG ?_;first|(refine fLoad ?_;refine frGA rfl (ok_load rfl (by first|rfl|exact hc3 _)) rfl ?_)|(refine fBin ?_;refine frGA rfl (ok_bin rfl rfl rfl) rfl ?_)|(refine fIA ?_;refine frGA rfl (ok_idxN rfl rfl (by omega)) rfl ?_)|refine frSA rfl rfl ?_)|(refine fr_stop ⟨by kernel_rfl,?_⟩)|refine W_seq ?_|refine W_region ?_|refine W_regionD (by kernel_rfl) rfl ?_|refine st_nil ?_|refine tq_n ?_|refine W_skip ?_|refine W_block ?_|refine W_condTA rfl ?_|refine W_condFA rfl ?_)
    all_goals (try clear hlt)
    all_goals
     clear hz
     refine W_st (by simp) (.same (e2:=[(2,.pointer (some ⟨4,0,none⟩)),(3,.pointer (some ⟨5,0,none⟩)),(4,.pointer (some ⟨6,0,none⟩)),(5,.pointer (some ⟨7,0,none⟩)),(6,.pointer (some ⟨8,0,none⟩)),(8,.pointer (some ⟨11,0,none⟩)),(9,.pointer (some ⟨12,0,none⟩)),(10,.pointer (some ⟨13,0,none⟩)),(11,.pointer (some ⟨14,0,none⟩)),(41,.slice (some ⟨3,0,none⟩) Q.length c),(42,.int .i64 (Q.length:Int)),(43,.int .i64 (h:Int)),(49,sl 0 S.d.length),(50,.int .i64 (S.d.length:Int)),(51,.int .i64 (j:Int)),(68,.func (.func 87) #[] #[.pointer (some ⟨15,0,none⟩),.pointer (some ⟨16,0,none⟩)])]) ⟨rfl,rfl,rfl,rfl,rfl,rfl,rfl,rfl,rfl,rfl,rfl,rfl,rfl,rfl,rfl,rfl,trivial⟩) ?tail
    case' tail=>skip
    clear hnx hcd
    refine W_rangeFuncL (p:=[]) (q:=[.pointer (some ⟨15,0,none⟩),.pointer (some ⟨16,0,none⟩)]) rfl fun L hL=>?_
    have hLc:oclosed 19 L:=by
     rw [hL]
     exact env_closed fun p hp=>by
      simp only [List.mem_cons,List.not_mem_nil,or_false] at hp
      rcases hp with rfl|rfl|rfl|rfl|rfl|rfl|rfl|rfl|rfl|rfl|rfl|rfl|rfl|rfl|rfl|rfl <;> first|exact ⟨rfl,rfl⟩|exact slice_closed (by omega)
    have hLi:isIter L=false:=by rw [hL];rfl
    refine acall_intro 19 28 Try.func87 rfl rfl rfl rfl rfl ?_
    repeat' (first|(refine gU ?_;first|(refine gMove ?_;refine st (ok_move rfl) rfl rfl ?_)|(refine gFA ?_;refine st (ok_fieldAddr rfl) rfl rfl ?_)|(refine gLoad ?_;refine st (ok_load rfl (by rfl)) rfl rfl ?_)|(refine gLen ?_;refine st (ok_len rfl) rfl rfl ?_)|(refine gNil ?_;refine st (ok_nilP rfl) rfl rfl ?_))|refine W_seq ?_|refine W_region ?_|refine st_nil ?_|refine tq_n ?_|refine W_block ?_)
    refine W_loopS (ι:=Nat) (fun k=>[(0,.func (.yield 18) #[] #[]),(1,.pointer (some ⟨15,0,none⟩)),(2,.pointer (some ⟨16,0,none⟩)),(10,sl 1 S.f.length),(11,.int .i64 (S.f.length:Int)),(12,.int .i64 (k:Int))])
     (fun _=>[.ro (ints S.d),.ro (pc S.f),.ro (ints S.s),.deep (rowsQ Q) [(h,sl 10 S.d.length),(h - 1,sl 9 S.d.length)],.rw (shL 0 1 2 S),.rw [.slice (some ⟨3,0,none⟩) Q.length c],.rw [.int .i64 0],.rw [.int .i64 0],.rw (flL 0 1 2 S (fun i=>bI (rB S i))),.ro (ints p),.ro (ints q),.rw [.int .i64 (h:Int)],.rw [sl 10 S.d.length],.rw [.int .i64 (j:Int)],.rw [.int .i64 d],.rw [.pointer (some ⟨8,0,none⟩)],.rw [.int .i64 (j:Int)],.dfr,L]) (fun k=>S.f.length - k) (fun k=>k≤S.f.length∧(0<h→∀ k',k'<k→(gf S.f k').1=(j:Int)→¬ stP S p q k')) 0 (by simp) (.same ⟨rfl,rfl,rfl,rfl,rfl,rfl,trivial⟩) ⟨Nat.zero_le _,fun _ k' hk'=>absurd hk' (Nat.not_lt_zero _)⟩ ?_
    rintro k ⟨hk,hI⟩
    by_cases hkl:k<S.f.length
    ·have hd2:∀ σ':Heap,cellsAt (AObj.ro (ints S.d)::.ro (pc S.f)::σ') 1 (0+k*2) 2=some [.int .i64 (gf S.f k).1,.int .i64 (gf S.f k).2]:=fun σ'=>pc_cells (.inl rfl) hkl
     obtain ⟨hw1,hw2,-⟩:=hok.f k hkl
     have hsk:=hsp2
     replace hsk:=fun hz=>hsk hz k hkl
     replace hns2:=hns2 k
     have hI2:(0<h→(gf S.f k).1=(j:Int)→¬ stP S p q k)→(0<h→∀ k',k'<k+1→(gf S.f k').1=(j:Int)→¬ stP S p q k'):=fun hn hz k' hk' ha=>by
      by_cases he:k'=k
      ·subst he;exact hn hz ha
      ·exact hI hz k' (by omega) ha
     generalize gf S.f k=w at *
     obtain ⟨a,b⟩:=w
     simp only at hw1 hw2 hd2 hsk hns2 hI2
     obtain ⟨y,rfl⟩:∃ y:Nat,b=(y:Int):=⟨b.toNat,by have:=hw2.1;omega⟩
     have hyd:y<S.d.length:=by have:=hw2.2;omega
     have hydI:(y:Int)<(S.d.length:Int):=by omega
     have hpy:=hrp y hyd
     simp only [Int.toNat_natCast] at hsk hns2
     have hc5:∀ σ':Heap,cellGet (AObj.ro (ints S.d)::.ro (pc S.f)::.ro (ints S.s)::.deep (rowsQ Q) [(h,sl 10 S.d.length),(h - 1,sl 9 S.d.length)]::.rw (shL 0 1 2 S)::.rw [.slice (some ⟨3,0,none⟩) Q.length c]::.rw [.int .i64 0]::.rw [.int .i64 0]::.rw (flL 0 1 2 S (fun i=>bI (rB S i)))::.ro (ints p)::.ro (ints q)::.rw [.int .i64 (h:Int)]::.rw [sl 10 S.d.length]::σ') 9 y=some (.int .i64 (gi p y)):=fun _=>ints_get (by omega)
     have hc6:∀ σ':Heap,0<h→cellGet (AObj.ro (ints S.d)::.ro (pc S.f)::.ro (ints S.s)::.deep (rowsQ Q) [(h,sl 10 S.d.length),(h - 1,sl 9 S.d.length)]::.rw (shL 0 1 2 S)::.rw [.slice (some ⟨3,0,none⟩) Q.length c]::.rw [.int .i64 0]::.rw [.int .i64 0]::.rw (flL 0 1 2 S (fun i=>bI (rB S i)))::.ro (ints p)::.ro (ints q)::.rw [.int .i64 (h:Int)]::.rw [sl 10 S.d.length]::σ') 3 (0+((h:Int) - 1).toNat*1)=some (sl 9 S.d.length):=fun _ hz=>by
      have hne:Nat.beq h (h - 1)=false:=beq_ne (by omega)
      rw [show 0+((h:Int) - 1).toNat*1=h - 1 by omega]
      simp [cellGet,spGet,hne]
     generalize gi p y=z at *
     by_cases ha:a=(j:Int)
     ·have hklt:k<S.f.length:=by omega
      by_cases hbd:0<h∧0≤z∧x<d+z
      ·have ht:=hsk hbd.1 ha hbd.2.1 hbd.2.2
       have hzp:=hbd.1
       have hzI:(h:Int) > 0:=by omega
       have hz0:=hbd.2.1
       have hlt:=hbd.2.2
       rw [h14M ht,h14 ht]
       clear hI hI2 hsk hns2
       repeat' (first|(refine gU ?_;first|(refine gMove ?_;refine st (ok_move rfl) rfl rfl ?_)|(refine gLoad ?_;first|refine st (ok_load rfl (by rfl)) rfl rfl ?_|refine st (ok_loadA rfl (by exact hd2 _)) rfl rfl ?_)|(refine gBin ?_;refine st (ok_bin rfl rfl rfl) rfl rfl ?_)|(refine gIA ?_;first|refine st (ok_idxSN rfl rfl (by omega)) rfl rfl ?_|refine st (ok_idxA rfl rfl (by omega) (by omega)) rfl rfl ?_)|(refine gAlloc ?_;refine st (ok_alloc rfl) rfl rfl ?_)|(refine gStore ?_;refine stN (ok_store rfl rfl rfl rfl (by rfl)) rfl ?_))|(refine gG ?_;first|(refine gMove ?_;refine stGA rfl (ok_move rfl) rfl rfl ?_)|(refine gLoad ?_;refine stGA rfl (ok_load rfl (by rfl)) rfl rfl ?_)|(refine gIA ?_;refine stGA rfl (ok_idxA rfl rfl (by omega) (by omega)) rfl rfl ?_))|refine W_seq ?_|refine W_region ?_|refine st_nil ?_|refine tq_n ?_|refine W_skip ?_|refine W_block ?_|refine W_condTA rfl ?_)
       refine st_yieldG (l:=18) rfl rfl (by rw [hL];rfl) rfl rfl rfl (fun _ _ _ _ he=>wanted_rel (b:=true) (by rw [wantedA_some (b:=decide (a=(j:Int))) rfl,decide_eq_true ha];rfl) he) ?_
       repeat' (first|(refine gU ?_;(refine gAssign ?_;refine st (ok_assign rfl) rfl rfl ?_))|refine W_region ?_|refine st_nil ?_)
       refine roundA_n (by rw [hL];rfl) ?_
       repeat' (first|(refine gU ?_;(refine gStore ?_;refine stN (ok_store rfl rfl rfl rfl (by rfl)) rfl ?_))|(refine fU ?_;first|(refine fMove ?_;refine frA (ok_move rfl) rfl ?_)|(refine fLoad ?_;refine frA (ok_load rfl (by rfl)) rfl ?_)|(refine fBin ?_;refine frA (ok_bin rfl rfl rfl) rfl ?_)|(refine fPick ?_;refine frA (ok_pickTA rfl rfl) rfl ?_))|(refine fG ?_;first|(refine fMove ?_;refine frGA rfl (ok_move rfl) rfl ?_)|(refine fLoad ?_;refine frGA rfl (ok_load rfl (by first|rfl|exact hc3 _|exact hc5 _|exact hc6 _ hzp)) rfl ?_)|(refine fAdd ?_;refine frGA rfl (ok_add rfl rfl (by omega) (by omega)) rfl ?_)|(refine fSub ?_;refine frGA rfl (ok_sub rfl rfl (by omega) (by omega)) rfl ?_)|(refine fBin ?_;refine frGA rfl (ok_bin rfl rfl rfl) rfl ?_)|(refine fIA ?_;first|refine frGA rfl (ok_idxN rfl rfl (by omega)) rfl ?_|refine frGA rfl (ok_idx rfl rfl (by omega) (by omega)) rfl ?_))|(refine fr_stop ⟨by kernel_rfl,?_⟩)|refine W_seq ?_|refine W_region ?_|refine W_regionD (by kernel_rfl) rfl ?_|refine st_nil ?_|refine tq_n ?_|refine bq_r ?_|refine W_ret ?_|refine W_block ?_|refine W_condTA rfl ?_)
       refine roundB_r rfl rfl ?_
       repeat' (first|(refine gU ?_;(refine gPick ?_;refine st (ok_pickTA rfl rfl) rfl rfl ?_))|(refine gG ?_;(refine gNot ?_;refine stGA rfl (ok_not' rfl) rfl rfl ?_))|refine st_nil ?_|refine tq_n ?_|refine tq_r ?_|refine bq_r ?_|refine W_ret ?_|refine W_condTA rfl ?_)
       refine ret0 .nil .all ⟨_,_,_,_,_,_,_,by rw [hL];rfl,by simp,?_⟩
       dsimp only
       repeat' (first|refine tq_r ?_|refine bq_r ?_|refine W_ret ?_)
       exact ret1 rfl (.cell1 inferInstance rfl rfl (.cell1 inferInstance rfl rfl .nil)) (.plainD (j:=3) rfl rfl rfl) ⟨rfl,rfl⟩
      ·have hI3:=hI2 (fun _ h1=>hns2 h1 (fun hz hc=>hbd ⟨hz,hc⟩) (by assumption))
       have hcs:¬ (h:Int) > 0∨((h:Int) > 0∧¬ z≥0)∨((h:Int) > 0∧z≥0∧¬ x<d+z):=by omega
       clear hI hI2 hsk hns2 hbd
       repeat' (first|(refine gU ?_;first|(refine gMove ?_;refine st (ok_move rfl) rfl rfl ?_)|(refine gLoad ?_;first|refine st (ok_load rfl (by rfl)) rfl rfl ?_|refine st (ok_loadA rfl (by exact hd2 _)) rfl rfl ?_)|(refine gBin ?_;refine st (ok_bin rfl rfl rfl) rfl rfl ?_)|(refine gIA ?_;first|refine st (ok_idxSN rfl rfl (by omega)) rfl rfl ?_|refine st (ok_idxA rfl rfl (by omega) (by omega)) rfl rfl ?_)|(refine gAlloc ?_;refine st (ok_alloc rfl) rfl rfl ?_)|(refine gStore ?_;refine stN (ok_store rfl rfl rfl rfl (by rfl)) rfl ?_))|(refine gG ?_;first|(refine gMove ?_;refine stGA rfl (ok_move rfl) rfl rfl ?_)|(refine gLoad ?_;refine stGA rfl (ok_load rfl (by rfl)) rfl rfl ?_)|(refine gIA ?_;refine stGA rfl (ok_idxA rfl rfl (by omega) (by omega)) rfl rfl ?_))|refine W_seq ?_|refine W_region ?_|refine st_nil ?_|refine tq_n ?_|refine W_skip ?_|refine W_block ?_|refine W_condTA rfl ?_)
       refine st_yieldG (l:=18) rfl rfl (by rw [hL];rfl) rfl rfl rfl (fun _ _ _ _ he=>wanted_rel (b:=true) (by rw [wantedA_some (b:=decide (a=(j:Int))) rfl,decide_eq_true ha];rfl) he) ?_
       repeat' (first|(refine gU ?_;(refine gAssign ?_;refine st (ok_assign rfl) rfl rfl ?_))|refine W_region ?_|refine st_nil ?_)
       refine roundA_n (by rw [hL];rfl) ?_
       rcases hcs with hzI|⟨hzI,hz0⟩|⟨hzI,hz0,hlt⟩
       ·repeat' (first|(refine fU ?_;first|(refine fMove ?_;refine frA (ok_move rfl) rfl ?_)|(refine fLoad ?_;refine frA (ok_load rfl (by rfl)) rfl ?_)|(refine fBin ?_;refine frA (ok_bin rfl rfl rfl) rfl ?_)|(refine fPick ?_;refine frA (ok_pickFA rfl rfl) rfl ?_))|(refine fG ?_;refine frSA rfl rfl ?_)|(refine fr_stop ⟨by kernel_rfl,?_⟩)|refine W_seq ?_|refine W_regionD (by kernel_rfl) rfl ?_|refine st_nil ?_|refine tq_n ?_|refine bq_n ?_|refine W_skip ?_|refine W_block ?_|refine W_condFA rfl ?_)
        refine roundB_n rfl rfl ?_
        repeat' (first|(refine gU ?_;first|(refine gMove ?_;refine st (ok_move rfl) rfl rfl ?_)|(refine gAdd ?_;refine st (ok_inc rfl rfl (by omega)) rfl rfl ?_)|(refine gPick ?_;refine st (ok_pickTA rfl rfl) rfl rfl ?_))|(refine gG ?_;(refine gNot ?_;refine stGA rfl (ok_not' rfl) rfl rfl ?_))|refine W_region ?_|refine st_nil ?_|refine tq_n ?_|refine bq_n ?_|refine W_skip ?_|refine W_condFA rfl ?_)
        refine ⟨rfl,k+1,⟨by omega,hI3⟩,by omega,?_⟩
        rw [hL]
        exact StRef.drop [.ro (ints S.d),.ro (pc S.f),.ro (ints S.s),.deep (rowsQ Q) [(h,sl 10 S.d.length),(h - 1,sl 9 S.d.length)],.rw (shL 0 1 2 S),.rw [.slice (some ⟨3,0,none⟩) Q.length c],.rw [.int .i64 0],.rw [.int .i64 0],.rw (flL 0 1 2 S (fun i=>bI (rB S i))),.ro (ints p),.ro (ints q),.rw [.int .i64 (h:Int)],.rw [sl 10 S.d.length],.rw [.int .i64 (j:Int)],.rw [.int .i64 d],.rw [.pointer (some ⟨8,0,none⟩)],.rw [.int .i64 (j:Int)],.dfr,_] [_] (by simp) (hc_k19 S Q c h j d p q _ (by have:=hLc;rw [hL] at this;exact this)) (by (repeat' (first|exact trivial|exact ⟨rfl,rfl,rfl⟩|exact ⟨rfl,closed_slice rfl,rfl⟩|refine ⟨?_,?_⟩)))
       ·have hzp:0<h:=by omega
        repeat' (first|(refine fU ?_;first|(refine fMove ?_;refine frA (ok_move rfl) rfl ?_)|(refine fLoad ?_;refine frA (ok_load rfl (by rfl)) rfl ?_)|(refine fBin ?_;refine frA (ok_bin rfl rfl rfl) rfl ?_)|(refine fPick ?_;first|refine frA (ok_pickTA rfl rfl) rfl ?_|refine frA (ok_pickFA rfl rfl) rfl ?_))|(refine fG ?_;first|(refine fMove ?_;refine frGA rfl (ok_move rfl) rfl ?_)|(refine fLoad ?_;refine frGA rfl (ok_load rfl (by first|rfl|exact hc3 _|exact hc5 _|exact hc6 _ hzp)) rfl ?_)|(refine fSub ?_;refine frGA rfl (ok_sub rfl rfl (by omega) (by omega)) rfl ?_)|(refine fBin ?_;refine frGA rfl (ok_bin rfl rfl rfl) rfl ?_)|(refine fIA ?_;first|refine frGA rfl (ok_idxN rfl rfl (by omega)) rfl ?_|refine frGA rfl (ok_idx rfl rfl (by omega) (by omega)) rfl ?_)|refine frSA rfl rfl ?_)|(refine fr_stop ⟨by kernel_rfl,?_⟩)|refine W_seq ?_|refine W_regionD (by kernel_rfl) rfl ?_|refine st_nil ?_|refine tq_n ?_|refine bq_n ?_|refine W_skip ?_|refine W_block ?_|refine W_condFA rfl ?_)
        refine roundB_n rfl rfl ?_
        repeat' (first|(refine gU ?_;first|(refine gMove ?_;refine st (ok_move rfl) rfl rfl ?_)|(refine gAdd ?_;refine st (ok_inc rfl rfl (by omega)) rfl rfl ?_)|(refine gPick ?_;refine st (ok_pickTA rfl rfl) rfl rfl ?_))|(refine gG ?_;(refine gNot ?_;refine stGA rfl (ok_not' rfl) rfl rfl ?_))|refine W_region ?_|refine st_nil ?_|refine tq_n ?_|refine bq_n ?_|refine W_skip ?_|refine W_condFA rfl ?_)
        refine ⟨rfl,k+1,⟨by omega,hI3⟩,by omega,?_⟩
        rw [hL]
        exact StRef.drop [.ro (ints S.d),.ro (pc S.f),.ro (ints S.s),.deep (rowsQ Q) [(h,sl 10 S.d.length),(h - 1,sl 9 S.d.length)],.rw (shL 0 1 2 S),.rw [.slice (some ⟨3,0,none⟩) Q.length c],.rw [.int .i64 0],.rw [.int .i64 0],.rw (flL 0 1 2 S (fun i=>bI (rB S i))),.ro (ints p),.ro (ints q),.rw [.int .i64 (h:Int)],.rw [sl 10 S.d.length],.rw [.int .i64 (j:Int)],.rw [.int .i64 d],.rw [.pointer (some ⟨8,0,none⟩)],.rw [.int .i64 (j:Int)],.dfr,_] [_] (by simp) (hc_k19 S Q c h j d p q _ (by have:=hLc;rw [hL] at this;exact this)) (by (repeat' (first|exact trivial|exact ⟨rfl,rfl,rfl⟩|exact ⟨rfl,closed_slice rfl,rfl⟩|refine ⟨?_,?_⟩)))
       ·have hzp:0<h:=by omega
        repeat' (first|(refine fU ?_;first|(refine fMove ?_;refine frA (ok_move rfl) rfl ?_)|(refine fLoad ?_;refine frA (ok_load rfl (by rfl)) rfl ?_)|(refine fBin ?_;refine frA (ok_bin rfl rfl rfl) rfl ?_)|(refine fPick ?_;refine frA (ok_pickTA rfl rfl) rfl ?_))|(refine fG ?_;first|(refine fMove ?_;refine frGA rfl (ok_move rfl) rfl ?_)|(refine fLoad ?_;refine frGA rfl (ok_load rfl (by first|rfl|exact hc3 _|exact hc5 _|exact hc6 _ hzp)) rfl ?_)|(refine fAdd ?_;refine frGA rfl (ok_add rfl rfl (by omega) (by omega)) rfl ?_)|(refine fSub ?_;refine frGA rfl (ok_sub rfl rfl (by omega) (by omega)) rfl ?_)|(refine fBin ?_;refine frGA rfl (ok_bin rfl rfl rfl) rfl ?_)|(refine fIA ?_;first|refine frGA rfl (ok_idxN rfl rfl (by omega)) rfl ?_|refine frGA rfl (ok_idx rfl rfl (by omega) (by omega)) rfl ?_))|(refine fr_stop ⟨by kernel_rfl,?_⟩)|refine W_seq ?_|refine W_regionD (by kernel_rfl) rfl ?_|refine st_nil ?_|refine tq_n ?_|refine bq_n ?_|refine W_skip ?_|refine W_block ?_|refine W_condFA rfl ?_)
        refine roundB_n rfl rfl ?_
        repeat' (first|(refine gU ?_;first|(refine gMove ?_;refine st (ok_move rfl) rfl rfl ?_)|(refine gAdd ?_;refine st (ok_inc rfl rfl (by omega)) rfl rfl ?_)|(refine gPick ?_;refine st (ok_pickTA rfl rfl) rfl rfl ?_))|(refine gG ?_;(refine gNot ?_;refine stGA rfl (ok_not' rfl) rfl rfl ?_))|refine W_region ?_|refine st_nil ?_|refine tq_n ?_|refine bq_n ?_|refine W_skip ?_|refine W_condFA rfl ?_)
        refine ⟨rfl,k+1,⟨by omega,hI3⟩,by omega,?_⟩
        rw [hL]
        exact StRef.drop [.ro (ints S.d),.ro (pc S.f),.ro (ints S.s),.deep (rowsQ Q) [(h,sl 10 S.d.length),(h - 1,sl 9 S.d.length)],.rw (shL 0 1 2 S),.rw [.slice (some ⟨3,0,none⟩) Q.length c],.rw [.int .i64 0],.rw [.int .i64 0],.rw (flL 0 1 2 S (fun i=>bI (rB S i))),.ro (ints p),.ro (ints q),.rw [.int .i64 (h:Int)],.rw [sl 10 S.d.length],.rw [.int .i64 (j:Int)],.rw [.int .i64 d],.rw [.pointer (some ⟨8,0,none⟩)],.rw [.int .i64 (j:Int)],.dfr,_] [_] (by simp) (hc_k19 S Q c h j d p q _ (by have:=hLc;rw [hL] at this;exact this)) (by (repeat' (first|exact trivial|exact ⟨rfl,rfl,rfl⟩|exact ⟨rfl,closed_slice rfl,rfl⟩|refine ⟨?_,?_⟩)))
     ·have hI3:=hI2 (fun _ h1=>absurd h1 ha)
      clear hI hI2 hsk hns2
      have hklt:k<S.f.length:=by omega
      repeat' (first|(refine gU ?_;first|(refine gMove ?_;refine st (ok_move rfl) rfl rfl ?_)|(refine gLoad ?_;first|refine st (ok_load rfl (by rfl)) rfl rfl ?_|refine st (ok_loadA rfl (by exact hd2 _)) rfl rfl ?_)|(refine gAdd ?_;refine st (ok_inc rfl rfl (by omega)) rfl rfl ?_)|(refine gBin ?_;refine st (ok_bin rfl rfl rfl) rfl rfl ?_)|(refine gPick ?_;refine st (ok_pickFA rfl rfl) rfl rfl ?_)|(refine gIA ?_;first|refine st (ok_idxSN rfl rfl (by omega)) rfl rfl ?_|refine st (ok_idxA rfl rfl (by omega) (by omega)) rfl rfl ?_)|(refine gAlloc ?_;refine st (ok_alloc rfl) rfl rfl ?_)|(refine gStore ?_;refine stN (ok_store rfl rfl rfl rfl (by rfl)) rfl ?_))|(refine gG ?_;refine stSA rfl rfl ?_)|refine W_seq ?_|refine W_region ?_|refine st_nil ?_|refine tq_n ?_|refine bq_n ?_|refine W_skip ?_|refine W_block ?_|refine W_condTA rfl ?_|refine W_condFA rfl ?_)
      exact ⟨rfl,k+1,⟨by omega,hI3⟩,by omega,StRef.drop [.ro (ints S.d),.ro (pc S.f),.ro (ints S.s),.deep (rowsQ Q) [(h,sl 10 S.d.length),(h - 1,sl 9 S.d.length)],.rw (shL 0 1 2 S),.rw [.slice (some ⟨3,0,none⟩) Q.length c],.rw [.int .i64 0],.rw [.int .i64 0],.rw (flL 0 1 2 S (fun i=>bI (rB S i))),.ro (ints p),.ro (ints q),.rw [.int .i64 (h:Int)],.rw [sl 10 S.d.length],.rw [.int .i64 (j:Int)],.rw [.int .i64 d],.rw [.pointer (some ⟨8,0,none⟩)],.rw [.int .i64 (j:Int)],.dfr,L] [_] (by simp) (hc_k19 S Q c h j d p q L hLc) (by (repeat' (first|exact trivial|exact ⟨rfl,rfl,rfl⟩|exact ⟨rfl,closed_slice rfl,rfl⟩|refine ⟨?_,?_⟩)))⟩
    ·obtain rfl:k=S.f.length:=by omega
     have hJ2':=hfin hI
     repeat' (first|(refine gU ?_;(refine gBin ?_;refine st (ok_bin rfl rfl rfl) rfl rfl ?_))|refine W_seq ?_|refine W_region ?_|refine st_nil ?_|refine tq_n ?_|refine tq_e ?_|refine bq_hit rfl ?_|refine W_exit ?_|refine W_condFA rfl ?_)
     refine retN .nil .all ⟨_,_,_,_,_,_,_,by rw [hL];rfl,by simp,?_⟩
     dsimp only
     repeat' (first|(refine gU ?_;first|(refine gMove ?_;refine st (ok_move rfl) rfl rfl ?_)|(refine gAdd ?_;refine st (ok_inc rfl rfl (by omega)) rfl rfl ?_))|refine W_region ?_|refine st_nil ?_|refine tq_n ?_|refine bq_n ?_)
     exact ⟨j+1,⟨⟨by omega,hJ1',hJ2'⟩,by omega⟩,Tail.StRefD.src [.ro (ints S.d),.ro (pc S.f),.ro (ints S.s),.deep (rowsQ Q) [(h,sl 10 S.d.length),(h - 1,sl 9 S.d.length)],.rw (shL 0 1 2 S),.rw [.slice (some ⟨3,0,none⟩) Q.length c],.rw [.int .i64 0],.rw [.int .i64 0],.rw (flL 0 1 2 S (fun i=>bI (rB S i))),.ro (ints p),.ro (ints q),.rw [.int .i64 (h:Int)],.rw [sl 10 S.d.length]] [] [] 17 (by simp) rfl (hc_k13 S Q c h p q (Nat.le_refl _)) rfl rfl rfl trivial (by (repeat' (first|exact trivial|refine ⟨er_plain rfl rfl,?_⟩|refine ⟨er_closed (m:=13) rfl (fun i hi=>srcR_lt hi) (by simp) (by first|rfl|exact closed_slice rfl) rfl,?_⟩)))⟩
  ·obtain rfl:j=S.d.length:=by omega
   refine W_shut 3 rfl ?_
   refine W_cut [(2,.pointer (some ⟨4,0,none⟩)),(3,.pointer (some ⟨5,0,none⟩)),(4,.pointer (some ⟨6,0,none⟩)),(5,.pointer (some ⟨7,0,none⟩)),(6,.pointer (some ⟨8,0,none⟩)),(41,.slice (some ⟨3,0,none⟩) Q.length c),(42,.int .i64 (Q.length:Int)),(43,.int .i64 (h:Int)),(50,.int .i64 (S.d.length:Int)),(51,.int .i64 (S.d.length:Int))] [.ro (ints S.d),.ro (pc S.f),.ro (ints S.s),.deep (rowsQ Q) [],.rw (shL 0 1 2 S),.rw [.slice (some ⟨3,0,none⟩) Q.length c],.rw [.int .i64 0],.rw [.int .i64 0],.rw (flL 0 1 2 S (fun i=>bI (rB S i))),.ro (ints p),.ro (ints q),.rw [.int .i64 (h:Int)],.rw [sl 10 S.d.length]] rfl ⟨rfl,rfl,rfl,rfl,rfl,rfl,rfl,rfl,rfl,rfl,trivial⟩ ?_
   have hI:=hnext hJ1 (fun hz k hk=>hJ2 hz k hk (by have:=(hok.f k hk).1;omega))
   repeat' (first|(refine gU ?_;first|(refine gMove ?_;refine st (ok_move rfl) rfl rfl ?_)|(refine gAdd ?_;refine st (ok_inc rfl rfl (by omega)) rfl rfl ?_)|(refine gBin ?_;refine st (ok_bin rfl rfl rfl) rfl rfl ?_))|refine W_seq ?_|refine W_region ?_|refine st_nil ?_|refine tq_n ?_|refine tq_e ?_|refine bq_n ?_|refine bq_hit rfl ?_|refine W_exit ?_|refine W_condFA rfl ?_)
   exact ⟨h+1,⟨hI,by omega⟩,.of (StRef.drop [.ro (ints S.d),.ro (pc S.f),.ro (ints S.s),.deep (rowsQ Q) [],.rw (shL 0 1 2 S),.rw [.slice (some ⟨3,0,none⟩) Q.length c],.rw [.int .i64 0],.rw [.int .i64 0],.rw (flL 0 1 2 S (fun i=>bI (rB S i)))] [_,_,_,_] (by simp) (hc_k9 S Q c) (by (repeat' (first|exact trivial|exact ⟨rfl,rfl,rfl⟩|exact ⟨rfl,closed_slice rfl,rfl⟩|refine ⟨?_,?_⟩)))) (by simp)⟩
 ·obtain rfl:h=Q.length:=by omega
  have hns:¬ tSum S Q:=by
   rintro (⟨i,h1,h2⟩|⟨g,h1,h2,k,h3,h4⟩)
   ·exact hI1 (by omega) i h1 h2
   ·exact hI2 g h1 h2 k h3 h4
  have he:=hE0 hns
  rw [topM_0 he,he]
  have hq:=hlen (Q.length - 1) (by omega)
  have hrq:=hrng (Q.length - 1) (by omega)
  refine W_open 3 (Q.length - 1) rfl (rowsQ_get (show Q.length - 1<Q.length by omega)) (ints_plain _) ?_
  rw [ints_length,hq]
  clear hI1 hI2 hlen hrng hL1 hR hE0 h14 h14M hns he
  generalize gq Q (Q.length - 1)=q at *
  refine W_cut [(2,.pointer (some ⟨4,0,none⟩)),(3,.pointer (some ⟨5,0,none⟩)),(4,.pointer (some ⟨6,0,none⟩)),(5,.pointer (some ⟨7,0,none⟩)),(6,.pointer (some ⟨8,0,none⟩)),(41,.slice (some ⟨3,0,none⟩) Q.length c),(42,.int .i64 (Q.length:Int)),(43,.int .i64 (Q.length:Int))] [.ro (ints S.d),.ro (pc S.f),.ro (ints S.s),.deep (rowsQ Q) [(Q.length - 1,sl 9 S.d.length)],.rw (shL 0 1 2 S),.rw [.slice (some ⟨3,0,none⟩) Q.length c],.rw [.int .i64 0],.rw [.int .i64 0],.rw (flL 0 1 2 S (fun i=>bI (rB S i))),.ro (ints q)] rfl ⟨rfl,rfl,rfl,rfl,rfl,rfl,rfl,rfl,trivial⟩ ?_
  have hc1:cellGet [.ro (ints S.d),.ro (pc S.f),.ro (ints S.s),.deep (rowsQ Q) [(Q.length - 1,sl 9 S.d.length)],.rw (shL 0 1 2 S),.rw [.slice (some ⟨3,0,none⟩) Q.length c],.rw [.int .i64 0],.rw [.int .i64 0],.rw (flL 0 1 2 S (fun i=>bI (rB S i))),.ro (ints q)] 3 (0+((Q.length:Int) - 1).toNat*1)=some (sl 9 S.d.length):=by
   rw [show 0+((Q.length:Int) - 1).toNat*1=Q.length - 1 by omega]
   simp [cellGet,spGet]
  repeat' (first|(refine gU ?_;first|(refine gMove ?_;refine st (ok_move rfl) rfl rfl ?_)|(refine gAssign ?_;refine st (ok_assign rfl) rfl rfl ?_)|(refine gLoad ?_;refine st (ok_load rfl (by first|rfl|exact hc1)) rfl rfl ?_)|(refine gSub ?_;refine st (ok_sub rfl rfl (by omega) (by omega)) rfl rfl ?_)|(refine gBin ?_;refine st (ok_bin rfl rfl rfl) rfl rfl ?_)|(refine gLen ?_;refine st (ok_len rfl) rfl rfl ?_)|(refine gIA ?_;refine st (ok_idx rfl rfl (by omega) (by omega)) rfl rfl ?_))|refine W_seq ?_|refine W_region ?_|refine st_nil ?_|refine tq_n ?_|refine tq_e ?_|refine bq_hit rfl ?_|refine W_exit ?_|refine W_block ?_|refine W_condFA rfl ?_)
  refine W_loopS (ι:=Nat) (fun i=>[(4,.pointer (some ⟨6,0,none⟩)),(5,.pointer (some ⟨7,0,none⟩)),(6,.pointer (some ⟨8,0,none⟩)),(13,.int .i64 (mxB (gi q) (rB S) i)),(107,sl 9 S.d.length),(108,.int .i64 (S.d.length:Int)),(109,.int .i64 (i:Int))])
   (fun _=>[.ro (ints S.d),.ro (pc S.f),.ro (ints S.s),.deep (rowsQ Q) [(Q.length - 1,sl 9 S.d.length)],.rw (shL 0 1 2 S),.rw [.slice (some ⟨3,0,none⟩) Q.length c],.rw [.int .i64 0],.rw [.int .i64 0],.rw (flL 0 1 2 S (fun i=>bI (rB S i))),.ro (ints q)]) (fun i=>S.d.length - i) (fun i=>i≤S.d.length) 0 (by simp) (.same ⟨rfl,rfl,rfl,rfl,rfl,rfl,rfl,trivial⟩) (Nat.zero_le _) ?_
  clear hc1
  intro i hi
  by_cases hin:i<S.d.length
  ·have hcq:cellGet [.ro (ints S.d),.ro (pc S.f),.ro (ints S.s),.deep (rowsQ Q) [(Q.length - 1,sl 9 S.d.length)],.rw (shL 0 1 2 S),.rw [.slice (some ⟨3,0,none⟩) Q.length c],.rw [.int .i64 0],.rw [.int .i64 0],.rw (flL 0 1 2 S (fun i=>bI (rB S i))),.ro (ints q)] 9 i=some (.int .i64 (gi q i)):=ints_get (by omega)
   have hir:=isReached_ev (σ:=[.ro (ints S.d),.ro (pc S.f),.ro (ints S.s),.deep (rowsQ Q) [(Q.length - 1,sl 9 S.d.length)],.rw (shL 0 1 2 S),.rw [.slice (some ⟨3,0,none⟩) Q.length c],.rw [.int .i64 0],.rw [.int .i64 0],.rw (flL 0 1 2 S (fun i=>bI (rB S i))),.ro (ints q)]) (S:=S) (q:=rB S) (r:=fun i=>bI (rB S i)) (n:=i) (p:=8) (x:=0) (y:=1) (z:=2) ⟨.inr (.inl rfl),.inl rfl,.inl rfl,.inl rfl⟩ rfl (by omega) rfl
   have hM:mxB (gi q) (rB S) (i+1)=if rB S i=true then max (mxB (gi q) (rB S) i) (gi q i) else mxB (gi q) (rB S) i:=rfl
   generalize mxB (gi q) (rB S) i=m at *
   cases hb:rB S i with
   |true =>
    rw [hb] at hir
    rw [hb,if_pos rfl] at hM
    repeat' (first|(refine gU ?_;first|(refine gMove ?_;refine st (ok_move rfl) rfl rfl ?_)|(refine gAssign ?_;refine st (ok_assign rfl) rfl rfl ?_)|(refine gLoad ?_;refine st (ok_load rfl (by assumption)) rfl rfl ?_)|(refine gAdd ?_;refine st (ok_inc rfl rfl (by omega)) rfl rfl ?_)|(refine gBin ?_;refine st (ok_bin rfl rfl rfl) rfl rfl ?_)|(refine gIA ?_;refine st (ok_idxN rfl rfl (by omega)) rfl rfl ?_)|(refine gMax ?_;refine st (ok_max rfl rfl) rfl rfl ?_)|(refine gCall ?_;refine st (ok_call rfl rfl rfl (by exact hir)) rfl rfl ?_))|refine W_seq ?_|refine W_region ?_|refine st_nil ?_|refine tq_n ?_|refine bq_n ?_|refine W_skip ?_|refine W_block ?_|refine W_condTA rfl ?_)
    exact ⟨rfl,i+1,by omega,by omega,.same ⟨rfl,rfl,rfl,by rw [hM];rfl,rfl,rfl,rfl,trivial⟩⟩
   |false =>
    rw [hb] at hir
    rw [hb,if_neg (by simp)] at hM
    repeat' (first|(refine gU ?_;first|(refine gMove ?_;refine st (ok_move rfl) rfl rfl ?_)|(refine gAssign ?_;refine st (ok_assign rfl) rfl rfl ?_)|(refine gLoad ?_;refine st (ok_load rfl (by assumption)) rfl rfl ?_)|(refine gAdd ?_;refine st (ok_inc rfl rfl (by omega)) rfl rfl ?_)|(refine gBin ?_;refine st (ok_bin rfl rfl rfl) rfl rfl ?_)|(refine gIA ?_;refine st (ok_idxN rfl rfl (by omega)) rfl rfl ?_)|(refine gCall ?_;refine st (ok_call rfl rfl rfl (by exact hir)) rfl rfl ?_))|refine W_seq ?_|refine W_region ?_|refine st_nil ?_|refine tq_n ?_|refine bq_n ?_|refine W_skip ?_|refine W_block ?_|refine W_condTA rfl ?_|refine W_condFA rfl ?_)
    exact ⟨rfl,i+1,by omega,by omega,.same ⟨rfl,rfl,rfl,by rw [hM];rfl,rfl,rfl,rfl,trivial⟩⟩
  ·obtain rfl:i=S.d.length:=by omega
   repeat' (first|(refine gU ?_;first|(refine gMove ?_;refine st (ok_move rfl) rfl rfl ?_)|(refine gBin ?_;refine st (ok_bin rfl rfl rfl) rfl rfl ?_)|(refine gStore ?_;refine stN (ok_store rfl rfl rfl rfl (by rfl)) rfl ?_))|refine W_seq ?_|refine W_region ?_|refine st_nil ?_|refine tq_n ?_|refine tq_e ?_|refine bq_hit rfl ?_|refine W_exit ?_|refine W_ret ?_|refine W_condFA rfl ?_)
   exact ret0 (.cell1 inferInstance rfl rfl (.cell1 inferInstance rfl rfl .nil)) (.plainD (j:=3) rfl rfl rfl) ⟨rfl,rfl⟩
end Go.Proofs.Ytomioaiojidnbaa
namespace Go.AH.Dust
open Go Go.AH
theorem hc_k5 {n:Nat} (S:Shp) (Q:List (List Int)) (hn:5≤n):HClosed n [.ro (ints S.d),.ro (pc S.f),.ro (ints S.s),.deep (rowsQ Q) [],.rw (shL 0 1 2 S)] :=
 ⟨plainL_closed (ints_plain _),plainL_closed (pc_plain _),plainL_closed (ints_plain _),fun x hx=>by simp at hx,shL_closed (by omega) (by omega) (by omega),trivial⟩
end Go.AH.Dust
namespace Go.Proofs.Ytomioaiojidnbaa
open Go Go.AH
attribute [local irreducible] WOps WCode WFree retQ thenQ blockQ scopeQ OpOk ACall RetRef roundA roundB
set_option maxRecDepth 100000
set_option maxHeartbeats 1000000
open Go.AH.Dust
theorem refTops_ok (S:Shp) (hS:S.fit) (Q:List (List Int)) (c:Nat) (hN:Q.length≤9223372036854775807) (hlQ:∀ i<Q.length,(gq Q i).length≤1000000) :
  Ev Try.prog 29 [shV 0 1 2 S,.slice (some ⟨3,0,none⟩) Q.length c] [.ro (ints S.d),.ro (pc S.f),.ro (ints S.s),.deep (rowsQ Q) []] (.tuple #[.int .i64 (topM S Q),.int .i64 (topE S Q)]) [.ro (ints S.d),.ro (pc S.f),.ro (ints S.s),.deep (rowsQ Q) []]:=by
 have hsh:=refShop_ev (σ:=[.ro (ints S.d),.ro (pc S.f),.ro (ints S.s),.deep (rowsQ Q) [],.rw (shL 0 1 2 S)]) (S:=S) (x:=0) (y:=1) (z:=2) ⟨.inl rfl,.inl rfl,.inl rfl⟩ shS_self hS rfl
 by_cases h0:shopE S=0
 case neg =>
  have he:=topE_shop (Q:=Q) h0
  rw [topM_bad (by rw [he];exact h0),he]
  refine acall_intro 4 180 Try.func29 rfl rfl rfl rfl rfl ?_
  repeat' (first|(refine gU ?_;first|(refine gAssign ?_;refine st (ok_assign rfl) rfl rfl ?_)|(refine gLoad ?_;refine st (ok_loadA rfl (by rfl)) rfl rfl ?_)|(refine gBin ?_;refine st (ok_bin rfl rfl rfl) rfl rfl ?_)|(refine gCall ?_;refine st (ok_call rfl rfl rfl (by exact hsh)) rfl rfl ?_)|(refine gBox ?_;refine st (ok_box rfl) rfl rfl ?_))|refine W_seq ?_|refine W_region ?_|refine st_nil ?_|refine tq_n ?_|refine tq_r ?_|refine W_ret ?_|refine W_condTA rfl ?_)
  exact ret0 (.tmp rfl (.tmp rfl .nil)) (.plain rfl rfl) ⟨rfl,rfl⟩
 rw [h0] at hsh
 have hok:=shopE_zero h0
 have n10:=hok.n10
 have f60:=hok.f60
 by_cases hQ0:(Q.length:Int)<1
 ·have he:=topE_2 (Q:=Q) h0 (.inl (by omega))
  rw [topM_bad (by rw [he];omega),he]
  refine acall_intro 4 180 Try.func29 rfl rfl rfl rfl rfl ?_
  repeat' (first|(refine gU ?_;first|(refine gMove ?_;refine st (ok_move rfl) rfl rfl ?_)|(refine gAssign ?_;refine st (ok_assign rfl) rfl rfl ?_)|(refine gLoad ?_;refine st (ok_loadA rfl (by rfl)) rfl rfl ?_)|(refine gBin ?_;refine st (ok_bin rfl rfl rfl) rfl rfl ?_)|(refine gLen ?_;refine st (ok_len rfl) rfl rfl ?_)|(refine gPick ?_;refine st (ok_pickTA rfl rfl) rfl rfl ?_)|(refine gCall ?_;refine st (ok_call rfl rfl rfl (by exact hsh)) rfl rfl ?_)|(refine gBox ?_;refine st (ok_box rfl) rfl rfl ?_))|(refine gG ?_;refine stSA rfl rfl ?_)|refine W_seq ?_|refine W_region ?_|refine st_nil ?_|refine tq_n ?_|refine tq_r ?_|refine W_skip ?_|refine W_ret ?_|refine W_condTA rfl ?_|refine W_condFA rfl ?_)
  exact ret0 (.tmp rfl (.tmp rfl .nil)) (.plain rfl rfl) ⟨rfl,rfl⟩
 by_cases hQ24:(Q.length:Int) > 24
 ·have he:=topE_2 (Q:=Q) h0 (.inr (by omega))
  rw [topM_bad (by rw [he];omega),he]
  refine acall_intro 4 180 Try.func29 rfl rfl rfl rfl rfl ?_
  repeat' (first|(refine gU ?_;first|(refine gMove ?_;refine st (ok_move rfl) rfl rfl ?_)|(refine gAssign ?_;refine st (ok_assign rfl) rfl rfl ?_)|(refine gLoad ?_;refine st (ok_loadA rfl (by rfl)) rfl rfl ?_)|(refine gBin ?_;refine st (ok_bin rfl rfl rfl) rfl rfl ?_)|(refine gLen ?_;refine st (ok_len rfl) rfl rfl ?_)|(refine gPick ?_;refine st (ok_pickFA rfl rfl) rfl rfl ?_)|(refine gCall ?_;refine st (ok_call rfl rfl rfl (by exact hsh)) rfl rfl ?_)|(refine gBox ?_;refine st (ok_box rfl) rfl rfl ?_))|(refine gG ?_;first|(refine gMove ?_;refine stGA rfl (ok_move rfl) rfl rfl ?_)|(refine gBin ?_;refine stGA rfl (ok_bin rfl rfl rfl) rfl rfl ?_)|(refine gLen ?_;refine stGA rfl (ok_len rfl) rfl rfl ?_))|refine W_seq ?_|refine W_region ?_|refine st_nil ?_|refine tq_n ?_|refine tq_r ?_|refine W_skip ?_|refine W_ret ?_|refine W_condTA rfl ?_|refine W_condFA rfl ?_)
  exact ret0 (.tmp rfl (.tmp rfl .nil)) (.plain rfl rfl) ⟨rfl,rfl⟩
 have hQ2:¬ (Q.length<1∨Q.length > 24):=by omega
 refine acall_intro 4 180 Try.func29 rfl rfl rfl rfl rfl ?_
 repeat' (first|(refine gU ?_;first|(refine gMove ?_;refine st (ok_move rfl) rfl rfl ?_)|(refine gAssign ?_;refine st (ok_assign rfl) rfl rfl ?_)|(refine gLoad ?_;refine st (ok_loadA rfl (by rfl)) rfl rfl ?_)|(refine gBin ?_;refine st (ok_bin rfl rfl rfl) rfl rfl ?_)|(refine gLen ?_;refine st (ok_len rfl) rfl rfl ?_)|(refine gPick ?_;refine st (ok_pickFA rfl rfl) rfl rfl ?_)|(refine gCall ?_;refine st (ok_call rfl rfl rfl (by exact hsh)) rfl rfl ?_)|(refine gBox ?_;refine st (ok_box rfl) rfl rfl ?_))|(refine gG ?_;first|(refine gMove ?_;refine stGA rfl (ok_move rfl) rfl rfl ?_)|(refine gBin ?_;refine stGA rfl (ok_bin rfl rfl rfl) rfl rfl ?_)|(refine gLen ?_;refine stGA rfl (ok_len rfl) rfl rfl ?_))|refine W_seq ?_|refine W_region ?_|refine st_nil ?_|refine tq_n ?_|refine W_skip ?_|refine W_block ?_|refine W_condFA rfl ?_)
 refine W_loopS (ι:=Nat) (fun h=>[(1,.slice (some ⟨3,0,none⟩) Q.length c),(2,.pointer (some ⟨4,0,none⟩)),(6,.int .i64 (h:Int))]) (fun _=>[.ro (ints S.d),.ro (pc S.f),.ro (ints S.s),.deep (rowsQ Q) [],.rw (shL 0 1 2 S)]) (fun h=>Q.length - h) (fun h=>h≤Q.length∧∀ g<h,(gq Q g).length=S.d.length) 0 (by simp) (.same ⟨rfl,rfl,rfl,trivial⟩) ⟨Nat.zero_le _,fun g hg=>absurd hg (Nat.not_lt_zero _)⟩ ?_
 clear hsh
 rintro h ⟨hh,hlen⟩
 by_cases hhl:h<Q.length
 ·refine W_open 3 h rfl (rowsQ_get hhl) (ints_plain _) ?_
  rw [ints_length]
  have hc1:cellGet [.ro (ints S.d),.ro (pc S.f),.ro (ints S.s),.deep (rowsQ Q) [(h,sl 5 (gq Q h).length)],.rw (shL 0 1 2 S),.ro (ints (gq Q h))] 3 h=some (sl 5 (gq Q h).length):=by simp [cellGet,spGet]
  have hlq:=hlQ h hhl
  by_cases hne:((gq Q h).length:Int)=(S.d.length:Int)
  ·have hlen2:∀ g<h+1,(gq Q g).length=S.d.length:=fun g hg=>by
    by_cases hgh:g=h
    ·subst hgh;omega
    ·exact hlen g (by omega)
   generalize gq Q h=q at *
   repeat' (first|(refine gU ?_;first|(refine gMove ?_;refine st (ok_move rfl) rfl rfl ?_)|(refine gAssign ?_;refine st (ok_assign rfl) rfl rfl ?_)|(refine gAdd ?_;refine st (ok_inc rfl rfl (by omega)) rfl rfl ?_)|(refine gBin ?_;refine st (ok_bin rfl rfl rfl) rfl rfl ?_)|(refine gLen ?_;refine st (ok_len rfl) rfl rfl ?_))|(refine fU ?_;first|(refine fMove ?_;refine frA (ok_move rfl) rfl ?_)|(refine fFA ?_;refine frA (ok_fieldAddr rfl) rfl ?_)|(refine fLoad ?_;refine frA (ok_load rfl (by first|rfl|exact hc1)) rfl ?_)|(refine fBin ?_;refine frA (ok_bin rfl rfl rfl) rfl ?_)|(refine fLen ?_;refine frA (ok_len rfl) rfl ?_)|(refine fIA ?_;refine frA (ok_idxN rfl rfl (by omega)) rfl ?_))|(refine fr_stop ⟨by kernel_rfl,?_⟩)|refine W_seq ?_|refine W_region ?_|refine W_regionD (by kernel_rfl) rfl ?_|refine st_nil ?_|refine tq_n ?_|refine bq_n ?_|refine W_skip ?_|refine W_block ?_|refine W_condTA rfl ?_|refine W_condFA rfl ?_)
   exact ⟨rfl,h+1,⟨by omega,hlen2⟩,by omega,.dropD (j:=3) rfl [.ro (ints S.d),.ro (pc S.f),.ro (ints S.s),.deep (rowsQ Q) [],.rw (shL 0 1 2 S)] (by simp) rfl (hc_k5 S Q (Nat.le_refl _)) (by (repeat' (first|exact trivial|exact ⟨rfl,rfl,rfl⟩|exact ⟨rfl,closed_slice rfl,rfl⟩|refine ⟨?_,?_⟩)))⟩
  ·have he:=topE_15 h0 hQ2 ⟨h,hhl,by omega⟩
   rw [topM_bad (by rw [he];omega),he]
   generalize gq Q h=q at *
   repeat' (first|(refine gU ?_;first|(refine gMove ?_;refine st (ok_move rfl) rfl rfl ?_)|(refine gAssign ?_;refine st (ok_assign rfl) rfl rfl ?_)|(refine gBin ?_;refine st (ok_bin rfl rfl rfl) rfl rfl ?_)|(refine gLen ?_;refine st (ok_len rfl) rfl rfl ?_))|(refine fU ?_;first|(refine fMove ?_;refine frA (ok_move rfl) rfl ?_)|(refine fFA ?_;refine frA (ok_fieldAddr rfl) rfl ?_)|(refine fLoad ?_;refine frA (ok_load rfl (by first|rfl|exact hc1)) rfl ?_)|(refine fBin ?_;refine frA (ok_bin rfl rfl rfl) rfl ?_)|(refine fLen ?_;refine frA (ok_len rfl) rfl ?_)|(refine fIA ?_;refine frA (ok_idxN rfl rfl (by omega)) rfl ?_))|(refine fr_stop ⟨by kernel_rfl,?_⟩)|refine W_seq ?_|refine W_region ?_|refine W_regionD (by kernel_rfl) rfl ?_|refine st_nil ?_|refine tq_n ?_|refine tq_r ?_|refine bq_r ?_|refine W_skip ?_|refine W_ret ?_|refine W_block ?_|refine W_condTA rfl ?_)
   exact ret0 (.tmp rfl (.tmp rfl .nil)) (.plainD (j:=3) rfl rfl rfl) ⟨rfl,rfl⟩
 obtain rfl:h=Q.length:=by omega
 have hL1:¬ tLen S Q:=by rintro ⟨g,h1,h2⟩;exact h2 (hlen g h1)
 repeat' (first|(refine gU ?_;first|(refine gMove ?_;refine st (ok_move rfl) rfl rfl ?_)|(refine gAssign ?_;refine st (ok_assign rfl) rfl rfl ?_)|(refine gBin ?_;refine st (ok_bin rfl rfl rfl) rfl rfl ?_)|(refine gLen ?_;refine st (ok_len rfl) rfl rfl ?_))|refine W_seq ?_|refine W_region ?_|refine st_nil ?_|refine tq_n ?_|refine tq_e ?_|refine bq_hit rfl ?_|refine W_exit ?_|refine W_block ?_|refine W_condFA rfl ?_)
 refine W_loopS (ι:=Nat) (fun h=>[(1,.slice (some ⟨3,0,none⟩) Q.length c),(2,.pointer (some ⟨4,0,none⟩)),(7,.int .i64 (h:Int))]) (fun _=>[.ro (ints S.d),.ro (pc S.f),.ro (ints S.s),.deep (rowsQ Q) [],.rw (shL 0 1 2 S)]) (fun h=>Q.length - h) (fun h=>h≤Q.length∧∀ g<h,∀ i<S.d.length,-1≤gi (gq Q g) i∧gi (gq Q g) i≤1000000) 0 (by simp) (.same ⟨rfl,rfl,rfl,trivial⟩) ⟨Nat.zero_le _,fun g hg=>absurd hg (Nat.not_lt_zero _)⟩ ?_
 clear hh hhl
 rintro h ⟨hh,hrng⟩
 by_cases hhl:h<Q.length
 ·have hq:=hlen h hhl
  have hbad:∀ i<S.d.length,(gi (gq Q h) i < -1∨gi (gq Q h) i > 1000000)→topE S Q=3:=fun i hi hb=>topE_3 h0 hQ2 hL1 ⟨h,hhl,i,by rw [hq];exact hi,hb⟩
  have hrng2:(∀ i<S.d.length,-1≤gi (gq Q h) i∧gi (gq Q h) i≤1000000)→∀ g<h+1,∀ i<S.d.length,-1≤gi (gq Q g) i∧gi (gq Q g) i≤1000000:=fun hn g hg=>by
   by_cases hgh:g=h
   ·subst hgh;exact hn
   ·exact hrng g (by omega)
  refine W_open 3 h rfl (rowsQ_get hhl) (ints_plain _) ?_
  rw [ints_length,hq]
  clear hlen hrng hL1 hlQ
  generalize gq Q h=q at *
  refine W_cut [(1,.slice (some ⟨3,0,none⟩) Q.length c),(2,.pointer (some ⟨4,0,none⟩)),(7,.int .i64 (h:Int))] [.ro (ints S.d),.ro (pc S.f),.ro (ints S.s),.deep (rowsQ Q) [(h,sl 5 S.d.length)],.rw (shL 0 1 2 S),.ro (ints q)] rfl ⟨rfl,rfl,rfl,trivial⟩ ?_
  repeat' (first|(refine gU ?_;first|(refine gMove ?_;refine st (ok_move rfl) rfl rfl ?_)|(refine gAssign ?_;refine st (ok_assign rfl) rfl rfl ?_)|(refine gBin ?_;refine st (ok_bin rfl rfl rfl) rfl rfl ?_)|(refine gLen ?_;refine st (ok_len rfl) rfl rfl ?_))|refine W_seq ?_|refine W_region ?_|refine st_nil ?_|refine tq_n ?_|refine W_skip ?_|refine W_block ?_|refine W_condTA rfl ?_)
  refine W_loopS (ι:=Nat) (fun i=>[(1,.slice (some ⟨3,0,none⟩) Q.length c),(2,.pointer (some ⟨4,0,none⟩)),(7,.int .i64 (h:Int)),(8,.int .i64 (i:Int))]) (fun _=>[.ro (ints S.d),.ro (pc S.f),.ro (ints S.s),.deep (rowsQ Q) [(h,sl 5 S.d.length)],.rw (shL 0 1 2 S),.ro (ints q)]) (fun i=>S.d.length - i) (fun i=>i≤S.d.length∧∀ g<i,-1≤gi q g∧gi q g≤1000000) 0 (by simp) (.same ⟨rfl,rfl,rfl,rfl,trivial⟩) ⟨Nat.zero_le _,fun g hg=>absurd hg (Nat.not_lt_zero _)⟩ ?_
  rintro i ⟨hi,hn⟩
  by_cases hil:i<S.d.length
  ·have hc1:cellGet [.ro (ints S.d),.ro (pc S.f),.ro (ints S.s),.deep (rowsQ Q) [(h,sl 5 S.d.length)],.rw (shL 0 1 2 S),.ro (ints q)] 3 h=some (sl 5 S.d.length):=by simp [cellGet,spGet]
   have hc2:cellGet [.ro (ints S.d),.ro (pc S.f),.ro (ints S.s),.deep (rowsQ Q) [(h,sl 5 S.d.length)],.rw (shL 0 1 2 S),.ro (ints q)] 5 i=some (.int .i64 (gi q i)):=ints_get (by omega)
   have hb:=hbad i hil
   have hn2:-1≤gi q i∧gi q i≤1000000→∀ g<i+1,-1≤gi q g∧gi q g≤1000000:=fun hx g hg=>by
    by_cases hgi:g=i
    ·subst hgi;exact hx
    ·exact hn g (by omega)
   clear hbad hrng2
   generalize gi q i=x at *
   by_cases hlo:x < -1
   ·have he:=hb (.inl hlo)
    rw [topM_bad (by rw [he];omega),he]
    repeat' (first|(refine gU ?_;first|(refine gMove ?_;refine st (ok_move rfl) rfl rfl ?_)|(refine gAssign ?_;refine st (ok_assign rfl) rfl rfl ?_)|(refine gFA ?_;refine st (ok_fieldAddr rfl) rfl rfl ?_)|(refine gLoad ?_;refine st (ok_load rfl (by first|rfl|exact hc1|exact hc2)) rfl rfl ?_)|(refine gBin ?_;refine st (ok_bin rfl rfl rfl) rfl rfl ?_)|(refine gLen ?_;refine st (ok_len rfl) rfl rfl ?_)|(refine gPick ?_;refine st (ok_pickTA rfl rfl) rfl rfl ?_)|(refine gIA ?_;refine st (ok_idxN rfl rfl (by omega)) rfl rfl ?_))|(refine gG ?_;refine stSA rfl rfl ?_)|refine W_seq ?_|refine W_region ?_|refine st_nil ?_|refine tq_n ?_|refine tq_r ?_|refine bq_r ?_|refine W_skip ?_|refine W_ret ?_|refine W_block ?_|refine W_condTA rfl ?_)
    exact ret0 (.tmp rfl (.tmp rfl .nil)) (.plainD (j:=3) rfl rfl rfl) ⟨rfl,rfl⟩
   by_cases hhi:x > 1000000
   ·have he:=hb (.inr hhi)
    rw [topM_bad (by rw [he];omega),he]
    repeat' (first|(refine gU ?_;first|(refine gMove ?_;refine st (ok_move rfl) rfl rfl ?_)|(refine gAssign ?_;refine st (ok_assign rfl) rfl rfl ?_)|(refine gFA ?_;refine st (ok_fieldAddr rfl) rfl rfl ?_)|(refine gLoad ?_;refine st (ok_load rfl (by first|rfl|exact hc1|exact hc2)) rfl rfl ?_)|(refine gBin ?_;refine st (ok_bin rfl rfl rfl) rfl rfl ?_)|(refine gLen ?_;refine st (ok_len rfl) rfl rfl ?_)|(refine gPick ?_;refine st (ok_pickFA rfl rfl) rfl rfl ?_)|(refine gIA ?_;refine st (ok_idxN rfl rfl (by omega)) rfl rfl ?_))|(refine gG ?_;first|(refine gMove ?_;refine stGA rfl (ok_move rfl) rfl rfl ?_)|(refine gLoad ?_;refine stGA rfl (ok_load rfl (by first|exact hc1|exact hc2)) rfl rfl ?_)|(refine gBin ?_;refine stGA rfl (ok_bin rfl rfl rfl) rfl rfl ?_)|(refine gIA ?_;refine stGA rfl (ok_idxN rfl rfl (by omega)) rfl rfl ?_))|refine W_seq ?_|refine W_region ?_|refine st_nil ?_|refine tq_n ?_|refine tq_r ?_|refine bq_r ?_|refine W_skip ?_|refine W_ret ?_|refine W_block ?_|refine W_condTA rfl ?_)
    exact ret0 (.tmp rfl (.tmp rfl .nil)) (.plainD (j:=3) rfl rfl rfl) ⟨rfl,rfl⟩
   have hn3:=hn2 (by omega)
   clear hb hn2
   repeat' (first|(refine gU ?_;first|(refine gMove ?_;refine st (ok_move rfl) rfl rfl ?_)|(refine gAssign ?_;refine st (ok_assign rfl) rfl rfl ?_)|(refine gFA ?_;refine st (ok_fieldAddr rfl) rfl rfl ?_)|(refine gLoad ?_;refine st (ok_load rfl (by first|rfl|exact hc1|exact hc2)) rfl rfl ?_)|(refine gAdd ?_;refine st (ok_inc rfl rfl (by omega)) rfl rfl ?_)|(refine gBin ?_;refine st (ok_bin rfl rfl rfl) rfl rfl ?_)|(refine gLen ?_;refine st (ok_len rfl) rfl rfl ?_)|(refine gPick ?_;refine st (ok_pickFA rfl rfl) rfl rfl ?_)|(refine gIA ?_;refine st (ok_idxN rfl rfl (by omega)) rfl rfl ?_))|(refine gG ?_;first|(refine gMove ?_;refine stGA rfl (ok_move rfl) rfl rfl ?_)|(refine gLoad ?_;refine stGA rfl (ok_load rfl (by first|exact hc1|exact hc2)) rfl rfl ?_)|(refine gBin ?_;refine stGA rfl (ok_bin rfl rfl rfl) rfl rfl ?_)|(refine gIA ?_;refine stGA rfl (ok_idxN rfl rfl (by omega)) rfl rfl ?_))|refine W_seq ?_|refine W_region ?_|refine st_nil ?_|refine tq_n ?_|refine bq_n ?_|refine W_skip ?_|refine W_block ?_|refine W_condTA rfl ?_|refine W_condFA rfl ?_)
   exact ⟨rfl,i+1,⟨by omega,hn3⟩,by omega,.same ⟨rfl,rfl,rfl,rfl,trivial⟩⟩
  ·obtain rfl:i=S.d.length:=by omega
   have hrng3:=hrng2 hn
   clear hrng2 hbad
   repeat' (first|(refine gU ?_;first|(refine gMove ?_;refine st (ok_move rfl) rfl rfl ?_)|(refine gAssign ?_;refine st (ok_assign rfl) rfl rfl ?_)|(refine gFA ?_;refine st (ok_fieldAddr rfl) rfl rfl ?_)|(refine gLoad ?_;refine st (ok_load rfl (by rfl)) rfl rfl ?_)|(refine gAdd ?_;refine st (ok_inc rfl rfl (by omega)) rfl rfl ?_)|(refine gBin ?_;refine st (ok_bin rfl rfl rfl) rfl rfl ?_)|(refine gLen ?_;refine st (ok_len rfl) rfl rfl ?_))|refine W_seq ?_|refine W_region ?_|refine st_nil ?_|refine tq_n ?_|refine tq_e ?_|refine bq_n ?_|refine bq_hit rfl ?_|refine W_exit ?_|refine W_condFA rfl ?_)
   exact ⟨rfl,h+1,⟨by omega,hrng3⟩,by omega,.dropD (j:=3) rfl [.ro (ints S.d),.ro (pc S.f),.ro (ints S.s),.deep (rowsQ Q) [],.rw (shL 0 1 2 S)] (by simp) rfl (hc_k5 S Q (Nat.le_refl _)) (by (repeat' (first|exact trivial|exact ⟨rfl,rfl,rfl⟩|exact ⟨rfl,closed_slice rfl,rfl⟩|refine ⟨?_,?_⟩)))⟩
 obtain rfl:h=Q.length:=by omega
 have hR:¬ tRng Q:=by
  rintro ⟨g,h1,i,h2,h3⟩
  have:=hrng g h1 i (by rw [← hlen g h1];exact h2)
  omega
 have h14:tSum S Q→topE S Q=14:=topE_14 h0 hQ2 hL1 hR
 have hE0:¬ tSum S Q→topE S Q=0:=topE_0 h0 hQ2 hL1 hR
 clear hL1 hR hlQ
 repeat' (first|(refine gU ?_;first|(refine gMove ?_;refine st (ok_move rfl) rfl rfl ?_)|(refine gAssign ?_;refine st (ok_assign rfl) rfl rfl ?_)|(refine gBin ?_;refine st (ok_bin rfl rfl rfl) rfl rfl ?_)|(refine gLen ?_;refine st (ok_len rfl) rfl rfl ?_))|refine W_seq ?_|refine W_region ?_|refine st_nil ?_|refine tq_n ?_|refine tq_e ?_|refine bq_hit rfl ?_|refine W_exit ?_|refine W_block ?_|refine W_condFA rfl ?_)
 refine W_loopS (ι:=Nat) (fun i=>[(1,.slice (some ⟨3,0,none⟩) Q.length c),(2,.pointer (some ⟨4,0,none⟩)),(9,.int .i64 (i:Int))]) (fun _=>[.ro (ints S.d),.ro (pc S.f),.ro (ints S.s),.deep (rowsQ Q) [],.rw (shL 0 1 2 S)]) (fun i=>S.d.length - i) (fun i=>i≤S.d.length∧∀ g<i,¬ tLow S Q g) 0 (by simp) (.same ⟨rfl,rfl,rfl,trivial⟩) ⟨Nat.zero_le _,fun g hg=>absurd hg (Nat.not_lt_zero _)⟩ ?_
 clear hh hhl
 rintro i ⟨hi,hlo⟩
 by_cases hil:i<S.d.length
 ·have hq:=hlen 0 (by omega)
  have hlo2:¬ gi (gq Q 0) i<gi S.d i→∀ g<i+1,¬ tLow S Q g:=fun hn g hg=>by
   by_cases hgi:g=i
   ·subst hgi;exact hn
   ·exact hlo g (by omega)
  have hbad:gi (gq Q 0) i<gi S.d i→topE S Q=14:=fun hb=>h14 (.inl ⟨i,hil,hb⟩)
  refine W_open 3 0 rfl (rowsQ_get (show 0<Q.length by omega)) (ints_plain _) ?_
  rw [ints_length,hq]
  clear hlen hrng hlo h14 hE0
  generalize gq Q 0=q at *
  have hd1:cellGet [.ro (ints S.d),.ro (pc S.f),.ro (ints S.s),.deep (rowsQ Q) [(0,sl 5 S.d.length)],.rw (shL 0 1 2 S),.ro (ints q)] 0 i=some (.int .i64 (gi S.d i)):=ints_get hil
  have hc2:cellGet [.ro (ints S.d),.ro (pc S.f),.ro (ints S.s),.deep (rowsQ Q) [(0,sl 5 S.d.length)],.rw (shL 0 1 2 S),.ro (ints q)] 5 i=some (.int .i64 (gi q i)):=ints_get (by omega)
  by_cases hb:gi q i<gi S.d i
  ·have he:=hbad hb
   rw [topM_bad (by rw [he];omega),he]
   clear hbad hlo2
   generalize gi q i=x at *
   generalize gi S.d i=y at *
   repeat' (first|(refine gU ?_;first|(refine gMove ?_;refine st (ok_move rfl) rfl rfl ?_)|(refine gAssign ?_;refine st (ok_assign rfl) rfl rfl ?_)|(refine gFA ?_;refine st (ok_fieldAddr rfl) rfl rfl ?_)|(refine gLoad ?_;refine st (ok_load rfl (by rfl)) rfl rfl ?_)|(refine gBin ?_;refine st (ok_bin rfl rfl rfl) rfl rfl ?_)|(refine gLen ?_;refine st (ok_len rfl) rfl rfl ?_))|(refine fU ?_;first|(refine fMove ?_;refine frA (ok_move rfl) rfl ?_)|(refine fFA ?_;refine frA (ok_fieldAddr rfl) rfl ?_)|(refine fLoad ?_;refine frA (ok_load rfl (by first|rfl|exact hd1|exact hc2)) rfl ?_)|(refine fBin ?_;refine frA (ok_bin rfl rfl rfl) rfl ?_)|(refine fIA ?_;first|refine frA (ok_idxN rfl rfl (by omega)) rfl ?_|refine frA (ok_idx rfl rfl (by omega) (by omega)) rfl ?_))|(refine fr_stop ⟨by kernel_rfl,?_⟩)|refine W_seq ?_|refine W_region ?_|refine W_regionD (by kernel_rfl) rfl ?_|refine st_nil ?_|refine tq_n ?_|refine tq_r ?_|refine bq_r ?_|refine W_skip ?_|refine W_ret ?_|refine W_block ?_|refine W_condTA rfl ?_)
   exact ret0 (.tmp rfl (.tmp rfl .nil)) (.plainD (j:=3) rfl rfl rfl) ⟨rfl,rfl⟩
  ·have hlo3:=hlo2 hb
   clear hbad hlo2
   generalize gi q i=x at *
   generalize gi S.d i=y at *
   repeat' (first|(refine gU ?_;first|(refine gMove ?_;refine st (ok_move rfl) rfl rfl ?_)|(refine gAssign ?_;refine st (ok_assign rfl) rfl rfl ?_)|(refine gFA ?_;refine st (ok_fieldAddr rfl) rfl rfl ?_)|(refine gLoad ?_;refine st (ok_load rfl (by rfl)) rfl rfl ?_)|(refine gAdd ?_;refine st (ok_inc rfl rfl (by omega)) rfl rfl ?_)|(refine gBin ?_;refine st (ok_bin rfl rfl rfl) rfl rfl ?_)|(refine gLen ?_;refine st (ok_len rfl) rfl rfl ?_))|(refine fU ?_;first|(refine fMove ?_;refine frA (ok_move rfl) rfl ?_)|(refine fFA ?_;refine frA (ok_fieldAddr rfl) rfl ?_)|(refine fLoad ?_;refine frA (ok_load rfl (by first|rfl|exact hd1|exact hc2)) rfl ?_)|(refine fBin ?_;refine frA (ok_bin rfl rfl rfl) rfl ?_)|(refine fIA ?_;first|refine frA (ok_idxN rfl rfl (by omega)) rfl ?_|refine frA (ok_idx rfl rfl (by omega) (by omega)) rfl ?_))|(refine fr_stop ⟨by kernel_rfl,?_⟩)|refine W_seq ?_|refine W_region ?_|refine W_regionD (by kernel_rfl) rfl ?_|refine st_nil ?_|refine tq_n ?_|refine bq_n ?_|refine W_skip ?_|refine W_block ?_|refine W_condTA rfl ?_|refine W_condFA rfl ?_)
   exact ⟨rfl,i+1,⟨by omega,hlo3⟩,by omega,.dropD (j:=3) rfl [.ro (ints S.d),.ro (pc S.f),.ro (ints S.s),.deep (rowsQ Q) [],.rw (shL 0 1 2 S)] (by simp) rfl (hc_k5 S Q (Nat.le_refl _)) (by (repeat' (first|exact trivial|exact ⟨rfl,rfl,rfl⟩|exact ⟨rfl,closed_slice rfl,rfl⟩|refine ⟨?_,?_⟩)))⟩
 obtain rfl:i=S.d.length:=by omega
 repeat' (first|(refine gU ?_;first|(refine gMove ?_;refine st (ok_move rfl) rfl rfl ?_)|(refine gAssign ?_;refine st (ok_assign rfl) rfl rfl ?_)|(refine gFA ?_;refine st (ok_fieldAddr rfl) rfl rfl ?_)|(refine gLoad ?_;refine st (ok_load rfl (by rfl)) rfl rfl ?_)|(refine gBin ?_;refine st (ok_bin rfl rfl rfl) rfl rfl ?_)|(refine gLen ?_;refine st (ok_len rfl) rfl rfl ?_))|refine W_seq ?_|refine W_region ?_|refine st_nil ?_|refine tq_n ?_|refine tq_e ?_|refine bq_hit rfl ?_|refine W_exit ?_|refine W_block ?_|refine W_condFA rfl ?_)
 refine W_loopS (ι:=Nat) (fun h=>[(1,.slice (some ⟨3,0,none⟩) Q.length c),(2,.pointer (some ⟨4,0,none⟩)),(10,.int .i64 ((h+1:Nat):Int))]) (fun _=>[.ro (ints S.d),.ro (pc S.f),.ro (ints S.s),.deep (rowsQ Q) [],.rw (shL 0 1 2 S)]) (fun h=>Q.length - h) (fun h=>h+1≤Q.length∧∀ g,1≤g→g<h+1→∀ k,k<S.f.length→¬ tStep S Q g k) 0 (by simp) (.same ⟨rfl,rfl,rfl,trivial⟩) ⟨by omega,fun g h1 h2=>absurd h1 (by omega)⟩ ?_
 clear hi hil
 rintro h ⟨hh,hst⟩
 by_cases hhl:h+1<Q.length
 ·have hp:=hlen h (by omega)
  have hq:=hlen (h+1) hhl
  have hrp:=hrng h (by omega)
  have hrq:=hrng (h+1) hhl
  have hbad:∀ k<S.f.length,0≤gi (gq Q h) (gf S.f k).2.toNat→gi (gq Q (h+1)) (gf S.f k).1.toNat<gi S.d (gf S.f k).1.toNat+gi (gq Q h) (gf S.f k).2.toNat→topE S Q=14:=fun k hk h1 h2=>h14 (.inr ⟨h+1,by omega,hhl,k,hk,h1,h2⟩)
  have hst2:(∀ k<S.f.length,¬ (0≤gi (gq Q h) (gf S.f k).2.toNat∧gi (gq Q (h+1)) (gf S.f k).1.toNat<gi S.d (gf S.f k).1.toNat+gi (gq Q h) (gf S.f k).2.toNat))→∀ g,1≤g→g<h+1+1→∀ k,k<S.f.length→¬ tStep S Q g k:=fun hn g g1 g2 k hk=>by
   by_cases hgh:g=h+1
   ·subst hgh;exact hn k hk
   ·exact hst g g1 (by omega) k hk
  refine W_open 3 h rfl (rowsQ_get (show h<Q.length by omega)) (ints_plain _) ?_
  refine W_open 3 (h+1) rfl (rowsQ_get hhl) (ints_plain _) ?_
  rw [ints_length,ints_length,hq,hp]
  clear hlen hrng hlo h14 hE0 hst
  generalize gq Q (h+1)=q at *
  generalize gq Q h=p at *
  refine W_cut [(1,.slice (some ⟨3,0,none⟩) Q.length c),(2,.pointer (some ⟨4,0,none⟩)),(10,.int .i64 ((h+1:Nat):Int))] [.ro (ints S.d),.ro (pc S.f),.ro (ints S.s),.deep (rowsQ Q) [(h+1,sl 6 S.d.length),(h,sl 5 S.d.length)],.rw (shL 0 1 2 S),.ro (ints p),.ro (ints q)] rfl ⟨rfl,rfl,rfl,trivial⟩ ?_
  repeat' (first|(refine gU ?_;first|(refine gMove ?_;refine st (ok_move rfl) rfl rfl ?_)|(refine gAssign ?_;refine st (ok_assign rfl) rfl rfl ?_)|(refine gBin ?_;refine st (ok_bin rfl rfl rfl) rfl rfl ?_)|(refine gLen ?_;refine st (ok_len rfl) rfl rfl ?_))|refine W_seq ?_|refine W_region ?_|refine st_nil ?_|refine tq_n ?_|refine W_skip ?_|refine W_block ?_|refine W_condTA rfl ?_)
  refine W_loopS (ι:=Nat) (fun k=>[(1,.slice (some ⟨3,0,none⟩) Q.length c),(2,.pointer (some ⟨4,0,none⟩)),(10,.int .i64 ((h+1:Nat):Int)),(11,.int .i64 (k:Int))]) (fun _=>[.ro (ints S.d),.ro (pc S.f),.ro (ints S.s),.deep (rowsQ Q) [(h+1,sl 6 S.d.length),(h,sl 5 S.d.length)],.rw (shL 0 1 2 S),.ro (ints p),.ro (ints q)]) (fun k=>S.f.length - k) (fun k=>k≤S.f.length∧∀ g<k,¬ (0≤gi p (gf S.f g).2.toNat∧gi q (gf S.f g).1.toNat<gi S.d (gf S.f g).1.toNat+gi p (gf S.f g).2.toNat)) 0 (by simp) (.same ⟨rfl,rfl,rfl,rfl,trivial⟩) ⟨Nat.zero_le _,fun g hg=>absurd hg (Nat.not_lt_zero _)⟩ ?_
  rintro k ⟨hk,hn⟩
  by_cases hkl:k<S.f.length
  ·have hg1:cellGet [.ro (ints S.d),.ro (pc S.f),.ro (ints S.s),.deep (rowsQ Q) [(h+1,sl 6 S.d.length),(h,sl 5 S.d.length)],.rw (shL 0 1 2 S),.ro (ints p),.ro (ints q)] 1 (0+k*2+0*1)=some (.int .i64 (gf S.f k).1):=pc_get0 (.inl rfl) hkl
   have hg2:cellGet [.ro (ints S.d),.ro (pc S.f),.ro (ints S.s),.deep (rowsQ Q) [(h+1,sl 6 S.d.length),(h,sl 5 S.d.length)],.rw (shL 0 1 2 S),.ro (ints p),.ro (ints q)] 1 (0+k*2+1*1)=some (.int .i64 (gf S.f k).2):=pc_get1 (.inl rfl) hkl
   obtain ⟨hw1,hw2,-⟩:=hok.f k hkl
   have hb:=hbad k hkl
   have hn2:¬ (0≤gi p (gf S.f k).2.toNat∧gi q (gf S.f k).1.toNat<gi S.d (gf S.f k).1.toNat+gi p (gf S.f k).2.toNat)→∀ g<k+1,¬ (0≤gi p (gf S.f g).2.toNat∧gi q (gf S.f g).1.toNat<gi S.d (gf S.f g).1.toNat+gi p (gf S.f g).2.toNat):=fun hx g hg=>by
    by_cases hgk:g=k
    ·subst hgk;exact hx
    ·exact hn g (by omega)
   clear hbad hst2 hn
   generalize gf S.f k=w at *
   obtain ⟨a,b⟩:=w
   simp only at hw1 hw2 hg1 hg2 hb hn2
   obtain ⟨x,rfl⟩:∃ x:Nat,a=(x:Int):=⟨a.toNat,by have:=hw1.1;omega⟩
   obtain ⟨y,rfl⟩:∃ y:Nat,b=(y:Int):=⟨b.toNat,by have:=hw2.1;omega⟩
   have hxd:x<S.d.length:=by have:=hw1.2;omega
   have hyd:y<S.d.length:=by have:=hw2.2;omega
   simp only [Int.toNat_natCast] at hb hn2
   have hc1:cellGet [.ro (ints S.d),.ro (pc S.f),.ro (ints S.s),.deep (rowsQ Q) [(h+1,sl 6 S.d.length),(h,sl 5 S.d.length)],.rw (shL 0 1 2 S),.ro (ints p),.ro (ints q)] 3 (h+1)=some (sl 6 S.d.length):=by simp [cellGet,spGet]
   have hc2:cellGet [.ro (ints S.d),.ro (pc S.f),.ro (ints S.s),.deep (rowsQ Q) [(h+1,sl 6 S.d.length),(h,sl 5 S.d.length)],.rw (shL 0 1 2 S),.ro (ints p),.ro (ints q)] 3 (0+(((h+1:Nat):Int) - 1).toNat*1)=some (sl 5 S.d.length):=by
    have hne:Nat.beq (h+1) h=false:=beq_ne (by omega)
    rw [show 0+(((h+1:Nat):Int) - 1).toNat*1=h by omega]
    simp [cellGet,spGet,hne]
   have hc3:cellGet [.ro (ints S.d),.ro (pc S.f),.ro (ints S.s),.deep (rowsQ Q) [(h+1,sl 6 S.d.length),(h,sl 5 S.d.length)],.rw (shL 0 1 2 S),.ro (ints p),.ro (ints q)] 5 y=some (.int .i64 (gi p y)):=ints_get (by omega)
   have hc4:cellGet [.ro (ints S.d),.ro (pc S.f),.ro (ints S.s),.deep (rowsQ Q) [(h+1,sl 6 S.d.length),(h,sl 5 S.d.length)],.rw (shL 0 1 2 S),.ro (ints p),.ro (ints q)] 6 x=some (.int .i64 (gi q x)):=ints_get (by omega)
   have hc5:cellGet [.ro (ints S.d),.ro (pc S.f),.ro (ints S.s),.deep (rowsQ Q) [(h+1,sl 6 S.d.length),(h,sl 5 S.d.length)],.rw (shL 0 1 2 S),.ro (ints p),.ro (ints q)] 0 x=some (.int .i64 (gi S.d x)):=ints_get hxd
   have b1:=hrp y hyd
   have b2:=hrq x hxd
   have b3:=hok.d x hxd
   have hhI:((h+1:Nat):Int)<(Q.length:Int):=by omega
   generalize gi p y=u at *
   generalize gi q x=v at *
   generalize gi S.d x=z at *
   by_cases hu:u≥0
   ·by_cases hv:v<z+u
    ·have he:=hb hu hv
     rw [topM_bad (by rw [he];omega),he]
     clear hb hn2
     repeat' (first|(refine gU ?_;first|(refine gMove ?_;refine st (ok_move rfl) rfl rfl ?_)|(refine gAssign ?_;refine st (ok_assign rfl) rfl rfl ?_)|(refine gFA ?_;refine st (ok_fieldAddr rfl) rfl rfl ?_)|(refine gLoad ?_;refine st (ok_load rfl (by rfl)) rfl rfl ?_)|(refine gBin ?_;refine st (ok_bin rfl rfl rfl) rfl rfl ?_)|(refine gLen ?_;refine st (ok_len rfl) rfl rfl ?_))|(refine fU ?_;first|(refine fMove ?_;refine frA (ok_move rfl) rfl ?_)|(refine fAssign ?_;refine frA (ok_assign rfl) rfl ?_)|(refine fFA ?_;refine frA (ok_fieldAddr rfl) rfl ?_)|(refine fLoad ?_;refine frA (ok_load rfl (by first|rfl|exact hg1|exact hg2|exact hc2|exact hc3)) rfl ?_)|(refine fSub ?_;refine frA (ok_sub rfl rfl (by omega) (by omega)) rfl ?_)|(refine fBin ?_;refine frA (ok_bin rfl rfl rfl) rfl ?_)|(refine fPick ?_;refine frA (ok_pickTA rfl rfl) rfl ?_)|(refine fIA ?_;first|refine frA (ok_idxN rfl rfl (by omega)) rfl ?_|refine frA (ok_idxSN rfl rfl (by omega)) rfl ?_|refine frA (ok_idx rfl rfl (by omega) (by omega)) rfl ?_|refine frA (ok_idxA rfl rfl (by omega) (by omega)) rfl ?_))|(refine fG ?_;first|(refine fMove ?_;refine frGA rfl (ok_move rfl) rfl ?_)|(refine fFA ?_;refine frGA rfl (ok_fieldAddr rfl) rfl ?_)|(refine fLoad ?_;refine frGA rfl (ok_load rfl (by first|rfl|exact hc1|exact hc2|exact hc3|exact hc4|exact hc5)) rfl ?_)|(refine fAdd ?_;refine frGA rfl (ok_add rfl rfl (by omega) (by omega)) rfl ?_)|(refine fSub ?_;refine frGA rfl (ok_sub rfl rfl (by omega) (by omega)) rfl ?_)|(refine fBin ?_;refine frGA rfl (ok_bin rfl rfl rfl) rfl ?_)|(refine fIA ?_;first|refine frGA rfl (ok_idxN rfl rfl (by omega)) rfl ?_|refine frGA rfl (ok_idx rfl rfl (by omega) (by omega)) rfl ?_))|(refine fr_stop ⟨by kernel_rfl,?_⟩)|refine W_seq ?_|refine W_region ?_|refine W_regionD (by kernel_rfl) rfl ?_|refine st_nil ?_|refine tq_n ?_|refine tq_r ?_|refine bq_r ?_|refine W_skip ?_|refine W_ret ?_|refine W_block ?_|refine W_condTA rfl ?_)
     exact ret0 (.tmp rfl (.tmp rfl .nil)) (.plainD (j:=3) rfl rfl rfl) ⟨rfl,rfl⟩
    ·have hn3:=hn2 (fun hx=>hv hx.2)
     clear hb hn2
     repeat' (first|(refine gU ?_;first|(refine gMove ?_;refine st (ok_move rfl) rfl rfl ?_)|(refine gAssign ?_;refine st (ok_assign rfl) rfl rfl ?_)|(refine gFA ?_;refine st (ok_fieldAddr rfl) rfl rfl ?_)|(refine gLoad ?_;refine st (ok_load rfl (by rfl)) rfl rfl ?_)|(refine gAdd ?_;refine st (ok_inc rfl rfl (by omega)) rfl rfl ?_)|(refine gBin ?_;refine st (ok_bin rfl rfl rfl) rfl rfl ?_)|(refine gLen ?_;refine st (ok_len rfl) rfl rfl ?_))|(refine fU ?_;first|(refine fMove ?_;refine frA (ok_move rfl) rfl ?_)|(refine fAssign ?_;refine frA (ok_assign rfl) rfl ?_)|(refine fFA ?_;refine frA (ok_fieldAddr rfl) rfl ?_)|(refine fLoad ?_;refine frA (ok_load rfl (by first|rfl|exact hg1|exact hg2|exact hc2|exact hc3)) rfl ?_)|(refine fSub ?_;refine frA (ok_sub rfl rfl (by omega) (by omega)) rfl ?_)|(refine fBin ?_;refine frA (ok_bin rfl rfl rfl) rfl ?_)|(refine fPick ?_;refine frA (ok_pickTA rfl rfl) rfl ?_)|(refine fIA ?_;first|refine frA (ok_idxN rfl rfl (by omega)) rfl ?_|refine frA (ok_idxSN rfl rfl (by omega)) rfl ?_|refine frA (ok_idx rfl rfl (by omega) (by omega)) rfl ?_|refine frA (ok_idxA rfl rfl (by omega) (by omega)) rfl ?_))|(refine fG ?_;first|(refine fMove ?_;refine frGA rfl (ok_move rfl) rfl ?_)|(refine fFA ?_;refine frGA rfl (ok_fieldAddr rfl) rfl ?_)|(refine fLoad ?_;refine frGA rfl (ok_load rfl (by first|rfl|exact hc1|exact hc2|exact hc3|exact hc4|exact hc5)) rfl ?_)|(refine fAdd ?_;refine frGA rfl (ok_add rfl rfl (by omega) (by omega)) rfl ?_)|(refine fSub ?_;refine frGA rfl (ok_sub rfl rfl (by omega) (by omega)) rfl ?_)|(refine fBin ?_;refine frGA rfl (ok_bin rfl rfl rfl) rfl ?_)|(refine fIA ?_;first|refine frGA rfl (ok_idxN rfl rfl (by omega)) rfl ?_|refine frGA rfl (ok_idx rfl rfl (by omega) (by omega)) rfl ?_))|(refine fr_stop ⟨by kernel_rfl,?_⟩)|refine W_seq ?_|refine W_region ?_|refine W_regionD (by kernel_rfl) rfl ?_|refine st_nil ?_|refine tq_n ?_|refine bq_n ?_|refine W_skip ?_|refine W_block ?_|refine W_condTA rfl ?_|refine W_condFA rfl ?_)
     exact ⟨rfl,k+1,⟨by omega,hn3⟩,by omega,.same ⟨rfl,rfl,rfl,rfl,trivial⟩⟩
   ·have hn3:=hn2 (fun hx=>hu hx.1)
    clear hb hn2
    repeat' (first|(refine gU ?_;first|(refine gMove ?_;refine st (ok_move rfl) rfl rfl ?_)|(refine gAssign ?_;refine st (ok_assign rfl) rfl rfl ?_)|(refine gFA ?_;refine st (ok_fieldAddr rfl) rfl rfl ?_)|(refine gLoad ?_;refine st (ok_load rfl (by rfl)) rfl rfl ?_)|(refine gAdd ?_;refine st (ok_inc rfl rfl (by omega)) rfl rfl ?_)|(refine gBin ?_;refine st (ok_bin rfl rfl rfl) rfl rfl ?_)|(refine gLen ?_;refine st (ok_len rfl) rfl rfl ?_))|(refine fU ?_;first|(refine fMove ?_;refine frA (ok_move rfl) rfl ?_)|(refine fAssign ?_;refine frA (ok_assign rfl) rfl ?_)|(refine fFA ?_;refine frA (ok_fieldAddr rfl) rfl ?_)|(refine fLoad ?_;refine frA (ok_load rfl (by first|rfl|exact hg1|exact hg2|exact hc2|exact hc3)) rfl ?_)|(refine fSub ?_;refine frA (ok_sub rfl rfl (by omega) (by omega)) rfl ?_)|(refine fBin ?_;refine frA (ok_bin rfl rfl rfl) rfl ?_)|(refine fPick ?_;refine frA (ok_pickFA rfl rfl) rfl ?_)|(refine fIA ?_;first|refine frA (ok_idxN rfl rfl (by omega)) rfl ?_|refine frA (ok_idxSN rfl rfl (by omega)) rfl ?_|refine frA (ok_idx rfl rfl (by omega) (by omega)) rfl ?_|refine frA (ok_idxA rfl rfl (by omega) (by omega)) rfl ?_))|(refine fG ?_;refine frSA rfl rfl ?_)|(refine fr_stop ⟨by kernel_rfl,?_⟩)|refine W_seq ?_|refine W_region ?_|refine W_regionD (by kernel_rfl) rfl ?_|refine st_nil ?_|refine tq_n ?_|refine bq_n ?_|refine W_skip ?_|refine W_block ?_|refine W_condTA rfl ?_|refine W_condFA rfl ?_)
    exact ⟨rfl,k+1,⟨by omega,hn3⟩,by omega,.same ⟨rfl,rfl,rfl,rfl,trivial⟩⟩
  ·obtain rfl:k=S.f.length:=by omega
   have hst3:=hst2 hn
   clear hst2 hbad
   repeat' (first|(refine gU ?_;first|(refine gMove ?_;refine st (ok_move rfl) rfl rfl ?_)|(refine gAssign ?_;refine st (ok_assign rfl) rfl rfl ?_)|(refine gFA ?_;refine st (ok_fieldAddr rfl) rfl rfl ?_)|(refine gLoad ?_;refine st (ok_load rfl (by rfl)) rfl rfl ?_)|(refine gAdd ?_;refine st (ok_inc rfl rfl (by omega)) rfl rfl ?_)|(refine gBin ?_;refine st (ok_bin rfl rfl rfl) rfl rfl ?_)|(refine gLen ?_;refine st (ok_len rfl) rfl rfl ?_))|refine W_seq ?_|refine W_region ?_|refine st_nil ?_|refine tq_n ?_|refine tq_e ?_|refine bq_n ?_|refine bq_hit rfl ?_|refine W_exit ?_|refine W_condFA rfl ?_)
   exact ⟨rfl,h+1,⟨by omega,hst3⟩,by omega,.dropD (j:=3) rfl [.ro (ints S.d),.ro (pc S.f),.ro (ints S.s),.deep (rowsQ Q) [],.rw (shL 0 1 2 S)] (by simp) rfl (hc_k5 S Q (Nat.le_refl _)) (by (repeat' (first|exact trivial|exact ⟨rfl,rfl,rfl⟩|exact ⟨rfl,closed_slice rfl,rfl⟩|refine ⟨?_,?_⟩)))⟩
 have hns:¬ tSum S Q:=by
  rintro (⟨i,h1,h2⟩|⟨g,h1,h2,k,h3,h4⟩)
  ·exact hlo i h1 h2
  ·exact hst g h1 (by omega) k h3 h4
 have he:=hE0 hns
 rw [topM_0 he,he,← mxL_reach h0]
 have hq:=hlen (Q.length - 1) (by omega)
 have hrq:=hrng (Q.length - 1) (by omega)
 have hre:=refReached_ev (σ:=[.ro (ints S.d),.ro (pc S.f),.ro (ints S.s),.deep (rowsQ Q) [],.rw (shL 0 1 2 S)]) (S:=S) (x:=0) (y:=1) (z:=2) ⟨.inl rfl,.inl rfl,.inl rfl⟩ shS_self hS rfl
 clear h14 hE0 hlen hrng hst hlo
 have hhI:¬ ((h+1:Nat):Int)<(Q.length:Int):=by omega
 repeat' (first|(refine gU ?_;first|(refine gMove ?_;refine st (ok_move rfl) rfl rfl ?_)|(refine gAssign ?_;refine st (ok_assign rfl) rfl rfl ?_)|(refine gLoad ?_;refine st (ok_loadA rfl (by rfl)) rfl rfl ?_)|(refine gBin ?_;refine st (ok_bin rfl rfl rfl) rfl rfl ?_)|(refine gLen ?_;refine st (ok_len rfl) rfl rfl ?_)|(refine gExtract ?_;refine st (ok_extract rfl rfl) rfl rfl ?_)|(refine gCall ?_;refine st (ok_call rfl rfl rfl (by exact hre)) rfl rfl ?_))|refine W_seq ?_|refine W_region ?_|refine st_nil ?_|refine tq_n ?_|refine tq_e ?_|refine bq_hit rfl ?_|refine W_exit ?_|refine W_block ?_|refine W_condFA rfl ?_)
 refine W_open 3 (Q.length - 1) rfl (rowsQ_get (show Q.length - 1<Q.length by omega)) (ints_plain _) ?_
 rw [ints_length,hq]
 generalize gq Q (Q.length - 1)=q at *
 have hrl:=reachL_le (S:=S)
 refine W_loopS (ι:=Nat) (fun i=>[(1,.slice (some ⟨3,0,none⟩) Q.length c),(14,sl 5 (reachL S).length),(16,.int .i64 (mxL (gi q) (reachL S) i)),(17,.int .i64 (i:Int))]) (fun _=>[.ro (ints S.d),.ro (pc S.f),.ro (ints S.s),.deep (rowsQ Q) [(Q.length - 1,sl 6 S.d.length)],.rw (shL 0 1 2 S),.rw (ints (reachL S)),.ro (ints q)]) (fun i=>(reachL S).length - i) (fun i=>i≤(reachL S).length) 0 (by simp) (.same ⟨rfl,rfl,rfl,rfl,trivial⟩) (Nat.zero_le _) ?_
 intro i hi
 by_cases hil:i<(reachL S).length
 ·obtain ⟨n,e1,e2,_⟩:=reachL_at h0 hil
  have hc1:cellGet [.ro (ints S.d),.ro (pc S.f),.ro (ints S.s),.deep (rowsQ Q) [(Q.length - 1,sl 6 S.d.length)],.rw (shL 0 1 2 S),.rw (ints (reachL S)),.ro (ints q)] 5 i=some (.int .i64 (n:Int)):=by rw [← e1];exact ints_get hil
  have hc2:cellGet [.ro (ints S.d),.ro (pc S.f),.ro (ints S.s),.deep (rowsQ Q) [(Q.length - 1,sl 6 S.d.length)],.rw (shL 0 1 2 S),.rw (ints (reachL S)),.ro (ints q)] 3 (0+((Q.length:Int) - 1).toNat*1)=some (sl 6 S.d.length):=by
   rw [show 0+((Q.length:Int) - 1).toNat*1=Q.length - 1 by omega]
   simp [cellGet,spGet]
  have hc3:cellGet [.ro (ints S.d),.ro (pc S.f),.ro (ints S.s),.deep (rowsQ Q) [(Q.length - 1,sl 6 S.d.length)],.rw (shL 0 1 2 S),.rw (ints (reachL S)),.ro (ints q)] 6 n=some (.int .i64 (gi q n)):=ints_get (by omega)
  have hM:mxL (gi q) (reachL S) (i+1)=max (mxL (gi q) (reachL S) i) (gi q n):=by simp only [mxL];rw [e1];simp
  generalize mxL (gi q) (reachL S) i=m at *
  repeat' (first|(refine gU ?_;first|(refine gMove ?_;refine st (ok_move rfl) rfl rfl ?_)|(refine gAssign ?_;refine st (ok_assign rfl) rfl rfl ?_)|(refine gAdd ?_;refine st (ok_inc rfl rfl (by omega)) rfl rfl ?_)|(refine gBin ?_;refine st (ok_bin rfl rfl rfl) rfl rfl ?_)|(refine gLen ?_;refine st (ok_len rfl) rfl rfl ?_))|(refine fU ?_;first|(refine fMove ?_;refine frA (ok_move rfl) rfl ?_)|(refine fAssign ?_;refine frA (ok_assign rfl) rfl ?_)|(refine fLoad ?_;refine frA (ok_load rfl (by first|exact hc1|exact hc2|exact hc3)) rfl ?_)|(refine fSub ?_;refine frA (ok_sub rfl rfl (by omega) (by omega)) rfl ?_)|(refine fLen ?_;refine frA (ok_len rfl) rfl ?_)|(refine fIA ?_;first|refine frA (ok_idxN rfl rfl (by omega)) rfl ?_|refine frA (ok_idx rfl rfl (by omega) (by omega)) rfl ?_)|(refine fMax ?_;refine frA (ok_max rfl rfl) rfl ?_))|(refine fr_stop ⟨by kernel_rfl,?_⟩)|refine W_seq ?_|refine W_region ?_|refine W_regionD (by kernel_rfl) rfl ?_|refine st_nil ?_|refine tq_n ?_|refine bq_n ?_|refine W_skip ?_|refine W_block ?_|refine W_condTA rfl ?_)
  exact ⟨rfl,i+1,by omega,by omega,.same ⟨rfl,rfl,by rw [hM];rfl,rfl,trivial⟩⟩
 ·obtain rfl:i=(reachL S).length:=by omega
  repeat' (first|(refine gU ?_;first|(refine gMove ?_;refine st (ok_move rfl) rfl rfl ?_)|(refine gAssign ?_;refine st (ok_assign rfl) rfl rfl ?_)|(refine gBin ?_;refine st (ok_bin rfl rfl rfl) rfl rfl ?_)|(refine gLen ?_;refine st (ok_len rfl) rfl rfl ?_))|refine W_seq ?_|refine W_region ?_|refine st_nil ?_|refine tq_n ?_|refine tq_e ?_|refine bq_hit rfl ?_|refine W_exit ?_|refine W_ret ?_|refine W_condFA rfl ?_)
  exact ret0 (.tmp rfl (.tmp rfl .nil)) (.plainD (j:=3) rfl rfl rfl) ⟨rfl,rfl⟩
end Go.Proofs.Ytomioaiojidnbaa
namespace Go.AH.Dust
open Go Go.AH
noncomputable def topR (S:Shp) (j:Nat):List Int:=(List.range S.d.length).map (rowM S j)
theorem topR_len {S:Shp} {j:Nat}:(topR S j).length=S.d.length:=by simp [topR]
theorem topR_gi {S:Shp} {j i:Nat} (h:i<S.d.length):gi (topR S j) i=most S j i:=by
 have e:gi (topR S j) i=rowM S j i:=by simp [topR,gi,h]
 rw [e];unfold rowM;rw [if_pos h]
theorem topR_rx {S:Shp} {j:Nat} (h:S.d.length≤10):(rx (rowM S j)).take S.d.length=ints (topR S j):=by
 have e:rx (rowM S j)=ints ((List.range 10).map (rowM S j)):=rfl
 rw [e]
 simp only [ints,topR,← List.map_take]
 rw [List.take_range,Nat.min_eq_left h]
theorem put_rx {σ:Heap} {cs:List Value} {f:Nat→Int} (h:cs.length=10):putCells (σ++[.rw cs]) σ.length 0 (rx f)=some (σ++[.rw (rx f)]):=by
 rw [put_last (by rw [h];exact Nat.le_refl 10) (by omega)]
 simp [splice,rx,h]
theorem len1 {σ:Heap} {o:AObj}:(σ++[o]).length=σ.length+1:=by simp
theorem round_at {σ:Heap} {A B C o:AObj} {g i:Nat} (hi:i < σ.length) (hg:i ≠ g):((σ++[A]++[B]++[C]).set g .dead++[o])[i]?=σ[i]?:=by
 rw [List.getElem?_append_left (by simp;omega),List.getElem?_set_ne (by omega),List.append_assoc,List.append_assoc,List.getElem?_append_left hi]
theorem round_new {σ:Heap} {A B C o:AObj} {g:Nat} (hg:g < σ.length):((σ++[A]++[B]++[C]).set g .dead++[o])[σ.length+1]?=some B:=by
 rw [List.getElem?_append_left (by simp),List.getElem?_set_ne (by omega),List.append_assoc,List.append_assoc,List.getElem?_append_right (by omega)]
 simp
theorem set_last {σ:Heap} {A o:AObj} {i n:Nat} (h:σ.length=n):(σ.set i A++[o])[n]?=some o:=by
 subst h
 have:=get_last (σ:=σ.set i A) (o:=o)
 rwa [List.length_set] at this
theorem rowsO_ni (R:Nat→List Int):∀ k,(rowsO R k).all (fun o=>!isIter o)=true
 |0=>rfl
 |k+1=>by rw [rowsO,List.all_append,rowsO_ni R k];rfl
theorem hc_k6t (S:Shp) (H:Nat):HClosed 6 [.ro (ints S.d),.ro (pc S.f),.ro (ints S.s),.rw (shL 0 1 2 S),.rw (flL 0 1 2 S (fun i=>bI (rB S i))),.rw (rowsC S (H+1))] :=
 ⟨plainL_closed (ints_plain _),plainL_closed (pc_plain _),plainL_closed (ints_plain _),shL_closed (by omega) (by omega) (by omega),fl_closed3 (by omega),plainL_closed (rowsC_plain _ _),trivial⟩
noncomputable def topN (S:Shp) (h:Int):Nat:=if winE S h=0 then h.toNat else 0
end Go.AH.Dust
namespace Go.Proofs.Ytomioaiojidnbaa
open Go Go.AH
attribute [local irreducible] WOps WCode WFree retQ thenQ blockQ scopeQ OpOk ACall RetRef roundA roundB
set_option maxRecDepth 100000
set_option maxHeartbeats 1000000
open Go.AH.Dust
theorem tops_ok (S:Shp) (hS:S.fit) (h:Int):Ev Try.prog 30 [shV 0 1 2 S,.int .i64 h] S.hp (.tuple #[sl 3 (topN S h),.int .i64 (winE S h)]) (S.hp++([.rw (slC (3+1) S.d.length (topN S h))]++rowsO (topR S) (topN S h))):=by
 by_cases hc:clockE S h=0
 ·obtain ⟨h0,h1,h24⟩:=clockE_zero hc
  have hok:=shopE_zero h0
  have n10:=hok.n10
  have n1:=hok.n1
  obtain ⟨H,rfl⟩:∃ H:Nat,h=((H+1:Nat):Int):=⟨(h - 1).toNat,by omega⟩
  have hck:=clock_evOk (σ:=[.ro (ints S.d),.ro (pc S.f),.ro (ints S.s),.rw (shL 0 1 2 S)]) (S:=S) (h:=((H+1:Nat):Int)) (x:=0) (y:=1) (z:=2) ⟨.inl rfl,.inl rfl,.inl rfl⟩ shS_self hS hc rfl
  have hrows:=rows_ev (σ:=[.ro (ints S.d),.ro (pc S.f),.ro (ints S.s),.rw (shL 0 1 2 S),.rw (flL 0 1 2 S (fun i=>bI (rB S i)))]) (S:=S) (g:=fun i=>bI (rB S i)) (H:=H+1) (p:=4) (x:=0) (y:=1) (z:=2) ⟨.inr (.inl rfl),.inl rfl,.inl rfl,.inl rfl⟩ hok (by omega) rfl
  have htop:=top_ev (σ:=[.ro (ints S.d),.ro (pc S.f),.ro (ints S.s),.rw (shL 0 1 2 S),.rw (flL 0 1 2 S (fun i=>bI (rB S i))),.rw (rowsC S (H+1))]) (S:=S) (r:=rowM S H) (p:=4) (x:=0) (y:=1) (z:=2) ⟨.inr (.inl rfl),.inl rfl,.inl rfl,.inl rfl⟩ hok rfl
  have eH:(((H+1:Nat):Int)).toNat - 1=H:=by omega
  have eH1:(((H+1:Nat):Int) - 1).toNat=H:=by omega
  have hd5:cellsAt [.ro (ints S.d),.ro (pc S.f),.ro (ints S.s),.rw (shL 0 1 2 S),.rw (flL 0 1 2 S (fun i=>bI (rB S i))),.rw (rowsC S (H+1))] 5 (0+(((H+1:Nat):Int) - 1).toNat*10) 10=some (rx (rowM S H)):=by rw [eH1];exact rowsC_cells (.inr (.inl rfl)) (by omega)
  have htw:topV S (rowM S H)=winT S H:=rfl
  rw [htw] at htop
  have heE:winE S ((H+1:Nat):Int)=if winT S H<0 then 5 else 0:=by unfold winE;rw [if_neg (fun hn=>hn hc),eH]
  by_cases hneg:winT S H<0
  ·rw [if_pos hneg] at heE
   have hN:topN S ((H+1:Nat):Int)=0:=by unfold topN;rw [if_neg (by omega)]
   rw [hN,heE]
   clear heE hN
   generalize winT S H=T at *
   refine acall_intro 3 48 Try.func30 rfl rfl rfl rfl rfl ?_
   repeat' (first|(refine gU ?_;first|(refine gMove ?_;refine st (ok_move rfl) rfl rfl ?_)|(refine gAssign ?_;refine st (ok_assign rfl) rfl rfl ?_)|(refine gLoad ?_;refine st (ok_loadA rfl (by first|rfl|exact hd5)) rfl rfl ?_)|(refine gSub ?_;refine st (ok_sub rfl rfl (by omega) (by omega)) rfl rfl ?_)|(refine gBin ?_;refine st (ok_bin rfl rfl rfl) rfl rfl ?_)|(refine gExtract ?_;refine st (ok_extract rfl rfl) rfl rfl ?_)|(refine gIA ?_;refine st (ok_idx rfl rfl (by omega) (by omega)) rfl rfl ?_)|(refine gCall ?_;refine st (ok_call rfl rfl rfl (by first|exact hck|exact hrows|exact htop)) rfl rfl ?_)|(refine gBox ?_;refine st (ok_box rfl) rfl rfl ?_))|refine W_seq ?_|refine W_region ?_|refine st_nil ?_|refine tq_n ?_|refine tq_r ?_|refine W_skip ?_|refine W_ret ?_|refine W_condTA rfl ?_|refine W_condFA rfl ?_)
   exact ret0 (.tmp rfl (.tmp rfl .nil)) (retNil rfl rfl) ⟨rfl,rfl⟩
  ·rw [if_neg hneg] at heE
   have hN:topN S ((H+1:Nat):Int)=H+1:=by unfold topN;rw [if_pos heE];omega
   rw [hN,heE]
   clear heE hN
   generalize winT S H=T at *
   refine acall_intro 3 48 Try.func30 rfl rfl rfl rfl rfl ?_
   repeat' (first|(refine gU ?_;first|(refine gMove ?_;refine st (ok_move rfl) rfl rfl ?_)|(refine gAssign ?_;refine st (ok_assign rfl) rfl rfl ?_)|(refine gLoad ?_;refine st (ok_loadA rfl (by first|rfl|exact hd5)) rfl rfl ?_)|(refine gSub ?_;refine st (ok_sub rfl rfl (by omega) (by omega)) rfl rfl ?_)|(refine gBin ?_;refine st (ok_bin rfl rfl rfl) rfl rfl ?_)|(refine gLen ?_;refine st (ok_len rfl) rfl rfl ?_)|(refine gExtract ?_;refine st (ok_extract rfl rfl) rfl rfl ?_)|(refine gIA ?_;refine st (ok_idx rfl rfl (by omega) (by omega)) rfl rfl ?_)|(refine gCall ?_;refine st (ok_call rfl rfl rfl (by first|exact hck|exact hrows|exact htop)) rfl rfl ?_)|(refine gBox ?_;refine st (ok_box rfl) rfl rfl ?_))|refine W_seq ?_|refine W_region ?_|refine st_nil ?_|refine tq_n ?_|refine W_skip ?_|refine W_block ?_|refine W_condFA rfl ?_)
   refine W_loopS (ι:=Nat) (fun k=>[(2,.pointer (some ⟨3,0,none⟩)),(9,slvV 6 1 k),(32,sl 5 (H+1)),(33,.int .i64 ((H+1:Nat):Int)),(34,.int .i64 (k:Int))]) (fun k=>[.ro (ints S.d),.ro (pc S.f),.ro (ints S.s),.rw (shL 0 1 2 S),.rw (flL 0 1 2 S (fun i=>bI (rB S i))),.rw (rowsC S (H+1))]++[.gr (slC (6+1) S.d.length k) 22]++rowsO (topR S) k) (fun k=>H+1 - k) (fun k=>k≤H+1) 0 (by simp)
    (StRef.src [.ro (ints S.d),.ro (pc S.f),.ro (ints S.s),.rw (shL 0 1 2 S),.rw (flL 0 1 2 S (fun i=>bI (rB S i))),.rw (rowsC S (H+1))] [.gr [] 22] [6] (by simp) rfl (hc_k6t S H) rfl rfl ⟨osub_gr0,trivial⟩ (by exact ⟨er_closed (m:=6) rfl (fun i hi=>srcR_lt hi) (by simp) rfl rfl,er_nil rfl,er_closed (m:=6) rfl (fun i hi=>srcR_lt hi) (by simp) (closed_slice rfl) rfl,er_plain rfl rfl,er_plain rfl rfl,trivial⟩)) (by omega) ?_
   clear hck hrows htop hd5
   intro k hk
   by_cases hkn:k<H+1
   ·obtain ⟨σ,hσ⟩:∃ σ:Heap,σ=[.ro (ints S.d),.ro (pc S.f),.ro (ints S.s),.rw (shL 0 1 2 S),.rw (flL 0 1 2 S (fun i=>bI (rB S i))),.rw (rowsC S (H+1))]++[.gr (slC (6+1) S.d.length k) 22]++rowsO (topR S) k:=⟨_,rfl⟩
    have hsl:σ.length=7+k:=by rw [hσ];simp [rowsO_len];omega
    have hd5:cellsAt σ 5 (0+k*10) 10=some (rx (rowM S k)):=rowsC_cells (by rw [hσ];exact .inr (.inl rfl)) hkn
    have hg6:σ[6]?=some (.gr (slC (6+1) S.d.length k) 22):=by rw [hσ];rfl
    have hni:σ.all (fun o=>!isIter o)=true:=by rw [hσ,List.all_append,rowsO_ni];rfl
    have hlen:(slC (6+1) S.d.length k).length=k*1:=by rw [slC_len];omega
    have hc1:∀ A:AObj,cellGet (σ++[A]) 3 0=some (sl 0 S.d.length):=fun A=>by
     have h3:(σ++[A])[3]?=some (.rw (shL 0 1 2 S)):=by rw [List.getElem?_append_left (by omega),hσ];rfl
     simp [cellGet,h3]
    have hclone:=clone71_ev (σ:=σ++[.rw (rx (rowM S k))]) (q:=topR S k) (n:=S.d.length) (x:=σ.length) (c:=10) topR_len
     ⟨_,arr_last,by rw [List.drop_zero,show (ints (topR S k)).length=S.d.length by simp [ints,topR_len]];exact topR_rx n10,by simp [ints,topR_len,rx];omega⟩ (by omega) (by omega) (by simp [hni];rfl)
    have hgr:∀ A B C:AObj,(σ++[A]++[B]++[C])[6]?=some (.gr (slC (6+1) S.d.length k) 22):=fun A B C=>by
     rw [List.append_assoc,List.append_assoc,List.getElem?_append_left (by omega)];exact hg6
    rw [← hσ]
    repeat' (first|(refine gU ?_;first|refine st (ok_appendV (t:=42) (by rfl) (by rfl) rfl (hgr _ _ _) hlen rfl (cells_last rfl) (by omega) rfl (by omega) (by omega)) rfl rfl ?_|(refine gMove ?_;refine st (ok_move rfl) rfl rfl ?_)|(refine gAssign ?_;refine st (ok_assign rfl) rfl rfl ?_)|(refine gFA ?_;refine st (ok_fieldAddr rfl) rfl rfl ?_)|(refine gLoad ?_;first|refine st (ok_load rfl (by exact hc1 _)) rfl rfl ?_|refine st (ok_loadA rfl (by exact hd5)) rfl rfl ?_)|(refine gAdd ?_;refine st (ok_inc rfl rfl (by omega)) rfl rfl ?_)|(refine gBin ?_;refine st (ok_bin rfl rfl rfl) rfl rfl ?_)|(refine gLen ?_;refine st (ok_len rfl) rfl rfl ?_)|(refine gIA ?_;refine st (ok_idxSN rfl rfl (by omega)) rfl rfl ?_)|(refine gSlice ?_;refine st (ok_sliceAH rfl rfl (by omega)) rfl rfl ?_)|(refine gCall ?_;refine st (ok_call rfl rfl rfl (by exact hclone)) rfl rfl ?_)|(refine gAlloc ?_;refine st (ok_alloc rfl) rfl rfl ?_)|(refine gBuildS ?_;refine st (ok_buildS (by rfl) (by rfl) (by rfl) (by rfl) rfl (by rfl)) rfl rfl ?_)|(refine gStore ?_;refine stN (ok_store rfl rfl rfl rfl (by exact put_rx rfl)) rfl ?_))|refine W_seq ?_|refine W_region ?_|refine st_nil ?_|refine tq_n ?_|refine bq_n ?_|refine W_skip ?_|refine W_block ?_|refine W_condTA rfl ?_)
    refine ⟨rfl,k+1,by omega,by omega,?_⟩
    simp only [len1]
    refine StRef.row (m:=6) (k:=k) (g:=σ.length+1+1+1) (x:=σ.length+1) (w:=S.d.length) rfl (by omega) (by rw [hσ];rfl) (hc_k6t S H) (set_last (by simp only [len1])) (fun j hj=>?_) (round_new (by omega)) ⟨by omega,by omega,by omega⟩
     (by exact ⟨er_closed (m:=6) rfl (fun i hi=>rowPi_lt hi) (by omega) rfl rfl,er_slvV (i:=6) rfl (by omega) rowPi_m,er_closed (m:=6) rfl (fun i hi=>rowPi_lt hi) (by omega) (closed_slice rfl) rfl,er_plain rfl rfl,er_plain rfl rfl,trivial⟩)
    rw [round_at (by omega) (by omega),hσ,List.getElem?_append_right (by simp)]
    simp only [List.length_append,List.length_cons,List.length_nil]
    rw [show 6+1+j - (0+1+1+1+1+1+1+(0+1))=j by omega]
    exact rowsO_get hj
   ·obtain rfl:k=H+1:=by omega
    repeat' (first|(refine gU ?_;first|(refine gMove ?_;refine st (ok_move rfl) rfl rfl ?_)|(refine gAssign ?_;refine st (ok_assign rfl) rfl rfl ?_)|(refine gBin ?_;refine st (ok_bin rfl rfl rfl) rfl rfl ?_))|refine W_seq ?_|refine W_region ?_|refine st_nil ?_|refine tq_n ?_|refine tq_e ?_|refine bq_hit rfl ?_|refine W_exit ?_|refine W_ret ?_|refine W_condFA rfl ?_)
    exact ret0 (.tmp rfl (.tmp rfl .nil)) (RetRef.rows (m:=6) rfl rfl (by simp) rfl) ⟨rfl,rfl⟩
 ·have heE:winE S h=clockE S h:=by unfold winE;rw [if_pos hc]
  have hN:topN S h=0:=by unfold topN;rw [if_neg (by omega)]
  rw [hN,heE]
  have hck:=clock_evBad (σ:=[.ro (ints S.d),.ro (pc S.f),.ro (ints S.s),.rw (shL 0 1 2 S)]) (S:=S) (h:=h) (x:=0) (y:=1) (z:=2) ⟨.inl rfl,.inl rfl,.inl rfl⟩ shS_self hS hc rfl
  refine acall_intro 3 48 Try.func30 rfl rfl rfl rfl rfl ?_
  repeat' (first|(refine gU ?_;first|(refine gMove ?_;refine st (ok_move rfl) rfl rfl ?_)|(refine gAssign ?_;refine st (ok_assign rfl) rfl rfl ?_)|(refine gLoad ?_;refine st (ok_loadA rfl (by rfl)) rfl rfl ?_)|(refine gBin ?_;refine st (ok_bin rfl rfl rfl) rfl rfl ?_)|(refine gExtract ?_;refine st (ok_extract rfl rfl) rfl rfl ?_)|(refine gCall ?_;refine st (ok_call rfl rfl rfl (by exact hck)) rfl rfl ?_)|(refine gBox ?_;refine st (ok_box rfl) rfl rfl ?_))|refine W_seq ?_|refine W_region ?_|refine st_nil ?_|refine tq_n ?_|refine tq_r ?_|refine W_ret ?_|refine W_condTA rfl ?_)
  exact ret0 (.tmp rfl (.tmp rfl .nil)) (retNil rfl rfl) ⟨rfl,rfl⟩
end Go.Proofs.Ytomioaiojidnbaa
namespace Go.AH.Dust
open Go Go.AH
def overB (S:Shp) (H:Nat) (lim:Int) (w:Int):Bool:=decide (0≤most S H w.toNat) && decide (most S H w.toNat > lim)
noncomputable def begK (S:Shp) (H:Nat) (lim:Int) (k:Nat):List Int:=(rL S (min k S.d.length)).filter (overB S H lim)
noncomputable def begL (S:Shp) (h lim:Int):List Int:=if clockE S h=0 then (reachL S).filter (overB S (h.toNat - 1) lim) else []
end Go.AH.Dust
namespace Go.Proofs.Ytomioaiojidnbaa
open Go Go.AH
attribute [local irreducible] WOps WCode WFree retQ thenQ blockQ scopeQ OpOk ACall RetRef roundA roundB
set_option maxRecDepth 100000
set_option maxHeartbeats 1000000
open Go.AH.Dust
end Go.Proofs.Ytomioaiojidnbaa
namespace Go.AH.Dust
open Go Go.AH
noncomputable def begF (S:Shp) (H:Nat) (lim:Int) (i:Nat):List Int:=((reachL S).take i).filter (overB S H lim)
noncomputable def safeE (S:Shp) (h lim:Int):Int:=if clockE S h ≠ 0 then clockE S h else if (begL S h lim).length > 0 then 23 else 0
end Go.AH.Dust
namespace Go.Proofs.Ytomioaiojidnbaa
open Go Go.AH
attribute [local irreducible] WOps WCode WFree retQ thenQ blockQ scopeQ OpOk ACall RetRef roundA roundB
set_option maxRecDepth 100000
set_option maxHeartbeats 1000000
open Go.AH.Dust
end Go.Proofs.Ytomioaiojidnbaa
namespace Go.Proofs.Ytomioaiojidnbaa
open Go Go.AH
attribute [local irreducible] WOps WCode WFree retQ thenQ blockQ scopeQ OpOk ACall RetRef roundA roundB
set_option maxRecDepth 100000
set_option maxHeartbeats 1000000
open Go.AH.Dust
end Go.Proofs.Ytomioaiojidnbaa
namespace Go.AH.Dust
open Go Go.AH
theorem mostF_ge {S:Shp} {m:Nat→Int} {i:Nat}:∀ {k j:Nat},j<k→(gf S.f j).1=i→0≤m (gf S.f j).2.toNat→gi S.d i+m (gf S.f j).2.toNat≤mostF S m i k
 |k+1,j,hj,h1,h2=>by
  simp only [mostF]
  by_cases hjk:j=k
  ·subst hjk
   rw [if_pos ⟨h1,h2⟩];omega
  ·have ih:=mostF_ge (S:=S) (m:=m) (i:=i) (k:=k) (j:=j) (by omega) h1 h2
   split <;> omega
def endB (S:Shp):Prop:=∀ i,i<S.d.length→rB S i=true→∃ j,j<S.f.length∧(gf S.f j).1=i
end Go.AH.Dust
namespace Go.AH.Dust
open Go Go.AH
noncomputable def topsL (S:Shp) (n:Nat):List (List Int):=(List.range n).map (topR S)
theorem topsL_len {S:Shp} {n:Nat}:(topsL S n).length=n:=by simp [topsL]
theorem topsL_gq {S:Shp} {n j:Nat} (h:j<n):gq (topsL S n) j=topR S j:=by simp [gq,topsL,h]
theorem slC_ren {n1 m w:Nat} {π:Rho}:∀ n,renL (shf n1 m π) (slC (n1+1) w n)=slC (m+1) w n
 |0=>rfl
 |n+1=>by
  have h:=slC_ren (n1:=n1) (m:=m) (w:=w) (π:=π) n
  rw [renL_eq] at h ⊢
  rw [slC,List.map_append,h,slC]
  congr 1
  simp only [List.map_cons,List.map_nil,ren]
  rw [shf_ge (by omega)]
  simp only [List.cons.injEq,and_true,Value.slice.injEq,Option.some.injEq,Addr.mk.injEq]
  omega
theorem rowsO_ren (r:Rho) (R:Nat→List Int):∀ n,(rowsO R n).map (renO r)=rowsO R n
 |0=>rfl
 |n+1=>by
  rw [rowsO,List.map_append,rowsO_ren r R n]
  simp only [List.map_cons,List.map_nil,renO,renL_plain _ (ints_plain _)]
theorem rowsO_mem (R:Nat→List Int):∀ n,(rowsO R n).all isMem=true
 |0=>rfl
 |n+1=>by rw [rowsO,List.all_append,rowsO_mem R n];rfl
theorem tops_own {σ:Heap} {S:Shp} {n:Nat}:ObjAt (σ++([.rw (slC (σ.length+1) S.d.length n)]++rowsO (topR S) n)) (σ.length,0) (.deep (rowsQ (topsL S n)) []):=by
 have hl:=rowsO_len (topR S) n
 have h0:(σ++([.rw (slC (σ.length+1) S.d.length n)]++rowsO (topR S) n))[σ.length]?=some (.rw (slC (σ.length+1) S.d.length n)):=by
  rw [List.getElem?_append_right (Nat.le_refl _),Nat.sub_self];rfl
 refine ⟨idx_lt h0,.inr (.inr ⟨slC (σ.length+1) S.d.length n,?_,fun k h h'=>?_⟩)⟩
 ·have:=cellsAt_arr (cs:=slC (σ.length+1) S.d.length n) (.inr (.inl h0))
  rw [slC_len] at this
  rw [rowsQ_len,topsL_len];exact this
 ·have hk:k<n:=by rw [slC_len] at h';exact h'
  have hq:(rowsQ (topsL S n))[k]=ints (topR S k):=by
   have:=rowsQ_get (qs:=topsL S n) (i:=k) (by rw [topsL_len];exact hk)
   rw [List.getElem?_eq_getElem h,topsL_gq hk] at this
   exact Option.some.inj this
  have hl:(ints (topR S k)).length=S.d.length:=by rw [ints_length,topR_len]
  have hr:(σ++([.rw (slC (σ.length+1) S.d.length n)]++rowsO (topR S) n))[σ.length+1+k]?=some (.rw (ints (topR S k))):=by
   rw [List.getElem?_append_right (by omega),show σ.length+1+k - σ.length=k+1 by omega,List.singleton_append,List.getElem?_cons_succ]
   exact rowsO_get hk
  rw [hq]
  refine ⟨ints_plain _,σ.length+1+k,0,S.d.length,by rw [slC_get' h',hl],by omega,.inr (cellsAt_arr (.inr (.inl hr)))⟩
theorem mxB_congr {f g:Nat→Int} {r:Nat→Bool}:∀ k,(∀ i,i<k→f i=g i)→mxB f r k=mxB g r k
 |0,_=>rfl
 |k+1,h=>by simp only [mxB];rw [mxB_congr k fun i hi=>h i (by omega),h k (by omega)]
theorem tops_right {S:Shp} {H:Nat} (h0:shopE S=0) (hH:H<24):topE S (topsL S (H+1))=0∧topM S (topsL S (H+1))=refW S H:=by
 have hok:=shopE_zero h0
 have hE:topE S (topsL S (H+1))=0:=by
  refine topE_0 h0 (by rw [topsL_len];omega) ?_ ?_ ?_
  ·rintro ⟨h,h1,h2⟩
   rw [topsL_len] at h1
   rw [topsL_gq h1] at h2
   exact h2 topR_len
  ·rintro ⟨h,h1,i,h2,h3⟩
   rw [topsL_len] at h1
   rw [topsL_gq h1] at h2 h3
   rw [topR_len] at h2
   rw [topR_gi h2] at h3
   have:=most_bound hok h i h2
   omega
  ·rintro (⟨i,h1,h2⟩|⟨h,h1,h2,k,h3,h4,h5⟩)
   ·unfold tLow at h2
    rw [topsL_gq (by omega),topR_gi h1] at h2
    simp only [most] at h2
    omega
   ·rw [topsL_len] at h2
    obtain ⟨g,rfl⟩:∃ g,h=g+1:=⟨h - 1,by omega⟩
    obtain ⟨w1,w2,-⟩:=hok.f k h3
    obtain ⟨a,ha⟩:∃ a:Nat,(gf S.f k).1=(a:Int):=⟨(gf S.f k).1.toNat,by have:=w1.1;omega⟩
    have had:a<S.d.length:=by have:=w1.2;omega
    rw [topsL_gq (show g+1 - 1<H+1 by omega),topR_gi (by have:=w2.2;have:=w2.1;omega)] at h4 h5
    rw [topsL_gq h2,ha,Int.toNat_natCast,topR_gi had] at h5
    have:=mostF_ge (S:=S) (m:=most S g) (i:=a) h3 ha h4
    simp only [most] at h5
    simp only [Nat.add_sub_cancel] at h4 h5
    omega
 refine ⟨hE,?_⟩
 rw [topM_0 hE,topsL_len,Nat.add_sub_cancel,topsL_gq (by omega),mxB_congr (g:=most S H) _ fun i hi=>topR_gi hi,← mxL_reach h0,mxL_mx,mx_refW h0]
end Go.AH.Dust
namespace Go.Proofs.Ytomioaiojidnbaa
open Go Go.AH
attribute [local irreducible] WOps WCode WFree retQ thenQ blockQ scopeQ OpOk ACall RetRef roundA roundB
set_option maxRecDepth 100000
set_option maxHeartbeats 1000000
open Go.AH.Dust
theorem tops_ev {σ:Heap} {S:Shp} {h:Int} {x y z:Nat} {v:Value} (hs:SAt σ x y z S) (hv:ShS x y z S v) (hS:S.fit) (hni:σ.all (fun o=>!isIter o)=true) :
  Ev Try.prog 30 [v,.int .i64 h] σ (.tuple #[sl σ.length (topN S h),.int .i64 (winE S h)]) (σ++([.rw (slC (σ.length+1) S.d.length (topN S h))]++rowsO (topR S) (topN S h))):=by
 refine Ev.arrsN S.css [x,y,z] (tops_ok S hS h) hs.arrs ⟨hv,.int _ _,trivial⟩ S.css_plain (by rw [List.all_append,rowsO_mem];rfl) ?_ ?_ hni
 ·simp [ren,renA,renL,shf]
 ·rw [List.map_append,rowsO_ren]
  simp only [List.map_cons,List.map_nil,renO,List.length_cons,List.length_nil]
  rw [slC_ren]
theorem sq_obj {σ:Heap} {S:Shp} {Q:List (List Int)} {x y z q:Nat} (hs:SAt σ x y z S) (hq:ObjAt σ (q,0) (.deep (rowsQ Q) [])):ObjsAt σ [.ro (ints S.d),.ro (pc S.f),.ro (ints S.s),.deep (rowsQ Q) []] [(x,0),(y,0),(z,0),(q,0)] :=
 ⟨⟨prtAt_arr hs.1,ints_plain _⟩,⟨prtAt_arr hs.2.1,pc_plain _⟩,⟨prtAt_arr hs.2.2,ints_plain _⟩,hq,trivial⟩
theorem sq_as {S:Shp} {Q:List (List Int)} {x y z q n c:Nat} (hn:Q.length=n):AS 4 (psR [(x,0),(y,0),(z,0),(q,0)]) [shV 0 1 2 S,.slice (some ⟨3,0,none⟩) Q.length c] [shV x y z S,.slice (some ⟨q,0,none⟩) n c]:=by
 subst hn
 exact ⟨vsub_agg3 (vsub_sl (by omega) rfl (Nat.le_refl _)) (vsub_sl (by omega) rfl (Nat.le_refl _)) (vsub_sl (by omega) rfl (Nat.le_refl _)),by simpa [psR] using VQ.slice (q:=true) (n:=4) (ρ:=psR [(x,0),(y,0),(z,0),(q,0)]) 3 0 Q.length c c (Nat.le_refl _) (by omega),trivial⟩
theorem chkTops_ev {σ:Heap} {S:Shp} {Q:List (List Int)} {x y z q n c:Nat} (hn:Q.length=n) (hs:SAt σ x y z S) (hq:ObjAt σ (q,0) (.deep (rowsQ Q) [])) (hS:S.fit) (hN:Q.length≤9223372036854775807) (hlQ:∀ i<Q.length,(gq Q i).length≤1000000) (hni:σ.all (fun o=>!isIter o)=true) :
  Ev Try.prog 28 [shV x y z S,.slice (some ⟨q,0,none⟩) n c] σ (.tuple #[.int .i64 (topM S Q),.int .i64 (topE S Q)]) σ :=
 Ev.objs [.ro (ints S.d),.ro (pc S.f),.ro (ints S.s),.deep (rowsQ Q) []] [(x,0),(y,0),(z,0),(q,0)] (chkTops_ok S hS Q c hN hlQ) (sq_obj hs hq) (sq_as hn) rfl hni
theorem refTops_ev {σ:Heap} {S:Shp} {Q:List (List Int)} {x y z q n c:Nat} (hn:Q.length=n) (hs:SAt σ x y z S) (hq:ObjAt σ (q,0) (.deep (rowsQ Q) [])) (hS:S.fit) (hN:Q.length≤9223372036854775807) (hlQ:∀ i<Q.length,(gq Q i).length≤1000000) (hni:σ.all (fun o=>!isIter o)=true) :
  Ev Try.prog 29 [shV x y z S,.slice (some ⟨q,0,none⟩) n c] σ (.tuple #[.int .i64 (topM S Q),.int .i64 (topE S Q)]) σ :=
 Ev.objs [.ro (ints S.d),.ro (pc S.f),.ro (ints S.s),.deep (rowsQ Q) []] [(x,0),(y,0),(z,0),(q,0)] (refTops_ok S hS Q c hN hlQ) (sq_obj hs hq) (sq_as hn) rfl hni
theorem deep_in {σ:Heap} {y:Nat} {qs:List (List Int)} (h:σ[y]?=some (.deep (rowsQ qs) [])):ObjAt σ (y,0) (.deep (rowsQ qs) []):=⟨idx_lt h,.inr (.inl ⟨rfl,[],h⟩)⟩
theorem dustTops_own (hwo:∀ σ:Heap,σ.all (fun o=>!isIter o)=true→Ev Try.prog 14 [] σ (.bool true) σ) (S:Shp) (hS:S.fit) (h:Int) (Q:List (List Int)) (c:Nat) (hN:Q.length≤9223372036854775807) :
  Ev Try.prog 5 [shV 0 1 2 S,.int .i64 h,.slice (some ⟨3,0,none⟩) Q.length c] [.ro (ints S.d),.ro (pc S.f),.ro (ints S.s),.deep (rowsQ Q) []] (.bool true) [.ro (ints S.d),.ro (pc S.f),.ro (ints S.s),.deep (rowsQ Q) []]:=by
 have hgr:=great_ev (σ:=[.ro (ints S.d),.ro (pc S.f),.ro (ints S.s),.deep (rowsQ Q) [],.rw (shL 0 1 2 S)]) (S:=S) (x:=0) (y:=1) (z:=2) ⟨.inl rfl,.inl rfl,.inl rfl⟩ shS_self hS rfl
 by_cases hg:(S.d.length:Int) > 15∨(S.f.length:Int) > 70∨(S.s.length:Int) > 15
 ·rw [decide_eq_true hg] at hgr
  refine acall_intro 4 89 Try.func5 rfl rfl rfl rfl rfl ?_
  repeat' (first|(refine gU ?_;first|(refine gMove ?_;refine st (ok_move rfl) rfl rfl ?_)|(refine gAssign ?_;refine st (ok_assign rfl) rfl rfl ?_)|(refine gLoad ?_;refine st (ok_loadA rfl (by rfl)) rfl rfl ?_)|(refine gPick ?_;refine st (ok_pickTA rfl rfl) rfl rfl ?_)|(refine gCall ?_;refine st (ok_call rfl rfl rfl (by first|exact hgr|exact hwo _ rfl)) rfl rfl ?_)|(refine gBox ?_;refine st (ok_box rfl) rfl rfl ?_))|(refine gG ?_;refine stSA rfl rfl ?_)|refine W_seq ?_|refine W_region ?_|refine st_nil ?_|refine tq_n ?_|refine tq_r ?_|refine W_ret ?_|refine W_condTA rfl ?_)
  all_goals exact ret0 (.tmp rfl .nil) (.plain rfl rfl) ⟨rfl,rfl⟩
 rw [decide_eq_false hg] at hgr
 by_cases hlo:longP Q
 ·have hlg:=long27_ev (σ:=[.ro (ints S.d),.ro (pc S.f),.ro (ints S.s),.deep (rowsQ Q) [],.rw (shL 0 1 2 S)]) (qs:=Q) (x:=3) (c:=c) (deep_in rfl) hN true ⟨fun _=>hlo,fun _=>rfl⟩ rfl
  refine acall_intro 4 89 Try.func5 rfl rfl rfl rfl rfl ?_
  repeat' (first|(refine gU ?_;first|(refine gMove ?_;refine st (ok_move rfl) rfl rfl ?_)|(refine gAssign ?_;refine st (ok_assign rfl) rfl rfl ?_)|(refine gLoad ?_;refine st (ok_loadA rfl (by rfl)) rfl rfl ?_)|(refine gPick ?_;refine st (ok_pickFA rfl rfl) rfl rfl ?_)|(refine gCall ?_;refine st (ok_call rfl rfl rfl (by first|exact hgr|exact hwo _ rfl)) rfl rfl ?_)|(refine gBox ?_;refine st (ok_box rfl) rfl rfl ?_))|(refine gG ?_;first|(refine gMove ?_;refine stGA rfl (ok_move rfl) rfl rfl ?_)|(refine gCall ?_;refine stGA rfl (ok_call rfl rfl rfl (by exact hlg)) rfl rfl ?_))|refine W_seq ?_|refine W_region ?_|refine st_nil ?_|refine tq_n ?_|refine tq_r ?_|refine W_ret ?_|refine W_condTA rfl ?_)
  all_goals exact ret0 (.tmp rfl .nil) (.plain rfl rfl) ⟨rfl,rfl⟩
 have hlg:=long27_ev (σ:=[.ro (ints S.d),.ro (pc S.f),.ro (ints S.s),.deep (rowsQ Q) [],.rw (shL 0 1 2 S)]) (qs:=Q) (x:=3) (c:=c) (deep_in rfl) hN false ⟨fun h=>absurd h (by decide),fun h=>absurd h hlo⟩ rfl
 have hlQ:∀ i<Q.length,(gq Q i).length≤1000000:=fun i hi=>by
  apply Classical.byContradiction;intro hn
  exact hlo (.inr ⟨i,hi,by omega⟩)
 have hA:=chkTops_ev (σ:=[.ro (ints S.d),.ro (pc S.f),.ro (ints S.s),.deep (rowsQ Q) [],.rw (shL 0 1 2 S)]) (S:=S) (Q:=Q) (x:=0) (y:=1) (z:=2) (q:=3) (c:=c) rfl ⟨.inl rfl,.inl rfl,.inl rfl⟩ (deep_in rfl) hS hN hlQ rfl
 have hB:=refTops_ev (σ:=[.ro (ints S.d),.ro (pc S.f),.ro (ints S.s),.deep (rowsQ Q) [],.rw (shL 0 1 2 S)]) (S:=S) (Q:=Q) (x:=0) (y:=1) (z:=2) (q:=3) (c:=c) rfl ⟨.inl rfl,.inl rfl,.inl rfl⟩ (deep_in rfl) hS hN hlQ rfl
 have hC:=tops_ev (σ:=[.ro (ints S.d),.ro (pc S.f),.ro (ints S.s),.deep (rowsQ Q) [],.rw (shL 0 1 2 S)]) (S:=S) (h:=h) (x:=0) (y:=1) (z:=2) ⟨.inl rfl,.inl rfl,.inl rfl⟩ shS_self hS rfl
 have hn1:([.ro (ints S.d),.ro (pc S.f),.ro (ints S.s),.deep (rowsQ Q) [],.rw (shL 0 1 2 S)]++([.rw (slC (5+1) S.d.length (topN S h))]++rowsO (topR S) (topN S h)):Heap).all (fun o=>!isIter o)=true:=by rw [List.all_append,List.all_append,rowsO_ni];rfl
 have hD:=winErr_ev (σ:=[.ro (ints S.d),.ro (pc S.f),.ro (ints S.s),.deep (rowsQ Q) [],.rw (shL 0 1 2 S)]++([.rw (slC (5+1) S.d.length (topN S h))]++rowsO (topR S) (topN S h))) (S:=S) (h:=h) (x:=0) (y:=1) (z:=2) ⟨.inl rfl,.inl rfl,.inl rfl⟩ shS_self hS hn1
 by_cases hE:winE S h=0
 ·have hc:clockE S h=0:=by
   refine Classical.byContradiction fun hn=>?_
   unfold winE at hE;rw [if_pos hn] at hE;exact hn hE
  obtain ⟨h0,h1,h2⟩:=clockE_zero hc
  obtain ⟨H,rfl⟩:∃ H:Nat,h=((H+1:Nat):Int):=⟨(h - 1).toNat,by omega⟩
  have hT:topN S ((H+1:Nat):Int)=H+1:=by unfold topN;rw [if_pos hE];omega
  rw [hE] at hC hD
  rw [hT] at hC hD hn1
  obtain ⟨r1,r2⟩:=tops_right (H:=H) h0 (by omega)
  have hF:=refWin_ev (σ:=[.ro (ints S.d),.ro (pc S.f),.ro (ints S.s),.deep (rowsQ Q) [],.rw (shL 0 1 2 S)]++([.rw (slC (5+1) S.d.length (H+1))]++rowsO (topR S) (H+1))) (S:=S) (h:=((H+1:Nat):Int)) (x:=0) (y:=1) (z:=2) ⟨.inl rfl,.inl rfl,.inl rfl⟩ shS_self hc hn1
  rw [show (((H+1:Nat):Int)).toNat - 1=H by omega] at hF
  have hX:=refTops_ev (σ:=[.ro (ints S.d),.ro (pc S.f),.ro (ints S.s),.deep (rowsQ Q) [],.rw (shL 0 1 2 S)]++([.rw (slC (5+1) S.d.length (H+1))]++rowsO (topR S) (H+1))) (S:=S) (Q:=topsL S (H+1)) (n:=H+1) (x:=0) (y:=1) (z:=2) (q:=5) (c:=H+1) topsL_len ⟨.inl rfl,.inl rfl,.inl rfl⟩ (tops_own (σ:=[.ro (ints S.d),.ro (pc S.f),.ro (ints S.s),.deep (rowsQ Q) [],.rw (shL 0 1 2 S)])) hS (by rw [topsL_len];omega) (fun i hi=>by
   rw [topsL_len] at hi;rw [topsL_gq hi,topR_len];have:=(shopE_zero h0).n10;omega) hn1
  rw [r1,r2] at hX
  generalize topM S Q=m at *
  generalize topE S Q=e at *
  generalize refW S H=w at *
  clear hE hc hT r1 r2
  have hE:=hX
  have hHI:((H+1:Nat):Int)=((H+1:Nat):Int):=rfl
  refine acall_intro 4 89 Try.func5 rfl rfl rfl rfl rfl ?_
  repeat' (first|(refine gU ?_;first|(refine gMove ?_;refine st (ok_move rfl) rfl rfl ?_)|(refine gAssign ?_;refine st (ok_assign rfl) rfl rfl ?_)|(refine gLoad ?_;refine st (ok_loadA rfl (by rfl)) rfl rfl ?_)|(refine gBin ?_;refine st (ok_bin rfl rfl rfl) rfl rfl ?_)|(refine gPick ?_;first|refine st (ok_pickTA rfl rfl) rfl rfl ?_|refine st (ok_pickFA rfl rfl) rfl rfl ?_)|(refine gExtract ?_;refine st (ok_extract rfl rfl) rfl rfl ?_)|(refine gCall ?_;refine st (ok_call rfl rfl rfl (by first|exact hgr|exact hA|exact hB|exact hC|exact hD|exact hE)) rfl rfl ?_)|(refine gBox ?_;refine st (ok_box rfl) rfl rfl ?_))|(refine gG ?_;first|(refine gMove ?_;refine stGA rfl (ok_move rfl) rfl rfl ?_)|(refine gLoad ?_;refine stGA rfl (ok_loadA rfl (by rfl)) rfl rfl ?_)|(refine gBin ?_;refine stGA rfl (ok_bin rfl rfl rfl) rfl rfl ?_)|(refine gLen ?_;refine stGA rfl (ok_len rfl) rfl rfl ?_)|(refine gCall ?_;refine stGA rfl (ok_call rfl rfl rfl (by first|exact hlg|exact hwo _ hn1|exact hF)) rfl rfl ?_))|refine W_seq ?_|refine W_region ?_|refine st_nil ?_|refine tq_n ?_|refine W_skip ?_|refine W_ret ?_|refine W_condFA rfl ?_)
  all_goals exact ret0 (.tmp rfl .nil) (.plain rfl rfl) ⟨rfl,rfl⟩
 ·have hT:topN S h=0:=by unfold topN;rw [if_neg hE]
  rw [hT] at hC hD hn1
  generalize topM S Q=m at *
  generalize topE S Q=e at *
  generalize winE S h=g at *
  refine acall_intro 4 89 Try.func5 rfl rfl rfl rfl rfl ?_
  repeat' (first|(refine gU ?_;first|(refine gMove ?_;refine st (ok_move rfl) rfl rfl ?_)|(refine gAssign ?_;refine st (ok_assign rfl) rfl rfl ?_)|(refine gLoad ?_;refine st (ok_loadA rfl (by rfl)) rfl rfl ?_)|(refine gBin ?_;refine st (ok_bin rfl rfl rfl) rfl rfl ?_)|(refine gLen ?_;refine st (ok_len rfl) rfl rfl ?_)|(refine gPick ?_;first|refine st (ok_pickTA rfl rfl) rfl rfl ?_|refine st (ok_pickFA rfl rfl) rfl rfl ?_)|(refine gExtract ?_;refine st (ok_extract rfl rfl) rfl rfl ?_)|(refine gCall ?_;refine st (ok_call rfl rfl rfl (by first|exact hgr|exact hA|exact hB|exact hC|exact hD)) rfl rfl ?_)|(refine gBox ?_;refine st (ok_box rfl) rfl rfl ?_))|(refine gG ?_;first|(refine gMove ?_;refine stGA rfl (ok_move rfl) rfl rfl ?_)|(refine gBin ?_;refine stGA rfl (ok_bin rfl rfl rfl) rfl rfl ?_)|(refine gCall ?_;refine stGA rfl (ok_call rfl rfl rfl (by first|exact hlg|exact hwo _ rfl)) rfl rfl ?_))|refine W_seq ?_|refine W_region ?_|refine st_nil ?_|refine tq_n ?_|refine tq_r ?_|refine W_skip ?_|refine W_ret ?_|refine W_condTA rfl ?_|refine W_condFA rfl ?_)
  all_goals exact ret0 (.tmp rfl .nil) (.plain rfl rfl) ⟨rfl,rfl⟩
theorem dustTops_law (S:Shp) (hS:S.fit) (h:Int) (Q:List (List Int)) (c:Nat) (hN:Q.length≤9223372036854775807) :
  Ev Try.prog 5 [shV 0 1 2 S,.int .i64 h,.slice (some ⟨3,0,none⟩) Q.length c] [.ro (ints S.d),.ro (pc S.f),.ro (ints S.s),.deep (rowsQ Q) []] (.bool true) [.ro (ints S.d),.ro (pc S.f),.ro (ints S.s),.deep (rowsQ Q) []]:=dustTops_own (fun _ h=>works_ev h) S hS h Q c hN
end Go.Proofs.Ytomioaiojidnbaa
namespace Go.AH
open Go Go.RowKit Go.WideShapes Go.ChangeShapes
section
variable {H:Type} {enc:TypeId×Value→H} {P:Program} {W:World}
theorem wf64 {n:Int} (h:(Lit.int .i64 n).wf=true):-9223372036854775808≤n∧n≤9223372036854775807:=by
 simp only [Lit.wf,Bool.and_eq_true,decide_eq_true_eq] at h
 exact h
def cellsI (l:List Int):List Value:=l.map (.int .i64)
structure SlArg (W:World) (v:Value) (n size:Nat) (cs:List Value) (pl:Pl):Prop where
 len:n≤9223372036854775807
 rel:∀ (m:Nat) (ρ:Rho) (i:Nat),i<m→ρ i=pl→VRel m ρ (.slice (some ⟨i,0,none⟩) n n) v
 sz:cs.length=n*size
 cells:cs ≠ []→pl.b<W.heap.size∧∀ (k:Nat) (h:k<cs.length),W.cell? ⟨pl.b,pl.o+k,none⟩=some cs[k]
theorem cell_lt {w:World} {a:Addr} {v:Value} (h:w.cell? a=some v):a.block<w.heap.size∧a.spot=none:=by
 unfold World.cell? at h
 split at h
 ·rename_i hb
  refine ⟨(Array.getElem?_eq_some_iff.1 hb).1,?_⟩
  split at h
  ·cases h
  ·rename_i hs;simpa using hs
 ·cases h
theorem SlArg.hro {v:Value} {n size:Nat} {cs:List Value} {pl:Pl} (h:SlArg W v n size cs pl) (hp:plainL cs=true) (ρ:Rho) (i m:Nat) (hρ:ρ i=pl) (hne:cs ≠ []) :
  (ρ i).b<W.heap.size∧∀ (k:Nat) (hk:k<cs.length),∃ v',W.cell? ⟨(ρ i).b,(ρ i).o+k,none⟩=some v'∧VRel m ρ cs[k] v':=by
 rw [hρ]
 obtain ⟨h1,h2⟩:=h.cells hne
 exact ⟨h1,fun k hk=>⟨_,h2 k hk,vrel_plainL cs hp k hk⟩⟩
theorem read_int {b0:Nat} {t:TypeId} {v:Value} {d:DataW H} {p:List MemPlace} (ht:P.underlying t=some (.int .i64)) (hval:Value.okWide P W .any b0 t v)
  (h:DataW.Trod enc P W 0 (fun _=>true) true t v d p):∃ n:Int,v=.int .i64 n∧-9223372036854775808≤n∧n≤9223372036854775807:=by
 obtain ⟨n,rfl,_,_,wn⟩:=open_int ht hval h
 exact ⟨n,rfl,wf64 wn⟩
end
end Go.AH
namespace Go.AH
open Go Go.RowKit Go.WideShapes Go.ChangeShapes
section
variable {H:Type} {enc:TypeId×Value→H} {P:Program} {w:World} {base:Nat} {spare:Nat→Bool} {held:Bool}
end
section
variable {H:Type} {enc:TypeId×Value→H} {P:Program} {W:World}
end
end Go.AH
namespace Go.AH
open Go Go.RowKit Go.WideShapes Go.ChangeShapes
section
variable {H:Type} {enc:TypeId×Value→H} {P:Program} {w:World} {base:Nat} {spare:Nat→Bool} {held:Bool}
end
end Go.AH
namespace Go.AH
open Go Go.RowKit Go.WideShapes Go.ChangeShapes
section
variable {H:Type} {enc:TypeId×Value→H} {P:Program} {w:World} {base:Nat} {spare:Nat→Bool} {held:Bool}
end
section
variable {H:Type} {enc:TypeId×Value→H} {P:Program} {W:World}
end
end Go.AH
namespace Go.Proofs.Ytomioaiojidnbaa
open Go Go.AH Go.RowKit Go.WideShapes Go.ChangeShapes Go.AH.Dust
theorem add_cell {b o k:Nat}:(⟨b,o,none⟩:Addr).add k=⟨b,o+k,none⟩:=by
 unfold Addr.add
 split
 ·rename_i h;subst h;rfl
 ·rfl
theorem listP_of {Q:Nat→Int×Int→Prop} {n:Nat} (h:∀ i<n,∃ p,Q i p):∃ l:List (Int×Int),l.length=n∧∀ i<n,Q i (gf l i):=by
 induction n with
 |zero=>exact ⟨[],rfl,fun i hi=>by omega⟩
 |succ n ih =>
  obtain ⟨l,h1,h2⟩:=ih fun i hi=>h i (by omega)
  obtain ⟨p,hp⟩:=h n (by omega)
  refine ⟨l++[p],by simp [h1],fun i hi=>?_⟩
  by_cases hin:i<n
  ·have:gf (l++[p]) i=gf l i:=by simp only [gf,List.getD_eq_getElem?_getD];rw [List.getElem?_append_left (by omega)]
   rw [this];exact h2 i hin
  ·obtain rfl:i=n:=by omega
   have:gf (l++[p]) i=p:=by simp only [gf,List.getD_eq_getElem?_getD];rw [List.getElem?_append_right (by omega),h1,Nat.sub_self];rfl
   rw [this];exact hp
section
variable {H:Type} {enc:TypeId×Value→H} {P:Program} {W:World}
theorem readF_ints {t e:TypeId} {v:Value} {fuel:Nat} {x:DataW H×List MemPlace} (ht:P.underlying t=some (.slice e)) (he:P.underlying e=some (.int .i64)) (hc:P.cellsOf e=1)
  (hf:DataW.trod enc P W 0 (fun _=>true) true fuel t [v]=some x):∃ (l:List Int) (pl:Pl),SlArg W v l.length 1 (ints l) pl:=by
 rcases open_ints ht he hc hf with ⟨hcs,-⟩|⟨a,len,cap,zs,hcs,-,hl,hm,hz,-,hcell,hwf⟩
 ·cases hcs
  exact ⟨[],⟨0,0,0⟩,⟨by simp,fun m ρ i hi hρ=>.emptySlice _ _ _ _,rfl,fun h=>absurd rfl h⟩⟩
 ·cases hcs
  simp only [if_true] at hz
  have hlz:(zs.take len).length=len:=by rw [List.length_take];omega
  have hm':len≤9223372036854775807:=by unfold maxLen at hm;omega
  by_cases h0:len=0
  ·subst h0
   exact ⟨[],⟨0,0,0⟩,⟨by simp,fun m ρ i hi hρ=>.emptySlice _ _ _ _,rfl,fun h=>absurd rfl h⟩⟩
  ·have h1:=hcell 0 (by omega)
   have ha:a.add 0=a:=by simp [Addr.add]
   rw [ha] at h1
   obtain ⟨hb,hs⟩:=cell_lt h1
   obtain ⟨b,o,sp⟩:=a
   simp only at hb hs
   subst hs
   refine ⟨zs.take len,⟨b,o,0⟩,⟨by omega,fun m ρ i hi hρ=>?_,by simp [ints],fun _=>⟨hb,fun k hk=>?_⟩⟩⟩
   ·rw [hlz]
    have:=VQ.slice (q:=false) (n:=m) (ρ:=ρ) i 0 len len cap hl hi
    rw [hρ] at this
    simpa using this
   ·have hk':k<len:=by
     simp only [ints,List.length_map] at hk
     omega
    have h2:=hcell k (by omega)
    have hk2:zs.getD k 0=(zs.take len)[k]'(by omega):=by
     rw [List.getElem_take,List.getD_eq_getElem?_getD,List.getElem?_eq_getElem (by omega)];rfl
    rw [add_cell,hk2] at h2
    simpa [ints] using h2
theorem readF_pairs {t e f:TypeId} {v:Value} {fuel:Nat} {x:DataW H×List MemPlace} (ht:P.underlying t=some (.slice e)) (he:P.underlying e=some (.array 2 f)) (hf0:P.underlying f=some (.int .i64)) (hce:P.cellsOf e=2) (hcf:P.cellsOf f=1)
  (hf:DataW.trod enc P W 0 (fun _=>true) true fuel t [v]=some x):∃ (l:List (Int×Int)) (pl:Pl),SlArg W v l.length 2 (pc l) pl:=by
 have hempty:∀ (a0:Option Addr) (cap:Nat),∃ (l:List (Int×Int)) (pl:Pl),SlArg W (.slice a0 0 cap) l.length 2 (pc l) pl:=fun a0 cap =>
  ⟨[],⟨0,0,0⟩,⟨by simp,fun m ρ i hi hρ=>.emptySlice _ _ _ _,rfl,fun h=>absurd rfl h⟩⟩
 rcases Deep.open_slice ht hf with ⟨hcs,-⟩|⟨a,len,cap,m,n,D,Pl,hcs,-,hl,hm,hmm,-,hi⟩
 ·cases hcs;exact hempty _ _
 ·cases hcs
  simp only [if_true] at hmm
  by_cases h0:len=0
  ·subst h0;exact hempty _ _
  ·have each:∀ i<len,∃ q:Int×Int,W.cell? (a.add (i*2))=some (.int .i64 q.1)∧W.cell? ((a.add (i*2)).add 1)=some (.int .i64 q.2):=fun i hil=>by
    obtain ⟨cs,hc,htr⟩:=hi i (by omega)
    rw [hce] at hc
    obtain ⟨_,hcl,hat⟩:=World.cells?_some hc
    match cs,hcl with
    |[c0,c1],_ =>
     obtain ⟨zs,m',_,_,_,hlen2,hg2⟩:=DataW.trod_array he htr
     match zs,hlen2 with
     |[z0,z1],_ =>
      have q0:=hg2 0 (by omega)
      have q1:=hg2 1 (by omega)
      simp only [hcf,List.getElem?_cons_zero,List.getElem?_cons_succ] at q0 q1
      obtain ⟨n0,e0,_,w0⟩:=DataW.trod_int hf0 q0
      obtain ⟨n1,e1,_,w1⟩:=DataW.trod_int hf0 q1
      cases e0;cases e1
      have g0:=hat 0 (by omega)
      have g1:=hat 1 (by omega)
      have ha:(a.add (i*2)).add 0=a.add (i*2):=by simp [Addr.add]
      rw [ha] at g0
      exact ⟨(n0,n1),by simpa using g0,by simpa using g1⟩
   obtain ⟨l,hll,hq⟩:=listP_of each
   have h1:=(hq 0 (by omega)).1
   have ha:a.add (0*2)=a:=by simp [Addr.add]
   rw [ha] at h1
   obtain ⟨hb,hs⟩:=cell_lt h1
   obtain ⟨b,o,sp⟩:=a
   simp only at hb hs
   subst hs
   have hm':len≤9223372036854775807:=by unfold maxLen at hm;omega
   have hlen:=pc_len l
   refine ⟨l,⟨b,o,0⟩,⟨by omega,fun m ρ i hi hρ=>?_,by omega,fun _=>⟨hb,fun k hk=>?_⟩⟩⟩
   ·rw [hll]
    have:=VQ.slice (q:=false) (n:=m) (ρ:=ρ) i 0 len len cap hl hi
    rw [hρ] at this
    simpa using this
   ·obtain ⟨g0,g1⟩:=hq (k / 2) (by omega)
    simp only [add_cell] at g0 g1
    have h3:=List.getElem?_eq_getElem (l:=pc l) (i:=k) hk
    rcases (show k % 2=0∨k % 2=1 by omega) with h2|h2
    ·have hg:=pc_at0 (f:=l) (i:=k / 2) (by omega)
     rw [show k / 2*2=k by omega,h3] at hg
     rw [show o+k=o+k / 2*2 by omega,g0];exact hg.symm
    ·have hg:=pc_at1 (f:=l) (i:=k / 2) (by omega)
     rw [show k / 2*2+1=k by omega,h3] at hg
     rw [show o+k=o+k / 2*2+1 by omega,g1];exact hg.symm
end
structure ShArg (W:World) (v:Value) (S:Shp) (a b c:Pl):Prop where
 fit:S.fit
 rel:∀ (m:Nat) (ρ:Rho) (i j k:Nat),i<m→j<m→k<m→ρ i=a→ρ j=b→ρ k=c→VRel m ρ (shV i j k S) v
 d:∀ (ρ:Rho) (i m:Nat),ρ i=a→ints S.d ≠ []→(ρ i).b<W.heap.size∧∀ (k:Nat) (hk:k<(ints S.d).length),∃ v',W.cell? ⟨(ρ i).b,(ρ i).o+k,none⟩=some v'∧VRel m ρ (ints S.d)[k] v'
 f:∀ (ρ:Rho) (i m:Nat),ρ i=b→pc S.f ≠ []→(ρ i).b<W.heap.size∧∀ (k:Nat) (hk:k<(pc S.f).length),∃ v',W.cell? ⟨(ρ i).b,(ρ i).o+k,none⟩=some v'∧VRel m ρ (pc S.f)[k] v'
 s:∀ (ρ:Rho) (i m:Nat),ρ i=c→ints S.s ≠ []→(ρ i).b<W.heap.size∧∀ (k:Nat) (hk:k<(ints S.s).length),∃ v',W.cell? ⟨(ρ i).b,(ρ i).o+k,none⟩=some v'∧VRel m ρ (ints S.s)[k] v'
set_option maxRecDepth 100000 in
theorem read_shop {H:Type} {enc:TypeId×Value→H} {W:World} {b0:Nat} {v:Value} {d:DataW H} {p:List MemPlace} (hval:Value.okWide Try.prog W .any b0 26 v) (h:DataW.Trod enc Try.prog W 0 (fun _=>true) true 26 v d p) :
  ∃ (S:Shp) (a b c:Pl),ShArg W v S a b c:=by
 obtain ⟨cs,rfl,hsz⟩:=okWide_struct Try.underlying26 hval
 have k26:Try.prog.cellsOf 26=3:=by kernel_rfl
 have hsz3:cs.size=3:=hsz.trans k26
 obtain ⟨l⟩:=cs
 match l,hsz3 with
 |[c0,c1,c2],_ =>
  obtain ⟨fuel,hf⟩:=h
  obtain ⟨xs,n,_,_,_,hlen,hg⟩:=DataW.trod_struct Try.underlying26 hf
  match xs,hlen with
  |[y0,y1,y2],_ =>
   have k70:Try.prog.cellsOf 70=2:=by kernel_rfl
   have k3:Try.prog.cellsOf 3=1:=by kernel_rfl
   have k2:Try.prog.cellsOf 2=1:=by kernel_rfl
   have g0:=hg 0 _ rfl
   have g1:=hg 1 _ rfl
   have g2:=hg 2 _ rfl
   simp only [Value.cells,List.getElem?_cons_zero,List.getElem?_cons_succ] at g0 g1 g2
   obtain ⟨sd,a,hd⟩:=readF_ints Try.underlying22 Try.underlying2 k2 g0
   obtain ⟨sf,b,hf'⟩:=readF_pairs Try.underlying23 Try.underlying70 Try.underlying3 k70 k3 g1
   obtain ⟨ss,c,hs⟩:=readF_ints Try.underlying24 Try.underlying3 k3 g2
   refine ⟨⟨sd,sf,ss⟩,a,b,c,⟨hd.len,hf'.len,hs.len⟩,fun m ρ i j k hi hj hk h1 h2 h3=>?_,fun ρ i m hi hne=>hd.hro (ints_plain sd) ρ i m hi hne,fun ρ i m hi hne=>hf'.hro (pc_plain sf) ρ i m hi hne,fun ρ i m hi hne=>hs.hro (ints_plain ss) ρ i m hi hne⟩
   refine .agg _ _ rfl fun r hr _=>?_
   match r,hr with
   |0,_=>exact hd.rel m ρ i hi h1
   |1,_=>exact hf'.rel m ρ j hj h2
   |2,_=>exact hs.rel m ρ k hk h3
end Go.Proofs.Ytomioaiojidnbaa
namespace Go.AH
open Go Go.RowKit Go.WideShapes Go.ChangeShapes
theorem calls_lawD {P:Program} {f:FuncId} {args:List Value} {σ:Heap} {ρ:Rho} {ar:Array Value} {w:World} (h:ACall P f args σ fun v _=>v=.bool true)
  (hro:∀ i o,σ[i]?=some o→(∃ cs,o=.ro cs∧(cs ≠ []→(ρ i).b<w.heap.size∧∀ (k:Nat) (h:k<cs.length),∃ v',w.cell? ⟨(ρ i).b,(ρ i).o+k,none⟩=some v'∧VRel σ.length ρ cs[k] v')) ∨
   ∃ qs,o=.deep qs []∧(qs ≠ []→(ρ i).b<w.heap.size∧∀ (k:Nat) (h:k<qs.length),∃ v',w.cell? ⟨(ρ i).b,(ρ i).o+k,none⟩=some v'∧FRow (fun b=>b<w.heap.size) w qs[k] v'))
  (ha:ARel σ.length ρ args.toArray ar):Calls P f ar w fun e w'=>e=.returned (.bool true)∧Below w.heap.size w w':=by
 have hs:Sim (fun b=>b<w.heap.size) w ρ σ w:=by
  refine ⟨rfl,rfl,rfl,Nat.le_refl _,fun b hb=>⟨hb,rfl⟩,fun i o hi=>?_,fun i j oi oj hi hj hoi hoj _=>?_⟩
  ·rcases hro i o hi with ⟨cs,rfl,hc⟩|⟨qs,rfl,hc⟩
   ·exact fun hne=>hc hne
   ·exact ⟨fun hne=>hc hne,fun x hx=>by simp at hx⟩
  ·rcases hro i oi hi with ⟨cs,rfl,_⟩|⟨qs,rfl,_⟩
   ·exact hoi.elim
   ·exact hoi.elim
 refine Calls.mono (callsIn_wide.1 (h _ w ρ ar w hs ha)) ?_
 rintro e w' ⟨ρ',vr,v,σ',rfl,rfl,hv,hl,hag,hs'⟩
 exact ⟨by rw [vrel_plain_eq hv rfl],hs'.os,hs'.tape,hs'.output,hs'.size,fun k hk=>(hs'.fgn k hk).2⟩
section
variable {H:Type} {enc:TypeId×Value→H} {P:Program} {W:World}
theorem row_ints {t e:TypeId} {v:Value} {fuel:Nat} {x:DataW H×List MemPlace} (ht:P.underlying t=some (.slice e)) (he:P.underlying e=some (.int .i64)) (hc:P.cellsOf e=1)
  (hf:DataW.trod enc P W 0 (fun _=>true) true fuel t [v]=some x):∃ l:List Int,FRow (fun b=>b<W.heap.size) W (ints l) v:=by
 rcases open_ints ht he hc hf with ⟨hcs,-⟩|⟨a,len,cap,zs,hcs,-,hl,hm,hz,-,hcell,hwf⟩
 ·cases hcs
  exact ⟨[],none,0,rfl,by simp [ints],fun h=>absurd rfl h⟩
 ·cases hcs
  simp only [if_true] at hz
  have hlz:(zs.take len).length=len:=by rw [List.length_take];omega
  have hli:(ints (zs.take len)).length=len:=by rw [ints_length,hlz]
  refine ⟨zs.take len,some a,cap,by rw [hli],by rw [hli];exact hl,fun hne=>?_⟩
  have h0:len ≠ 0:=fun h=>hne (by subst h;rfl)
  have h1:=hcell 0 (by omega)
  have ha:a.add 0=a:=by simp [Addr.add]
  rw [ha] at h1
  obtain ⟨hb,hs⟩:=cell_lt h1
  obtain ⟨b,o,sp⟩:=a
  simp only at hb hs
  subst hs
  refine ⟨b,o,rfl,hb,fun k hk=>?_⟩
  have hk':k<len:=by omega
  have h2:=hcell k (by omega)
  have hk2:zs.getD k 0=(zs.take len)[k]'(by omega):=by
   rw [List.getElem_take,List.getD_eq_getElem?_getD,List.getElem?_eq_getElem (by omega)];rfl
  have ha2:(⟨b,o,none⟩:Addr).add k=⟨b,o+k,none⟩:=by
   unfold Addr.add
   split
   ·rename_i h;subst h;rfl
   ·rfl
  rw [ha2,hk2] at h2
  simpa [ints] using h2
end
end Go.AH
namespace Go.Proofs.Ytomioaiojidnbaa
open Go Go.AH Go.RowKit Go.WideShapes Go.ChangeShapes Go.AH.Dust
theorem listQ_of {Q:Nat→List Int→Prop} {n:Nat} (h:∀ i<n,∃ p,Q i p):∃ l:List (List Int),l.length=n∧∀ i<n,Q i (gq l i):=by
 induction n with
 |zero=>exact ⟨[],rfl,fun i hi=>by omega⟩
 |succ n ih =>
  obtain ⟨l,h1,h2⟩:=ih fun i hi=>h i (by omega)
  obtain ⟨p,hp⟩:=h n (by omega)
  refine ⟨l++[p],by simp [h1],fun i hi=>?_⟩
  by_cases hin:i<n
  ·have:gq (l++[p]) i=gq l i:=by simp only [gq,List.getD_eq_getElem?_getD];rw [List.getElem?_append_left (by omega)]
   rw [this];exact h2 i hin
  ·obtain rfl:i=n:=by omega
   have:gq (l++[p]) i=p:=by simp only [gq,List.getD_eq_getElem?_getD];rw [List.getElem?_append_right (by omega),h1,Nat.sub_self];rfl
   rw [this];exact hp
structure DpArg (W:World) (v:Value) (qs:List (List Int)) (pl:Pl):Prop where
 len:qs.length≤9223372036854775807
 rel:∀ (m:Nat) (ρ:Rho) (i:Nat),i<m→ρ i=pl→VRel m ρ (.slice (some ⟨i,0,none⟩) qs.length qs.length) v
 cells:rowsQ qs ≠ []→pl.b<W.heap.size∧∀ (k:Nat) (h:k<(rowsQ qs).length),∃ v',W.cell? ⟨pl.b,pl.o+k,none⟩=some v'∧FRow (fun b=>b<W.heap.size) W (rowsQ qs)[k] v'
set_option maxRecDepth 100000 in
theorem read_rows {H:Type} {enc:TypeId×Value→H} {W:World} {b0:Nat} {v:Value} {d:DataW H} {p:List MemPlace} (hval:Value.okWide Try.prog W .any b0 42 v) (h:DataW.Trod enc Try.prog W 0 (fun _=>true) true 42 v d p) :
  ∃ (qs:List (List Int)) (pl:Pl),DpArg W v qs pl:=by
 obtain ⟨a0,len,cap,rfl⟩:=okWide_slice Try.underlying42 hval
 obtain ⟨fuel,hf⟩:=h
 have k25:Try.prog.cellsOf 22=1:=by kernel_rfl
 have hempty:∃ (qs:List (List Int)) (pl:Pl),DpArg W (.slice a0 0 cap) qs pl :=
  ⟨[],⟨0,0,0⟩,⟨by simp,fun m ρ i hi hρ=>.emptySlice _ _ _ _,fun h=>absurd rfl h⟩⟩
 rcases Deep.open_slice1 Try.underlying42 k25 hf with ⟨hcs,-⟩|⟨a,len',cap',m,n,V,D,Pl,hcs,-,hl,hm,hmm,-,hi⟩
 ·have hcs':Value.slice a0 len cap=Value.slice none 0 0:=by simpa [Value.cells] using hcs
  cases hcs'
  exact hempty
 ·have hcs':Value.slice a0 len cap=Value.slice (some a) len' cap':=by simpa [Value.cells] using hcs
  cases hcs'
  simp only [if_true] at hmm
  by_cases h0:len=0
  ·subst h0;exact hempty
  ·have each:∀ i<len,∃ q:List Int,W.cell? (a.add i)=some (V i)∧FRow (fun b=>b<W.heap.size) W (ints q) (V i):=fun i hil=>by
    obtain ⟨h1,h2⟩:=hi i (by omega)
    obtain ⟨q,hq⟩:=row_ints Try.underlying22 Try.underlying2 (by kernel_rfl) h2
    exact ⟨q,h1,hq⟩
   obtain ⟨qs,hll,hq⟩:=listQ_of each
   have h1:=(hq 0 (by omega)).1
   have ha:a.add 0=a:=by simp [Addr.add]
   rw [ha] at h1
   obtain ⟨hb,hs⟩:=cell_lt h1
   obtain ⟨b,o,sp⟩:=a
   simp only at hb hs
   subst hs
   have hm':len≤9223372036854775807:=by unfold maxLen at hm;omega
   refine ⟨qs,⟨b,o,0⟩,⟨by omega,fun m ρ i hi hρ=>?_,fun _=>⟨hb,fun k hk=>?_⟩⟩⟩
   ·rw [hll]
    have:=VQ.slice (q:=false) (n:=m) (ρ:=ρ) i 0 len len cap hl hi
    rw [hρ] at this
    simpa using this
   ·have hk':k<len:=by rw [rowsQ_len] at hk;omega
    obtain ⟨h2,h3⟩:=hq k hk'
    have ha2:(⟨b,o,none⟩:Addr).add k=⟨b,o+k,none⟩:=add_cell
    rw [ha2] at h2
    have he:=rowsQ_get (qs:=qs) (i:=k) (by omega)
    rw [List.getElem?_eq_getElem hk] at he
    rw [Option.some.inj he]
    exact ⟨_,h2,h3⟩
end Go.Proofs.Ytomioaiojidnbaa
