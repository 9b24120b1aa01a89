/- Rules for abstract heaps, third part: slices, copies, appends, maps keyed by pairs, range loops, labels. Conditions: stand in each theorem. -/
import Derived.Test.YtomioaiojidnbaaDtMB
import Derived.WideKeyRuns
import Derived.Laws.IdiomRangeMap
import Derived.ChangeKeysEq
namespace Go.AH
open Go
def DeepIn (σ:Heap) (p:Pl) (qs:List (List Value)):Prop :=
 (p.o=0∧∃ sp,σ[p.b]?=some (.deep qs sp)) ∨
 ∃ cs',cellsAt σ p.b p.o qs.length=some cs'∧∀ (k:Nat) (h:k<qs.length) (h':k<cs'.length),plainL qs[k]=true∧∃ i o c,cs'[k]=.slice (some ⟨i,o,none⟩) qs[k].length c∧qs[k].length≤c∧(qs[k]=[]∨cellsAt σ i o qs[k].length=some qs[k])
def FR (σ1 σ:Heap) (π:Rho):Prop :=
 ∀ k o,σ1[k]?=some o→(∃ cs,o=.ro cs∧(cs=[]∨∃ cs',cellsAt σ (π k).b (π k).o cs.length=some cs'∧∀ (j:Nat) (h:j<cs.length) (h':j<cs'.length),VSub σ1.length π cs[j] cs'[j])) ∨
  ∃ qs,o=.deep qs []∧(qs=[]∨DeepIn σ (π k) qs)
def isIter:AObj→Bool
 |.iter _ _=>true
 |_=>false
def isMem:AObj→Bool
 |.dead|.rw _|.gr _ _=>true
 |_=>false
def renO (r:Rho):AObj→AObj
 |.rw cs=>.rw (renL r cs)
 |.gr cs e=>.gr (renL r cs) e
 |o=>o
def shf (n1 n:Nat) (π:Rho):Rho:=fun i=>if i<n1 then π i else ⟨n+(i - n1),0,0⟩
theorem shf_lt {n1 n i:Nat} {π:Rho} (h:i<n1):shf n1 n π i=π i:=by simp [shf,h]
theorem shf_ge {n1 n i:Nat} {π:Rho} (h:¬ i<n1):shf n1 n π i=⟨n+(i - n1),0,0⟩:=by simp [shf,h]
theorem cellsAt_obj {σ:Heap} {b o n:Nat} {cs:List Value} (h:cellsAt σ b o n=some cs):∃ x,σ[b]?=some x∧((∃ l,x=.ro l∧o+n≤l.length)∨(∃ l,(x=.rw l∨∃ t,x=.gr l t)∧o+n≤l.length)∨∃ qs sp v,x=.deep qs sp∧spGet sp o=some v):=by
 unfold cellsAt at h
 split at h
 ·rename_i l hl
  refine ⟨_,hl,.inl ⟨l,rfl,?_⟩⟩
  cases hb:Nat.ble (o+n) l.length with
  |true=>exact Nat.le_of_ble_eq_true hb
  |false=>simp [hb] at h
 ·rename_i l hl
  refine ⟨_,hl,.inr (.inl ⟨l,.inl rfl,?_⟩)⟩
  cases hb:Nat.ble (o+n) l.length with
  |true=>exact Nat.le_of_ble_eq_true hb
  |false=>simp [hb] at h
 ·rename_i l t hl
  refine ⟨_,hl,.inr (.inl ⟨l,.inr ⟨t,rfl⟩,?_⟩)⟩
  cases hb:Nat.ble (o+n) l.length with
  |true=>exact Nat.le_of_ble_eq_true hb
  |false=>simp [hb] at h
 ·rename_i qs sp hl
  cases hn:Nat.beq n 1 with
  |false=>simp [hn] at h
  |true =>
   simp only [hn,cond_true,Option.map_eq_some_iff] at h
   obtain ⟨v,hv,_⟩:=h
   exact ⟨_,hl,.inr (.inr ⟨qs,sp,v,rfl,hv⟩)⟩
 ·simp at h
def own (G:Nat→Prop) (ρ:Rho) (σ:Heap):Nat→Prop:=fun b=>G b∨∃ i o,σ[i]?=some o∧o.owned∧(ρ i).b=b
theorem plainL_at:∀ {l:List Value},plainL l=true→∀ (i:Nat) (h:i<l.length),plain l[i]=true
 |[],_,i,h=>by simp at h
 |v::l,hp,i,h=>by
  simp only [plainL,Bool.and_eq_true] at hp
  cases i with
  |zero=>exact hp.1
  |succ i=>exact plainL_at hp.2 i (by simpa using h)
theorem own_cells {G:Nat→Prop} {w0 w:World} {ρ:Rho} {σ:Heap} (hs:Sim G w0 ρ σ w) {b o n:Nat} {cs:List Value} (hc:cellsAt σ b o n=some cs) (hpos:0<n):own G ρ σ (ρ b).b:=by
 obtain ⟨x,hx,h⟩:=cellsAt_obj hc
 rcases h with ⟨l,rfl,hle⟩|⟨l,h,hle⟩|⟨qs,sp,v,rfl,hv⟩
 ·have hl0:l ≠ []:=fun h=>by subst h;simp only [List.length_nil] at hle;omega
  exact .inl (hs.obj _ _ hx hl0).1
 ·have hl0:l ≠ []:=fun h=>by subst h;simp only [List.length_nil] at hle;omega
  refine .inr ⟨b,x,hx,?_,rfl⟩
  rcases h with rfl|⟨t,rfl⟩
  ·exact hl0
  ·exact hl0
 ·exact .inl ((hs.obj _ _ hx).2 _ (spGet_mem hv)).1
theorem vrel_slice_inv {n:Nat} {ρ:Rho} {i o l c:Nat} {v':Value} (h:VRel n ρ (.slice (some ⟨i,o,none⟩) l c) v'):(l=0∧∃ a c',v'=.slice a 0 c')∨∃ c',c≤c'∧v'=.slice (some ⟨(ρ i).b,(ρ i).o+o,none⟩) l c':=by
 cases h with
 |emptySlice _ _ a c'=>exact .inl ⟨rfl,a,c',rfl⟩
 |slice _ _ _ _ c' hc _=>exact .inr ⟨c',hc,rfl⟩
 |sliceG _ _ _ _ c' _ hc _ hq=>cases hq
theorem sim_enter {G:Nat→Prop} {w0 w:World} {ρ:Rho} {σ σ1:Heap} {π:Rho} (hs:Sim G w0 ρ σ w) (hf:FR σ1 σ π):Sim (own G ρ σ) w (comp ρ π) σ1 w where
 os:=rfl
 tape:=rfl
 output:=rfl
 size:=Nat.le_refl _
 fgn b hb:=by
  refine ⟨?_,rfl⟩
  rcases hb with hb|⟨i,o,hi,ho,rfl⟩
  ·have:=(hs.fgn b hb).1;have:=hs.size;omega
  ·exact (orel_block (hs.obj i o hi) ho).1
 obj k o hk:=by
  rcases hf k o hk with ⟨cs,rfl,hc⟩|⟨qs,rfl,hc⟩
  ·intro hne
   rcases hc with hc|⟨cs',hc,hv⟩
   ·exact absurd hc hne
   obtain ⟨hl,hrd⟩:=cellsAt_rel hs hc
   have hpos:0<cs.length:=List.length_pos_iff.2 hne
   refine ⟨own_cells hs hc hpos,fun j hj=>?_⟩
   obtain ⟨v',h1,h2⟩:=hrd j (by omega)
   exact ⟨v',by simpa [comp,Nat.add_assoc] using h1,(hv j hj (by omega)).trans h2⟩
  ·refine ⟨fun hne=>?_,fun x hx=>by simp at hx⟩
   have hpos:0<qs.length:=List.length_pos_iff.2 hne
   rcases hc.resolve_left hne with ⟨h0,sp,hc⟩|⟨cs',hc,hv⟩
   ·obtain ⟨g1,g2⟩:=(hs.obj _ _ hc).1 hne
    refine ⟨.inl g1,fun j hj=>?_⟩
    obtain ⟨v',h1,h2⟩:=g2 j hj
    exact ⟨v',by simpa [comp,h0] using h1,frow_mono h2 (fun _=>.inl) (fun _ _ _ hy=>hy)⟩
   ·obtain ⟨hl,hrd⟩:=cellsAt_rel hs hc
    refine ⟨own_cells hs hc hpos,fun j hj=>?_⟩
    obtain ⟨v',h1,h2⟩:=hrd j (by omega)
    obtain ⟨hp,i,o,c,h3,h4,h5⟩:=hv j hj (by omega)
    rw [h3] at h2
    refine ⟨v',by simpa [comp,Nat.add_assoc] using h1,?_⟩
    rcases vrel_slice_inv h2 with ⟨h6,a,c',rfl⟩|⟨c',h6,rfl⟩
    ·have hq:qs[j]=[]:=List.eq_nil_of_length_eq_zero h6
     exact ⟨a,c',by rw [hq];rfl,by rw [hq];exact Nat.zero_le _,fun hq'=>absurd hq hq'⟩
    ·refine ⟨_,c',rfl,by omega,fun hq=>⟨_,_,rfl,?_,?_⟩⟩
     ·exact own_cells hs (h5.resolve_left hq) (List.length_pos_iff.2 hq)
     ·intro m hm
      obtain ⟨_,hrd2⟩:=cellsAt_rel hs (h5.resolve_left hq)
      obtain ⟨v2,h7,h8⟩:=hrd2 m hm
      have:=vrel_plain_eq h8 (plainL_at hp m hm)
      subst this
      exact h7
 inj i j oi oj hi _ hoi:=by
  rcases hf i oi hi with ⟨cs,rfl,_⟩|⟨qs,rfl,_⟩
  ·exact hoi.elim
  ·exact hoi.elim
theorem sim_leave {G:Nat→Prop} {w0 w w':World} {ρ ρ1:Rho} {σ σ1 news:Heap} {π:Rho} (hs:Sim G w0 ρ σ w) (hni:σ.all (fun o=>!isIter o)=true) (hm:news.all isMem=true)
  (hπ:∀ k < σ1.length,(π k).b < σ.length) (hag:∀ k < σ1.length,ρ1 k=comp ρ π k) (hs1:Sim (own G ρ σ) w ρ1 (σ1++news) w') :
  ∃ ρ':Rho,(∀ i < σ.length,ρ' i=ρ i)∧(∀ k<(σ1++news).length,ρ1 k=comp ρ' (shf σ1.length σ.length π) k)∧Sim G w0 ρ' (σ++news.map (renO (shf σ1.length σ.length π))) w':=by
 let ρ':Rho:=fun i=>if i < σ.length then ρ i else ρ1 (σ1.length+(i - σ.length))
 have hlt:∀ i < σ.length,ρ' i=ρ i:=fun i hi=>by simp only [ρ'];rw [if_pos hi]
 have hcomp:∀ k<(σ1++news).length,ρ1 k=comp ρ' (shf σ1.length σ.length π) k:=by
  intro k hk
  by_cases hk1:k < σ1.length
  ·rw [hag k hk1]
   simp only [comp,shf_lt hk1,hlt _ (hπ k hk1)]
  ·have h0:¬ (σ.length+(k - σ1.length) < σ.length):=by omega
   simp only [comp,shf_ge hk1,ρ']
   rw [if_neg h0,show σ1.length+(σ.length+(k - σ1.length) - σ.length)=k from by omega]
   simp
 have hnew:∀ (q:Nat) (o:AObj),(σ++news.map (renO (shf σ1.length σ.length π)))[q]?=some o→¬ q < σ.length→∃ o1,(σ1++news)[σ1.length+(q - σ.length)]?=some o1∧o=renO (shf σ1.length σ.length π) o1∧isMem o1=true:=by
  intro q o hq hlt
  rw [List.getElem?_append_right (by omega),List.getElem?_map] at hq
  obtain ⟨o1,h1,h2⟩:=Option.map_eq_some_iff.1 hq
  exact ⟨o1,by rw [List.getElem?_append_right (by omega),← h1];congr 1;omega,h2.symm,List.all_eq_true.1 hm o1 (List.mem_of_getElem? h1)⟩
 have rown:∀ o1:AObj,isMem o1=true→(renO (shf σ1.length σ.length π) o1).owned→o1.owned:=by
  intro o1 h1 h2
  cases o1 with
  |dead=>exact h2
  |rw cs=>intro hc;subst hc;exact h2 rfl
  |gr cs t=>intro hc;subst hc;exact h2 rfl
  |_=>simp [isMem] at h1
 have hlen:(σ++news.map (renO (shf σ1.length σ.length π))).length=σ.length+news.length:=by simp
 refine ⟨ρ',hlt,hcomp,hs1.os.trans hs.os,hs1.tape.trans hs.tape,hs1.output.trans hs.output,Nat.le_trans hs.size hs1.size,fun b hb=>?_,fun q o hq=>?_,fun p q op oq hp hq hop hoq hpq=>?_⟩
 ·obtain ⟨h1,h2⟩:=hs.fgn b hb
  exact ⟨h1,((hs1.fgn b (.inl hb)).2).trans h2⟩
 ·rw [hlen]
  by_cases hql:q < σ.length
  ·rw [List.getElem?_append_left hql] at hq
   rw [hlt q hql]
   have hr:=hs.obj q o hq
   by_cases hown:o.owned∨∃ cs,o=.ro cs∧cs ≠ []
   ·refine orel_mono hr (by omega) hlt (fun x hx=>?_) (fun k seen hk=>?_) (fun k hk x hx=>?_)
    ·rw [(hs1.fgn _ ?_).2];exact hx
     rcases hown with ho|⟨cs,rfl,hcs⟩
     ·exact .inr ⟨q,o,hq,ho,rfl⟩
     ·exact .inl (hr hcs).1
    ·subst hk
     have:=List.all_eq_true.1 hni _ (List.mem_of_getElem? hq)
     simp [isIter] at this
    ·rw [(hs1.fgn _ (.inl hk)).2];exact hx
   ·cases o with
    |dead=>trivial
    |ro cs=>intro hc;exact absurd (.inr ⟨cs,rfl,hc⟩) hown
    |rw cs=>intro hc;exact absurd (.inl hc) hown
    |gr cs t=>intro hc;exact absurd (.inl hc) hown
    |deep qs sp =>
     have hfor:∀ b,G b→∀ y,w.heap[b]?=some y→w'.heap[b]?=some y:=fun b hb y hy=>by rw [(hs1.fgn b (.inl hb)).2];exact hy
     refine ⟨fun hq=>?_,fun y hy=>?_⟩
     ·obtain ⟨g1,g2⟩:=hr.1 hq
      refine ⟨g1,fun k hk=>?_⟩
      obtain ⟨v',g3,g4⟩:=g2 k hk
      exact ⟨v',cell_keep g3 (hfor _ g1),frow_mono g4 (fun _ h=>h) hfor⟩
     ·obtain ⟨g1,v',g3,g4⟩:=hr.2 y hy
      exact ⟨g1,v',cell_keep g3 (hfor _ g1),g4.mono (by omega) hlt⟩
    |_=>exact absurd (.inl trivial) hown
  ·obtain ⟨o1,h1,rfl,h3⟩:=hnew q o hq hql
   have hr:=hs1.obj _ _ h1
   have hpl:ρ' q=ρ1 (σ1.length+(q - σ.length)):=by simp only [ρ'];rw [if_neg hql]
   rw [hpl]
   have hGn:∀ {p:Nat},¬ own G ρ σ p→¬ G p:=fun h hg=>h (.inl hg)
   have hto:∀ v v':Value,VRel (σ1++news).length ρ1 v v'→VRel (σ.length+news.length) ρ' (ren (shf σ1.length σ.length π) v) v':=by
    intro v v' hv
    have hv2:=hv.mono (m:=(σ1++news).length) (ρ':=comp ρ' (shf σ1.length σ.length π)) (Nat.le_refl _) (fun k hk=>(hcomp k hk).symm)
    refine vrel_to_ren (fun i hi=>?_) hv2
    by_cases hi1:i < σ1.length
    ·rw [shf_lt hi1];have:=hπ i hi1;omega
    ·rw [shf_ge hi1];simp only [List.length_append] at hi;simp only;omega
   cases o1 with
   |dead=>trivial
   |rw cs =>
    intro hne
    have hcs:cs ≠ []:=fun hc=>by subst hc;exact hne rfl
    obtain ⟨g1,g2,rc,t,g3,g4,g5⟩:=hr hcs
    refine ⟨hGn g1,g2,rc,t,g3,by rw [renL_eq];simpa using g4,fun k hk hk'=>?_⟩
    simp only [renL_eq] at hk ⊢
    rw [List.getElem_map]
    exact hto _ _ (g5 k (by simpa using hk) hk')
   |gr cs t =>
    intro hne
    have hcs:cs ≠ []:=fun hc=>by subst hc;exact hne rfl
    obtain ⟨g1,g2,rc,g3,g3',g4,g5⟩:=hr hcs
    refine ⟨hGn g1,g2,rc,g3,g3',by rw [renL_eq];simpa using g4,fun k hk hk'=>?_⟩
    simp only [renL_eq] at hk ⊢
    rw [List.getElem_map]
    exact hto _ _ (g5 k (by simpa using hk) hk')
   |_=>simp [isMem] at h3
 ·by_cases hpl:p < σ.length <;> by_cases hql:q < σ.length
  ·rw [List.getElem?_append_left hpl] at hp
   rw [List.getElem?_append_left hql] at hq
   rw [hlt p hpl,hlt q hql] at hpq
   exact hs.inj p q op oq hp hq hop hoq hpq
  ·obtain ⟨o1,h1,rfl,h3⟩:=hnew q oq hq hql
   rw [List.getElem?_append_left hpl] at hp
   have:=(orel_block (hs1.obj _ _ h1) (rown _ h3 hoq)).2
   exfalso;apply this
   refine .inr ⟨p,op,hp,hop,?_⟩
   rw [hlt p hpl] at hpq
   rw [hpq];simp only [ρ'];rw [if_neg hql]
  ·obtain ⟨o1,h1,rfl,h3⟩:=hnew p op hp hpl
   rw [List.getElem?_append_left hql] at hq
   have:=(orel_block (hs1.obj _ _ h1) (rown _ h3 hop)).2
   exfalso;apply this
   refine .inr ⟨q,oq,hq,hoq,?_⟩
   rw [hlt q hql] at hpq
   rw [← hpq];simp only [ρ'];rw [if_neg hpl]
  ·obtain ⟨o1,h1,rfl,h3⟩:=hnew p op hp hpl
   obtain ⟨o2,h4,rfl,h6⟩:=hnew q oq hq hql
   have e1:ρ' p=ρ1 (σ1.length+(p - σ.length)):=by simp only [ρ'];rw [if_neg hpl]
   have e2:ρ' q=ρ1 (σ1.length+(q - σ.length)):=by simp only [ρ'];rw [if_neg hql]
   rw [e1,e2] at hpq
   have:=hs1.inj _ _ _ _ h1 h4 (rown _ h3 hop) (rown _ h6 hoq) hpq
   omega
section
variable {P:Program} {σ σ1:Heap} {π:Rho} {f:FuncId}
theorem ACall.frame {args1 args:List Value} {R1 R:Value→Heap→Prop} (h:ACall P f args1 σ1 R1) (hf:FR σ1 σ π) (hπ:∀ k < σ1.length,(π k).b < σ.length) (hni:σ.all (fun o=>!isIter o)=true)
  (hl:args1.length=args.length) (ha:∀ (i:Nat) (h:i<args1.length) (h':i<args.length),VSub σ1.length π args1[i] args[i])
  (hR:∀ v1 σ1',R1 v1 σ1'→∃ news,σ1'=σ1++news∧news.all isMem=true∧R (ren (shf σ1.length σ.length π) v1) (σ++news.map (renO (shf σ1.length σ.length π)))):ACall P f args σ R:=by
 intro G w0 ρ ar w hs har
 have hs1:=sim_enter hs hf
 have hl2:args.length=ar.size:=by simpa using har.1
 refine (h (own G ρ σ) w (comp ρ π) ar w hs1 ⟨by simp;omega,fun i hi hi'=>?_⟩).mono ?_
 ·have h1:=ha i (by simpa using hi) (by omega)
  exact h1.trans (har.2 i (by simp;omega) hi')
 ·rintro en w' ⟨ρ1',vr,v1,σ1',rfl,hr1,hv,hle,hag,hs2⟩
  obtain ⟨news,rfl,hm,hr⟩:=hR v1 σ1' hr1
  obtain ⟨ρ',k1,k2,k3⟩:=sim_leave hs hni hm hπ hag hs2
  refine ⟨ρ',vr,_,_,rfl,hr,?_,by simp,k1,k3⟩
  have hv2:=hv.mono (m:=(σ1++news).length) (ρ':=comp ρ' (shf σ1.length σ.length π)) (Nat.le_refl _) (fun k hk=>(k2 k hk).symm)
  refine vrel_to_ren (fun i hi=>?_) hv2
  by_cases hi1:i < σ1.length
  ·rw [shf_lt hi1];have:=hπ i hi1;simp;omega
  ·rw [shf_ge hi1];simp only [List.length_append] at hi;simp;omega
theorem Ev.nil {args:List Value} {v:Value} (h:Ev P f args [] v []) (hp:plainL args=true) (hv:plain v=true) (hni:σ.all (fun o=>!isIter o)=true):Ev P f args σ v σ:=by
 refine ACall.frame (π:=fun i=>⟨i,0,0⟩) h (fun k o hk=>by simp at hk) (fun k hk=>by simp at hk) hni rfl (fun i hi hi'=>vrel_plainA args.toArray (by simpa [plainA] using hp) i (by simpa using hi)) ?_
 rintro v1 s1 ⟨rfl,rfl⟩
 exact ⟨[],rfl,rfl,ren_plain _ hv,by simp⟩
end
end Go.AH
namespace Go.AH
open Go
def EnvSub (e:Env):Env→Prop
 |[]=>True
 |(t,v)::r=>Env.get e t=some v∧EnvSub e r
theorem envSub_mem {e:Env}:∀ {e2:Env},EnvSub e e2→∀ p ∈ e2,Env.get e p.1=some p.2
 |[],_,p,hp=>by simp at hp
 |(t,v)::r,h,p,hp=>by
  rcases List.mem_cons.1 hp with rfl|hp
  ·exact h.1
  ·exact envSub_mem h.2 p hp
def EnvRen (n:Nat) (π:Rho) (e:Env):Env→Prop
 |[]=>True
 |(t,v2)::r=>(∃ v,Env.get e t=some v∧VSub n π v2 v)∧EnvRen n π e r
theorem envRen_ref {n:Nat} {π:Rho} {e:Env}:∀ {e2:Env},EnvRen n π e e2→ERef n π e e2
 |[],_,p,hp=>by simp at hp
 |(t,v)::r,h,p,hp=>by
  rcases List.mem_cons.1 hp with rfl|hp
  ·exact h.1
  ·exact envRen_ref h.2 p hp
theorem er_plain {n:Nat} {π:Rho} {e:Env} {t:Nat} {v:Value} (h:Env.get e t=some v) (hp:plain v=true):∃ u,Env.get e t=some u∧VSub n π v u:=⟨v,h,vrel_plain v hp⟩
theorem er_closed {n m:Nat} {π:Rho} {e:Env} {t:Nat} {v:Value} (h:Env.get e t=some v) (hπ:∀ i<m,π i=⟨i,0,0⟩) (hm:m≤n) (hc:closed m v=true) (ho:okV v=true):∃ u,Env.get e t=some u∧VSub n π v u :=
 ⟨v,h,vsub_refl hπ hm v hc ho⟩
theorem vsub_slvV {n:Nat} {π:Rho} {i j sz k:Nat} (hi:i<n) (hj:π i=⟨j,0,0⟩):VSub n π (slvV i sz k) (slvV j sz k):=by
 cases k with
 |zero=>exact .nilSlice
 |succ k =>
  have:=VQ.gsliceG (q:=true) (n:=n) (ρ:=π) i 0 (k+1) (k+1) (k+1) sz (Nat.le_refl _) hi rfl
  simpa [slvV,hj] using this
theorem vsub_slvR {n:Nat} {π:Rho} {i j sz k:Nat} (hi:i<n) (hj:π i=⟨j,0,0⟩):VSub n π (.slice (some ⟨i,0,none⟩) k k) (slvV j sz k):=by
 cases k with
 |zero=>exact .emptySlice _ _ _ _
 |succ k =>
  have:=VQ.sliceG (q:=true) (n:=n) (ρ:=π) i 0 (k+1) (k+1) (k+1) sz (Nat.le_refl _) hi rfl
  simpa [slvV,hj] using this
theorem vsub_sl {n:Nat} {π:Rho} {i j k c c':Nat} (hi:i<n) (hj:π i=⟨j,0,0⟩) (hc:c≤c'):VSub n π (.slice (some ⟨i,0,none⟩) k c) (.slice (some ⟨j,0,none⟩) k c'):=by
 have:=VQ.slice (q:=true) (n:=n) (ρ:=π) i 0 k c c' hc hi
 simpa [hj] using this
theorem er_slvV {n:Nat} {π:Rho} {e:Env} {t i j sz k:Nat} (h:Env.get e t=some (slvV j sz k)) (hi:i<n) (hj:π i=⟨j,0,0⟩):∃ u,Env.get e t=some u∧VSub n π (slvV i sz k) u:=⟨_,h,vsub_slvV hi hj⟩
theorem er_nil {n:Nat} {π:Rho} {e:Env} {t i sz:Nat} (h:Env.get e t=some (.slice none 0 0)):∃ u,Env.get e t=some u∧VSub n π (slvV i sz 0) u:=⟨_,h,.nilSlice⟩
def StRef (n0:Nat) (σ σ2:Heap) (e e2:Env):Prop :=
 (σ2=σ∧EnvSub e e2)∨((∀ (i:Nat) (o:AObj),σ[i]?=some o→oclosed σ.length o)→∃ π,HRef n0 π σ σ2∧ERef σ2.length π e e2)
section
variable {P:Program} {n0 N:Nat} {rd:Option Nat} {Q:Post} {e e2:Env} {mk:List Nat} {σ σ2:Heap}
theorem inv_ref {G:Nat→Prop} {w0:World} {ρ0:Rho} {A:Act} {w:World} (h:StRef n0 σ σ2 e e2) (hm:∀ i ∈ mk,i<n0) (hi:Inv n0 N G w0 ρ0 e mk σ A w):Inv n0 N G w0 ρ0 e2 mk σ2 A w:=by
 obtain ⟨h0,ρ,ha,hs,ht,hmk,hmb⟩:=hi
 rcases h with ⟨rfl,he⟩|h
 ·exact ⟨h0,ρ,ha,hs,⟨ht.1,fun t v hv=>ht.2 t v (envSub_mem he _ (env_mem hv))⟩,hmk,hmb⟩
 ·obtain ⟨π,hh,he⟩:=h fun i o hi=>orel_closed (hs.obj i o hi)
  exact ⟨hh.le,comp ρ π,fun i hi=>(comp_id (hh.id i hi)).trans (ha i hi),sim_ref hh hs,trel_ref he ht,by rw [hmk];congr 1;exact List.map_congr_left fun i hi=>by rw [comp_id (hh.id i (hm i hi))],fun i hi=>Nat.lt_of_lt_of_le (hm i hi) hh.le⟩
theorem W_st (hm:∀ i ∈ mk,i<n0) (h:StRef n0 σ σ2 e e2) {c:Code} (k:WCode P n0 N rd c Q e2 mk σ2):WCode P n0 N rd c Q e mk σ:=fun G w0 ρ0 A w hi=>k G w0 ρ0 A w (inv_ref h hm hi)
theorem W_loopS {ι:Type} (E:ι→Env) (S:ι→Heap) (μ:ι→Nat) (p:ι→Prop) (i0:ι) {body:Code} (hm:∀ i ∈ mk,i<n0) (h0:StRef n0 σ (S i0) e (E i0)) (hp:p i0)
  (round:∀ i,p i→WCode P n0 N rd body (thenQ (fun e' mk' σ'=>mk'=mk∧∃ i',p i'∧μ i' < μ i∧StRef n0 σ' (S i') e' (E i')) Q) (E i) mk (S i)):WCode P n0 N rd (.loop body) Q e mk σ:=by
 refine W_loop (fun m e1 mk1 σ1=>mk1=mk∧∃ i,p i∧μ i=m∧StRef n0 σ1 (S i) e1 (E i)) (m0:=μ i0) ⟨rfl,i0,hp,rfl,h0⟩ ?_
 rintro m e1 mk1 σ1 ⟨rfl,i,hpi,rfl,hst⟩
 refine W_st hm hst ((round i hpi).mono ?_)
 intro ex e' mk' σ' h
 cases ex with
 |normal =>
  obtain ⟨h1,i',h2,h3,h4⟩:=h
  exact ⟨μ i',h3,h1,i',h2,rfl,h4⟩
 |_=>exact h
theorem StRef.same (h:EnvSub e e2):StRef n0 σ σ e e2:=.inl ⟨rfl,h⟩
def HClosed (n:Nat):Heap→Prop
 |[]=>True
 |o::r=>oclosed n o∧HClosed n r
theorem hclosed_get {n:Nat}:∀ {σ:Heap},HClosed n σ→∀ (i:Nat) (o:AObj),σ[i]?=some o→oclosed n o
 |[],_,i,o,h=>by simp at h
 |x::r,hc,i,o,h=>by
  cases i with
  |zero=>simp at h;subst h;exact hc.1
  |succ i=>exact hclosed_get hc.2 i o (by simpa using h)
def srcR (n:Nat) (l:List Nat):Rho:=fun i=>if i<n then ⟨i,0,0⟩ else match l[i - n]? with|some j=>⟨j,0,0⟩|none=>⟨i,0,0⟩
theorem srcR_lt {n i:Nat} {l:List Nat} (h:i<n):srcR n l i=⟨i,0,0⟩:=by simp [srcR,h]
def OSubs (σ:Heap) (n:Nat) (π:Rho) (k:Nat):Heap→Prop
 |[]=>True
 |o::r=>OSub σ n π (π k) o∧OSubs σ n π (k+1) r
theorem osubs_get {σ:Heap} {n:Nat} {π:Rho}:∀ {news:Heap} {k:Nat},OSubs σ n π k news→∀ (j:Nat) (o:AObj),news[j]?=some o→OSub σ n π (π (k+j)) o
 |[],_,_,j,o,h=>by simp at h
 |x::r,k,hc,j,o,h=>by
  cases j with
  |zero=>simp at h;subst h;exact hc.1
  |succ j=>have:=osubs_get hc.2 j o (by simpa using h);rwa [show k+1+j=k+(j+1) from by omega] at this
def distinctFrom (n:Nat) (l:List Nat):Bool:=l.all (Nat.ble n) && decide l.Nodup
theorem href_src {σ0 news:Heap} (l:List Nat) (hn0:n0≤σ0.length) (hσ:σ.take σ0.length=σ0) (hcl:HClosed σ0.length σ0) (hl:l.length=news.length) (hd:distinctFrom σ0.length l=true)
  (ho:OSubs σ (σ0.length+news.length) (srcR σ0.length l) σ0.length news):HRef n0 (srcR σ0.length l) σ (σ0++news):=by
 simp only [distinctFrom,Bool.and_eq_true,List.all_eq_true,decide_eq_true_eq] at hd
 have hsrc:∀ j (hj:j<l.length),srcR σ0.length l (σ0.length+j)=⟨l[j],0,0⟩:=fun j hj=>by
  simp only [srcR]
  rw [if_neg (by omega),show σ0.length+j - σ0.length=j from by omega,List.getElem?_eq_getElem hj]
 refine ⟨by simp;omega,fun i hi=>srcR_lt (by omega),fun i o2 hi=>?_,fun i j oi oj hi hj _ _ hij=>?_⟩
 ·rw [List.length_append]
  by_cases hlt:i < σ0.length
  ·rw [List.getElem?_append_left hlt] at hi
   exact osub_refl (fun i hi=>srcR_lt hi) (by omega) hlt (take_get hσ hi) (hclosed_get hcl i o2 hi)
  ·rw [List.getElem?_append_right (by omega)] at hi
   have:=osubs_get ho _ o2 hi
   rwa [show σ0.length+(i - σ0.length)=i from by omega] at this
 ·have h1:=idx_lt hi
  have h2:=idx_lt hj
  simp only [List.length_append] at h1 h2
  have ge:∀ q,¬ q < σ0.length→q < σ0.length+news.length→∃ h:q - σ0.length<l.length,(srcR σ0.length l q).b=l[q - σ0.length]∧σ0.length≤l[q - σ0.length]:=by
   intro q hq hq2
   have h:q - σ0.length<l.length:=by omega
   have:=hsrc (q - σ0.length) h
   rw [show σ0.length+(q - σ0.length)=q from by omega] at this
   exact ⟨h,by rw [this],Nat.le_of_ble_eq_true (hd.1 _ (List.getElem_mem h))⟩
  by_cases hli:i < σ0.length <;> by_cases hlj:j < σ0.length
  ·rw [srcR_lt hli,srcR_lt hlj] at hij;exact hij
  ·obtain ⟨h,e1,e2⟩:=ge j hlj h2
   rw [srcR_lt hli,e1] at hij;simp only at hij;omega
  ·obtain ⟨h,e1,e2⟩:=ge i hli h1
   rw [srcR_lt hlj,e1] at hij;simp only at hij;omega
  ·obtain ⟨h,e1,e2⟩:=ge i hli h1
   obtain ⟨h',e1',e2'⟩:=ge j hlj h2
   rw [e1,e1'] at hij
   have:=(List.getElem_inj hd.2).1 hij
   omega
theorem StRef.src (σ0 news:Heap) (l:List Nat) (hn0:n0≤σ0.length) (hσ:σ.take σ0.length=σ0) (hcl:HClosed σ0.length σ0) (hl:l.length=news.length) (hd:distinctFrom σ0.length l=true)
  (ho:OSubs σ (σ0.length+news.length) (srcR σ0.length l) σ0.length news) (he:EnvRen (σ0.length+news.length) (srcR σ0.length l) e e2):StRef n0 σ (σ0++news) e e2 :=
 .inr fun _=>⟨_,href_src l hn0 hσ hcl hl hd ho,by rw [List.length_append];exact envRen_ref he⟩
theorem osub_gr {σ:Heap} {n:Nat} {π:Rho} {cs:List Value} {t:TypeId} {j k:Nat} (hk:π k=⟨j,0,0⟩) (h:σ[j]?=some (.gr cs t)) (hp:plainL cs=true):OSub σ n π (π k) (.gr cs t) :=
 .inr ⟨by rw [hk],cs,by rw [hk];exact h,Nat.le_refl _,fun i hi _=>vrel_plainL cs hp i hi⟩
theorem osub_gr0 {σ:Heap} {n:Nat} {π:Rho} {t:TypeId} {p:Pl}:OSub σ n π p (.gr [] t):=.inl rfl
end
theorem RetRef.src {σin σ:Heap} {v v2:Value} (news:Heap) (l:List Nat) (hσ:σ.take σin.length=σin) (hl:l.length=news.length) (hd:distinctFrom σin.length l=true)
  (ho:OSubs σ (σin.length+news.length) (srcR σin.length l) σin.length news) (hv:VSub (σin.length+news.length) (srcR σin.length l) v2 v):RetRef σin σ v v2 (σin++news):=by
 refine Or.inr fun hcl=>⟨_,href_src l (Nat.le_refl _) hσ ?_ hl hd ho,by rw [List.length_append];exact hv⟩
 have:∀ s:Heap,(∀ o ∈ s,oclosed σin.length o)→HClosed σin.length s:=by
  intro s
  induction s with
  |nil=>intro _;trivial
  |cons x r ih=>intro h;exact ⟨h x (by simp),ih fun o ho=>h o (by simp [ho])⟩
 exact this σin fun o ho=>by
  obtain ⟨i,hi⟩:=List.mem_iff_getElem?.1 ho
  exact hcl i o hi
theorem plainL_map {α:Type} (f:α→Value) (h:∀ x,plain (f x)=true):∀ l:List α,plainL (l.map f)=true
 |[]=>rfl
 |x::l=>by simp [plainL,h x,plainL_map f h l]
theorem plainL_append:∀ a b:List Value,plainL (a++b)=(plainL a && plainL b)
 |[],b=>by simp [plainL]
 |x::a,b=>by simp [plainL,plainL_append a b,Bool.and_assoc]
theorem plainL_closed {n:Nat}:∀ {l:List Value},plainL l=true→closedL n l=true∧okL l=true
 |[],_=>⟨rfl,rfl⟩
 |v::l,h=>by
  simp only [plainL,Bool.and_eq_true] at h
  obtain ⟨h1,h2⟩:=plainL_closed (n:=n) h.2
  have hv:=vrel_plain (q:=false) (n:=0) (ρ:=fun _=>⟨0,0,0⟩) v h.1
  exact ⟨by simp [closedL,plain_closed h.1,h1],by simp [okL,vq_ok hv,h2]⟩
end Go.AH
namespace Go.AH
open Go
def paramsE:List Nat→List Value→Env→Env
 |p::ps,v::vs,e=>paramsE ps vs ((p,v)::e)
 |_,_,e=>e
theorem trel_params {n:Nat} {ρ:Rho} {N:Nat}:∀ (ps:List Nat) (vs rs:List Value) (e:Env) (tmps:Array Value),TRel n ρ N e tmps→ARel n ρ vs.toArray rs.toArray→ps.all (Nat.blt · N)=true →
  TRel n ρ N (paramsE ps vs e) ((ps.zip rs).foldl (fun t x=>t.setIfInBounds x.1 x.2) tmps)
 |[],vs,rs,e,tmps,h,_,_=>by simpa [paramsE] using h
 |p::ps,[],[],e,tmps,h,_,_=>by simpa [paramsE] using h
 |p::ps,[],r::rs,e,tmps,_,hr,_=>by have:=hr.1;simp at this
 |p::ps,v::vs,[],e,tmps,_,hr,_=>by have:=hr.1;simp at this
 |p::ps,v::vs,r::rs,e,tmps,h,hr,hp=>by
  simp only [List.all_cons,Bool.and_eq_true,Nat.blt_eq] at hp
  have h0:=hr.2 0 (by simp) (by simp)
  simp only [paramsE,List.zip_cons_cons,List.foldl_cons]
  refine trel_params ps vs rs _ _ (trel_put h hp.1 h0) ⟨by have:=hr.1;simpa using this,fun i hi hi'=>?_⟩ hp.2
  have:=hr.2 (i+1) (by simpa using hi) (by simpa using hi')
  simpa using this
section
variable {P:Program} {n0 N:Nat} {rd:Option Nat} {Q:Post} {e:Env} {mk:List Nat} {σ:Heap} {K:Env→List Nat→Heap→Prop} {all rest:List Oper}
def loopSt (st:LoopState) (pend:Option Code):AObj→AObj
 |.loop _ _ N e ps a b=>.loop st pend N e ps a b
 |o=>o
def isLoop:AObj→Bool
 |.loop ..=>true
 |_=>false
theorem sim_loopSt {G:Nat→Prop} {w0 w:World} {ρ:Rho} (hs:Sim G w0 ρ σ w) {l:Nat} {o:AObj} (hl:σ[l]?=some o) (hlo:isLoop o=true) :
  ∃ r:Loop,w.heap[(ρ l).b]?=some (.loop r)∧∀ st pend,Sim G w0 ρ (σ.set l (loopSt st pend o)) (w.putObj (ρ l).b (.loop { r with state:=st,pending:=pend })):=by
 cases o with
 |loop st0 p0 N e ps as bd =>
  obtain ⟨g1,r,g2,g3,g4,g5,g6,g7,g8⟩:=hs.obj l _ hl
  refine ⟨r,g2,fun st pend=>?_⟩
  refine sim_upd hs hl trivial (chg_setObj w _ _) ?_ ?_
  ·refine ⟨g1,{ r with state:=st,pending:=pend },?_,rfl,rfl,g5,g6,g7,g8⟩
   have:=block_lt g2
   simp [World.putObj,this]
  ·intro j k seen hj
   left
   intro hbk
   obtain ⟨_,_,ents,clock,sb,_,g6,_⟩:=hs.obj j _ hj
   rw [hbk,g2] at g6;simp at g6
 |_=>simp [isLoop] at hlo
def roundB (P:Program) (n0 N:Nat) (all rest:List Oper) (K:Env→List Nat→Heap→Prop) (d l:Nat) (e:Env) (mk:List Nat):Post
 |.normal,_,_,σ2=>∃ o,σ2[l]?=some o∧isLoop o=true∧WOps P n0 N none all rest K ((d,.bool true)::e) mk (σ2.set l (loopSt .ready none o))
 |.ret,_,_,σ2=>∃ o,σ2[l]?=some o∧isLoop o=true∧WOps P n0 N none all rest K ((d,.bool false)::e) mk (σ2.set l (loopSt .done (some .ret) o))
 |.exit id,_,_,σ2=>∃ o,σ2[l]?=some o∧isLoop o=true∧WOps P n0 N none all rest K ((d,.bool false)::e) mk (σ2.set l (loopSt .done (some (.exit id)) o))
 |_,_,_,_=>False
def roundA (P:Program) (n1 N':Nat) (l:Nat) (body:Code) (QB:Post):Post
 |.normal,e1,mk1,σ1=>∃ N2 e2 ps2 as2 bd2 pend,σ1[l]?=some (.loop .ready pend N2 e2 ps2 as2 bd2)∧WCode P n1 N' (some l) body QB e1 mk1 (σ1.set l (.loop .busy pend N2 e2 ps2 as2 bd2))
 |_,_,_,_=>False
theorem st_yieldG {g:Option (Nat×Bool)} {d l N':Nat} {ty:TypeId} {pos:String} {after:Array Edge} {x:Operand} {ls:List Operand} {ts:Array TypeId} {vs:List Value} {e':Env} {ps:List Nat} {assign body:Code} {pend:Option Code}
  (hx:evalO e x=some (.func (.yield l) #[] #[])) (hl:evalL e ls=some vs) (hσ:σ[l]?=some (.loop .ready pend N' e' ps.toArray assign body)) (hlen:Nat.beq vs.length ps.length=true) (hps:ps.all (Nat.blt · N')=true)
  (hd:Nat.blt d N=true) (hw:∀ T n ρ A,ERel T n ρ N e mk A→Region.wanted ⟨some d,.call { callee:=.value x,args:=ls.toArray,argTypes:=ts },ty,pos,after,g⟩ (yielded all.toArray A.tmps)=true)
  (h:WCode P σ.length N' (some l) assign (roundA P σ.length N' l body (roundB P n0 N all rest K d l e mk)) (paramsE ps vs e') [] σ) :
  WOps P n0 N none all (⟨some d,.call { callee:=.value x,args:=ls.toArray,argTypes:=ts },ty,pos,after,g⟩::rest) K e mk σ:=by
 intro G w0 ρ0 A w hi Q' hQ
 obtain ⟨h0,ρ,hag,hs,her⟩:=hi
 simp only [wpL]
 rw [if_pos (hw _ _ _ _ her)]
 have hlen':=Nat.eq_of_beq_eq_true hlen
 obtain ⟨g1,r,g2,g3,g4,g5,g6,g7,g8⟩:=hs.obj l _ hσ
 have hll:=idx_lt hσ
 have hxr:=evalO_rel her hx
 have hxr':A.eval x=.func (.yield (ρ l).b) #[] #[]:=by
  generalize hr:A.eval x=v at hxr
  cases hxr;rfl
 have har:=evalL_rel (A:=A) (fun y _ u hu=>evalO_rel her hu) hl
 have hsz:(ls.map A.eval).length=ps.length:=by have:=har.1;simp at this ⊢;omega
 refine ⟨fun f _=>fen_fn _ _ _,?_⟩
 rw [Oper.semAt_eq _ _ _ (by simp)]
 have hrun:(execOp A.eval ⟨some d,.call { callee:=.value x,args:=ls.toArray,argTypes:=ts },ty,pos,after,g⟩).run P w =
   .ok (.round (ρ l).b r.fn ((ps.zip (ls.map A.eval)).foldl (fun t x=>t.setIfInBounds x.1 x.2) r.tmps) assign body) w:=by
  have hz:(ps.toArray.zip (ls.map A.eval).toArray)=(ps.zip (ls.map A.eval)).toArray:=by simp
  simp [execOp,resolve,hxr',Deferred.ofValue,invoke,Instr.yield,run_getLoop g2,g5,g6,g7,hsz]
 rw [hrun,Oper.uponIn_round]
 refine ⟨fun h=>by rw [fen_depth] at h;simp at h,?_⟩
 refine roundIn_of_wpIn (fen_fn _ _ _) ?_
 have hfen:(fen ρ0 none).inRound (ρ l).b=fen (stashR σ.length ρ []) (some l):=by simp only [fen,stashR_lt hll]
 rw [hfen]
 have ht0:=trel_params ps vs (ls.map A.eval) e' r.tmps g8 har hps
 have hinv:Inv σ.length N' G w0 (stashR σ.length ρ []) (paramsE ps vs e') [] σ { tmps:=(ps.zip (ls.map A.eval)).foldl (fun t x=>t.setIfInBounds x.1 x.2) r.tmps,defers:=[] } w :=
  ⟨Nat.le_refl _,ρ,fun _ h=>(stashR_lt h).symm,hs,ht0,by rw [tlOf_stash];rfl,fun i hi=>by simp at hi⟩
 refine wpIn_mono (h G w0 _ _ w hinv) ?_
 rintro ex A1 w1 ⟨e1,mk1,σ1,q,k0,ρ1,k1',k2,k3⟩
 have k1:∀ i < σ.length,ρ1 i=ρ i:=fun i hi=>(k1' i hi).trans (stashR_lt hi)
 cases ex with
 |normal =>
  obtain ⟨N2,e2,ps2,as2,bd2,pd2,q1,q2⟩:=q
  obtain ⟨r1,b1,b2⟩:=sim_loopSt k2 q1 rfl
  have hst:r1.state=.ready:=by
   obtain ⟨_,r',c2,c3,_⟩:=k2.obj l _ q1
   rw [b1] at c2;cases c2;exact c3
  have hpd:r1.pending=pd2:=by
   obtain ⟨_,r',c2,c3,c4,_⟩:=k2.obj l _ q1
   rw [b1] at c2;cases c2;exact c4
  have hbl:(ρ1 l).b=(ρ l).b:=by rw [k1 l hll]
  refine ⟨w1.putObj (ρ l).b (.loop { r1 with state:=.busy }),run_beginRound (by rw [← hbl];exact b1) hst,?_⟩
  have hs2:=b2 .busy pd2
  rw [hbl] at hs2
  have e9:({ r1 with state:=.busy,pending:=pd2 }:Loop)={ r1 with state:=.busy }:=by rw [← hpd]
  rw [e9] at hs2
  have hinv2:Inv σ.length N' G w0 (stashR σ.length ρ []) e1 mk1 (σ1.set l (.loop .busy pd2 N2 e2 ps2 as2 bd2)) A1 (w1.putObj (ρ l).b (.loop { r1 with state:=.busy })) :=
   ⟨by simpa using k0,ρ1,k1',hs2,by simpa using k3⟩
  refine wpIn_mono (q2 G w0 _ A1 _ hinv2) ?_
  rintro ex2 A2 w2 ⟨e3,mk3,σ3,q3,m0,ρ3,m1',m2,m3⟩
  have m1:∀ i < σ.length,ρ3 i=ρ i:=fun i hi=>(m1' i hi).trans (stashR_lt hi)
  have fin:∀ (jump:Option Code) (b:Bool) (o:AObj),σ3[l]?=some o→isLoop o=true→jump.isNone=b →
    WOps P n0 N none all rest K ((d,.bool b)::e) mk (σ3.set l (loopSt (if b then .ready else .done) jump o)) →
    ∃ v w',(Instr.endRound (ρ l).b jump).run P w2=.ok v w'∧wpL (fen ρ0 none) 0 P all.toArray Q' rest (A.put (some d) v) w':=by
   intro jump b o hlo hio hj hk
   obtain ⟨r3,d1,d2⟩:=sim_loopSt m2 hlo hio
   have hbl3:(ρ3 l).b=(ρ l).b:=by rw [m1 l hll]
   refine ⟨.bool b,w2.putObj (ρ l).b (.loop { r3 with state:=if b then .ready else .done,pending:=jump }),?_,?_⟩
   ·rw [hbl3] at d1
    have:=run_endRound (P:=P) jump d1
    rw [hj] at this
    exact this
   ·have hs3:=d2 (if b then .ready else .done) jump
    rw [hbl3] at hs3
    refine hk G w0 ρ0 _ _ ⟨by simp;omega,ρ3,fun i hi=>(m1 i (by omega)).trans (hag i hi),hs3,?_⟩ Q' hQ
    rw [List.length_set]
    exact erel_put (erel_mono her m0 m1) (by simpa [Nat.blt_eq] using hd) (.bool b)
  cases ex2 with
  |normal =>
   obtain ⟨o,p1,p2,p3⟩:=q3
   exact fin none true o p1 p2 rfl p3
  |ret =>
   obtain ⟨o,p1,p2,p3⟩:=q3
   exact fin (some .ret) false o p1 p2 rfl p3
  |exit id =>
   obtain ⟨o,p1,p2,p3⟩:=q3
   exact fin (some (.exit id)) false o p1 p2 rfl p3
  |_=>exact q3.elim
 |_=>exact q.elim
def afterRange (P:Program) (n0 N:Nat) (Q:Post) (e:Env) (mk:List Nat) (l:Nat) (σ2:Heap):Prop :=
 ∃ st pend N2 e2 ps2 as2 bd2,σ2[l]?=some (.loop st pend N2 e2 ps2 as2 bd2)∧st ≠ .busy ∧
  (match pend with
   |none=>Q .normal e mk (σ2.set l .dead)
   |some c=>WCode P n0 N none c Q e mk (σ2.set l .dead))
theorem W_rangeFunc {g:Operand} {ps:Array Tmp} {assign body:Code} {f:FuncId} {p q:List Value} [hc:GoFn P f] (hg:evalO e g=some (.func (.func f) p.toArray q.toArray))
  (hcall:ACall P f (p++[.func (.yield (σ.length+1)) #[] #[]]++q) (σ++[.dfr,.loop .ready none N e ps assign body]) (fun _ σ2=>afterRange P n0 N Q e (σ.length::mk) (σ.length+1) σ2)) :
  WCode P n0 N none (.rangeFunc g ps assign body) Q e mk σ:=by
 intro G w0 ρ0 A w hi
 obtain ⟨h0,ρ,hag,hs,her⟩:=hi
 have hgr:=evalO_rel her hg
 generalize hge:A.eval g=gv at hgr
 cases hgr with
 |func _ _ p' _ q' e1 e2 e3 e4 =>
  refine wpIn_rangeFunc fun fn _=>?_
  have hro:(fen ρ0 none).round=none:=rfl
  rw [hro]
  have hs1:=sim_alloc hs (.deferred (some [])) .dfr 0 ⟨fun hg=>by have h1:=(hs.fgn _ hg).1;have:=hs.size;simp only at h1;omega,heap_alloc_self w _⟩
  have hn1:(w.alloc (.deferred (some []))).heap.size=w.heap.size+1:=by simp
  have ht1:TRel (σ++[AObj.dfr]).length (upd ρ σ.length w.heap.size 0) N e A.tmps:=trel_mono her.tmps (by simp) fun i hi=>upd_lt hi
  let r0:Loop:={ state:=.ready,pending:=none,fn,tmps:=A.tmps,params:=ps,assign,body,defers:=w.heap.size }
  have hs2:=sim_alloc hs1 (.loop r0) (.loop .ready none N e ps assign body) 0 ⟨fun hg=>by have h1:=(hs.fgn _ hg).1;have:=hs.size;simp only at h1;omega,r0,heap_alloc_self _ _,rfl,rfl,rfl,rfl,rfl,trel_mono ht1 (Nat.le_succ _) fun i hi=>upd_lt hi⟩
  rw [hn1] at hs2
  simp only [List.length_append,List.length_singleton,List.append_assoc,List.singleton_append] at hs2
  have hρ:∀ i < σ.length,upd (upd ρ σ.length w.heap.size 0) (σ.length+1) (w.heap.size+1) 0 i=ρ i:=fun i hi=>by rw [upd_lt (by omega),upd_lt hi]
  have hl1:upd (upd ρ σ.length w.heap.size 0) (σ.length+1) (w.heap.size+1) 0 (σ.length+1)=⟨w.heap.size+1,0,0⟩:=upd_self
  have hl0:upd (upd ρ σ.length w.heap.size 0) (σ.length+1) (w.heap.size+1) 0 σ.length=⟨w.heap.size,0,0⟩:=by rw [upd_lt (by omega)];exact upd_self
  refine ⟨w.heap.size+1,[{ target:=.collected w.heap.size,args:=#[] }],(w.alloc (.deferred (some []))).alloc (.loop r0),⟨.fn (.func f) q',p'++#[.func (.yield (w.heap.size+1)) #[] #[]]⟩,
   (w.alloc (.deferred (some []))).alloc (.loop r0),f,p'++#[.func (.yield (w.heap.size+1)) #[] #[]]++q',(w.alloc (.deferred (some []))).alloc (.loop r0),?_,?_,?_,?_,fun h=>by rw [fen_depth] at h;simp at h,?_⟩
  ·exact run_enterLoop_outer _ _ _ _ _
  ·simp only [resolve,hge]
   simp [Deferred.ofValue,Act.eval]
  ·intro f' _;exact fen_fn _ _ _
  ·simp [invoke,hc.run]
  ·have harel:ARel (σ++[AObj.dfr,AObj.loop .ready none N e ps assign body]).length (upd (upd ρ σ.length w.heap.size 0) (σ.length+1) (w.heap.size+1) 0) (p++[Value.func (.yield (σ.length+1)) #[] #[]]++q).toArray (p'++#[.func (.yield (w.heap.size+1)) #[] #[]]++q'):=by
    have a1:ARel σ.length ρ p.toArray p':=⟨e1,e3⟩
    have a2:ARel σ.length ρ q.toArray q':=⟨e2,e4⟩
    refine arel_append (l1:=p++[_]) (arel_append (arel_mono a1 (by simp) hρ) ⟨rfl,fun i hi hi'=>?_⟩) (arel_mono a2 (by simp) hρ)
    have:i=0:=by simp at hi;exact hi
    subst this
    have:=VQ.yield (q:=false) (n:=(σ++[AObj.dfr,AObj.loop .ready none N e ps assign body]).length) (ρ:=upd (upd ρ σ.length w.heap.size 0) (σ.length+1) (w.heap.size+1) 0) (σ.length+1) (by simp)
    rw [hl1] at this
    exact this
   refine (hcall G w0 _ _ _ hs2 harel).mono ?_
   rintro en w' ⟨ρ',vr,v,σ2,rfl,⟨st,pend,N2,e2',ps2,as2,bd2,q1,q2,q3⟩,hv,hle,hag2,hs3⟩
   simp only [List.length_append,List.length_cons,List.length_nil,Nat.zero_add] at hle hag2
   obtain ⟨r2,b1,b2⟩:=sim_loopSt hs3 q1 rfl
   have hbl:(ρ' (σ.length+1)).b=w.heap.size+1:=by rw [hag2 _ (by omega),hl1]
   obtain ⟨_,r',c2,c3,c4,_⟩:=hs3.obj _ _ q1
   rw [b1] at c2;cases c2
   rw [hbl] at b1
   refine ⟨r2.pending,_,run_endLoop b1 (by rw [c3];exact q2),?_⟩
   have hs4:=sim_kill (b2 .exhausted r2.pending) (σ.length+1)
   rw [List.set_set,hbl] at hs4
   have hinv:Inv n0 N G w0 ρ0 e (σ.length::mk) (σ2.set (σ.length+1) .dead) { A with defers:={ target:=.collected w.heap.size,args:=#[] }::A.defers } (w'.putObj (w.heap.size+1) (.loop { r2 with state:=.exhausted })):=by
    refine ⟨by simp;omega,ρ',fun i hi=>(hag2 i (by omega)).trans ((hρ i (by omega)).trans (hag i hi)),hs4,?_⟩
    have her2:=erel_mono her (m:=(σ2.set (σ.length+1) .dead).length) (ρ':=ρ') (by simp;omega) fun i hi=>(hag2 i (by omega)).trans (hρ i hi)
    refine ⟨her2.tmps,?_,fun i hi=>?_⟩
    ·simp only [List.map_cons]
     rw [hag2 σ.length (by omega),hl0]
     rw [List.cons_append]
     congr 1
     exact her2.mks
    ·rcases List.mem_cons.1 hi with rfl|hi
     ·simp;omega
     ·exact her2.mkb i hi
   rw [c4] at hinv ⊢
   cases pend with
   |none=>exact ⟨e,_,_,q3,hinv⟩
   |some c=>exact q3 G w0 ρ0 _ _ hinv
end
end Go.AH
namespace Go.AH
open Go
def arrAt (σ:Heap) (b:Nat) (cs:List Value):Prop:=σ[b]?=some (.ro cs)∨σ[b]?=some (.rw cs)∨∃ t,σ[b]?=some (.gr cs t)
theorem cellsAt_arr {σ:Heap} {b:Nat} {cs:List Value} (h:arrAt σ b cs):cellsAt σ b 0 cs.length=some cs:=by
 have e:cs.length.ble cs.length=true:=Nat.ble_eq_true_of_le (Nat.le_refl _)
 rcases h with h|h|⟨t,h⟩ <;> simp [cellsAt,h,e]
def ArrsAt (σ:Heap):List (List Value)→List Nat→Prop
 |[],[]=>True
 |c::cs,b::bs=>arrAt σ b c∧ArrsAt σ cs bs
 |_,_=>False
def bsR (bs:List Nat):Rho:=fun k=>match bs[k]? with|some b=>⟨b,0,0⟩|none=>⟨k,0,0⟩
theorem arrsAt_get {σ:Heap}:∀ {cs:List (List Value)} {bs:List Nat},ArrsAt σ cs bs→∀ (k:Nat) (c:List Value),cs[k]?=some c→∃ b,bs[k]?=some b∧arrAt σ b c
 |[],[],_,k,c,hk=>by simp at hk
 |c0::cs,b0::bs,h,k,c,hk=>by
  cases k with
  |zero=>simp at hk;subst hk;exact ⟨b0,rfl,h.1⟩
  |succ k=>exact arrsAt_get h.2 k c (by simpa using hk)
 |[],_::_,h,_,_,_=>h.elim
 |_::_,[],h,_,_,_=>h.elim
def AS (n:Nat) (π:Rho):List Value→List Value→Prop
 |[],[]=>True
 |a::as,b::bs=>VSub n π a b∧AS n π as bs
 |_,_=>False
theorem as_get {n:Nat} {π:Rho}:∀ {as bs:List Value},AS n π as bs→as.length=bs.length∧∀ (i:Nat) (h:i<as.length) (h':i<bs.length),VSub n π as[i] bs[i]
 |[],[],_=>⟨rfl,fun i h=>by simp at h⟩
 |a::as,b::bs,h=>by
  obtain ⟨h1,h2⟩:=as_get h.2
  refine ⟨by simp [h1],fun i hi hi'=>?_⟩
  cases i with
  |zero=>exact h.1
  |succ i=>exact h2 i (by simpa using hi) (by simpa using hi')
 |[],_::_,h=>h.elim
 |_::_,[],h=>h.elim
section
variable {P:Program} {σ:Heap} {f:FuncId}
theorem Ev.arrs {args1 args:List Value} {v:Value} (css:List (List Value)) (bs:List Nat) (h:Ev P f args1 (css.map .ro) v (css.map .ro)) (hb:ArrsAt σ css bs) (ha:AS css.length (bsR bs) args1 args)
  (hpl:css.all plainL=true) (hv:plain v=true) (hni:σ.all (fun o=>!isIter o)=true):Ev P f args σ v σ:=by
 obtain ⟨h1,h2⟩:=as_get ha
 refine ACall.frame (π:=bsR bs) h (fun k o hk=>?_) (fun k hk=>?_) hni h1 (by simpa using h2) ?_
 ·rw [List.getElem?_map] at hk
  obtain ⟨c,hc,rfl⟩:=Option.map_eq_some_iff.1 hk
  obtain ⟨b,g1,g2⟩:=arrsAt_get hb k c hc
  refine .inl ⟨c,rfl,.inr ⟨c,?_,fun j hj _=>vrel_plainL c (List.all_eq_true.1 hpl c (List.mem_of_getElem? hc)) j hj⟩⟩
  simp only [bsR,g1]
  exact cellsAt_arr g2
 ·simp only [List.length_map] at hk
  obtain ⟨b,g1,g2⟩:=arrsAt_get hb k css[k] (by simp [hk])
  simp only [bsR,g1]
  rcases g2 with g2|g2|⟨t,g2⟩ <;> exact idx_lt g2
 ·rintro v1 s1 ⟨rfl,rfl⟩
  exact ⟨[],by simp,rfl,ren_plain _ hv,by simp⟩
end
end Go.AH
namespace Go.AH
open Go
section
variable {P:Program} {rd:Option Nat} {ty:TypeId} {e:Env} {σ:Heap} {x y:Operand}
theorem ok_idxAN {t len el size bytes i o:Nat} {agg:Bool} {z:Value} {kd:IntKind} {k:Nat} [ha:Ar P t len el] [ht:Ty P el size agg z bytes] (h:evalO e x=some (.pointer (some ⟨i,o,none⟩))) (hy:evalO e y=some (.int kd (k:Nat)))
  (h1:k<len):OpOk P rd (.indexAddr t x y) ty e σ (.pointer (some ⟨i,o+k*size,none⟩)) σ:=by
 have:=ok_idxA (P:=P) (rd:=rd) (ty:=ty) (σ:=σ) (t:=t) (ha:=ha) (ht:=ht) h hy (by omega) (by omega)
 simpa using this
theorem ok_idxSN {t el size bytes i o n c:Nat} {agg:Bool} {z:Value} {kd:IntKind} {k:Nat} [ha:Sl P t el] [ht:Ty P el size agg z bytes] (h:evalO e x=some (.slice (some ⟨i,o,none⟩) n c)) (hy:evalO e y=some (.int kd (k:Nat)))
  (h1:k<n):OpOk P rd (.indexAddr t x y) ty e σ (.pointer (some ⟨i,o+k*size,none⟩)) σ:=by
 have:=ok_idx (P:=P) (rd:=rd) (ty:=ty) (σ:=σ) (t:=t) (ha:=ha) (ht:=ht) h hy (by omega) (by omega)
 simpa using this
end
def EnvC (n:Nat) (e:Env):Env→Prop
 |[]=>True
 |(t,v)::r=>(Env.get e t=some v∧closed n v=true∧okV v=true)∧EnvC n e r
theorem StRef.drop {n0:Nat} {e e2:Env} (σ0 junk:Heap) (hn0:n0≤σ0.length) (hcl:HClosed σ0.length σ0) (he:EnvC σ0.length e e2):StRef n0 (σ0++junk) σ0 e e2:=by
 have hr:∀ e2:Env,EnvC σ0.length e e2→EnvRen (σ0.length+0) (srcR σ0.length []) e e2:=by
  intro e2
  induction e2 with
  |nil=>intro _;trivial
  |cons p r ih =>
   intro h
   exact ⟨er_closed h.1.1 (fun i hi=>srcR_lt hi) (Nat.le_refl _) h.1.2.1 h.1.2.2,ih h.2⟩
 have:=StRef.src (n0:=n0) (σ:=σ0++junk) (e:=e) (e2:=e2) σ0 [] [] hn0 (by simp) hcl rfl rfl trivial (hr e2 he)
 simpa using this
end Go.AH
namespace Go.AH
open Go
section
variable {P:Program} {σ:Heap} {f:FuncId}
theorem Ev.arrsN {args1 args:List Value} {v1 v:Value} {news news':Heap} (css:List (List Value)) (bs:List Nat) (h:Ev P f args1 (css.map .ro) v1 (css.map .ro++news)) (hb:ArrsAt σ css bs) (ha:AS css.length (bsR bs) args1 args)
  (hpl:css.all plainL=true) (hm:news.all isMem=true) (hv:ren (shf css.length σ.length (bsR bs)) v1=v) (hn:news.map (renO (shf css.length σ.length (bsR bs)))=news') (hni:σ.all (fun o=>!isIter o)=true):Ev P f args σ v (σ++news'):=by
 obtain ⟨h1,h2⟩:=as_get ha
 subst hv hn
 refine ACall.frame (π:=bsR bs) h (fun k o hk=>?_) (fun k hk=>?_) hni h1 (by simpa using h2) ?_
 ·rw [List.getElem?_map] at hk
  obtain ⟨c,hc,rfl⟩:=Option.map_eq_some_iff.1 hk
  obtain ⟨b,g1,g2⟩:=arrsAt_get hb k c hc
  refine .inl ⟨c,rfl,.inr ⟨c,?_,fun j hj _=>vrel_plainL c (List.all_eq_true.1 hpl c (List.mem_of_getElem? hc)) j hj⟩⟩
  simp only [bsR,g1]
  exact cellsAt_arr g2
 ·simp only [List.length_map] at hk
  obtain ⟨b,g1,g2⟩:=arrsAt_get hb k css[k] (by simp [hk])
  simp only [bsR,g1]
  rcases g2 with g2|g2|⟨t,g2⟩ <;> exact idx_lt g2
 ·rintro v2 s1 ⟨rfl,rfl⟩
  exact ⟨news,rfl,hm,by simp⟩
end
end Go.AH
namespace Go.AH
open Go
def CellsSub (n:Nat) (π:Rho) (c c':List Value):Prop:=c.length=c'.length∧∀ (j:Nat) (h:j<c.length) (h':j<c'.length),VSub n π c[j] c'[j]
def ArrsR (σ:Heap) (n:Nat) (π:Rho):List (List Value)→List (Nat×List Value)→Prop
 |[],[]=>True
 |c::cs,(b,c')::bs=>(arrAt σ b c'∧CellsSub n π c c')∧ArrsR σ n π cs bs
 |_,_=>False
theorem arrsR_get {σ:Heap} {n:Nat} {π:Rho}:∀ {cs:List (List Value)} {bs:List (Nat×List Value)},ArrsR σ n π cs bs→∀ (k:Nat) (c:List Value),cs[k]?=some c→∃ p,bs[k]?=some p∧arrAt σ p.1 p.2∧CellsSub n π c p.2
 |[],[],_,k,c,hk=>by simp at hk
 |c0::cs,(b0,c0')::bs,h,k,c,hk=>by
  cases k with
  |zero=>simp at hk;subst hk;exact ⟨_,rfl,h.1⟩
  |succ k=>exact arrsR_get h.2 k c (by simpa using hk)
 |[],_::_,h,_,_,_=>h.elim
 |_::_,[],h,_,_,_=>h.elim
section
variable {P:Program} {σ:Heap} {f:FuncId}
theorem Ev.arrsR {args1 args:List Value} {v1 v:Value} {news news':Heap} (css:List (List Value)) (bs:List (Nat×List Value)) (h:Ev P f args1 (css.map .ro) v1 (css.map .ro++news))
  (hb:ArrsR σ css.length (bsR (bs.map (·.1))) css bs) (ha:AS css.length (bsR (bs.map (·.1))) args1 args) (hm:news.all isMem=true) (hv:ren (shf css.length σ.length (bsR (bs.map (·.1)))) v1=v)
  (hn:news.map (renO (shf css.length σ.length (bsR (bs.map (·.1)))))=news') (hni:σ.all (fun o=>!isIter o)=true):Ev P f args σ v (σ++news'):=by
 obtain ⟨h1,h2⟩:=as_get ha
 subst hv hn
 refine ACall.frame (π:=bsR (bs.map (·.1))) h (fun k o hk=>?_) (fun k hk=>?_) hni h1 (by simpa using h2) ?_
 ·rw [List.getElem?_map] at hk
  obtain ⟨c,hc,rfl⟩:=Option.map_eq_some_iff.1 hk
  obtain ⟨p,g1,g2,g3⟩:=arrsR_get hb k c hc
  refine .inl ⟨c,rfl,.inr ⟨p.2,?_,by simpa using g3.2⟩⟩
  simp only [bsR,List.getElem?_map,g1,Option.map_some,g3.1]
  exact cellsAt_arr g2
 ·simp only [List.length_map] at hk
  obtain ⟨p,g1,g2,_⟩:=arrsR_get hb k css[k] (by simp [hk])
  simp only [bsR,List.getElem?_map,g1,Option.map_some]
  rcases g2 with g2|g2|⟨t,g2⟩ <;> exact idx_lt g2
 ·rintro v2 s1 ⟨rfl,rfl⟩
  exact ⟨news,rfl,hm,by simp⟩
theorem Ev.arrsP {args1 args:List Value} {v:Value} (css:List (List Value)) (bs:List (Nat×List Value)) (h:Ev P f args1 (css.map .ro) v (css.map .ro))
  (hb:ArrsR σ css.length (bsR (bs.map (·.1))) css bs) (ha:AS css.length (bsR (bs.map (·.1))) args1 args) (hv:plain v=true) (hni:σ.all (fun o=>!isIter o)=true):Ev P f args σ v σ:=by
 have:=Ev.arrsR (news:=[]) (news':=[]) css bs (by simpa using h) hb ha rfl (ren_plain v hv) rfl hni
 simpa using this
end
end Go.AH
namespace Go.AH
open Go
section ops
variable {P:Program} {rd:Option Nat} {ty:TypeId} {e:Env} {σ:Heap} {x y a b:Operand} {v u:Value}
theorem ok_appendIn {t el size bytes i o n c j oj m c2:Nat} {agg:Bool} {z:Value} {news:List Value} {σ':Heap} [ha:Sl P t el] [ht:Ty P el size agg z bytes] (hx:evalO e x=some (.slice (some ⟨i,o,none⟩) n c))
  (hy:evalO e y=some (.slice (some ⟨j,oj,none⟩) m c2)) (hm:0<m) (hroom:n+m≤c) (hc:cellsAt σ j oj (m*size)=some news) (h1:news.all (·.oneCell')=true) (hp:putCells σ i (o+n*size) news=some σ') :
  OpOk P rd (.call { callee:=.builtin .append,args:=#[x,y],argTypes:=#[t,t] }) ty e σ (.slice (some ⟨i,o,none⟩) (n+m) c) σ' :=
 opok_run (by simp) fun op ho _ G w0 ρ A w hs hop=>by
  have hxr:=hop x (by simp [Op.operands,Call.operands]) _ hx
  have hyr:=hop y (by simp [Op.operands,Call.operands]) _ hy
  have hx':∃ c',A.eval x=.slice (some ⟨(ρ i).b,(ρ i).o+o,none⟩) n c'∧c≤c'∧i < σ.length:=by
   generalize hr:A.eval x=r at hxr
   cases hxr with
   |emptySlice=>omega
   |slice _ _ _ _ c' _ _=>exact ⟨c',rfl,by assumption,by assumption⟩
   |sliceG _ _ _ _ _ _ _ _ hq=>simp at hq
  have hy':∃ c',A.eval y=.slice (some ⟨(ρ j).b,(ρ j).o+oj,none⟩) m c':=by
   generalize hr:A.eval y=r at hyr
   cases hyr with
   |emptySlice=>omega
   |slice _ _ _ _ c' _ _=>exact ⟨c',rfl⟩
   |sliceG _ _ _ _ _ _ _ _ hq=>simp at hq
  obtain ⟨cx,hx',hcx,hi⟩:=hx'
  obtain ⟨cy,hy'⟩:=hy'
  obtain ⟨ie,i1,i2,i3,i4⟩:=ht.info
  obtain ⟨rs,hrs,hrl,hrel⟩:=read_cells hs hc
  obtain ⟨w',g1,g2,g3⟩:=run_put (P:=P) hs hp hrel (by have:=arel_oneCell hrel h1;simpa using this)
  have hf:=run_firstCells_some (P:=P) w ie.size m ⟨(ρ j).b,(ρ j).o+oj,none⟩ m cy rs (by rw [i2];exact hrl) hrs
  rw [i2] at hf
  rw [← Nat.add_assoc] at g1
  refine ⟨ρ,.slice (some ⟨(ρ i).b,(ρ i).o+o,none⟩) (n+m) cx,w',.inl ?_,.slice _ _ _ _ _ hcx (by omega),by omega,fun _ _=>rfl,g2⟩
  have hroom':n+m≤cx:=by omega
  simp [execOp,ho,resolve,invoke,builtin,hx',hy',Builtin.append_,run_underlying ha.und,sizeOf,typeInfo,i1,Builtin.lenOf,hroom',hf,Addr.add_lit,i2,g1]
end ops
section
variable {P:Program} {n0 N:Nat} {rd:Option Nat} {Q:Post} {e:Env} {mk:List Nat} {σ:Heap} {K:Env→List Nat→Heap→Prop} {all rest:List Oper}
theorem guardU_yield {T:List Deferred} {n:Nat} {ρ:Rho} {A:Act} {j:Nat} (h:ERel T n ρ N e mk A) (hg:guardV all e j=some undef):yielded all.toArray A.tmps j=none:=by
 unfold guardV at hg
 unfold yielded
 simp only [List.getElem?_toArray]
 cases ho:all[j]? with
 |none=>simp [ho] at hg
 |some o =>
  simp only [ho] at hg
  cases hd:o.dst with
  |none=>simp [hd] at hg
  |some t =>
   simp only [hd] at hg
   obtain ⟨v',h1,h2⟩:=h.tmps.2 t _ hg
   rw [vrel_plain_eq h2 rfl] at h1
   simp [hd,h1,undef]
theorem wanted_rel {T:List Deferred} {o:Oper} {b:Bool} {n:Nat} {ρ:Rho} {A:Act} (hw:wantedA all e o=some b) (he:ERel T n ρ N e mk A):Region.wanted o (yielded all.toArray A.tmps)=b:=by
 unfold wantedA at hw
 unfold Region.wanted
 split at hw
 ·rename_i h;rw [h];simpa using hw
 ·rename_i j want h
  rw [h]
  split at hw
  ·rename_i q hq
   simp only [guard_yield he hq]
   cases hw;rfl
  ·rename_i hq
   simp only [guardU_yield he hq]
   cases hw;rfl
  ·cases hw
theorem st_skip {o:Oper} (hw:wantedA all e o=some false) (hd:dstOk N o=true) (k:WOps P n0 N rd all rest K (putE o.dst undef e) mk σ):WOps P n0 N rd all (o::rest) K e mk σ:=by
 intro G w0 ρ0 A w hi Q' hQ
 obtain ⟨h0,ρ,ha,hs,he⟩:=hi
 simp only [wpL]
 rw [if_neg (by rw [wanted_rel hw he];simp)]
 refine k G w0 ρ0 _ w ⟨h0,ρ,ha,hs,?_⟩ Q' hQ
 unfold putE
 unfold dstOk at hd
 split
 ·rename_i d h
  rw [h] at hd ⊢
  exact erel_put he (by simpa [Nat.blt_eq] using hd) (vrel_plain undef rfl)
 ·rename_i h
  rw [h]
  exact ⟨he.tmps,he.mks,he.mkb⟩
theorem st_run {o:Oper} {v:Value} {σ':Heap} (hrd:rdok rd n0=true) (hw:wantedA all e o=some true) (hd:dstOk N o=true) (h:OpOk P rd o.op o.type e σ v σ')
  (k:WOps P n0 N rd all rest K (putE o.dst v e) mk σ'):WOps P n0 N rd all (o::rest) K e mk σ :=
 st_core hrd h (fun d hd'=>by unfold dstOk at hd;rw [hd'] at hd;simpa [Nat.blt_eq] using hd) (fun _ _ _ _ he=>wanted_rel hw he) k
theorem stGk {d:Option Nat} {op:Op} {ty:TypeId} {pos:String} {after:Array Edge} {j:Nat} {b want:Bool} (_hg:guardV all e j=some (.bool b)) (_hb:b=want) (k:WOps P n0 N rd all (⟨d,op,ty,pos,after,some (j,want)⟩::rest) K e mk σ) :
  WOps P n0 N rd all (⟨d,op,ty,pos,after,some (j,want)⟩::rest) K e mk σ:=k
theorem frSU {k:Nat} {d:Nat} {op:Op} {ty:TypeId} {pos:String} {after:Array Edge} {j:Nat} {want:Bool} {σ0:Heap} {news:List (Nat×Heap)} {K:Env→List (Nat×Heap)→List Oper→Prop} (hg:guardV all e j=some undef) (hd:Nat.blt d N=true)
  (hk:WFree P N rd all (k+1) rest ((d,undef)::e) σ0 news K):WFree P N rd all k (⟨some d,op,ty,pos,after,some (j,want)⟩::rest) e σ0 news K :=
 .inr ⟨hd,.inr ⟨by simp only [wantedA,hg];rfl,hk⟩⟩
theorem stSU {d:Nat} {op:Op} {ty:TypeId} {pos:String} {after:Array Edge} {j:Nat} {want:Bool} (hg:guardV all e j=some undef) (hd:Nat.blt d N=true) (k:WOps P n0 N rd all rest K ((d,undef)::e) mk σ) :
  WOps P n0 N rd all (⟨some d,op,ty,pos,after,some (j,want)⟩::rest) K e mk σ :=
 st_skip (by simp only [wantedA,hg];rfl) hd k
theorem closed_slice {n i o l c:Nat} (h:Nat.blt i n=true):closed n (.slice (some ⟨i,o,none⟩) l c)=true:=by
 cases l <;> cases c <;> simp [closed,h]
end
end Go.AH
namespace Go.AH
open Go
def kv (p:Int×Int):Value:=.agg #[.int .i64 p.1,.int .i64 p.2]
theorem kv_plain (p:Int×Int):plain (kv p)=true:=rfl
abbrev KMap:=List ((Int×Int)×Value)
def mapO (l:KMap):AObj:=.map (l.map fun p=>(kv p.1,p.2))
section
variable {P:Program} {w:World} {kt:TypeId}
theorem eq2_fields (w : World) (h : Eq2 P kt) : ∃ f g : Field, ∃ a b : IntKind, P.underlying kt = some (.struct #[f, g]) ∧ f.name ≠ "_" ∧ g.name ≠ "_" ∧ f.offset = 0 ∧ g.offset = 1 ∧ P.underlying f.type = some (.int a) ∧ P.underlying g.type = some (.int b) := by
 have:=h.h
 unfold eq2Of at this
 split at this
 ·rename_i fs hu
  unfold eq2F at this
  split at this
  case h_2=>simp at this
  rename_i f g hfg
  simp only [Bool.and_eq_true,Bool.not_eq_true'] at this
  obtain ⟨⟨⟨⟨⟨⟨⟨h1,h2⟩,h3⟩,h4⟩,h5⟩,h6⟩,h7⟩,h8⟩:=this
  obtain ⟨_,a,u1⟩:=ik_isAgg (w:=w) h5
  obtain ⟨_,b,u2⟩:=ik_isAgg (w:=w) h6
  refine ⟨f,g,a,b,?_,by simpa using h1,by simpa using h2,Nat.eq_of_beq_eq_true h3,Nat.eq_of_beq_eq_true h4,u1,u2⟩
  rw [hu]
  obtain ⟨l⟩:=fs
  simp only at hfg
  rw [hfg]
 ·simp at this
theorem run_checkKey2 (h:Eq2 P kt) (b:Bool) (p:Int×Int):(Instr.checkKey b 10000 kt (kv p)).run P w=.ok () w:=by
 obtain ⟨f,g,a,c,h1,h2,h3,h4,h5,h6,h7⟩:=eq2_fields w h
 have e1:∀ (n:Nat) (t:TypeId) (k:IntKind) (j:IntKind) (m:Int),P.underlying t=some (.int k)→(Instr.checkKey b (n+1) t (.int j m)).run P w=.ok () w:=by
  intro n t k j m ht
  unfold Instr.checkKey
  simp [run_underlying ht]
 have i1:(Go.isAgg f.type).run P w=.ok false w:=by simp [Go.isAgg,underlying,h6]
 have i2:(Go.isAgg g.type).run P w=.ok false w:=by simp [Go.isAgg,underlying,h7]
 have p1:(part f.type #[.int .i64 p.1,.int .i64 p.2] f.offset).run P w=.ok (.int .i64 p.1) w:=by simp [part,i1,h4]
 have p2:(part g.type #[.int .i64 p.1,.int .i64 p.2] g.offset).run P w=.ok (.int .i64 p.2) w:=by simp [part,i2,h5]
 unfold Instr.checkKey kv
 simp [run_underlying h1,h2,h3,p1,p2,e1 9998 _ _ _ _ h6,e1 9998 _ _ _ _ h7]
theorem run_equal2 (h:Eq2 P kt) (p q:Int×Int):(Op.equal kt (kv p) (kv q)).run P w=.ok (decide (p=q)) w:=by
 have:=(eq2_run (w:=w) h (k:=.i64) (k':=.i64) (m:=p.1) (n:=p.2) (m':=q.1) (n':=q.2) 9998).1
 unfold Op.equal kv
 rw [show Op.maxDepth=9998+2 from rfl,this]
 congr 1
 simp [Prod.ext_iff]
theorem run_findAsking2 (h:Eq2 P kt) (p:Int×Int):∀ (L:List MapEntry) (ks:List (Int×Int)) (i:Nat),L.length=ks.length→(∀ (j:Nat) (h1:j<L.length) (h2:j<ks.length),L[j].key=kv ks[j]) →
  (Instr.findAsking kt (kv p) L i).run P w=.ok (match ks.findIdx? (fun q=>decide (p=q)) with|some j=>(L[j]?).map fun e=>(i+j,e.val)|none=>none) w
 |[],[],i,_,_=>by simp [Instr.findAsking]
 |e::L,q::ks,i,hl,hk=>by
  have h0:=hk 0 (by simp) (by simp)
  simp only [List.getElem_cons_zero] at h0
  simp only [Instr.findAsking,h0,Sem.run_bind,run_equal2 h,Result.andThen_ok]
  by_cases hpq:p=q
  ·simp [hpq,List.findIdx?_cons]
  ·have ih:=run_findAsking2 h p L ks (i+1) (by simpa using hl) (fun j h1 h2=>hk (j+1) (by simpa using h1) (by simpa using h2))
   simp only [hpq,decide_false,Bool.false_eq_true,if_false,ih,List.findIdx?_cons]
   cases ks.findIdx? (fun q=>decide (p=q)) with
   |none=>rfl
   |some j=>simp [Nat.add_assoc,Nat.add_comm 1 j]
 |[],q::ks,i,hl,_=>by simp at hl
 |e::L,[],i,hl,_=>by simp at hl
theorem run_findKey2 (h:Eq2 P kt) (p:Int×Int) (L:List MapEntry) (ks:List (Int×Int)) (hl:L.length=ks.length) (hk:∀ (j:Nat) (h1:j<L.length) (h2:j<ks.length),L[j].key=kv ks[j]) :
  (Instr.findKey kt (kv p) L).run P w=.ok (match ks.findIdx? (fun q=>decide (p=q)) with|some j=>(L[j]?).map fun e=>(j,e.val)|none=>none) w:=by
 obtain ⟨f,g,a,c,h1,_⟩:=eq2_fields w h
 have hw:(match P.underlying kt with|some (.array _ _)|some (.struct _)=>true|_=>false)=true:=by rw [h1]
 refine (run_findKey_eq (P:=P) (w:=w) hw (kv p) L).trans ?_
 rw [run_findAsking2 h p L ks 0 hl hk]
 simp
end
theorem mrel_keys {n:Nat} {ρ:Rho} {l:KMap} {ents:Array MapEntry} {clock:Nat} (h:MRel n ρ (l.map fun p=>(kv p.1,p.2)) ents clock) :
  ents.toList.length=(l.map (·.1)).length∧∀ (j:Nat) (h1:j<ents.toList.length) (h2:j<(l.map (·.1)).length),ents.toList[j].key=kv (l.map (·.1))[j]:=by
 obtain ⟨h1,h2,h3⟩:=h
 refine ⟨by simpa using h1,fun j hj hj2=>?_⟩
 have:=(h2 j (by simpa using hj2) (by simpa using hj)).1
 simpa using this
def mapUp (l:KMap) (k:Int×Int) (v:Value):KMap :=
 match (l.map (·.1)).findIdx? (fun q=>decide (k=q)) with
 |some j=>l.set j (k,v)
 |none=>l++[(k,v)]
def mapDel (l:KMap) (k:Int×Int):KMap :=
 match (l.map (·.1)).findIdx? (fun q=>decide (k=q)) with
 |some j=>l.eraseIdx j
 |none=>l
theorem vrel_map {n:Nat} {ρ:Rho} {i:Nat} {v':Value} (h:VRel n ρ (.map (some i)) v'):v'=.map (some (ρ i).b)∧i<n:=by cases h;exact ⟨rfl,by assumption⟩
theorem sameBits2 (p:Int×Int):Instr.sameBits 10000 (kv p) (kv p)=true:=by simp [Instr.sameBits,kv]
section ops
variable {P:Program} {rd:Option Nat} {ty:TypeId} {e:Env} {σ:Heap} {x y z:Operand} {v u:Value}
def mpOf (P:Program) (t:TypeId):Option (TypeId×TypeId):=match P.underlying t with|some (.map k e)=>some (k,e)|_=>none
class Mp (P:Program) (t:TypeId) (k e:outParam TypeId):Prop where
 h:mpOf P t=some (k,e)
theorem Mp.und {t k el:TypeId} (h:Mp P t k el):P.underlying t=some (.map k el):=by
 have:=h.h
 unfold mpOf at this
 split at this
 ·rename_i k e hu;cases this;exact hu
 ·cases this
theorem ok_makeMap {t:TypeId}:OpOk P rd (.makeMap t none) ty e σ (.map (some σ.length)) (σ++[.map []]) :=
 opok_run (by simp) fun o ho _ G w0 ρ A w hs _=>by
  have hs':=sim_alloc hs (.map #[] 0) (.map []) 0 ⟨fun hg=>by have h1:=(hs.fgn _ hg).1;have:=hs.size;simp only at h1;omega,#[],0,heap_alloc_self w _,⟨rfl,fun i h=>by simp at h,fun i j h=>by simp at h⟩⟩
  refine ⟨_,.map (some w.heap.size),_,.inl ?_,?_,by simp,fun i hi=>upd_lt hi,hs'⟩
  ·simp [execOp,ho,Instr.makeMap]
  ·have:=VQ.map (q:=false) (n:=(σ++[AObj.map []]).length) (ρ:=upd ρ σ.length w.heap.size 0) σ.length (by simp)
   rwa [upd_self] at this
theorem sim_map {G:Nat→Prop} {w0 w:World} {ρ:Rho} (hs:Sim G w0 ρ σ w) {i:Nat} {l:KMap} (hi:σ[i]?=some (mapO l)) :
  ¬ G (ρ i).b∧∃ ents clock,w.heap[(ρ i).b]?=some (.map ents clock)∧MRel σ.length ρ (l.map fun p=>(kv p.1,p.2)) ents clock:=hs.obj i _ hi
theorem ok_mapUpdate {t kt et i:Nat} {l:KMap} {k:Int×Int} [hm:Mp P t kt et] [hk:Eq2 P kt] (hx:evalO e x=some (.map (some i))) (hi:σ[i]?=some (mapO l)) (hy:evalO e y=some (kv k)) (hz:evalO e z=some v)
  (hni:σ.all (fun o=>!isIter o)=true):OpOk P rd (.mapUpdate t x y z) ty e σ undef (σ.set i (mapO (mapUp l k v))) :=
 opok_run (by simp) fun o ho _ G w0 ρ A w hs hop=>by
  obtain ⟨hxr,hil⟩:=vrel_map (hop x (by simp [Op.operands]) _ hx)
  have hyr:=vrel_plain_eq (hop y (by simp [Op.operands]) _ hy) (kv_plain k)
  have hzr:=hop z (by simp [Op.operands]) _ hz
  obtain ⟨hG,ents,clock,hh,hM⟩:=sim_map hs hi
  obtain ⟨hl,hkeys⟩:=mrel_keys hM
  have hfind:=run_findKey2 (w:=w) hk k ents.toList (l.map (·.1)) hl hkeys
  have hno:∀ j k' seen,σ[j]?=some (.iter k' seen)→(ρ k').b ≠ (ρ i).b∨j=i:=by
   intro j k' seen hj
   have:=List.all_eq_true.1 hni _ (List.mem_of_getElem? hj)
   simp [isIter] at this
  obtain ⟨m1,m2,m3⟩:=hM
  simp only [List.length_map] at m1
  cases hf:(l.map (·.1)).findIdx? (fun q=>decide (k=q)) with
  |none =>
   rw [hf] at hfind
   refine ⟨ρ,undef,_,.inr ⟨?_,rfl⟩,vrel_plain _ rfl,by simp,fun _ _=>rfl,sim_upd hs hi (oi:=mapO l) (o:=mapO (mapUp l k v)) trivial (chg_setObj w (ρ i).b (.map (ents.push { key:=kv k,val:=A.eval z,born:=clock }) (clock+1))) ?_ hno⟩
   ·simp [execOp,ho,Instr.mapUpdate,run_underlying hm.und,hxr,hyr,MapKept.run_getObj_map hh,run_checkKey2 hk,hfind,MapKept.run_setObj_map _ hh,Result.andThen]
   ·refine ⟨hG,_,_,(MapKept.heap_set hh).1,?_⟩
    unfold mapUp
    rw [hf]
    refine ⟨by simp [m1],fun j hj hj'=>?_,fun a b ha hb hab=>?_⟩
    ·simp only [List.map_append,List.length_append,List.length_map,List.length_cons,List.length_nil] at hj
     by_cases hjl:j<l.length
     ·have:=m2 j (by simpa using hjl) (by omega)
      rw [Array.getElem_push_lt (by omega)]
      simp only [List.map_append,List.getElem_append_left (show j<(l.map fun p=>(kv p.1,p.2)).length by simpa using hjl)]
      exact ⟨this.1,this.2.1,this.2.2.1,by have:=this.2.2.2;omega⟩
     ·have hje:j=ents.size:=by omega
      subst hje
      rw [Array.getElem_push_eq]
      simp only [List.map_append,List.map_cons,List.map_nil]
      rw [List.getElem_append_right (by simp;omega)]
      simp only [List.length_map,m1,Nat.sub_self,List.getElem_cons_zero]
      exact ⟨by first|rfl|trivial,kv_plain k,hzr,by omega⟩
    ·simp only [Array.size_push] at ha hb
     by_cases hbl:b<ents.size
     ·rw [Array.getElem_push_lt hbl,Array.getElem_push_lt (by omega)]
      exact m3 a b (by omega) hbl hab
     ·have hbe:b=ents.size:=by omega
      subst hbe
      rw [Array.getElem_push_eq,Array.getElem_push_lt (by omega)]
      exact (m2 a (by simp;omega) (by omega)).2.2.2
  |some j =>
   rw [hf] at hfind
   have hjl:j<l.length:=by have:=(List.findIdx?_eq_some_iff_findIdx_eq.1 hf).1;simpa using this
   have hkj:(l.map (·.1))[j]'(by simpa using hjl)=k:=by
    have:=List.findIdx?_eq_some_iff_getElem.1 hf
    obtain ⟨h1,h2,_⟩:=this
    exact (of_decide_eq_true h2).symm
   have hje:j<ents.size:=by omega
   have hlook:ents.toList[j]?=some ents[j]:=by simp [hje]
   simp only [hlook,Option.map_some] at hfind
   have hkey:ents[j].key=kv k:=by
    have:=hkeys j (by simpa using hje) (by simpa using hjl)
    rw [hkj] at this
    simpa using this
   have hkts:(Instr.keyThatStays (kv k) (kv k)).run P w=.ok (kv k) w:=by simp [Instr.keyThatStays,sameBits2]
   refine ⟨ρ,undef,_,.inr ⟨?_,rfl⟩,vrel_plain _ rfl,by simp,fun _ _=>rfl,sim_upd hs hi (oi:=mapO l) (o:=mapO (mapUp l k v)) trivial (chg_setObj w (ρ i).b (.map (ents.modify j fun e=>{ e with key:=kv k,val:=A.eval z }) clock)) ?_ hno⟩
   ·have hg:(ents[j]?.map (·.key)).getD (kv k)=kv k:=by simp [hje,hkey]
    simp [execOp,ho,Instr.mapUpdate,run_underlying hm.und,hxr,hyr,MapKept.run_getObj_map hh,run_checkKey2 hk,hfind,hkey,hje,hkts,MapKept.run_setObj_map _ hh,Result.andThen]
   ·refine ⟨hG,_,_,(MapKept.heap_set hh).1,?_⟩
    unfold mapUp
    rw [hf]
    refine ⟨by simp [m1],fun q hq hq'=>?_,fun a b ha hb hab=>?_⟩
    ·simp only [List.length_map,List.length_set] at hq
     have:=m2 q (by simpa using hq) (by omega)
     rw [Array.getElem_modify]
     by_cases hjq:j=q
     ·subst hjq
      simp only [if_true,List.getElem_map,List.getElem_set_self]
      exact ⟨by first|rfl|trivial,kv_plain k,hzr,this.2.2.2⟩
     ·rw [if_neg hjq]
      simp only [List.getElem_map,List.getElem_set_ne hjq]
      simpa using this
    ·simp only [Array.size_modify] at ha hb
     simp only [Array.getElem_modify]
     have hb1:∀ c (hc:c<ents.size),(if j=c then { ents[c] with key:=kv k,val:=A.eval z } else ents[c]).born=ents[c].born:=fun c hc=>by split <;> rfl
     rw [hb1 a ha,hb1 b hb]
     exact m3 a b ha hb hab
end ops
end Go.AH
namespace Go.AH
open Go
theorem nodup_idx {l:KMap} (h:(l.map (·.1)).Nodup) {a b:Nat} (ha:a<l.length) (hb:b<l.length) (he:l[a].1=l[b].1):a=b:=by
 have h':=List.pairwise_iff_getElem.1 h
 rcases Nat.lt_trichotomy a b with hab|hab|hab
 ·exact absurd (by rw [List.getElem_map,List.getElem_map];exact he) (h' a b (by simpa using ha) (by simpa using hb) hab)
 ·exact hab
 ·exact absurd (by rw [List.getElem_map,List.getElem_map];exact he.symm) (h' b a (by simpa using hb) (by simpa using ha) hab)
section
variable {P:Program} {n0 N:Nat} {rd:Option Nat} {Q:Post} {e:Env} {mk:List Nat} {σ:Heap} {K:Env→List Nat→Heap→Prop} {all rest:List Oper} {x y:Operand}
theorem sim_mapDel {G:Nat→Prop} {w0 w:World} {ρ:Rho} (hs:Sim G w0 ρ σ w) {i clock:Nat} {es:List (Value×Value)} {o:AObj} {ents ents':Array MapEntry} (hi:σ[i]?=some o) (hoi:o.owned) (hh:w.heap[(ρ i).b]?=some (.map ents clock)) (hsub:∀ e ∈ ents',e ∈ ents)
  (hM:MRel σ.length ρ es ents' clock):Sim G w0 ρ (σ.set i (.map es)) { w with heap:=w.heap.setIfInBounds (ρ i).b (.map ents' clock) }:=by
 have hc:=chg_setObj w (ρ i).b (.map ents' clock)
 have hset:=MapKept.heap_set (o':=.map ents' clock) hh
 have hGi:=(orel_block (hs.obj i o hi) hoi).2
 have h0:∀ j x,σ[j]?=some x→j ≠ i→x.owned→(ρ j).b ≠ (ρ i).b:=fun j x hx hne ho hb=>hne (hs.inj j i x o hx hi ho hoi hb)
 refine ⟨hs.os,hs.tape,hs.output,by simpa using hs.size,fun b hb=>?_,fun j x hx=>?_,fun j k oj ok hj hk hoj hok hjk=>?_⟩
 ·obtain ⟨h1,h2⟩:=hs.fgn b hb
  exact ⟨h1,(hset.2 b (fun hbe=>hGi (hbe ▸ hb))).trans h2⟩
 ·rw [List.length_set]
  rcases getElem?_set' hx with ⟨rfl,rfl⟩|⟨hne,hx⟩
  ·exact ⟨hGi,ents',clock,hset.1,hM⟩
  ·have hold:=hs.obj j x hx
   cases x with
   |iter m seen =>
    obtain ⟨q1,q2,en,cl,sb,q3,q4,q5,q6,q7⟩:=hold
    have hnb:=h0 j _ hx hne trivial
    by_cases hmi:(ρ m).b=(ρ i).b
    ·rw [hmi,hh] at q4
     cases q4
     exact ⟨q1,q2,ents',clock,sb,by rw [hset.2 _ hnb];exact q3,by rw [hmi];exact hset.1,fun e he=>q5 e (hsub e he),fun k hk=>by
      obtain ⟨t,h1,h2⟩:=q6 k hk
      exact ⟨t,h1,fun e he=>h2 e (hsub e he)⟩,q7⟩
    ·exact ⟨q1,q2,en,cl,sb,by rw [hset.2 _ hnb];exact q3,by rw [hset.2 _ hmi];exact q4,q5,q6,q7⟩
   |ro cs =>
    intro hcs
    obtain ⟨h1,h2⟩:=hold hcs
    refine ⟨h1,fun k hk=>?_⟩
    obtain ⟨v',h3,h4⟩:=h2 k hk
    exact ⟨v',by rw [← h3];exact cell_congr (hset.2 _ (fun hbe=>hGi (hbe ▸ h1))),h4⟩
   |dead=>trivial
   |rw cs =>
    intro hcs
    have hnb:=h0 j _ hx hne hcs
    have:=hold hcs
    rw [← hset.2 _ hnb] at this;exact this
   |gr cs t =>
    intro hcs
    have hnb:=h0 j _ hx hne hcs
    have:=hold hcs
    rw [← hset.2 _ hnb] at this;exact this
   |dfr=>have hnb:=h0 j _ hx hne trivial;exact ⟨hold.1,(hset.2 _ hnb).trans hold.2⟩
   |loop st pend N e params assign body =>
    have hnb:=h0 j _ hx hne trivial
    obtain ⟨h1,r,h2,h3⟩:=hold
    exact ⟨h1,r,(hset.2 _ hnb).trans h2,h3⟩
   |map es2 =>
    have hnb:=h0 j _ hx hne trivial
    obtain ⟨h1,en,cl,h2,h3⟩:=hold
    exact ⟨h1,en,cl,(hset.2 _ hnb).trans h2,h3⟩
   |deep qs sp =>
    have hfor:∀ b,G b→∀ y,w.heap[b]?=some y→(w.heap.setIfInBounds (ρ i).b (.map ents' clock))[b]?=some y:=fun b hb y hy=>by rw [hset.2 b (fun hbe=>hGi (hbe ▸ hb))];exact hy
    refine ⟨fun hq=>?_,fun y hy=>?_⟩
    ·obtain ⟨h1,h2⟩:=hold.1 hq
     refine ⟨h1,fun k hk=>?_⟩
     obtain ⟨v',h3,h4⟩:=h2 k hk
     exact ⟨v',cell_keep h3 (hfor _ h1),frow_mono h4 (fun _ hb=>hb) hfor⟩
    ·obtain ⟨h1,v',h3,h4⟩:=hold.2 y hy
     exact ⟨h1,v',cell_keep h3 (hfor _ h1),h4⟩
 ·rcases getElem?_set' hj with ⟨rfl,rfl⟩|⟨hne,gj⟩ <;> rcases getElem?_set' hk with ⟨rfl,rfl⟩|⟨hne',gk⟩
  ·rfl
  ·exact hs.inj _ _ o ok hi gk hoi hok hjk
  ·exact hs.inj _ _ oj o gj hi hoj hoi hjk
  ·exact hs.inj _ _ oj ok gj gk hoj hok hjk
theorem mem_eraseIdx' {α:Type} {l:Array α} {j:Nat} {x:α} (h:x ∈ l.eraseIdxIfInBounds j):x ∈ l:=by
 unfold Array.eraseIdxIfInBounds at h
 split at h
 ·rename_i hj
  have:x ∈ (l.eraseIdx j hj).toList:=Array.mem_toList_iff.2 h
  rw [Array.toList_eraseIdx] at this
  simpa using List.mem_of_mem_eraseIdx this
 ·exact h
theorem ok_delete {rd:Option Nat} {ty:TypeId} {t kt et kt2 i:Nat} {l:KMap} {k:Int×Int} [hm:Mp P t kt et] [hk:Eq2 P kt] (hx:evalO e x=some (.map (some i))) (hi:σ[i]?=some (mapO l)) (hy:evalO e y=some (kv k)) :
  OpOk P rd (.call { callee:=.builtin .delete,args:=#[x,y],argTypes:=#[t,kt2] }) ty e σ (.tuple #[]) (σ.set i (mapO (mapDel l k))) :=
 opok_run (by simp) fun o ho _ G w0 ρ A w hs hop=>by
  obtain ⟨hxr,hil⟩:=vrel_map (hop x (by simp [Op.operands,Call.operands]) _ hx)
  have hyr:=vrel_plain_eq (hop y (by simp [Op.operands,Call.operands]) _ hy) (kv_plain k)
  obtain ⟨hG,ents,clock,hh,hM⟩:=sim_map hs hi
  obtain ⟨hl,hkeys⟩:=mrel_keys hM
  have hfind:=run_findKey2 (w:=w) hk k ents.toList (l.map (·.1)) hl hkeys
  have hMM:=hM
  obtain ⟨m1,m2,m3⟩:=hM
  simp only [List.length_map] at m1
  cases hf:(l.map (·.1)).findIdx? (fun q=>decide (k=q)) with
  |none =>
   rw [hf] at hfind
   have e0:mapDel l k=l:=by unfold mapDel;rw [hf]
   have hs':=sim_mapDel hs hi (o:=mapO l) trivial hh (fun _ h=>h) hMM
   refine ⟨ρ,.tuple #[],_,.inl ?_,vrel_plain _ rfl,by simp,fun _ _=>rfl,by rw [e0];exact hs'⟩
   simp [execOp,ho,resolve,invoke,builtin,Builtin.delete_,run_underlying hm.und,hxr,hyr,MapKept.run_getObj_map hh,run_checkKey2 hk,hfind,MapKept.run_setObj_map _ hh,Result.andThen]
  |some j =>
   rw [hf] at hfind
   have hjl:j<l.length:=by have:=(List.findIdx?_eq_some_iff_findIdx_eq.1 hf).1;simpa using this
   have hje:j<ents.size:=by omega
   have hlook:ents.toList[j]?=some ents[j]:=by simp [hje]
   simp only [hlook,Option.map_some] at hfind
   have e0:mapDel l k=l.eraseIdx j:=by unfold mapDel;rw [hf]
   have e1:(ents.eraseIdxIfInBounds j).toList=ents.toList.eraseIdx j:=by
    unfold Array.eraseIdxIfInBounds
    rw [dif_pos hje,Array.toList_eraseIdx]
   have hsz:(ents.eraseIdxIfInBounds j).size=ents.size - 1:=by
    rw [← Array.length_toList,e1,List.length_eraseIdx,if_pos (by simpa using hje)];simp
   have hget:∀ (q:Nat) (hq:q<(ents.eraseIdxIfInBounds j).size),∃ q',∃ h:q'<ents.size,(ents.eraseIdxIfInBounds j)[q]=ents[q']∧q'=if q<j then q else q+1:=by
    intro q hq
    have h1:(ents.eraseIdxIfInBounds j)[q]=(ents.toList.eraseIdx j)[q]'(by rw [← e1,Array.length_toList];exact hq):=by
     rw [← Array.getElem_toList];simp only [e1]
    rw [h1,List.getElem_eraseIdx]
    split
    ·exact ⟨q,by omega,by simp,by simp [*]⟩
    ·exact ⟨q+1,by omega,by simp,by simp [*]⟩
   have hM2:MRel σ.length ρ ((mapDel l k).map fun p=>(kv p.1,p.2)) (ents.eraseIdxIfInBounds j) clock:=by
    rw [e0]
    refine ⟨by rw [hsz,List.length_map,List.length_eraseIdx,if_pos hjl,m1],fun q hq hq'=>?_,fun a b ha hb hab=>?_⟩
    ·obtain ⟨q',h1,h2,h3⟩:=hget q hq'
     simp only [h2]
     have hq2:q'<l.length:=by omega
     have h4:((l.eraseIdx j).map fun p=>(kv p.1,p.2))[q]=(l.map fun p=>(kv p.1,p.2))[q']'(by simpa using hq2):=by
      simp only [List.getElem_map,List.getElem_eraseIdx]
      subst h3
      split <;> simp_all
     rw [h4]
     exact m2 q' (by simpa using hq2) h1
    ·obtain ⟨a',a1,a2,a3⟩:=hget a ha
     obtain ⟨b',b1,b2,b3⟩:=hget b hb
     rw [a2,b2]
     exact m3 a' b' a1 b1 (by subst a3 b3;split <;> split <;> omega)
   have hs':=sim_mapDel hs hi (o:=mapO l) trivial hh (fun _ h=>mem_eraseIdx' h) hM2
   refine ⟨ρ,.tuple #[],_,.inl ?_,vrel_plain _ rfl,by simp,fun _ _=>rfl,hs'⟩
   simp [execOp,ho,resolve,invoke,builtin,Builtin.delete_,run_underlying hm.und,hxr,hyr,MapKept.run_getObj_map hh,run_checkKey2 hk,hfind,MapKept.run_setObj_map _ hh,Result.andThen]
end
end Go.AH
namespace Go
section
variable {F:Fence} {n:Nat} {P:Program} {Q:Exit→Act→World→Prop} {a:Act} {w:World} {b:Frame} {k:List Item} {cs:List Frame}
theorem AH.stepR_scope {c:Code}:step P (lone (b.atR a (.code (.scope c)::k)) cs w)=.next (lone (b.atR a (.code c::.inScope c::k)) cs w) :=
 step_lone_go (by simp [stepG,stepG.exec,Frame.atR])
theorem AH.stepR_inScope {c:Code}:step P (lone (b.atR a (.inScope c::k)) cs w)=.next (lone (b.atR a k) cs w) :=
 step_lone_go (by simp [stepG,stepG.exec,Frame.atR])
theorem AH.wpIn_label {l:Nat} (h:Q .normal a w):(Code.label l).wpIn F n P Q a w:=fun _ _ _ _ hb hr=>⟨.normal,a,w,h,.one (fenced_calm hb hr rfl) stepR_label⟩
theorem AH.wpIn_scope {c:Code} (h:c.wpIn F n P (fun e a w=>(∀ l,e ≠ .goto l)∧Q e a w) a w):(Code.scope c).wpIn F n P Q a w:=by
 intro b k cs hro hb hr
 have h0:(lone (b.atR a (.code (.scope c)::k)) cs w).fenced P F:=fenced_calm hb hr rfl
 obtain ⟨e,a₁,w₁,⟨hng,hq⟩,harr⟩:=h b (.inScope c::k) cs hro hb hr
 cases e with
 |normal=>exact ⟨.normal,a₁,w₁,hq,.head h0 AH.stepR_scope (StepsIn.trans harr (.one (fenced_calm hb hr rfl) AH.stepR_inScope))⟩
 |exit id =>
  have hx:exitTo id (.inScope c::k)=exitTo id k:=by simp [exitTo]
  exact ⟨_,a₁,w₁,hq,fun k' hk=>.head h0 AH.stepR_scope (harr.1 k' (by rw [hx];exact hk)),
   fun hr' hk=>let ⟨k₁,h1,h2⟩:=harr.2 hr' (by rw [hx];exact hk);⟨k₁,h1,.head h0 AH.stepR_scope h2⟩⟩
 |goto l=>exact absurd rfl (hng l)
 |ret=>exact ⟨_,a₁,w₁,hq,.of_steps (.one h0 AH.stepR_scope) harr⟩
 |panic ch=>exact ⟨_,a₁,w₁,hq,.of_steps (.one h0 AH.stepR_scope) harr⟩
 |outgrown=>exact ⟨_,a₁,w₁,hq,.of_steps (.one h0 AH.stepR_scope) harr⟩
end
end Go
namespace Go.AH
open Go
section
variable {P:Program} {n0 N:Nat} {rd:Option Nat} {Q:Post} {e:Env} {mk:List Nat} {σ:Heap}
theorem W_label {l:Nat} (h:Q .normal e mk σ):WCode P n0 N rd (.label l) Q e mk σ:=fun _G _w0 _ρ0 _A _w hi=>wpIn_label ⟨e,mk,σ,h,hi⟩
def scopeQ (Q:Post):Post
 |.goto _,_,_,_=>False
 |ex,e,mk,σ=>Q ex e mk σ
theorem W_scope {c:Code} (h:WCode P n0 N rd c (scopeQ Q) e mk σ):WCode P n0 N rd (.scope c) Q e mk σ:=by
 intro G w0 ρ0 A w hi
 refine wpIn_scope (wpIn_mono (h G w0 ρ0 A w hi) ?_)
 rintro ex A' w' ⟨e',mk',σ',q,i⟩
 cases ex with
 |goto l=>exact q.elim
 |_=>exact ⟨fun l h=>by (cases h),e',mk',σ',q,i⟩
theorem sq_n (h:Q .normal e mk σ):scopeQ Q .normal e mk σ:=h
theorem sq_r (h:Q .ret e mk σ):scopeQ Q .ret e mk σ:=h
theorem sq_e {id:Nat} (h:Q (.exit id) e mk σ):scopeQ Q (.exit id) e mk σ:=h
end
end Go.AH
namespace Go.AH
open Go
section
variable {P:Program} {rd:Option Nat} {ty:TypeId} {e:Env} {σ:Heap} {x y:Operand}
def PairsAt (f:Nat→Int×Int) (n:Nat) (xs:Array Value):Prop:=∀ i<n,xs.toList[i*2]?=some (.int .i64 (f i).1)∧xs.toList[i*2+1]?=some (.int .i64 (f i).2)
end
end Go.AH
namespace Go.AH
open Go
section ops
variable {P:Program} {rd:Option Nat} {ty:TypeId} {e:Env} {σ:Heap} {x y:Operand} {v:Value}
theorem ok_buildS0 {t el size bytes:Nat} {agg:Bool} {z:Value} [ha:Sl P t el] [ht:Ty P el size agg z bytes] :
  OpOk P rd (.buildSlice t 0 #[]) ty e σ (.slice none 0 1) (σ++[.dead]) :=
 opok_run (by simp) fun op ho _ G w0 ρ A w hs hx=>by
  obtain ⟨ie,i1,i2,i3,_⟩:=ht.info
  refine ⟨upd ρ σ.length w.heap.size 0,.slice (some ⟨w.heap.size,0,none⟩) 0 0,w.alloc (.cells #[] el),.inl ?_,.zslice _ rfl,by simp,fun i hi=>upd_lt hi,sim_alloc hs _ .dead 0 trivial⟩
  have e0:(Array.map (fun _=>(default:Value)) (Array.range 0))=#[]:=by simp
  simp [execOp,ho,Instr.buildSlice,run_underlying ha.und,sizeOf,typeInfo,i1,newRow,Instr.fill,e0]
def slOk:Value→Bool
 |.slice none 0 0=>true
 |.slice none 0 1=>true
 |.slice (some _) l c=>Nat.ble l c
 |_=>false
theorem cells_vals {G:Nat→Prop} {w0 w:World} {ρ:Rho} (hs:Sim G w0 ρ σ w) {j oj k:Nat} {news:List Value} (hc:cellsAt σ j oj k=some news) :
  ∃ rs:List Value,(∀ (q:Nat) (u:Value),rs[q]?=some u→w.cell? ((⟨(ρ j).b,(ρ j).o+oj,none⟩:Addr).add q)=some u)∧rs.length=k∧ARel σ.length ρ news.toArray rs.toArray:=by
 obtain ⟨hnl,hnc⟩:=cellsAt_rel hs hc
 have:∀ k≤news.length,∃ rs:List Value,rs.length=k∧∀ (q:Nat) (h1:q<rs.length) (h2:q<news.length),w.cell? ⟨(ρ j).b,(ρ j).o+oj+q,none⟩=some rs[q]∧VRel σ.length ρ news[q] rs[q]:=by
  intro k
  induction k with
  |zero=>intro _;exact ⟨[],rfl,fun q h1=>by simp at h1⟩
  |succ k ih =>
   intro hk
   obtain ⟨rs,e1,e2⟩:=ih (by omega)
   obtain ⟨v',e3,e4⟩:=hnc k (by omega)
   refine ⟨rs++[v'],by simp [e1],fun q h1 h2=>?_⟩
   by_cases hq:q<rs.length
   ·rw [List.getElem_append_left hq];exact e2 q hq h2
   ·have:q=k:=by simp at h1;omega
    subst this
    simp only [List.getElem_append_right (show rs.length≤q by omega),e1,Nat.sub_self,List.getElem_cons_zero]
    exact ⟨e3,e4⟩
 obtain ⟨rs,e1,e2⟩:=this news.length (Nat.le_refl _)
 refine ⟨rs,fun k u hu=>?_,by omega,by simp [e1],fun k hk hk'=>(e2 k (by simpa using hk') (by simpa using hk)).2⟩
 obtain ⟨hk,rfl⟩:=List.getElem?_eq_some_iff.1 hu
 rw [addr_add];exact (e2 k hk (by omega)).1
theorem ok_appendE {t el size bytes j oj m c:Nat} {agg:Bool} {z:Value} {news:List Value} [ha:Sl P t el] [ht:Ty P el size agg z bytes] (hzs:z.cells.size=size)
  (hx:evalO e x=some (.slice none 0 1)) (hy:evalO e y=some (.slice (some ⟨j,oj,none⟩) m c)) (hc:cellsAt σ j oj (m*size)=some news) (hm:0<m)
  (hb:m≤1000000) (hby:bytes≤1000000) :
  OpOk P rd (.call { callee:=.builtin .append,args:=#[x,y],argTypes:=#[t,t] }) ty e σ (slvV σ.length size m) (σ++[.gr news el]) :=
 opok_run (by simp) fun op ho _ G w0 ρ A w hs hop=>by
  have hxr:=hop x (by simp [Op.operands,Call.operands]) _ hx
  have hyr:=hop y (by simp [Op.operands,Call.operands]) _ hy
  obtain ⟨ie,i1,i2,i3,i4⟩:=ht.info
  have hx':∃ a,A.eval x=.slice a 0 0:=by
   generalize hr:A.eval x=r at hxr
   cases hxr with
   |zslice a=>exact ⟨_,rfl⟩
   |zsliceZ hq=>simp at hq
  obtain ⟨a,hx'⟩:=hx'
  have hy':∃ c',A.eval y=.slice (some ⟨(ρ j).b,(ρ j).o+oj,none⟩) m c':=by
   generalize hr:A.eval y=r at hyr
   cases hyr with
   |emptySlice=>omega
   |slice _ _ _ _ c' _ _=>exact ⟨c',rfl⟩
   |sliceG _ _ _ _ _ _ _ _ hq=>simp at hq
  obtain ⟨c',hy'⟩:=hy'
  obtain ⟨rs,hrs,hrl,hrel⟩:=cells_vals hs hc
  have hnl:news.length=m*size:=by
   have:=hrel.1;simp at this;omega
  have hbytes:m*ie.bytes≤140737488355328:=by rw [i4];exact Nat.le_trans (Nat.mul_le_mul hb hby) (by decide)
  have hge:=grownCap_ge w m 0 el
  have hsz:(rs.toArray++Builtin.zeroCells z.cells (grownCap w m 0 el - m)).size=grownCap w m 0 el*size:=by
   simp only [Array.size_append,List.size_toArray,size_zeroCells,hzs,hrl,← Nat.add_mul]
   congr 1;omega
  have hs2:=sim_alloc (sim_drew hs) (.cells (rs.toArray++Builtin.zeroCells z.cells (grownCap w m 0 el - m)) el) (.gr news el) (grownCap w m 0 el*size) (by
   intro _
   refine ⟨fun hg=>by have h1:=(hs.fgn _ hg).1;have:=hs.size;simp only at h1;have e2:w.drew.heap.size=w.heap.size:=rfl;omega,rfl,_,heap_alloc_self w.drew _,hsz,?_,fun k hk hk'=>?_⟩
   ·rw [hsz,hnl];exact Nat.mul_le_mul_right _ hge
   ·have hk2:k<rs.toArray.size:=by simp;omega
    rw [Array.getElem_append_left hk2]
    exact (hrel.2 k (by simpa using hk) hk2).mono (by simp) fun q hq=>upd_lt (by simpa using hq))
  refine ⟨_,.slice (some ⟨w.heap.size,0,none⟩) m (grownCap w m 0 el),_,.inl ?_,?_,by simp,fun k hk=>upd_lt hk,hs2⟩
  ·have hrun:(Builtin.append_ #[t,t] op.type #[.slice a 0 0,.slice (some ⟨(ρ j).b,(ρ j).o+oj,none⟩) m c']).run P w=.ok (.slice (some ⟨w.heap.size,0,none⟩) m (grownCap w m 0 el)) (w.drew.alloc (.cells (rs.toArray++Builtin.zeroCells z.cells (grownCap w m 0 el - m)) el)):=by
    cases a with
    |none=>exact run_append_nil (P:=P) w t op.type el ie z ha.und i1 i3 ⟨(ρ j).b,(ρ j).o+oj,none⟩ m c' rs (by rw [i2];exact hrl) hrs hm (by omega) (by omega)
    |some a =>
     have:=run_append_grow (P:=P) w t op.type el ie z ha.und i1 i3 a 0 0 [] (by simp) (by simp) ⟨(ρ j).b,(ρ j).o+oj,none⟩ m c' rs (by rw [i2];exact hrl) hrs (by omega) (by omega) (growslice_fits (by omega) (by simpa using hbytes))
     simpa using this
   simp [execOp,ho,resolve,invoke,builtin,hx',hy',hrun]
  ·have:=slvV_rel (n:=(σ++[AObj.gr news el]).length) (ρ:=upd ρ σ.length w.heap.size (grownCap w m 0 el*size)) (i:=σ.length) (sz:=size) (k:=m) (c':=grownCap w m 0 el) hm (by simp) hge (by simp [upd])
   rw [upd_self] at this;exact this
end ops
def PuOk (P:Program) (op:Op) (ty:TypeId) (e:Env) (v:Value):Prop :=
 (∀ o:Oper,o.op=op→∀ w (ev:Operand→Value),o.about P w ev=none) ∧
 ∀ o:Oper,o.op=op→o.type=ty→∀ (n:Nat) (ρ:Rho) (ev:Operand→Value),(∀ x ∈ op.operands,∀ u,evalO e x=some u→VRel n ρ u (ev x)) →
  ∃ v',(∀ w,(execOp ev o).run P w=.ok (.value v') w)∧VRel n ρ v v'
section pure
variable {P:Program} {ty:TypeId} {e:Env} {x y c a b:Operand} {v:Value}
end pure
def WAny (P:Program) (n0 N:Nat) (all:List Oper) (fuel:Nat) (listed:List Bool) (K:Env→List Nat→Heap→Prop) (e:Env) (mk:List Nat) (σ:Heap):Prop :=
 ∀ G w0 ρ0 A w,Inv n0 N G w0 ρ0 e mk σ A w→wpAnyIn Fence.wide 0 P .any all.toArray (fun ex A' w'=>ex=.normal∧∃ e' mk' σ',K e' mk' σ'∧Inv n0 N G w0 ρ0 e' mk' σ' A' w') fuel listed.toArray A w
section
variable {P:Program} {n0 N:Nat} {Q:Post} {K:Env→List Nat→Heap→Prop} {e:Env} {mk:List Nat} {σ:Heap} {id:Nat} {all l:List Oper} {listed:List Bool} {fuel:Nat}
def pureAt (all:List Oper) (listed:List Bool) (i:Nat):Bool:=(Region.ready .any all.toArray listed.toArray).contains i && Region.free .any all.toArray listed.toArray i && Region.noSelect all.toArray
def oneAt (all:List Oper) (listed:List Bool) (i:Nat):Bool:=match Region.ready .any all.toArray listed.toArray with|[k]=>Nat.beq k i|_=>false
def noneAt (all:List Oper) (listed:List Bool):Bool:=(Region.ready .any all.toArray listed.toArray).isEmpty
end
end Go.AH
namespace Go.AH
open Go
section
variable {P:Program} {rd:Option Nat} {ty:TypeId} {e:Env} {σ:Heap} {x y:Operand}
theorem guard_arr {t el n:Nat} {k:IntKind} [ha:Ar P t n el] [hk:Ik P el k]:P.eqGuardType P.depth t=false:=by
 unfold Program.depth
 simp [Program.eqGuardType,ha.und,hk.und]
def IntsAt (f:Nat→Int) (n:Nat) (xs:Array Value):Prop:=∀ i<n,xs.toList[i]?=some (.int .i64 (f i))
theorem run_part1 {el:TypeId} {bytes:Nat} {z:Value} {w:World} (ht:Ty P el 1 false z bytes) {xs:Array Value} {a:Value} {o:Nat} (h1:xs.toList[o]?=some a):(part el xs o).run P w=.ok a w:=by
 have e1:=ht.isAgg (w:=w)
 have h2:xs[o]?=some a:=by simpa using h1
 simp [part,e1,h2]
theorem run_eqItems1 {el:TypeId} {bytes:Nat} {z:Value} {w:World} (ht:Ty P el 1 false z bytes) (hk:Ik P el .i64) (d:Nat) {n:Nat} {f g:Nat→Int} {xs ys:Array Value} (hx:IntsAt f n xs) (hy:IntsAt g n ys) :
  ∀ is:List Nat,(∀ i ∈ is,i<n)→(Op.eqItems (d+2) el 1 xs ys is).run P w=.ok (decide (∀ i ∈ is,f i=g i)) w
 |[],_=>by simp [Op.eqItems]
 |i::is,h=>by
  have hi:=h i (by simp)
  have ih:=run_eqItems1 (w:=w) ht hk d hx hy is fun j hj=>h j (List.mem_cons_of_mem _ hj)
  have q:(Op.equalIn (d+2) el (.int .i64 (f i)) (.int .i64 (g i))).run P w=.ok (decide (f i=g i)) w:=by
   have:=hk.und
   simp [Op.equalIn,underlying,this]
   rfl
  have a1:(part el xs (i*1)).run P w=.ok (.int .i64 (f i)) w:=run_part1 ht (by rw [Nat.mul_one];exact hx i hi)
  have a2:(part el ys (i*1)).run P w=.ok (.int .i64 (g i)) w:=run_part1 ht (by rw [Nat.mul_one];exact hy i hi)
  simp only [Op.eqItems,Sem.run_bind,a1,a2,q,Result.andThen_ok]
  by_cases hfg:f i=g i
  ·simp [ih,hfg]
  ·simp [hfg]
theorem ok_eqArrI {t t' el n bytes:Nat} {z:Value} {f g:Nat→Int} {xs ys:List Value} [ha:Ar P t n el] [ht:Ty P el 1 false z bytes] [hk:Ik P el .i64] (hg:P.eqGuardType P.depth t=false)
  (hx:evalO e x=some (.agg xs.toArray)) (hy:evalO e y=some (.agg ys.toArray)) (hpx:plainL xs=true) (hpy:plainL ys=true) (hf:IntsAt f n xs.toArray) (hgg:IntsAt g n ys.toArray) :
  OpOk P rd (.binOp .eql t x y t') ty e σ (.bool (decide (∀ i ∈ List.range n,f i=g i))) σ :=
 ok_plain (by simp) rfl fun o ho _ A hA w=>by
  have h1:=hA x (by simp [Op.operands]) _ hx hpx
  have h2:=hA y (by simp [Op.operands]) _ hy hpy
  obtain ⟨ie,i1,i2,i3,i4⟩:=ht.info
  have hc:P.cellsOf el=1:=by simp [Program.cellsOf,i1,i2]
  have g1:=run_equalIn_array (P:=P) (w:=w) 9999 xs.toArray ys.toArray ha.und i1
  rw [hc] at g1
  have g2:=run_eqItems1 (w:=w) ht hk 9997 hf hgg (List.range n) (fun i hi=>List.mem_range.1 hi)
  rw [g2] at g1
  simp only [execOp,ho,h1,h2]
  simp only [run_eqGuard_agg _ _ _ _ _ _ _ hg,run_eql_struct,g1,Sem.run_bind,Result.andThen_ok,Sem.run_pure]
theorem ok_eqNil {t t' el i o n c:Nat} [ha:Sl P t el] (hx:evalO e x=some (.slice (some ⟨i,o,none⟩) n c)) (hn:0<n) (hy:evalO e y=some (.slice none 0 0)) :
  OpOk P rd (.binOp .eql t x y t') ty e σ (.bool false) σ :=
 opok_run (by simp) fun op ho _ G w0 ρ A w hs hop=>by
  have hxr:=hop x (by simp [Op.operands]) _ hx
  have hyr:=hop y (by simp [Op.operands]) _ hy
  have hx':∃ a c',A.eval x=.slice (some a) n c':=by
   generalize hr:A.eval x=r at hxr
   cases hxr with
   |emptySlice=>omega
   |slice _ _ _ _ c' _ _=>exact ⟨_,c',rfl⟩
   |sliceG _ _ _ _ _ _ _ _ hq=>simp at hq
  have hy':A.eval y=.slice none 0 0:=vrel_plain_eq hyr rfl
  obtain ⟨a,cx,hx'⟩:=hx'
  refine ⟨ρ,.bool false,w,.inl ?_,.bool _,by omega,fun _ _=>rfl,hs⟩
  have hu:=ha.und
  have h3:(eqGuard .eql t x y (.slice (some a) n cx) (.slice none 0 0)).run P w=.ok () w:=by unfold eqGuard;split <;> rfl
  have h5:∀ d,(Op.equalIn (d+1) t (.slice (some a) n cx) (.slice none 0 0)).run P w=.ok false w:=fun d=>by simp [Op.equalIn,underlying,hu]
  have h4:(Op.equal t (.slice (some a) n cx) (.slice none 0 0)).run P w=.ok false w:=h5 9999
  simp [execOp,ho,hx',hy',h3,binOp,h4]
end
end Go.AH
