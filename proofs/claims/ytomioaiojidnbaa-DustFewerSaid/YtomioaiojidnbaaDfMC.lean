/- Rules for abstract heaps, third part: slices, copies, appends, maps keyed by pairs, range loops, labels. Conditions: stand in each theorem. -/
import Derived.Test.YtomioaiojidnbaaDfMB
import Derived.WideKeyRuns
import Derived.Laws.IdiomRangeMap
import Derived.ChangeKeysEq
namespace Go.AH
open Go
def DeepIn (σ:Heap) (p:Pl) (qs:List (List Value)):Prop :=
 (p.o=0∧∃ sp,σ[p.b]?=some (.deep qs sp)) ∨
 ∃ cs',dh σ p.b p.o qs.length=some cs'∧∀ (k:Nat) (h:k<qs.length) (h':k<cs'.length),gy qs[k]=true∧∃ i o c,cs'[k]=.slice (some ⟨i,o,none⟩) qs[k].length c∧qs[k].length≤c∧(qs[k]=[]∨dh σ i o qs[k].length=some qs[k])
def FR (σ1 σ:Heap) (π:Rho):Prop :=
 ∀ k o,σ1[k]?=some o→(∃ cs,o=.ro cs∧(cs=[]∨∃ cs',dh σ (π k).b (π k).o cs.length=some cs'∧∀ (j:Nat) (h:j<cs.length) (h':j<cs'.length),jv σ1.length π cs[j] cs'[j])) ∨
  ∃ qs,o=.deep qs []∧(qs=[]∨DeepIn σ (π k) qs)
def dB:cu→Bool
 |.iter _ _=>true
 |_=>false
def wz:cu→Bool
 |.dead|.rw _|.gr _ _=>true
 |_=>false
def sW (r:Rho):cu→cu
 |.rw cs=>.rw (vP r cs)
 |.gr cs e=>.gr (vP r cs) e
 |o=>o
def shf (n1 n:Nat) (π:Rho):Rho:=fun i=>if i<n1 then π i else ⟨n+(i - n1),0,0⟩
theorem Kv {n1 n i:Nat} {π:Rho} (h:i<n1):shf n1 n π i=π i:=by simp [shf,h]
theorem Kw {n1 n i:Nat} {π:Rho} (h:¬ i<n1):shf n1 n π i=⟨n+(i - n1),0,0⟩:=by simp [shf,h]
theorem cellsAt_obj {σ:Heap} {b o n:Nat} {cs:List Value} (h:dh σ b o n=some cs):∃ x,σ[b]?=some x∧((∃ l,x=.ro l∧o+n≤l.length)∨(∃ l,(x=.rw l∨∃ t,x=.gr l t)∧o+n≤l.length)∨∃ qs sp v,x=.deep qs sp∧EL sp o=some v):=by
 unfold dh at h
 split at h
 ·rename_i l hl
  refine ⟨_,hl,.inl ⟨l,rfl,?_⟩⟩
  cases hb:Nat.ble (o+n) l.length with
  |true=>exact Nat.le_of_ble_eq_true hb
  |false=>simp [hb] at h
 ·rename_i l hl
  refine ⟨_,hl,.inr (.inl ⟨l,.inl rfl,?_⟩)⟩
  cases hb:Nat.ble (o+n) l.length with
  |true=>exact Nat.le_of_ble_eq_true hb
  |false=>simp [hb] at h
 ·rename_i l t hl
  refine ⟨_,hl,.inr (.inl ⟨l,.inr ⟨t,rfl⟩,?_⟩)⟩
  cases hb:Nat.ble (o+n) l.length with
  |true=>exact Nat.le_of_ble_eq_true hb
  |false=>simp [hb] at h
 ·rename_i qs sp hl
  cases hn:Nat.beq n 1 with
  |false=>simp [hn] at h
  |true =>
   simp only [hn,cond_true,Option.map_eq_some_iff] at h
   obtain ⟨v,hv,_⟩:=h
   exact ⟨_,hl,.inr (.inr ⟨qs,sp,v,rfl,hv⟩)⟩
 ·simp at h
def own (G:Nat→Prop) (ρ:Rho) (σ:Heap):Nat→Prop:=fun b=>G b∨∃ i o,σ[i]?=some o∧o.owned∧(ρ i).b=b
theorem ES:∀ {l:List Value},gy l=true→∀ (i:Nat) (h:i<l.length),plain l[i]=true
 |[],_,i,h=>by simp at h
 |v::l,hp,i,h=>by
  simp only [gy,Bool.and_eq_true] at hp
  cases i with
  |zero=>exact hp.1
  |succ i=>exact ES hp.2 i (by simpa using h)
theorem zY {G:Nat→Prop} {w0 w:World} {ρ:Rho} {σ:Heap} (hs:Sim G w0 ρ σ w) {b o n:Nat} {cs:List Value} (hc:dh σ b o n=some cs) (hpos:0<n):own G ρ σ (ρ b).b:=by
 obtain ⟨x,hx,h⟩:=cellsAt_obj hc
 rcases h with ⟨l,rfl,hle⟩|⟨l,h,hle⟩|⟨qs,sp,v,rfl,hv⟩
 ·have hl0:l ≠ []:=fun h=>by subst h;simp only [List.length_nil] at hle;omega
  exact .inl (hs.obj _ _ hx hl0).1
 ·have hl0:l ≠ []:=fun h=>by subst h;simp only [List.length_nil] at hle;omega
  refine .inr ⟨b,x,hx,?_,rfl⟩
  rcases h with rfl|⟨t,rfl⟩
  ·exact hl0
  ·exact hl0
 ·exact .inl ((hs.obj _ _ hx).2 _ (xg hv)).1
theorem vrel_slice_inv {n:Nat} {ρ:Rho} {i o l c:Nat} {v':Value} (h:gY n ρ (.slice (some ⟨i,o,none⟩) l c) v'):(l=0∧∃ a c',v'=.slice a 0 c')∨∃ c',c≤c'∧v'=.slice (some ⟨(ρ i).b,(ρ i).o+o,none⟩) l c':=by
 cases h with
 |emptySlice _ _ a c'=>exact .inl ⟨rfl,a,c',rfl⟩
 |slice _ _ _ _ c' hc _=>exact .inr ⟨c',hc,rfl⟩
 |sliceG _ _ _ _ c' _ hc _ hq=>cases hq
theorem sim_enter {G:Nat→Prop} {w0 w:World} {ρ:Rho} {σ σ1:Heap} {π:Rho} (hs:Sim G w0 ρ σ w) (hf:FR σ1 σ π):Sim (own G ρ σ) w (comp ρ π) σ1 w where
 os:=rfl
 tape:=rfl
 output:=rfl
 size:=Nat.le_refl _
 fgn b hb:=by
  refine ⟨?_,rfl⟩
  rcases hb with hb|⟨i,o,hi,ho,rfl⟩
  ·have:=(hs.fgn b hb).1;have:=hs.size;omega
  ·exact (fQ (hs.obj i o hi) ho).1
 obj k o hk:=by
  rcases hf k o hk with ⟨cs,rfl,hc⟩|⟨qs,rfl,hc⟩
  ·intro hne
   rcases hc with hc|⟨cs',hc,hv⟩
   ·exact absurd hc hne
   obtain ⟨hl,hrd⟩:=kH hs hc
   have hpos:0<cs.length:=List.length_pos_iff.2 hne
   refine ⟨zY hs hc hpos,fun j hj=>?_⟩
   obtain ⟨v',h1,h2⟩:=hrd j (by omega)
   exact ⟨v',by simpa [comp,Nat.add_assoc] using h1,(hv j hj (by omega)).trans h2⟩
  ·refine ⟨fun hne=>?_,fun x hx=>by simp at hx⟩
   have hpos:0<qs.length:=List.length_pos_iff.2 hne
   rcases hc.resolve_left hne with ⟨h0,sp,hc⟩|⟨cs',hc,hv⟩
   ·obtain ⟨g1,g2⟩:=(hs.obj _ _ hc).1 hne
    refine ⟨.inl g1,fun j hj=>?_⟩
    obtain ⟨v',h1,h2⟩:=g2 j hj
    exact ⟨v',by simpa [comp,h0] using h1,nC h2 (fun _=>.inl) (fun _ _ _ hy=>hy)⟩
   ·obtain ⟨hl,hrd⟩:=kH hs hc
    refine ⟨zY hs hc hpos,fun j hj=>?_⟩
    obtain ⟨v',h1,h2⟩:=hrd j (by omega)
    obtain ⟨hp,i,o,c,h3,h4,h5⟩:=hv j hj (by omega)
    rw [h3] at h2
    refine ⟨v',by simpa [comp,Nat.add_assoc] using h1,?_⟩
    rcases vrel_slice_inv h2 with ⟨h6,a,c',rfl⟩|⟨c',h6,rfl⟩
    ·have hq:qs[j]=[]:=List.eq_nil_of_length_eq_zero h6
     exact ⟨a,c',by rw [hq];rfl,by rw [hq];exact Nat.zero_le _,fun hq'=>absurd hq hq'⟩
    ·refine ⟨_,c',rfl,by omega,fun hq=>⟨_,_,rfl,?_,?_⟩⟩
     ·exact zY hs (h5.resolve_left hq) (List.length_pos_iff.2 hq)
     ·intro m hm
      obtain ⟨_,hrd2⟩:=kH hs (h5.resolve_left hq)
      obtain ⟨v2,h7,h8⟩:=hrd2 m hm
      have:=dD h8 (ES hp m hm)
      subst this
      exact h7
 inj i j oi oj hi _ hoi:=by
  rcases hf i oi hi with ⟨cs,rfl,_⟩|⟨qs,rfl,_⟩
  ·exact hoi.elim
  ·exact hoi.elim
theorem sim_leave {G:Nat→Prop} {w0 w w':World} {ρ ρ1:Rho} {σ σ1 news:Heap} {π:Rho} (hs:Sim G w0 ρ σ w) (hni:σ.all (fun o=>!dB o)=true) (hm:news.all wz=true)
  (hπ:∀ k < σ1.length,(π k).b < σ.length) (hag:∀ k < σ1.length,ρ1 k=comp ρ π k) (hs1:Sim (own G ρ σ) w ρ1 (σ1++news) w') :
  ∃ ρ':Rho,(∀ i < σ.length,ρ' i=ρ i)∧(∀ k<(σ1++news).length,ρ1 k=comp ρ' (shf σ1.length σ.length π) k)∧Sim G w0 ρ' (σ++news.map (sW (shf σ1.length σ.length π))) w':=by
 let ρ':Rho:=fun i=>if i < σ.length then ρ i else ρ1 (σ1.length+(i - σ.length))
 have hlt:∀ i < σ.length,ρ' i=ρ i:=fun i hi=>by simp only [ρ'];rw [if_pos hi]
 have hcomp:∀ k<(σ1++news).length,ρ1 k=comp ρ' (shf σ1.length σ.length π) k:=by
  intro k hk
  by_cases hk1:k < σ1.length
  ·rw [hag k hk1]
   simp only [comp,Kv hk1,hlt _ (hπ k hk1)]
  ·have h0:¬ (σ.length+(k - σ1.length) < σ.length):=by omega
   simp only [comp,Kw hk1,ρ']
   rw [if_neg h0,show σ1.length+(σ.length+(k - σ1.length) - σ.length)=k from by omega]
   simp
 have hnew:∀ (q:Nat) (o:cu),(σ++news.map (sW (shf σ1.length σ.length π)))[q]?=some o→¬ q < σ.length→∃ o1,(σ1++news)[σ1.length+(q - σ.length)]?=some o1∧o=sW (shf σ1.length σ.length π) o1∧wz o1=true:=by
  intro q o hq hlt
  rw [List.getElem?_append_right (by omega),List.getElem?_map] at hq
  obtain ⟨o1,h1,h2⟩:=Option.map_eq_some_iff.1 hq
  exact ⟨o1,by rw [List.getElem?_append_right (by omega),← h1];congr 1;omega,h2.symm,List.all_eq_true.1 hm o1 (List.mem_of_getElem? h1)⟩
 have rown:∀ o1:cu,wz o1=true→(sW (shf σ1.length σ.length π) o1).owned→o1.owned:=by
  intro o1 h1 h2
  cases o1 with
  |dead=>exact h2
  |rw cs=>intro hc;subst hc;exact h2 rfl
  |gr cs t=>intro hc;subst hc;exact h2 rfl
  |_=>simp [wz] at h1
 have hlen:(σ++news.map (sW (shf σ1.length σ.length π))).length=σ.length+news.length:=by simp
 refine ⟨ρ',hlt,hcomp,hs1.os.trans hs.os,hs1.tape.trans hs.tape,hs1.output.trans hs.output,Nat.le_trans hs.size hs1.size,fun b hb=>?_,fun q o hq=>?_,fun p q op oq hp hq hop hoq hpq=>?_⟩
 ·obtain ⟨h1,h2⟩:=hs.fgn b hb
  exact ⟨h1,((hs1.fgn b (.inl hb)).2).trans h2⟩
 ·rw [hlen]
  by_cases hql:q < σ.length
  ·rw [List.getElem?_append_left hql] at hq
   rw [hlt q hql]
   have hr:=hs.obj q o hq
   by_cases hown:o.owned∨∃ cs,o=.ro cs∧cs ≠ []
   ·refine lJ hr (by omega) hlt (fun x hx=>?_) (fun k seen hk=>?_) (fun k hk x hx=>?_)
    ·rw [(hs1.fgn _ ?_).2];exact hx
     rcases hown with ho|⟨cs,rfl,hcs⟩
     ·exact .inr ⟨q,o,hq,ho,rfl⟩
     ·exact .inl (hr hcs).1
    ·subst hk
     have:=List.all_eq_true.1 hni _ (List.mem_of_getElem? hq)
     simp [dB] at this
    ·rw [(hs1.fgn _ (.inl hk)).2];exact hx
   ·cases o with
    |dead=>trivial
    |ro cs=>intro hc;exact absurd (.inr ⟨cs,rfl,hc⟩) hown
    |rw cs=>intro hc;exact absurd (.inl hc) hown
    |gr cs t=>intro hc;exact absurd (.inl hc) hown
    |deep qs sp =>
     have hfor:∀ b,G b→∀ y,w.heap[b]?=some y→w'.heap[b]?=some y:=fun b hb y hy=>by rw [(hs1.fgn b (.inl hb)).2];exact hy
     refine ⟨fun hq=>?_,fun y hy=>?_⟩
     ·obtain ⟨g1,g2⟩:=hr.1 hq
      refine ⟨g1,fun k hk=>?_⟩
      obtain ⟨v',g3,g4⟩:=g2 k hk
      exact ⟨v',lI g3 (hfor _ g1),nC g4 (fun _ h=>h) hfor⟩
     ·obtain ⟨g1,v',g3,g4⟩:=hr.2 y hy
      exact ⟨g1,v',lI g3 (hfor _ g1),g4.mono (by omega) hlt⟩
    |_=>exact absurd (.inl trivial) hown
  ·obtain ⟨o1,h1,rfl,h3⟩:=hnew q o hq hql
   have hr:=hs1.obj _ _ h1
   have hpl:ρ' q=ρ1 (σ1.length+(q - σ.length)):=by simp only [ρ'];rw [if_neg hql]
   rw [hpl]
   have hGn:∀ {p:Nat},¬ own G ρ σ p→¬ G p:=fun h hg=>h (.inl hg)
   have hto:∀ v v':Value,gY (σ1++news).length ρ1 v v'→gY (σ.length+news.length) ρ' (ren (shf σ1.length σ.length π) v) v':=by
    intro v v' hv
    have hv2:=hv.mono (m:=(σ1++news).length) (ρ':=comp ρ' (shf σ1.length σ.length π)) (Nat.le_refl _) (fun k hk=>(hcomp k hk).symm)
    refine AV (fun i hi=>?_) hv2
    by_cases hi1:i < σ1.length
    ·rw [Kv hi1];have:=hπ i hi1;omega
    ·rw [Kw hi1];simp only [List.length_append] at hi;simp only;omega
   cases o1 with
   |dead=>trivial
   |rw cs =>
    intro hne
    have hcs:cs ≠ []:=fun hc=>by subst hc;exact hne rfl
    obtain ⟨g1,g2,rc,t,g3,g4,g5⟩:=hr hcs
    refine ⟨hGn g1,g2,rc,t,g3,by rw [yM];simpa using g4,fun k hk hk'=>?_⟩
    simp only [yM] at hk ⊢
    rw [List.getElem_map]
    exact hto _ _ (g5 k (by simpa using hk) hk')
   |gr cs t =>
    intro hne
    have hcs:cs ≠ []:=fun hc=>by subst hc;exact hne rfl
    obtain ⟨g1,g2,rc,g3,g3',g4,g5⟩:=hr hcs
    refine ⟨hGn g1,g2,rc,g3,g3',by rw [yM];simpa using g4,fun k hk hk'=>?_⟩
    simp only [yM] at hk ⊢
    rw [List.getElem_map]
    exact hto _ _ (g5 k (by simpa using hk) hk')
   |_=>simp [wz] at h3
 ·by_cases hpl:p < σ.length <;> by_cases hql:q < σ.length
  ·rw [List.getElem?_append_left hpl] at hp
   rw [List.getElem?_append_left hql] at hq
   rw [hlt p hpl,hlt q hql] at hpq
   exact hs.inj p q op oq hp hq hop hoq hpq
  ·obtain ⟨o1,h1,rfl,h3⟩:=hnew q oq hq hql
   rw [List.getElem?_append_left hpl] at hp
   have:=(fQ (hs1.obj _ _ h1) (rown _ h3 hoq)).2
   exfalso;apply this
   refine .inr ⟨p,op,hp,hop,?_⟩
   rw [hlt p hpl] at hpq
   rw [hpq];simp only [ρ'];rw [if_neg hql]
  ·obtain ⟨o1,h1,rfl,h3⟩:=hnew p op hp hpl
   rw [List.getElem?_append_left hql] at hq
   have:=(fQ (hs1.obj _ _ h1) (rown _ h3 hop)).2
   exfalso;apply this
   refine .inr ⟨q,oq,hq,hoq,?_⟩
   rw [hlt q hql] at hpq
   rw [← hpq];simp only [ρ'];rw [if_neg hpl]
  ·obtain ⟨o1,h1,rfl,h3⟩:=hnew p op hp hpl
   obtain ⟨o2,h4,rfl,h6⟩:=hnew q oq hq hql
   have e1:ρ' p=ρ1 (σ1.length+(p - σ.length)):=by simp only [ρ'];rw [if_neg hpl]
   have e2:ρ' q=ρ1 (σ1.length+(q - σ.length)):=by simp only [ρ'];rw [if_neg hql]
   rw [e1,e2] at hpq
   have:=hs1.inj _ _ _ _ h1 h4 (rown _ h3 hop) (rown _ h6 hoq) hpq
   omega
section
variable {P:Program} {σ σ1:Heap} {π:Rho} {f:FuncId}
theorem iJ.frame {args1 args:List Value} {R1 R:Value→Heap→Prop} (h:iJ P f args1 σ1 R1) (hf:FR σ1 σ π) (hπ:∀ k < σ1.length,(π k).b < σ.length) (hni:σ.all (fun o=>!dB o)=true)
  (hl:args1.length=args.length) (ha:∀ (i:Nat) (h:i<args1.length) (h':i<args.length),jv σ1.length π args1[i] args[i])
  (hR:∀ v1 σ1',R1 v1 σ1'→∃ news,σ1'=σ1++news∧news.all wz=true∧R (ren (shf σ1.length σ.length π) v1) (σ++news.map (sW (shf σ1.length σ.length π)))):iJ P f args σ R:=by
 intro G w0 ρ ar w hs har
 have hs1:=sim_enter hs hf
 have hl2:args.length=ar.size:=by simpa using har.1
 refine (h (own G ρ σ) w (comp ρ π) ar w hs1 ⟨by simp;omega,fun i hi hi'=>?_⟩).mono ?_
 ·have h1:=ha i (by simpa using hi) (by omega)
  exact h1.trans (har.2 i (by simp;omega) hi')
 ·rintro en w' ⟨ρ1',vr,v1,σ1',rfl,hr1,hv,hle,hag,hs2⟩
  obtain ⟨news,rfl,hm,hr⟩:=hR v1 σ1' hr1
  obtain ⟨ρ',k1,k2,k3⟩:=sim_leave hs hni hm hπ hag hs2
  refine ⟨ρ',vr,_,_,rfl,hr,?_,by simp,k1,k3⟩
  have hv2:=hv.mono (m:=(σ1++news).length) (ρ':=comp ρ' (shf σ1.length σ.length π)) (Nat.le_refl _) (fun k hk=>(k2 k hk).symm)
  refine AV (fun i hi=>?_) hv2
  by_cases hi1:i < σ1.length
  ·rw [Kv hi1];have:=hπ i hi1;simp;omega
  ·rw [Kw hi1];simp only [List.length_append] at hi;simp;omega
theorem Ev.nil {args:List Value} {v:Value} (h:Ev P f args [] v []) (hp:gy args=true) (hv:plain v=true) (hni:σ.all (fun o=>!dB o)=true):Ev P f args σ v σ:=by
 refine iJ.frame (π:=fun i=>⟨i,0,0⟩) h (fun k o hk=>by simp at hk) (fun k hk=>by simp at hk) hni rfl (fun i hi hi'=>qG args.toArray (by simpa [rQ] using hp) i (by simpa using hi)) ?_
 rintro v1 s1 ⟨rfl,rfl⟩
 exact ⟨[],rfl,rfl,rH _ hv,by simp⟩
end
end Go.AH
namespace Go.AH
open Go
def yt (e:Env):Env→Prop
 |[]=>True
 |(t,v)::r=>Env.get e t=some v∧yt e r
theorem sD {e:Env}:∀ {e2:Env},yt e e2→∀ p ∈ e2,Env.get e p.1=some p.2
 |[],_,p,hp=>by simp at hp
 |(t,v)::r,h,p,hp=>by
  rcases List.mem_cons.1 hp with rfl|hp
  ·exact h.1
  ·exact sD h.2 p hp
def yu (n:Nat) (π:Rho) (e:Env):Env→Prop
 |[]=>True
 |(t,v2)::r=>(∃ v,Env.get e t=some v∧jv n π v2 v)∧yu n π e r
theorem sF {n:Nat} {π:Rho} {e:Env}:∀ {e2:Env},yu n π e e2→Qz n π e e2
 |[],_,p,hp=>by simp at hp
 |(t,v)::r,h,p,hp=>by
  rcases List.mem_cons.1 hp with rfl|hp
  ·exact h.1
  ·exact sF h.2 p hp
theorem bD {n:Nat} {π:Rho} {e:Env} {t:Nat} {v:Value} (h:Env.get e t=some v) (hp:plain v=true):∃ u,Env.get e t=some u∧jv n π v u:=⟨v,h,bU v hp⟩
theorem aV {n m:Nat} {π:Rho} {e:Env} {t:Nat} {v:Value} (h:Env.get e t=some v) (hπ:∀ i<m,π i=⟨i,0,0⟩) (hm:m≤n) (hc:closed m v=true) (ho:okV v=true):∃ u,Env.get e t=some u∧jv n π v u :=
 ⟨v,h,nG hπ hm v hc ho⟩
theorem ET {n:Nat} {π:Rho} {i j sz k:Nat} (hi:i<n) (hj:π i=⟨j,0,0⟩):jv n π (dL i sz k) (dL j sz k):=by
 cases k with
 |zero=>exact .nilSlice
 |succ k =>
  have:=VQ.gsliceG (q:=true) (n:=n) (ρ:=π) i 0 (k+1) (k+1) (k+1) sz (Nat.le_refl _) hi rfl
  simpa [dL,hj] using this
theorem dw {n:Nat} {π:Rho} {i j sz k:Nat} (hi:i<n) (hj:π i=⟨j,0,0⟩):jv n π (.slice (some ⟨i,0,none⟩) k k) (dL j sz k):=by
 cases k with
 |zero=>exact .emptySlice _ _ _ _
 |succ k =>
  have:=VQ.sliceG (q:=true) (n:=n) (ρ:=π) i 0 (k+1) (k+1) (k+1) sz (Nat.le_refl _) hi rfl
  simpa [dL,hj] using this
theorem gu {n:Nat} {π:Rho} {i j k c c':Nat} (hi:i<n) (hj:π i=⟨j,0,0⟩) (hc:c≤c'):jv n π (.slice (some ⟨i,0,none⟩) k c) (.slice (some ⟨j,0,none⟩) k c'):=by
 have:=VQ.slice (q:=true) (n:=n) (ρ:=π) i 0 k c c' hc hi
 simpa [hj] using this
theorem vF {n:Nat} {π:Rho} {e:Env} {t i j sz k:Nat} (h:Env.get e t=some (dL j sz k)) (hi:i<n) (hj:π i=⟨j,0,0⟩):∃ u,Env.get e t=some u∧jv n π (dL i sz k) u:=⟨_,h,ET hi hj⟩
theorem er_nil {n:Nat} {π:Rho} {e:Env} {t i sz:Nat} (h:Env.get e t=some (.slice none 0 0)):∃ u,Env.get e t=some u∧jv n π (dL i sz 0) u:=⟨_,h,.nilSlice⟩
def bT (n0:Nat) (σ σ2:Heap) (e e2:Env):Prop :=
 (σ2=σ∧yt e e2)∨((∀ (i:Nat) (o:cu),σ[i]?=some o→fJ σ.length o)→∃ π,Iy n0 π σ σ2∧Qz σ2.length π e e2)
section
variable {P:Program} {n0 N:Nat} {rd:Option Nat} {Q:Post} {e e2:Env} {mk:List Nat} {σ σ2:Heap}
theorem inv_ref {G:Nat→Prop} {w0:World} {ρ0:Rho} {A:Act} {w:World} (h:bT n0 σ σ2 e e2) (hm:∀ i ∈ mk,i<n0) (hi:Inv n0 N G w0 ρ0 e mk σ A w):Inv n0 N G w0 ρ0 e2 mk σ2 A w:=by
 obtain ⟨h0,ρ,ha,hs,ht,hmk,hmb⟩:=hi
 rcases h with ⟨rfl,he⟩|h
 ·exact ⟨h0,ρ,ha,hs,⟨ht.1,fun t v hv=>ht.2 t v (sD he _ (vk hv))⟩,hmk,hmb⟩
 ·obtain ⟨π,hh,he⟩:=h fun i o hi=>lg (hs.obj i o hi)
  exact ⟨hh.le,comp ρ π,fun i hi=>(comp_id (hh.id i hi)).trans (ha i hi),BM hh hs,Iz he ht,by rw [hmk];congr 1;exact List.map_congr_left fun i hi=>by rw [comp_id (hh.id i (hm i hi))],fun i hi=>Nat.lt_of_lt_of_le (hm i hi) hh.le⟩
theorem Gs (hm:∀ i ∈ mk,i<n0) (h:bT n0 σ σ2 e e2) {c:Code} (k:dI P n0 N rd c Q e2 mk σ2):dI P n0 N rd c Q e mk σ:=fun G w0 ρ0 A w hi=>k G w0 ρ0 A w (inv_ref h hm hi)
theorem iD {ι:Type} (E:ι→Env) (S:ι→Heap) (μ:ι→Nat) (p:ι→Prop) (i0:ι) {body:Code} (hm:∀ i ∈ mk,i<n0) (h0:bT n0 σ (S i0) e (E i0)) (hp:p i0)
  (round:∀ i,p i→dI P n0 N rd body (iM (fun e' mk' σ'=>mk'=mk∧∃ i',p i'∧μ i' < μ i∧bT n0 σ' (S i') e' (E i')) Q) (E i) mk (S i)):dI P n0 N rd (.loop body) Q e mk σ:=by
 refine Kq (fun m e1 mk1 σ1=>mk1=mk∧∃ i,p i∧μ i=m∧bT n0 σ1 (S i) e1 (E i)) (m0:=μ i0) ⟨rfl,i0,hp,rfl,h0⟩ ?_
 rintro m e1 mk1 σ1 ⟨rfl,i,hpi,rfl,hst⟩
 refine Gs hm hst ((round i hpi).mono ?_)
 intro ex e' mk' σ' h
 cases ex with
 |normal =>
  obtain ⟨h1,i',h2,h3,h4⟩:=h
  exact ⟨μ i',h3,h1,i',h2,rfl,h4⟩
 |_=>exact h
theorem bT.same (h:yt e e2):bT n0 σ σ e e2:=.inl ⟨rfl,h⟩
def eX (n:Nat):Heap→Prop
 |[]=>True
 |o::r=>fJ n o∧eX n r
theorem wB {n:Nat}:∀ {σ:Heap},eX n σ→∀ (i:Nat) (o:cu),σ[i]?=some o→fJ n o
 |[],_,i,o,h=>by simp at h
 |x::r,hc,i,o,h=>by
  cases i with
  |zero=>simp at h;subst h;exact hc.1
  |succ i=>exact wB hc.2 i o (by simpa using h)
def je (n:Nat) (l:List Nat):Rho:=fun i=>if i<n then ⟨i,0,0⟩ else match l[i - n]? with|some j=>⟨j,0,0⟩|none=>⟨i,0,0⟩
theorem aY {n i:Nat} {l:List Nat} (h:i<n):je n l i=⟨i,0,0⟩:=by simp [je,h]
def nT (σ:Heap) (n:Nat) (π:Rho) (k:Nat):Heap→Prop
 |[]=>True
 |o::r=>qU σ n π (π k) o∧nT σ n π (k+1) r
theorem xA {σ:Heap} {n:Nat} {π:Rho}:∀ {news:Heap} {k:Nat},nT σ n π k news→∀ (j:Nat) (o:cu),news[j]?=some o→qU σ n π (π (k+j)) o
 |[],_,_,j,o,h=>by simp at h
 |x::r,k,hc,j,o,h=>by
  cases j with
  |zero=>simp at h;subst h;exact hc.1
  |succ j=>have:=xA hc.2 j o (by simpa using h);rwa [show k+1+j=k+(j+1) from by omega] at this
def jo (n:Nat) (l:List Nat):Bool:=l.all (Nat.ble n) && decide l.Nodup
theorem Dj {σ0 news:Heap} (l:List Nat) (hn0:n0≤σ0.length) (hσ:σ.take σ0.length=σ0) (hcl:eX σ0.length σ0) (hl:l.length=news.length) (hd:jo σ0.length l=true)
  (ho:nT σ (σ0.length+news.length) (je σ0.length l) σ0.length news):Iy n0 (je σ0.length l) σ (σ0++news):=by
 simp only [jo,Bool.and_eq_true,List.all_eq_true,decide_eq_true_eq] at hd
 have hsrc:∀ j (hj:j<l.length),je σ0.length l (σ0.length+j)=⟨l[j],0,0⟩:=fun j hj=>by
  simp only [je]
  rw [if_neg (by omega),show σ0.length+j - σ0.length=j from by omega,List.getElem?_eq_getElem hj]
 refine ⟨by simp;omega,fun i hi=>aY (by omega),fun i o2 hi=>?_,fun i j oi oj hi hj _ _ hij=>?_⟩
 ·rw [List.length_append]
  by_cases hlt:i < σ0.length
  ·rw [List.getElem?_append_left hlt] at hi
   exact oN (fun i hi=>aY hi) (by omega) hlt (take_get hσ hi) (wB hcl i o2 hi)
  ·rw [List.getElem?_append_right (by omega)] at hi
   have:=xA ho _ o2 hi
   rwa [show σ0.length+(i - σ0.length)=i from by omega] at this
 ·have h1:=iP hi
  have h2:=iP hj
  simp only [List.length_append] at h1 h2
  have ge:∀ q,¬ q < σ0.length→q < σ0.length+news.length→∃ h:q - σ0.length<l.length,(je σ0.length l q).b=l[q - σ0.length]∧σ0.length≤l[q - σ0.length]:=by
   intro q hq hq2
   have h:q - σ0.length<l.length:=by omega
   have:=hsrc (q - σ0.length) h
   rw [show σ0.length+(q - σ0.length)=q from by omega] at this
   exact ⟨h,by rw [this],Nat.le_of_ble_eq_true (hd.1 _ (List.getElem_mem h))⟩
  by_cases hli:i < σ0.length <;> by_cases hlj:j < σ0.length
  ·rw [aY hli,aY hlj] at hij;exact hij
  ·obtain ⟨h,e1,e2⟩:=ge j hlj h2
   rw [aY hli,e1] at hij;simp only at hij;omega
  ·obtain ⟨h,e1,e2⟩:=ge i hli h1
   rw [aY hlj,e1] at hij;simp only at hij;omega
  ·obtain ⟨h,e1,e2⟩:=ge i hli h1
   obtain ⟨h',e1',e2'⟩:=ge j hlj h2
   rw [e1,e1'] at hij
   have:=(List.getElem_inj hd.2).1 hij
   omega
theorem bT.src (σ0 news:Heap) (l:List Nat) (hn0:n0≤σ0.length) (hσ:σ.take σ0.length=σ0) (hcl:eX σ0.length σ0) (hl:l.length=news.length) (hd:jo σ0.length l=true)
  (ho:nT σ (σ0.length+news.length) (je σ0.length l) σ0.length news) (he:yu (σ0.length+news.length) (je σ0.length l) e e2):bT n0 σ (σ0++news) e e2 :=
 .inr fun _=>⟨_,Dj l hn0 hσ hcl hl hd ho,by rw [List.length_append];exact sF he⟩
theorem qC {σ:Heap} {n:Nat} {π:Rho} {cs:List Value} {t:TypeId} {j k:Nat} (hk:π k=⟨j,0,0⟩) (h:σ[j]?=some (.gr cs t)) (hp:gy cs=true):qU σ n π (π k) (.gr cs t) :=
 .inr ⟨by rw [hk],cs,by rw [hk];exact h,Nat.le_refl _,fun i hi _=>iG cs hp i hi⟩
theorem sG {σ:Heap} {n:Nat} {π:Rho} {t:TypeId} {p:Pl}:qU σ n π p (.gr [] t):=.inl rfl
end
theorem dQ.src {σin σ:Heap} {v v2:Value} (news:Heap) (l:List Nat) (hσ:σ.take σin.length=σin) (hl:l.length=news.length) (hd:jo σin.length l=true)
  (ho:nT σ (σin.length+news.length) (je σin.length l) σin.length news) (hv:jv (σin.length+news.length) (je σin.length l) v2 v):dQ σin σ v v2 (σin++news):=by
 refine Or.inr fun hcl=>⟨_,Dj l (Nat.le_refl _) hσ ?_ hl hd ho,by rw [List.length_append];exact hv⟩
 have:∀ s:Heap,(∀ o ∈ s,fJ σin.length o)→eX σin.length s:=by
  intro s
  induction s with
  |nil=>intro _;trivial
  |cons x r ih=>intro h;exact ⟨h x (by simp),ih fun o ho=>h o (by simp [ho])⟩
 exact this σin fun o ho=>by
  obtain ⟨i,hi⟩:=List.mem_iff_getElem?.1 ho
  exact hcl i o hi
theorem Dk {α:Type} (f:α→Value) (h:∀ x,plain (f x)=true):∀ l:List α,gy (l.map f)=true
 |[]=>rfl
 |x::l=>by simp [gy,h x,Dk f h l]
theorem ug:∀ a b:List Value,gy (a++b)=(gy a && gy b)
 |[],b=>by simp [gy]
 |x::a,b=>by simp [gy,ug a b,Bool.and_assoc]
theorem ay {n:Nat}:∀ {l:List Value},gy l=true→dR n l=true∧okL l=true
 |[],_=>⟨rfl,rfl⟩
 |v::l,h=>by
  simp only [gy,Bool.and_eq_true] at h
  obtain ⟨h1,h2⟩:=ay (n:=n) h.2
  have hv:=bU (q:=false) (n:=0) (ρ:=fun _=>⟨0,0,0⟩) v h.1
  exact ⟨by simp [dR,plain_closed h.1,h1],by simp [okL,AX hv,h2]⟩
end Go.AH
namespace Go.AH
open Go
def qE:List Nat→List Value→Env→Env
 |p::ps,v::vs,e=>qE ps vs ((p,v)::e)
 |_,_,e=>e
theorem A8 {n:Nat} {ρ:Rho} {N:Nat}:∀ (ps:List Nat) (vs rs:List Value) (e:Env) (tmps:Array Value),yO n ρ N e tmps→lF n ρ vs.toArray rs.toArray→ps.all (Nat.blt · N)=true →
  yO n ρ N (qE ps vs e) ((ps.zip rs).foldl (fun t x=>t.setIfInBounds x.1 x.2) tmps)
 |[],vs,rs,e,tmps,h,_,_=>by simpa [qE] using h
 |p::ps,[],[],e,tmps,h,_,_=>by simpa [qE] using h
 |p::ps,[],r::rs,e,tmps,_,hr,_=>by have:=hr.1;simp at this
 |p::ps,v::vs,[],e,tmps,_,hr,_=>by have:=hr.1;simp at this
 |p::ps,v::vs,r::rs,e,tmps,h,hr,hp=>by
  simp only [List.all_cons,Bool.and_eq_true,Nat.blt_eq] at hp
  have h0:=hr.2 0 (by simp) (by simp)
  simp only [qE,List.zip_cons_cons,List.foldl_cons]
  refine A8 ps vs rs _ _ (Il h hp.1 h0) ⟨by have:=hr.1;simpa using this,fun i hi hi'=>?_⟩ hp.2
  have:=hr.2 (i+1) (by simpa using hi) (by simpa using hi')
  simpa using this
section
variable {P:Program} {n0 N:Nat} {rd:Option Nat} {Q:Post} {e:Env} {mk:List Nat} {σ:Heap} {K:Env→List Nat→Heap→Prop} {all rest:List Oper}
def uh (st:LoopState) (pend:Option Code):cu→cu
 |.loop _ _ N e ps a b=>.loop st pend N e ps a b
 |o=>o
def sH:cu→Bool
 |.loop ..=>true
 |_=>false
theorem yw {G:Nat→Prop} {w0 w:World} {ρ:Rho} (hs:Sim G w0 ρ σ w) {l:Nat} {o:cu} (hl:σ[l]?=some o) (hlo:sH o=true) :
  ∃ r:Loop,w.heap[(ρ l).b]?=some (.loop r)∧∀ st pend,Sim G w0 ρ (σ.set l (uh st pend o)) (w.putObj (ρ l).b (.loop { r with state:=st,pending:=pend })):=by
 cases o with
 |loop st0 p0 N e ps as bd =>
  obtain ⟨g1,r,g2,g3,g4,g5,g6,g7,g8⟩:=hs.obj l _ hl
  refine ⟨r,g2,fun st pend=>?_⟩
  refine tq hs hl trivial (rX w _ _) ?_ ?_
  ·refine ⟨g1,{ r with state:=st,pending:=pend },?_,rfl,rfl,g5,g6,g7,g8⟩
   have:=block_lt g2
   simp [World.putObj,this]
  ·intro j k seen hj
   left
   intro hbk
   obtain ⟨_,_,ents,clock,sb,_,g6,_⟩:=hs.obj j _ hj
   rw [hbk,g2] at g6;simp at g6
 |_=>simp [sH] at hlo
def iE (P:Program) (n0 N:Nat) (all rest:List Oper) (K:Env→List Nat→Heap→Prop) (d l:Nat) (e:Env) (mk:List Nat):Post
 |.normal,_,_,σ2=>∃ o,σ2[l]?=some o∧sH o=true∧dO P n0 N none all rest K ((d,.bool true)::e) mk (σ2.set l (uh .ready none o))
 |.ret,_,_,σ2=>∃ o,σ2[l]?=some o∧sH o=true∧dO P n0 N none all rest K ((d,.bool false)::e) mk (σ2.set l (uh .done (some .ret) o))
 |.exit id,_,_,σ2=>∃ o,σ2[l]?=some o∧sH o=true∧dO P n0 N none all rest K ((d,.bool false)::e) mk (σ2.set l (uh .done (some (.exit id)) o))
 |_,_,_,_=>False
def iK (P:Program) (n1 N':Nat) (l:Nat) (body:Code) (QB:Post):Post
 |.normal,e1,mk1,σ1=>∃ N2 e2 ps2 as2 bd2 pend,σ1[l]?=some (.loop .ready pend N2 e2 ps2 as2 bd2)∧dI P n1 N' (some l) body QB e1 mk1 (σ1.set l (.loop .busy pend N2 e2 ps2 as2 bd2))
 |_,_,_,_=>False
theorem iT {g:Option (Nat×Bool)} {d l N':Nat} {ty:TypeId} {pos:String} {after:Array Edge} {x:Operand} {ls:List Operand} {ts:Array TypeId} {vs:List Value} {e':Env} {ps:List Nat} {assign body:Code} {pend:Option Code}
  (hx:bf e x=some (.func (.yield l) #[] #[])) (hl:uy e ls=some vs) (hσ:σ[l]?=some (.loop .ready pend N' e' ps.toArray assign body)) (hlen:Nat.beq vs.length ps.length=true) (hps:ps.all (Nat.blt · N')=true)
  (hd:Nat.blt d N=true) (hw:∀ T n ρ A,CO T n ρ N e mk A→Region.wanted ⟨some d,.call { callee:=.value x,args:=ls.toArray,argTypes:=ts },ty,pos,after,g⟩ (yielded all.toArray A.tmps)=true)
  (h:dI P σ.length N' (some l) assign (iK P σ.length N' l body (iE P n0 N all rest K d l e mk)) (qE ps vs e') [] σ) :
  dO P n0 N none all (⟨some d,.call { callee:=.value x,args:=ls.toArray,argTypes:=ts },ty,pos,after,g⟩::rest) K e mk σ:=by
 intro G w0 ρ0 A w hi Q' hQ
 obtain ⟨h0,ρ,hag,hs,her⟩:=hi
 simp only [wpL]
 rw [if_pos (hw _ _ _ _ her)]
 have hlen':=Nat.eq_of_beq_eq_true hlen
 obtain ⟨g1,r,g2,g3,g4,g5,g6,g7,g8⟩:=hs.obj l _ hσ
 have hll:=iP hσ
 have hxr:=qc her hx
 have hxr':A.eval x=.func (.yield (ρ l).b) #[] #[]:=by
  generalize hr:A.eval x=v at hxr
  cases hxr;rfl
 have har:=uz (A:=A) (fun y _ u hu=>qc her hu) hl
 have hsz:(ls.map A.eval).length=ps.length:=by have:=har.1;simp at this ⊢;omega
 refine ⟨fun f _=>pq _ _ _,?_⟩
 rw [Oper.semAt_eq _ _ _ (by simp)]
 have hrun:(execOp A.eval ⟨some d,.call { callee:=.value x,args:=ls.toArray,argTypes:=ts },ty,pos,after,g⟩).run P w =
   .ok (.round (ρ l).b r.fn ((ps.zip (ls.map A.eval)).foldl (fun t x=>t.setIfInBounds x.1 x.2) r.tmps) assign body) w:=by
  have hz:(ps.toArray.zip (ls.map A.eval).toArray)=(ps.zip (ls.map A.eval)).toArray:=by simp
  simp [execOp,resolve,hxr',Deferred.ofValue,invoke,Instr.yield,run_getLoop g2,g5,g6,g7,hsz]
 rw [hrun,Oper.uponIn_round]
 refine ⟨fun h=>by rw [zO] at h;simp at h,?_⟩
 refine roundIn_of_wpIn (pq _ _ _) ?_
 have hfen:(fen ρ0 none).inRound (ρ l).b=fen (rU σ.length ρ []) (some l):=by simp only [fen,ny hll]
 rw [hfen]
 have ht0:=A8 ps vs (ls.map A.eval) e' r.tmps g8 har hps
 have hinv:Inv σ.length N' G w0 (rU σ.length ρ []) (qE ps vs e') [] σ { tmps:=(ps.zip (ls.map A.eval)).foldl (fun t x=>t.setIfInBounds x.1 x.2) r.tmps,defers:=[] } w :=
  ⟨Nat.le_refl _,ρ,fun _ h=>(ny h).symm,hs,ht0,by rw [rW];rfl,fun i hi=>by simp at hi⟩
 refine wpIn_mono (h G w0 _ _ w hinv) ?_
 rintro ex A1 w1 ⟨e1,mk1,σ1,q,k0,ρ1,k1',k2,k3⟩
 have k1:∀ i < σ.length,ρ1 i=ρ i:=fun i hi=>(k1' i hi).trans (ny hi)
 cases ex with
 |normal =>
  obtain ⟨N2,e2,ps2,as2,bd2,pd2,q1,q2⟩:=q
  obtain ⟨r1,b1,b2⟩:=yw k2 q1 rfl
  have hst:r1.state=.ready:=by
   obtain ⟨_,r',c2,c3,_⟩:=k2.obj l _ q1
   rw [b1] at c2;cases c2;exact c3
  have hpd:r1.pending=pd2:=by
   obtain ⟨_,r',c2,c3,c4,_⟩:=k2.obj l _ q1
   rw [b1] at c2;cases c2;exact c4
  have hbl:(ρ1 l).b=(ρ l).b:=by rw [k1 l hll]
  refine ⟨w1.putObj (ρ l).b (.loop { r1 with state:=.busy }),run_beginRound (by rw [← hbl];exact b1) hst,?_⟩
  have hs2:=b2 .busy pd2
  rw [hbl] at hs2
  have e9:({ r1 with state:=.busy,pending:=pd2 }:Loop)={ r1 with state:=.busy }:=by rw [← hpd]
  rw [e9] at hs2
  have hinv2:Inv σ.length N' G w0 (rU σ.length ρ []) e1 mk1 (σ1.set l (.loop .busy pd2 N2 e2 ps2 as2 bd2)) A1 (w1.putObj (ρ l).b (.loop { r1 with state:=.busy })) :=
   ⟨by simpa using k0,ρ1,k1',hs2,by simpa using k3⟩
  refine wpIn_mono (q2 G w0 _ A1 _ hinv2) ?_
  rintro ex2 A2 w2 ⟨e3,mk3,σ3,q3,m0,ρ3,m1',m2,m3⟩
  have m1:∀ i < σ.length,ρ3 i=ρ i:=fun i hi=>(m1' i hi).trans (ny hi)
  have fin:∀ (jump:Option Code) (b:Bool) (o:cu),σ3[l]?=some o→sH o=true→jump.isNone=b →
    dO P n0 N none all rest K ((d,.bool b)::e) mk (σ3.set l (uh (if b then .ready else .done) jump o)) →
    ∃ v w',(Instr.endRound (ρ l).b jump).run P w2=.ok v w'∧wpL (fen ρ0 none) 0 P all.toArray Q' rest (A.put (some d) v) w':=by
   intro jump b o hlo hio hj hk
   obtain ⟨r3,d1,d2⟩:=yw m2 hlo hio
   have hbl3:(ρ3 l).b=(ρ l).b:=by rw [m1 l hll]
   refine ⟨.bool b,w2.putObj (ρ l).b (.loop { r3 with state:=if b then .ready else .done,pending:=jump }),?_,?_⟩
   ·rw [hbl3] at d1
    have:=run_endRound (P:=P) jump d1
    rw [hj] at this
    exact this
   ·have hs3:=d2 (if b then .ready else .done) jump
    rw [hbl3] at hs3
    refine hk G w0 ρ0 _ _ ⟨by simp;omega,ρ3,fun i hi=>(m1 i (by omega)).trans (hag i hi),hs3,?_⟩ Q' hQ
    rw [List.length_set]
    exact uq (wZ her m0 m1) (by simpa [Nat.blt_eq] using hd) (.bool b)
  cases ex2 with
  |normal =>
   obtain ⟨o,p1,p2,p3⟩:=q3
   exact fin none true o p1 p2 rfl p3
  |ret =>
   obtain ⟨o,p1,p2,p3⟩:=q3
   exact fin (some .ret) false o p1 p2 rfl p3
  |exit id =>
   obtain ⟨o,p1,p2,p3⟩:=q3
   exact fin (some (.exit id)) false o p1 p2 rfl p3
  |_=>exact q3.elim
 |_=>exact q.elim
def Dl (P:Program) (n0 N:Nat) (Q:Post) (e:Env) (mk:List Nat) (l:Nat) (σ2:Heap):Prop :=
 ∃ st pend N2 e2 ps2 as2 bd2,σ2[l]?=some (.loop st pend N2 e2 ps2 as2 bd2)∧st ≠ .busy ∧
  (match pend with
   |none=>Q .normal e mk (σ2.set l .dead)
   |some c=>dI P n0 N none c Q e mk (σ2.set l .dead))
theorem Ba {g:Operand} {ps:Array Tmp} {assign body:Code} {f:FuncId} {p q:List Value} [hc:GoFn P f] (hg:bf e g=some (.func (.func f) p.toArray q.toArray))
  (hcall:iJ P f (p++[.func (.yield (σ.length+1)) #[] #[]]++q) (σ++[.dfr,.loop .ready none N e ps assign body]) (fun _ σ2=>Dl P n0 N Q e (σ.length::mk) (σ.length+1) σ2)) :
  dI P n0 N none (.rangeFunc g ps assign body) Q e mk σ:=by
 intro G w0 ρ0 A w hi
 obtain ⟨h0,ρ,hag,hs,her⟩:=hi
 have hgr:=qc her hg
 generalize hge:A.eval g=gv at hgr
 cases hgr with
 |func _ _ p' _ q' e1 e2 e3 e4 =>
  refine wpIn_rangeFunc fun fn _=>?_
  have hro:(fen ρ0 none).round=none:=rfl
  rw [hro]
  have hs1:=lZ hs (.deferred (some [])) .dfr 0 ⟨fun hg=>by have h1:=(hs.fgn _ hg).1;have:=hs.size;simp only at h1;omega,jm w _⟩
  have hn1:(w.alloc (.deferred (some []))).heap.size=w.heap.size+1:=by simp
  have ht1:yO (σ++[cu.dfr]).length (upd ρ σ.length w.heap.size 0) N e A.tmps:=rJ her.tmps (by simp) fun i hi=>jM hi
  let r0:Loop:={ state:=.ready,pending:=none,fn,tmps:=A.tmps,params:=ps,assign,body,defers:=w.heap.size }
  have hs2:=lZ hs1 (.loop r0) (.loop .ready none N e ps assign body) 0 ⟨fun hg=>by have h1:=(hs.fgn _ hg).1;have:=hs.size;simp only at h1;omega,r0,jm _ _,rfl,rfl,rfl,rfl,rfl,rJ ht1 (Nat.le_succ _) fun i hi=>jM hi⟩
  rw [hn1] at hs2
  simp only [List.length_append,List.length_singleton,List.append_assoc,List.singleton_append] at hs2
  have hρ:∀ i < σ.length,upd (upd ρ σ.length w.heap.size 0) (σ.length+1) (w.heap.size+1) 0 i=ρ i:=fun i hi=>by rw [jM (by omega),jM hi]
  have hl1:upd (upd ρ σ.length w.heap.size 0) (σ.length+1) (w.heap.size+1) 0 (σ.length+1)=⟨w.heap.size+1,0,0⟩:=nR
  have hl0:upd (upd ρ σ.length w.heap.size 0) (σ.length+1) (w.heap.size+1) 0 σ.length=⟨w.heap.size,0,0⟩:=by rw [jM (by omega)];exact nR
  refine ⟨w.heap.size+1,[{ target:=.collected w.heap.size,args:=#[] }],(w.alloc (.deferred (some []))).alloc (.loop r0),⟨.fn (.func f) q',p'++#[.func (.yield (w.heap.size+1)) #[] #[]]⟩,
   (w.alloc (.deferred (some []))).alloc (.loop r0),f,p'++#[.func (.yield (w.heap.size+1)) #[] #[]]++q',(w.alloc (.deferred (some []))).alloc (.loop r0),?_,?_,?_,?_,fun h=>by rw [zO] at h;simp at h,?_⟩
  ·exact run_enterLoop_outer _ _ _ _ _
  ·simp only [resolve,hge]
   simp [Deferred.ofValue,Act.eval]
  ·intro f' _;exact pq _ _ _
  ·simp [invoke,hc.run]
  ·have harel:lF (σ++[cu.dfr,cu.loop .ready none N e ps assign body]).length (upd (upd ρ σ.length w.heap.size 0) (σ.length+1) (w.heap.size+1) 0) (p++[Value.func (.yield (σ.length+1)) #[] #[]]++q).toArray (p'++#[.func (.yield (w.heap.size+1)) #[] #[]]++q'):=by
    have a1:lF σ.length ρ p.toArray p':=⟨e1,e3⟩
    have a2:lF σ.length ρ q.toArray q':=⟨e2,e4⟩
    refine oL (l1:=p++[_]) (oL (zS a1 (by simp) hρ) ⟨rfl,fun i hi hi'=>?_⟩) (zS a2 (by simp) hρ)
    have:i=0:=by simp at hi;exact hi
    subst this
    have:=VQ.yield (q:=false) (n:=(σ++[cu.dfr,cu.loop .ready none N e ps assign body]).length) (ρ:=upd (upd ρ σ.length w.heap.size 0) (σ.length+1) (w.heap.size+1) 0) (σ.length+1) (by simp)
    rw [hl1] at this
    exact this
   refine (hcall G w0 _ _ _ hs2 harel).mono ?_
   rintro en w' ⟨ρ',vr,v,σ2,rfl,⟨st,pend,N2,e2',ps2,as2,bd2,q1,q2,q3⟩,hv,hle,hag2,hs3⟩
   simp only [List.length_append,List.length_cons,List.length_nil,Nat.zero_add] at hle hag2
   obtain ⟨r2,b1,b2⟩:=yw hs3 q1 rfl
   have hbl:(ρ' (σ.length+1)).b=w.heap.size+1:=by rw [hag2 _ (by omega),hl1]
   obtain ⟨_,r',c2,c3,c4,_⟩:=hs3.obj _ _ q1
   rw [b1] at c2;cases c2
   rw [hbl] at b1
   refine ⟨r2.pending,_,run_endLoop b1 (by rw [c3];exact q2),?_⟩
   have hs4:=CQ (b2 .exhausted r2.pending) (σ.length+1)
   rw [List.set_set,hbl] at hs4
   have hinv:Inv n0 N G w0 ρ0 e (σ.length::mk) (σ2.set (σ.length+1) .dead) { A with defers:={ target:=.collected w.heap.size,args:=#[] }::A.defers } (w'.putObj (w.heap.size+1) (.loop { r2 with state:=.exhausted })):=by
    refine ⟨by simp;omega,ρ',fun i hi=>(hag2 i (by omega)).trans ((hρ i (by omega)).trans (hag i hi)),hs4,?_⟩
    have her2:=wZ her (m:=(σ2.set (σ.length+1) .dead).length) (ρ':=ρ') (by simp;omega) fun i hi=>(hag2 i (by omega)).trans (hρ i hi)
    refine ⟨her2.tmps,?_,fun i hi=>?_⟩
    ·simp only [List.map_cons]
     rw [hag2 σ.length (by omega),hl0]
     rw [List.cons_append]
     congr 1
     exact her2.mks
    ·rcases List.mem_cons.1 hi with rfl|hi
     ·simp;omega
     ·exact her2.mkb i hi
   rw [c4] at hinv ⊢
   cases pend with
   |none=>exact ⟨e,_,_,q3,hinv⟩
   |some c=>exact q3 G w0 ρ0 _ _ hinv
end
end Go.AH
namespace Go.AH
open Go
def jL (σ:Heap) (b:Nat) (cs:List Value):Prop:=σ[b]?=some (.ro cs)∨σ[b]?=some (.rw cs)∨∃ t,σ[b]?=some (.gr cs t)
theorem qI {σ:Heap} {b:Nat} {cs:List Value} (h:jL σ b cs):dh σ b 0 cs.length=some cs:=by
 have e:cs.length.ble cs.length=true:=Nat.ble_eq_true_of_le (Nat.le_refl _)
 rcases h with h|h|⟨t,h⟩ <;> simp [dh,h,e]
def zZ (σ:Heap):List (List Value)→List Nat→Prop
 |[],[]=>True
 |c::cs,b::bs=>jL σ b c∧zZ σ cs bs
 |_,_=>False
def bsR (bs:List Nat):Rho:=fun k=>match bs[k]? with|some b=>⟨b,0,0⟩|none=>⟨k,0,0⟩
theorem sJ {σ:Heap}:∀ {cs:List (List Value)} {bs:List Nat},zZ σ cs bs→∀ (k:Nat) (c:List Value),cs[k]?=some c→∃ b,bs[k]?=some b∧jL σ b c
 |[],[],_,k,c,hk=>by simp at hk
 |c0::cs,b0::bs,h,k,c,hk=>by
  cases k with
  |zero=>simp at hk;subst hk;exact ⟨b0,rfl,h.1⟩
  |succ k=>exact sJ h.2 k c (by simpa using hk)
 |[],_::_,h,_,_,_=>h.elim
 |_::_,[],h,_,_,_=>h.elim
def AS (n:Nat) (π:Rho):List Value→List Value→Prop
 |[],[]=>True
 |a::as,b::bs=>jv n π a b∧AS n π as bs
 |_,_=>False
theorem Dn {n:Nat} {π:Rho}:∀ {as bs:List Value},AS n π as bs→as.length=bs.length∧∀ (i:Nat) (h:i<as.length) (h':i<bs.length),jv n π as[i] bs[i]
 |[],[],_=>⟨rfl,fun i h=>by simp at h⟩
 |a::as,b::bs,h=>by
  obtain ⟨h1,h2⟩:=Dn h.2
  refine ⟨by simp [h1],fun i hi hi'=>?_⟩
  cases i with
  |zero=>exact h.1
  |succ i=>exact h2 i (by simpa using hi) (by simpa using hi')
 |[],_::_,h=>h.elim
 |_::_,[],h=>h.elim
section
variable {P:Program} {σ:Heap} {f:FuncId}
theorem Ev.arrs {args1 args:List Value} {v:Value} (css:List (List Value)) (bs:List Nat) (h:Ev P f args1 (css.map .ro) v (css.map .ro)) (hb:zZ σ css bs) (ha:AS css.length (bsR bs) args1 args)
  (hpl:css.all gy=true) (hv:plain v=true) (hni:σ.all (fun o=>!dB o)=true):Ev P f args σ v σ:=by
 obtain ⟨h1,h2⟩:=Dn ha
 refine iJ.frame (π:=bsR bs) h (fun k o hk=>?_) (fun k hk=>?_) hni h1 (by simpa using h2) ?_
 ·rw [List.getElem?_map] at hk
  obtain ⟨c,hc,rfl⟩:=Option.map_eq_some_iff.1 hk
  obtain ⟨b,g1,g2⟩:=sJ hb k c hc
  refine .inl ⟨c,rfl,.inr ⟨c,?_,fun j hj _=>iG c (List.all_eq_true.1 hpl c (List.mem_of_getElem? hc)) j hj⟩⟩
  simp only [bsR,g1]
  exact qI g2
 ·simp only [List.length_map] at hk
  obtain ⟨b,g1,g2⟩:=sJ hb k css[k] (by simp [hk])
  simp only [bsR,g1]
  rcases g2 with g2|g2|⟨t,g2⟩ <;> exact iP g2
 ·rintro v1 s1 ⟨rfl,rfl⟩
  exact ⟨[],by simp,rfl,rH _ hv,by simp⟩
end
end Go.AH
namespace Go.AH
open Go
section
variable {P:Program} {rd:Option Nat} {ty:TypeId} {e:Env} {σ:Heap} {x y:Operand}
theorem gQ {t len el size bytes i o:Nat} {agg:Bool} {z:Value} {kd:IntKind} {k:Nat} [ha:Ar P t len el] [ht:Ty P el size agg z bytes] (h:bf e x=some (.pointer (some ⟨i,o,none⟩))) (hy:bf e y=some (.int kd (k:Nat)))
  (h1:k<len):dV P rd (.indexAddr t x y) ty e σ (.pointer (some ⟨i,o+k*size,none⟩)) σ:=by
 have:=bV (P:=P) (rd:=rd) (ty:=ty) (σ:=σ) (t:=t) (ha:=ha) (ht:=ht) h hy (by omega) (by omega)
 simpa using this
theorem bZ {t el size bytes i o n c:Nat} {agg:Bool} {z:Value} {kd:IntKind} {k:Nat} [ha:Sl P t el] [ht:Ty P el size agg z bytes] (h:bf e x=some (.slice (some ⟨i,o,none⟩) n c)) (hy:bf e y=some (.int kd (k:Nat)))
  (h1:k<n):dV P rd (.indexAddr t x y) ty e σ (.pointer (some ⟨i,o+k*size,none⟩)) σ:=by
 have:=lC (P:=P) (rd:=rd) (ty:=ty) (σ:=σ) (t:=t) (ha:=ha) (ht:=ht) h hy (by omega) (by omega)
 simpa using this
theorem IK {m n:Int} {t t':TypeId} (hx:bf e x=some (.int .i64 m)) (hy:bf e y=some (.int .i64 n)) (h:n ≠ 0) (h1:-9223372036854775808≤m.tdiv n) (h2:m.tdiv n≤9223372036854775807) :
  dV P rd (.binOp .quo t x y t') ty e σ (.int .i64 (m.tdiv n)) σ:=by
 have:=Oi (P:=P) (rd:=rd) (ty:=ty) (σ:=σ) (t:=t) (t':=t') hx hy h
 rwa [wrap64 h1 h2] at this
end
def Sz (n:Nat) (e:Env):Env→Prop
 |[]=>True
 |(t,v)::r=>(Env.get e t=some v∧closed n v=true∧okV v=true)∧Sz n e r
theorem bT.drop {n0:Nat} {e e2:Env} (σ0 junk:Heap) (hn0:n0≤σ0.length) (hcl:eX σ0.length σ0) (he:Sz σ0.length e e2):bT n0 (σ0++junk) σ0 e e2:=by
 have hr:∀ e2:Env,Sz σ0.length e e2→yu (σ0.length+0) (je σ0.length []) e e2:=by
  intro e2
  induction e2 with
  |nil=>intro _;trivial
  |cons p r ih =>
   intro h
   exact ⟨aV h.1.1 (fun i hi=>aY hi) (Nat.le_refl _) h.1.2.1 h.1.2.2,ih h.2⟩
 have:=bT.src (n0:=n0) (σ:=σ0++junk) (e:=e) (e2:=e2) σ0 [] [] hn0 (by simp) hcl rfl rfl trivial (hr e2 he)
 simpa using this
end Go.AH
namespace Go.AH
open Go
section
variable {P:Program} {σ:Heap} {f:FuncId}
theorem Ev.arrsN {args1 args:List Value} {v1 v:Value} {news news':Heap} (css:List (List Value)) (bs:List Nat) (h:Ev P f args1 (css.map .ro) v1 (css.map .ro++news)) (hb:zZ σ css bs) (ha:AS css.length (bsR bs) args1 args)
  (hpl:css.all gy=true) (hm:news.all wz=true) (hv:ren (shf css.length σ.length (bsR bs)) v1=v) (hn:news.map (sW (shf css.length σ.length (bsR bs)))=news') (hni:σ.all (fun o=>!dB o)=true):Ev P f args σ v (σ++news'):=by
 obtain ⟨h1,h2⟩:=Dn ha
 subst hv hn
 refine iJ.frame (π:=bsR bs) h (fun k o hk=>?_) (fun k hk=>?_) hni h1 (by simpa using h2) ?_
 ·rw [List.getElem?_map] at hk
  obtain ⟨c,hc,rfl⟩:=Option.map_eq_some_iff.1 hk
  obtain ⟨b,g1,g2⟩:=sJ hb k c hc
  refine .inl ⟨c,rfl,.inr ⟨c,?_,fun j hj _=>iG c (List.all_eq_true.1 hpl c (List.mem_of_getElem? hc)) j hj⟩⟩
  simp only [bsR,g1]
  exact qI g2
 ·simp only [List.length_map] at hk
  obtain ⟨b,g1,g2⟩:=sJ hb k css[k] (by simp [hk])
  simp only [bsR,g1]
  rcases g2 with g2|g2|⟨t,g2⟩ <;> exact iP g2
 ·rintro v2 s1 ⟨rfl,rfl⟩
  exact ⟨news,rfl,hm,by simp⟩
end
end Go.AH
namespace Go.AH
open Go
def IL (n:Nat) (π:Rho) (c c':List Value):Prop:=c.length=c'.length∧∀ (j:Nat) (h:j<c.length) (h':j<c'.length),jv n π c[j] c'[j]
def Dp (σ:Heap) (n:Nat) (π:Rho):List (List Value)→List (Nat×List Value)→Prop
 |[],[]=>True
 |c::cs,(b,c')::bs=>(jL σ b c'∧IL n π c c')∧Dp σ n π cs bs
 |_,_=>False
theorem Aa {σ:Heap} {n:Nat} {π:Rho}:∀ {cs:List (List Value)} {bs:List (Nat×List Value)},Dp σ n π cs bs→∀ (k:Nat) (c:List Value),cs[k]?=some c→∃ p,bs[k]?=some p∧jL σ p.1 p.2∧IL n π c p.2
 |[],[],_,k,c,hk=>by simp at hk
 |c0::cs,(b0,c0')::bs,h,k,c,hk=>by
  cases k with
  |zero=>simp at hk;subst hk;exact ⟨_,rfl,h.1⟩
  |succ k=>exact Aa h.2 k c (by simpa using hk)
 |[],_::_,h,_,_,_=>h.elim
 |_::_,[],h,_,_,_=>h.elim
section
variable {P:Program} {σ:Heap} {f:FuncId}
theorem Ev.arrsR {args1 args:List Value} {v1 v:Value} {news news':Heap} (css:List (List Value)) (bs:List (Nat×List Value)) (h:Ev P f args1 (css.map .ro) v1 (css.map .ro++news))
  (hb:Dp σ css.length (bsR (bs.map (·.1))) css bs) (ha:AS css.length (bsR (bs.map (·.1))) args1 args) (hm:news.all wz=true) (hv:ren (shf css.length σ.length (bsR (bs.map (·.1)))) v1=v)
  (hn:news.map (sW (shf css.length σ.length (bsR (bs.map (·.1)))))=news') (hni:σ.all (fun o=>!dB o)=true):Ev P f args σ v (σ++news'):=by
 obtain ⟨h1,h2⟩:=Dn ha
 subst hv hn
 refine iJ.frame (π:=bsR (bs.map (·.1))) h (fun k o hk=>?_) (fun k hk=>?_) hni h1 (by simpa using h2) ?_
 ·rw [List.getElem?_map] at hk
  obtain ⟨c,hc,rfl⟩:=Option.map_eq_some_iff.1 hk
  obtain ⟨p,g1,g2,g3⟩:=Aa hb k c hc
  refine .inl ⟨c,rfl,.inr ⟨p.2,?_,by simpa using g3.2⟩⟩
  simp only [bsR,List.getElem?_map,g1,Option.map_some,g3.1]
  exact qI g2
 ·simp only [List.length_map] at hk
  obtain ⟨p,g1,g2,_⟩:=Aa hb k css[k] (by simp [hk])
  simp only [bsR,List.getElem?_map,g1,Option.map_some]
  rcases g2 with g2|g2|⟨t,g2⟩ <;> exact iP g2
 ·rintro v2 s1 ⟨rfl,rfl⟩
  exact ⟨news,rfl,hm,by simp⟩
theorem Ev.arrsP {args1 args:List Value} {v:Value} (css:List (List Value)) (bs:List (Nat×List Value)) (h:Ev P f args1 (css.map .ro) v (css.map .ro))
  (hb:Dp σ css.length (bsR (bs.map (·.1))) css bs) (ha:AS css.length (bsR (bs.map (·.1))) args1 args) (hv:plain v=true) (hni:σ.all (fun o=>!dB o)=true):Ev P f args σ v σ:=by
 have:=Ev.arrsR (news:=[]) (news':=[]) css bs (by simpa using h) hb ha rfl (rH v hv) rfl hni
 simpa using this
end
end Go.AH
namespace Go.AH
open Go
section ops
variable {P:Program} {rd:Option Nat} {ty:TypeId} {e:Env} {σ:Heap} {x y a b:Operand} {v u:Value}
theorem ok_appendIn {t el size bytes i o n c j oj m c2:Nat} {agg:Bool} {z:Value} {news:List Value} {σ':Heap} [ha:Sl P t el] [ht:Ty P el size agg z bytes] (hx:bf e x=some (.slice (some ⟨i,o,none⟩) n c))
  (hy:bf e y=some (.slice (some ⟨j,oj,none⟩) m c2)) (hm:0<m) (hroom:n+m≤c) (hc:dh σ j oj (m*size)=some news) (h1:news.all (·.oneCell')=true) (hp:putCells σ i (o+n*size) news=some σ') :
  dV P rd (.call { callee:=.builtin .append,args:=#[x,y],argTypes:=#[t,t] }) ty e σ (.slice (some ⟨i,o,none⟩) (n+m) c) σ' :=
 dY (by simp) fun op ho _ G w0 ρ A w hs hop=>by
  have hxr:=hop x (by simp [Op.operands,Call.operands]) _ hx
  have hyr:=hop y (by simp [Op.operands,Call.operands]) _ hy
  have hx':∃ c',A.eval x=.slice (some ⟨(ρ i).b,(ρ i).o+o,none⟩) n c'∧c≤c'∧i < σ.length:=by
   generalize hr:A.eval x=r at hxr
   cases hxr with
   |emptySlice=>omega
   |slice _ _ _ _ c' _ _=>exact ⟨c',rfl,by assumption,by assumption⟩
   |sliceG _ _ _ _ _ _ _ _ hq=>simp at hq
  have hy':∃ c',A.eval y=.slice (some ⟨(ρ j).b,(ρ j).o+oj,none⟩) m c':=by
   generalize hr:A.eval y=r at hyr
   cases hyr with
   |emptySlice=>omega
   |slice _ _ _ _ c' _ _=>exact ⟨c',rfl⟩
   |sliceG _ _ _ _ _ _ _ _ hq=>simp at hq
  obtain ⟨cx,hx',hcx,hi⟩:=hx'
  obtain ⟨cy,hy'⟩:=hy'
  obtain ⟨ie,i1,i2,i3,i4⟩:=ht.info
  obtain ⟨rs,hrs,hrl,hrel⟩:=Di hs hc
  obtain ⟨w',g1,g2,g3⟩:=BJ (P:=P) hs hp hrel (by have:=nD hrel h1;simpa using this)
  have hf:=run_firstCells_some (P:=P) w ie.size m ⟨(ρ j).b,(ρ j).o+oj,none⟩ m cy rs (by rw [i2];exact hrl) hrs
  rw [i2] at hf
  rw [← Nat.add_assoc] at g1
  refine ⟨ρ,.slice (some ⟨(ρ i).b,(ρ i).o+o,none⟩) (n+m) cx,w',.inl ?_,.slice _ _ _ _ _ hcx (by omega),by omega,fun _ _=>rfl,g2⟩
  have hroom':n+m≤cx:=by omega
  simp [execOp,ho,resolve,invoke,builtin,hx',hy',Builtin.append_,run_underlying ha.und,sizeOf,typeInfo,i1,Builtin.lenOf,hroom',hf,Addr.add_lit,i2,g1]
end ops
section
variable {P:Program} {n0 N:Nat} {rd:Option Nat} {Q:Post} {e:Env} {mk:List Nat} {σ:Heap} {K:Env→List Nat→Heap→Prop} {all rest:List Oper}
theorem guardU_yield {T:List Deferred} {n:Nat} {ρ:Rho} {A:Act} {j:Nat} (h:CO T n ρ N e mk A) (hg:ku all e j=some undef):yielded all.toArray A.tmps j=none:=by
 unfold ku at hg
 unfold yielded
 simp only [List.getElem?_toArray]
 cases ho:all[j]? with
 |none=>simp [ho] at hg
 |some o =>
  simp only [ho] at hg
  cases hd:o.dst with
  |none=>simp [hd] at hg
  |some t =>
   simp only [hd] at hg
   obtain ⟨v',h1,h2⟩:=h.tmps.2 t _ hg
   rw [dD h2 rfl] at h1
   simp [hd,h1,undef]
theorem ig {T:List Deferred} {o:Oper} {b:Bool} {n:Nat} {ρ:Rho} {A:Act} (hw:jP all e o=some b) (he:CO T n ρ N e mk A):Region.wanted o (yielded all.toArray A.tmps)=b:=by
 unfold jP at hw
 unfold Region.wanted
 split at hw
 ·rename_i h;rw [h];simpa using hw
 ·rename_i j want h
  rw [h]
  split at hw
  ·rename_i q hq
   simp only [vV he hq]
   cases hw;rfl
  ·rename_i hq
   simp only [guardU_yield he hq]
   cases hw;rfl
  ·cases hw
theorem LK {o:Oper} (hw:jP all e o=some false) (hd:qH N o=true) (k:dO P n0 N rd all rest K (yT o.dst undef e) mk σ):dO P n0 N rd all (o::rest) K e mk σ:=by
 intro G w0 ρ0 A w hi Q' hQ
 obtain ⟨h0,ρ,ha,hs,he⟩:=hi
 simp only [wpL]
 rw [if_neg (by rw [ig hw he];simp)]
 refine k G w0 ρ0 _ w ⟨h0,ρ,ha,hs,?_⟩ Q' hQ
 unfold yT
 unfold qH at hd
 split
 ·rename_i d h
  rw [h] at hd ⊢
  exact uq he (by simpa [Nat.blt_eq] using hd) (bU undef rfl)
 ·rename_i h
  rw [h]
  exact ⟨he.tmps,he.mks,he.mkb⟩
theorem st_run {o:Oper} {v:Value} {σ':Heap} (hrd:qM rd n0=true) (hw:jP all e o=some true) (hd:qH N o=true) (h:dV P rd o.op o.type e σ v σ')
  (k:dO P n0 N rd all rest K (yT o.dst v e) mk σ'):dO P n0 N rd all (o::rest) K e mk σ :=
 BI hrd h (fun d hd'=>by unfold qH at hd;rw [hd'] at hd;simpa [Nat.blt_eq] using hd) (fun _ _ _ _ he=>ig hw he) k
theorem stGk {d:Option Nat} {op:Op} {ty:TypeId} {pos:String} {after:Array Edge} {j:Nat} {b want:Bool} (_hg:ku all e j=some (.bool b)) (_hb:b=want) (k:dO P n0 N rd all (⟨d,op,ty,pos,after,some (j,want)⟩::rest) K e mk σ) :
  dO P n0 N rd all (⟨d,op,ty,pos,after,some (j,want)⟩::rest) K e mk σ:=k
theorem frSU {k:Nat} {d:Nat} {op:Op} {ty:TypeId} {pos:String} {after:Array Edge} {j:Nat} {want:Bool} {σ0:Heap} {news:List (Nat×Heap)} {K:Env→List (Nat×Heap)→List Oper→Prop} (hg:ku all e j=some undef) (hd:Nat.blt d N=true)
  (hk:dM P N rd all (k+1) rest ((d,undef)::e) σ0 news K):dM P N rd all k (⟨some d,op,ty,pos,after,some (j,want)⟩::rest) e σ0 news K :=
 .inr ⟨hd,.inr ⟨by simp only [jP,hg];rfl,hk⟩⟩
theorem SA {d:Nat} {op:Op} {ty:TypeId} {pos:String} {after:Array Edge} {j:Nat} {want:Bool} (hg:ku all e j=some undef) (hd:Nat.blt d N=true) (k:dO P n0 N rd all rest K ((d,undef)::e) mk σ) :
  dO P n0 N rd all (⟨some d,op,ty,pos,after,some (j,want)⟩::rest) K e mk σ :=
 LK (by simp only [jP,hg];rfl) hd k
theorem bM {n i o l c:Nat} (h:Nat.blt i n=true):closed n (.slice (some ⟨i,o,none⟩) l c)=true:=by
 cases l <;> cases c <;> simp [closed,h]
end
end Go.AH
namespace Go.AH
open Go
def kv (p:Int×Int):Value:=.agg #[.int .i64 p.1,.int .i64 p.2]
theorem uJ (p:Int×Int):plain (kv p)=true:=rfl
abbrev mV:=List ((Int×Int)×Value)
def o8 (l:mV):cu:=.map (l.map fun p=>(kv p.1,p.2))
section
variable {P:Program} {w:World} {kt:TypeId}
theorem Dq (w : World) (h : Eq2 P kt) : ∃ f g : Field, ∃ a b : IntKind, P.underlying kt = some (.struct #[f, g]) ∧ f.name ≠ "_" ∧ g.name ≠ "_" ∧ f.offset = 0 ∧ g.offset = 1 ∧ P.underlying f.type = some (.int a) ∧ P.underlying g.type = some (.int b) := by
 have:=h.h
 unfold AZ at this
 split at this
 ·rename_i fs hu
  unfold Sv at this
  split at this
  case h_2=>simp at this
  rename_i f g hfg
  simp only [Bool.and_eq_true,Bool.not_eq_true'] at this
  obtain ⟨⟨⟨⟨⟨⟨⟨h1,h2⟩,h3⟩,h4⟩,h5⟩,h6⟩,h7⟩,h8⟩:=this
  obtain ⟨_,a,u1⟩:=y5 (w:=w) h5
  obtain ⟨_,b,u2⟩:=y5 (w:=w) h6
  refine ⟨f,g,a,b,?_,by simpa using h1,by simpa using h2,Nat.eq_of_beq_eq_true h3,Nat.eq_of_beq_eq_true h4,u1,u2⟩
  rw [hu]
  obtain ⟨l⟩:=fs
  simp only at hfg
  rw [hfg]
 ·simp at this
theorem l9 (h:Eq2 P kt) (b:Bool) (p:Int×Int):(Instr.checkKey b 10000 kt (kv p)).run P w=.ok () w:=by
 obtain ⟨f,g,a,c,h1,h2,h3,h4,h5,h6,h7⟩:=Dq w h
 have e1:∀ (n:Nat) (t:TypeId) (k:IntKind) (j:IntKind) (m:Int),P.underlying t=some (.int k)→(Instr.checkKey b (n+1) t (.int j m)).run P w=.ok () w:=by
  intro n t k j m ht
  unfold Instr.checkKey
  simp [run_underlying ht]
 have i1:(Go.isAgg f.type).run P w=.ok false w:=by simp [Go.isAgg,underlying,h6]
 have i2:(Go.isAgg g.type).run P w=.ok false w:=by simp [Go.isAgg,underlying,h7]
 have p1:(part f.type #[.int .i64 p.1,.int .i64 p.2] f.offset).run P w=.ok (.int .i64 p.1) w:=by simp [part,i1,h4]
 have p2:(part g.type #[.int .i64 p.1,.int .i64 p.2] g.offset).run P w=.ok (.int .i64 p.2) w:=by simp [part,i2,h5]
 unfold Instr.checkKey kv
 simp [run_underlying h1,h2,h3,p1,p2,e1 9998 _ _ _ _ h6,e1 9998 _ _ _ _ h7]
theorem run_equal2 (h:Eq2 P kt) (p q:Int×Int):(Op.equal kt (kv p) (kv q)).run P w=.ok (decide (p=q)) w:=by
 have:=(Gq (w:=w) h (k:=.i64) (k':=.i64) (m:=p.1) (n:=p.2) (m':=q.1) (n':=q.2) 9998).1
 unfold Op.equal kv
 rw [show Op.maxDepth=9998+2 from rfl,this]
 congr 1
 simp [Prod.ext_iff]
theorem vO (h:Eq2 P kt) (p:Int×Int):∀ (L:List MapEntry) (ks:List (Int×Int)) (i:Nat),L.length=ks.length→(∀ (j:Nat) (h1:j<L.length) (h2:j<ks.length),L[j].key=kv ks[j]) →
  (Instr.findAsking kt (kv p) L i).run P w=.ok (match ks.findIdx? (fun q=>decide (p=q)) with|some j=>(L[j]?).map fun e=>(i+j,e.val)|none=>none) w
 |[],[],i,_,_=>by simp [Instr.findAsking]
 |e::L,q::ks,i,hl,hk=>by
  have h0:=hk 0 (by simp) (by simp)
  simp only [List.getElem_cons_zero] at h0
  simp only [Instr.findAsking,h0,Sem.run_bind,run_equal2 h,Result.andThen_ok]
  by_cases hpq:p=q
  ·simp [hpq,List.findIdx?_cons]
  ·have ih:=vO h p L ks (i+1) (by simpa using hl) (fun j h1 h2=>hk (j+1) (by simpa using h1) (by simpa using h2))
   simp only [hpq,decide_false,Bool.false_eq_true,if_false,ih,List.findIdx?_cons]
   cases ks.findIdx? (fun q=>decide (p=q)) with
   |none=>rfl
   |some j=>simp [Nat.add_assoc,Nat.add_comm 1 j]
 |[],q::ks,i,hl,_=>by simp at hl
 |e::L,[],i,hl,_=>by simp at hl
theorem qY (h:Eq2 P kt) (p:Int×Int) (L:List MapEntry) (ks:List (Int×Int)) (hl:L.length=ks.length) (hk:∀ (j:Nat) (h1:j<L.length) (h2:j<ks.length),L[j].key=kv ks[j]) :
  (Instr.findKey kt (kv p) L).run P w=.ok (match ks.findIdx? (fun q=>decide (p=q)) with|some j=>(L[j]?).map fun e=>(j,e.val)|none=>none) w:=by
 obtain ⟨f,g,a,c,h1,_⟩:=Dq w h
 have hw:(match P.underlying kt with|some (.array _ _)|some (.struct _)=>true|_=>false)=true:=by rw [h1]
 refine (run_findKey_eq (P:=P) (w:=w) hw (kv p) L).trans ?_
 rw [vO h p L ks 0 hl hk]
 simp
end
theorem xB {n:Nat} {ρ:Rho} {l:mV} {ents:Array MapEntry} {clock:Nat} (h:Og n ρ (l.map fun p=>(kv p.1,p.2)) ents clock) :
  ents.toList.length=(l.map (·.1)).length∧∀ (j:Nat) (h1:j<ents.toList.length) (h2:j<(l.map (·.1)).length),ents.toList[j].key=kv (l.map (·.1))[j]:=by
 obtain ⟨h1,h2,h3⟩:=h
 refine ⟨by simpa using h1,fun j hj hj2=>?_⟩
 have:=(h2 j (by simpa using hj2) (by simpa using hj)).1
 simpa using this
def uK (l:mV) (k:Int×Int) (v:Value):mV :=
 match (l.map (·.1)).findIdx? (fun q=>decide (k=q)) with
 |some j=>l.set j (k,v)
 |none=>l++[(k,v)]
def oC (l:mV) (k:Int×Int):mV :=
 match (l.map (·.1)).findIdx? (fun q=>decide (k=q)) with
 |some j=>l.eraseIdx j
 |none=>l
theorem y7 {n:Nat} {ρ:Rho} {i:Nat} {v':Value} (h:gY n ρ (.map (some i)) v'):v'=.map (some (ρ i).b)∧i<n:=by cases h;exact ⟨rfl,by assumption⟩
theorem sameBits2 (p:Int×Int):Instr.sameBits 10000 (kv p) (kv p)=true:=by simp [Instr.sameBits,kv]
section ops
variable {P:Program} {rd:Option Nat} {ty:TypeId} {e:Env} {σ:Heap} {x y z:Operand} {v u:Value}
def Tm (P:Program) (t:TypeId):Option (TypeId×TypeId):=match P.underlying t with|some (.map k e)=>some (k,e)|_=>none
class Mp (P:Program) (t:TypeId) (k e:outParam TypeId):Prop where
 h:Tm P t=some (k,e)
theorem Mp.und {t k el:TypeId} (h:Mp P t k el):P.underlying t=some (.map k el):=by
 have:=h.h
 unfold Tm at this
 split at this
 ·rename_i k e hu;cases this;exact hu
 ·cases this
theorem ok_makeMap {t:TypeId}:dV P rd (.makeMap t none) ty e σ (.map (some σ.length)) (σ++[.map []]) :=
 dY (by simp) fun o ho _ G w0 ρ A w hs _=>by
  have hs':=lZ hs (.map #[] 0) (.map []) 0 ⟨fun hg=>by have h1:=(hs.fgn _ hg).1;have:=hs.size;simp only at h1;omega,#[],0,jm w _,⟨rfl,fun i h=>by simp at h,fun i j h=>by simp at h⟩⟩
  refine ⟨_,.map (some w.heap.size),_,.inl ?_,?_,by simp,fun i hi=>jM hi,hs'⟩
  ·simp [execOp,ho,Instr.makeMap]
  ·have:=VQ.map (q:=false) (n:=(σ++[cu.map []]).length) (ρ:=upd ρ σ.length w.heap.size 0) σ.length (by simp)
   rwa [nR] at this
theorem BN {G:Nat→Prop} {w0 w:World} {ρ:Rho} (hs:Sim G w0 ρ σ w) {i:Nat} {l:mV} (hi:σ[i]?=some (o8 l)) :
  ¬ G (ρ i).b∧∃ ents clock,w.heap[(ρ i).b]?=some (.map ents clock)∧Og σ.length ρ (l.map fun p=>(kv p.1,p.2)) ents clock:=hs.obj i _ hi
theorem ok_mapUpdate {t kt et i:Nat} {l:mV} {k:Int×Int} [hm:Mp P t kt et] [hk:Eq2 P kt] (hx:bf e x=some (.map (some i))) (hi:σ[i]?=some (o8 l)) (hy:bf e y=some (kv k)) (hz:bf e z=some v)
  (hni:σ.all (fun o=>!dB o)=true):dV P rd (.mapUpdate t x y z) ty e σ undef (σ.set i (o8 (uK l k v))) :=
 dY (by simp) fun o ho _ G w0 ρ A w hs hop=>by
  obtain ⟨hxr,hil⟩:=y7 (hop x (by simp [Op.operands]) _ hx)
  have hyr:=dD (hop y (by simp [Op.operands]) _ hy) (uJ k)
  have hzr:=hop z (by simp [Op.operands]) _ hz
  obtain ⟨hG,ents,clock,hh,hM⟩:=BN hs hi
  obtain ⟨hl,hkeys⟩:=xB hM
  have hfind:=qY (w:=w) hk k ents.toList (l.map (·.1)) hl hkeys
  have hno:∀ j k' seen,σ[j]?=some (.iter k' seen)→(ρ k').b ≠ (ρ i).b∨j=i:=by
   intro j k' seen hj
   have:=List.all_eq_true.1 hni _ (List.mem_of_getElem? hj)
   simp [dB] at this
  obtain ⟨m1,m2,m3⟩:=hM
  simp only [List.length_map] at m1
  cases hf:(l.map (·.1)).findIdx? (fun q=>decide (k=q)) with
  |none =>
   rw [hf] at hfind
   refine ⟨ρ,undef,_,.inr ⟨?_,rfl⟩,bU _ rfl,by simp,fun _ _=>rfl,tq hs hi (oi:=o8 l) (o:=o8 (uK l k v)) trivial (rX w (ρ i).b (.map (ents.push { key:=kv k,val:=A.eval z,born:=clock }) (clock+1))) ?_ hno⟩
   ·simp [execOp,ho,Instr.mapUpdate,run_underlying hm.und,hxr,hyr,MapKept.run_getObj_map hh,l9 hk,hfind,MapKept.run_setObj_map _ hh,Result.andThen]
   ·refine ⟨hG,_,_,(MapKept.heap_set hh).1,?_⟩
    unfold uK
    rw [hf]
    refine ⟨by simp [m1],fun j hj hj'=>?_,fun a b ha hb hab=>?_⟩
    ·simp only [List.map_append,List.length_append,List.length_map,List.length_cons,List.length_nil] at hj
     by_cases hjl:j<l.length
     ·have:=m2 j (by simpa using hjl) (by omega)
      rw [Array.getElem_push_lt (by omega)]
      simp only [List.map_append,List.getElem_append_left (show j<(l.map fun p=>(kv p.1,p.2)).length by simpa using hjl)]
      exact ⟨this.1,this.2.1,this.2.2.1,by have:=this.2.2.2;omega⟩
     ·have hje:j=ents.size:=by omega
      subst hje
      rw [Array.getElem_push_eq]
      simp only [List.map_append,List.map_cons,List.map_nil]
      rw [List.getElem_append_right (by simp;omega)]
      simp only [List.length_map,m1,Nat.sub_self,List.getElem_cons_zero]
      exact ⟨by first|rfl|trivial,uJ k,hzr,by omega⟩
    ·simp only [Array.size_push] at ha hb
     by_cases hbl:b<ents.size
     ·rw [Array.getElem_push_lt hbl,Array.getElem_push_lt (by omega)]
      exact m3 a b (by omega) hbl hab
     ·have hbe:b=ents.size:=by omega
      subst hbe
      rw [Array.getElem_push_eq,Array.getElem_push_lt (by omega)]
      exact (m2 a (by simp;omega) (by omega)).2.2.2
  |some j =>
   rw [hf] at hfind
   have hjl:j<l.length:=by have:=(List.findIdx?_eq_some_iff_findIdx_eq.1 hf).1;simpa using this
   have hkj:(l.map (·.1))[j]'(by simpa using hjl)=k:=by
    have:=List.findIdx?_eq_some_iff_getElem.1 hf
    obtain ⟨h1,h2,_⟩:=this
    exact (of_decide_eq_true h2).symm
   have hje:j<ents.size:=by omega
   have hlook:ents.toList[j]?=some ents[j]:=by simp [hje]
   simp only [hlook,Option.map_some] at hfind
   have hkey:ents[j].key=kv k:=by
    have:=hkeys j (by simpa using hje) (by simpa using hjl)
    rw [hkj] at this
    simpa using this
   have hkts:(Instr.keyThatStays (kv k) (kv k)).run P w=.ok (kv k) w:=by simp [Instr.keyThatStays,sameBits2]
   refine ⟨ρ,undef,_,.inr ⟨?_,rfl⟩,bU _ rfl,by simp,fun _ _=>rfl,tq hs hi (oi:=o8 l) (o:=o8 (uK l k v)) trivial (rX w (ρ i).b (.map (ents.modify j fun e=>{ e with key:=kv k,val:=A.eval z }) clock)) ?_ hno⟩
   ·have hg:(ents[j]?.map (·.key)).getD (kv k)=kv k:=by simp [hje,hkey]
    simp [execOp,ho,Instr.mapUpdate,run_underlying hm.und,hxr,hyr,MapKept.run_getObj_map hh,l9 hk,hfind,hkey,hje,hkts,MapKept.run_setObj_map _ hh,Result.andThen]
   ·refine ⟨hG,_,_,(MapKept.heap_set hh).1,?_⟩
    unfold uK
    rw [hf]
    refine ⟨by simp [m1],fun q hq hq'=>?_,fun a b ha hb hab=>?_⟩
    ·simp only [List.length_map,List.length_set] at hq
     have:=m2 q (by simpa using hq) (by omega)
     rw [Array.getElem_modify]
     by_cases hjq:j=q
     ·subst hjq
      simp only [if_true,List.getElem_map,List.getElem_set_self]
      exact ⟨by first|rfl|trivial,uJ k,hzr,this.2.2.2⟩
     ·rw [if_neg hjq]
      simp only [List.getElem_map,List.getElem_set_ne hjq]
      simpa using this
    ·simp only [Array.size_modify] at ha hb
     simp only [Array.getElem_modify]
     have hb1:∀ c (hc:c<ents.size),(if j=c then { ents[c] with key:=kv k,val:=A.eval z } else ents[c]).born=ents[c].born:=fun c hc=>by split <;> rfl
     rw [hb1 a ha,hb1 b hb]
     exact m3 a b ha hb hab
end ops
end Go.AH
namespace Go.AH
open Go
theorem EU {l:mV} (h:(l.map (·.1)).Nodup) {a b:Nat} (ha:a<l.length) (hb:b<l.length) (he:l[a].1=l[b].1):a=b:=by
 have h':=List.pairwise_iff_getElem.1 h
 rcases Nat.lt_trichotomy a b with hab|hab|hab
 ·exact absurd (by rw [List.getElem_map,List.getElem_map];exact he) (h' a b (by simpa using ha) (by simpa using hb) hab)
 ·exact hab
 ·exact absurd (by rw [List.getElem_map,List.getElem_map];exact he.symm) (h' b a (by simpa using hb) (by simpa using ha) hab)
section
variable {P:Program} {n0 N:Nat} {rd:Option Nat} {Q:Post} {e:Env} {mk:List Nat} {σ:Heap} {K:Env→List Nat→Heap→Prop} {all rest:List Oper} {x y:Operand}
theorem Dt {G:Nat→Prop} {w0 w:World} {ρ:Rho} (hs:Sim G w0 ρ σ w) {i clock:Nat} {es:List (Value×Value)} {o:cu} {ents ents':Array MapEntry} (hi:σ[i]?=some o) (hoi:o.owned) (hh:w.heap[(ρ i).b]?=some (.map ents clock)) (hsub:∀ e ∈ ents',e ∈ ents)
  (hM:Og σ.length ρ es ents' clock):Sim G w0 ρ (σ.set i (.map es)) { w with heap:=w.heap.setIfInBounds (ρ i).b (.map ents' clock) }:=by
 have hc:=rX w (ρ i).b (.map ents' clock)
 have hset:=MapKept.heap_set (o':=.map ents' clock) hh
 have hGi:=(fQ (hs.obj i o hi) hoi).2
 have h0:∀ j x,σ[j]?=some x→j ≠ i→x.owned→(ρ j).b ≠ (ρ i).b:=fun j x hx hne ho hb=>hne (hs.inj j i x o hx hi ho hoi hb)
 refine ⟨hs.os,hs.tape,hs.output,by simpa using hs.size,fun b hb=>?_,fun j x hx=>?_,fun j k oj ok hj hk hoj hok hjk=>?_⟩
 ·obtain ⟨h1,h2⟩:=hs.fgn b hb
  exact ⟨h1,(hset.2 b (fun hbe=>hGi (hbe ▸ hb))).trans h2⟩
 ·rw [List.length_set]
  rcases getElem?_set' hx with ⟨rfl,rfl⟩|⟨hne,hx⟩
  ·exact ⟨hGi,ents',clock,hset.1,hM⟩
  ·have hold:=hs.obj j x hx
   cases x with
   |iter m seen =>
    obtain ⟨q1,q2,en,cl,sb,q3,q4,q5,q6,q7⟩:=hold
    have hnb:=h0 j _ hx hne trivial
    by_cases hmi:(ρ m).b=(ρ i).b
    ·rw [hmi,hh] at q4
     cases q4
     exact ⟨q1,q2,ents',clock,sb,by rw [hset.2 _ hnb];exact q3,by rw [hmi];exact hset.1,fun e he=>q5 e (hsub e he),fun k hk=>by
      obtain ⟨t,h1,h2⟩:=q6 k hk
      exact ⟨t,h1,fun e he=>h2 e (hsub e he)⟩,q7⟩
    ·exact ⟨q1,q2,en,cl,sb,by rw [hset.2 _ hnb];exact q3,by rw [hset.2 _ hmi];exact q4,q5,q6,q7⟩
   |ro cs =>
    intro hcs
    obtain ⟨h1,h2⟩:=hold hcs
    refine ⟨h1,fun k hk=>?_⟩
    obtain ⟨v',h3,h4⟩:=h2 k hk
    exact ⟨v',by rw [← h3];exact uY (hset.2 _ (fun hbe=>hGi (hbe ▸ h1))),h4⟩
   |dead=>trivial
   |rw cs =>
    intro hcs
    have hnb:=h0 j _ hx hne hcs
    have:=hold hcs
    rw [← hset.2 _ hnb] at this;exact this
   |gr cs t =>
    intro hcs
    have hnb:=h0 j _ hx hne hcs
    have:=hold hcs
    rw [← hset.2 _ hnb] at this;exact this
   |dfr=>have hnb:=h0 j _ hx hne trivial;exact ⟨hold.1,(hset.2 _ hnb).trans hold.2⟩
   |loop st pend N e params assign body =>
    have hnb:=h0 j _ hx hne trivial
    obtain ⟨h1,r,h2,h3⟩:=hold
    exact ⟨h1,r,(hset.2 _ hnb).trans h2,h3⟩
   |map es2 =>
    have hnb:=h0 j _ hx hne trivial
    obtain ⟨h1,en,cl,h2,h3⟩:=hold
    exact ⟨h1,en,cl,(hset.2 _ hnb).trans h2,h3⟩
   |deep qs sp =>
    have hfor:∀ b,G b→∀ y,w.heap[b]?=some y→(w.heap.setIfInBounds (ρ i).b (.map ents' clock))[b]?=some y:=fun b hb y hy=>by rw [hset.2 b (fun hbe=>hGi (hbe ▸ hb))];exact hy
    refine ⟨fun hq=>?_,fun y hy=>?_⟩
    ·obtain ⟨h1,h2⟩:=hold.1 hq
     refine ⟨h1,fun k hk=>?_⟩
     obtain ⟨v',h3,h4⟩:=h2 k hk
     exact ⟨v',lI h3 (hfor _ h1),nC h4 (fun _ hb=>hb) hfor⟩
    ·obtain ⟨h1,v',h3,h4⟩:=hold.2 y hy
     exact ⟨h1,v',lI h3 (hfor _ h1),h4⟩
 ·rcases getElem?_set' hj with ⟨rfl,rfl⟩|⟨hne,gj⟩ <;> rcases getElem?_set' hk with ⟨rfl,rfl⟩|⟨hne',gk⟩
  ·rfl
  ·exact hs.inj _ _ o ok hi gk hoi hok hjk
  ·exact hs.inj _ _ oj o gj hi hoj hoi hjk
  ·exact hs.inj _ _ oj ok gj gk hoj hok hjk
theorem mem_eraseIdx' {α:Type} {l:Array α} {j:Nat} {x:α} (h:x ∈ l.eraseIdxIfInBounds j):x ∈ l:=by
 unfold Array.eraseIdxIfInBounds at h
 split at h
 ·rename_i hj
  have:x ∈ (l.eraseIdx j hj).toList:=Array.mem_toList_iff.2 h
  rw [Array.toList_eraseIdx] at this
  simpa using List.mem_of_mem_eraseIdx this
 ·exact h
theorem EW {rd:Option Nat} {ty:TypeId} {t kt et kt2 i:Nat} {l:mV} {k:Int×Int} [hm:Mp P t kt et] [hk:Eq2 P kt] (hx:bf e x=some (.map (some i))) (hi:σ[i]?=some (o8 l)) (hy:bf e y=some (kv k)) :
  dV P rd (.call { callee:=.builtin .delete,args:=#[x,y],argTypes:=#[t,kt2] }) ty e σ (.tuple #[]) (σ.set i (o8 (oC l k))) :=
 dY (by simp) fun o ho _ G w0 ρ A w hs hop=>by
  obtain ⟨hxr,hil⟩:=y7 (hop x (by simp [Op.operands,Call.operands]) _ hx)
  have hyr:=dD (hop y (by simp [Op.operands,Call.operands]) _ hy) (uJ k)
  obtain ⟨hG,ents,clock,hh,hM⟩:=BN hs hi
  obtain ⟨hl,hkeys⟩:=xB hM
  have hfind:=qY (w:=w) hk k ents.toList (l.map (·.1)) hl hkeys
  have hMM:=hM
  obtain ⟨m1,m2,m3⟩:=hM
  simp only [List.length_map] at m1
  cases hf:(l.map (·.1)).findIdx? (fun q=>decide (k=q)) with
  |none =>
   rw [hf] at hfind
   have e0:oC l k=l:=by unfold oC;rw [hf]
   have hs':=Dt hs hi (o:=o8 l) trivial hh (fun _ h=>h) hMM
   refine ⟨ρ,.tuple #[],_,.inl ?_,bU _ rfl,by simp,fun _ _=>rfl,by rw [e0];exact hs'⟩
   simp [execOp,ho,resolve,invoke,builtin,Builtin.delete_,run_underlying hm.und,hxr,hyr,MapKept.run_getObj_map hh,l9 hk,hfind,MapKept.run_setObj_map _ hh,Result.andThen]
  |some j =>
   rw [hf] at hfind
   have hjl:j<l.length:=by have:=(List.findIdx?_eq_some_iff_findIdx_eq.1 hf).1;simpa using this
   have hje:j<ents.size:=by omega
   have hlook:ents.toList[j]?=some ents[j]:=by simp [hje]
   simp only [hlook,Option.map_some] at hfind
   have e0:oC l k=l.eraseIdx j:=by unfold oC;rw [hf]
   have e1:(ents.eraseIdxIfInBounds j).toList=ents.toList.eraseIdx j:=by
    unfold Array.eraseIdxIfInBounds
    rw [dif_pos hje,Array.toList_eraseIdx]
   have hsz:(ents.eraseIdxIfInBounds j).size=ents.size - 1:=by
    rw [← Array.length_toList,e1,List.length_eraseIdx,if_pos (by simpa using hje)];simp
   have hget:∀ (q:Nat) (hq:q<(ents.eraseIdxIfInBounds j).size),∃ q',∃ h:q'<ents.size,(ents.eraseIdxIfInBounds j)[q]=ents[q']∧q'=if q<j then q else q+1:=by
    intro q hq
    have h1:(ents.eraseIdxIfInBounds j)[q]=(ents.toList.eraseIdx j)[q]'(by rw [← e1,Array.length_toList];exact hq):=by
     rw [← Array.getElem_toList];simp only [e1]
    rw [h1,List.getElem_eraseIdx]
    split
    ·exact ⟨q,by omega,by simp,by simp [*]⟩
    ·exact ⟨q+1,by omega,by simp,by simp [*]⟩
   have hM2:Og σ.length ρ ((oC l k).map fun p=>(kv p.1,p.2)) (ents.eraseIdxIfInBounds j) clock:=by
    rw [e0]
    refine ⟨by rw [hsz,List.length_map,List.length_eraseIdx,if_pos hjl,m1],fun q hq hq'=>?_,fun a b ha hb hab=>?_⟩
    ·obtain ⟨q',h1,h2,h3⟩:=hget q hq'
     simp only [h2]
     have hq2:q'<l.length:=by omega
     have h4:((l.eraseIdx j).map fun p=>(kv p.1,p.2))[q]=(l.map fun p=>(kv p.1,p.2))[q']'(by simpa using hq2):=by
      simp only [List.getElem_map,List.getElem_eraseIdx]
      subst h3
      split <;> simp_all
     rw [h4]
     exact m2 q' (by simpa using hq2) h1
    ·obtain ⟨a',a1,a2,a3⟩:=hget a ha
     obtain ⟨b',b1,b2,b3⟩:=hget b hb
     rw [a2,b2]
     exact m3 a' b' a1 b1 (by subst a3 b3;split <;> split <;> omega)
   have hs':=Dt hs hi (o:=o8 l) trivial hh (fun _ h=>mem_eraseIdx' h) hM2
   refine ⟨ρ,.tuple #[],_,.inl ?_,bU _ rfl,by simp,fun _ _=>rfl,hs'⟩
   simp [execOp,ho,resolve,invoke,builtin,Builtin.delete_,run_underlying hm.und,hxr,hyr,MapKept.run_getObj_map hh,l9 hk,hfind,MapKept.run_setObj_map _ hh,Result.andThen]
end
end Go.AH
namespace Go
section
variable {F:Fence} {n:Nat} {P:Program} {Q:Exit→Act→World→Prop} {a:Act} {w:World} {b:Frame} {k:List Item} {cs:List Frame}
theorem AH.stepR_scope {c:Code}:step P (lone (b.atR a (.code (.scope c)::k)) cs w)=.next (lone (b.atR a (.code c::.inScope c::k)) cs w) :=
 step_lone_go (by simp [stepG,stepG.exec,Frame.atR])
theorem AH.stepR_inScope {c:Code}:step P (lone (b.atR a (.inScope c::k)) cs w)=.next (lone (b.atR a k) cs w) :=
 step_lone_go (by simp [stepG,stepG.exec,Frame.atR])
theorem AH.wpIn_label {l:Nat} (h:Q .normal a w):(Code.label l).wpIn F n P Q a w:=fun _ _ _ _ hb hr=>⟨.normal,a,w,h,.one (fenced_calm hb hr rfl) stepR_label⟩
theorem AH.wpIn_scope {c:Code} (h:c.wpIn F n P (fun e a w=>(∀ l,e ≠ .goto l)∧Q e a w) a w):(Code.scope c).wpIn F n P Q a w:=by
 intro b k cs hro hb hr
 have h0:(lone (b.atR a (.code (.scope c)::k)) cs w).fenced P F:=fenced_calm hb hr rfl
 obtain ⟨e,a₁,w₁,⟨hng,hq⟩,harr⟩:=h b (.inScope c::k) cs hro hb hr
 cases e with
 |normal=>exact ⟨.normal,a₁,w₁,hq,.head h0 AH.stepR_scope (StepsIn.trans harr (.one (fenced_calm hb hr rfl) AH.stepR_inScope))⟩
 |exit id =>
  have hx:exitTo id (.inScope c::k)=exitTo id k:=by simp [exitTo]
  exact ⟨_,a₁,w₁,hq,fun k' hk=>.head h0 AH.stepR_scope (harr.1 k' (by rw [hx];exact hk)),
   fun hr' hk=>let ⟨k₁,h1,h2⟩:=harr.2 hr' (by rw [hx];exact hk);⟨k₁,h1,.head h0 AH.stepR_scope h2⟩⟩
 |goto l=>exact absurd rfl (hng l)
 |ret=>exact ⟨_,a₁,w₁,hq,.of_steps (.one h0 AH.stepR_scope) harr⟩
 |panic ch=>exact ⟨_,a₁,w₁,hq,.of_steps (.one h0 AH.stepR_scope) harr⟩
 |outgrown=>exact ⟨_,a₁,w₁,hq,.of_steps (.one h0 AH.stepR_scope) harr⟩
end
end Go
namespace Go.AH
open Go
section
variable {P:Program} {n0 N:Nat} {rd:Option Nat} {Q:Post} {e:Env} {mk:List Nat} {σ:Heap}
theorem vG {l:Nat} (h:Q .normal e mk σ):dI P n0 N rd (.label l) Q e mk σ:=fun _G _w0 _ρ0 _A _w hi=>wpIn_label ⟨e,mk,σ,h,hi⟩
def iC (Q:Post):Post
 |.goto _,_,_,_=>False
 |ex,e,mk,σ=>Q ex e mk σ
theorem vH {c:Code} (h:dI P n0 N rd c (iC Q) e mk σ):dI P n0 N rd (.scope c) Q e mk σ:=by
 intro G w0 ρ0 A w hi
 refine wpIn_scope (wpIn_mono (h G w0 ρ0 A w hi) ?_)
 rintro ex A' w' ⟨e',mk',σ',q,i⟩
 cases ex with
 |goto l=>exact q.elim
 |_=>exact ⟨fun l h=>by (cases h),e',mk',σ',q,i⟩
theorem Oo (h:Q .normal e mk σ):iC Q .normal e mk σ:=h
theorem Ky (h:Q .ret e mk σ):iC Q .ret e mk σ:=h
theorem Oq {id:Nat} (h:Q (.exit id) e mk σ):iC Q (.exit id) e mk σ:=h
end
end Go.AH
namespace Go.AH
open Go
section
variable {P:Program} {rd:Option Nat} {ty:TypeId} {e:Env} {σ:Heap} {x y:Operand}
def PairsAt (f:Nat→Int×Int) (n:Nat) (xs:Array Value):Prop:=∀ i<n,xs.toList[i*2]?=some (.int .i64 (f i).1)∧xs.toList[i*2+1]?=some (.int .i64 (f i).2)
end
end Go.AH
namespace Go.AH
open Go
section ops
variable {P:Program} {rd:Option Nat} {ty:TypeId} {e:Env} {σ:Heap} {x y:Operand} {v:Value}
theorem dK {t el size bytes:Nat} {agg:Bool} {z:Value} [ha:Sl P t el] [ht:Ty P el size agg z bytes] :
  dV P rd (.buildSlice t 0 #[]) ty e σ (.slice none 0 1) (σ++[.dead]) :=
 dY (by simp) fun op ho _ G w0 ρ A w hs hx=>by
  obtain ⟨ie,i1,i2,i3,_⟩:=ht.info
  refine ⟨upd ρ σ.length w.heap.size 0,.slice (some ⟨w.heap.size,0,none⟩) 0 0,w.alloc (.cells #[] el),.inl ?_,.zslice _ rfl,by simp,fun i hi=>jM hi,lZ hs _ .dead 0 trivial⟩
  have e0:(Array.map (fun _=>(default:Value)) (Array.range 0))=#[]:=by simp
  simp [execOp,ho,Instr.buildSlice,run_underlying ha.und,sizeOf,typeInfo,i1,newRow,Instr.fill,e0]
def Ot:Value→Bool
 |.slice none 0 0=>true
 |.slice none 0 1=>true
 |.slice (some _) l c=>Nat.ble l c
 |_=>false
theorem jE (i sz n:Nat):Ot (dL i sz n)=true:=by
 cases n with
 |zero=>rfl
 |succ n=>simp [dL,Ot,Nat.ble_eq]
theorem slOk_rel {n:Nat} {ρ:Rho} {v':Value} (h:gY n ρ v v') (ho:Ot v=true):∃ a l c,v'=.slice a l c∧l≤c:=by
 cases h <;> simp [Ot] at ho
 case nilSlice=>exact ⟨_,_,_,rfl,Nat.le_refl _⟩
 case zslice=>exact ⟨_,_,_,rfl,Nat.le_refl _⟩
 case zsliceZ hq=>simp at hq
 case emptySlice=>exact ⟨_,_,_,rfl,Nat.zero_le _⟩
 case slice=>exact ⟨_,_,_,rfl,by omega⟩
 case gslice=>exact ⟨_,_,_,rfl,by omega⟩
 case sliceG hq=>simp at hq
 case gsliceG hq=>simp at hq
theorem run_append_zero {w:World} (t ty el:TypeId) (i:TypeInfo) (ht:P.underlying t=some (.slice el)) (hi:P.info? el=some i) (a b:Option Addr) (l c d:Nat) (hlc:l≤c) :
  (Builtin.append_ #[t,t] ty #[.slice a l c,.slice b 0 d]).run P w=.ok (.slice a l c) w:=by
 have hf:(Builtin.firstCells i.size 0 (.slice b 0 d)).run P w=.ok #[] w:=by
  cases b with
  |none=>rfl
  |some b=>exact run_firstCells_some (P:=P) w i.size 0 b 0 d [] (by simp) (by simp)
 cases a with
 |none=>simp [Builtin.append_,run_underlying ht,sizeOf,typeInfo,hi,Builtin.lenOf,hlc,hf]
 |some a=>simp [Builtin.append_,run_underlying ht,sizeOf,typeInfo,hi,Builtin.lenOf,hlc,hf,storeCells]
theorem dP {t el size bytes m c:Nat} {agg:Bool} {z:Value} {ad:Option Addr} [ha:Sl P t el] [ht:Ty P el size agg z bytes] (hx:bf e x=some v) (hv:Ot v=true) (hy:bf e y=some (.slice ad m c)) (hm:m=0) :
  dV P rd (.call { callee:=.builtin .append,args:=#[x,y],argTypes:=#[t,t] }) ty e σ v σ :=
 dY (by simp) fun op ho _ G w0 ρ A w hs hop=>by
  subst hm
  have hxr:=hop x (by simp [Op.operands,Call.operands]) _ hx
  have hyr:=hop y (by simp [Op.operands,Call.operands]) _ hy
  obtain ⟨ie,i1,i2,i3,i4⟩:=ht.info
  obtain ⟨a,l,c2,h1,h2⟩:=slOk_rel hxr hv
  have hy':∃ b d,A.eval y=.slice b 0 d:=by
   generalize hr:A.eval y=r at hyr
   cases hyr <;> exact ⟨_,_,rfl⟩
  obtain ⟨b,d,hy'⟩:=hy'
  refine ⟨ρ,.slice a l c2,w,.inl ?_,by rw [← h1];exact hxr,Nat.le_refl _,fun _ _=>rfl,hs⟩
  have:=run_append_zero (P:=P) (w:=w) t op.type el ie ha.und i1 a b l c2 d h2
  simp [execOp,ho,resolve,invoke,builtin,h1,hy',this]
theorem cells_vals {G:Nat→Prop} {w0 w:World} {ρ:Rho} (hs:Sim G w0 ρ σ w) {j oj k:Nat} {news:List Value} (hc:dh σ j oj k=some news) :
  ∃ rs:List Value,(∀ (q:Nat) (u:Value),rs[q]?=some u→w.cell? ((⟨(ρ j).b,(ρ j).o+oj,none⟩:Addr).add q)=some u)∧rs.length=k∧lF σ.length ρ news.toArray rs.toArray:=by
 obtain ⟨hnl,hnc⟩:=kH hs hc
 have:∀ k≤news.length,∃ rs:List Value,rs.length=k∧∀ (q:Nat) (h1:q<rs.length) (h2:q<news.length),w.cell? ⟨(ρ j).b,(ρ j).o+oj+q,none⟩=some rs[q]∧gY σ.length ρ news[q] rs[q]:=by
  intro k
  induction k with
  |zero=>intro _;exact ⟨[],rfl,fun q h1=>by simp at h1⟩
  |succ k ih =>
   intro hk
   obtain ⟨rs,e1,e2⟩:=ih (by omega)
   obtain ⟨v',e3,e4⟩:=hnc k (by omega)
   refine ⟨rs++[v'],by simp [e1],fun q h1 h2=>?_⟩
   by_cases hq:q<rs.length
   ·rw [List.getElem_append_left hq];exact e2 q hq h2
   ·have:q=k:=by simp at h1;omega
    subst this
    simp only [List.getElem_append_right (show rs.length≤q by omega),e1,Nat.sub_self,List.getElem_cons_zero]
    exact ⟨e3,e4⟩
 obtain ⟨rs,e1,e2⟩:=this news.length (Nat.le_refl _)
 refine ⟨rs,fun k u hu=>?_,by omega,by simp [e1],fun k hk hk'=>(e2 k (by simpa using hk') (by simpa using hk)).2⟩
 obtain ⟨hk,rfl⟩:=List.getElem?_eq_some_iff.1 hu
 rw [addr_add];exact (e2 k hk (by omega)).1
theorem bW {t el size bytes j oj m c:Nat} {agg:Bool} {z:Value} {news:List Value} [ha:Sl P t el] [ht:Ty P el size agg z bytes] (hzs:z.cells.size=size)
  (hx:bf e x=some (.slice none 0 1)) (hy:bf e y=some (.slice (some ⟨j,oj,none⟩) m c)) (hc:dh σ j oj (m*size)=some news) (hm:0<m)
  (hb:m≤1000000) (hby:bytes≤1000000) :
  dV P rd (.call { callee:=.builtin .append,args:=#[x,y],argTypes:=#[t,t] }) ty e σ (dL σ.length size m) (σ++[.gr news el]) :=
 dY (by simp) fun op ho _ G w0 ρ A w hs hop=>by
  have hxr:=hop x (by simp [Op.operands,Call.operands]) _ hx
  have hyr:=hop y (by simp [Op.operands,Call.operands]) _ hy
  obtain ⟨ie,i1,i2,i3,i4⟩:=ht.info
  have hx':∃ a,A.eval x=.slice a 0 0:=by
   generalize hr:A.eval x=r at hxr
   cases hxr with
   |zslice a=>exact ⟨_,rfl⟩
   |zsliceZ hq=>simp at hq
  obtain ⟨a,hx'⟩:=hx'
  have hy':∃ c',A.eval y=.slice (some ⟨(ρ j).b,(ρ j).o+oj,none⟩) m c':=by
   generalize hr:A.eval y=r at hyr
   cases hyr with
   |emptySlice=>omega
   |slice _ _ _ _ c' _ _=>exact ⟨c',rfl⟩
   |sliceG _ _ _ _ _ _ _ _ hq=>simp at hq
  obtain ⟨c',hy'⟩:=hy'
  obtain ⟨rs,hrs,hrl,hrel⟩:=cells_vals hs hc
  have hnl:news.length=m*size:=by
   have:=hrel.1;simp at this;omega
  have hbytes:m*ie.bytes≤140737488355328:=by rw [i4];exact Nat.le_trans (Nat.mul_le_mul hb hby) (by decide)
  have hge:=grownCap_ge w m 0 el
  have hsz:(rs.toArray++Builtin.zeroCells z.cells (grownCap w m 0 el - m)).size=grownCap w m 0 el*size:=by
   simp only [Array.size_append,List.size_toArray,size_zeroCells,hzs,hrl,← Nat.add_mul]
   congr 1;omega
  have hs2:=lZ (CP hs) (.cells (rs.toArray++Builtin.zeroCells z.cells (grownCap w m 0 el - m)) el) (.gr news el) (grownCap w m 0 el*size) (by
   intro _
   refine ⟨fun hg=>by have h1:=(hs.fgn _ hg).1;have:=hs.size;simp only at h1;have e2:w.drew.heap.size=w.heap.size:=rfl;omega,rfl,_,jm w.drew _,hsz,?_,fun k hk hk'=>?_⟩
   ·rw [hsz,hnl];exact Nat.mul_le_mul_right _ hge
   ·have hk2:k<rs.toArray.size:=by simp;omega
    rw [Array.getElem_append_left hk2]
    exact (hrel.2 k (by simpa using hk) hk2).mono (by simp) fun q hq=>jM (by simpa using hq))
  refine ⟨_,.slice (some ⟨w.heap.size,0,none⟩) m (grownCap w m 0 el),_,.inl ?_,?_,by simp,fun k hk=>jM hk,hs2⟩
  ·have hrun:(Builtin.append_ #[t,t] op.type #[.slice a 0 0,.slice (some ⟨(ρ j).b,(ρ j).o+oj,none⟩) m c']).run P w=.ok (.slice (some ⟨w.heap.size,0,none⟩) m (grownCap w m 0 el)) (w.drew.alloc (.cells (rs.toArray++Builtin.zeroCells z.cells (grownCap w m 0 el - m)) el)):=by
    cases a with
    |none=>exact run_append_nil (P:=P) w t op.type el ie z ha.und i1 i3 ⟨(ρ j).b,(ρ j).o+oj,none⟩ m c' rs (by rw [i2];exact hrl) hrs hm (by omega) (by omega)
    |some a =>
     have:=run_append_grow (P:=P) w t op.type el ie z ha.und i1 i3 a 0 0 [] (by simp) (by simp) ⟨(ρ j).b,(ρ j).o+oj,none⟩ m c' rs (by rw [i2];exact hrl) hrs (by omega) (by omega) (growslice_fits (by omega) (by simpa using hbytes))
     simpa using this
   simp [execOp,ho,resolve,invoke,builtin,hx',hy',hrun]
  ·have:=yZ (n:=(σ++[cu.gr news el]).length) (ρ:=upd ρ σ.length w.heap.size (grownCap w m 0 el*size)) (i:=σ.length) (sz:=size) (k:=m) (c':=grownCap w m 0 el) hm (by simp) hge (by simp [upd])
   rw [nR] at this;exact this
end ops
def Du (P:Program) (op:Op) (ty:TypeId) (e:Env) (v:Value):Prop :=
 (∀ o:Oper,o.op=op→∀ w (ev:Operand→Value),o.about P w ev=none) ∧
 ∀ o:Oper,o.op=op→o.type=ty→∀ (n:Nat) (ρ:Rho) (ev:Operand→Value),(∀ x ∈ op.operands,∀ u,bf e x=some u→gY n ρ u (ev x)) →
  ∃ v',(∀ w,(execOp ev o).run P w=.ok (.value v') w)∧gY n ρ v v'
section pure
variable {P:Program} {ty:TypeId} {e:Env} {x y c a b:Operand} {v:Value}
theorem pu_move (h:bf e x=some v):Du P (.move x) ty e v :=
 ⟨fun o ho w ev=>by simp [Oper.about,ho],fun o ho _ n ρ ev hx=>⟨ev x,fun w=>by simp [execOp,ho],hx x (by simp [Op.operands]) _ h⟩⟩
theorem pu_assign (h:bf e x=some v):Du P (.assign x) ty e v :=
 ⟨fun o ho w ev=>by simp [Oper.about,ho],fun o ho _ n ρ ev hx=>⟨ev x,fun w=>by simp [execOp,ho],hx x (by simp [Op.operands]) _ h⟩⟩
theorem Ou {op:BinOp} {k:IntKind} {m n:Int} {t t':TypeId} (hx:bf e x=some (.int k m)) (hy:bf e y=some (.int k n)) (h:Iq op k m n=some v):Du P (.binOp op t x y t') ty e v :=
 ⟨fun o ho w ev=>by simp [Oper.about,ho],fun o ho _ q ρ ev hop=>⟨v,fun w=>by
  have h1:=dD (hop x (by simp [Op.operands]) _ hx) rfl
  have h2:=dD (hop y (by simp [Op.operands]) _ hy) rfl
  have h3:(eqGuard op t x y (.int k m) (.int k n)).run P w=.ok () w:=by unfold eqGuard;split <;> rfl
  simp [execOp,ho,h1,h2,h3,Ir h],bU _ (CU h)⟩⟩
theorem Ov {m n:Int} {t t':TypeId} (hx:bf e x=some (.int .i64 m)) (hy:bf e y=some (.int .i64 n)) (h1:-9223372036854775808≤m+n) (h2:m+n≤9223372036854775807):Du P (.binOp .add t x y t') ty e (.int .i64 (m+n)) :=
 Ou hx hy (by simp only [Iq,wrap64 h1 h2])
theorem pu_inc {m:Nat} {t t':TypeId} (hx:bf e x=some (.int .i64 (m:Nat))) (hy:bf e y=some (.int .i64 1)) (h2:(m:Int)+1≤9223372036854775807):Du P (.binOp .add t x y t') ty e (.int .i64 ((m+1:Nat):Int)):=by
 have:=Ov (P:=P) (ty:=ty) (t:=t) (t':=t') hx hy (by omega) h2
 simpa using this
theorem pu_extract {vs:Array Value} {i:Nat} (h:bf e x=some (.tuple vs)) (hi:vs.toList[i]?=some v):Du P (.extract x i) ty e v :=
 ⟨fun o ho w ev=>by simp [Oper.about,ho],fun o ho _ n ρ ev hop=>by
  have hv:=hop x (by simp [Op.operands]) _ h
  generalize hr:ev x=r at hv
  cases hv with
  |tuple _ a' h1 h3 =>
   obtain ⟨hil,rfl⟩:=List.getElem?_eq_some_iff.1 hi
   have hil':i<vs.size:=by simpa using hil
   refine ⟨a'[i]'(by omega),fun w=>?_,by simpa using h3 i hil' (by omega)⟩
   have:a'[i]?=some (a'[i]'(by omega)):=Array.getElem?_eq_getElem (by omega)
   simp [execOp,ho,hr,Instr.extract,this]⟩
theorem pu_sliceH {t el size bytes i o n c h:Nat} {agg:Bool} {z:Value} {k:IntKind} [ha:Sl P t el] [ht:Ty P el size agg z bytes] (hx:bf e x=some (.slice (some ⟨i,o,none⟩) n c)) (hy:bf e y=some (.int k (h:Nat))) (hc:h≤c) :
  Du P (.slice t x none (some y) none) ty e (.slice (some ⟨i,o,none⟩) h c) :=
 ⟨fun o ho w ev=>by simp [Oper.about,ho],fun op ho _ q ρ ev hop=>by
  have hv:=hop x (by simp [Op.operands]) _ hx
  have hi:=dD (hop y (by simp [Op.operands]) _ hy) rfl
  obtain ⟨e1,e2⟩:=xw ha
  generalize hr:ev x=r at hv
  cases hv with
  |emptySlice _ _ a' c' =>
   have h0:h=0:=by omega
   subst h0
   refine ⟨sliced a' 0 0 c' size,fun w=>?_,?_⟩
   ·have:=run_slice_h (P:=P) w t a' 0 c' e1 k 0 (by omega) (by omega)
    simp only [Int.toNat_zero] at this
    simp [execOp,ho,hr,hi,run_sliceAt_slice _ _ _ _ _ _ e1,this,e2,ht.sizeOf]
   ·simp only [sliced];exact .emptySlice _ _ _ _
  |slice _ _ _ _ c' hcc hil =>
   refine ⟨sliced (some ⟨(ρ i).b,(ρ i).o+o,none⟩) 0 h c' size,fun w=>?_,?_⟩
   ·have:=run_slice_h (P:=P) w t (some ⟨(ρ i).b,(ρ i).o+o,none⟩) n c' e1 k h (by omega) (by omega)
    simp only [Int.toNat_natCast] at this
    simp [execOp,ho,hr,hi,run_sliceAt_slice _ _ _ _ _ _ e1,this,e2,ht.sizeOf]
   ·have e3:sliced (some ⟨(ρ i).b,(ρ i).o+o,none⟩) 0 h c' size=.slice (some ⟨(ρ i).b,(ρ i).o+o,none⟩) h c':=by
     simp only [sliced];split <;> simp [addr_add]
    rw [e3];exact .slice _ _ _ _ _ hcc hil
  |sliceG _ _ _ _ _ _ _ _ hq=>simp at hq⟩
theorem pu_sliceL {t el size bytes i o n c l:Nat} {agg:Bool} {z:Value} {k:IntKind} [ha:Sl P t el] [ht:Ty P el size agg z bytes] (hx:bf e x=some (.slice (some ⟨i,o,none⟩) n c)) (hy:bf e y=some (.int k (l:Nat))) (hc:l≤n) (hn:n≤c) :
  Du P (.slice t x (some y) none none) ty e (.slice (some ⟨i,o+l*size,none⟩) (n - l) (c - l)) :=
 ⟨fun o ho w ev=>by simp [Oper.about,ho],fun op ho _ q ρ ev hop=>by
  have hv:=hop x (by simp [Op.operands]) _ hx
  have hi:=dD (hop y (by simp [Op.operands]) _ hy) rfl
  obtain ⟨e1,e2⟩:=xw ha
  generalize hr:ev x=r at hv
  cases hv with
  |emptySlice _ _ a' c' =>
   have h0:l=0:=by omega
   subst h0
   refine ⟨sliced a' 0 0 c' size,fun w=>?_,?_⟩
   ·have:=run_slice_l (P:=P) w t a' 0 c' e1 k 0 (by omega) (by omega)
    simp only [Int.toNat_zero] at this
    simp [execOp,ho,hr,hi,run_sliceAt_slice _ _ _ _ _ _ e1,this,e2,ht.sizeOf]
   ·simp only [sliced];exact .emptySlice _ _ _ _
  |slice _ _ _ _ c' hcc hil =>
   refine ⟨sliced (some ⟨(ρ i).b,(ρ i).o+o,none⟩) l n c' size,fun w=>?_,?_⟩
   ·have:=run_slice_l (P:=P) w t (some ⟨(ρ i).b,(ρ i).o+o,none⟩) n c' e1 k l (by omega) (by omega)
    simp only [Int.toNat_natCast] at this
    simp [execOp,ho,hr,hi,run_sliceAt_slice _ _ _ _ _ _ e1,this,e2,ht.sizeOf]
   ·simp only [sliced]
    by_cases hcl:c'=l
    ·have h1:n - l=0:=by omega
     have h2:c - l=0:=by omega
     rw [h1,h2];exact .emptySlice _ _ _ _
    ·rw [if_neg hcl]
     simp only [Option.map_some,addr_add]
     rw [Nat.add_assoc]
     exact .slice _ _ _ _ _ (by omega) hil
  |sliceG _ _ _ _ _ _ _ _ hq=>simp at hq⟩
end pure
theorem pI {F:Fence} {n:Nat} {P:Program} {o:Oper} {a:Act} {w:World} {K:Act→World→Prop} {Q Q':Exit→Act→World→Prop} (hp:∀ c a w,Q (.panic c) a w→Q' (.panic c) a w) (ho:∀ a w,Q .outgrown a w→Q' .outgrown a w)
  (hh:o.wpIn F n P a w K Q):o.wpIn F n P a w K Q':=by
 unfold Oper.wpIn at *
 refine ⟨hh.1,?_⟩
 have hh:=hh.2
 generalize (o.semAt F.round a.eval).run P w=r at *
 cases r with
 |ok x w' =>
  cases x <;> simp only [Oper.uponIn] at hh ⊢ <;>
   first
    |exact hh
    |exact ⟨hh.1,CallsIn.mono hh.2 (fun e w'' he=>by cases e <;> first|exact he|exact hp _ _ _ he|exact (let ⟨a,w,h⟩:=he;⟨a,w,ho _ _ h⟩))⟩
    |exact ⟨hh.1,RoundIn.mono hh.2 (fun e w'' he=>by cases e <;> first|exact he|exact hp _ _ _ he|exact (let ⟨a,w,h⟩:=he;⟨a,w,ho _ _ h⟩))⟩
 |halt x w'=>cases x <;> simp only [Oper.uponIn] at hh ⊢ <;> first|exact hh|exact hp _ _ _ hh
theorem qZ {F:Fence} {n:Nat} {P:Program} {md:Region.Mode} {ops:Array Oper} {Q Q':Exit→Act→World→Prop} (h:∀ ex a w,Q ex a w→Q' ex a w):∀ (fuel:Nat) (listed:Array Bool) (a:Act) (w:World),wpAnyIn F n P md ops Q fuel listed a w→wpAnyIn F n P md ops Q' fuel listed a w
 |0,_,_,_,hh=>⟨hh.1,h _ _ _ hh.2⟩
 |fuel+1,listed,a,w,hh=>⟨fun hr=>h _ _ _ (hh.1 hr),fun i hi=>by
  have:=hh.2 i hi
  unfold wpOpIn at this ⊢
  split
  ·rename_i hn;simp only [hn] at this;exact qZ h fuel _ _ _ this
  ·rename_i o ho
   simp only [ho] at this
   split
   ·rename_i hw
    rw [if_pos hw] at this
    exact pI (fun c a w=>h _ a w) (fun a w=>h _ a w) (Oper.wpIn_mono (fun a w=>qZ h fuel _ a w) this)
   ·rename_i hw
    rw [if_neg hw] at this
    exact ⟨this.1,qZ h fuel _ _ _ this.2⟩⟩
def uM (P:Program) (n0 N:Nat) (all:List Oper) (fuel:Nat) (listed:List Bool) (K:Env→List Nat→Heap→Prop) (e:Env) (mk:List Nat) (σ:Heap):Prop :=
 ∀ G w0 ρ0 A w,Inv n0 N G w0 ρ0 e mk σ A w→wpAnyIn Fence.wide 0 P .any all.toArray (fun ex A' w'=>ex=.normal∧∃ e' mk' σ',K e' mk' σ'∧Inv n0 N G w0 ρ0 e' mk' σ' A' w') fuel listed.toArray A w
section
variable {P:Program} {n0 N:Nat} {Q:Post} {K:Env→List Nat→Heap→Prop} {e:Env} {mk:List Nat} {σ:Heap} {id:Nat} {all l:List Oper} {listed:List Bool} {fuel:Nat}
theorem oU (hm:P.follows .mixedOrders=true) (h:uM P n0 N l l.length (List.replicate l.length false) (Q .normal) e mk σ):dI P n0 N none (.region id l.toArray true) Q e mk σ:=by
 intro G w0 ρ0 A w hi
 obtain ⟨h0,ρ,ha,hs,he⟩:=hi
 refine wpIn_region_any hm ?_
 have:=h G w0 ρ0 A { w with drawn:=w.drawn+1 } ⟨h0,ρ,ha,zV hs rfl rfl rfl rfl,he⟩
 rw [List.toArray_replicate] at this
 refine qZ (fun ex a w hq=>?_) _ _ _ _ this
 obtain ⟨rfl,e',mk',σ',h1,h2⟩:=hq
 exact ⟨e',mk',σ',h1,h2⟩
def Kz (all:List Oper) (listed:List Bool) (i:Nat):Bool:=(Region.ready .any all.toArray listed.toArray).contains i && Region.free .any all.toArray listed.toArray i && Region.noSelect all.toArray
def Ox (all:List Oper) (listed:List Bool) (i:Nat):Bool:=match Region.ready .any all.toArray listed.toArray with|[k]=>Nat.beq k i|_=>false
def KA (all:List Oper) (listed:List Bool):Bool:=(Region.ready .any all.toArray listed.toArray).isEmpty
theorem wa_pure (i:Nat) {d:Nat} {op:Op} {ty:TypeId} {pos:String} {after:Array Edge} {v:Value} (hr:Kz all listed i=true) (hi:all[i]?=some ⟨some d,op,ty,pos,after,none⟩) (hp:Du P op ty e v) (hd:Nat.blt d N=true)
  (h:uM P n0 N all fuel (listed.set i true) K ((d,v)::e) mk σ):uM P n0 N all (fuel+1) listed K e mk σ:=by
 intro G w0 ρ0 A w hinv
 obtain ⟨h0,ρ,ha,hs,he⟩:=hinv
 unfold Kz at hr
 simp only [Bool.and_eq_true] at hr
 obtain ⟨v',hv1,hv2⟩:=hp.2 ⟨some d,op,ty,pos,after,none⟩ rfl rfl σ.length ρ A.eval (fun x _ u hu=>qc he hu)
 refine wpAnyIn_take (v:=v') rfl (oi:=⟨some d,op,ty,pos,after,none⟩) (by rw [List.getElem?_toArray];exact hi) hr.2 hr.1.2 hr.1.1 (fun c a w hq=>by cases hq.1) ⟨.inl ⟨rfl,hv1⟩,fun w=>hp.1 ⟨some d,op,ty,pos,after,none⟩ rfl w _⟩ ?_
 have:=h G w0 ρ0 (A.put (some d) v') w ⟨h0,ρ,ha,hs,uq he (by simpa [Nat.blt_eq] using hd) hv2⟩
 simpa using this
theorem wa_one (i:Nat) {o:Oper} (hr:Ox all listed i=true) (hi:all[i]?=some o) (h:dO P n0 N none all [o] (fun e' mk' σ'=>uM P n0 N all fuel (listed.set i true) K e' mk' σ') e mk σ):uM P n0 N all (fuel+1) listed K e mk σ:=by
 intro G w0 ρ0 A w hinv
 have hrd:Region.ready .any all.toArray listed.toArray=[i]:=by
  unfold Ox at hr
  split at hr
  ·rename_i k hk;rw [hk,Nat.eq_of_beq_eq_true hr]
  ·cases hr
 refine wpAnyIn_all hrd (by simp) fun j hj=>?_
 obtain rfl:j=i:=by simpa using hj
 have:=h G w0 ρ0 A w hinv (fun ex A' w'=>match ex with|.normal=>wpAnyIn Fence.wide 0 P .any all.toArray (fun ex A' w'=>ex=.normal∧∃ e' mk' σ',K e' mk' σ'∧Inv n0 N G w0 ρ0 e' mk' σ' A' w') fuel (listed.toArray.setIfInBounds j true) A' w'|_=>False) (fun e' mk' σ' A' w' hk hinv'=>by
  have:=hk G w0 ρ0 A' w' hinv'
  simpa using this)
 unfold wpOpIn
 simp only [List.getElem?_toArray,hi]
 simp only [wpL] at this
 split
 ·rename_i hw
  rw [if_pos hw] at this
  exact pI (fun c a w hq=>hq.elim) (fun a w hq=>hq.elim) this
 ·rename_i hw
  rw [if_neg hw] at this
  exact ⟨fun f _=>pq ρ0 none _,this⟩
theorem wa_done (hr:KA all listed=true) (h:K e mk σ):uM P n0 N all fuel listed K e mk σ:=by
 intro G w0 ρ0 A w hinv
 exact wpAnyIn_done (by simpa [KA] using hr) ⟨rfl,e,mk,σ,h,hinv⟩ fuel
end
end Go.AH
namespace Go.AH
open Go
section
variable {P:Program} {rd:Option Nat} {ty:TypeId} {e:Env} {σ:Heap} {x y:Operand}
theorem guard_arr {t el n:Nat} {k:IntKind} [ha:Ar P t n el] [hk:Ik P el k]:P.eqGuardType P.depth t=false:=by
 unfold Program.depth
 simp [Program.eqGuardType,ha.und,hk.und]
def Ac (f:Nat→Int) (n:Nat) (xs:Array Value):Prop:=∀ i<n,xs.toList[i]?=some (.int .i64 (f i))
theorem EX {el:TypeId} {bytes:Nat} {z:Value} {w:World} (ht:Ty P el 1 false z bytes) {xs:Array Value} {a:Value} {o:Nat} (h1:xs.toList[o]?=some a):(part el xs o).run P w=.ok a w:=by
 have e1:=ht.isAgg (w:=w)
 have h2:xs[o]?=some a:=by simpa using h1
 simp [part,e1,h2]
theorem y8 {el:TypeId} {bytes:Nat} {z:Value} {w:World} (ht:Ty P el 1 false z bytes) (hk:Ik P el .i64) (d:Nat) {n:Nat} {f g:Nat→Int} {xs ys:Array Value} (hx:Ac f n xs) (hy:Ac g n ys) :
  ∀ is:List Nat,(∀ i ∈ is,i<n)→(Op.eqItems (d+2) el 1 xs ys is).run P w=.ok (decide (∀ i ∈ is,f i=g i)) w
 |[],_=>by simp [Op.eqItems]
 |i::is,h=>by
  have hi:=h i (by simp)
  have ih:=y8 (w:=w) ht hk d hx hy is fun j hj=>h j (List.mem_cons_of_mem _ hj)
  have q:(Op.equalIn (d+2) el (.int .i64 (f i)) (.int .i64 (g i))).run P w=.ok (decide (f i=g i)) w:=by
   have:=hk.und
   simp [Op.equalIn,underlying,this]
   rfl
  have a1:(part el xs (i*1)).run P w=.ok (.int .i64 (f i)) w:=EX ht (by rw [Nat.mul_one];exact hx i hi)
  have a2:(part el ys (i*1)).run P w=.ok (.int .i64 (g i)) w:=EX ht (by rw [Nat.mul_one];exact hy i hi)
  simp only [Op.eqItems,Sem.run_bind,a1,a2,q,Result.andThen_ok]
  by_cases hfg:f i=g i
  ·simp [ih,hfg]
  ·simp [hfg]
theorem nJ {t t' el n bytes:Nat} {z:Value} {f g:Nat→Int} {xs ys:List Value} [ha:Ar P t n el] [ht:Ty P el 1 false z bytes] [hk:Ik P el .i64] (hg:P.eqGuardType P.depth t=false)
  (hx:bf e x=some (.agg xs.toArray)) (hy:bf e y=some (.agg ys.toArray)) (hpx:gy xs=true) (hpy:gy ys=true) (hf:Ac f n xs.toArray) (hgg:Ac g n ys.toArray) :
  dV P rd (.binOp .eql t x y t') ty e σ (.bool (decide (∀ i ∈ List.range n,f i=g i))) σ :=
 lK (by simp) rfl fun o ho _ A hA w=>by
  have h1:=hA x (by simp [Op.operands]) _ hx hpx
  have h2:=hA y (by simp [Op.operands]) _ hy hpy
  obtain ⟨ie,i1,i2,i3,i4⟩:=ht.info
  have hc:P.cellsOf el=1:=by simp [Program.cellsOf,i1,i2]
  have g1:=run_equalIn_array (P:=P) (w:=w) 9999 xs.toArray ys.toArray ha.und i1
  rw [hc] at g1
  have g2:=y8 (w:=w) ht hk 9997 hf hgg (List.range n) (fun i hi=>List.mem_range.1 hi)
  rw [g2] at g1
  simp only [execOp,ho,h1,h2]
  simp only [run_eqGuard_agg _ _ _ _ _ _ _ hg,run_eql_struct,g1,Sem.run_bind,Result.andThen_ok,Sem.run_pure]
theorem ok_eqNil {t t' el i o n c:Nat} [ha:Sl P t el] (hx:bf e x=some (.slice (some ⟨i,o,none⟩) n c)) (hn:0<n) (hy:bf e y=some (.slice none 0 0)) :
  dV P rd (.binOp .eql t x y t') ty e σ (.bool false) σ :=
 dY (by simp) fun op ho _ G w0 ρ A w hs hop=>by
  have hxr:=hop x (by simp [Op.operands]) _ hx
  have hyr:=hop y (by simp [Op.operands]) _ hy
  have hx':∃ a c',A.eval x=.slice (some a) n c':=by
   generalize hr:A.eval x=r at hxr
   cases hxr with
   |emptySlice=>omega
   |slice _ _ _ _ c' _ _=>exact ⟨_,c',rfl⟩
   |sliceG _ _ _ _ _ _ _ _ hq=>simp at hq
  have hy':A.eval y=.slice none 0 0:=dD hyr rfl
  obtain ⟨a,cx,hx'⟩:=hx'
  refine ⟨ρ,.bool false,w,.inl ?_,.bool _,by omega,fun _ _=>rfl,hs⟩
  have hu:=ha.und
  have h3:(eqGuard .eql t x y (.slice (some a) n cx) (.slice none 0 0)).run P w=.ok () w:=by unfold eqGuard;split <;> rfl
  have h5:∀ d,(Op.equalIn (d+1) t (.slice (some a) n cx) (.slice none 0 0)).run P w=.ok false w:=fun d=>by simp [Op.equalIn,underlying,hu]
  have h4:(Op.equal t (.slice (some a) n cx) (.slice none 0 0)).run P w=.ok false w:=h5 9999
  simp [execOp,ho,hx',hy',h3,binOp,h4]
end
end Go.AH
