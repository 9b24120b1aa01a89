/- Lemmas. No conditions. -/
import Derived.Test.YtajpgeklmcjciaaGreatPyMB
import Derived.WideKeyRuns
import Derived.Laws.IdiomRangeMap
import Derived.ChangeKeysEq
open Go Go.AH
namespace Go.AH
def ahE (U:Heap) (p:Pl) (qs:List (List Value)):Prop :=
 (p.o=0/\∃ sp,U[p.b]?=some (.deep qs sp)) \/
 ∃ cs',aK U p.b p.o qs.length=some cs'/\∀ (k:Nat) (h:k<qs.length) (h':k<cs'.length),dN qs[k]=true/\∃ i o c,cs'[k]=.slice (some ⟨i,o,none⟩) qs[k].length c/\qs[k].length<=c/\(qs[k]=[]\/aK U i o qs[k].length=some qs[k])
def FR (σ1 U:Heap) (Z:Rho):Prop :=
 ∀ k o,σ1[k]?=some o->(∃ cs,o=.ro cs/\(cs=[]\/∃ cs',aK U (Z k).b (Z k).o cs.length=some cs'/\∀ (j:Nat) (h:j<cs.length) (h':j<cs'.length),jS σ1.length Z cs[j] cs'[j])) \/
  ∃ qs,o=.deep qs []/\(qs=[]\/ahE U (Z k) qs)
def aU:aC->Bool
 |.iter _ _=>true
 |_=>false
def DZ:aC->Bool
 |.dead|.rw _|.gr _ _=>true
 |_=>false
def CS (r:Rho):aC->aC
 |.rw cs=>.rw (yK r cs)
 |.gr cs e=>.gr (yK r cs) e
 |o=>o
def shf (n1 n:Nat) (Z:Rho):Rho:=fun i=>if i<n1 then Z i else ⟨n+(i - n1),0,0⟩
theorem VL {n1 n i:Nat} {Z:Rho} (h:i<n1):shf n1 n Z i=Z i:=by simp [shf,h]
theorem VN {n1 n i:Nat} {Z:Rho} (h:¬ i<n1):shf n1 n Z i=⟨n+(i - n1),0,0⟩:=by simp [shf,h]
theorem Sr {U:Heap} {b o n:Nat} {cs:List Value} (h:aK U b o n=some cs):∃ x,U[b]?=some x/\((∃ l,x=.ro l/\o+n<=l.length)\/(∃ l,(x=.rw l\/∃ t,x=.gr l t)/\o+n<=l.length)\/∃ qs sp v,x=.deep qs sp/\Nq sp o=some v):=by
 unfold aK at h
 split at h
 ·rename_i l hl
  refine ⟨_,hl,.inl ⟨l,rfl,?_⟩⟩
  cases hb:Nat.ble (o+n) l.length with
  |true=>exact cC hb
  |false=>simp [hb] at h
 ·rename_i l hl
  refine ⟨_,hl,.inr (.inl ⟨l,.inl rfl,?_⟩)⟩
  cases hb:Nat.ble (o+n) l.length with
  |true=>exact cC hb
  |false=>simp [hb] at h
 ·rename_i l t hl
  refine ⟨_,hl,.inr (.inl ⟨l,.inr ⟨t,rfl⟩,?_⟩)⟩
  cases hb:Nat.ble (o+n) l.length with
  |true=>exact cC hb
  |false=>simp [hb] at h
 ·rename_i qs sp hl
  cases hn:Nat.beq n 1 with
  |false=>simp [hn] at h
  |true =>
   simp only [hn,cond_true,fz] at h
   obtain ⟨v,hv,_⟩:=h
   exact ⟨_,hl,.inr (.inr ⟨qs,sp,v,rfl,hv⟩)⟩
 ·simp at h
def own (G:Nat->Prop) (V:Rho) (U:Heap):Nat->Prop:=fun b=>G b\/∃ i o,U[i]?=some o/\o.owned/\(V i).b=b
theorem ND:∀ {l:List Value},dN l=true->∀ (i:Nat) (h:i<l.length),plain l[i]=true
 |[],_,i,h=>by simp at h
 |v::l,hp,i,h=>by
  simp only [dN,aE] at hp
  cases i with
  |zero=>exact hp.1
  |succ i=>exact ND hp.2 i (oU h)
theorem Fv {G:Nat->Prop} {w0 w:World} {V:Rho} {U:Heap} (hs:Sim G w0 V U w) {b o n:Nat} {cs:List Value} (hc:aK U b o n=some cs) (hpos:0<n):own G V U (V b).b:=by
 obtain ⟨x,hx,h⟩:=Sr hc
 rcases h with ⟨l,rfl,c⟩|⟨l,h,c⟩|⟨qs,sp,v,rfl,hv⟩
 ·have a:l ≠ []:=fun h=>by subst h;simp only [dx] at c;omega
  exact .inl (hs.obj _ _ hx a).1
 ·have a:l ≠ []:=fun h=>by subst h;simp only [dx] at c;omega
  refine .inr ⟨b,x,hx,?_,rfl⟩
  rcases h with rfl|⟨t,rfl⟩
  ·exact a
  ·exact a
 ·exact .inl ((hs.obj _ _ hx).2 _ (Fe hv)).1
theorem JG {n:Nat} {V:Rho} {i o l c:Nat} {v':Value} (h:gJ n V (.slice (some ⟨i,o,none⟩) l c) v'):(l=0/\∃ a c',v'=.slice a 0 c')\/∃ c',c<=c'/\v'=.slice (some ⟨(V i).b,(V i).o+o,none⟩) l c':=by
 cases h with
 |emptySlice _ _ a c'=>exact .inl ⟨rfl,a,c',rfl⟩
 |slice _ _ _ _ c' hc _=>exact .inr ⟨c',hc,rfl⟩
 |sliceG _ _ _ _ c' _ hc _ hq=>cases hq
theorem ZO {G:Nat->Prop} {w0 w:World} {V:Rho} {U σ1:Heap} {Z:Rho} (hs:Sim G w0 V U w) (hf:FR σ1 U Z):Sim (own G V U) w (comp V Z) σ1 w where
 os:=rfl
 tape:=rfl
 output:=rfl
 size:=aD _
 fgn b hb:=by
  refine ⟨?_,rfl⟩
  rcases hb with hb|⟨i,o,hi,ho,rfl⟩
  ·have:=(hs.fgn b hb).1;have:=hs.size;omega
  ·exact (fH (hs.obj i o hi) ho).1
 obj k o hk:=by
  rcases hf k o hk with ⟨cs,rfl,hc⟩|⟨qs,rfl,hc⟩
  ·intro e
   rcases hc with hc|⟨h,hc,hv⟩
   ·exact absurd hc e
   obtain ⟨hl,f⟩:=kG hs hc
   have d:0<cs.length:=List.length_pos_iff.2 e
   refine ⟨Fv hs hc d,fun j hj=>?_⟩
   obtain ⟨v',h1,h2⟩:=f j oO
   exact ⟨v',by simpa [comp,cF] using h1,(hv j hj oO).trans h2⟩
  ·refine ⟨fun e=>?_,fun x hx=>by simp at hx⟩
   have d:0<qs.length:=List.length_pos_iff.2 e
   rcases hc.resolve_left e with ⟨h0,sp,hc⟩|⟨h,hc,hv⟩
   ·obtain ⟨g1,g2⟩:=(hs.obj _ _ hc).1 e
    refine ⟨.inl g1,fun j hj=>?_⟩
    obtain ⟨v',h1,h2⟩:=g2 j hj
    exact ⟨v',by simpa [comp,h0] using h1,qy h2 (fun _=>.inl) (fun _ _ _ hy=>hy)⟩
   ·obtain ⟨hl,f⟩:=kG hs hc
    refine ⟨Fv hs hc d,fun j hj=>?_⟩
    obtain ⟨v',h1,h2⟩:=f j oO
    obtain ⟨hp,i,o,c,h3,h4,h5⟩:=hv j hj oO
    rw [h3] at h2
    refine ⟨v',by simpa [comp,cF] using h1,?_⟩
    rcases JG h2 with ⟨h6,a,c',rfl⟩|⟨c',h6,rfl⟩
    ·have hq:qs[j]=[]:=List.eq_nil_of_length_eq_zero h6
     exact ⟨a,c',by rw [hq];rfl,by rw [hq];exact bL _,fun l=>absurd hq l⟩
    ·refine ⟨_,c',rfl,oO,fun hq=>⟨_,_,rfl,?_,?_⟩⟩
     ·exact Fv hs (h5.resolve_left hq) (List.length_pos_iff.2 hq)
     ·intro m hm
      obtain ⟨_,g⟩:=kG hs (h5.resolve_left hq)
      obtain ⟨v2,h7,h8⟩:=g m hm
      have:=bH h8 (ND hp m hm)
      subst this
      exact h7
 inj i j oi oj hi _ hoi:=by
  rcases hf i oi hi with ⟨cs,rfl,_⟩|⟨qs,rfl,_⟩
  ·exact hoi.elim
  ·exact hoi.elim
theorem ZP {G:Nat->Prop} {w0 w w':World} {V ρ1:Rho} {U σ1 news:Heap} {Z:Rho} (hs:Sim G w0 V U w) (hni:U.all (fun o=>!aU o)=true) (hm:news.all DZ=true)
  (hπ:∀ k < σ1.length,(Z k).b < U.length) (hag:∀ k < σ1.length,ρ1 k=comp V Z k) (hs1:Sim (own G V U) w ρ1 (σ1++news) w') :
  ∃ ρ':Rho,(∀ i < U.length,ρ' i=V i)/\(∀ k<(σ1++news).length,ρ1 k=comp ρ' (shf σ1.length U.length Z) k)/\Sim G w0 ρ' (U++news.map (CS (shf σ1.length U.length Z))) w':=by
 let ρ':Rho:=fun i=>if i < U.length then V i else ρ1 (σ1.length+(i - U.length))
 have f:∀ i < U.length,ρ' i=V i:=fun i hi=>by simp only [ρ'];rw [if_pos hi]
 have j:∀ k<(σ1++news).length,ρ1 k=comp ρ' (shf σ1.length U.length Z) k:=by
  intro k hk
  by_cases s:k < σ1.length
  ·rw [hag k s]
   simp only [comp,VL s,f _ (hπ k s)]
  ·have h0:¬ (U.length+(k - σ1.length) < U.length):=oO
   simp only [comp,VN s,ρ']
   rw [if_neg h0,show σ1.length+(U.length+(k - σ1.length) - U.length)=k from by omega]
   simp
 have c:∀ (q:Nat) (o:aC),(U++news.map (CS (shf σ1.length U.length Z)))[q]?=some o->¬ q < U.length->∃ o1,(σ1++news)[σ1.length+(q - U.length)]?=some o1/\o=CS (shf σ1.length U.length Z) o1/\DZ o1=true:=by
  intro q o hq f
  rw [bE oO,cJ] at hq
  obtain ⟨o1,h1,h2⟩:=Option.map_eq_some_iff.1 hq
  exact ⟨o1,by rw [bE oO,<- h1];congr 1;omega,h2.symm,List.all_eq_true.1 hm o1 (eh h1)⟩
 have g:∀ o1:aC,DZ o1=true->(CS (shf σ1.length U.length Z) o1).owned->o1.owned:=by
  intro o1 h1 h2
  cases o1 with
  |dead=>exact h2
  |rw cs=>intro hc;subst hc;exact h2 rfl
  |gr cs t=>intro hc;subst hc;exact h2 rfl
  |_=>simp [DZ] at h1
 have D:(U++news.map (CS (shf σ1.length U.length Z))).length=U.length+news.length:=oS
 refine ⟨ρ',f,j,hs1.os.trans hs.os,hs1.tape.trans hs.tape,hs1.output.trans hs.output,eg hs.size hs1.size,fun b hb=>?_,fun q o hq=>?_,fun p q op oq hp hq u z l=>?_⟩
 ·obtain ⟨h1,h2⟩:=hs.fgn b hb
  exact ⟨h1,((hs1.fgn b (.inl hb)).2).trans h2⟩
 ·rw [D]
  by_cases a:q < U.length
  ·rw [bO a] at hq
   rw [f q a]
   have hr:=hs.obj q o hq
   by_cases d:o.owned\/∃ cs,o=.ro cs/\cs ≠ []
   ·refine nP hr oO f (fun x hx=>?_) (fun k seen hk=>?_) (fun k hk x hx=>?_)
    ·rw [(hs1.fgn _ ?_).2];exact hx
     rcases d with ho|⟨cs,rfl,r⟩
     ·exact .inr ⟨q,o,hq,ho,rfl⟩
     ·exact .inl (hr r).1
    ·subst hk
     have:=List.all_eq_true.1 hni _ (eh hq)
     simp [aU] at this
    ·rw [(hs1.fgn _ (.inl hk)).2];exact hx
   ·cases o with
    |dead=>trivial
    |ro cs=>intro hc;exact absurd (.inr ⟨cs,rfl,hc⟩) d
    |rw cs=>intro hc;exact absurd (.inl hc) d
    |gr cs t=>intro hc;exact absurd (.inl hc) d
    |deep qs sp =>
     have n:∀ b,G b->∀ y,w.heap[b]?=some y->w'.heap[b]?=some y:=fun b hb y hy=>by rw [(hs1.fgn b (.inl hb)).2];exact hy
     refine ⟨fun hq=>?_,fun y hy=>?_⟩
     ·obtain ⟨g1,g2⟩:=hr.1 hq
      refine ⟨g1,fun k hk=>?_⟩
      obtain ⟨v',g3,g4⟩:=g2 k hk
      exact ⟨v',lX g3 (n _ g1),qy g4 (fun _ h=>h) n⟩
     ·obtain ⟨g1,v',g3,g4⟩:=hr.2 y hy
      exact ⟨g1,v',lX g3 (n _ g1),g4.mono oO f⟩
    |_=>exact absurd (.inl trivial) d
  ·obtain ⟨o1,h1,rfl,h3⟩:=c q o hq a
   have hr:=hs1.obj _ _ h1
   have e:ρ' q=ρ1 (σ1.length+(q - U.length)):=by simp only [ρ'];rw [if_neg a]
   rw [e]
   have E:∀ {p:Nat},¬ own G V U p->¬ G p:=fun h hg=>h (.inl hg)
   have F:∀ v v':Value,gJ (σ1++news).length ρ1 v v'->gJ (U.length+news.length) ρ' (ren (shf σ1.length U.length Z) v) v':=by
    intro v v' hv
    have I:=hv.mono (m:=(σ1++news).length) (ρ':=comp ρ' (shf σ1.length U.length Z)) (aD _) (fun k hk=>(j k hk).symm)
    refine GZ (fun i hi=>?_) I
    by_cases B:i < σ1.length
    ·rw [VL B];have:=hπ i B;omega
    ·rw [VN B];simp only [bA] at hi;simp only;omega
   cases o1 with
   |dead=>trivial
   |rw cs =>
    intro A
    have r:cs ≠ []:=fun hc=>by subst hc;exact A rfl
    obtain ⟨g1,g2,rc,t,g3,g4,g5⟩:=hr r
    refine ⟨E g1,g2,rc,t,g3,by rw [AZ];simpa using g4,fun k hk C=>?_⟩
    simp only [AZ] at hk ⊢
    rw [cQ]
    exact F _ _ (g5 k (oU hk) C)
   |gr cs t =>
    intro A
    have r:cs ≠ []:=fun hc=>by subst hc;exact A rfl
    obtain ⟨g1,g2,rc,g3,H,g4,g5⟩:=hr r
    refine ⟨E g1,g2,rc,g3,H,by rw [AZ];simpa using g4,fun k hk C=>?_⟩
    simp only [AZ] at hk ⊢
    rw [cQ]
    exact F _ _ (g5 k (oU hk) C)
   |_=>simp [DZ] at h3
 ·by_cases e:p < U.length <;> by_cases a:q < U.length
  ·rw [bO e] at hp
   rw [bO a] at hq
   rw [f p e,f q a] at l
   exact hs.inj p q op oq hp hq u z l
  ·obtain ⟨o1,h1,rfl,h3⟩:=c q oq hq a
   rw [bO e] at hp
   have:=(fH (hs1.obj _ _ h1) (g _ h3 z)).2
   exfalso;apply this
   refine .inr ⟨p,op,hp,u,?_⟩
   rw [f p e] at l
   rw [l];simp only [ρ'];rw [if_neg a]
  ·obtain ⟨o1,h1,rfl,h3⟩:=c p op hp e
   rw [bO a] at hq
   have:=(fH (hs1.obj _ _ h1) (g _ h3 u)).2
   exfalso;apply this
   refine .inr ⟨q,oq,hq,z,?_⟩
   rw [f q a] at l
   rw [<- l];simp only [ρ'];rw [if_neg e]
  ·obtain ⟨o1,h1,rfl,h3⟩:=c p op hp e
   obtain ⟨o2,h4,rfl,h6⟩:=c q oq hq a
   have e1:ρ' p=ρ1 (σ1.length+(p - U.length)):=by simp only [ρ'];rw [if_neg e]
   have e2:ρ' q=ρ1 (σ1.length+(q - U.length)):=by simp only [ρ'];rw [if_neg a]
   rw [e1,e2] at l
   have:=hs1.inj _ _ _ _ h1 h4 (g _ h3 u) (g _ h6 z) l
   omega
section
variable {P:Program} {U σ1:Heap} {Z:Rho} {f:FuncId}
theorem eu.frame {args1 args:List Value} {R1 R:Value->Heap->Prop} (h:eu P f args1 σ1 R1) (hf:FR σ1 U Z) (hπ:∀ k < σ1.length,(Z k).b < U.length) (hni:U.all (fun o=>!aU o)=true)
  (hl:args1.length=args.length) (ha:∀ (i:Nat) (h:i<args1.length) (h':i<args.length),jS σ1.length Z args1[i] args[i])
  (hR:∀ v1 σ1',R1 v1 σ1'->∃ news,σ1'=σ1++news/\news.all DZ=true/\R (ren (shf σ1.length U.length Z) v1) (U++news.map (CS (shf σ1.length U.length Z)))):eu P f args U R:=by
 intro G w0 V ar w hs c
 have d:=ZO hs hf
 have hl2:args.length=ar.size:=by simpa using c.1
 refine (h (own G V U) w (comp V Z) ar w d ⟨by simp;omega,fun i hi j=>?_⟩).mono ?_
 ·have h1:=ha i (oU hi) oO
  exact h1.trans (c.2 i (by simp;omega) j)
 ·rintro en w' ⟨ρ1',vr,v1,σ1',rfl,g,hv,hle,e,n⟩
  obtain ⟨news,rfl,hm,hr⟩:=hR v1 σ1' g
  obtain ⟨ρ',k1,k2,k3⟩:=ZP hs hni hm hπ e n
  refine ⟨ρ',vr,_,_,rfl,hr,?_,by simp,k1,k3⟩
  have l:=hv.mono (m:=(σ1++news).length) (ρ':=comp ρ' (shf σ1.length U.length Z)) (aD _) (fun k hk=>(k2 k hk).symm)
  refine GZ (fun i hi=>?_) l
  by_cases a:i < σ1.length
  ·rw [VL a];have:=hπ i a;simp;omega
  ·rw [VN a];simp only [bA] at hi;simp;omega
theorem Ev.nil {args:List Value} {v:Value} (h:Ev P f args [] v []) (hp:dN args=true) (hv:plain v=true) (hni:U.all (fun o=>!aU o)=true):Ev P f args U v U:=by
 refine eu.frame (Z:=fun i=>⟨i,0,0⟩) h (fun k o hk=>by simp at hk) (fun k hk=>by simp at hk) hni rfl (fun i hi hi'=>tq args.toArray (by simpa [xB] using hp) i (oU hi)) ?_
 rintro v1 s1 ⟨rfl,rfl⟩
 exact ⟨[],rfl,rfl,xO _ hv,by simp⟩
end
def pK (e:Env):Env->Prop
 |[]=>True
 |(t,v)::r=>Env.get e t=some v/\pK e r
theorem yX {e:Env}:∀ {e2:Env},pK e e2->∀ p ∈ e2,Env.get e p.1=some p.2
 |[],_,p,hp=>by simp at hp
 |(t,v)::r,h,p,hp=>by
  rcases List.mem_cons.1 hp with rfl|hp
  ·exact h.1
  ·exact yX h.2 p hp
def Fz (n:Nat) (Z:Rho) (e:Env):Env->Prop
 |[]=>True
 |(t,v2)::r=>(∃ v,Env.get e t=some v/\jS n Z v2 v)/\Fz n Z e r
theorem yY {n:Nat} {Z:Rho} {e:Env}:∀ {e2:Env},Fz n Z e e2->abL n Z e e2
 |[],_,p,hp=>by simp at hp
 |(t,v)::r,h,p,hp=>by
  rcases List.mem_cons.1 hp with rfl|hp
  ·exact h.1
  ·exact yY h.2 p hp
theorem yg {n:Nat} {Z:Rho} {e:Env} {t:Nat} {v:Value} (h:Env.get e t=some v) (hp:plain v=true):∃ u,Env.get e t=some u/\jS n Z v u:=⟨v,h,bF v hp⟩
theorem qG {n m:Nat} {Z:Rho} {e:Env} {t:Nat} {v:Value} (h:Env.get e t=some v) (hπ:∀ i<m,Z i=⟨i,0,0⟩) (hm:m<=n) (hc:closed m v=true) (ho:okV v=true):∃ u,Env.get e t=some u/\jS n Z v u :=
 ⟨v,h,qA hπ hm v hc ho⟩
theorem NG {n:Nat} {Z:Rho} {i j sz k:Nat} (hi:i<n) (hj:Z i=⟨j,0,0⟩):jS n Z (eP i sz k) (eP j sz k):=by
 cases k with
 |zero=>exact .nilSlice
 |succ k =>
  have:=VQ.gsliceG (q:=true) (n:=n) (V:=Z) i 0 (k+1) (k+1) (k+1) sz ⟨aD _,fun _=>rfl⟩ hi rfl
  simpa [eP,hj] using this
theorem kX {n:Nat} {Z:Rho} {i j sz k:Nat} (hi:i<n) (hj:Z i=⟨j,0,0⟩):jS n Z (.slice (some ⟨i,0,none⟩) k k) (eP j sz k):=by
 cases k with
 |zero=>exact .emptySlice _ _ _ _
 |succ k =>
  have:=VQ.sliceG (q:=true) (n:=n) (V:=Z) i 0 (k+1) (k+1) (k+1) sz (aD _) hi rfl
  simpa [eP,hj] using this
theorem jY {n:Nat} {Z:Rho} {i j k c c':Nat} (hi:i<n) (hj:Z i=⟨j,0,0⟩) (hc:c<=c'):jS n Z (.slice (some ⟨i,0,none⟩) k c) (.slice (some ⟨j,0,none⟩) k c'):=by
 have:=VQ.slice (q:=true) (n:=n) (V:=Z) i 0 k c c' hc hi
 simpa [hj] using this
theorem Yo {n:Nat} {Z:Rho} {e:Env} {t i j sz k:Nat} (h:Env.get e t=some (eP j sz k)) (hi:i<n) (hj:Z i=⟨j,0,0⟩):∃ u,Env.get e t=some u/\jS n Z (eP i sz k) u:=⟨_,h,NG hi hj⟩
def mP (n0:Nat) (U σ2:Heap) (e e2:Env):Prop :=
 (σ2=U/\pK e e2)\/((∀ (i:Nat) (o:aC),U[i]?=some o->fV U.length o)->∃ Z,ZK n0 Z U σ2/\abL σ2.length Z e e2)
section
variable {P:Program} {n0 N:Nat} {rd:Option Nat} {Q:Post} {e e2:Env} {mk:List Nat} {U σ2:Heap}
theorem afc {G:Nat->Prop} {w0:World} {ρ0:Rho} {A:Act} {w:World} (h:mP n0 U σ2 e e2) (hm:∀ i ∈ mk,i<n0) (hi:Inv n0 N G w0 ρ0 e mk U A w):Inv n0 N G w0 ρ0 e2 mk σ2 A w:=by
 obtain ⟨h0,V,ha,hs,ht,a,c⟩:=hi
 rcases h with ⟨rfl,he⟩|h
 ·exact ⟨h0,V,ha,hs,⟨ht.1,fun t v hv=>ht.2 t v (yX he _ (yR hv))⟩,a,c⟩
 ·obtain ⟨Z,hh,he⟩:=h fun i o hi=>jg (hs.obj i o hi)
  exact ⟨hh.le,comp V Z,fun i hi=>(comp_id (hh.id i hi)).trans (ha i hi),IW hh hs,RY he ht,by rw [a];congr 1;exact eI fun i hi=>by rw [comp_id (hh.id i (hm i hi))],fun i hi=>fe (hm i hi) hh.le⟩
theorem W_st (hm:∀ i ∈ mk,i<n0) (h:mP n0 U σ2 e e2) {c:Code} (k:bJ P n0 N rd c Q e2 mk σ2):bJ P n0 N rd c Q e mk U:=fun G w0 ρ0 A w hi=>k G w0 ρ0 A w (afc h hm hi)
theorem jq {ι:Type} (E:ι->Env) (S:ι->Heap) (μ:ι->Nat) (p:ι->Prop) (i0:ι) {body:Code} (hm:∀ i ∈ mk,i<n0) (h0:mP n0 U (S i0) e (E i0)) (hp:p i0)
  (round:∀ i,p i->bJ P n0 N rd body (fQ (fun e' mk' σ'=>mk'=mk/\∃ i',p i'/\μ i' < μ i/\mP n0 σ' (S i') e' (E i')) Q) (E i) mk (S i)):bJ P n0 N rd (.loop body) Q e mk U:=by
 refine VA (fun m e1 a σ1=>a=mk/\∃ i,p i/\μ i=m/\mP n0 σ1 (S i) e1 (E i)) (m0:=μ i0) ⟨rfl,i0,hp,rfl,h0⟩ ?_
 rintro m e1 a σ1 ⟨rfl,i,c,rfl,d⟩
 refine W_st hm d ((round i c).mono ?_)
 intro ex e' mk' σ' h
 cases ex with
 |normal =>
  obtain ⟨h1,i',h2,h3,h4⟩:=h
  exact ⟨μ i',h3,h1,i',h2,rfl,h4⟩
 |_=>exact h
theorem mP.same (h:pK e e2):mP n0 U U e e2:=.inl ⟨rfl,h⟩
def fD (n:Nat):Heap->Prop
 |[]=>True
 |o::r=>fV n o/\fD n r
theorem Ac {n:Nat}:∀ {U:Heap},fD n U->∀ (i:Nat) (o:aC),U[i]?=some o->fV n o
 |[],_,i,o,h=>by simp at h
 |x::r,hc,i,o,h=>by
  cases i with
  |zero=>simp at h;subst h;exact hc.1
  |succ i=>exact Ac hc.2 i o (oU h)
def fK (n:Nat) (l:List Nat):Rho:=fun i=>if i<n then ⟨i,0,0⟩ else match l[i - n]? with|some j=>⟨j,0,0⟩|none=>⟨i,0,0⟩
theorem gu {n i:Nat} {l:List Nat} (h:i<n):fK n l i=⟨i,0,0⟩:=by simp [fK,h]
def D5 (U:Heap) (n:Nat) (Z:Rho) (k:Nat):Heap->Prop
 |[]=>True
 |o::r=>xX U n Z (Z k) o/\D5 U n Z (k+1) r
theorem FB {U:Heap} {n:Nat} {Z:Rho}:∀ {news:Heap} {k:Nat},D5 U n Z k news->∀ (j:Nat) (o:aC),news[j]?=some o->xX U n Z (Z (k+j)) o
 |[],_,_,j,o,h=>by simp at h
 |x::r,k,hc,j,o,h=>by
  cases j with
  |zero=>simp at h;subst h;exact hc.1
  |succ j=>have:=FB hc.2 j o (oU h);rwa [show k+1+j=k+(j+1) from by omega] at this
def dF (n:Nat) (l:List Nat):Bool:=l.all (Nat.ble n) && decide l.Nodup
theorem Sv {σ0 news:Heap} (l:List Nat) (hn0:n0<=σ0.length) (hσ:U.take σ0.length=σ0) (hcl:fD σ0.length σ0) (hl:l.length=news.length) (hd:dF σ0.length l=true)
  (ho:D5 U (σ0.length+news.length) (fK σ0.length l) σ0.length news):ZK n0 (fK σ0.length l) U (σ0++news):=by
 simp only [dF,aE,dT,decide_eq_true_eq] at hd
 have e:∀ j (hj:j<l.length),fK σ0.length l (σ0.length+j)=⟨l[j],0,0⟩:=fun j hj=>by
  simp only [fK]
  rw [if_neg oO,show σ0.length+j - σ0.length=j from by omega,cA hj]
 refine ⟨by simp;omega,fun i hi=>gu oO,fun i o2 hi=>?_,fun i j oi oj hi hj _ _ a=>?_⟩
 ·rw [bA]
  by_cases f:i < σ0.length
  ·rw [bO f] at hi
   exact lZ (fun i hi=>gu hi) oO f (vk hσ hi) (Ac hcl i o2 hi)
  ·rw [bE oO] at hi
   have:=FB ho _ o2 hi
   rwa [show σ0.length+(i - σ0.length)=i from by omega] at this
 ·have h1:=aS hi
  have h2:=aS hj
  simp only [bA] at h1 h2
  have ge:∀ q,¬ q < σ0.length->q < σ0.length+news.length->∃ h:q - σ0.length<l.length,(fK σ0.length l q).b=l[q - σ0.length]/\σ0.length<=l[q - σ0.length]:=by
   intro q hq hq2
   have h:q - σ0.length<l.length:=oO
   have:=e (q - σ0.length) h
   rw [show σ0.length+(q - σ0.length)=q from by omega] at this
   exact ⟨h,by rw [this],cC (hd.1 _ (cP h))⟩
  by_cases d:i < σ0.length <;> by_cases c:j < σ0.length
  ·rw [gu d,gu c] at a;exact a
  ·obtain ⟨h,e1,e2⟩:=ge j c h2
   rw [gu d,e1] at a;simp only at a;omega
  ·obtain ⟨h,e1,e2⟩:=ge i d h1
   rw [gu c,e1] at a;simp only at a;omega
  ·obtain ⟨h,e1,e2⟩:=ge i d h1
   obtain ⟨h',g,e2'⟩:=ge j c h2
   rw [e1,g] at a
   have:=(List.getElem_inj hd.2).1 a
   omega
theorem mP.src (σ0 news:Heap) (l:List Nat) (hn0:n0<=σ0.length) (hσ:U.take σ0.length=σ0) (hcl:fD σ0.length σ0) (hl:l.length=news.length) (hd:dF σ0.length l=true)
  (ho:D5 U (σ0.length+news.length) (fK σ0.length l) σ0.length news) (he:Fz (σ0.length+news.length) (fK σ0.length l) e e2):mP n0 U (σ0++news) e e2 :=
 .inr fun _=>⟨_,Sv l hn0 hσ hcl hl hd ho,by rw [bA];exact yY he⟩
theorem Pv {U:Heap} {n:Nat} {Z:Rho} {cs:List Value} {t:TypeId} {j k:Nat} (hk:Z k=⟨j,0,0⟩) (h:U[j]?=some (.gr cs t)) (hp:dN cs=true):xX U n Z (Z k) (.gr cs t) :=
 .inr ⟨by rw [hk],cs,by rw [hk];exact h,aD _,fun i hi _=>kZ cs hp i hi⟩
theorem Sz {U:Heap} {n:Nat} {Z:Rho} {t:TypeId} {p:Pl}:xX U n Z p (.gr [] t):=.inl rfl
theorem wM {U:Heap} {n:Nat} {Z:Rho} {cs:List Value} {j k:Nat} (hk:Z k=⟨j,0,0⟩) (h:U[j]?=some (.rw cs)\/∃ t,U[j]?=some (.gr cs t)) (hp:dN cs=true):xX U n Z (Z k) (.rw cs) :=
 .inr ⟨by rw [hk],cs,by rw [hk];exact h,aD _,fun i hi _=>kZ cs hp i hi⟩
end
theorem aW.src {σin U:Heap} {v v2:Value} (news:Heap) (l:List Nat) (hσ:U.take σin.length=σin) (hl:l.length=news.length) (hd:dF σin.length l=true)
  (ho:D5 U (σin.length+news.length) (fK σin.length l) σin.length news) (hv:jS (σin.length+news.length) (fK σin.length l) v2 v):aW σin U v v2 (σin++news):=by
 refine Or.inr fun a=>⟨_,Sv l (aD _) hσ ?_ hl hd ho,by rw [bA];exact hv⟩
 have:∀ s:Heap,(∀ o ∈ s,fV σin.length o)->fD σin.length s:=by
  intro s
  induction s with
  |nil=>intro _;trivial
  |cons x r ih=>intro h;exact ⟨h x oS,ih fun o ho=>h o (by simp [ho])⟩
 exact this σin fun o ho=>by
  obtain ⟨i,hi⟩:=List.mem_iff_getElem?.1 ho
  exact a i o hi
theorem vJ {α:Type} (f:α->Value) (h:∀ x,plain (f x)=true):∀ l:List α,dN (l.map f)=true
 |[]=>rfl
 |x::l=>by simp [dN,h x,vJ f h l]
theorem pX:∀ a b:List Value,dN (a++b)=(dN a && dN b)
 |[],b=>by simp [dN]
 |x::a,b=>by simp [dN,pX a b,Bool.and_assoc]
theorem aY {n:Nat}:∀ {l:List Value},dN l=true->dU n l=true/\okL l=true
 |[],_=>⟨rfl,rfl⟩
 |v::l,h=>by
  simp only [dN,aE] at h
  obtain ⟨h1,h2⟩:=aY (n:=n) h.2
  have hv:=bF (q:=false) (n:=0) (V:=fun _=>⟨0,0,0⟩) v h.1
  exact ⟨by simp [dU,Ph h.1,h1],by simp [okL,Nu hv,h2]⟩
def lu:List Nat->List Value->Env->Env
 |p::ps,v::vs,e=>lu ps vs ((p,v)::e)
 |_,_,e=>e
theorem G6 {n:Nat} {V:Rho} {N:Nat}:∀ (ps:List Nat) (vs rs:List Value) (e:Env) (tmps:Array Value),Fa n V N e tmps->lU n V vs.toArray rs.toArray->ps.all (Nat.blt · N)=true ->
  Fa n V N (lu ps vs e) ((ps.zip rs).foldl (fun t x=>t.setIfInBounds x.1 x.2) tmps)
 |[],vs,rs,e,tmps,h,_,_=>by simpa [lu] using h
 |p::ps,[],[],e,tmps,h,_,_=>by simpa [lu] using h
 |p::ps,[],r::rs,e,tmps,_,hr,_=>by have:=hr.1;simp at this
 |p::ps,v::vs,[],e,tmps,_,hr,_=>by have:=hr.1;simp at this
 |p::ps,v::vs,r::rs,e,tmps,h,hr,hp=>by
  simp only [List.all_cons,aE,bX] at hp
  have h0:=hr.2 0 oS oS
  simp only [lu,List.zip_cons_cons,List.foldl_cons]
  refine G6 ps vs rs _ _ (RP h hp.1 h0) ⟨by have:=hr.1;simpa using this,fun i hi a=>?_⟩ hp.2
  have:=hr.2 (i+1) (oU hi) (oU a)
  simpa using this
section
variable {P:Program} {n0 N:Nat} {rd:Option Nat} {Q:Post} {e:Env} {mk:List Nat} {U:Heap} {K:Env->List Nat->Heap->Prop} {all rest:List Oper}
def kV (st:LoopState) (pend:Option Code):aC->aC
 |.loop _ _ N e ps a b=>.loop st pend N e ps a b
 |o=>o
def uf:aC->Bool
 |.loop ..=>true
 |_=>false
theorem vO {G:Nat->Prop} {w0 w:World} {V:Rho} (hs:Sim G w0 V U w) {l:Nat} {o:aC} (hl:U[l]?=some o) (hlo:uf o=true) :
  ∃ r:Loop,w.heap[(V l).b]?=some (.loop r)/\∀ st pend,Sim G w0 V (U.set l (kV st pend o)) (w.putObj (V l).b (.loop { r with state:=st,pending:=pend })):=by
 cases o with
 |loop st0 p0 N e ps as bd =>
  obtain ⟨g1,r,g2,g3,g4,g5,g6,g7,g8⟩:=hs.obj l _ hl
  refine ⟨r,g2,fun st pend=>?_⟩
  refine wH hs hl trivial (rQ w _ _) ?_ ?_
  ·refine ⟨g1,{ r with state:=st,pending:=pend },?_,rfl,rfl,g5,g6,g7,g8⟩
   have:=block_lt g2
   simp [World.putObj,this]
  ·intro j k seen hj
   left
   intro a
   obtain ⟨_,_,ents,clock,sb,_,g6,_⟩:=hs.obj j _ hj
   rw [a,g2] at g6;simp at g6
 |_=>simp [uf] at hlo
def dW (P:Program) (n0 N:Nat) (all rest:List Oper) (K:Env->List Nat->Heap->Prop) (d l:Nat) (e:Env) (mk:List Nat):Post
 |.normal,_,_,σ2=>∃ o,σ2[l]?=some o/\uf o=true/\dA P n0 N none all rest K ((d,.bool true)::e) mk (σ2.set l (kV .ready none o))
 |.ret,_,_,σ2=>∃ o,σ2[l]?=some o/\uf o=true/\dA P n0 N none all rest K ((d,.bool false)::e) mk (σ2.set l (kV .done (some .ret) o))
 |.exit id,_,_,σ2=>∃ o,σ2[l]?=some o/\uf o=true/\dA P n0 N none all rest K ((d,.bool false)::e) mk (σ2.set l (kV .done (some (.exit id)) o))
 |_,_,_,_=>False
def dR (P:Program) (n1 N':Nat) (l:Nat) (body:Code) (QB:Post):Post
 |.normal,e1,mk1,σ1=>∃ N2 e2 ps2 as2 bd2 pend,σ1[l]?=some (.loop .ready pend N2 e2 ps2 as2 bd2)/\bJ P n1 N' (some l) body QB e1 mk1 (σ1.set l (.loop .busy pend N2 e2 ps2 as2 bd2))
 |_,_,_,_=>False
theorem FC {g:Option (Nat×Bool)} {d l N':Nat} {ty:TypeId} {pos:String} {after:Array Edge} {x:Operand} {ls:List Operand} {ts:Array TypeId} {vs:List Value} {e':Env} {ps:List Nat} {assign body:Code} {pend:Option Code}
  (hx:aT e x=some (.func (.yield l) #[] #[])) (hl:wI e ls=some vs) (hσ:U[l]?=some (.loop .ready pend N' e' ps.toArray assign body)) (hlen:Nat.beq vs.length ps.length=true) (hps:ps.all (Nat.blt · N')=true)
  (hd:Nat.blt d N=true) (hw:∀ T n V A,Ip T n V N e mk A->Region.wanted ⟨some d,.call { callee:=.value x,args:=ls.toArray,argTypes:=ts },ty,pos,after,g⟩ (yielded all.toArray A.tmps)=true)
  (h:bJ P U.length N' (some l) assign (dR P U.length N' l body (dW P n0 N all rest K d l e mk)) (lu ps vs e') [] U) :
  dA P n0 N none all (⟨some d,.call { callee:=.value x,args:=ls.toArray,argTypes:=ts },ty,pos,after,g⟩::rest) K e mk U:=by
 intro G w0 ρ0 A w hi Q' hQ
 obtain ⟨h0,V,Q,hs,k⟩:=hi
 simp only [wpL]
 rw [if_pos (hw _ _ _ _ k)]
 have hlen':=aM hlen
 obtain ⟨g1,r,g2,g3,g4,g5,g6,g7,g8⟩:=hs.obj l _ hσ
 have E:=aS hσ
 have J:=qx k hx
 have D:A.eval x=.func (.yield (V l).b) #[] #[]:=by
  generalize hr:A.eval x=v at J
  cases J;rfl
 have I:=xW (A:=A) (fun y _ u hu=>qx k hu) hl
 have Vv:(ls.map A.eval).length=ps.length:=by have:=I.1;simp at this ⊢;omega
 refine ⟨fun f _=>lV _ _ _,?_⟩
 rw [Oper.semAt_eq _ _ _ oS]
 have B:(execOp A.eval ⟨some d,.call { callee:=.value x,args:=ls.toArray,argTypes:=ts },ty,pos,after,g⟩).run P w =
   .ok (.round (V l).b r.fn ((ps.zip (ls.map A.eval)).foldl (fun t x=>t.setIfInBounds x.1 x.2) r.tmps) assign body) w:=by
  have hz:(ps.toArray.zip (ls.map A.eval).toArray)=(ps.zip (ls.map A.eval)).toArray:=oS
  simp [execOp,resolve,D,Deferred.ofValue,invoke,Instr.yield,run_getLoop g2,g5,g6,g7,Vv]
 rw [B,Oper.uponIn_round]
 refine ⟨fun h=>by rw [A8] at h;simp at h,?_⟩
 refine roundIn_of_wpIn (lV _ _ _) ?_
 have s:(fen ρ0 none).inRound (V l).b=fen (xC U.length V []) (some l):=by simp only [fen,uO E]
 rw [s]
 have M:=G6 ps vs (ls.map A.eval) e' r.tmps g8 I hps
 have z:Inv U.length N' G w0 (xC U.length V []) (lu ps vs e') [] U { tmps:=(ps.zip (ls.map A.eval)).foldl (fun t x=>t.setIfInBounds x.1 x.2) r.tmps,defers:=[] } w :=
  ⟨aD _,V,fun _ h=>(uO h).symm,hs,M,by rw [Ce];rfl,fun i hi=>by simp at hi⟩
 refine wpIn_mono (h G w0 _ _ w z) ?_
 rintro ex A1 w1 ⟨e1,a0,σ1,q,k0,ρ1,H,k2,k3⟩
 have k1:∀ i < U.length,ρ1 i=V i:=fun i hi=>(H i hi).trans (uO hi)
 cases ex with
 |normal =>
  obtain ⟨N2,e2,Y,as2,S,m,q1,q2⟩:=q
  obtain ⟨r1,b1,b2⟩:=vO k2 q1 rfl
  have W:r1.state=.ready:=by
   obtain ⟨_,r',c2,c3,_⟩:=k2.obj l _ q1
   rw [b1] at c2;cases c2;exact c3
  have R:r1.pending=m:=by
   obtain ⟨_,r',c2,c3,c4,_⟩:=k2.obj l _ q1
   rw [b1] at c2;cases c2;exact c4
  have L:(ρ1 l).b=(V l).b:=by rw [k1 l E]
  refine ⟨w1.putObj (V l).b (.loop { r1 with state:=.busy }),run_beginRound (by rw [<- L];exact b1) W,?_⟩
  have C:=b2 .busy m
  rw [L] at C
  have e9:({ r1 with state:=.busy,pending:=m }:Loop)={ r1 with state:=.busy }:=by rw [<- R]
  rw [e9] at C
  have j:Inv U.length N' G w0 (xC U.length V []) e1 a0 (σ1.set l (.loop .busy m N2 e2 Y as2 S)) A1 (w1.putObj (V l).b (.loop { r1 with state:=.busy })) :=
   ⟨by simpa using k0,ρ1,H,C,by simpa using k3⟩
  refine wpIn_mono (q2 G w0 _ A1 _ j) ?_
  rintro Uq A2 w2 ⟨e3,mk3,σ3,q3,m0,ρ3,X,m2,m3⟩
  have m1:∀ i < U.length,ρ3 i=V i:=fun i hi=>(X i hi).trans (uO hi)
  have p:∀ (a:Option Code) (b:Bool) (o:aC),σ3[l]?=some o->uf o=true->a.isNone=b ->
    dA P n0 N none all rest K ((d,.bool b)::e) mk (σ3.set l (kV (if b then .ready else .done) a o)) ->
    ∃ v w',(Instr.endRound (V l).b a).run P w2=.ok v w'/\wpL (fen ρ0 none) 0 P all.toArray Q' rest (A.put (some d) v) w':=by
   intro a b o ZZ O hj hk
   obtain ⟨r3,d1,d2⟩:=vO m2 ZZ O
   have c:(ρ3 l).b=(V l).b:=by rw [m1 l E]
   refine ⟨.bool b,w2.putObj (V l).b (.loop { r3 with state:=if b then .ready else .done,pending:=a }),?_,?_⟩
   ·rw [c] at d1
    have:=run_endRound (P:=P) a d1
    rw [hj] at this
    exact this
   ·have F:=d2 (if b then .ready else .done) a
    rw [c] at F
    refine hk G w0 ρ0 _ _ ⟨by simp;omega,ρ3,fun i hi=>(m1 i oO).trans (Q i hi),F,?_⟩ Q' hQ
    rw [dk]
    exact xR (xQ k m0 m1) (by simpa [bX] using hd) (.bool b)
  cases Uq with
  |normal =>
   obtain ⟨o,p1,p2,p3⟩:=q3
   exact p none true o p1 p2 rfl p3
  |ret =>
   obtain ⟨o,p1,p2,p3⟩:=q3
   exact p (some .ret) false o p1 p2 rfl p3
  |exit id =>
   obtain ⟨o,p1,p2,p3⟩:=q3
   exact p (some (.exit id)) false o p1 p2 rfl p3
  |_=>exact q3.elim
 |_=>exact q.elim
theorem yh {d l N':Nat} {ty:TypeId} {pos:String} {after:Array Edge} {x:Operand} {ls:List Operand} {ts:Array TypeId} {vs:List Value} {e':Env} {ps:List Nat} {assign body:Code} {pend:Option Code}
  (hx:aT e x=some (.func (.yield l) #[] #[])) (hl:wI e ls=some vs) (hσ:U[l]?=some (.loop .ready pend N' e' ps.toArray assign body)) (hlen:Nat.beq vs.length ps.length=true) (hps:ps.all (Nat.blt · N')=true)
  (hd:Nat.blt d N=true)
  (h:bJ P U.length N' (some l) assign (dR P U.length N' l body (dW P n0 N all rest K d l e mk)) (lu ps vs e') [] U) :
  dA P n0 N none all (⟨some d,.call { callee:=.value x,args:=ls.toArray,argTypes:=ts },ty,pos,after,none⟩::rest) K e mk U :=
 FC hx hl hσ hlen hps hd (fun _ _ _ _ _=>rfl) h
def JH (P:Program) (n0 N:Nat) (Q:Post) (e:Env) (mk:List Nat) (l:Nat) (σ2:Heap):Prop :=
 ∃ st pend N2 e2 ps2 as2 bd2,σ2[l]?=some (.loop st pend N2 e2 ps2 as2 bd2)/\st ≠ .busy /\
  (match pend with
   |none=>Q .normal e mk (σ2.set l .dead)
   |some c=>bJ P n0 N none c Q e mk (σ2.set l .dead))
theorem G7 {g:Operand} {ps:Array Tmp} {assign body:Code} {f:FuncId} {p q:List Value} [hc:GoFn P f] (hg:aT e g=some (.func (.func f) p.toArray q.toArray))
  (hcall:eu P f (p++[.func (.yield (U.length+1)) #[] #[]]++q) (U++[.dfr,.loop .ready none N e ps assign body]) (fun _ σ2=>JH P n0 N Q e (U.length::mk) (U.length+1) σ2)) :
  bJ P n0 N none (.rangeFunc g ps assign body) Q e mk U:=by
 intro G w0 ρ0 A w hi
 obtain ⟨h0,V,z,hs,r⟩:=hi
 have x:=qx r hg
 generalize hge:A.eval g=gv at x
 cases x with
 |func _ _ p' _ q' e1 e2 e3 e4 =>
  refine wpIn_rangeFunc fun fn _=>?_
  have hro:(fen ρ0 none).round=none:=rfl
  rw [hro]
  have F:=kW hs (.deferred (some [])) .dfr 0 ⟨fun hg=>by have h1:=(hs.fgn _ hg).1;have:=hs.size;simp only at h1;omega,iC w _⟩
  have B:(w.alloc (.deferred (some []))).heap.size=w.heap.size+1:=oS
  have D:Fa (U++[aC.dfr]).length (upd V U.length w.heap.size 0) N e A.tmps:=xP r.tmps oS fun i hi=>iT hi
  let r0:Loop:={ state:=.ready,pending:=none,fn,tmps:=A.tmps,params:=ps,assign,body,defers:=w.heap.size }
  have l:=kW F (.loop r0) (.loop .ready none N e ps assign body) 0 ⟨fun hg=>by have h1:=(hs.fgn _ hg).1;have:=hs.size;simp only at h1;omega,r0,iC _ _,rfl,rfl,rfl,rfl,rfl,xP D (Nat.le_succ _) fun i hi=>iT hi⟩
  rw [B] at l
  simp only [bA,List.length_singleton,cD,List.singleton_append] at l
  have hρ:∀ i < U.length,upd (upd V U.length w.heap.size 0) (U.length+1) (w.heap.size+1) 0 i=V i:=fun i hi=>by rw [iT oO,iT hi]
  have u:upd (upd V U.length w.heap.size 0) (U.length+1) (w.heap.size+1) 0 (U.length+1)=⟨w.heap.size+1,0,0⟩:=oh
  have E:upd (upd V U.length w.heap.size 0) (U.length+1) (w.heap.size+1) 0 U.length=⟨w.heap.size,0,0⟩:=by rw [iT oO];exact oh
  refine ⟨w.heap.size+1,[{ target:=.collected w.heap.size,args:=#[] }],(w.alloc (.deferred (some []))).alloc (.loop r0),⟨.fn (.func f) q',p'++#[.func (.yield (w.heap.size+1)) #[] #[]]⟩,
   (w.alloc (.deferred (some []))).alloc (.loop r0),f,p'++#[.func (.yield (w.heap.size+1)) #[] #[]]++q',(w.alloc (.deferred (some []))).alloc (.loop r0),?_,?_,?_,?_,fun h=>by rw [A8] at h;simp at h,?_⟩
  ·exact run_enterLoop_outer _ _ _ _ _
  ·simp only [resolve,hge]
   simp [Deferred.ofValue,Act.eval]
  ·intro f' _;exact lV _ _ _
  ·simp [invoke,hc.run]
  ·have k:lU (U++[aC.dfr,aC.loop .ready none N e ps assign body]).length (upd (upd V U.length w.heap.size 0) (U.length+1) (w.heap.size+1) 0) (p++[Value.func (.yield (U.length+1)) #[] #[]]++q).toArray (p'++#[.func (.yield (w.heap.size+1)) #[] #[]]++q'):=by
    have a1:lU U.length V p.toArray p':=⟨e1,e3⟩
    have a2:lU U.length V q.toArray q':=⟨e2,e4⟩
    refine mM (l1:=p++[_]) (mM (xU a1 oS hρ) ⟨rfl,fun i hi hi'=>?_⟩) (xU a2 oS hρ)
    have:i=0:=by simp at hi;exact hi
    subst this
    have:=VQ.yield (q:=false) (n:=(U++[aC.dfr,aC.loop .ready none N e ps assign body]).length) (V:=upd (upd V U.length w.heap.size 0) (U.length+1) (w.heap.size+1) 0) (U.length+1) oS
    rw [u] at this
    exact this
   refine (hcall G w0 _ _ _ l k).mono ?_
   rintro en w' ⟨ρ',vr,v,σ2,rfl,⟨st,o,N2,e2',ps2,as2,bd2,q1,q2,q3⟩,hv,C,a,s⟩
   simp only [bA,dE,dx,aR] at C a
   obtain ⟨r2,b1,b2⟩:=vO s q1 rfl
   have y:(ρ' (U.length+1)).b=w.heap.size+1:=by rw [a _ oO,u]
   obtain ⟨_,r',c2,c3,c4,_⟩:=s.obj _ _ q1
   rw [b1] at c2;cases c2
   rw [y] at b1
   refine ⟨r2.pending,_,run_endLoop b1 (by rw [c3];exact q2),?_⟩
   have t:=Jq (b2 .exhausted r2.pending) (U.length+1)
   rw [cN,y] at t
   have d:Inv n0 N G w0 ρ0 e (U.length::mk) (σ2.set (U.length+1) .dead) { A with defers:={ target:=.collected w.heap.size,args:=#[] }::A.defers } (w'.putObj (w.heap.size+1) (.loop { r2 with state:=.exhausted })):=by
    refine ⟨by simp;omega,ρ',fun i hi=>(a i oO).trans ((hρ i oO).trans (z i hi)),t,?_⟩
    have j:=xQ r (m:=(σ2.set (U.length+1) .dead).length) (ρ':=ρ') (by simp;omega) fun i hi=>(a i oO).trans (hρ i hi)
    refine ⟨j.tmps,?_,fun i hi=>?_⟩
    ·simp only [cG]
     rw [a U.length oO,E]
     rw [List.cons_append]
     congr 1
     exact j.mks
    ·rcases List.mem_cons.1 hi with rfl|hi
     ·simp;omega
     ·exact j.mkb i hi
   rw [c4] at d ⊢
   cases o with
   |none=>exact ⟨e,_,_,q3,d⟩
   |some c=>exact q3 G w0 ρ0 _ _ d
end
def dD (U:Heap) (b:Nat) (cs:List Value):Prop:=U[b]?=some (.ro cs)\/U[b]?=some (.rw cs)\/∃ t,U[b]?=some (.gr cs t)
theorem wO {U:Heap} {b:Nat} {cs:List Value} (h:dD U b cs):aK U b 0 cs.length=some cs:=by
 have e:cs.length.ble cs.length=true:=fc (aD _)
 rcases h with h|h|⟨t,h⟩ <;> simp [aK,h,e]
def JI (U:Heap):List (List Value)->List Nat->Prop
 |[],[]=>True
 |c::cs,b::bs=>dD U b c/\JI U cs bs
 |_,_=>False
def bsR (bs:List Nat):Rho:=fun k=>match bs[k]? with|some b=>⟨b,0,0⟩|none=>⟨k,0,0⟩
theorem vP {U:Heap}:∀ {cs:List (List Value)} {bs:List Nat},JI U cs bs->∀ (k:Nat) (c:List Value),cs[k]?=some c->∃ b,bs[k]?=some b/\dD U b c
 |[],[],_,k,c,hk=>by simp at hk
 |c0::cs,b0::bs,h,k,c,hk=>by
  cases k with
  |zero=>simp at hk;subst hk;exact ⟨b0,rfl,h.1⟩
  |succ k=>exact vP h.2 k c (oU hk)
 |[],_::_,h,_,_,_=>h.elim
 |_::_,[],h,_,_,_=>h.elim
def AS (n:Nat) (Z:Rho):List Value->List Value->Prop
 |[],[]=>True
 |a::as,b::bs=>jS n Z a b/\AS n Z as bs
 |_,_=>False
theorem Px {n:Nat} {Z:Rho}:∀ {as bs:List Value},AS n Z as bs->as.length=bs.length/\∀ (i:Nat) (h:i<as.length) (h':i<bs.length),jS n Z as[i] bs[i]
 |[],[],_=>⟨rfl,fun i h=>by simp at h⟩
 |a::as,b::bs,h=>by
  obtain ⟨h1,h2⟩:=Px h.2
  refine ⟨by simp [h1],fun i hi c=>?_⟩
  cases i with
  |zero=>exact h.1
  |succ i=>exact h2 i (oU hi) (oU c)
 |[],_::_,h=>h.elim
 |_::_,[],h=>h.elim
section
variable {P:Program} {U:Heap} {f:FuncId}
theorem Ev.arrs {args1 args:List Value} {v:Value} (css:List (List Value)) (bs:List Nat) (h:Ev P f args1 (css.map .ro) v (css.map .ro)) (hb:JI U css bs) (ha:AS css.length (bsR bs) args1 args)
  (hpl:css.all dN=true) (hv:plain v=true) (hni:U.all (fun o=>!aU o)=true):Ev P f args U v U:=by
 obtain ⟨h1,h2⟩:=Px ha
 refine eu.frame (Z:=bsR bs) h (fun k o hk=>?_) (fun k hk=>?_) hni h1 (oU h2) ?_
 ·rw [cJ] at hk
  obtain ⟨c,hc,rfl⟩:=Option.map_eq_some_iff.1 hk
  obtain ⟨b,g1,g2⟩:=vP hb k c hc
  refine .inl ⟨c,rfl,.inr ⟨c,?_,fun j hj _=>kZ c (List.all_eq_true.1 hpl c (eh hc)) j hj⟩⟩
  simp only [bsR,g1]
  exact wO g2
 ·simp only [cU] at hk
  obtain ⟨b,g1,g2⟩:=vP hb k css[k] (by simp [hk])
  simp only [bsR,g1]
  rcases g2 with g2|g2|⟨t,g2⟩ <;> exact aS g2
 ·rintro v1 s1 ⟨rfl,rfl⟩
  exact ⟨[],by simp,rfl,xO _ hv,by simp⟩
end
section
variable {P:Program} {rd:Option Nat} {ty:TypeId} {e:Env} {U:Heap} {x y:Operand}
theorem Ad {t len el size bytes i o:Nat} {agg:Bool} {z:Value} {kd:IntKind} {k:Nat} [ha:Ar P t len el] [ht:Ty P el size agg z bytes] (h:aT e x=some (.pointer (some ⟨i,o,none⟩))) (hy:aT e y=some (.int kd (k:Nat)))
  (h1:k<len):bY P rd (.indexAddr t x y) ty e U (.pointer (some ⟨i,o+k*size,none⟩)) U:=by
 have:=ng (P:=P) (rd:=rd) (ty:=ty) (U:=U) (t:=t) (ha:=ha) (ht:=ht) h hy oO oO
 simpa using this
theorem iE {t el size bytes i o n c:Nat} {agg:Bool} {z:Value} {kd:IntKind} {k:Nat} [ha:Sl P t el] [ht:Ty P el size agg z bytes] (h:aT e x=some (.slice (some ⟨i,o,none⟩) n c)) (hy:aT e y=some (.int kd (k:Nat)))
  (h1:k<n):bY P rd (.indexAddr t x y) ty e U (.pointer (some ⟨i,o+k*size,none⟩)) U:=by
 have:=pJ (P:=P) (rd:=rd) (ty:=ty) (U:=U) (t:=t) (ha:=ha) (ht:=ht) h hy oO oO
 simpa using this
theorem D6 {m n:Int} {t t':TypeId} (hx:aT e x=some (.int .i64 m)) (hy:aT e y=some (.int .i64 n)) (h:n ≠ 0) (h1:-9223372036854775808<=m.tdiv n) (h2:m.tdiv n<=9223372036854775807) :
  bY P rd (.binOp .quo t x y t') ty e U (.int .i64 (m.tdiv n)) U:=by
 have:=abJ (P:=P) (rd:=rd) (ty:=ty) (U:=U) (t:=t) (t':=t') hx hy h
 rwa [wrap64 h1 h2] at this
end
theorem yj {U:Heap} {n m:Nat} {Z:Rho} {cs:List Value} {j k:Nat} (hk:Z k=⟨j,0,0⟩) (h:U[j]?=some (.rw cs)\/∃ t,U[j]?=some (.gr cs t)) (hπ:∀ i<m,Z i=⟨i,0,0⟩) (hnm:m<=n) (hc:dU m cs=true) (ho:okL cs=true):xX U n Z (Z k) (.rw cs) :=
 .inr ⟨by rw [hk],cs,by rw [hk];exact h,aD _,fun i hi _=>rV hπ hnm cs hc ho i hi⟩
def EnvC (n:Nat) (e:Env):Env->Prop
 |[]=>True
 |(t,v)::r=>(Env.get e t=some v/\closed n v=true/\okV v=true)/\EnvC n e r
theorem mP.drop {n0:Nat} {e e2:Env} (σ0 junk:Heap) (hn0:n0<=σ0.length) (hcl:fD σ0.length σ0) (he:EnvC σ0.length e e2):mP n0 (σ0++junk) σ0 e e2:=by
 have hr:∀ e2:Env,EnvC σ0.length e e2->Fz (σ0.length+0) (fK σ0.length []) e e2:=by
  intro e2
  induction e2 with
  |nil=>intro _;trivial
  |cons p r ih =>
   intro h
   exact ⟨qG h.1.1 (fun i hi=>gu hi) (aD _) h.1.2.1 h.1.2.2,ih h.2⟩
 have:=mP.src (n0:=n0) (U:=σ0++junk) (e:=e) (e2:=e2) σ0 [] [] hn0 oS hcl rfl rfl trivial (hr e2 he)
 simpa using this
section
variable {P:Program} {U:Heap} {f:FuncId}
theorem Ev.arrsN {args1 args:List Value} {v1 v:Value} {news news':Heap} (css:List (List Value)) (bs:List Nat) (h:Ev P f args1 (css.map .ro) v1 (css.map .ro++news)) (hb:JI U css bs) (ha:AS css.length (bsR bs) args1 args)
  (hpl:css.all dN=true) (hm:news.all DZ=true) (hv:ren (shf css.length U.length (bsR bs)) v1=v) (hn:news.map (CS (shf css.length U.length (bsR bs)))=news') (hni:U.all (fun o=>!aU o)=true):Ev P f args U v (U++news'):=by
 obtain ⟨h1,h2⟩:=Px ha
 subst hv hn
 refine eu.frame (Z:=bsR bs) h (fun k o hk=>?_) (fun k hk=>?_) hni h1 (oU h2) ?_
 ·rw [cJ] at hk
  obtain ⟨c,hc,rfl⟩:=Option.map_eq_some_iff.1 hk
  obtain ⟨b,g1,g2⟩:=vP hb k c hc
  refine .inl ⟨c,rfl,.inr ⟨c,?_,fun j hj _=>kZ c (List.all_eq_true.1 hpl c (eh hc)) j hj⟩⟩
  simp only [bsR,g1]
  exact wO g2
 ·simp only [cU] at hk
  obtain ⟨b,g1,g2⟩:=vP hb k css[k] (by simp [hk])
  simp only [bsR,g1]
  rcases g2 with g2|g2|⟨t,g2⟩ <;> exact aS g2
 ·rintro v2 s1 ⟨rfl,rfl⟩
  exact ⟨news,rfl,hm,by simp⟩
end
def gy (n:Nat) (Z:Rho) (c c':List Value):Prop:=c.length=c'.length/\∀ (j:Nat) (h:j<c.length) (h':j<c'.length),jS n Z c[j] c'[j]
def Yp (U:Heap) (n:Nat) (Z:Rho):List (List Value)->List (Nat×List Value)->Prop
 |[],[]=>True
 |c::cs,(b,c')::bs=>(dD U b c'/\gy n Z c c')/\Yp U n Z cs bs
 |_,_=>False
theorem FD {U:Heap} {n:Nat} {Z:Rho}:∀ {cs:List (List Value)} {bs:List (Nat×List Value)},Yp U n Z cs bs->∀ (k:Nat) (c:List Value),cs[k]?=some c->∃ p,bs[k]?=some p/\dD U p.1 p.2/\gy n Z c p.2
 |[],[],_,k,c,hk=>by simp at hk
 |c0::cs,(b0,c0')::bs,h,k,c,hk=>by
  cases k with
  |zero=>simp at hk;subst hk;exact ⟨_,rfl,h.1⟩
  |succ k=>exact FD h.2 k c (oU hk)
 |[],_::_,h,_,_,_=>h.elim
 |_::_,[],h,_,_,_=>h.elim
section
variable {P:Program} {U:Heap} {f:FuncId}
theorem Ev.arrsR {args1 args:List Value} {v1 v:Value} {news news':Heap} (css:List (List Value)) (bs:List (Nat×List Value)) (h:Ev P f args1 (css.map .ro) v1 (css.map .ro++news))
  (hb:Yp U css.length (bsR (bs.map (·.1))) css bs) (ha:AS css.length (bsR (bs.map (·.1))) args1 args) (hm:news.all DZ=true) (hv:ren (shf css.length U.length (bsR (bs.map (·.1)))) v1=v)
  (hn:news.map (CS (shf css.length U.length (bsR (bs.map (·.1)))))=news') (hni:U.all (fun o=>!aU o)=true):Ev P f args U v (U++news'):=by
 obtain ⟨h1,h2⟩:=Px ha
 subst hv hn
 refine eu.frame (Z:=bsR (bs.map (·.1))) h (fun k o hk=>?_) (fun k hk=>?_) hni h1 (oU h2) ?_
 ·rw [cJ] at hk
  obtain ⟨c,hc,rfl⟩:=Option.map_eq_some_iff.1 hk
  obtain ⟨p,g1,g2,g3⟩:=FD hb k c hc
  refine .inl ⟨c,rfl,.inr ⟨p.2,?_,by simpa using g3.2⟩⟩
  simp only [bsR,cJ,g1,du,g3.1]
  exact wO g2
 ·simp only [cU] at hk
  obtain ⟨p,g1,g2,_⟩:=FD hb k css[k] (by simp [hk])
  simp only [bsR,cJ,g1,du]
  rcases g2 with g2|g2|⟨t,g2⟩ <;> exact aS g2
 ·rintro v2 s1 ⟨rfl,rfl⟩
  exact ⟨news,rfl,hm,by simp⟩
theorem Ev.arrsP {args1 args:List Value} {v:Value} (css:List (List Value)) (bs:List (Nat×List Value)) (h:Ev P f args1 (css.map .ro) v (css.map .ro))
  (hb:Yp U css.length (bsR (bs.map (·.1))) css bs) (ha:AS css.length (bsR (bs.map (·.1))) args1 args) (hv:plain v=true) (hni:U.all (fun o=>!aU o)=true):Ev P f args U v U:=by
 have:=Ev.arrsR (news:=[]) (news':=[]) css bs (oU h) hb ha rfl (xO v hv) rfl hni
 simpa using this
end
section ops
variable {P:Program} {rd:Option Nat} {ty:TypeId} {e:Env} {U:Heap} {x y a b:Operand} {v u:Value}
theorem SA {t el size bytes i o n c j oj m c2:Nat} {agg:Bool} {z:Value} {news:List Value} {σ':Heap} [ha:Sl P t el] [ht:Ty P el size agg z bytes] (hx:aT e x=some (.slice (some ⟨i,o,none⟩) n c))
  (hy:aT e y=some (.slice (some ⟨j,oj,none⟩) m c2)) (hm:0<m) (hroom:n+m<=c) (hc:aK U j oj (m*size)=some news) (h1:news.all (·.oneCell')=true) (hp:putCells U i (o+n*size) news=some σ') :
  bY P rd (.call { callee:=.builtin .append,args:=#[x,y],argTypes:=#[t,t] }) ty e U (.slice (some ⟨i,o,none⟩) (n+m) c) σ' :=
 dh oS fun op ho _ G w0 V A w hs h=>by
  have l:=h x (by simp [Op.operands,Call.operands]) _ hx
  have k:=h y (by simp [Op.operands,Call.operands]) _ hy
  have g:∃ c',A.eval x=.slice (some ⟨(V i).b,(V i).o+o,none⟩) n c'/\c<=c'/\i < U.length:=by
   generalize hr:A.eval x=r at l
   cases l with
   |emptySlice=>omega
   |slice _ _ _ _ c' _ _=>exact ⟨c',rfl,oA,oA⟩
   |sliceG _ _ _ _ _ _ _ _ hq=>simp at hq
  have f:∃ c',A.eval y=.slice (some ⟨(V j).b,(V j).o+oj,none⟩) m c':=by
   generalize hr:A.eval y=r at k
   cases k with
   |emptySlice=>omega
   |slice _ _ _ _ c' _ _=>exact ⟨c',rfl⟩
   |sliceG _ _ _ _ _ _ _ _ hq=>simp at hq
  obtain ⟨cx,g,q,hi⟩:=g
  obtain ⟨cy,f⟩:=f
  obtain ⟨ie,i1,i2,i3,i4⟩:=ht.info
  obtain ⟨rs,s,p,d⟩:=JF hs hc
  obtain ⟨w',g1,g2,g3⟩:=IQ (P:=P) hs hp d (by have:=qQ d h1;simpa using this)
  have hf:=run_firstCells_some (P:=P) w ie.size m ⟨(V j).b,(V j).o+oj,none⟩ m cy rs (by rw [i2];exact p) s
  rw [i2] at hf
  rw [<- cF] at g1
  refine ⟨V,.slice (some ⟨(V i).b,(V i).o+o,none⟩) (n+m) cx,w',.inl ?_,.slice _ _ _ _ _ q oO,oO,fun _ _=>rfl,g2⟩
  have a:n+m<=cx:=oO
  simp [execOp,ho,resolve,invoke,builtin,g,f,Builtin.append_,run_underlying ha.und,sizeOf,typeInfo,i1,Builtin.lenOf,a,hf,Addr.add_lit,i2,g1]
end ops
section
variable {P:Program} {n0 N:Nat} {rd:Option Nat} {Q:Post} {e:Env} {mk:List Nat} {U:Heap} {K:Env->List Nat->Heap->Prop} {all rest:List Oper}
theorem Py {T:List Deferred} {n:Nat} {V:Rho} {A:Act} {j:Nat} (h:Ip T n V N e mk A) (hg:jM all e j=some undef):yielded all.toArray A.tmps j=none:=by
 unfold jM at hg
 unfold yielded
 simp only [bR]
 cases ho:all[j]? with
 |none=>simp [ho] at hg
 |some o =>
  simp only [ho] at hg
  cases hd:o.dst with
  |none=>simp [hd] at hg
  |some t =>
   simp only [hd] at hg
   obtain ⟨v',h1,h2⟩:=h.tmps.2 t _ hg
   rw [bH h2 rfl] at h1
   simp [hd,h1,undef]
theorem yZ {T:List Deferred} {o:Oper} {b:Bool} {n:Nat} {V:Rho} {A:Act} (hw:jX all e o=some b) (he:Ip T n V N e mk A):Region.wanted o (yielded all.toArray A.tmps)=b:=by
 unfold jX at hw
 unfold Region.wanted
 split at hw
 ·rename_i h;rw [h];simpa using hw
 ·rename_i j want h
  rw [h]
  split at hw
  ·rename_i q hq
   simp only [zQ he hq]
   cases hw;rfl
  ·rename_i hq
   simp only [Py he hq]
   cases hw;rfl
  ·cases hw
theorem afd {o:Oper} (hw:jX all e o=some false) (hd:tH N o=true) (k:dA P n0 N rd all rest K (DU o.dst undef e) mk U):dA P n0 N rd all (o::rest) K e mk U:=by
 intro G w0 ρ0 A w hi Q' hQ
 obtain ⟨h0,V,ha,hs,he⟩:=hi
 simp only [wpL]
 rw [if_neg (by rw [yZ hw he];simp)]
 refine k G w0 ρ0 _ w ⟨h0,V,ha,hs,?_⟩ Q' hQ
 unfold DU
 unfold tH at hd
 split
 ·rename_i d h
  rw [h] at hd ⊢
  exact xR he (by simpa [bX] using hd) (bF undef rfl)
 ·rename_i h
  rw [h]
  exact ⟨he.tmps,he.mks,he.mkb⟩
theorem ahH {o:Oper} {v:Value} {σ':Heap} (hrd:lJ rd n0=true) (hw:jX all e o=some true) (hd:tH N o=true) (h:bY P rd o.op o.type e U v σ')
  (k:dA P n0 N rd all rest K (DU o.dst v e) mk σ'):dA P n0 N rd all (o::rest) K e mk U :=
 IL hrd h (fun d a=>by unfold tH at hd;rw [a] at hd;simpa [bX] using hd) (fun _ _ _ _ he=>yZ hw he) k
theorem VO {d:Option Nat} {op:Op} {ty:TypeId} {pos:String} {after:Array Edge} {j:Nat} {b want:Bool} (_hg:jM all e j=some (.bool b)) (_hb:b=want) (k:dA P n0 N rd all (⟨d,op,ty,pos,after,some (j,want)⟩::rest) K e mk U) :
  dA P n0 N rd all (⟨d,op,ty,pos,after,some (j,want)⟩::rest) K e mk U:=k
theorem frGk {k:Nat} {d:Option Nat} {op:Op} {ty:TypeId} {pos:String} {after:Array Edge} {j:Nat} {b want:Bool} {σ0:Heap} {news:List (Nat×Heap)} {K:Env->List (Nat×Heap)->List Oper->Prop} (_hg:jM all e j=some (.bool b)) (_hb:b=want)
  (h:bK P N rd all k (⟨d,op,ty,pos,after,some (j,want)⟩::rest) e σ0 news K) :
  bK P N rd all k (⟨d,op,ty,pos,after,some (j,want)⟩::rest) e σ0 news K:=h
theorem frSU {k:Nat} {d:Nat} {op:Op} {ty:TypeId} {pos:String} {after:Array Edge} {j:Nat} {want:Bool} {σ0:Heap} {news:List (Nat×Heap)} {K:Env->List (Nat×Heap)->List Oper->Prop} (hg:jM all e j=some undef) (hd:Nat.blt d N=true)
  (hk:bK P N rd all (k+1) rest ((d,undef)::e) σ0 news K):bK P N rd all k (⟨some d,op,ty,pos,after,some (j,want)⟩::rest) e σ0 news K :=
 .inr ⟨hd,.inr ⟨by simp only [jX,hg];rfl,hk⟩⟩
theorem cZ {n i o l c:Nat} (h:Nat.blt i n=true):closed n (.slice (some ⟨i,o,none⟩) l c)=true:=by
 cases l <;> cases c <;> simp [closed,h]
end
class Kv {α:Type} (kv:α->Value):Prop where
 inj:∀ p q,kv p=kv q->p=q
 plain:∀ p,plain (kv p)=true
 same:∀ p,Instr.sameBits 10000 (kv p) (kv p)=true
class KT (P:Program) (kt:TypeId) {α:Type} [DecidableEq α] (kv:α->Value):Prop extends Kv kv where
 check:∀ w b p,(Instr.checkKey b 10000 kt (kv p)).run P w=.ok () w
 find:∀ w p (L:List MapEntry) (ks:List α),L.length=ks.length->(∀ (j:Nat) (h1:j<L.length) (h2:j<ks.length),L[j].key=kv ks[j]) ->
  (Instr.findKey kt (kv p) L).run P w=.ok (match ks.findIdx? (fun q=>decide (p=q)) with|some j=>(L[j]?).map fun e=>(j,e.val)|none=>none) w
def jv {α:Type} (kv:α->Value) (l:List (α×Value)):aC:=.map (l.map fun p=>(kv p.1,p.2))
def kv (p:Int×Int):Value:=.agg #[.int .i64 p.1,.int .i64 p.2]
theorem ahI {p q:Int×Int} (h:kv p=kv q):p=q:=by
 simp only [kv,Value.agg.injEq,Array.mk.injEq,List.cons.injEq,Value.int.injEq,true_and,and_true] at h
 exact Prod.ext h.1 h.2
theorem SB (p:Int×Int):plain (kv p)=true:=rfl
theorem ZQ (p:Int×Int):Instr.sameBits 10000 (kv p) (kv p)=true:=by simp [Instr.sameBits,kv]
abbrev mg:=List ((Int×Int)×Value)
abbrev nI (l:mg):aC:=jv kv l
section
variable {P:Program} {w:World} {kt:TypeId}
theorem JJ (w : World) (h : Eq2 P kt) : ∃ f g : Field, ∃ a b : IntKind, P.underlying kt = some (.struct #[f, g]) /\ f.name ≠ "_" /\ g.name ≠ "_" /\ f.offset = 0 /\ g.offset = 1 /\ P.underlying f.type = some (.int a) /\ P.underlying g.type = some (.int b) := by
 have:=h.h
 unfold Sm at this
 split at this
 ·rename_i fs hu
  unfold eq2F at this
  split at this
  case h_2=>simp at this
  rename_i f g c
  simp only [aE,eL] at this
  obtain ⟨⟨⟨⟨⟨⟨⟨h1,h2⟩,h3⟩,h4⟩,h5⟩,h6⟩,h7⟩,h8⟩:=this
  obtain ⟨_,a,u1⟩:=DY (w:=w) h5
  obtain ⟨_,b,u2⟩:=DY (w:=w) h6
  refine ⟨f,g,a,b,?_,by simpa using h1,by simpa using h2,aM h3,aM h4,u1,u2⟩
  rw [hu]
  obtain ⟨l⟩:=fs
  simp only at c
  rw [c]
 ·simp at this
theorem Mc (h:Eq2 P kt) (b:Bool) (p:Int×Int):(Instr.checkKey b 10000 kt (kv p)).run P w=.ok () w:=by
 obtain ⟨f,g,a,c,h1,h2,h3,h4,h5,h6,h7⟩:=JJ w h
 have e1:∀ (n:Nat) (t:TypeId) (k:IntKind) (j:IntKind) (m:Int),P.underlying t=some (.int k)->(Instr.checkKey b (n+1) t (.int j m)).run P w=.ok () w:=by
  intro n t k j m ht
  unfold Instr.checkKey
  simp [run_underlying ht]
 have i1:(Go.isAgg f.type).run P w=.ok false w:=by simp [Go.isAgg,underlying,h6]
 have i2:(Go.isAgg g.type).run P w=.ok false w:=by simp [Go.isAgg,underlying,h7]
 have p1:(part f.type #[.int .i64 p.1,.int .i64 p.2] f.offset).run P w=.ok (.int .i64 p.1) w:=by simp [part,i1,h4]
 have p2:(part g.type #[.int .i64 p.1,.int .i64 p.2] g.offset).run P w=.ok (.int .i64 p.2) w:=by simp [part,i2,h5]
 unfold Instr.checkKey kv
 simp [run_underlying h1,h2,h3,p1,p2,e1 9998 _ _ _ _ h6,e1 9998 _ _ _ _ h7]
theorem VP (h:Eq2 P kt) (p q:Int×Int):(Op.equal kt (kv p) (kv q)).run P w=.ok (decide (p=q)) w:=by
 have:=(IX (w:=w) h (k:=.i64) (k':=.i64) (m:=p.1) (n:=p.2) (m':=q.1) (n':=q.2) 9998).1
 unfold Op.equal kv
 rw [show Op.maxDepth=9998+2 from rfl,this]
 congr 1
 simp [Prod.ext_iff]
theorem zD (h:Eq2 P kt) (p:Int×Int):∀ (L:List MapEntry) (ks:List (Int×Int)) (i:Nat),L.length=ks.length->(∀ (j:Nat) (h1:j<L.length) (h2:j<ks.length),L[j].key=kv ks[j]) ->
  (Instr.findAsking kt (kv p) L i).run P w=.ok (match ks.findIdx? (fun q=>decide (p=q)) with|some j=>(L[j]?).map fun e=>(i+j,e.val)|none=>none) w
 |[],[],i,_,_=>by simp [Instr.findAsking]
 |e::L,q::ks,i,hl,hk=>by
  have h0:=hk 0 oS oS
  simp only [dz] at h0
  simp only [Instr.findAsking,h0,Sem.run_bind,VP h,Result.andThen_ok]
  by_cases a:p=q
  ·simp [a,e6]
  ·have ih:=zD h p L ks (i+1) (oU hl) (fun j h1 h2=>hk (j+1) (oU h1) (oU h2))
   simp only [a,decide_false,Bool.false_eq_true,if_false,ih,e6]
   cases ks.findIdx? (fun q=>decide (p=q)) with
   |none=>rfl
   |some j=>simp [cF,eW 1 j]
 |[],q::ks,i,hl,_=>by simp at hl
 |e::L,[],i,hl,_=>by simp at hl
theorem Pz (h:Eq2 P kt) (p:Int×Int) (L:List MapEntry) (ks:List (Int×Int)) (hl:L.length=ks.length) (hk:∀ (j:Nat) (h1:j<L.length) (h2:j<ks.length),L[j].key=kv ks[j]) :
  (Instr.findKey kt (kv p) L).run P w=.ok (match ks.findIdx? (fun q=>decide (p=q)) with|some j=>(L[j]?).map fun e=>(j,e.val)|none=>none) w:=by
 obtain ⟨f,g,a,c,h1,_⟩:=JJ w h
 have hw:(match P.underlying kt with|some (.array _ _)|some (.struct _)=>true|_=>false)=true:=by rw [h1]
 refine (run_findKey_eq (P:=P) (w:=w) hw (kv p) L).trans ?_
 rw [zD h p L ks 0 hl hk]
 simp
end
instance {P:Program} {kt:TypeId} [h:Eq2 P kt]:KT P kt kv where
 inj _ _:=ahI
 plain:=SB
 same:=ZQ
 check _ b p:=Mc h b p
 find _ p L ks hl hk:=Pz h p L ks hl hk
section
variable {α:Type} {kv:α->Value}
theorem oZ {n:Nat} {V:Rho} {l:List (α×Value)} {ents:Array MapEntry} {clock:Nat} (h:ZF n V (l.map fun p=>(kv p.1,p.2)) ents clock) :
  ents.toList.length=(l.map (·.1)).length/\∀ (j:Nat) (h1:j<ents.toList.length) (h2:j<(l.map (·.1)).length),ents.toList[j].key=kv (l.map (·.1))[j]:=by
 obtain ⟨h1,h2,h3⟩:=h
 refine ⟨by simpa using h1,fun j hj a=>?_⟩
 have:=(h2 j (oU a) (oU hj)).1
 simpa using this
def lN [DecidableEq α] (l:List (α×Value)) (k:α) (v:Value):List (α×Value) :=
 match (l.map (·.1)).findIdx? (fun q=>decide (k=q)) with
 |some j=>l.set j (k,v)
 |none=>l++[(k,v)]
def ny [DecidableEq α] (l:List (α×Value)) (k:α):List (α×Value) :=
 match (l.map (·.1)).findIdx? (fun q=>decide (k=q)) with
 |some j=>l.eraseIdx j
 |none=>l
theorem qZ {n:Nat} {V:Rho} {i:Nat} {v':Value} (h:gJ n V (.map (some i)) v'):v'=.map (some (V i).b)/\i<n:=by cases h;exact ⟨rfl,oA⟩
section ops
variable {P:Program} {rd:Option Nat} {ty:TypeId} {e:Env} {U:Heap} {x y z:Operand} {v u:Value}
def mpOf (P:Program) (t:TypeId):Option (TypeId×TypeId):=match P.underlying t with|some (.map k e)=>some (k,e)|_=>none
class Mp (P:Program) (t:TypeId) (k e:outParam TypeId):Prop where
 h:mpOf P t=some (k,e)
theorem Mp.und {t k el:TypeId} (h:Mp P t k el):P.underlying t=some (.map k el):=by
 have:=h.h
 unfold mpOf at this
 split at this
 ·rename_i k e hu;cases this;exact hu
 ·cases this
theorem y5 {t:TypeId}:bY P rd (.makeMap t none) ty e U (.map (some U.length)) (U++[.map []]) :=
 dh oS fun o ho _ G w0 V A w hs _=>by
  have a:=kW hs (.map #[] 0) (.map []) 0 ⟨fun hg=>by have h1:=(hs.fgn _ hg).1;have:=hs.size;simp only at h1;omega,#[],0,iC w _,⟨rfl,fun i h=>by simp at h,fun i j h=>by simp at h⟩⟩
  refine ⟨_,.map (some w.heap.size),_,.inl ?_,?_,by simp,fun i hi=>iT hi,a⟩
  ·simp [execOp,ho,Instr.makeMap]
  ·have:=VQ.map (q:=false) (n:=(U++[aC.map []]).length) (V:=upd V U.length w.heap.size 0) U.length oS
   rwa [oh] at this
theorem sV {G:Nat->Prop} {w0 w:World} {V:Rho} (hs:Sim G w0 V U w) {i:Nat} {l:List (α×Value)} (hi:U[i]?=some (jv kv l)) :
  ¬ G (V i).b/\∃ ents clock,w.heap[(V i).b]?=some (.map ents clock)/\ZF U.length V (l.map fun p=>(kv p.1,p.2)) ents clock:=hs.obj i _ hi
theorem o7 [DecidableEq α] {t kt et i:Nat} {l:List (α×Value)} {k:α} [hm:Mp P t kt et] [hk:KT P kt kv] (hx:aT e x=some (.map (some i))) (hi:U[i]?=some (jv kv l)) (hy:aT e y=some (kv k)) (hz:aT e z=some v)
  (hni:U.all (fun o=>!aU o)=true):bY P rd (.mapUpdate t x y z) ty e U undef (U.set i (jv kv (lN l k v))) :=
 dh oS fun o ho _ G w0 V A w hs B=>by
  obtain ⟨I,hil⟩:=qZ (B x (by simp [Op.operands]) _ hx)
  have H:=bH (B y (by simp [Op.operands]) _ hy) (hk.plain k)
  have J:=B z (by simp [Op.operands]) _ hz
  obtain ⟨hG,ents,f,hh,hM⟩:=sV hs hi
  obtain ⟨hl,g⟩:=oZ hM
  have d:=hk.find w k ents.toList (l.map (·.1)) hl g
  have F:∀ j k' seen,U[j]?=some (.iter k' seen)->(V k').b ≠ (V i).b\/j=i:=by
   intro j k' seen hj
   have:=List.all_eq_true.1 hni _ (eh hj)
   simp [aU] at this
  obtain ⟨m1,m2,m3⟩:=hM
  simp only [cU] at m1
  cases hf:(l.map (·.1)).findIdx? (fun q=>decide (k=q)) with
  |none =>
   rw [hf] at d
   refine ⟨V,undef,_,.inr ⟨?_,rfl⟩,bF _ rfl,by simp,fun _ _=>rfl,wH hs hi (oi:=jv kv l) (o:=jv kv (lN l k v)) trivial (rQ w (V i).b (.map (ents.push { key:=kv k,val:=A.eval z,born:=f }) (f+1))) ?_ F⟩
   ·simp [execOp,ho,Instr.mapUpdate,run_underlying hm.und,I,H,MapKept.run_getObj_map hh,hk.check,d,MapKept.run_setObj_map _ hh,Result.andThen]
   ·refine ⟨hG,_,_,(MapKept.heap_set hh).1,?_⟩
    unfold lN
    rw [hf]
    refine ⟨by simp [m1],fun j hj hj'=>?_,fun a b ha hb C=>?_⟩
    ·simp only [eq,bA,cU,dE,dx] at hj
     by_cases r:j<l.length
     ·have:=m2 j (oU r) oO
      rw [Array.getElem_push_lt oO]
      simp only [eq,eQ (show j<(l.map fun p=>(kv p.1,p.2)).length by simpa using r)]
      exact ⟨this.1,this.2.1,this.2.2.1,by have:=this.2.2.2;omega⟩
     ·have h:j=ents.size:=oO
      subst h
      rw [Array.getElem_push_eq]
      simp only [eq,cG,cY]
      rw [eO (by simp;omega)]
      simp only [cU,m1,cM,dz]
      exact ⟨by first|rfl|trivial,hk.plain k,J,oO⟩
    ·simp only [Array.size_push] at ha hb
     by_cases D:b<ents.size
     ·rw [Array.getElem_push_lt D,Array.getElem_push_lt oO]
      exact m3 a b oO D C
     ·have L:b=ents.size:=oO
      subst L
      rw [Array.getElem_push_eq,Array.getElem_push_lt oO]
      exact (m2 a (by simp;omega) oO).2.2.2
  |some j =>
   rw [hf] at d
   have r:j<l.length:=by have:=(List.findIdx?_eq_some_iff_findIdx_eq.1 hf).1;simpa using this
   have K:(l.map (·.1))[j]'(oU r)=k:=by
    have:=List.findIdx?_eq_some_iff_getElem.1 hf
    obtain ⟨h1,h2,_⟩:=this
    exact (of_decide_eq_true h2).symm
   have h:j<ents.size:=oO
   have n:ents.toList[j]?=some ents[j]:=by simp [h]
   simp only [n,du] at d
   have m:ents[j].key=kv k:=by
    have:=g j (oU h) (oU r)
    rw [K] at this
    simpa using this
   have s:(Instr.keyThatStays (kv k) (kv k)).run P w=.ok (kv k) w:=by simp [Instr.keyThatStays,hk.same]
   refine ⟨V,undef,_,.inr ⟨?_,rfl⟩,bF _ rfl,by simp,fun _ _=>rfl,wH hs hi (oi:=jv kv l) (o:=jv kv (lN l k v)) trivial (rQ w (V i).b (.map (ents.modify j fun e=>{ e with key:=kv k,val:=A.eval z }) f)) ?_ F⟩
   ·have hg:(ents[j]?.map (·.key)).getD (kv k)=kv k:=by simp [h,m]
    simp [execOp,ho,Instr.mapUpdate,run_underlying hm.und,I,H,MapKept.run_getObj_map hh,hk.check,d,m,h,s,MapKept.run_setObj_map _ hh,Result.andThen]
   ·refine ⟨hG,_,_,(MapKept.heap_set hh).1,?_⟩
    unfold lN
    rw [hf]
    refine ⟨by simp [m1],fun q hq hq'=>?_,fun a b ha hb C=>?_⟩
    ·simp only [cU,dk] at hq
     have:=m2 q (oU hq) oO
     rw [Array.getElem_modify]
     by_cases u:j=q
     ·subst u
      simp only [if_true,cQ,List.getElem_set_self]
      exact ⟨by first|rfl|trivial,hk.plain k,J,this.2.2.2⟩
     ·rw [if_neg u]
      simp only [cQ,List.getElem_set_ne u]
      simpa using this
    ·simp only [Array.size_modify] at ha hb
     simp only [Array.getElem_modify]
     have E:∀ c (hc:c<ents.size),(if j=c then { ents[c] with key:=kv k,val:=A.eval z } else ents[c]).born=ents[c].born:=fun c hc=>by split <;> rfl
     rw [E a ha,E b hb]
     exact m3 a b ha hb C
theorem abT {t kt et i:Nat} {l:List (α×Value)} [hm:Mp P t kt et] (hx:aT e x=some (.map (some i))) (hi:U[i]?=some (jv kv l)) :
  bY P rd (.range t x) ty e U (.pointer (some ⟨U.length,0,none⟩)) (U++[.iter i []]) :=
 dh oS fun o ho _ G w0 V A w hs d=>by
  obtain ⟨f,c⟩:=qZ (d x (by simp [Op.operands]) _ hx)
  obtain ⟨hG,ents,a,hh,hM⟩:=sV hs hi
  have hlt:=block_lt hh
  have g:=kW hs (.mapIter (some (V i).b) a #[] a) (.iter i []) 0 ⟨fun hg=>by have h1:=(hs.fgn _ hg).1;have:=hs.size;simp only at h1;omega,oO,ents,a,#[],by rw [iC w _,iT c],by rw [iT c];exact nG hh,by simp,by simp⟩
  refine ⟨_,.pointer (some ⟨w.heap.size,0,none⟩),_,.inl ?_,by rw [bA];exact Js,by simp,fun i hi=>iT hi,g⟩
  simp [execOp,ho,Instr.range,run_underlying hm.und,f,MapKept.run_getObj_map hh]
end ops
end
theorem ZR {P:Program} (w:World) (ty:TypeId) (r bm c:Nat) (sb:Array Nat) (es:Array MapEntry) (hr:w.heap[r]?=some (.mapIter (some bm) c sb c)) (hb:w.heap[bm]?=some (.map es c)) (hold:∀ x ∈ es.toList,x.born<c) :
  ((∀ e ∈ es,sb.contains e.born=true)/\(Instr.next (.pointer (some ⟨r,0,none⟩)) false ty).run P w=.ok (.tuple #[.bool false]) w) \/
  ∃ e ∈ es,sb.contains e.born=false/\∃ w1:World,(w1=w\/w1=w.drew)/\(Instr.next (.pointer (some ⟨r,0,none⟩)) false ty).run P w=.ok (.tuple #[.bool true,e.key,e.val]) { w1 with heap:=w.heap.setIfInBounds r (.mapIter (some bm) c (sb.push e.born) c) }:=by
 simp only [Instr.next,getObj,Sem.run_bind,Sem.run,hr,hb,Result.andThen,next_test_false sb es c c hold (aD _),Bool.false_eq_true,if_false]
 have a:∀ x ∈ (Array.filter (fun e=>!sb.contains e.born) es).toList,x.born<c:=fun x hx=>hold x (by simp at hx ⊢;exact hx.1)
 generalize hL:Array.filter (fun e=>!sb.contains e.born) es=L at a ⊢
 have e1:L.filter (fun x=>decide (x.born<c))=L:=Array.filter_eq_self.2 (fun x hx=>by simpa using a x (oU hx))
 have e2:L.filter (fun x=>decide (x.born>=c))=#[]:=by
  rw [Array.filter_eq_empty_iff]
  intro x hx
  have:=a x (oU hx)
  simp
  omega
 simp only [e1,e2,Array.append_empty]
 by_cases h0:L.size=0
 ·left
  have:L=#[]:=Array.eq_empty_of_size_eq_zero h0
  refine ⟨fun e he=>?_,?_⟩
  ·cases hc:sb.contains e.born with
   |true=>rfl
   |false =>
    have:e ∈ L:=by rw [<- hL];simp [he];simpa using hc
    rw [‹L=#[]›] at this;simp at this
  ·subst this
   simp [choose,Sem.run,Question.forced]
 ·right
  have i:L.isEmpty=false:=by simp [Array.isEmpty,h0]
  simp only [i,Bool.false_eq_true,if_false,Array.empty_append,Array.size_map]
  have m:∃ (j:Nat) (w1:World),j<L.size/\(w1=w\/w1=w.drew)/\(choose (Question.mapNext L.size)).run P w=.ok j w1:=by
   by_cases hf:L.size<=1
   ·exact ⟨0,w,oO,.inl rfl,by simp [choose,Sem.run,Question.forced,hf]⟩
   ·exact ⟨_,w.drew,Nat.mod_lt _ oO,.inr rfl,by
     simp only [choose,Sem.run,Question.forced,decide_eq_true_eq,hf,if_false,Question.cut]
     rfl⟩
  obtain ⟨j,w1,hj,f,h⟩:=m
  have l:L[j] ∈ L:=Array.getElem_mem hj
  have d:L[j] ∈ es/\sb.contains L[j].born=false:=by
   have:L[j] ∈ Array.filter (fun e=>!sb.contains e.born) es:=by rw [hL];exact l
   simp at this
   exact ⟨this.1,by simpa using this.2⟩
  refine ⟨L[j],d.1,d.2,w1,f,?_⟩
  have hr1:w1.heap[r]?=some (.mapIter (some bm) c sb c):=by rcases f with rfl|rfl <;> exact hr
  have k:w1.heap=w.heap:=by rcases f with rfl|rfl <;> rfl
  have g:∀ o',(setObj r o').run P w1=.ok () { w1 with heap:=w.heap.setIfInBounds r o' }:=fun o'=>by
   simp only [setObj,Sem.run,k,hr]
  simp only [h,Array.getElem?_map,fx hj,du,Sem.run_bind,g,Result.andThen]
  rfl
section
variable {α:Type} {kv:α->Value}
theorem NH {l:List (α×Value)} (h:(l.map (·.1)).Nodup) {a b:Nat} (ha:a<l.length) (hb:b<l.length) (he:l[a].1=l[b].1):a=b:=by
 have h':=List.pairwise_iff_getElem.1 h
 rcases fk a b with c|c|c
 ·exact absurd (by rw [cQ,cQ];exact he) (h' a b (oU ha) (oU hb) c)
 ·exact c
 ·exact absurd (by rw [cQ,cQ];exact he.symm) (h' b a (oU hb) (oU ha) c)
section
variable {P:Program} {n0 N:Nat} {rd:Option Nat} {Q:Post} {e:Env} {mk:List Nat} {U:Heap} {K:Env->List Nat->Heap->Prop} {all rest:List Oper} {x y:Operand}
theorem JK {G:Nat->Prop} {w0 w:World} {V:Rho} (hs:Sim G w0 V U w) {it i:Nat} {seen:List Value} (hi:U[it]?=some (.iter i seen)) :
  ¬ G (V it).b/\i < U.length/\∃ (ents:Array MapEntry) (clock:Nat) (sb:Array Nat),w.heap[(V it).b]?=some (.mapIter (some (V i).b) clock sb clock) /\
   w.heap[(V i).b]?=some (.map ents clock)/\(∀ e ∈ ents,(sb.contains e.born=true↔e.key ∈ seen))/\(∀ k,seen.getLast?=some k->∃ t,sb.back?=some t/\∀ e ∈ ents,e.key=k->e.born=t)/\(V it).o=0:=hs.obj it _ hi
theorem st_next [hkv:Kv kv] {d it i:Nat} {ty:TypeId} {pos:String} {after:Array Edge} {l:List (α×Value)} {seen:List α} (hx:aT e x=some (.pointer (some ⟨it,0,none⟩))) (hit:U[it]?=some (.iter i (seen.map kv))) (hi:U[i]?=some (jv kv l))
  (hd:Nat.blt d N=true) (hrd:lJ rd n0=true) (h0:(l.map (·.1)).Nodup)
  (h1:(∀ p ∈ l,p.1 ∈ seen)->dA P n0 N rd all rest K ((d,.tuple #[.bool false])::e) mk U)
  (h2:∀ p ∈ l,p.1 ∉ seen->dA P n0 N rd all rest K ((d,.tuple #[.bool true,kv p.1,p.2])::e) mk (U.set it (.iter i ((seen++[p.1]).map kv)))) :
  dA P n0 N rd all (⟨some d,.next x false,ty,pos,after,none⟩::rest) K e mk U:=by
 intro G w0 ρ0 A w t Q' hQ
 obtain ⟨g0,V,ha,hs,he⟩:=t
 simp only [wpL]
 rw [if_pos (show Region.wanted _ _=true from rfl)]
 have hrd':=lQ hrd
 have Q:=(nV (qx he hx)).1
 obtain ⟨q1,q2,ents,a,sb,q3,q4,q5,q6,q7⟩:=JK hs hit
 obtain ⟨hG,ents',clock',hh,hM⟩:=sV hs hi
 rw [q4] at hh
 cases hh
 have c:=oZ hM
 obtain ⟨m1,m2,m3⟩:=hM
 have m1':ents.size=l.length:=by simpa using m1
 have m:∀ x ∈ ents.toList,x.born<a:=by
  intro x hx
  obtain ⟨j,hj,rfl⟩:=ew hx
  have:=(m2 j (by simp at hj ⊢;omega) (oU hj)).2.2.2
  simpa using this
 have Uq:A.eval x=.pointer (some ⟨(V it).b,0,none⟩):=by
  rw [Q,q7]
 refine ⟨fun f _=>lV _ _ _,?_⟩
 rw [Oper.semAt_eq _ _ _ oS]
 have y:(execOp A.eval ⟨some d,.next x false,ty,pos,after,none⟩).run P w=((Instr.next (.pointer (some ⟨(V it).b,0,none⟩)) false ty).run P w).andThen fun v w=>.ok (.value v) w:=by
  simp [execOp,Uq]
 rw [y]
 rcases ZR (P:=P) w ty (V it).b (V i).b a sb ents q3 q4 m with ⟨n1,n2⟩|⟨ent,n1,n2,w1,n3,n4⟩
 ·rw [n2]
  refine h1 ?_ G w0 ρ0 _ w ⟨g0,V,ha,hs,xR he (by simpa [bX] using hd) (bF _ rfl)⟩ Q' hQ
  intro p hp
  obtain ⟨j,hj,rfl⟩:=ew hp
  have s:j<ents.size:=oO
  have:=(q5 ents[j] (Array.getElem_mem s)).1 (n1 _ (Array.getElem_mem s))
  have hk:=c.2 j (oU s) (oU hj)
  simp only [dC,cQ] at hk
  rw [hk] at this
  obtain ⟨p',J,L⟩:=List.mem_map.1 this
  rw [<- hkv.inj _ _ L];exact J
 ·rw [n4]
  obtain ⟨j,hj,rfl⟩:=Array.getElem_of_mem n1
  have o:j<l.length:=oO
  have hk:=c.2 j (oU hj) (oU o)
  simp only [dC,cQ] at hk
  have hv:=(m2 j (oU o) hj).2.2.1
  simp only [cQ] at hv
  have I:l[j].1 ∉ seen:=by
   intro O
   have:=(q5 ents[j] (Array.getElem_mem hj)).2 (by rw [hk];exact List.mem_map.2 ⟨_,O,rfl⟩)
   rw [n2] at this;cases this
  have r:w1.heap=w.heap:=by rcases n3 with rfl|rfl <;> rfl
  have F:Sim G w0 V U w1:=by rcases n3 with rfl|rfl;exact hs;exact DN hs
  have T:(V it).b ≠ (V i).b:=fun hb=>by rw [hb,q4] at q3;cases q3
  have u:Chg w1 { w1 with heap:=w.heap.setIfInBounds (V it).b (.mapIter (some (V i).b) a (sb.push ents[j].born) a) } (V it).b:=by
   rw [<- r];exact rQ w1 _ _
  have S:Sim G w0 V (U.set it (.iter i ((seen++[l[j].1]).map kv))) { w1 with heap:=w.heap.setIfInBounds (V it).b (.mapIter (some (V i).b) a (sb.push ents[j].born) a) }:=by
   refine wH F hit (oi:=.iter i (seen.map kv)) trivial u ?_ fun j' k' seen' M=>?_
   ·refine ⟨q1,q2,ents,a,sb.push ents[j].born,(MapKept.heap_set q3).1,by rw [(MapKept.heap_set q3).2 _ (Ne.symm T)];exact q4,fun e' C=>?_,fun k D=>?_,q7⟩
    ·obtain ⟨j2,g,rfl⟩:=Array.getElem_of_mem C
     have n:=c.2 j2 (oU g) (by simp;omega)
     simp only [dC,cQ] at n
     have B:=q5 ents[j2] (Array.getElem_mem g)
     have hb:(sb.push ents[j].born).contains ents[j2].born=true↔(sb.contains ents[j2].born=true\/ents[j2].born=ents[j].born):=by
      simp [or_comm]
     have R:ents[j2].born=ents[j].born↔j2=j:=by
      constructor
      ·intro hbe
       rcases fk j2 j with h|h|h
       ·have:=m3 j2 j g hj h;omega
       ·exact h
       ·have:=m3 j j2 hj g h;omega
      ·rintro rfl;rfl
     rw [hb,B,R,eq,List.mem_append]
     constructor
     ·rintro (h|rfl)
      ·exact .inl h
      ·right;rw [hk];simp
     ·rintro (h|h)
      ·exact .inl h
      ·right
       simp only [cG,cY,fj] at h
       rw [n] at h
       have:=hkv.inj _ _ h
       exact NH h0 oO o this
    ·have D:kv l[j].1=k:=by simpa using D
     refine ⟨ents[j].born,by simp,fun e' C E=>?_⟩
     obtain ⟨j2,g,rfl⟩:=Array.getElem_of_mem C
     have n:=c.2 j2 (oU g) (by simp;omega)
     simp only [dC,cQ] at n
     rw [n,<- D] at E
     have:=hkv.inj _ _ E
     have H:j2=j:=NH h0 oO o this
     subst H;rfl
   ·by_cases z:j'=it
    ·exact .inr z
    ·left
     intro hb
     obtain ⟨_,_,ents2,clock2,sb2,r3,r4,_⟩:=JK F M
     rw [hb,r,q3] at r4;cases r4
  refine h2 l[j] (cP o) I G w0 ρ0 _ _ ⟨by simpa using g0,V,ha,S,?_⟩ Q' hQ
  rw [dk]
  rw [hk]
  refine xR he (by simpa [bX] using hd) (.tuple _ _ rfl fun q hq hq'=>?_)
  match q,hq with
  |0,_=>exact .bool true
  |1,_=>exact bF _ (hkv.plain _)
  |2,_=>exact hv
theorem abU [hk0:Kv kv] {rd:Option Nat} {ty:TypeId} {it i:Nat} {l:List (α×Value)} {seen:List α} {k:α} {v:Value} (hx:aT e x=some (.pointer (some ⟨it,0,none⟩))) (hit:U[it]?=some (.iter i ((seen++[k]).map kv))) (hi:U[i]?=some (jv kv l))
  (hk:(k,v) ∈ l):bY P rd (.entry x) ty e U (.tuple #[kv k,v]) U :=
 dh oS fun o ho _ G w0 V A w hs n=>by
  have s:=(nV (n x (by simp [Op.operands]) _ hx)).1
  obtain ⟨q1,q2,ents,clock,sb,q3,q4,q5,q6,q7⟩:=JK hs hit
  obtain ⟨hG,ents',clock',hh,hM⟩:=sV hs hi
  rw [q4] at hh
  cases hh
  have d:=oZ hM
  obtain ⟨m1,m2,m3⟩:=hM
  have m1':ents.size=l.length:=by simpa using m1
  obtain ⟨t,ht,m⟩:=q6 (kv k) oS
  obtain ⟨j,hj,h⟩:=ew hk
  have g:j<ents.size:=oO
  have f:=d.2 j (oU g) (oU hj)
  simp only [dC,cQ,h] at f
  have hb:=m ents[j] (Array.getElem_mem g) f
  have c:ents.find? (fun e=>e.born == t)=some ents[j]:=by
   rw [<- Array.find?_toList]
   rw [<- hb]
   refine find_born ents[j] ents.toList ?_ oS
   refine List.pairwise_iff_getElem.2 fun a b ha hb r=>?_
   have:=m3 a b (oU ha) (oU hb) r
   simp only [cQ,dC]
   omega
  have p:A.eval x=.pointer (some ⟨(V it).b,0,none⟩):=by rw [s,q7]
  have hv:=(m2 j (oU hj) g).2.2.1
  simp only [cQ,h] at hv
  refine ⟨V,.tuple #[ents[j].key,ents[j].val],w,.inl ?_,.tuple _ _ rfl fun q hq hq'=>?_,aD _,fun _ _=>rfl,hs⟩
  ·simp [execOp,ho,p,Instr.entry,getObj,Sem.run,q3,q4,ht,c,Result.andThen]
  ·match q,hq with
   |0,_=>exact (by rw [show (#[ents[j].key,ents[j].val]:Array Value)[0]=kv k from f];exact bF _ (hk0.plain k))
   |1,_=>exact hv
theorem JL {G:Nat->Prop} {w0 w:World} {V:Rho} (hs:Sim G w0 V U w) {i clock:Nat} {es:List (Value×Value)} {o:aC} {ents ents':Array MapEntry} (hi:U[i]?=some o) (hoi:o.owned) (hh:w.heap[(V i).b]?=some (.map ents clock)) (hsub:∀ e ∈ ents',e ∈ ents)
  (hM:ZF U.length V es ents' clock):Sim G w0 V (U.set i (.map es)) { w with heap:=w.heap.setIfInBounds (V i).b (.map ents' clock) }:=by
 have hc:=rQ w (V i).b (.map ents' clock)
 have a:=MapKept.heap_set (o':=.map ents' clock) hh
 have n:=(fH (hs.obj i o hi) hoi).2
 have h0:∀ j x,U[j]?=some x->j ≠ i->x.owned->(V j).b ≠ (V i).b:=fun j x hx f ho hb=>f (hs.inj j i x o hx hi ho hoi hb)
 refine ⟨hs.os,hs.tape,hs.output,by simpa using hs.size,fun b hb=>?_,fun j x hx=>?_,fun j k oj ok hj hk s u p=>?_⟩
 ·obtain ⟨h1,h2⟩:=hs.fgn b hb
  exact ⟨h1,(a.2 b (fun l=>n (l ▸ hb))).trans h2⟩
 ·rw [dk]
  rcases getElem?_set' hx with ⟨rfl,rfl⟩|⟨f,hx⟩
  ·exact ⟨n,ents',clock,a.1,hM⟩
  ·have c:=hs.obj j x hx
   cases x with
   |iter m seen =>
    obtain ⟨q1,q2,en,cl,sb,q3,q4,q5,q6,q7⟩:=c
    have d:=h0 j _ hx f trivial
    by_cases q:(V m).b=(V i).b
    ·rw [q,hh] at q4
     cases q4
     exact ⟨q1,q2,ents',clock,sb,by rw [a.2 _ d];exact q3,by rw [q];exact a.1,fun e he=>q5 e (hsub e he),fun k hk=>by
      obtain ⟨t,h1,h2⟩:=q6 k hk
      exact ⟨t,h1,fun e he=>h2 e (hsub e he)⟩,q7⟩
    ·exact ⟨q1,q2,en,cl,sb,by rw [a.2 _ d];exact q3,by rw [a.2 _ q];exact q4,q5,q6,q7⟩
   |ro cs =>
    intro h
    obtain ⟨h1,h2⟩:=c h
    refine ⟨h1,fun k hk=>?_⟩
    obtain ⟨v',h3,h4⟩:=h2 k hk
    exact ⟨v',by rw [<- h3];exact yO (a.2 _ (fun l=>n (l ▸ h1))),h4⟩
   |dead=>trivial
   |rw cs =>
    intro h
    have d:=h0 j _ hx f h
    have:=c h
    rw [<- a.2 _ d] at this;exact this
   |gr cs t =>
    intro h
    have d:=h0 j _ hx f h
    have:=c h
    rw [<- a.2 _ d] at this;exact this
   |dfr=>have d:=h0 j _ hx f trivial;exact ⟨c.1,(a.2 _ d).trans c.2⟩
   |loop st pend N e params assign body =>
    have d:=h0 j _ hx f trivial
    obtain ⟨h1,r,h2,h3⟩:=c
    exact ⟨h1,r,(a.2 _ d).trans h2,h3⟩
   |map es2 =>
    have d:=h0 j _ hx f trivial
    obtain ⟨h1,en,cl,h2,h3⟩:=c
    exact ⟨h1,en,cl,(a.2 _ d).trans h2,h3⟩
   |deep qs sp =>
    have g:∀ b,G b->∀ y,w.heap[b]?=some y->(w.heap.setIfInBounds (V i).b (.map ents' clock))[b]?=some y:=fun b hb y hy=>by rw [a.2 b (fun l=>n (l ▸ hb))];exact hy
    refine ⟨fun hq=>?_,fun y hy=>?_⟩
    ·obtain ⟨h1,h2⟩:=c.1 hq
     refine ⟨h1,fun k hk=>?_⟩
     obtain ⟨v',h3,h4⟩:=h2 k hk
     exact ⟨v',lX h3 (g _ h1),qy h4 (fun _ hb=>hb) g⟩
    ·obtain ⟨h1,v',h3,h4⟩:=c.2 y hy
     exact ⟨h1,v',lX h3 (g _ h1),h4⟩
 ·rcases getElem?_set' hj with ⟨rfl,rfl⟩|⟨f,gj⟩ <;> rcases getElem?_set' hk with ⟨rfl,rfl⟩|⟨hne',gk⟩
  ·rfl
  ·exact hs.inj _ _ o ok hi gk hoi u p
  ·exact hs.inj _ _ oj o gj hi s hoi p
  ·exact hs.inj _ _ oj ok gj gk s u p
theorem Md {α:Type} {l:Array α} {j:Nat} {x:α} (h:x ∈ l.eraseIdxIfInBounds j):x ∈ l:=by
 unfold Array.eraseIdxIfInBounds at h
 split at h
 ·rename_i hj
  have:x ∈ (l.eraseIdx j hj).toList:=Array.mem_toList_iff.2 h
  rw [Array.toList_eraseIdx] at this
  simpa using List.mem_of_mem_eraseIdx this
 ·exact h
theorem Bj [DecidableEq α] {rd:Option Nat} {ty:TypeId} {t kt et kt2 i:Nat} {l:List (α×Value)} {k:α} [hm:Mp P t kt et] [hk:KT P kt kv] (hx:aT e x=some (.map (some i))) (hi:U[i]?=some (jv kv l)) (hy:aT e y=some (kv k)) :
  bY P rd (.call { callee:=.builtin .delete,args:=#[x,y],argTypes:=#[t,kt2] }) ty e U (.tuple #[]) (U.set i (jv kv (ny l k))) :=
 dh oS fun o ho _ G w0 V A w hs s=>by
  obtain ⟨z,hil⟩:=qZ (s x (by simp [Op.operands,Call.operands]) _ hx)
  have u:=bH (s y (by simp [Op.operands,Call.operands]) _ hy) (hk.plain k)
  obtain ⟨hG,ents,f,hh,hM⟩:=sV hs hi
  obtain ⟨hl,m⟩:=oZ hM
  have c:=hk.find w k ents.toList (l.map (·.1)) hl m
  have D:=hM
  obtain ⟨m1,m2,m3⟩:=hM
  simp only [cU] at m1
  cases hf:(l.map (·.1)).findIdx? (fun q=>decide (k=q)) with
  |none =>
   rw [hf] at c
   have e0:ny l k=l:=by unfold ny;rw [hf]
   have n:=JL hs hi (o:=jv kv l) trivial hh (fun _ h=>h) D
   refine ⟨V,.tuple #[],_,.inl ?_,bF _ rfl,by simp,fun _ _=>rfl,by rw [e0];exact n⟩
   simp [execOp,ho,resolve,invoke,builtin,Builtin.delete_,run_underlying hm.und,z,u,MapKept.run_getObj_map hh,hk.check,c,MapKept.run_setObj_map _ hh,Result.andThen]
  |some j =>
   rw [hf] at c
   have F:j<l.length:=by have:=(List.findIdx?_eq_some_iff_findIdx_eq.1 hf).1;simpa using this
   have r:j<ents.size:=oO
   have g:ents.toList[j]?=some ents[j]:=by simp [r]
   simp only [g,du] at c
   have e0:ny l k=l.eraseIdx j:=by unfold ny;rw [hf]
   have e1:(ents.eraseIdxIfInBounds j).toList=ents.toList.eraseIdx j:=by
    unfold Array.eraseIdxIfInBounds
    rw [dif_pos r,Array.toList_eraseIdx]
   have C:(ents.eraseIdxIfInBounds j).size=ents.size - 1:=by
    rw [<- Array.length_toList,e1,List.length_eraseIdx,if_pos (oU r)];simp
   have d:∀ (q:Nat) (hq:q<(ents.eraseIdxIfInBounds j).size),∃ q',∃ h:q'<ents.size,(ents.eraseIdxIfInBounds j)[q]=ents[q']/\q'=if q<j then q else q+1:=by
    intro q hq
    have h1:(ents.eraseIdxIfInBounds j)[q]=(ents.toList.eraseIdx j)[q]'(by rw [<- e1,Array.length_toList];exact hq):=by
     rw [<- dC];simp only [e1]
    rw [h1,List.getElem_eraseIdx]
    split
    ·exact ⟨q,oO,by simp,by simp [*]⟩
    ·exact ⟨q+1,oO,by simp,by simp [*]⟩
   have B:ZF U.length V ((ny l k).map fun p=>(kv p.1,p.2)) (ents.eraseIdxIfInBounds j) f:=by
    rw [e0]
    refine ⟨by rw [C,cU,List.length_eraseIdx,if_pos F,m1],fun q hq E=>?_,fun a b ha hb hab=>?_⟩
    ·obtain ⟨q',h1,h2,h3⟩:=d q E
     simp only [h2]
     have v:q'<l.length:=oO
     have h4:((l.eraseIdx j).map fun p=>(kv p.1,p.2))[q]=(l.map fun p=>(kv p.1,p.2))[q']'(oU v):=by
      simp only [cQ,List.getElem_eraseIdx]
      subst h3
      split <;> simp_all
     rw [h4]
     exact m2 q' (oU v) h1
    ·obtain ⟨a',a1,a2,a3⟩:=d a ha
     obtain ⟨b',b1,b2,b3⟩:=d b hb
     rw [a2,b2]
     exact m3 a' b' a1 b1 (by subst a3 b3;split <;> split <;> omega)
   have n:=JL hs hi (o:=jv kv l) trivial hh (fun _ h=>Md h) B
   refine ⟨V,.tuple #[],_,.inl ?_,bF _ rfl,by simp,fun _ _=>rfl,n⟩
   simp [execOp,ho,resolve,invoke,builtin,Builtin.delete_,run_underlying hm.und,z,u,MapKept.run_getObj_map hh,hk.check,c,MapKept.run_setObj_map _ hh,Result.andThen]
end
end
end Go.AH
namespace Go
section
variable {F:Fence} {n:Nat} {P:Program} {Q:Exit->Act->World->Prop} {a:Act} {w:World} {b:Frame} {k:List Item} {cs:List Frame}
theorem AH.stepR_scope {c:Code}:step P (lone (b.atR a (.code (.scope c)::k)) cs w)=.next (lone (b.atR a (.code c::.inScope c::k)) cs w) :=
 step_lone_go (by simp [stepG,stepG.exec,Frame.atR])
theorem AH.stepR_inScope {c:Code}:step P (lone (b.atR a (.inScope c::k)) cs w)=.next (lone (b.atR a k) cs w) :=
 step_lone_go (by simp [stepG,stepG.exec,Frame.atR])
theorem AH.wpIn_label {l:Nat} (h:Q .normal a w):(Code.label l).wpIn F n P Q a w:=fun _ _ _ _ hb hr=>⟨.normal,a,w,h,.one (fenced_calm hb hr rfl) stepR_label⟩
theorem AH.wpIn_scope {c:Code} (h:c.wpIn F n P (fun e a w=>(∀ l,e ≠ .goto l)/\Q e a w) a w):(Code.scope c).wpIn F n P Q a w:=by
 intro b k cs hro hb hr
 have h0:(lone (b.atR a (.code (.scope c)::k)) cs w).fenced P F:=fenced_calm hb hr rfl
 obtain ⟨e,a₁,w₁,⟨g,hq⟩,d⟩:=h b (.inScope c::k) cs hro hb hr
 cases e with
 |normal=>exact ⟨.normal,a₁,w₁,hq,.head h0 AH.stepR_scope (StepsIn.trans d (.one (fenced_calm hb hr rfl) AH.stepR_inScope))⟩
 |exit id =>
  have hx:exitTo id (.inScope c::k)=exitTo id k:=by simp [exitTo]
  exact ⟨_,a₁,w₁,hq,fun k' hk=>.head h0 AH.stepR_scope (d.1 k' (by rw [hx];exact hk)),
   fun f hk=>let ⟨k₁,h1,h2⟩:=d.2 f (by rw [hx];exact hk);⟨k₁,h1,.head h0 AH.stepR_scope h2⟩⟩
 |goto l=>exact absurd rfl (g l)
 |ret=>exact ⟨_,a₁,w₁,hq,.of_steps (.one h0 AH.stepR_scope) d⟩
 |panic ch=>exact ⟨_,a₁,w₁,hq,.of_steps (.one h0 AH.stepR_scope) d⟩
 |outgrown=>exact ⟨_,a₁,w₁,hq,.of_steps (.one h0 AH.stepR_scope) d⟩
end
end Go
namespace Go.AH
section
variable {P:Program} {n0 N:Nat} {rd:Option Nat} {Q:Post} {e:Env} {mk:List Nat} {U:Heap}
theorem D7 {l:Nat} (h:Q .normal e mk U):bJ P n0 N rd (.label l) Q e mk U:=fun _G _w0 _ρ0 _A _w hi=>wpIn_label ⟨e,mk,U,h,hi⟩
def eH (Q:Post):Post
 |.goto _,_,_,_=>False
 |ex,e,mk,U=>Q ex e mk U
theorem D8 {c:Code} (h:bJ P n0 N rd c (eH Q) e mk U):bJ P n0 N rd (.scope c) Q e mk U:=by
 intro G w0 ρ0 A w hi
 refine wpIn_scope (wpIn_mono (h G w0 ρ0 A w hi) ?_)
 rintro ex A' w' ⟨e',a,σ',q,i⟩
 cases ex with
 |goto l=>exact q.elim
 |_=>exact ⟨fun l h=>by (cases h),e',a,σ',q,i⟩
theorem ZT (h:Q .ret e mk U):eH Q .ret e mk U:=h
end
section
variable {P:Program} {rd:Option Nat} {ty:TypeId} {e:Env} {U:Heap} {x y:Operand}
def D9 (f:Nat->Int×Int) (n:Nat) (xs:Array Value):Prop:=∀ i<n,xs.toList[i*2]?=some (.int .i64 (f i).1)/\xs.toList[i*2+1]?=some (.int .i64 (f i).2)
theorem NI {el:TypeId} {bytes:Nat} {z:Value} {w:World} (ht:Ty P el 2 true z bytes) {xs:Array Value} {a b:Value} {o:Nat} (h1:xs.toList[o]?=some a) (h2:xs.toList[o+1]?=some b) :
  (part el xs o).run P w=.ok (.agg #[a,b]) w:=by
 have e1:=ht.isAgg (w:=w)
 have e2:=ht.sizeOf (w:=w)
 have hx:xs.extract o (o+2)=#[a,b]:=by
  apply Array.toList_inj.1
  rw [Array.toList_extract]
  refine eK fun i=>?_
  have g1:=(List.getElem?_eq_some_iff.1 h2).1
  match i with
  |0=>simpa [List.extract_eq_drop_take',ey,eJ] using h1
  |1=>simpa [List.extract_eq_drop_take',ey,eJ] using h2
  |i+2 =>
   simp [ey,eJ]
   intro h;omega
 simp [part,e1,e2,hx]
theorem Ea {el:TypeId} {bytes:Nat} {z:Value} {w:World} (ht:Ty P el 2 true z bytes) (hk:Eq2 P el) (d:Nat) {n:Nat} {f g:Nat->Int×Int} {xs ys:Array Value} (hx:D9 f n xs) (hy:D9 g n ys) :
  ∀ is:List Nat,(∀ i ∈ is,i<n)->(Op.eqItems (d+2) el 2 xs ys is).run P w=.ok (decide (∀ i ∈ is,f i=g i)) w
 |[],_=>by simp [Op.eqItems]
 |i::is,h=>by
  have hi:=h i oS
  have ih:=Ea (w:=w) ht hk d hx hy is fun j hj=>h j (dm _ hj)
  have q:=(IX (w:=w) hk (k:=.i64) (k':=.i64) (m:=(f i).1) (n:=(f i).2) (m':=(g i).1) (n':=(g i).2) d).1
  simp only [Op.eqItems,Sem.run_bind,NI ht (hx i hi).1 (hx i hi).2,NI ht (hy i hi).1 (hy i hi).2,q,Result.andThen_ok]
  by_cases a:f i=g i
  ·have:(f i).1=(g i).1/\(f i).2=(g i).2:=by rw [a];exact ⟨rfl,rfl⟩
   simp [ih,a]
  ·have:¬ ((f i).1=(g i).1/\(f i).2=(g i).2):=fun hh=>a (Prod.ext hh.1 hh.2)
   simp [this,a]
theorem abV {t t' el n bytes:Nat} {z:Value} {f g:Nat->Int×Int} {xs ys:List Value} [ha:Ar P t n el] [ht:Ty P el 2 true z bytes] [hk:Eq2 P el] (hg:P.eqGuardType P.depth t=false)
  (hx:aT e x=some (.agg xs.toArray)) (hy:aT e y=some (.agg ys.toArray)) (hpx:dN xs=true) (hpy:dN ys=true) (hf:D9 f n xs.toArray) (hgg:D9 g n ys.toArray) :
  bY P rd (.binOp .eql t x y t') ty e U (.bool (decide (∀ i ∈ List.range n,f i=g i))) U :=
 kK oS rfl fun o ho _ A hA w=>by
  have h1:=hA x (by simp [Op.operands]) _ hx hpx
  have h2:=hA y (by simp [Op.operands]) _ hy hpy
  obtain ⟨ie,i1,i2,i3,i4⟩:=ht.info
  have hc:P.cellsOf el=2:=by simp [Program.cellsOf,i1,i2]
  have g1:=run_equalIn_array (P:=P) (w:=w) 9999 xs.toArray ys.toArray ha.und i1
  rw [hc] at g1
  have g2:=Ea (w:=w) ht hk 9997 hf hgg (List.range n) (fun i hi=>List.mem_range.1 hi)
  rw [g2] at g1
  simp only [execOp,ho,h1,h2]
  simp only [run_eqGuard_agg _ _ _ _ _ _ _ hg,run_eql_struct,g1,Sem.run_bind,Result.andThen_ok,Sem.run_pure]
end
section ops
variable {P:Program} {rd:Option Nat} {ty:TypeId} {e:Env} {U:Heap} {x y:Operand} {v:Value}
theorem VR {t el size bytes:Nat} {agg:Bool} {z:Value} [ha:Sl P t el] [ht:Ty P el size agg z bytes] :
  bY P rd (.buildSlice t 0 #[]) ty e U (.slice none 0 1) (U++[.dead]) :=
 dh oS fun op ho _ G w0 V A w hs hx=>by
  obtain ⟨ie,i1,i2,i3,_⟩:=ht.info
  refine ⟨upd V U.length w.heap.size 0,.slice (some ⟨w.heap.size,0,none⟩) 0 0,w.alloc (.cells #[] el),.inl ?_,.zslice _ rfl,by simp,fun i hi=>iT hi,kW hs _ .dead 0 trivial⟩
  have e0:(Array.map (fun _=>(default:Value)) (Array.range 0))=#[]:=oS
  simp [execOp,ho,Instr.buildSlice,run_underlying ha.und,sizeOf,typeInfo,i1,newRow,Instr.fill,e0]
def slOk:Value->Bool
 |.slice none 0 0=>true
 |.slice none 0 1=>true
 |.slice (some _) l c=>Nat.ble l c
 |_=>false
theorem CU {G:Nat->Prop} {w0 w:World} {V:Rho} (hs:Sim G w0 V U w) {j oj k:Nat} {news:List Value} (hc:aK U j oj k=some news) :
  ∃ rs:List Value,(∀ (q:Nat) (u:Value),rs[q]?=some u->w.cell? ((⟨(V j).b,(V j).o+oj,none⟩:Addr).add q)=some u)/\rs.length=k/\lU U.length V news.toArray rs.toArray:=by
 obtain ⟨hnl,a⟩:=kG hs hc
 have:∀ k≤news.length,∃ rs:List Value,rs.length=k/\∀ (q:Nat) (h1:q<rs.length) (h2:q<news.length),w.cell? ⟨(V j).b,(V j).o+oj+q,none⟩=some rs[q]/\gJ U.length V news[q] rs[q]:=by
  intro k
  induction k with
  |zero=>intro _;exact ⟨[],rfl,fun q h1=>by simp at h1⟩
  |succ k ih =>
   intro hk
   obtain ⟨rs,e1,e2⟩:=ih oO
   obtain ⟨v',e3,e4⟩:=a k oO
   refine ⟨rs++[v'],by simp [e1],fun q h1 h2=>?_⟩
   by_cases hq:q<rs.length
   ·rw [eQ hq];exact e2 q hq h2
   ·have:q=k:=by simp at h1;omega
    subst this
    simp only [eO (show rs.length<=q by omega),e1,cM,dz]
    exact ⟨e3,e4⟩
 obtain ⟨rs,e1,e2⟩:=this news.length (aD _)
 refine ⟨rs,fun k u hu=>?_,oO,by simp [e1],fun k hk c=>(e2 k (oU c) (oU hk)).2⟩
 obtain ⟨hk,rfl⟩:=List.getElem?_eq_some_iff.1 hu
 rw [addr_add];exact (e2 k hk oO).1
theorem VT {t el size bytes j oj m c:Nat} {agg:Bool} {z:Value} {news:List Value} [ha:Sl P t el] [ht:Ty P el size agg z bytes] (hzs:z.cells.size=size)
  (hx:aT e x=some (.slice none 0 1)) (hy:aT e y=some (.slice (some ⟨j,oj,none⟩) m c)) (hc:aK U j oj (m*size)=some news) (hm:0<m)
  (hb:m<=1000000) (hby:bytes<=1000000) (h0:Nat.blt 0 size=true:=by decide) :
  bY P rd (.call { callee:=.builtin .append,args:=#[x,y],argTypes:=#[t,t] }) ty e U (eP U.length size m) (U++[.gr news el]) :=
 dh oS fun op ho _ G w0 V A w hs D=>by
  have F:=D x (by simp [Op.operands,Call.operands]) _ hx
  have E:=D y (by simp [Op.operands,Call.operands]) _ hy
  obtain ⟨ie,i1,i2,i3,i4⟩:=ht.info
  have g:∃ a,A.eval x=.slice a 0 0:=by
   generalize hr:A.eval x=r at F
   cases F with
   |zslice a=>exact ⟨_,rfl⟩
   |zsliceZ hq=>simp at hq
  obtain ⟨a,g⟩:=g
  have p:∃ c',A.eval y=.slice (some ⟨(V j).b,(V j).o+oj,none⟩) m c':=by
   generalize hr:A.eval y=r at E
   cases E with
   |emptySlice=>omega
   |slice _ _ _ _ c' _ _=>exact ⟨c',rfl⟩
   |sliceG _ _ _ _ _ _ _ _ hq=>simp at hq
  obtain ⟨c',p⟩:=p
  obtain ⟨rs,v,l,f⟩:=CU hs hc
  have H:news.length=m*size:=by
   have:=f.1;simp at this;omega
  have d:m*ie.bytes<=140737488355328:=by rw [i4];exact eg (Nat.mul_le_mul hb hby) oD
  have C:=grownCap_ge w m 0 el
  have u:(rs.toArray++Builtin.zeroCells z.cells (grownCap w m 0 el - m)).size=grownCap w m 0 el*size:=by
   simp only [Array.size_append,fm,size_zeroCells,hzs,l,<- Nat.add_mul]
   congr 1;omega
  have I:=kW (DN hs) (.cells (rs.toArray++Builtin.zeroCells z.cells (grownCap w m 0 el - m)) el) (.gr news el) (grownCap w m 0 el*size) (by
   intro _
   refine ⟨fun hg=>by have h1:=(hs.fgn _ hg).1;have:=hs.size;simp only at h1;have e2:w.drew.heap.size=w.heap.size:=rfl;omega,rfl,_,iC w.drew _,u,?_,fun k hk hk'=>?_⟩
   ·rw [u,H];exact fd _ C
   ·have B:k<rs.toArray.size:=by simp;omega
    rw [Array.getElem_append_left B]
    exact (f.2 k (oU hk) B).mono oS fun q hq=>iT (oU hq))
  refine ⟨_,.slice (some ⟨w.heap.size,0,none⟩) m (grownCap w m 0 el),_,.inl ?_,?_,by simp,fun k hk=>iT hk,I⟩
  ·have s:(Builtin.append_ #[t,t] op.type #[.slice a 0 0,.slice (some ⟨(V j).b,(V j).o+oj,none⟩) m c']).run P w=.ok (.slice (some ⟨w.heap.size,0,none⟩) m (grownCap w m 0 el)) (w.drew.alloc (.cells (rs.toArray++Builtin.zeroCells z.cells (grownCap w m 0 el - m)) el)):=by
    cases a with
    |none=>exact run_append_nil (P:=P) w t op.type el ie z ha.und i1 i3 ⟨(V j).b,(V j).o+oj,none⟩ m c' rs (by rw [i2];exact l) v hm oO oO
    |some a =>
     have:=run_append_grow (P:=P) w t op.type el ie z ha.und i1 i3 a 0 0 [] oS oS ⟨(V j).b,(V j).o+oj,none⟩ m c' rs (by rw [i2];exact l) v oO oO (growslice_fits oO (oU d))
     simpa using this
   simp [execOp,ho,resolve,invoke,builtin,g,p,s]
  ·have:=Aa (n:=(U++[aC.gr news el]).length) (V:=upd V U.length w.heap.size (grownCap w m 0 el*size)) (i:=U.length) (sz:=size) (k:=m) (c':=grownCap w m 0 el) hm oS ⟨C,fun h=>by have:=Nat.blt_eq.mp h0;omega⟩ (by simp [upd])
   rw [oh] at this;exact this
end ops
section pure
variable {P:Program} {ty:TypeId} {e:Env} {x y c a b:Operand} {v:Value}
end pure
theorem Ae {F:Fence} {n:Nat} {P:Program} {o:Oper} {a:Act} {w:World} {K:Act->World->Prop} {Q Q':Exit->Act->World->Prop} (hp:∀ c a w,Q (.panic c) a w->Q' (.panic c) a w) (ho:∀ a w,Q .outgrown a w->Q' .outgrown a w)
  (hh:o.wpIn F n P a w K Q):o.wpIn F n P a w K Q':=by
 unfold Oper.wpIn at *
 refine ⟨hh.1,?_⟩
 have hh:=hh.2
 generalize (o.semAt F.round a.eval).run P w=r at *
 cases r with
 |ok x w' =>
  cases x <;> simp only [Oper.uponIn] at hh ⊢ <;>
   first
    |exact hh
    |exact ⟨hh.1,CallsIn.mono hh.2 (fun e d he=>by cases e <;> first|exact he|exact hp _ _ _ he|exact (let ⟨a,w,h⟩:=he;⟨a,w,ho _ _ h⟩))⟩
    |exact ⟨hh.1,RoundIn.mono hh.2 (fun e d he=>by cases e <;> first|exact he|exact hp _ _ _ he|exact (let ⟨a,w,h⟩:=he;⟨a,w,ho _ _ h⟩))⟩
 |halt x w'=>cases x <;> simp only [Oper.uponIn] at hh ⊢ <;> first|exact hh|exact hp _ _ _ hh
theorem ru {F:Fence} {n:Nat} {P:Program} {md:Region.Mode} {ops:Array Oper} {Q Q':Exit->Act->World->Prop} (h:∀ ex a w,Q ex a w->Q' ex a w):∀ (fuel:Nat) (listed:Array Bool) (a:Act) (w:World),wpAnyIn F n P md ops Q fuel listed a w->wpAnyIn F n P md ops Q' fuel listed a w
 |0,_,_,_,hh=>⟨hh.1,h _ _ _ hh.2⟩
 |fuel+1,listed,a,w,hh=>⟨fun hr=>h _ _ _ (hh.1 hr),fun i hi=>by
  have:=hh.2 i hi
  unfold wpOpIn at this ⊢
  split
  ·rename_i hn;simp only [hn] at this;exact ru h fuel _ _ _ this
  ·rename_i o ho
   simp only [ho] at this
   split
   ·rename_i hw
    rw [if_pos hw] at this
    exact Ae (fun c a w=>h _ a w) (fun a w=>h _ a w) (Oper.wpIn_mono (fun a w=>ru h fuel _ a w) this)
   ·rename_i hw
    rw [if_neg hw] at this
    exact ⟨this.1,ru h fuel _ _ _ this.2⟩⟩
section
variable {P:Program} {n0 N:Nat} {Q:Post} {K:Env->List Nat->Heap->Prop} {e:Env} {mk:List Nat} {U:Heap} {id:Nat} {all l:List Oper} {listed:List Bool} {fuel:Nat}
end
section
variable {P:Program} {rd:Option Nat} {ty:TypeId} {e:Env} {U:Heap} {x y:Operand}
theorem ZU {t el n:Nat} {k:IntKind} [ha:Ar P t n el] [hk:Ik P el k]:P.eqGuardType P.depth t=false:=by
 unfold Program.depth
 simp [Program.eqGuardType,ha.und,hk.und]
def JM (f:Nat->Int) (n:Nat) (xs:Array Value):Prop:=∀ i<n,xs.toList[i]?=some (.int .i64 (f i))
theorem yt {el:TypeId} {bytes:Nat} {z:Value} {w:World} (ht:Ty P el 1 false z bytes) {xs:Array Value} {a:Value} {o:Nat} (h1:xs.toList[o]?=some a):(part el xs o).run P w=.ok a w:=by
 have e1:=ht.isAgg (w:=w)
 have h2:xs[o]?=some a:=by simpa using h1
 simp [part,e1,h2]
theorem Eb {el:TypeId} {bytes:Nat} {z:Value} {w:World} (ht:Ty P el 1 false z bytes) (hk:Ik P el .i64) (d:Nat) {n:Nat} {f g:Nat->Int} {xs ys:Array Value} (hx:JM f n xs) (hy:JM g n ys) :
  ∀ is:List Nat,(∀ i ∈ is,i<n)->(Op.eqItems (d+2) el 1 xs ys is).run P w=.ok (decide (∀ i ∈ is,f i=g i)) w
 |[],_=>by simp [Op.eqItems]
 |i::is,h=>by
  have hi:=h i oS
  have ih:=Eb (w:=w) ht hk d hx hy is fun j hj=>h j (dm _ hj)
  have q:(Op.equalIn (d+2) el (.int .i64 (f i)) (.int .i64 (g i))).run P w=.ok (decide (f i=g i)) w:=by
   have:=hk.und
   simp [Op.equalIn,underlying,this]
   rfl
  have a1:(part el xs (i*1)).run P w=.ok (.int .i64 (f i)) w:=yt ht (by rw [cH];exact hx i hi)
  have a2:(part el ys (i*1)).run P w=.ok (.int .i64 (g i)) w:=yt ht (by rw [cH];exact hy i hi)
  simp only [Op.eqItems,Sem.run_bind,a1,a2,q,Result.andThen_ok]
  by_cases a:f i=g i
  ·simp [ih,a]
  ·simp [a]
theorem ZV {t t' el n bytes:Nat} {z:Value} {f g:Nat->Int} {xs ys:List Value} [ha:Ar P t n el] [ht:Ty P el 1 false z bytes] [hk:Ik P el .i64] (hg:P.eqGuardType P.depth t=false)
  (hx:aT e x=some (.agg xs.toArray)) (hy:aT e y=some (.agg ys.toArray)) (hpx:dN xs=true) (hpy:dN ys=true) (hf:JM f n xs.toArray) (hgg:JM g n ys.toArray) :
  bY P rd (.binOp .eql t x y t') ty e U (.bool (decide (∀ i ∈ List.range n,f i=g i))) U :=
 kK oS rfl fun o ho _ A hA w=>by
  have h1:=hA x (by simp [Op.operands]) _ hx hpx
  have h2:=hA y (by simp [Op.operands]) _ hy hpy
  obtain ⟨ie,i1,i2,i3,i4⟩:=ht.info
  have hc:P.cellsOf el=1:=by simp [Program.cellsOf,i1,i2]
  have g1:=run_equalIn_array (P:=P) (w:=w) 9999 xs.toArray ys.toArray ha.und i1
  rw [hc] at g1
  have g2:=Eb (w:=w) ht hk 9997 hf hgg (List.range n) (fun i hi=>List.mem_range.1 hi)
  rw [g2] at g1
  simp only [execOp,ho,h1,h2]
  simp only [run_eqGuard_agg _ _ _ _ _ _ _ hg,run_eql_struct,g1,Sem.run_bind,Result.andThen_ok,Sem.run_pure]
theorem abW {t t' el i o n c:Nat} [ha:Sl P t el] (hx:aT e x=some (.slice (some ⟨i,o,none⟩) n c)) (hn:0<n) (hy:aT e y=some (.slice none 0 0)) :
  bY P rd (.binOp .eql t x y t') ty e U (.bool false) U :=
 dh oS fun op ho _ G w0 V A w hs g=>by
  have h:=g x (by simp [Op.operands]) _ hx
  have k:=g y (by simp [Op.operands]) _ hy
  have f:∃ a c',A.eval x=.slice (some a) n c':=by
   generalize hr:A.eval x=r at h
   cases h with
   |emptySlice=>omega
   |slice _ _ _ _ c' _ _=>exact ⟨_,c',rfl⟩
   |sliceG _ _ _ _ _ _ _ _ hq=>simp at hq
  have j:A.eval y=.slice none 0 0:=bH k rfl
  obtain ⟨a,cx,f⟩:=f
  refine ⟨V,.bool false,w,.inl ?_,.bool _,oO,fun _ _=>rfl,hs⟩
  have hu:=ha.und
  have h3:(eqGuard .eql t x y (.slice (some a) n cx) (.slice none 0 0)).run P w=.ok () w:=by unfold eqGuard;split <;> rfl
  have h5:∀ d,(Op.equalIn (d+1) t (.slice (some a) n cx) (.slice none 0 0)).run P w=.ok false w:=fun d=>by simp [Op.equalIn,underlying,hu]
  have h4:(Op.equal t (.slice (some a) n cx) (.slice none 0 0)).run P w=.ok false w:=h5 9999
  simp [execOp,ho,f,j,h3,binOp,h4]
end
section
variable {α:Type} {kv:α->Value} {P:Program} {rd:Option Nat} {ty:TypeId} {e:Env} {U:Heap} {x y z:Operand} {v:Value}
theorem ZW [DecidableEq α] {t kt et i:Nat} {l:List (α×Value)} {k:α} [hm:Mp P t kt et] [hk:KT P kt kv] (hx:aT e x=some (.map (some i))) (hi:U[i]?=some (jv kv l)) (hy:aT e y=some (kv k)) (hz:aT e z=some v)
  (hni:U.all (fun o=>!aU o)=true):bY P rd (.insert t x y z) ty e U undef (U.set i (jv kv (lN l k v))):=by
 intro o ho c G w0 V A w d hs a next Q' hn
 have h:=o7 (P:=P) (rd:=rd) (ty:=ty) (t:=t) hx hi hy hz hni { o with op:=.mapUpdate t x y z } rfl c G w0 V A w d hs a next Q' hn
 refine ⟨fun f _=>lV _ _ _,?_⟩
 have h2:=h.2
 rw [Oper.semAt_eq _ _ _ oS] at h2
 rw [Oper.semAt_eq _ _ _ (by rw [ho];simp)]
 have e1:(execOp A.eval o).run P w=(execOp A.eval { o with op:=.mapUpdate t x y z }).run P w:=by simp [execOp,ho]
 rw [e1]
 exact h2
def iO [DecidableEq α] (l:List (α×Value)) (k:α):Option Value :=
 match (l.map (·.1)).findIdx? (fun q=>decide (k=q)) with
 |some j=>(l[j]?).map (·.2)
 |none=>none
theorem NJ [DecidableEq α] {t kt et i:Nat} {l:List (α×Value)} {k:α} [hm:Mp P t kt et] [hk:KT P kt kv] (hx:aT e x=some (.map (some i))) (hi:U[i]?=some (jv kv l)) (hy:aT e y=some (kv k)) (hv:iO l k=some v) :
  bY P rd (.lookup t x y false) ty e U v U :=
 dh oS fun o ho _ G w0 V A w hs g=>by
  obtain ⟨p,hil⟩:=qZ (g x (by simp [Op.operands]) _ hx)
  have n:=bH (g y (by simp [Op.operands]) _ hy) (hk.plain k)
  obtain ⟨hG,ents,clock,hh,hM⟩:=sV hs hi
  obtain ⟨hl,d⟩:=oZ hM
  have a:=hk.find w k ents.toList (l.map (·.1)) hl d
  obtain ⟨m1,m2,m3⟩:=hM
  simp only [cU] at m1
  unfold iO at hv
  cases hf:(l.map (·.1)).findIdx? (fun q=>decide (k=q)) with
  |none=>rw [hf] at hv;cases hv
  |some j =>
   rw [hf] at a hv
   have h:j<l.length:=by have:=(List.findIdx?_eq_some_iff_findIdx_eq.1 hf).1;simpa using this
   have m:j<ents.size:=oO
   simp only [cA h,du,Option.some.injEq] at hv
   have c:ents.toList[j]?=some ents[j]:=by simp [m]
   simp only [c,du] at a
   have f:=(m2 j (oU h) m).2.2.1
   simp only [cQ,hv] at f
   refine ⟨V,ents[j].val,w,.inl ?_,f,aD _,fun _ _=>rfl,hs⟩
   simp [execOp,ho,Instr.lookup,run_underlying hm.und,p,n,MapKept.run_getObj_map hh,hk.check,a,Result.andThen]
theorem VU [DecidableEq α] {t kt et i size bytes:Nat} {agg:Bool} {z:Value} {l:List (α×Value)} {k:α} [hm:Mp P t kt et] [hk:KT P kt kv] [ht:Ty P et size agg z bytes] (hz:plain z=true) (hx:aT e x=some (.map (some i))) (hi:U[i]?=some (jv kv l)) (hy:aT e y=some (kv k)) (hv:iO l k=none) :
  bY P rd (.lookup t x y false) ty e U z U :=
 dh oS fun o ho _ G w0 V A w hs d=>by
  obtain ⟨g,hil⟩:=qZ (d x (by simp [Op.operands]) _ hx)
  have f:=bH (d y (by simp [Op.operands]) _ hy) (hk.plain k)
  obtain ⟨hG,ents,clock,hh,hM⟩:=sV hs hi
  obtain ⟨hl,c⟩:=oZ hM
  have a:=hk.find w k ents.toList (l.map (·.1)) hl c
  have hf:(l.map (·.1)).findIdx? (fun q=>decide (k=q))=none:=by
   unfold iO at hv
   cases hf:(l.map (·.1)).findIdx? (fun q=>decide (k=q)) with
   |none=>rfl
   |some j =>
    rw [hf] at hv
    have h:j<l.length:=by have:=(List.findIdx?_eq_some_iff_findIdx_eq.1 hf).1;simpa using this
    simp [cA h] at hv
  rw [hf] at a
  refine ⟨V,z,w,.inl ?_,bF z hz,aD _,fun _ _=>rfl,hs⟩
  simp [execOp,ho,Instr.lookup,run_underlying hm.und,g,f,MapKept.run_getObj_map hh,hk.check,a,Result.andThen,ht.zeroV]
theorem JO [DecidableEq α] {t kt et i:Nat} {l:List (α×Value)} {k:α} [hm:Mp P t kt et] [hk:KT P kt kv] (hx:aT e x=some (.map (some i))) (hi:U[i]?=some (jv kv l)) (hy:aT e y=some (kv k)) (hv:iO l k=some v) :
  bY P rd (.lookup t x y true) ty e U (.tuple #[v,.bool true]) U :=
 dh oS fun o ho _ G w0 V A w hs g=>by
  obtain ⟨p,hil⟩:=qZ (g x (by simp [Op.operands]) _ hx)
  have n:=bH (g y (by simp [Op.operands]) _ hy) (hk.plain k)
  obtain ⟨hG,ents,clock,hh,hM⟩:=sV hs hi
  obtain ⟨hl,d⟩:=oZ hM
  have a:=hk.find w k ents.toList (l.map (·.1)) hl d
  obtain ⟨m1,m2,m3⟩:=hM
  simp only [cU] at m1
  unfold iO at hv
  cases hf:(l.map (·.1)).findIdx? (fun q=>decide (k=q)) with
  |none=>rw [hf] at hv;cases hv
  |some j =>
   rw [hf] at a hv
   have h:j<l.length:=by have:=(List.findIdx?_eq_some_iff_findIdx_eq.1 hf).1;simpa using this
   have m:j<ents.size:=oO
   simp only [cA h,du,Option.some.injEq] at hv
   have c:ents.toList[j]?=some ents[j]:=by simp [m]
   simp only [c,du] at a
   have f:=(m2 j (oU h) m).2.2.1
   simp only [cQ,hv] at f
   refine ⟨V,.tuple #[ents[j].val,.bool true],w,.inl ?_,.tuple _ _ rfl fun q hq _=>?_,aD _,fun _ _=>rfl,hs⟩
   ·simp [execOp,ho,Instr.lookup,run_underlying hm.und,p,n,MapKept.run_getObj_map hh,hk.check,a,Result.andThen]
   ·match q,hq with
    |0,_=>exact f
    |1,_=>exact .bool true
theorem JQ [DecidableEq α] {t kt et i size bytes:Nat} {agg:Bool} {z:Value} {l:List (α×Value)} {k:α} [hm:Mp P t kt et] [hk:KT P kt kv] [ht:Ty P et size agg z bytes] (hz:plain z=true) (hx:aT e x=some (.map (some i))) (hi:U[i]?=some (jv kv l)) (hy:aT e y=some (kv k)) (hv:iO l k=none) :
  bY P rd (.lookup t x y true) ty e U (.tuple #[z,.bool false]) U :=
 dh oS fun o ho _ G w0 V A w hs d=>by
  obtain ⟨g,hil⟩:=qZ (d x (by simp [Op.operands]) _ hx)
  have f:=bH (d y (by simp [Op.operands]) _ hy) (hk.plain k)
  obtain ⟨hG,ents,clock,hh,hM⟩:=sV hs hi
  obtain ⟨hl,c⟩:=oZ hM
  have a:=hk.find w k ents.toList (l.map (·.1)) hl c
  have hf:(l.map (·.1)).findIdx? (fun q=>decide (k=q))=none:=by
   unfold iO at hv
   cases hf:(l.map (·.1)).findIdx? (fun q=>decide (k=q)) with
   |none=>rfl
   |some j =>
    rw [hf] at hv
    have h:j<l.length:=by have:=(List.findIdx?_eq_some_iff_findIdx_eq.1 hf).1;simpa using this
    simp [cA h] at hv
  rw [hf] at a
  refine ⟨V,.tuple #[z,.bool false],w,.inl ?_,.tuple _ _ rfl fun q hq _=>?_,aD _,fun _ _=>rfl,hs⟩
  ·simp [execOp,ho,Instr.lookup,run_underlying hm.und,g,f,MapKept.run_getObj_map hh,hk.check,a,Result.andThen,ht.zeroV]
  ·match q,hq with
   |0,_=>exact bF z hz
   |1,_=>exact .bool false
theorem NK {t t' kt et:Nat} [hm:Mp P t kt et] (hx:aT e x=some (.map none)) (hy:aT e y=some (.map none)):bY P rd (.binOp .eql t x y t') ty e U (.bool true) U :=
 dh oS fun op ho _ G w0 V A w hs a=>by
  have f:A.eval x=.map none:=bH (a x (by simp [Op.operands]) _ hx) rfl
  have c:A.eval y=.map none:=bH (a y (by simp [Op.operands]) _ hy) rfl
  refine ⟨V,.bool true,w,.inl ?_,.bool _,oO,fun _ _=>rfl,hs⟩
  have hu:=hm.und
  have h3:(eqGuard .eql t x y (.map none) (.map none)).run P w=.ok () w:=by unfold eqGuard;split <;> rfl
  have h5:∀ d,(Op.equalIn (d+1) t (.map none) (.map none)).run P w=.ok true w:=fun d=>by simp [Op.equalIn,underlying,hu]
  have h4:(Op.equal t (.map none) (.map none)).run P w=.ok true w:=h5 9999
  simp [execOp,ho,f,c,h3,binOp,h4]
theorem NM {t t' kt et i:Nat} [hm:Mp P t kt et] (hx:aT e x=some (.map (some i))) (hy:aT e y=some (.map none)):bY P rd (.binOp .eql t x y t') ty e U (.bool false) U :=
 dh oS fun op ho _ G w0 V A w hs a=>by
  obtain ⟨f,_⟩:=qZ (a x (by simp [Op.operands]) _ hx)
  have c:A.eval y=.map none:=bH (a y (by simp [Op.operands]) _ hy) rfl
  refine ⟨V,.bool false,w,.inl ?_,.bool _,oO,fun _ _=>rfl,hs⟩
  have hu:=hm.und
  have h3:(eqGuard .eql t x y (.map (some (V i).b)) (.map none)).run P w=.ok () w:=by unfold eqGuard;split <;> rfl
  have h5:∀ d,(Op.equalIn (d+1) t (.map (some (V i).b)) (.map none)).run P w=.ok false w:=fun d=>by simp [Op.equalIn,underlying,hu]
  have h4:(Op.equal t (.map (some (V i).b)) (.map none)).run P w=.ok false w:=h5 9999
  simp [execOp,ho,f,c,h3,binOp,h4]
end
def ints (l:List Int):List Value:=l.map (.int .i64)
def gi (l:List Int) (i:Nat):Int:=l.getD i 0
theorem iF {l:List Int} {i:Nat} (h:i<l.length):(ints l)[i]?=some (.int .i64 (gi l i)):=by
 simp [ints,gi,h]
theorem bQ (l:List Int):(ints l).length=l.length:=by simp [ints]
theorem aZ (l:List Int):dN (ints l)=true:=vJ _ (fun _=>rfl) l
def CV (fl:TypeId->Nat->Bool) (sz:TypeId->Nat):List Field->Nat->Nat->Bool
 |[],o,n=>Nat.beq o n
 | f :: fs, o, n => f.name != "_" && Nat.beq f.offset o && fl f.type (sz f.type) && CV fl sz fs (o + sz f.type) n
def szT (P:Program) (t:TypeId):Nat:=match RQ P t with|some y=>y.1|none=>0
def PD (P:Program) (t:TypeId):Bool:=match RQ P t with|some y=>y.2.1|none=>false
def tK (P:Program):Nat->TypeId->Nat->Bool
 |0,_,_=>false
 |d+1,t,n=>(RQ P t).isSome && Nat.beq (szT P t) n && match P.underlying t with
  |some (.int k)=>decide (k=.i64) && Nat.beq n 1 && !PD P t
  |some (.array m e)=>Nat.beq n (m*szT P e) && tK P d e (szT P e) && PD P t
  |some (.struct fs)=>!P.stoodInHeld t && CV (tK P d) (szT P) fs.toList 0 n && PD P t
  |_=>false
class FlatN (P:Program) (t:TypeId) (n:outParam Nat):Prop where
 h:tK P 5 t n=true
 wide:PD P t=true
def Ec (P:Program) (t:TypeId) (l:List Int):Value:=bif PD P t then .agg (ints l).toArray else .int .i64 (l.headD 0)
section
variable {P:Program} {w:World}
theorem PE {d n:Nat} {t:TypeId} (h:tK P d t n=true):∃ z b,Ty P t n (PD P t) z b:=by
 cases d with
 |zero=>cases h
 |succ d =>
  simp only [tK,aE,Option.isSome_iff_exists] at h
  obtain ⟨⟨⟨y,hy⟩,h2⟩,_⟩:=h
  obtain ⟨a,b,c,e⟩:=y
  have h2:=aM h2
  simp only [szT,hy] at h2
  subst h2
  exact ⟨c,e,⟨by rw [hy];simp [PD,hy]⟩⟩
theorem uS {d n o:Nat} {t:TypeId} {L:List Int} (h:tK P d t n=true) (ho:o+n<=L.length):(part t (ints L).toArray o).run P w=.ok (Ec P t ((L.drop o).take n)) w:=by
 obtain ⟨z,b,ht⟩:=PE h
 have hl:(ints L).length=L.length:=bQ L
 cases ha:PD P t with
 |true =>
  rw [ha] at ht
  simp only [part,Sem.run_bind,ht.isAgg,ht.sizeOf,Result.andThen_ok,if_true,Sem.run_pure,Ec,ha,cond_true]
  congr 3
  simp [ints,List.map_drop,List.map_take,List.extract_eq_take_drop]
 |false =>
  rw [ha] at ht
  have h1:n=1:=by
   cases d with
   |zero=>cases h
   |succ d =>
    simp only [tK,aE] at h
    obtain ⟨_,h2⟩:=h
    split at h2
    ·simp only [aE] at h2;exact aM h2.1.2
    ·simp only [aE,ha] at h2;cases h2.2
    ·simp only [aE,ha] at h2;cases h2.2
    ·cases h2
  subst h1
  refine yt ht ?_
  have:(ints L)[o]?=some (.int .i64 (gi L o)):=iF oO
  simp only [this,Ec,ha,cond_false]
  congr 2
  rw [List.headD_eq_head?_getD,List.head?_take,List.head?_drop]
  simp [gi,cE]
theorem take_split {a b:List Int} {o s:Nat}:decide (a.drop o=b.drop o)=(decide ((a.drop o).take s=(b.drop o).take s) && decide (a.drop (o+s)=b.drop (o+s))):=by
 have c:a.drop o=b.drop o↔(a.drop o).take s=(b.drop o).take s/\a.drop (o+s)=b.drop (o+s):=by
  rw [<- fg,<- fg]
  constructor
  ·intro h;rw [h];exact ⟨rfl,rfl⟩
  ·rintro ⟨h1,h2⟩;rw [<- List.take_append_drop s (a.drop o),h1,h2,List.take_append_drop]
 by_cases h:a.drop o=b.drop o
 ·rw [decide_eq_true h,decide_eq_true (c.1 h).1,decide_eq_true (c.1 h).2];rfl
 ·rw [decide_eq_false h]
  by_cases h1:(a.drop o).take s=(b.drop o).take s
  ·rw [decide_eq_true h1,decide_eq_false fun h2=>h (c.2 ⟨h1,h2⟩)];rfl
  ·rw [decide_eq_false h1];rfl
def abX (P:Program) (dd:Nat) (t:TypeId) (n:Nat):Prop:=∀ (w:World) (a b:List Int),a.length=n->b.length=n->(Op.equalIn dd t (Ec P t a) (Ec P t b)).run P w=.ok (decide (a=b)) w
theorem BO {d dd n:Nat} (IH:∀ t m,tK P d t m=true->abX P dd t m) {a b:List Int} (ha:a.length=n) (hb:b.length=n):∀ (fs:List Field) (o:Nat),CV (tK P d) (szT P) fs o n=true ->
  (Op.eqFields dd (ints a).toArray (ints b).toArray fs).run P w=.ok (decide (a.drop o=b.drop o)) w/\o<=n
 |[],o,h=>by
  have:=aM h
  subst this
  refine ⟨?_,aD _⟩
  rw [eD oO,eD oO]
  simp [Op.eqFields]
 |f::fs,o,h=>by
  simp only [CV,aE] at h
  obtain ⟨⟨⟨h1,h2⟩,h3⟩,h4⟩:=h
  have h2:=aM h2
  obtain ⟨ih,hle⟩:=BO IH ha hb fs _ h4
  have hn : f.name ≠ "_" := by simpa using h1
  have p1:=uS (w:=w) (o:=o) (L:=a) h3 oO
  have p2:=uS (w:=w) (o:=o) (L:=b) h3 oO
  have q:=IH _ _ h3 w ((a.drop o).take (szT P f.type)) ((b.drop o).take (szT P f.type)) (by rw [eo,eR];omega) (by rw [eo,eR];omega)
  refine ⟨?_,oO⟩
  simp only [Op.eqFields,hn,ne_eq,not_false_eq_true,if_true,Sem.run_bind,h2,p1,p2,q,Result.andThen_ok]
  rw [take_split (s:=szT P f.type)]
  by_cases he:(a.drop o).take (szT P f.type)=(b.drop o).take (szT P f.type)
  ·simp [he,ih]
  ·simp [he]
theorem Ed {dd c n:Nat} {e:TypeId} {d:Nat} (hf:tK P d e c=true) (IH:abX P dd e c) {a b:List Int} (ha:a.length=n) (hb:b.length=n):∀ (k i:Nat),(i+k)*c=n ->
  (Op.eqItems dd e c (ints a).toArray (ints b).toArray (List.range' i k)).run P w=.ok (decide (a.drop (i*c)=b.drop (i*c))) w
 |0,i,h=>by
  rw [eD (by rw [ha];simp at h;omega),eD (by rw [hb];simp at h;omega)]
  simp [Op.eqItems]
 |k+1,i,h=>by
  have hc:i*c+c<=n:=by
                 rw [<- h];have:(i+(k+1))*c=i*c+c+k*c:=by rw [Nat.add_mul,Nat.add_mul];omega
                 omega
  have ih:=Ed hf IH ha hb k (i+1) (by rw [<- h];congr 1;omega)
  have p1:=uS (w:=w) (o:=i*c) (L:=a) hf oO
  have p2:=uS (w:=w) (o:=i*c) (L:=b) hf oO
  have q:=IH w ((a.drop (i*c)).take c) ((b.drop (i*c)).take c) (by rw [eo,eR];omega) (by rw [eo,eR];omega)
  rw [List.range'_succ]
  simp only [Op.eqItems,Sem.run_bind,p1,p2,q,Result.andThen_ok]
  rw [take_split (s:=c),show i*c+c=(i+1)*c by rw [Nat.add_mul,Nat.one_mul]]
  by_cases he:(a.drop (i*c)).take c=(b.drop (i*c)).take c
  ·simp [he,ih]
  ·simp [he]
theorem Yq (D:Nat):∀ (d:Nat) (t:TypeId) (n:Nat),tK P d t n=true->abX P (D+d) t n
 |0,_,_,h=>by cases h
 |d+1,t,n,h=>by
  intro w a b ha hb
  have IH:=Yq D d
  simp only [tK,aE] at h
  obtain ⟨⟨_,hs⟩,h2⟩:=h
  have hs:=aM hs
  split at h2
  ·rename_i k hu
   simp only [aE,eL,decide_eq_true_eq] at h2
   obtain ⟨⟨rfl,h3⟩,h4⟩:=h2
   have h3:=aM h3
   subst h3
   obtain ⟨x,rfl⟩:=List.length_eq_one_iff.1 ha
   obtain ⟨y,rfl⟩:=List.length_eq_one_iff.1 hb
   simp only [Ec,h4,cond_false,List.headD_cons]
   rw [show D+(d+1)=(D+d)+1 from rfl,run_equalIn_int w (D+d) t .i64 .i64 x y hu]
   by_cases c:x=y
   ·subst c;simp
   ·simp [c]
  ·rename_i m e hu
   simp only [aE] at h2
   obtain ⟨⟨h3,h4⟩,h5⟩:=h2
   have h3:=aM h3
   obtain ⟨z,by',f⟩:=PE h4
   obtain ⟨ie,i1,i2,i3,i4⟩:=f.info
   have hc:P.cellsOf e=szT P e:=by simp [Program.cellsOf,i1,i2]
   simp only [Ec,h5,cond_true]
   rw [show D+(d+1)=(D+d)+1 from rfl,run_equalIn_array (P:=P) (w:=w) (D+d) _ _ hu i1,hc,List.range_eq_range']
   have:=Ed (w:=w) h4 (IH e _ h4) ha hb m 0 (by rw [h3,aR])
   simpa using this
  ·rename_i fs hu
   simp only [aE,eL] at h2
   obtain ⟨⟨h3,h4⟩,h5⟩:=h2
   have hf:P.fieldsOf t=fs:=by simp [Program.fieldsOf,hu]
   simp only [Ec,h5,cond_true]
   rw [show D+(d+1)=(D+d)+1 from rfl,run_equalIn_struct w (D+d) t _ _ (by rw [hf];exact hu) h3,hf]
   have:=(BO (w:=w) (fun t m=>IH t m) ha hb fs.toList 0 h4).1
   simpa using this
  ·cases h2
def ahK (P:Program) (dd:Nat) (t:TypeId) (n:Nat):Prop:=∀ (w:World) (em:Bool) (a:List Int),a.length=n->(Instr.checkKey em dd t (Ec P t a)).run P w=.ok () w
theorem SC (D:Nat):∀ (d:Nat) (t:TypeId) (n:Nat),tK P d t n=true->ahK P (D+d) t n
 |0,_,_,h=>by cases h
 |d+1,t,n,h=>by
  intro w em a ha
  have IH:=SC D d
  simp only [tK,aE] at h
  obtain ⟨⟨_,hs⟩,h2⟩:=h
  have hs:=aM hs
  rw [show D+(d+1)=(D+d)+1 from rfl,Instr.checkKey]
  split at h2
  ·rename_i k hu
   simp only [aE,eL,decide_eq_true_eq] at h2
   obtain ⟨_,h4⟩:=h2
   simp [run_underlying hu,Ec,h4]
  ·rename_i m e hu
   simp only [aE] at h2
   obtain ⟨⟨h3,h4⟩,h5⟩:=h2
   have h3:=aM h3
   obtain ⟨z,by',l⟩:=PE h4
   simp only [Sem.run_bind,run_underlying hu,Result.andThen_ok,Ec,h5,cond_true]
   simp only [Std.Legacy.Range.forIn_eq_forIn_range',Std.Legacy.Range.size,Nat.sub_zero,Nat.add_one_sub_one,Nat.div_one]
   have c:∀ i ∈ List.range' 0 m,i*szT P e+szT P e<=a.length:=fun i hi=>by
    have q:i<m:=by simpa using hi
    have:i+1<=m:=q
    have:=fd (szT P e) this
    rw [Nat.add_mul,Nat.one_mul] at this
    omega
   generalize List.range' 0 m=is at c
   induction is with
   |nil=>simp
   |cons j is ih =>
    have p1:=uS (w:=w) (o:=j*szT P e) (L:=a) h4 (c j oS)
    have p2:=IH e _ h4 w em ((a.drop (j*szT P e)).take (szT P e)) (by rw [eo,eR];have:=c j oS;omega)
    simp only [List.forIn_cons,Sem.run_bind,l.sizeOf,Result.andThen_ok,p1,p2,Sem.run_pure]
    exact ih (fun y hy=>c y (by simp [hy]))
  ·rename_i fs hu
   simp only [aE,eL] at h2
   obtain ⟨⟨h3,h4⟩,h5⟩:=h2
   simp only [Sem.run_bind,run_underlying hu,Result.andThen_ok,Ec,h5,cond_true]
   rw [<- Array.forIn_toList]
   have p:∀ (fs:List Field) (o:Nat),CV (tK P d) (szT P) fs o n=true->o<=n:=by
    intro fs
    induction fs with
    |nil=>intro o h;have:=aM h;omega
    |cons f fs ih=>intro o h;simp only [CV,aE] at h;have:=ih _ h.2;omega
   have g:=h4
   generalize fs.toList=L at g ⊢
   generalize (0:Nat)=o at g
   induction L generalizing o with
   |nil=>simp
   |cons f L ih =>
    simp only [CV,aE] at g
    obtain ⟨⟨⟨g1,g2⟩,g3⟩,g4⟩:=g
    have g2:=aM g2
    have hn : f.name ≠ "_" := by simpa using g1
    have hl:=p _ _ g4
    have p1:=uS (w:=w) (o:=o) (L:=a) g3 oO
    have p2:=IH _ _ g3 w em ((a.drop o).take (szT P f.type)) (by rw [eo,eR];omega)
    simp only [List.forIn_cons,Sem.run_bind,hn,ne_eq,not_false_eq_true,if_true,Result.andThen_ok,g2,p1,p2,Sem.run_pure]
    exact ih _ g4
  ·cases h2
end
abbrev NL (n:Nat):={ l:List Int // l.length=n }
def kvN (n:Nat) (p:NL n):Value:=.agg (ints p.1).toArray
def kvI (a:Int):Value:=.int .i64 a
theorem SE:∀ {a b:List Int},ints a=ints b->a=b
 |[],[],_=>rfl
 |[],_::_,h=>by simp [ints] at h
 |_::_,[],h=>by simp [ints] at h
 |x::a,y::b,h=>by
  simp only [ints,cG,List.cons.injEq,Value.int.injEq,true_and] at h
  rw [h.1,SE h.2]
theorem zF {P:Program} {w:World} {α:Type} [DecidableEq α] {kt:TypeId} {kv:α->Value} (heq:∀ a b,(Op.equal kt (kv a) (kv b)).run P w=.ok (decide (a=b)) w) (p:α):∀ (L:List MapEntry) (ks:List α) (i:Nat),L.length=ks.length->(∀ (j:Nat) (h1:j<L.length) (h2:j<ks.length),L[j].key=kv ks[j]) ->
  (Instr.findAsking kt (kv p) L i).run P w=.ok (match ks.findIdx? (fun q=>decide (p=q)) with|some j=>(L[j]?).map fun e=>(i+j,e.val)|none=>none) w
 |[],[],i,_,_=>by simp [Instr.findAsking]
 |e::L,q::ks,i,hl,hk=>by
  have h0:=hk 0 oS oS
  simp only [dz] at h0
  simp only [Instr.findAsking,h0,Sem.run_bind,heq,Result.andThen_ok]
  by_cases c:p=q
  ·simp [c,e6]
  ·have ih:=zF heq p L ks (i+1) (oU hl) (fun j h1 h2=>hk (j+1) (oU h1) (oU h2))
   simp only [c,decide_false,Bool.false_eq_true,if_false,ih,e6]
   cases ks.findIdx? (fun q=>decide (p=q)) with
   |none=>rfl
   |some j=>simp [cF,eW 1 j]
 |[],q::ks,i,hl,_=>by simp at hl
 |e::L,[],i,hl,_=>by simp at hl
instance {P:Program} {kt n:Nat} [h:FlatN P kt n]:KT P kt (kvN n) where
 inj p q hpq:=by
  simp only [kvN,Value.agg.injEq] at hpq
  exact Subtype.ext (SE (List.toArray_inj hpq))
 plain p:=by
  have:=aZ p.1
  simp only [kvN,plain];exact this
 same p:=by
  show Instr.sameBits (9999+1) _ _=true
  simp only [kvN,Instr.sameBits,beq_self_eq_true,Bool.true_and,dT]
  intro x hx
  have:x.1=x.2/\∃ a,x.1=.int .i64 a:=by
   obtain ⟨i,hi,rfl⟩:=ew hx
   simp [ints]
  obtain ⟨h1,a,h2⟩:=this
  obtain ⟨x1,x2⟩:=x
  simp only at h1 h2
  subst h1 h2
  simp [Instr.sameBits]
 check w b p:=by
  have:=SC (P:=P) 9995 5 kt n h.h w b p.1 p.2
  simp only [Ec,h.wide,cond_true] at this
  exact this
 find w p L ks hl hk:=by
  have hw:(match P.underlying kt with|some (.array _ _)|some (.struct _)=>true|_=>false)=true:=by
   have h1:=h.h
   have h2:=h.wide
   simp only [tK,aE] at h1
   obtain ⟨_,h3⟩:=h1
   split at h3
   ·simp only [aE,h2] at h3;cases h3.2
   ·rename_i hu;rw [hu]
   ·rename_i hu;rw [hu]
   ·cases h3
  refine (run_findKey_eq (P:=P) (w:=w) hw (kvN n p) L).trans ?_
  rw [zF (fun a b=>?_) p L ks 0 hl hk]
  ·simp
  ·have:=Yq (P:=P) 9995 5 kt n h.h w a.1 b.1 a.2 b.2
   simp only [Ec,h.wide,cond_true] at this
   refine this.trans ?_
   congr 1
   simp [Subtype.ext_iff]
instance {P:Program} {kt:Nat} [h:Ik P kt .i64]:KT P kt kvI where
 inj p q hpq:=by simpa [kvI] using hpq
 plain p:=rfl
 same p:=by simp [kvI,Instr.sameBits]
 check w b p:=by
  show (Instr.checkKey b (9999+1) kt _).run P w=_
  unfold Instr.checkKey
  simp [run_underlying h.und,kvI]
 find w p L ks hl hk:=by
  unfold Instr.findKey
  simp only [Sem.run_bind,run_underlying h.und,Result.andThen_ok]
  have key:∀ (L:List MapEntry) (ks:List Int) (i:Nat),L.length=ks.length->(∀ (j:Nat) (h1:j<L.length) (h2:j<ks.length),L[j].key=kvI ks[j]) ->
    Instr.findNow (.int .i64) (kvI p) L i=some (match ks.findIdx? (fun q=>decide (p=q)) with|some j=>(L[j]?).map fun e=>(i+j,e.val)|none=>none):=by
   intro L
   induction L with
   |nil =>
    intro ks i hl _
    cases ks with
    |nil=>simp [Instr.findNow]
    |cons q ks=>simp at hl
   |cons e L ih =>
    intro ks i hl hk
    cases ks with
    |nil=>simp at hl
    |cons q ks =>
     have h0:=hk 0 oS oS
     simp only [dz] at h0
     by_cases hpq:p=q
     ·subst hpq
      simp [Instr.findNow,h0,kvI,Instr.sameNow,e6]
     ·have:=ih ks (i+1) (oU hl) (fun j h1 h2=>hk (j+1) (oU h1) (oU h2))
      have hb:(p == q)=false:=by simpa using hpq
      simp only [Instr.findNow,h0,kvI,Instr.sameNow,if_true,hb,e6,hpq,decide_false]
      simp only [kvI] at this
      rw [this]
      cases ks.findIdx? (fun q=>decide (p=q)) with
      |none=>rfl
      |some j=>simp [cF,eW 1 j]
  rw [key L ks 0 hl hk]
  simp
end Go.AH
abbrev Go.Ni (s:Go.AH.Heap):Prop:=s.all (fun o=>!Go.AH.aU o)=true
