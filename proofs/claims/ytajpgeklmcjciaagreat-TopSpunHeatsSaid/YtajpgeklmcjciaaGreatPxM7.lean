/- A run of a call that the kernel computes in abstract heaps is what the call does: regions in all orders, code, returns. Conditions: the tables hold, the oracle is sound. -/
import Derived.Test.YtajpgeklmcjciaaGreatPxMX
namespace Go.AH
open Go
theorem Trie.get_put {α:Type}:∀ {tr:Trie α} {d t:Nat} {v u:α},(tr.put d v).get t=some u→(t=d∧u=v)∨(t ≠ d∧tr.get t=some u)
 |.z,_,_,_,_,h=>by cases h
 |.nd w l r,d,t,v,u,h=>by
  have key:∀ {a b:Nat},Nat.beq a b=true→a=b:=fun h=>aM h
  simp only [Trie.put] at h
  by_cases hd:d=0
  ·subst hd
   have h:(Trie.nd (some v) l r).get t=some u:=h
   by_cases ht:t=0
   ·subst ht;exact .inl ⟨rfl,by have h:some v=some u:=h;exact (Option.some.inj h).symm⟩
   ·refine .inr ⟨ht,?_⟩
    simp only [Trie.get,jl ht,cond_false] at h ⊢;exact h
  ·rw [jl hd] at h
   simp only [cond_false] at h
   have e1:∀ {x y:Nat},¬ y=0→¬ x=0→Nat.mod x 2=Nat.mod y 2→Nat.div x 2=Nat.div y 2→x=y:=by
    intro x y _ _ h1 h2
    have a1:=Nat.div_add_mod x 2
    have a2:=Nat.div_add_mod y 2
    have b1:x % 2=y % 2:=h1
    have b2:x / 2=y / 2:=h2
    omega
   have e2:∀ {x y:Nat},¬ y=0→¬ x=0→¬ Nat.mod x 2=1→¬ Nat.mod y 2=1→Nat.pred (Nat.div x 2)=Nat.pred (Nat.div y 2)→x=y:=by
    intro x y hy hx h1 h2 h3
    have b1:¬ x % 2=1:=h1
    have b2:¬ y % 2=1:=h2
    have b3:x / 2 - 1=y / 2 - 1:=h3
    omega
   by_cases hm:Nat.mod d 2=1
   ·rw [hm] at h
    have h:(Trie.nd w (l.put (Nat.div d 2) v) r).get t=some u:=h
    by_cases ht:t=0
    ·subst ht;exact .inr ⟨fun h0=>hd h0.symm,h⟩
    ·simp only [Trie.get,jl ht,cond_false] at h ⊢
     by_cases c:Nat.mod t 2=1
     ·rw [c] at h ⊢
      have h:(l.put (Nat.div d 2) v).get (Nat.div t 2)=some u:=h
      rcases Trie.get_put h with ⟨g1,g2⟩|⟨g1,g2⟩
      ·exact .inl ⟨e1 hd ht (by rw [c,hm]) g1,g2⟩
      ·exact .inr ⟨fun h0=>g1 (by rw [h0]),g2⟩
     ·rw [jl c] at h ⊢
      exact .inr ⟨fun h0=>c (by rw [h0];exact hm),h⟩
   ·rw [jl hm] at h
    have h:(Trie.nd w l (r.put (Nat.pred (Nat.div d 2)) v)).get t=some u:=h
    by_cases ht:t=0
    ·subst ht;exact .inr ⟨fun h0=>hd h0.symm,h⟩
    ·simp only [Trie.get,jl ht,cond_false] at h ⊢
     by_cases c:Nat.mod t 2=1
     ·rw [c] at h ⊢
      exact .inr ⟨fun h0=>hm (by rw [← h0];exact c),h⟩
     ·rw [jl c] at h ⊢
      simp only [cond_false] at h ⊢
      rcases Trie.get_put h with ⟨g1,g2⟩|⟨g1,g2⟩
      ·exact .inl ⟨e2 hd ht c hm g1,g2⟩
      ·exact .inr ⟨fun h0=>g1 (by rw [h0]),g2⟩
theorem IZ {α:Type}:∀ (k t:Nat),(Trie.full k:Trie α).get t=none
 |0,_=>rfl
 |k+1,t=>by
  simp only [Trie.full,Trie.get]
  by_cases ht:t=0
  ·subst ht;rfl
  ·rw [jl ht]
   simp only [cond_false]
   cases Nat.beq (Nat.mod t 2) 1
   ·exact IZ k _
   ·exact IZ k _
theorem Agr.put {e:Env} {tr:PT} (h:Agr e tr) (d:Nat) (v:Value):Agr ((d,v)::e) (tr.put d v):=by
 intro t u hu
 rcases Trie.get_put hu with ⟨rfl,rfl⟩|⟨h1,h2⟩
 ·simp [Env.get,Nat.beq_refl]
 ·simp only [Env.get]
  rw [jl (fun h0=>h1 h0.symm)]
  exact h t u h2
theorem Trie.del_self {α:Type}:∀ (tr:Trie α) (d:Nat),(tr.del d).get d=none
 |.z,_=>rfl
 |.nd v l r,d=>by
  simp only [Trie.del]
  cases h1:Nat.beq d 0 with
  |true=>simp [Trie.get,h1]
  |false =>
   cases h2:Nat.beq (Nat.mod d 2) 1 with
   |true=>simp only [cond_false,cond_true,Trie.get,h1,h2];exact Trie.del_self l _
   |false=>simp only [cond_false,Trie.get,h1,h2];exact Trie.del_self r _
theorem Trie.del_get {α:Type} {u:α}:∀ (tr:Trie α) (d t:Nat),(tr.del d).get t=some u→tr.get t=some u
 |.z,_,_,h=>h
 |.nd v l r,d,t,h=>by
  simp only [Trie.del] at h
  cases h1:Nat.beq d 0 with
  |true =>
   rw [h1] at h
   simp only [cond_true,Trie.get] at h ⊢
   cases h3:Nat.beq t 0 with
   |true=>rw [h3] at h;cases h
   |false=>rw [h3] at h;exact h
  |false =>
   rw [h1] at h
   cases h2:Nat.beq (Nat.mod d 2) 1 with
   |true =>
    rw [h2] at h
    simp only [cond_false,cond_true,Trie.get] at h ⊢
    cases h3:Nat.beq t 0 with
    |true=>rw [h3] at h;exact h
    |false =>
     rw [h3] at h
     cases h4:Nat.beq (Nat.mod t 2) 1 with
     |true=>rw [h4] at h;exact Trie.del_get l _ _ h
     |false=>rw [h4] at h;exact h
   |false =>
    rw [h2] at h
    simp only [cond_false,Trie.get] at h ⊢
    cases h3:Nat.beq t 0 with
    |true=>rw [h3] at h;exact h
    |false =>
     rw [h3] at h
     cases h4:Nat.beq (Nat.mod t 2) 1 with
     |true=>rw [h4] at h;exact h
     |false=>rw [h4] at h;exact Trie.del_get r _ _ h
theorem Agr.full (e:Env) (k:Nat):Agr e (Trie.full k):=fun t v h=>by rw [IZ] at h;cases h
theorem Ie {N:Nat} {v:Value} {e:Env} {tr tr':PT} {o:Oper} (ha:Agr e tr) (h:Zl N v tr o.dst=some tr'):tH N o=true∧Agr (DI o.dst v e) tr':=by
 unfold Zl at h
 unfold tH DI
 split at h
 ·rename_i d hd
  rw [hd]
  obtain ⟨h1,h2⟩:=aN.1 h
  cases h2
  exact ⟨h1,ha.put d v⟩
 ·rename_i hd
  rw [hd]
  cases h
  exact ⟨rfl,ha⟩
theorem Oq {all:List Oper} {e:Env} {tr:PT} {o:Oper} {b:Bool} (ha:Agr e tr) (h:Sz all tr o.guard=some b):jU all e o=some b:=by
 unfold Sz at h
 unfold jU
 split at h
 ·rename_i hg;rw [hg];exact h
 ·rename_i g hg
  rw [hg]
  simp only [abq,aL] at h
  obtain ⟨x,⟨p,h1,t,h2,v,h3,h4⟩,h5⟩:=h
  have hv:jH all e g.1=some v:=by simp [jH,h1,h2,ha t v h3]
  simp only [hv]
  unfold XP at h4
  split at h4
  ·cases h4;exact h5
  ·cases h4;exact h5
  ·cases h4
theorem Mc:∀ {ps:List Nat} {vs:List Value} {e:Env} {tr:PT},Agr e tr→Agr (lT ps vs e) (D7 ps vs tr)
 |[],_,_,_,h=>by simpa [lT,D7] using h
 |_::_,[],_,_,h=>by simpa [lT,D7] using h
 |p::ps,v::vs,e,tr,h=>Mc (ps:=ps) (vs:=vs) (h.put p v)
theorem Xk:∀ {vs:List Value} {k:Nat} {e:Env} {tr:PT},Agr e tr→(∀ t v,Env.get e t=some v→t<k)→∃ e',Agr e' (abL k vs tr)∧∀ t v,Env.get e' t=some v→Env.get (uD k vs) t=some v∨(t<k∧Env.get e t=some v)
 |[],k,e,tr,h,hk=>⟨e,h,fun t v hv=>.inr ⟨hk t v hv,hv⟩⟩
 |v::vs,k,e,tr,h,hk=>by
  obtain ⟨e',h1,h2⟩:=Xk (vs:=vs) (k:=k+1) (h.put k v) (fun t u hu=>by
   simp only [Env.get] at hu
   by_cases ht:k=t
   ·omega
   ·rw [jl ht] at hu;have:=hk t u hu;omega)
  refine ⟨e',h1,fun t u hu=>?_⟩
  rcases h2 t u hu with h3|⟨h3,h4⟩
  ·left
   simp only [uD,Env.get]
   have:¬ k=t:=fun h0=>by
    have:=(zL vs (k+1) t u h3).1;omega
   rw [jl this];exact h3
  ·simp only [Env.get] at h4
   by_cases ht:k=t
   ·subst ht
    left
    simp only [uD,Env.get]
    rw [Nat.beq_refl] at h4 ⊢
    exact h4
   ·rw [jl ht] at h4
    right;exact ⟨oO,h4⟩
theorem Dq {α:Type}:∀ {tr:Trie α} {a b:Nat} {p:Nat×α},p ∈ tr.ents a b→∃ t,p.1=a*t+b∧tr.get t=some p.2
 |.z,_,_,_,h=>by simp [Trie.ents] at h
 |.nd v l r,a,b,p,h=>by
  simp only [Trie.ents,List.mem_append] at h
  rcases h with h|h|h
  ·cases v with
   |none=>simp at h
   |some x=>simp at h;subst h;exact ⟨0,by simp,rfl⟩
  ·obtain ⟨t,h1,h2⟩:=Dq h
   refine ⟨2*t+1,by rw [h1,Nat.mul_add,cI,← Nat.mul_assoc,Nat.mul_comm a 2];omega,?_⟩
   simp only [Trie.get]
   rw [jl (show ¬ 2*t+1=0 by omega),show Nat.mod (2*t+1) 2=1 from (by show (2*t+1) % 2=1;omega),show Nat.div (2*t+1) 2=t from (by show (2*t+1) / 2=t;omega)]
   exact h2
  ·obtain ⟨t,h1,h2⟩:=Dq h
   refine ⟨2*t+2,by rw [h1,Nat.mul_add,← Nat.mul_assoc,Nat.mul_comm a 2];omega,?_⟩
   simp only [Trie.get]
   rw [jl (show ¬ 2*t+2=0 by omega),show Nat.mod (2*t+2) 2=0 from (by show (2*t+2) % 2=0;omega),show Nat.pred (Nat.div (2*t+2) 2)=t from (by rw [Nat.pred_eq_sub_one];show (2*t+2) / 2 - 1=t;omega)]
   exact h2
theorem I4 {α:Type}:∀ {tr:Trie α} {a b t:Nat} {x:α},tr.get t=some x→(a*t+b,x) ∈ tr.ents a b
 |.z,_,_,_,_,h=>by cases h
 |.nd v l r,a,b,t,x,h=>by
  simp only [Trie.ents,List.mem_append]
  simp only [Trie.get] at h
  by_cases ht:t=0
  ·subst ht
   have h:v=some x:=h
   subst h;left;simp
  ·rw [jl ht] at h
   simp only [cond_false] at h
   right
   by_cases hm:Nat.mod t 2=1
   ·rw [hm] at h
    left
    have:=I4 (a:=2*a) (b:=a+b) (show l.get (Nat.div t 2)=some x from h)
    have e:2*a*Nat.div t 2+(a+b)=a*t+b:=by
     have h1:t=2*(t / 2)+1:=by have h2:t % 2=1:=hm;omega
     show 2*a*(t / 2)+(a+b)=a*t+b
     conv=>rhs;rw [h1]
     rw [Nat.mul_add,cI,← Nat.mul_assoc,Nat.mul_comm a 2];omega
    rwa [e] at this
   ·rw [jl hm] at h
    right
    have:=I4 (a:=2*a) (b:=2*a+b) (show r.get (Nat.pred (Nat.div t 2))=some x from h)
    have e:2*a*Nat.pred (Nat.div t 2)+(2*a+b)=a*t+b:=by
     have h1:t=2*(t / 2 - 1)+2:=by have h2:¬ t % 2=1:=hm;omega
     rw [Nat.pred_eq_sub_one]
     show 2*a*(t / 2 - 1)+(2*a+b)=a*t+b
     conv=>rhs;rw [h1]
     rw [Nat.mul_add,← Nat.mul_assoc,Nat.mul_comm a 2];omega
    rwa [e] at this
theorem Gt:∀ {e:Env} {t:Nat} {v:Value},(t,v) ∈ e→(∀ u,(t,u) ∈ e→u=v)→Env.get e t=some v
 |[],_,_,h,_=>by simp at h
 |(k,w)::e,t,v,h,hu=>by
  simp only [Env.get]
  by_cases hk:k=t
  ·subst hk
   rw [Nat.beq_refl]
   have:=hu w oS
   subst this;rfl
  ·rw [jl hk]
   rcases List.mem_cons.1 h with h|h
   ·exact absurd (congrArg Prod.fst h).symm hk
   ·exact Gt h fun u a=>hu u (dT _ a)
theorem xM {tr:PT}:Agr (D8 tr) tr:=by
 intro t v h
 refine Gt ?_ fun u hu=>?_
 ·have:=I4 (a:=1) (b:=0) h;simpa [D8] using this
 ·obtain ⟨t',h1,h2⟩:=Dq hu
  simp only [Nat.one_mul,cV] at h1
  subst h1
  rw [h] at h2
  exact (Option.some.inj h2).symm
theorem Md {e:Env}:∀ {e2:Env},(∀ p ∈ e2,Env.get e p.1=some p.2)→qY e e2
 |[],_=>trivial
 |(t,v)::r,h=>⟨h (t,v) oS,Md fun p hp=>h p (dT _ hp)⟩
theorem Ot {e:Env} {tr:PT} (h:Agr e tr):qY e (D8 tr):=Md fun p hp=>by
 obtain ⟨t,h1,h2⟩:=Dq hp
 simp only [Nat.one_mul,cV] at h1
 rw [h1];exact h t _ h2
theorem Me:∀ {e:Env},Agr e (abr e)
 |[]=>Agr.full _ _
 |(t,v)::e=>(Me (e:=e)).put t v
theorem agu {q:Bool} {m:Nat} {ρ ρ':Rho} {p:Nat→Bool} {v v':Value} (h:VQ q m ρ v v'):pv p v=true→(∀ i,p i=true→ρ' i=ρ i)→VQ q m ρ' v v':=by
 have d:∀ {a:Array Value},pvA p a=true→∀ (i:Nat) (h:i<a.size),pv p a[i]=true:=by
  rintro ⟨l⟩ h i hi
  have:∀ (l:List Value),pvL p l=true→∀ (i:Nat) (h:i<l.length),pv p l[i]=true:=by
   intro l
   induction l with
   |nil=>intro _ i hi;simp at hi
   |cons x l ih =>
    intro h i hi
    simp only [pvL,aE] at h
    cases i with
    |zero=>exact h.1
    |succ i=>exact ih h.2 i (oU hi)
  exact this l h i hi
 induction h with
 |bool b=>intro _ _;exact .bool b
 |int k x=>intro _ _;exact .int k x
 |string s=>intro _ _;exact .string s
 |nilPtr=>intro _ _;exact .nilPtr
 |ptr i o hi=>intro h1 h2;rw [← h2 i h1];exact .ptr _ _ hi
 |nilSlice=>intro _ _;exact .nilSlice
 |zslice a hq=>intro _ _;exact .zslice a hq
 |zsliceZ hq=>intro _ _;exact .zsliceZ hq
 |emptySlice i o a c=>intro _ _;exact .emptySlice _ _ _ _
 |slice i o l c c' hc hi=>intro h1 h2;rw [← h2 i h1];exact .slice _ _ _ _ _ hc hi
 |gslice i o l c c' sz hc hs hi hq=>intro h1 h2;rw [← h2 i h1] at hs ⊢;exact .gslice _ _ _ _ _ _ hc hs hi hq
 |sliceG i o l c c' sz hc hi hq=>intro h1 h2;rw [← h2 i h1];exact .sliceG _ _ _ _ _ _ hc hi hq
 |gsliceG i o l c c' sz hc hi hq=>intro h1 h2;rw [← h2 i h1];exact .gsliceG _ _ _ _ _ _ hc hi hq
 |nilMap=>intro _ _;exact .nilMap
 |map i hi=>intro h1 h2;rw [← h2 i h1];exact .map _ hi
 |stamp i hi hq=>intro h1 h2;rw [← h2 i h1];exact .stamp _ hi hq
 |stampG i hi hq=>intro h1 h2;rw [← h2 i h1];exact .stampG _ hi hq
 |nilFunc=>intro _ _;exact .nilFunc
 |func f a a' b b' h1 h2 h3 h4 ih1 ih2 =>
  intro h5 h6
  simp only [pv,aE] at h5
  exact .func _ _ _ _ _ h1 h2 (fun i h h'=>ih1 i h h' (d h5.1 i h) h6) (fun i h h'=>ih2 i h h' (d h5.2 i h) h6)
 |yield l hi=>intro h1 h2;simp only [pv,aE] at h1;rw [← h2 l h1.1.1];exact .yield _ hi
 |nilIface=>intro _ _;exact .nilIface
 |iface t v v' h ih=>intro h1 h2;exact .iface _ _ _ (ih h1 h2)
 |agg a a' h1 h3 ih=>intro h5 h6;exact .agg _ _ h1 fun i h h'=>ih i h h' (d h5 i h) h6
 |tuple a a' h1 h3 ih=>intro h5 h6;exact .tuple _ _ h1 fun i h h'=>ih i h h' (d h5 i h) h6
theorem Gu:∀ {n1:List (Nat×Heap)} {i:Nat} {h:Heap} {n2:List (Nat×Heap)} {q:Nat},q<h.length→D9 (n1++(i,h)::n2) ((iw n1).length+q)=some i
 |[],i,h,n2,q,hq=>by
  simp only [eR,iw,dz,ff,eb,bA,D9]
  rw [show Nat.blt q h.length=true from Nat.blt_eq.mpr hq];rfl
 |p::n1,i,h,n2,q,hq=>by
  have hl:(iw (p::n1)).length=p.2.length+(iw n1).length:=by simp [iw]
  simp only [List.cons_append,D9]
  rw [show Nat.blt ((iw (p::n1)).length+q) p.2.length=false from by
   cases hb:Nat.blt ((iw (p::n1)).length+q) p.2.length with
   |false=>rfl
   |true=>have:=Nat.blt_eq.mp hb;omega]
  simp only [cond_false]
  rw [show (iw (p::n1)).length+q - p.2.length=(iw n1).length+q by omega]
  exact Gu hq
theorem BU {all:List Oper}:∀ (rest:List Oper) (acc:List Nat),rest=all.drop acc.length→acc.length≤all.length→(∀ (k mk:Nat),acc[k]?=some mk→Good all k mk) →
  ∀ (k mk:Nat),(nH rest acc)[k]?=some mk→Good all k mk
 |[],acc,_,_,h,k,mk,hk=>h k mk hk
 |o::rest,acc,hr,hl,h,k,mk,hk=>by
  simp only [nH,x9] at hk
  have hx:all[acc.length]?=some o:=by
   have:=congrArg (fun l:List Oper=>l[0]?) hr
   simpa using this.symm
  have hlt:=(List.getElem?_eq_some_iff.1 hx).1
  refine BU rest (acc++[ql acc o.after.toList]) ?_ (by simp;omega) ?_ k mk hk
  ·have:=congrArg List.tail hr
   simpa using this
  ·intro j m hj
   by_cases a:j<acc.length
   ·rw [bR a] at hj;exact h j m hj
   ·rw [bE oO] at hj
    have:j=acc.length:=by
     have:=(List.getElem?_eq_some_iff.1 hj).1
     simp at this;omega
    subst this
    simp at hj
    subst hj
    exact Bc hx h hl
theorem Xl {all:List Oper} {k n len m:Nat} {news:List (Nat×Heap)} {v:Value} {o:Oper} (ho:all[k]?=some o) (hm:Good all k m) (hlen:len=n+(iw news).length) (h:pv (abv n len m news) v=true):Y1 all k n news v:=by
 rintro n1 i x n2 rfl ⟨D,hD,d,c⟩ w ρ ρ' v' hv hρ
 refine agu hv h fun b hb=>hρ b ?_
 simp only [abv,eq] at hb
 have hl:(iw (n1++(i,x)::n2)).length=(iw n1).length+(x.length+(iw n2).length):=by simp [iw]
 rcases hb with (hb|hb)|hb
 ·have:=Nat.blt_eq.mp hb;omega
 ·have:=cA hb;omega
 ·by_cases hr:b<n+(iw n1).length∨n+(iw n1).length+x.length≤b
  ·exact hr
  ·exfalso
   have a:=Gu (n1:=n1) (i:=i) (h:=x) (n2:=n2) (q:=b - n - (iw n1).length) oO
   rw [show (iw n1).length+(b - n - (iw n1).length)=b - n by omega] at a
   rw [a] at hb
   exact c (hm D hD o ho (fun j hj=>hD k o ho d j hj) i hb)
theorem MB {n:Nat}:∀ {ns:Heap},O5 n ns=true→rH n ns
 |[],_=>fun x hx=>by simp at hx
 |o::r,h=>by
  unfold O5 at h
  split at h
  ·cases ‹_::_=[]›
  ·rename_i cs r' a
   cases a
   simp only [aE] at h
   intro x hx
   rcases List.mem_cons.1 hx with rfl|hx
   ·exact ⟨cs,rfl,h.1.1,h.1.2⟩
   ·exact MB h.2 x hx
  ·cases h
theorem aaB {v:Value} {p:Nat×Nat×Nat×Nat} (h:abD v=some p):∃ s,v=.slice (some ⟨p.1,p.2.1,some s⟩) p.2.2.1 p.2.2.2:=by unfold abD at h;split at h <;> cases h <;> exact ⟨_,rfl⟩
theorem MC {v:Value} (h:O8 v=true):v=.nilFunc:=by unfold O8 at h;split at h <;> simp_all
theorem aaC {n:Nat} {π:Rho} {u v:Value} (h:abE u v=true):jG n π u v:=by
 unfold abE at h
 split at h
 ·rename_i x hx
  unfold eqI at h
  split at h
  ·rename_i y hy
   simp only [aE,decide_eq_true_eq] at h
   rw [jC hx,jC hy,h.1,h.2];exact .int _ _
  ·cases h
 split at h
 ·rename_i b hb
  unfold eqB at h
  split at h
  ·rename_i c hc
   rw [rU hb,rU hc]
   have:b=c:=by simpa using h
   rw [this];exact .bool _
  ·cases h
 simp only [eq,aE] at h
 rcases h with (h|h)|h
 ·rw [rV h.1,rV h.2];exact .nilSlice
 ·rw [Bq h.1,Bq h.2];exact .nilPtr
 ·rw [MC h.1,MC h.2];exact .nilFunc
theorem Xm {n:Nat} {π:Rho} {u v:Value} (h:aew n π u v=true):jG n π u v:=by
 unfold aew at h
 split at h
 ·rename_i p hp
  split at h
  ·rename_i q hq
   simp only [subP,aE] at h
   obtain ⟨⟨h1,h2⟩,h3⟩:=h
   rw [jD hp,jD hq,← aM h2,← aM h3]
   exact .ptr _ _ (Nat.blt_eq.mp h1)
  ·cases h
 split at h
 ·rename_i p hp
  split at h
  ·rename_i q hq
   simp only [aev,aE] at h
   obtain ⟨⟨⟨⟨h1,h2⟩,h3⟩,h4⟩,h5⟩:=h
   rw [kY hp,kY hq,← aM h2,← aM h3,← aM h4]
   exact .slice _ _ _ _ _ (cA h5) (Nat.blt_eq.mp h1)
  ·split at h
   ·rename_i q hq
    simp only [aev,aE] at h
    obtain ⟨⟨⟨⟨h1,h2⟩,h3⟩,h4⟩,h5⟩:=h
    obtain ⟨s,hs⟩:=aaB hq
    rw [kY hp,hs,← aM h2,← aM h3,← aM h4]
    exact .sliceG _ _ _ _ _ _ (cA h5) (Nat.blt_eq.mp h1) rfl
   ·cases h
 ·exact aaC h
theorem Dt {n:Nat} {π:Rho}:∀ {a b:List Value},O9 n π a b=true→a.length=b.length∧∀ (i:Nat) (h:i<a.length) (h':i<b.length),jG n π a[i] b[i]
 |[],b,h=>by
  simp only [O9,List.isEmpty_iff] at h
  subst h;exact ⟨rfl,fun i hi=>by simp at hi⟩
 |u::us,[],h=>by simp [O9] at h
 |u::us,v::vs,h=>by
  simp only [O9,aE] at h
  obtain ⟨h1,h2⟩:=Dt h.2
  refine ⟨by simp [h1],fun i hi c=>?_⟩
  cases i with
  |zero=>exact Xm h.1
  |succ i=>exact h2 i (oU hi) (oU c)
theorem Ou {n:Nat} {π:Rho} {u v:Value} (h:abG n π u v=true):jG n π u v:=by
 unfold abG at h
 split at h
 ·rename_i l hl
  split at h
  ·rename_i l' c
   obtain ⟨h1,h2⟩:=Dt h
   rw [Aj hl,Aj c]
   exact .tuple _ _ (oU h1) fun i hi a=>by simpa using h2 i (oU hi) (oU a)
  ·cases h
 split at h
 ·rename_i l hl
  split at h
  ·rename_i l' c
   obtain ⟨h1,h2⟩:=Dt h
   rw [mD hl,mD c]
   exact .agg _ _ (oU h1) fun i hi a=>by simpa using h2 i (oU hi) (oU a)
  ·cases h
 unfold af4 at h
 split at h
 ·rename_i f hf
  split at h
  ·rename_i g hg
   simp only [aE] at h
   obtain ⟨⟨h0,h1⟩,h2⟩:=h
   obtain ⟨a1,a2⟩:=Dt h1
   obtain ⟨b1,b2⟩:=Dt h2
   rw [Ed hf,Ed hg,← aM h0]
   exact .func _ _ _ _ _ (oU a1) (oU b1) (fun i hi a=>by simpa using a2 i (oU hi) (oU a)) (fun i hi a=>by simpa using b2 i (oU hi) (oU a))
  ·cases h
 ·exact Xm h
theorem zI {n:Nat} {π:Rho}:∀ {a b:List Value},GK n π a b=true→a.length≤b.length∧∀ (i:Nat) (h:i<a.length) (h':i<b.length),jG n π a[i] b[i]
 |[],b,h=>⟨by simp,fun i hi=>by simp at hi⟩
 |u::us,[],h=>by simp [GK] at h
 |u::us,v::vs,h=>by
  simp only [GK,aE] at h
  obtain ⟨h1,h2⟩:=zI h.2
  refine ⟨by simp [h1],fun i hi c=>?_⟩
  cases i with
  |zero=>exact Ou h.1
  |succ i=>exact h2 i (oU hi) (oU c)
theorem adN {σ:Heap} {n b:Nat} {π:Rho} {o:aB} (h:subO n π o σ[b]?=true):xZ σ n π ⟨b,0,0⟩ o:=by
 unfold subO at h
 split at h
 ·rename_i a h2
  split at h
  ·rename_i cs hc
   obtain ⟨h3,h4⟩:=zI h
   rw [oL h2]
   refine .inr ⟨rfl,cs,?_,h3,h4⟩
   simp only [aL] at hc
   obtain ⟨x,hx,hc⟩:=hc
   unfold XY at hc
   split at hc
   ·cases hc;exact .inl hx
   ·cases hc;exact .inr ⟨_,hx⟩
   ·cases hc
  ·cases h
 split at h
 ·rename_i a h2
  split at h
  ·rename_i cs hc
   obtain ⟨h3,h4⟩:=zI h
   rw [rW h2]
   simp only [aL] at hc
   obtain ⟨x,hx,hc⟩:=hc
   rw [rW hc] at hx
   exact .inr ⟨cs,hx,fun k hk=>⟨by simp only [bA];omega,by simpa using h4 k hk oO⟩⟩
  ·cases h
 ·cases h
theorem osubs_of {σ:Heap} {n:Nat} {π:Rho}:∀ {l:List Nat} {news:Heap} {k:Nat},SC n π σ l news=true→(∀ (j b:Nat),l[j]?=some b→π (k+j)=⟨b,0,0⟩)→DT σ n π k news
 |[],news,k,h,_=>by
  simp only [SC,List.isEmpty_iff] at h
  subst h;trivial
 |b::bs,[],k,h,_=>trivial
 |b::bs,o::os,k,h,hπ=>by
  simp only [SC,aE] at h
  have h0:=hπ 0 b oS
  rw [cV] at h0
  refine ⟨by rw [h0];exact adN h.1,osubs_of h.2 fun j c hj=>?_⟩
  rw [show k+1+j=k+(j+1) by omega]
  exact hπ (j+1) c (oU hj)
theorem Keep.take {lo:Nat} {σ0 σ:Heap} (h:Keep lo σ0 σ) (hn:σ0.length≤lo):σ.take σ0.length=σ0:=by
 refine fx fun i=>?_
 rw [eE]
 split
 ·rename_i hi;exact h.2 i oO hi
 ·rename_i hi;exact (eM oO).symm
theorem QN {p:aB→Bool}:∀ {l:Heap},allB p l=true→∀ (i:Nat) (o:aB),l[i]?=some o→p o=true
 |[],_,i,o,h=>by simp at h
 |x::l,h,i,o,ho=>by
  simp only [allB,aE] at h
  cases i with
  |zero=>simp at ho;subst ho;exact h.1
  |succ i=>exact QN h.2 i o (oU ho)
theorem QO {n:Nat} {o:aB} (h:Ai n o=true):fO n o:=by
 cases o with
 |map es =>
  simp only [Ai,eo,aE] at h
  exact fun p hp=>h p hp
 |_=>simp_all [Ai,fO]
theorem adO {σ0 σ:Heap} {lo:Nat} {v:Value} (h:Keep lo σ0 σ):aX σ0 σ v v (σ.take (X4 σ0.length lo v σ))∧σ0.length≤X4 σ0.length lo v σ:=by
 unfold X4 af7
 generalize hm:Nat.max σ0.length (Nat.max (top v) (topH ((σ.take σ0.length).drop lo)))=m
 have c:σ0.length≤m:=by rw [← hm];exact Nat.le_max_left _ _
 cases hc:Nat.ble m σ.length && closed m v && okV v && allB (Ai m) ((σ.take m).drop (minN lo σ0.length)) with
 |false =>
  simp only [cond_false]
  refine ⟨.inl ⟨rfl,eZ⟩,h.1⟩
 |true =>
  simp only [cond_true]
  simp only [aE] at hc
  obtain ⟨⟨⟨h1,h2⟩,h3⟩,h4⟩:=hc
  have h1:=cA h1
  have a:(σ.take m).length=m:=by simp;omega
  refine ⟨.inr fun f=>⟨fun i=>⟨i,0,0⟩,⟨by rw [a];exact c,fun _ _=>rfl,fun i o2 hi=>?_,fun i j oi oj _ _ _ _ hb=>hb⟩,?_⟩,c⟩
  ·have g:=hi
   rw [eE] at hi
   split at hi
   ·rename_i e
    by_cases d:i<minN lo σ0.length
    ·rw [qh] at d
     have h0:=h.2 i oO oO
     rw [h0] at hi
     have k:=f i o2 hi
     exact lY (m:=σ0.length) (fun _ _=>rfl) (by rw [a];exact c) oO (by rw [h0];exact hi) k
    ·have:=QN h4 (i - minN lo σ0.length) o2 (by rw [eO,show minN lo σ0.length+(i - minN lo σ0.length)=i by omega];exact g)
     exact lY (m:=m) (fun _ _=>rfl) (by rw [a];exact aD _) e hi (QO this)
   ·cases hi
  ·exact qA (m:=m) (fun _ _=>rfl) (by rw [a];exact aD _) v h2 h3
theorem MF {σ0 σ:Heap} {lo:Nat} {v:Value} {r:Value×Heap×Nat} (h:Keep lo σ0 σ) (hr:Pj σ0.length lo v σ=some r):aX σ0 σ v r.1 r.2.1∧Keep r.2.2 σ0 r.2.1:=by
 simp only [Pj,fV] at hr
 cases hr
 obtain ⟨h1,h2⟩:=adO (v:=v) h
 refine ⟨h1,by have:=h.1;simp;omega,fun i hi hl=>?_⟩
 rw [eE,if_pos oO]
 exact h.2 i hi hl
theorem YR {σ0 σ:Heap} {lo:Nat} {v:Value} {r:Value×Heap×Nat} (h:Keep lo σ0 σ) (hlo:σ0.length≤lo) (hr:VO σ0.length lo v σ=some r):aX σ0 σ v r.1 r.2.1∧Keep r.2.2 σ0 r.2.1:=by
 simp only [VO,agb,aga,fV,aN,aE] at hr
 obtain ⟨⟨⟨⟨h1,h2⟩,h3⟩,h4⟩,h5⟩:=hr
 cases h5
 have ht:=h.take hlo
 simp only [ht]
 refine ⟨aX.src _ _ ht (aM h2) h1 (osubs_of h3 fun j b hj=>?_) (Ou h4),Keep.app⟩
 unfold fK
 rw [if_neg oO,Nat.add_sub_cancel_left,hj]
theorem adP {σ0 σ:Heap} {lo:Nat} {v:Value} {r:Value×Heap×Nat} (h:Keep lo σ0 σ) (hr:retK σ0.length lo v σ=some r):aX σ0 σ v r.1 r.2.1∧Keep r.2.2 σ0 r.2.1:=by
 unfold retK at hr
 cases hb:Nat.ble σ0.length lo with
 |false=>rw [hb] at hr;exact MF h hr
 |true =>
  rw [hb] at hr
  simp only [cond_true] at hr
  split at hr
  ·rename_i r' a
   cases hr
   exact YR h (cA hb) a
  ·exact MF h hr
theorem Ig {P:Program} {T:Tab} (hT:gZ P T) {e:Env} {tr:PT} {σ:Heap} (ha:Agr e tr):∀ {rv:List ResultVar} {vs:List Value},resT T tr σ rv=some vs→tq P e σ rv vs
 |[],vs,h=>by cases h;exact .nil
 |.tmp t::rv,vs,h=>by
  simp only [resT,aL] at h
  obtain ⟨v,h1,us,h2,h3⟩:=h
  cases h3
  exact .tmp (ha t v h1) (Ig hT ha h2)
 |.cell a ty::rv,vs,h=>by
  simp only [resT,aL] at h
  obtain ⟨v,⟨p,h1,d⟩,us,h2,h3⟩:=h
  cases h3
  obtain ⟨i,o,size,bytes,z,agg,rfl,c,h4,h5⟩:=X7 hT d
  rcases h5 with ⟨rfl,h5⟩|⟨rfl,cs,h5,h6⟩
  ·exact .cell1 c (ha a _ h1) h5 (Ig hT ha h2)
  ·rw [h6];exact .cellN c (ha a _ h1) h5 (Ig hT ha h2)
theorem MG:∀ (mk:List Nat) (n:Nat) (σ:Heap),Keep (minL n mk) σ (kE mk σ)
 |[],n,σ=>Keep.refl
 |i::l,n,σ=>by
  simp only [kE,minL,qh]
  exact Keep.set.trans (MG l n _)
theorem adQ {mk:List Nat} {σ:Heap} (h:mkOk mk σ=true):mk.Nodup∧∀ i ∈ mk,σ[i]?=some .dfr:=by
 simp only [mkOk,aE,decide_eq_true_eq,eo] at h
 refine ⟨h.1,fun i hi=>?_⟩
 have:=h.2 i hi
 unfold af8 at this
 split at this
 ·assumption
 ·cases this
theorem Ih {u v:Value} (h:aep u v=true):u=v:=by
 unfold aep at h
 split at h
 ·rename_i l hl
  split at h
  ·rename_i l' a
   rw [mD hl,mD a,pG h]
  ·cases h
 ·exact VP h
theorem adR {a b:Heap} (h:eqHp a b=true):a=b:=by
 unfold eqHp at h
 simp only [aE] at h
 have hl:=aM h.1
 refine fx fun i=>?_
 by_cases hi:i<a.length
 ·exact (VR h.2 i hi).symm
 ·rw [eM oO,eM oO]
theorem vw {i:Nat} {l:List Nat}:Ht i l=true↔i ∈ l:=by
 unfold Ht
 rw [List.any_eq_true]
 constructor
 ·rintro ⟨x,h1,h2⟩;rw [aM h2];exact h1
 ·intro h;exact ⟨i,h,Nat.beq_refl i⟩
theorem MH (L:Nat→Bool):∀ ws:List Nat,ws.filter L ∈ Nv ws
 |[]=>by simp [Nv]
 |i::r=>by
  have ih:=MH L r
  simp only [Nv,List.mem_append,List.mem_map]
  by_cases h:L i=true
  ·rw [List.filter_cons_of_pos h];exact .inr ⟨_,ih,rfl⟩
  ·rw [List.filter_cons_of_neg h];exact .inl ih
theorem Gv:∀ {l:List Oper} {j i:Nat},i ∈ tN l j→i<j+l.length
 |[],_,_,h=>by simp [tN] at h
 |o::r,j,i,h=>by
  simp only [tN] at h
  have a:i ∈ tN r (j+1)→i<j+(o::r).length:=fun h=>by have:=Gv h;simp;omega
  cases hl:VJ o.op with
  |true =>
   rw [hl] at h
   rcases List.mem_cons.1 h with rfl|h
   ·simp
   ·exact a h
  |false=>rw [hl] at h;exact a h
section
variable {P:Program} {F:Fence} {n:Nat} {Q':Exit→Act→World→Prop} {l:List Oper}
end
def Ho:List Oper→Env→Env
 |[],e=>e
 |o::r,e=>match o.dst with|some d=>Late.zB d (Ho r e)|none=>Ho r e
theorem aaD {e:Env} {tr:PT} (ha:Agr e tr) (d:Nat):Agr (Late.zB d e) (tr.del d):=fun t u ht=>by
 have a:t ≠ d:=by
  rintro rfl
  rw [Trie.del_self] at ht;cases ht
 have h:=ha t u (Trie.del_get _ _ _ ht)
 have c:∀ {e:Env},Env.get (Late.zB d e) t=Env.get e t:=fun {e}=>by
  induction e with
  |nil=>rfl
  |cons p e ih =>
   obtain ⟨k,v⟩:=p
   simp only [Late.zB]
   cases hk:Nat.beq k d with
   |true =>
    have:=aM hk
    subst this
    simp only [cond_true,Env.get]
    rw [ih,show Nat.beq k t=false from jl (Ne.symm a)];rfl
   |false =>
    simp only [cond_false,Env.get]
    rw [ih]
 rw [c];exact h
theorem I5 {e:Env} {tr:PT} (ha:Agr e tr):∀ l:List Oper,Agr (Ho l e) (Fq l tr)
 |[]=>ha
 |o::r=>by
  simp only [Ho,Fq]
  cases o.dst with
  |none=>exact I5 ha r
  |some d=>exact aaD (I5 ha r) d
theorem I7 {e:Env} {t:Nat} {v:Value}:∀ {l:List Oper},Env.get (Ho l e) t=some v→Env.get e t=some v
 |[],h=>h
 |o::r,h=>by
  simp only [Ho] at h
  cases hd:o.dst with
  |none=>rw [hd] at h;exact I7 (l:=r) h
  |some d=>rw [hd] at h;exact I7 (l:=r) (Late.yu h).2
theorem EJ {e:Env} {d:Nat}:∀ {l:List Oper} {o:Oper},o ∈ l→o.dst=some d→Env.get (Ho l e) d=none
 |[],_,h,_=>by simp at h
 |a::r,o,h,hd=>by
  cases hg:Env.get (Ho (a::r) e) d with
  |none=>rfl
  |some v =>
   exfalso
   simp only [Ho] at hg
   cases ha:a.dst with
   |none =>
    rw [ha] at hg
    rcases List.mem_cons.1 h with rfl|h
    ·rw [ha] at hd;cases hd
    ·rw [EJ h hd] at hg;cases hg
   |some d' =>
    rw [ha] at hg
    obtain ⟨h1,h2⟩:=Late.yu hg
    rcases List.mem_cons.1 h with rfl|h
    ·rw [ha] at hd;cases hd;exact h1 rfl
    ·rw [EJ h hd] at h2;cases h2
def Ov (all:List Oper) (vs:List Value):List Edge→Env→Env
 |[],e=>e
 |a::r,e=>bif Region.binds .any a then (match (all[a.on]?).bind (·.dst) with|some d=>(d,vN vs a.on)::Ov all vs r e|none=>Ov all vs r e) else Ov all vs r e
theorem Du {all:List Oper} {vs:List Value} {e:Env} {tr:PT} (ha:Agr e tr):∀ l:List Edge,Agr (Ov all vs l e) (Zn all vs l tr)
 |[]=>ha
 |a::r=>by
  simp only [Ov,Zn]
  cases Region.binds .any a with
  |false=>exact Du ha r
  |true =>
   simp only [cond_true]
   cases hd:(all[a.on]?).bind (fun x=>x.dst) with
   |none=>exact Du ha r
   |some d=>exact (Du ha r).put d _
theorem QS {all:List Oper} {vs:List Value} {e:Env} {t:Nat} {u:Value}:∀ {l:List Edge},Env.get (Ov all vs l e) t=some u→Env.get e t=some u∨∃ a ∈ l,Region.binds .any a=true∧∃ o':Oper,all[a.on]?=some o'∧o'.dst=some t∧u=vN vs a.on
 |[],h=>.inl h
 |a::r,h=>by
  have up:Env.get (Ov all vs r e) t=some u→Env.get e t=some u∨∃ b ∈ a::r,Region.binds .any b=true∧∃ o':Oper,all[b.on]?=some o'∧o'.dst=some t∧u=vN vs b.on:=fun h=>by
   rcases QS h with h|⟨b,h1,h2⟩
   ·exact .inl h
   ·exact .inr ⟨b,dT _ h1,h2⟩
  simp only [Ov] at h
  cases hb:Region.binds .any a with
  |false=>rw [hb] at h;exact up h
  |true =>
   rw [hb] at h
   simp only [cond_true] at h
   split at h
   ·rename_i d hd
    obtain ⟨o',h1,h2⟩:=Option.bind_eq_some_iff.1 hd
    simp only [Env.get] at h
    cases hk:Nat.beq d t with
    |true =>
     rw [hk] at h
     have:=aM hk
     subst this
     cases h
     exact .inr ⟨a,fR ..,hb,o',h1,h2,rfl⟩
    |false=>rw [hk] at h;exact up h
   ·exact up h
def Gw (vs:List Value):List Oper→Nat→Env→Env
 |[],_,e=>e
 |o::r,j,e=>match o.dst with|some d=>(d,vN vs j)::Gw vs r (j+1) e|none=>Gw vs r (j+1) e
theorem EK {vs:List Value} {e:Env} {tr:PT} (ha:Agr e tr):∀ (l:List Oper) (j:Nat),Agr (Gw vs l j e) (SB vs l j tr)
 |[],_=>ha
 |o::r,j=>by
  simp only [Gw,SB]
  cases o.dst with
  |none=>exact EK ha r (j+1)
  |some d=>exact (EK ha r (j+1)).put d _
theorem MI {vs:List Value} {e:Env} {t:Nat} {u:Value}:∀ {l:List Oper} {j:Nat},Env.get (Gw vs l j e) t=some u→Env.get e t=some u∨∃ (k:Nat) (o':Oper),l[k]?=some o'∧o'.dst=some t∧u=vN vs (j+k)
 |[],_,h=>.inl h
 |o::r,j,h=>by
  have up:Env.get (Gw vs r (j+1) e) t=some u→Env.get e t=some u∨∃ (k:Nat) (o':Oper),(o::r)[k]?=some o'∧o'.dst=some t∧u=vN vs (j+k):=fun h=>by
   rcases MI h with h|⟨k,o',h1,h2,h3⟩
   ·exact .inl h
   ·exact .inr ⟨k+1,o',h1,h2,by rw [h3];congr 1;omega⟩
  simp only [Gw] at h
  cases hd:o.dst with
  |none=>rw [hd] at h;exact up h
  |some d =>
   rw [hd] at h
   simp only [Env.get] at h
   cases hk:Nat.beq d t with
   |true =>
    rw [hk] at h
    have:=aM hk
    subst this
    cases h
    exact .inr ⟨0,o,rfl,hd,rfl⟩
   |false=>rw [hk] at h;exact up h
theorem EL {N:Nat}:∀ {l:List Oper} {ds:List Nat} {j:Nat},Eb N l ds j=true→∀ (k:Nat) (o:Oper),l[k]?=some o→o.guard=none∧(∀ i,waits o i=true→i<j+k)∧∀ d,o.dst=some d→d<N∧d ∉ ds∧∀ (i:Nat) (o':Oper),i ≠ k→l[i]?=some o'→o'.dst ≠ some d
 |[],_,_,_,k,o,h=>by simp at h
 |a::r,ds,j,h,k,o,hk=>by
  simp only [Eb,aE] at h
  obtain ⟨⟨⟨h1,h2⟩,h3⟩,h4⟩:=h
  have c:∀ d,a.dst=some d→∀ (i:Nat) (o':Oper),r[i]?=some o'→o'.dst ≠ some d:=fun d hd i o' hi e=>by
   rw [hd] at h4
   have:=((EL h4 i o' hi).2.2 d e).2.1
   simp at this
  cases k with
  |zero =>
   simp at hk
   subst hk
   refine ⟨by simpa using h1,fun i hw=>?_,fun d hd=>?_⟩
   ·unfold waits bT at hw
    obtain ⟨x,hx,hb⟩:=Array.any_eq_true'.1 hw
    simp only [aE] at hb
    have:=List.all_eq_true.1 h2 x (oU hx)
    simp only [hb.1,Bool.not_true,Bool.false_or,bX] at this
    rw [← aM hb.2];exact this
   ·rw [hd] at h3
    simp only [aE,bX,eQ] at h3
    refine ⟨h3.1,fun hm=>?_,fun i o' hi f e=>?_⟩
    ·have:=vw.2 hm
     unfold Ht at this
     rw [this] at h3;cases h3.2
    ·cases i with
     |zero=>exact hi rfl
     |succ i=>exact c d hd i o' (oU f) e
  |succ k =>
   have g:r[k]?=some o:=by simpa using hk
   obtain ⟨g1,g2,g3⟩:=EL h4 k o g
   refine ⟨g1,fun i hw=>by have:=g2 i hw;omega,fun d hd=>?_⟩
   obtain ⟨q1,q2,q3⟩:=g3 d hd
   refine ⟨q1,fun hm=>q2 ?_,fun i o' hi f e=>?_⟩
   ·cases a.dst with
    |none=>exact hm
    |some d'=>exact dT _ hm
   ·cases i with
    |zero =>
     simp at f
     subst f
     exact c d e k o g hd
    |succ i=>exact q3 i o' oO (oU f) e
section
variable {P:Program} {T:Tab} {call:jk} {N:Nat} {rd:Option Nat} {tr e0:PT} {mk:List Nat} {σ:Heap} {all:List Oper} {vs:List Value}
theorem uT {sel sel':Nat→Bool}:∀ {ws:List Nat} {σ:Heap} {lo:Nat},(∀ i ∈ ws,sel i=sel' i)→hOf T call N all vs e0 sel ws σ lo=hOf T call N all vs e0 sel' ws σ lo
 |[],_,_,_=>rfl
 |i::r,σ,lo,h=>by
  have hr:∀ i ∈ r,sel i=sel' i:=fun i hi=>h i (dT _ hi)
  simp only [hOf]
  rw [h i (fR ..)]
  cases sel' i with
  |false=>exact uT hr
  |true =>
   simp only [cond_true]
   congr 1;funext o;congr 1;funext q
   exact uT hr
theorem I8 (hT:gZ P T) (hc:iK P call) {sel:Nat→Bool} {σ0:Heap}:∀ {ws:List Nat} {σ:Heap} {lo:Nat} {h:Heap×Nat},hOf T call N all vs e0 sel ws σ lo=some h→Keep lo σ0 σ→Keep h.2 σ0 h.1
 |[],σ,lo,h,hh,hk=>by cases hh;exact hk
 |i::r,σ,lo,h,hh,hk=>by
  simp only [hOf] at hh
  cases hs:sel i with
  |false=>rw [hs] at hh;exact I8 hT hc hh hk
  |true =>
   rw [hs] at hh
   simp only [cond_true,aL] at hh
   obtain ⟨o,_,q,h2,h3⟩:=hh
   have:=(Am hT hc (e:=D8 _) xM h2).2
   refine I8 hT hc h3 ?_
   simp only [qh]
   exact hk.trans this
theorem aaE {ws:List Nat} {lo:Nat}:hOf T call N all vs e0 (fun _=>false) ws σ lo=some (σ,lo):=by
 induction ws with
 |nil=>rfl
 |cons i r ih=>simp only [hOf,cond_false];exact ih
theorem QT {ws ms:List Nat} {Tl:List Nat} {h:Heap}:∀ {l:List Oper} {j:Nat},Zo T call N all vs e0 ws ms σ Tl h l j=true→∀ (k:Nat) (o:Oper),l[k]?=some o →
  Ht (j+k) Tl=true∨Tl.any (fun i=>(ms.getD i 0).testBit (j+k))=true∨chkO T call N all vs e0 ws σ Tl h o (j+k)=true
 |[],_,_,k,o,h=>by simp at h
 |a::r,j,hh,k,o,hk=>by
  simp only [Zo,aE,eq] at hh
  cases k with
  |zero =>
   simp at hk
   subst hk
   rcases hh.1 with (h1|h1)|h1
   ·exact .inl h1
   ·exact .inr (.inl h1)
   ·exact .inr (.inr h1)
  |succ k =>
   have:=QT hh.2 k o (oU hk)
   rwa [show j+1+k=j+(k+1) by omega] at this
theorem QU {ws ms:List Nat}:∀ {l:List (List Nat)},aer T call N all vs e0 ws ms σ l=true→∀ Tl ∈ l,∃ h,hOf T call N all vs e0 (fun i=>Ht i Tl) ws σ σ.length=some h∧h.1.length=σ.length∧Zo T call N all vs e0 ws ms σ Tl h.1 all 0=true
 |[],_,_,h=>by simp at h
 |T0::r,hh,Tl,hm=>by
  simp only [aer,aE] at hh
  rcases List.mem_cons.1 hm with rfl|hm
  ·have h1:=hh.1
   split at h1
   ·rename_i h a
    simp only [aE,fV] at h1
    exact ⟨h,a,aM h1.1,h1.2⟩
   ·cases h1
  ·exact QU hh.2 Tl hm
theorem agv {n0:Nat} {c:Code} {Q:Post} {e e2:Env} (h:∀ t v,Env.get e2 t=some v→Env.get e t=some v) (k:bK P n0 N rd c Q e2 mk σ):bK P n0 N rd c Q e mk σ:=by
 rintro G w0 ρ0 A w ⟨h0,ρ,a,hs,he⟩
 exact k G w0 ρ0 A w ⟨h0,ρ,a,hs,⟨he.tmps.1,fun t v hv=>he.tmps.2 t v (h t v hv)⟩,he.mks,he.mkb⟩
theorem adS (hT:gZ P T) (hc:iK P call) (hmix:P.follows .mixedOrders=true) {id:Nat} {code:qH} {r:Exit×PT×List Nat×Heap×Nat} (h:aes all T call code N rd tr mk σ=some r) :
  (∀ (n0:Nat) (e:Env) (Q:Post),lQ rd n0=true→Agr e tr→(∀ e',Agr e' r.2.1→Q r.1 e' r.2.2.1 r.2.2.2.1)→bK P n0 N rd (.region id all.toArray true) Q e mk σ)∧Keep r.2.2.2.2 σ r.2.2.2.1:=by
 simp only [aes,aL,fV,af0,aN,aE] at h
 obtain ⟨_,r0,_,⟨⟨_,C⟩,c⟩,hF,hf,h⟩:=h
 cases h
 generalize valsN r0.1 all=vs at C c hf
 obtain ⟨ws,B⟩:∃ ws,ws=tN all 0:=⟨_,rfl⟩
 rw [← B] at c hf
 have l:∀ i ∈ ws,i<all.length:=fun i hi=>by rw [B] at hi;have:=Gv hi;omega
 refine ⟨fun n0 e Q E ha hQ=>?_,I8 hT hc hf Keep.refl⟩
 refine agv (e2:=Ho all e) (fun t v hv=>I7 hv) ?_
 have A:=I5 ha all
 have w:∀ L:Nat→Bool,∃ h,hOf T call N all vs (Fq all tr) L ws σ σ.length=some h∧h.1.length=σ.length∧Zo T call N all vs (Fq all tr) ws (nH all []) σ (ws.filter L) h.1 all 0=true:=fun L=>by
  obtain ⟨h,h1,h2,h3⟩:=QU c (ws.filter L) (MH L ws)
  refine ⟨h,?_,h2,h3⟩
  rw [← h1]
  refine uT fun i hi=>?_
  cases hL:L i with
  |true=>exact (vw.2 (List.mem_filter.2 ⟨hi,hL⟩)).symm
  |false =>
   cases hm:Ht i (ws.filter L) with
   |false=>rfl
   |true=>have:=(List.mem_filter.1 (vw.1 hm)).2;rw [hL] at this;cases this
 let Hp:(Nat→Bool)→Heap:=fun L=>match hOf T call N all vs (Fq all tr) L ws σ σ.length with|some h=>h.1|none=>σ
 have f:∀ {L:Nat→Bool} {h:Heap×Nat},hOf T call N all vs (Fq all tr) L ws σ σ.length=some h→Hp L=h.1:=fun {L h} hh=>by simp only [Hp,hh]
 refine OV hmix E (vN vs) Hp (fun j=>match all[j]? with|some o=>Ov all vs o.after.toList (Ho all e)|none=>[]) (fun L=>?_) (by rw [f aaE]) (fun j o ho=>?_) (fun j o ho t u ht=>?_) (fun L j o ho z hw n=>?_) (fun L x=>⟨Gw vs all 0 (Ho all e),fun t u ht=>?_,?_⟩)
 ·obtain ⟨h,h1,h2,_⟩:=w L
  rw [f h1,h2]
 ·obtain ⟨g1,g2,g3⟩:=EL C j o ho
  refine ⟨g1,fun i hi=>by have:=g2 i hi;omega,fun d hd=>?_⟩
  obtain ⟨q1,_,q3⟩:=g3 d hd
  exact ⟨q1,EJ (ew ho) hd,q3⟩
 ·simp only [ho] at ht
  rcases QS ht with h|⟨a,h1,h2,o',h3,h4,h5⟩
  ·exact .inl h
  ·refine .inr ⟨a.on,o',?_,h3,h4,h5⟩
   unfold waits bT
   rw [Array.any_eq_true']
   exact ⟨a,by simpa using h1,by simp [h2]⟩
 ·obtain ⟨h,h1,h2,h3⟩:=w L
  rw [f h1]
  simp only [ho]
  rcases QT h3 j o ho with g|g|g
  ·rw [bA] at g
   have:=(List.mem_filter.1 (vw.1 g)).2
   rw [z] at this;cases this
  ·exfalso
   rw [bA] at g
   obtain ⟨i,g1,g2⟩:=List.any_eq_true.1 g
   obtain ⟨g3,g4⟩:=List.mem_filter.1 g1
   have y:=l i g3
   have hm:(nH all [])[i]?=some ((nH all []).getD i 0):=by
    rw [cE] at g2 ⊢
    cases hx:(nH all [])[i]? with
    |none=>rw [hx] at g2;simp at g2
    |some m=>rfl
   have p:=BU (all:=all) all [] oS oS (fun _ _ h=>by simp at h) i _ hm
   have:=p (fun k=>L k=true) (fun k o' hk D q hq=>n k o' hk D q hq) all[i] (cC y) (fun k hk=>n i _ (cC y) g4 k hk) j g2
   rw [z] at this;cases this
  ·rw [bA] at g
   unfold chkO at g
   split at g
   ·rename_i q hq
    simp only [aE] at g
    obtain ⟨gv,gw⟩:=g
    obtain ⟨s1,s2⟩:=Am hT hc (Du A o.after.toList) hq
    refine ⟨q.1,?_,fun hd=>?_⟩
    ·cases hm:Ht j ws with
     |true =>
      rw [hm] at gw
      simp only [cond_true] at gw
      split at gw
      ·rename_i F G
       have e1:hOf T call N all vs (Fq all tr) (jR L j) ws σ σ.length=some F:=by
        rw [← G]
        refine uT fun i hi=>?_
        unfold jR
        by_cases s:i=j
        ·subst s;simp
        ·rw [if_neg s,jl (Ne.symm s),Bool.false_or]
         cases hL:L i with
         |true=>exact (vw.2 (List.mem_filter.2 ⟨hi,hL⟩)).symm
         |false =>
          cases hm:Ht i (ws.filter L) with
          |false=>rfl
          |true=>have:=(List.mem_filter.1 (vw.1 hm)).2;rw [hL] at this;cases this
       rw [f e1,← adR gw]
       exact s1 rd o.type
      ·cases gw
     |false =>
      rw [hm] at gw
      simp only [cond_false,aE] at gw
      have e1:hOf T call N all vs (Fq all tr) (jR L j) ws σ σ.length=some h:=by
       rw [← h1]
       refine uT fun i hi=>?_
       unfold jR
       rw [if_neg fun s=>by rw [← s,vw.2 hi] at hm;cases hm]
      have e2:q.2.1=h.1:=by
       have k1:=(s2.mono (cA gw.1)).eq_app
       have k2:=aM gw.2
       rw [k1,eL oO,bL]
      rw [f e1]
      have:=s1 rd o.type
      rw [e2] at this
      exact this
    ·unfold chkV at gv
     split at gv
     ·exact Ih gv
     ·rename_i hn;rw [hn] at hd;cases hd
   ·cases g
 ·rcases MI ht with h|⟨k,o',h1,h2,h3⟩
  ·exact .inl h
  ·exact .inr ⟨k,o',h1,h2,by rw [h3,bA]⟩
 ·have e1:hOf T call N all vs (Fq all tr) L ws σ σ.length=some hF:=by
   rw [← hf]
   exact uT fun i hi=>x i (l i hi)
  rw [f e1]
  exact hQ _ (EK A all 0)
end
def nX (P:Program) (code:qH):Prop:=∀ (c:Code) (N:Nat) (rd:Option Nat) (tr:PT) (mk:List Nat) (σ:Heap) (r:Exit×PT×List Nat×Heap×Nat),code c N rd tr mk σ=some r →
 (∀ (n0:Nat) (e:Env) (Q:Post),lQ rd n0=true→Agr e tr→(∀ e',Agr e' r.2.1→Q r.1 e' r.2.2.1 r.2.2.2.1)→bK P n0 N rd c Q e mk σ)∧Keep r.2.2.2.2 σ r.2.2.2.1
section
variable {P:Program} {T:Tab} {call:jk} {code:qH} {N:Nat} {rd:Option Nat} {tr:PT} {mk:List Nat} {σ:Heap} {all:List Oper}
theorem QV {ex:Exit} (h:JF ex=true):ex=.normal:=by unfold JF at h;split at h <;> simp_all
def OpsOk (P:Program) (N:Nat) (rd:Option Nat) (all rest:List Oper) (tr:PT) (σ:Heap) (r:PT×Heap×Nat):Prop :=
 (∀ (n0:Nat) (e:Env) (mk:List Nat) (K:Env→List Nat→Heap→Prop),lQ rd n0=true→Agr e tr→(∀ e',Agr e' r.1→K e' mk r.2.1)→bZ P n0 N rd all rest K e mk σ)∧Keep r.2.2 σ r.2.1
def Xn (P:Program) (N:Nat) (rd:Option Nat) (all:List Oper) (o:Oper) (tr:PT) (σ:Heap) (r:PT×Heap×Nat):Prop :=
 (∀ (n0:Nat) (e:Env) (mk:List Nat) (rest:List Oper) (K:Env→List Nat→Heap→Prop),lQ rd n0=true→Agr e tr→(∀ e',Agr e' r.1→bZ P n0 N rd all rest K e' mk r.2.1)→bZ P n0 N rd all (o::rest) K e mk σ)∧Keep r.2.2 σ r.2.1
theorem UO (hT:gZ P T) (hc:iK P call) {o:Oper} {r:PT×Heap×Nat} (h:O4 T call N o tr σ=some r) (hw:∀ e,Agr e tr→jU all e o=some true):Xn P N rd all o tr σ r:=by
 simp only [O4,aL] at h
 obtain ⟨q,h1,t1,h2,h3⟩:=h
 cases h3
 refine ⟨fun n0 e mk rest K a ha hK=>?_,(Am hT hc (e:=D8 tr) xM h1).2⟩
 obtain ⟨h4,h5⟩:=Ie ha h2
 exact agL a (hw e ha) h4 ((Am hT hc ha h1).1 _ _) (hK _ h5)
theorem Xo {d l lo:Nat} {σ2:Heap} {ob:aB} {ex:Exit} {r:PT×Heap×Nat} (h:endY N d l tr σ2 lo ob ex=some r) (hσ:σ2[l]?=some ob):Nat.blt d N=true∧r.2.2=lo∧(∃ o,r.2.1=σ2.set l o) ∧
  ∀ (n0:Nat) (e:Env) (mk:List Nat) (rest:List Oper) (K:Env→List Nat→Heap→Prop),Agr e tr→(∀ e',Agr e' r.1→bZ P n0 N none all rest K e' mk r.2.1)→∀ e2 mk2,eH P n0 N all rest K d l e mk ex e2 mk2 σ2:=by
 unfold endY at h
 split at h
 ·simp only [aN,aE] at h
  obtain ⟨⟨h1,h2⟩,h3⟩:=h
  cases h3
  exact ⟨h2,rfl,⟨_,rfl⟩,fun n0 e mk rest K ha hK e2 mk2=>⟨ob,hσ,h1,hK _ (ha.put d _)⟩⟩
 ·simp only [aN,aE] at h
  obtain ⟨⟨h1,h2⟩,h3⟩:=h
  cases h3
  exact ⟨h2,rfl,⟨_,rfl⟩,fun n0 e mk rest K ha hK e2 mk2=>⟨ob,hσ,h1,hK _ (ha.put d _)⟩⟩
 ·simp only [aN,aE] at h
  obtain ⟨⟨h1,h2⟩,h3⟩:=h
  cases h3
  exact ⟨h2,rfl,⟨_,rfl⟩,fun n0 e mk rest K ha hK e2 mk2=>⟨ob,hσ,h1,hK _ (ha.put d _)⟩⟩
 ·cases h
theorem aaF (hcode:nX P code) {o:Oper} {y:Nat×List Value} {r:PT×Heap×Nat} (hy:yieldOf tr o rd=some y) (h:JG code N o.dst tr σ y=some r) (hw:∀ e,Agr e tr→jU all e o=some true):Xn P N rd all o tr σ r:=by
 unfold yieldOf at hy
 split at hy
 ·obtain ⟨hd,hy⟩:=aN.1 hy
  obtain ⟨dst,op,ty,pos,after,g⟩:=o
  simp only [JG,aL] at h
  obtain ⟨d,rfl,ob,h1,h2⟩:=h
  simp only at hy h1 h2 hw
  cases op with
  |call c =>
   obtain ⟨u,⟨args⟩,ts⟩:=c
   cases u with
   |value x =>
    simp only [XQ,abt,aL] at hy
    obtain ⟨l,⟨w,g1,g2⟩,vs,g3,g4⟩:=hy
    cases g4
    have t:w=.func (.yield l) #[] #[]:=by unfold XE at g2;split at g2 <;> cases g2;rfl
    subst t
    simp only at h1 h2
    unfold abu at h2
    split at h2
    ·rename_i p0 N' e' ps assign body
     obtain ⟨ps⟩:=ps
     simp only [aN,aE,aL] at h2
     obtain ⟨⟨k1,k2⟩,r1,k3,k4,ob1,k5,k6⟩:=h2
     obtain ⟨ex1,t1,mk1,σ1,k⟩:=r1
     have k4:=QV k4
     simp only at k4 k5 k6
     subst k4
     unfold afY at k6
     split at k6
     ·rename_i a N2 e2 p as2 m
      simp only [aL] at k6
      obtain ⟨r2,k7,ob2,k8,k9⟩:=k6
      obtain ⟨ex2,t2,q,σ2,s⟩:=r2
      simp only at k8 k9
      have j:Nat.blt l σ.length=true:=Nat.blt_eq.mpr (aQ h1)
      obtain ⟨c1,c2⟩:=hcode _ _ _ _ _ _ _ k3
      obtain ⟨c3,c4⟩:=hcode _ _ _ _ _ _ _ k7
      have he:=Xo (P:=P) (all:=all) k9 k8
      obtain ⟨b1,b2,⟨o9,b3⟩,_⟩:=he
      constructor
      ·intro n0 e mk f K hrd ha hK
       refine Fa (um ha g1) (JI ha g3) h1 k1 k2 b1 (fun _ n ρ A hE=>yV (hw e ha) hE) ?_
       refine c1 σ.length _ _ j (Mc Me) fun e3 a3=>?_
       refine ⟨N2,e2,p,as2,m,a,k5,?_⟩
       refine c3 σ.length _ _ j a3 fun e4 a4=>?_
       exact (Xo (P:=P) (all:=all) k9 k8).2.2.2 n0 e mk f K ha hK e4 q
      ·rw [b2,b3]
       simp only [qh]
       have q1:Keep (min k l) σ (σ1.set l (.loop .busy a N2 e2 p as2 m)):=c2.trans Keep.set
       have q2:Keep (min (min k l) s) σ σ2:=q1.trans c4
       exact (q2.trans (Keep.set (i:=l))).mono (by simp only [Nat.le_min];omega)
     ·cases k6
    ·cases h2
   |_=>cases hy
  |_=>cases hy
 ·cases hy
theorem MJ (hT:gZ P T) (hc:iK P call) (hcode:nX P code) {o:Oper} {b:Bool} {r:PT×Heap×Nat} (hw:∀ e,Agr e tr→jU all e o=some b) (h:JH T call code N rd o tr σ b=some r):Xn P N rd all o tr σ r:=by
 cases b with
 |false =>
  simp only [JH,aL] at h
  obtain ⟨t1,h1,h2⟩:=h
  cases h2
  refine ⟨fun n0 e mk rest K hrd ha hK=>?_,Keep.refl⟩
  obtain ⟨h4,h5⟩:=Ie ha h1
  exact ad9 (hw e ha) h4 (hK _ h5)
 |true =>
  simp only [JH] at h
  split at h
  ·rename_i y hy;exact aaF hcode hy h hw
  ·exact UO hT hc h hw
theorem EM (hT:gZ P T) (hc:iK P call) (hcode:nX P code):∀ {rest:List Oper} {tr:PT} {σ:Heap} {r:PT×Heap×Nat},CU T call code N rd all rest tr σ=some r→OpsOk P N rd all rest tr σ r
 |[],tr,σ,r,h=>by cases h;exact ⟨fun n0 e mk K _ ha hK=>kP (hK e ha),Keep.refl⟩
 |o::rest,tr,σ,r,h=>by
  simp only [CU,afZ,aL] at h
  obtain ⟨b,h1,r1,h2,r2,h3,h4⟩:=h
  cases h4
  obtain ⟨g1,g2⟩:=MJ (all:=all) hT hc hcode (fun e ha=>Oq ha h1) h2
  obtain ⟨g3,g4⟩:=EM hT hc hcode h3
  refine ⟨fun n0 e mk K a ha hK=>g1 n0 e mk rest K a ha fun e1 c=>g3 n0 e1 mk K a c hK,?_⟩
  simp only [qh];exact g2.trans g4
theorem seen_eq {β:Type} {L:Nat→Bool} {σ0:Heap} {k:Heap→β}:∀ {news:List (Nat×Heap)},seen L σ0 k news=k (σ0++gJ L news)
 |[]=>by simp [seen,gJ]
 |p::news=>by simp [seen,fV]
theorem vC (hT:gZ P T) (hc:iK P call) {σ0:Heap} {K:Env→List (Nat×Heap)→List Oper→Prop}:∀ {rest:List Oper} {k:Nat} {tr:PT} {e:Env} {news:List (Nat×Heap)} {r:PT×List (Nat×Heap)×List Oper},
  rest=all.drop k→Ea T call N all (nH all []) σ0 k rest tr news=some r→Agr e tr→(∀ e',Agr e' r.1→K e' r.2.1 r.2.2)→bM P N rd all k rest e σ0 news K
 |[],k,tr,e,news,r,_,h,ha,hK=>by cases h;exact hK e ha
 |o::rest,k,tr,e,news,r,hr,h,ha,hK=>by
  have hx:all[k]?=some o:=by
   have:=congrArg (fun l:List Oper=>l[0]?) hr
   simpa using this.symm
  have c:rest=all.drop (k+1):=by
   have:=congrArg List.tail hr
   simpa using this
  simp only [Ea] at h
  split at h
  ·rename_i r1 a
   simp only [aL] at a
   obtain ⟨b,h1,h2⟩:=a
   have hw:=Oq ha h1
   cases b with
   |false =>
    simp only [O6,aL] at h2
    obtain ⟨t1,h3,h4⟩:=h2
    cases h4
    obtain ⟨h5,h6⟩:=Ie ha h3
    exact .inr ⟨h5,.inr ⟨hw,vC hT hc c h h6 hK⟩⟩
   |true =>
    simp only [O6,seen_eq,SA,aL,aN,fV,aE] at h2
    obtain ⟨q,h3,⟨⟨h4,h5⟩,h6⟩,t1,h7,h8⟩:=h2
    cases h8
    obtain ⟨h9,d⟩:=Ie ha h7
    obtain ⟨g1,g2⟩:=Am hT hc ha h3
    have g3:=(g2.mono (cA h4)).eq_app
    refine .inr ⟨h9,.inl ⟨hw,q.1,_,by rw [← g3];exact g1 rd o.type,MB h5,?_,vC hT hc c h d hK⟩⟩
    have hlt:=(List.getElem?_eq_some_iff.1 hx).1
    by_cases hm:k<(nH all []).length
    ·have hg:(nH all [])[k]?=some ((nH all []).getD k 0):=by rw [cE,cC hm];rfl
     exact Xl hx (BU all [] oS oS (fun _ _ h=>by simp at h) k _ hg) (by rw [aR,qB]) h6
    ·have h0:(nH all []).getD k 0=0:=by rw [cE,eM oO];rfl
     rw [h0] at h6
     exact Xl hx (fun D _ o' _ _ i hi=>by simp at hi) (by rw [aR,qB]) h6
  ·cases h;exact .inl (hK e ha)
theorem Xp {x:Hr} {r:Exit×PT×List Nat×Heap×Nat} (h:abB mk x=some r):∃ q,x=some q∧r=(.normal,q.1,mk,q.2.1,q.2.2):=by
 simp only [abB,aL] at h
 obtain ⟨q,h1,h2⟩:=h
 exact ⟨q,h1,by cases h2;rfl⟩
theorem seq_ok (hcode:nX P code) {a b:Code} {r:Exit×PT×List Nat×Heap×Nat} (h:abw a b T call code N rd tr mk σ=some r) :
  (∀ (n0:Nat) (e:Env) (Q:Post),lQ rd n0=true→Agr e tr→(∀ e',Agr e' r.2.1→Q r.1 e' r.2.2.1 r.2.2.2.1)→bK P n0 N rd (.seq a b) Q e mk σ)∧Keep r.2.2.2.2 σ r.2.2.2.1:=by
 simp only [abw,aL] at h
 obtain ⟨⟨d,t1,mk1,σ1,lo1⟩,h1,h2⟩:=h
 obtain ⟨g1,g2⟩:=hcode _ _ _ _ _ _ _ h1
 simp only at g1 g2 h2
 unfold seqK at h2
 split at h2
 ·simp only [aL] at h2
  obtain ⟨⟨ex2,t2,mk2,σ2,lo2⟩,h3,h4⟩:=h2
  cases h4
  obtain ⟨g3,g4⟩:=hcode _ _ _ _ _ _ _ h3
  refine ⟨fun n0 e Q c ha hQ=>xR (g1 n0 e _ c ha fun e1 a1=>g3 n0 e1 Q c a1 hQ),?_⟩
  simp only [qh];exact g2.trans g4
 ·rename_i f
  cases h2
  refine ⟨fun n0 e Q c ha hQ=>xR (g1 n0 e _ c ha fun e1 a1=>?_),g2⟩
  have:=hQ e1 a1
  cases d with
  |normal=>exact absurd rfl f
  |_=>exact this
def Dv (P:Program) (N:Nat) (rd:Option Nat) (b:Code) (r:Exit×PT×List Nat×Heap×Nat):Nat→PT→List Nat→Heap→Prop
 |0,_,_,_=>False
 |m+1,tr,mk,σ=>∃ ex tr1 mk1 σ1,(∀ (n0:Nat) (e:Env) (Q:Post),lQ rd n0=true→Agr e tr→(∀ e',Agr e' tr1→Q ex e' mk1 σ1)→bK P n0 N rd b Q e mk σ) ∧
  ((ex=.normal∧Dv P N rd b r m tr1 mk1 σ1)∨(ex ≠ .normal∧r.1=ex∧r.2.1=tr1∧r.2.2.1=mk1∧r.2.2.2.1=σ1))
theorem adT {b:Code} {r:Exit×PT×List Nat×Heap×Nat} {m:Nat} (h:Dv P N rd b r m tr mk σ) {n0:Nat} {e:Env} {Q:Post} (hrd:lQ rd n0=true) (ha:Agr e tr) (hQ:∀ e',Agr e' r.2.1→Q r.1 e' r.2.2.1 r.2.2.2.1) :
  bK P n0 N rd (.loop b) Q e mk σ:=by
 refine UY (fun m e mk σ=>∃ tr,Agr e tr∧Dv P N rd b r m tr mk σ) (m0:=m) ⟨tr,ha,h⟩ ?_
 rintro m e mk σ ⟨tr,ha,h⟩
 cases m with
 |zero=>exact h.elim
 |succ m =>
  obtain ⟨ex,c,mk1,σ1,h1,h2⟩:=h
  refine h1 n0 e _ hrd ha fun e1 a1=>?_
  rcases h2 with ⟨rfl,h2⟩|⟨a,h3,h4,h5,h6⟩
  ·exact ⟨m,oO,c,a1,h2⟩
  ·have:=hQ e1 (by rw [h4];exact a1)
   rw [h3,h5,h6] at this
   cases ex with
   |normal=>exact absurd rfl a
   |_=>exact this
def Ox (P:Program) (code:qH):Prop:=∀ (b:Code) (N:Nat) (rd:Option Nat) (tr:PT) (mk:List Nat) (σ:Heap) (r:Exit×PT×List Nat×Heap×Nat),code (.loop b) N rd tr mk σ=some r→∃ m,Dv P N rd b r m tr mk σ
theorem QW (hcode:nX P code) (hl:Ox P code) {b:Code} {r:Exit×PT×List Nat×Heap×Nat} (h:abA b T call code N rd tr mk σ=some r):(∃ m,Dv P N rd b r m tr mk σ)∧Keep r.2.2.2.2 σ r.2.2.2.1:=by
 refine ⟨?_,(seq_ok hcode h).2⟩
 simp only [abA,abw,aL] at h
 obtain ⟨⟨d,t1,a,σ1,lo1⟩,h1,h2⟩:=h
 obtain ⟨g1,g2⟩:=hcode _ _ _ _ _ _ _ h1
 simp only at g1 g2 h2
 unfold seqK at h2
 split at h2
 ·simp only [aL] at h2
  obtain ⟨⟨ex2,t2,mk2,σ2,lo2⟩,h3,h4⟩:=h2
  cases h4
  obtain ⟨m,hm⟩:=hl _ _ _ _ _ _ _ h3
  refine ⟨m+1,.normal,t1,a,σ1,g1,.inl ⟨rfl,?_⟩⟩
  clear h1 g1 g2 h3
  induction m generalizing t1 a σ1 with
  |zero=>exact hm.elim
  |succ m ih =>
   obtain ⟨ex,f,c,σ3,q1,q2⟩:=hm
   refine ⟨ex,f,c,σ3,q1,?_⟩
   rcases q2 with ⟨q2,q3⟩|q2
   ·exact .inl ⟨q2,ih _ _ _ q3⟩
   ·exact .inr q2
 ·rename_i e
  cases h2
  exact ⟨1,d,t1,a,σ1,g1,.inr ⟨fun h=>e h,rfl,rfl,rfl,rfl⟩⟩
theorem Oy (hT:gZ P T) (hc:iK P call) (hcode:nX P code) {l:List Oper} {r:Exit×PT×List Nat×Heap×Nat} (h:Zm l T call code N rd tr mk σ=some r) :
  ∃ f,Ea T call N l (nH l []) σ 0 l tr []=some f∧drawOk l (l.length - f.2.2.length)=true ∧
   (∀ (n0:Nat) (e1:Env) (Q:Post),lQ rd n0=true→Agr e1 f.1→(∀ e',Agr e' r.2.1→Q r.1 e' r.2.2.1 r.2.2.2.1)→bZ P n0 N rd l f.2.2 (Q .normal) e1 mk (σ++gJ (fun _=>true) f.2.1))∧Keep r.2.2.2.2 σ r.2.2.2.1:=by
 simp only [Zm,regD,aL,aN,x9,seen_eq] at h
 obtain ⟨f,h1,h2,h3⟩:=h
 obtain ⟨q,h4,rfl⟩:=Xp h3
 simp only [aL] at h4
 obtain ⟨q0,h5,h6⟩:=h4
 cases h6
 obtain ⟨g1,g2⟩:=EM hT hc hcode h5
 refine ⟨f,h1,h2,fun n0 e1 Q a a1 hQ=>g1 n0 e1 mk _ a a1 hQ,?_⟩
 simp only [qh]
 exact (Keep.app (lo:=σ.length)).trans g2
end
theorem MK:∀ {l:List Oper} {j:Nat},Ec l j=true→∀ (k:Nat) (o:Oper),l[k]?=some o→∀ i,waits o i=true→i<j+k
 |[],_,_,k,o,h=>by simp at h
 |a::r,j,h,k,o,hk=>by
  simp only [Ec,aE] at h
  cases k with
  |zero =>
   simp at hk
   subst hk
   intro i hw
   unfold waits bT at hw
   obtain ⟨x,hx,hb⟩:=Array.any_eq_true'.1 hw
   simp only [aE] at hb
   have:=List.all_eq_true.1 h.1 x (oU hx)
   simp only [hb.1,Bool.not_true,Bool.false_or,bX] at this
   rw [← aM hb.2];exact this
  |succ k =>
   intro i hw
   have:=MK h.2 k o (oU hk) i hw
   omega
theorem Xq:∀ {a b:List Bool},VK a b=true→a=b
 |[],b,h=>by simp only [VK,List.isEmpty_iff] at h;exact h.symm
 |x::a,[],h=>by simp [VK] at h
 |x::a,y::b,h=>by
  simp only [VK,aE,beq_iff_eq] at h
  rw [h.1,Xq h.2]
theorem I9 {m:List Bool}:∀ {l:List CSt} {t:CSt},SG m l=some t→t ∈ l∧t.1=m
 |[],_,h=>by simp [SG] at h
 |x::l,t,h=>by
  simp only [SG] at h
  cases hb:VK x.1 m with
  |true=>rw [hb] at h;cases h;exact ⟨fR ..,Xq hb⟩
  |false=>rw [hb] at h;obtain ⟨h1,h2⟩:=I9 (l:=l) h;exact ⟨dT _ h1,h2⟩
theorem Xr {n:Nat} {π:Rho} {u v:Value} (h:aex n π u v=true):jG n π u v:=by
 unfold aex at h
 split at h
 ·rename_i p hp
  split at h
  ·rename_i q hq
   simp only [aE,bX] at h
   obtain ⟨⟨⟨⟨h1,h2⟩,h3⟩,h4⟩,h5⟩:=h
   rw [yY hp,yY hq,← aM h4,← aM h5,← aM h2]
   have:=VQ.gsliceG (q:=true) (n:=n) (ρ:=π) p.1 0 (p.2.2+1) (p.2.2+1) (p.2.2+1) p.2.1 ⟨aD _,fun _=>rfl⟩ h1 rfl
   rw [aM h3] at this
   exact this
  ·cases h
 split at h
 ·rename_i l hl
  split at h
  ·rename_i l' c
   simp only [aE] at h
   have h1:=aM h.1
   obtain ⟨_,h2⟩:=zI h.2
   rw [Aj hl,Aj c]
   exact .tuple _ _ (oU h1) fun i hi a=>by simpa using h2 i (oU hi) (oU a)
  ·cases h
 ·exact Ou h
theorem Dw {n:Nat} {π:Rho}:∀ {a b:List Value},GL n π a b=true→a.length=b.length∧∀ (i:Nat) (h:i<a.length) (h':i<b.length),jG n π a[i] b[i]
 |[],b,h=>by
  simp only [GL,List.isEmpty_iff] at h
  subst h;exact ⟨rfl,fun i hi=>by simp at hi⟩
 |u::us,[],h=>by simp [GL] at h
 |u::us,v::vs,h=>by
  simp only [GL,aE] at h
  obtain ⟨h1,h2⟩:=Dw h.2
  refine ⟨by simp [h1],fun i hi c=>?_⟩
  cases i with
  |zero=>exact Xr h.1
  |succ i=>exact h2 i (oU hi) (oU c)
theorem adU {σ:Heap} {n b:Nat} {π:Rho} {o:aB} (h:subX n π o σ[b]?=true):xZ σ n π ⟨b,0,0⟩ o:=by
 unfold subX at h
 cases hd:Fp o with
 |true=>rw [Fv hd];trivial
 |false =>
  rw [hd] at h
  simp only [cond_false] at h
  split at h
  ·rename_i a h2
   split at h
   ·rename_i cs hc
    obtain ⟨h3,h4⟩:=Dw h
    obtain ⟨x,hx,hc⟩:=Option.bind_eq_some_iff.1 hc
    rw [oL hc] at hx
    rw [oL h2]
    exact .inr ⟨rfl,cs,.inl hx,oO,h4⟩
   ·cases h
  split at h
  ·rename_i a h2
   split at h
   ·rename_i cs hc
    obtain ⟨h3,h4⟩:=Dw h
    obtain ⟨x,hx,hc⟩:=Option.bind_eq_some_iff.1 hc
    rw [rW hc] at hx
    rw [rW h2]
    exact .inr ⟨cs,hx,fun k hk=>⟨by simp only [bA];omega,by simpa using h4 k hk oO⟩⟩
   ·cases h
  split at h
  ·rename_i a h2
   split at h
   ·rename_i cs hc
    simp only [aE] at h
    obtain ⟨h3,h4⟩:=Dw h.2
    obtain ⟨x,hx,hc⟩:=Option.bind_eq_some_iff.1 hc
    rw [yZ hc,← aM h.1] at hx
    rw [yZ h2]
    exact .inr ⟨rfl,cs.1,hx,oO,h4⟩
   ·cases h
  ·simp only [aE] at h
   have ho:o=.dfr:=by
    have:=h.1
    unfold Pg at this
    split at this
    ·rfl
    ·cases this
   have h2:=h.2
   split at h2
   ·rename_i y hy
    have c:y=.dfr:=by
     unfold Pg at h2
     split at h2
     ·rfl
     ·cases h2
    rw [ho]
    show σ[b]?=some .dfr
    rw [hy,c]
   ·cases h2
theorem QX {σ:Heap} {n:Nat} {π:Rho}:∀ {l:Heap} {i:Nat},XZ n π σ i l=true→∀ (k:Nat) (o:aB),l[k]?=some o→(π (i+k)).s=0→xZ σ n π (π (i+k)) o
 |[],_,_,k,o,h,_=>by simp at h
 |a::r,i,h,k,o,hk,hs=>by
  simp only [XZ,aE] at h
  cases k with
  |zero =>
   simp at hk
   subst hk
   have h1:=adU h.1.1
   have e:π (i+0)=⟨(π i).b,0,0⟩:=by
    have h2:=aM h.1.2
    rw [cV] at hs ⊢
    cases hp:π i with
    |mk b o s=>rw [hp] at h2 hs;simp only at h2 hs;rw [h2,hs]
   rw [e];exact h1
  |succ k =>
   have:=QX h.2 k o (oU hk) (by rw [← hs];congr 2;omega)
   rwa [show i+1+k=i+(k+1) by omega] at this
theorem agw (n:Nat) (l:List Nat) (i:Nat):(fK n l i).s=0:=by
 unfold fK
 split
 ·rfl
 ·split <;> rfl
theorem aaG {n:Nat} {l:List Nat} (hd:dF n l=true) {i j:Nat} (hi:i<n+l.length) (hj:j<n+l.length) (h:(fK n l i).b=(fK n l j).b):i=j:=by
 simp only [dF,aE,eo,decide_eq_true_eq] at hd
 have ge:∀ q,¬ q<n→q<n+l.length→∃ h:q - n<l.length,(fK n l q).b=l[q - n]∧n≤l[q - n]:=by
  intro q hq hq2
  have h:q - n<l.length:=oO
  refine ⟨h,?_,cA (hd.1 _ (cP h))⟩
  simp only [fK]
  rw [if_neg hq,cC h]
 by_cases h1:i<n
 ·rw [fE h1] at h
  by_cases h2:j<n
  ·rw [fE h2] at h;exact h
  ·obtain ⟨_,g1,g2⟩:=ge j h2 hj
   rw [g1] at h
   simp only at h
   omega
 ·obtain ⟨k1,g1,g2⟩:=ge i h1 hi
  rw [g1] at h
  by_cases h2:j<n
  ·rw [fE h2] at h
   simp only at h
   omega
  ·obtain ⟨k2,g3,g4⟩:=ge j h2 hj
   rw [g3] at h
   have:=(List.getElem_inj hd.2).1 h
   omega
theorem aaH {n0 n1 N:Nat} {G:Nat→Prop} {w0:World} {ρ0:Rho} {A:Act} {w:World} {π:Rho} {σ σ2:Heap} {e e2:Env} {mk:List Nat} (hh:YZ n1 π σ σ2) (he:aaM σ2.length π e e2) (hn:n0≤n1) (hm:∀ i ∈ mk,i<n1) (hi:Inv n0 N G w0 ρ0 e mk σ A w):Inv n0 N G w0 ρ0 e2 mk σ2 A w:=by
 obtain ⟨h0,ρ,ha,hs,ht,a,hmb⟩:=hi
 exact ⟨ej hn hh.le,comp ρ π,fun i hi=>(comp_id (hh.id i oO)).trans (ha i hi),Io hh hs,Rj he ht,by rw [a];congr 1;exact eD fun i hi=>by rw [comp_id (hh.id i (hm i hi))],fun i hi=>fi (hm i hi) hh.le⟩
theorem agx {P:Program} {n0 N:Nat} {rd:Option Nat} {all:List Oper} {j:Nat} {o:Oper} {K:Env→List Nat→Heap→Prop} {e:Env} {mk:List Nat} {σ:Heap} {G:Nat→Prop} {w0:World} {ρ0:Rho} {A:Act} {w:World} {Q':Exit→Act→World→Prop} {next:Act→World→Prop}
  (hj:all[j]?=some o) (h:bZ P n0 N rd all [o] K e mk σ) (hi:Inv n0 N G w0 ρ0 e mk σ A w) (hk:∀ e' mk' σ' A' w',K e' mk' σ'→Inv n0 N G w0 ρ0 e' mk' σ' A' w'→next A' w'):wpOpIn (fen ρ0 rd) 0 P all.toArray Q' j next A w:=by
 have h:=h G w0 ρ0 A w hi (fun ex A' w'=>ex=.normal∧next A' w') fun e' mk' σ' A' w' h1 h2=>⟨rfl,hk e' mk' σ' A' w' h1 h2⟩
 simp only [wpL] at h
 unfold wpOpIn
 simp only [bO,hj]
 split at h
 ·rename_i hw
  rw [if_pos hw]
  exact oI (fun c a w hq=>by cases hq.1) (fun a w hq=>by cases hq.1) (Oper.wpIn_mono (fun a w hq=>hq.2) h)
 ·rename_i hw
  rw [if_neg hw]
  exact ⟨fun f _=>kN ρ0 rd f,h.2⟩
section
variable {P:Program} {T:Tab} {call:jk} {code:qH} {N:Nat} {rd:Option Nat} {all:List Oper}
def xO (σ0:Heap) (s:CSt):Prop:=Keep s.2.1.2.2 σ0 s.2.1.2.1
theorem adV {n1:Nat} {σ0:Heap} {r t:CSt} (hn:n1=σ0.length) (hcl:∀ (i:Nat) (o:aB),σ0[i]?=some o→fO n1 o) (hr:xO σ0 r) (ht:xO σ0 t) (h:aey n1 r t=true) {e:Env} (ha:Agr e r.2.1.1) :
  ∃ π,YZ n1 π r.2.1.2.1 t.2.1.2.1∧aaM t.2.1.2.1.length π e (D8 t.2.1.1):=by
 unfold aey at h
 rw [fV] at h
 generalize abI n1 r.2.2 t.2.2=pl at h
 unfold af5 at h
 simp only [aE] at h
 obtain ⟨⟨⟨⟨h1,h2⟩,h3⟩,h4⟩,h5⟩:=h
 have h2:=cA h2
 have h3:=aM h3
 have a:n1+pl.length=t.2.1.2.1.length:=oO
 refine ⟨fK n1 pl,⟨h2,fun i hi=>fE hi,fun i o2 hi=>?_,fun i j oi oj hi hj _ _ hb=>?_⟩,fun p hp=>?_⟩
 ·simp only [qh] at h4
  by_cases hlo:i<min n1 (min r.2.1.2.2 t.2.1.2.2)
  ·have g1:=ht.2 i oO oO
   have g2:=hr.2 i oO oO
   rw [g1] at hi
   exact lY (fun i hi=>fE hi) h2 oO (g2.trans hi) (hcl i o2 hi)
  ·have:=QX h4 (i - min n1 (min r.2.1.2.2 t.2.1.2.2)) o2 (by rw [eO];rw [show min n1 (min r.2.1.2.2 t.2.1.2.2)+(i - min n1 (min r.2.1.2.2 t.2.1.2.2))=i by omega];exact hi) (agw _ _ _)
   rwa [show min n1 (min r.2.1.2.2 t.2.1.2.2)+(i - min n1 (min r.2.1.2.2 t.2.1.2.2))=i by omega] at this
 ·exact aaG h1 (by rw [a];exact aQ hi) (by rw [a];exact aQ hj) hb
 ·have:=List.all_eq_true.1 h5 p hp
  split at this
  ·rename_i u hu
   exact ⟨u,ha _ _ hu,Xr this⟩
  ·cases this
theorem Oz (hT:gZ P T) (hc:iK P call) (hcode:nX P code) {s r:CSt} {j:Nat} {o:Oper} (h:SE T call code N rd all s j o=some r):r.1=s.1.set j true∧Xn P N rd all o s.2.1.1 s.2.1.2.1 (r.2.1.1,r.2.1.2.1,r.2.1.2.2)∧∀ σ0,xO σ0 s→xO σ0 r:=by
 simp only [SE,aL,fV] at h
 obtain ⟨b,h1,q,h2,h3⟩:=h
 cases h3
 have g:=MJ (all:=all) hT hc hcode (fun e ha=>Oq ha h1) h2
 have hk:Keep (minN s.2.1.2.2 q.2.2) s.2.1.2.1 q.2.1:=by rw [qh];exact g.2.mono oO
 refine ⟨rfl,⟨g.1,hk⟩,fun σ0 h0=>?_⟩
 show Keep (minN s.2.1.2.2 q.2.2) σ0 q.2.1
 rw [qh]
 exact h0.trans g.2
def YS (T:Tab) (call:jk) (code:qH) (N:Nat) (rd:Option Nat) (all:List Oper) (n1:Nat) (s:CSt) (j:Nat) (o:Oper) (acc:List CSt):Prop :=
 ∃ r,SE T call code N rd all s j o=some r∧∃ t ∈ acc,t.1=r.1∧(t=r∨aey n1 r t=true)
theorem YS.mono {n1:Nat} {s:CSt} {j:Nat} {o:Oper} {acc acc':List CSt} (h:YS T call code N rd all n1 s j o acc) (hs:∀ t ∈ acc,t ∈ acc'):YS T call code N rd all n1 s j o acc':=by
 obtain ⟨r,h1,t,h2,h3⟩:=h
 exact ⟨r,h1,t,hs t h2,h3⟩
theorem adW (hT:gZ P T) (hc:iK P call) (hcode:nX P code) {n1:Nat} {s:CSt} {acc acc':List CSt} {j:Nat} {o:Oper} (h:addX T call code N rd all n1 s acc j o=some acc') :
  (∀ t ∈ acc,t ∈ acc')∧(CV s.1 j o=true→YS T call code N rd all n1 s j o acc')∧∀ Φ:CSt→Prop,(∀ s r j o,SE T call code N rd all s j o=some r→Φ s→Φ r)→Φ s→(∀ t ∈ acc,Φ t)→∀ t ∈ acc',Φ t:=by
 unfold addX at h
 cases hr:CV s.1 j o with
 |false=>rw [hr] at h;cases h;exact ⟨fun _ h=>h,fun h=>(by cases h),fun _ _ _ h=>h⟩
 |true =>
  rw [hr] at h
  simp only [cond_true,aN,aL] at h
  obtain ⟨_,r,h1,h2⟩:=h
  split at h2
  ·rename_i t ht
   obtain ⟨h3,h4⟩:=aN.1 h2
   cases h4
   obtain ⟨g1,g2⟩:=I9 ht
   exact ⟨fun _ h=>h,fun _=>⟨r,h1,t,g1,g2,.inr h3⟩,fun _ _ _ h=>h⟩
  ·cases h2
   refine ⟨fun t ht=>fW _ ht,fun _=>⟨r,h1,r,by simp,rfl,.inl rfl⟩,fun Φ hΦ hs ha t ht=>?_⟩
   rcases List.mem_append.1 ht with ht|ht
   ·exact ha t ht
   ·simp only [fc] at ht
    subst ht
    exact hΦ _ _ _ _ h1 hs
theorem Xt (hT:gZ P T) (hc:iK P call) (hcode:nX P code) {n1:Nat} {s:CSt}:∀ {l:List Oper} {j:Nat} {acc acc':List CSt},aez T call code N rd all n1 s l j acc=some acc' →
  (∀ t ∈ acc,t ∈ acc')∧(∀ (k:Nat) (o:Oper),l[k]?=some o→CV s.1 (j+k) o=true→YS T call code N rd all n1 s (j+k) o acc')∧∀ Φ:CSt→Prop,(∀ s r j o,SE T call code N rd all s j o=some r→Φ s→Φ r)→Φ s→(∀ t ∈ acc,Φ t)→∀ t ∈ acc',Φ t
 |[],_,_,_,h=>by cases h;exact ⟨fun _ h=>h,fun k o h=>(by simp at h),fun _ _ _ h=>h⟩
 |a::r,j,acc,acc',h=>by
  simp only [aez,aL] at h
  obtain ⟨acc1,h1,h2⟩:=h
  obtain ⟨g1,g2,g3⟩:=adW hT hc hcode h1
  obtain ⟨k1,k2,k3⟩:=Xt hT hc hcode h2
  refine ⟨fun t ht=>k1 t (g1 t ht),fun k o hk hr=>?_,fun Φ hΦ hs ha=>k3 Φ hΦ hs (g3 Φ hΦ hs ha)⟩
  cases k with
  |zero =>
   simp at hk
   subst hk
   exact (g2 hr).mono k1
  |succ k =>
   have:=k2 k o (oU hk) (by rwa [show j+1+k=j+(k+1) by omega])
   rwa [show j+1+k=j+(k+1) by omega] at this
theorem Ja (hT:gZ P T) (hc:iK P call) (hcode:nX P code) {n1:Nat}:∀ {Ls acc acc':List CSt},X0 T call code N rd all n1 Ls acc=some acc' →
  (∀ t ∈ acc,t ∈ acc')∧(∀ s ∈ Ls,∀ (k:Nat) (o:Oper),all[k]?=some o→CV s.1 k o=true→YS T call code N rd all n1 s k o acc')∧∀ Φ:CSt→Prop,(∀ s r j o,SE T call code N rd all s j o=some r→Φ s→Φ r)→(∀ s ∈ Ls,Φ s)→(∀ t ∈ acc,Φ t)→∀ t ∈ acc',Φ t
 |[],_,_,h=>by cases h;exact ⟨fun _ h=>h,fun s h=>(by simp at h),fun _ _ _ h=>h⟩
 |s::Ls,acc,acc',h=>by
  simp only [X0,aL] at h
  obtain ⟨acc1,h1,h2⟩:=h
  obtain ⟨g1,g2,g3⟩:=Xt hT hc hcode h1
  obtain ⟨k1,k2,k3⟩:=Ja hT hc hcode h2
  refine ⟨fun t ht=>k1 t (g1 t ht),fun s' a k o hk hr=>?_,fun Φ hΦ hs ha=>k3 Φ hΦ (fun s' h=>hs s' (dT _ h)) (g3 Φ hΦ (hs s (fR ..)) ha)⟩
  rcases List.mem_cons.1 a with rfl|a
  ·have:=g2 k o hk (by rw [bA];exact hr)
   rw [bA] at this
   exact this.mono k1
  ·exact k2 s' a k o hk hr
theorem ML (hT:gZ P T) (hc:iK P call) (hcode:nX P code) (σ0:Heap) (s r:CSt) (j:Nat) (o:Oper) (h:SE T call code N rd all s j o=some r) (hs:xO σ0 s):xO σ0 r:=(Oz (P:=P) hT hc hcode h).2.2 σ0 hs
theorem BL (hT:gZ P T) (hc:iK P call) (hcode:nX P code) {n1:Nat} {σ0:Heap}:∀ {k:Nat} {Ls:List CSt} {f:CSt},oJ T call code N rd all n1 k Ls=some f→(∀ s ∈ Ls,xO σ0 s)→xO σ0 f
 |0,Ls,f,h,hs=>by
  simp only [oJ] at h
  split at h
  ·obtain ⟨_,h2⟩:=aN.1 h
   cases h2
   exact hs _ oS
  ·cases h
 |k+1,Ls,f,h,hs=>by
  simp only [oJ,aN,aL] at h
  obtain ⟨_,Ls',h1,h2⟩:=h
  exact BL hT hc hcode h2 ((Ja hT hc hcode h1).2.2 (xO σ0) (ML hT hc hcode σ0) hs (fun t h=>by simp at h))
theorem QY (hT:gZ P T) (hc:iK P call) (hcode:nX P code) {n0 n1:Nat} {σ0:Heap} {G:Nat→Prop} {w0:World} {ρ0:Rho} {mk:List Nat} (hrd:lQ rd n0=true) (he:Ec all 0=true) (hn1:n1=σ0.length) (hn:n0≤n1) (hcl:∀ (i:Nat) (o:aB),σ0[i]?=some o→fO n1 o) (hmb:∀ i ∈ mk,i<n1) {f:CSt} :
  ∀ (fuel:Nat) {k:Nat} {Ls:List CSt},oJ T call code N rd all n1 k Ls=some f→(∀ s ∈ Ls,xO σ0 s∧s.1.length=all.length)→∀ s ∈ Ls,∀ (listed:Array Bool) (e:Env) (A:Act) (w:World),listed.size=all.length→(∀ i,listed.getD i false=s.1.getD i false)→cnt all.length listed≤fuel→Agr e s.2.1.1→Inv n0 N G w0 ρ0 e mk s.2.1.2.1 A w →
   wpAnyIn (fen ρ0 rd) 0 P .any all.toArray (fun ex A' w'=>ex=.normal∧∃ e',Agr e' f.2.1.1∧Inv n0 N G w0 ρ0 e' mk f.2.1.2.1 A' w') fuel listed A w:=by
 have wt:∀ {o:Oper} {e:Edge},e ∈ o.after→Region.binds .any e=true→waits o e.on=true:=fun {o e} he hb=>by
  unfold waits bT
  rw [Array.any_eq_true']
  exact ⟨e,he,by simp [hb]⟩
 have X:∀ j o,all[j]?=some o→∀ i,waits o i=true→i<j:=fun j o ho i hw=>by have:=MK he j o ho i hw;omega
 have full:∀ (listed:Array Bool),listed.size=all.length→Region.ready .any all.toArray listed=[]→∀ i,i<all.length→listed.getD i false=true:=by
  intro listed hs hr i
  induction i using Nat.strongRecOn with
  |_ i ih =>
   intro hi
   by_cases hl:listed.getD i true=true
   ·rw [getD_lt (d':=true) oO];exact hl
   ·exfalso
    have:i ∈ Region.ready .any all.toArray listed:=mem_ready.2 ⟨by simpa using hl,all[i],by rw [bO];exact cC hi,fun e he hb=>by
     have h1:=X i all[i] (cC hi) e.on (wt he hb)
     exact ih e.on h1 oO⟩
    rw [hr] at this;cases this
 have J:∀ {k:Nat} {Ls:List CSt},oJ T call code N rd all n1 k Ls=some f→∀ s ∈ Ls,s.1.all id=true→s=f:=by
  intro k Ls h s hs hf
  cases k with
  |zero =>
   simp only [oJ] at h
   split at h
   ·obtain ⟨_,h2⟩:=aN.1 h
    cases h2
    simpa using hs
   ·cases h
  |succ k =>
   simp only [oJ,aN] at h
   have:=List.all_eq_true.1 h.1 s hs
   rw [hf] at this;cases this
 have p:∀ {listed:Array Bool} {m:List Bool},listed.size=all.length→m.length=all.length→(∀ i,listed.getD i false=m.getD i false)→(∀ i,i<all.length→listed.getD i false=true)→m.all id=true:=by
  intro listed m hs hm hl c
  rw [eo]
  intro b hb
  obtain ⟨i,hi,rfl⟩:=ey hb
  have:=hl i
  rw [c i oO,cE,cC hi] at this
  exact this.symm
 intro fuel
 induction fuel with
 |zero =>
  intro k Ls d a s hs listed e A w g hl O ha hi
  have c:∀ i<all.length,listed.getD i false=true:=by
   intro i hi
   rw [getD_lt (d':=true) oO]
   apply Classical.byContradiction
   intro hn
   have:=qW (n:=all.length) hi g (oU hn)
   omega
  have z:=J d s hs (p g (a s hs).2 hl c)
  subst z
  refine ⟨?_,rfl,e,ha,hi⟩
  rw [List.eq_nil_iff_forall_not_mem]
  intro i hi
  obtain ⟨h1,o,ho,_⟩:=mem_ready.1 hi
  rw [bO] at ho
  have y:=(List.getElem?_eq_some_iff.1 ho).1
  have:=c i y
  rw [getD_lt (d':=true) oO,h1] at this
  cases this
 |succ fuel ih =>
  intro k Ls d a s hs listed e A w g hl O ha hi
  refine ⟨fun hr=>?_,fun i Q=>?_⟩
  ·have z:=J d s hs (p g (a s hs).2 hl (full listed g hr))
   subst z
   exact ⟨rfl,e,ha,hi⟩
  ·obtain ⟨h1,o,ho,hw⟩:=mem_ready.1 Q
   rw [bO] at ho
   have y:=(List.getElem?_eq_some_iff.1 ho).1
   have v:s.1.getD i true=false:=by
    have D:=(a s hs).2
    have e1:=hl i
    rw [getD_lt (d':=true) oO,h1,cE,cC oO] at e1
    rw [cE,cC oO]
    exact e1.symm
   have l:CV s.1 i o=true:=by
    unfold CV
    rw [v]
    simp only [Bool.not_false,Bool.true_and,eo]
    intro x hx
    cases hb:Region.binds .any x with
    |false=>rfl
    |true=>rw [← hl x.on,hw x (oU hx) hb];rfl
   cases k with
   |zero =>
    simp only [oJ] at d
    split at d
    ·obtain ⟨h3,h4⟩:=aN.1 d
     cases h4
     simp only [fc] at hs
     subst hs
     have:=List.all_eq_true.1 h3 (s.1[i]'(by have:=(a s oS).2;omega)) (cP _)
     rw [cE,cC (by have:=(a s oS).2;omega)] at v
     simp only [Option.getD_some] at v
     rw [v] at this;cases this
    ·cases d
   |succ k =>
    simp only [oJ,aN,aL] at d
    obtain ⟨_,I,S,u⟩:=d
    obtain ⟨_,n2,n3⟩:=Ja hT hc hcode S
    obtain ⟨r,W,t,C,R,U⟩:=n2 s hs i o ho l
    obtain ⟨r1,r2,r3⟩:=Oz hT hc hcode W
    have B:∀ t ∈ I,xO σ0 t:=n3 (xO σ0) (ML hT hc hcode σ0) (fun s' h=>(a s' h).1) (fun t h=>by simp at h)
    have F:∀ t ∈ I,t.1.length=all.length:=n3 (fun s=>s.1.length=all.length) (fun s r j o h hs=>by rw [(Oz (P:=P) hT hc hcode h).1,ea];exact hs) (fun s' h=>(a s' h).2) (fun t h=>by simp at h)
    refine agx ho (r2.1 n0 e mk [] (fun e' K σ'=>Agr e' r.2.1.1∧K=mk∧σ'=r.2.1.2.1) hrd ha fun e' a'=>kP ⟨a',rfl,rfl⟩) hi ?_
    rintro e' K σ' A' w' ⟨a',rfl,rfl⟩ H
    have M:∀ q,(listed.setIfInBounds i true).getD q false=t.1.getD q false:=fun q=>by
     rw [gY oO,R,r1]
     have D:=(a s hs).2
     by_cases E:q=i
     ·subst E
      rw [if_pos rfl,cE,List.getElem?_set_self oO];rfl
     ·rw [if_neg E,cE,eN (Ne.symm E),← cE]
      exact hl q
    have L:cnt all.length (listed.setIfInBounds i true)≤fuel:=by have:=qW (n:=all.length) y g h1;omega
    rcases U with rfl|V
    ·exact ih u (fun s' h=>⟨B s' h,F s' h⟩) _ C _ e' A' w' (oU g) M L a' H
    ·obtain ⟨π,g1,g2⟩:=adV hn1 hcl (r3 σ0 (a s hs).1) (B t C) V a'
     exact ih u (fun s' h=>⟨B s' h,F s' h⟩) t C _ (D8 t.2.1.1) A' w' (oU g) M L xM (aaH g1 g2 hn hmb H)
theorem adX (hT:gZ P T) (hc:iK P call) (hcode:nX P code) (hmix:P.follows .mixedOrders=true) {id:Nat} {tr:PT} {mk:List Nat} {σ:Heap} {r:Exit×PT×List Nat×Heap×Nat} (h:aeA all T call code N rd tr mk σ=some r) :
  (∀ (n0:Nat) (e:Env) (Q:Post),lQ rd n0=true→Agr e tr→(∀ e',Agr e' r.2.1→Q r.1 e' r.2.2.1 r.2.2.2.1)→bK P n0 N rd (.region id all.toArray true) Q e mk σ)∧Keep r.2.2.2.2 σ r.2.2.2.1:=by
 simp only [aeA,aN,aL] at h
 obtain ⟨he,s,h1,h2⟩:=h
 cases h2
 have c:∀ t ∈ [((List.replicate all.length false,(tr,σ,σ.length),[]):CSt)],xO σ t:=fun t ht=>by
  simp only [fc] at ht
  subst ht;exact Keep.refl
 refine ⟨fun n0 e Q d ha hQ=>?_,BL hT hc hcode h1 c⟩
 intro G w0 ρ0 A w hi
 refine wpIn_region_any hmix ?_
 have a:∀ (m i:Nat),(Array.replicate m false).getD i false=false:=fun m i=>by
  simp only [eT,fa];split <;> rfl
 have g:Inv n0 N G w0 ρ0 e mk σ A { w with drawn:=w.drawn+1 }:=by
  obtain ⟨g0,ρ,g1,g2,g3⟩:=hi
  exact ⟨g0,ρ,g1,o7 g2 rfl rfl rfl rfl,g3⟩
 obtain ⟨g0,ρ,g1,g2,g3⟩:=hi
 refine pz (fun ex A' w' hq=>?_) _ _ _ _ (QY hT hc hcode d he rfl g0 (fun i o ho=>je (g2.obj i o ho)) g3.mkb all.toArray.size h1 (fun t ht=>⟨c t ht,by simp only [fc] at ht;subst ht;exact fN ..⟩) (List.replicate all.length false,(tr,σ,σ.length),[]) (List.mem_singleton.2 rfl) _ e A _ oS (fun i=>?_) ?_ ha g)
 ·obtain ⟨rfl,e',a',f⟩:=hq
  exact ⟨e',mk,_,hQ e' a',f⟩
 ·rw [a,cE,List.getElem?_replicate];split <;> rfl
 ·unfold cnt
  exact ej List.countP_le_length oS
end
section
variable {P:Program} {T:Tab} {call:jk} {code:qH} {N:Nat} {rd:Option Nat} {tr:PT} {mk:List Nat} {σ:Heap} {all:List Oper}
theorem agy (hT:gZ P T) (hc:iK P call) (hcode:nX P code) (hmix:P.follows .mixedOrders=true) {id:Nat} {ops:Array Oper} {d:Bool} {r:Exit×PT×List Nat×Heap×Nat} (h:regC ops.toList d T call code N rd tr mk σ=some r) :
  (∀ (n0:Nat) (e:Env) (Q:Post),lQ rd n0=true→Agr e tr→(∀ e',Agr e' r.2.1→Q r.1 e' r.2.2.1 r.2.2.2.1)→bK P n0 N rd (.region id ops d) Q e mk σ)∧Keep r.2.2.2.2 σ r.2.2.2.1:=by
 obtain ⟨l⟩:=ops
 cases d with
 |false =>
  obtain ⟨q,h1,rfl⟩:=Xp (show abB mk (CU T call code N rd l l tr σ)=some r from h)
  obtain ⟨g1,g2⟩:=EM hT hc hcode h1
  exact ⟨fun n0 e Q a ha hQ=>aG (g1 n0 e mk _ a ha hQ),g2⟩
 |true =>
  have h:(match Zm l T call code N rd tr mk σ with|some r=>some r|none=>match af6 l rd T call code N rd tr mk σ with|some r=>some r|none=>match aes l T call code N rd tr mk σ with|some r=>some r|none=>aeA l T call code N rd tr mk σ)=some r:=h
  split at h
  ·rename_i r' hr
   cases h
   obtain ⟨f,h1,h2,g1,g2⟩:=Oy hT hc hcode hr
   exact ⟨fun n0 e Q a ha hQ=>fA hmix a (vC (all:=l) hT hc oS h1 ha fun e1 a1=>⟨h2,g1 n0 e1 Q a a1 hQ⟩),g2⟩
  ·split at h
   ·rename_i r' hr
    cases h
    have h:=hr
    clear hr
    cases rd with
    |some q =>
     have h:regP (Bo l) l T call code N (some q) tr mk σ=some r:=h
     simp only [regP,aN] at h
     obtain ⟨hp,h⟩:=h
     obtain ⟨f,h1,h2,g1,g2⟩:=Oy hT hc hcode h
     exact ⟨fun n0 e Q a ha hQ=>Ze (Bo l) hmix a hp (vC (all:=kD (Bo l) l) hT hc oS h1 ha fun e1 a1=>⟨h2,g1 n0 e1 Q a a1 hQ⟩),g2⟩
    |none =>
     have h:regG (O7 l) (Bo (kF (O7 l) l)) l T call code N none tr mk σ=some r:=h
     simp only [regG,aN,aE] at h
     obtain ⟨⟨hf,hp⟩,h⟩:=h
     obtain ⟨f,h1,h2,g1,g2⟩:=Oy hT hc hcode h
     exact ⟨fun n0 e Q a ha hQ=>Zf _ _ hmix hf hp (vC hT hc oS h1 ha fun e1 a1=>⟨h2,g1 n0 e1 Q a a1 hQ⟩),g2⟩
   ·split at h
    ·rename_i r' hr;cases h;exact adS hT hc hmix hr
    ·exact adX hT hc hcode hmix h
theorem adY {n0:Nat} {pend:Option Code} {ex:Exit} {Q:Post} {e:Env} (h:abJ pend=some ex) (hq:Q ex e mk σ):(pend=none→Q .normal e mk σ)∧∀ c,pend=some c→bK P n0 N none c Q e mk σ:=by
 unfold abJ at h
 split at h
 ·cases h;exact ⟨fun _=>hq,fun c hc=>(by cases hc)⟩
 ·cases h;exact ⟨fun h=>(by cases h),fun c hc=>(by cases hc;exact Gy hq)⟩
 ·cases h;exact ⟨fun h=>(by cases h),fun c hc=>(by cases hc;exact zJ hq)⟩
 ·cases h
theorem afE {n0:Nat} {c:Code} {Q:Post} {e e2:Env} (h:∀ t v,Env.get e2 t=some v→Env.get e t=some v) (k:bK P n0 N rd c Q e2 mk σ):bK P n0 N rd c Q e mk σ:=by
 rintro G w0 ρ0 A w ⟨h0,ρ,a,hs,he⟩
 exact k G w0 ρ0 A w ⟨h0,ρ,a,hs,⟨he.tmps.1,fun t v hv=>he.tmps.2 t v (h t v hv)⟩,he.mks,he.mkb⟩
theorem aaI (hT:gZ P T) (hc:iK P call) {g:Operand} {ps:Array Tmp} {assign body:Code} {r:Exit×PT×List Nat×Heap×Nat} (h:VL g ps assign body T call code N rd tr mk σ=some r) :
  (∀ (n0:Nat) (e:Env) (Q:Post),lQ rd n0=true→Agr e tr→(∀ e',Agr e' r.2.1→Q r.1 e' r.2.2.1 r.2.2.2.1)→bK P n0 N rd (.rangeFunc g ps assign body) Q e mk σ)∧Keep r.2.2.2.2 σ r.2.2.2.1:=by
 unfold VL at h
 split at h
 ·simp only [aL,abK,aN] at h
  obtain ⟨f,⟨w,h1,h2⟩,h3,q,h4,ob,h5,h6⟩:=h
  obtain ⟨z,hz⟩:=Option.isSome_iff_exists.1 h3
  haveI:GoFn P f.1:=⟨(hT.fn _ _ hz).1⟩
  obtain ⟨h7,h8⟩:=hc _ _ _ _ h4
  unfold endR at h6
  split at h6
  ·rename_i st a N2 e2 k as2 d
   simp only [aN,aL] at h6
   obtain ⟨h9,ex,l,j⟩:=h6
   cases j
   refine ⟨fun n0 e Q hrd ha hQ=>?_,?_⟩
   ·refine afE (fun t v hv=>yS (Ot ha) _ (yN hv)) ?_
    refine GI (p:=f.2.1) (q:=f.2.2) (by rw [um (xM) h1,Ed h2]) (h7.mono ?_)
    rintro v s ⟨rfl,rfl⟩
    have hp:=adY (P:=P) (N:=N) (n0:=n0) (Q:=Q) l (hQ _ xM)
    refine ⟨st,a,N2,e2,k,as2,d,h5,(fun hb=>by subst hb;cases h9),?_⟩
    cases a with
    |none=>exact hp.1 rfl
    |some c=>exact hp.2 c rfl
   ·simp only [qh]
    have q1:Keep σ.length σ (σ++[.dfr,.loop .ready none N (D8 tr) ps assign body]):=Keep.app
    exact ((q1.trans h8).trans (Keep.set (i:=σ.length+1))).mono (by simp only [Nat.le_min];omega)
  ·cases h6
 ·cases h
theorem UQ (hT:gZ P T) (hc:iK P call) (hcode:nX P code) (hl:Ox P code) (hmix:P.follows .mixedOrders=true) {c:Code} {r:Exit×PT×List Nat×Heap×Nat} (h:Ph c T call code N rd tr mk σ=some r) :
  (∀ (n0:Nat) (e:Env) (Q:Post),lQ rd n0=true→Agr e tr→(∀ e',Agr e' r.2.1→Q r.1 e' r.2.2.1 r.2.2.2.1)→bK P n0 N rd c Q e mk σ)∧Keep r.2.2.2.2 σ r.2.2.2.1:=by
 unfold Ph at h
 split at h
 ·cases h;exact ⟨fun n0 e Q _ ha hQ=>yI (hQ e ha),Keep.refl⟩
 ·cases h;exact ⟨fun n0 e Q _ ha hQ=>Iu (hQ e ha),Keep.refl⟩
 ·simp only [abx,aL,aN] at h
  obtain ⟨⟨g,t1,j,σ1,i⟩,h1,h0,h2⟩:=h
  cases h2
  obtain ⟨g1,g2⟩:=hcode _ _ _ _ _ _ _ h1
  refine ⟨fun n0 e Q d ha hQ=>Iw (g1 n0 e _ d ha fun e1 a1=>?_),g2⟩
  have:=hQ e1 a1
  cases g with
  |goto l=>exact absurd h0 (by simp [XT])
  |_=>exact this
 ·cases h;exact ⟨fun n0 e Q _ ha hQ=>zJ (hQ e ha),Keep.refl⟩
 ·cases h;exact ⟨fun n0 e Q _ ha hQ=>Gy (hQ e ha),Keep.refl⟩
 ·exact seq_ok hcode h
 ·rename_i id b
  simp only [abz,aL] at h
  obtain ⟨⟨g,t1,j,σ1,i⟩,h1,h2⟩:=h
  cases h2
  obtain ⟨g1,g2⟩:=hcode _ _ _ _ _ _ _ h1
  refine ⟨fun n0 e Q d ha hQ=>qg (g1 n0 e _ d ha fun e1 a1=>?_),g2⟩
  have:=hQ e1 a1
  simp only [aby] at this
  cases g with
  |exit id' =>
   simp only at this
   by_cases f:id'=id
   ·subst f
    rw [Nat.beq_refl] at this
    exact Ci (Nat.beq_refl _) this
   ·rw [jl f] at this
    exact DF (jl f) this
  |_=>exact this
 ·rename_i x a b
  simp only [condC,aL] at h
  obtain ⟨t,⟨w,h1,h2⟩,h3⟩:=h
  obtain ⟨g1,g2⟩:=hcode _ _ _ _ _ _ _ h3
  refine ⟨fun n0 e Q d ha hQ=>?_,g2⟩
  have hx:=um ha h1
  rw [rU h2] at hx
  cases t with
  |true=>exact qR hx rfl (g1 n0 e Q d ha hQ)
  |false=>exact nZ hx rfl (g1 n0 e Q d ha hQ)
 ·obtain ⟨⟨m,hm⟩,g2⟩:=QW hcode hl h
  exact ⟨fun n0 e Q d ha hQ=>adT hm d ha hQ,g2⟩
 ·exact agy hT hc hcode hmix h
 ·exact aaI hT hc h
 ·cases h
theorem UR (hT:gZ P T) {orc:jk} (ho:iK P orc) (hcode:nX P code):iK P (Pm T orc code):=by
 intro f c σ r h
 unfold Pm at h
 split at h
 ·rename_i r' e
  cases h
  exact ho _ _ _ _ e
 ·simp only [aL,X5,aN] at h
  obtain ⟨x,h1,h2,r1,h3,h4⟩:=h
  obtain ⟨ex,t1,a,σ1,lo⟩:=r1
  obtain ⟨hf,fn,f1,f2,f3,f4⟩:=hT.fn _ _ h1
  obtain ⟨g1,g2⟩:=hcode _ _ _ _ _ _ _ h3
  simp only [retC,aN,fV,aL,aE] at h4
  obtain ⟨⟨h5,h6⟩,vs,h7,h8⟩:=h4
  obtain ⟨m1,m2⟩:=adQ h6
  have hk:Keep (minN lo (minL lo a)) σ (kE a σ1):=by
   simp only [qh]
   exact Keep.trans g2 (MG a lo σ1)
  obtain ⟨r1,r2⟩:=adP hk h8
  refine ⟨?_,r2⟩
  obtain ⟨e0,a1,a2⟩:=Xk (vs:=c) (k:=0) (Agr.full [] 9) (fun t v h=>by cases h)
  refine aI σ.length x.1 f1 f4 f3 f2 rfl h2 ?_
  refine afE (e2:=e0) (fun t v hv=>(a2 t v hv).elim id fun h=>oO) (g1 σ.length e0 _ rfl a1 fun e' a'=>?_)
  ·have d:a.Nodup∧(∀ i ∈ a,σ1[i]?=some .dfr)∧∃ vs v2 σ2,tq P e' (kE a σ1) x.2.1 vs∧aX σ (kE a σ1) (jY vs) v2 σ2∧(v2=r.1∧σ2=r.2.1) :=
    ⟨m1,m2,vs,r.1,r.2.1,Ig hT a' h7,r1,rfl,rfl⟩
   unfold af9 at h5
   split at h5
   ·exact d
   ·exact d
   ·cases h5
theorem afF (hT:gZ P T) {orc:jk} (ho:iK P orc) (hmix:P.follows .mixedOrders=true):∀ n:Nat,iK P (rn T orc n).1∧nX P (rn T orc n).2∧Ox P (rn T orc n).2
 |0=>⟨fun _ _ _ _ h=>(by cases h),fun _ _ _ _ _ _ _ h=>(by cases h),fun _ _ _ _ _ _ _ h=>(by cases h)⟩
 |n+1=>by
  obtain ⟨h1,h2,h3⟩:=afF hT ho hmix n
  exact ⟨UR hT ho h2,fun c N rd tr mk σ r h=>UQ hT h1 h2 h3 hmix h,fun b N rd tr mk σ r h=>(QW (T:=T) (call:=(rn T orc n).1) h2 h3 h).1⟩
theorem lU (hT:gZ P T) {orc:jk} (ho:iK P orc) (hmix:P.follows .mixedOrders=true) {n f:Nat} {args:List Value} {v:Value} {σ':Heap} {lo:Nat} (h:(rn T orc n).1 f args σ=some (v,σ',lo)):Ev P f args σ v σ' :=
 ((afF hT ho hmix n).1 f args σ _ h).1
end
structure Known where
 f:Nat
 args:List Value
 css:List (List Value)
 v:Value
 news:Heap
def QZ:List Value→List Nat
 |[]=>[]
 |v::l=>match ru v with
  |some p=>bif Nat.beq p.2.2.1 0 then QZ l else p.1::QZ l
  |none=>QZ l
def xP:aB→Option (List Value)
 |.ro cs=>some cs
 |.rw cs=>some cs
 |.gr cs _=>some cs
 |_=>none
def MN (σ:Heap):List (List Value)→List Nat→Bool
 |[],l=>l.isEmpty
 |c::cs,l=>match l with
  |[]=>false
  |b::bs=>(match (σ[b]?).bind xP with|some x=>Ag c x|none=>false) && MN σ cs bs
def Q5 (k:Known) (args:List Value) (σ:Heap) (bs:List Nat):Res :=
 bQ (MN σ k.css bs && GK k.css.length (bsR bs) k.args args && Nat.beq k.args.length args.length && σ.all (fun o=>!aU o))
  (some (ren (shf k.css.length σ.length (bsR bs)) k.v,σ++k.news.map (CJ (shf k.css.length σ.length (bsR bs))),σ.length))
def Jb:List Known→jk
 |[]=>fun _ _ _=>none
 |k::ks=>fun f args σ=>bif Nat.beq k.f f then (match Q5 k args σ (QZ args) with|some r=>some r|none=>Jb ks f args σ) else Jb ks f args σ
def jy (P:Program) (k:Known):Prop:=Ev P k.f k.args (k.css.map .ro) k.v (k.css.map .ro++k.news)∧k.css.all dL=true∧k.news.all DR=true
theorem Xu {σ:Heap}:∀ {cs:List (List Value)} {bs:List Nat},MN σ cs bs=true→Js σ cs bs
 |[],bs,h=>by
  simp only [MN,List.isEmpty_iff] at h
  subst h;trivial
 |c::cs,[],h=>by simp [MN] at h
 |c::cs,b::bs,h=>by
  simp only [MN,aE] at h
  obtain ⟨h1,h2⟩:=h
  refine ⟨?_,Xu h2⟩
  split at h1
  ·rename_i x hx
   have:=pG h1
   subst this
   obtain ⟨o,h3,h4⟩:=Option.bind_eq_some_iff.1 hx
   unfold xP at h4
   split at h4
   ·cases h4;exact .inl h3
   ·cases h4;exact .inr (.inl h3)
   ·cases h4;exact .inr (.inr ⟨_,h3⟩)
   ·cases h4
  ·cases h1
theorem afG {n:Nat} {π:Rho}:∀ {a b:List Value},a.length=b.length→(∀ (i:Nat) (h:i<a.length) (h':i<b.length),jG n π a[i] b[i])→AS n π a b
 |[],[],_,_=>trivial
 |x::a,[],h,_=>by simp at h
 |[],y::b,h,_=>by simp at h
 |x::a,y::b,h,hi=>⟨hi 0 oS oS,afG (oU h) fun i h1 h2=>hi (i+1) (oU h1) (oU h2)⟩
theorem MO {P:Program}:∀ {ks:List Known},(∀ k ∈ ks,jy P k)→iK P (Jb ks)
 |[],_=>fun f a σ r h=>by cases h
 |k::ks,hk=>fun f a σ r h=>by
  have ih:=MO (P:=P) (ks:=ks) fun k' h'=>hk k' (dT _ h')
  simp only [Jb] at h
  cases hf:Nat.beq k.f f with
  |false=>rw [hf] at h;exact ih _ _ _ _ h
  |true =>
   rw [hf] at h
   simp only [cond_true] at h
   split at h
   ·rename_i r' c
    cases h
    simp only [Q5,aN,aE] at c
    obtain ⟨⟨⟨⟨h1,h2⟩,h3⟩,h4⟩,h5⟩:=c
    cases h5
    obtain ⟨k1,k2,k3⟩:=hk k oS
    have d:=aM hf
    subst d
    exact ⟨Ev.arrsN k.css (QZ a) k1 (Xu h1) (afG (aM h3) (zI h2).2) k2 k3 rfl rfl h4,Keep.app⟩
   ·exact ih _ _ _ _ h
def aaJ (a b:jk):jk:=fun f args σ=>match a f args σ with|some r=>some r|none=>b f args σ
theorem aaK {P:Program} {a b:jk} (ha:iK P a) (hb:iK P b):iK P (aaJ a b):=fun f args σ r h=>by
 unfold aaJ at h
 split at h
 ·rename_i r' c;cases h;exact ha _ _ _ _ c
 ·exact hb _ _ _ _ h
end Go.AH
