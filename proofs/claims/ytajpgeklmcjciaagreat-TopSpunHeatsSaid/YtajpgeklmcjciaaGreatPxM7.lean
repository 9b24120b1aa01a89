/- A run of a call that the kernel computes in abstract heaps is what the call does: regions in all orders, code, returns. Conditions: the tables hold, the oracle is sound. -/
import Derived.Test.YtajpgeklmcjciaaGreatPxMX
namespace Go.AH
open Go
theorem Trie.get_put {α:Type}:∀ {tr:Trie α} {d t:Nat} {v u:α},(tr.put d v).get t=some u→(t=d∧u=v)∨(t ≠ d∧tr.get t=some u)
 |.z,_,_,_,_,h=>by cases h
 |.nd w l r,d,t,v,u,h=>by
  have key:∀ {a b:Nat},Nat.beq a b=true→a=b:=fun h=>aM h
  simp only [Trie.put] at h
  by_cases hd:d=0
  ·subst hd
   have h:(Trie.nd (some v) l r).get t=some u:=h
   by_cases ht:t=0
   ·subst ht;exact .inl ⟨rfl,by have h:some v=some u:=h;exact (Option.some.inj h).symm⟩
   ·refine .inr ⟨ht,?_⟩
    simp only [Trie.get,jF ht,cond_false] at h ⊢;exact h
  ·rw [jF hd] at h
   simp only [cond_false] at h
   have e1:∀ {x y:Nat},¬ y=0→¬ x=0→Nat.mod x 2=Nat.mod y 2→Nat.div x 2=Nat.div y 2→x=y:=by
    intro x y _ _ h1 h2
    have a1:=Nat.div_add_mod x 2
    have a2:=Nat.div_add_mod y 2
    have b1:x % 2=y % 2:=h1
    have b2:x / 2=y / 2:=h2
    omega
   have e2:∀ {x y:Nat},¬ y=0→¬ x=0→¬ Nat.mod x 2=1→¬ Nat.mod y 2=1→Nat.pred (Nat.div x 2)=Nat.pred (Nat.div y 2)→x=y:=by
    intro x y hy hx h1 h2 h3
    have b1:¬ x % 2=1:=h1
    have b2:¬ y % 2=1:=h2
    have b3:x / 2 - 1=y / 2 - 1:=h3
    omega
   by_cases hm:Nat.mod d 2=1
   ·rw [hm] at h
    have h:(Trie.nd w (l.put (Nat.div d 2) v) r).get t=some u:=h
    by_cases ht:t=0
    ·subst ht;exact .inr ⟨fun h0=>hd h0.symm,h⟩
    ·simp only [Trie.get,jF ht,cond_false] at h ⊢
     by_cases c:Nat.mod t 2=1
     ·rw [c] at h ⊢
      have h:(l.put (Nat.div d 2) v).get (Nat.div t 2)=some u:=h
      rcases Trie.get_put h with ⟨g1,g2⟩|⟨g1,g2⟩
      ·exact .inl ⟨e1 hd ht (by rw [c,hm]) g1,g2⟩
      ·exact .inr ⟨fun h0=>g1 (by rw [h0]),g2⟩
     ·rw [jF c] at h ⊢
      exact .inr ⟨fun h0=>c (by rw [h0];exact hm),h⟩
   ·rw [jF hm] at h
    have h:(Trie.nd w l (r.put (Nat.pred (Nat.div d 2)) v)).get t=some u:=h
    by_cases ht:t=0
    ·subst ht;exact .inr ⟨fun h0=>hd h0.symm,h⟩
    ·simp only [Trie.get,jF ht,cond_false] at h ⊢
     by_cases c:Nat.mod t 2=1
     ·rw [c] at h ⊢
      exact .inr ⟨fun h0=>hm (by rw [← h0];exact c),h⟩
     ·rw [jF c] at h ⊢
      simp only [cond_false] at h ⊢
      rcases Trie.get_put h with ⟨g1,g2⟩|⟨g1,g2⟩
      ·exact .inl ⟨e2 hd ht c hm g1,g2⟩
      ·exact .inr ⟨fun h0=>g1 (by rw [h0]),g2⟩
theorem IZ {α:Type}:∀ (k t:Nat),(Trie.full k:Trie α).get t=none
 |0,_=>rfl
 |k+1,t=>by
  simp only [Trie.full,Trie.get]
  by_cases ht:t=0
  ·subst ht;rfl
  ·rw [jF ht]
   simp only [cond_false]
   cases Nat.beq (Nat.mod t 2) 1
   ·exact IZ k _
   ·exact IZ k _
theorem Agr.put {e:Env} {tr:PT} (h:Agr e tr) (d:Nat) (v:Value):Agr ((d,v)::e) (tr.put d v):=by
 intro t u hu
 rcases Trie.get_put hu with ⟨rfl,rfl⟩|⟨h1,h2⟩
 ·simp [Env.get,Nat.beq_refl]
 ·simp only [Env.get]
  rw [jF (fun h0=>h1 h0.symm)]
  exact h t u h2
theorem Trie.del_self {α:Type}:∀ (tr:Trie α) (d:Nat),(tr.del d).get d=none
 |.z,_=>rfl
 |.nd v l r,d=>by
  simp only [Trie.del]
  cases h1:Nat.beq d 0 with
  |true=>simp [Trie.get,h1]
  |false =>
   cases h2:Nat.beq (Nat.mod d 2) 1 with
   |true=>simp only [cond_false,cond_true,Trie.get,h1,h2];exact Trie.del_self l _
   |false=>simp only [cond_false,Trie.get,h1,h2];exact Trie.del_self r _
theorem Trie.del_get {α:Type} {u:α}:∀ (tr:Trie α) (d t:Nat),(tr.del d).get t=some u→tr.get t=some u
 |.z,_,_,h=>h
 |.nd v l r,d,t,h=>by
  simp only [Trie.del] at h
  cases h1:Nat.beq d 0 with
  |true =>
   rw [h1] at h
   simp only [cond_true,Trie.get] at h ⊢
   cases h3:Nat.beq t 0 with
   |true=>rw [h3] at h;cases h
   |false=>rw [h3] at h;exact h
  |false =>
   rw [h1] at h
   cases h2:Nat.beq (Nat.mod d 2) 1 with
   |true =>
    rw [h2] at h
    simp only [cond_false,cond_true,Trie.get] at h ⊢
    cases h3:Nat.beq t 0 with
    |true=>rw [h3] at h;exact h
    |false =>
     rw [h3] at h
     cases h4:Nat.beq (Nat.mod t 2) 1 with
     |true=>rw [h4] at h;exact Trie.del_get l _ _ h
     |false=>rw [h4] at h;exact h
   |false =>
    rw [h2] at h
    simp only [cond_false,Trie.get] at h ⊢
    cases h3:Nat.beq t 0 with
    |true=>rw [h3] at h;exact h
    |false =>
     rw [h3] at h
     cases h4:Nat.beq (Nat.mod t 2) 1 with
     |true=>rw [h4] at h;exact h
     |false=>rw [h4] at h;exact Trie.del_get r _ _ h
theorem Agr.full (e:Env) (k:Nat):Agr e (Trie.full k):=fun t v h=>by rw [IZ] at h;cases h
theorem Ie {N:Nat} {v:Value} {e:Env} {tr tr':PT} {o:Oper} (ha:Agr e tr) (h:Y3 N v tr o.dst=some tr'):uj N o=true∧Agr (DN o.dst v e) tr':=by
 unfold Y3 at h
 unfold uj DN
 split at h
 ·rename_i d hd
  rw [hd]
  obtain ⟨h1,h2⟩:=aN.1 h
  cases h2
  exact ⟨h1,ha.put d v⟩
 ·rename_i hd
  rw [hd]
  cases h
  exact ⟨rfl,ha⟩
theorem Oh {all:List Oper} {e:Env} {tr:PT} {o:Oper} {b:Bool} (ha:Agr e tr) (h:RP all tr o.guard=some b):kF all e o=some b:=by
 unfold RP at h
 unfold kF
 split at h
 ·rename_i hg;rw [hg];exact h
 ·rename_i g hg
  rw [hg]
  simp only [aa3,aL] at h
  obtain ⟨x,⟨p,h1,t,h2,v,h3,h4⟩,h5⟩:=h
  have hv:lg all e g.1=some v:=by simp [lg,h1,h2,ha t v h3]
  simp only [hv]
  unfold Xw at h4
  split at h4
  ·cases h4;exact h5
  ·cases h4;exact h5
  ·cases h4
theorem LW:∀ {ps:List Nat} {vs:List Value} {e:Env} {tr:PT},Agr e tr→Agr (mM ps vs e) (Eb ps vs tr)
 |[],_,_,_,h=>by simpa [mM,Eb] using h
 |_::_,[],_,_,h=>by simpa [mM,Eb] using h
 |p::ps,v::vs,e,tr,h=>LW (ps:=ps) (vs:=vs) (h.put p v)
theorem WU:∀ {vs:List Value} {k:Nat} {e:Env} {tr:PT},Agr e tr→(∀ t v,Env.get e t=some v→t<k)→∃ e',Agr e' (abp k vs tr)∧∀ t v,Env.get e' t=some v→Env.get (uV k vs) t=some v∨(t<k∧Env.get e t=some v)
 |[],k,e,tr,h,hk=>⟨e,h,fun t v hv=>.inr ⟨hk t v hv,hv⟩⟩
 |v::vs,k,e,tr,h,hk=>by
  obtain ⟨e',h1,h2⟩:=WU (vs:=vs) (k:=k+1) (h.put k v) (fun t u hu=>by
   simp only [Env.get] at hu
   by_cases ht:k=t
   ·omega
   ·rw [jF ht] at hu;have:=hk t u hu;omega)
  refine ⟨e',h1,fun t u hu=>?_⟩
  rcases h2 t u hu with h3|⟨h3,h4⟩
  ·left
   simp only [uV,Env.get]
   have:¬ k=t:=fun h0=>by
    have:=(zW vs (k+1) t u h3).1;omega
   rw [jF this];exact h3
  ·simp only [Env.get] at h4
   by_cases ht:k=t
   ·subst ht
    left
    simp only [uV,Env.get]
    rw [Nat.beq_refl] at h4 ⊢
    exact h4
   ·rw [jF ht] at h4
    right;exact ⟨oO,h4⟩
theorem Dw {α:Type}:∀ {tr:Trie α} {a b:Nat} {p:Nat×α},p ∈ tr.ents a b→∃ t,p.1=a*t+b∧tr.get t=some p.2
 |.z,_,_,_,h=>by simp [Trie.ents] at h
 |.nd v l r,a,b,p,h=>by
  simp only [Trie.ents,List.mem_append] at h
  rcases h with h|h|h
  ·cases v with
   |none=>simp at h
   |some x=>simp at h;subst h;exact ⟨0,by simp,rfl⟩
  ·obtain ⟨t,h1,h2⟩:=Dw h
   refine ⟨2*t+1,by rw [h1,Nat.mul_add,cJ,← Nat.mul_assoc,Nat.mul_comm a 2];omega,?_⟩
   simp only [Trie.get]
   rw [jF (show ¬ 2*t+1=0 by omega),show Nat.mod (2*t+1) 2=1 from (by show (2*t+1) % 2=1;omega),show Nat.div (2*t+1) 2=t from (by show (2*t+1) / 2=t;omega)]
   exact h2
  ·obtain ⟨t,h1,h2⟩:=Dw h
   refine ⟨2*t+2,by rw [h1,Nat.mul_add,← Nat.mul_assoc,Nat.mul_comm a 2];omega,?_⟩
   simp only [Trie.get]
   rw [jF (show ¬ 2*t+2=0 by omega),show Nat.mod (2*t+2) 2=0 from (by show (2*t+2) % 2=0;omega),show Nat.pred (Nat.div (2*t+2) 2)=t from (by rw [Nat.pred_eq_sub_one];show (2*t+2) / 2 - 1=t;omega)]
   exact h2
theorem I4 {α:Type}:∀ {tr:Trie α} {a b t:Nat} {x:α},tr.get t=some x→(a*t+b,x) ∈ tr.ents a b
 |.z,_,_,_,_,h=>by cases h
 |.nd v l r,a,b,t,x,h=>by
  simp only [Trie.ents,List.mem_append]
  simp only [Trie.get] at h
  by_cases ht:t=0
  ·subst ht
   have h:v=some x:=h
   subst h;left;simp
  ·rw [jF ht] at h
   simp only [cond_false] at h
   right
   by_cases hm:Nat.mod t 2=1
   ·rw [hm] at h
    left
    have:=I4 (a:=2*a) (b:=a+b) (show l.get (Nat.div t 2)=some x from h)
    have e:2*a*Nat.div t 2+(a+b)=a*t+b:=by
     have h1:t=2*(t / 2)+1:=by have h2:t % 2=1:=hm;omega
     show 2*a*(t / 2)+(a+b)=a*t+b
     conv=>rhs;rw [h1]
     rw [Nat.mul_add,cJ,← Nat.mul_assoc,Nat.mul_comm a 2];omega
    rwa [e] at this
   ·rw [jF hm] at h
    right
    have:=I4 (a:=2*a) (b:=2*a+b) (show r.get (Nat.pred (Nat.div t 2))=some x from h)
    have e:2*a*Nat.pred (Nat.div t 2)+(2*a+b)=a*t+b:=by
     have h1:t=2*(t / 2 - 1)+2:=by have h2:¬ t % 2=1:=hm;omega
     rw [Nat.pred_eq_sub_one]
     show 2*a*(t / 2 - 1)+(2*a+b)=a*t+b
     conv=>rhs;rw [h1]
     rw [Nat.mul_add,← Nat.mul_assoc,Nat.mul_comm a 2];omega
    rwa [e] at this
theorem Gw:∀ {e:Env} {t:Nat} {v:Value},(t,v) ∈ e→(∀ u,(t,u) ∈ e→u=v)→Env.get e t=some v
 |[],_,_,h,_=>by simp at h
 |(k,w)::e,t,v,h,hu=>by
  simp only [Env.get]
  by_cases hk:k=t
  ·subst hk
   rw [Nat.beq_refl]
   have:=hu w oS
   subst this;rfl
  ·rw [jF hk]
   rcases List.mem_cons.1 h with h|h
   ·exact absurd (congrArg Prod.fst h).symm hk
   ·exact Gw h fun u a=>hu u (dT _ a)
theorem yh {tr:PT}:Agr (Ec tr) tr:=by
 intro t v h
 refine Gw ?_ fun u hu=>?_
 ·have:=I4 (a:=1) (b:=0) h;simpa [Ec] using this
 ·obtain ⟨t',h1,h2⟩:=Dw hu
  simp only [Nat.one_mul,cV] at h1
  subst h1
  rw [h] at h2
  exact (Option.some.inj h2).symm
theorem LX {e:Env}:∀ {e2:Env},(∀ p ∈ e2,Env.get e p.1=some p.2)→rJ e e2
 |[],_=>trivial
 |(t,v)::r,h=>⟨h (t,v) oS,LX fun p hp=>h p (dT _ hp)⟩
theorem Oi {e:Env} {tr:PT} (h:Agr e tr):rJ e (Ec tr):=LX fun p hp=>by
 obtain ⟨t,h1,h2⟩:=Dw hp
 simp only [Nat.one_mul,cV] at h1
 rw [h1];exact h t _ h2
theorem LY:∀ {e:Env},Agr e (aa4 e)
 |[]=>Agr.full _ _
 |(t,v)::e=>(LY (e:=e)).put t v
theorem af4 {q:Bool} {m:Nat} {ρ ρ':Rho} {p:Nat→Bool} {v v':Value} (h:VQ q m ρ v v'):pv p v=true→(∀ i,p i=true→ρ' i=ρ i)→VQ q m ρ' v v':=by
 have d:∀ {a:Array Value},pvA p a=true→∀ (i:Nat) (h:i<a.size),pv p a[i]=true:=by
  rintro ⟨l⟩ h i hi
  have:∀ (l:List Value),pvL p l=true→∀ (i:Nat) (h:i<l.length),pv p l[i]=true:=by
   intro l
   induction l with
   |nil=>intro _ i hi;simp at hi
   |cons x l ih =>
    intro h i hi
    simp only [pvL,aE] at h
    cases i with
    |zero=>exact h.1
    |succ i=>exact ih h.2 i (oU hi)
  exact this l h i hi
 induction h with
 |bool b=>intro _ _;exact .bool b
 |int k x=>intro _ _;exact .int k x
 |string s=>intro _ _;exact .string s
 |nilPtr=>intro _ _;exact .nilPtr
 |ptr i o hi=>intro h1 h2;rw [← h2 i h1];exact .ptr _ _ hi
 |nilSlice=>intro _ _;exact .nilSlice
 |zslice a hq=>intro _ _;exact .zslice a hq
 |zsliceZ hq=>intro _ _;exact .zsliceZ hq
 |emptySlice i o a c=>intro _ _;exact .emptySlice _ _ _ _
 |slice i o l c c' hc hi=>intro h1 h2;rw [← h2 i h1];exact .slice _ _ _ _ _ hc hi
 |gslice i o l c c' sz hc hs hi hq=>intro h1 h2;rw [← h2 i h1] at hs ⊢;exact .gslice _ _ _ _ _ _ hc hs hi hq
 |sliceG i o l c c' sz hc hi hq=>intro h1 h2;rw [← h2 i h1];exact .sliceG _ _ _ _ _ _ hc hi hq
 |gsliceG i o l c c' sz hc hi hq=>intro h1 h2;rw [← h2 i h1];exact .gsliceG _ _ _ _ _ _ hc hi hq
 |nilMap=>intro _ _;exact .nilMap
 |map i hi=>intro h1 h2;rw [← h2 i h1];exact .map _ hi
 |stamp i hi hq=>intro h1 h2;rw [← h2 i h1];exact .stamp _ hi hq
 |stampG i hi hq=>intro h1 h2;rw [← h2 i h1];exact .stampG _ hi hq
 |nilFunc=>intro _ _;exact .nilFunc
 |func f a a' b b' h1 h2 h3 h4 ih1 ih2 =>
  intro h5 h6
  simp only [pv,aE] at h5
  exact .func _ _ _ _ _ h1 h2 (fun i h h'=>ih1 i h h' (d h5.1 i h) h6) (fun i h h'=>ih2 i h h' (d h5.2 i h) h6)
 |yield l hi=>intro h1 h2;simp only [pv,aE] at h1;rw [← h2 l h1.1.1];exact .yield _ hi
 |nilIface=>intro _ _;exact .nilIface
 |iface t v v' h ih=>intro h1 h2;exact .iface _ _ _ (ih h1 h2)
 |agg a a' h1 h3 ih=>intro h5 h6;exact .agg _ _ h1 fun i h h'=>ih i h h' (d h5 i h) h6
 |tuple a a' h1 h3 ih=>intro h5 h6;exact .tuple _ _ h1 fun i h h'=>ih i h h' (d h5 i h) h6
theorem Gx:∀ {n1:List (Nat×Heap)} {i:Nat} {h:Heap} {n2:List (Nat×Heap)} {q:Nat},q<h.length→Ed (n1++(i,h)::n2) ((iH n1).length+q)=some i
 |[],i,h,n2,q,hq=>by
  simp only [eR,iH,dz,ff,eb,bA,Ed]
  rw [show Nat.blt q h.length=true from Nat.blt_eq.mpr hq];rfl
 |p::n1,i,h,n2,q,hq=>by
  have hl:(iH (p::n1)).length=p.2.length+(iH n1).length:=by simp [iH]
  simp only [List.cons_append,Ed]
  rw [show Nat.blt ((iH (p::n1)).length+q) p.2.length=false from by
   cases hb:Nat.blt ((iH (p::n1)).length+q) p.2.length with
   |false=>rfl
   |true=>have:=Nat.blt_eq.mp hb;omega]
  simp only [cond_false]
  rw [show (iH (p::n1)).length+q - p.2.length=(iH n1).length+q by omega]
  exact Gx hq
theorem Cc {all:List Oper}:∀ (rest:List Oper) (acc:List Nat),rest=all.drop acc.length→acc.length≤all.length→(∀ (k mk:Nat),acc[k]?=some mk→Good all k mk) →
  ∀ (k mk:Nat),(oh rest acc)[k]?=some mk→Good all k mk
 |[],acc,_,_,h,k,mk,hk=>h k mk hk
 |o::rest,acc,hr,hl,h,k,mk,hk=>by
  simp only [oh,yE] at hk
  have hx:all[acc.length]?=some o:=by
   have:=congrArg (fun l:List Oper=>l[0]?) hr
   simpa using this.symm
  have hlt:=(List.getElem?_eq_some_iff.1 hx).1
  refine Cc rest (acc++[qG acc o.after.toList]) ?_ (by simp;omega) ?_ k mk hk
  ·have:=congrArg List.tail hr
   simpa using this
  ·intro j m hj
   by_cases a:j<acc.length
   ·rw [bR a] at hj;exact h j m hj
   ·rw [bE oO] at hj
    have:j=acc.length:=by
     have:=(List.getElem?_eq_some_iff.1 hj).1
     simp at this;omega
    subst this
    simp at hj
    subst hj
    exact Bj hx h hl
theorem WV {all:List Oper} {k n len m:Nat} {news:List (Nat×Heap)} {v:Value} {o:Oper} (ho:all[k]?=some o) (hm:Good all k m) (hlen:len=n+(iH news).length) (h:pv (aa7 n len m news) v=true):YI all k n news v:=by
 rintro n1 i x n2 rfl ⟨D,hD,d,c⟩ w ρ ρ' v' hv hρ
 refine af4 hv h fun b hb=>hρ b ?_
 simp only [aa7,eq] at hb
 have hl:(iH (n1++(i,x)::n2)).length=(iH n1).length+(x.length+(iH n2).length):=by simp [iH]
 rcases hb with (hb|hb)|hb
 ·have:=Nat.blt_eq.mp hb;omega
 ·have:=cA hb;omega
 ·by_cases hr:b<n+(iH n1).length∨n+(iH n1).length+x.length≤b
  ·exact hr
  ·exfalso
   have a:=Gx (n1:=n1) (i:=i) (h:=x) (n2:=n2) (q:=b - n - (iH n1).length) oO
   rw [show (iH n1).length+(b - n - (iH n1).length)=b - n by omega] at a
   rw [a] at hb
   exact c (hm D hD o ho (fun j hj=>hD k o ho d j hj) i hb)
theorem LZ {n:Nat}:∀ {ns:Heap},OV n ns=true→rY n ns
 |[],_=>fun x hx=>by simp at hx
 |o::r,h=>by
  unfold OV at h
  split at h
  ·cases ‹_::_=[]›
  ·rename_i cs r' a
   cases a
   simp only [aE] at h
   intro x hx
   rcases List.mem_cons.1 hx with rfl|hx
   ·exact ⟨cs,rfl,h.1.1,h.1.2⟩
   ·exact LZ h.2 x hx
  ·cases h
theorem aah {v:Value} {p:Nat×Nat×Nat×Nat} (h:abh v=some p):∃ s,v=.slice (some ⟨p.1,p.2.1,some s⟩) p.2.2.1 p.2.2.2:=by unfold abh at h;split at h <;> cases h <;> exact ⟨_,rfl⟩
theorem L6 {v:Value} (h:OY v=true):v=.nilFunc:=by unfold OY at h;split at h <;> simp_all
theorem aai {n:Nat} {π:Rho} {u v:Value} (h:abj u v=true):jS n π u v:=by
 unfold abj at h
 split at h
 ·rename_i x hx
  unfold eqI at h
  split at h
  ·rename_i y hy
   simp only [aE,decide_eq_true_eq] at h
   rw [jO hx,jO hy,h.1,h.2];exact .int _ _
  ·cases h
 split at h
 ·rename_i b hb
  unfold eqB at h
  split at h
  ·rename_i c hc
   rw [sJ hb,sJ hc]
   have:b=c:=by simpa using h
   rw [this];exact .bool _
  ·cases h
 simp only [eq,aE] at h
 rcases h with (h|h)|h
 ·rw [sO h.1,sO h.2];exact .nilSlice
 ·rw [BF h.1,BF h.2];exact .nilPtr
 ·rw [L6 h.1,L6 h.2];exact .nilFunc
theorem WW {n:Nat} {π:Rho} {u v:Value} (h:ad7 n π u v=true):jS n π u v:=by
 unfold ad7 at h
 split at h
 ·rename_i p hp
  split at h
  ·rename_i q hq
   simp only [subP,aE] at h
   obtain ⟨⟨h1,h2⟩,h3⟩:=h
   rw [jP hp,jP hq,← aM h2,← aM h3]
   exact .ptr _ _ (Nat.blt_eq.mp h1)
  ·cases h
 split at h
 ·rename_i p hp
  split at h
  ·rename_i q hq
   simp only [ad6,aE] at h
   obtain ⟨⟨⟨⟨h1,h2⟩,h3⟩,h4⟩,h5⟩:=h
   rw [lJ hp,lJ hq,← aM h2,← aM h3,← aM h4]
   exact .slice _ _ _ _ _ (cA h5) (Nat.blt_eq.mp h1)
  ·split at h
   ·rename_i q hq
    simp only [ad6,aE] at h
    obtain ⟨⟨⟨⟨h1,h2⟩,h3⟩,h4⟩,h5⟩:=h
    obtain ⟨s,hs⟩:=aah hq
    rw [lJ hp,hs,← aM h2,← aM h3,← aM h4]
    exact .sliceG _ _ _ _ _ _ (cA h5) (Nat.blt_eq.mp h1) rfl
   ·cases h
 ·exact aai h
theorem Dx {n:Nat} {π:Rho}:∀ {a b:List Value},OZ n π a b=true→a.length=b.length∧∀ (i:Nat) (h:i<a.length) (h':i<b.length),jS n π a[i] b[i]
 |[],b,h=>by
  simp only [OZ,List.isEmpty_iff] at h
  subst h;exact ⟨rfl,fun i hi=>by simp at hi⟩
 |u::us,[],h=>by simp [OZ] at h
 |u::us,v::vs,h=>by
  simp only [OZ,aE] at h
  obtain ⟨h1,h2⟩:=Dx h.2
  refine ⟨by simp [h1],fun i hi c=>?_⟩
  cases i with
  |zero=>exact WW h.1
  |succ i=>exact h2 i (oU hi) (oU c)
theorem Oj {n:Nat} {π:Rho} {u v:Value} (h:abk n π u v=true):jS n π u v:=by
 unfold abk at h
 split at h
 ·rename_i l hl
  split at h
  ·rename_i l' c
   obtain ⟨h1,h2⟩:=Dx h
   rw [Az hl,Az c]
   exact .tuple _ _ (oU h1) fun i hi a=>by simpa using h2 i (oU hi) (oU a)
  ·cases h
 split at h
 ·rename_i l hl
  split at h
  ·rename_i l' c
   obtain ⟨h1,h2⟩:=Dx h
   rw [nC hl,nC c]
   exact .agg _ _ (oU h1) fun i hi a=>by simpa using h2 i (oU hi) (oU a)
  ·cases h
 unfold afF at h
 split at h
 ·rename_i f hf
  split at h
  ·rename_i g hg
   simp only [aE] at h
   obtain ⟨⟨h0,h1⟩,h2⟩:=h
   obtain ⟨a1,a2⟩:=Dx h1
   obtain ⟨b1,b2⟩:=Dx h2
   rw [Ei hf,Ei hg,← aM h0]
   exact .func _ _ _ _ _ (oU a1) (oU b1) (fun i hi a=>by simpa using a2 i (oU hi) (oU a)) (fun i hi a=>by simpa using b2 i (oU hi) (oU a))
  ·cases h
 ·exact WW h
theorem zS {n:Nat} {π:Rho}:∀ {a b:List Value},GN n π a b=true→a.length≤b.length∧∀ (i:Nat) (h:i<a.length) (h':i<b.length),jS n π a[i] b[i]
 |[],b,h=>⟨by simp,fun i hi=>by simp at hi⟩
 |u::us,[],h=>by simp [GN] at h
 |u::us,v::vs,h=>by
  simp only [GN,aE] at h
  obtain ⟨h1,h2⟩:=zS h.2
  refine ⟨by simp [h1],fun i hi c=>?_⟩
  cases i with
  |zero=>exact Oj h.1
  |succ i=>exact h2 i (oU hi) (oU c)
theorem ads {σ:Heap} {n b:Nat} {π:Rho} {o:aB} (h:subO n π o σ[b]?=true):yC σ n π ⟨b,0,0⟩ o:=by
 unfold subO at h
 split at h
 ·rename_i a h2
  split at h
  ·rename_i cs hc
   obtain ⟨h3,h4⟩:=zS h
   rw [pG h2]
   refine .inr ⟨rfl,cs,?_,h3,h4⟩
   simp only [aL] at hc
   obtain ⟨x,hx,hc⟩:=hc
   unfold XD at hc
   split at hc
   ·cases hc;exact .inl hx
   ·cases hc;exact .inr ⟨_,hx⟩
   ·cases hc
  ·cases h
 split at h
 ·rename_i a h2
  split at h
  ·rename_i cs hc
   obtain ⟨h3,h4⟩:=zS h
   rw [sQ h2]
   simp only [aL] at hc
   obtain ⟨x,hx,hc⟩:=hc
   rw [sQ hc] at hx
   exact .inr ⟨cs,hx,fun k hk=>⟨by simp only [bA];omega,by simpa using h4 k hk oO⟩⟩
  ·cases h
 ·cases h
theorem osubs_of {σ:Heap} {n:Nat} {π:Rho}:∀ {l:List Nat} {news:Heap} {k:Nat},RU n π σ l news=true→(∀ (j b:Nat),l[j]?=some b→π (k+j)=⟨b,0,0⟩)→DX σ n π k news
 |[],news,k,h,_=>by
  simp only [RU,List.isEmpty_iff] at h
  subst h;trivial
 |b::bs,[],k,h,_=>trivial
 |b::bs,o::os,k,h,hπ=>by
  simp only [RU,aE] at h
  have h0:=hπ 0 b oS
  rw [cV] at h0
  refine ⟨by rw [h0];exact ads h.1,osubs_of h.2 fun j c hj=>?_⟩
  rw [show k+1+j=k+(j+1) by omega]
  exact hπ (j+1) c (oU hj)
theorem Keep.take {lo:Nat} {σ0 σ:Heap} (h:Keep lo σ0 σ) (hn:σ0.length≤lo):σ.take σ0.length=σ0:=by
 refine fx fun i=>?_
 rw [eE]
 split
 ·rename_i hi;exact h.2 i oO hi
 ·rename_i hi;exact (eM oO).symm
theorem Qz {p:aB→Bool}:∀ {l:Heap},allB p l=true→∀ (i:Nat) (o:aB),l[i]?=some o→p o=true
 |[],_,i,o,h=>by simp at h
 |x::l,h,i,o,ho=>by
  simp only [allB,aE] at h
  cases i with
  |zero=>simp at ho;subst ho;exact h.1
  |succ i=>exact Qz h.2 i o (oU ho)
theorem QA {n:Nat} {o:aB} (h:Aw n o=true):gq n o:=by
 cases o with
 |map es =>
  simp only [Aw,eo,aE] at h
  exact fun p hp=>h p hp
 |_=>simp_all [Aw,gq]
theorem adt {σ0 σ:Heap} {lo:Nat} {v:Value} (h:Keep lo σ0 σ):aY σ0 σ v v (σ.take (XG σ0.length lo v σ))∧σ0.length≤XG σ0.length lo v σ:=by
 unfold XG afI
 generalize hm:Nat.max σ0.length (Nat.max (top v) (topH ((σ.take σ0.length).drop lo)))=m
 have c:σ0.length≤m:=by rw [← hm];exact Nat.le_max_left _ _
 cases hc:Nat.ble m σ.length && closed m v && okV v && allB (Aw m) ((σ.take m).drop (minN lo σ0.length)) with
 |false =>
  simp only [cond_false]
  refine ⟨.inl ⟨rfl,eZ⟩,h.1⟩
 |true =>
  simp only [cond_true]
  simp only [aE] at hc
  obtain ⟨⟨⟨h1,h2⟩,h3⟩,h4⟩:=hc
  have h1:=cA h1
  have a:(σ.take m).length=m:=by simp;omega
  refine ⟨.inr fun k=>⟨fun i=>⟨i,0,0⟩,⟨by rw [a];exact c,fun _ _=>rfl,fun i o2 hi=>?_,fun i j oi oj _ _ _ _ hb=>hb⟩,?_⟩,c⟩
  ·have g:=hi
   rw [eE] at hi
   split at hi
   ·rename_i e
    by_cases d:i<minN lo σ0.length
    ·rw [qE] at d
     have h0:=h.2 i oO oO
     rw [h0] at hi
     have f:=k i o2 hi
     exact mW (m:=σ0.length) (fun _ _=>rfl) (by rw [a];exact c) oO (by rw [h0];exact hi) f
    ·have:=Qz h4 (i - minN lo σ0.length) o2 (by rw [eO,show minN lo σ0.length+(i - minN lo σ0.length)=i by omega];exact g)
     exact mW (m:=m) (fun _ _=>rfl) (by rw [a];exact aD _) e hi (QA this)
   ·cases hi
  ·exact qN (m:=m) (fun _ _=>rfl) (by rw [a];exact aD _) v h2 h3
theorem L8 {σ0 σ:Heap} {lo:Nat} {v:Value} {r:Value×Heap×Nat} (h:Keep lo σ0 σ) (hr:O5 σ0.length lo v σ=some r):aY σ0 σ v r.1 r.2.1∧Keep r.2.2 σ0 r.2.1:=by
 simp only [O5,gB] at hr
 cases hr
 obtain ⟨h1,h2⟩:=adt (v:=v) h
 refine ⟨h1,by have:=h.1;simp;omega,fun i hi hl=>?_⟩
 rw [eE,if_pos oO]
 exact h.2 i hi hl
theorem Yz {σ0 σ:Heap} {lo:Nat} {v:Value} {r:Value×Heap×Nat} (h:Keep lo σ0 σ) (hlo:σ0.length≤lo) (hr:Vx σ0.length lo v σ=some r):aY σ0 σ v r.1 r.2.1∧Keep r.2.2 σ0 r.2.1:=by
 simp only [Vx,afM,afL,gB,aN,aE] at hr
 obtain ⟨⟨⟨⟨h1,h2⟩,h3⟩,h4⟩,h5⟩:=hr
 cases h5
 have ht:=h.take hlo
 simp only [ht]
 refine ⟨aY.src _ _ ht (aM h2) h1 (osubs_of h3 fun j b hj=>?_) (Oj h4),Keep.app⟩
 unfold fV
 rw [if_neg oO,Nat.add_sub_cancel_left,hj]
theorem adu {σ0 σ:Heap} {lo:Nat} {v:Value} {r:Value×Heap×Nat} (h:Keep lo σ0 σ) (hr:retK σ0.length lo v σ=some r):aY σ0 σ v r.1 r.2.1∧Keep r.2.2 σ0 r.2.1:=by
 unfold retK at hr
 cases hb:Nat.ble σ0.length lo with
 |false=>rw [hb] at hr;exact L8 h hr
 |true =>
  rw [hb] at hr
  simp only [cond_true] at hr
  split at hr
  ·rename_i r' a
   cases hr
   exact Yz h (cA hb) a
  ·exact L8 h hr
theorem Ig {P:Program} {T:Tab} (hT:iF P T) {e:Env} {tr:PT} {σ:Heap} (ha:Agr e tr):∀ {rv:List ResultVar} {vs:List Value},resT T tr σ rv=some vs→uh P e σ rv vs
 |[],vs,h=>by cases h;exact .nil
 |.tmp t::rv,vs,h=>by
  simp only [resT,aL] at h
  obtain ⟨v,h1,us,h2,h3⟩:=h
  cases h3
  exact .tmp (ha t v h1) (Ig hT ha h2)
 |.cell a ty::rv,vs,h=>by
  simp only [resT,aL] at h
  obtain ⟨v,⟨p,h1,d⟩,us,h2,h3⟩:=h
  cases h3
  obtain ⟨i,o,size,bytes,z,agg,rfl,c,h4,h5⟩:=XJ hT d
  rcases h5 with ⟨rfl,h5⟩|⟨rfl,cs,h5,h6⟩
  ·exact .cell1 c (ha a _ h1) h5 (Ig hT ha h2)
  ·rw [h6];exact .cellN c (ha a _ h1) h5 (Ig hT ha h2)
theorem L9:∀ (mk:List Nat) (n:Nat) (σ:Heap),Keep (minL n mk) σ (kS mk σ)
 |[],n,σ=>Keep.refl
 |i::l,n,σ=>by
  simp only [kS,minL,qE]
  exact Keep.set.trans (L9 l n _)
theorem adv {mk:List Nat} {σ:Heap} (h:mkOk mk σ=true):mk.Nodup∧∀ i ∈ mk,σ[i]?=some .dfr:=by
 simp only [mkOk,aE,decide_eq_true_eq,eo] at h
 refine ⟨h.1,fun i hi=>?_⟩
 have:=h.2 i hi
 unfold afJ at this
 split at this
 ·assumption
 ·cases this
theorem Ih {u v:Value} (h:ad2 u v=true):u=v:=by
 unfold ad2 at h
 split at h
 ·rename_i l hl
  split at h
  ·rename_i l' a
   rw [nC hl,nC a,qj h]
  ·cases h
 ·exact Vy h
theorem adw {a b:Heap} (h:eqHp a b=true):a=b:=by
 unfold eqHp at h
 simp only [aE] at h
 have hl:=aM h.1
 refine fx fun i=>?_
 by_cases hi:i<a.length
 ·exact (Vz h.2 i hi).symm
 ·rw [eM oO,eM oO]
theorem vY {i:Nat} {l:List Nat}:Hw i l=true↔i ∈ l:=by
 unfold Hw
 rw [List.any_eq_true]
 constructor
 ·rintro ⟨x,h1,h2⟩;rw [aM h2];exact h1
 ·intro h;exact ⟨i,h,Nat.beq_refl i⟩
theorem Mc (L:Nat→Bool):∀ ws:List Nat,ws.filter L ∈ Nl ws
 |[]=>by simp [Nl]
 |i::r=>by
  have ih:=Mc L r
  simp only [Nl,List.mem_append,List.mem_map]
  by_cases h:L i=true
  ·rw [List.filter_cons_of_pos h];exact .inr ⟨_,ih,rfl⟩
  ·rw [List.filter_cons_of_neg h];exact .inl ih
theorem Gy:∀ {l:List Oper} {j i:Nat},i ∈ uq l j→i<j+l.length
 |[],_,_,h=>by simp [uq] at h
 |o::r,j,i,h=>by
  simp only [uq] at h
  have a:i ∈ uq r (j+1)→i<j+(o::r).length:=fun h=>by have:=Gy h;simp;omega
  cases hl:Vs o.op with
  |true =>
   rw [hl] at h
   rcases List.mem_cons.1 h with rfl|h
   ·simp
   ·exact a h
  |false=>rw [hl] at h;exact a h
section
variable {P:Program} {F:Fence} {n:Nat} {Q':Exit→Act→World→Prop} {l:List Oper}
end
def Hr:List Oper→Env→Env
 |[],e=>e
 |o::r,e=>match o.dst with|some d=>Late.zK d (Hr r e)|none=>Hr r e
theorem aaj {e:Env} {tr:PT} (ha:Agr e tr) (d:Nat):Agr (Late.zK d e) (tr.del d):=fun t u ht=>by
 have a:t ≠ d:=by
  rintro rfl
  rw [Trie.del_self] at ht;cases ht
 have h:=ha t u (Trie.del_get _ _ _ ht)
 have c:∀ {e:Env},Env.get (Late.zK d e) t=Env.get e t:=fun {e}=>by
  induction e with
  |nil=>rfl
  |cons p e ih =>
   obtain ⟨k,v⟩:=p
   simp only [Late.zK]
   cases hk:Nat.beq k d with
   |true =>
    have:=aM hk
    subst this
    simp only [cond_true,Env.get]
    rw [ih,show Nat.beq k t=false from jF (Ne.symm a)];rfl
   |false =>
    simp only [cond_false,Env.get]
    rw [ih]
 rw [c];exact h
theorem I5 {e:Env} {tr:PT} (ha:Agr e tr):∀ l:List Oper,Agr (Hr l e) (FB l tr)
 |[]=>ha
 |o::r=>by
  simp only [Hr,FB]
  cases o.dst with
  |none=>exact I5 ha r
  |some d=>exact aaj (I5 ha r) d
theorem I7 {e:Env} {t:Nat} {v:Value}:∀ {l:List Oper},Env.get (Hr l e) t=some v→Env.get e t=some v
 |[],h=>h
 |o::r,h=>by
  simp only [Hr] at h
  cases hd:o.dst with
  |none=>rw [hd] at h;exact I7 (l:=r) h
  |some d=>rw [hd] at h;exact I7 (l:=r) (Late.yK h).2
theorem EN {e:Env} {d:Nat}:∀ {l:List Oper} {o:Oper},o ∈ l→o.dst=some d→Env.get (Hr l e) d=none
 |[],_,h,_=>by simp at h
 |a::r,o,h,hd=>by
  cases hg:Env.get (Hr (a::r) e) d with
  |none=>rfl
  |some v =>
   exfalso
   simp only [Hr] at hg
   cases ha:a.dst with
   |none =>
    rw [ha] at hg
    rcases List.mem_cons.1 h with rfl|h
    ·rw [ha] at hd;cases hd
    ·rw [EN h hd] at hg;cases hg
   |some d' =>
    rw [ha] at hg
    obtain ⟨h1,h2⟩:=Late.yK hg
    rcases List.mem_cons.1 h with rfl|h
    ·rw [ha] at hd;cases hd;exact h1 rfl
    ·rw [EN h hd] at h2;cases h2
def Ol (all:List Oper) (vs:List Value):List Edge→Env→Env
 |[],e=>e
 |a::r,e=>bif Region.binds .any a then (match (all[a.on]?).bind (·.dst) with|some d=>(d,vN vs a.on)::Ol all vs r e|none=>Ol all vs r e) else Ol all vs r e
theorem Dy {all:List Oper} {vs:List Value} {e:Env} {tr:PT} (ha:Agr e tr):∀ l:List Edge,Agr (Ol all vs l e) (Y5 all vs l tr)
 |[]=>ha
 |a::r=>by
  simp only [Ol,Y5]
  cases Region.binds .any a with
  |false=>exact Dy ha r
  |true =>
   simp only [cond_true]
   cases hd:(all[a.on]?).bind (fun x=>x.dst) with
   |none=>exact Dy ha r
   |some d=>exact (Dy ha r).put d _
theorem QC {all:List Oper} {vs:List Value} {e:Env} {t:Nat} {u:Value}:∀ {l:List Edge},Env.get (Ol all vs l e) t=some u→Env.get e t=some u∨∃ a ∈ l,Region.binds .any a=true∧∃ o':Oper,all[a.on]?=some o'∧o'.dst=some t∧u=vN vs a.on
 |[],h=>.inl h
 |a::r,h=>by
  have up:Env.get (Ol all vs r e) t=some u→Env.get e t=some u∨∃ b ∈ a::r,Region.binds .any b=true∧∃ o':Oper,all[b.on]?=some o'∧o'.dst=some t∧u=vN vs b.on:=fun h=>by
   rcases QC h with h|⟨b,h1,h2⟩
   ·exact .inl h
   ·exact .inr ⟨b,dT _ h1,h2⟩
  simp only [Ol] at h
  cases hb:Region.binds .any a with
  |false=>rw [hb] at h;exact up h
  |true =>
   rw [hb] at h
   simp only [cond_true] at h
   split at h
   ·rename_i d hd
    obtain ⟨o',h1,h2⟩:=Option.bind_eq_some_iff.1 hd
    simp only [Env.get] at h
    cases hk:Nat.beq d t with
    |true =>
     rw [hk] at h
     have:=aM hk
     subst this
     cases h
     exact .inr ⟨a,fR ..,hb,o',h1,h2,rfl⟩
    |false=>rw [hk] at h;exact up h
   ·exact up h
def Gz (vs:List Value):List Oper→Nat→Env→Env
 |[],_,e=>e
 |o::r,j,e=>match o.dst with|some d=>(d,vN vs j)::Gz vs r (j+1) e|none=>Gz vs r (j+1) e
theorem EO {vs:List Value} {e:Env} {tr:PT} (ha:Agr e tr):∀ (l:List Oper) (j:Nat),Agr (Gz vs l j e) (RS vs l j tr)
 |[],_=>ha
 |o::r,j=>by
  simp only [Gz,RS]
  cases o.dst with
  |none=>exact EO ha r (j+1)
  |some d=>exact (EO ha r (j+1)).put d _
theorem Md {vs:List Value} {e:Env} {t:Nat} {u:Value}:∀ {l:List Oper} {j:Nat},Env.get (Gz vs l j e) t=some u→Env.get e t=some u∨∃ (k:Nat) (o':Oper),l[k]?=some o'∧o'.dst=some t∧u=vN vs (j+k)
 |[],_,h=>.inl h
 |o::r,j,h=>by
  have up:Env.get (Gz vs r (j+1) e) t=some u→Env.get e t=some u∨∃ (k:Nat) (o':Oper),(o::r)[k]?=some o'∧o'.dst=some t∧u=vN vs (j+k):=fun h=>by
   rcases Md h with h|⟨k,o',h1,h2,h3⟩
   ·exact .inl h
   ·exact .inr ⟨k+1,o',h1,h2,by rw [h3];congr 1;omega⟩
  simp only [Gz] at h
  cases hd:o.dst with
  |none=>rw [hd] at h;exact up h
  |some d =>
   rw [hd] at h
   simp only [Env.get] at h
   cases hk:Nat.beq d t with
   |true =>
    rw [hk] at h
    have:=aM hk
    subst this
    cases h
    exact .inr ⟨0,o,rfl,hd,rfl⟩
   |false=>rw [hk] at h;exact up h
theorem EP {N:Nat}:∀ {l:List Oper} {ds:List Nat} {j:Nat},Ef N l ds j=true→∀ (k:Nat) (o:Oper),l[k]?=some o→o.guard=none∧(∀ i,waits o i=true→i<j+k)∧∀ d,o.dst=some d→d<N∧d ∉ ds∧∀ (i:Nat) (o':Oper),i ≠ k→l[i]?=some o'→o'.dst ≠ some d
 |[],_,_,_,k,o,h=>by simp at h
 |a::r,ds,j,h,k,o,hk=>by
  simp only [Ef,aE] at h
  obtain ⟨⟨⟨h1,h2⟩,h3⟩,h4⟩:=h
  have c:∀ d,a.dst=some d→∀ (i:Nat) (o':Oper),r[i]?=some o'→o'.dst ≠ some d:=fun d hd i o' hi e=>by
   rw [hd] at h4
   have:=((EP h4 i o' hi).2.2 d e).2.1
   simp at this
  cases k with
  |zero =>
   simp at hk
   subst hk
   refine ⟨by simpa using h1,fun i hw=>?_,fun d hd=>?_⟩
   ·unfold waits bY at hw
    obtain ⟨x,hx,hb⟩:=Array.any_eq_true'.1 hw
    simp only [aE] at hb
    have:=List.all_eq_true.1 h2 x (oU hx)
    simp only [hb.1,Bool.not_true,Bool.false_or,bX] at this
    rw [← aM hb.2];exact this
   ·rw [hd] at h3
    simp only [aE,bX,eQ] at h3
    refine ⟨h3.1,fun hm=>?_,fun i o' hi f e=>?_⟩
    ·have:=vY.2 hm
     unfold Hw at this
     rw [this] at h3;cases h3.2
    ·cases i with
     |zero=>exact hi rfl
     |succ i=>exact c d hd i o' (oU f) e
  |succ k =>
   have g:r[k]?=some o:=by simpa using hk
   obtain ⟨g1,g2,g3⟩:=EP h4 k o g
   refine ⟨g1,fun i hw=>by have:=g2 i hw;omega,fun d hd=>?_⟩
   obtain ⟨q1,q2,q3⟩:=g3 d hd
   refine ⟨q1,fun hm=>q2 ?_,fun i o' hi f e=>?_⟩
   ·cases a.dst with
    |none=>exact hm
    |some d'=>exact dT _ hm
   ·cases i with
    |zero =>
     simp at f
     subst f
     exact c d e k o g hd
    |succ i=>exact q3 i o' oO (oU f) e
section
variable {P:Program} {T:Tab} {call:jE} {N:Nat} {rd:Option Nat} {tr e0:PT} {mk:List Nat} {σ:Heap} {all:List Oper} {vs:List Value}
theorem vO {sel sel':Nat→Bool}:∀ {ws:List Nat} {σ:Heap} {lo:Nat},(∀ i ∈ ws,sel i=sel' i)→hOf T call N all vs e0 sel ws σ lo=hOf T call N all vs e0 sel' ws σ lo
 |[],_,_,_=>rfl
 |i::r,σ,lo,h=>by
  have hr:∀ i ∈ r,sel i=sel' i:=fun i hi=>h i (dT _ hi)
  simp only [hOf]
  rw [h i (fR ..)]
  cases sel' i with
  |false=>exact vO hr
  |true =>
   simp only [cond_true]
   congr 1;funext o;congr 1;funext q
   exact vO hr
theorem I8 (hT:iF P T) (hc:iW P call) {sel:Nat→Bool} {σ0:Heap}:∀ {ws:List Nat} {σ:Heap} {lo:Nat} {h:Heap×Nat},hOf T call N all vs e0 sel ws σ lo=some h→Keep lo σ0 σ→Keep h.2 σ0 h.1
 |[],σ,lo,h,hh,hk=>by cases hh;exact hk
 |i::r,σ,lo,h,hh,hk=>by
  simp only [hOf] at hh
  cases hs:sel i with
  |false=>rw [hs] at hh;exact I8 hT hc hh hk
  |true =>
   rw [hs] at hh
   simp only [cond_true,aL] at hh
   obtain ⟨o,_,q,h2,h3⟩:=hh
   have:=(AB hT hc (e:=Ec _) yh h2).2
   refine I8 hT hc h3 ?_
   simp only [qE]
   exact hk.trans this
theorem aak {ws:List Nat} {lo:Nat}:hOf T call N all vs e0 (fun _=>false) ws σ lo=some (σ,lo):=by
 induction ws with
 |nil=>rfl
 |cons i r ih=>simp only [hOf,cond_false];exact ih
theorem QD {ws ms:List Nat} {Tl:List Nat} {h:Heap}:∀ {l:List Oper} {j:Nat},Y6 T call N all vs e0 ws ms σ Tl h l j=true→∀ (k:Nat) (o:Oper),l[k]?=some o →
  Hw (j+k) Tl=true∨Tl.any (fun i=>(ms.getD i 0).testBit (j+k))=true∨chkO T call N all vs e0 ws σ Tl h o (j+k)=true
 |[],_,_,k,o,h=>by simp at h
 |a::r,j,hh,k,o,hk=>by
  simp only [Y6,aE,eq] at hh
  cases k with
  |zero =>
   simp at hk
   subst hk
   rcases hh.1 with (h1|h1)|h1
   ·exact .inl h1
   ·exact .inr (.inl h1)
   ·exact .inr (.inr h1)
  |succ k =>
   have:=QD hh.2 k o (oU hk)
   rwa [show j+1+k=j+(k+1) by omega] at this
theorem QE {ws ms:List Nat}:∀ {l:List (List Nat)},ad3 T call N all vs e0 ws ms σ l=true→∀ Tl ∈ l,∃ h,hOf T call N all vs e0 (fun i=>Hw i Tl) ws σ σ.length=some h∧h.1.length=σ.length∧Y6 T call N all vs e0 ws ms σ Tl h.1 all 0=true
 |[],_,_,h=>by simp at h
 |T0::r,hh,Tl,hm=>by
  simp only [ad3,aE] at hh
  rcases List.mem_cons.1 hm with rfl|hm
  ·have h1:=hh.1
   split at h1
   ·rename_i h a
    simp only [aE,gB] at h1
    exact ⟨h,a,aM h1.1,h1.2⟩
   ·cases h1
  ·exact QE hh.2 Tl hm
theorem af5 {n0:Nat} {c:Code} {Q:Post} {e e2:Env} (h:∀ t v,Env.get e2 t=some v→Env.get e t=some v) (k:bP P n0 N rd c Q e2 mk σ):bP P n0 N rd c Q e mk σ:=by
 rintro G w0 ρ0 A w ⟨h0,ρ,a,hs,he⟩
 exact k G w0 ρ0 A w ⟨h0,ρ,a,hs,⟨he.tmps.1,fun t v hv=>he.tmps.2 t v (h t v hv)⟩,he.mks,he.mkb⟩
theorem adx (hT:iF P T) (hc:iW P call) (hmix:P.follows .mixedOrders=true) {id:Nat} {code:qV} {r:Exit×PT×List Nat×Heap×Nat} (h:ad4 all T call code N rd tr mk σ=some r) :
  (∀ (n0:Nat) (e:Env) (Q:Post),mG rd n0=true→Agr e tr→(∀ e',Agr e' r.2.1→Q r.1 e' r.2.2.1 r.2.2.2.1)→bP P n0 N rd (.region id all.toArray true) Q e mk σ)∧Keep r.2.2.2.2 σ r.2.2.2.1:=by
 simp only [ad4,aL,gB,afD,aN,aE] at h
 obtain ⟨_,r0,_,⟨⟨_,y⟩,c⟩,hF,hf,h⟩:=h
 cases h
 generalize valsN r0.1 all=vs at y c hf
 obtain ⟨ws,B⟩:∃ ws,ws=uq all 0:=⟨_,rfl⟩
 rw [← B] at c hf
 have l:∀ i ∈ ws,i<all.length:=fun i hi=>by rw [B] at hi;have:=Gy hi;omega
 refine ⟨fun n0 e Q E ha hQ=>?_,I8 hT hc hf Keep.refl⟩
 refine af5 (e2:=Hr all e) (fun t v hv=>I7 hv) ?_
 have C:=I5 ha all
 have p:∀ L:Nat→Bool,∃ h,hOf T call N all vs (FB all tr) L ws σ σ.length=some h∧h.1.length=σ.length∧Y6 T call N all vs (FB all tr) ws (oh all []) σ (ws.filter L) h.1 all 0=true:=fun L=>by
  obtain ⟨h,h1,h2,h3⟩:=QE c (ws.filter L) (Mc L ws)
  refine ⟨h,?_,h2,h3⟩
  rw [← h1]
  refine vO fun i hi=>?_
  cases hL:L i with
  |true=>exact (vY.2 (List.mem_filter.2 ⟨hi,hL⟩)).symm
  |false =>
   cases hm:Hw i (ws.filter L) with
   |false=>rfl
   |true=>have:=(List.mem_filter.1 (vY.1 hm)).2;rw [hL] at this;cases this
 let Hp:(Nat→Bool)→Heap:=fun L=>match hOf T call N all vs (FB all tr) L ws σ σ.length with|some h=>h.1|none=>σ
 have f:∀ {L:Nat→Bool} {h:Heap×Nat},hOf T call N all vs (FB all tr) L ws σ σ.length=some h→Hp L=h.1:=fun {L h} hh=>by simp only [Hp,hh]
 refine OJ hmix E (vN vs) Hp (fun j=>match all[j]? with|some o=>Ol all vs o.after.toList (Hr all e)|none=>[]) (fun L=>?_) (by rw [f aak]) (fun j o ho=>?_) (fun j o ho t u ht=>?_) (fun L j o ho z hw w=>?_) (fun L x=>⟨Gz vs all 0 (Hr all e),fun t u ht=>?_,?_⟩)
 ·obtain ⟨h,h1,h2,_⟩:=p L
  rw [f h1,h2]
 ·obtain ⟨g1,g2,g3⟩:=EP y j o ho
  refine ⟨g1,fun i hi=>by have:=g2 i hi;omega,fun d hd=>?_⟩
  obtain ⟨q1,_,q3⟩:=g3 d hd
  exact ⟨q1,EN (ew ho) hd,q3⟩
 ·simp only [ho] at ht
  rcases QC ht with h|⟨a,h1,h2,o',h3,h4,h5⟩
  ·exact .inl h
  ·refine .inr ⟨a.on,o',?_,h3,h4,h5⟩
   unfold waits bY
   rw [Array.any_eq_true']
   exact ⟨a,by simpa using h1,by simp [h2]⟩
 ·obtain ⟨h,h1,h2,h3⟩:=p L
  rw [f h1]
  simp only [ho]
  rcases QD h3 j o ho with g|g|g
  ·rw [bA] at g
   have:=(List.mem_filter.1 (vY.1 g)).2
   rw [z] at this;cases this
  ·exfalso
   rw [bA] at g
   obtain ⟨i,g1,g2⟩:=List.any_eq_true.1 g
   obtain ⟨g3,g4⟩:=List.mem_filter.1 g1
   have A:=l i g3
   have hm:(oh all [])[i]?=some ((oh all []).getD i 0):=by
    rw [cE] at g2 ⊢
    cases hx:(oh all [])[i]? with
    |none=>rw [hx] at g2;simp at g2
    |some m=>rfl
   have n:=Cc (all:=all) all [] oS oS (fun _ _ h=>by simp at h) i _ hm
   have:=n (fun k=>L k=true) (fun k o' hk F q hq=>w k o' hk F q hq) all[i] (cC A) (fun k hk=>w i _ (cC A) g4 k hk) j g2
   rw [z] at this;cases this
  ·rw [bA] at g
   unfold chkO at g
   split at g
   ·rename_i q hq
    simp only [aE] at g
    obtain ⟨gv,gw⟩:=g
    obtain ⟨s1,s2⟩:=AB hT hc (Dy C o.after.toList) hq
    refine ⟨q.1,?_,fun hd=>?_⟩
    ·cases hm:Hw j ws with
     |true =>
      rw [hm] at gw
      simp only [cond_true] at gw
      split at gw
      ·rename_i D G
       have e1:hOf T call N all vs (FB all tr) (kC L j) ws σ σ.length=some D:=by
        rw [← G]
        refine vO fun i hi=>?_
        unfold kC
        by_cases s:i=j
        ·subst s;simp
        ·rw [if_neg s,jF (Ne.symm s),Bool.false_or]
         cases hL:L i with
         |true=>exact (vY.2 (List.mem_filter.2 ⟨hi,hL⟩)).symm
         |false =>
          cases hm:Hw i (ws.filter L) with
          |false=>rfl
          |true=>have:=(List.mem_filter.1 (vY.1 hm)).2;rw [hL] at this;cases this
       rw [f e1,← adw gw]
       exact s1 rd o.type
      ·cases gw
     |false =>
      rw [hm] at gw
      simp only [cond_false,aE] at gw
      have e1:hOf T call N all vs (FB all tr) (kC L j) ws σ σ.length=some h:=by
       rw [← h1]
       refine vO fun i hi=>?_
       unfold kC
       rw [if_neg fun s=>by rw [← s,vY.2 hi] at hm;cases hm]
      have e2:q.2.1=h.1:=by
       have k1:=(s2.mono (cA gw.1)).eq_app
       have k2:=aM gw.2
       rw [k1,eL oO,bL]
      rw [f e1]
      have:=s1 rd o.type
      rw [e2] at this
      exact this
    ·unfold chkV at gv
     split at gv
     ·exact Ih gv
     ·rename_i hn;rw [hn] at hd;cases hd
   ·cases g
 ·rcases Md ht with h|⟨k,o',h1,h2,h3⟩
  ·exact .inl h
  ·exact .inr ⟨k,o',h1,h2,by rw [h3,bA]⟩
 ·have e1:hOf T call N all vs (FB all tr) L ws σ σ.length=some hF:=by
   rw [← hf]
   exact vO fun i hi=>x i (l i hi)
  rw [f e1]
  exact hQ _ (EO C all 0)
end
def oP (P:Program) (code:qV):Prop:=∀ (c:Code) (N:Nat) (rd:Option Nat) (tr:PT) (mk:List Nat) (σ:Heap) (r:Exit×PT×List Nat×Heap×Nat),code c N rd tr mk σ=some r →
 (∀ (n0:Nat) (e:Env) (Q:Post),mG rd n0=true→Agr e tr→(∀ e',Agr e' r.2.1→Q r.1 e' r.2.2.1 r.2.2.2.1)→bP P n0 N rd c Q e mk σ)∧Keep r.2.2.2.2 σ r.2.2.2.1
section
variable {P:Program} {T:Tab} {call:jE} {code:qV} {N:Nat} {rd:Option Nat} {tr:PT} {mk:List Nat} {σ:Heap} {all:List Oper}
theorem QF {ex:Exit} (h:JG ex=true):ex=.normal:=by unfold JG at h;split at h <;> simp_all
def OpsOk (P:Program) (N:Nat) (rd:Option Nat) (all rest:List Oper) (tr:PT) (σ:Heap) (r:PT×Heap×Nat):Prop :=
 (∀ (n0:Nat) (e:Env) (mk:List Nat) (K:Env→List Nat→Heap→Prop),mG rd n0=true→Agr e tr→(∀ e',Agr e' r.1→K e' mk r.2.1)→dA P n0 N rd all rest K e mk σ)∧Keep r.2.2 σ r.2.1
def WX (P:Program) (N:Nat) (rd:Option Nat) (all:List Oper) (o:Oper) (tr:PT) (σ:Heap) (r:PT×Heap×Nat):Prop :=
 (∀ (n0:Nat) (e:Env) (mk:List Nat) (rest:List Oper) (K:Env→List Nat→Heap→Prop),mG rd n0=true→Agr e tr→(∀ e',Agr e' r.1→dA P n0 N rd all rest K e' mk r.2.1)→dA P n0 N rd all (o::rest) K e mk σ)∧Keep r.2.2 σ r.2.1
theorem Ux (hT:iF P T) (hc:iW P call) {o:Oper} {r:PT×Heap×Nat} (h:OU T call N o tr σ=some r) (hw:∀ e,Agr e tr→kF all e o=some true):WX P N rd all o tr σ r:=by
 simp only [OU,aL] at h
 obtain ⟨q,h1,t1,h2,h3⟩:=h
 cases h3
 refine ⟨fun n0 e mk rest K a ha hK=>?_,(AB hT hc (e:=Ec tr) yh h1).2⟩
 obtain ⟨h4,h5⟩:=Ie ha h2
 exact agm a (hw e ha) h4 ((AB hT hc ha h1).1 _ _) (hK _ h5)
theorem WY {d l lo:Nat} {σ2:Heap} {ob:aB} {ex:Exit} {r:PT×Heap×Nat} (h:endY N d l tr σ2 lo ob ex=some r) (hσ:σ2[l]?=some ob):Nat.blt d N=true∧r.2.2=lo∧(∃ o,r.2.1=σ2.set l o) ∧
  ∀ (n0:Nat) (e:Env) (mk:List Nat) (rest:List Oper) (K:Env→List Nat→Heap→Prop),Agr e tr→(∀ e',Agr e' r.1→dA P n0 N none all rest K e' mk r.2.1)→∀ e2 mk2,fA P n0 N all rest K d l e mk ex e2 mk2 σ2:=by
 unfold endY at h
 split at h
 ·simp only [aN,aE] at h
  obtain ⟨⟨h1,h2⟩,h3⟩:=h
  cases h3
  exact ⟨h2,rfl,⟨_,rfl⟩,fun n0 e mk rest K ha hK e2 mk2=>⟨ob,hσ,h1,hK _ (ha.put d _)⟩⟩
 ·simp only [aN,aE] at h
  obtain ⟨⟨h1,h2⟩,h3⟩:=h
  cases h3
  exact ⟨h2,rfl,⟨_,rfl⟩,fun n0 e mk rest K ha hK e2 mk2=>⟨ob,hσ,h1,hK _ (ha.put d _)⟩⟩
 ·simp only [aN,aE] at h
  obtain ⟨⟨h1,h2⟩,h3⟩:=h
  cases h3
  exact ⟨h2,rfl,⟨_,rfl⟩,fun n0 e mk rest K ha hK e2 mk2=>⟨ob,hσ,h1,hK _ (ha.put d _)⟩⟩
 ·cases h
theorem aal (hcode:oP P code) {o:Oper} {y:Nat×List Value} {r:PT×Heap×Nat} (hy:yieldOf tr o rd=some y) (h:JH code N o.dst tr σ y=some r) (hw:∀ e,Agr e tr→kF all e o=some true):WX P N rd all o tr σ r:=by
 unfold yieldOf at hy
 split at hy
 ·obtain ⟨hd,hy⟩:=aN.1 hy
  obtain ⟨dst,op,ty,pos,after,g⟩:=o
  simp only [JH,aL] at h
  obtain ⟨d,rfl,ob,h1,h2⟩:=h
  simp only at hy h1 h2 hw
  cases op with
  |call c =>
   obtain ⟨q,⟨args⟩,ts⟩:=c
   cases q with
   |value x =>
    simp only [Xx,aa5,aL] at hy
    obtain ⟨l,⟨w,g1,g2⟩,vs,g3,g4⟩:=hy
    cases g4
    have u:w=.func (.yield l) #[] #[]:=by unfold Xl at g2;split at g2 <;> cases g2;rfl
    subst u
    simp only at h1 h2
    unfold aa6 at h2
    split at h2
    ·rename_i p0 N' e' ps assign body
     obtain ⟨ps⟩:=ps
     simp only [aN,aE,aL] at h2
     obtain ⟨⟨k1,k2⟩,r1,k3,k4,ob1,k5,k6⟩:=h2
     obtain ⟨ex1,t1,mk1,σ1,m⟩:=r1
     have k4:=QF k4
     simp only at k4 k5 k6
     subst k4
     unfold afB at k6
     split at k6
     ·rename_i a N2 e2 p as2 k
      simp only [aL] at k6
      obtain ⟨r2,k7,ob2,k8,k9⟩:=k6
      obtain ⟨ex2,t2,s,σ2,t⟩:=r2
      simp only at k8 k9
      have j:Nat.blt l σ.length=true:=Nat.blt_eq.mpr (aQ h1)
      obtain ⟨c1,c2⟩:=hcode _ _ _ _ _ _ _ k3
      obtain ⟨c3,c4⟩:=hcode _ _ _ _ _ _ _ k7
      have he:=WY (P:=P) (all:=all) k9 k8
      obtain ⟨b1,b2,⟨o9,b3⟩,_⟩:=he
      constructor
      ·intro n0 e mk f K hrd ha hK
       refine Fg (uO ha g1) (JJ ha g3) h1 k1 k2 b1 (fun _ n ρ A hE=>zh (hw e ha) hE) ?_
       refine c1 σ.length _ _ j (LW LY) fun e3 a3=>?_
       refine ⟨N2,e2,p,as2,k,a,k5,?_⟩
       refine c3 σ.length _ _ j a3 fun e4 a4=>?_
       exact (WY (P:=P) (all:=all) k9 k8).2.2.2 n0 e mk f K ha hK e4 s
      ·rw [b2,b3]
       simp only [qE]
       have q1:Keep (min m l) σ (σ1.set l (.loop .busy a N2 e2 p as2 k)):=c2.trans Keep.set
       have q2:Keep (min (min m l) t) σ σ2:=q1.trans c4
       exact (q2.trans (Keep.set (i:=l))).mono (by simp only [Nat.le_min];omega)
     ·cases k6
    ·cases h2
   |_=>cases hy
  |_=>cases hy
 ·cases hy
theorem Me (hT:iF P T) (hc:iW P call) (hcode:oP P code) {o:Oper} {b:Bool} {r:PT×Heap×Nat} (hw:∀ e,Agr e tr→kF all e o=some b) (h:JI T call code N rd o tr σ b=some r):WX P N rd all o tr σ r:=by
 cases b with
 |false =>
  simp only [JI,aL] at h
  obtain ⟨t1,h1,h2⟩:=h
  cases h2
  refine ⟨fun n0 e mk rest K hrd ha hK=>?_,Keep.refl⟩
  obtain ⟨h4,h5⟩:=Ie ha h1
  exact adL (hw e ha) h4 (hK _ h5)
 |true =>
  simp only [JI] at h
  split at h
  ·rename_i y hy;exact aal hcode hy h hw
  ·exact Ux hT hc h hw
theorem ER (hT:iF P T) (hc:iW P call) (hcode:oP P code):∀ {rest:List Oper} {tr:PT} {σ:Heap} {r:PT×Heap×Nat},CY T call code N rd all rest tr σ=some r→OpsOk P N rd all rest tr σ r
 |[],tr,σ,r,h=>by cases h;exact ⟨fun n0 e mk K _ ha hK=>l9 (hK e ha),Keep.refl⟩
 |o::rest,tr,σ,r,h=>by
  simp only [CY,afC,aL] at h
  obtain ⟨b,h1,r1,h2,r2,h3,h4⟩:=h
  cases h4
  obtain ⟨g1,g2⟩:=Me (all:=all) hT hc hcode (fun e ha=>Oh ha h1) h2
  obtain ⟨g3,g4⟩:=ER hT hc hcode h3
  refine ⟨fun n0 e mk K a ha hK=>g1 n0 e mk rest K a ha fun e1 c=>g3 n0 e1 mk K a c hK,?_⟩
  simp only [qE];exact g2.trans g4
theorem seen_eq {β:Type} {L:Nat→Bool} {σ0:Heap} {k:Heap→β}:∀ {news:List (Nat×Heap)},seen L σ0 k news=k (σ0++gZ L news)
 |[]=>by simp [seen,gZ]
 |p::news=>by simp [seen,gB]
theorem vZ (hT:iF P T) (hc:iW P call) {σ0:Heap} {K:Env→List (Nat×Heap)→List Oper→Prop}:∀ {rest:List Oper} {k:Nat} {tr:PT} {e:Env} {news:List (Nat×Heap)} {r:PT×List (Nat×Heap)×List Oper},
  rest=all.drop k→Ee T call N all (oh all []) σ0 k rest tr news=some r→Agr e tr→(∀ e',Agr e' r.1→K e' r.2.1 r.2.2)→bT P N rd all k rest e σ0 news K
 |[],k,tr,e,news,r,_,h,ha,hK=>by cases h;exact hK e ha
 |o::rest,k,tr,e,news,r,hr,h,ha,hK=>by
  have hx:all[k]?=some o:=by
   have:=congrArg (fun l:List Oper=>l[0]?) hr
   simpa using this.symm
  have a:rest=all.drop (k+1):=by
   have:=congrArg List.tail hr
   simpa using this
  simp only [Ee] at h
  split at h
  ·rename_i r1 c
   simp only [aL] at c
   obtain ⟨b,h1,h2⟩:=c
   have hw:=Oh ha h1
   cases b with
   |false =>
    simp only [OW,aL] at h2
    obtain ⟨t1,h3,h4⟩:=h2
    cases h4
    obtain ⟨h5,h6⟩:=Ie ha h3
    exact .inr ⟨h5,.inr ⟨hw,vZ hT hc a h h6 hK⟩⟩
   |true =>
    simp only [OW,seen_eq,RQ,aL,aN,gB,aE] at h2
    obtain ⟨q,h3,⟨⟨h4,h5⟩,h6⟩,t1,h7,h8⟩:=h2
    cases h8
    obtain ⟨h9,d⟩:=Ie ha h7
    obtain ⟨g1,g2⟩:=AB hT hc ha h3
    have g3:=(g2.mono (cA h4)).eq_app
    refine .inr ⟨h9,.inl ⟨hw,q.1,_,by rw [← g3];exact g1 rd o.type,LZ h5,?_,vZ hT hc a h d hK⟩⟩
    have hlt:=(List.getElem?_eq_some_iff.1 hx).1
    by_cases hm:k<(oh all []).length
    ·have hg:(oh all [])[k]?=some ((oh all []).getD k 0):=by rw [cE,cC hm];rfl
     exact WV hx (Cc all [] oS oS (fun _ _ h=>by simp at h) k _ hg) (by rw [aR,qO]) h6
    ·have h0:(oh all []).getD k 0=0:=by rw [cE,eM oO];rfl
     rw [h0] at h6
     exact WV hx (fun D _ o' _ _ i hi=>by simp at hi) (by rw [aR,qO]) h6
  ·cases h;exact .inl (hK e ha)
theorem WZ {x:Hu} {r:Exit×PT×List Nat×Heap×Nat} (h:abf mk x=some r):∃ q,x=some q∧r=(.normal,q.1,mk,q.2.1,q.2.2):=by
 simp only [abf,aL] at h
 obtain ⟨q,h1,h2⟩:=h
 exact ⟨q,h1,by cases h2;rfl⟩
theorem seq_ok (hcode:oP P code) {a b:Code} {r:Exit×PT×List Nat×Heap×Nat} (h:aa8 a b T call code N rd tr mk σ=some r) :
  (∀ (n0:Nat) (e:Env) (Q:Post),mG rd n0=true→Agr e tr→(∀ e',Agr e' r.2.1→Q r.1 e' r.2.2.1 r.2.2.2.1)→bP P n0 N rd (.seq a b) Q e mk σ)∧Keep r.2.2.2.2 σ r.2.2.2.1:=by
 simp only [aa8,aL] at h
 obtain ⟨⟨f,t1,mk1,σ1,lo1⟩,h1,h2⟩:=h
 obtain ⟨g1,g2⟩:=hcode _ _ _ _ _ _ _ h1
 simp only at g1 g2 h2
 unfold seqK at h2
 split at h2
 ·simp only [aL] at h2
  obtain ⟨⟨ex2,t2,mk2,σ2,lo2⟩,h3,h4⟩:=h2
  cases h4
  obtain ⟨g3,g4⟩:=hcode _ _ _ _ _ _ _ h3
  refine ⟨fun n0 e Q c ha hQ=>zU (g1 n0 e _ c ha fun e1 a1=>g3 n0 e1 Q c a1 hQ),?_⟩
  simp only [qE];exact g2.trans g4
 ·rename_i d
  cases h2
  refine ⟨fun n0 e Q c ha hQ=>zU (g1 n0 e _ c ha fun e1 a1=>?_),g2⟩
  have:=hQ e1 a1
  cases f with
  |normal=>exact absurd rfl d
  |_=>exact this
def Dz (P:Program) (N:Nat) (rd:Option Nat) (b:Code) (r:Exit×PT×List Nat×Heap×Nat):Nat→PT→List Nat→Heap→Prop
 |0,_,_,_=>False
 |m+1,tr,mk,σ=>∃ ex tr1 mk1 σ1,(∀ (n0:Nat) (e:Env) (Q:Post),mG rd n0=true→Agr e tr→(∀ e',Agr e' tr1→Q ex e' mk1 σ1)→bP P n0 N rd b Q e mk σ) ∧
  ((ex=.normal∧Dz P N rd b r m tr1 mk1 σ1)∨(ex ≠ .normal∧r.1=ex∧r.2.1=tr1∧r.2.2.1=mk1∧r.2.2.2.1=σ1))
theorem ady {b:Code} {r:Exit×PT×List Nat×Heap×Nat} {m:Nat} (h:Dz P N rd b r m tr mk σ) {n0:Nat} {e:Env} {Q:Post} (hrd:mG rd n0=true) (ha:Agr e tr) (hQ:∀ e',Agr e' r.2.1→Q r.1 e' r.2.2.1 r.2.2.2.1) :
  bP P n0 N rd (.loop b) Q e mk σ:=by
 refine UD (fun m e mk σ=>∃ tr,Agr e tr∧Dz P N rd b r m tr mk σ) (m0:=m) ⟨tr,ha,h⟩ ?_
 rintro m e mk σ ⟨tr,ha,h⟩
 cases m with
 |zero=>exact h.elim
 |succ m =>
  obtain ⟨ex,c,mk1,σ1,h1,h2⟩:=h
  refine h1 n0 e _ hrd ha fun e1 a1=>?_
  rcases h2 with ⟨rfl,h2⟩|⟨a,h3,h4,h5,h6⟩
  ·exact ⟨m,oO,c,a1,h2⟩
  ·have:=hQ e1 (by rw [h4];exact a1)
   rw [h3,h5,h6] at this
   cases ex with
   |normal=>exact absurd rfl a
   |_=>exact this
def Om (P:Program) (code:qV):Prop:=∀ (b:Code) (N:Nat) (rd:Option Nat) (tr:PT) (mk:List Nat) (σ:Heap) (r:Exit×PT×List Nat×Heap×Nat),code (.loop b) N rd tr mk σ=some r→∃ m,Dz P N rd b r m tr mk σ
theorem QG (hcode:oP P code) (hl:Om P code) {b:Code} {r:Exit×PT×List Nat×Heap×Nat} (h:abe b T call code N rd tr mk σ=some r):(∃ m,Dz P N rd b r m tr mk σ)∧Keep r.2.2.2.2 σ r.2.2.2.1:=by
 refine ⟨?_,(seq_ok hcode h).2⟩
 simp only [abe,aa8,aL] at h
 obtain ⟨⟨f,t1,a,σ1,lo1⟩,h1,h2⟩:=h
 obtain ⟨g1,g2⟩:=hcode _ _ _ _ _ _ _ h1
 simp only at g1 g2 h2
 unfold seqK at h2
 split at h2
 ·simp only [aL] at h2
  obtain ⟨⟨ex2,t2,mk2,σ2,lo2⟩,h3,h4⟩:=h2
  cases h4
  obtain ⟨m,hm⟩:=hl _ _ _ _ _ _ _ h3
  refine ⟨m+1,.normal,t1,a,σ1,g1,.inl ⟨rfl,?_⟩⟩
  clear h1 g1 g2 h3
  induction m generalizing t1 a σ1 with
  |zero=>exact hm.elim
  |succ m ih =>
   obtain ⟨ex,e,d,σ3,q1,q2⟩:=hm
   refine ⟨ex,e,d,σ3,q1,?_⟩
   rcases q2 with ⟨q2,q3⟩|q2
   ·exact .inl ⟨q2,ih _ _ _ q3⟩
   ·exact .inr q2
 ·rename_i c
  cases h2
  exact ⟨1,f,t1,a,σ1,g1,.inr ⟨fun h=>c h,rfl,rfl,rfl,rfl⟩⟩
theorem Oo (hT:iF P T) (hc:iW P call) (hcode:oP P code) {l:List Oper} {r:Exit×PT×List Nat×Heap×Nat} (h:Y4 l T call code N rd tr mk σ=some r) :
  ∃ f,Ee T call N l (oh l []) σ 0 l tr []=some f∧drawOk l (l.length - f.2.2.length)=true ∧
   (∀ (n0:Nat) (e1:Env) (Q:Post),mG rd n0=true→Agr e1 f.1→(∀ e',Agr e' r.2.1→Q r.1 e' r.2.2.1 r.2.2.2.1)→dA P n0 N rd l f.2.2 (Q .normal) e1 mk (σ++gZ (fun _=>true) f.2.1))∧Keep r.2.2.2.2 σ r.2.2.2.1:=by
 simp only [Y4,regD,aL,aN,yE,seen_eq] at h
 obtain ⟨f,h1,h2,h3⟩:=h
 obtain ⟨q,h4,rfl⟩:=WZ h3
 simp only [aL] at h4
 obtain ⟨q0,h5,h6⟩:=h4
 cases h6
 obtain ⟨g1,g2⟩:=ER hT hc hcode h5
 refine ⟨f,h1,h2,fun n0 e1 Q a a1 hQ=>g1 n0 e1 mk _ a a1 hQ,?_⟩
 simp only [qE]
 exact (Keep.app (lo:=σ.length)).trans g2
end
theorem MB:∀ {l:List Oper} {j:Nat},Eh l j=true→∀ (k:Nat) (o:Oper),l[k]?=some o→∀ i,waits o i=true→i<j+k
 |[],_,_,k,o,h=>by simp at h
 |a::r,j,h,k,o,hk=>by
  simp only [Eh,aE] at h
  cases k with
  |zero =>
   simp at hk
   subst hk
   intro i hw
   unfold waits bY at hw
   obtain ⟨x,hx,hb⟩:=Array.any_eq_true'.1 hw
   simp only [aE] at hb
   have:=List.all_eq_true.1 h.1 x (oU hx)
   simp only [hb.1,Bool.not_true,Bool.false_or,bX] at this
   rw [← aM hb.2];exact this
  |succ k =>
   intro i hw
   have:=MB h.2 k o (oU hk) i hw
   omega
theorem W9:∀ {a b:List Bool},Vt a b=true→a=b
 |[],b,h=>by simp only [Vt,List.isEmpty_iff] at h;exact h.symm
 |x::a,[],h=>by simp [Vt] at h
 |x::a,y::b,h=>by
  simp only [Vt,aE,beq_iff_eq] at h
  rw [h.1,W9 h.2]
theorem I9 {m:List Bool}:∀ {l:List CSt} {t:CSt},RX m l=some t→t ∈ l∧t.1=m
 |[],_,h=>by simp [RX] at h
 |x::l,t,h=>by
  simp only [RX] at h
  cases hb:Vt x.1 m with
  |true=>rw [hb] at h;cases h;exact ⟨fR ..,W9 hb⟩
  |false=>rw [hb] at h;obtain ⟨h1,h2⟩:=I9 (l:=l) h;exact ⟨dT _ h1,h2⟩
theorem Xa {n:Nat} {π:Rho} {u v:Value} (h:ad8 n π u v=true):jS n π u v:=by
 unfold ad8 at h
 split at h
 ·rename_i p hp
  split at h
  ·rename_i q hq
   simp only [aE,bX] at h
   obtain ⟨⟨⟨⟨h1,h2⟩,h3⟩,h4⟩,h5⟩:=h
   rw [zn hp,zn hq,← aM h4,← aM h5,← aM h2]
   have:=VQ.gsliceG (q:=true) (n:=n) (ρ:=π) p.1 0 (p.2.2+1) (p.2.2+1) (p.2.2+1) p.2.1 ⟨aD _,fun _=>rfl⟩ h1 rfl
   rw [aM h3] at this
   exact this
  ·cases h
 split at h
 ·rename_i l hl
  split at h
  ·rename_i l' a
   simp only [aE] at h
   have h1:=aM h.1
   obtain ⟨_,h2⟩:=zS h.2
   rw [Az hl,Az a]
   exact .tuple _ _ (oU h1) fun i hi c=>by simpa using h2 i (oU hi) (oU c)
  ·cases h
 ·exact Oj h
theorem DC {n:Nat} {π:Rho}:∀ {a b:List Value},GR n π a b=true→a.length=b.length∧∀ (i:Nat) (h:i<a.length) (h':i<b.length),jS n π a[i] b[i]
 |[],b,h=>by
  simp only [GR,List.isEmpty_iff] at h
  subst h;exact ⟨rfl,fun i hi=>by simp at hi⟩
 |u::us,[],h=>by simp [GR] at h
 |u::us,v::vs,h=>by
  simp only [GR,aE] at h
  obtain ⟨h1,h2⟩:=DC h.2
  refine ⟨by simp [h1],fun i hi c=>?_⟩
  cases i with
  |zero=>exact Xa h.1
  |succ i=>exact h2 i (oU hi) (oU c)
theorem adz {σ:Heap} {n b:Nat} {π:Rho} {o:aB} (h:subX n π o σ[b]?=true):yC σ n π ⟨b,0,0⟩ o:=by
 unfold subX at h
 cases hd:Fz o with
 |true=>rw [FC hd];trivial
 |false =>
  rw [hd] at h
  simp only [cond_false] at h
  split at h
  ·rename_i a h2
   split at h
   ·rename_i cs hc
    obtain ⟨h3,h4⟩:=DC h
    obtain ⟨x,hx,hc⟩:=Option.bind_eq_some_iff.1 hc
    rw [pG hc] at hx
    rw [pG h2]
    exact .inr ⟨rfl,cs,.inl hx,oO,h4⟩
   ·cases h
  split at h
  ·rename_i a h2
   split at h
   ·rename_i cs hc
    obtain ⟨h3,h4⟩:=DC h
    obtain ⟨x,hx,hc⟩:=Option.bind_eq_some_iff.1 hc
    rw [sQ hc] at hx
    rw [sQ h2]
    exact .inr ⟨cs,hx,fun k hk=>⟨by simp only [bA];omega,by simpa using h4 k hk oO⟩⟩
   ·cases h
  split at h
  ·rename_i a h2
   split at h
   ·rename_i cs hc
    simp only [aE] at h
    obtain ⟨h3,h4⟩:=DC h.2
    obtain ⟨x,hx,hc⟩:=Option.bind_eq_some_iff.1 hc
    rw [zo hc,← aM h.1] at hx
    rw [zo h2]
    exact .inr ⟨rfl,cs.1,hx,oO,h4⟩
   ·cases h
  ·simp only [aE] at h
   have ho:o=.dfr:=by
    have:=h.1
    unfold O1 at this
    split at this
    ·rfl
    ·cases this
   have h2:=h.2
   split at h2
   ·rename_i y hy
    have c:y=.dfr:=by
     unfold O1 at h2
     split at h2
     ·rfl
     ·cases h2
    rw [ho]
    show σ[b]?=some .dfr
    rw [hy,c]
   ·cases h2
theorem QH {σ:Heap} {n:Nat} {π:Rho}:∀ {l:Heap} {i:Nat},XE n π σ i l=true→∀ (k:Nat) (o:aB),l[k]?=some o→(π (i+k)).s=0→yC σ n π (π (i+k)) o
 |[],_,_,k,o,h,_=>by simp at h
 |a::r,i,h,k,o,hk,hs=>by
  simp only [XE,aE] at h
  cases k with
  |zero =>
   simp at hk
   subst hk
   have h1:=adz h.1.1
   have e:π (i+0)=⟨(π i).b,0,0⟩:=by
    have h2:=aM h.1.2
    rw [cV] at hs ⊢
    cases hp:π i with
    |mk b o s=>rw [hp] at h2 hs;simp only at h2 hs;rw [h2,hs]
   rw [e];exact h1
  |succ k =>
   have:=QH h.2 k o (oU hk) (by rw [← hs];congr 2;omega)
   rwa [show i+1+k=i+(k+1) by omega] at this
theorem af6 (n:Nat) (l:List Nat) (i:Nat):(fV n l i).s=0:=by
 unfold fV
 split
 ·rfl
 ·split <;> rfl
theorem aam {n:Nat} {l:List Nat} (hd:dG n l=true) {i j:Nat} (hi:i<n+l.length) (hj:j<n+l.length) (h:(fV n l i).b=(fV n l j).b):i=j:=by
 simp only [dG,aE,eo,decide_eq_true_eq] at hd
 have ge:∀ q,¬ q<n→q<n+l.length→∃ h:q - n<l.length,(fV n l q).b=l[q - n]∧n≤l[q - n]:=by
  intro q hq hq2
  have h:q - n<l.length:=oO
  refine ⟨h,?_,cA (hd.1 _ (cQ h))⟩
  simp only [fV]
  rw [if_neg hq,cC h]
 by_cases h1:i<n
 ·rw [fJ h1] at h
  by_cases h2:j<n
  ·rw [fJ h2] at h;exact h
  ·obtain ⟨_,g1,g2⟩:=ge j h2 hj
   rw [g1] at h
   simp only at h
   omega
 ·obtain ⟨k1,g1,g2⟩:=ge i h1 hi
  rw [g1] at h
  by_cases h2:j<n
  ·rw [fJ h2] at h
   simp only at h
   omega
  ·obtain ⟨k2,g3,g4⟩:=ge j h2 hj
   rw [g3] at h
   have:=(List.getElem_inj hd.2).1 h
   omega
theorem aan {n0 n1 N:Nat} {G:Nat→Prop} {w0:World} {ρ0:Rho} {A:Act} {w:World} {π:Rho} {σ σ2:Heap} {e e2:Env} {mk:List Nat} (hh:YG n1 π σ σ2) (he:aas σ2.length π e e2) (hn:n0≤n1) (hm:∀ i ∈ mk,i<n1) (hi:Inv n0 N G w0 ρ0 e mk σ A w):Inv n0 N G w0 ρ0 e2 mk σ2 A w:=by
 obtain ⟨h0,ρ,ha,hs,ht,a,hmb⟩:=hi
 exact ⟨ej hn hh.le,comp ρ π,fun i hi=>(comp_id (hh.id i oO)).trans (ha i hi),Io hh hs,QU he ht,by rw [a];congr 1;exact eD fun i hi=>by rw [comp_id (hh.id i (hm i hi))],fun i hi=>fi (hm i hi) hh.le⟩
theorem af7 {P:Program} {n0 N:Nat} {rd:Option Nat} {all:List Oper} {j:Nat} {o:Oper} {K:Env→List Nat→Heap→Prop} {e:Env} {mk:List Nat} {σ:Heap} {G:Nat→Prop} {w0:World} {ρ0:Rho} {A:Act} {w:World} {Q':Exit→Act→World→Prop} {next:Act→World→Prop}
  (hj:all[j]?=some o) (h:dA P n0 N rd all [o] K e mk σ) (hi:Inv n0 N G w0 ρ0 e mk σ A w) (hk:∀ e' mk' σ' A' w',K e' mk' σ'→Inv n0 N G w0 ρ0 e' mk' σ' A' w'→next A' w'):wpOpIn (fen ρ0 rd) 0 P all.toArray Q' j next A w:=by
 have h:=h G w0 ρ0 A w hi (fun ex A' w'=>ex=.normal∧next A' w') fun e' mk' σ' A' w' h1 h2=>⟨rfl,hk e' mk' σ' A' w' h1 h2⟩
 simp only [wpL] at h
 unfold wpOpIn
 simp only [bO,hj]
 split at h
 ·rename_i hw
  rw [if_pos hw]
  exact pz (fun c a w hq=>by cases hq.1) (fun a w hq=>by cases hq.1) (Oper.wpIn_mono (fun a w hq=>hq.2) h)
 ·rename_i hw
  rw [if_neg hw]
  exact ⟨fun f _=>kZ ρ0 rd f,h.2⟩
section
variable {P:Program} {T:Tab} {call:jE} {code:qV} {N:Nat} {rd:Option Nat} {all:List Oper}
def yj (σ0:Heap) (s:CSt):Prop:=Keep s.2.1.2.2 σ0 s.2.1.2.1
theorem adA {n1:Nat} {σ0:Heap} {r t:CSt} (hn:n1=σ0.length) (hcl:∀ (i:Nat) (o:aB),σ0[i]?=some o→gq n1 o) (hr:yj σ0 r) (ht:yj σ0 t) (h:ad9 n1 r t=true) {e:Env} (ha:Agr e r.2.1.1) :
  ∃ π,YG n1 π r.2.1.2.1 t.2.1.2.1∧aas t.2.1.2.1.length π e (Ec t.2.1.1):=by
 unfold ad9 at h
 rw [gB] at h
 generalize abm n1 r.2.2 t.2.2=pl at h
 unfold afG at h
 simp only [aE] at h
 obtain ⟨⟨⟨⟨h1,h2⟩,h3⟩,h4⟩,h5⟩:=h
 have h2:=cA h2
 have h3:=aM h3
 have a:n1+pl.length=t.2.1.2.1.length:=oO
 refine ⟨fV n1 pl,⟨h2,fun i hi=>fJ hi,fun i o2 hi=>?_,fun i j oi oj hi hj _ _ hb=>?_⟩,fun p hp=>?_⟩
 ·simp only [qE] at h4
  by_cases hlo:i<min n1 (min r.2.1.2.2 t.2.1.2.2)
  ·have g1:=ht.2 i oO oO
   have g2:=hr.2 i oO oO
   rw [g1] at hi
   exact mW (fun i hi=>fJ hi) h2 oO (g2.trans hi) (hcl i o2 hi)
  ·have:=QH h4 (i - min n1 (min r.2.1.2.2 t.2.1.2.2)) o2 (by rw [eO];rw [show min n1 (min r.2.1.2.2 t.2.1.2.2)+(i - min n1 (min r.2.1.2.2 t.2.1.2.2))=i by omega];exact hi) (af6 _ _ _)
   rwa [show min n1 (min r.2.1.2.2 t.2.1.2.2)+(i - min n1 (min r.2.1.2.2 t.2.1.2.2))=i by omega] at this
 ·exact aam h1 (by rw [a];exact aQ hi) (by rw [a];exact aQ hj) hb
 ·have:=List.all_eq_true.1 h5 p hp
  split at this
  ·rename_i u hu
   exact ⟨u,ha _ _ hu,Xa this⟩
  ·cases this
theorem Oq (hT:iF P T) (hc:iW P call) (hcode:oP P code) {s r:CSt} {j:Nat} {o:Oper} (h:RV T call code N rd all s j o=some r):r.1=s.1.set j true∧WX P N rd all o s.2.1.1 s.2.1.2.1 (r.2.1.1,r.2.1.2.1,r.2.1.2.2)∧∀ σ0,yj σ0 s→yj σ0 r:=by
 simp only [RV,aL,gB] at h
 obtain ⟨b,h1,q,h2,h3⟩:=h
 cases h3
 have g:=Me (all:=all) hT hc hcode (fun e ha=>Oh ha h1) h2
 have hk:Keep (minN s.2.1.2.2 q.2.2) s.2.1.2.1 q.2.1:=by rw [qE];exact g.2.mono oO
 refine ⟨rfl,⟨g.1,hk⟩,fun σ0 h0=>?_⟩
 show Keep (minN s.2.1.2.2 q.2.2) σ0 q.2.1
 rw [qE]
 exact h0.trans g.2
def YA (T:Tab) (call:jE) (code:qV) (N:Nat) (rd:Option Nat) (all:List Oper) (n1:Nat) (s:CSt) (j:Nat) (o:Oper) (acc:List CSt):Prop :=
 ∃ r,RV T call code N rd all s j o=some r∧∃ t ∈ acc,t.1=r.1∧(t=r∨ad9 n1 r t=true)
theorem YA.mono {n1:Nat} {s:CSt} {j:Nat} {o:Oper} {acc acc':List CSt} (h:YA T call code N rd all n1 s j o acc) (hs:∀ t ∈ acc,t ∈ acc'):YA T call code N rd all n1 s j o acc':=by
 obtain ⟨r,h1,t,h2,h3⟩:=h
 exact ⟨r,h1,t,hs t h2,h3⟩
theorem adB (hT:iF P T) (hc:iW P call) (hcode:oP P code) {n1:Nat} {s:CSt} {acc acc':List CSt} {j:Nat} {o:Oper} (h:addX T call code N rd all n1 s acc j o=some acc') :
  (∀ t ∈ acc,t ∈ acc')∧(CZ s.1 j o=true→YA T call code N rd all n1 s j o acc')∧∀ Φ:CSt→Prop,(∀ s r j o,RV T call code N rd all s j o=some r→Φ s→Φ r)→Φ s→(∀ t ∈ acc,Φ t)→∀ t ∈ acc',Φ t:=by
 unfold addX at h
 cases hr:CZ s.1 j o with
 |false=>rw [hr] at h;cases h;exact ⟨fun _ h=>h,fun h=>(by cases h),fun _ _ _ h=>h⟩
 |true =>
  rw [hr] at h
  simp only [cond_true,aN,aL] at h
  obtain ⟨_,r,h1,h2⟩:=h
  split at h2
  ·rename_i t ht
   obtain ⟨h3,h4⟩:=aN.1 h2
   cases h4
   obtain ⟨g1,g2⟩:=I9 ht
   exact ⟨fun _ h=>h,fun _=>⟨r,h1,t,g1,g2,.inr h3⟩,fun _ _ _ h=>h⟩
  ·cases h2
   refine ⟨fun t ht=>fW _ ht,fun _=>⟨r,h1,r,by simp,rfl,.inl rfl⟩,fun Φ hΦ hs ha t ht=>?_⟩
   rcases List.mem_append.1 ht with ht|ht
   ·exact ha t ht
   ·simp only [fc] at ht
    subst ht
    exact hΦ _ _ _ _ h1 hs
theorem Xb (hT:iF P T) (hc:iW P call) (hcode:oP P code) {n1:Nat} {s:CSt}:∀ {l:List Oper} {j:Nat} {acc acc':List CSt},aea T call code N rd all n1 s l j acc=some acc' →
  (∀ t ∈ acc,t ∈ acc')∧(∀ (k:Nat) (o:Oper),l[k]?=some o→CZ s.1 (j+k) o=true→YA T call code N rd all n1 s (j+k) o acc')∧∀ Φ:CSt→Prop,(∀ s r j o,RV T call code N rd all s j o=some r→Φ s→Φ r)→Φ s→(∀ t ∈ acc,Φ t)→∀ t ∈ acc',Φ t
 |[],_,_,_,h=>by cases h;exact ⟨fun _ h=>h,fun k o h=>(by simp at h),fun _ _ _ h=>h⟩
 |a::r,j,acc,acc',h=>by
  simp only [aea,aL] at h
  obtain ⟨acc1,h1,h2⟩:=h
  obtain ⟨g1,g2,g3⟩:=adB hT hc hcode h1
  obtain ⟨k1,k2,k3⟩:=Xb hT hc hcode h2
  refine ⟨fun t ht=>k1 t (g1 t ht),fun k o hk hr=>?_,fun Φ hΦ hs ha=>k3 Φ hΦ hs (g3 Φ hΦ hs ha)⟩
  cases k with
  |zero =>
   simp at hk
   subst hk
   exact (g2 hr).mono k1
  |succ k =>
   have:=k2 k o (oU hk) (by rwa [show j+1+k=j+(k+1) by omega])
   rwa [show j+1+k=j+(k+1) by omega] at this
theorem Ja (hT:iF P T) (hc:iW P call) (hcode:oP P code) {n1:Nat}:∀ {Ls acc acc':List CSt},XF T call code N rd all n1 Ls acc=some acc' →
  (∀ t ∈ acc,t ∈ acc')∧(∀ s ∈ Ls,∀ (k:Nat) (o:Oper),all[k]?=some o→CZ s.1 k o=true→YA T call code N rd all n1 s k o acc')∧∀ Φ:CSt→Prop,(∀ s r j o,RV T call code N rd all s j o=some r→Φ s→Φ r)→(∀ s ∈ Ls,Φ s)→(∀ t ∈ acc,Φ t)→∀ t ∈ acc',Φ t
 |[],_,_,h=>by cases h;exact ⟨fun _ h=>h,fun s h=>(by simp at h),fun _ _ _ h=>h⟩
 |s::Ls,acc,acc',h=>by
  simp only [XF,aL] at h
  obtain ⟨acc1,h1,h2⟩:=h
  obtain ⟨g1,g2,g3⟩:=Xb hT hc hcode h1
  obtain ⟨k1,k2,k3⟩:=Ja hT hc hcode h2
  refine ⟨fun t ht=>k1 t (g1 t ht),fun s' a k o hk hr=>?_,fun Φ hΦ hs ha=>k3 Φ hΦ (fun s' h=>hs s' (dT _ h)) (g3 Φ hΦ (hs s (fR ..)) ha)⟩
  rcases List.mem_cons.1 a with rfl|a
  ·have:=g2 k o hk (by rw [bA];exact hr)
   rw [bA] at this
   exact this.mono k1
  ·exact k2 s' a k o hk hr
theorem MC (hT:iF P T) (hc:iW P call) (hcode:oP P code) (σ0:Heap) (s r:CSt) (j:Nat) (o:Oper) (h:RV T call code N rd all s j o=some r) (hs:yj σ0 s):yj σ0 r:=(Oq (P:=P) hT hc hcode h).2.2 σ0 hs
theorem BP (hT:iF P T) (hc:iW P call) (hcode:oP P code) {n1:Nat} {σ0:Heap}:∀ {k:Nat} {Ls:List CSt} {f:CSt},pF T call code N rd all n1 k Ls=some f→(∀ s ∈ Ls,yj σ0 s)→yj σ0 f
 |0,Ls,f,h,hs=>by
  simp only [pF] at h
  split at h
  ·obtain ⟨_,h2⟩:=aN.1 h
   cases h2
   exact hs _ oS
  ·cases h
 |k+1,Ls,f,h,hs=>by
  simp only [pF,aN,aL] at h
  obtain ⟨_,Ls',h1,h2⟩:=h
  exact BP hT hc hcode h2 ((Ja hT hc hcode h1).2.2 (yj σ0) (MC hT hc hcode σ0) hs (fun t h=>by simp at h))
theorem QI (hT:iF P T) (hc:iW P call) (hcode:oP P code) {n0 n1:Nat} {σ0:Heap} {G:Nat→Prop} {w0:World} {ρ0:Rho} {mk:List Nat} (hrd:mG rd n0=true) (he:Eh all 0=true) (hn1:n1=σ0.length) (hn:n0≤n1) (hcl:∀ (i:Nat) (o:aB),σ0[i]?=some o→gq n1 o) (hmb:∀ i ∈ mk,i<n1) {f:CSt} :
  ∀ (fuel:Nat) {k:Nat} {Ls:List CSt},pF T call code N rd all n1 k Ls=some f→(∀ s ∈ Ls,yj σ0 s∧s.1.length=all.length)→∀ s ∈ Ls,∀ (listed:Array Bool) (e:Env) (A:Act) (w:World),listed.size=all.length→(∀ i,listed.getD i false=s.1.getD i false)→cnt all.length listed≤fuel→Agr e s.2.1.1→Inv n0 N G w0 ρ0 e mk s.2.1.2.1 A w →
   wpAnyIn (fen ρ0 rd) 0 P .any all.toArray (fun ex A' w'=>ex=.normal∧∃ e',Agr e' f.2.1.1∧Inv n0 N G w0 ρ0 e' mk f.2.1.2.1 A' w') fuel listed A w:=by
 have wt:∀ {o:Oper} {e:Edge},e ∈ o.after→Region.binds .any e=true→waits o e.on=true:=fun {o e} he hb=>by
  unfold waits bY
  rw [Array.any_eq_true']
  exact ⟨e,he,by simp [hb]⟩
 have R:∀ j o,all[j]?=some o→∀ i,waits o i=true→i<j:=fun j o ho i hw=>by have:=MB he j o ho i hw;omega
 have full:∀ (listed:Array Bool),listed.size=all.length→Region.ready .any all.toArray listed=[]→∀ i,i<all.length→listed.getD i false=true:=by
  intro listed hs hr i
  induction i using Nat.strongRecOn with
  |_ i ih =>
   intro hi
   by_cases hl:listed.getD i true=true
   ·rw [getD_lt (d':=true) oO];exact hl
   ·exfalso
    have:i ∈ Region.ready .any all.toArray listed:=mem_ready.2 ⟨by simpa using hl,all[i],by rw [bO];exact cC hi,fun e he hb=>by
     have h1:=R i all[i] (cC hi) e.on (wt he hb)
     exact ih e.on h1 oO⟩
    rw [hr] at this;cases this
 have J:∀ {k:Nat} {Ls:List CSt},pF T call code N rd all n1 k Ls=some f→∀ s ∈ Ls,s.1.all id=true→s=f:=by
  intro k Ls h s hs hf
  cases k with
  |zero =>
   simp only [pF] at h
   split at h
   ·obtain ⟨_,h2⟩:=aN.1 h
    cases h2
    simpa using hs
   ·cases h
  |succ k =>
   simp only [pF,aN] at h
   have:=List.all_eq_true.1 h.1 s hs
   rw [hf] at this;cases this
 have u:∀ {listed:Array Bool} {m:List Bool},listed.size=all.length→m.length=all.length→(∀ i,listed.getD i false=m.getD i false)→(∀ i,i<all.length→listed.getD i false=true)→m.all id=true:=by
  intro listed m hs hm hl c
  rw [eo]
  intro b hb
  obtain ⟨i,hi,rfl⟩:=ey hb
  have:=hl i
  rw [c i oO,cE,cC hi] at this
  exact this.symm
 intro fuel
 induction fuel with
 |zero =>
  intro k Ls d a s hs listed e A w g hl X ha hi
  have c:∀ i<all.length,listed.getD i false=true:=by
   intro i hi
   rw [getD_lt (d':=true) oO]
   apply Classical.byContradiction
   intro hn
   have:=rH (n:=all.length) hi g (oU hn)
   omega
  have E:=J d s hs (u g (a s hs).2 hl c)
  subst E
  refine ⟨?_,rfl,e,ha,hi⟩
  rw [List.eq_nil_iff_forall_not_mem]
  intro i hi
  obtain ⟨h1,o,ho,_⟩:=mem_ready.1 hi
  rw [bO] at ho
  have z:=(List.getElem?_eq_some_iff.1 ho).1
  have:=c i z
  rw [getD_lt (d':=true) oO,h1] at this
  cases this
 |succ fuel ih =>
  intro k Ls d a s hs listed e A w g hl X ha hi
  refine ⟨fun hr=>?_,fun i V=>?_⟩
  ·have E:=J d s hs (u g (a s hs).2 hl (full listed g hr))
   subst E
   exact ⟨rfl,e,ha,hi⟩
  ·obtain ⟨h1,o,ho,hw⟩:=mem_ready.1 V
   rw [bO] at ho
   have z:=(List.getElem?_eq_some_iff.1 ho).1
   have v:s.1.getD i true=false:=by
    have B:=(a s hs).2
    have e1:=hl i
    rw [getD_lt (d':=true) oO,h1,cE,cC oO] at e1
    rw [cE,cC oO]
    exact e1.symm
   have l:CZ s.1 i o=true:=by
    unfold CZ
    rw [v]
    simp only [Bool.not_false,Bool.true_and,eo]
    intro x hx
    cases hb:Region.binds .any x with
    |false=>rfl
    |true=>rw [← hl x.on,hw x (oU hx) hb];rfl
   cases k with
   |zero =>
    simp only [pF] at d
    split at d
    ·obtain ⟨h3,h4⟩:=aN.1 d
     cases h4
     simp only [fc] at hs
     subst hs
     have:=List.all_eq_true.1 h3 (s.1[i]'(by have:=(a s oS).2;omega)) (cQ _)
     rw [cE,cC (by have:=(a s oS).2;omega)] at v
     simp only [Option.getD_some] at v
     rw [v] at this;cases this
    ·cases d
   |succ k =>
    simp only [pF,aN,aL] at d
    obtain ⟨_,I,U,p⟩:=d
    obtain ⟨_,n2,n3⟩:=Ja hT hc hcode U
    obtain ⟨r,W,t,y,O,Q⟩:=n2 s hs i o ho l
    obtain ⟨r1,r2,r3⟩:=Oq hT hc hcode W
    have D:∀ t ∈ I,yj σ0 t:=n3 (yj σ0) (MC hT hc hcode σ0) (fun s' h=>(a s' h).1) (fun t h=>by simp at h)
    have H:∀ t ∈ I,t.1.length=all.length:=n3 (fun s=>s.1.length=all.length) (fun s r j o h hs=>by rw [(Oq (P:=P) hT hc hcode h).1,ea];exact hs) (fun s' h=>(a s' h).2) (fun t h=>by simp at h)
    refine af7 ho (r2.1 n0 e mk [] (fun e' M σ'=>Agr e' r.2.1.1∧M=mk∧σ'=r.2.1.2.1) hrd ha fun e' a'=>l9 ⟨a',rfl,rfl⟩) hi ?_
    rintro e' M σ' A' w' ⟨a',rfl,rfl⟩ F
    have L:∀ q,(listed.setIfInBounds i true).getD q false=t.1.getD q false:=fun q=>by
     rw [iD oO,O,r1]
     have B:=(a s hs).2
     by_cases C:q=i
     ·subst C
      rw [if_pos rfl,cE,List.getElem?_set_self oO];rfl
     ·rw [if_neg C,cE,eN (Ne.symm C),← cE]
      exact hl q
    have K:cnt all.length (listed.setIfInBounds i true)≤fuel:=by have:=rH (n:=all.length) z g h1;omega
    rcases Q with rfl|S
    ·exact ih p (fun s' h=>⟨D s' h,H s' h⟩) _ y _ e' A' w' (oU g) L K a' F
    ·obtain ⟨π,g1,g2⟩:=adA hn1 hcl (r3 σ0 (a s hs).1) (D t y) S a'
     exact ih p (fun s' h=>⟨D s' h,H s' h⟩) t y _ (Ec t.2.1.1) A' w' (oU g) L K yh (aan g1 g2 hn hmb F)
theorem adC (hT:iF P T) (hc:iW P call) (hcode:oP P code) (hmix:P.follows .mixedOrders=true) {id:Nat} {tr:PT} {mk:List Nat} {σ:Heap} {r:Exit×PT×List Nat×Heap×Nat} (h:aeb all T call code N rd tr mk σ=some r) :
  (∀ (n0:Nat) (e:Env) (Q:Post),mG rd n0=true→Agr e tr→(∀ e',Agr e' r.2.1→Q r.1 e' r.2.2.1 r.2.2.2.1)→bP P n0 N rd (.region id all.toArray true) Q e mk σ)∧Keep r.2.2.2.2 σ r.2.2.2.1:=by
 simp only [aeb,aN,aL] at h
 obtain ⟨he,s,h1,h2⟩:=h
 cases h2
 have c:∀ t ∈ [((List.replicate all.length false,(tr,σ,σ.length),[]):CSt)],yj σ t:=fun t ht=>by
  simp only [fc] at ht
  subst ht;exact Keep.refl
 refine ⟨fun n0 e Q f ha hQ=>?_,BP hT hc hcode h1 c⟩
 intro G w0 ρ0 A w hi
 refine wpIn_region_any hmix ?_
 have a:∀ (m i:Nat),(Array.replicate m false).getD i false=false:=fun m i=>by
  simp only [eT,fa];split <;> rfl
 have g:Inv n0 N G w0 ρ0 e mk σ A { w with drawn:=w.drawn+1 }:=by
  obtain ⟨g0,ρ,g1,g2,g3⟩:=hi
  exact ⟨g0,ρ,g1,pX g2 rfl rfl rfl rfl,g3⟩
 obtain ⟨g0,ρ,g1,g2,g3⟩:=hi
 refine qg (fun ex A' w' hq=>?_) _ _ _ _ (QI hT hc hcode f he rfl g0 (fun i o ho=>jw (g2.obj i o ho)) g3.mkb all.toArray.size h1 (fun t ht=>⟨c t ht,by simp only [fc] at ht;subst ht;exact fN ..⟩) (List.replicate all.length false,(tr,σ,σ.length),[]) (List.mem_singleton.2 rfl) _ e A _ oS (fun i=>?_) ?_ ha g)
 ·obtain ⟨rfl,e',a',d⟩:=hq
  exact ⟨e',mk,_,hQ e' a',d⟩
 ·rw [a,cE,List.getElem?_replicate];split <;> rfl
 ·unfold cnt
  exact ej List.countP_le_length oS
end
section
variable {P:Program} {T:Tab} {call:jE} {code:qV} {N:Nat} {rd:Option Nat} {tr:PT} {mk:List Nat} {σ:Heap} {all:List Oper}
theorem af8 (hT:iF P T) (hc:iW P call) (hcode:oP P code) (hmix:P.follows .mixedOrders=true) {id:Nat} {ops:Array Oper} {d:Bool} {r:Exit×PT×List Nat×Heap×Nat} (h:regC ops.toList d T call code N rd tr mk σ=some r) :
  (∀ (n0:Nat) (e:Env) (Q:Post),mG rd n0=true→Agr e tr→(∀ e',Agr e' r.2.1→Q r.1 e' r.2.2.1 r.2.2.2.1)→bP P n0 N rd (.region id ops d) Q e mk σ)∧Keep r.2.2.2.2 σ r.2.2.2.1:=by
 obtain ⟨l⟩:=ops
 cases d with
 |false =>
  obtain ⟨q,h1,rfl⟩:=WZ (show abf mk (CY T call code N rd l l tr σ)=some r from h)
  obtain ⟨g1,g2⟩:=ER hT hc hcode h1
  exact ⟨fun n0 e Q a ha hQ=>aG (g1 n0 e mk _ a ha hQ),g2⟩
 |true =>
  have h:(match Y4 l T call code N rd tr mk σ with|some r=>some r|none=>match afH l rd T call code N rd tr mk σ with|some r=>some r|none=>match ad4 l T call code N rd tr mk σ with|some r=>some r|none=>aeb l T call code N rd tr mk σ)=some r:=h
  split at h
  ·rename_i r' hr
   cases h
   obtain ⟨f,h1,h2,g1,g2⟩:=Oo hT hc hcode hr
   exact ⟨fun n0 e Q a ha hQ=>dI hmix a (vZ (all:=l) hT hc oS h1 ha fun e1 a1=>⟨h2,g1 n0 e1 Q a a1 hQ⟩),g2⟩
  ·split at h
   ·rename_i r' hr
    cases h
    have h:=hr
    clear hr
    cases rd with
    |some q =>
     have h:regP (BD l) l T call code N (some q) tr mk σ=some r:=h
     simp only [regP,aN] at h
     obtain ⟨hp,h⟩:=h
     obtain ⟨f,h1,h2,g1,g2⟩:=Oo hT hc hcode h
     exact ⟨fun n0 e Q a ha hQ=>YV (BD l) hmix a hp (vZ (all:=kR (BD l) l) hT hc oS h1 ha fun e1 a1=>⟨h2,g1 n0 e1 Q a a1 hQ⟩),g2⟩
    |none =>
     have h:regG (OX l) (BD (kT (OX l) l)) l T call code N none tr mk σ=some r:=h
     simp only [regG,aN,aE] at h
     obtain ⟨⟨hf,hp⟩,h⟩:=h
     obtain ⟨f,h1,h2,g1,g2⟩:=Oo hT hc hcode h
     exact ⟨fun n0 e Q a ha hQ=>YW _ _ hmix hf hp (vZ hT hc oS h1 ha fun e1 a1=>⟨h2,g1 n0 e1 Q a a1 hQ⟩),g2⟩
   ·split at h
    ·rename_i r' hr;cases h;exact adx hT hc hmix hr
    ·exact adC hT hc hcode hmix h
theorem adD {n0:Nat} {pend:Option Code} {ex:Exit} {Q:Post} {e:Env} (h:abn pend=some ex) (hq:Q ex e mk σ):(pend=none→Q .normal e mk σ)∧∀ c,pend=some c→bP P n0 N none c Q e mk σ:=by
 unfold abn at h
 split at h
 ·cases h;exact ⟨fun _=>hq,fun c hc=>(by cases hc)⟩
 ·cases h;exact ⟨fun h=>(by cases h),fun c hc=>(by cases hc;exact MH hq)⟩
 ·cases h;exact ⟨fun h=>(by cases h),fun c hc=>(by cases hc;exact zT hq)⟩
 ·cases h
theorem afg {n0:Nat} {c:Code} {Q:Post} {e e2:Env} (h:∀ t v,Env.get e2 t=some v→Env.get e t=some v) (k:bP P n0 N rd c Q e2 mk σ):bP P n0 N rd c Q e mk σ:=by
 rintro G w0 ρ0 A w ⟨h0,ρ,a,hs,he⟩
 exact k G w0 ρ0 A w ⟨h0,ρ,a,hs,⟨he.tmps.1,fun t v hv=>he.tmps.2 t v (h t v hv)⟩,he.mks,he.mkb⟩
theorem aao (hT:iF P T) (hc:iW P call) {g:Operand} {ps:Array Tmp} {assign body:Code} {r:Exit×PT×List Nat×Heap×Nat} (h:Vu g ps assign body T call code N rd tr mk σ=some r) :
  (∀ (n0:Nat) (e:Env) (Q:Post),mG rd n0=true→Agr e tr→(∀ e',Agr e' r.2.1→Q r.1 e' r.2.2.1 r.2.2.2.1)→bP P n0 N rd (.rangeFunc g ps assign body) Q e mk σ)∧Keep r.2.2.2.2 σ r.2.2.2.1:=by
 unfold Vu at h
 split at h
 ·simp only [aL,abo,aN] at h
  obtain ⟨f,⟨w,h1,h2⟩,h3,q,h4,ob,h5,h6⟩:=h
  obtain ⟨z,hz⟩:=Option.isSome_iff_exists.1 h3
  haveI:GoFn P f.1:=⟨(hT.fn _ _ hz).1⟩
  obtain ⟨h7,h8⟩:=hc _ _ _ _ h4
  unfold endR at h6
  split at h6
  ·rename_i st a N2 e2 d as2 k
   simp only [aN,aL] at h6
   obtain ⟨h9,ex,l,j⟩:=h6
   cases j
   refine ⟨fun n0 e Q hrd ha hQ=>?_,?_⟩
   ·refine afg (fun t v hv=>y8 (Oi ha) _ (yZ hv)) ?_
    refine GL (p:=f.2.1) (q:=f.2.2) (by rw [uO (yh) h1,Ei h2]) (h7.mono ?_)
    rintro v s ⟨rfl,rfl⟩
    have hp:=adD (P:=P) (N:=N) (n0:=n0) (Q:=Q) l (hQ _ yh)
    refine ⟨st,a,N2,e2,d,as2,k,h5,(fun hb=>by subst hb;cases h9),?_⟩
    cases a with
    |none=>exact hp.1 rfl
    |some c=>exact hp.2 c rfl
   ·simp only [qE]
    have q1:Keep σ.length σ (σ++[.dfr,.loop .ready none N (Ec tr) ps assign body]):=Keep.app
    exact ((q1.trans h8).trans (Keep.set (i:=σ.length+1))).mono (by simp only [Nat.le_min];omega)
  ·cases h6
 ·cases h
theorem Uy (hT:iF P T) (hc:iW P call) (hcode:oP P code) (hl:Om P code) (hmix:P.follows .mixedOrders=true) {c:Code} {r:Exit×PT×List Nat×Heap×Nat} (h:O4 c T call code N rd tr mk σ=some r) :
  (∀ (n0:Nat) (e:Env) (Q:Post),mG rd n0=true→Agr e tr→(∀ e',Agr e' r.2.1→Q r.1 e' r.2.2.1 r.2.2.2.1)→bP P n0 N rd c Q e mk σ)∧Keep r.2.2.2.2 σ r.2.2.2.1:=by
 unfold O4 at h
 split at h
 ·cases h;exact ⟨fun n0 e Q _ ha hQ=>Ci (hQ e ha),Keep.refl⟩
 ·cases h;exact ⟨fun n0 e Q _ ha hQ=>Iu (hQ e ha),Keep.refl⟩
 ·simp only [aa9,aL,aN] at h
  obtain ⟨⟨g,t1,i,σ1,j⟩,h1,h0,h2⟩:=h
  cases h2
  obtain ⟨g1,g2⟩:=hcode _ _ _ _ _ _ _ h1
  refine ⟨fun n0 e Q d ha hQ=>Iw (g1 n0 e _ d ha fun e1 a1=>?_),g2⟩
  have:=hQ e1 a1
  cases g with
  |goto l=>exact absurd h0 (by simp [Xz])
  |_=>exact this
 ·cases h;exact ⟨fun n0 e Q _ ha hQ=>zT (hQ e ha),Keep.refl⟩
 ·cases h;exact ⟨fun n0 e Q _ ha hQ=>MH (hQ e ha),Keep.refl⟩
 ·exact seq_ok hcode h
 ·rename_i id b
  simp only [abd,aL] at h
  obtain ⟨⟨g,t1,i,σ1,j⟩,h1,h2⟩:=h
  cases h2
  obtain ⟨g1,g2⟩:=hcode _ _ _ _ _ _ _ h1
  refine ⟨fun n0 e Q d ha hQ=>tY (g1 n0 e _ d ha fun e1 a1=>?_),g2⟩
  have:=hQ e1 a1
  simp only [abb] at this
  cases g with
  |exit id' =>
   simp only at this
   by_cases f:id'=id
   ·subst f
    rw [Nat.beq_refl] at this
    exact CG (Nat.beq_refl _) this
   ·rw [jF f] at this
    exact DL (jF f) this
  |_=>exact this
 ·rename_i x a b
  simp only [condC,aL] at h
  obtain ⟨t,⟨w,h1,h2⟩,h3⟩:=h
  obtain ⟨g1,g2⟩:=hcode _ _ _ _ _ _ _ h3
  refine ⟨fun n0 e Q d ha hQ=>?_,g2⟩
  have hx:=uO ha h1
  rw [sJ h2] at hx
  cases t with
  |true=>exact jc hx rfl (g1 n0 e Q d ha hQ)
  |false=>exact iM hx rfl (g1 n0 e Q d ha hQ)
 ·obtain ⟨⟨m,hm⟩,g2⟩:=QG hcode hl h
  exact ⟨fun n0 e Q d ha hQ=>ady hm d ha hQ,g2⟩
 ·exact af8 hT hc hcode hmix h
 ·exact aao hT hc h
 ·cases h
theorem Uz (hT:iF P T) {orc:jE} (ho:iW P orc) (hcode:oP P code):iW P (O6 T orc code):=by
 intro f c σ r h
 unfold O6 at h
 split at h
 ·rename_i r' e
  cases h
  exact ho _ _ _ _ e
 ·simp only [aL,XH,aN] at h
  obtain ⟨x,h1,h2,r1,h3,h4⟩:=h
  obtain ⟨ex,t1,a,σ1,lo⟩:=r1
  obtain ⟨hf,fn,f1,f2,f3,f4⟩:=hT.fn _ _ h1
  obtain ⟨g1,g2⟩:=hcode _ _ _ _ _ _ _ h3
  simp only [retC,aN,gB,aL,aE] at h4
  obtain ⟨⟨h5,h6⟩,vs,h7,h8⟩:=h4
  obtain ⟨m1,m2⟩:=adv h6
  have hk:Keep (minN lo (minL lo a)) σ (kS a σ1):=by
   simp only [qE]
   exact Keep.trans g2 (L9 a lo σ1)
  obtain ⟨r1,r2⟩:=adu hk h8
  refine ⟨?_,r2⟩
  obtain ⟨e0,a1,a2⟩:=WU (vs:=c) (k:=0) (Agr.full [] 9) (fun t v h=>by cases h)
  refine aI σ.length x.1 f1 f4 f3 f2 rfl h2 ?_
  refine afg (e2:=e0) (fun t v hv=>(a2 t v hv).elim id fun h=>oO) (g1 σ.length e0 _ rfl a1 fun e' a'=>?_)
  ·have d:a.Nodup∧(∀ i ∈ a,σ1[i]?=some .dfr)∧∃ vs v2 σ2,uh P e' (kS a σ1) x.2.1 vs∧aY σ (kS a σ1) (kL vs) v2 σ2∧(v2=r.1∧σ2=r.2.1) :=
    ⟨m1,m2,vs,r.1,r.2.1,Ig hT a' h7,r1,rfl,rfl⟩
   unfold afK at h5
   split at h5
   ·exact d
   ·exact d
   ·cases h5
theorem afh (hT:iF P T) {orc:jE} (ho:iW P orc) (hmix:P.follows .mixedOrders=true):∀ n:Nat,iW P (rn T orc n).1∧oP P (rn T orc n).2∧Om P (rn T orc n).2
 |0=>⟨fun _ _ _ _ h=>(by cases h),fun _ _ _ _ _ _ _ h=>(by cases h),fun _ _ _ _ _ _ _ h=>(by cases h)⟩
 |n+1=>by
  obtain ⟨h1,h2,h3⟩:=afh hT ho hmix n
  exact ⟨Uz hT ho h2,fun c N rd tr mk σ r h=>Uy hT h1 h2 h3 hmix h,fun b N rd tr mk σ r h=>(QG (T:=T) (call:=(rn T orc n).1) h2 h3 h).1⟩
theorem mO (hT:iF P T) {orc:jE} (ho:iW P orc) (hmix:P.follows .mixedOrders=true) {n f:Nat} {args:List Value} {v:Value} {σ':Heap} {lo:Nat} (h:(rn T orc n).1 f args σ=some (v,σ',lo)):Ev P f args σ v σ' :=
 ((afh hT ho hmix n).1 f args σ _ h).1
end
structure Known where
 f:Nat
 args:List Value
 css:List (List Value)
 v:Value
 news:Heap
def QJ:List Value→List Nat
 |[]=>[]
 |v::l=>match rO v with
  |some p=>bif Nat.beq p.2.2.1 0 then QJ l else p.1::QJ l
  |none=>QJ l
def yt:aB→Option (List Value)
 |.ro cs=>some cs
 |.rw cs=>some cs
 |.gr cs _=>some cs
 |_=>none
def MF (σ:Heap):List (List Value)→List Nat→Bool
 |[],l=>l.isEmpty
 |c::cs,l=>match l with
  |[]=>false
  |b::bs=>(match (σ[b]?).bind yt with|some x=>Aq c x|none=>false) && MF σ cs bs
def QK (k:Known) (args:List Value) (σ:Heap) (bs:List Nat):Res :=
 bU (MF σ k.css bs && GN k.css.length (bsR bs) k.args args && Nat.beq k.args.length args.length && σ.all (fun o=>!aU o))
  (some (ren (shf k.css.length σ.length (bsR bs)) k.v,σ++k.news.map (CS (shf k.css.length σ.length (bsR bs))),σ.length))
def Jb:List Known→jE
 |[]=>fun _ _ _=>none
 |k::ks=>fun f args σ=>bif Nat.beq k.f f then (match QK k args σ (QJ args) with|some r=>some r|none=>Jb ks f args σ) else Jb ks f args σ
def jJ (P:Program) (k:Known):Prop:=Ev P k.f k.args (k.css.map .ro) k.v (k.css.map .ro++k.news)∧k.css.all dN=true∧k.news.all DW=true
theorem Xc {σ:Heap}:∀ {cs:List (List Value)} {bs:List Nat},MF σ cs bs=true→Jt σ cs bs
 |[],bs,h=>by
  simp only [MF,List.isEmpty_iff] at h
  subst h;trivial
 |c::cs,[],h=>by simp [MF] at h
 |c::cs,b::bs,h=>by
  simp only [MF,aE] at h
  obtain ⟨h1,h2⟩:=h
  refine ⟨?_,Xc h2⟩
  split at h1
  ·rename_i x hx
   have:=qj h1
   subst this
   obtain ⟨o,h3,h4⟩:=Option.bind_eq_some_iff.1 hx
   unfold yt at h4
   split at h4
   ·cases h4;exact .inl h3
   ·cases h4;exact .inr (.inl h3)
   ·cases h4;exact .inr (.inr ⟨_,h3⟩)
   ·cases h4
  ·cases h1
theorem afi {n:Nat} {π:Rho}:∀ {a b:List Value},a.length=b.length→(∀ (i:Nat) (h:i<a.length) (h':i<b.length),jS n π a[i] b[i])→AS n π a b
 |[],[],_,_=>trivial
 |x::a,[],h,_=>by simp at h
 |[],y::b,h,_=>by simp at h
 |x::a,y::b,h,hi=>⟨hi 0 oS oS,afi (oU h) fun i h1 h2=>hi (i+1) (oU h1) (oU h2)⟩
theorem MG {P:Program}:∀ {ks:List Known},(∀ k ∈ ks,jJ P k)→iW P (Jb ks)
 |[],_=>fun f a σ r h=>by cases h
 |k::ks,hk=>fun f a σ r h=>by
  have ih:=MG (P:=P) (ks:=ks) fun k' h'=>hk k' (dT _ h')
  simp only [Jb] at h
  cases hf:Nat.beq k.f f with
  |false=>rw [hf] at h;exact ih _ _ _ _ h
  |true =>
   rw [hf] at h
   simp only [cond_true] at h
   split at h
   ·rename_i r' c
    cases h
    simp only [QK,aN,aE] at c
    obtain ⟨⟨⟨⟨h1,h2⟩,h3⟩,h4⟩,h5⟩:=c
    cases h5
    obtain ⟨k1,k2,k3⟩:=hk k oS
    have d:=aM hf
    subst d
    exact ⟨Ev.arrsN k.css (QJ a) k1 (Xc h1) (afi (aM h3) (zS h2).2) k2 k3 rfl rfl h4,Keep.app⟩
   ·exact ih _ _ _ _ h
def aap (a b:jE):jE:=fun f args σ=>match a f args σ with|some r=>some r|none=>b f args σ
theorem aaq {P:Program} {a b:jE} (ha:iW P a) (hb:iW P b):iW P (aap a b):=fun f args σ r h=>by
 unfold aap at h
 split at h
 ·rename_i r' c;cases h;exact ha _ _ _ _ c
 ·exact hb _ _ _ _ h
end Go.AH
