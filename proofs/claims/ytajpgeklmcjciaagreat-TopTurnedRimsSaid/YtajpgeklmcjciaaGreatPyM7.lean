/- Lemmas. No conditions. -/
import Derived.Test.YtajpgeklmcjciaaGreatPyMX
namespace Go.AH
open Go
theorem Trie.get_put {α:Type}:∀ {tr:Trie α} {d t:Nat} {v u:α},(tr.put d v).get t=some u->(t=d/\u=v)\/(t ≠ d/\tr.get t=some u)
 |.z,_,_,_,_,h=>by cases h
 |.nd w l r,d,t,v,u,h=>by
  have key:∀ {a b:Nat},Nat.beq a b=true->a=b:=fun h=>aM h
  simp only [Trie.put] at h
  by_cases hd:d=0
  ·subst hd
   have h:(Trie.nd (some v) l r).get t=some u:=h
   by_cases ht:t=0
   ·subst ht;exact .inl ⟨rfl,by have h:some v=some u:=h;exact (Option.some.inj h).symm⟩
   ·refine .inr ⟨ht,?_⟩
    simp only [Trie.get,jA ht,cond_false] at h ⊢;exact h
  ·rw [jA hd] at h
   simp only [cond_false] at h
   have e1:∀ {x y:Nat},¬ y=0->¬ x=0->Nat.mod x 2=Nat.mod y 2->Nat.div x 2=Nat.div y 2->x=y:=by
    intro x y _ _ h1 h2
    have a1:=Nat.div_add_mod x 2
    have a2:=Nat.div_add_mod y 2
    have b1:x % 2=y % 2:=h1
    have b2:x / 2=y / 2:=h2
    omega
   have e2:∀ {x y:Nat},¬ y=0->¬ x=0->¬ Nat.mod x 2=1->¬ Nat.mod y 2=1->Nat.pred (Nat.div x 2)=Nat.pred (Nat.div y 2)->x=y:=by
    intro x y hy hx h1 h2 h3
    have b1:¬ x % 2=1:=h1
    have b2:¬ y % 2=1:=h2
    have b3:x / 2 - 1=y / 2 - 1:=h3
    omega
   by_cases hm:Nat.mod d 2=1
   ·rw [hm] at h
    have h:(Trie.nd w (l.put (Nat.div d 2) v) r).get t=some u:=h
    by_cases ht:t=0
    ·subst ht;exact .inr ⟨fun h0=>hd h0.symm,h⟩
    ·simp only [Trie.get,jA ht,cond_false] at h ⊢
     by_cases c:Nat.mod t 2=1
     ·rw [c] at h ⊢
      have h:(l.put (Nat.div d 2) v).get (Nat.div t 2)=some u:=h
      rcases Trie.get_put h with ⟨g1,g2⟩|⟨g1,g2⟩
      ·exact .inl ⟨e1 hd ht (by rw [c,hm]) g1,g2⟩
      ·exact .inr ⟨fun h0=>g1 (by rw [h0]),g2⟩
     ·rw [jA c] at h ⊢
      exact .inr ⟨fun h0=>c (by rw [h0];exact hm),h⟩
   ·rw [jA hm] at h
    have h:(Trie.nd w l (r.put (Nat.pred (Nat.div d 2)) v)).get t=some u:=h
    by_cases ht:t=0
    ·subst ht;exact .inr ⟨fun h0=>hd h0.symm,h⟩
    ·simp only [Trie.get,jA ht,cond_false] at h ⊢
     by_cases c:Nat.mod t 2=1
     ·rw [c] at h ⊢
      exact .inr ⟨fun h0=>hm (by rw [<- h0];exact c),h⟩
     ·rw [jA c] at h ⊢
      simp only [cond_false] at h ⊢
      rcases Trie.get_put h with ⟨g1,g2⟩|⟨g1,g2⟩
      ·exact .inl ⟨e2 hd ht c hm g1,g2⟩
      ·exact .inr ⟨fun h0=>g1 (by rw [h0]),g2⟩
theorem Jh {α:Type}:∀ (k t:Nat),(Trie.full k:Trie α).get t=none
 |0,_=>rfl
 |k+1,t=>by
  simp only [Trie.full,Trie.get]
  by_cases ht:t=0
  ·subst ht;rfl
  ·rw [jA ht]
   simp only [cond_false]
   cases Nat.beq (Nat.mod t 2) 1
   ·exact Jh k _
   ·exact Jh k _
theorem Agr.put {e:Env} {tr:PT} (h:Agr e tr) (d:Nat) (v:Value):Agr ((d,v)::e) (tr.put d v):=by
 intro t u hu
 rcases Trie.get_put hu with ⟨rfl,rfl⟩|⟨h1,h2⟩
 ·simp [Env.get,Nat.beq_refl]
 ·simp only [Env.get]
  rw [jA (fun h0=>h1 h0.symm)]
  exact h t u h2
theorem Trie.del_self {α:Type}:∀ (tr:Trie α) (d:Nat),(tr.del d).get d=none
 |.z,_=>rfl
 |.nd v l r,d=>by
  simp only [Trie.del]
  cases h1:Nat.beq d 0 with
  |true=>simp [Trie.get,h1]
  |false =>
   cases h2:Nat.beq (Nat.mod d 2) 1 with
   |true=>simp only [cond_false,cond_true,Trie.get,h1,h2];exact Trie.del_self l _
   |false=>simp only [cond_false,Trie.get,h1,h2];exact Trie.del_self r _
theorem Trie.del_get {α:Type} {u:α}:∀ (tr:Trie α) (d t:Nat),(tr.del d).get t=some u->tr.get t=some u
 |.z,_,_,h=>h
 |.nd v l r,d,t,h=>by
  simp only [Trie.del] at h
  cases h1:Nat.beq d 0 with
  |true =>
   rw [h1] at h
   simp only [cond_true,Trie.get] at h ⊢
   cases h3:Nat.beq t 0 with
   |true=>rw [h3] at h;cases h
   |false=>rw [h3] at h;exact h
  |false =>
   rw [h1] at h
   cases h2:Nat.beq (Nat.mod d 2) 1 with
   |true =>
    rw [h2] at h
    simp only [cond_false,cond_true,Trie.get] at h ⊢
    cases h3:Nat.beq t 0 with
    |true=>rw [h3] at h;exact h
    |false =>
     rw [h3] at h
     cases h4:Nat.beq (Nat.mod t 2) 1 with
     |true=>rw [h4] at h;exact Trie.del_get l _ _ h
     |false=>rw [h4] at h;exact h
   |false =>
    rw [h2] at h
    simp only [cond_false,Trie.get] at h ⊢
    cases h3:Nat.beq t 0 with
    |true=>rw [h3] at h;exact h
    |false =>
     rw [h3] at h
     cases h4:Nat.beq (Nat.mod t 2) 1 with
     |true=>rw [h4] at h;exact h
     |false=>rw [h4] at h;exact Trie.del_get r _ _ h
theorem Agr.full (e:Env) (k:Nat):Agr e (Trie.full k):=fun t v h=>by rw [Jh] at h;cases h
theorem II {N:Nat} {v:Value} {e:Env} {tr tr':PT} {o:Oper} (ha:Agr e tr) (h:aag N v tr o.dst=some tr'):tH N o=true/\Agr (DU o.dst v e) tr':=by
 unfold aag at h
 unfold tH DU
 split at h
 ·rename_i d hd
  rw [hd]
  obtain ⟨h1,h2⟩:=aO.1 h
  cases h2
  exact ⟨h1,ha.put d v⟩
 ·rename_i hd
  rw [hd]
  cases h
  exact ⟨rfl,ha⟩
theorem OZ {all:List Oper} {e:Env} {tr:PT} {o:Oper} {b:Bool} (ha:Agr e tr) (h:Tq all tr o.guard=some b):jX all e o=some b:=by
 unfold Tq at h
 unfold jX
 split at h
 ·rename_i hg;rw [hg];exact h
 ·rename_i g hg
  rw [hg]
  simp only [acs,aL] at h
  obtain ⟨x,⟨p,h1,t,h2,v,h3,h4⟩,h5⟩:=h
  have hv:jM all e g.1=some v:=by simp [jM,h1,h2,ha t v h3]
  simp only [hv]
  unfold YC at h4
  split at h4
  ·cases h4;exact h5
  ·cases h4;exact h5
  ·cases h4
theorem MR:∀ {ps:List Nat} {vs:List Value} {e:Env} {tr:PT},Agr e tr->Agr (lu ps vs e) (Ei ps vs tr)
 |[],_,_,_,h=>by simpa [lu,Ei] using h
 |_::_,[],_,_,h=>by simpa [lu,Ei] using h
 |p::ps,v::vs,e,tr,h=>MR (ps:=ps) (vs:=vs) (h.put p v)
theorem X8:∀ {vs:List Value} {k:Nat} {e:Env} {tr:PT},Agr e tr->(∀ t v,Env.get e t=some v->t<k)->∃ e',Agr e' (acN k vs tr)/\∀ t v,Env.get e' t=some v->Env.get (uy k vs) t=some v\/(t<k/\Env.get e t=some v)
 |[],k,e,tr,h,hk=>⟨e,h,fun t v hv=>.inr ⟨hk t v hv,hv⟩⟩
 |v::vs,k,e,tr,h,hk=>by
  obtain ⟨e',h1,h2⟩:=X8 (vs:=vs) (k:=k+1) (h.put k v) (fun t u hu=>by
   simp only [Env.get] at hu
   by_cases ht:k=t
   ·omega
   ·rw [jA ht] at hu;have:=hk t u hu;omega)
  refine ⟨e',h1,fun t u hu=>?_⟩
  rcases h2 t u hu with h3|⟨h3,h4⟩
  ·left
   simp only [uy,Env.get]
   have:¬ k=t:=fun h0=>by
    have:=(zS vs (k+1) t u h3).1;omega
   rw [jA this];exact h3
  ·simp only [Env.get] at h4
   by_cases ht:k=t
   ·subst ht
    left
    simp only [uy,Env.get]
    rw [Nat.beq_refl] at h4 ⊢
    exact h4
   ·rw [jA ht] at h4
    right;exact ⟨oO,h4⟩
theorem Dz {α:Type}:∀ {tr:Trie α} {a b:Nat} {p:Nat×α},p ∈ tr.ents a b->∃ t,p.1=a*t+b/\tr.get t=some p.2
 |.z,_,_,_,h=>by simp [Trie.ents] at h
 |.nd v l r,a,b,p,h=>by
  simp only [Trie.ents,List.mem_append] at h
  rcases h with h|h|h
  ·cases v with
   |none=>simp at h
   |some x=>simp at h;subst h;exact ⟨0,by simp,rfl⟩
  ·obtain ⟨t,h1,h2⟩:=Dz h
   refine ⟨2*t+1,by rw [h1,Nat.mul_add,cH,<- Nat.mul_assoc,Nat.mul_comm a 2];omega,?_⟩
   simp only [Trie.get]
   rw [jA (show ¬ 2*t+1=0 by omega),show Nat.mod (2*t+1) 2=1 from (by show (2*t+1) % 2=1;omega),show Nat.div (2*t+1) 2=t from (by show (2*t+1) / 2=t;omega)]
   exact h2
  ·obtain ⟨t,h1,h2⟩:=Dz h
   refine ⟨2*t+2,by rw [h1,Nat.mul_add,<- Nat.mul_assoc,Nat.mul_comm a 2];omega,?_⟩
   simp only [Trie.get]
   rw [jA (show ¬ 2*t+2=0 by omega),show Nat.mod (2*t+2) 2=0 from (by show (2*t+2) % 2=0;omega),show Nat.pred (Nat.div (2*t+2) 2)=t from (by rw [Nat.pred_eq_sub_one];show (2*t+2) / 2 - 1=t;omega)]
   exact h2
theorem Ji {α:Type}:∀ {tr:Trie α} {a b t:Nat} {x:α},tr.get t=some x->(a*t+b,x) ∈ tr.ents a b
 |.z,_,_,_,_,h=>by cases h
 |.nd v l r,a,b,t,x,h=>by
  simp only [Trie.ents,List.mem_append]
  simp only [Trie.get] at h
  by_cases ht:t=0
  ·subst ht
   have h:v=some x:=h
   subst h;left;simp
  ·rw [jA ht] at h
   simp only [cond_false] at h
   right
   by_cases hm:Nat.mod t 2=1
   ·rw [hm] at h
    left
    have:=Ji (a:=2*a) (b:=a+b) (show l.get (Nat.div t 2)=some x from h)
    have e:2*a*Nat.div t 2+(a+b)=a*t+b:=by
     have h1:t=2*(t / 2)+1:=by have h2:t % 2=1:=hm;omega
     show 2*a*(t / 2)+(a+b)=a*t+b
     conv=>rhs;rw [h1]
     rw [Nat.mul_add,cH,<- Nat.mul_assoc,Nat.mul_comm a 2];omega
    rwa [e] at this
   ·rw [jA hm] at h
    right
    have:=Ji (a:=2*a) (b:=2*a+b) (show r.get (Nat.pred (Nat.div t 2))=some x from h)
    have e:2*a*Nat.pred (Nat.div t 2)+(2*a+b)=a*t+b:=by
     have h1:t=2*(t / 2 - 1)+2:=by have h2:¬ t % 2=1:=hm;omega
     rw [Nat.pred_eq_sub_one]
     show 2*a*(t / 2 - 1)+(2*a+b)=a*t+b
     conv=>rhs;rw [h1]
     rw [Nat.mul_add,<- Nat.mul_assoc,Nat.mul_comm a 2];omega
    rwa [e] at this
theorem GU:∀ {e:Env} {t:Nat} {v:Value},(t,v) ∈ e->(∀ u,(t,u) ∈ e->u=v)->Env.get e t=some v
 |[],_,_,h,_=>by simp at h
 |(k,w)::e,t,v,h,hu=>by
  simp only [Env.get]
  by_cases hk:k=t
  ·subst hk
   rw [Nat.beq_refl]
   have:=hu w oS
   subst this;rfl
  ·rw [jA hk]
   rcases List.mem_cons.1 h with h|h
   ·exact absurd (congrArg Prod.fst h).symm hk
   ·exact GU h fun u a=>hu u (dm _ a)
theorem xJ {tr:PT}:Agr (Ej tr) tr:=by
 intro t v h
 refine GU ?_ fun u hu=>?_
 ·have:=Ji (a:=1) (b:=0) h;simpa [Ej] using this
 ·obtain ⟨t',h1,h2⟩:=Dz hu
  simp only [Nat.one_mul,cV] at h1
  subst h1
  rw [h] at h2
  exact (Option.some.inj h2).symm
theorem MS {e:Env}:∀ {e2:Env},(∀ p ∈ e2,Env.get e p.1=some p.2)->pK e e2
 |[],_=>trivial
 |(t,v)::r,h=>⟨h (t,v) oS,MS fun p hp=>h p (dm _ hp)⟩
theorem O1 {e:Env} {tr:PT} (h:Agr e tr):pK e (Ej tr):=MS fun p hp=>by
 obtain ⟨t,h1,h2⟩:=Dz hp
 simp only [Nat.one_mul,cV] at h1
 rw [h1];exact h t _ h2
theorem MV:∀ {e:Env},Agr e (acu e)
 |[]=>Agr.full _ _
 |(t,v)::e=>(MV (e:=e)).put t v
theorem aht {q:Bool} {m:Nat} {V ρ':Rho} {p:Nat->Bool} {v v':Value} (h:VQ q m V v v'):pv p v=true->(∀ i,p i=true->ρ' i=V i)->VQ q m ρ' v v':=by
 have d:∀ {a:Array Value},pvA p a=true->∀ (i:Nat) (h:i<a.size),pv p a[i]=true:=by
  rintro ⟨l⟩ h i hi
  have:∀ (l:List Value),pvL p l=true->∀ (i:Nat) (h:i<l.length),pv p l[i]=true:=by
   intro l
   induction l with
   |nil=>intro _ i hi;simp at hi
   |cons x l ih =>
    intro h i hi
    simp only [pvL,aE] at h
    cases i with
    |zero=>exact h.1
    |succ i=>exact ih h.2 i (oU hi)
  exact this l h i hi
 induction h with
 |bool b=>intro _ _;exact .bool b
 |int k x=>intro _ _;exact .int k x
 |string s=>intro _ _;exact .string s
 |nilPtr=>intro _ _;exact .nilPtr
 |ptr i o hi=>intro h1 h2;rw [<- h2 i h1];exact .ptr _ _ hi
 |nilSlice=>intro _ _;exact .nilSlice
 |zslice a hq=>intro _ _;exact .zslice a hq
 |zsliceZ hq=>intro _ _;exact .zsliceZ hq
 |emptySlice i o a c=>intro _ _;exact .emptySlice _ _ _ _
 |slice i o l c c' hc hi=>intro h1 h2;rw [<- h2 i h1];exact .slice _ _ _ _ _ hc hi
 |gslice i o l c c' sz hc hs hi hq=>intro h1 h2;rw [<- h2 i h1] at hs ⊢;exact .gslice _ _ _ _ _ _ hc hs hi hq
 |sliceG i o l c c' sz hc hi hq=>intro h1 h2;rw [<- h2 i h1];exact .sliceG _ _ _ _ _ _ hc hi hq
 |gsliceG i o l c c' sz hc hi hq=>intro h1 h2;rw [<- h2 i h1];exact .gsliceG _ _ _ _ _ _ hc hi hq
 |nilMap=>intro _ _;exact .nilMap
 |map i hi=>intro h1 h2;rw [<- h2 i h1];exact .map _ hi
 |stamp i hi hq=>intro h1 h2;rw [<- h2 i h1];exact .stamp _ hi hq
 |stampG i hi hq=>intro h1 h2;rw [<- h2 i h1];exact .stampG _ hi hq
 |nilFunc=>intro _ _;exact .nilFunc
 |func f a a' b b' h1 h2 h3 h4 ih1 ih2 =>
  intro h5 h6
  simp only [pv,aE] at h5
  exact .func _ _ _ _ _ h1 h2 (fun i h h'=>ih1 i h h' (d h5.1 i h) h6) (fun i h h'=>ih2 i h h' (d h5.2 i h) h6)
 |yield l hi=>intro h1 h2;simp only [pv,aE] at h1;rw [<- h2 l h1.1.1];exact .yield _ hi
 |nilIface=>intro _ _;exact .nilIface
 |iface t v v' h ih=>intro h1 h2;exact .iface _ _ _ (ih h1 h2)
 |agg a a' h1 h3 ih=>intro h5 h6;exact .agg _ _ h1 fun i h h'=>ih i h h' (d h5 i h) h6
 |tuple a a' h1 h3 ih=>intro h5 h6;exact .tuple _ _ h1 fun i h h'=>ih i h h' (d h5 i h) h6
theorem GV:∀ {n1:List (Nat×Heap)} {i:Nat} {h:Heap} {n2:List (Nat×Heap)} {q:Nat},q<h.length->Em (n1++(i,h)::n2) ((iI n1).length+q)=some i
 |[],i,h,n2,q,hq=>by
  simp only [eM,iI,cY,e7,dx,aR,Em]
  rw [show Nat.blt q h.length=true from Nat.blt_eq.mpr hq];rfl
 |p::n1,i,h,n2,q,hq=>by
  have hl:(iI (p::n1)).length=p.2.length+(iI n1).length:=by simp [iI]
  simp only [List.cons_append,Em]
  rw [show Nat.blt ((iI (p::n1)).length+q) p.2.length=false from by
   cases hb:Nat.blt ((iI (p::n1)).length+q) p.2.length with
   |false=>rfl
   |true=>have:=Nat.blt_eq.mp hb;omega]
  simp only [cond_false]
  rw [show (iI (p::n1)).length+q - p.2.length=(iI n1).length+q by omega]
  exact GV hq
theorem Cc {all:List Oper}:∀ (rest:List Oper) (acc:List Nat),rest=all.drop acc.length->acc.length<=all.length->(∀ (k mk:Nat),acc[k]?=some mk->Good all k mk) ->
  ∀ (k mk:Nat),(nC rest acc)[k]?=some mk->Good all k mk
 |[],acc,_,_,h,k,mk,hk=>h k mk hk
 |o::rest,acc,hr,hl,h,k,mk,hk=>by
  simp only [nC,xY] at hk
  have hx:all[acc.length]?=some o:=by
   have:=congrArg (fun l:List Oper=>l[0]?) hr
   simpa using this.symm
  have hlt:=(List.getElem?_eq_some_iff.1 hx).1
  refine Cc rest (acc++[ql acc o.after.toList]) ?_ (by simp;omega) ?_ k mk hk
  ·have:=congrArg List.tail hr
   simpa using this
  ·intro j m hj
   by_cases a:j<acc.length
   ·rw [bO a] at hj;exact h j m hj
   ·rw [bE oO] at hj
    have:j=acc.length:=by
     have:=(List.getElem?_eq_some_iff.1 hj).1
     simp at this;omega
    subst this
    simp at hj
    subst hj
    exact Bd hx h hl
theorem X9 {all:List Oper} {k n len m:Nat} {news:List (Nat×Heap)} {v:Value} {o:Oper} (ho:all[k]?=some o) (hm:Good all k m) (hlen:len=n+(iI news).length) (h:pv (acy n len m news) v=true):ZM all k n news v:=by
 rintro n1 i x n2 rfl ⟨D,hD,d,c⟩ w V ρ' v' hv hρ
 refine aht hv h fun b hb=>hρ b ?_
 simp only [acy,ee] at hb
 have hl:(iI (n1++(i,x)::n2)).length=(iI n1).length+(x.length+(iI n2).length):=by simp [iI]
 rcases hb with (hb|hb)|hb
 ·have:=Nat.blt_eq.mp hb;omega
 ·have:=cC hb;omega
 ·by_cases hr:b<n+(iI n1).length\/n+(iI n1).length+x.length<=b
  ·exact hr
  ·exfalso
   have a:=GV (n1:=n1) (i:=i) (h:=x) (n2:=n2) (q:=b - n - (iI n1).length) oO
   rw [show (iI n1).length+(b - n - (iI n1).length)=b - n by omega] at a
   rw [a] at hb
   exact c (hm D hD o ho (fun j hj=>hD k o ho d j hj) i hb)
theorem MW {n:Nat}:∀ {ns:Heap},PU n ns=true->rM n ns
 |[],_=>fun x hx=>by simp at hx
 |o::r,h=>by
  unfold PU at h
  split at h
  ·cases ‹_::_=[]›
  ·rename_i cs r' a
   cases a
   simp only [aE] at h
   intro x hx
   rcases List.mem_cons.1 hx with rfl|hx
   ·exact ⟨cs,rfl,h.1.1,h.1.2⟩
   ·exact MW h.2 x hx
  ·cases h
theorem abx {v:Value} {p:Nat×Nat×Nat×Nat} (h:acG v=some p):∃ s,v=.slice (some ⟨p.1,p.2.1,some s⟩) p.2.2.1 p.2.2.2:=by unfold acG at h;split at h <;> cases h <;> exact ⟨_,rfl⟩
theorem MX {v:Value} (h:PX v=true):v=.nilFunc:=by unfold PX at h;split at h <;> simp_all
theorem aby {n:Nat} {Z:Rho} {u v:Value} (h:acH u v=true):jS n Z u v:=by
 unfold acH at h
 split at h
 ·rename_i x hx
  unfold eqI at h
  split at h
  ·rename_i y hy
   simp only [aE,decide_eq_true_eq] at h
   rw [jI hx,jI hy,h.1,h.2];exact .int _ _
  ·cases h
 split at h
 ·rename_i b hb
  unfold eqB at h
  split at h
  ·rename_i c hc
   rw [rX hb,rX hc]
   have:b=c:=by simpa using h
   rw [this];exact .bool _
  ·cases h
 simp only [ee,aE] at h
 rcases h with (h|h)|h
 ·rw [rY h.1,rY h.2];exact .nilSlice
 ·rw [Bz h.1,Bz h.2];exact .nilPtr
 ·rw [MX h.1,MX h.2];exact .nilFunc
theorem Ya {n:Nat} {Z:Rho} {u v:Value} (h:afx n Z u v=true):jS n Z u v:=by
 unfold afx at h
 split at h
 ·rename_i p hp
  split at h
  ·rename_i q hq
   simp only [subP,aE] at h
   obtain ⟨⟨h1,h2⟩,h3⟩:=h
   rw [jJ hp,jJ hq,<- aM h2,<- aM h3]
   exact .ptr _ _ (Nat.blt_eq.mp h1)
  ·cases h
 split at h
 ·rename_i p hp
  split at h
  ·rename_i q hq
   simp only [afw,aE] at h
   obtain ⟨⟨⟨⟨h1,h2⟩,h3⟩,h4⟩,h5⟩:=h
   rw [kP hp,kP hq,<- aM h2,<- aM h3,<- aM h4]
   exact .slice _ _ _ _ _ (cC h5) (Nat.blt_eq.mp h1)
  ·split at h
   ·rename_i q hq
    simp only [afw,aE] at h
    obtain ⟨⟨⟨⟨h1,h2⟩,h3⟩,h4⟩,h5⟩:=h
    obtain ⟨s,hs⟩:=abx hq
    rw [kP hp,hs,<- aM h2,<- aM h3,<- aM h4]
    exact .sliceG _ _ _ _ _ _ (cC h5) (Nat.blt_eq.mp h1) rfl
   ·cases h
 ·exact aby h
theorem DC {n:Nat} {Z:Rho}:∀ {a b:List Value},PY n Z a b=true->a.length=b.length/\∀ (i:Nat) (h:i<a.length) (h':i<b.length),jS n Z a[i] b[i]
 |[],b,h=>by
  simp only [PY,List.isEmpty_iff] at h
  subst h;exact ⟨rfl,fun i hi=>by simp at hi⟩
 |u::us,[],h=>by simp [PY] at h
 |u::us,v::vs,h=>by
  simp only [PY,aE] at h
  obtain ⟨h1,h2⟩:=DC h.2
  refine ⟨by simp [h1],fun i hi c=>?_⟩
  cases i with
  |zero=>exact Ya h.1
  |succ i=>exact h2 i (oU hi) (oU c)
theorem O4 {n:Nat} {Z:Rho} {u v:Value} (h:acI n Z u v=true):jS n Z u v:=by
 unfold acI at h
 split at h
 ·rename_i l hl
  split at h
  ·rename_i l' c
   obtain ⟨h1,h2⟩:=DC h
   rw [Ak hl,Ak c]
   exact .tuple _ _ (oU h1) fun i hi a=>by simpa using h2 i (oU hi) (oU a)
  ·cases h
 split at h
 ·rename_i l hl
  split at h
  ·rename_i l' c
   obtain ⟨h1,h2⟩:=DC h
   rw [mD hl,mD c]
   exact .agg _ _ (oU h1) fun i hi a=>by simpa using h2 i (oU hi) (oU a)
  ·cases h
 unfold ag5 at h
 split at h
 ·rename_i f hf
  split at h
  ·rename_i g hg
   simp only [aE] at h
   obtain ⟨⟨h0,h1⟩,h2⟩:=h
   obtain ⟨a1,a2⟩:=DC h1
   obtain ⟨b1,b2⟩:=DC h2
   rw [Es hf,Es hg,<- aM h0]
   exact .func _ _ _ _ _ (oU a1) (oU b1) (fun i hi a=>by simpa using a2 i (oU hi) (oU a)) (fun i hi a=>by simpa using b2 i (oU hi) (oU a))
  ·cases h
 ·exact Ya h
theorem zO {n:Nat} {Z:Rho}:∀ {a b:List Value},G8 n Z a b=true->a.length<=b.length/\∀ (i:Nat) (h:i<a.length) (h':i<b.length),jS n Z a[i] b[i]
 |[],b,h=>⟨by simp,fun i hi=>by simp at hi⟩
 |u::us,[],h=>by simp [G8] at h
 |u::us,v::vs,h=>by
  simp only [G8,aE] at h
  obtain ⟨h1,h2⟩:=zO h.2
  refine ⟨by simp [h1],fun i hi c=>?_⟩
  cases i with
  |zero=>exact O4 h.1
  |succ i=>exact h2 i (oU hi) (oU c)
theorem aeP {U:Heap} {n b:Nat} {Z:Rho} {o:aC} (h:subO n Z o U[b]?=true):xX U n Z ⟨b,0,0⟩ o:=by
 unfold subO at h
 split at h
 ·rename_i a h2
  split at h
  ·rename_i cs hc
   obtain ⟨h3,h4⟩:=zO h
   rw [oH h2]
   refine .inr ⟨rfl,cs,?_,h3,h4⟩
   simp only [aL] at hc
   obtain ⟨x,hx,hc⟩:=hc
   unfold YJ at hc
   split at hc
   ·cases hc;exact .inl hx
   ·cases hc;exact .inr ⟨_,hx⟩
   ·cases hc
  ·cases h
 split at h
 ·rename_i a h2
  split at h
  ·rename_i cs hc
   obtain ⟨h3,h4⟩:=zO h
   rw [rZ h2]
   simp only [aL] at hc
   obtain ⟨x,hx,hc⟩:=hc
   rw [rZ hc] at hx
   exact .inr ⟨cs,hx,fun k hk=>⟨by simp only [aR];omega,by simpa using h4 k hk oO⟩⟩
  ·cases h
 ·cases h
theorem osubs_of {U:Heap} {n:Nat} {Z:Rho}:∀ {l:List Nat} {news:Heap} {k:Nat},Tz n Z U l news=true->(∀ (j b:Nat),l[j]?=some b->Z (k+j)=⟨b,0,0⟩)->D5 U n Z k news
 |[],news,k,h,_=>by
  simp only [Tz,List.isEmpty_iff] at h
  subst h;trivial
 |b::bs,[],k,h,_=>trivial
 |b::bs,o::os,k,h,hπ=>by
  simp only [Tz,aE] at h
  have h0:=hπ 0 b oS
  rw [cV] at h0
  refine ⟨by rw [h0];exact aeP h.1,osubs_of h.2 fun j c hj=>?_⟩
  rw [show k+1+j=k+(j+1) by omega]
  exact hπ (j+1) c (oU hj)
theorem Keep.take {lo:Nat} {σ0 U:Heap} (h:Keep lo σ0 U) (hn:σ0.length<=lo):U.take σ0.length=σ0:=by
 refine eK fun i=>?_
 rw [ey]
 split
 ·rename_i hi;exact h.2 i oO hi
 ·rename_i hi;exact (di oO).symm
theorem Rw {p:aC->Bool}:∀ {l:Heap},allB p l=true->∀ (i:Nat) (o:aC),l[i]?=some o->p o=true
 |[],_,i,o,h=>by simp at h
 |x::l,h,i,o,ho=>by
  simp only [allB,aE] at h
  cases i with
  |zero=>simp at ho;subst ho;exact h.1
  |succ i=>exact Rw h.2 i o (oU ho)
theorem Rx {n:Nat} {o:aC} (h:Aj n o=true):fV n o:=by
 cases o with
 |map es =>
  simp only [Aj,dT,aE] at h
  exact fun p hp=>h p hp
 |_=>simp_all [Aj,fV]
theorem aeQ {σ0 U:Heap} {lo:Nat} {v:Value} (h:Keep lo σ0 U):aW σ0 U v v (U.take (YM σ0.length lo v U))/\σ0.length<=YM σ0.length lo v U:=by
 unfold YM ag8
 generalize hm:Nat.max σ0.length (Nat.max (top v) (topH ((U.take σ0.length).drop lo)))=m
 have c:σ0.length<=m:=by rw [<- hm];exact Nat.le_max_left _ _
 cases hc:Nat.ble m U.length && closed m v && okV v && allB (Aj m) ((U.take m).drop (minN lo σ0.length)) with
 |false =>
  simp only [cond_false]
  refine ⟨.inl ⟨rfl,eb⟩,h.1⟩
 |true =>
  simp only [cond_true]
  simp only [aE] at hc
  obtain ⟨⟨⟨h1,h2⟩,h3⟩,h4⟩:=hc
  have h1:=cC h1
  have a:(U.take m).length=m:=by simp;omega
  refine ⟨.inr fun f=>⟨fun i=>⟨i,0,0⟩,⟨by rw [a];exact c,fun _ _=>rfl,fun i o2 hi=>?_,fun i j oi oj _ _ _ _ hb=>hb⟩,?_⟩,c⟩
  ·have e:=hi
   rw [ey] at hi
   split at hi
   ·rename_i d
    by_cases g:i<minN lo σ0.length
    ·rw [qh] at g
     have h0:=h.2 i oO oO
     rw [h0] at hi
     have k:=f i o2 hi
     exact lZ (m:=σ0.length) (fun _ _=>rfl) (by rw [a];exact c) oO (by rw [h0];exact hi) k
    ·have:=Rw h4 (i - minN lo σ0.length) o2 (by rw [eJ,show minN lo σ0.length+(i - minN lo σ0.length)=i by omega];exact e)
     exact lZ (m:=m) (fun _ _=>rfl) (by rw [a];exact aD _) d hi (Rx this)
   ·cases hi
  ·exact qA (m:=m) (fun _ _=>rfl) (by rw [a];exact aD _) v h2 h3
theorem MZ {σ0 U:Heap} {lo:Nat} {v:Value} {r:Value×Heap×Nat} (h:Keep lo σ0 U) (hr:P6 σ0.length lo v U=some r):aW σ0 U v r.1 r.2.1/\Keep r.2.2 σ0 r.2.1:=by
 simp only [P6,gq] at hr
 cases hr
 obtain ⟨h1,h2⟩:=aeQ (v:=v) h
 refine ⟨h1,by have:=h.1;simp;omega,fun i hi hl=>?_⟩
 rw [ey,if_pos oO]
 exact h.2 i hi hl
theorem ZC {σ0 U:Heap} {lo:Nat} {v:Value} {r:Value×Heap×Nat} (h:Keep lo σ0 U) (hlo:σ0.length<=lo) (hr:WA σ0.length lo v U=some r):aW σ0 U v r.1 r.2.1/\Keep r.2.2 σ0 r.2.1:=by
 simp only [WA,ahc,ahb,gq,aO,aE] at hr
 obtain ⟨⟨⟨⟨h1,h2⟩,h3⟩,h4⟩,h5⟩:=hr
 cases h5
 have ht:=h.take hlo
 simp only [ht]
 refine ⟨aW.src _ _ ht (aM h2) h1 (osubs_of h3 fun j b hj=>?_) (O4 h4),Keep.app⟩
 unfold fK
 rw [if_neg oO,Nat.add_sub_cancel_left,hj]
theorem aeR {σ0 U:Heap} {lo:Nat} {v:Value} {r:Value×Heap×Nat} (h:Keep lo σ0 U) (hr:retK σ0.length lo v U=some r):aW σ0 U v r.1 r.2.1/\Keep r.2.2 σ0 r.2.1:=by
 unfold retK at hr
 cases hb:Nat.ble σ0.length lo with
 |false=>rw [hb] at hr;exact MZ h hr
 |true =>
  rw [hb] at hr
  simp only [cond_true] at hr
  split at hr
  ·rename_i r' a
   cases hr
   exact ZC h (cC hb) a
  ·exact MZ h hr
theorem IJ {P:Program} {T:Tab} (hT:iG P T) {e:Env} {tr:PT} {U:Heap} (ha:Agr e tr):∀ {rv:List ResultVar} {vs:List Value},resT T tr U rv=some vs->tC P e U rv vs
 |[],vs,h=>by cases h;exact .nil
 |.tmp t::rv,vs,h=>by
  simp only [resT,aL] at h
  obtain ⟨v,h1,us,h2,h3⟩:=h
  cases h3
  exact .tmp (ha t v h1) (IJ hT ha h2)
 |.cell a ty::rv,vs,h=>by
  simp only [resT,aL] at h
  obtain ⟨v,⟨p,h1,d⟩,us,h2,h3⟩:=h
  cases h3
  obtain ⟨i,o,size,bytes,z,agg,rfl,c,h4,h5⟩:=YP hT d
  rcases h5 with ⟨rfl,h5⟩|⟨rfl,cs,h5,h6⟩
  ·exact .cell1 c (ha a _ h1) h5 (IJ hT ha h2)
  ·rw [h6];exact .cellN c (ha a _ h1) h5 (IJ hT ha h2)
theorem Na:∀ (mk:List Nat) (n:Nat) (U:Heap),Keep (minL n mk) U (kE mk U)
 |[],n,U=>Keep.refl
 |i::l,n,U=>by
  simp only [kE,minL,qh]
  exact Keep.set.trans (Na l n _)
theorem aeS {mk:List Nat} {U:Heap} (h:mkOk mk U=true):mk.Nodup/\∀ i ∈ mk,U[i]?=some .dfr:=by
 simp only [mkOk,aE,decide_eq_true_eq,dT] at h
 refine ⟨h.1,fun i hi=>?_⟩
 have:=h.2 i hi
 unfold ag9 at this
 split at this
 ·assumption
 ·cases this
theorem IK {u v:Value} (h:afr u v=true):u=v:=by
 unfold afr at h
 split at h
 ·rename_i l hl
  split at h
  ·rename_i l' a
   rw [mD hl,mD a,pq h]
  ·cases h
 ·exact WB h
theorem aeT {a b:Heap} (h:eqHp a b=true):a=b:=by
 unfold eqHp at h
 simp only [aE] at h
 have hl:=aM h.1
 refine eK fun i=>?_
 by_cases hi:i<a.length
 ·exact (WC h.2 i hi).symm
 ·rw [di oO,di oO]
theorem uU {i:Nat} {l:List Nat}:Iu i l=true↔i ∈ l:=by
 unfold Iu
 rw [List.any_eq_true]
 constructor
 ·rintro ⟨x,h1,h2⟩;rw [aM h2];exact h1
 ·intro h;exact ⟨i,h,Nat.beq_refl i⟩
theorem Nb (L:Nat->Bool):∀ ws:List Nat,ws.filter L ∈ NV ws
 |[]=>by simp [NV]
 |i::r=>by
  have ih:=Nb L r
  simp only [NV,List.mem_append,List.mem_map]
  by_cases h:L i=true
  ·rw [List.filter_cons_of_pos h];exact .inr ⟨_,ih,rfl⟩
  ·rw [List.filter_cons_of_neg h];exact .inl ih
theorem GX:∀ {l:List Oper} {j i:Nat},i ∈ tN l j->i<j+l.length
 |[],_,_,h=>by simp [tN] at h
 |o::r,j,i,h=>by
  simp only [tN] at h
  have a:i ∈ tN r (j+1)->i<j+(o::r).length:=fun h=>by have:=GX h;simp;omega
  cases hl:Wu o.op with
  |true =>
   rw [hl] at h
   rcases List.mem_cons.1 h with rfl|h
   ·simp
   ·exact a h
  |false=>rw [hl] at h;exact a h
section
variable {P:Program} {F:Fence} {n:Nat} {Q':Exit->Act->World->Prop} {l:List Oper}
end
def Io:List Oper->Env->Env
 |[],e=>e
 |o::r,e=>match o.dst with|some d=>Late.zG d (Io r e)|none=>Io r e
theorem abz {e:Env} {tr:PT} (ha:Agr e tr) (d:Nat):Agr (Late.zG d e) (tr.del d):=fun t u ht=>by
 have a:t ≠ d:=by
  rintro rfl
  rw [Trie.del_self] at ht;cases ht
 have h:=ha t u (Trie.del_get _ _ _ ht)
 have c:∀ {e:Env},Env.get (Late.zG d e) t=Env.get e t:=fun {e}=>by
  induction e with
  |nil=>rfl
  |cons p e ih =>
   obtain ⟨k,v⟩:=p
   simp only [Late.zG]
   cases hk:Nat.beq k d with
   |true =>
    have:=aM hk
    subst this
    simp only [cond_true,Env.get]
    rw [ih,show Nat.beq k t=false from jA (Ne.symm a)];rfl
   |false =>
    simp only [cond_false,Env.get]
    rw [ih]
 rw [c];exact h
theorem Jj {e:Env} {tr:PT} (ha:Agr e tr):∀ l:List Oper,Agr (Io l e) (FM l tr)
 |[]=>ha
 |o::r=>by
  simp only [Io,FM]
  cases o.dst with
  |none=>exact Jj ha r
  |some d=>exact abz (Jj ha r) d
theorem Jk {e:Env} {t:Nat} {v:Value}:∀ {l:List Oper},Env.get (Io l e) t=some v->Env.get e t=some v
 |[],h=>h
 |o::r,h=>by
  simp only [Io] at h
  cases hd:o.dst with
  |none=>rw [hd] at h;exact Jk (l:=r) h
  |some d=>rw [hd] at h;exact Jk (l:=r) (Late.yu h).2
theorem EY {e:Env} {d:Nat}:∀ {l:List Oper} {o:Oper},o ∈ l->o.dst=some d->Env.get (Io l e) d=none
 |[],_,h,_=>by simp at h
 |a::r,o,h,hd=>by
  cases hg:Env.get (Io (a::r) e) d with
  |none=>rfl
  |some v =>
   exfalso
   simp only [Io] at hg
   cases ha:a.dst with
   |none =>
    rw [ha] at hg
    rcases List.mem_cons.1 h with rfl|h
    ·rw [ha] at hd;cases hd
    ·rw [EY h hd] at hg;cases hg
   |some d' =>
    rw [ha] at hg
    obtain ⟨h1,h2⟩:=Late.yu hg
    rcases List.mem_cons.1 h with rfl|h
    ·rw [ha] at hd;cases hd;exact h1 rfl
    ·rw [EY h hd] at h2;cases h2
def O5 (all:List Oper) (vs:List Value):List Edge->Env->Env
 |[],e=>e
 |a::r,e=>bif Region.binds .any a then (match (all[a.on]?).bind (·.dst) with|some d=>(d,vN vs a.on)::O5 all vs r e|none=>O5 all vs r e) else O5 all vs r e
theorem DF {all:List Oper} {vs:List Value} {e:Env} {tr:PT} (ha:Agr e tr):∀ l:List Edge,Agr (O5 all vs l e) (aai all vs l tr)
 |[]=>ha
 |a::r=>by
  simp only [O5,aai]
  cases Region.binds .any a with
  |false=>exact DF ha r
  |true =>
   simp only [cond_true]
   cases hd:(all[a.on]?).bind (fun x=>x.dst) with
   |none=>exact DF ha r
   |some d=>exact (DF ha r).put d _
theorem Ry {all:List Oper} {vs:List Value} {e:Env} {t:Nat} {u:Value}:∀ {l:List Edge},Env.get (O5 all vs l e) t=some u->Env.get e t=some u\/∃ a ∈ l,Region.binds .any a=true/\∃ o':Oper,all[a.on]?=some o'/\o'.dst=some t/\u=vN vs a.on
 |[],h=>.inl h
 |a::r,h=>by
  have up:Env.get (O5 all vs r e) t=some u->Env.get e t=some u\/∃ b ∈ a::r,Region.binds .any b=true/\∃ o':Oper,all[b.on]?=some o'/\o'.dst=some t/\u=vN vs b.on:=fun h=>by
   rcases Ry h with h|⟨b,h1,h2⟩
   ·exact .inl h
   ·exact .inr ⟨b,dm _ h1,h2⟩
  simp only [O5] at h
  cases hb:Region.binds .any a with
  |false=>rw [hb] at h;exact up h
  |true =>
   rw [hb] at h
   simp only [cond_true] at h
   split at h
   ·rename_i d hd
    obtain ⟨o',h1,h2⟩:=Option.bind_eq_some_iff.1 hd
    simp only [Env.get] at h
    cases hk:Nat.beq d t with
    |true =>
     rw [hk] at h
     have:=aM hk
     subst this
     cases h
     exact .inr ⟨a,fu ..,hb,o',h1,h2,rfl⟩
    |false=>rw [hk] at h;exact up h
   ·exact up h
def GY (vs:List Value):List Oper->Nat->Env->Env
 |[],_,e=>e
 |o::r,j,e=>match o.dst with|some d=>(d,vN vs j)::GY vs r (j+1) e|none=>GY vs r (j+1) e
theorem EZ {vs:List Value} {e:Env} {tr:PT} (ha:Agr e tr):∀ (l:List Oper) (j:Nat),Agr (GY vs l j e) (Tv vs l j tr)
 |[],_=>ha
 |o::r,j=>by
  simp only [GY,Tv]
  cases o.dst with
  |none=>exact EZ ha r (j+1)
  |some d=>exact (EZ ha r (j+1)).put d _
theorem Nc {vs:List Value} {e:Env} {t:Nat} {u:Value}:∀ {l:List Oper} {j:Nat},Env.get (GY vs l j e) t=some u->Env.get e t=some u\/∃ (k:Nat) (o':Oper),l[k]?=some o'/\o'.dst=some t/\u=vN vs (j+k)
 |[],_,h=>.inl h
 |o::r,j,h=>by
  have up:Env.get (GY vs r (j+1) e) t=some u->Env.get e t=some u\/∃ (k:Nat) (o':Oper),(o::r)[k]?=some o'/\o'.dst=some t/\u=vN vs (j+k):=fun h=>by
   rcases Nc h with h|⟨k,o',h1,h2,h3⟩
   ·exact .inl h
   ·exact .inr ⟨k+1,o',h1,h2,by rw [h3];congr 1;omega⟩
  simp only [GY] at h
  cases hd:o.dst with
  |none=>rw [hd] at h;exact up h
  |some d =>
   rw [hd] at h
   simp only [Env.get] at h
   cases hk:Nat.beq d t with
   |true =>
    rw [hk] at h
    have:=aM hk
    subst this
    cases h
    exact .inr ⟨0,o,rfl,hd,rfl⟩
   |false=>rw [hk] at h;exact up h
theorem E5 {N:Nat}:∀ {l:List Oper} {ds:List Nat} {j:Nat},Eo N l ds j=true->∀ (k:Nat) (o:Oper),l[k]?=some o->o.guard=none/\(∀ i,waits o i=true->i<j+k)/\∀ d,o.dst=some d->d<N/\d ∉ ds/\∀ (i:Nat) (o':Oper),i ≠ k->l[i]?=some o'->o'.dst ≠ some d
 |[],_,_,_,k,o,h=>by simp at h
 |a::r,ds,j,h,k,o,hk=>by
  simp only [Eo,aE] at h
  obtain ⟨⟨⟨h1,h2⟩,h3⟩,h4⟩:=h
  have c:∀ d,a.dst=some d->∀ (i:Nat) (o':Oper),r[i]?=some o'->o'.dst ≠ some d:=fun d hd i o' hi e=>by
   rw [hd] at h4
   have:=((E5 h4 i o' hi).2.2 d e).2.1
   simp at this
  cases k with
  |zero =>
   simp at hk
   subst hk
   refine ⟨by simpa using h1,fun i hw=>?_,fun d hd=>?_⟩
   ·unfold waits bV at hw
    obtain ⟨x,hx,hb⟩:=Array.any_eq_true'.1 hw
    simp only [aE] at hb
    have:=List.all_eq_true.1 h2 x (oU hx)
    simp only [hb.1,Bool.not_true,Bool.false_or,bX] at this
    rw [<- aM hb.2];exact this
   ·rw [hd] at h3
    simp only [aE,bX,eL] at h3
    refine ⟨h3.1,fun hm=>?_,fun i o' hi f e=>?_⟩
    ·have:=uU.2 hm
     unfold Iu at this
     rw [this] at h3;cases h3.2
    ·cases i with
     |zero=>exact hi rfl
     |succ i=>exact c d hd i o' (oU f) e
  |succ k =>
   have g:r[k]?=some o:=by simpa using hk
   obtain ⟨g1,g2,g3⟩:=E5 h4 k o g
   refine ⟨g1,fun i hw=>by have:=g2 i hw;omega,fun d hd=>?_⟩
   obtain ⟨q1,q2,q3⟩:=g3 d hd
   refine ⟨q1,fun hm=>q2 ?_,fun i o' hi f e=>?_⟩
   ·cases a.dst with
    |none=>exact hm
    |some d'=>exact dm _ hm
   ·cases i with
    |zero =>
     simp at f
     subst f
     exact c d e k o g hd
    |succ i=>exact q3 i o' oO (oU f) e
section
variable {P:Program} {T:Tab} {call:jw} {N:Nat} {rd:Option Nat} {tr e0:PT} {mk:List Nat} {U:Heap} {all:List Oper} {vs:List Value}
theorem uN {sel sel':Nat->Bool}:∀ {ws:List Nat} {U:Heap} {lo:Nat},(∀ i ∈ ws,sel i=sel' i)->hOf T call N all vs e0 sel ws U lo=hOf T call N all vs e0 sel' ws U lo
 |[],_,_,_=>rfl
 |i::r,U,lo,h=>by
  have hr:∀ i ∈ r,sel i=sel' i:=fun i hi=>h i (dm _ hi)
  simp only [hOf]
  rw [h i (fu ..)]
  cases sel' i with
  |false=>exact uN hr
  |true =>
   simp only [cond_true]
   congr 1;funext o;congr 1;funext q
   exact uN hr
theorem Jl (hT:iG P T) (hc:iR P call) {sel:Nat->Bool} {σ0:Heap}:∀ {ws:List Nat} {U:Heap} {lo:Nat} {h:Heap×Nat},hOf T call N all vs e0 sel ws U lo=some h->Keep lo σ0 U->Keep h.2 σ0 h.1
 |[],U,lo,h,hh,hk=>by cases hh;exact hk
 |i::r,U,lo,h,hh,hk=>by
  simp only [hOf] at hh
  cases hs:sel i with
  |false=>rw [hs] at hh;exact Jl hT hc hh hk
  |true =>
   rw [hs] at hh
   simp only [cond_true,aL] at hh
   obtain ⟨o,_,q,h2,h3⟩:=hh
   have:=(Ap hT hc (e:=Ej _) xJ h2).2
   refine Jl hT hc h3 ?_
   simp only [qh]
   exact hk.trans this
theorem abA {ws:List Nat} {lo:Nat}:hOf T call N all vs e0 (fun _=>false) ws U lo=some (U,lo):=by
 induction ws with
 |nil=>rfl
 |cons i r ih=>simp only [hOf,cond_false];exact ih
theorem Rz {ws ms:List Nat} {Tl:List Nat} {h:Heap}:∀ {l:List Oper} {j:Nat},aaj T call N all vs e0 ws ms U Tl h l j=true->∀ (k:Nat) (o:Oper),l[k]?=some o ->
  Iu (j+k) Tl=true\/Tl.any (fun i=>(ms.getD i 0).testBit (j+k))=true\/chkO T call N all vs e0 ws U Tl h o (j+k)=true
 |[],_,_,k,o,h=>by simp at h
 |a::r,j,hh,k,o,hk=>by
  simp only [aaj,aE,ee] at hh
  cases k with
  |zero =>
   simp at hk
   subst hk
   rcases hh.1 with (h1|h1)|h1
   ·exact .inl h1
   ·exact .inr (.inl h1)
   ·exact .inr (.inr h1)
  |succ k =>
   have:=Rz hh.2 k o (oU hk)
   rwa [show j+1+k=j+(k+1) by omega] at this
theorem RD {ws ms:List Nat}:∀ {l:List (List Nat)},afs T call N all vs e0 ws ms U l=true->∀ Tl ∈ l,∃ h,hOf T call N all vs e0 (fun i=>Iu i Tl) ws U U.length=some h/\h.1.length=U.length/\aaj T call N all vs e0 ws ms U Tl h.1 all 0=true
 |[],_,_,h=>by simp at h
 |T0::r,hh,Tl,hm=>by
  simp only [afs,aE] at hh
  rcases List.mem_cons.1 hm with rfl|hm
  ·have h1:=hh.1
   split at h1
   ·rename_i h a
    simp only [aE,gq] at h1
    exact ⟨h,a,aM h1.1,h1.2⟩
   ·cases h1
  ·exact RD hh.2 Tl hm
theorem ahu {n0:Nat} {c:Code} {Q:Post} {e e2:Env} (h:∀ t v,Env.get e2 t=some v->Env.get e t=some v) (k:bJ P n0 N rd c Q e2 mk U):bJ P n0 N rd c Q e mk U:=by
 rintro G w0 ρ0 A w ⟨h0,V,a,hs,he⟩
 exact k G w0 ρ0 A w ⟨h0,V,a,hs,⟨he.tmps.1,fun t v hv=>he.tmps.2 t v (h t v hv)⟩,he.mks,he.mkb⟩
theorem aeU (hT:iG P T) (hc:iR P call) (hmix:P.follows .mixedOrders=true) {id:Nat} {code:qI} {r:Exit×PT×List Nat×Heap×Nat} (h:afu all T call code N rd tr mk U=some r) :
  (∀ (n0:Nat) (e:Env) (Q:Post),lJ rd n0=true->Agr e tr->(∀ e',Agr e' r.2.1->Q r.1 e' r.2.2.1 r.2.2.2.1)->bJ P n0 N rd (.region id all.toArray true) Q e mk U)/\Keep r.2.2.2.2 U r.2.2.2.1:=by
 simp only [afu,aL,gq,ag3,aO,aE] at h
 obtain ⟨_,r0,_,⟨⟨_,B⟩,c⟩,hF,hf,h⟩:=h
 cases h
 generalize valsN r0.1 all=vs at B c hf
 obtain ⟨ws,z⟩:∃ ws,ws=tN all 0:=⟨_,rfl⟩
 rw [<- z] at c hf
 have p:∀ i ∈ ws,i<all.length:=fun i hi=>by rw [z] at hi;have:=GX hi;omega
 refine ⟨fun n0 e Q F ha hQ=>?_,Jl hT hc hf Keep.refl⟩
 refine ahu (e2:=Io all e) (fun t v hv=>Jk hv) ?_
 have A:=Jj ha all
 have w:∀ L:Nat->Bool,∃ h,hOf T call N all vs (FM all tr) L ws U U.length=some h/\h.1.length=U.length/\aaj T call N all vs (FM all tr) ws (nC all []) U (ws.filter L) h.1 all 0=true:=fun L=>by
  obtain ⟨h,h1,h2,h3⟩:=RD c (ws.filter L) (Nb L ws)
  refine ⟨h,?_,h2,h3⟩
  rw [<- h1]
  refine uN fun i hi=>?_
  cases hL:L i with
  |true=>exact (uU.2 (List.mem_filter.2 ⟨hi,hL⟩)).symm
  |false =>
   cases hm:Iu i (ws.filter L) with
   |false=>rfl
   |true=>have:=(List.mem_filter.1 (uU.1 hm)).2;rw [hL] at this;cases this
 let Hp:(Nat->Bool)->Heap:=fun L=>match hOf T call N all vs (FM all tr) L ws U U.length with|some h=>h.1|none=>U
 have f:∀ {L:Nat->Bool} {h:Heap×Nat},hOf T call N all vs (FM all tr) L ws U U.length=some h->Hp L=h.1:=fun {L h} hh=>by simp only [Hp,hh]
 refine PG hmix F (vN vs) Hp (fun j=>match all[j]? with|some o=>O5 all vs o.after.toList (Io all e)|none=>[]) (fun L=>?_) (by rw [f abA]) (fun j o ho=>?_) (fun j o ho t u ht=>?_) (fun L j o ho y hw l=>?_) (fun L x=>⟨GY vs all 0 (Io all e),fun t u ht=>?_,?_⟩)
 ·obtain ⟨h,h1,h2,_⟩:=w L
  rw [f h1,h2]
 ·obtain ⟨g1,g2,g3⟩:=E5 B j o ho
  refine ⟨g1,fun i hi=>by have:=g2 i hi;omega,fun d hd=>?_⟩
  obtain ⟨q1,_,q3⟩:=g3 d hd
  exact ⟨q1,EY (eh ho) hd,q3⟩
 ·simp only [ho] at ht
  rcases Ry ht with h|⟨a,h1,h2,o',h3,h4,h5⟩
  ·exact .inl h
  ·refine .inr ⟨a.on,o',?_,h3,h4,h5⟩
   unfold waits bV
   rw [Array.any_eq_true']
   exact ⟨a,by simpa using h1,by simp [h2]⟩
 ·obtain ⟨h,h1,h2,h3⟩:=w L
  rw [f h1]
  simp only [ho]
  rcases Rz h3 j o ho with g|g|g
  ·rw [aR] at g
   have:=(List.mem_filter.1 (uU.1 g)).2
   rw [y] at this;cases this
  ·exfalso
   rw [aR] at g
   obtain ⟨i,g1,g2⟩:=List.any_eq_true.1 g
   obtain ⟨g3,g4⟩:=List.mem_filter.1 g1
   have C:=p i g3
   have hm:(nC all [])[i]?=some ((nC all []).getD i 0):=by
    rw [cE] at g2 ⊢
    cases hx:(nC all [])[i]? with
    |none=>rw [hx] at g2;simp at g2
    |some m=>rfl
   have n:=Cc (all:=all) all [] oS oS (fun _ _ h=>by simp at h) i _ hm
   have:=n (fun k=>L k=true) (fun k o' hk E q hq=>l k o' hk E q hq) all[i] (cA C) (fun k hk=>l i _ (cA C) g4 k hk) j g2
   rw [y] at this;cases this
  ·rw [aR] at g
   unfold chkO at g
   split at g
   ·rename_i q hq
    simp only [aE] at g
    obtain ⟨gv,gw⟩:=g
    obtain ⟨s1,s2⟩:=Ap hT hc (DF A o.after.toList) hq
    refine ⟨q.1,?_,fun hd=>?_⟩
    ·cases hm:Iu j ws with
     |true =>
      rw [hm] at gw
      simp only [cond_true] at gw
      split at gw
      ·rename_i G D
       have e1:hOf T call N all vs (FM all tr) (jW L j) ws U U.length=some G:=by
        rw [<- D]
        refine uN fun i hi=>?_
        unfold jW
        by_cases s:i=j
        ·subst s;simp
        ·rw [if_neg s,jA (Ne.symm s),Bool.false_or]
         cases hL:L i with
         |true=>exact (uU.2 (List.mem_filter.2 ⟨hi,hL⟩)).symm
         |false =>
          cases hm:Iu i (ws.filter L) with
          |false=>rfl
          |true=>have:=(List.mem_filter.1 (uU.1 hm)).2;rw [hL] at this;cases this
       rw [f e1,<- aeT gw]
       exact s1 rd o.type
      ·cases gw
     |false =>
      rw [hm] at gw
      simp only [cond_false,aE] at gw
      have e1:hOf T call N all vs (FM all tr) (jW L j) ws U U.length=some h:=by
       rw [<- h1]
       refine uN fun i hi=>?_
       unfold jW
       rw [if_neg fun s=>by rw [<- s,uU.2 hi] at hm;cases hm]
      have e2:q.2.1=h.1:=by
       have k1:=(s2.mono (cC gw.1)).eq_app
       have k2:=aM gw.2
       rw [k1,eD oO,bN]
      rw [f e1]
      have:=s1 rd o.type
      rw [e2] at this
      exact this
    ·unfold chkV at gv
     split at gv
     ·exact IK gv
     ·rename_i hn;rw [hn] at hd;cases hd
   ·cases g
 ·rcases Nc ht with h|⟨k,o',h1,h2,h3⟩
  ·exact .inl h
  ·exact .inr ⟨k,o',h1,h2,by rw [h3,aR]⟩
 ·have e1:hOf T call N all vs (FM all tr) L ws U U.length=some hF:=by
   rw [<- hf]
   exact uN fun i hi=>x i (p i hi)
  rw [f e1]
  exact hQ _ (EZ A all 0)
end
def nT (P:Program) (code:qI):Prop:=∀ (c:Code) (N:Nat) (rd:Option Nat) (tr:PT) (mk:List Nat) (U:Heap) (r:Exit×PT×List Nat×Heap×Nat),code c N rd tr mk U=some r ->
 (∀ (n0:Nat) (e:Env) (Q:Post),lJ rd n0=true->Agr e tr->(∀ e',Agr e' r.2.1->Q r.1 e' r.2.2.1 r.2.2.2.1)->bJ P n0 N rd c Q e mk U)/\Keep r.2.2.2.2 U r.2.2.2.1
section
variable {P:Program} {T:Tab} {call:jw} {code:qI} {N:Nat} {rd:Option Nat} {tr:PT} {mk:List Nat} {U:Heap} {all:List Oper}
theorem RF {ex:Exit} (h:JY ex=true):ex=.normal:=by unfold JY at h;split at h <;> simp_all
def OpsOk (P:Program) (N:Nat) (rd:Option Nat) (all rest:List Oper) (tr:PT) (U:Heap) (r:PT×Heap×Nat):Prop :=
 (∀ (n0:Nat) (e:Env) (mk:List Nat) (K:Env->List Nat->Heap->Prop),lJ rd n0=true->Agr e tr->(∀ e',Agr e' r.1->K e' mk r.2.1)->dA P n0 N rd all rest K e mk U)/\Keep r.2.2 U r.2.1
def Yb (P:Program) (N:Nat) (rd:Option Nat) (all:List Oper) (o:Oper) (tr:PT) (U:Heap) (r:PT×Heap×Nat):Prop :=
 (∀ (n0:Nat) (e:Env) (mk:List Nat) (rest:List Oper) (K:Env->List Nat->Heap->Prop),lJ rd n0=true->Agr e tr->(∀ e',Agr e' r.1->dA P n0 N rd all rest K e' mk r.2.1)->dA P n0 N rd all (o::rest) K e mk U)/\Keep r.2.2 U r.2.1
theorem Vu (hT:iG P T) (hc:iR P call) {o:Oper} {r:PT×Heap×Nat} (h:PS T call N o tr U=some r) (hw:∀ e,Agr e tr->jX all e o=some true):Yb P N rd all o tr U r:=by
 simp only [PS,aL] at h
 obtain ⟨q,h1,t1,h2,h3⟩:=h
 cases h3
 refine ⟨fun n0 e mk rest K a ha hK=>?_,(Ap hT hc (e:=Ej tr) xJ h1).2⟩
 obtain ⟨h4,h5⟩:=II ha h2
 exact ahH a (hw e ha) h4 ((Ap hT hc ha h1).1 _ _) (hK _ h5)
theorem Yc {d l lo:Nat} {σ2:Heap} {ob:aC} {ex:Exit} {r:PT×Heap×Nat} (h:endY N d l tr σ2 lo ob ex=some r) (hσ:σ2[l]?=some ob):Nat.blt d N=true/\r.2.2=lo/\(∃ o,r.2.1=σ2.set l o) /\
  ∀ (n0:Nat) (e:Env) (mk:List Nat) (rest:List Oper) (K:Env->List Nat->Heap->Prop),Agr e tr->(∀ e',Agr e' r.1->dA P n0 N none all rest K e' mk r.2.1)->∀ e2 mk2,dW P n0 N all rest K d l e mk ex e2 mk2 σ2:=by
 unfold endY at h
 split at h
 ·simp only [aO,aE] at h
  obtain ⟨⟨h1,h2⟩,h3⟩:=h
  cases h3
  exact ⟨h2,rfl,⟨_,rfl⟩,fun n0 e mk rest K ha hK e2 mk2=>⟨ob,hσ,h1,hK _ (ha.put d _)⟩⟩
 ·simp only [aO,aE] at h
  obtain ⟨⟨h1,h2⟩,h3⟩:=h
  cases h3
  exact ⟨h2,rfl,⟨_,rfl⟩,fun n0 e mk rest K ha hK e2 mk2=>⟨ob,hσ,h1,hK _ (ha.put d _)⟩⟩
 ·simp only [aO,aE] at h
  obtain ⟨⟨h1,h2⟩,h3⟩:=h
  cases h3
  exact ⟨h2,rfl,⟨_,rfl⟩,fun n0 e mk rest K ha hK e2 mk2=>⟨ob,hσ,h1,hK _ (ha.put d _)⟩⟩
 ·cases h
theorem abB (hcode:nT P code) {o:Oper} {y:Nat×List Value} {r:PT×Heap×Nat} (hy:yieldOf tr o rd=some y) (h:JZ code N o.dst tr U y=some r) (hw:∀ e,Agr e tr->jX all e o=some true):Yb P N rd all o tr U r:=by
 unfold yieldOf at hy
 split at hy
 ·obtain ⟨hd,hy⟩:=aO.1 hy
  obtain ⟨dst,op,ty,pos,after,g⟩:=o
  simp only [JZ,aL] at h
  obtain ⟨d,rfl,ob,h1,h2⟩:=h
  simp only at hy h1 h2 hw
  cases op with
  |call c =>
   obtain ⟨u,⟨args⟩,ts⟩:=c
   cases u with
   |value x =>
    simp only [YD,acv,aL] at hy
    obtain ⟨l,⟨w,g1,g2⟩,vs,g3,g4⟩:=hy
    cases g4
    have t:w=.func (.yield l) #[] #[]:=by unfold Yr at g2;split at g2 <;> cases g2;rfl
    subst t
    simp only at h1 h2
    unfold acw at h2
    split at h2
    ·rename_i p0 N' e' ps assign body
     obtain ⟨ps⟩:=ps
     simp only [aO,aE,aL] at h2
     obtain ⟨⟨k1,k2⟩,r1,k3,k4,ob1,k5,k6⟩:=h2
     obtain ⟨ex1,t1,mk1,σ1,j⟩:=r1
     have k4:=RF k4
     simp only at k4 k5 k6
     subst k4
     unfold ag1 at k6
     split at k6
     ·rename_i a N2 e2 p as2 k
      simp only [aL] at k6
      obtain ⟨r2,k7,ob2,k8,k9⟩:=k6
      obtain ⟨ex2,t2,s,σ2,q⟩:=r2
      simp only at k8 k9
      have m:Nat.blt l U.length=true:=Nat.blt_eq.mpr (aS h1)
      obtain ⟨c1,c2⟩:=hcode _ _ _ _ _ _ _ k3
      obtain ⟨c3,c4⟩:=hcode _ _ _ _ _ _ _ k7
      have he:=Yc (P:=P) (all:=all) k9 k8
      obtain ⟨b1,b2,⟨o9,b3⟩,_⟩:=he
      constructor
      ·intro n0 e mk f K hrd ha hK
       refine FC (ug ha g1) (J4 ha g3) h1 k1 k2 b1 (fun _ n V A hE=>yZ (hw e ha) hE) ?_
       refine c1 U.length _ _ m (MR MV) fun e3 a3=>?_
       refine ⟨N2,e2,p,as2,k,a,k5,?_⟩
       refine c3 U.length _ _ m a3 fun e4 a4=>?_
       exact (Yc (P:=P) (all:=all) k9 k8).2.2.2 n0 e mk f K ha hK e4 s
      ·rw [b2,b3]
       simp only [qh]
       have q1:Keep (min j l) U (σ1.set l (.loop .busy a N2 e2 p as2 k)):=c2.trans Keep.set
       have q2:Keep (min (min j l) q) U σ2:=q1.trans c4
       exact (q2.trans (Keep.set (i:=l))).mono (by simp only [Nat.le_min];omega)
     ·cases k6
    ·cases h2
   |_=>cases hy
  |_=>cases hy
 ·cases hy
theorem Nh (hT:iG P T) (hc:iR P call) (hcode:nT P code) {o:Oper} {b:Bool} {r:PT×Heap×Nat} (hw:∀ e,Agr e tr->jX all e o=some b) (h:J3 T call code N rd o tr U b=some r):Yb P N rd all o tr U r:=by
 cases b with
 |false =>
  simp only [J3,aL] at h
  obtain ⟨t1,h1,h2⟩:=h
  cases h2
  refine ⟨fun n0 e mk rest K hrd ha hK=>?_,Keep.refl⟩
  obtain ⟨h4,h5⟩:=II ha h1
  exact afd (hw e ha) h4 (hK _ h5)
 |true =>
  simp only [J3] at h
  split at h
  ·rename_i y hy;exact abB hcode hy h hw
  ·exact Vu hT hc h hw
theorem E8 (hT:iG P T) (hc:iR P call) (hcode:nT P code):∀ {rest:List Oper} {tr:PT} {U:Heap} {r:PT×Heap×Nat},CX T call code N rd all rest tr U=some r->OpsOk P N rd all rest tr U r
 |[],tr,U,r,h=>by cases h;exact ⟨fun n0 e mk K _ ha hK=>kU (hK e ha),Keep.refl⟩
 |o::rest,tr,U,r,h=>by
  simp only [CX,ag2,aL] at h
  obtain ⟨b,h1,r1,h2,r2,h3,h4⟩:=h
  cases h4
  obtain ⟨g1,g2⟩:=Nh (all:=all) hT hc hcode (fun e ha=>OZ ha h1) h2
  obtain ⟨g3,g4⟩:=E8 hT hc hcode h3
  refine ⟨fun n0 e mk K a ha hK=>g1 n0 e mk rest K a ha fun e1 c=>g3 n0 e1 mk K a c hK,?_⟩
  simp only [qh];exact g2.trans g4
theorem seen_eq {β:Type} {L:Nat->Bool} {σ0:Heap} {k:Heap->β}:∀ {news:List (Nat×Heap)},seen L σ0 k news=k (σ0++gV L news)
 |[]=>by simp [seen,gV]
 |p::news=>by simp [seen,gq]
theorem uV (hT:iG P T) (hc:iR P call) {σ0:Heap} {K:Env->List (Nat×Heap)->List Oper->Prop}:∀ {rest:List Oper} {k:Nat} {tr:PT} {e:Env} {news:List (Nat×Heap)} {r:PT×List (Nat×Heap)×List Oper},
  rest=all.drop k->En T call N all (nC all []) σ0 k rest tr news=some r->Agr e tr->(∀ e',Agr e' r.1->K e' r.2.1 r.2.2)->bK P N rd all k rest e σ0 news K
 |[],k,tr,e,news,r,_,h,ha,hK=>by cases h;exact hK e ha
 |o::rest,k,tr,e,news,r,hr,h,ha,hK=>by
  have hx:all[k]?=some o:=by
   have:=congrArg (fun l:List Oper=>l[0]?) hr
   simpa using this.symm
  have c:rest=all.drop (k+1):=by
   have:=congrArg List.tail hr
   simpa using this
  simp only [En] at h
  split at h
  ·rename_i r1 a
   simp only [aL] at a
   obtain ⟨b,h1,h2⟩:=a
   have hw:=OZ ha h1
   cases b with
   |false =>
    simp only [PV,aL] at h2
    obtain ⟨t1,h3,h4⟩:=h2
    cases h4
    obtain ⟨h5,h6⟩:=II ha h3
    exact .inr ⟨h5,.inr ⟨hw,uV hT hc c h h6 hK⟩⟩
   |true =>
    simp only [PV,seen_eq,Tt,aL,aO,gq,aE] at h2
    obtain ⟨q,h3,⟨⟨h4,h5⟩,h6⟩,t1,h7,h8⟩:=h2
    cases h8
    obtain ⟨h9,d⟩:=II ha h7
    obtain ⟨g1,g2⟩:=Ap hT hc ha h3
    have g3:=(g2.mono (cC h4)).eq_app
    refine .inr ⟨h9,.inl ⟨hw,q.1,_,by rw [<- g3];exact g1 rd o.type,MW h5,?_,uV hT hc c h d hK⟩⟩
    have hlt:=(List.getElem?_eq_some_iff.1 hx).1
    by_cases hm:k<(nC all []).length
    ·have hg:(nC all [])[k]?=some ((nC all []).getD k 0):=by rw [cE,cA hm];rfl
     exact X9 hx (Cc all [] oS oS (fun _ _ h=>by simp at h) k _ hg) (by rw [bA,qB]) h6
    ·have h0:(nC all []).getD k 0=0:=by rw [cE,di oO];rfl
     rw [h0] at h6
     exact X9 hx (fun D _ o' _ _ i hi=>by simp at hi) (by rw [bA,qB]) h6
  ·cases h;exact .inl (hK e ha)
theorem Yd {x:Ir} {r:Exit×PT×List Nat×Heap×Nat} (h:acE mk x=some r):∃ q,x=some q/\r=(.normal,q.1,mk,q.2.1,q.2.2):=by
 simp only [acE,aL] at h
 obtain ⟨q,h1,h2⟩:=h
 exact ⟨q,h1,by cases h2;rfl⟩
theorem seq_ok (hcode:nT P code) {a b:Code} {r:Exit×PT×List Nat×Heap×Nat} (h:acz a b T call code N rd tr mk U=some r) :
  (∀ (n0:Nat) (e:Env) (Q:Post),lJ rd n0=true->Agr e tr->(∀ e',Agr e' r.2.1->Q r.1 e' r.2.2.1 r.2.2.2.1)->bJ P n0 N rd (.seq a b) Q e mk U)/\Keep r.2.2.2.2 U r.2.2.2.1:=by
 simp only [acz,aL] at h
 obtain ⟨⟨f,t1,mk1,σ1,lo1⟩,h1,h2⟩:=h
 obtain ⟨g1,g2⟩:=hcode _ _ _ _ _ _ _ h1
 simp only at g1 g2 h2
 unfold seqK at h2
 split at h2
 ·simp only [aL] at h2
  obtain ⟨⟨ex2,t2,mk2,σ2,lo2⟩,h3,h4⟩:=h2
  cases h4
  obtain ⟨g3,g4⟩:=hcode _ _ _ _ _ _ _ h3
  refine ⟨fun n0 e Q c ha hQ=>uq (g1 n0 e _ c ha fun e1 a1=>g3 n0 e1 Q c a1 hQ),?_⟩
  simp only [qh];exact g2.trans g4
 ·rename_i d
  cases h2
  refine ⟨fun n0 e Q c ha hQ=>uq (g1 n0 e _ c ha fun e1 a1=>?_),g2⟩
  have:=hQ e1 a1
  cases f with
  |normal=>exact absurd rfl d
  |_=>exact this
def DI (P:Program) (N:Nat) (rd:Option Nat) (b:Code) (r:Exit×PT×List Nat×Heap×Nat):Nat->PT->List Nat->Heap->Prop
 |0,_,_,_=>False
 |m+1,tr,mk,U=>∃ ex tr1 mk1 σ1,(∀ (n0:Nat) (e:Env) (Q:Post),lJ rd n0=true->Agr e tr->(∀ e',Agr e' tr1->Q ex e' mk1 σ1)->bJ P n0 N rd b Q e mk U) /\
  ((ex=.normal/\DI P N rd b r m tr1 mk1 σ1)\/(ex ≠ .normal/\r.1=ex/\r.2.1=tr1/\r.2.2.1=mk1/\r.2.2.2.1=σ1))
theorem aeV {b:Code} {r:Exit×PT×List Nat×Heap×Nat} {m:Nat} (h:DI P N rd b r m tr mk U) {n0:Nat} {e:Env} {Q:Post} (hrd:lJ rd n0=true) (ha:Agr e tr) (hQ:∀ e',Agr e' r.2.1->Q r.1 e' r.2.2.1 r.2.2.2.1) :
  bJ P n0 N rd (.loop b) Q e mk U:=by
 refine VA (fun m e mk U=>∃ tr,Agr e tr/\DI P N rd b r m tr mk U) (m0:=m) ⟨tr,ha,h⟩ ?_
 rintro m e mk U ⟨tr,ha,h⟩
 cases m with
 |zero=>exact h.elim
 |succ m =>
  obtain ⟨ex,c,mk1,σ1,h1,h2⟩:=h
  refine h1 n0 e _ hrd ha fun e1 a1=>?_
  rcases h2 with ⟨rfl,h2⟩|⟨a,h3,h4,h5,h6⟩
  ·exact ⟨m,oO,c,a1,h2⟩
  ·have:=hQ e1 (by rw [h4];exact a1)
   rw [h3,h5,h6] at this
   cases ex with
   |normal=>exact absurd rfl a
   |_=>exact this
def O6 (P:Program) (code:qI):Prop:=∀ (b:Code) (N:Nat) (rd:Option Nat) (tr:PT) (mk:List Nat) (U:Heap) (r:Exit×PT×List Nat×Heap×Nat),code (.loop b) N rd tr mk U=some r->∃ m,DI P N rd b r m tr mk U
theorem RG (hcode:nT P code) (hl:O6 P code) {b:Code} {r:Exit×PT×List Nat×Heap×Nat} (h:acD b T call code N rd tr mk U=some r):(∃ m,DI P N rd b r m tr mk U)/\Keep r.2.2.2.2 U r.2.2.2.1:=by
 refine ⟨?_,(seq_ok hcode h).2⟩
 simp only [acD,acz,aL] at h
 obtain ⟨⟨f,t1,a,σ1,lo1⟩,h1,h2⟩:=h
 obtain ⟨g1,g2⟩:=hcode _ _ _ _ _ _ _ h1
 simp only at g1 g2 h2
 unfold seqK at h2
 split at h2
 ·simp only [aL] at h2
  obtain ⟨⟨ex2,t2,mk2,σ2,lo2⟩,h3,h4⟩:=h2
  cases h4
  obtain ⟨m,hm⟩:=hl _ _ _ _ _ _ _ h3
  refine ⟨m+1,.normal,t1,a,σ1,g1,.inl ⟨rfl,?_⟩⟩
  clear h1 g1 g2 h3
  induction m generalizing t1 a σ1 with
  |zero=>exact hm.elim
  |succ m ih =>
   obtain ⟨ex,e,d,σ3,q1,q2⟩:=hm
   refine ⟨ex,e,d,σ3,q1,?_⟩
   rcases q2 with ⟨q2,q3⟩|q2
   ·exact .inl ⟨q2,ih _ _ _ q3⟩
   ·exact .inr q2
 ·rename_i c
  cases h2
  exact ⟨1,f,t1,a,σ1,g1,.inr ⟨fun h=>c h,rfl,rfl,rfl,rfl⟩⟩
theorem O7 (hT:iG P T) (hc:iR P call) (hcode:nT P code) {l:List Oper} {r:Exit×PT×List Nat×Heap×Nat} (h:aah l T call code N rd tr mk U=some r) :
  ∃ f,En T call N l (nC l []) U 0 l tr []=some f/\drawOk l (l.length - f.2.2.length)=true /\
   (∀ (n0:Nat) (e1:Env) (Q:Post),lJ rd n0=true->Agr e1 f.1->(∀ e',Agr e' r.2.1->Q r.1 e' r.2.2.1 r.2.2.2.1)->dA P n0 N rd l f.2.2 (Q .normal) e1 mk (U++gV (fun _=>true) f.2.1))/\Keep r.2.2.2.2 U r.2.2.2.1:=by
 simp only [aah,regD,aL,aO,xY,seen_eq] at h
 obtain ⟨f,h1,h2,h3⟩:=h
 obtain ⟨q,h4,rfl⟩:=Yd h3
 simp only [aL] at h4
 obtain ⟨q0,h5,h6⟩:=h4
 cases h6
 obtain ⟨g1,g2⟩:=E8 hT hc hcode h5
 refine ⟨f,h1,h2,fun n0 e1 Q a a1 hQ=>g1 n0 e1 mk _ a a1 hQ,?_⟩
 simp only [qh]
 exact (Keep.app (lo:=U.length)).trans g2
end
theorem Nj:∀ {l:List Oper} {j:Nat},Ep l j=true->∀ (k:Nat) (o:Oper),l[k]?=some o->∀ i,waits o i=true->i<j+k
 |[],_,_,k,o,h=>by simp at h
 |a::r,j,h,k,o,hk=>by
  simp only [Ep,aE] at h
  cases k with
  |zero =>
   simp at hk
   subst hk
   intro i hw
   unfold waits bV at hw
   obtain ⟨x,hx,hb⟩:=Array.any_eq_true'.1 hw
   simp only [aE] at hb
   have:=List.all_eq_true.1 h.1 x (oU hx)
   simp only [hb.1,Bool.not_true,Bool.false_or,bX] at this
   rw [<- aM hb.2];exact this
  |succ k =>
   intro i hw
   have:=Nj h.2 k o (oU hk) i hw
   omega
theorem Ye:∀ {a b:List Bool},Wv a b=true->a=b
 |[],b,h=>by simp only [Wv,List.isEmpty_iff] at h;exact h.symm
 |x::a,[],h=>by simp [Wv] at h
 |x::a,y::b,h=>by
  simp only [Wv,aE,beq_iff_eq] at h
  rw [h.1,Ye h.2]
theorem Jm {m:List Bool}:∀ {l:List CSt} {t:CSt},TB m l=some t->t ∈ l/\t.1=m
 |[],_,h=>by simp [TB] at h
 |x::l,t,h=>by
  simp only [TB] at h
  cases hb:Wv x.1 m with
  |true=>rw [hb] at h;cases h;exact ⟨fu ..,Ye hb⟩
  |false=>rw [hb] at h;obtain ⟨h1,h2⟩:=Jm (l:=l) h;exact ⟨dm _ h1,h2⟩
theorem Yf {n:Nat} {Z:Rho} {u v:Value} (h:afy n Z u v=true):jS n Z u v:=by
 unfold afy at h
 split at h
 ·rename_i p hp
  split at h
  ·rename_i q hq
   simp only [aE,bX] at h
   obtain ⟨⟨⟨⟨h1,h2⟩,h3⟩,h4⟩,h5⟩:=h
   rw [y7 hp,y7 hq,<- aM h4,<- aM h5,<- aM h2]
   have:=VQ.gsliceG (q:=true) (n:=n) (V:=Z) p.1 0 (p.2.2+1) (p.2.2+1) (p.2.2+1) p.2.1 ⟨aD _,fun _=>rfl⟩ h1 rfl
   rw [aM h3] at this
   exact this
  ·cases h
 split at h
 ·rename_i l hl
  split at h
  ·rename_i l' a
   simp only [aE] at h
   have h1:=aM h.1
   obtain ⟨_,h2⟩:=zO h.2
   rw [Ak hl,Ak a]
   exact .tuple _ _ (oU h1) fun i hi c=>by simpa using h2 i (oU hi) (oU c)
  ·cases h
 ·exact O4 h
theorem DJ {n:Nat} {Z:Rho}:∀ {a b:List Value},G9 n Z a b=true->a.length=b.length/\∀ (i:Nat) (h:i<a.length) (h':i<b.length),jS n Z a[i] b[i]
 |[],b,h=>by
  simp only [G9,List.isEmpty_iff] at h
  subst h;exact ⟨rfl,fun i hi=>by simp at hi⟩
 |u::us,[],h=>by simp [G9] at h
 |u::us,v::vs,h=>by
  simp only [G9,aE] at h
  obtain ⟨h1,h2⟩:=DJ h.2
  refine ⟨by simp [h1],fun i hi c=>?_⟩
  cases i with
  |zero=>exact Yf h.1
  |succ i=>exact h2 i (oU hi) (oU c)
theorem aeW {U:Heap} {n b:Nat} {Z:Rho} {o:aC} (h:subX n Z o U[b]?=true):xX U n Z ⟨b,0,0⟩ o:=by
 unfold subX at h
 cases hd:FK o with
 |true=>rw [FN hd];trivial
 |false =>
  rw [hd] at h
  simp only [cond_false] at h
  split at h
  ·rename_i a h2
   split at h
   ·rename_i cs hc
    obtain ⟨h3,h4⟩:=DJ h
    obtain ⟨x,hx,hc⟩:=Option.bind_eq_some_iff.1 hc
    rw [oH hc] at hx
    rw [oH h2]
    exact .inr ⟨rfl,cs,.inl hx,oO,h4⟩
   ·cases h
  split at h
  ·rename_i a h2
   split at h
   ·rename_i cs hc
    obtain ⟨h3,h4⟩:=DJ h
    obtain ⟨x,hx,hc⟩:=Option.bind_eq_some_iff.1 hc
    rw [rZ hc] at hx
    rw [rZ h2]
    exact .inr ⟨cs,hx,fun k hk=>⟨by simp only [aR];omega,by simpa using h4 k hk oO⟩⟩
   ·cases h
  split at h
  ·rename_i a h2
   split at h
   ·rename_i cs hc
    simp only [aE] at h
    obtain ⟨h3,h4⟩:=DJ h.2
    obtain ⟨x,hx,hc⟩:=Option.bind_eq_some_iff.1 hc
    rw [y8 hc,<- aM h.1] at hx
    rw [y8 h2]
    exact .inr ⟨rfl,cs.1,hx,oO,h4⟩
   ·cases h
  ·simp only [aE] at h
   have ho:o=.dfr:=by
    have:=h.1
    unfold PZ at this
    split at this
    ·rfl
    ·cases this
   have h2:=h.2
   split at h2
   ·rename_i y hy
    have c:y=.dfr:=by
     unfold PZ at h2
     split at h2
     ·rfl
     ·cases h2
    rw [ho]
    show U[b]?=some .dfr
    rw [hy,c]
   ·cases h2
theorem RH {U:Heap} {n:Nat} {Z:Rho}:∀ {l:Heap} {i:Nat},YK n Z U i l=true->∀ (k:Nat) (o:aC),l[k]?=some o->(Z (i+k)).s=0->xX U n Z (Z (i+k)) o
 |[],_,_,k,o,h,_=>by simp at h
 |a::r,i,h,k,o,hk,hs=>by
  simp only [YK,aE] at h
  cases k with
  |zero =>
   simp at hk
   subst hk
   have h1:=aeW h.1.1
   have e:Z (i+0)=⟨(Z i).b,0,0⟩:=by
    have h2:=aM h.1.2
    rw [cV] at hs ⊢
    cases hp:Z i with
    |mk b o s=>rw [hp] at h2 hs;simp only at h2 hs;rw [h2,hs]
   rw [e];exact h1
  |succ k =>
   have:=RH h.2 k o (oU hk) (by rw [<- hs];congr 2;omega)
   rwa [show i+1+k=i+(k+1) by omega] at this
theorem ahv (n:Nat) (l:List Nat) (i:Nat):(fK n l i).s=0:=by
 unfold fK
 split
 ·rfl
 ·split <;> rfl
theorem abC {n:Nat} {l:List Nat} (hd:dF n l=true) {i j:Nat} (hi:i<n+l.length) (hj:j<n+l.length) (h:(fK n l i).b=(fK n l j).b):i=j:=by
 simp only [dF,aE,dT,decide_eq_true_eq] at hd
 have ge:∀ q,¬ q<n->q<n+l.length->∃ h:q - n<l.length,(fK n l q).b=l[q - n]/\n<=l[q - n]:=by
  intro q hq hq2
  have h:q - n<l.length:=oO
  refine ⟨h,?_,cC (hd.1 _ (cP h))⟩
  simp only [fK]
  rw [if_neg hq,cA h]
 by_cases h1:i<n
 ·rw [gu h1] at h
  by_cases h2:j<n
  ·rw [gu h2] at h;exact h
  ·obtain ⟨_,g1,g2⟩:=ge j h2 hj
   rw [g1] at h
   simp only at h
   omega
 ·obtain ⟨k1,g1,g2⟩:=ge i h1 hi
  rw [g1] at h
  by_cases h2:j<n
  ·rw [gu h2] at h
   simp only at h
   omega
  ·obtain ⟨k2,g3,g4⟩:=ge j h2 hj
   rw [g3] at h
   have:=(List.getElem_inj hd.2).1 h
   omega
theorem abD {n0 n1 N:Nat} {G:Nat->Prop} {w0:World} {ρ0:Rho} {A:Act} {w:World} {Z:Rho} {U σ2:Heap} {e e2:Env} {mk:List Nat} (hh:ZK n1 Z U σ2) (he:abL σ2.length Z e e2) (hn:n0<=n1) (hm:∀ i ∈ mk,i<n1) (hi:Inv n0 N G w0 ρ0 e mk U A w):Inv n0 N G w0 ρ0 e2 mk σ2 A w:=by
 obtain ⟨h0,V,ha,hs,ht,a,hmb⟩:=hi
 exact ⟨eg hn hh.le,comp V Z,fun i hi=>(comp_id (hh.id i oO)).trans (ha i hi),IW hh hs,RY he ht,by rw [a];congr 1;exact eI fun i hi=>by rw [comp_id (hh.id i (hm i hi))],fun i hi=>fe (hm i hi) hh.le⟩
theorem ahw {P:Program} {n0 N:Nat} {rd:Option Nat} {all:List Oper} {j:Nat} {o:Oper} {K:Env->List Nat->Heap->Prop} {e:Env} {mk:List Nat} {U:Heap} {G:Nat->Prop} {w0:World} {ρ0:Rho} {A:Act} {w:World} {Q':Exit->Act->World->Prop} {next:Act->World->Prop}
  (hj:all[j]?=some o) (h:dA P n0 N rd all [o] K e mk U) (hi:Inv n0 N G w0 ρ0 e mk U A w) (hk:∀ e' mk' σ' A' w',K e' mk' σ'->Inv n0 N G w0 ρ0 e' mk' σ' A' w'->next A' w'):wpOpIn (fen ρ0 rd) 0 P all.toArray Q' j next A w:=by
 have h:=h G w0 ρ0 A w hi (fun ex A' w'=>ex=.normal/\next A' w') fun e' mk' σ' A' w' h1 h2=>⟨rfl,hk e' mk' σ' A' w' h1 h2⟩
 simp only [wpL] at h
 unfold wpOpIn
 simp only [bR,hj]
 split at h
 ·rename_i hw
  rw [if_pos hw]
  exact Ae (fun c a w hq=>by cases hq.1) (fun a w hq=>by cases hq.1) (Oper.wpIn_mono (fun a w hq=>hq.2) h)
 ·rename_i hw
  rw [if_neg hw]
  exact ⟨fun f _=>lV ρ0 rd f,h.2⟩
section
variable {P:Program} {T:Tab} {call:jw} {code:qI} {N:Nat} {rd:Option Nat} {all:List Oper}
def xK (σ0:Heap) (s:CSt):Prop:=Keep s.2.1.2.2 σ0 s.2.1.2.1
theorem aeX {n1:Nat} {σ0:Heap} {r t:CSt} (hn:n1=σ0.length) (hcl:∀ (i:Nat) (o:aC),σ0[i]?=some o->fV n1 o) (hr:xK σ0 r) (ht:xK σ0 t) (h:afz n1 r t=true) {e:Env} (ha:Agr e r.2.1.1) :
  ∃ Z,ZK n1 Z r.2.1.2.1 t.2.1.2.1/\abL t.2.1.2.1.length Z e (Ej t.2.1.1):=by
 unfold afz at h
 rw [gq] at h
 generalize acK n1 r.2.2 t.2.2=pl at h
 unfold ag6 at h
 simp only [aE] at h
 obtain ⟨⟨⟨⟨h1,h2⟩,h3⟩,h4⟩,h5⟩:=h
 have h2:=cC h2
 have h3:=aM h3
 have a:n1+pl.length=t.2.1.2.1.length:=oO
 refine ⟨fK n1 pl,⟨h2,fun i hi=>gu hi,fun i o2 hi=>?_,fun i j oi oj hi hj _ _ hb=>?_⟩,fun p hp=>?_⟩
 ·simp only [qh] at h4
  by_cases hlo:i<min n1 (min r.2.1.2.2 t.2.1.2.2)
  ·have g1:=ht.2 i oO oO
   have g2:=hr.2 i oO oO
   rw [g1] at hi
   exact lZ (fun i hi=>gu hi) h2 oO (g2.trans hi) (hcl i o2 hi)
  ·have:=RH h4 (i - min n1 (min r.2.1.2.2 t.2.1.2.2)) o2 (by rw [eJ];rw [show min n1 (min r.2.1.2.2 t.2.1.2.2)+(i - min n1 (min r.2.1.2.2 t.2.1.2.2))=i by omega];exact hi) (ahv _ _ _)
   rwa [show min n1 (min r.2.1.2.2 t.2.1.2.2)+(i - min n1 (min r.2.1.2.2 t.2.1.2.2))=i by omega] at this
 ·exact abC h1 (by rw [a];exact aS hi) (by rw [a];exact aS hj) hb
 ·have:=List.all_eq_true.1 h5 p hp
  split at this
  ·rename_i u hu
   exact ⟨u,ha _ _ hu,Yf this⟩
  ·cases this
theorem O8 (hT:iG P T) (hc:iR P call) (hcode:nT P code) {s r:CSt} {j:Nat} {o:Oper} (h:TA T call code N rd all s j o=some r):r.1=s.1.set j true/\Yb P N rd all o s.2.1.1 s.2.1.2.1 (r.2.1.1,r.2.1.2.1,r.2.1.2.2)/\∀ σ0,xK σ0 s->xK σ0 r:=by
 simp only [TA,aL,gq] at h
 obtain ⟨b,h1,q,h2,h3⟩:=h
 cases h3
 have g:=Nh (all:=all) hT hc hcode (fun e ha=>OZ ha h1) h2
 have hk:Keep (minN s.2.1.2.2 q.2.2) s.2.1.2.1 q.2.1:=by rw [qh];exact g.2.mono oO
 refine ⟨rfl,⟨g.1,hk⟩,fun σ0 h0=>?_⟩
 show Keep (minN s.2.1.2.2 q.2.2) σ0 q.2.1
 rw [qh]
 exact h0.trans g.2
def ZE (T:Tab) (call:jw) (code:qI) (N:Nat) (rd:Option Nat) (all:List Oper) (n1:Nat) (s:CSt) (j:Nat) (o:Oper) (acc:List CSt):Prop :=
 ∃ r,TA T call code N rd all s j o=some r/\∃ t ∈ acc,t.1=r.1/\(t=r\/afz n1 r t=true)
theorem ZE.mono {n1:Nat} {s:CSt} {j:Nat} {o:Oper} {acc acc':List CSt} (h:ZE T call code N rd all n1 s j o acc) (hs:∀ t ∈ acc,t ∈ acc'):ZE T call code N rd all n1 s j o acc':=by
 obtain ⟨r,h1,t,h2,h3⟩:=h
 exact ⟨r,h1,t,hs t h2,h3⟩
theorem aeY (hT:iG P T) (hc:iR P call) (hcode:nT P code) {n1:Nat} {s:CSt} {acc acc':List CSt} {j:Nat} {o:Oper} (h:addX T call code N rd all n1 s acc j o=some acc') :
  (∀ t ∈ acc,t ∈ acc')/\(CY s.1 j o=true->ZE T call code N rd all n1 s j o acc')/\∀ Φ:CSt->Prop,(∀ s r j o,TA T call code N rd all s j o=some r->Φ s->Φ r)->Φ s->(∀ t ∈ acc,Φ t)->∀ t ∈ acc',Φ t:=by
 unfold addX at h
 cases hr:CY s.1 j o with
 |false=>rw [hr] at h;cases h;exact ⟨fun _ h=>h,fun h=>(by cases h),fun _ _ _ h=>h⟩
 |true =>
  rw [hr] at h
  simp only [cond_true,aO,aL] at h
  obtain ⟨_,r,h1,h2⟩:=h
  split at h2
  ·rename_i t ht
   obtain ⟨h3,h4⟩:=aO.1 h2
   cases h4
   obtain ⟨g1,g2⟩:=Jm ht
   exact ⟨fun _ h=>h,fun _=>⟨r,h1,t,g1,g2,.inr h3⟩,fun _ _ _ h=>h⟩
  ·cases h2
   refine ⟨fun t ht=>fI _ ht,fun _=>⟨r,h1,r,by simp,rfl,.inl rfl⟩,fun Φ hΦ hs ha t ht=>?_⟩
   rcases List.mem_append.1 ht with ht|ht
   ·exact ha t ht
   ·simp only [fj] at ht
    subst ht
    exact hΦ _ _ _ _ h1 hs
theorem Yg (hT:iG P T) (hc:iR P call) (hcode:nT P code) {n1:Nat} {s:CSt}:∀ {l:List Oper} {j:Nat} {acc acc':List CSt},afA T call code N rd all n1 s l j acc=some acc' ->
  (∀ t ∈ acc,t ∈ acc')/\(∀ (k:Nat) (o:Oper),l[k]?=some o->CY s.1 (j+k) o=true->ZE T call code N rd all n1 s (j+k) o acc')/\∀ Φ:CSt->Prop,(∀ s r j o,TA T call code N rd all s j o=some r->Φ s->Φ r)->Φ s->(∀ t ∈ acc,Φ t)->∀ t ∈ acc',Φ t
 |[],_,_,_,h=>by cases h;exact ⟨fun _ h=>h,fun k o h=>(by simp at h),fun _ _ _ h=>h⟩
 |a::r,j,acc,acc',h=>by
  simp only [afA,aL] at h
  obtain ⟨acc1,h1,h2⟩:=h
  obtain ⟨g1,g2,g3⟩:=aeY hT hc hcode h1
  obtain ⟨k1,k2,k3⟩:=Yg hT hc hcode h2
  refine ⟨fun t ht=>k1 t (g1 t ht),fun k o hk hr=>?_,fun Φ hΦ hs ha=>k3 Φ hΦ hs (g3 Φ hΦ hs ha)⟩
  cases k with
  |zero =>
   simp at hk
   subst hk
   exact (g2 hr).mono k1
  |succ k =>
   have:=k2 k o (oU hk) (by rwa [show j+1+k=j+(k+1) by omega])
   rwa [show j+1+k=j+(k+1) by omega] at this
theorem Jo (hT:iG P T) (hc:iR P call) (hcode:nT P code) {n1:Nat}:∀ {Ls acc acc':List CSt},YL T call code N rd all n1 Ls acc=some acc' ->
  (∀ t ∈ acc,t ∈ acc')/\(∀ s ∈ Ls,∀ (k:Nat) (o:Oper),all[k]?=some o->CY s.1 k o=true->ZE T call code N rd all n1 s k o acc')/\∀ Φ:CSt->Prop,(∀ s r j o,TA T call code N rd all s j o=some r->Φ s->Φ r)->(∀ s ∈ Ls,Φ s)->(∀ t ∈ acc,Φ t)->∀ t ∈ acc',Φ t
 |[],_,_,h=>by cases h;exact ⟨fun _ h=>h,fun s h=>(by simp at h),fun _ _ _ h=>h⟩
 |s::Ls,acc,acc',h=>by
  simp only [YL,aL] at h
  obtain ⟨acc1,h1,h2⟩:=h
  obtain ⟨g1,g2,g3⟩:=Yg hT hc hcode h1
  obtain ⟨k1,k2,k3⟩:=Jo hT hc hcode h2
  refine ⟨fun t ht=>k1 t (g1 t ht),fun s' a k o hk hr=>?_,fun Φ hΦ hs ha=>k3 Φ hΦ (fun s' h=>hs s' (dm _ h)) (g3 Φ hΦ (hs s (fu ..)) ha)⟩
  rcases List.mem_cons.1 a with rfl|a
  ·have:=g2 k o hk (by rw [aR];exact hr)
   rw [aR] at this
   exact this.mono k1
  ·exact k2 s' a k o hk hr
theorem Nk (hT:iG P T) (hc:iR P call) (hcode:nT P code) (σ0:Heap) (s r:CSt) (j:Nat) (o:Oper) (h:TA T call code N rd all s j o=some r) (hs:xK σ0 s):xK σ0 r:=(O8 (P:=P) hT hc hcode h).2.2 σ0 hs
theorem BN (hT:iG P T) (hc:iR P call) (hcode:nT P code) {n1:Nat} {σ0:Heap}:∀ {k:Nat} {Ls:List CSt} {f:CSt},oG T call code N rd all n1 k Ls=some f->(∀ s ∈ Ls,xK σ0 s)->xK σ0 f
 |0,Ls,f,h,hs=>by
  simp only [oG] at h
  split at h
  ·obtain ⟨_,h2⟩:=aO.1 h
   cases h2
   exact hs _ oS
  ·cases h
 |k+1,Ls,f,h,hs=>by
  simp only [oG,aO,aL] at h
  obtain ⟨_,Ls',h1,h2⟩:=h
  exact BN hT hc hcode h2 ((Jo hT hc hcode h1).2.2 (xK σ0) (Nk hT hc hcode σ0) hs (fun t h=>by simp at h))
theorem RI (hT:iG P T) (hc:iR P call) (hcode:nT P code) {n0 n1:Nat} {σ0:Heap} {G:Nat->Prop} {w0:World} {ρ0:Rho} {mk:List Nat} (hrd:lJ rd n0=true) (he:Ep all 0=true) (hn1:n1=σ0.length) (hn:n0<=n1) (hcl:∀ (i:Nat) (o:aC),σ0[i]?=some o->fV n1 o) (hmb:∀ i ∈ mk,i<n1) {f:CSt} :
  ∀ (fuel:Nat) {k:Nat} {Ls:List CSt},oG T call code N rd all n1 k Ls=some f->(∀ s ∈ Ls,xK σ0 s/\s.1.length=all.length)->∀ s ∈ Ls,∀ (listed:Array Bool) (e:Env) (A:Act) (w:World),listed.size=all.length->(∀ i,listed.getD i false=s.1.getD i false)->cnt all.length listed<=fuel->Agr e s.2.1.1->Inv n0 N G w0 ρ0 e mk s.2.1.2.1 A w ->
   wpAnyIn (fen ρ0 rd) 0 P .any all.toArray (fun ex A' w'=>ex=.normal/\∃ e',Agr e' f.2.1.1/\Inv n0 N G w0 ρ0 e' mk f.2.1.2.1 A' w') fuel listed A w:=by
 have wt:∀ {o:Oper} {e:Edge},e ∈ o.after->Region.binds .any e=true->waits o e.on=true:=fun {o e} he hb=>by
  unfold waits bV
  rw [Array.any_eq_true']
  exact ⟨e,he,by simp [hb]⟩
 have Uq:∀ j o,all[j]?=some o->∀ i,waits o i=true->i<j:=fun j o ho i hw=>by have:=Nj he j o ho i hw;omega
 have full:∀ (listed:Array Bool),listed.size=all.length->Region.ready .any all.toArray listed=[]->∀ i,i<all.length->listed.getD i false=true:=by
  intro listed hs hr i
  induction i using Nat.strongRecOn with
  |_ i ih =>
   intro hi
   by_cases hl:listed.getD i true=true
   ·rw [getD_lt (d':=true) oO];exact hl
   ·exfalso
    have:i ∈ Region.ready .any all.toArray listed:=mem_ready.2 ⟨by simpa using hl,all[i],by rw [bR];exact cA hi,fun e he hb=>by
     have h1:=Uq i all[i] (cA hi) e.on (wt he hb)
     exact ih e.on h1 oO⟩
    rw [hr] at this;cases this
 have J:∀ {k:Nat} {Ls:List CSt},oG T call code N rd all n1 k Ls=some f->∀ s ∈ Ls,s.1.all id=true->s=f:=by
  intro k Ls h s hs hf
  cases k with
  |zero =>
   simp only [oG] at h
   split at h
   ·obtain ⟨_,h2⟩:=aO.1 h
    cases h2
    simpa using hs
   ·cases h
  |succ k =>
   simp only [oG,aO] at h
   have:=List.all_eq_true.1 h.1 s hs
   rw [hf] at this;cases this
 have p:∀ {listed:Array Bool} {m:List Bool},listed.size=all.length->m.length=all.length->(∀ i,listed.getD i false=m.getD i false)->(∀ i,i<all.length->listed.getD i false=true)->m.all id=true:=by
  intro listed m hs hm hl d
  rw [dT]
  intro b hb
  obtain ⟨i,hi,rfl⟩:=ew hb
  have:=hl i
  rw [d i oO,cE,cA hi] at this
  exact this.symm
 intro fuel
 induction fuel with
 |zero =>
  intro k Ls c a s hs listed e A w g hl W ha hi
  have d:∀ i<all.length,listed.getD i false=true:=by
   intro i hi
   rw [getD_lt (d':=true) oO]
   apply Classical.byContradiction
   intro hn
   have:=qW (n:=all.length) hi g (oU hn)
   omega
  have D:=J c s hs (p g (a s hs).2 hl d)
  subst D
  refine ⟨?_,rfl,e,ha,hi⟩
  rw [List.eq_nil_iff_forall_not_mem]
  intro i hi
  obtain ⟨h1,o,ho,_⟩:=mem_ready.1 hi
  rw [bR] at ho
  have C:=(List.getElem?_eq_some_iff.1 ho).1
  have:=d i C
  rw [getD_lt (d':=true) oO,h1] at this
  cases this
 |succ fuel ih =>
  intro k Ls c a s hs listed e A w g hl W ha hi
  refine ⟨fun hr=>?_,fun i R=>?_⟩
  ·have D:=J c s hs (p g (a s hs).2 hl (full listed g hr))
   subst D
   exact ⟨rfl,e,ha,hi⟩
  ·obtain ⟨h1,o,ho,hw⟩:=mem_ready.1 R
   rw [bR] at ho
   have C:=(List.getElem?_eq_some_iff.1 ho).1
   have v:s.1.getD i true=false:=by
    have E:=(a s hs).2
    have e1:=hl i
    rw [getD_lt (d':=true) oO,h1,cE,cA oO] at e1
    rw [cE,cA oO]
    exact e1.symm
   have l:CY s.1 i o=true:=by
    unfold CY
    rw [v]
    simp only [Bool.not_false,Bool.true_and,dT]
    intro x hx
    cases hb:Region.binds .any x with
    |false=>rfl
    |true=>rw [<- hl x.on,hw x (oU hx) hb];rfl
   cases k with
   |zero =>
    simp only [oG] at c
    split at c
    ·obtain ⟨h3,h4⟩:=aO.1 c
     cases h4
     simp only [fj] at hs
     subst hs
     have:=List.all_eq_true.1 h3 (s.1[i]'(by have:=(a s oS).2;omega)) (cP _)
     rw [cE,cA (by have:=(a s oS).2;omega)] at v
     simp only [Option.getD_some] at v
     rw [v] at this;cases this
    ·cases c
   |succ k =>
    simp only [oG,aO,aL] at c
    obtain ⟨_,K,O,u⟩:=c
    obtain ⟨_,n2,n3⟩:=Jo hT hc hcode O
    obtain ⟨r,Vv,t,B,X,Q⟩:=n2 s hs i o ho l
    obtain ⟨r1,r2,r3⟩:=O8 hT hc hcode Vv
    have z:∀ t ∈ K,xK σ0 t:=n3 (xK σ0) (Nk hT hc hcode σ0) (fun s' h=>(a s' h).1) (fun t h=>by simp at h)
    have M:∀ t ∈ K,t.1.length=all.length:=n3 (fun s=>s.1.length=all.length) (fun s r j o h hs=>by rw [(O8 (P:=P) hT hc hcode h).1,dk];exact hs) (fun s' h=>(a s' h).2) (fun t h=>by simp at h)
    refine ahw ho (r2.1 n0 e mk [] (fun e' L σ'=>Agr e' r.2.1.1/\L=mk/\σ'=r.2.1.2.1) hrd ha fun e' a'=>kU ⟨a',rfl,rfl⟩) hi ?_
    rintro e' L σ' A' w' ⟨a',rfl,rfl⟩ H
    have F:∀ q,(listed.setIfInBounds i true).getD q false=t.1.getD q false:=fun q=>by
     rw [iD oO,X,r1]
     have E:=(a s hs).2
     by_cases y:q=i
     ·subst y
      rw [if_pos rfl,cE,List.getElem?_set_self oO];rfl
     ·rw [if_neg y,cE,eE (Ne.symm y),<- cE]
      exact hl q
    have I:cnt all.length (listed.setIfInBounds i true)<=fuel:=by have:=qW (n:=all.length) C g h1;omega
    rcases Q with rfl|S
    ·exact ih u (fun s' h=>⟨z s' h,M s' h⟩) _ B _ e' A' w' (oU g) F I a' H
    ·obtain ⟨Z,g1,g2⟩:=aeX hn1 hcl (r3 σ0 (a s hs).1) (z t B) S a'
     exact ih u (fun s' h=>⟨z s' h,M s' h⟩) t B _ (Ej t.2.1.1) A' w' (oU g) F I xJ (abD g1 g2 hn hmb H)
theorem aeZ (hT:iG P T) (hc:iR P call) (hcode:nT P code) (hmix:P.follows .mixedOrders=true) {id:Nat} {tr:PT} {mk:List Nat} {U:Heap} {r:Exit×PT×List Nat×Heap×Nat} (h:afB all T call code N rd tr mk U=some r) :
  (∀ (n0:Nat) (e:Env) (Q:Post),lJ rd n0=true->Agr e tr->(∀ e',Agr e' r.2.1->Q r.1 e' r.2.2.1 r.2.2.2.1)->bJ P n0 N rd (.region id all.toArray true) Q e mk U)/\Keep r.2.2.2.2 U r.2.2.2.1:=by
 simp only [afB,aO,aL] at h
 obtain ⟨he,s,h1,h2⟩:=h
 cases h2
 have c:∀ t ∈ [((List.replicate all.length false,(tr,U,U.length),[]):CSt)],xK U t:=fun t ht=>by
  simp only [fj] at ht
  subst ht;exact Keep.refl
 refine ⟨fun n0 e Q f ha hQ=>?_,BN hT hc hcode h1 c⟩
 intro G w0 ρ0 A w hi
 refine wpIn_region_any hmix ?_
 have a:∀ (m i:Nat),(Array.replicate m false).getD i false=false:=fun m i=>by
  simp only [eN,eZ];split <;> rfl
 have g:Inv n0 N G w0 ρ0 e mk U A { w with drawn:=w.drawn+1 }:=by
  obtain ⟨g0,V,g1,g2,g3⟩:=hi
  exact ⟨g0,V,g1,qF g2 rfl rfl rfl rfl,g3⟩
 obtain ⟨g0,V,g1,g2,g3⟩:=hi
 refine ru (fun ex A' w' hq=>?_) _ _ _ _ (RI hT hc hcode f he rfl g0 (fun i o ho=>jg (g2.obj i o ho)) g3.mkb all.toArray.size h1 (fun t ht=>⟨c t ht,by simp only [fj] at ht;subst ht;exact ft ..⟩) (List.replicate all.length false,(tr,U,U.length),[]) (List.mem_singleton.2 rfl) _ e A _ oS (fun i=>?_) ?_ ha g)
 ·obtain ⟨rfl,e',a',d⟩:=hq
  exact ⟨e',mk,_,hQ e' a',d⟩
 ·rw [a,cE,List.getElem?_replicate];split <;> rfl
 ·unfold cnt
  exact eg List.countP_le_length oS
end
section
variable {P:Program} {T:Tab} {call:jw} {code:qI} {N:Nat} {rd:Option Nat} {tr:PT} {mk:List Nat} {U:Heap} {all:List Oper}
theorem ahx (hT:iG P T) (hc:iR P call) (hcode:nT P code) (hmix:P.follows .mixedOrders=true) {id:Nat} {ops:Array Oper} {d:Bool} {r:Exit×PT×List Nat×Heap×Nat} (h:regC ops.toList d T call code N rd tr mk U=some r) :
  (∀ (n0:Nat) (e:Env) (Q:Post),lJ rd n0=true->Agr e tr->(∀ e',Agr e' r.2.1->Q r.1 e' r.2.2.1 r.2.2.2.1)->bJ P n0 N rd (.region id ops d) Q e mk U)/\Keep r.2.2.2.2 U r.2.2.2.1:=by
 obtain ⟨l⟩:=ops
 cases d with
 |false =>
  obtain ⟨q,h1,rfl⟩:=Yd (show acE mk (CX T call code N rd l l tr U)=some r from h)
  obtain ⟨g1,g2⟩:=E8 hT hc hcode h1
  exact ⟨fun n0 e Q a ha hQ=>aG (g1 n0 e mk _ a ha hQ),g2⟩
 |true =>
  have h:(match aah l T call code N rd tr mk U with|some r=>some r|none=>match ag7 l rd T call code N rd tr mk U with|some r=>some r|none=>match afu l T call code N rd tr mk U with|some r=>some r|none=>afB l T call code N rd tr mk U)=some r:=h
  split at h
  ·rename_i r' hr
   cases h
   obtain ⟨f,h1,h2,g1,g2⟩:=O7 hT hc hcode hr
   exact ⟨fun n0 e Q a ha hQ=>eY hmix a (uV (all:=l) hT hc oS h1 ha fun e1 a1=>⟨h2,g1 n0 e1 Q a a1 hQ⟩),g2⟩
  ·split at h
   ·rename_i r' hr
    cases h
    have h:=hr
    clear hr
    cases rd with
    |some q =>
     have h:regP (Bv l) l T call code N (some q) tr mk U=some r:=h
     simp only [regP,aO] at h
     obtain ⟨hp,h⟩:=h
     obtain ⟨f,h1,h2,g1,g2⟩:=O7 hT hc hcode h
     exact ⟨fun n0 e Q a ha hQ=>Z7 (Bv l) hmix a hp (uV (all:=kD (Bv l) l) hT hc oS h1 ha fun e1 a1=>⟨h2,g1 n0 e1 Q a a1 hQ⟩),g2⟩
    |none =>
     have h:regG (PW l) (Bv (kF (PW l) l)) l T call code N none tr mk U=some r:=h
     simp only [regG,aO,aE] at h
     obtain ⟨⟨hf,hp⟩,h⟩:=h
     obtain ⟨f,h1,h2,g1,g2⟩:=O7 hT hc hcode h
     exact ⟨fun n0 e Q a ha hQ=>Z8 _ _ hmix hf hp (uV hT hc oS h1 ha fun e1 a1=>⟨h2,g1 n0 e1 Q a a1 hQ⟩),g2⟩
   ·split at h
    ·rename_i r' hr;cases h;exact aeU hT hc hmix hr
    ·exact aeZ hT hc hcode hmix h
theorem ae0 {n0:Nat} {pend:Option Code} {ex:Exit} {Q:Post} {e:Env} (h:acL pend=some ex) (hq:Q ex e mk U):(pend=none->Q .normal e mk U)/\∀ c,pend=some c->bJ P n0 N none c Q e mk U:=by
 unfold acL at h
 split at h
 ·cases h;exact ⟨fun _=>hq,fun c hc=>(by cases hc)⟩
 ·cases h;exact ⟨fun h=>(by cases h),fun c hc=>(by cases hc;exact DL hq)⟩
 ·cases h;exact ⟨fun h=>(by cases h),fun c hc=>(by cases hc;exact yN hq)⟩
 ·cases h
theorem agH {n0:Nat} {c:Code} {Q:Post} {e e2:Env} (h:∀ t v,Env.get e2 t=some v->Env.get e t=some v) (k:bJ P n0 N rd c Q e2 mk U):bJ P n0 N rd c Q e mk U:=by
 rintro G w0 ρ0 A w ⟨h0,V,a,hs,he⟩
 exact k G w0 ρ0 A w ⟨h0,V,a,hs,⟨he.tmps.1,fun t v hv=>he.tmps.2 t v (h t v hv)⟩,he.mks,he.mkb⟩
theorem abE (hT:iG P T) (hc:iR P call) {g:Operand} {ps:Array Tmp} {assign body:Code} {r:Exit×PT×List Nat×Heap×Nat} (h:Wx g ps assign body T call code N rd tr mk U=some r) :
  (∀ (n0:Nat) (e:Env) (Q:Post),lJ rd n0=true->Agr e tr->(∀ e',Agr e' r.2.1->Q r.1 e' r.2.2.1 r.2.2.2.1)->bJ P n0 N rd (.rangeFunc g ps assign body) Q e mk U)/\Keep r.2.2.2.2 U r.2.2.2.1:=by
 unfold Wx at h
 split at h
 ·simp only [aL,acM,aO] at h
  obtain ⟨f,⟨w,h1,h2⟩,h3,q,h4,ob,h5,h6⟩:=h
  obtain ⟨z,hz⟩:=Option.isSome_iff_exists.1 h3
  haveI:GoFn P f.1:=⟨(hT.fn _ _ hz).1⟩
  obtain ⟨h7,h8⟩:=hc _ _ _ _ h4
  unfold endR at h6
  split at h6
  ·rename_i st a N2 e2 k as2 j
   simp only [aO,aL] at h6
   obtain ⟨h9,ex,l,d⟩:=h6
   cases d
   refine ⟨fun n0 e Q hrd ha hQ=>?_,?_⟩
   ·refine agH (fun t v hv=>yX (O1 ha) _ (yR hv)) ?_
    refine G7 (p:=f.2.1) (q:=f.2.2) (by rw [ug (xJ) h1,Es h2]) (h7.mono ?_)
    rintro v s ⟨rfl,rfl⟩
    have hp:=ae0 (P:=P) (N:=N) (n0:=n0) (Q:=Q) l (hQ _ xJ)
    refine ⟨st,a,N2,e2,k,as2,j,h5,(fun hb=>by subst hb;cases h9),?_⟩
    cases a with
    |none=>exact hp.1 rfl
    |some c=>exact hp.2 c rfl
   ·simp only [qh]
    have q1:Keep U.length U (U++[.dfr,.loop .ready none N (Ej tr) ps assign body]):=Keep.app
    exact ((q1.trans h8).trans (Keep.set (i:=U.length+1))).mono (by simp only [Nat.le_min];omega)
  ·cases h6
 ·cases h
theorem Vw (hT:iG P T) (hc:iR P call) (hcode:nT P code) (hl:O6 P code) (hmix:P.follows .mixedOrders=true) {c:Code} {r:Exit×PT×List Nat×Heap×Nat} (h:P5 c T call code N rd tr mk U=some r) :
  (∀ (n0:Nat) (e:Env) (Q:Post),lJ rd n0=true->Agr e tr->(∀ e',Agr e' r.2.1->Q r.1 e' r.2.2.1 r.2.2.2.1)->bJ P n0 N rd c Q e mk U)/\Keep r.2.2.2.2 U r.2.2.2.1:=by
 unfold P5 at h
 split at h
 ·cases h;exact ⟨fun n0 e Q _ ha hQ=>xE (hQ e ha),Keep.refl⟩
 ·cases h;exact ⟨fun n0 e Q _ ha hQ=>D7 (hQ e ha),Keep.refl⟩
 ·simp only [acA,aL,aO] at h
  obtain ⟨⟨f,t1,j,σ1,i⟩,h1,h0,h2⟩:=h
  cases h2
  obtain ⟨g1,g2⟩:=hcode _ _ _ _ _ _ _ h1
  refine ⟨fun n0 e Q d ha hQ=>D8 (g1 n0 e _ d ha fun e1 a1=>?_),g2⟩
  have:=hQ e1 a1
  cases f with
  |goto l=>exact absurd h0 (by simp [YF])
  |_=>exact this
 ·cases h;exact ⟨fun n0 e Q _ ha hQ=>yN (hQ e ha),Keep.refl⟩
 ·cases h;exact ⟨fun n0 e Q _ ha hQ=>DL (hQ e ha),Keep.refl⟩
 ·exact seq_ok hcode h
 ·rename_i id b
  simp only [acC,aL] at h
  obtain ⟨⟨f,t1,j,σ1,i⟩,h1,h2⟩:=h
  cases h2
  obtain ⟨g1,g2⟩:=hcode _ _ _ _ _ _ _ h1
  refine ⟨fun n0 e Q d ha hQ=>qg (g1 n0 e _ d ha fun e1 a1=>?_),g2⟩
  have:=hQ e1 a1
  simp only [acB] at this
  cases f with
  |exit id' =>
   simp only at this
   by_cases g:id'=id
   ·subst g
    rw [Nat.beq_refl] at this
    exact CJ (Nat.beq_refl _) this
   ·rw [jA g] at this
    exact DT (jA g) this
  |_=>exact this
 ·rename_i x a b
  simp only [condC,aL] at h
  obtain ⟨t,⟨w,h1,h2⟩,h3⟩:=h
  obtain ⟨g1,g2⟩:=hcode _ _ _ _ _ _ _ h3
  refine ⟨fun n0 e Q d ha hQ=>?_,g2⟩
  have hx:=ug ha h1
  rw [rX h2] at hx
  cases t with
  |true=>exact oV hx rfl (g1 n0 e Q d ha hQ)
  |false=>exact lg hx rfl (g1 n0 e Q d ha hQ)
 ·obtain ⟨⟨m,hm⟩,g2⟩:=RG hcode hl h
  exact ⟨fun n0 e Q d ha hQ=>aeV hm d ha hQ,g2⟩
 ·exact ahx hT hc hcode hmix h
 ·exact abE hT hc h
 ·cases h
theorem Vx (hT:iG P T) {orc:jw} (ho:iR P orc) (hcode:nT P code):iR P (P7 T orc code):=by
 intro f c U r h
 unfold P7 at h
 split at h
 ·rename_i r' e
  cases h
  exact ho _ _ _ _ e
 ·simp only [aL,YN,aO] at h
  obtain ⟨x,h1,h2,r1,h3,h4⟩:=h
  obtain ⟨ex,t1,a,σ1,lo⟩:=r1
  obtain ⟨hf,fn,f1,f2,f3,f4⟩:=hT.fn _ _ h1
  obtain ⟨g1,g2⟩:=hcode _ _ _ _ _ _ _ h3
  simp only [retC,aO,gq,aL,aE] at h4
  obtain ⟨⟨h5,h6⟩,vs,h7,h8⟩:=h4
  obtain ⟨m1,m2⟩:=aeS h6
  have hk:Keep (minN lo (minL lo a)) U (kE a σ1):=by
   simp only [qh]
   exact Keep.trans g2 (Na a lo σ1)
  obtain ⟨r1,r2⟩:=aeR hk h8
  refine ⟨?_,r2⟩
  obtain ⟨e0,a1,a2⟩:=X8 (vs:=c) (k:=0) (Agr.full [] 9) (fun t v h=>by cases h)
  refine aH U.length x.1 f1 f4 f3 f2 rfl h2 ?_
  refine agH (e2:=e0) (fun t v hv=>(a2 t v hv).elim id fun h=>oO) (g1 U.length e0 _ rfl a1 fun e' a'=>?_)
  ·have d:a.Nodup/\(∀ i ∈ a,σ1[i]?=some .dfr)/\∃ vs v2 σ2,tC P e' (kE a σ1) x.2.1 vs/\aW U (kE a σ1) (jH vs) v2 σ2/\(v2=r.1/\σ2=r.2.1) :=
    ⟨m1,m2,vs,r.1,r.2.1,IJ hT a' h7,r1,rfl,rfl⟩
   unfold aha at h5
   split at h5
   ·exact d
   ·exact d
   ·cases h5
theorem agI (hT:iG P T) {orc:jw} (ho:iR P orc) (hmix:P.follows .mixedOrders=true):∀ n:Nat,iR P (rn T orc n).1/\nT P (rn T orc n).2/\O6 P (rn T orc n).2
 |0=>⟨fun _ _ _ _ h=>(by cases h),fun _ _ _ _ _ _ _ h=>(by cases h),fun _ _ _ _ _ _ _ h=>(by cases h)⟩
 |n+1=>by
  obtain ⟨h1,h2,h3⟩:=agI hT ho hmix n
  exact ⟨Vx hT ho h2,fun c N rd tr mk U r h=>Vw hT h1 h2 h3 hmix h,fun b N rd tr mk U r h=>(RG (T:=T) (call:=(rn T orc n).1) h2 h3 h).1⟩
theorem lT (hT:iG P T) {orc:jw} (ho:iR P orc) (hmix:P.follows .mixedOrders=true) {n f:Nat} {args:List Value} {v:Value} {σ':Heap} {lo:Nat} (h:(rn T orc n).1 f args U=some (v,σ',lo)):Ev P f args U v σ' :=
 ((agI hT ho hmix n).1 f args U _ h).1
end
structure Known where
 f:Nat
 args:List Value
 css:List (List Value)
 v:Value
 news:Heap
def RJ:List Value->List Nat
 |[]=>[]
 |v::l=>match rC v with
  |some p=>bif Nat.beq p.2.2.1 0 then RJ l else p.1::RJ l
  |none=>RJ l
def xM:aC->Option (List Value)
 |.ro cs=>some cs
 |.rw cs=>some cs
 |.gr cs _=>some cs
 |_=>none
def Nl (U:Heap):List (List Value)->List Nat->Bool
 |[],l=>l.isEmpty
 |c::cs,l=>match l with
  |[]=>false
  |b::bs=>(match (U[b]?).bind xM with|some x=>Ah c x|none=>false) && Nl U cs bs
def RN (k:Known) (args:List Value) (U:Heap) (bs:List Nat):Res :=
 bT (Nl U k.css bs && G8 k.css.length (bsR bs) k.args args && Nat.beq k.args.length args.length && U.all (fun o=>!aU o))
  (some (ren (shf k.css.length U.length (bsR bs)) k.v,U++k.news.map (CS (shf k.css.length U.length (bsR bs))),U.length))
def Jp:List Known->jw
 |[]=>fun _ _ _=>none
 |k::ks=>fun f args U=>bif Nat.beq k.f f then (match RN k args U (RJ args) with|some r=>some r|none=>Jp ks f args U) else Jp ks f args U
def jF (P:Program) (k:Known):Prop:=Ev P k.f k.args (k.css.map .ro) k.v (k.css.map .ro++k.news)/\k.css.all dN=true/\k.news.all DZ=true
theorem Yh {U:Heap}:∀ {cs:List (List Value)} {bs:List Nat},Nl U cs bs=true->JI U cs bs
 |[],bs,h=>by
  simp only [Nl,List.isEmpty_iff] at h
  subst h;trivial
 |c::cs,[],h=>by simp [Nl] at h
 |c::cs,b::bs,h=>by
  simp only [Nl,aE] at h
  obtain ⟨h1,h2⟩:=h
  refine ⟨?_,Yh h2⟩
  split at h1
  ·rename_i x hx
   have:=pq h1
   subst this
   obtain ⟨o,h3,h4⟩:=Option.bind_eq_some_iff.1 hx
   unfold xM at h4
   split at h4
   ·cases h4;exact .inl h3
   ·cases h4;exact .inr (.inl h3)
   ·cases h4;exact .inr (.inr ⟨_,h3⟩)
   ·cases h4
  ·cases h1
theorem agJ {n:Nat} {Z:Rho}:∀ {a b:List Value},a.length=b.length->(∀ (i:Nat) (h:i<a.length) (h':i<b.length),jS n Z a[i] b[i])->AS n Z a b
 |[],[],_,_=>trivial
 |x::a,[],h,_=>by simp at h
 |[],y::b,h,_=>by simp at h
 |x::a,y::b,h,hi=>⟨hi 0 oS oS,agJ (oU h) fun i h1 h2=>hi (i+1) (oU h1) (oU h2)⟩
theorem Np {P:Program}:∀ {ks:List Known},(∀ k ∈ ks,jF P k)->iR P (Jp ks)
 |[],_=>fun f a U r h=>by cases h
 |k::ks,hk=>fun f a U r h=>by
  have ih:=Np (P:=P) (ks:=ks) fun k' h'=>hk k' (dm _ h')
  simp only [Jp] at h
  cases hf:Nat.beq k.f f with
  |false=>rw [hf] at h;exact ih _ _ _ _ h
  |true =>
   rw [hf] at h
   simp only [cond_true] at h
   split at h
   ·rename_i r' c
    cases h
    simp only [RN,aO,aE] at c
    obtain ⟨⟨⟨⟨h1,h2⟩,h3⟩,h4⟩,h5⟩:=c
    cases h5
    obtain ⟨k1,k2,k3⟩:=hk k oS
    have d:=aM hf
    subst d
    exact ⟨Ev.arrsN k.css (RJ a) k1 (Yh h1) (agJ (aM h3) (zO h2).2) k2 k3 rfl rfl h4,Keep.app⟩
   ·exact ih _ _ _ _ h
def abG (a b:jw):jw:=fun f args U=>match a f args U with|some r=>some r|none=>b f args U
theorem abH {P:Program} {a b:jw} (ha:iR P a) (hb:iR P b):iR P (abG a b):=fun f args U r h=>by
 unfold abG at h
 split at h
 ·rename_i r' c;cases h;exact ha _ _ _ _ c
 ·exact hb _ _ _ _ h
end Go.AH
