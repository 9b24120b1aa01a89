/- Lemmas. No conditions. -/
import Derived.Test.YtajpgeklmcjciaaGreatPyQ2
import Derived.RangeFuncNested
set_option maxRecDepth 100000
set_option maxHeartbeats 8000000
open Go.Proofs.Tryz
open Go Go.AH
namespace Go.AH
theorem adv {P:Program} {F:Fence} (hF:∀ f,F.fn f) {all:List Oper} {Q':Exit->Act->World->Prop} {St:(Nat->Bool)->Act->World->Prop}
  (hst:∀ j o,all[j]?=some o->o.guard=none/\(∀ c,o.op ≠ .defer c)/\∀ i,waits o i=true->i<j)
  (step:∀ L A w j o,all[j]?=some o->L j=false->(∀ k,waits o k=true->L k=true)->St L A w ->
   ∃ v' w',((execOp A.eval o).run P w=.ok (.value v') w'\/((execOp A.eval o).run P w=.ok .skip w'/\v'=undef))/\St (jW L j) (A.put o.dst v') w')
  (fin:∀ L A w,(∀ j<all.length,L j=true)->St L A w->Q' .normal A w) :
  ∀ (fuel:Nat) (listed:Array Bool) (A:Act) (w:World),listed.size=all.length->cnt all.length listed<=fuel->St (fun i=>listed.getD i false) A w->wpAnyIn F 0 P .any all.toArray Q' fuel listed A w:=by
 have wt:∀ {o:Oper} {e:Edge},e ∈ o.after->Region.binds .any e=true->waits o e.on=true:=fun {o e} he hb=>by
  unfold waits bV
  rw [Array.any_eq_true']
  exact ⟨e,he,by simp [hb]⟩
 have full:∀ (listed:Array Bool),listed.size=all.length->Region.ready .any all.toArray listed=[]->∀ i,i<all.length->listed.getD i false=true:=by
  intro listed hs hr i
  induction i using Nat.strongRecOn with
  |_ i ih =>
   intro hi
   by_cases hl:listed.getD i true=true
   ·rw [getD_lt (d':=true) oO];exact hl
   ·exfalso
    have:i ∈ Region.ready .any all.toArray listed:=mem_ready.2 ⟨by simpa using hl,all[i],by rw [bR];exact cA hi,fun e he hb=>by
     have h1:=(hst i all[i] (cA hi)).2.2 e.on (wt he hb)
     exact ih e.on h1 oO⟩
    rw [hr] at this;cases this
 intro fuel
 induction fuel with
 |zero =>
  intro listed A w hs hc d
  have m:∀ i<all.length,listed.getD i true=true:=by
   intro i hi
   apply Classical.byContradiction
   intro hn
   have:=qW (n:=all.length) hi hs (oU hn)
   omega
  have hr:Region.ready .any all.toArray listed=[]:=by
   rw [List.eq_nil_iff_forall_not_mem]
   intro i hi
   obtain ⟨h1,o,ho,_⟩:=mem_ready.1 hi
   rw [bR] at ho
   rw [m i (List.getElem?_eq_some_iff.1 ho).1] at h1
   cases h1
  exact ⟨hr,fin _ A w (full listed hs hr) d⟩
 |succ fuel ih =>
  intro listed A w hs hc d
  refine ⟨fun hr=>fin _ A w (full listed hs hr) d,fun i hi=>?_⟩
  obtain ⟨h1,o,ho,hw⟩:=mem_ready.1 hi
  rw [bR] at ho
  have q:=(List.getElem?_eq_some_iff.1 ho).1
  have p:listed.getD i false=false:=by rw [getD_lt (d':=true) oO];exact h1
  obtain ⟨hg,hd,_⟩:=hst i o ho
  obtain ⟨v',w',hr,l⟩:=step (fun i=>listed.getD i false) A w i o ho p (fun k hk=>iM hi ho hk) d
  have g:(fun j=>(listed.setIfInBounds i true).getD j false)=jW (fun j=>listed.getD j false) i:=by
   funext j
   rw [iD oO];rfl
  have a:wpAnyIn F 0 P .any all.toArray Q' fuel (listed.setIfInBounds i true) (A.put o.dst v') w':=ih _ _ _ (oU hs) (by have:=qW (n:=all.length) q hs h1;omega) (by rw [g];exact l)
  unfold wpOpIn
  simp only [bR,ho]
  rw [if_pos (by simp [Region.wanted,hg])]
  refine ⟨fun f _=>hF f,?_⟩
  rw [Oper.semAt_eq _ _ _ hd]
  rcases hr with hr|⟨hr,rfl⟩
  ·rw [hr];exact a
  ·rw [hr];exact a
def vZ (d sM sI sK tm ti tk:Nat) (p:String) (ty:Nat->TypeId) (a:Nat->Array Edge):List Oper :=
 [⟨some d,.load tm (.tmp sM),ty 0,p,a 0,none⟩,⟨some (d+1),.move (.tmp sI),ty 1,p,a 1,none⟩,⟨some (d+2),.binOp .sub ti (.tmp (d+1)) (.const (.int .i64 1)) ti,ty 2,p,a 2,none⟩,
  ⟨some (d+3),.move (.tmp sK),ty 3,p,a 3,none⟩,⟨some (d+4),.build tk #[(0,.tmp (d+2)),(1,.tmp (d+3))],ty 4,p,a 4,none⟩,⟨some (d+5),.lookup tm (.tmp d) (.tmp (d+4)) false,ty 5,p,a 5,none⟩,
  ⟨some (d+6),.binOp .add ti (.tmp (d+5)) (.const (.int .i64 1)) ti,ty 6,p,a 6,none⟩,⟨some (d+7),.mapEntry tm (.tmp d) (.tmp (d+4)),ty 7,p,a 7,none⟩,⟨some (d+8),.extract (.tmp (d+7)) 1,ty 8,p,a 8,none⟩,
  ⟨none,.entryStore tm (.tmp d) (.tmp (d+8)) (.tmp (d+6)),ty 9,p,a 9,none⟩]
def KQ (a:Nat->Array Edge):Bool :=
 bV (a 2) 1 && bV (a 4) 2 && bV (a 4) 3 && bV (a 5) 0 && bV (a 5) 4 && bV (a 6) 5 && bV (a 7) 0 && bV (a 7) 4 && bV (a 8) 7 && bV (a 9) 0 && bV (a 9) 6 && bV (a 9) 8 &&
  (List.range 10).all fun j=>(a j).all fun e=>!Region.binds .any e || Nat.blt e.on j
structure KR (A0:Act) (d N:Nat) (all:List Oper) (val:Nat->Value) (w w1 w2:World) (L:Nat->Bool) (A:Act) (w':World):Prop where
 sz:A.tmps.size=N
 df:A.defers=A0.defers
 old:∀ t,t<d\/d+9<=t->A.tmps[t]?=A0.tmps[t]?
 new:∀ j<9,L j=true->A.tmps[d+j]?=some (val j)
 clo:Closed all fun j=>L j=true
 wl:w'=if L 9=true then w2 else if L 7=true then w1 else w
theorem EF {A:Act} {t:Nat} {v:Value} (h:A.tmps[t]?=some v):A.eval (.tmp t)=v:=by simp [Act.eval,h]
section
variable {A0 A:Act} {d N:Nat} {all:List Oper} {val:Nat->Value} {w w1 w2 w' w'':World} {L:Nat->Bool} {o:Oper} {j:Nat}
theorem Ho (h:Closed all fun j=>L j=true) (ho:all[j]?=some o) (hw:∀ k,waits o k=true->L k=true):Closed all fun i=>jW L j i=true:=by
 intro i oi hi hL k hk
 have up:∀ k,L k=true->jW L j k=true:=fun k hk=>by unfold jW;split <;> simp [hk]
 by_cases a:i=j
 ·subst a;rw [ho] at hi;cases hi;exact up k (hw k hk)
 ·have:L i=true:=by simpa [jW,a] using hL
  exact up k (h i oi hi this k hk)
theorem KR.put (h:KR A0 d N all val w w1 w2 L A w') (hN:d+9<=N) (hj:j<9) (ho:all[j]?=some o) (hw:∀ k,waits o k=true->L k=true)
  (hwl:w''=if jW L j 9=true then w2 else if jW L j 7=true then w1 else w):KR A0 d N all val w w1 w2 (jW L j) (A.put (some (d+j)) (val j)) w'':=by
 refine ⟨by simp [Act.put,h.sz],by simp [Act.put,h.df],fun t ht=>?_,fun i hi hL=>?_,Ho h.clo ho hw,hwl⟩
 ·simp only [Act.put]
  rw [e8 oO];exact h.old t ht
 ·simp only [Act.put]
  by_cases a:i=j
  ·subst a
   rw [fp (by rw [h.sz];omega)]
  ·rw [e8 oO]
   exact h.new i hi (by simpa [jW,a] using hL)
end
section
variable {P:Program} {A0:Act} {d N sM sI sK tm ti tk kt et:Nat} {p:String} {ty:Nat->TypeId} {a:Nat->Array Edge} {val:Nat->Value} {w w1 w2:World}
structure adw (P:Program) (A0:Act) (d sM sI sK tm ti tk:Nat) (val:Nat->Value) (w w1 w2:World):Prop where
 r0:∀ (ev:Operand->Value) (o:Oper),o.op=.load tm (.tmp sM)->(∀ v,A0.tmps[sM]?=some v->ev (.tmp sM)=v)->(execOp ev o).run P w=.ok (.value (val 0)) w
 r1:A0.tmps[sI]?=some (val 1)
 r2:∀ (ev:Operand->Value) (o:Oper),o.op=.binOp .sub ti (.tmp (d+1)) (.const (.int .i64 1)) ti->ev (.tmp (d+1))=val 1->ev (.const (.int .i64 1))=.int .i64 1->(execOp ev o).run P w=.ok (.value (val 2)) w
 r3:A0.tmps[sK]?=some (val 3)
 r4:∀ (ev:Operand->Value) (o:Oper),o.op=.build tk #[(0,.tmp (d+2)),(1,.tmp (d+3))]->ev (.tmp (d+2))=val 2->ev (.tmp (d+3))=val 3->(execOp ev o).run P w=.ok (.value (val 4)) w
 r5:∀ (ev:Operand->Value) (o:Oper),o.op=.lookup tm (.tmp d) (.tmp (d+4)) false->ev (.tmp d)=val 0->ev (.tmp (d+4))=val 4->(execOp ev o).run P w=.ok (.value (val 5)) w/\(execOp ev o).run P w1=.ok (.value (val 5)) w1
 r6:∀ (ev:Operand->Value) (o:Oper) (w:World),o.op=.binOp .add ti (.tmp (d+5)) (.const (.int .i64 1)) ti->ev (.tmp (d+5))=val 5->ev (.const (.int .i64 1))=.int .i64 1->(execOp ev o).run P w=.ok (.value (val 6)) w
 r7:∀ (ev:Operand->Value) (o:Oper),o.op=.mapEntry tm (.tmp d) (.tmp (d+4))->ev (.tmp d)=val 0->ev (.tmp (d+4))=val 4->(execOp ev o).run P w=.ok (.value (val 7)) w1
 r8:∀ (ev:Operand->Value) (o:Oper) (w:World),o.op=.extract (.tmp (d+7)) 1->ev (.tmp (d+7))=val 7->(execOp ev o).run P w=.ok (.value (val 8)) w
 r9:∀ (ev:Operand->Value) (o:Oper),o.op=.entryStore tm (.tmp d) (.tmp (d+8)) (.tmp (d+6))->ev (.tmp d)=val 0->ev (.tmp (d+8))=val 8->ev (.tmp (d+6))=val 6->(execOp ev o).run P w1=.ok .skip w2
theorem adx (hv:adw P A0 d sM sI sK tm ti tk val w w1 w2) (hdep:KQ a=true) (hN:d+9<=N) (hM:sM<d\/d+9<=sM) (hI:sI<d\/d+9<=sI) (hK:sK<d\/d+9<=sK) :
  ∀ L A w' j o,(vZ d sM sI sK tm ti tk p ty a)[j]?=some o->L j=false->(∀ k,waits o k=true->L k=true)->KR A0 d N (vZ d sM sI sK tm ti tk p ty a) val w w1 w2 L A w' ->
   ∃ v' w'',((execOp A.eval o).run P w'=.ok (.value v') w''\/((execOp A.eval o).run P w'=.ok .skip w''/\v'=undef))/\KR A0 d N (vZ d sM sI sK tm ti tk p ty a) val w w1 w2 (jW L j) (A.put o.dst v') w'':=by
 intro L A w' j o ho f hw h
 unfold KQ at hdep
 simp only [aE] at hdep
 obtain ⟨⟨⟨⟨⟨⟨⟨⟨⟨⟨⟨⟨x,n⟩,z⟩,s⟩,t⟩,y⟩,G⟩,D⟩,r⟩,F⟩,u⟩,C⟩,_⟩:=hdep
 have c:=h.clo
 have c21:L 2=true->L 1=true:=fun h=>c 2 _ rfl h 1 x
 have J:L 4=true->L 2=true:=fun h=>c 4 _ rfl h 2 n
 have c43:L 4=true->L 3=true:=fun h=>c 4 _ rfl h 3 z
 have c50:L 5=true->L 0=true:=fun h=>c 5 _ rfl h 0 s
 have c54:L 5=true->L 4=true:=fun h=>c 5 _ rfl h 4 t
 have M:L 6=true->L 5=true:=fun h=>c 6 _ rfl h 5 y
 have H:L 7=true->L 0=true:=fun h=>c 7 _ rfl h 0 G
 have E:L 7=true->L 4=true:=fun h=>c 7 _ rfl h 4 D
 have l:L 8=true->L 7=true:=fun h=>c 8 _ rfl h 7 r
 have K:L 9=true->L 0=true:=fun h=>c 9 _ rfl h 0 F
 have I:L 9=true->L 6=true:=fun h=>c 9 _ rfl h 6 u
 have m:L 9=true->L 8=true:=fun h=>c 9 _ rfl h 8 C
 have g:∀ {q:Nat},L q=false->¬ L q=true:=fun h=>by rw [h];simp
 have ev:∀ k<9,L k=true->A.eval (.tmp (d+k))=val k:=fun k hk hL=>EF (h.new k hk hL)
 have same:∀ (q:Nat),j ≠ q->jW L j q=L q:=fun q hq=>by unfold jW;rw [if_neg (Ne.symm hq)]
 have e:=h.wl
 match j,ho with
 |0,ho =>
  cases ho
  have h7:¬ L 7=true:=fun h7=>g f (H h7)
  have h9:¬ L 9=true:=fun h9=>g f (K h9)
  rw [if_neg h9,if_neg h7] at e
  subst e
  exact ⟨_,_,.inl (hv.r0 _ _ rfl fun v hv=>EF (by rw [h.old _ hM];exact hv)),h.put (j:=0) hN oO rfl hw (by rw [same 9 oO,same 7 oO,if_neg h9,if_neg h7])⟩
 |1,ho =>
  cases ho
  refine ⟨val 1,w',.inl ?_,h.put (j:=1) hN oO rfl hw (by rw [same 9 oO,same 7 oO];exact e)⟩
  have:A.eval (.tmp sI)=val 1:=EF (by rw [h.old _ hI];exact hv.r1)
  simp [execOp,this]
 |2,ho =>
  cases ho
  have h1:=hw 1 x
  have h7:¬ L 7=true:=fun h7=>g f (J (E h7))
  have h9:¬ L 9=true:=fun h9=>h7 (l (m h9))
  rw [if_neg h9,if_neg h7] at e
  subst e
  exact ⟨_,_,.inl (hv.r2 _ _ rfl (ev 1 oO h1) rfl),h.put (j:=2) hN oO rfl hw (by rw [same 9 oO,same 7 oO,if_neg h9,if_neg h7])⟩
 |3,ho =>
  cases ho
  refine ⟨val 3,w',.inl ?_,h.put (j:=3) hN oO rfl hw (by rw [same 9 oO,same 7 oO];exact e)⟩
  have:A.eval (.tmp sK)=val 3:=EF (by rw [h.old _ hK];exact hv.r3)
  simp [execOp,this]
 |4,ho =>
  cases ho
  have h2:=hw 2 n
  have h3:=hw 3 z
  have h7:¬ L 7=true:=fun h7=>g f (E h7)
  have h9:¬ L 9=true:=fun h9=>h7 (l (m h9))
  rw [if_neg h9,if_neg h7] at e
  subst e
  exact ⟨_,_,.inl (hv.r4 _ _ rfl (ev 2 oO h2) (ev 3 oO h3)),h.put (j:=4) hN oO rfl hw (by rw [same 9 oO,same 7 oO,if_neg h9,if_neg h7])⟩
 |5,ho =>
  cases ho
  have h0:=hw 0 s
  have h4:=hw 4 t
  have h9:¬ L 9=true:=fun h9=>g f (M (I h9))
  obtain ⟨g1,g2⟩:=hv.r5 A.eval ⟨some (d+5),.lookup tm (.tmp d) (.tmp (d+4)) false,ty 5,p,a 5,none⟩ rfl (ev 0 oO h0) (ev 4 oO h4)
  rw [if_neg h9] at e
  refine ⟨val 5,w',.inl ?_,h.put (j:=5) hN oO rfl hw (by rw [same 9 oO,same 7 oO,if_neg h9];exact e)⟩
  by_cases h7:L 7=true
  ·rw [if_pos h7] at e;subst e;exact g2
  ·rw [if_neg h7] at e;subst e;exact g1
 |6,ho =>
  cases ho
  have h5:=hw 5 y
  exact ⟨_,_,.inl (hv.r6 _ _ _ rfl (ev 5 oO h5) rfl),h.put (j:=6) hN oO rfl hw (by rw [same 9 oO,same 7 oO];exact e)⟩
 |7,ho =>
  cases ho
  have h0:=hw 0 G
  have h4:=hw 4 D
  have h9:¬ L 9=true:=fun h9=>g f (l (m h9))
  rw [if_neg h9,if_neg (g f)] at e
  subst e
  exact ⟨_,_,.inl (hv.r7 _ _ rfl (ev 0 oO h0) (ev 4 oO h4)),h.put (j:=7) hN oO rfl hw (by rw [same 9 oO,if_neg h9,if_pos (by simp [jW])])⟩
 |8,ho =>
  cases ho
  have h7:=hw 7 r
  exact ⟨_,_,.inl (hv.r8 _ _ _ rfl (ev 7 oO h7)),h.put (j:=8) hN oO rfl hw (by rw [same 9 oO,same 7 oO];exact e)⟩
 |9,ho =>
  cases ho
  have h0:=hw 0 F
  have h6:=hw 6 u
  have h8:=hw 8 C
  rw [if_neg (g f),if_pos (l h8)] at e
  subst e
  refine ⟨undef,w2,.inr ⟨hv.r9 _ _ rfl (ev 0 oO h0) (ev 8 oO h8) (ev 6 oO h6),rfl⟩,h.sz,h.df,h.old,fun i hi hL=>h.new i hi (by rw [<- same i oO];exact hL),Ho h.clo (j:=9) rfl hw,by rw [if_pos (by simp [jW])]⟩
 |j+10,ho=>simp [vZ] at ho
end
theorem Xd {P:Program} {tm kt et m:Nat} [hmp:Mp P tm kt et] [hk:KT P kt kv] {G:Nat->Prop} {w0 w w2:World} {V:Rho} {U:Heap} {l:mg} {k:Int×Int} {c:Int} (hs:Sim G w0 V U w) (hm:U[m]?=some (nI l)) (hni:Ni U)
  (f2:∀ (ev:Operand->Value) (o:Oper) (x y u:Operand),o.op=.mapUpdate tm x y u->ev x=.map (some (V m).b)->ev y=kv k->ev u=.i c->(execOp ev o).run P w=.ok .skip w2) :
  ∃ ρ',(∀ i < U.length,ρ' i=V i)/\Sim G w0 ρ' (U.set m (nI (lN l k (.i c)))) w2:=by
 have a:=aS hm
 have h:=o7 (P:=P) (rd:=none) (ty:=0) (e:=[(0,.map (some m)),(1,kv k),(2,.i c)]) (x:=.tmp 0) (y:=.tmp 1) (z:=.tmp 2) (t:=tm) (v:=.i c) (k:=k) rfl hm rfl rfl hni
  ⟨none, .mapUpdate tm (.tmp 0) (.tmp 1) (.tmp 2), 0, "", #[], none⟩ rfl rfl G w0 V { tmps := #[.map (some (V m).b), kv k, .i c], defers := [] } w oS hs (fun x hx u hu => by
   simp only [Op.operands] at hx
   have hx:x=.tmp 0\/x=.tmp 1\/x=.tmp 2:=by simpa using hx
   rcases hx with rfl|rfl|rfl
   ·cases hu;exact .map m a
   ·cases hu;exact bF _ (SB k)
   ·cases hu;exact .int _ _) (fun A' w'=>∃ ρ',(∀ i < U.length,ρ' i=V i)/\Sim G w0 ρ' (U.set m (nI (lN l k (.i c)))) w') (fun _ _ _=>True) (fun ρ' v' w' _ _ h3 h4=>⟨ρ',h3,h4⟩)
 have h2:=h.2
 rw [Oper.semAt_eq _ _ _ oS,f2 _ _ (.tmp 0) (.tmp 1) (.tmp 2) rfl rfl rfl rfl] at h2
 exact h2
section
variable {P:Program} {n0 N:Nat} {rd:Option Nat} {Q:Post} {e:Env} {mk:List Nat} {U:Heap} {id:Nat}
theorem Ul {d sM sI sK tm ti tk kt et sz1 by1 sz2 by2:Nat} {agg2:Bool} {z1 zk:Value} {pl:List (Nat×Nat)} {p:String} {ty:Nat->TypeId} {a:Nat->Array Edge} (hmo:P.follows .mixedOrders=true)
  [hmp:Mp P tm kt et] [hk:KT P kt kv] [hte:Ty P et sz2 agg2 (.i 0) by2] [htm:Ty P tm sz1 false z1 by1] [hpk:Pls P tk zk pl] (hzk:plain zk=true) (hfill:∀ x y:Int,rO (pl.toArray[·]?) (dM zk) [(0,.i x),(1,.i y)]=some [.i x,.i y])
  (hdep:KQ a=true) (hN:Nat.ble (d+9) N=true) (hsl:([sM,sI,sK].all fun q=>Nat.blt q d || Nat.ble (d+9) q)=true) {xb m:Nat} {i k c:Int} {l:mg}
  (hM:Env.get e sM=some (.p xb)) (hbox:aI U xb 0=some (.map (some m))) (hmm:U[m]?=some (nI l)) (hI:Env.get e sI=some (.i i)) (hK:Env.get e sK=some (.i k))
  (hi:0<=i/\i<=9223372036854775807) (hv:iO l (i - 1,k)=some (.i c)\/iO l (i - 1,k)=none/\c=0) (hc:0<=c/\c<9223372036854775807) (hni:Ni U)
  (he:(e.all fun q=>Nat.blt q.1 d || Nat.ble (d+9) q.1)=true) (h:Q .normal e mk (U.set m (nI (lN l (i - 1,k) (.i (c+1)))))) :
  bJ P n0 N rd (.region id (vZ d sM sI sK tm ti tk p ty a).toArray true) Q e mk U:=by
 intro G w0 ρ0 A w F
 obtain ⟨h0,V,ha,W,g⟩:=F
 refine wpIn_region_any hmo ?_
 have hs:Sim G w0 V U { w with drawn:=w.drawn+1 }:=qF W rfl rfl rfl rfl
 generalize ({ w with drawn:=w.drawn+1 }:World)=w at hs
 simp only [List.all_cons,List.all_nil,Bool.and_true,aE,ee,bX,Nat.ble_eq] at hsl
 obtain ⟨K,Uq,M⟩:=hsl
 have S:d+9<=N:=cC hN
 obtain ⟨uM,gM,vM⟩:=g.tmps.2 _ _ hM
 obtain ⟨uI,gI,vI⟩:=g.tmps.2 _ _ hI
 obtain ⟨uK,gK,vK⟩:=g.tmps.2 _ _ hK
 have vI:=bH vI rfl
 have vK:=bH vK rfl
 subst vI vK
 obtain ⟨rfl,_⟩:=nV vM
 obtain ⟨_,q2⟩:=kG hs (CB hbox)
 obtain ⟨vm,q3,q4⟩:=q2 0 oS
 simp only [dz] at q4
 obtain ⟨rfl,_⟩:=qZ q4
 obtain ⟨_,ents,clock,hh,Vv⟩:=sV hs hmm
 obtain ⟨u0,b,w1,H,e1,e2,e3⟩:=Xc (P:=P) (t:=tm) (kt:=kt) (et:=et) (z:=.i 0) rfl hh Vv (k:=(i - 1,k)) (v0:=.i c) (by
  rcases hv with h|⟨h1,rfl⟩
  ·exact .inl h
  ·exact .inr ⟨h1,rfl⟩)
 have H:=bH H rfl
 subst H
 obtain ⟨w2,f1,f2⟩:=e3 (.i (c+1))
 obtain ⟨ρ',r1,r2⟩:=Xd hs hmm hni f2
 let val:Nat->Value:=fun j=>match j with
  |0=>.map (some (V m).b)|1=>.i i|2=>.i (i - 1)|3=>.i k|4=>kv (i - 1,k)|5=>.i c|6=>.i (c+1)|7=>.tuple #[.i c,goInt b]|8=>goInt b|_=>undef
 have r:∀ (op:BinOp) (x y z:Int) (w:World),VB op .i64 x y=some (.i z)->∀ (ev:Operand->Value) (o:Oper) (s t:Operand) (t':TypeId),o.op=.binOp op ti s t t'->ev s=.i x->ev t=.i y->(execOp ev o).run P w=.ok (.value (.i z)) w:=fun op x y z w hb ev o s t t' ho hs ht=>by
  have h3:(eqGuard op ti s t (.i x) (.i y)).run P w=.ok () w:=by unfold eqGuard;split <;> rfl
  simp [execOp,ho,hs,ht,h3,RU hb]
 have D:adw P A d sM sI sK tm ti tk val w w1 w2:=by
  refine ⟨fun ev o ho R=>?_,gI,fun ev o ho h1 h2=>r .sub i 1 (i - 1) w (by rw [<- wrap64 (m:=i - 1) oO oO];rfl) ev o _ _ _ ho h1 h2,gK,fun ev o ho h1 h2=>?_,fun ev o ho h1 h2=>e2 ev o _ _ ho h1 h2,
   fun ev o w ho h1 h2=>r .add c 1 (c+1) w (by rw [<- wrap64 (m:=c+1) oO oO];rfl) ev o _ _ _ ho h1 h2,fun ev o ho h1 h2=>e1 ev o _ _ ho h1 h2,fun ev o w ho h1=>?_,fun ev o ho h1 h2 h3=>f1 ev o _ _ _ ho h1 h2 h3⟩
  ·have hv:=R _ gM
   simp only [cV] at q3 hv
   simp [execOp,ho,hv,Instr.loadAt,Instr.sureAddr,loadVar,htm.isAgg,q3,val]
  ·obtain ⟨rc,g3,g4⟩:=vH (n:=U.length) (V:=V) [(0,.i (i - 1)),(1,.i k)] [(0,.i (i - 1)),(1,.i k)] _ _ _ (kJ (bF (n:=U.length) (V:=V) zk hzk)) rfl
    (fun j h h'=>⟨rfl,by
     match j,h with
     |0,_=>exact .int _ _
     |1,_=>exact .int _ _⟩) (hfill (i - 1) k)
   have O:Value.agg rc=kv (i - 1,k):=bH (n:=U.length) (V:=V) (v:=kv (i - 1,k)) (.agg _ _ g4.1 g4.2) rfl
   have hb:=run_build (P:=P) w tk #[(0,.i (i - 1)),(1,.i k)] rc (by rw [hpk.built];exact g3)
   have E:ev (.tmp (d+2))=.i (i - 1):=h1
   have X:ev (.tmp (d+3))=.i k:=h2
   simp [execOp,ho,E,X,hb,val,O]
  ·have E:ev (.tmp (d+7))=.tuple #[.i c,goInt b]:=h1
   simp [execOp,ho,E,Instr.extract,val]
 have f:∀ j<10,∀ i,bV (a j) i=true->i<j:=by
  intro j hj i hw
  unfold KQ at hdep
  simp only [aE] at hdep
  have h1:=List.all_eq_true.1 hdep.2 j (List.mem_range.2 hj)
  unfold bV at hw
  obtain ⟨x,hx,hb⟩:=Array.any_eq_true'.1 hw
  simp only [aE] at hb
  have h2:=Array.all_eq_true_iff_forall_mem.1 h1 x hx
  simp only [hb.1,Bool.not_true,Bool.false_or,bX] at h2
  rw [<- aM hb.2];exact h2
 have I:∀ i,(Array.replicate (vZ d sM sI sK tm ti tk p ty a).toArray.size false).getD i false=false:=fun i=>by
  simp only [eN,eZ];split <;> rfl
 refine adv (lV ρ0 rd) (St:=KR A d N (vZ d sM sI sK tm ti tk p ty a) val w w1 w2) (fun j o ho=>?_) (adx D hdep S K Uq M) (fun L A' w' J C=>?_) _ _ A w oS ?_ ?_
 ·match j,ho with
  |0,ho=>cases ho;exact ⟨rfl,by simp,f 0 oO⟩
  |1,ho=>cases ho;exact ⟨rfl,by simp,f 1 oO⟩
  |2,ho=>cases ho;exact ⟨rfl,by simp,f 2 oO⟩
  |3,ho=>cases ho;exact ⟨rfl,by simp,f 3 oO⟩
  |4,ho=>cases ho;exact ⟨rfl,by simp,f 4 oO⟩
  |5,ho=>cases ho;exact ⟨rfl,by simp,f 5 oO⟩
  |6,ho=>cases ho;exact ⟨rfl,by simp,f 6 oO⟩
  |7,ho=>cases ho;exact ⟨rfl,by simp,f 7 oO⟩
  |8,ho=>cases ho;exact ⟨rfl,by simp,f 8 oO⟩
  |9,ho=>cases ho;exact ⟨rfl,by simp,f 9 oO⟩
  |j+10,ho=>simp [vZ] at ho
 ·have h9:L 9=true:=J 9 (by simp [vZ])
  have Y:w'=w2:=by have:=C.wl;rwa [if_pos h9] at this
  subst Y
  refine ⟨e,mk,_,h,by simpa using h0,ρ',fun i hi=>(r1 i oO).trans (ha i hi),r2,⟨C.sz,fun t v ht=>?_⟩,?_,fun i hi=>by simpa using g.mkb i hi⟩
  ·obtain ⟨u,g1,g2⟩:=g.tmps.2 t v ht
   have T:t<d\/d+9<=t:=by
    have:=List.all_eq_true.1 he _ (yR ht)
    simpa using this
   exact ⟨u,by rw [C.old t T];exact g1,g2.mono oS fun i hi=>r1 i hi⟩
  ·rw [C.df,g.mks]
   congr 1
   exact eI fun i hi=>by rw [r1 i (g.mkb i hi)]
 ·unfold cnt
  exact eg List.countP_le_length oS
 ·have hf:(fun i=>(Array.replicate (vZ d sM sI sK tm ti tk p ty a).toArray.size false).getD i false)=fun _=>false:=funext I
  rw [hf]
  exact KR.mk g.tmps.1 rfl (fun _ _=>rfl) (fun _ _ h=>absurd h oS) (fun _ _ _ h=>absurd h oS) oS
end
section ops
variable {P:Program} {rd:Option Nat} {ty:TypeId} {e:Env} {U:Heap} {x y a:Operand}
theorem Xe {t el size bytes i n c:Nat} {agg:Bool} {z:Value} {k k':IntKind} {cs:List Value} [ha:Sl P t el] [ht:Ty P el size agg z bytes] (hx:aT e x=some (.s i n c)) (hy:aT e y=some (.int k (n:Nat))) (hz:aT e a=some (.int k' (n:Nat)))
  (hrw:U[i]?=some (.rw cs)) (hcs:cs ≠ []) (hn:0<n) (hc:n<=c):bY P rd (.slice t x none (some y) (some a)) ty e U (.slice (some ⟨i,0,some 0⟩) n n) U :=
 dh oS fun op ho _ G w0 V A w hs d=>by
  have hv:=d x (by simp [Op.operands]) _ hx
  have h1:=bH (d y (by simp [Op.operands]) _ hy) rfl
  have h2:=bH (d a (by simp [Op.operands]) _ hz) rfl
  have ho0:(V i).o=0:=(hs.obj i _ hrw hcs).2.1
  obtain ⟨e1,e2⟩:=Bg ha
  generalize hr:A.eval x=r at hv
  cases hv with
  |emptySlice=>omega
  |slice _ _ _ _ cap hcc hi =>
   have:=run_slice_hm (P:=P) w t (some ⟨(V i).b,(V i).o+0,none⟩) n cap e1 k k' n n oO oO oO
   simp only [dj] at this
   refine ⟨V,.slice (some ⟨(V i).b,(V i).o+0,none⟩) n n,w,.inl ?_,VQ.gslice i 0 n n n 0 ⟨aD _,fun _=>rfl⟩ oO hi rfl,aD _,fun _ _=>rfl,hs⟩
   have e3:sliced (some ⟨(V i).b,(V i).o+0,none⟩) 0 n n size=.slice (some ⟨(V i).b,(V i).o+0,none⟩) n n:=by simp only [sliced];split <;> simp [addr_add]
   simp only [cV] at hr this e3 ⊢
   simp [execOp,ho,hr,h1,h2,run_sliceAt_slice _ _ _ _ _ _ e1,this,e2,ht.sizeOf,e3]
  |sliceG _ _ _ _ _ _ _ _ hq=>simp at hq
theorem ady {op:Op} {n size el:Nat} {cs:List Value} (hn:0<n) (h:bY P rd op ty e U (eP U.length size n) (U++[.gr cs el])):bY P rd op ty e U (.s U.length n n) (U++[.rw cs]):=by
 intro o ho t G w0 V A w hrd hs u next Q' D
 refine h o ho t G w0 V A w hrd hs u next Q' fun ρ' v' w' hv hle m a=>D ρ' v' w' ?_ oS m ?_
 ·obtain ⟨k,rfl⟩:∃ k,n=k+1:=⟨n - 1,oO⟩
  have hl:(U++[aC.rw cs]).length=(U++[aC.gr cs el]).length:=oS
  rw [hl]
  rcases JE hv with ⟨h0,_⟩|⟨_,hi,l,f,_,rfl⟩
  ·omega
  ·have:=VQ.slice (q:=false) (n:=(U++[aC.gr cs el]).length) (V:=ρ') U.length 0 (k+1) (k+1) l f hi
   simpa using this
 ·have hl:(U++[aC.rw cs]).length=(U++[aC.gr cs el]).length:=oS
  have get:∀ (i:Nat) (o:aC),(U++[aC.rw cs])[i]?=some o->(i < U.length/\(U++[aC.gr cs el])[i]?=some o)\/(i=U.length/\o=.rw cs):=by
   intro i o hi
   by_cases d:i < U.length
   ·rw [bO d] at hi
    exact .inl ⟨d,by rw [bO d];exact hi⟩
   ·have:=aS hi
    simp at this
    obtain rfl:i=U.length:=oO
    rw [bE oO,cM] at hi
    exact .inr ⟨rfl,by simpa using hi.symm⟩
  have hg:(U++[aC.gr cs el])[U.length]?=some (.gr cs el):=oS
  refine ⟨a.os,a.tape,a.output,a.size,a.fgn,fun i o hi=>?_,fun i j oi oj hi hj C r hb=>?_⟩
  ·rw [hl]
   rcases get i o hi with ⟨_,h1⟩|⟨rfl,rfl⟩
   ·exact a.obj i o h1
   ·intro v
    obtain ⟨g1,g2,rc,g3,g4,g5,g6⟩:=a.obj _ _ hg v
    exact ⟨g1,g2,rc,el,g3,g5,g6⟩
  ·have up:∀ (i:Nat) (o:aC),(U++[aC.rw cs])[i]?=some o->o.owned->∃ o',(U++[aC.gr cs el])[i]?=some o'/\o'.owned:=fun i o hi ho=>by
    rcases get i o hi with ⟨_,h1⟩|⟨rfl,rfl⟩
    ·exact ⟨o,h1,ho⟩
    ·exact ⟨_,hg,ho⟩
   obtain ⟨y,p,c⟩:=up i oi hi C
   obtain ⟨z,x,g⟩:=up j oj hj r
   exact a.inj i j y z p x c g hb
theorem Xf {t el size bytes i o n j oj m c:Nat} {agg:Bool} {z:Value} {cs news:List Value} [ha:Sl P t el] [ht:Ty P el size agg z bytes] (hzs:z.cells.size=size) (h0:Nat.blt 0 size=true)
  (hx:aT e x=some (.slice (some ⟨i,o,some 0⟩) n n)) (hcs:aK U i o (n*size)=some cs) (hy:aT e y=some (.slice (some ⟨j,oj,none⟩) m c)) (hc:aK U j oj (m*size)=some news) (hm:0<m)
  (hb:n+m<=1000000) (hby:bytes<=1000000) :
  bY P rd (.call { callee:=.builtin .append,args:=#[x,y],argTypes:=#[t,t] }) ty e U (.s U.length (n+m) (n+m)) (U++[.rw (cs++news)]):=ady oO (JR hzs h0 hx hcs hy hc hm hb hby)
end ops
end Go.AH
namespace Go.AH.Heat
theorem KU {kf:Nat->Int×Int×Int} {a b:Int} (h:a<=b):∀ i,wX kf a i<=wX kf b i
 |0=>aD _
 |i+1=>by
  have ih:=KU (kf:=kf) h i
  have:=EC kf a i
  unfold wX
  by_cases h1:(kf (i+1)).1<=a
  ·rw [if_pos h1,if_pos oO];exact aD _
  ·rw [if_neg h1]
   split
   ·omega
   ·exact ih
theorem Y3 {n:Nat} {kf:Nat->Int×Int×Int} (h:adk n kf) {q:Nat}:∀ {p:Nat},q<=p->p<n->(kf q).2.1<=(kf p).2.1
 |0,hq,_ =>
          by
          obtain rfl:q=0:=oO
          exact dy _
 |p+1,hq,hp=>by
  by_cases a:q=p+1
  ·subst a;exact dy _
  ·have h1:=Y3 h (q:=q) (p:=p) oO oO
   have h2:=(h.r p hp).1
   omega
namespace Wk
variable (W:Wk) (m:Int×Int)
def nxt (s k:Nat) (r:Int×Int):Int×Int:=((Aw (W.nk s k) (W.kf s k) r.1).1,(Aw (W.nk s k) (W.kf s k) r.2).2)
def recs:Nat->Nat->Int×Int->List (List Nat)
 |0,s,r=>if kS r.1 r.2 (W.kM m s) then [[]] else []
 |d+1,s,r=>if kS r.1 r.2 (W.kM m s) then (List.range (W.nw s)).flatMap fun k=>(recs d (s+1) (W.nxt s k r)).map (k::·) else []
end Wk
theorem aip {W:Wk} (hv:Dj W) {s k:Nat} {r:Int×Int} (hs:s<W.ns) (hk:k<W.nw s) (hr:oL r):oL (W.nxt s k r):=by
 have a:=hv.k s hs k hk
 have hn:=a.n1
 have l1:=EC (W.kf s k) r.1 (W.nk s k - 1)
 have l2:=EC (W.kf s k) r.2 (W.nk s k - 1)
 have l3:=KU (kf:=W.kf s k) hr.2.1 (W.nk s k - 1)
 have r1:=(a.k _ (show wX (W.kf s k) r.1 (W.nk s k - 1)<W.nk s k by omega)).2.2.1
 have r2:=(a.k _ (show wX (W.kf s k) r.2 (W.nk s k - 1)<W.nk s k by omega)).2.2.1
 have r3:=Y3 a l3 oO
 refine ⟨r1.1,?_,r2.2.2⟩
 have:=r2.2.1
 show (Aw (W.nk s k) (W.kf s k) r.1).1<=(Aw (W.nk s k) (W.kf s k) r.2).2
 unfold Aw
 omega
theorem EG {α:Type} (g:Nat->List α) (k:Nat):((List.range (k+1)).flatMap g).length=((List.range k).flatMap g).length+(g k).length:=by
 rw [ff,List.flatMap_append,bA];simp
theorem afY {α:Type} (g:Nat->List α) {k n:Nat} (h:k<n):((List.range k).flatMap g).length+(g k).length<=((List.range n).flatMap g).length:=by
 induction n with
 |zero=>omega
 |succ n ih =>
  rw [EG g n]
  by_cases hk:k=n
  ·subst hk;exact aD _
  ·have:=ih oO;omega
theorem flat_get {α:Type} (g:Nat->List α) {k n j:Nat} {x:α} (h:k<n) (hj:(g k)[j]?=some x):((List.range n).flatMap g)[((List.range k).flatMap g).length+j]?=some x:=by
 have hjl:=(List.getElem?_eq_some_iff.1 hj).1
 induction n with
 |zero=>omega
 |succ n ih =>
  rw [ff,List.flatMap_append]
  by_cases hk:k=n
  ·subst hk
   rw [bE oO,Nat.add_sub_cancel_left];simpa using hj
  ·have:=afY g (show k<n by omega)
   rw [bO oO];exact ih oO
theorem Qp {n m:Nat} (h:n<=m) {o:aC} (hc:fV n o):fV m o:=by
 have hv:∀ v,closed n v=true->okV v=true->closed m v=true:=fun v h1 h2=>rU (qA (Z:=fun i=>⟨i,0,0⟩) (fun _ _=>rfl) h v h1 h2)
 have hl:∀ cs,dU n cs=true/\okL cs=true->dU m cs=true/\okL cs=true:=fun cs h=>⟨(ou _ _).2 fun v a=>hv v ((ou _ _).1 h.1 v a) ((Pg _).1 h.2 v a),h.2⟩
 cases o with
 |dead=>trivial
 |ro cs=>exact hl cs hc
 |rw cs=>exact hl cs hc
 |gr cs t=>exact hl cs hc
 |dfr=>trivial
 |loop=>exact fun t v a=>⟨hv v (hc t v a).1 (hc t v a).2,(hc t v a).2⟩
 |map es=>exact fun p hp=>⟨hv _ (hc p hp).1 (hc p hp).2,(hc p hp).2⟩
 |iter k s=>exact fe hc h
 |deep qs sp=>exact fun x hx=>⟨hv _ (hc x hx).1 (hc x hx).2,(hc x hx).2⟩
theorem zh {n m:Nat} (h:n<=m):∀ {U:Heap},fD n U->fD m U
 |[],_=>trivial
 |_::_,hc=>⟨Qp h hc.1,zh h hc.2⟩
theorem Az {n:Nat}:∀ {A X:Heap},fD n A->fD n X->fD n (A++X)
 |[],_,_,h=>h
 |_::_,_,h1,h2=>⟨h1.1,Az h1.2 h2⟩
theorem xI {n:Nat}:∀ {A X:Heap},fD n (A++X)->fD n X
 |[],_,h=>h
 |_::r,_,h=>xI (A:=r) h.2
end Go.AH.Heat
namespace Go.Proofs.YtajpgeklmcjciaaGreat
attribute [local irreducible] dA bJ bK jh fQ dK eH bY eu aW dR dW
open Go.AH.Heat
theorem uh {A B:Prop} (k:B) (h:Hide B->A:=by intro z_;(repeat' (first|refine sCm ?_|(refine gU ?_;first|(refine cO ?_;first|refine st (aJ rfl (by first|exact aF (aA a0)|exact hw _)) rfl rfl ?_|refine st (bG rfl (by exact hd1)) rfl rfl ?_)|refine sK0 ?_|(refine rW ?_;refine st (iV rfl) rfl rfl ?_)|refine sK6 ?_|(refine dV ?_;refine st (bC rfl rfl rfl (by exact hf3)) rfl rfl ?_)|(refine gZ ?_;refine stN (bW rfl rfl rfl rfl (by exact hput _)) rfl ?_))|(refine fU ?_;first|refine frA (bG rfl (by exact hq13 _)) rfl ?_ rfl|refine frA (dY rfl) rfl ?_ hcy|refine frA (dY rfl) rfl ?_ (hcs (by assumption))|refine frA (Xe rfl rfl rfl (aA hrecH) hrne hn0 (aD _)) rfl ?_ hcz|refine frNA (by kernel_rfl) (Xf (by rfl) (by rfl) rfl (by exact hcr _) rfl (by exact hcn _ rfl) (cL _) (by omega) (by omega)) xZ (aY hpl).1 hpo rfl ?_|refine frA (bG rfl (by exact hq12 _)) rfl ?_ hck|refine frA (aJ rfl (aF (aA b7))) rfl ?_ rfl|refine frA (dY rfl) rfl ?_ (hcl (by assumption))|refine frA (aJ rfl (aF (aA a0))) rfl ?_ (hcs (by assumption))|refine frA (jB rfl) rfl ?_ (hcl (by assumption))|refine frA (bD rfl) rfl ?_ (hcl (by assumption))|refine frA (iE rfl rfl (by omega)) rfl ?_ (hcl (by assumption))|refine Qd ?_|(refine eU ?_;refine frA (bG rfl (by exact hqX _)) rfl ?_)|(refine fAdd ?_;refine frA (pI rfl rfl (by omega)) rfl ?_)|(refine Sj ?_;refine frA (lY rfl) rfl ?_)|(refine afb ?_;refine frA (iV rfl) rfl ?_)|(refine ahB ?_;refine frA (Ns rfl rfl) rfl ?_)|(refine JC ?_;refine frA (pV (by rfl) rfl (by rfl)) rfl ?_)|(refine qX ?_;refine frA (bC rfl rfl rfl (by first|exact hfa _|exact hfb _|exact hf1 _)) rfl ?_)|(refine zY ?_;refine fr1 (jG rfl) rfl rfl rfl ?_)|refine aaq ?_)|(refine fP ⟨by kernel_rfl,?_⟩)|refine bU (id:=1) ?_|refine bU (id:=8) ?_|refine bU (id:=9) ?_|refine aG ?_|refine fA rfl ?_|refine fM rfl ?_));exact z_.h):A:=h ⟨k⟩
theorem aaI {W:Wk} {m:Int×Int} (hv:Dj W) (hm:oL m) {tb fb rb bB cB bS cS lo:Nat} {wB cW:Nat->Nat} {kB cK:Nat->Nat->Nat} (d:Nat):∀ {U:Heap} {s ib n l N' p1:Nat} {e':Env} {assign body:Code} {rec:List Nat} {r:Int×Int} (S:Nat->Heap) (hs:s+d=W.ns) (hr:oL r)
  (h0:S 0=U) (hlen:∀ j,(S j).length=U.length) (hT:∀ j,sG (S j) W m tb fb rb bB cB bS cS wB cW kB cK) (hrec:∀ j,(S j)[ib]?=some (.rw (gQ rec))) (hn:rec.length=n/\0<n/\n+d<=100) (hlo:lo<=ib/\lo<=U.length)
  (hL:∀ j,(S j)[l]?=some (.loop .ready none N' e' [p1].toArray assign body)) (hcl:fD U.length U->∀ j,fD U.length (S j)) (hps:Nat.blt p1 N'=true)
  (hround:∀ (j:Nat) (hj:j<(W.recs m d s r).length) (X:Heap) (QB:Post) (iq:Nat),X.all (fun o=>!aU o)=true->lo<=iq->(S j++X)[iq]?=some (.rw (gQ (rec++(W.recs m d s r)[j])))->(∀ e1 mk1 Y,QB .normal e1 mk1 ((S (j+1)).set l (.loop .busy none N' e' [p1].toArray assign body)++X++Y)) ->
   bJ prog (U.length+X.length) N' (some l) assign (dR prog (U.length+X.length) N' l body QB) (lu [p1] [.s iq (n+d) (n+d)] e') [] (S j++X)),
  Ev prog 298 [.p tb,.i (s:Nat),.agg #[.i r.1,.i r.2],.s ib n n,.func (.yield l) #[] #[]] U (.bool true) (S (W.recs m d s r).length):=by
 induction d with
 |zero =>
  intro U s ib n l N' p1 e' assign body rec r S hs hr h0 hlen hT hrec hn hlo hL hcl hps hround
  have L:=hv.s
  refine aH U.length 77 func298 (h:=?_)
  refine WO fun f=>?_
  have e:=hcl f
  clear f hcl
  rw [<- h0]
  have af:l<(S 0).length:=aS (hL 0)
  have ar:tb<(S 0).length:=aS (hT 0).t
  have aw:rb<(S 0).length:=aS (hT 0).r
  have au:bS<(S 0).length:=(hT 0).bS
  have I:ib<(S 0).length:=aS (hrec 0)
  refine uh ?_
  obtain ⟨H,hH⟩:=xy (S 0++[aC.rw [.i r.1,.i r.2]])
  refine .mk (dB [(0,.p tb),(1,.i (s:Nat)),(3,.s ib n n),(4,.func (.yield l) #[] #[]),(7,.p ((S 0).length)),(10,.bool false)] H hH.symm tE ?_)
  have hp:H.take (S 0).length=S 0:=by rw [hH];simp
  have O:H.length=(S 0).length+1:=by rw [hH];simp
  have u:=(hT 0).take hp
  have a0:=u.t
  have a7:H[(S 0).length]?=some (.rw [.i r.1,.i r.2]):=by rw [hH];exact aN
  have hqX:∀ X,aK (H++X) (S 0).length 0 2=some [.i r.1,.i r.2]:=fun X=>aV (aA a7) rfl
  have hrecH:H[ib]?=some (.rw (gQ rec)):=by rw [jL hp I];exact hrec 0
  have hf1:=fun X=>yw (U:=H++X) (lF (i:=s) (.inl (aA u.r)) (fun j _=>lG hv.ok hm j) oO) (lG hv.ok hm s) hr.1 hr.2.2 (by have:=hr.2.1;omega)
  have hcl:∀ {q o:Nat},q<(S 0).length->closed H.length (.pointer (some ⟨q,o,none⟩))=true:=fun {q o} h=>(show Nat.blt q H.length=true from Nat.blt_eq.mpr oO)
  have hcs:∀ {q o n c:Nat},q<(S 0).length->closed H.length (.slice (some ⟨q,o,none⟩) n c)=true:=fun h=>cZ (Nat.blt_eq.mpr oO)
  have G:fD (S 0).length (S 0):=by have:=e 0;rwa [<- h0] at this
  by_cases g:kS r.1 r.2 (W.kM m s)=true
  ·have a:W.recs m 0 s r=[[]]:=by unfold Wk.recs;rw [if_pos g]
   simp only [g] at hf1
   refine eY oK rfl ?_
   refine uh ?_
   rw [show H++gV (fun _=>true) []=H from bN H]
   have ax:∀ h:0<(W.recs m 0 s r).length,(W.recs m 0 s r)[0]'h=[]:=by rw [a];intro h;rfl
   have b6:H[l]?=some (.loop .ready none N' e' [p1].toArray assign body):=by rw [hH];exact aA (hL 0)
   have ak:0<(W.recs m 0 s r).length:=by rw [a];exact cL _
   have Q:=hround 0 ak [aC.rw [.i r.1,.i r.2]]
   rw [<- hH,ax,bN] at Q
   refine yh (ps:=[p1]) rfl rfl b6 rfl (by simp [hps]) rfl ?_
   rw [show H.length=U.length+[aC.rw [.i r.1,.i r.2]].length by rw [O,h0];rfl]
   refine Q _ ib rfl hlo.1 hrecH fun e1 mk1 Y=>?_
   have b5:l<(S 1).length:=by rw [hlen,<- hlen 0];exact af
   have hg:(((S 1).set l (aC.loop .busy none N' e' #[p1] assign body))++[aC.rw [.i r.1,.i r.2]]++Y)[l]?=some (aC.loop .busy none N' e' #[p1] assign body):=aA (aA (aQ (hL 1)))
   refine vV hg rfl ?_
   have a3:(((S 1).set l (aC.loop .busy none N' e' #[p1] assign body))++[aC.rw [.i r.1,.i r.2]]++Y).set l (kV .ready none (aC.loop .busy none N' e' #[p1] assign body))=S 1++([aC.rw [.i r.1,.i r.2]]++Y):=by
    rw [cD,cI _ _ (oU b5),cN]
    simp only [kV]
    rw [set_self (hL 1)]
   rw [a3]
   have aa:fD (S 1).length (S 1):=by have:=e 1;rwa [<- hlen 1] at this
   have hnn:W.ns=s:=oO
   refine uh ?_
   rw [a]
   exact dG (v2:=.bool true) (.tmp rfl .nil) (aW.dropAll (by rw [hlen,hlen]) aa rfl) ⟨rfl,rfl⟩
  ·have a5:kS r.1 r.2 (W.kM m s)=false:=by simpa using g
   have a:W.recs m 0 s r=[]:=by unfold Wk.recs;rw [if_neg g]
   simp only [a5] at hf1
   refine eY oK rfl ?_
   refine uh ?_
   rw [show H++gV (fun _=>true) []=H from bN H,a,hH]
   exact dG (v2:=.bool true) (.tmp rfl .nil) (aW.dropAll rfl G rfl) ⟨rfl,rfl⟩
 |succ d ih =>
  intro U s ib n l N' p1 e' assign body rec r S hs hr h0 hlen hT hrec hn hlo hL hcl hps hround
  have L:=hv.s
  refine aH U.length 77 func298 (h:=?_)
  refine WO fun f=>?_
  have e:=hcl f
  clear f hcl
  rw [<- h0]
  have af:l<(S 0).length:=aS (hL 0)
  have ar:tb<(S 0).length:=aS (hT 0).t
  have aw:rb<(S 0).length:=aS (hT 0).r
  have au:bS<(S 0).length:=(hT 0).bS
  have I:ib<(S 0).length:=aS (hrec 0)
  refine uh ?_
  obtain ⟨H,hH⟩:=xy (S 0++[aC.rw [.i r.1,.i r.2]])
  refine .mk (dB [(0,.p tb),(1,.i (s:Nat)),(3,.s ib n n),(4,.func (.yield l) #[] #[]),(7,.p ((S 0).length)),(10,.bool false)] H hH.symm tE ?_)
  have hp:H.take (S 0).length=S 0:=by rw [hH];simp
  have O:H.length=(S 0).length+1:=by rw [hH];simp
  have u:=(hT 0).take hp
  have a0:=u.t
  have a7:H[(S 0).length]?=some (.rw [.i r.1,.i r.2]):=by rw [hH];exact aN
  have hqX:∀ X,aK (H++X) (S 0).length 0 2=some [.i r.1,.i r.2]:=fun X=>aV (aA a7) rfl
  have hrecH:H[ib]?=some (.rw (gQ rec)):=by rw [jL hp I];exact hrec 0
  have hf1:=fun X=>yw (U:=H++X) (lF (i:=s) (.inl (aA u.r)) (fun j _=>lG hv.ok hm j) oO) (lG hv.ok hm s) hr.1 hr.2.2 (by have:=hr.2.1;omega)
  have hcl:∀ {q o:Nat},q<(S 0).length->closed H.length (.pointer (some ⟨q,o,none⟩))=true:=fun {q o} h=>(show Nat.blt q H.length=true from Nat.blt_eq.mpr oO)
  have hcs:∀ {q o n c:Nat},q<(S 0).length->closed H.length (.slice (some ⟨q,o,none⟩) n c)=true:=fun h=>cZ (Nat.blt_eq.mpr oO)
  have G:fD (S 0).length (S 0):=by have:=e 0;rwa [<- h0] at this
  by_cases g:kS r.1 r.2 (W.kM m s)=true
  ·have a:W.recs m (d+1) s r=(List.range (W.nw s)).flatMap fun k=>(W.recs m d (s+1) (W.nxt s k r)).map (k::·):=by conv=>lhs;unfold Wk.recs;rw [if_pos g]
   simp only [g] at hf1
   have F:s<W.ns:=oO
   have hnsI:¬ ((s:Nat):Int)=(W.ns:Nat):=oO
   have hw:∀ X,aI (H++X) bS (s+0)=some (.s (wB s) (W.nw s) (cW s)):=fun X=>eX (k:=0) ((u.w.take (aP (eb (l:=H)))).steps s F) oO
   refine eY oK rfl ?_
   refine uh ?_
   rw [show H++gV (fun _=>true) []=H from bN H]
   clear hf1 hcl hcs hqX hw hrecH a7 a0 u
   refine dO (ι:=Nat) (fun k=>[(0,.p tb),(1,.i (s:Nat)),(3,.s ib n n),(4,.func (.yield l) #[] #[]),(7,.p ((S 0).length)),(42,.s (wB s) (W.nw s) (cW s)),(43,.i (W.nw s:Nat)),(44,.i (k:Nat))])
    (fun k mk H=>k<=W.nw s/\mk=[]/\∃ ZZ:Heap,ZZ.all (fun o=>!aU o)=true/\H=S (((List.range k).flatMap fun k=>(W.recs m d (s+1) (W.nxt s k r)).map (k::·)).length)++([aC.rw [.i r.1,.i r.2]]++ZZ)) (fun k=>W.nw s - k) 0 tE ⟨bL _,rfl,[],rfl,hH⟩ ?_
   clear hp O hH H
   rintro k mk H ⟨hk,rfl,ZZ,hZ,hH⟩
   obtain ⟨b,hb⟩:=xy (((List.range k).flatMap fun k=>(W.recs m d (s+1) (W.nxt s k r)).map (k::·)).length)
   rw [<- hb] at hH
   have hp:H.take (S b).length=S b:=by rw [hH];simp
   have ag:(S b).length=(S 0).length:=by rw [hlen,hlen]
   have u:=(hT b).take hp
   have a7:H[(S 0).length]?=some (.rw [.i r.1,.i r.2]):=by rw [hH,<- ag,bE oO,cM];rfl
   have O:=take_len hp
   have hHl2:=aS a7
   by_cases K:k<W.nw s
   ·have av:(k:Int)<(W.nw s:Nat):=oO
    have hd1:aK H (wB s) k 1=some [.s (kB s k) (W.nk s k) (cK s k)]:=u.w.ways s F k K
    have hput:∀ c,putCells (H++[aC.rw [c]]) H.length 0 [.s (kB s k) (W.nk s k) (cK s k)]=some (H++[aC.rw [.s (kB s k) (W.nk s k) (cK s k)]]):=fun c=>iH (aD _) (cL _)
    refine uh ?_
    obtain ⟨H1,J⟩:=xy (H++[aC.rw [.s (kB s k) (W.nk s k) (cK s k)]])
    refine .mk (dB [(0,.p tb),(1,.i (s:Nat)),(3,.s ib n n),(4,.func (.yield l) #[] #[]),(7,.p ((S 0).length)),(42,.s (wB s) (W.nw s) (cW s)),(43,.i (W.nw s:Nat)),(44,.i (k:Nat)),(11,.i (k:Nat)),(12,.p H.length)] H1 J.symm tE ?_)
    have an:H1.take (S b).length=S b:=by rw [J];exact aP hp
    have a8:=(hT b).take an
    have b7:H1[(S 0).length]?=some (.rw [.i r.1,.i r.2]):=by rw [J];exact aA a7
    have ah:H1[H.length]?=some (.rw [.s (kB s k) (W.nk s k) (cK s k)]):=by rw [J];exact aN
    have hH1l:H1.length=H.length+1:=by rw [J];simp
    have E:=hv.k s F k K
    have b3:kB s k<H1.length:=dS (a8.w.kinks s F k K 0 E.n1)
    have Uq:∀ X,ED (H1++X) (kB s k) (W.nk s k) (W.kf s k):=fun X q hq=>(a8.w.take (aP (eb (l:=H1)))).kinks s F k K q hq
    have hfa:=fun X=>Uk (U:=H1++X) (c:=cK s k) (h:=r.1) E.n1 (by have:=E.n2;omega) (by rw [E.z];exact hr.1) (Uq X)
    have hfb:=fun X=>Uk (U:=H1++X) (c:=cK s k) (h:=r.2) E.n1 (by have:=E.n2;omega) (by rw [E.z];have:=hr.1;have:=hr.2.1;omega) (Uq X)
    have hq12:∀ X,aK (H1++X) H.length 0 1=some [.s (kB s k) (W.nk s k) (cK s k)]:=fun X=>aV (aA ah) rfl
    have hck:closed H1.length (.agg #[.s (kB s k) (W.nk s k) (cK s k)])=true:=by
     have:=cZ (n:=H1.length) (i:=kB s k) (o:=0) (l:=W.nk s k) (c:=cK s k) (Nat.blt_eq.mpr b3)
     simp [closed,jC,dU,this]
    have hcl:∀ {q o:Nat},q<H1.length->closed H1.length (.pointer (some ⟨q,o,none⟩))=true:=fun {q o} h=>(show Nat.blt q H1.length=true from Nat.blt_eq.mpr h)
    have a9:(S 0).length<H1.length:=oO
    have ae:H.length<H1.length:=oO
    have C:∀ c c' x y,putCells (H1++[aC.rw [c,c']]) H1.length 0 [x,y]=some (H1++[aC.rw [x,y]]):=fun c c' x y=>iH (aD _) (cL _)
    refine eY oK rfl ?_
    refine uh ?_
    rw [show (H1++gV (bV #[]) []).length=H1.length from congrArg List.length (bN H1)]
    refine stN (bW (size:=2) (v:=.agg #[.i (W.nxt s k r).1,.i (W.nxt s k r).2]) rfl rfl (by exact rfl) (by exact rfl) (by exact C _ _ _ _)) rfl ?_
    refine kU ?_
    refine rG ?_
    refine uh ?_
    obtain ⟨H2,M⟩:=xy (H1++[aC.rw [.i (W.nxt s k r).1,.i (W.nxt s k r).2]])
    refine .mk (dB [(0,.p tb),(1,.i (s:Nat)),(3,.s ib n n),(4,.func (.yield l) #[] #[]),(7,.p ((S 0).length)),(42,.s (wB s) (W.nw s) (cW s)),(43,.i (W.nw s:Nat)),(44,.i (k:Nat)),(11,.i (k:Nat)),(13,.p H1.length)] H2 M.symm tE ?_)
    clear hfa hfb hq12 hck hcl C b7 ah a8 Uq a9 ae hput
    obtain ⟨nx,P⟩:=xy (W.nxt s k r)
    rw [<- P] at M
    obtain ⟨Z2,N,ay⟩:∃ Z2:Heap,Z2.all (fun o=>!aU o)=true/\H2=S b++([aC.rw [.i r.1,.i r.2]]++Z2):=⟨ZZ++[aC.rw [.s (kB s k) (W.nk s k) (cK s k)]]++[aC.rw [.i nx.1,.i nx.2]],aX (aX hZ rfl) rfl,by rw [M,J,hH];simp⟩
    obtain ⟨X2,D⟩:∃ X2:Heap,X2=[aC.rw [.i r.1,.i r.2]]++Z2:=⟨_,rfl⟩
    have a4:Ni X2:=by rw [D];exact aX rfl N
    have ad:H2=S b++X2:=by rw [D];exact ay
    have ap:H2[H1.length]?=some (.rw [.i nx.1,.i nx.2]):=by rw [M];exact aN
    have hH2l:H2.length=H1.length+1:=by rw [M];simp
    have hrecH:H2[ib]?=some (.rw (gQ rec)):=by rw [ad];exact aA (hrec b)
    have hrne:gQ rec ≠ []:=fun h=>by have:=congrArg List.length h;rw [vY] at this;simp at this;have:=hn.1;have:=hn.2.1;simp_all
    have hn0:=hn.2.1
    have hn1:=hn.2.2
    have hq13:∀ X,aK (H2++X) H1.length 0 2=some [.i nx.1,.i nx.2]:=fun X=>aV (aA ap) rfl
    have hcl:∀ {q o:Nat},q<(S 0).length->closed H2.length (.pointer (some ⟨q,o,none⟩))=true:=fun {q o} h=>(show Nat.blt q H2.length=true from Nat.blt_eq.mpr oO)
    have hcs:∀ {q o n c:Nat},q<(S 0).length->closed H2.length (.slice (some ⟨q,o,none⟩) n c)=true:=fun h=>cZ (Nat.blt_eq.mpr oO)
    have hcz:closed H2.length (.slice (some ⟨ib,0,some 0⟩) n n)=true:=(show Nat.blt ib H2.length=true from Nat.blt_eq.mpr oO)
    have hcy:closed H2.length (.func (.yield l) #[] #[])=true:=by simp [closed,jC,dU];omega
    have hcr:∀ X,aK (H2++X) ib 0 (n*1)=some (gQ rec):=fun X=>aV (aA hrecH) (by rw [vY];omega)
    have hcn:∀ X:Heap,X=[]->aK (H2++[aC.rw [.i (k:Nat)]]) (H2++X).length 0 (1*1)=some [.i (k:Nat)]:=fun X hX=>by subst hX;rw [bN];exact dZ rfl
    have hpl:dN (gQ rec++[.i (k:Nat)])=true:=by rw [<- BG];exact oI _
    have hpo:=(aY (n:=0) hpl).2
    have hk64:(k:Int)<9223372036854775807:=by have:=hv.w2 s F;omega
    have hs6:=L
    have Vv:oL nx:=by rw [P];exact aip hv F K hr
    obtain ⟨X3,R⟩:=xy (X2++[aC.rw [.i (k:Nat)],aC.rw (gQ rec++[.i (k:Nat)])])
    have ac:Ni X3:=by rw [R];exact aX a4 rfl
    have az:H2++[aC.rw [.i (k:Nat)],aC.rw (gQ rec++[.i (k:Nat)])]=S b++X3:=by rw [ad,R,cD]
    have al:∀ i,(S (b+i)++X3).length=(S b++X3).length:=fun i=>by rw [bA,bA,hlen,hlen]
    have a6:∀ i,(S (b+i)++X3)[(H2++[aC.rw [.i (k:Nat)]]).length]?=some (.rw (gQ (rec++[k]))):=fun i=>by
     have e1:(H2++[aC.rw [.i (k:Nat)]]).length=(S (b+i)).length+(X2.length+1):=by rw [ad];simp [hlen]
     rw [e1,bE oO,R,BG,bE oO]
     simp
    have am:∀ i,l<(S i).length:=fun i=>aS (hL i)
    have hf3:=ih (U:=S b++X3) (s:=s+1) (ib:=(H2++[aC.rw [.i (k:Nat)]]).length) (n:=n+1) (l:=l) (N':=N') (p1:=p1) (e':=e') (assign:=assign) (body:=body) (rec:=rec++[k]) (r:=nx) (fun i=>S (b+i)++X3) oO Vv rfl al
     (fun i=>(hT (b+i)).take (aP eb)) a6 ⟨by rw [bA,hn.1];rfl,oO,oO⟩ ⟨by have:=hlo.2;simp;omega,by have:=hlo.2;rw [bA,hlen];omega⟩ (fun i=>aA (hL (b+i))) (fun h i=>Az (zh (by rw [bA,hlen];omega) (e (b+i))) (xI (A:=S b) h)) hps (fun j hj X QB iq ao aq b1 hQ=>by
      have aj:((fun k=>(W.recs m d (s+1) (W.nxt s k r)).map (k::·)) k)[j]?=some (k::(W.recs m d (s+1) nx)[j]):=by
       show ((W.recs m d (s+1) (W.nxt s k r)).map (k::·))[j]?=_
       rw [<- P,cJ,cA hj];rfl
      have ai:=flat_get (fun k=>(W.recs m d (s+1) (W.nxt s k r)).map (k::·)) K aj
      rw [<- hb,<- a] at ai
      obtain ⟨b4,b2⟩:=List.getElem?_eq_some_iff.1 ai
      have Q:=hround (b+j) b4 (X3++X) QB iq (aX ac ao) aq (by rw [b2,<- cD];simpa using b1) (fun e1 mk1 Y=>by
       have h1:=hQ e1 mk1 Y
       rw [cI _ _ (am _)] at h1
       rw [<- cD];exact h1)
      rw [show n+1+d=n+(d+1) by omega,show (S b++X3).length+X.length=U.length+(X3++X).length by rw [bA,bA,hlen];omega,cD]
      exact Q)
    rw [<- az] at hf3
    refine eY oK rfl ?_
    refine uh ?_
    refine ⟨k+1,⟨oO,rfl,Z2++[aC.rw [.i (k:Nat)],aC.rw (gQ rec++[.i (k:Nat)])],aX N rfl,?_⟩,oO,tE⟩
    rw [EG,<- hb,cU,<- P,R,D];simp
   ·obtain rfl:k=W.nw s:=oO
    have av:¬ ((W.nw s:Nat):Int)<(W.nw s:Nat):=oO
    have T:fD (S b).length (S b):=by have:=e b;rwa [<- hlen b] at this
    refine uh ?_
    rw [a,<- hb,hH]
    exact dG (v2:=.bool true) (.tmp rfl .nil) (aW.dropAll ag.symm T rfl) ⟨rfl,rfl⟩
  ·have a5:kS r.1 r.2 (W.kM m s)=false:=by simpa using g
   have a:W.recs m (d+1) s r=[]:=by unfold Wk.recs;rw [if_neg g]
   simp only [a5] at hf1
   refine eY oK rfl ?_
   refine uh ?_
   rw [show H++gV (fun _=>true) []=H from bN H,a,hH]
   exact dG (v2:=.bool true) (.tmp rfl .nil) (aW.dropAll rfl G rfl) ⟨rfl,rfl⟩
end Go.Proofs.YtajpgeklmcjciaaGreat
namespace Go.AH.Heat
theorem Dk {α:Type} {g:Nat->List α} {c:Nat}:∀ n,(∀ k<n,(g k).length<=c)->((List.range n).flatMap g).length<=n*c
 |0,_=>by simp
 |n+1,h=>by
  have ih:=Dk (c:=c) n fun k hk=>h k oO
  have:=h n oO
  rw [EG,Nat.succ_mul];omega
def Wk.allR (W:Wk) (m:Int×Int):List (List Nat):=(List.range W.nb).flatMap fun b=>(W.recs m W.ns 0 (W.bf b)).map (b::·)
theorem Um {W:Wk} (hv:Dj W) {m:Int×Int}:∀ (d s:Nat) (r:Int×Int),s+d=W.ns->(W.recs m d s r).length<=5 ^ d
 |0,s,r,_=>by unfold Wk.recs;split <;> simp
 |d+1,s,r,h=>by
  unfold Wk.recs
  split
  ·have hw:=hv.w2 s oO
   have h1:=Dk (g:=fun k=>(W.recs m d (s+1) (W.nxt s k r)).map (k::·)) (c:=5 ^ d) (W.nw s) fun k _=>by rw [cU];exact Um hv d (s+1) _ oO
   have h2:W.nw s*5 ^ d<=5*5 ^ d:=fd _ hw
   rw [Nat.pow_succ];omega
  ·exact bL _
theorem Un {W:Wk} (hv:Dj W) {m:Int×Int}:(W.allR m).length<=93750:=by
 have h1:=Dk (g:=fun b=>(W.recs m W.ns 0 (W.bf b)).map (b::·)) (c:=5 ^ W.ns) W.nb fun k _=>by rw [cU];exact Um hv W.ns 0 _ oO
 have h2:5 ^ W.ns<=5 ^ 6:=Nat.pow_le_pow_right oD hv.s
 have h3:W.nb*5 ^ W.ns<=6*5 ^ 6:=Nat.mul_le_mul hv.b2 h2
 unfold Wk.allR
 have h4:6*5 ^ 6=93750:=rfl
 omega
theorem Uo {W:Wk} {m:Int×Int}:∀ (d s:Nat) (r:Int×Int),∀ l ∈ W.recs m d s r,l.length=d
 |0,s,r,l,h=>by
  unfold Wk.recs at h
  split at h
  ·simp at h;rw [h];rfl
  ·simp at h
 |d+1,s,r,l,h=>by
  unfold Wk.recs at h
  split at h
  ·obtain ⟨k,_,h2⟩:=List.mem_flatMap.1 h
   obtain ⟨l',h3,rfl⟩:=List.mem_map.1 h2
   rw [dE,Uo d (s+1) _ l' h3]
  ·simp at h
theorem Ur {W:Wk} {m:Int×Int} {l:List Nat} (h:l ∈ W.allR m):l.length=W.ns+1:=by
 obtain ⟨k,_,h2⟩:=List.mem_flatMap.1 h
 obtain ⟨l',h3,rfl⟩:=List.mem_map.1 h2
 rw [dE,Uo _ _ _ l' h3]
def Xg (M:mg) (k:Int×Int):Int:=match iO M k with|some (.int .i64 c)=>c|_=>0
def inc1 (M:mg) (k:Int×Int):mg:=lN M k (.int .i64 (Xg M k+1))
def Qq (M:mg) (rec:List Nat):Nat->mg
 |0=>M
 |i+1=>inc1 (Qq M rec i) ((i:Int) - 1,((rec.getD i 0:Nat):Int))
def zi (M:mg) (l:List (List Nat)):Nat->mg
 |0=>M
 |j+1=>Qq (zi M l j) (l.getD j []) (l.getD j []).length
def BR (M:mg) (c:Int):Prop:=∀ q ∈ M,∃ x:Int,q.2=.int .i64 x/\0<=x/\x<=c
theorem Y4 {M:mg} {c:Int} (h:BR M c) (hc:0<=c) (k:Int×Int):(iO M k=some (.i (Xg M k))\/iO M k=none/\Xg M k=0)/\0<=Xg M k/\Xg M k<=c:=by
 unfold Xg
 cases hg:iO M k with
 |none=>exact ⟨.inr ⟨rfl,rfl⟩,dy _,hc⟩
 |some v =>
  unfold iO at hg
  split at hg
  ·obtain ⟨q,h1,h2⟩:=Option.map_eq_some_iff.1 hg
   obtain ⟨x,h3,h4,h5⟩:=h q (eh h1)
   rw [h3] at h2
   subst h2
   exact ⟨.inl rfl,h4,h5⟩
  ·cases hg
theorem adz {M:mg} {c:Int} (h:BR M c) (k:Int×Int) {x:Int} (hx:0<=x) (hxc:x<=c+1):BR (lN M k (.i x)) (c+1):=by
 intro q hq
 have e:q ∈ M->∃ y:Int,q.2=.i y/\0<=y/\y<=c+1:=fun h1=>by
  obtain ⟨y,a,b,d⟩:=h q h1
  exact ⟨y,a,b,oO⟩
 unfold lN at hq
 split at hq
 ·rcases List.mem_or_eq_of_mem_set hq with h1|rfl
  ·exact e h1
  ·exact ⟨x,rfl,hx,hxc⟩
 ·rcases List.mem_append.1 hq with h1|h1
  ·exact e h1
  ·simp only [fj] at h1
   subst h1
   exact ⟨x,rfl,hx,hxc⟩
theorem Qr {M:mg} {c:Int} (h:BR M c) (hc:0<=c) (rec:List Nat):∀ i:Nat,BR (Qq M rec i) (c+i)
 |0=>by simpa [Qq] using h
 |i+1=>by
  have ih:=Qr h hc rec i
  have hg:=(Y4 ih oO ((i:Int) - 1,((rec.getD i 0:Nat):Int))).2
  have:=adz ih ((i:Int) - 1,((rec.getD i 0:Nat):Int)) (x:=Xg (Qq M rec i) ((i:Int) - 1,((rec.getD i 0:Nat):Int))+1) oO oO
  rw [show c+((i+1:Nat):Int)=c+i+1 by omega]
  exact this
theorem Y5 {M:mg} (h:BR M 0) {l:List (List Nat)} {n:Nat} (hl:∀ r ∈ l,r.length=n):∀ j≤l.length,BR (zi M l j) ((j*n:Nat):Int)
 |0,_=>by simpa [zi] using h
 |j+1,hj=>by
  have ih:=Y5 h hl j oO
  have a:(l.getD j []).length=n:=by
   rw [cE,cA oO,Option.getD_some]
   exact hl _ (cP _)
  have:=Qr ih oO (l.getD j []) (l.getD j []).length
  rw [a] at this
  unfold zi
  rw [a,show (((j+1)*n:Nat):Int)=((j*n:Nat):Int)+(n:Nat) by rw [Nat.succ_mul];omega]
  exact this
theorem Us {M:mg} {c:Int} (h:BR M c):∀ q ∈ M,plain q.2=true:=fun q hq=>by
 obtain ⟨x,h1,_⟩:=h q hq
 rw [h1];rfl
end Go.AH.Heat
namespace Go.Proofs.YtajpgeklmcjciaaGreat
attribute [local irreducible] dA bJ bK jh fQ dK eH bY eu aW dR dW
open Go.AH.Heat
theorem Oq {U:Heap} {tb:Nat}:Ev prog 281 [.p tb] U (.func (.func 297) #[] #[.p U.length]) (U++[.rw [.p tb]]):=by
 refine aH U.length 4 func281 (h:=?_)
 repeat' (first|refine sCm ?_|(refine gU ?_;refine sK7 ?_)|refine aG ?_)
 exact dG (.tmp rfl .nil) .all ⟨rfl,rfl⟩
theorem Xh {A B:Prop} (k:B) (h:Hide B->A:=by intro z_;(repeat' (first|refine sCm ?_|(refine gU ?_;first|(refine cO ?_;first|refine st (aJ rfl (by first|exact hc1|exact hc2|exact aF a0)) rfl rfl ?_|refine st (bG rfl (by first|exact hd1|exact dZ rfl)) rfl rfl ?_)|refine sK0 ?_|(refine rW ?_;refine st (iV rfl) rfl rfl ?_)|refine sK3 ?_|(refine dV ?_;refine st (bC rfl rfl rfl (by exact hf3)) rfl rfl ?_)|refine Me ?_|(refine gZ ?_;refine stN (bW rfl rfl rfl rfl (by exact hput _ _)) rfl ?_))|refine aG ?_|refine fA rfl ?_|refine fM rfl ?_));exact z_.h):A:=h ⟨k⟩
theorem Hq {W:Wk} {m:Int×Int} (hv:Dj W) (hm:oL m) {U:Heap} {l ib tb fb rb bB cB bS cS N' p1:Nat} {wB cW:Nat->Nat} {kB cK:Nat->Nat->Nat} {e':Env} {assign body:Code} {R:Value->Heap->Prop} (S:Nat->Heap)
  (h0:S 0=U) (hlen:∀ j,(S j).length=U.length) (hib:∀ j,aK (S j) ib 0 1=some [.p tb]) (hT:∀ j,sG (S j) W m tb fb rb bB cB bS cS wB cW kB cK)
  (hL:∀ j,(S j)[l]?=some (.loop .ready none N' e' [p1].toArray assign body)) (hcl:fD U.length U->∀ j,fD U.length (S j)) (hps:Nat.blt p1 N'=true)
  (hround:∀ (j:Nat) (hj:j<(W.allR m).length) (X:Heap) (QB:Post) (iq:Nat),X.all (fun o=>!aU o)=true->U.length<=iq->(S j++X)[iq]?=some (.rw (gQ ((W.allR m)[j])))->(∀ e1 mk1 Y,QB .normal e1 mk1 ((S (j+1)).set l (.loop .busy none N' e' [p1].toArray assign body)++X++Y)) ->
   bJ prog (U.length+X.length) N' (some l) assign (dR prog (U.length+X.length) N' l body QB) (lu [p1] [.s iq (1+W.ns) (1+W.ns)] e') [] (S j++X))
  (hR:R (.tuple #[]) (S (W.allR m).length)):eu prog 297 [.func (.yield l) #[] #[],.p ib] U R:=by
 refine aH U.length 24 func297 (h:=?_)
 refine WO fun e=>?_
 have a:=hcl e
 clear e hcl
 rw [<- h0]
 have hll:l<(S 0).length:=aS (hL 0)
 have hns3:=hv.s
 have hnb3:=hv.b2
 have hb:∀ j,aI (S j) ib (0+0)=some (.p tb):=fun j=>eX (hib j) oO
 have hc1:=hb 0
 have a0:=(hT 0).t
 refine Xh ?_
 clear hc1 a0
 refine dO (ι:=Nat) (fun k=>[(0,.func (.yield l) #[] #[]),(1,.p ib),(9,.s bB W.nb cB),(10,.i (W.nb:Nat)),(11,.i (k:Nat))])
  (fun k mk H=>k<=W.nb/\mk=[]/\∃ ZZ:Heap,ZZ.all (fun o=>!aU o)=true/\H=S (((List.range k).flatMap fun b=>(W.recs m W.ns 0 (W.bf b)).map (b::·)).length)++ZZ) (fun k=>W.nb - k) 0 tE ⟨bL _,rfl,[],rfl,by simp⟩ ?_
 rintro k mk H ⟨hk,rfl,ZZ,hZ,hH⟩
 obtain ⟨b,f⟩:=xy (((List.range k).flatMap fun b=>(W.recs m W.ns 0 (W.bf b)).map (b::·)).length)
 rw [<- f] at hH
 have hp:H.take (S b).length=S b:=by rw [hH];simp
 have O:(S b).length=(S 0).length:=by rw [hlen,hlen]
 have hHl:=take_len hp
 by_cases v:k<W.nb
 ·have J:(k:Int)<(W.nb:Nat):=oO
  have y:=hv.b k v
  have hd1:aK H bB (0+k*2) 2=some [.i (W.bf k).1,.i (W.bf k).2]:=by rw [aR];exact ((hT b).take hp).w.bars k v
  have hput:∀ c c',putCells (H++[aC.rw [c,c']]) H.length 0 [.i (W.bf k).1,.i (W.bf k).2]=some (H++[aC.rw [.i (W.bf k).1,.i (W.bf k).2]]):=fun c c'=>iH (aD _) (cL _)
  have hc2:aI (H++[aC.rw [.i (W.bf k).1,.i (W.bf k).2]]) ib (0+0)=some (.p tb):=by rw [mW (by have:=dS (hib b);omega),eX (dJ hp (hib b)) oO];rfl
  have b4:(H++[aC.rw [.i (W.bf k).1,.i (W.bf k).2]])[H.length]?=some (.rw [.i (W.bf k).1,.i (W.bf k).2]):=aN
  obtain ⟨X3,u⟩:=xy (ZZ++[aC.rw [.i (W.bf k).1,.i (W.bf k).2]]++[aC.rw [.i (k:Nat)]])
  have d:Ni X3:=by rw [u];exact aX (aX hZ rfl) rfl
  have M:H++[aC.rw [.i (W.bf k).1,.i (W.bf k).2]]++[aC.rw [.i (k:Nat)]]=S b++X3:=by rw [hH,u];simp
  have K:∀ i,(S (b+i)++X3).length=(S b++X3).length:=fun i=>by rw [bA,bA,hlen,hlen]
  have q:∀ i,(S (b+i)++X3)[(H++[aC.rw [.i (W.bf k).1,.i (W.bf k).2]]).length]?=some (.rw (gQ [k])):=fun i=>by
   have e1:(H++[aC.rw [.i (W.bf k).1,.i (W.bf k).2]]).length=(S (b+i)).length+(ZZ.length+1):=by rw [hH];simp [hlen]
   rw [e1,bE oO,u,bE oS]
   simp [gQ]
  have L:∀ i,l<(S i).length:=fun i=>aS (hL i)
  have hf3:=aaI (U:=S b++X3) hv hm W.ns (s:=0) (ib:=(H++[aC.rw [.i (W.bf k).1,.i (W.bf k).2]]).length) (n:=1) (l:=l) (N':=N') (p1:=p1) (e':=e') (assign:=assign) (body:=body) (rec:=[k]) (r:=W.bf k) (fun i=>S (b+i)++X3) oO y rfl K
   (fun i=>(hT (b+i)).take (aP eb)) q ⟨rfl,oO,oO⟩ (lo:=U.length) ⟨by rw [bA];have:=hlen 0;omega,by rw [bA,hlen];omega⟩ (fun i=>aA (hL (b+i))) (fun h i=>Az (zh (by rw [bA,hlen];omega) (a (b+i))) (xI (A:=S b) h)) hps (fun j hj X QB iq D F N hQ=>by
    have C:((fun b=>(W.recs m W.ns 0 (W.bf b)).map (b::·)) k)[j]?=some (k::(W.recs m W.ns 0 (W.bf k))[j]):=by
     show ((W.recs m W.ns 0 (W.bf k)).map (k::·))[j]?=_
     rw [cJ,cA hj];rfl
    have x:=flat_get (fun b=>(W.recs m W.ns 0 (W.bf b)).map (b::·)) v C
    rw [<- f] at x
    obtain ⟨G,E⟩:=List.getElem?_eq_some_iff.1 x
    have z:=hround (b+j) G (X3++X) QB iq (aX d D) F (by rw [<- cD,N];exact congrArg (fun l=>some (aC.rw (gQ l))) E.symm) (fun e1 mk1 Y=>by
     have h1:=hQ e1 mk1 Y
     rw [cI _ _ (L _)] at h1
     rw [<- cD];exact h1)
    rw [show (S b++X3).length+X.length=U.length+(X3++X).length by rw [bA,bA,hlen];omega,cD]
    exact z)
  rw [<- M] at hf3
  refine Xh ?_
  refine ⟨k+1,⟨oO,rfl,X3,d,?_⟩,oO,tE⟩
  rw [EG,<- f,cU]
 ·obtain rfl:k=W.nb:=oO
  have J:¬ ((W.nb:Nat):Int)<(W.nb:Nat):=oO
  have g:fD (S b).length (S b):=by have:=a b;rwa [<- hlen b] at this
  have I:b=(W.allR m).length:=f
  refine Xh ?_
  rw [hH]
  exact RZ (v2:=.tuple #[]) (σ2:=S b) .nil (aW.dropAll O.symm g rfl) (by rw [I];exact hR)
theorem Ut (n lo hi:Int):Ev prog 174 [.i n,.p 0,.p 1] [.ro [.i lo],.ro [.i hi]] (.bool (decide (n<lo\/n > hi))) [.ro [.i lo],.ro [.i hi]]:=by
 refine aH 2 13 func174 (h:=?_)
 repeat' (first|refine sCm ?_|(refine gU ?_;first|refine Iw ?_|refine sK0 ?_|(refine lM ?_;first|refine st (kC rfl (by exact fE oA) rfl) rfl rfl ?_|refine st (je rfl (by exact bM oA) rfl) rfl rfl ?_))|(refine gG ?_;first|refine WE ?_|(refine cO ?_;refine stG rfl (by exact bM oA) (aJ rfl oR) rfl rfl ?_)|refine TJ ?_|refine aap ?_|((fail_if_success (refine VO rfl oR ?_));(refine zC rfl ?_ ?_ <;> intro _)))|refine aG ?_)
 all_goals
  refine dG (.tmp rfl .nil) (.plain rfl rfl) ⟨?_,rfl⟩
  simp only [jH,Value.bool.injEq]
  (simp;omega)
theorem Uu {U:Heap} {n lo hi:Int} {a b:Nat} (ha:dD U a [.i lo]) (hb:dD U b [.i hi]) (hni:Ni U) :
  Ev prog 174 [.i n,.p a,.p b] U (.bool (decide (n<lo\/n > hi))) U :=
 Ev.arrs [[.i lo],[.i hi]] [a,b] (Ut n lo hi) ⟨ha,hb,trivial⟩ ⟨.int _ _,by simpa [bsR] using VQ.ptr (q:=true) (n:=2) (V:=bsR [a,b]) 0 0 oO,by simpa [bsR] using VQ.ptr (q:=true) (n:=2) (V:=bsR [a,b]) 1 0 oO,trivial⟩ rfl rfl hni
theorem ML (l:List Int) (lo hi:Int) (c:Nat) (hN:l.length<=1000000) :
  Ev prog 102 [.s 0 l.length c,.func (.func 174) #[] #[.p 1,.p 2]] [.ro (ints l),.ro [.i lo],.ro [.i hi]] (.i (kR lo hi l)) [.ro (ints l),.ro [.i lo],.ro [.i hi]]:=by
 refine aH 3 19 func102 (h:=?_)
 repeat' (first|refine sCm ?_|refine aG ?_)
 refine jq (ι:=Nat) (fun i=>[(0,.s 0 l.length c),(1,.func (.func 174) #[] #[.p 1,.p 2]),(7,.i (l.length:Int)),(8,.i (i:Int))])
  (fun _=>[.ro (ints l),.ro [.i lo],.ro [.i hi]]) (fun i=>l.length - i) (fun i=>i<=l.length/\∀ j<i,¬ (gi l j<lo\/gi l j > hi)) 0 oS (.same tE) ⟨oO,fun j h=>oO⟩ ?_
 intro i ⟨hi',a⟩
 have hc1:i<l.length->aI [.ro (ints l),.ro [.i lo],.ro [.i hi]] 0 i=some (.i (gi l i)):=fun h=>iF h
 repeat' (first|refine sCm ?_|(refine gU ?_;first|(refine cO ?_;refine st (aJ rfl (by exact hc1 oO)) rfl rfl ?_)|refine sK0 ?_|refine sK6 ?_|(refine dV ?_;refine st (bC rfl rfl rfl (by exact Uu (by exact .inl rfl) (by exact .inl rfl) rfl)) rfl rfl ?_))|refine aG ?_|(refine jm rfl ?_ ?_ <;> intro _))
 ·refine dG (.tmp rfl .nil) (.plain rfl rfl) ⟨?_,rfl⟩
  simp only [jH]
  rw [su oO oA a]
 ·refine ⟨rfl,i+1,⟨oO,fun j hj=>?_⟩,oO,.same tE⟩
  by_cases d:j=i
  ·subst d;assumption
  ·exact a j oO
 ·refine dG (.tmp rfl .nil) (.plain rfl rfl) ⟨?_,rfl⟩
  simp only [jH]
  rw [sD fun j hj=>a j oO]
theorem MN {U:Heap} {l:List Int} {lo hi:Int} {x a b c:Nat} (hx:dD U x (ints l)) (ha:dD U a [.i lo]) (hb:dD U b [.i hi]) (hN:l.length<=1000000) (hni:Ni U) :
  Ev prog 102 [.s x l.length c,.func (.func 174) #[] #[.p a,.p b]] U (.i (kR lo hi l)) U :=
 Ev.arrs [ints l,[.i lo],[.i hi]] [x,a,b] (ML l lo hi c hN) ⟨hx,ha,hb,trivial⟩
  ⟨by simpa [bsR] using VQ.slice (q:=true) (n:=3) (V:=bsR [x,a,b]) 0 0 l.length c c (aD _) oO,
   vsub_fn2 (by simpa [bsR] using VQ.ptr (q:=true) (n:=3) (V:=bsR [x,a,b]) 1 0 oO) (by simpa [bsR] using VQ.ptr (q:=true) (n:=3) (V:=bsR [x,a,b]) 2 0 oO),trivial⟩ (by simp [aZ,dN,plain]) rfl hni
theorem Gg (l:List Int) (lo hi:Int) (c:Nat) (hN:l.length<=1000000) :
  Ev prog 172 [.s 0 l.length c,.func (.func 174) #[] #[.p 1,.p 2]] [.ro (ints l),.ro [.i lo],.ro [.i hi]] (.bool (decide (kR lo hi l>=0))) [.ro (ints l),.ro [.i lo],.ro [.i hi]]:=by
 refine aH 3 9 func172 (h:=?_)
 repeat' (first|refine sCm ?_|(refine gU ?_;first|refine sK0 ?_|(refine dV ?_;refine st (bC rfl rfl rfl (by exact MN (by exact .inl rfl) (by exact .inl rfl) (by exact .inl rfl) oO rfl)) rfl rfl ?_))|refine aG ?_)
 refine dG (.tmp rfl .nil) (.plain rfl rfl) ⟨?_,rfl⟩
 rfl
theorem Gh {U:Heap} {l:List Int} {lo hi:Int} {x a b c:Nat} (hx:dD U x (ints l)) (ha:dD U a [.i lo]) (hb:dD U b [.i hi]) (hN:l.length<=1000000) (hni:Ni U) :
  Ev prog 172 [.s x l.length c,.func (.func 174) #[] #[.p a,.p b]] U (.bool (decide (kR lo hi l>=0))) U :=
 Ev.arrs [ints l,[.i lo],[.i hi]] [x,a,b] (Gg l lo hi c hN) ⟨hx,ha,hb,trivial⟩
  ⟨by simpa [bsR] using VQ.slice (q:=true) (n:=3) (V:=bsR [x,a,b]) 0 0 l.length c c (aD _) oO,
   vsub_fn2 (by simpa [bsR] using VQ.ptr (q:=true) (n:=3) (V:=bsR [x,a,b]) 1 0 oO) (by simpa [bsR] using VQ.ptr (q:=true) (n:=3) (V:=bsR [x,a,b]) 2 0 oO),trivial⟩ (by simp [aZ,dN,plain]) rfl hni
theorem Xi (l:List Int) (lo hi:Int) (c:Nat) (hN:l.length<=1000000) :
  Ev prog 84 [.i lo,.i hi,.s 0 l.length c] [.ro (ints l)] (.bool (decide (¬ (kR lo hi l>=0)))) [.ro (ints l)]:=by
 refine aH 1 11 func84 (h:=?_)
 repeat' (first|refine sCm ?_|(refine gU ?_;first|refine TK ?_|refine sK7 ?_|(refine dV ?_;refine st (bC rfl rfl rfl (by exact Gh (by exact .inl rfl) (by exact .inr (.inl rfl)) (by exact .inr (.inl rfl)) oO rfl)) rfl rfl ?_))|refine aG ?_)
 refine dG (.tmp rfl .nil) (.plain rfl rfl) ⟨?_,rfl⟩
 rfl
theorem Xj {U:Heap} {l:List Int} {lo hi:Int} {x c:Nat} (hx:dD U x (ints l)) (hN:l.length<=1000000) (hni:Ni U) :
  Ev prog 84 [.i lo,.i hi,.s x l.length c] U (.bool (decide (¬ (kR lo hi l>=0)))) U :=
 Ev.arrs [ints l] [x] (Xi l lo hi c hN) ⟨hx,trivial⟩ ⟨.int _ _,.int _ _,by simpa [bsR] using VQ.slice (q:=true) (n:=1) (V:=bsR [x]) 0 0 l.length c c (aD _) oO,trivial⟩ (by simp [aZ]) rfl hni
theorem oM {U:Heap} {l:List Int} {lo hi:Int} {x c:Nat} (hx:dD U x (ints l)) (hN:l.length<=1000000) (hni:Ni U) :
  Ev prog 84 [.i lo,.i hi,.s x l.length c] U (.bool (decide (∀ y ∈ l,lo<=y/\y<=hi))) U:=by
 have h:=Xj (U:=U) (l:=l) (lo:=lo) (hi:=hi) (c:=c) hx hN hni
 have e:(¬ (kR lo hi l>=0))↔(∀ y ∈ l,lo<=y/\y<=hi):=Go.AH.Ol
 simpa [e] using h
theorem yB {U:Heap} {lo hi:Int}:Ev prog 220 [.i lo,.i hi] U (.func (.func 278) #[] #[.p U.length,.p (U.length+1)]) (U++[.rw [.i lo]]++[.rw [.i hi]]):=by
 refine aH U.length 6 func220 (h:=?_)
 repeat' (first|refine sCm ?_|(refine gU ?_;refine sK7 ?_)|refine aG ?_)
 have e:(U++[aC.rw (dM (.i lo))]).length=U.length+1:=oS
 rw [e]
 exact dG (.tmp rfl .nil) .all ⟨rfl,rfl⟩
theorem Y6 {A B:Prop} (k:B) (h:Hide B->A:=by intro z_;(repeat' (first|(refine gU ?_;first|refine MF ?_|refine MG ?_|(refine cO ?_;refine st (aJ rfl (by first|exact aF a1|exact aF a2)) rfl rfl ?_)|refine sK9 ?_|refine sK0 ?_|(refine rW ?_;refine st (iV rfl) rfl rfl ?_))|refine uq ?_|refine aG ?_|refine kU ?_|refine rG ?_|refine ZL ?_|refine uz ?_|refine CJ rfl ?_|refine xE ?_|refine yN ?_|refine qg ?_|refine sK2 ?_|refine sK1 ?_|fail));exact z_.h):A:=h ⟨k⟩
theorem zn {lo hi:Int} (hlo:-1000000<=lo) (hlo2:lo<=1000000) (hhi:hi<=1000000) {n:Nat} (hn:n=(hi+1 - lo).toNat) {U:Heap} {l lb hb N' p1:Nat} {e':Env} {assign body:Code} {R:Value->Heap->Prop} (S:Nat->Heap)
  (h0:S 0=U) (hlen:∀ j,(S j).length=U.length) (hlb:∀ j,(S j)[lb]?=some (.rw [.i lo])) (hhb:∀ j,(S j)[hb]?=some (.rw [.i hi]))
  (hL:∀ j,(S j)[l]?=some (.loop .ready none N' e' [p1].toArray assign body)) (hcl:fD U.length U->∀ j,fD U.length (S j)) (hps:Nat.blt p1 N'=true)
  (hround:∀ (j:Nat) (hj:j<n) (X:Heap) (QB:Post),(∀ e1 mk1 Y,QB .normal e1 mk1 ((S (j+1)).set l (.loop .busy none N' e' [p1].toArray assign body)++X++Y)) ->
   bJ prog (U.length+X.length) N' (some l) assign (dR prog (U.length+X.length) N' l body QB) (lu [p1] [.i (lo+j)] e') [] (S j++X))
  (hR:R (.tuple #[]) (S n)):eu prog 278 [.func (.yield l) #[] #[],.p lb,.p hb] U R:=by
 refine aH U.length 15 func278 (h:=?_)
 refine WO fun a=>?_
 have c:=hcl a
 clear a hcl
 rw [<- h0]
 have hll:l<(S 0).length:=aS (hL 0)
 have a1:=hlb 0
 have a2:=hhb 0
 refine Y6 ?_
 clear a1 a2
 refine dO (ι:=Nat) (fun k=>[(0,.func (.yield l) #[] #[]),(1,.p lb),(2,.p hb),(4,.i (lo+k))])
  (fun k mk H=>k<=n/\mk=[]/\∃ ZZ:Heap,H=S k++ZZ) (fun k=>n - k) 0 ⟨rfl,rfl,rfl,(by simp [Env.get]),trivial⟩ ⟨bL _,rfl,[],by simp⟩ ?_
 rintro k mk H ⟨hk,rfl,ZZ,hH⟩
 have hp:H.take (S k).length=S k:=by rw [hH];simp
 have m:(S k).length=(S 0).length:=by rw [hlen,hlen]
 have hHl:=take_len hp
 have a1:H[lb]?=some (.rw [.i lo]):=by rw [hH];exact aA (hlb k)
 have a2:H[hb]?=some (.rw [.i hi]):=by rw [hH];exact aA (hhb k)
 by_cases r:k<n
 ·have q:lo+(k:Int)<=hi:=oO
  refine Y6 ?_
  have g:H[l]?=some (.loop .ready none N' e' [p1].toArray assign body):=by rw [hH];exact aA (hL k)
  refine yh (ps:=[p1]) rfl rfl g rfl (by simp [hps]) rfl ?_
  have f:=hround k r ZZ
  rw [show U.length+ZZ.length=H.length by rw [hH,bA,hlen],<- hH] at f
  refine f _ fun e1 mk1 Y=>?_
  have o:l<(S (k+1)).length:=aS (hL _)
  refine vV (aA (aA (aQ (hL (k+1))))) rfl ?_
  have e:(((S (k+1)).set l (aC.loop .busy none N' e' [p1].toArray assign body))++ZZ++Y).set l (kV .ready none (aC.loop .busy none N' e' [p1].toArray assign body))=S (k+1)++(ZZ++Y):=by
   rw [cD,cI _ _ (oU o),cN]
   simp only [kV]
   rw [set_self (hL (k+1))]
  rw [e]
  refine Y6 ?_
  exact ⟨k+1,⟨oO,rfl,ZZ++Y,rfl⟩,oO,⟨rfl,rfl,rfl,congrArg (fun x=>some (Value.i x)) oO,trivial⟩⟩
 ·obtain rfl:k=n:=oO
  have q:¬ lo+(k:Int)<=hi:=oO
  refine Y6 ?_
  have d:fD (S k).length (S k):=by have:=c k;rwa [<- hlen k] at this
  rw [hH]
  exact RZ (v2:=.tuple #[]) (σ2:=S k) .nil (aW.dropAll m.symm d rfl) hR
theorem Y7 {A B:Prop} (k:B) (h:Hide B->A:=by intro z_;(repeat' (first|(refine gU ?_;first|refine MF ?_|refine MG ?_|(refine cO ?_;refine st (aJ rfl (by first|exact aF a1|exact aF a2)) rfl rfl ?_)|refine sK9 ?_|refine sK0 ?_|(refine rW ?_;refine st (iV rfl) rfl rfl ?_))|refine uq ?_|refine aG ?_|refine kU ?_|refine rG ?_|refine ZL ?_|refine uz ?_|refine CJ rfl ?_|refine xE ?_|refine yN ?_|refine qg ?_|refine sK2 ?_|refine sK1 ?_|fail));exact z_.h):A:=h ⟨k⟩
theorem Uw {lo hi:Int} (hlo:-1000000<=lo) (hlo2:lo<=1000000) (hhi:hi<=1000000) {n:Nat} (hn:n=(hi+1 - lo).toNat) {U:Heap} {l lb hb N' p1:Nat} {e':Env} {assign body:Code} {R:Value->Heap->Prop} (I:Nat->Heap->Prop)
  (h0:I 0 U) (hlen:∀ j H,I j H->U.length<=H.length) (hlb:∀ j H,I j H->H[lb]?=some (.rw [.i lo])) (hhb:∀ j H,I j H->H[hb]?=some (.rw [.i hi]))
  (hL:∀ j H,I j H->H[l]?=some (.loop .ready none N' e' [p1].toArray assign body)) (hps:Nat.blt p1 N'=true)
  (hround:∀ (j:Nat) (hj:j<n) (H:Heap) (hI:I j H) (QB:Post),(∀ e1 mk1 H',I (j+1) H'->QB .normal e1 mk1 (H'.set l (.loop .busy none N' e' [p1].toArray assign body))) ->
   bJ prog H.length N' (some l) assign (dR prog H.length N' l body QB) (lu [p1] [.i (lo+j)] e') [] H)
  (hR:∀ H,I n H->R (.tuple #[]) H):eu prog 278 [.func (.yield l) #[] #[],.p lb,.p hb] U R:=by
 refine aH U.length 15 func278 (h:=?_)
 have a1:=hlb 0 _ h0
 have a2:=hhb 0 _ h0
 refine Y7 ?_
 clear a1 a2
 refine dO (ι:=Nat) (fun k=>[(0,.func (.yield l) #[] #[]),(1,.p lb),(2,.p hb),(4,.i (lo+k))])
  (fun k mk H=>k<=n/\mk=[]/\I k H) (fun k=>n - k) 0 ⟨rfl,rfl,rfl,(by simp [Env.get]),trivial⟩ ⟨bL _,rfl,h0⟩ ?_
 rintro k mk H ⟨hk,rfl,hI⟩
 have a1:=hlb k H hI
 have a2:=hhb k H hI
 by_cases e:k<n
 ·have f:lo+(k:Int)<=hi:=oO
  refine Y7 ?_
  refine yh (ps:=[p1]) rfl rfl (hL k H hI) rfl (by simp [hps]) rfl ?_
  refine hround k e H hI _ fun e1 mk1 H' c=>?_
  have d:=hL (k+1) H' c
  refine vV (aQ d) rfl ?_
  have a:(H'.set l (aC.loop .busy none N' e' [p1].toArray assign body)).set l (kV .ready none (aC.loop .busy none N' e' [p1].toArray assign body))=H':=by
   rw [cN]
   simp only [kV]
   rw [set_self d]
  rw [a]
  refine Y7 ?_
  exact ⟨k+1,⟨oO,rfl,c⟩,oO,⟨rfl,rfl,rfl,congrArg (fun x=>some (Value.i x)) oO,trivial⟩⟩
 ·obtain rfl:k=n:=oO
  have f:¬ lo+(k:Int)<=hi:=oO
  refine Y7 ?_
  exact RZ (v2:=.tuple #[]) (σ2:=H) .nil .all (hR H hI)
end Go.Proofs.YtajpgeklmcjciaaGreat
namespace Go.AH.Warp
def bZ (f:Nat->Int):Nat->Int
 |0=>0
 |n+1=>bZ f n+f n
def ab (x:Int):Int:=max x (-x)
theorem Dl {f g:Nat->Int}:∀ {n:Nat},(∀ i<n,f i=g i)->bZ f n=bZ g n
 |0,_=>rfl
 |n+1,h=>by simp only [bZ];rw [Dl fun i hi=>h i oO,h n oO]
theorem AA (f g:Nat->Int):∀ n,bZ (fun i=>f i+g i) n=bZ f n+bZ g n
 |0=>rfl
 |n+1=>by simp only [bZ];rw [AA f g n];omega
theorem Qs {f g:Nat->Int}:∀ {n:Nat},(∀ i<n,f i<=g i)->bZ f n<=bZ g n
 |0,_=>by simp [bZ]
 |n+1,h=>by have h1:=Qs (f:=f) (g:=g) (n:=n) fun i hi=>h i oO;have h2:=h n oO;simp only [bZ];omega
def Qu (f:Nat->Int) (j:Nat) (x:Int):Nat->Int:=fun i=>if i=j then x else f i
theorem yC {f:Nat->Int} {j:Nat} {x:Int}:Qu f j x j=x:=by simp [Qu]
theorem wY {f:Nat->Int} {i j:Nat} {x:Int} (h:i ≠ j):Qu f j x i=f i:=by simp [Qu,h]
theorem AB {f:Nat->Int} {j:Nat} {x:Int}:∀ {n:Nat},bZ (Qu f j x) n=bZ f n+(if j<n then x - f j else 0)
 |0=>by simp [bZ]
 |n+1=>by
  simp only [bZ]
  rw [AB (n:=n)]
  by_cases h:n=j
  ·subst h;rw [yC];simp;omega
  ·rw [wY h]
   by_cases h2:j<n
   ·rw [if_pos h2,if_pos oO];omega
   ·rw [if_neg h2,if_neg oO];omega
structure Bl where
 n:Nat
 lo:Nat->Int
 hi:Nat->Int
 hard:Nat->Int
 most:Int
namespace Bl
variable (b:Bl)
def jy (d:Nat->Int) (i:Nat):Int:=bZ d (i+1)
def Fits (d:Nat->Int):Prop:=∀ i<b.n,-b.most<=d i/\d i<=b.most/\b.lo i<=jy d i/\jy d i<=b.hi i
def cost (d:Nat->Int):Int:=bZ (fun i=>b.hard i*ab (d i)) b.n
def Best (d:Nat->Int):Prop:=b.Fits d/\∀ d',b.Fits d'->b.cost d<=b.cost d'
def Ok:Prop:=∀ i<b.n,1<=b.hard i/\b.hard i<=9
def meet (x y:Int×Int):Int×Int:=(max x.1 y.1,min x.2 y.2)
def borne (hard most d:Int):Int×Int :=
 let lo:=if d > 0 then hard else -hard
 let hi:=if d<0 then -hard else hard
 let hi:=if d=most then 9 else hi
 let lo:=if d=-most then -9 else lo
 (lo,hi)
def next (r:Int×Int) (jy lo hi:Int):Int×Int :=
 if jy > lo/\jy<hi then r
 else if lo=hi then (-9,9)
 else (if jy<hi then -9 else r.1,if jy > lo then 9 else r.2)
def now (d:Nat->Int):Nat->Int×Int
 |0=>(-9,9)
 |i+1=>next (meet (now d i) (borne (b.hard i) b.most (d i))) (jy d i) (b.lo i) (b.hi i)
def rng (d:Nat->Int) (i:Nat):Int×Int:=meet (b.now d i) (borne (b.hard i) b.most (d i))
theorem AL (d:Nat->Int) (i:Nat):b.now d (i+1)=next (b.rng d i) (jy d i) (b.lo i) (b.hi i):=rfl
def gW (d:Nat->Int):Nat->Int
 |0=>0
 |k+1=>if jy d (b.n - (k+1)) > b.lo (b.n - (k+1))/\jy d (b.n - (k+1))<b.hi (b.n - (k+1)) then gW d k
  else max (b.rng d (b.n - (k+1))).1 (min (b.rng d (b.n - (k+1))).2 (gW d k))
def pull (d:Nat->Int) (i:Nat):Int:=b.gW d (b.n - i) - b.gW d (b.n - i - 1)
def ahf (d:Nat->Int) (i:Nat) (L:Int):Prop:=L=-9\/∃ j<i,d j > -b.most/\L=(if d j > 0 then b.hard j else -b.hard j)/\∀ k,j<=k->k<i->jy d k > b.lo k
def ahg (d:Nat->Int) (i:Nat) (H:Int):Prop:=H=9\/∃ j<i,d j<b.most/\H=(if d j<0 then -b.hard j else b.hard j)/\∀ k,j<=k->k<i->jy d k<b.hi k
theorem KW {d:Nat->Int} (hf:b.Fits d) (ho:b.Ok):∀ i≤b.n,b.ahf d i (b.now d i).1/\b.ahg d i (b.now d i).2
 |0,_=>⟨.inl rfl,.inl rfl⟩
 |i+1,hi=>by
  obtain ⟨f,e⟩:=KW hf ho i oO
  have hfi:=hf i oO
  have hoi:=ho i oO
  rw [AL]
  have a:jy d i > b.lo i->b.ahf d (i+1) (b.rng d i).1:=by
   intro hb
   have hr:(b.rng d i).1=max (b.now d i).1 (borne (b.hard i) b.most (d i)).1:=rfl
   rcases Int.le_total (b.now d i).1 (borne (b.hard i) b.most (d i)).1 with h|h
   ·rw [hr,ea h]
    by_cases hm:d i=-b.most
    ·left;simp only [borne];rw [if_pos hm]
    ·right
     refine ⟨i,oO,oO,?_,fun k h1 h2=>?_⟩
     ·simp only [borne];rw [if_neg hm]
     ·have:k=i:=oO
      rw [this];exact hb
   ·rw [hr,ec h]
    rcases f with h9|⟨j,h1,h2,h3,h4⟩
    ·exact .inl h9
    ·refine .inr ⟨j,oO,h2,h3,fun k g1 g2=>?_⟩
     by_cases hk:k=i
     ·rw [hk];exact hb
     ·exact h4 k g1 oO
  have c:jy d i<b.hi i->b.ahg d (i+1) (b.rng d i).2:=by
   intro hb
   have hr:(b.rng d i).2=min (b.now d i).2 (borne (b.hard i) b.most (d i)).2:=rfl
   rcases Int.le_total (borne (b.hard i) b.most (d i)).2 (b.now d i).2 with h|h
   ·rw [hr,Int.min_eq_right h]
    by_cases hm:d i=b.most
    ·left;simp only [borne];rw [if_pos hm]
    ·right
     refine ⟨i,oO,oO,?_,fun k h1 h2=>?_⟩
     ·simp only [borne];rw [if_neg hm]
     ·have:k=i:=oO
      rw [this];exact hb
   ·rw [hr,Int.min_eq_left h]
    rcases e with h9|⟨j,h1,h2,h3,h4⟩
    ·exact .inl h9
    ·refine .inr ⟨j,oO,h2,h3,fun k g1 g2=>?_⟩
     by_cases hk:k=i
     ·rw [hk];exact hb
     ·exact h4 k g1 oO
  unfold next
  split
  ·rename_i h;exact ⟨a h.1,c h.2⟩
  ·split
   ·exact ⟨.inl rfl,.inl rfl⟩
   ·rename_i h1 h2
    constructor
    ·simp only
     split
     ·exact .inl rfl
     ·rename_i h3;exact a oO
    ·simp only
     split
     ·exact .inl rfl
     ·rename_i h3;exact c oO
def moved (d:Nat->Int) (j i:Nat) (x:Int):Nat->Int:=Qu (Qu d j (d j+x)) i (d i - x)
theorem Xk {d:Nat->Int} {j i:Nat} {x:Int} (h:j<i) (k:Nat):jy (moved d j i x) k=jy d k+(if j<=k/\k<i then x else 0):=by
 unfold jy moved
 rw [AB,AB,wY oO]
 by_cases h1:j<=k
 ·rw [if_pos (by omega:j<k+1)]
  by_cases h2:k<i
  ·rw [if_neg (by omega:¬ i<k+1),if_pos ⟨h1,h2⟩];omega
  ·rw [if_pos (by omega:i<k+1),if_neg oO];omega
 ·rw [if_neg (by omega:¬ j<k+1),if_neg (by omega:¬ i<k+1),if_neg oO];omega
theorem Qv {d:Nat->Int} {j i:Nat} {x:Int} (h:j<i):moved d j i x j=d j+x:=by
 unfold moved;rw [wY oO,yC]
theorem Qw {d:Nat->Int} {j i:Nat} {x:Int}:moved d j i x i=d i - x:=by
 unfold moved;rw [yC]
theorem KX {d:Nat->Int} {j i k:Nat} {x:Int} (h1:k ≠ j) (h2:k ≠ i):moved d j i x k=d k:=by
 unfold moved;rw [wY h2,wY h1]
theorem Xl {f:Int->Nat->Int} {d:Nat->Int} {j i n:Nat} {x:Int} (h:j<i) (hj:j<n) :
  bZ (fun k=>f (moved d j i x k) k) n=bZ (fun k=>f (d k) k) n+(f (d j+x) j - f (d j) j)+(if i<n then f (d i - x) i - f (d i) i else 0):=by
 have:(fun k=>f (moved d j i x k) k)=Qu (Qu (fun k=>f (d k) k) j (f (d j+x) j)) i (f (d i - x) i):=by
  funext k
  by_cases h1:k=i
  ·subst h1;rw [yC,Qw]
  ·rw [wY h1]
   by_cases h2:k=j
   ·subst h2;rw [yC,Qv h]
   ·rw [wY h2,KX h2 h1]
 rw [this,AB,AB,wY oO,if_pos hj]
theorem zo {d:Nat->Int} (hb:b.Best d) {j i:Nat} {x:Int} (h:j<i) (hi:i<=b.n)
  (h1:∀ k,j<=k->k<i->b.lo k<=jy d k+x/\jy d k+x<=b.hi k) (h2:-b.most<=d j+x/\d j+x<=b.most) (h3:i<b.n->-b.most<=d i - x/\d i - x<=b.most) :
  0<=(b.hard j*ab (d j+x) - b.hard j*ab (d j))+(if i<b.n then b.hard i*ab (d i - x) - b.hard i*ab (d i) else 0):=by
 have a:b.Fits (moved d j i x):=by
  intro k hk
  have hf:=hb.1 k hk
  have c:=Xk (d:=d) (x:=x) h k
  refine ⟨?_,?_,?_,?_⟩
  ·by_cases e1:k=j
   ·subst e1;rw [Qv h];exact h2.1
   ·by_cases e2:k=i
    ·subst e2;rw [Qw];exact (h3 hk).1
    ·rw [KX e1 e2];exact hf.1
  ·by_cases e1:k=j
   ·subst e1;rw [Qv h];exact h2.2
   ·by_cases e2:k=i
    ·subst e2;rw [Qw];exact (h3 hk).2
    ·rw [KX e1 e2];exact hf.2.1
  ·rw [c];split
   ·rename_i g;exact (h1 k g.1 g.2).1
   ·have:=hf.2.2.1;omega
  ·rw [c];split
   ·rename_i g;exact (h1 k g.1 g.2).2
   ·have:=hf.2.2.2;omega
 have hc:=hb.2 _ a
 unfold cost at hc
 rw [Xl (f:=fun y k=>b.hard k*ab y) h oO] at hc
 omega
theorem Dn {h y:Int}:h*ab (y - 1) - h*ab y=-(if y > 0 then h else -h):=by
 unfold ab
 split
 ·rw [ec oO,ec oO,<- Int.mul_sub];rw [show y - 1 - y=-1 by omega];omega
 ·rw [ea oO,ea oO,<- Int.mul_sub];rw [show -(y - 1) - -y=1 by omega];omega
theorem Dp {h y:Int}:h*ab (y+1) - h*ab y=(if y<0 then -h else h):=by
 unfold ab
 split
 ·rw [ea oO,ea oO,<- Int.mul_sub];rw [show -(y+1) - -y=-1 by omega];omega
 ·rw [ec oO,ec oO,<- Int.mul_sub];rw [show y+1 - y=1 by omega];omega
theorem AO {hard most d:Int} (h:1<=hard/\hard<=9):-9<=(borne hard most d).1/\(borne hard most d).1<=(borne hard most d).2/\(borne hard most d).2<=9:=by
 simp only [borne]
 refine ⟨?_,?_,?_⟩ <;> (repeat' split) <;> omega
theorem adA {d:Nat->Int} (hb:b.Best d) (ho:b.Ok):∀ i<b.n,(b.now d i).1<=(borne (b.hard i) b.most (d i)).2/\(borne (b.hard i) b.most (d i)).1<=(b.now d i).2:=by
 intro i hi
 obtain ⟨f1,f2⟩:=b.KW hb.1 ho i oO
 have f:=ho i hi
 have hbo:=AO (most:=b.most) (d:=d i) f
 have hfi:=hb.1 i hi
 constructor
 ·refine Int.not_lt.1 fun a=>?_
  rcases f1 with h9|⟨j,h1,h2,h3,h4⟩
  ·omega
  have g:=ho j oO
  have e:=hb.1 j oO
  have c:d i ≠ b.most:=by
   intro he
   have:(borne (b.hard i) b.most (d i)).2=9:=by simp only [borne];rw [if_pos he]
   rw [this,h3] at a
   split at a <;> omega
  have h5:(borne (b.hard i) b.most (d i)).2=if d i<0 then -b.hard i else b.hard i:=by simp only [borne];rw [if_neg c]
  have:=b.zo hb (x:=-1) h1 oO (fun k g1 g2=>by have:=h4 k g1 g2;have:=hb.1 k oO;omega) oO (fun _=>oO)
  rw [if_pos hi,show d j+-1=d j - 1 by omega,Dn,show d i - -1=d i+1 by omega,Dp,<- h3,<- h5] at this
  omega
 ·refine Int.not_lt.1 fun a=>?_
  rcases f2 with h9|⟨j,h1,h2,h3,h4⟩
  ·omega
  have g:=ho j oO
  have e:=hb.1 j oO
  have c:d i ≠ -b.most:=by
   intro he
   have:(borne (b.hard i) b.most (d i)).1=-9:=by simp only [borne];rw [if_pos he]
   rw [this,h3] at a
   split at a <;> omega
  have h5:(borne (b.hard i) b.most (d i)).1=if d i > 0 then b.hard i else -b.hard i:=by simp only [borne];rw [if_neg c]
  have:=b.zo hb (x:=1) h1 oO (fun k g1 g2=>by have:=h4 k g1 g2;have:=hb.1 k oO;omega) oO (fun _=>oO)
  rw [if_pos hi,Dp,Dn,<- h3,<- h5] at this
  omega
theorem aiq {d:Nat->Int} (hb:b.Best d) (ho:b.Ok):(b.now d b.n).1<=0/\0<=(b.now d b.n).2:=by
 obtain ⟨f1,f2⟩:=b.KW hb.1 ho b.n oO
 constructor
 ·refine Int.not_lt.1 fun c=>?_
  rcases f1 with h9|⟨j,h1,h2,h3,h4⟩
  ·omega
  have a:=hb.1 j oO
  have:=b.zo hb (x:=-1) h1 oO (fun k g1 g2=>by have:=h4 k g1 g2;have:=hb.1 k oO;omega) oO (fun _=>oO)
  rw [if_neg oO,show d j+-1=d j - 1 by omega,Dn,<- h3] at this
  omega
 ·refine Int.not_lt.1 fun c=>?_
  rcases f2 with h9|⟨j,h1,h2,h3,h4⟩
  ·omega
  have a:=hb.1 j oO
  have:=b.zo hb (x:=1) h1 oO (fun k g1 g2=>by have:=h4 k g1 g2;have:=hb.1 k oO;omega) oO (fun _=>oO)
  rw [if_neg oO,Dp,<- h3] at this
  omega
theorem Xm {d:Nat->Int} (hb:b.Best d) (ho:b.Ok):∀ i≤b.n,-9<=(b.now d i).1/\(b.now d i).1<=(b.now d i).2/\(b.now d i).2<=9
 |0,_=>by simp [now]
 |i+1,hi=>by
  have ih:=Xm hb ho i oO
  have hr:=b.adA hb ho i oO
  have hbo:=AO (most:=b.most) (d:=d i) (ho i oO)
  rw [AL]
  have e1:(b.rng d i).1=max (b.now d i).1 (borne (b.hard i) b.most (d i)).1:=rfl
  have e2:(b.rng d i).2=min (b.now d i).2 (borne (b.hard i) b.most (d i)).2:=rfl
  have k1:-9<=(b.rng d i).1:=oO
  have k2:(b.rng d i).1<=(b.rng d i).2:=oO
  have k3:(b.rng d i).2<=9:=oO
  unfold next
  (repeat' split) <;> (try simp only) <;> (repeat' split) <;> omega
theorem Xn {d:Nat->Int} (hb:b.Best d) (ho:b.Ok) {i:Nat} (hi:i<b.n):-9<=(b.rng d i).1/\(b.rng d i).1<=(b.rng d i).2/\(b.rng d i).2<=9:=by
 have ih:=b.Xm hb ho i oO
 have hr:=b.adA hb ho i hi
 have hbo:=AO (most:=b.most) (d:=d i) (ho i hi)
 have e1:(b.rng d i).1=max (b.now d i).1 (borne (b.hard i) b.most (d i)).1:=rfl
 have e2:(b.rng d i).2=min (b.now d i).2 (borne (b.hard i) b.most (d i)).2:=rfl
 omega
theorem BH {d:Nat->Int} (hb:b.Best d) (ho:b.Ok):∀ k≤b.n,((b.now d (b.n - k)).1<=b.gW d k/\b.gW d k<=(b.now d (b.n - k)).2) /\
  (0<k->(b.rng d (b.n - k)).1<=b.gW d k/\b.gW d k<=(b.rng d (b.n - k)).2)
 |0,_=>by simpa [gW] using b.aiq hb ho
 |k+1,hk=>by
  obtain ⟨ih,_⟩:=BH hb ho k oO
  have hi:b.n - (k+1)<b.n:=oO
  have hr:=b.Xn hb ho hi
  have hs:b.n - k=b.n - (k+1)+1:=oO
  rw [hs,AL] at ih
  have e1:(b.rng d (b.n - (k+1))).1=max (b.now d (b.n - (k+1))).1 (borne (b.hard (b.n - (k+1))) b.most (d (b.n - (k+1)))).1:=rfl
  have e2:(b.rng d (b.n - (k+1))).2=min (b.now d (b.n - (k+1))).2 (borne (b.hard (b.n - (k+1))) b.most (d (b.n - (k+1)))).2:=rfl
  have a:(b.rng d (b.n - (k+1))).1<=b.gW d (k+1)/\b.gW d (k+1)<=(b.rng d (b.n - (k+1))).2:=by
   simp only [gW]
   split
   ·rename_i h
    unfold next at ih
    rw [if_pos h] at ih
    exact ih
   ·omega
  exact ⟨oO,fun _=>a⟩
theorem KY {d:Nat->Int} (hb:b.Best d) (ho:b.Ok) {k:Nat} (hk:k<=b.n):-9<=b.gW d k/\b.gW d k<=9:=by
 have h1:=(b.BH hb ho k hk).1
 have h2:=b.Xm hb ho (b.n - k) oO
 omega
theorem adB {d:Nat->Int} (hb:b.Best d) (ho:b.Ok) {i:Nat} (_hi:i<b.n):-100<=b.pull d i/\b.pull d i<=100:=by
 have h1:=b.KY hb ho (k:=b.n - i) oO
 have h2:=b.KY hb ho (k:=b.n - i - 1) oO
 unfold pull;omega
theorem aaJ {d:Nat->Int} (hb:b.Best d) (ho:b.Ok) {i:Nat} (hi:i<b.n):(b.pull d i > 0->jy d i=b.lo i)/\(b.pull d i<0->jy d i=b.hi i):=by
 have hfi:=hb.1 i hi
 have hs:b.n - i=(b.n - i - 1)+1:=oO
 have hn:b.n - ((b.n - i - 1)+1)=i:=oO
 have ih:=(b.BH hb ho (b.n - i - 1) oO).1
 have e:b.n - (b.n - i - 1)=i+1:=oO
 rw [e,AL] at ih
 have hr:=b.Xn hb ho hi
 have c:b.gW d (b.n - i)=if jy d i > b.lo i/\jy d i<b.hi i then b.gW d (b.n - i - 1) else max (b.rng d i).1 (min (b.rng d i).2 (b.gW d (b.n - i - 1))):=by
  conv=>lhs;rw [hs]
  simp only [gW,hn]
 unfold pull
 rw [c]
 generalize b.gW d (b.n - i - 1)=s at *
 unfold next at ih
 split
 ·omega
 ·rename_i h
  rw [if_neg h] at ih
  by_cases he:b.lo i=b.hi i
  ·omega
  ·rw [if_neg he] at ih
   simp only at ih
   constructor
   ·intro hp
    refine Classical.byContradiction fun a=>?_
    rw [if_neg (by omega:¬ jy d i<b.hi i)] at ih
    omega
   ·intro hp
    refine Classical.byContradiction fun a=>?_
    rw [if_neg (by omega:¬ jy d i > b.lo i)] at ih
    omega
def tail (p:Nat->Int) (n i:Nat):Int:=bZ p n - bZ p i
def bound (p:Nat->Int):Int:=bZ (fun i=>max 0 (p i)*b.lo i+min 0 (p i)*b.hi i - b.most*max 0 (ab (tail p b.n i) - b.hard i)) b.n
theorem parts (p d:Nat->Int):∀ n m,n<=m->bZ (fun i=>p i*jy d i) n+(bZ p m - bZ p n)*bZ d n=bZ (fun i=>tail p m i*d i) n
 |0,m,_=>by simp [bZ]
 |n+1,m,h=>by
  have ih:=parts p d n m oO
  have e2:bZ p (n+1)=bZ p n+p n:=rfl
  have e3:jy d n=bZ d n+d n:=rfl
  have e4:bZ d (n+1)=bZ d n+d n:=rfl
  show bZ (fun i=>p i*jy d i) n+p n*jy d n+(bZ p m - bZ p (n+1))*bZ d (n+1)=bZ (fun i=>tail p m i*d i) n+tail p m n*d n
  rw [<- ih,e2,e3,e4]
  unfold tail
  generalize bZ p m=a;generalize bZ p n=c;generalize bZ d n=x;generalize p n=u;generalize d n=v
  generalize bZ (fun i=>p i*jy d i) n=w
  have h1:(a - (c+u))*(x+v)=(a - c)*x+(a - c)*v - u*x - u*v:=by
   rw [Int.sub_mul,Int.add_mul,Int.mul_add,Int.mul_add,Int.mul_add,Int.sub_mul,Int.sub_mul];omega
  rw [h1,Int.mul_add];omega
theorem parts_all (p d:Nat->Int) (n:Nat):bZ (fun i=>p i*jy d i) n=bZ (fun i=>tail p n i*d i) n:=by
 have:=parts p d n n (aD _)
 rw [Int.sub_self,Int.zero_mul,Int.add_zero] at this
 exact this
theorem afZ {p lo hi x:Int} (h1:lo<=x) (h2:x<=hi):max 0 p*lo+min 0 p*hi<=p*x:=by
 rcases Int.le_total 0 p with h|h
 ·rw [ea h,Int.min_eq_left h,Int.zero_mul,Int.add_zero];exact Int.mul_le_mul_of_nonneg_left h1 h
 ·rw [ec h,Int.min_eq_right h,Int.zero_mul,Int.zero_add]
  have:=Int.mul_le_mul_of_nonpos_left h h2
  exact this
theorem Ot {s h m d:Int} (h1:-m<=d) (h2:d<=m):s*d - m*max 0 (ab s - h)<=h*ab d:=by
 have e:0<=ab d:=by unfold ab;omega
 have hd1:ab d<=m:=by unfold ab;omega
 have hs:s*d<=ab s*ab d:=by
  unfold ab
  rcases Int.le_total 0 s with a|a <;> rcases Int.le_total 0 d with c|c
  ·rw [ec oO,ec oO];exact dy _
  ·rw [ec oO,ea oO]
   have:0<=s*(-d):=dl a oO
   rw [Int.mul_neg] at this ⊢;omega
  ·rw [ea oO,ec oO]
   have:0<=(-s)*d:=dl oO c
   rw [Int.neg_mul] at this ⊢;omega
  ·rw [ea oO,ea oO,Int.neg_mul_neg];exact dy _
 have h3:ab s*ab d - h*ab d<=m*max 0 (ab s - h):=by
  rw [<- Int.sub_mul]
  rcases Int.le_total 0 (ab s - h) with a|a
  ·rw [ea a,Int.mul_comm];exact Int.mul_le_mul_of_nonneg_right hd1 a
  ·rw [ec a,Int.mul_zero]
   have:0<=(-(ab s - h))*ab d:=dl oO e
   rw [Int.neg_mul] at this;omega
 omega
theorem adC {d p:Nat->Int} (hf:b.Fits d):b.bound p<=b.cost d:=by
 unfold bound cost
 have e1:bZ (fun i=>max 0 (p i)*b.lo i+min 0 (p i)*b.hi i - b.most*max 0 (ab (tail p b.n i) - b.hard i)) b.n<=bZ (fun i=>p i*jy d i+-(b.most*max 0 (ab (tail p b.n i) - b.hard i))) b.n :=
  Qs fun i hi=>by have:=hf i hi;have:=afZ (p:=p i) this.2.2.1 this.2.2.2;omega
 rw [AA,parts_all,<- AA] at e1
 refine Int.le_trans e1 (Qs fun i hi=>?_)
 have:=hf i hi
 have:=Ot (s:=tail p b.n i) (h:=b.hard i) this.1 this.2.1
 omega
theorem Gi {d:Nat->Int}:∀ {i:Nat},i<=b.n->bZ (b.pull d) i=b.gW d b.n - b.gW d (b.n - i)
 |0,_=>by simp [bZ]
 |i+1,h=>by
  simp only [bZ]
  rw [Gi (i:=i) oO]
  unfold pull
  rw [show b.n - i - 1=b.n - (i+1) by omega];omega
theorem Ux {d:Nat->Int} {i:Nat} (h:i<=b.n):tail (b.pull d) b.n i=b.gW d (b.n - i):=by
 unfold tail
 rw [b.Gi (aD _),b.Gi h,cM]
 simp only [gW];omega
theorem aaK {s h m d:Int} (hh:1<=h/\h<=9) (hd:-m<=d/\d<=m) (h1:(borne h m d).1<=s) (h2:s<=(borne h m d).2):s*d - m*max 0 (ab s - h)=h*ab d:=by
 have hle:=Ot (s:=s) (h:=h) (m:=m) (d:=d) hd.1 hd.2
 simp only [borne] at h1 h2
 have e:(ab s<=h/\(d > 0->s=h)/\(d<0->s=-h))\/(d=m/\s > h)\/(d=-m/\s < -h):=by
  unfold ab
  by_cases a1:d=m <;> by_cases a2:d=-m <;> simp only [a1,a2,if_true,if_false] at h1 h2 <;> (repeat' split at h1) <;> (repeat' split at h2) <;> omega
 rcases e with ⟨a,c1,c2⟩|⟨a,c⟩|⟨a,c⟩
 ·rw [ec oO,Int.mul_zero,Int.sub_zero]
  by_cases d0:d > 0
  ·rw [c1 d0];unfold ab;rw [ec oO]
  ·by_cases d1:d<0
   ·rw [c2 d1];unfold ab;rw [ea oO,Int.neg_mul,Int.mul_neg]
   ·have:d=0:=oO
    rw [this];simp [ab]
 ·have hm:0<=m:=oO
  have e1:ab s=s:=by unfold ab;omega
  have e2:ab d=m:=by unfold ab;omega
  rw [e1,e2,ea oO,a,Int.mul_sub,Int.mul_comm m s,Int.mul_comm m h];omega
 ·have hm:0<=m:=oO
  have e1:ab s=-s:=by unfold ab;omega
  have e2:ab d=m:=by unfold ab;omega
  rw [e1,e2,ea oO,a,Int.mul_sub,Int.mul_neg,Int.mul_neg,Int.mul_comm m s,Int.mul_comm m h];omega
theorem Xo {d:Nat->Int} (hb:b.Best d) (ho:b.Ok):b.bound (b.pull d)=b.cost d:=by
 unfold bound cost
 have e1:bZ (fun i=>max 0 (b.pull d i)*b.lo i+min 0 (b.pull d i)*b.hi i - b.most*max 0 (ab (tail (b.pull d) b.n i) - b.hard i)) b.n=bZ (fun i=>b.pull d i*jy d i+-(b.most*max 0 (ab (tail (b.pull d) b.n i) - b.hard i))) b.n :=
  Dl fun i hi=>by
   have h:=b.aaJ hb ho hi
   have:max 0 (b.pull d i)*b.lo i+min 0 (b.pull d i)*b.hi i=b.pull d i*jy d i:=by
    by_cases p0:b.pull d i > 0
    ·rw [h.1 p0,ea oO,Int.min_eq_left oO,Int.zero_mul,Int.add_zero]
    ·by_cases p1:b.pull d i<0
     ·rw [h.2 p1,ec oO,Int.min_eq_right oO,Int.zero_mul,Int.zero_add]
     ·have:b.pull d i=0:=oO
      rw [this];simp
   omega
 rw [e1,AA,parts_all,<- AA]
 refine Dl fun i hi=>?_
 have h1:=b.BH hb ho (b.n - i) oO
 have h2:=h1.2 oO
 rw [show b.n - (b.n - i)=i by omega] at h2
 have hr:=b.Xn hb ho hi
 have r1:(b.rng d i).1=max (b.now d i).1 (borne (b.hard i) b.most (d i)).1:=rfl
 have r2:(b.rng d i).2=min (b.now d i).2 (borne (b.hard i) b.most (d i)).2:=rfl
 have hf:=hb.1 i hi
 rw [b.Ux oO]
 have:=aaK (s:=b.gW d (b.n - i)) (ho i hi) ⟨hf.1,hf.2.1⟩ oO oO
 omega
end Bl
abbrev nev:Int:=1099511627776
def mF (F:Int->Int) (lo:Int):Nat->Int
 |0=>nev
 |k+1=>min (mF F lo k) (F (lo+k))
theorem BI (F:Int->Int) (lo:Int):∀ k,mF F lo k<=nev
 |0=>dy _
 |k+1=>by have:=BI F lo k;simp only [mF];omega
theorem EH {F:Int->Int} {lo:Int}:∀ {k:Nat} {g:Int},lo<=g->g<lo+k->mF F lo k<=F g
 |0,g,h1,h2=>by omega
 |k+1,g,h1,h2=>by
  simp only [mF]
  by_cases h:g=lo+k
  ·subst h;omega
  ·have:=EH (F:=F) (lo:=lo) (k:=k) h1 oO;omega
theorem Uy {F:Int->Int} {lo:Int}:∀ {k:Nat},mF F lo k<nev->∃ g,lo<=g/\g<lo+k/\F g=mF F lo k
 |0,h=>by simp [mF] at h
 |k+1,h=>by
  simp only [mF] at h ⊢
  by_cases h2:F (lo+k)<=mF F lo k
  ·exact ⟨lo+k,oO,oO,oO⟩
  ·obtain ⟨g,g1,g2,g3⟩:=Uy (F:=F) (lo:=lo) (k:=k) oO
   exact ⟨g,g1,oO,oO⟩
theorem EI {F:Int->Int} {lo m:Int} (hm:m<=nev):∀ {k:Nat},(∀ g,lo<=g->g<lo+k->m<=F g)->m<=mF F lo k
 |0,_=>hm
 |k+1,h=>by
  have h1:=EI (F:=F) (lo:=lo) (k:=k) hm fun g g1 g2=>h g g1 oO
  have h2:=h (lo+k) oO oO
  simp only [mF];omega
def lst (F:Int->Int) (lo:Int):Nat->Int
 |0=>lo
 |k+1=>if F (lo+(k+1:Nat))<F (lst F lo k) then lo+(k+1:Nat) else lst F lo k
theorem Qx (F:Int->Int) (lo:Int):∀ k,lo<=lst F lo k/\lst F lo k<=lo+k
 |0=>by simp [lst]
 |k+1=>by have:=Qx F lo k;simp only [lst];split <;> omega
theorem adD (F:Int->Int) (lo:Int):∀ (k:Nat) (g:Int),lo<=g->g<=lo+k->F (lst F lo k)<=F g
 |0,g,h1,h2 =>
            by
            have:g=lo:=oO
            subst this;exact dy _
 |k+1,g,h1,h2=>by
  simp only [lst]
  by_cases h:g=lo+(k+1:Nat)
  ·subst h;split <;> omega
  ·have:=adD F lo k g h1 oO
   split <;> omega
theorem af0 {F:Int->Int} {lo:Int} {k:Nat} (h:mF F lo (k+1)<nev):F (lst F lo k)=mF F lo (k+1):=by
 obtain ⟨g,g1,g2,g3⟩:=Uy h
 have h1:=adD F lo k g g1 oO
 have h2:=Qx F lo k
 have h3:=EH (F:=F) (k:=k+1) h2.1 oO
 omega
namespace Bl
variable (b:Bl)
def sLo (i:Nat) (f:Int):Int:=max (b.lo i) (f - b.most)
def sN (i:Nat) (f:Int):Nat:=(min (b.hi i) (f+b.most)+1 - b.sLo i f).toNat
theorem AP {i:Nat} {f g:Int}:(b.sLo i f<=g/\g<b.sLo i f+b.sN i f)↔(b.lo i<=g/\g<=b.hi i/\-b.most<=g - f/\g - f<=b.most):=by
 unfold sN sLo;omega
def vt:Nat->Int->Int
 |0,_=>0
 |k+1,f=>mF (fun g=>vt k g+b.hard (b.n - (k+1))*ab (g - f)) (b.sLo (b.n - (k+1)) f) (b.sN (b.n - (k+1)) f)
theorem uT (x:Int):0<=ab x:=by unfold ab;omega
theorem KZ (ho:b.Ok):∀ k≤b.n,∀ f,0<=b.vt k f/\b.vt k f<=nev
 |0,_,f=>by simp [vt]
 |k+1,hk,f=>by
  refine ⟨?_,BI _ _ _⟩
  refine EI oD fun g _ _=>?_
  have h1:=(KZ ho k oO g).1
  have h2:=(ho (b.n - (k+1)) oO).1
  have h3:0<=b.hard (b.n - (k+1))*ab (g - f):=dl oO (uT _)
  omega
def Hr (d:Nat->Int) (k:Nat):Int:=b.cost d - bZ (fun i=>b.hard i*ab (d i)) (b.n - k)
theorem Xp (d:Nat->Int):b.Hr d 0=0:=by simp [Hr,cost]
theorem aaL (d:Nat->Int):b.Hr d b.n=b.cost d:=by simp [Hr,bZ]
theorem Xq (d:Nat->Int) {k:Nat} (h:k<b.n):b.Hr d (k+1)=b.hard (b.n - (k+1))*ab (d (b.n - (k+1)))+b.Hr d k:=by
 unfold Hr
 rw [show b.n - k=b.n - (k+1)+1 by omega]
 simp only [bZ];omega
theorem ahh {d:Nat->Int} (hf:b.Fits d):∀ k≤b.n,b.vt k (bZ d (b.n - k))<=b.Hr d k
 |0,_=>by rw [Xp];simp [vt]
 |k+1,hk=>by
  have ih:=ahh hf k oO
  have hi:=hf (b.n - (k+1)) oO
  have hb:bZ d (b.n - k)=bZ d (b.n - (k+1))+d (b.n - (k+1)):=by rw [show b.n - k=b.n - (k+1)+1 by omega];rfl
  have hbe:jy d (b.n - (k+1))=bZ d (b.n - k):=by unfold jy;rw [show b.n - k=b.n - (k+1)+1 by omega]
  have hs:=(b.AP (i:=b.n - (k+1)) (f:=bZ d (b.n - (k+1))) (g:=bZ d (b.n - k))).2 ⟨oO,oO,oO,oO⟩
  have:=EH (F:=fun g=>b.vt k g+b.hard (b.n - (k+1))*ab (g - bZ d (b.n - (k+1)))) hs.1 hs.2
  rw [b.Xq d oO]
  simp only [vt]
  refine Int.le_trans this ?_
  show b.vt k (bZ d (b.n - k))+b.hard (b.n - (k+1))*ab (bZ d (b.n - k) - bZ d (b.n - (k+1)))<=_
  rw [show bZ d (b.n - k) - bZ d (b.n - (k+1))=d (b.n - (k+1)) by omega]
  omega
theorem La {d:Nat->Int} (hf:b.Fits d):b.vt b.n 0<=b.cost d:=by
 have:=b.ahh hf b.n (aD _)
 rw [cM,aaL] at this
 exact this
def zN (i:Nat) (f:Int):Int->Int:=fun g=>b.vt (b.n - (i+1)) g+b.hard i*ab (g - f)
def pos:Nat->Int
 |0=>0
 |i+1=>lst (b.zN i (pos i)) (b.sLo i (pos i)) (b.sN i (pos i) - 1)
def blow (i:Nat):Int:=b.pos (i+1) - b.pos i
theorem Ou:∀ i,bZ b.blow i=b.pos i
 |0=>rfl
 |i+1=>by simp only [bZ];rw [Ou i];unfold blow;omega
theorem Qy {i:Nat} {f:Int} (hi:i<b.n):b.vt (b.n - i) f=mF (b.zN i f) (b.sLo i f) (b.sN i f):=by
 rw [show b.n - i=b.n - (i+1)+1 by omega]
 have e:b.n - (b.n - (i+1)+1)=i:=oO
 simp only [vt,e];rfl
theorem Qz (ho:b.Ok) (h:b.vt b.n 0<nev):∀ i≤b.n,b.vt (b.n - i) (b.pos i)<nev/\bZ (fun k=>b.hard k*ab (b.blow k)) i+b.vt (b.n - i) (b.pos i)=b.vt b.n 0 /\
  ∀ k<i,-b.most<=b.blow k/\b.blow k<=b.most/\b.lo k<=b.pos (k+1)/\b.pos (k+1)<=b.hi k
 |0,_=>⟨by rw [Nat.sub_zero];exact h,by rw [Nat.sub_zero];simp [bZ,pos],fun k hk=>oO⟩
 |i+1,hi=>by
  obtain ⟨h1,h2,h3⟩:=Qz ho h i oO
  rw [b.Qy oO] at h1 h2
  have hp:0<b.sN i (b.pos i):=by
   rcases Nat.eq_zero_or_pos (b.sN i (b.pos i)) with h0|h0
   ·rw [h0] at h1;simp [mF] at h1
   ·exact h0
  have hs:b.sN i (b.pos i)=b.sN i (b.pos i) - 1+1:=oO
  rw [hs] at h1 h2
  have e:=af0 h1
  have c:=Qx (b.zN i (b.pos i)) (b.sLo i (b.pos i)) (b.sN i (b.pos i) - 1)
  have ep:b.pos (i+1)=lst (b.zN i (b.pos i)) (b.sLo i (b.pos i)) (b.sN i (b.pos i) - 1):=rfl
  rw [<- ep] at e c
  have a:=(b.AP (i:=i) (f:=b.pos i) (g:=b.pos (i+1))).1 ⟨c.1,oO⟩
  rw [<- e] at h1 h2
  unfold zN at h1 h2
  have hh:=(ho i oO).1
  have hc:0<=b.hard i*ab (b.pos (i+1) - b.pos i):=dl oO (uT _)
  refine ⟨oO,?_,fun k hk=>?_⟩
  ·simp only [bZ]
   show _+b.hard i*ab (b.pos (i+1) - b.pos i)+_=_
   omega
  ·by_cases d:k=i
   ·subst d;exact ⟨a.2.2.1,a.2.2.2,a.1,a.2.1⟩
   ·exact h3 k oO
theorem Gj (ho:b.Ok) (h:b.vt b.n 0<nev):b.Fits b.blow:=fun i hi=>by
 have:=(b.Qz ho h b.n (aD _)).2.2 i hi
 unfold jy
 rw [Ou]
 exact this
theorem Gl (ho:b.Ok) (h:b.vt b.n 0<nev):b.cost b.blow=b.vt b.n 0:=by
 have:=(b.Qz ho h b.n (aD _)).2.1
 rw [cM] at this
 simp only [vt] at this
 unfold cost;omega
theorem aaM (ho:b.Ok) (h:b.vt b.n 0<nev):b.Best b.blow :=
 ⟨b.Gj ho h,fun _ hd=>by rw [b.Gl ho h];exact b.La hd⟩
theorem af2 (ho:b.Ok) {d:Nat->Int} (hf:b.Fits d) (hn:b.n<=20) (hm:b.most<=200):b.cost d<nev:=by
 have a:∀ k≤b.n,bZ (fun i=>b.hard i*ab (d i)) k<=1800*k:=by
  intro k
  induction k with
  |zero=>intro _;simp [bZ]
  |succ k ih =>
   intro hk
   have ih:=ih oO
   have h1:=hf k oO
   have h2:=ho k oO
   have h3:ab (d k)<=200:=by unfold ab;omega
   have h4:b.hard k*ab (d k)<=9*200:=eT h2.2 h3 (uT _) oO
   simp only [bZ];omega
 have:=a b.n (aD _)
 unfold cost nev;omega
theorem aaN (ho:b.Ok) (hn:b.n<=20) (hm:b.most<=200):b.vt b.n 0<nev↔∃ d,b.Fits d:=by
 constructor
 ·exact fun h=>⟨_,b.Gj ho h⟩
 ·rintro ⟨d,hf⟩
  exact Int.lt_of_le_of_lt (b.La hf) (b.af2 ho hf hn hm)
end Bl
structure Bld where
 n:Nat
 ang:Nat->Int
 tlo:Nat->Int
 thi:Nat->Int
 hard:Nat->Int
 most:Int
def Bld.b (B:Bld):Bl:=⟨B.n,fun i=>B.tlo i - B.ang i,fun i=>B.thi i - B.ang i,B.hard,B.most⟩
structure mJ (B:Bld):Prop where
 n:1<=B.n/\B.n<=20
 st:∀ i<B.n,-100<=B.ang i/\B.ang i<=100/\-100<=B.tlo i/\B.tlo i<=B.thi i/\B.thi i<=100/\1<=B.hard i/\B.hard i<=9
 most:0<=B.most/\B.most<=200
theorem mJ.tube {B:Bld} (h:mJ B) {i:Nat} (hi:i<B.n):-200<=B.b.lo i/\B.b.lo i<=B.b.hi i/\B.b.hi i<=200:=by
 have:=h.st i hi
 show -200<=B.tlo i - B.ang i/\B.tlo i - B.ang i<=B.thi i - B.ang i/\B.thi i - B.ang i<=200
 omega
theorem mJ.ok {B:Bld} (h:mJ B):B.b.Ok:=fun i hi=>(h.st i hi).2.2.2.2.2
structure kQ (U:Heap) (B:Bld) (sb:Nat):Prop where
 st:∀ i<B.n,aK U sb (i*4) 4=some [.int .i64 (B.ang i),.int .i64 (B.tlo i),.int .i64 (B.thi i),.int .i64 (B.hard i)]
def Bld.tu (B:Bld):Nat->Int×Int
 |0=>(0,0)
 |i+1=>(B.b.lo i,B.b.hi i)
def Bld.cs (B:Bld) (sb cS tb cT:Nat):List Value:=[.slice (some ⟨sb,0,none⟩) B.n cS,.int .i64 B.most,.slice (some ⟨tb,0,none⟩) (B.n+1) cT]
structure iY (U:Heap) (B:Bld) (nb sb cS tb cT:Nat):Prop where
 nb:U[nb]?=some (.rw (B.cs sb cS tb cT))
 st:∀ i<B.n,aK U sb (i*4) 4=some [.int .i64 (B.ang i),.int .i64 (B.tlo i),.int .i64 (B.thi i),.int .i64 (B.hard i)]
 tu:∀ i≤B.n,aK U tb (i*2) 2=some [.int .i64 (B.tu i).1,.int .i64 (B.tu i).2]
theorem iY.take {U H:Heap} {B:Bld} {nb sb cS tb cT:Nat} (h:iY U B nb sb cS tb cT) (hp:H.take U.length=U):iY H B nb sb cS tb cT :=
 ⟨by rw [jL hp (aS h.nb)];exact h.nb,fun i hi=>dJ hp (h.st i hi),fun i hi=>dJ hp (h.tu i hi)⟩
theorem iY.app {U X:Heap} {B:Bld} {nb sb cS tb cT:Nat} (h:iY U B nb sb cS tb cT):iY (U++X) B nb sb cS tb cT:=h.take oS
def nY (k:Nat):List Int:=List.replicate k nev++List.replicate (401 - k) 0
theorem Uz {k:Nat} (h:k<=401):(nY k).length=401:=by simp [nY];omega
theorem Ov {k:Nat} (h:k<401):(nY k).set k nev=nY (k+1):=by
 unfold nY
 rw [fq _ _ oS,ft,cM,show 401 - k=401 - (k+1)+1 by omega,List.replicate_succ,List.set_cons_zero,List.replicate_succ',cD]
 rfl
theorem wZ {L:List Int} {i:Nat} {a:Int} (h:i<L.length):splice (ints L) i [.i a]=ints (L.set i a):=by
 simp only [splice,ints,dE,dx,List.set_eq_take_append_cons_drop,h,if_true,eq,List.map_take,cG,List.map_drop]
 simp
def noRow:List Int:=List.replicate 401 nev
theorem vsub_fn2 {n:Nat} {Z:Rho} {f i1 i2 j1 j2:Nat} (h1:i1<n) (e1:Z i1=⟨j1,0,0⟩) (h2:i2<n) (e2:Z i2=⟨j2,0,0⟩) :
  jS n Z (.func (.func f) #[] #[.p i1,.p i2]) (.func (.func f) #[] #[.p j1,.p j2]):=by
 have p1:jS n Z (.p i1) (.p j1):=by
  have:=VQ.ptr (q:=true) (V:=Z) i1 0 h1;rw [e1] at this;exact this
 have p2:jS n Z (.p i2) (.p j2):=by
  have:=VQ.ptr (q:=true) (V:=Z) i2 0 h2;rw [e2] at this;exact this
 refine .func _ _ _ _ _ rfl rfl (fun i h _=>by simp at h) (fun i h _=>?_)
 simp at h
 rcases (by omega:i=0\/i=1) with rfl|rfl
 ·exact p1
 ·exact p2
end Go.AH.Warp
namespace Go.Proofs.YtajpgeklmcjciaaGreat
attribute [local irreducible] dA bJ bK jh fQ dK eH bY eu aW dR dW
open Go.AH.Heat Go.AH.Warp
theorem ahi {A B:Prop} (k:B) (h:Hide B->A:=by intro z_;(repeat' (first|refine sCm ?_|(refine gU ?_;first|(refine cO ?_;refine st (aJ rfl (by assumption)) rfl rfl ?_)|(refine abN ?_;refine st (iU rfl rfl rfl) rfl rfl ?_)|refine sK3 ?_|(refine gMax ?_;refine st (CG rfl rfl) rfl rfl ?_)|(refine ae7 ?_;refine st (Cj rfl) rfl rfl ?_))|refine aG ?_));exact z_.h):A:=h ⟨k⟩
theorem QA {U:Heap} {B:Bld} {nb sb cS tb cT:Nat} (hv:mJ B) (hB:iY U B nb sb cS tb cT) {i:Nat} (hi:i<B.n) {d:Int} (hd:-1000<=d/\d<=1000) :
  Ev prog 180 [.p nb,.i (i:Nat),.i d] U (.i (B.hard i*ab d)) U:=by
 refine aH U.length 21 func180 (h:=?_)
 have hc1:aI U nb (0+0+0)=some (.s sb B.n cS):=aF hB.nb
 have hst:=hv.st i hi
 have hc2:aI U sb (0+i*4+3)=some (.i (B.hard i)):=by rw [aR];exact eX (k:=3) (hB.st i hi) oO
 have hiI:(i:Int)<(B.n:Int):=oO
 have hw:IntKind.i64.wrap (0 - d)=-d:=by rw [wrap64 oO oO];omega
 have hm:-1000<=max d (-d)/\max d (-d)<=1000:=oO
 have hml:-9000<=B.hard i*max d (-d)/\B.hard i*max d (-d)<=9000:=by
  have h1:0<=max d (-d):=oO
  have h2:0<=B.hard i*max d (-d):=dl oO h1
  have h3:B.hard i*max d (-d)<=9*1000:=eT oO oO h1 oO
  omega
 refine ahi ?_
 rw [hw]
 refine ahi ?_
 rw [show IntKind.i64.wrap (B.hard i*max d (-d))=B.hard i*ab d from wrap64 oO oO]
 exact dG (.tmp rfl .nil) (.plain oS rfl) ⟨rfl,rfl⟩
theorem UA {A B:Prop} (k:B) (h:Hide B->A:=by intro z_;(repeat' (first|refine sCm ?_|(refine gU ?_;first|(refine cO ?_;refine st (bG rfl (by assumption)) rfl rfl ?_)|refine sK0 ?_|refine Qc ?_|(refine gZ ?_;refine stN (bW rfl rfl rfl rfl (by exact hput)) rfl ?_))|refine bU (id:=2) ?_|refine aG ?_|refine sK2 ?_|refine lg rfl (by rfl) ?_));exact z_.h):A:=h ⟨k⟩
theorem sJ {U:Heap}:Ev prog 219 [] U (.agg (ints noRow).toArray) U:=by
 refine aH U.length 10 func219 (h:=?_)
 refine UA ?_
 refine .mk (aG ?_)
 refine UA ?_
 have c:(U++[aC.rw (List.replicate 401 (.i 0))]).length=U.length+1:=oS
 have hz:U++[aC.rw (List.replicate 401 (.i 0))]++[aC.rw (ints (nY 0))]=U++[aC.rw (List.replicate 401 (.i 0))]++[aC.rw (List.replicate 401 (.i 0))]:=by simp [nY,ints]
 refine dB [(0,.p U.length),(1,.p (U.length+1)),(3,.i ((0:Nat):Int))] (U++[aC.rw (List.replicate 401 (.i 0))]++[aC.rw (ints (nY 0))]) ?_ ?_ ?_
 ·exact hz.symm
 ·exact ⟨rfl,congrArg (fun n=>some (Value.p n)) c,rfl,trivial⟩
 refine jq (ι:=Nat) (fun k=>[(0,.p U.length),(1,.p (U.length+1)),(3,.i (k:Int))]) (fun k=>U++[aC.rw (List.replicate 401 (.i 0))]++[aC.rw (ints (nY k))]) (fun k=>401 - k) (fun k=>k<=401) 0 oS (.same tE) oO ?_
 intro k hk
 have e:=Uz hk
 by_cases hkn:k<401
 ·have hput:putCells (U++[aC.rw (List.replicate 401 (.i 0))]++[aC.rw (ints (nY k))]) (U.length+1) (0+k*1) [.i nev]=some (U++[aC.rw (List.replicate 401 (.i 0))]++[aC.rw (ints (nY (k+1)))]):=by
   have hg:(U++[aC.rw (List.replicate 401 (.i 0))]++[aC.rw (ints (nY k))])[U.length+1]?=some (.rw (ints (nY k))):=by rw [<- c];exact aN
   rw [fF hg (by rw [bQ,e];simp;omega) (by rw [bQ,e];omega) (by rw [aR,cH,wZ oO,Ov oO]),<- c,fq _ _ (aD _),cM]
   rfl
  have hkI:(k:Int)<401:=oO
  refine UA ?_
  exact ⟨rfl,k+1,oO,oO,.same tE⟩
 ·obtain rfl:k=401:=oO
  have a:(ints (nY 401)).length=401:=by rw [bQ,e]
  have hd1:aK (U++[aC.rw (List.replicate 401 (.i 0))]++[aC.rw (ints (nY 401))]) (U.length+1) 0 401=some (ints (nY 401)):=by
   rw [<- c];exact dZ a
  have hput:putCells (U++[aC.rw (List.replicate 401 (.i 0))]++[aC.rw (ints (nY 401))]) U.length 0 (ints (nY 401))=some (U++[aC.rw (ints (nY 401))]++[aC.rw (ints (nY 401))]):=by
   rw [fF (cs:=List.replicate 401 (.i 0)) (cs':=ints (nY 401)) oS (by rw [a];simp) oS (by simp [splice,a])]
   simp
  have g:aK (U++[aC.rw (ints (nY 401))]++[aC.rw (ints (nY 401))]) U.length 0 401=some (ints (nY 401)):=by
   rw [jl oS];exact dZ a
  have j:=aZ (nY 401)
  have f:noRow=nY 401:=by simp [noRow,nY]
  rw [f]
  have d:=jD (nY 401)
  generalize ints (nY 401)=rc at *
  refine UA ?_
  refine stN (bW (size:=401) rfl rfl (by exact a) (by exact d) (by exact hput)) rfl ?_
  refine UA ?_
  exact dG (.cellN inferInstance rfl g .nil) (.plain oS j) ⟨rfl,rfl⟩
theorem ahj {A B:Prop} (k:B) (h:Hide B->A:=by intro z_;(repeat' (first|refine sCm ?_|(refine gU ?_;first|(refine cO ?_;first|refine st (aJ rfl (by assumption)) rfl rfl ?_|refine st (bG rfl (by assumption)) rfl rfl ?_)|refine sK3 ?_|(refine dV ?_;refine st (bC rfl rfl rfl (by exact yB)) rfl rfl ?_)|refine sK8 ?_)|(refine fU ?_;first|refine frA (bD rfl) rfl ?_ (hcl (by omega))|refine frA (aJ rfl (by exact hq1 _)) rfl ?_ rfl|refine frA (aJ rfl (by exact hq2 _)) rfl ?_ rfl|refine frA (dY rfl) rfl ?_ (hcl (by omega))|refine frA (jB rfl) rfl ?_ (hcl (by omega))|refine frA (aJ rfl (by exact hc2 _)) rfl ?_ rfl|refine Iy ?_|refine TM ?_|refine Iz ?_|refine aar ?_|refine WG ?_)|(refine fP ⟨by kernel_rfl,?_⟩)|refine bU (id:=2) ?_|refine aG ?_));exact z_.h):A:=h ⟨k⟩
theorem Lc {U:Heap} {B:Bld} {nb sb cS tb cT:Nat} (hv:mJ B) (hB:iY U B nb sb cS tb cT) {i:Nat} (hi:i<B.n) {f:Int} (hf:-200<=f/\f<=200) :
  Ev prog 177 [.p nb,.i (i:Nat),.i f] U (.func (.func 278) #[] #[.p U.length,.p (U.length+1)]) (U++[.rw [.i (B.b.sLo i f)]]++[.rw [.i (min (B.b.hi i) (f+B.most))]]):=by
 refine aH U.length 37 func177 (h:=?_)
 have hc1:∀ X,aI (U++X) nb (0+2)=some (.s tb (B.n+1) cT):=fun X=>aF hB.app.nb
 have hc2:∀ X,aI (U++X) nb (0+0+1)=some (.i B.most):=fun X=>aF hB.app.nb
 have c:=hc1 []
 rw [bN] at c
 have hst:=hv.tube hi
 have hmo:=hv.most
 have hd2:aK U tb (0+(i+1)*2) 2=some [.i (B.b.lo i),.i (B.b.hi i)]:=by rw [aR];exact hB.tu (i+1) oO
 have hiI:(i:Int)+1<((B.n+1:Nat):Int):=oO
 have hi20:=hv.n
 have hnb:nb < U.length:=aS hB.nb
 refine ahj ?_
 obtain ⟨K,hK⟩:=xy (U++[aC.rw [.i (B.b.lo i),.i (B.b.hi i)]])
 refine .mk (dB [(0,.p nb),(2,.i f),(7,.p U.length)] K (by rw [hK];rfl) tE ?_)
 have a:K.length=U.length+1:=by rw [hK];simp
 have hcl:∀ {q o:Nat},q < U.length+1->closed K.length (.pointer (some ⟨q,o,none⟩))=true:=fun {q o} h=>by rw [a];exact Nat.blt_eq.mpr h
 have hq1:∀ X,aI (K++X) U.length (0+0)=some (.i (B.b.lo i)):=fun X=>by rw [hK];exact aF (aA aN)
 have hq2:∀ X,aI (K++X) U.length (0+1)=some (.i (B.b.hi i)):=fun X=>by rw [hK];exact aF (aA aN)
 have hc2:∀ X,aI (K++X) nb (0+0+1)=some (.i B.most):=fun X=>by rw [hK,cD];exact hc2 _
 refine eY oK rfl ?_
 refine ahj ?_
 rw [show K++gV (fun _=>true) []=K from bN K,a,show max (B.b.lo i) (f - B.most)=B.b.sLo i f from rfl]
 have d:(K++[aC.rw [.i (B.b.sLo i f)]]++[aC.rw [.i (min (B.b.hi i) (f+B.most))]]).take U.length=U:=by rw [hK];simp
 refine dG (v2:=.func (.func 278) #[] #[.p U.length,.p (U.length+1)]) (σ2:=U++[aC.rw [.i (B.b.sLo i f)],aC.rw [.i (min (B.b.hi i) (f+B.most))]]) (.tmp rfl .nil)
  (aW.src [.rw [.i (B.b.sLo i f)],.rw [.i (min (B.b.hi i) (f+B.most))]] [U.length+1,U.length+2] d rfl (by simp [dF]) ⟨?_,?_,trivial⟩ (vsub_fn2 (f:=278) (i1:=U.length) (i2:=U.length+1) (j1:=U.length+1) (j2:=U.length+1+1) oS (by simp [fK]) oS (by simp [fK]))) ⟨rfl,by simp⟩
 ·exact wM (j:=U.length+1) (by simp [fK]) (.inl (aA (bP a))) rfl
 ·exact wM (j:=U.length+2) (by simp [fK]) (.inl (bP (by simp [a]))) rfl
end Go.Proofs.YtajpgeklmcjciaaGreat
namespace Go.AH
section
variable {P:Program} {n0 N:Nat} {rd:Option Nat} {Q:Post} {e:Env} {mk:List Nat} {U:Heap}
def UC (P:Program) (n0 N l0:Nat) (Q:Post) (e:Env) (mk:List Nat) (l:Nat) (σ2:Heap):Prop :=
 ∃ st pend N2 e2 ps2 as2 bd2,σ2[l]?=some (.loop st pend N2 e2 ps2 as2 bd2)/\st ≠ .busy /\
  (match pend with
   |none=>Q .normal e mk (σ2.set l .dead)
   |some c=>bJ P n0 N (some l0) c Q e mk (σ2.set l .dead))
theorem EJ {l0:Nat} {L0:aC} {g:Operand} {ps:Array Tmp} {assign body:Code} {f:FuncId} {p q:List Value} [hc:GoFn P f] (hrd:lJ (some l0) n0=true) (hl0:U[l0]?=some L0) (hL0:uf L0=true)
  (hg:aT e g=some (.func (.func f) p.toArray q.toArray))
  (hcall:∀ L,L=aC.loop .ready none N e ps assign body->eu P f (p++[.func (.yield U.length) #[] #[]]++q) (U++[L]) (fun _ σ2=>UC P n0 N l0 Q e mk U.length σ2)) :
  bJ P n0 N (some l0) (.rangeFunc g ps assign body) Q e mk U:=by
 replace hcall:=hcall _ rfl
 intro G w0 ρ0 A w hi
 obtain ⟨h0,V,t,hs,r⟩:=hi
 have y:=qx r hg
 have o:l0<n0:=lQ hrd l0 rfl
 generalize hge:A.eval g=gv at y
 cases y with
 |func _ _ p' _ q' e1 e2 e3 e4 =>
  refine wpIn_rangeFunc fun fn _=>?_
  have hro:(fen ρ0 (some l0)).round=some (ρ0 l0).b:=rfl
  rw [hro]
  obtain ⟨r1,b1,_⟩:=vO hs hl0 hL0
  rw [t l0 o] at b1
  let r0:Loop:={ state:=.ready,pending:=none,fn,tmps:=A.tmps,params:=ps,assign,body,defers:=r1.defers }
  have D:=kW hs (.loop r0) (.loop .ready none N e ps assign body) 0 ⟨fun hg=>by have h1:=(hs.fgn _ hg).1;have:=hs.size;simp only at h1;omega,r0,iC _ _,rfl,rfl,rfl,rfl,rfl,xP r.tmps (Nat.le_succ _) fun i hi=>iT hi⟩
  have hρ:∀ i < U.length,upd V U.length w.heap.size 0 i=V i:=fun i hi=>iT hi
  have x:upd V U.length w.heap.size 0 U.length=⟨w.heap.size,0,0⟩:=oh
  refine ⟨w.heap.size,[],w.alloc (.loop r0),⟨.fn (.func f) q',p'++#[.func (.yield w.heap.size) #[] #[]]⟩,
   w.alloc (.loop r0),f,p'++#[.func (.yield w.heap.size) #[] #[]]++q',w.alloc (.loop r0),?_,?_,?_,?_,fun h=>by rw [A8] at h;simp at h,?_⟩
  ·exact run_enterLoop_inner b1 _ _ _ _ _
  ·simp only [resolve,hge]
   simp [Deferred.ofValue,Act.eval]
  ·intro f' _;exact lV _ _ _
  ·simp [invoke,hc.run]
  ·have j:lU (U++[aC.loop .ready none N e ps assign body]).length (upd V U.length w.heap.size 0) (p++[Value.func (.yield U.length) #[] #[]]++q).toArray (p'++#[.func (.yield w.heap.size) #[] #[]]++q'):=by
    have a1:lU U.length V p.toArray p':=⟨e1,e3⟩
    have a2:lU U.length V q.toArray q':=⟨e2,e4⟩
    refine mM (l1:=p++[_]) (mM (xU a1 oS hρ) ⟨rfl,fun i hi hi'=>?_⟩) (xU a2 oS hρ)
    have:i=0:=by simp at hi;exact hi
    subst this
    have:=VQ.yield (q:=false) (n:=(U++[aC.loop .ready none N e ps assign body]).length) (V:=upd V U.length w.heap.size 0) U.length oS
    rw [x] at this
    exact this
   refine (RX (V:=ρ0) (rd:=some l0) (hcall G w0 _ _ _ D j)).mono ?_
   rintro en w' ⟨ρ',vr,v,σ2,rfl,⟨st,l,N2,e2',ps2,as2,bd2,q1,q2,q3⟩,hv,C,a,s⟩
   simp only [bA,dE,dx,aR] at C a
   obtain ⟨r2,b1,b2⟩:=vO s q1 rfl
   have z:(ρ' U.length).b=w.heap.size:=by rw [a _ oO,x]
   obtain ⟨_,r',c2,c3,c4,_⟩:=s.obj _ _ q1
   rw [b1] at c2;cases c2
   rw [z] at b1
   refine ⟨r2.pending,_,run_endLoop b1 (by rw [c3];exact q2),?_⟩
   have u:=Jq (b2 .exhausted r2.pending) U.length
   rw [cN,z] at u
   have d:Inv n0 N G w0 ρ0 e mk (σ2.set U.length .dead) { A with defers:=[]++A.defers } (w'.putObj w.heap.size (.loop { r2 with state:=.exhausted })):=by
    refine ⟨by simp;omega,ρ',fun i hi=>(a i oO).trans ((hρ i oO).trans (t i hi)),u,?_⟩
    exact xQ r (m:=(σ2.set U.length .dead).length) (ρ':=ρ') (by simp;omega) fun i hi=>(a i oO).trans (hρ i hi)
   rw [c4] at d ⊢
   cases l with
   |none=>exact ⟨e,_,_,q3,d⟩
   |some c=>exact q3 G w0 ρ0 _ _ d
end
end Go.AH
namespace Go.AH.Warp
def dw (g:Nat->Int):List Int:=(List.range 401).map g
theorem dQ (g:Nat->Int):(dw g).length=401:=by simp [dw]
theorem rE {g:Nat->Int} {i:Nat} (h:i<401):gi (dw g) i=g i:=by simp [dw,gi,cE,cJ,dq h]
theorem qp {g g':Nat->Int} (h:∀ i<401,g i=g' i):dw g=dw g':=eI fun i hi=>h i (List.mem_range.1 hi)
theorem Ld {g:Nat->Int} {i:Nat} {v:Int}:(dw g).set i v=dw fun x=>if x=i then v else g x:=by
 refine eK fun x=>?_
 unfold dw
 rw [List.getElem?_set]
 simp only [cJ,cU,List.length_range]
 by_cases h:i=x
 ·subst h
  by_cases h2:i<401
  ·rw [dq h2];simp [h2]
  ·rw [di (oU h2)];simp [h2]
 ·by_cases h2:x<401
  ·rw [dq h2];simp [h,Ne.symm h]
  ·rw [di (oU h2)];simp [h]
theorem tV:noRow=dw fun _=>nev:=by unfold noRow dw;rw [List.map_const',List.length_range]
def iw (b:Bl) (k:Nat):Nat->Int:=fun x=>b.vt k ((x:Int) - 200)
def jQ (b:Bl) (k j:Nat) (v:Int):Nat->Int:=fun x=>if x=j then v else if x<j then iw b k x else nev
theorem Y8 (b:Bl):List.replicate 401 (Value.i 0)=ints (dw (iw b 0)):=by
 have:dw (iw b 0)=List.replicate 401 0:=by
  unfold dw
  rw [show iw b 0=fun _=>0 from rfl,List.map_const',List.length_range]
 rw [this,ints,List.map_replicate]
structure TG (U H:Heap) (nb:Nat) (row:List Int):Prop where
 pre:H.take U.length=U
 b0:H[U.length]?=some (.rw [.pointer (some ⟨nb,0,none⟩)])
 b1:H[U.length+1]?=some (.rw (List.replicate 401 (.int .i64 0)))
 b2:H[U.length+2]?=some (.rw (ints row))
theorem TG.len {U H:Heap} {nb:Nat} {row:List Int} (h:TG U H nb row):U.length+3<=H.length:=aS h.b2
theorem TG.app {U H:Heap} {nb:Nat} {row:List Int} (h:TG U H nb row) (X:Heap):TG U (H++X) nb row:=⟨aP h.pre,aA h.b0,aA h.b1,aA h.b2⟩
theorem TG.set {U H:Heap} {nb:Nat} {row:List Int} (h:TG U H nb row) {i:Nat} (hi:U.length+3<=i) (x:aC):TG U (H.set i x) nb row :=
 ⟨take_set h.pre oO,aB h.b0 oO,aB h.b1 oO,aB h.b2 oO⟩
theorem TG.row {U H:Heap} {nb:Nat} {row:List Int} (h:TG U H nb row) (r:List Int):TG U (H.set (U.length+2) (.rw (ints r))) nb r :=
 ⟨take_set h.pre oO,aB h.b0 oO,aB h.b1 oO,aQ h.b2⟩
theorem Y9 (b:Bl) (k:Nat):noRow=dw (jQ b k 0 nev):=by
 rw [tV]
 refine qp fun i _=>?_
 unfold jQ
 rw [if_neg (by omega:¬ i<0),ite_self]
theorem Le (b:Bl) (k j:Nat):dw (jQ b k j (b.vt k (-200+(j:Int))))=dw (jQ b k (j+1) nev):=by
 refine qp fun i _=>?_
 unfold jQ
 by_cases h:i=j
 ·subst h
  rw [if_pos rfl,if_neg oO,if_pos oO]
  unfold iw
  congr 1
 ·rw [if_neg h]
  by_cases h2:i=j+1
  ·rw [if_pos h2,if_neg oO]
  ·rw [if_neg h2]
   by_cases h3:i<j
   ·rw [if_pos h3,if_pos oO]
   ·rw [if_neg h3,if_neg oO]
theorem Ox (b:Bl) (k:Nat):dw (jQ b k 401 nev)=dw (iw b k):=by
 refine qp fun i hi=>?_
 unfold jQ
 rw [if_neg oO,if_pos hi]
theorem Oy (b:Bl) (k j:Nat) (v w:Int):(dw (jQ b k j v)).set j w=dw (jQ b k j w):=by
 rw [Ld]
 refine qp fun i _=>?_
 unfold jQ
 by_cases h:i=j
 ·rw [if_pos h,if_pos h]
 ·rw [if_neg h,if_neg h,if_neg h]
theorem UD (b:Bl) (k:Nat) {j:Nat} (v:Int) (h:j<401):gi (dw (jQ b k j v)) j=v:=by
 rw [rE h];unfold jQ;rw [if_pos rfl]
theorem adE {A X:Heap} {rb l1:Nat} {R0 R1 B bf b1 b2 L2 D:aC} (h1:rb<A.length) (h2:l1<A.length) (hne:rb ≠ l1) :
  ((((A.set rb R0++X++[bf]).set l1 B++[b1]++[b2]++[L2]).set rb R1).set ((A.set rb R0++X++[bf]).set l1 B++[b1]++[b2]).length D)=(A.set rb R1).set l1 B++X++[bf,b1,b2,D]:=by
 have e0:(A.set rb R0++X++[bf]).set l1 B=(A.set rb R0).set l1 B++X++[bf]:=by
  rw [cI _ _ (by simp;omega),cI _ _ (oU h2)]
 rw [e0]
 have e1:((A.set rb R0).set l1 B++X++[bf]++[b1]++[b2]++[L2]).set rb R1=(A.set rb R1).set l1 B++X++[bf]++[b1]++[b2]++[L2]:=by
  rw [cI _ _ (by simp;omega),cI _ _ (by simp;omega),cI _ _ (by simp;omega),cI _ _ (by simp;omega),cI _ _ (by simp;omega),List.set_comm _ _ (by omega:l1 ≠ rb),cN]
 rw [e1,fq _ _ oS]
 simp
theorem adF {A X:Heap} {rb l2:Nat} {R0 R1 B:aC} (h1:rb<A.length) (h2:l2<A.length) (hne:rb ≠ l2):((A.set rb R0++X).set l2 B).set rb R1=(A.set rb R1).set l2 B++X++[]:=by
 rw [bN,cI _ _ (oU h2),cI _ _ (oU h1),List.set_comm _ _ (by omega:l2 ≠ rb),cN]
end Go.AH.Warp
namespace Go.Proofs.YtajpgeklmcjciaaGreat
attribute [local irreducible] dA bJ bK jh fQ dK eH bY eu aW dR dW
open Go.AH.Heat Go.AH.Warp
theorem BU {A B:Prop} (k:B) (h:Hide B->A:=by intro z_;(repeat' (first|refine sCm ?_|(refine gU ?_;first|(refine cO ?_;first|refine st (aJ rfl (by first|exact ig rfl|exact aF hN.b0|exact aF a0|assumption)) rfl rfl ?_|refine st (bG rfl (by assumption)) rfl rfl ?_)|refine sK4 ?_|refine sK0 ?_|(refine Pm ?_;refine st (Fq rfl) rfl rfl ?_)|(refine dV ?_;refine st (bC rfl rfl rfl (by first|exact sJ|exact yB)) rfl rfl ?_)|(refine gZ ?_;refine stN (bW rfl rfl rfl rfl (by first|exact iH (aD _) (cL _)|exact hput)) rfl ?_)|(refine ahA ?_;refine stN (DX (by rfl) (by rfl) rfl (by omega) (by rfl) (by exact iH (aD _) (cL _))) rfl ?_))|refine bU (id:=3) ?_|refine bU (id:=6) ?_|refine bU (id:=7) ?_|refine bU (id:=13) ?_|refine bU (id:=15) ?_|refine aG ?_|refine sK2 ?_|refine sK1 ?_|fail));exact z_.h):A:=h ⟨k⟩
theorem Za {A B:Prop} (k:B) (h:Hide B->A:=by intro z_;(repeat' (first|refine sCm ?_|(refine gU ?_;first|(refine uD ?_;refine st (jd rfl) (by exact hrd) rfl ?_)|(refine cO ?_;refine st (aJ rfl (by first|exact aF hN.b0|exact aF a0|exact aF a1)) (by exact hrd) rfl ?_)|(refine dV ?_;refine st (bC rfl rfl rfl (by exact hf1)) (by exact hrd) rfl ?_)|(refine yT ?_;refine st (jG rfl) (by exact hrd) rfl ?_)|(refine gZ ?_;refine stN (bW rfl rfl rfl rfl (by first|exact iH (aD _) (cL _)|exact hput)) (by exact hrd) ?_))|(refine fU ?_;first|refine eU ?_;refine frA (aJ rfl (by exact hq8 _)) rfl ?_ rfl|refine fIA ?_;refine frA (ng rfl rfl (by omega) (by omega)) rfl ?_ hclr|refine eU ?_;refine frA (aJ rfl (by exact hq7 _)) rfl ?_ rfl|refine fIA ?_;refine frA (ng rfl rfl (by omega) (by omega)) rfl ?_ hcl5|refine eU ?_;refine frA (aJ rfl (by exact hq5 _)) rfl ?_ rfl|refine eU ?_;refine frA (aJ rfl (by exact hq2 _)) rfl ?_ hcln|refine eU ?_;refine frA (aJ rfl (by exact hq6 _)) rfl ?_ rfl|refine Iy ?_|refine TM ?_|refine Iz ?_|refine WG ?_|(refine qX ?_;refine fr (bC rfl rfl rfl (by exact hfa _)) (by rfl) rfl ?_))|(refine fP ⟨by kernel_rfl,?_⟩)|refine aG ?_));exact z_.h):A:=h ⟨k⟩
theorem Jc {U:Heap} {B:Bld} {nb sb cS tb cT:Nat} (hv:mJ B) (hB:iY U B nb sb cS tb cT) {sn:Nat} (hst:sn<=B.n) :
  Ev prog 112 [.p nb,.i (sn:Nat)] U (.agg (ints (dw (iw B.b (B.n - sn)))).toArray) U:=by
 refine aH U.length 53 func112 (h:=?_)
 have b8:=hv.n
 have aq:nb < U.length:=aS hB.nb
 refine BU ?_
 obtain ⟨Ha,R⟩:=xy (U++[aC.rw [.p nb]]++[aC.rw (List.replicate 401 (.i 0))]++[aC.rw (ints (dw (iw B.b 0)))])
 refine .mk (dB [(1,.i (sn:Nat)),(2,.p U.length),(4,.p (U.length+1)),(5,.p (U.length+2))] Ha (by rw [R,<- Y8];rfl) ⟨rfl,rfl,(by (refine congrArg (fun n=>some (Value.p n)) ?_;simp;try omega)),(by (refine congrArg (fun n=>some (Value.p n)) ?_;simp;try omega)),trivial⟩ ?_)
 have hN:TG U Ha nb (dw (iw B.b 0)):=⟨by rw [R];simp,by rw [R];exact aA (aA aN),by rw [R];exact aA (bP oS),by rw [R];exact bP oS⟩
 have W:=hN.len
 have ci:aI Ha nb (0+0+0)=some (.s sb B.n cS):=aF (hB.take hN.pre).nb
 clear R
 apply aG
 refine BU ?_
 refine dO (ι:=Nat×Nat) (fun k=>[(1,.i (sn:Nat)),(2,.p U.length),(4,.p (U.length+1)),(5,.p (U.length+2)),(6,.p k.2)])
  (fun k mk H=>k.1<=B.n - sn/\Mks (U.length+3) mk H/\U.length+3<=k.2/\TG U H nb (dw (iw B.b k.1))/\H[k.2]?=some (.rw [.i ((B.n:Int) - 1 - k.1)])) (fun k=>B.n - k.1) (0,Ha.length) tE ⟨bL _,.nil,W,hN.app _,by simp;rfl⟩ ?_
 clear hN W ci Ha
 rintro ⟨k,ib⟩ mk H ⟨hk,hM,br,hN,hi⟩
 dsimp only at hk hM br hN hi ⊢
 have ca:=hN.len
 have bh:=aS hi
 have cv:=hB.take hN.pre
 by_cases cn:k<B.n - sn
 ·have c1:(B.n:Int) - 1 - k>=sn:=oO
  have a0:=hi
  refine BU ?_
  have a:(ints noRow).length=401:=by rw [bQ,tV,dQ]
  have c5:splice (List.replicate 401 (Value.i 0)) 0 (ints noRow)=ints (dw (jQ B.b (k+1) 0 nev)):=by rw [<- Y9];simp [splice,a]
  have hf1:=sJ (U:=H)
  refine .mk ?_
  apply aG
  refine BU ?_
  clear hf1
  obtain ⟨H2,M⟩:=xy (H++[aC.rw (ints (dw (jQ B.b (k+1) 0 nev)))])
  refine .mk (dB [(1,.i (sn:Nat)),(2,.p U.length),(4,.p (U.length+1)),(5,.p (U.length+2)),(6,.p ib),(7,.p H.length)] H2 (by rw [M,<- c5];rfl) tE ?_)
  have hf1:=yB (U:=H2) (lo:=-200) (hi:=200)
  apply aG
  refine BU ?_
  clear hf1 c5 a a0
  obtain ⟨Hc,z⟩:=xy (H2++[aC.rw [.i (-200)]]++[aC.rw [.i 200]])
  obtain ⟨rb,ah⟩:=xy H.length
  have v:H2.length=rb+1:=by rw [M,ah];simp
  have C:Hc.length=rb+3:=by rw [z];simp [v]
  have ay:TG U Hc nb (dw (iw B.b k)):=by rw [z,M];exact ((hN.app _).app _).app _
  have aa:Mks (U.length+3) mk Hc:=by rw [z,M];exact ((hM.app _).app _).app _
  have b6:Hc[ib]?=some (.rw [.i ((B.n - (k+1):Nat):Int)]):=by rw [show ((B.n - (k+1):Nat):Int)=(B.n:Int) - 1 - k by omega,z,M];exact aA (aA (aA hi))
  have bk:Hc[rb]?=some (.rw (ints (dw (jQ B.b (k+1) 0 nev)))):=by rw [z,M,ah];exact aA (aA aN)
  have an:Hc[rb+1]?=some (.rw [.i (-200)]):=by rw [z];exact aA (bP v)
  have b3:Hc[rb+2]?=some (.rw [.i 200]):=by rw [z];exact bP (by simp [v])
  have bc:ib<rb:=oO
  have aj:U.length+3<=rb:=oO
  refine dB [(1,.i (sn:Nat)),(2,.p U.length),(4,.p (U.length+1)),(5,.p (U.length+2)),(6,.p ib),(7,.p rb),(24,.func (.func 278) #[] #[.p (rb+1),.p (rb+2)])] Hc z.symm ⟨rfl,rfl,rfl,rfl,rfl,by rw [ah];rfl,by rw [show rb+2=rb+1+1 from rfl,<- v];rfl,trivial⟩ ?_
  clear z M v ah hN hM hi cv ca bh H2 H
  refine jU (p:=[]) (q:=[.p (rb+1),.p (rb+2)]) rfl fun L hL=>?_
  obtain ⟨A,t⟩:=xy (Hc++[aC.dfr,L])
  have c7:A.length=rb+5:=by rw [t];simp [C]
  have ac:TG U A nb (dw (iw B.b k)):=by rw [t];exact ay.app _
  have az:Mks (U.length+3) mk A:=by rw [t];exact aa.app _
  have ag:A[ib]?=some (.rw [.i ((B.n - (k+1):Nat):Int)]):=by rw [t];exact aA b6
  have Uq:A[rb]?=some (.rw (ints (dw (jQ B.b (k+1) 0 nev)))):=by rw [t];exact aA bk
  have ar:A[rb+1]?=some (.rw [.i (-200)]):=by rw [t];exact aA an
  have be:A[rb+2]?=some (.rw [.i 200]):=by rw [t];exact aA b3
  have b4:A[rb+3]?=some .dfr:=by rw [<- C,t,bE (aD _)];simp
  have T:A[rb+4]?=some L:=by rw [show rb+4=Hc.length+1 by omega,t,bE oO];simp
  rw [<- t,C]
  refine zn (S:=fun j=>A.set rb (.rw (ints (dw (jQ B.b (k+1) j nev))))) (l:=rb+4) (lb:=rb+1) (hb:=rb+2) (lo:=-200) (hi:=200) (n:=401) oO oO oO rfl (set_self Uq) (fun j=>by simp) (fun j=>aB ar oO) (fun j=>aB be oO)
   (fun j=>(aB T oO).trans (congrArg some hL)) (fun h j=>iW (o:=.rw (ints _)) (aY (aZ _)) h) rfl ?_ ?_
  ·intro j hj X QB bw
   obtain ⟨f,hf⟩:=xy (-200+(j:Int))
   obtain ⟨HX,E⟩:=xy (A.set rb (.rw (ints (dw (jQ B.b (k+1) j nev))))++X)
   have bv:TG U HX nb (dw (iw B.b k)):=by rw [E];exact (ac.set aj _).app X
   have bp:HX[ib]?=some (.rw [.i ((B.n - (k+1):Nat):Int)]):=by rw [E];exact aA (aB ag oO)
   have bt:HX[rb]?=some (.rw (ints (dw (jQ B.b (k+1) j nev)))):=by rw [E];exact aA (aQ Uq)
   have ai:HX[rb+4]?=some L:=by rw [E];exact aA (aB T oO)
   have hrd:lJ (some (rb+4)) (A.length+X.length)=true:=(show Nat.blt _ _=true from Nat.blt_eq.mpr oO)
   have b9:HX.length=A.length+X.length:=by rw [E];simp
   rw [<- hf,<- E,<- b9]
   rw [<- b9] at hrd
   refine Za ?_
   refine vX (aA ai) hL fun O hO=>?_
   obtain ⟨HB,y⟩:=xy ((HX++[aC.rw [.i f]]).set (rb+4) O)
   have cd:=aS ai
   have ak:TG U HB nb (dw (iw B.b k)):=by rw [y];exact (bv.app _).set oO _
   have af:HB[ib]?=some (.rw [.i ((B.n - (k+1):Nat):Int)]):=by rw [y];exact aB (aA bp) oO
   have bo:HB[rb]?=some (.rw (ints (dw (jQ B.b (k+1) j nev)))):=by rw [y];exact aB (aA bt) oO
   have av:HB[HX.length]?=some (.rw [.i f]):=by rw [y];exact aB aN oO
   have c6:HB[rb+4]?=some O:=by rw [y];exact aQ (aA ai)
   have bf:HB.length=HX.length+1:=by rw [y];simp
   refine dB [(2,.p U.length),(5,.p (U.length+2)),(6,.p ib),(7,.p rb),(8,.p HX.length)] HB (by rw [y];rfl) tE ?_
   have hf1:=Lc (U:=HB) (i:=B.n - (k+1)) (f:=f) hv (hB.take ak.pre) oO oO
   have a0:=af
   have a1:=av
   have hN:=ak
   refine Za ?_
   clear hf1 a0 a1 hN
   obtain ⟨i,ba⟩:=xy (B.n - (k+1))
   have bb:i<B.n:=oO
   rw [<- ba] at af ⊢
   obtain ⟨HD,u⟩:=xy (HB++[aC.rw [.i (B.b.sLo i f)]]++[aC.rw [.i (min (B.b.hi i) (f+B.most))]])
   have w:HD.length=HB.length+2:=by rw [u];simp
   obtain ⟨fb,hfb⟩:=xy HX.length
   have ck:=hv.tube bb
   have cj:=hv.most
   have cl:-200<=B.b.sLo i f/\B.b.sLo i f<=400:=by unfold Bl.sLo;show -200<=max (B.b.lo i) (f - B.most)/\max (B.b.lo i) (f - B.most)<=400;omega
   rw [<- u]
   refine EJ (p:=[]) (q:=[.p HB.length,.p (HB.length+1)]) (L0:=O) hrd (by rw [u];exact aA (aA c6)) (by rw [hO];rfl) rfl fun L2 al=>?_
   obtain ⟨A2,c⟩:=xy (HD++[L2])
   have ao:A2.length=HB.length+3:=by rw [c];simp [w]
   have a4:TG U A2 nb (dw (iw B.b k)):=by rw [c,u];exact ((ak.app _).app _).app _
   have Vv:A2[ib]?=some (.rw [.i (i:Nat)]):=by rw [c,u];exact aA (aA (aA af))
   have I:A2[rb]?=some (.rw (ints (dw (jQ B.b (k+1) j nev)))):=by rw [c,u];exact aA (aA (aA bo))
   have a5:A2[fb]?=some (.rw [.i f]):=by rw [c,u,hfb];exact aA (aA (aA av))
   have a8:A2[HB.length]?=some (.rw [.i (B.b.sLo i f)]):=by rw [c,u];exact aA (aA aN)
   have a7:A2[HB.length+1]?=some (.rw [.i (min (B.b.hi i) (f+B.most))]):=by rw [c,u];exact aA (bP oS)
   have D:A2[HB.length+2]?=some L2:=by rw [c];exact bP w
   rw [<- c,w]
   obtain ⟨F,hF⟩:∃ F:Int->Int,F=fun g=>B.b.vt k g+B.hard i*ab (g - f):=⟨_,rfl⟩
   refine zn (S:=fun q=>A2.set rb (.rw (ints (dw (jQ B.b (k+1) j (mF F (B.b.sLo i f) q)))))) (l:=HB.length+2) (lb:=HB.length) (hb:=HB.length+1) (lo:=B.b.sLo i f) (hi:=min (B.b.hi i) (f+B.most)) (n:=B.b.sN i f) oO oO oO rfl (set_self I) (fun j=>by simp) (fun j=>aB a8 oO) (fun j=>aB a7 oO)
    (fun j=>(aB D oO).trans (congrArg some al)) (fun h j=>iW (o:=.rw (ints _)) (aY (aZ _)) h) rfl ?_ ?_
   ·intro q hq X2 QB2 a3
    have hg:=(B.b.AP (i:=i) (f:=f) (g:=B.b.sLo i f+q)).1 ⟨oO,oO⟩
    obtain ⟨g,ap⟩:=xy (B.b.sLo i f+q)
    rw [<- ap] at hg ⊢
    have hg2:-200<=g/\g<=200:=oO
    obtain ⟨m,hm⟩:=xy (mF F (B.b.sLo i f) q)
    have bq:mF F (B.b.sLo i f) (q+1)=min m (F g):=by rw [hm,ap];rfl
    obtain ⟨HY,G⟩:=xy (A2.set rb (.rw (ints (dw (jQ B.b (k+1) j m))))++X2)
    have c4:TG U HY nb (dw (iw B.b k)):=by rw [G];exact (a4.set aj _).app X2
    have bn:HY[ib]?=some (.rw [.i (i:Nat)]):=by rw [G];exact aA (aB Vv oO)
    have c2:HY[rb]?=some (.rw (ints (dw (jQ B.b (k+1) j m)))):=by rw [G];exact aA (aQ I)
    have c8:HY[fb]?=some (.rw [.i f]):=by rw [G];exact aA (aB a5 oO)
    have c3:HY[HB.length+2]?=some L2:=by rw [G];exact aA (aB D oO)
    have hrd:lJ (some (HB.length+2)) (A2.length+X2.length)=true:=(show Nat.blt _ _=true from Nat.blt_eq.mpr oO)
    rw [<- hm,<- G]
    refine Za ?_
    refine vX c3 al fun O2 bl=>?_
    obtain ⟨HZ,N⟩:=xy (HY.set (HB.length+2) O2)
    have ZZ:TG U HZ nb (dw (iw B.b k)):=by rw [N];exact c4.set oO _
    have ax:HZ[ib]?=some (.rw [.i (i:Nat)]):=by rw [N];exact aB bn oO
    have ad:HZ[rb]?=some (.rw (ints (dw (jQ B.b (k+1) j m)))):=by rw [N];exact aB c2 oO
    have bj:HZ[fb]?=some (.rw [.i f]):=by rw [N];exact aB c8 oO
    rw [<- N]
    have bg:=ZZ.len
    have bd:=(B.b.KZ hv.ok k (by show k<=B.n;omega) g)
    have bs:rb<HZ.length:=aS ad
    have cm:ib<HZ.length:=aS ax
    have cg:fb<HZ.length:=aS bj
    have bz:U.length+2<HZ.length:=oO
    have c0:nb<HZ.length:=oO
    have hclr:∀ {o:Nat},closed HZ.length (.pointer (some ⟨rb,o,none⟩))=true:=fun {o}=>Nat.blt_eq.mpr bs
    have hcl5:∀ {o:Nat},closed HZ.length (.pointer (some ⟨U.length+2,o,none⟩))=true:=fun {o}=>Nat.blt_eq.mpr bz
    have hcln:closed HZ.length (.p nb)=true:=Nat.blt_eq.mpr c0
    have hq2:∀ Y,aI (HZ++Y) U.length 0=some (.p nb):=fun Y=>aF (ZZ.app Y).b0
    have hq6:∀ Y,aI (HZ++Y) ib 0=some (.i (i:Nat)):=fun Y=>aF (aA ax)
    have hq8:∀ Y,aI (HZ++Y) fb 0=some (.i f):=fun Y=>aF (aA bj)
    have b5:0+(f+200).toNat*1=j:=oO
    have hq7:∀ Y,aI (HZ++Y) rb (0+(f+200).toNat*1)=some (.i m):=fun Y=>by rw [b5,aF (aA ad),iF (by rw [dQ];exact hj),UD _ _ _ hj]
    have hq5:∀ Y,aI (HZ++Y) (U.length+2) (0+(g+200).toNat*1)=some (.i (B.b.vt k g)):=fun Y=>by
     rw [aF (ZZ.app Y).b2,iF (by rw [dQ];omega),rE oO]
     unfold iw
     rw [show ((0+(g+200).toNat*1:Nat):Int) - 200=g by omega]
    have hfa:=fun Y=>QA (U:=HZ++Y) (i:=i) (d:=g - f) hv ((hB.take ZZ.pre).app) bb oO
    have cq:0<=B.hard i*ab (g - f)/\B.hard i*ab (g - f)<=9000:=by
     have h1:=hv.st i bb
     have h0:0<=ab (g - f)/\ab (g - f)<=1000:=by unfold ab;omega
     refine ⟨dl oO h0.1,?_⟩
     exact Int.le_trans (eT (by omega:B.hard i<=9) h0.2 h0.1 oO) oO
    rw [<- hfb]
    generalize hcoD:B.hard i*ab (g - f)=co at cq hfa
    generalize hvtD:B.b.vt k g=vg at bd hq5
    have hfr:-200<=f/\f<=200:=oO
    have hvt2:0<=vg/\vg<=1099511627776:=bd
    have hput:putCells (HZ++gV (fun _=>true) []) rb (0+(f+200).toNat*1) [.i (min m (vg+co))]=some (HZ.set rb (.rw (ints (dw (jQ B.b (k+1) j (min m (vg+co))))))):=by
     rw [show HZ++gV (fun _=>true) []=HZ from bN HZ,b5]
     exact fF ad (by rw [bQ,dQ];simp;omega) (by rw [bQ,dQ];omega) (by rw [wZ (by rw [dQ];exact hj),Oy])
    refine qg (bJ.mono (Q:=fun ex _ _ s=>ex=Exit.normal/\s=HZ.set rb (.rw (ints (dw (jQ B.b (k+1) j (min m (vg+co))))))) ?_ ?_)
    ·clear bd a3 bq hm hF Vv I a5 a8 a7 D a4 c4 bn c2 c8 c3 ZZ ax ad bj bg bs cm cg bz c0 b5 hvtD hcoD N G ap hg ao c cl cj ck hfb w u ba af bf c6 av bo ak cd y b9 ai bt bp bv E hf bw T b4 be ar Uq ag az ac c7 t aj bc b3 an bk b6 aa ay C c1 cn br hk aq b8 hst hB bl al hO hL hq hv
     refine eY oK hrd ?_
     refine Za ?_
     exact ⟨rfl,rfl⟩
    ·rintro ex e' mk' s ⟨rfl,rfl⟩
     have cc:F g=vg+co:=by rw [hF];show B.b.vt k g+B.hard i*ab (g - f)=_;rw [hvtD,hcoD]
     rw [N,G,adF oO oO oO,<- cc,<- bq]
     refine uz ?_
     rw [bl]
     exact a3 _ _ _
   ·refine ⟨.ready,none,_,_,_,_,_,(aB D oO).trans (congrArg some al),by simp,?_⟩
    show (dK 4 (dK 3 QB)) _ _ _ _
    refine uz ?_
    refine uz ?_
    have c9:mF F (B.b.sLo i f) (B.b.sN i f)=B.b.vt (k+1) (-200+(j:Int)):=by rw [hF,<- hf,ba];rfl
    rw [c9,Le,<- w,c,u,y,E,adE oO oO oO,hO]
    exact bw _ _ _
  ·refine ⟨.ready,none,_,_,_,_,_,(aB T oO).trans (congrArg some hL),by simp,?_⟩
   show (dK 2 _) _ _ _ _
   refine uz ?_
   refine rG ?_
   rw [Ox]
   obtain ⟨K,hK⟩:=xy ((A.set rb (.rw (ints (dw (iw B.b (k+1)))))).set (rb+4) .dead)
   have a6:TG U K nb (dw (iw B.b k)):=by rw [hK];exact (ac.set aj _).set oO _
   have au:K[ib]?=some (.rw [.i ((B.n - (k+1):Nat):Int)]):=by rw [hK];exact aB (aB ag oO) oO
   have aw:K[rb]?=some (.rw (ints (dw (iw B.b (k+1))))):=by rw [hK];exact aB (aQ Uq) oO
   have bu:Mks (U.length+3) ((rb+3)::mk) K:=by
    rw [hK]
    refine Mks.cons ((az.set Uq oS).set (aB T oO) (by rw [hL];simp)) (aa.new oO) oO (aB (aB b4 oO) oO)
   rw [<- hK]
   clear hK Uq ag az ac T b4 be ar c7 t hL b3 an bk b6 aa ay
   have cp:rb<K.length:=aS aw
   have a:(ints (dw (iw B.b (k+1)))).length=401:=by rw [bQ,dQ]
   have J:=jD (dw (iw B.b (k+1)))
   have hd1:aK K rb 0 401=some (ints (dw (iw B.b (k+1)))):=aV aw a
   have hput:putCells K (U.length+2) 0 (ints (dw (iw B.b (k+1))))=some (K.set (U.length+2) (.rw (ints (dw (iw B.b (k+1)))))):=fF a6.b2 (by rw [a,bQ,dQ];omega) (by rw [bQ,dQ];omega) (by simp [splice,bQ,dQ])
   have hN:=a6
   have a0:=au
   apply aG
   refine BU ?_
   have ae:=a6.row (dw (iw B.b (k+1)))
   have P:=bu.set (x:=.rw (ints (dw (iw B.b (k+1))))) a6.b2 oS
   have bx:=aB (x:=.rw (ints (dw (iw B.b (k+1))))) au (show U.length+2 ≠ ib by omega)
   obtain ⟨K2,am⟩:=xy (K.set (U.length+2) (.rw (ints (dw (iw B.b (k+1))))))
   refine .mk (dB [(1,.i (sn:Nat)),(2,.p U.length),(4,.p (U.length+1)),(5,.p (U.length+2)),(6,.p ib)] K2 am.symm tE ?_)
   rw [<- am] at ae P bx
   clear am hput hd1 J a cp bu aw au a6 a0 hN
   clear K
   have a0:=bx
   have hN:=ae
   have cu:((B.n - (k+1):Nat):Int) - 1=(B.n:Int) - 1 - ((k+1:Nat):Int):=oO
   apply aG
   refine BU ?_
   exact ⟨(k+1,K2.length),⟨by dsimp only;omega,P.app _,ae.len,ae.app _,by rw [<- cu];exact aN⟩,by dsimp only;omega,tE⟩
 ·have c1:¬ (B.n:Int) - 1 - k>=sn:=oO
  have a0:=hi
  refine BU ?_
  obtain rfl:k=B.n - sn:=oO
  obtain ⟨e,a9⟩:=xy (dw (iw B.b (B.n - sn)))
  rw [<- a9] at hN ⊢
  have cf:e.length=401:=by rw [a9,dQ]
  have a:(ints e).length=401:=by rw [bQ,cf]
  have J:=jD e
  have ch:=aZ e
  have hd1:aK H (U.length+2) 0 401=some (ints e):=aV hN.b2 a
  have hput:putCells H (U.length+1) 0 (ints e)=some (H.set (U.length+1) (.rw (ints e))):=fF hN.b1 (by rw [a];simp) oS (by simp [splice,a])
  have P:=hM.set (x:=.rw (ints e)) hN.b1 oS
  have cr:(H.set (U.length+1) (.rw (ints e)))[U.length+1]?=some (.rw (ints e)):=aQ hN.b1
  have ce:(H.set (U.length+1) (.rw (ints e))).take U.length=U:=take_set hN.pre oO
  refine .mk ?_
  apply aG
  generalize ints e=rc at *
  refine BU ?_
  refine stN (bW (size:=401) rfl rfl (by exact a) (by exact J) (by exact hput)) rfl ?_
  refine BU ?_
  have cb:=nR (mk:=mk) ce fun x hx=>by have:=(P.2 x hx).1;omega
  exact Qk P (.cellN inferInstance rfl (aV (rD cr fun hx=>by have:=(P.2 _ hx).1;omega) a) .nil) (.plain cb ch) ⟨rfl,rfl⟩
end Go.Proofs.YtajpgeklmcjciaaGreat
namespace Go.AH.Warp
def cIn (b:Bl) (i:Nat) (f v:Int) (G:Nat->Int):Nat->Nat->Int
 |0=>G
 |q+1=>fun x=>if x=(b.sLo i f+q+200).toNat then min (cIn b i f v G q x) (v+b.hard i*ab (b.sLo i f+q - f)) else cIn b i f v G q x
def cOut (b:Bl) (i:Nat) (R:Nat->Int):Nat->Nat->Int
 |0=>fun _=>nev
 |j+1=>if R j>=nev then cOut b i R j else cIn b i (-200+j) (R j) (cOut b i R j) (b.sN i (-200+j))
def iJ (b:Bl):Nat->Nat->Int
 |0=>fun x=>if x=200 then 0 else nev
 |i+1=>cOut b i (iJ b i) 401
theorem UE {b:Bl} {i:Nat} {R:Nat->Int} (h:∀ x<401,R x=nev):∀ j≤401,cOut b i R j=fun _=>nev
 |0,_=>rfl
 |j+1,hj=>by
  simp only [cOut]
  rw [if_pos (by rw [h j oO];exact dy _),UE h j oO]
theorem UF {b:Bl} {i:Nat} (h:∀ x<401,iJ b i x=nev):∀ k,i<=k->∀ x<401,iJ b k x=nev
 |0,hk,x,hx =>
            by
            have:i=0:=oO
            subst this;exact h x hx
 |k+1,hk,x,hx=>by
  by_cases he:i=k+1
  ·subst he;exact h x hx
  ·show cOut b k (iJ b k) 401 x=nev
   rw [UE (UF h k oO) 401 (aD _)]
theorem adG {b:Bl} {i:Nat} {f v:Int} {G:Nat->Int} (hv:0<=v) (hh:0<=b.hard i) (hG:∀ x,0<=G x/\G x<=nev):∀ q x,0<=cIn b i f v G q x/\cIn b i f v G q x<=nev
 |0,x=>hG x
 |q+1,x=>by
  have h1:=adG (b:=b) (i:=i) (f:=f) hv hh hG q x
  have h2:0<=b.hard i*ab (b.sLo i f+q - f):=dl hh (Bl.uT _)
  simp only [cIn]
  split <;> omega
theorem QC {b:Bl} {i:Nat} {R:Nat->Int} (hh:0<=b.hard i) (hR:∀ x,0<=R x):∀ j x,0<=cOut b i R j x/\cOut b i R j x<=nev
 |0,_=>by simp [cOut]
 |j+1,x=>by
  simp only [cOut]
  split
  ·exact QC hh hR j x
  ·exact adG (hR j) hh (QC hh hR j) _ x
theorem QD {b:Bl} (ho:b.Ok):∀ i≤b.n,∀ x,0<=iJ b i x/\iJ b i x<=nev
 |0,_,x=>by simp only [iJ];split <;> simp
 |i+1,hi,x=>QC (by have:=(ho i oO).1;omega) (fun x=>(QD ho i oO x).1) 401 x
theorem row0 (b:Bl):noRow.set 200 0=dw (iJ b 0):=by
 rw [tV,Ld];rfl
theorem af4 {b:Bl} {i:Nat} {f v:Int} {G:Nat->Int} {q x0:Nat} (h:x0=(b.sLo i f+q+200).toNat) :
  (dw (cIn b i f v G q)).set x0 (min (cIn b i f v G q x0) (v+b.hard i*ab (b.sLo i f+q - f)))=dw (cIn b i f v G (q+1)):=by
 rw [Ld]
 refine qp fun x _=>?_
 simp only [cIn]
 by_cases hx:x=x0
 ·rw [if_pos hx,if_pos (hx.trans h),hx]
 ·rw [if_neg hx,if_neg fun e=>hx (e.trans h.symm)]
theorem ints_at (g:Nat->Int):JM g 401 (ints (dw g)).toArray:=fun i hi=>by
 have:=iF (l:=dw g) (i:=i) (by rw [dQ];exact hi)
 rw [rE hi] at this
 simpa using this
end Go.AH.Warp
namespace Go.Proofs.YtajpgeklmcjciaaGreat
attribute [local irreducible] dA bJ bK jh fQ dK eH bY eu aW dR dW
open Go.AH.Heat Go.AH.Warp
theorem xg {A B:Prop} (k:B) (h:Hide B->A:=by intro z_;(repeat' (first|refine sCm ?_|(refine gU ?_;first|(refine cO ?_;refine st (bG rfl (by assumption)) rfl rfl ?_)|refine sK0 ?_|(refine gIA ?_;refine st (ng rfl rfl (by omega) (by omega)) rfl rfl ?_)|(refine dV ?_;refine st (bC rfl rfl rfl (by first|exact sJ|exact yB)) rfl rfl ?_)|(refine gZ ?_;refine stN (bW rfl rfl rfl rfl (by first|exact iH (aD _) (cL _)|exact hput)) rfl ?_))|(refine fP ⟨by kernel_rfl,?_⟩)|refine bU (id:=1) ?_|refine bU (id:=2) ?_|refine bU (id:=6) ?_|refine bU (id:=7) ?_|refine bU (id:=8) ?_|refine bU (id:=9) ?_|refine bU (id:=17) ?_|refine aG ?_|refine sK2 ?_|refine sK1 ?_|fail));exact z_.h):A:=h ⟨k⟩
theorem UG {A B:Prop} (k:B) (h:Hide B->A:=by intro z_;(repeat' (first|refine sCm ?_|(refine gU ?_;first|(refine uD ?_;refine st (jd rfl) (by exact hrd) rfl ?_)|(refine cO ?_;refine st (aJ rfl (by first|exact aF hN.b0|exact aF a0|exact aF a1|assumption)) (by exact hrd) rfl ?_)|(refine Fh ?_;refine st (uY rfl rfl (by omega) (by omega)) (by exact hrd) rfl ?_)|(refine yS ?_;refine st (iU rfl rfl rfl) (by exact hrd) rfl ?_)|(refine gIA ?_;refine st (ng rfl rfl (by omega) (by omega)) (by exact hrd) rfl ?_)|(refine dV ?_;refine st (bC rfl rfl rfl (by exact hf1)) (by exact hrd) rfl ?_)|(refine yT ?_;refine st (jG rfl) (by exact hrd) rfl ?_)|(refine gZ ?_;refine stN (bW rfl rfl rfl rfl (by first|exact iH (aD _) (cL _)|exact hput)) (by exact hrd) ?_))|(refine fU ?_;first|refine eU ?_;refine frA (aJ rfl (by exact hq8 _)) rfl ?_ rfl|refine fIA ?_;refine frA (ng rfl rfl (by omega) (by omega)) rfl ?_ hclr|refine eU ?_;refine frA (aJ rfl (by exact hq7 _)) rfl ?_ rfl|refine fIA ?_;refine frA (ng rfl rfl (by omega) (by omega)) rfl ?_ hcl5|refine eU ?_;refine frA (aJ rfl (by exact hq5 _)) rfl ?_ rfl|refine eU ?_;refine frA (aJ rfl (by exact hq2 _)) rfl ?_ hcln|refine eU ?_;refine frA (aJ rfl (by exact hq6 _)) rfl ?_ rfl|refine Iy ?_|refine TM ?_|refine Iz ?_|refine WG ?_|(refine qX ?_;refine fr (bC rfl rfl rfl (by exact hfa _)) (by rfl) rfl ?_))|(refine fP ⟨by kernel_rfl,?_⟩)|refine aG ?_|refine sK2 ?_|refine sK1 ?_|fail));exact z_.h):A:=h ⟨k⟩
theorem QE {U:Heap} {B:Bld} {nb sb cS tb cT:Nat} (hv:mJ B) (hB:iY U B nb sb cS tb cT) {sn:Nat} (hst:sn<=B.n) :
  Ev prog 111 [.p nb,.i (sn:Nat)] U (.agg (ints (dw (iJ B.b sn))).toArray) U:=by
 refine aH U.length 55 func111 (h:=?_)
 have bt:=hv.n
 have bc:nb < U.length:=aS hB.nb
 refine xg ?_
 have hf1:=sJ (U:=U++[aC.rw [.p nb]]++[aC.rw (List.replicate 401 (.i 0))])
 refine .mk ?_
 apply aG
 refine xg ?_
 obtain ⟨H0,ae⟩:=xy (U++[aC.rw [.p nb]]++[aC.rw (List.replicate 401 (.i 0))]++[aC.rw (ints noRow)])
 have a:(ints noRow).length=401:=by rw [bQ,tV,dQ]
 have an:splice (List.replicate 401 (Value.i 0)) 0 (ints noRow)=ints noRow:=by simp [splice,a]
 refine .mk (dB [(1,.i (sn:Nat)),(2,.p U.length),(4,.p (U.length+1)),(5,.p (U.length+2))] H0 (by rw [ae,<- an];rfl) ⟨rfl,rfl,(by (refine congrArg (fun n=>some (Value.p n)) ?_;simp;try omega)),(by (refine congrArg (fun n=>some (Value.p n)) ?_;simp;try omega)),trivial⟩ ?_)
 have bw:TG U H0 nb noRow:=⟨by rw [ae];simp,by rw [ae];exact aA (aA aN),by rw [ae];exact aA (bP oS),by rw [ae];exact bP oS⟩
 have hput:putCells H0 (U.length+2) 200 [.i 0]=some (H0.set (U.length+2) (.rw (ints (dw (iJ B.b 0))))):=fF bw.b2 (by rw [a];simp) (by rw [a];omega) (by rw [wZ (by rw [tV,dQ];omega),row0])
 clear an a ae hf1
 have ce:=bw.row (dw (iJ B.b 0))
 apply aG
 refine xg ?_
 refine dO (ι:=Nat) (fun i=>[(2,.p U.length),(4,.p (U.length+1)),(5,.p (U.length+2)),(12,.i (sn:Nat)),(13,.i (i:Nat))])
  (fun i mk H=>i<=sn/\Mks (U.length+3) mk H/\TG U H nb (dw (iJ B.b i))) (fun i=>sn - i) 0 tE ⟨bL _,.nil,ce⟩ ?_
 clear ce hput bw H0
 rintro i mk H ⟨his,hM,hN⟩
 have bb:=hN.len
 by_cases b3:i<sn
 ·have d6:(i:Int)<(sn:Nat):=oO
  refine xg ?_
  obtain ⟨H1,ah⟩:=xy (H++[aC.rw [.i (i:Nat)]])
  obtain ⟨ib,W⟩:=xy H.length
  refine .mk (dB [(2,.p U.length),(4,.p (U.length+1)),(5,.p (U.length+2)),(12,.i (sn:Nat)),(6,.p ib),(13,.i (i:Nat))] H1 (by rw [ah];rfl) ⟨rfl,rfl,rfl,rfl,by rw [W];rfl,rfl,trivial⟩ ?_)
  have C:TG U H1 nb (dw (iJ B.b i)):=by rw [ah];exact hN.app _
  have b8:Mks (U.length+3) mk H1:=by rw [ah];exact hM.app _
  have c7:H1[ib]?=some (.rw [.i (i:Nat)]):=by rw [ah,W];exact aN
  have cv:U.length+3<=ib:=oO
  clear ah W bb hN hM H
  have bb:=C.len
  have hfb:=fun Y=>sJ (U:=H1++Y)
  obtain ⟨r9,ac⟩:=xy (ints (dw (iJ B.b i)))
  have br:∀ Y,aK (H1++Y) (U.length+2) 0 401=some r9:=fun Y=>by rw [ac];exact aV (C.app Y).b2 (by rw [bQ,dQ])
  have a4:closed H1.length (.agg r9.toArray)=true:=by
   have:=(aY (n:=H1.length) (aZ (dw (iJ B.b i)))).1
   rw [<- ac] at this
   simpa [closed,jC] using this
  have a5:closed H1.length (.agg (ints noRow).toArray)=true:=by
   have:=(aY (n:=H1.length) (aZ noRow)).1
   simpa [closed,jC] using this
  have c8:∀ Y:Heap,∀ {rd:Option Nat} {ty:TypeId} {e:Env} {x y:Operand},aT e x=some (.agg r9.toArray)->aT e y=some (.agg (ints noRow).toArray)->bY prog rd (.binOp .eql 203 x y 203) ty e (H1++Y) (.bool (decide (∀ x ∈ List.range 401,iJ B.b i x=nev))) (H1++Y) :=
   fun Y _ _ _ _ _ hx hy=>ZV rfl hx hy (by rw [ac];exact aZ _) (aZ _) (by rw [ac];exact ints_at _) (by rw [tV];exact ints_at _)
  refine eY oK rfl ?_
  refine fU ?_
  refine eU ?_
  refine frA (bG rfl (by exact br _)) rfl ?_ a4
  refine fU ?_
  refine frA (bC rfl rfl rfl (by exact hfb _)) rfl ?_ a5
  refine fU ?_
  refine frA (c8 _ rfl rfl) rfl ?_ rfl
  by_cases ap:∀ x ∈ List.range 401,iJ B.b i x=nev
  ·rw [show dw (iJ B.b sn)=dw (iJ B.b i) from qp fun x hx=>by rw [UF (fun y hy=>ap y (List.mem_range.2 hy)) sn oO x hx,ap x (List.mem_range.2 hx)]]
   refine xg ?_
   refine .mk (dB [(2,.p U.length),(4,.p (U.length+1)),(5,.p (U.length+2)),(12,.i (sn:Nat))] H1 (bN H1) tE ?_)
   clear c8 a5 a4 br ac hfb
   obtain ⟨c,I⟩:=xy (dw (iJ B.b i))
   rw [<- I] at C ⊢
   have bo:c.length=401:=by rw [I,dQ]
   have a:(ints c).length=401:=by rw [bQ,bo]
   have N:=jD c
   have bq:=aZ c
   have hd1:aK H1 (U.length+2) 0 401=some (ints c):=aV C.b2 a
   have hput:putCells H1 (U.length+1) 0 (ints c)=some (H1.set (U.length+1) (.rw (ints c))):=fF C.b1 (by rw [a];simp) oS (by simp [splice,a])
   have M:=b8.set (x:=.rw (ints c)) C.b1 oS
   have c2:(H1.set (U.length+1) (.rw (ints c)))[U.length+1]?=some (.rw (ints c)):=aQ C.b1
   have bg:(H1.set (U.length+1) (.rw (ints c))).take U.length=U:=take_set C.pre oO
   apply aG
   generalize ints c=rc at *
   refine xg ?_
   refine stN (bW (size:=401) rfl rfl (by exact a) (by exact N) (by exact hput)) rfl ?_
   refine xg ?_
   have be:=nR (mk:=mk) bg fun x hx=>by have:=(M.2 x hx).1;omega
   exact Qk M (.cellN inferInstance rfl (aV (rD c2 fun hx=>by have:=(M.2 _ hx).1;omega) a) .nil) (.plain be bq) ⟨rfl,rfl⟩
  ·refine xg ?_
   refine .mk (dB [(2,.p U.length),(4,.p (U.length+1)),(5,.p (U.length+2)),(12,.i (sn:Nat)),(6,.p ib),(13,.i (i:Nat))] H1 (bN H1) tE ?_)
   clear c8 a5 a4 br ac hfb
   have a:(ints noRow).length=401:=by rw [bQ,tV,dQ]
   have an:splice (List.replicate 401 (Value.i 0)) 0 (ints noRow)=ints (dw (cOut B.b i (iJ B.b i) 0)):=by
    rw [show dw (cOut B.b i (iJ B.b i) 0)=noRow from tV.symm];simp [splice,a]
   have hf1:=sJ (U:=H1)
   apply aG
   refine xg ?_
   clear hf1
   obtain ⟨H2,a7⟩:=xy (H1++[aC.rw (ints (dw (cOut B.b i (iJ B.b i) 0)))])
   refine .mk (dB [(2,.p U.length),(4,.p (U.length+1)),(5,.p (U.length+2)),(12,.i (sn:Nat)),(6,.p ib),(7,.p H1.length),(13,.i (i:Nat))] H2 (by rw [a7,<- an];rfl) tE ?_)
   have hf1:=yB (U:=H2) (lo:=-200) (hi:=200)
   apply aG
   refine xg ?_
   clear hf1 an a
   obtain ⟨Hc,R⟩:=xy (H2++[aC.rw [.i (-200)]]++[aC.rw [.i 200]])
   obtain ⟨rb,az⟩:=xy H1.length
   have E:H2.length=rb+1:=by rw [a7,az];simp
   have T:Hc.length=rb+3:=by rw [R];simp [E]
   have bk:TG U Hc nb (dw (iJ B.b i)):=by rw [R,a7];exact ((C.app _).app _).app _
   have aq:Mks (U.length+3) mk Hc:=by rw [R,a7];exact ((b8.app _).app _).app _
   have bs:Hc[ib]?=some (.rw [.i (i:Nat)]):=by rw [R,a7];exact aA (aA (aA c7))
   have bv:Hc[rb]?=some (.rw (ints (dw (cOut B.b i (iJ B.b i) 0)))):=by rw [R,a7,az];exact aA (aA aN)
   have b9:Hc[rb+1]?=some (.rw [.i (-200)]):=by rw [R];exact aA (bP E)
   have bn:Hc[rb+2]?=some (.rw [.i 200]):=by rw [R];exact bP (by simp [E])
   have bx:ib<rb:=by have:=aS c7;omega
   have b5:U.length+3<=rb:=by have:=C.len;omega
   refine dB [(2,.p U.length),(4,.p (U.length+1)),(5,.p (U.length+2)),(12,.i (sn:Nat)),(6,.p ib),(7,.p rb),(13,.i (i:Nat)),(21,.func (.func 278) #[] #[.p (rb+1),.p (rb+2)])] Hc R.symm ⟨rfl,rfl,rfl,rfl,rfl,by rw [az];rfl,rfl,by rw [show rb+2=rb+1+1 from rfl,<- E];rfl,trivial⟩ ?_
   clear R a7 E az C b8 c7 bb H2 H1
   refine jU (p:=[]) (q:=[.p (rb+1),.p (rb+2)]) rfl fun L hL=>?_
   obtain ⟨A,z⟩:=xy (Hc++[aC.dfr,L])
   have cr:A.length=rb+5:=by rw [z];simp [T]
   have au:TG U A nb (dw (iJ B.b i)):=by rw [z];exact bk.app _
   have bl:Mks (U.length+3) mk A:=by rw [z];exact aq.app _
   have ax:A[ib]?=some (.rw [.i (i:Nat)]):=by rw [z];exact aA bs
   have ad:A[rb]?=some (.rw (ints (dw (cOut B.b i (iJ B.b i) 0)))):=by rw [z];exact aA bv
   have bf:A[rb+1]?=some (.rw [.i (-200)]):=by rw [z];exact aA b9
   have bz:A[rb+2]?=some (.rw [.i 200]):=by rw [z];exact aA bn
   have bp:A[rb+3]?=some .dfr:=by rw [<- T,z,bE (aD _)];simp
   have aa:A[rb+4]?=some L:=by rw [show rb+4=Hc.length+1 by omega,z,bE oO];simp
   rw [<- z,T]
   refine zn (S:=fun j=>A.set rb (.rw (ints (dw (cOut B.b i (iJ B.b i) j))))) (l:=rb+4) (lb:=rb+1) (hb:=rb+2) (lo:=-200) (hi:=200) (n:=401) oO oO oO rfl (set_self ad) (fun j=>by simp) (fun j=>aB bf oO) (fun j=>aB bz oO)
    (fun j=>(aB aa oO).trans (congrArg some hL)) (fun h j=>iW (o:=.rw (ints _)) (aY (aZ _)) h) rfl ?_ ?_
   ·intro j hj X QB aw
    obtain ⟨f,hf⟩:=xy (-200+(j:Int))
    obtain ⟨HX,P⟩:=xy (A.set rb (.rw (ints (dw (cOut B.b i (iJ B.b i) j))))++X)
    have cj:TG U HX nb (dw (iJ B.b i)):=by rw [P];exact (au.set b5 _).app X
    have cd:HX[ib]?=some (.rw [.i (i:Nat)]):=by rw [P];exact aA (aB ax oO)
    have cg:HX[rb]?=some (.rw (ints (dw (cOut B.b i (iJ B.b i) j)))):=by rw [P];exact aA (aQ ad)
    have b4:HX[rb+4]?=some L:=by rw [P];exact aA (aB aa oO)
    have hrd:lJ (some (rb+4)) (A.length+X.length)=true:=(show Nat.blt _ _=true from Nat.blt_eq.mpr oO)
    have bu:HX.length=A.length+X.length:=by rw [P];simp
    rw [<- hf,<- P,<- bu]
    rw [<- bu] at hrd
    refine UG ?_
    refine vX (aA b4) hL fun O hO=>?_
    obtain ⟨HB,J⟩:=xy ((HX++[aC.rw [.i f]]).set (rb+4) O)
    have cx:=aS b4
    have ao:TG U HB nb (dw (iJ B.b i)):=by rw [J];exact (cj.app _).set oO _
    have bj:HB[ib]?=some (.rw [.i (i:Nat)]):=by rw [J];exact aB (aA cd) oO
    have cc:HB[rb]?=some (.rw (ints (dw (cOut B.b i (iJ B.b i) j)))):=by rw [J];exact aB (aA cg) oO
    have bh:HB[HX.length]?=some (.rw [.i f]):=by rw [J];exact aB aN oO
    have cq:HB[rb+4]?=some O:=by rw [J];exact aQ (aA b4)
    have c0:HB.length=HX.length+1:=by rw [J];simp
    refine dB [(2,.p U.length),(5,.p (U.length+2)),(6,.p ib),(7,.p rb),(8,.p HX.length)] HB (by rw [J];rfl) tE ?_
    have al:i<B.n:=oO
    obtain ⟨v,ZZ⟩:=xy (iJ B.b i j)
    have a9:=QD hv.ok i (by show i<=B.n;omega) j
    rw [<- ZZ] at a9
    have hvin2:0<=v/\v<=1099511627776:=a9
    have a0:=bj
    have a1:=bh
    have hN:=ao
    have bd:aI HB (U.length+2) (0+(f+200).toNat*1)=some (.i v):=by
     rw [aF ao.b2,iF (by rw [dQ];omega),rE oO,ZZ,show 0+(f+200).toNat*1=j by omega]
    by_cases c4:v>=1099511627776
    ·refine UG ?_
     have hcs:cOut B.b i (iJ B.b i) (j+1)=cOut B.b i (iJ B.b i) j:=by simp only [cOut];rw [if_pos (by rw [<- ZZ];exact c4)]
     rw [hcs] at aw
     have d4:HB=(A.set rb (.rw (ints (dw (cOut B.b i (iJ B.b i) j))))).set (rb+4) O++X++[aC.rw [.i f]]:=by
      rw [J,P,cI _ _ (by simp;omega),cI _ _ (by simp;omega)]
     rw [d4,hO]
     exact aw _ _ _
    ·have hcs:cOut B.b i (iJ B.b i) (j+1)=cIn B.b i f v (cOut B.b i (iJ B.b i) j) (B.b.sN i f):=by simp only [cOut];rw [if_neg (by rw [<- ZZ];exact c4),<- hf,<- ZZ]
     have hf1:=Lc (U:=HB) (i:=i) (f:=f) hv (hB.take ao.pre) al oO
     refine UG ?_
     clear hf1 a0 a1 hN
     have b3:=al
     obtain ⟨HD,D⟩:=xy (HB++[aC.rw [.i (B.b.sLo i f)]]++[aC.rw [.i (min (B.b.hi i) (f+B.most))]])
     have F:HD.length=HB.length+2:=by rw [D];simp
     obtain ⟨fb,hfb⟩:=xy HX.length
     have d1:=hv.tube b3
     have d0:=hv.most
     have d2:-200<=B.b.sLo i f/\B.b.sLo i f<=400:=by unfold Bl.sLo;show -200<=max (B.b.lo i) (f - B.most)/\max (B.b.lo i) (f - B.most)<=400;omega
     rw [<- D]
     refine EJ (p:=[]) (q:=[.p HB.length,.p (HB.length+1)]) (L0:=O) hrd (by rw [D];exact aA (aA cq)) (by rw [hO];rfl) rfl fun L2 b6=>?_
     obtain ⟨A2,t⟩:=xy (HD++[L2])
     have ba:A2.length=HB.length+3:=by rw [t];simp [F]
     have ai:TG U A2 nb (dw (iJ B.b i)):=by rw [t,D];exact ((ao.app _).app _).app _
     have af:A2[ib]?=some (.rw [.i (i:Nat)]):=by rw [t,D];exact aA (aA (aA bj))
     have a6:A2[rb]?=some (.rw (ints (dw (cOut B.b i (iJ B.b i) j)))):=by rw [t,D];exact aA (aA (aA cc))
     have aj:A2[fb]?=some (.rw [.i f]):=by rw [t,D,hfb];exact aA (aA (aA bh))
     have am:A2[HB.length]?=some (.rw [.i (B.b.sLo i f)]):=by rw [t,D];exact aA (aA aN)
     have ak:A2[HB.length+1]?=some (.rw [.i (min (B.b.hi i) (f+B.most))]):=by rw [t,D];exact aA (bP oS)
     have Uq:A2[HB.length+2]?=some L2:=by rw [t];exact bP F
     rw [<- t,F]
     refine zn (S:=fun q=>A2.set rb (.rw (ints (dw (cIn B.b i f v (cOut B.b i (iJ B.b i) j) q))))) (l:=HB.length+2) (lb:=HB.length) (hb:=HB.length+1) (lo:=B.b.sLo i f) (hi:=min (B.b.hi i) (f+B.most)) (n:=B.b.sN i f) oO oO oO rfl (set_self a6) (fun j=>by simp) (fun j=>aB am oO) (fun j=>aB ak oO)
      (fun j=>(aB Uq oO).trans (congrArg some b6)) (fun h j=>iW (o:=.rw (ints _)) (aY (aZ _)) h) rfl ?_ ?_
     ·intro q hq X2 QB2 a3
      have hg:=(B.b.AP (i:=i) (f:=f) (g:=B.b.sLo i f+q)).1 ⟨oO,oO⟩
      obtain ⟨g,ar⟩:=xy (B.b.sLo i f+q)
      rw [<- ar] at hg ⊢
      have hg2:-200<=g/\g<=200:=oO
      obtain ⟨m,hm⟩:=xy (cIn B.b i f v (cOut B.b i (iJ B.b i) j) q (g+200).toNat)
      have u:=af4 (b:=B.b) (i:=i) (f:=f) (v:=v) (G:=cOut B.b i (iJ B.b i) j) (q:=q) (x0:=(g+200).toNat) (by rw [ar])
      rw [<- hm,<- ar] at u
      generalize hRq:cIn B.b i f v (cOut B.b i (iJ B.b i) j) q=Rq at hm u
      generalize hRq1:dw (cIn B.b i f v (cOut B.b i (iJ B.b i) j) (q+1))=Rn at u a3
      obtain ⟨HY,Vv⟩:=xy (A2.set rb (.rw (ints (dw Rq)))++X2)
      have cp:TG U HY nb (dw (iJ B.b i)):=by rw [Vv];exact (ai.set b5 _).app X2
      have cb:HY[ib]?=some (.rw [.i (i:Nat)]):=by rw [Vv];exact aA (aB af oO)
      have cm:HY[rb]?=some (.rw (ints (dw Rq))):=by rw [Vv];exact aA (aQ a6)
      have cu:HY[fb]?=some (.rw [.i f]):=by rw [Vv];exact aA (aB aj oO)
      have cn:HY[HB.length+2]?=some L2:=by rw [Vv];exact aA (aB Uq oO)
      have hrd:lJ (some (HB.length+2)) (A2.length+X2.length)=true:=(show Nat.blt _ _=true from Nat.blt_eq.mpr oO)
      rw [<- Vv]
      refine UG ?_
      refine vX cn b6 fun O2 ca=>?_
      obtain ⟨HZ,a8⟩:=xy (HY.set (HB.length+2) O2)
      have ag:TG U HZ nb (dw (iJ B.b i)):=by rw [a8];exact cp.set oO _
      have c9:HZ[ib]?=some (.rw [.i (i:Nat)]):=by rw [a8];exact aB cb oO
      have av:HZ[rb]?=some (.rw (ints (dw Rq))):=by rw [a8];exact aB cm oO
      have c6:HZ[fb]?=some (.rw [.i f]):=by rw [a8];exact aB cu oO
      rw [<- a8]
      have c1:=ag.len
      have cf:rb<HZ.length:=aS av
      have d3:ib<HZ.length:=aS c9
      have cz:fb<HZ.length:=aS c6
      have ck:U.length+2<HZ.length:=oO
      have cl:nb<HZ.length:=oO
      have hclr:∀ {o:Nat},closed HZ.length (.pointer (some ⟨rb,o,none⟩))=true:=fun {o}=>Nat.blt_eq.mpr cf
      have hcl5:∀ {o:Nat},closed HZ.length (.pointer (some ⟨U.length+2,o,none⟩))=true:=fun {o}=>Nat.blt_eq.mpr ck
      have hcln:closed HZ.length (.p nb)=true:=Nat.blt_eq.mpr cl
      have hq2:∀ Y,aI (HZ++Y) U.length 0=some (.p nb):=fun Y=>aF (ag.app Y).b0
      have hq6:∀ Y,aI (HZ++Y) ib 0=some (.i (i:Nat)):=fun Y=>aF (aA c9)
      have hq8:∀ Y,aI (HZ++Y) fb 0=some (.i f):=fun Y=>aF (aA c6)
      have c5:0+(g+200).toNat*1=(g+200).toNat:=oO
      have c3:(g+200).toNat<401:=oO
      have hq7:∀ Y,aI (HZ++Y) rb (0+(g+200).toNat*1)=some (.i m):=fun Y=>by rw [c5,aF (aA av),iF (by rw [dQ];exact c3),rE c3,<- hm]
      have hq5:∀ Y,aI (HZ++Y) (U.length+2) (0+(f+200).toNat*1)=some (.i v):=fun Y=>by
       rw [aF (ag.app Y).b2,iF (by rw [dQ];omega),rE oO,ZZ,show 0+(f+200).toNat*1=j by omega]
      have hfa:=fun Y=>QA (U:=HZ++Y) (i:=i) (d:=g - f) hv ((hB.take ag.pre).app) b3 oO
      have d5:0<=B.hard i*ab (g - f)/\B.hard i*ab (g - f)<=9000:=by
       have h1:=hv.st i b3
       have h0:0<=ab (g - f)/\ab (g - f)<=1000:=by unfold ab;omega
       refine ⟨dl oO h0.1,?_⟩
       exact Int.le_trans (eT (by omega:B.hard i<=9) h0.2 h0.1 oO) oO
      have w:(dw Rq).set (g+200).toNat (min m (v+B.hard i*ab (g - f)))=Rn:=u
      rw [<- hfb]
      generalize hcoD:B.hard i*ab (g - f)=co at d5 hfa w
      have hfr:-200<=f/\f<=200:=oO
      have hput:putCells (HZ++gV (fun _=>true) []) rb (0+(g+200).toNat*1) [.i (min m (v+co))]=some (HZ.set rb (.rw (ints Rn))):=by
       rw [show HZ++gV (fun _=>true) []=HZ from bN HZ,c5]
       exact fF av (by rw [bQ,dQ];simp;omega) (by rw [bQ,dQ];omega) (by rw [wZ (by rw [dQ];exact c3),w])
      refine qg (bJ.mono (Q:=fun ex _ _ s=>ex=Exit.normal/\s=HZ.set rb (.rw (ints Rn))) ?_ ?_)
      ·clear a3 hm af a6 aj am ak Uq ai cp cb cm cu cn ag c9 av c6 c1 cf d3 cz ck cl c5 hcoD a8 Vv ar hg ba t d2 d0 d1 hfb F D bj c0 cq bh cc ao cx J bu b4 cg cd cj P hf aw aa bp bz bf ad ax bl au cr z b5 bx bn b9 bv bs aq bk T cv bc bt hst hB ca b6 hO hL hq u w hRq hRq1 hcs c4 bd ZZ a9
       refine eY oK hrd ?_
       refine UG ?_
       exact ⟨rfl,rfl⟩
      ·rintro ex e' mk' s ⟨rfl,rfl⟩
       rw [a8,Vv,adF oO oO oO]
       refine uz ?_
       rw [ca]
       exact a3 _ _ _
     ·refine ⟨.ready,none,_,_,_,_,_,(aB Uq oO).trans (congrArg some b6),by simp,?_⟩
      show (dK 4 (dK 3 QB)) _ _ _ _
      refine uz ?_
      refine uz ?_
      rw [<- hcs,<- F,t,D,J,P,adE oO oO oO,hO]
      exact aw _ _ _
   ·refine ⟨.ready,none,_,_,_,_,_,(aB aa oO).trans (congrArg some hL),by simp,?_⟩
    show (dK 2 _) _ _ _ _
    refine uz ?_
    refine rG ?_
    rw [show dw (cOut B.b i (iJ B.b i) 401)=dw (iJ B.b (i+1)) from rfl]
    obtain ⟨K,hK⟩:=xy ((A.set rb (.rw (ints (dw (iJ B.b (i+1)))))).set (rb+4) .dead)
    have ay:TG U K nb (dw (iJ B.b i)):=by rw [hK];exact (au.set b5 _).set oO _
    have ch:K[ib]?=some (.rw [.i (i:Nat)]):=by rw [hK];exact aB (aB ax oO) oO
    have ci:K[rb]?=some (.rw (ints (dw (iJ B.b (i+1))))):=by rw [hK];exact aB (aQ ad) oO
    have cy:Mks (U.length+3) ((rb+3)::mk) K:=by
     rw [hK]
     refine Mks.cons ((bl.set ad oS).set (aB aa oO) (by rw [hL];simp)) (aq.new oO) oO (aB (aB bp oO) oO)
    rw [<- hK]
    clear hK ad ax bl au aa bp bz bf cr z hL bn b9 bv bs aq bk
    have hKr:rb<K.length:=aS ci
    have a:(ints (dw (iJ B.b (i+1)))).length=401:=by rw [bQ,dQ]
    have N:=jD (dw (iJ B.b (i+1)))
    have hd1:aK K rb 0 401=some (ints (dw (iJ B.b (i+1)))):=aV ci a
    have hput:putCells K (U.length+2) 0 (ints (dw (iJ B.b (i+1))))=some (K.set (U.length+2) (.rw (ints (dw (iJ B.b (i+1)))))):=fF ay.b2 (by rw [a,bQ,dQ];omega) (by rw [bQ,dQ];omega) (by simp [splice,bQ,dQ])
    have hN:=ay
    have a0:=ch
    apply aG
    refine xg ?_
    have cw:=ay.row (dw (iJ B.b (i+1)))
    have M:=cy.set (x:=.rw (ints (dw (iJ B.b (i+1))))) ay.b2 oS
    have hi2:=aB (x:=.rw (ints (dw (iJ B.b (i+1))))) ch (show U.length+2 ≠ ib by omega)
    exact ⟨i+1,⟨oO,M,cw⟩,oO,tE⟩
 ·have d6:¬ (i:Int)<(sn:Nat):=oO
  refine xg ?_
  obtain rfl:i=sn:=oO
  obtain ⟨c,I⟩:=xy (dw (iJ B.b i))
  rw [<- I] at hN ⊢
  have bo:c.length=401:=by rw [I,dQ]
  have a:(ints c).length=401:=by rw [bQ,bo]
  have N:=jD c
  have bq:=aZ c
  have hd1:aK H (U.length+2) 0 401=some (ints c):=aV hN.b2 a
  have hput:putCells H (U.length+1) 0 (ints c)=some (H.set (U.length+1) (.rw (ints c))):=fF hN.b1 (by rw [a];simp) oS (by simp [splice,a])
  have M:=hM.set (x:=.rw (ints c)) hN.b1 oS
  have c2:(H.set (U.length+1) (.rw (ints c)))[U.length+1]?=some (.rw (ints c)):=aQ hN.b1
  have bg:(H.set (U.length+1) (.rw (ints c))).take U.length=U:=take_set hN.pre oO
  refine .mk ?_
  apply aG
  generalize ints c=rc at *
  refine xg ?_
  refine stN (bW (size:=401) rfl rfl (by exact a) (by exact N) (by exact hput)) rfl ?_
  refine xg ?_
  have be:=nR (mk:=mk) bg fun x hx=>by have:=(M.2 x hx).1;omega
  exact Qk M (.cellN inferInstance rfl (aV (rD c2 fun hx=>by have:=(M.2 _ hx).1;omega) a) .nil) (.plain be bq) ⟨rfl,rfl⟩
end Go.Proofs.YtajpgeklmcjciaaGreat
namespace Go.AH.Warp
def numsL (lo:Int) (n:Nat):List Int:=(List.range n).map fun j=>lo+(j:Nat)
theorem Gm (lo:Int) (n:Nat):(numsL lo n).length=n:=by simp [numsL]
theorem Xr (lo:Int) (n:Nat):ints (numsL lo (n+1))=ints (numsL lo n)++[.i (lo+(n:Nat))]:=by simp [numsL,ints,ff]
theorem adH {lo:Int} {n i:Nat} (h:i<n):gi (numsL lo n) i=lo+i:=by simp [numsL,gi,cE,cJ,dq h]
end Go.AH.Warp
namespace Go.Proofs.YtajpgeklmcjciaaGreat
attribute [local irreducible] dA bJ bK jh fQ dK eH bY eu aW dR dW
open Go.AH.Heat Go.AH.Warp
theorem ahk {A B:Prop} (k:B) (h:Hide B->A:=by intro z_;(repeat' (first|refine sCm ?_|(refine gU ?_;(refine cO ?_;refine st (aJ rfl (by exact aF a1)) rfl rfl ?_))|refine aG ?_));exact z_.h):A:=h ⟨k⟩
theorem adI {A B:Prop} (k:B) (h:Hide B->A:=by intro z_;(repeat' (first|refine sCm ?_|(refine gU ?_;first|(refine wK ?_;refine st (dY rfl) (by exact hrd) rfl ?_)|(refine uD ?_;refine st (jd rfl) (by exact hrd) rfl ?_)|(refine cO ?_;refine st (aJ rfl (by exact aF a1)) (by exact hrd) rfl ?_)|(refine Bc ?_;refine st (oW (by rfl) (by rfl) (by rfl) (by rfl) rfl (by rfl)) (by exact hrd) rfl ?_))|refine aG ?_));exact z_.h):A:=h ⟨k⟩
theorem Oz {U:Heap} {lo hi:Int} {lb hb n:Nat} (hlo:-1000000<=lo) (hlo2:lo<=1000000) (hhi:hi<=1000000) (hn:n=(hi+1 - lo).toNat) (hn2:n<=1000) (hlb:U[lb]?=some (.rw [.i lo])) (hhb:U[hb]?=some (.rw [.i hi])) (hn0:0<n) :
  Ev prog 176 [.func (.func 278) #[] #[.p lb,.p hb]] U (.s U.length n n) (U++[.rw (ints (numsL lo n))]):=by
 refine aH U.length 12 func176 (h:=?_)
 refine ahk ?_
 refine dB [(3,.p U.length),(5,.func (.func 278) #[] #[.p lb,.p hb])] (U++[aC.rw [.slice none 0 0]]) rfl tE ?_
 have w:(U++[aC.rw [.slice none 0 0]]).length=U.length+1:=oS
 have g:=aS hlb
 have m:=aS hhb
 refine jU (p:=[]) (q:=[.p lb,.p hb]) rfl fun L hL=>?_
 rw [w]
 refine Uw (I:=fun (j:Nat) (H:Heap)=>H.take U.length=U/\H[U.length+1]?=some .dfr/\H[U.length+2]?=some L/\U.length+3<=H.length/\((j=0/\H[U.length]?=some (.rw [.slice none 0 0]))\/(0<j/\∃ gb,U.length+3<=gb/\H[U.length]?=some (.rw [eP gb 1 j])/\H[gb]?=some (.gr (ints (numsL lo j)) 2))))
  (l:=U.length+1+1) (lb:=lb) (hb:=hb) (lo:=lo) (hi:=hi) (n:=n) hlo hlo2 hhi hn ?_ ?_ (fun j H h=>by rw [jL h.1 g];exact hlb) (fun j H h=>by rw [jL h.1 m];exact hhb) (fun j H h=>h.2.2.1.trans (congrArg some hL)) rfl ?_ ?_
 ·refine ⟨by simp,?_,?_,by simp,.inl ⟨rfl,aA aN⟩⟩
  ·rw [<- w,bE (aD _)];simp
  ·rw [show U.length+2=(U++[aC.rw [.slice none 0 0]]).length+1 by simp,bE oO];simp
 ·intro j H h
  have:=h.2.2.2.1
  simp;omega
 ·rintro j hj H ⟨hp,hd,f,o,a⟩ QB G
  have hrd:lJ (some (U.length+2)) H.length=true:=(show Nat.blt _ _=true from Nat.blt_eq.mpr oO)
  refine adI ?_
  refine vX f hL fun O hO=>?_
  obtain ⟨HB,c⟩:=xy (H.set (U.length+2) O)
  have hHBl:HB.length=H.length:=by rw [c];simp
  have v:∀ (e1:Env) (C:List Nat) (K:Heap) (gb:Nat),K.take U.length=U->K[U.length+1]?=some .dfr->K[U.length+2]?=some O->U.length+3<=K.length->U.length+3<=gb->K[U.length]?=some (.rw [eP gb 1 (j+1)])->K[gb]?=some (.gr (ints (numsL lo (j+1))) 2)->QB .normal e1 C K:=by
   intro e1 C K gb k1 k2 k3 k4 k5 k6 k7
   have e:K=(K.set (U.length+2) L).set (U.length+2) O:=by rw [cN,set_self k3]
   rw [e,hO]
   exact G _ _ _ ⟨take_set k1 oO,aB k2 oO,aQ k3,by simpa using k4,.inr ⟨oO,gb,k5,aB k6 oO,aB k7 fun h=>by rw [<- h,k3,hO] at k7;cases k7⟩⟩
  have u:HB.take U.length=U:=by rw [c];exact take_set hp oO
  have z:HB[U.length+1]?=some .dfr:=by rw [c];exact aB hd oO
  have t:HB[U.length+2]?=some O:=by rw [c];exact aQ f
  obtain ⟨x,hx⟩:=xy (lo+(j:Int))
  have y:ints (numsL lo (j+1))=ints (numsL lo j)++[.i x]:=by rw [hx];exact Xr lo j
  have d:aK (HB++[aC.rw [.i x]]) HB.length 0 (1*1)=some [.i x]:=dZ rfl
  rw [<- hx]
  rcases a with ⟨rfl,ho⟩|⟨hj0,gb,F,ho,hg⟩
  ·have a1:HB[U.length]?=some (.rw [.slice none 0 0]):=by rw [c];exact aB ho oO
   rw [<- c]
   refine adI ?_
   refine st (y9 oR rfl rfl (by exact d) oO rfl oO oD) hrd rfl ?_
   refine stN (bW rfl rfl rfl rfl (fF (aA (aA a1)) (aD 1) oS rfl)) hrd ?_
   refine kU ?_
   refine uz ?_
   refine v _ _ _ ((HB++[aC.rw [.i x]]).length+1) (take_set (aP (aP u)) (aD _)) (aB (aA (aA z)) oO) (aB (aA (aA t)) oO) (by simp;omega) (by simp;omega) ?_ ?_
   ·exact aQ (aA (aA a1))
   ·refine aB ?_ (by simp;omega)
    rw [y]
    show _=some (aC.gr [.i x] 2)
    rw [bE oS]
    simp
  ·have a1:HB[U.length]?=some (.rw [eP gb 1 j]):=by rw [c];exact aB ho oO
   have E:HB[gb]?=some (.gr (ints (numsL lo j)) 2):=by rw [c];exact aB hg oO
   rw [<- c]
   refine adI ?_
   refine st (jO oR oR rfl (by exact aA E) (by rw [bQ,Gm,cH]) rfl (by exact d) oO rfl oO oD) hrd rfl ?_
   refine stN (bW rfl rfl rfl rfl (fF (aA (aB (aA a1) oO)) (aD 1) oS rfl)) hrd ?_
   refine kU ?_
   refine uz ?_
   refine v _ _ _ (HB++[aC.rw [.i x]]).length (take_set (aP (take_set (aP u) oO)) (aD _)) (aB (aA (aB (aA z) oO)) oO) (aB (aA (aB (aA t) oO)) oO) (by simp;omega) (by simp;omega) ?_ ?_
   ·exact aQ (aA (aB (aA a1) oO))
   ·refine aB ?_ (by simp;omega)
    rw [y]
    exact bP oS
 ·rintro H ⟨hp,hd,f,o,a⟩
  refine ⟨.ready,none,_,_,_,_,_,f.trans (congrArg some hL),by simp,?_⟩
  show (dK 0 _) _ _ _ _
  refine uz ?_
  refine rG ?_
  rcases a with ⟨rfl,_⟩|⟨_,gb,F,ho,hg⟩
  ·omega
  obtain ⟨K,hK⟩:=xy (H.set (U.length+1+1) .dead)
  have D:K.take U.length=U:=by rw [hK];exact take_set hp oO
  have N:K[U.length]?=some (.rw [eP gb 1 n]):=by rw [hK];exact aB ho oO
  have M:K[gb]?=some (.gr (ints (numsL lo n)) 2):=by rw [hK];exact aB hg oO
  have r:Mks U.length [U.length+1] K:=Mks.cons Mks.nil oS oO (by rw [hK];exact aB hd oO)
  rw [<- hK]
  have a1:=N
  refine uq ?_
  apply aG
  refine ahk ?_
  have J:=nR (mk:=[U.length+1]) D fun x hx=>(r.2 x hx).1
  have s0:fK U.length [gb] U.length=⟨gb,0,0⟩:=by simp [fK]
  exact Qk r (v2:=.s U.length n n) (.tmp rfl .nil) (aW.src [.rw (ints (numsL lo n))] [gb] J rfl (by simp [dF];omega) ⟨wM s0 (.inr ⟨_,rD M (by simp;omega)⟩) (aZ _),trivial⟩ (kX oS s0)) ⟨rfl,rfl⟩
theorem adJ {U:Heap} {v:Value}:Ev prog 114 [v] U (.s U.length 401 401) (U++[.rw (ints (numsL (-200) 401))]):=by
 refine aH U.length 5 func114 (h:=?_)
 have hf1:=yB (U:=U) (lo:=-200) (hi:=200)
 have a:=Oz (U:=U++[aC.rw [.i (-200)]]++[aC.rw [.i 200]]) (lo:=-200) (hi:=200) (lb:=U.length) (hb:=U.length+1) (n:=401) oO oO oO rfl oO (aA aN) (bP oS) oO
 repeat' (first|refine sCm ?_|(refine gU ?_;(refine dV ?_;refine st (bC rfl rfl rfl (by first|exact hf1|exact a)) rfl rfl ?_))|refine aG ?_)
 have e:(U++[aC.rw [.i (-200)]]++[aC.rw [.i 200]]).length=U.length+2:=oS
 have s0:fK U.length [U.length+2] U.length=⟨U.length+2,0,0⟩:=by simp [fK]
 rw [e]
 exact dG (v2:=.s U.length 401 401) (.tmp rfl .nil) (aW.src [.rw (ints (numsL (-200) 401))] [U.length+2] oS rfl (by simp [dF]) ⟨wM s0 (.inl (bP e)) (aZ _),trivial⟩ (jY oS s0 (aD _))) ⟨rfl,rfl⟩
end Go.Proofs.YtajpgeklmcjciaaGreat
