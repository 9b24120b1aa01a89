/- Numbers that count of warp's bench yields, with an invariant of the heap. -/
import Derived.Test.YtajpgeklmcjciaaGreatPxQ3
import Derived.RangeFuncNested
set_option maxRecDepth 100000
set_option maxHeartbeats 1000000
namespace Go.AH
open Go
theorem acs {P:Program} {F:Fence} (hF:∀ f,F.fn f) {all:List Oper} {Q':Exit→Act→World→Prop} {St:(Nat→Bool)→Act→World→Prop}
  (hst:∀ j o,all[j]?=some o→o.guard=none∧(∀ c,o.op ≠ .defer c)∧∀ i,waits o i=true→i<j)
  (step:∀ L A w j o,all[j]?=some o→L j=false→(∀ k,waits o k=true→L k=true)→St L A w →
   ∃ v' w',((execOp A.eval o).run P w=.ok (.value v') w'∨((execOp A.eval o).run P w=.ok .skip w'∧v'=undef))∧St (kC L j) (A.put o.dst v') w')
  (fin:∀ L A w,(∀ j<all.length,L j=true)→St L A w→Q' .normal A w) :
  ∀ (fuel:Nat) (listed:Array Bool) (A:Act) (w:World),listed.size=all.length→cnt all.length listed≤fuel→St (fun i=>listed.getD i false) A w→wpAnyIn F 0 P .any all.toArray Q' fuel listed A w:=by
 have wt:∀ {o:Oper} {e:Edge},e ∈ o.after→Region.binds .any e=true→waits o e.on=true:=fun {o e} he hb=>by
  unfold waits bY
  rw [Array.any_eq_true']
  exact ⟨e,he,by simp [hb]⟩
 have full:∀ (listed:Array Bool),listed.size=all.length→Region.ready .any all.toArray listed=[]→∀ i,i<all.length→listed.getD i false=true:=by
  intro listed hs hr i
  induction i using Nat.strongRecOn with
  |_ i ih =>
   intro hi
   by_cases hl:listed.getD i true=true
   ·rw [getD_lt (d':=true) oO];exact hl
   ·exfalso
    have:i ∈ Region.ready .any all.toArray listed:=mem_ready.2 ⟨by simpa using hl,all[i],by rw [bO];exact cC hi,fun e he hb=>by
     have h1:=(hst i all[i] (cC hi)).2.2 e.on (wt he hb)
     exact ih e.on h1 oO⟩
    rw [hr] at this;cases this
 intro fuel
 induction fuel with
 |zero =>
  intro listed A w hs hc d
  have l:∀ i<all.length,listed.getD i true=true:=by
   intro i hi
   apply Classical.byContradiction
   intro hn
   have:=rH (n:=all.length) hi hs (oU hn)
   omega
  have hr:Region.ready .any all.toArray listed=[]:=by
   rw [List.eq_nil_iff_forall_not_mem]
   intro i hi
   obtain ⟨h1,o,ho,_⟩:=mem_ready.1 hi
   rw [bO] at ho
   rw [l i (List.getElem?_eq_some_iff.1 ho).1] at h1
   cases h1
  exact ⟨hr,fin _ A w (full listed hs hr) d⟩
 |succ fuel ih =>
  intro listed A w hs hc d
  refine ⟨fun hr=>fin _ A w (full listed hs hr) d,fun i hi=>?_⟩
  obtain ⟨h1,o,ho,hw⟩:=mem_ready.1 hi
  rw [bO] at ho
  have q:=(List.getElem?_eq_some_iff.1 ho).1
  have p:listed.getD i false=false:=by rw [getD_lt (d':=true) oO];exact h1
  obtain ⟨hg,hd,_⟩:=hst i o ho
  obtain ⟨v',w',hr,g⟩:=step (fun i=>listed.getD i false) A w i o ho p (fun k hk=>iQ hi ho hk) d
  have m:(fun j=>(listed.setIfInBounds i true).getD j false)=kC (fun j=>listed.getD j false) i:=by
   funext j
   rw [iD oO];rfl
  have a:wpAnyIn F 0 P .any all.toArray Q' fuel (listed.setIfInBounds i true) (A.put o.dst v') w':=ih _ _ _ (oU hs) (by have:=rH (n:=all.length) q hs h1;omega) (by rw [m];exact g)
  unfold wpOpIn
  simp only [bO,ho]
  rw [if_pos (by simp [Region.wanted,hg])]
  refine ⟨fun f _=>hF f,?_⟩
  rw [Oper.semAt_eq _ _ _ hd]
  rcases hr with hr|⟨hr,rfl⟩
  ·rw [hr];exact a
  ·rw [hr];exact a
def wU (d sM sI sK tm ti tk:Nat) (p:String) (ty:Nat→TypeId) (a:Nat→Array Edge):List Oper :=
 [⟨some d,.load tm (.tmp sM),ty 0,p,a 0,none⟩,⟨some (d+1),.move (.tmp sI),ty 1,p,a 1,none⟩,⟨some (d+2),.binOp .sub ti (.tmp (d+1)) (.const (.int .i64 1)) ti,ty 2,p,a 2,none⟩,
  ⟨some (d+3),.move (.tmp sK),ty 3,p,a 3,none⟩,⟨some (d+4),.build tk #[(0,.tmp (d+2)),(1,.tmp (d+3))],ty 4,p,a 4,none⟩,⟨some (d+5),.lookup tm (.tmp d) (.tmp (d+4)) false,ty 5,p,a 5,none⟩,
  ⟨some (d+6),.binOp .add ti (.tmp (d+5)) (.const (.int .i64 1)) ti,ty 6,p,a 6,none⟩,⟨some (d+7),.mapEntry tm (.tmp d) (.tmp (d+4)),ty 7,p,a 7,none⟩,⟨some (d+8),.extract (.tmp (d+7)) 1,ty 8,p,a 8,none⟩,
  ⟨none,.entryStore tm (.tmp d) (.tmp (d+8)) (.tmp (d+6)),ty 9,p,a 9,none⟩]
def KH (a:Nat→Array Edge):Bool :=
 bY (a 2) 1 && bY (a 4) 2 && bY (a 4) 3 && bY (a 5) 0 && bY (a 5) 4 && bY (a 6) 5 && bY (a 7) 0 && bY (a 7) 4 && bY (a 8) 7 && bY (a 9) 0 && bY (a 9) 6 && bY (a 9) 8 &&
  (List.range 10).all fun j=>(a j).all fun e=>!Region.binds .any e || Nat.blt e.on j
structure KI (A0:Act) (d N:Nat) (all:List Oper) (val:Nat→Value) (w w1 w2:World) (L:Nat→Bool) (A:Act) (w':World):Prop where
 sz:A.tmps.size=N
 df:A.defers=A0.defers
 old:∀ t,t<d∨d+9≤t→A.tmps[t]?=A0.tmps[t]?
 new:∀ j<9,L j=true→A.tmps[d+j]?=some (val j)
 clo:Closed all fun j=>L j=true
 wl:w'=if L 9=true then w2 else if L 7=true then w1 else w
theorem EC {A:Act} {t:Nat} {v:Value} (h:A.tmps[t]?=some v):A.eval (.tmp t)=v:=by simp [Act.eval,h]
section
variable {A0 A:Act} {d N:Nat} {all:List Oper} {val:Nat→Value} {w w1 w2 w' w'':World} {L:Nat→Bool} {o:Oper} {j:Nat}
theorem G8 (h:Closed all fun j=>L j=true) (ho:all[j]?=some o) (hw:∀ k,waits o k=true→L k=true):Closed all fun i=>kC L j i=true:=by
 intro i oi hi hL k hk
 have up:∀ k,L k=true→kC L j k=true:=fun k hk=>by unfold kC;split <;> simp [hk]
 by_cases a:i=j
 ·subst a;rw [ho] at hi;cases hi;exact up k (hw k hk)
 ·have:L i=true:=by simpa [kC,a] using hL
  exact up k (h i oi hi this k hk)
theorem KI.put (h:KI A0 d N all val w w1 w2 L A w') (hN:d+9≤N) (hj:j<9) (ho:all[j]?=some o) (hw:∀ k,waits o k=true→L k=true)
  (hwl:w''=if kC L j 9=true then w2 else if kC L j 7=true then w1 else w):KI A0 d N all val w w1 w2 (kC L j) (A.put (some (d+j)) (val j)) w'':=by
 refine ⟨by simp [Act.put,h.sz],by simp [Act.put,h.df],fun t ht=>?_,fun i hi hL=>?_,G8 h.clo ho hw,hwl⟩
 ·simp only [Act.put]
  rw [fg oO];exact h.old t ht
 ·simp only [Act.put]
  by_cases a:i=j
  ·subst a
   rw [fz (by rw [h.sz];omega)]
  ·rw [fg oO]
   exact h.new i hi (by simpa [kC,a] using hL)
end
section
variable {P:Program} {A0:Act} {d N sM sI sK tm ti tk kt et:Nat} {p:String} {ty:Nat→TypeId} {a:Nat→Array Edge} {val:Nat→Value} {w w1 w2:World}
structure acu (P:Program) (A0:Act) (d sM sI sK tm ti tk:Nat) (val:Nat→Value) (w w1 w2:World):Prop where
 r0:∀ (ev:Operand→Value) (o:Oper),o.op=.load tm (.tmp sM)→(∀ v,A0.tmps[sM]?=some v→ev (.tmp sM)=v)→(execOp ev o).run P w=.ok (.value (val 0)) w
 r1:A0.tmps[sI]?=some (val 1)
 r2:∀ (ev:Operand→Value) (o:Oper),o.op=.binOp .sub ti (.tmp (d+1)) (.const (.int .i64 1)) ti→ev (.tmp (d+1))=val 1→ev (.const (.int .i64 1))=.int .i64 1→(execOp ev o).run P w=.ok (.value (val 2)) w
 r3:A0.tmps[sK]?=some (val 3)
 r4:∀ (ev:Operand→Value) (o:Oper),o.op=.build tk #[(0,.tmp (d+2)),(1,.tmp (d+3))]→ev (.tmp (d+2))=val 2→ev (.tmp (d+3))=val 3→(execOp ev o).run P w=.ok (.value (val 4)) w
 r5:∀ (ev:Operand→Value) (o:Oper),o.op=.lookup tm (.tmp d) (.tmp (d+4)) false→ev (.tmp d)=val 0→ev (.tmp (d+4))=val 4→(execOp ev o).run P w=.ok (.value (val 5)) w∧(execOp ev o).run P w1=.ok (.value (val 5)) w1
 r6:∀ (ev:Operand→Value) (o:Oper) (w:World),o.op=.binOp .add ti (.tmp (d+5)) (.const (.int .i64 1)) ti→ev (.tmp (d+5))=val 5→ev (.const (.int .i64 1))=.int .i64 1→(execOp ev o).run P w=.ok (.value (val 6)) w
 r7:∀ (ev:Operand→Value) (o:Oper),o.op=.mapEntry tm (.tmp d) (.tmp (d+4))→ev (.tmp d)=val 0→ev (.tmp (d+4))=val 4→(execOp ev o).run P w=.ok (.value (val 7)) w1
 r8:∀ (ev:Operand→Value) (o:Oper) (w:World),o.op=.extract (.tmp (d+7)) 1→ev (.tmp (d+7))=val 7→(execOp ev o).run P w=.ok (.value (val 8)) w
 r9:∀ (ev:Operand→Value) (o:Oper),o.op=.entryStore tm (.tmp d) (.tmp (d+8)) (.tmp (d+6))→ev (.tmp d)=val 0→ev (.tmp (d+8))=val 8→ev (.tmp (d+6))=val 6→(execOp ev o).run P w1=.ok .skip w2
theorem acv (hv:acu P A0 d sM sI sK tm ti tk val w w1 w2) (hdep:KH a=true) (hN:d+9≤N) (hM:sM<d∨d+9≤sM) (hI:sI<d∨d+9≤sI) (hK:sK<d∨d+9≤sK) :
  ∀ L A w' j o,(wU d sM sI sK tm ti tk p ty a)[j]?=some o→L j=false→(∀ k,waits o k=true→L k=true)→KI A0 d N (wU d sM sI sK tm ti tk p ty a) val w w1 w2 L A w' →
   ∃ v' w'',((execOp A.eval o).run P w'=.ok (.value v') w''∨((execOp A.eval o).run P w'=.ok .skip w''∧v'=undef))∧KI A0 d N (wU d sM sI sK tm ti tk p ty a) val w w1 w2 (kC L j) (A.put o.dst v') w'':=by
 intro L A w' j o ho f hw h
 unfold KH at hdep
 simp only [aE] at hdep
 obtain ⟨⟨⟨⟨⟨⟨⟨⟨⟨⟨⟨⟨C,s⟩,D⟩,z⟩,u⟩,E⟩,G⟩,y⟩,r⟩,t⟩,n⟩,x⟩,_⟩:=hdep
 have c:=h.clo
 have c21:L 2=true→L 1=true:=fun h=>c 2 _ rfl h 1 C
 have I:L 4=true→L 2=true:=fun h=>c 4 _ rfl h 2 s
 have c43:L 4=true→L 3=true:=fun h=>c 4 _ rfl h 3 D
 have c50:L 5=true→L 0=true:=fun h=>c 5 _ rfl h 0 z
 have c54:L 5=true→L 4=true:=fun h=>c 5 _ rfl h 4 u
 have J:L 6=true→L 5=true:=fun h=>c 6 _ rfl h 5 E
 have M:L 7=true→L 0=true:=fun h=>c 7 _ rfl h 0 G
 have F:L 7=true→L 4=true:=fun h=>c 7 _ rfl h 4 y
 have l:L 8=true→L 7=true:=fun h=>c 8 _ rfl h 7 r
 have H:L 9=true→L 0=true:=fun h=>c 9 _ rfl h 0 t
 have K:L 9=true→L 6=true:=fun h=>c 9 _ rfl h 6 n
 have m:L 9=true→L 8=true:=fun h=>c 9 _ rfl h 8 x
 have g:∀ {q:Nat},L q=false→¬ L q=true:=fun h=>by rw [h];simp
 have ev:∀ k<9,L k=true→A.eval (.tmp (d+k))=val k:=fun k hk hL=>EC (h.new k hk hL)
 have same:∀ (q:Nat),j ≠ q→kC L j q=L q:=fun q hq=>by unfold kC;rw [if_neg (Ne.symm hq)]
 have e:=h.wl
 match j,ho with
 |0,ho =>
  cases ho
  have h7:¬ L 7=true:=fun h7=>g f (M h7)
  have h9:¬ L 9=true:=fun h9=>g f (H h9)
  rw [if_neg h9,if_neg h7] at e
  subst e
  exact ⟨_,_,.inl (hv.r0 _ _ rfl fun v hv=>EC (by rw [h.old _ hM];exact hv)),h.put (j:=0) hN oO rfl hw (by rw [same 9 oO,same 7 oO,if_neg h9,if_neg h7])⟩
 |1,ho =>
  cases ho
  refine ⟨val 1,w',.inl ?_,h.put (j:=1) hN oO rfl hw (by rw [same 9 oO,same 7 oO];exact e)⟩
  have:A.eval (.tmp sI)=val 1:=EC (by rw [h.old _ hI];exact hv.r1)
  simp [execOp,this]
 |2,ho =>
  cases ho
  have h1:=hw 1 C
  have h7:¬ L 7=true:=fun h7=>g f (I (F h7))
  have h9:¬ L 9=true:=fun h9=>h7 (l (m h9))
  rw [if_neg h9,if_neg h7] at e
  subst e
  exact ⟨_,_,.inl (hv.r2 _ _ rfl (ev 1 oO h1) rfl),h.put (j:=2) hN oO rfl hw (by rw [same 9 oO,same 7 oO,if_neg h9,if_neg h7])⟩
 |3,ho =>
  cases ho
  refine ⟨val 3,w',.inl ?_,h.put (j:=3) hN oO rfl hw (by rw [same 9 oO,same 7 oO];exact e)⟩
  have:A.eval (.tmp sK)=val 3:=EC (by rw [h.old _ hK];exact hv.r3)
  simp [execOp,this]
 |4,ho =>
  cases ho
  have h2:=hw 2 s
  have h3:=hw 3 D
  have h7:¬ L 7=true:=fun h7=>g f (F h7)
  have h9:¬ L 9=true:=fun h9=>h7 (l (m h9))
  rw [if_neg h9,if_neg h7] at e
  subst e
  exact ⟨_,_,.inl (hv.r4 _ _ rfl (ev 2 oO h2) (ev 3 oO h3)),h.put (j:=4) hN oO rfl hw (by rw [same 9 oO,same 7 oO,if_neg h9,if_neg h7])⟩
 |5,ho =>
  cases ho
  have h0:=hw 0 z
  have h4:=hw 4 u
  have h9:¬ L 9=true:=fun h9=>g f (J (K h9))
  obtain ⟨g1,g2⟩:=hv.r5 A.eval ⟨some (d+5),.lookup tm (.tmp d) (.tmp (d+4)) false,ty 5,p,a 5,none⟩ rfl (ev 0 oO h0) (ev 4 oO h4)
  rw [if_neg h9] at e
  refine ⟨val 5,w',.inl ?_,h.put (j:=5) hN oO rfl hw (by rw [same 9 oO,same 7 oO,if_neg h9];exact e)⟩
  by_cases h7:L 7=true
  ·rw [if_pos h7] at e;subst e;exact g2
  ·rw [if_neg h7] at e;subst e;exact g1
 |6,ho =>
  cases ho
  have h5:=hw 5 E
  exact ⟨_,_,.inl (hv.r6 _ _ _ rfl (ev 5 oO h5) rfl),h.put (j:=6) hN oO rfl hw (by rw [same 9 oO,same 7 oO];exact e)⟩
 |7,ho =>
  cases ho
  have h0:=hw 0 G
  have h4:=hw 4 y
  have h9:¬ L 9=true:=fun h9=>g f (l (m h9))
  rw [if_neg h9,if_neg (g f)] at e
  subst e
  exact ⟨_,_,.inl (hv.r7 _ _ rfl (ev 0 oO h0) (ev 4 oO h4)),h.put (j:=7) hN oO rfl hw (by rw [same 9 oO,if_neg h9,if_pos (by simp [kC])])⟩
 |8,ho =>
  cases ho
  have h7:=hw 7 r
  exact ⟨_,_,.inl (hv.r8 _ _ _ rfl (ev 7 oO h7)),h.put (j:=8) hN oO rfl hw (by rw [same 9 oO,same 7 oO];exact e)⟩
 |9,ho =>
  cases ho
  have h0:=hw 0 t
  have h6:=hw 6 n
  have h8:=hw 8 x
  rw [if_neg (g f),if_pos (l h8)] at e
  subst e
  refine ⟨undef,w2,.inr ⟨hv.r9 _ _ rfl (ev 0 oO h0) (ev 8 oO h8) (ev 6 oO h6),rfl⟩,h.sz,h.df,h.old,fun i hi hL=>h.new i hi (by rw [← same i oO];exact hL),G8 h.clo (j:=9) rfl hw,by rw [if_pos (by simp [kC])]⟩
 |j+10,ho=>simp [wU] at ho
end
theorem V8 {P:Program} {tm kt et m:Nat} [hmp:Mp P tm kt et] [hk:KT P kt kv] {G:Nat→Prop} {w0 w w2:World} {ρ:Rho} {σ:Heap} {l:ny} {k:Int×Int} {c:Int} (hs:Sim G w0 ρ σ w) (hm:σ[m]?=some (oH l)) (hni:σ.all (fun o=>!aU o)=true)
  (f2:∀ (ev:Operand→Value) (o:Oper) (x y u:Operand),o.op=.mapUpdate tm x y u→ev x=.map (some (ρ m).b)→ev y=kv k→ev u=.i c→(execOp ev o).run P w=.ok .skip w2) :
  ∃ ρ',(∀ i < σ.length,ρ' i=ρ i)∧Sim G w0 ρ' (σ.set m (oH (mF l k (.i c)))) w2:=by
 have a:=aQ hm
 have h:=qc (P:=P) (rd:=none) (ty:=0) (e:=[(0,.map (some m)),(1,kv k),(2,.i c)]) (x:=.tmp 0) (y:=.tmp 1) (z:=.tmp 2) (t:=tm) (v:=.i c) (k:=k) rfl hm rfl rfl hni
  ⟨none, .mapUpdate tm (.tmp 0) (.tmp 1) (.tmp 2), 0, "", #[], none⟩ rfl rfl G w0 ρ { tmps := #[.map (some (ρ m).b), kv k, .i c], defers := [] } w oS hs (fun x hx u hu => by
   simp only [Op.operands] at hx
   have hx:x=.tmp 0∨x=.tmp 1∨x=.tmp 2:=by simpa using hx
   rcases hx with rfl|rfl|rfl
   ·cases hu;exact .map m a
   ·cases hu;exact aZ _ (Q8 k)
   ·cases hu;exact .int _ _) (fun A' w'=>∃ ρ',(∀ i < σ.length,ρ' i=ρ i)∧Sim G w0 ρ' (σ.set m (oH (mF l k (.i c)))) w') (fun _ _ _=>True) (fun ρ' v' w' _ _ h3 h4=>⟨ρ',h3,h4⟩)
 have h2:=h.2
 rw [Oper.semAt_eq _ _ _ oS,f2 _ _ (.tmp 0) (.tmp 1) (.tmp 2) rfl rfl rfl rfl] at h2
 exact h2
section
variable {P:Program} {n0 N:Nat} {rd:Option Nat} {Q:Post} {e:Env} {mk:List Nat} {σ:Heap} {id:Nat}
theorem TF {d sM sI sK tm ti tk kt et sz1 by1 sz2 by2:Nat} {agg2:Bool} {z1 zk:Value} {pl:List (Nat×Nat)} {p:String} {ty:Nat→TypeId} {a:Nat→Array Edge} (hmo:P.follows .mixedOrders=true)
  [hmp:Mp P tm kt et] [hk:KT P kt kv] [hte:Ty P et sz2 agg2 (.i 0) by2] [htm:Ty P tm sz1 false z1 by1] [hpk:Pls P tk zk pl] (hzk:plain zk=true) (hfill:∀ x y:Int,rZ (pl.toArray[·]?) (dU zk) [(0,.i x),(1,.i y)]=some [.i x,.i y])
  (hdep:KH a=true) (hN:Nat.ble (d+9) N=true) (hsl:([sM,sI,sK].all fun q=>Nat.blt q d || Nat.ble (d+9) q)=true) {xb m:Nat} {i k c:Int} {l:ny}
  (hM:Env.get e sM=some (.p xb)) (hbox:aH σ xb 0=some (.map (some m))) (hmm:σ[m]?=some (oH l)) (hI:Env.get e sI=some (.i i)) (hK:Env.get e sK=some (.i k))
  (hi:0≤i∧i≤9223372036854775807) (hv:iT l (i - 1,k)=some (.i c)∨iT l (i - 1,k)=none∧c=0) (hc:0≤c∧c<9223372036854775807) (hni:σ.all (fun o=>!aU o)=true)
  (he:(e.all fun q=>Nat.blt q.1 d || Nat.ble (d+9) q.1)=true) (h:Q .normal e mk (σ.set m (oH (mF l (i - 1,k) (.i (c+1)))))) :
  bP P n0 N rd (.region id (wU d sM sI sK tm ti tk p ty a).toArray true) Q e mk σ:=by
 intro G w0 ρ0 A w F
 obtain ⟨h0,ρ,ha,U,g⟩:=F
 refine wpIn_region_any hmo ?_
 have hs:Sim G w0 ρ σ { w with drawn:=w.drawn+1 }:=pX U rfl rfl rfl rfl
 generalize ({ w with drawn:=w.drawn+1 }:World)=w at hs
 simp only [List.all_cons,List.all_nil,Bool.and_true,aE,eq,bX,Nat.ble_eq] at hsl
 obtain ⟨W,M,K⟩:=hsl
 have V:d+9≤N:=cA hN
 obtain ⟨uM,gM,vM⟩:=g.tmps.2 _ _ hM
 obtain ⟨uI,gI,vI⟩:=g.tmps.2 _ _ hI
 obtain ⟨uK,gK,vK⟩:=g.tmps.2 _ _ hK
 have vI:=bJ vI rfl
 have vK:=bJ vK rfl
 subst vI vK
 obtain ⟨rfl,_⟩:=nV vM
 obtain ⟨_,q2⟩:=kV hs (yX hbox)
 obtain ⟨vm,q3,q4⟩:=q2 0 oS
 simp only [ec] at q4
 obtain ⟨rfl,_⟩:=rM q4
 obtain ⟨_,ents,clock,hh,S⟩:=tZ hs hmm
 obtain ⟨u0,b,w1,E,e1,e2,e3⟩:=V7 (P:=P) (t:=tm) (kt:=kt) (et:=et) (z:=.i 0) rfl hh S (k:=(i - 1,k)) (v0:=.i c) (by
  rcases hv with h|⟨h1,rfl⟩
  ·exact .inl h
  ·exact .inr ⟨h1,rfl⟩)
 have E:=bJ E rfl
 subst E
 obtain ⟨w2,f1,f2⟩:=e3 (.i (c+1))
 obtain ⟨ρ',r1,r2⟩:=V8 hs hmm hni f2
 let val:Nat→Value:=fun j=>match j with
  |0=>.map (some (ρ m).b)|1=>.i i|2=>.i (i - 1)|3=>.i k|4=>kv (i - 1,k)|5=>.i c|6=>.i (c+1)|7=>.tuple #[.i c,goInt b]|8=>goInt b|_=>undef
 have r:∀ (op:BinOp) (x y z:Int) (w:World),UF op .i64 x y=some (.i z)→∀ (ev:Operand→Value) (o:Oper) (s t:Operand) (t':TypeId),o.op=.binOp op ti s t t'→ev s=.i x→ev t=.i y→(execOp ev o).run P w=.ok (.value (.i z)) w:=fun op x y z w hb ev o s t t' ho hs ht=>by
  have h3:(eqGuard op ti s t (.i x) (.i y)).run P w=.ok () w:=by unfold eqGuard;split <;> rfl
  simp [execOp,ho,hs,ht,h3,QO hb]
 have J:acu P A d sM sI sK tm ti tk val w w1 w2:=by
  refine ⟨fun ev o ho R=>?_,gI,fun ev o ho h1 h2=>r .sub i 1 (i - 1) w (by rw [← wrap64 (m:=i - 1) oO oO];rfl) ev o _ _ _ ho h1 h2,gK,fun ev o ho h1 h2=>?_,fun ev o ho h1 h2=>e2 ev o _ _ ho h1 h2,
   fun ev o w ho h1 h2=>r .add c 1 (c+1) w (by rw [← wrap64 (m:=c+1) oO oO];rfl) ev o _ _ _ ho h1 h2,fun ev o ho h1 h2=>e1 ev o _ _ ho h1 h2,fun ev o w ho h1=>?_,fun ev o ho h1 h2 h3=>f1 ev o _ _ _ ho h1 h2 h3⟩
  ·have hv:=R _ gM
   simp only [cV] at q3 hv
   simp [execOp,ho,hv,Instr.loadAt,Instr.sureAddr,loadVar,htm.isAgg,q3,val]
  ·obtain ⟨rc,g3,g4⟩:=wH (n:=σ.length) (ρ:=ρ) [(0,.i (i - 1)),(1,.i k)] [(0,.i (i - 1)),(1,.i k)] _ _ _ (lq (aZ (n:=σ.length) (ρ:=ρ) zk hzk)) rfl
    (fun j h h'=>⟨rfl,by
     match j,h with
     |0,_=>exact .int _ _
     |1,_=>exact .int _ _⟩) (hfill (i - 1) k)
   have Y:Value.agg rc=kv (i - 1,k):=bJ (n:=σ.length) (ρ:=ρ) (v:=kv (i - 1,k)) (.agg _ _ g4.1 g4.2) rfl
   have hb:=run_build (P:=P) w tk #[(0,.i (i - 1)),(1,.i k)] rc (by rw [hpk.built];exact g3)
   have I:ev (.tmp (d+2))=.i (i - 1):=h1
   have O:ev (.tmp (d+3))=.i k:=h2
   simp [execOp,ho,I,O,hb,val,Y]
  ·have I:ev (.tmp (d+7))=.tuple #[.i c,goInt b]:=h1
   simp [execOp,ho,I,Instr.extract,val]
 have f:∀ j<10,∀ i,bY (a j) i=true→i<j:=by
  intro j hj i hw
  unfold KH at hdep
  simp only [aE] at hdep
  have h1:=List.all_eq_true.1 hdep.2 j (List.mem_range.2 hj)
  unfold bY at hw
  obtain ⟨x,hx,hb⟩:=Array.any_eq_true'.1 hw
  simp only [aE] at hb
  have h2:=Array.all_eq_true_iff_forall_mem.1 h1 x hx
  simp only [hb.1,Bool.not_true,Bool.false_or,bX] at h2
  rw [← aM hb.2];exact h2
 have D:∀ i,(Array.replicate (wU d sM sI sK tm ti tk p ty a).toArray.size false).getD i false=false:=fun i=>by
  simp only [eT,fa];split <;> rfl
 refine acs (kZ ρ0 rd) (St:=KI A d N (wU d sM sI sK tm ti tk p ty a) val w w1 w2) (fun j o ho=>?_) (acv J hdep V W M K) (fun L A' w' H C=>?_) _ _ A w oS ?_ ?_
 ·match j,ho with
  |0,ho=>cases ho;exact ⟨rfl,by simp,f 0 oO⟩
  |1,ho=>cases ho;exact ⟨rfl,by simp,f 1 oO⟩
  |2,ho=>cases ho;exact ⟨rfl,by simp,f 2 oO⟩
  |3,ho=>cases ho;exact ⟨rfl,by simp,f 3 oO⟩
  |4,ho=>cases ho;exact ⟨rfl,by simp,f 4 oO⟩
  |5,ho=>cases ho;exact ⟨rfl,by simp,f 5 oO⟩
  |6,ho=>cases ho;exact ⟨rfl,by simp,f 6 oO⟩
  |7,ho=>cases ho;exact ⟨rfl,by simp,f 7 oO⟩
  |8,ho=>cases ho;exact ⟨rfl,by simp,f 8 oO⟩
  |9,ho=>cases ho;exact ⟨rfl,by simp,f 9 oO⟩
  |j+10,ho=>simp [wU] at ho
 ·have h9:L 9=true:=H 9 (by simp [wU])
  have X:w'=w2:=by have:=C.wl;rwa [if_pos h9] at this
  subst X
  refine ⟨e,mk,_,h,by simpa using h0,ρ',fun i hi=>(r1 i oO).trans (ha i hi),r2,⟨C.sz,fun t v ht=>?_⟩,?_,fun i hi=>by simpa using g.mkb i hi⟩
  ·obtain ⟨u,g1,g2⟩:=g.tmps.2 t v ht
   have T:t<d∨d+9≤t:=by
    have:=List.all_eq_true.1 he _ (yZ ht)
    simpa using this
   exact ⟨u,by rw [C.old t T];exact g1,g2.mono oS fun i hi=>r1 i hi⟩
  ·rw [C.df,g.mks]
   congr 1
   exact eD fun i hi=>by rw [r1 i (g.mkb i hi)]
 ·unfold cnt
  exact ej List.countP_le_length oS
 ·have hf:(fun i=>(Array.replicate (wU d sM sI sK tm ti tk p ty a).toArray.size false).getD i false)=fun _=>false:=funext D
  rw [hf]
  exact KI.mk g.tmps.1 rfl (fun _ _=>rfl) (fun _ _ h=>absurd h oS) (fun _ _ _ h=>absurd h oS) oS
end
section ops
variable {P:Program} {rd:Option Nat} {ty:TypeId} {e:Env} {σ:Heap} {x y a:Operand}
theorem V9 {t el size bytes i n c:Nat} {agg:Bool} {z:Value} {k k':IntKind} {cs:List Value} [ha:Sl P t el] [ht:Ty P el size agg z bytes] (hx:aP e x=some (.s i n c)) (hy:aP e y=some (.int k (n:Nat))) (hz:aP e a=some (.int k' (n:Nat)))
  (hrw:σ[i]?=some (.rw cs)) (hcs:cs ≠ []) (hn:0<n) (hc:n≤c):bZ P rd (.slice t x none (some y) (some a)) ty e σ (.slice (some ⟨i,0,some 0⟩) n n) σ :=
 cO oS fun op ho _ G w0 ρ A w hs d=>by
  have hv:=d x (by simp [Op.operands]) _ hx
  have h1:=bJ (d y (by simp [Op.operands]) _ hy) rfl
  have h2:=bJ (d a (by simp [Op.operands]) _ hz) rfl
  have ho0:(ρ i).o=0:=(hs.obj i _ hrw hcs).2.1
  obtain ⟨e1,e2⟩:=Bo ha
  generalize hr:A.eval x=r at hv
  cases hv with
  |emptySlice=>omega
  |slice _ _ _ _ cap hcc hi =>
   have:=run_slice_hm (P:=P) w t (some ⟨(ρ i).b,(ρ i).o+0,none⟩) n cap e1 k k' n n oO oO oO
   simp only [cN] at this
   refine ⟨ρ,.slice (some ⟨(ρ i).b,(ρ i).o+0,none⟩) n n,w,.inl ?_,VQ.gslice i 0 n n n 0 ⟨aD _,fun _=>rfl⟩ oO hi rfl,aD _,fun _ _=>rfl,hs⟩
   have e3:sliced (some ⟨(ρ i).b,(ρ i).o+0,none⟩) 0 n n size=.slice (some ⟨(ρ i).b,(ρ i).o+0,none⟩) n n:=by simp only [sliced];split <;> simp [addr_add]
   simp only [cV] at hr this e3 ⊢
   simp [execOp,ho,hr,h1,h2,run_sliceAt_slice _ _ _ _ _ _ e1,this,e2,ht.sizeOf,e3]
  |sliceG _ _ _ _ _ _ _ _ hq=>simp at hq
theorem acw {op:Op} {n size el:Nat} {cs:List Value} (hn:0<n) (h:bZ P rd op ty e σ (eu σ.length size n) (σ++[.gr cs el])):bZ P rd op ty e σ (.s σ.length n n) (σ++[.rw cs]):=by
 intro o ho z G w0 ρ A w hrd hs D next Q' r
 refine h o ho z G w0 ρ A w hrd hs D next Q' fun ρ' v' w' hv hle x a=>r ρ' v' w' ?_ oS x ?_
 ·obtain ⟨k,rfl⟩:∃ k,n=k+1:=⟨n - 1,oO⟩
  have hl:(σ++[aB.rw cs]).length=(σ++[aB.gr cs el]).length:=oS
  rw [hl]
  rcases Jo hv with ⟨h0,_⟩|⟨_,hi,t,g,_,rfl⟩
  ·omega
  ·have:=VQ.slice (q:=false) (n:=(σ++[aB.gr cs el]).length) (ρ:=ρ') σ.length 0 (k+1) (k+1) t g hi
   simpa using this
 ·have hl:(σ++[aB.rw cs]).length=(σ++[aB.gr cs el]).length:=oS
  have get:∀ (i:Nat) (o:aB),(σ++[aB.rw cs])[i]?=some o→(i < σ.length∧(σ++[aB.gr cs el])[i]?=some o)∨(i=σ.length∧o=.rw cs):=by
   intro i o hi
   by_cases d:i < σ.length
   ·rw [bR d] at hi
    exact .inl ⟨d,by rw [bR d];exact hi⟩
   ·have:=aQ hi
    simp at this
    obtain rfl:i=σ.length:=oO
    rw [bE oO,cY] at hi
    exact .inr ⟨rfl,by simpa using hi.symm⟩
  have hg:(σ++[aB.gr cs el])[σ.length]?=some (.gr cs el):=oS
  refine ⟨a.os,a.tape,a.output,a.size,a.fgn,fun i o hi=>?_,fun i j oi oj hi hj v p hb=>?_⟩
  ·rw [hl]
   rcases get i o hi with ⟨_,h1⟩|⟨rfl,rfl⟩
   ·exact a.obj i o h1
   ·intro l
    obtain ⟨g1,g2,rc,g3,g4,g5,g6⟩:=a.obj _ _ hg l
    exact ⟨g1,g2,rc,el,g3,g5,g6⟩
  ·have up:∀ (i:Nat) (o:aB),(σ++[aB.rw cs])[i]?=some o→o.owned→∃ o',(σ++[aB.gr cs el])[i]?=some o'∧o'.owned:=fun i o hi ho=>by
    rcases get i o hi with ⟨_,h1⟩|⟨rfl,rfl⟩
    ·exact ⟨o,h1,ho⟩
    ·exact ⟨_,hg,ho⟩
   obtain ⟨y,u,f⟩:=up i oi hi v
   obtain ⟨m,C,c⟩:=up j oj hj p
   exact a.inj i j y m u C f c hb
theorem Wh {t el size bytes i o n j oj m c:Nat} {agg:Bool} {z:Value} {cs news:List Value} [ha:Sl P t el] [ht:Ty P el size agg z bytes] (hzs:z.cells.size=size) (h0:Nat.blt 0 size=true)
  (hx:aP e x=some (.slice (some ⟨i,o,some 0⟩) n n)) (hcs:aK σ i o (n*size)=some cs) (hy:aP e y=some (.slice (some ⟨j,oj,none⟩) m c)) (hc:aK σ j oj (m*size)=some news) (hm:0<m)
  (hb:n+m≤1000000) (hby:bytes≤1000000) :
  bZ P rd (.call { callee:=.builtin .append,args:=#[x,y],argTypes:=#[t,t] }) ty e σ (.s σ.length (n+m) (n+m)) (σ++[.rw (cs++news)]):=acw oO (JB hzs h0 hx hcs hy hc hm hb hby)
end ops
end Go.AH
namespace Go.AH.Heat
open Go Go.AH
theorem KJ {kf:Nat→Int×Int×Int} {a b:Int} (h:a≤b):∀ i,oL kf a i≤oL kf b i
 |0=>aD _
 |i+1=>by
  have ih:=KJ (kf:=kf) h i
  have:=AY kf a i
  unfold oL
  by_cases h1:(kf (i+1)).1≤a
  ·rw [if_pos h1,if_pos oO];exact aD _
  ·rw [if_neg h1]
   split
   ·omega
   ·exact ih
theorem Yc {n:Nat} {kf:Nat→Int×Int×Int} (h:Zx n kf) {q:Nat}:∀ {p:Nat},q≤p→p<n→(kf q).2.1≤(kf p).2.1
 |0,hq,_ =>
          by
          obtain rfl:q=0:=oO
          exact dE _
 |p+1,hq,hp=>by
  by_cases a:q=p+1
  ·subst a;exact dE _
  ·have h1:=Yc h (q:=q) (p:=p) oO oO
   have h2:=(h.r p hp).1
   omega
namespace Wk
variable (W:Wk) (m:Int×Int)
def nxt (s k:Nat) (r:Int×Int):Int×Int:=((qJ (W.nk s k) (W.kf s k) r.1).1,(qJ (W.nk s k) (W.kf s k) r.2).2)
def recs:Nat→Nat→Int×Int→List (List Nat)
 |0,s,r=>if jV r.1 r.2 (W.kD m s) then [[]] else []
 |d+1,s,r=>if jV r.1 r.2 (W.kD m s) then (List.range (W.nw s)).flatMap fun k=>(recs d (s+1) (W.nxt s k r)).map (k::·) else []
end Wk
theorem acy {W:Wk} (hv:uF W) {s k:Nat} {r:Int×Int} (hs:s<W.ns) (hk:k<W.nw s) (hr:jX r):jX (W.nxt s k r):=by
 have a:=hv.k s hs k hk
 have hn:=a.n1
 have l1:=AY (W.kf s k) r.1 (W.nk s k - 1)
 have l2:=AY (W.kf s k) r.2 (W.nk s k - 1)
 have l3:=KJ (kf:=W.kf s k) hr.2.1 (W.nk s k - 1)
 have r1:=(a.k _ (show oL (W.kf s k) r.1 (W.nk s k - 1)<W.nk s k by omega)).2.2.1
 have r2:=(a.k _ (show oL (W.kf s k) r.2 (W.nk s k - 1)<W.nk s k by omega)).2.2.1
 have r3:=Yc a l3 oO
 refine ⟨r1.1,?_,r2.2.2⟩
 have:=r2.2.1
 show (qJ (W.nk s k) (W.kf s k) r.1).1≤(qJ (W.nk s k) (W.kf s k) r.2).2
 unfold qJ
 omega
theorem ED {α:Type} (g:Nat→List α) (k:Nat):((List.range (k+1)).flatMap g).length=((List.range k).flatMap g).length+(g k).length:=by
 rw [fy,List.flatMap_append,aR];simp
theorem aeJ {α:Type} (g:Nat→List α) {k n:Nat} (h:k<n):((List.range k).flatMap g).length+(g k).length≤((List.range n).flatMap g).length:=by
 induction n with
 |zero=>omega
 |succ n ih =>
  rw [ED g n]
  by_cases hk:k=n
  ·subst hk;exact aD _
  ·have:=ih oO;omega
theorem flat_get {α:Type} (g:Nat→List α) {k n j:Nat} {x:α} (h:k<n) (hj:(g k)[j]?=some x):((List.range n).flatMap g)[((List.range k).flatMap g).length+j]?=some x:=by
 have hjl:=(List.getElem?_eq_some_iff.1 hj).1
 induction n with
 |zero=>omega
 |succ n ih =>
  rw [fy,List.flatMap_append]
  by_cases hk:k=n
  ·subst hk
   rw [bE oO,Nat.add_sub_cancel_left];simpa using hj
  ·have:=aeJ g (show k<n by omega)
   rw [bR oO];exact ih oO
theorem PZ {n m:Nat} (h:n≤m) {o:aB} (hc:gq n o):gq m o:=by
 have hv:∀ v,closed n v=true→okV v=true→closed m v=true:=fun v h1 h2=>sH (qN (π:=fun i=>⟨i,0,0⟩) (fun _ _=>rfl) h v h1 h2)
 have hl:∀ cs,dR n cs=true∧okL cs=true→dR m cs=true∧okL cs=true:=fun cs h=>⟨(oZ _ _).2 fun v a=>hv v ((oZ _ _).1 h.1 v a) ((Ov _).1 h.2 v a),h.2⟩
 cases o with
 |dead=>trivial
 |ro cs=>exact hl cs hc
 |rw cs=>exact hl cs hc
 |gr cs t=>exact hl cs hc
 |dfr=>trivial
 |loop=>exact fun t v a=>⟨hv v (hc t v a).1 (hc t v a).2,(hc t v a).2⟩
 |map es=>exact fun p hp=>⟨hv _ (hc p hp).1 (hc p hp).2,(hc p hp).2⟩
 |iter k s=>exact fi hc h
 |deep qs sp=>exact fun x hx=>⟨hv _ (hc x hx).1 (hc x hx).2,(hc x hx).2⟩
theorem zC {n m:Nat} (h:n≤m):∀ {σ:Heap},fP n σ→fP m σ
 |[],_=>trivial
 |_::_,hc=>⟨PZ h hc.1,zC h hc.2⟩
theorem A8 {n:Nat}:∀ {A X:Heap},fP n A→fP n X→fP n (A++X)
 |[],_,_,h=>h
 |_::_,_,h1,h2=>⟨h1.1,A8 h1.2 h2⟩
theorem yc {n:Nat}:∀ {A X:Heap},fP n (A++X)→fP n X
 |[],_,h=>h
 |_::r,_,h=>yc (A:=r) h.2
end Go.AH.Heat
namespace Go.Proofs.YtajpgeklmcjciaaGreat
open Go Go.AH
attribute [local irreducible] dA bP bT jL gX dQ fF bZ fB aY dY fA
open Go.AH.Heat
theorem uS {A B:Prop} (k:B) (h:Hide B→A:=by intro h_k_;(repeat' (first|refine sCm ?_|(refine gU ?_;first|(refine bW ?_;first|refine st (aJ rfl (by first|exact aF (aA a0)|exact hw _)) rfl rfl ?_|refine st (bD rfl (by exact hd1)) rfl rfl ?_)|(refine rV ?_;refine st (lH rfl) rfl rfl ?_)|(refine gIA ?_;refine st (iw rfl rfl (by omega)) rfl rfl ?_)|(refine eG ?_;refine st (bH rfl rfl rfl (by exact hf3)) rfl rfl ?_)|(refine dZ ?_;refine stN (bF rfl rfl rfl rfl (by exact hput _)) rfl ?_))|(refine fU ?_;first|refine frA (bD rfl (by exact hq13 _)) rfl ?_ rfl|refine frA (bV rfl) rfl ?_ hcy|refine frA (bV rfl) rfl ?_ (hcs (by assumption))|refine frA (V9 rfl rfl rfl (aA hrecH) hrne hn0 (aD _)) rfl ?_ hcz|refine frNA (by kernel_rfl) (Wh (by rfl) (by rfl) rfl (by exact hcr _) rfl (by exact hcn _ rfl) (cH _) (by omega) (by omega)) lS (aX hpl).1 hpo rfl ?_|refine frA (bD rfl (by exact hq12 _)) rfl ?_ hck|refine frA (aJ rfl (aF (aA b7))) rfl ?_ rfl|refine frA (bV rfl) rfl ?_ (hcl (by assumption))|refine frA (aJ rfl (aF (aA a0))) rfl ?_ (hcs (by assumption))|refine frA (kE rfl) rfl ?_ (hcl (by assumption))|refine frA (aW rfl) rfl ?_ (hcl (by assumption))|refine frA (eY rfl rfl (by omega)) rfl ?_ (hcl (by assumption))|(refine jM ?_;refine frA (bV rfl) rfl ?_)|(refine gY ?_;refine frA (bD rfl (by exact hqX _)) rfl ?_)|(refine fAdd ?_;refine frA (uJ rfl rfl (by omega)) rfl ?_)|(refine QX ?_;refine frA (jC rfl) rfl ?_)|(refine adJ ?_;refine frA (lH rfl) rfl ?_)|(refine aay ?_;refine frA (EW rfl rfl) rfl ?_)|(refine E5 ?_;refine frA (iE (by rfl) rfl (by rfl)) rfl ?_)|(refine qR ?_;refine frA (bH rfl rfl rfl (by first|exact hfa _|exact hfb _|exact hf1 _)) rfl ?_)|(refine Ae ?_;refine fr1 (lU rfl) rfl rfl rfl ?_)|(refine xA ?_;refine frN (fO (by rfl) (by rfl) (by rfl) (by rfl) rfl (by rfl)) lS rfl rfl rfl ?_))|(refine gu ⟨by kernel_rfl,?_⟩)|refine dD (id:=1) ?_|refine dD (id:=8) ?_|refine dD (id:=9) ?_|refine aG ?_|refine eP rfl ?_|refine eU rfl ?_));exact h_k_.h):A:=h ⟨k⟩
theorem ZC {W:Wk} {m:Int×Int} (hv:uF W) (hm:jX m) {tb fb rb bB cB bS cS lo:Nat} {wB cW:Nat→Nat} {kB cK:Nat→Nat→Nat} (d:Nat):∀ {σ:Heap} {s ib n l N' p1:Nat} {e':Env} {assign body:Code} {rec:List Nat} {r:Int×Int} (S:Nat→Heap) (hs:s+d=W.ns) (hr:jX r)
  (h0:S 0=σ) (hlen:∀ j,(S j).length=σ.length) (hT:∀ j,tH (S j) W m tb fb rb bB cB bS cS wB cW kB cK) (hrec:∀ j,(S j)[ib]?=some (.rw (gV rec))) (hn:rec.length=n∧0<n∧n+d≤100) (hlo:lo≤ib∧lo≤σ.length)
  (hL:∀ j,(S j)[l]?=some (.loop .ready none N' e' [p1].toArray assign body)) (hcl:fP σ.length σ→∀ j,fP σ.length (S j)) (hps:Nat.blt p1 N'=true)
  (hround:∀ (j:Nat) (hj:j<(W.recs m d s r).length) (X:Heap) (QB:Post) (iq:Nat),X.all (fun o=>!aU o)=true→lo≤iq→(S j++X)[iq]?=some (.rw (gV (rec++(W.recs m d s r)[j])))→(∀ e1 mk1 Y,QB .normal e1 mk1 ((S (j+1)).set l (.loop .busy none N' e' [p1].toArray assign body)++X++Y)) →
   bP Tryz.prog (σ.length+X.length) N' (some l) assign (dY Tryz.prog (σ.length+X.length) N' l body QB) (mM [p1] [.s iq (n+d) (n+d)] e') [] (S j++X)),
  Ev Tryz.prog 298 [.p tb,.i (s:Nat),.agg #[.i r.1,.i r.2],.s ib n n,.func (.yield l) #[] #[]] σ (.bool true) (S (W.recs m d s r).length):=by
 induction d with
 |zero =>
  intro σ s ib n l N' p1 e' assign body rec r S hs hr h0 hlen hT hrec hn hlo hL hcl hps hround
  have M:=hv.s
  refine aI σ.length 77 Tryz.func298 rfl rfl rfl rfl rfl ?_
  refine Zq fun f=>?_
  have e:=hcl f
  clear f hcl
  rw [← h0]
  have ai:l<(S 0).length:=aQ (hL 0)
  have aq:tb<(S 0).length:=aQ (hT 0).t
  have av:rb<(S 0).length:=aQ (hT 0).r
  have aj:bS<(S 0).length:=(hT 0).bS
  have E:ib<(S 0).length:=aQ (hrec 0)
  refine uS ?_
  obtain ⟨H,hH⟩:∃ H,H=S 0++[aB.rw [.i r.1,.i r.2]]:=⟨_,rfl⟩
  refine .mk (dJ [(0,.p tb),(1,.i (s:Nat)),(3,.s ib n n),(4,.func (.yield l) #[] #[]),(7,.p ((S 0).length)),(10,.bool false)] H hH.symm tE ?_)
  have hp:H.take (S 0).length=S 0:=by rw [hH];simp
  have R:H.length=(S 0).length+1:=by rw [hH];simp
  have g:=(hT 0).take hp
  have a0:=g.t
  have a7:H[(S 0).length]?=some (.rw [.i r.1,.i r.2]):=by rw [hH];exact aO
  have hqX:∀ X,aK (H++X) (S 0).length 0 2=some [.i r.1,.i r.2]:=fun X=>aV (aA a7) rfl
  have hrecH:H[ib]?=some (.rw (gV rec)):=by rw [jm hp E];exact hrec 0
  have hf1:=fun X=>yM (σ:=H++X) (lY (i:=s) (.inl (aA g.r)) (fun j _=>lZ hv.ok hm j) oO) (lZ hv.ok hm s) hr.1 hr.2.2 (by have:=hr.2.1;omega)
  have hcl:∀ {q o:Nat},q<(S 0).length→closed H.length (.pointer (some ⟨q,o,none⟩))=true:=fun {q o} h=>(show Nat.blt q H.length=true from Nat.blt_eq.mpr oO)
  have hcs:∀ {q o n c:Nat},q<(S 0).length→closed H.length (.slice (some ⟨q,o,none⟩) n c)=true:=fun h=>bQ (Nat.blt_eq.mpr oO)
  have I:fP (S 0).length (S 0):=by have:=e 0;rwa [← h0] at this
  by_cases u:jV r.1 r.2 (W.kD m s)=true
  ·have a:W.recs m 0 s r=[[]]:=by unfold Wk.recs;rw [if_pos u]
   simp only [u] at hf1
   refine dI oK rfl ?_
   refine uS ?_
   rw [show H++gZ (fun _=>true) []=H from bL H]
   have ap:∀ h:0<(W.recs m 0 s r).length,(W.recs m 0 s r)[0]'h=[]:=by rw [a];intro h;rfl
   have b5:H[l]?=some (.loop .ready none N' e' [p1].toArray assign body):=by rw [hH];exact aA (hL 0)
   have ao:0<(W.recs m 0 s r).length:=by rw [a];exact cH _
   have O:=hround 0 ao [aB.rw [.i r.1,.i r.2]]
   rw [← hH,ap,bL] at O
   refine Aj (ps:=[p1]) rfl rfl b5 rfl (by simp [hps]) rfl ?_
   rw [show H.length=σ.length+[aB.rw [.i r.1,.i r.2]].length by rw [R,h0];rfl]
   refine O _ ib rfl hlo.1 hrecH fun e1 mk1 Y=>?_
   have b3:l<(S 1).length:=by rw [hlen,← hlen 0];exact ai
   have hg:(((S 1).set l (aB.loop .busy none N' e' #[p1] assign body))++[aB.rw [.i r.1,.i r.2]]++Y)[l]?=some (aB.loop .busy none N' e' #[p1] assign body):=aA (aA (aS (hL 1)))
   refine yL hg rfl ?_
   have a4:(((S 1).set l (aB.loop .busy none N' e' #[p1] assign body))++[aB.rw [.i r.1,.i r.2]]++Y).set l (mZ .ready none (aB.loop .busy none N' e' #[p1] assign body))=S 1++([aB.rw [.i r.1,.i r.2]]++Y):=by
    rw [cD,cI _ _ (oU b3),cX]
    simp only [mZ]
    rw [set_self (hL 1)]
   rw [a4]
   have aa:fP (S 1).length (S 1):=by have:=e 1;rwa [← hlen 1] at this
   have hnn:W.ns=s:=oO
   refine uS ?_
   rw [a]
   exact dM (v2:=.bool true) (.tmp rfl .nil) (aY.dropAll (by rw [hlen,hlen]) aa rfl) ⟨rfl,rfl⟩
  ·have ad:jV r.1 r.2 (W.kD m s)=false:=by simpa using u
   have a:W.recs m 0 s r=[]:=by unfold Wk.recs;rw [if_neg u]
   simp only [ad] at hf1
   refine dI oK rfl ?_
   refine uS ?_
   rw [show H++gZ (fun _=>true) []=H from bL H,a,hH]
   exact dM (v2:=.bool true) (.tmp rfl .nil) (aY.dropAll rfl I rfl) ⟨rfl,rfl⟩
 |succ d ih =>
  intro σ s ib n l N' p1 e' assign body rec r S hs hr h0 hlen hT hrec hn hlo hL hcl hps hround
  have M:=hv.s
  refine aI σ.length 77 Tryz.func298 rfl rfl rfl rfl rfl ?_
  refine Zq fun f=>?_
  have e:=hcl f
  clear f hcl
  rw [← h0]
  have ai:l<(S 0).length:=aQ (hL 0)
  have aq:tb<(S 0).length:=aQ (hT 0).t
  have av:rb<(S 0).length:=aQ (hT 0).r
  have aj:bS<(S 0).length:=(hT 0).bS
  have E:ib<(S 0).length:=aQ (hrec 0)
  refine uS ?_
  obtain ⟨H,hH⟩:∃ H,H=S 0++[aB.rw [.i r.1,.i r.2]]:=⟨_,rfl⟩
  refine .mk (dJ [(0,.p tb),(1,.i (s:Nat)),(3,.s ib n n),(4,.func (.yield l) #[] #[]),(7,.p ((S 0).length)),(10,.bool false)] H hH.symm tE ?_)
  have hp:H.take (S 0).length=S 0:=by rw [hH];simp
  have R:H.length=(S 0).length+1:=by rw [hH];simp
  have g:=(hT 0).take hp
  have a0:=g.t
  have a7:H[(S 0).length]?=some (.rw [.i r.1,.i r.2]):=by rw [hH];exact aO
  have hqX:∀ X,aK (H++X) (S 0).length 0 2=some [.i r.1,.i r.2]:=fun X=>aV (aA a7) rfl
  have hrecH:H[ib]?=some (.rw (gV rec)):=by rw [jm hp E];exact hrec 0
  have hf1:=fun X=>yM (σ:=H++X) (lY (i:=s) (.inl (aA g.r)) (fun j _=>lZ hv.ok hm j) oO) (lZ hv.ok hm s) hr.1 hr.2.2 (by have:=hr.2.1;omega)
  have hcl:∀ {q o:Nat},q<(S 0).length→closed H.length (.pointer (some ⟨q,o,none⟩))=true:=fun {q o} h=>(show Nat.blt q H.length=true from Nat.blt_eq.mpr oO)
  have hcs:∀ {q o n c:Nat},q<(S 0).length→closed H.length (.slice (some ⟨q,o,none⟩) n c)=true:=fun h=>bQ (Nat.blt_eq.mpr oO)
  have I:fP (S 0).length (S 0):=by have:=e 0;rwa [← h0] at this
  by_cases u:jV r.1 r.2 (W.kD m s)=true
  ·have a:W.recs m (d+1) s r=(List.range (W.nw s)).flatMap fun k=>(W.recs m d (s+1) (W.nxt s k r)).map (k::·):=by conv=>lhs;unfold Wk.recs;rw [if_pos u]
   simp only [u] at hf1
   have F:s<W.ns:=oO
   have hnsI:¬ ((s:Nat):Int)=(W.ns:Nat):=oO
   have hw:∀ X,aH (H++X) bS (s+0)=some (.s (wB s) (W.nw s) (cW s)):=fun X=>gy (k:=0) ((g.w.take (aT (eZ (l:=H)))).steps s F) oO
   refine dI oK rfl ?_
   refine uS ?_
   rw [show H++gZ (fun _=>true) []=H from bL H]
   clear hf1 hcl hcs hqX hw hrecH a7 a0 g
   refine dV (ι:=Nat) (fun k=>[(0,.p tb),(1,.i (s:Nat)),(3,.s ib n n),(4,.func (.yield l) #[] #[]),(7,.p ((S 0).length)),(42,.s (wB s) (W.nw s) (cW s)),(43,.i (W.nw s:Nat)),(44,.i (k:Nat))])
    (fun k mk H=>k≤W.nw s∧mk=[]∧∃ Z:Heap,Z.all (fun o=>!aU o)=true∧H=S (((List.range k).flatMap fun k=>(W.recs m d (s+1) (W.nxt s k r)).map (k::·)).length)++([aB.rw [.i r.1,.i r.2]]++Z)) (fun k=>W.nw s - k) 0 tE ⟨bN _,rfl,[],rfl,hH⟩ ?_
   clear hp R hH H
   rintro k mk H ⟨hk,rfl,Z,hZ,hH⟩
   obtain ⟨b,hb⟩:∃ b,b=((List.range k).flatMap fun k=>(W.recs m d (s+1) (W.nxt s k r)).map (k::·)).length:=⟨_,rfl⟩
   rw [← hb] at hH
   have hp:H.take (S b).length=S b:=by rw [hH];simp
   have ah:(S b).length=(S 0).length:=by rw [hlen,hlen]
   have g:=(hT b).take hp
   have a7:H[(S 0).length]?=some (.rw [.i r.1,.i r.2]):=by rw [hH,← ah,bE oO,cY];rfl
   have R:=take_len hp
   have hHl2:=aQ a7
   by_cases K:k<W.nw s
   ·have ar:(k:Int)<(W.nw s:Nat):=oO
    have hd1:aK H (wB s) k 1=some [.s (kB s k) (W.nk s k) (cK s k)]:=g.w.ways s F k K
    have hput:∀ c,putCells (H++[aB.rw [c]]) H.length 0 [.s (kB s k) (W.nk s k) (cK s k)]=some (H++[aB.rw [.s (kB s k) (W.nk s k) (cK s k)]]):=fun c=>fQ (aD _) (cH _)
    refine uS ?_
    obtain ⟨H1,J⟩:∃ H1,H1=H++[aB.rw [.s (kB s k) (W.nk s k) (cK s k)]]:=⟨_,rfl⟩
    refine .mk (dJ [(0,.p tb),(1,.i (s:Nat)),(3,.s ib n n),(4,.func (.yield l) #[] #[]),(7,.p ((S 0).length)),(42,.s (wB s) (W.nw s) (cW s)),(43,.i (W.nw s:Nat)),(44,.i (k:Nat)),(11,.i (k:Nat)),(12,.p H.length)] H1 J.symm tE ?_)
    have b4:H1.take (S b).length=S b:=by rw [J];exact aT hp
    have a3:=(hT b).take b4
    have b7:H1[(S 0).length]?=some (.rw [.i r.1,.i r.2]):=by rw [J];exact aA a7
    have ag:H1[H.length]?=some (.rw [.s (kB s k) (W.nk s k) (cK s k)]):=by rw [J];exact aO
    have hH1l:H1.length=H.length+1:=by rw [J];simp
    have G:=hv.k s F k K
    have az:kB s k<H1.length:=dL (a3.w.kinks s F k K 0 G.n1)
    have T:∀ X,BJ (H1++X) (kB s k) (W.nk s k) (W.kf s k):=fun X q hq=>(a3.w.take (aT (eZ (l:=H1)))).kinks s F k K q hq
    have hfa:=fun X=>AZ (σ:=H1++X) (c:=cK s k) (h:=r.1) G.n1 (by have:=G.n2;omega) (by rw [G.z];exact hr.1) (T X)
    have hfb:=fun X=>AZ (σ:=H1++X) (c:=cK s k) (h:=r.2) G.n1 (by have:=G.n2;omega) (by rw [G.z];have:=hr.1;have:=hr.2.1;omega) (T X)
    have hq12:∀ X,aK (H1++X) H.length 0 1=some [.s (kB s k) (W.nk s k) (cK s k)]:=fun X=>aV (aA ag) rfl
    have hck:closed H1.length (.agg #[.s (kB s k) (W.nk s k) (cK s k)])=true:=by
     have:=bQ (n:=H1.length) (i:=kB s k) (o:=0) (l:=W.nk s k) (c:=cK s k) (Nat.blt_eq.mpr az)
     simp [closed,jq,dR,this]
    have hcl:∀ {q o:Nat},q<H1.length→closed H1.length (.pointer (some ⟨q,o,none⟩))=true:=fun {q o} h=>(show Nat.blt q H1.length=true from Nat.blt_eq.mpr h)
    have a5:(S 0).length<H1.length:=oO
    have U:H.length<H1.length:=oO
    have C:∀ c c' x y,putCells (H1++[aB.rw [c,c']]) H1.length 0 [x,y]=some (H1++[aB.rw [x,y]]):=fun c c' x y=>fQ (aD _) (cH _)
    refine dI oK rfl ?_
    refine uS ?_
    rw [show (H1++gZ (bY #[]) []).length=H1.length from congrArg List.length (bL H1)]
    refine stN (bF (size:=2) (v:=.agg #[.i (W.nxt s k r).1,.i (W.nxt s k r).2]) rfl rfl (by exact rfl) (by exact rfl) (by exact C _ _ _ _)) rfl ?_
    refine l9 ?_
    refine uX ?_
    refine uS ?_
    obtain ⟨H2,L⟩:∃ H2,H2=H1++[aB.rw [.i (W.nxt s k r).1,.i (W.nxt s k r).2]]:=⟨_,rfl⟩
    refine .mk (dJ [(0,.p tb),(1,.i (s:Nat)),(3,.s ib n n),(4,.func (.yield l) #[] #[]),(7,.p ((S 0).length)),(42,.s (wB s) (W.nw s) (cW s)),(43,.i (W.nw s:Nat)),(44,.i (k:Nat)),(11,.i (k:Nat)),(13,.p H1.length)] H2 L.symm tE ?_)
    clear hfa hfb hq12 hck hcl C b7 ag a3 T a5 U hput
    obtain ⟨nx,P⟩:∃ nx,nx=W.nxt s k r:=⟨_,rfl⟩
    rw [← P] at L
    obtain ⟨Z2,N,b2⟩:∃ Z2:Heap,Z2.all (fun o=>!aU o)=true∧H2=S b++([aB.rw [.i r.1,.i r.2]]++Z2):=⟨Z++[aB.rw [.s (kB s k) (W.nk s k) (cK s k)]]++[aB.rw [.i nx.1,.i nx.2]],bG (bG hZ rfl) rfl,by rw [L,J,hH];simp⟩
    obtain ⟨X2,D⟩:∃ X2:Heap,X2=[aB.rw [.i r.1,.i r.2]]++Z2:=⟨_,rfl⟩
    have ac:X2.all (fun o=>!aU o)=true:=by rw [D];exact bG rfl N
    have a6:H2=S b++X2:=by rw [D];exact b2
    have b1:H2[H1.length]?=some (.rw [.i nx.1,.i nx.2]):=by rw [L];exact aO
    have hH2l:H2.length=H1.length+1:=by rw [L];simp
    have hrecH:H2[ib]?=some (.rw (gV rec)):=by rw [a6];exact aA (hrec b)
    have hrne:gV rec ≠ []:=fun h=>by have:=congrArg List.length h;rw [wS] at this;simp at this;have:=hn.1;have:=hn.2.1;simp_all
    have hn0:=hn.2.1
    have hn1:=hn.2.2
    have hq13:∀ X,aK (H2++X) H1.length 0 2=some [.i nx.1,.i nx.2]:=fun X=>aV (aA b1) rfl
    have hcl:∀ {q o:Nat},q<(S 0).length→closed H2.length (.pointer (some ⟨q,o,none⟩))=true:=fun {q o} h=>(show Nat.blt q H2.length=true from Nat.blt_eq.mpr oO)
    have hcs:∀ {q o n c:Nat},q<(S 0).length→closed H2.length (.slice (some ⟨q,o,none⟩) n c)=true:=fun h=>bQ (Nat.blt_eq.mpr oO)
    have hcz:closed H2.length (.slice (some ⟨ib,0,some 0⟩) n n)=true:=(show Nat.blt ib H2.length=true from Nat.blt_eq.mpr oO)
    have hcy:closed H2.length (.func (.yield l) #[] #[])=true:=by simp [closed,jq,dR];omega
    have hcr:∀ X,aK (H2++X) ib 0 (n*1)=some (gV rec):=fun X=>aV (aA hrecH) (by rw [wS];omega)
    have hcn:∀ X:Heap,X=[]→aK (H2++[aB.rw [.i (k:Nat)]]) (H2++X).length 0 (1*1)=some [.i (k:Nat)]:=fun X hX=>by subst hX;rw [bL];exact dX rfl
    have hpl:dN (gV rec++[.i (k:Nat)])=true:=by rw [← BI];exact pI _
    have hpo:=(aX (n:=0) hpl).2
    have hk64:(k:Int)<9223372036854775807:=by have:=hv.w2 s F;omega
    have hs6:=M
    have a8:jX nx:=by rw [P];exact acy hv F K hr
    obtain ⟨X3,Q⟩:∃ X3,X3=X2++[aB.rw [.i (k:Nat)],aB.rw (gV rec++[.i (k:Nat)])]:=⟨_,rfl⟩
    have ae:X3.all (fun o=>!aU o)=true:=by rw [Q];exact bG ac rfl
    have au:H2++[aB.rw [.i (k:Nat)],aB.rw (gV rec++[.i (k:Nat)])]=S b++X3:=by rw [a6,Q,cD]
    have b6:∀ i,(S (b+i)++X3).length=(S b++X3).length:=fun i=>by rw [aR,aR,hlen,hlen]
    have V:∀ i,(S (b+i)++X3)[(H2++[aB.rw [.i (k:Nat)]]).length]?=some (.rw (gV (rec++[k]))):=fun i=>by
     have e1:(H2++[aB.rw [.i (k:Nat)]]).length=(S (b+i)).length+(X2.length+1):=by rw [a6];simp [hlen]
     rw [e1,bE oO,Q,BI,bE oO]
     simp
    have ay:∀ i,l<(S i).length:=fun i=>aQ (hL i)
    have hf3:=ih (σ:=S b++X3) (s:=s+1) (ib:=(H2++[aB.rw [.i (k:Nat)]]).length) (n:=n+1) (l:=l) (N':=N') (p1:=p1) (e':=e') (assign:=assign) (body:=body) (rec:=rec++[k]) (r:=nx) (fun i=>S (b+i)++X3) oO a8 rfl b6
     (fun i=>(hT (b+i)).take (aT eZ)) V ⟨by rw [aR,hn.1];rfl,oO,oO⟩ ⟨by have:=hlo.2;simp;omega,by have:=hlo.2;rw [aR,hlen];omega⟩ (fun i=>aA (hL (b+i))) (fun h i=>A8 (zC (by rw [aR,hlen];omega) (e (b+i))) (yc (A:=S b) h)) hps (fun j hj X QB iq an am aw hQ=>by
      have ak:((fun k=>(W.recs m d (s+1) (W.nxt s k r)).map (k::·)) k)[j]?=some (k::(W.recs m d (s+1) nx)[j]):=by
       show ((W.recs m d (s+1) (W.nxt s k r)).map (k::·))[j]?=_
       rw [← P,cP,cC hj];rfl
      have af:=flat_get (fun k=>(W.recs m d (s+1) (W.nxt s k r)).map (k::·)) K ak
      rw [← hb,← a] at af
      obtain ⟨ax,al⟩:=List.getElem?_eq_some_iff.1 af
      have O:=hround (b+j) ax (X3++X) QB iq (bG ae an) am (by rw [al,← cD];simpa using aw) (fun e1 mk1 Y=>by
       have h1:=hQ e1 mk1 Y
       rw [cI _ _ (ay _)] at h1
       rw [← cD];exact h1)
      rw [show n+1+d=n+(d+1) by omega,show (S b++X3).length+X.length=σ.length+(X3++X).length by rw [aR,aR,hlen];omega,cD]
      exact O)
    rw [← au] at hf3
    refine dI oK rfl ?_
    refine uS ?_
    refine ⟨k+1,⟨oO,rfl,Z2++[aB.rw [.i (k:Nat)],aB.rw (gV rec++[.i (k:Nat)])],bG N rfl,?_⟩,oO,tE⟩
    rw [ED,← hb,cU,← P,Q,D];simp
   ·obtain rfl:k=W.nw s:=oO
    have ar:¬ ((W.nw s:Nat):Int)<(W.nw s:Nat):=oO
    have a9:fP (S b).length (S b):=by have:=e b;rwa [← hlen b] at this
    refine uS ?_
    rw [a,← hb,hH]
    exact dM (v2:=.bool true) (.tmp rfl .nil) (aY.dropAll ah.symm a9 rfl) ⟨rfl,rfl⟩
  ·have ad:jV r.1 r.2 (W.kD m s)=false:=by simpa using u
   have a:W.recs m (d+1) s r=[]:=by unfold Wk.recs;rw [if_neg u]
   simp only [ad] at hf1
   refine dI oK rfl ?_
   refine uS ?_
   rw [show H++gZ (fun _=>true) []=H from bL H,a,hH]
   exact dM (v2:=.bool true) (.tmp rfl .nil) (aY.dropAll rfl I rfl) ⟨rfl,rfl⟩
end Go.Proofs.YtajpgeklmcjciaaGreat
namespace Go.AH.Heat
open Go Go.AH
theorem Dk {α:Type} {g:Nat→List α} {c:Nat}:∀ n,(∀ k<n,(g k).length≤c)→((List.range n).flatMap g).length≤n*c
 |0,_=>by simp
 |n+1,h=>by
  have ih:=Dk (c:=c) n fun k hk=>h k oO
  have:=h n oO
  rw [ED,Nat.succ_mul];omega
def Wk.allR (W:Wk) (m:Int×Int):List (List Nat):=(List.range W.nb).flatMap fun b=>(W.recs m W.ns 0 (W.bf b)).map (b::·)
theorem TI {W:Wk} (hv:uF W) {m:Int×Int}:∀ (d s:Nat) (r:Int×Int),s+d=W.ns→(W.recs m d s r).length≤5 ^ d
 |0,s,r,_=>by unfold Wk.recs;split <;> simp
 |d+1,s,r,h=>by
  unfold Wk.recs
  split
  ·have hw:=hv.w2 s oO
   have h1:=Dk (g:=fun k=>(W.recs m d (s+1) (W.nxt s k r)).map (k::·)) (c:=5 ^ d) (W.nw s) fun k _=>by rw [cU];exact TI hv d (s+1) _ oO
   have h2:W.nw s*5 ^ d≤5*5 ^ d:=fh _ hw
   rw [Nat.pow_succ];omega
  ·exact bN _
theorem TJ {W:Wk} (hv:uF W) {m:Int×Int}:(W.allR m).length≤93750:=by
 have h1:=Dk (g:=fun b=>(W.recs m W.ns 0 (W.bf b)).map (b::·)) (c:=5 ^ W.ns) W.nb fun k _=>by rw [cU];exact TI hv W.ns 0 _ oO
 have h2:5 ^ W.ns≤5 ^ 6:=Nat.pow_le_pow_right oD hv.s
 have h3:W.nb*5 ^ W.ns≤6*5 ^ 6:=Nat.mul_le_mul hv.b2 h2
 unfold Wk.allR
 have h4:6*5 ^ 6=93750:=rfl
 omega
theorem TK {W:Wk} {m:Int×Int}:∀ (d s:Nat) (r:Int×Int),∀ l ∈ W.recs m d s r,l.length=d
 |0,s,r,l,h=>by
  unfold Wk.recs at h
  split at h
  ·simp at h;rw [h];rfl
  ·simp at h
 |d+1,s,r,l,h=>by
  unfold Wk.recs at h
  split at h
  ·obtain ⟨k,_,h2⟩:=List.mem_flatMap.1 h
   obtain ⟨l',h3,rfl⟩:=List.mem_map.1 h2
   rw [eg,TK d (s+1) _ l' h3]
  ·simp at h
theorem TL {W:Wk} {m:Int×Int} {l:List Nat} (h:l ∈ W.allR m):l.length=W.ns+1:=by
 obtain ⟨k,_,h2⟩:=List.mem_flatMap.1 h
 obtain ⟨l',h3,rfl⟩:=List.mem_map.1 h2
 rw [eg,TK _ _ _ l' h3]
def Wi (M:ny) (k:Int×Int):Int:=match iT M k with|some (.int .i64 c)=>c|_=>0
def inc1 (M:ny) (k:Int×Int):ny:=mF M k (.int .i64 (Wi M k+1))
def P5 (M:ny) (rec:List Nat):Nat→ny
 |0=>M
 |i+1=>inc1 (P5 M rec i) ((i:Int) - 1,((rec.getD i 0:Nat):Int))
def zD (M:ny) (l:List (List Nat)):Nat→ny
 |0=>M
 |j+1=>P5 (zD M l j) (l.getD j []) (l.getD j []).length
def BZ (M:ny) (c:Int):Prop:=∀ q ∈ M,∃ x:Int,q.2=.int .i64 x∧0≤x∧x≤c
theorem Yd {M:ny} {c:Int} (h:BZ M c) (hc:0≤c) (k:Int×Int):(iT M k=some (.i (Wi M k))∨iT M k=none∧Wi M k=0)∧0≤Wi M k∧Wi M k≤c:=by
 unfold Wi
 cases hg:iT M k with
 |none=>exact ⟨.inr ⟨rfl,rfl⟩,dE _,hc⟩
 |some v =>
  unfold iT at hg
  split at hg
  ·obtain ⟨q,h1,h2⟩:=Option.map_eq_some_iff.1 hg
   obtain ⟨x,h3,h4,h5⟩:=h q (ew h1)
   rw [h3] at h2
   subst h2
   exact ⟨.inl rfl,h4,h5⟩
  ·cases hg
theorem acz {M:ny} {c:Int} (h:BZ M c) (k:Int×Int) {x:Int} (hx:0≤x) (hxc:x≤c+1):BZ (mF M k (.i x)) (c+1):=by
 intro q hq
 have e:q ∈ M→∃ y:Int,q.2=.i y∧0≤y∧y≤c+1:=fun h1=>by
  obtain ⟨y,a,b,d⟩:=h q h1
  exact ⟨y,a,b,oO⟩
 unfold mF at hq
 split at hq
 ·rcases List.mem_or_eq_of_mem_set hq with h1|rfl
  ·exact e h1
  ·exact ⟨x,rfl,hx,hxc⟩
 ·rcases List.mem_append.1 hq with h1|h1
  ·exact e h1
  ·simp only [fc] at h1
   subst h1
   exact ⟨x,rfl,hx,hxc⟩
theorem P6 {M:ny} {c:Int} (h:BZ M c) (hc:0≤c) (rec:List Nat):∀ i:Nat,BZ (P5 M rec i) (c+i)
 |0=>by simpa [P5] using h
 |i+1=>by
  have ih:=P6 h hc rec i
  have hg:=(Yd ih oO ((i:Int) - 1,((rec.getD i 0:Nat):Int))).2
  have:=acz ih ((i:Int) - 1,((rec.getD i 0:Nat):Int)) (x:=Wi (P5 M rec i) ((i:Int) - 1,((rec.getD i 0:Nat):Int))+1) oO oO
  rw [show c+((i+1:Nat):Int)=c+i+1 by omega]
  exact this
theorem Ye {M:ny} (h:BZ M 0) {l:List (List Nat)} {n:Nat} (hl:∀ r ∈ l,r.length=n):∀ j≤l.length,BZ (zD M l j) ((j*n:Nat):Int)
 |0,_=>by simpa [zD] using h
 |j+1,hj=>by
  have ih:=Ye h hl j oO
  have a:(l.getD j []).length=n:=by
   rw [cE,cC oO,Option.getD_some]
   exact hl _ (cQ _)
  have:=P6 ih oO (l.getD j []) (l.getD j []).length
  rw [a] at this
  unfold zD
  rw [a,show (((j+1)*n:Nat):Int)=((j*n:Nat):Int)+(n:Nat) by rw [Nat.succ_mul];omega]
  exact this
theorem TM {M:ny} {c:Int} (h:BZ M c):∀ q ∈ M,plain q.2=true:=fun q hq=>by
 obtain ⟨x,h1,_⟩:=h q hq
 rw [h1];rfl
end Go.AH.Heat
namespace Go.Proofs.YtajpgeklmcjciaaGreat
open Go Go.AH
attribute [local irreducible] dA bP bT jL gX dQ fF bZ fB aY dY fA
open Go.AH.Heat
theorem NY {σ:Heap} {tb:Nat}:Ev Tryz.prog 281 [.p tb] σ (.func (.func 297) #[] #[.p σ.length]) (σ++[.rw [.p tb]]):=by
 refine aI σ.length 4 Tryz.func281 rfl rfl rfl rfl rfl ?_
 repeat' (first|refine sCm ?_|(refine gU ?_;(refine EX ?_;refine st (iO rfl rfl) rfl rfl ?_))|refine aG ?_)
 exact dM (.tmp rfl .nil) .all ⟨rfl,rfl⟩
theorem Wj {A B:Prop} (k:B) (h:Hide B→A:=by intro h_k_;(repeat' (first|refine sCm ?_|(refine gU ?_;first|(refine bW ?_;first|refine st (aJ rfl (by first|exact hc1|exact hc2|exact aF a0)) rfl rfl ?_|refine st (bD rfl (by first|exact hd1|exact dX rfl)) rfl rfl ?_)|(refine rV ?_;refine st (lH rfl) rfl rfl ?_)|(refine gIA ?_;refine st (eY rfl rfl (by omega)) rfl rfl ?_)|(refine eG ?_;refine st (bH rfl rfl rfl (by exact hf3)) rfl rfl ?_)|(refine lV ?_;refine st (fO (by rfl) (by rfl) (by rfl) (by rfl) rfl (by rfl)) rfl rfl ?_)|(refine dZ ?_;refine stN (bF rfl rfl rfl rfl (by exact hput _ _)) rfl ?_))|refine aG ?_|refine eP rfl ?_|refine eU rfl ?_));exact h_k_.h):A:=h ⟨k⟩
theorem G9 {W:Wk} {m:Int×Int} (hv:uF W) (hm:jX m) {σ:Heap} {l ib tb fb rb bB cB bS cS N' p1:Nat} {wB cW:Nat→Nat} {kB cK:Nat→Nat→Nat} {e':Env} {assign body:Code} {R:Value→Heap→Prop} (S:Nat→Heap)
  (h0:S 0=σ) (hlen:∀ j,(S j).length=σ.length) (hib:∀ j,aK (S j) ib 0 1=some [.p tb]) (hT:∀ j,tH (S j) W m tb fb rb bB cB bS cS wB cW kB cK)
  (hL:∀ j,(S j)[l]?=some (.loop .ready none N' e' [p1].toArray assign body)) (hcl:fP σ.length σ→∀ j,fP σ.length (S j)) (hps:Nat.blt p1 N'=true)
  (hround:∀ (j:Nat) (hj:j<(W.allR m).length) (X:Heap) (QB:Post) (iq:Nat),X.all (fun o=>!aU o)=true→σ.length≤iq→(S j++X)[iq]?=some (.rw (gV ((W.allR m)[j])))→(∀ e1 mk1 Y,QB .normal e1 mk1 ((S (j+1)).set l (.loop .busy none N' e' [p1].toArray assign body)++X++Y)) →
   bP Tryz.prog (σ.length+X.length) N' (some l) assign (dY Tryz.prog (σ.length+X.length) N' l body QB) (mM [p1] [.s iq (1+W.ns) (1+W.ns)] e') [] (S j++X))
  (hR:R (.tuple #[]) (S (W.allR m).length)):fB Tryz.prog 297 [.func (.yield l) #[] #[],.p ib] σ R:=by
 refine aI σ.length 24 Tryz.func297 rfl rfl rfl rfl rfl ?_
 refine Zq fun a=>?_
 have d:=hcl a
 clear a hcl
 rw [← h0]
 have hll:l<(S 0).length:=aQ (hL 0)
 have hns3:=hv.s
 have hnb3:=hv.b2
 have hb:∀ j,aH (S j) ib (0+0)=some (.p tb):=fun j=>gy (hib j) oO
 have hc1:=hb 0
 have a0:=(hT 0).t
 refine Wj ?_
 clear hc1 a0
 refine dV (ι:=Nat) (fun k=>[(0,.func (.yield l) #[] #[]),(1,.p ib),(9,.s bB W.nb cB),(10,.i (W.nb:Nat)),(11,.i (k:Nat))])
  (fun k mk H=>k≤W.nb∧mk=[]∧∃ Z:Heap,Z.all (fun o=>!aU o)=true∧H=S (((List.range k).flatMap fun b=>(W.recs m W.ns 0 (W.bf b)).map (b::·)).length)++Z) (fun k=>W.nb - k) 0 tE ⟨bN _,rfl,[],rfl,by simp⟩ ?_
 rintro k mk H ⟨hk,rfl,Z,hZ,hH⟩
 obtain ⟨b,f⟩:∃ b,b=((List.range k).flatMap fun b=>(W.recs m W.ns 0 (W.bf b)).map (b::·)).length:=⟨_,rfl⟩
 rw [← f] at hH
 have hp:H.take (S b).length=S b:=by rw [hH];simp
 have O:(S b).length=(S 0).length:=by rw [hlen,hlen]
 have hHl:=take_len hp
 by_cases u:k<W.nb
 ·have M:(k:Int)<(W.nb:Nat):=oO
  have z:=hv.b k u
  have hd1:aK H bB (0+k*2) 2=some [.i (W.bf k).1,.i (W.bf k).2]:=by rw [bA];exact ((hT b).take hp).w.bars k u
  have hput:∀ c c',putCells (H++[aB.rw [c,c']]) H.length 0 [.i (W.bf k).1,.i (W.bf k).2]=some (H++[aB.rw [.i (W.bf k).1,.i (W.bf k).2]]):=fun c c'=>fQ (aD _) (cH _)
  have hc2:aH (H++[aB.rw [.i (W.bf k).1,.i (W.bf k).2]]) ib (0+0)=some (.p tb):=by rw [jZ (by have:=dL (hib b);omega),gy (fM hp (hib b)) oO];rfl
  have b4:(H++[aB.rw [.i (W.bf k).1,.i (W.bf k).2]])[H.length]?=some (.rw [.i (W.bf k).1,.i (W.bf k).2]):=aO
  obtain ⟨X3,g⟩:∃ X3,X3=Z++[aB.rw [.i (W.bf k).1,.i (W.bf k).2]]++[aB.rw [.i (k:Nat)]]:=⟨_,rfl⟩
  have e:X3.all (fun o=>!aU o)=true:=by rw [g];exact bG (bG hZ rfl) rfl
  have N:H++[aB.rw [.i (W.bf k).1,.i (W.bf k).2]]++[aB.rw [.i (k:Nat)]]=S b++X3:=by rw [hH,g];simp
  have L:∀ i,(S (b+i)++X3).length=(S b++X3).length:=fun i=>by rw [aR,aR,hlen,hlen]
  have q:∀ i,(S (b+i)++X3)[(H++[aB.rw [.i (W.bf k).1,.i (W.bf k).2]]).length]?=some (.rw (gV [k])):=fun i=>by
   have e1:(H++[aB.rw [.i (W.bf k).1,.i (W.bf k).2]]).length=(S (b+i)).length+(Z.length+1):=by rw [hH];simp [hlen]
   rw [e1,bE oO,g,bE oS]
   simp [gV]
  have K:∀ i,l<(S i).length:=fun i=>aQ (hL i)
  have hf3:=ZC (σ:=S b++X3) hv hm W.ns (s:=0) (ib:=(H++[aB.rw [.i (W.bf k).1,.i (W.bf k).2]]).length) (n:=1) (l:=l) (N':=N') (p1:=p1) (e':=e') (assign:=assign) (body:=body) (rec:=[k]) (r:=W.bf k) (fun i=>S (b+i)++X3) oO z rfl L
   (fun i=>(hT (b+i)).take (aT eZ)) q ⟨rfl,oO,oO⟩ (lo:=σ.length) ⟨by rw [aR];have:=hlen 0;omega,by rw [aR,hlen];omega⟩ (fun i=>aA (hL (b+i))) (fun h i=>A8 (zC (by rw [aR,hlen];omega) (d (b+i))) (yc (A:=S b) h)) hps (fun j hj X QB iq J I D hQ=>by
    have E:((fun b=>(W.recs m W.ns 0 (W.bf b)).map (b::·)) k)[j]?=some (k::(W.recs m W.ns 0 (W.bf k))[j]):=by
     show ((W.recs m W.ns 0 (W.bf k)).map (k::·))[j]?=_
     rw [cP,cC hj];rfl
    have x:=flat_get (fun b=>(W.recs m W.ns 0 (W.bf b)).map (b::·)) u E
    rw [← f] at x
    obtain ⟨F,G⟩:=List.getElem?_eq_some_iff.1 x
    have y:=hround (b+j) F (X3++X) QB iq (bG e J) I (by rw [← cD,D];exact congrArg (fun l=>some (aB.rw (gV l))) G.symm) (fun e1 mk1 Y=>by
     have h1:=hQ e1 mk1 Y
     rw [cI _ _ (K _)] at h1
     rw [← cD];exact h1)
    rw [show (S b++X3).length+X.length=σ.length+(X3++X).length by rw [aR,aR,hlen];omega,cD]
    exact y)
  rw [← N] at hf3
  refine Wj ?_
  refine ⟨k+1,⟨oO,rfl,X3,e,?_⟩,oO,tE⟩
  rw [ED,← f,cU]
 ·obtain rfl:k=W.nb:=oO
  have M:¬ ((W.nb:Nat):Int)<(W.nb:Nat):=oO
  have v:fP (S b).length (S b):=by have:=d b;rwa [← hlen b] at this
  have C:b=(W.allR m).length:=f
  refine Wj ?_
  rw [hH]
  exact UL (v2:=.tuple #[]) (σ2:=S b) .nil (aY.dropAll O.symm v rfl) (by rw [C];exact hR)
theorem TN (n lo hi:Int):Ev Tryz.prog 174 [.i n,.p 0,.p 1] [.ro [.i lo],.ro [.i hi]] (.bool (decide (n<lo∨n > hi))) [.ro [.i lo],.ro [.i hi]]:=by
 refine aI 2 13 Tryz.func174 rfl rfl rfl rfl rfl ?_
 repeat' (first|refine sCm ?_|(refine gU ?_;first|(refine bW ?_;refine st (aJ rfl oR) rfl rfl ?_)|(refine kQ ?_;first|refine st (lu rfl (by exact dW oA) rfl) rfl rfl ?_|refine st (jK rfl (by exact bM oA) rfl) rfl rfl ?_))|(refine gG ?_;first|(refine kP ?_;refine stG rfl (by exact bM oA) (bV rfl) rfl rfl ?_)|(refine bW ?_;refine stG rfl (by exact bM oA) (aJ rfl oR) rfl rfl ?_)|(refine nK ?_;refine stG rfl (by exact bM oA) (fE rfl rfl rfl) rfl rfl ?_)|refine stS rfl (by exact dW oA) rfl ?_|((fail_if_success (refine stGk rfl oR ?_));(refine Aa rfl ?_ ?_ <;> intro _)))|refine aG ?_)
 all_goals
  refine dM (.tmp rfl .nil) (.plain rfl rfl) ⟨?_,rfl⟩
  simp only [kL,Value.bool.injEq]
  (simp;omega)
theorem TP {σ:Heap} {n lo hi:Int} {a b:Nat} (ha:dP σ a [.i lo]) (hb:dP σ b [.i hi]) (hni:σ.all (fun o=>!aU o)=true) :
  Ev Tryz.prog 174 [.i n,.p a,.p b] σ (.bool (decide (n<lo∨n > hi))) σ :=
 Ev.arrs [[.i lo],[.i hi]] [a,b] (TN n lo hi) ⟨ha,hb,trivial⟩ ⟨.int _ _,by simpa [bsR] using VQ.ptr (q:=true) (n:=2) (ρ:=bsR [a,b]) 0 0 oO,by simpa [bsR] using VQ.ptr (q:=true) (n:=2) (ρ:=bsR [a,b]) 1 0 oO,trivial⟩ rfl rfl hni
theorem LM (l:List Int) (lo hi:Int) (c:Nat) (hN:l.length≤1000000) :
  Ev Tryz.prog 102 [.s 0 l.length c,.func (.func 174) #[] #[.p 1,.p 2]] [.ro (ints l),.ro [.i lo],.ro [.i hi]] (.i (lM lo hi l)) [.ro (ints l),.ro [.i lo],.ro [.i hi]]:=by
 refine aI 3 19 Tryz.func102 rfl rfl rfl rfl rfl ?_
 repeat' (first|refine sCm ?_|refine aG ?_)
 refine jd (ι:=Nat) (fun i=>[(0,.s 0 l.length c),(1,.func (.func 174) #[] #[.p 1,.p 2]),(7,.i (l.length:Int)),(8,.i (i:Int))])
  (fun _=>[.ro (ints l),.ro [.i lo],.ro [.i hi]]) (fun i=>l.length - i) (fun i=>i≤l.length∧∀ j<i,¬ (gi l j<lo∨gi l j > hi)) 0 oS (.same tE) ⟨oO,fun j h=>oO⟩ ?_
 intro i ⟨hi',a⟩
 have hc1:i<l.length→aH [.ro (ints l),.ro [.i lo],.ro [.i hi]] 0 i=some (.i (gi l i)):=fun h=>ig h
 repeat' (first|refine sCm ?_|(refine gU ?_;first|(refine bW ?_;refine st (aJ rfl (by exact hc1 oO)) rfl rfl ?_)|(refine gIA ?_;refine st (iw rfl rfl oO) rfl rfl ?_)|(refine eG ?_;refine st (bH rfl rfl rfl (by exact TP (by exact .inl rfl) (by exact .inl rfl) rfl)) rfl rfl ?_))|refine aG ?_|(refine ji rfl ?_ ?_ <;> intro _))
 ·refine dM (.tmp rfl .nil) (.plain rfl rfl) ⟨?_,rfl⟩
  simp only [kL]
  rw [sS oO oA a]
 ·refine ⟨rfl,i+1,⟨oO,fun j hj=>?_⟩,oO,.same tE⟩
  by_cases d:j=i
  ·subst d;assumption
  ·exact a j oO
 ·refine dM (.tmp rfl .nil) (.plain rfl rfl) ⟨?_,rfl⟩
  simp only [kL]
  rw [sU fun j hj=>a j oO]
theorem LP {σ:Heap} {l:List Int} {lo hi:Int} {x a b c:Nat} (hx:dP σ x (ints l)) (ha:dP σ a [.i lo]) (hb:dP σ b [.i hi]) (hN:l.length≤1000000) (hni:σ.all (fun o=>!aU o)=true) :
  Ev Tryz.prog 102 [.s x l.length c,.func (.func 174) #[] #[.p a,.p b]] σ (.i (lM lo hi l)) σ :=
 Ev.arrs [ints l,[.i lo],[.i hi]] [x,a,b] (LM l lo hi c hN) ⟨hx,ha,hb,trivial⟩
  ⟨by simpa [bsR] using VQ.slice (q:=true) (n:=3) (ρ:=bsR [x,a,b]) 0 0 l.length c c (aD _) oO,
   vsub_fn2 (by simpa [bsR] using VQ.ptr (q:=true) (n:=3) (ρ:=bsR [x,a,b]) 1 0 oO) (by simpa [bsR] using VQ.ptr (q:=true) (n:=3) (ρ:=bsR [x,a,b]) 2 0 oO),trivial⟩ (by simp [bC,dN,plain]) rfl hni
theorem Gf (l:List Int) (lo hi:Int) (c:Nat) (hN:l.length≤1000000) :
  Ev Tryz.prog 172 [.s 0 l.length c,.func (.func 174) #[] #[.p 1,.p 2]] [.ro (ints l),.ro [.i lo],.ro [.i hi]] (.bool (decide (lM lo hi l≥0))) [.ro (ints l),.ro [.i lo],.ro [.i hi]]:=by
 refine aI 3 9 Tryz.func172 rfl rfl rfl rfl rfl ?_
 repeat' (first|refine sCm ?_|(refine gU ?_;(refine eG ?_;refine st (bH rfl rfl rfl (by exact LP (by exact .inl rfl) (by exact .inl rfl) (by exact .inl rfl) oO rfl)) rfl rfl ?_))|refine aG ?_)
 refine dM (.tmp rfl .nil) (.plain rfl rfl) ⟨?_,rfl⟩
 rfl
theorem Gg {σ:Heap} {l:List Int} {lo hi:Int} {x a b c:Nat} (hx:dP σ x (ints l)) (ha:dP σ a [.i lo]) (hb:dP σ b [.i hi]) (hN:l.length≤1000000) (hni:σ.all (fun o=>!aU o)=true) :
  Ev Tryz.prog 172 [.s x l.length c,.func (.func 174) #[] #[.p a,.p b]] σ (.bool (decide (lM lo hi l≥0))) σ :=
 Ev.arrs [ints l,[.i lo],[.i hi]] [x,a,b] (Gf l lo hi c hN) ⟨hx,ha,hb,trivial⟩
  ⟨by simpa [bsR] using VQ.slice (q:=true) (n:=3) (ρ:=bsR [x,a,b]) 0 0 l.length c c (aD _) oO,
   vsub_fn2 (by simpa [bsR] using VQ.ptr (q:=true) (n:=3) (ρ:=bsR [x,a,b]) 1 0 oO) (by simpa [bsR] using VQ.ptr (q:=true) (n:=3) (ρ:=bsR [x,a,b]) 2 0 oO),trivial⟩ (by simp [bC,dN,plain]) rfl hni
theorem Wn (l:List Int) (lo hi:Int) (c:Nat) (hN:l.length≤1000000) :
  Ev Tryz.prog 84 [.i lo,.i hi,.s 0 l.length c] [.ro (ints l)] (.bool (decide (¬ (lM lo hi l≥0)))) [.ro (ints l)]:=by
 refine aI 1 11 Tryz.func84 rfl rfl rfl rfl rfl ?_
 repeat' (first|refine sCm ?_|(refine gU ?_;first|(refine rV ?_;refine st (nU rfl) rfl rfl ?_)|(refine EX ?_;refine st (iO rfl rfl) rfl rfl ?_)|(refine eG ?_;refine st (bH rfl rfl rfl (by exact Gg (by exact .inl rfl) (by exact .inr (.inl rfl)) (by exact .inr (.inl rfl)) oO rfl)) rfl rfl ?_))|refine aG ?_)
 refine dM (.tmp rfl .nil) (.plain rfl rfl) ⟨?_,rfl⟩
 rfl
theorem Wp {σ:Heap} {l:List Int} {lo hi:Int} {x c:Nat} (hx:dP σ x (ints l)) (hN:l.length≤1000000) (hni:σ.all (fun o=>!aU o)=true) :
  Ev Tryz.prog 84 [.i lo,.i hi,.s x l.length c] σ (.bool (decide (¬ (lM lo hi l≥0)))) σ :=
 Ev.arrs [ints l] [x] (Wn l lo hi c hN) ⟨hx,trivial⟩ ⟨.int _ _,.int _ _,by simpa [bsR] using VQ.slice (q:=true) (n:=1) (ρ:=bsR [x]) 0 0 l.length c c (aD _) oO,trivial⟩ (by simp [bC]) rfl hni
theorem Ba {σ:Heap} {l:List Int} {lo hi:Int} {x c:Nat} (hx:dP σ x (ints l)) (hN:l.length≤1000000) (hni:σ.all (fun o=>!aU o)=true) :
  Ev Tryz.prog 84 [.i lo,.i hi,.s x l.length c] σ (.bool (decide (∀ y ∈ l,lo≤y∧y≤hi))) σ:=by
 have h:=Wp (σ:=σ) (l:=l) (lo:=lo) (hi:=hi) (c:=c) hx hN hni
 have e:(¬ (lM lo hi l≥0))↔(∀ y ∈ l,lo≤y∧y≤hi):=Go.AH.NS
 simpa [e] using h
theorem yO {σ:Heap} {lo hi:Int}:Ev Tryz.prog 220 [.i lo,.i hi] σ (.func (.func 278) #[] #[.p σ.length,.p (σ.length+1)]) (σ++[.rw [.i lo]]++[.rw [.i hi]]):=by
 refine aI σ.length 6 Tryz.func220 rfl rfl rfl rfl rfl ?_
 repeat' (first|refine sCm ?_|(refine gU ?_;(refine EX ?_;refine st (iO rfl rfl) rfl rfl ?_))|refine aG ?_)
 have e:(σ++[aB.rw (dU (.i lo))]).length=σ.length+1:=oS
 rw [e]
 exact dM (.tmp rfl .nil) .all ⟨rfl,rfl⟩
theorem Yf {A B:Prop} (k:B) (h:Hide B→A:=by intro h_k_;(repeat' (first|(refine gU ?_;first|(refine kP ?_;refine st (bV rfl) rfl rfl ?_)|(refine pW ?_;refine st (iZ rfl) rfl rfl ?_)|(refine bW ?_;refine st (aJ rfl (by first|exact aF a1|exact aF a2)) rfl rfl ?_)|(refine yD ?_;refine st (kK rfl rfl (by omega) (by omega)) rfl rfl ?_)|(refine nK ?_;refine st (fE rfl rfl rfl) rfl rfl ?_)|(refine rV ?_;refine st (lH rfl) rfl rfl ?_))|refine zU ?_|refine aG ?_|refine l9 ?_|refine uX ?_|refine YH ?_|refine wX ?_|refine CG rfl ?_|refine Ci ?_|refine zT ?_|refine tY ?_|refine jc rfl (by first|rfl|exact dW (by assumption)) ?_|refine iM rfl (by first|rfl|exact bM (by assumption)) ?_));exact h_k_.h):A:=h ⟨k⟩
theorem zF {lo hi:Int} (hlo:-1000000≤lo) (hlo2:lo≤1000000) (hhi:hi≤1000000) {n:Nat} (hn:n=(hi+1 - lo).toNat) {σ:Heap} {l lb hb N' p1:Nat} {e':Env} {assign body:Code} {R:Value→Heap→Prop} (S:Nat→Heap)
  (h0:S 0=σ) (hlen:∀ j,(S j).length=σ.length) (hlb:∀ j,(S j)[lb]?=some (.rw [.i lo])) (hhb:∀ j,(S j)[hb]?=some (.rw [.i hi]))
  (hL:∀ j,(S j)[l]?=some (.loop .ready none N' e' [p1].toArray assign body)) (hcl:fP σ.length σ→∀ j,fP σ.length (S j)) (hps:Nat.blt p1 N'=true)
  (hround:∀ (j:Nat) (hj:j<n) (X:Heap) (QB:Post),(∀ e1 mk1 Y,QB .normal e1 mk1 ((S (j+1)).set l (.loop .busy none N' e' [p1].toArray assign body)++X++Y)) →
   bP Tryz.prog (σ.length+X.length) N' (some l) assign (dY Tryz.prog (σ.length+X.length) N' l body QB) (mM [p1] [.i (lo+j)] e') [] (S j++X))
  (hR:R (.tuple #[]) (S n)):fB Tryz.prog 278 [.func (.yield l) #[] #[],.p lb,.p hb] σ R:=by
 refine aI σ.length 15 Tryz.func278 rfl rfl rfl rfl rfl ?_
 refine Zq fun a=>?_
 have c:=hcl a
 clear a hcl
 rw [← h0]
 have hll:l<(S 0).length:=aQ (hL 0)
 have a1:=hlb 0
 have a2:=hhb 0
 refine Yf ?_
 clear a1 a2
 refine dV (ι:=Nat) (fun k=>[(0,.func (.yield l) #[] #[]),(1,.p lb),(2,.p hb),(4,.i (lo+k))])
  (fun k mk H=>k≤n∧mk=[]∧∃ Z:Heap,H=S k++Z) (fun k=>n - k) 0 ⟨rfl,rfl,rfl,(by simp [Env.get]),trivial⟩ ⟨bN _,rfl,[],by simp⟩ ?_
 rintro k mk H ⟨hk,rfl,Z,hH⟩
 have hp:H.take (S k).length=S k:=by rw [hH];simp
 have m:(S k).length=(S 0).length:=by rw [hlen,hlen]
 have hHl:=take_len hp
 have a1:H[lb]?=some (.rw [.i lo]):=by rw [hH];exact aA (hlb k)
 have a2:H[hb]?=some (.rw [.i hi]):=by rw [hH];exact aA (hhb k)
 by_cases q:k<n
 ·have r:lo+(k:Int)≤hi:=oO
  refine Yf ?_
  have g:H[l]?=some (.loop .ready none N' e' [p1].toArray assign body):=by rw [hH];exact aA (hL k)
  refine Aj (ps:=[p1]) rfl rfl g rfl (by simp [hps]) rfl ?_
  have f:=hround k q Z
  rw [show σ.length+Z.length=H.length by rw [hH,aR,hlen],← hH] at f
  refine f _ fun e1 mk1 Y=>?_
  have o:l<(S (k+1)).length:=aQ (hL _)
  refine yL (aA (aA (aS (hL (k+1))))) rfl ?_
  have e:(((S (k+1)).set l (aB.loop .busy none N' e' [p1].toArray assign body))++Z++Y).set l (mZ .ready none (aB.loop .busy none N' e' [p1].toArray assign body))=S (k+1)++(Z++Y):=by
   rw [cD,cI _ _ (oU o),cX]
   simp only [mZ]
   rw [set_self (hL (k+1))]
  rw [e]
  refine Yf ?_
  exact ⟨k+1,⟨oO,rfl,Z++Y,rfl⟩,oO,⟨rfl,rfl,rfl,congrArg (fun x=>some (Value.i x)) oO,trivial⟩⟩
 ·obtain rfl:k=n:=oO
  have r:¬ lo+(k:Int)≤hi:=oO
  refine Yf ?_
  have d:fP (S k).length (S k):=by have:=c k;rwa [← hlen k] at this
  rw [hH]
  exact UL (v2:=.tuple #[]) (σ2:=S k) .nil (aY.dropAll m.symm d rfl) hR
end Go.Proofs.YtajpgeklmcjciaaGreat
namespace Go.AH.Warp
def uT (f:Nat→Int):Nat→Int
 |0=>0
 |n+1=>uT f n+f n
def ab (x:Int):Int:=max x (-x)
structure Bl where
 n:Nat
 lo:Nat→Int
 hi:Nat→Int
 hard:Nat→Int
 most:Int
namespace Bl
variable (b:Bl)
def tK (d:Nat→Int) (i:Nat):Int:=uT d (i+1)
def Ok:Prop:=∀ i<b.n,1≤b.hard i∧b.hard i≤9
def meet (x y:Int×Int):Int×Int:=(max x.1 y.1,min x.2 y.2)
def borne (hard most d:Int):Int×Int :=
 let lo:=if d > 0 then hard else -hard
 let hi:=if d<0 then -hard else hard
 let hi:=if d=most then 9 else hi
 let lo:=if d=-most then -9 else lo
 (lo,hi)
def next (r:Int×Int) (tK lo hi:Int):Int×Int :=
 if tK > lo∧tK<hi then r
 else if lo=hi then (-9,9)
 else (if tK<hi then -9 else r.1,if tK > lo then 9 else r.2)
def now (d:Nat→Int):Nat→Int×Int
 |0=>(-9,9)
 |i+1=>next (meet (now d i) (borne (b.hard i) b.most (d i))) (tK d i) (b.lo i) (b.hi i)
def rng (d:Nat→Int) (i:Nat):Int×Int:=meet (b.now d i) (borne (b.hard i) b.most (d i))
theorem acA (d:Nat→Int) (i:Nat):b.now d (i+1)=next (b.rng d i) (tK d i) (b.lo i) (b.hi i):=rfl
def nI (d:Nat→Int):Nat→Int
 |0=>0
 |k+1=>if tK d (b.n - (k+1)) > b.lo (b.n - (k+1))∧tK d (b.n - (k+1))<b.hi (b.n - (k+1)) then nI d k
  else max (b.rng d (b.n - (k+1))).1 (min (b.rng d (b.n - (k+1))).2 (nI d k))
def pull (d:Nat→Int) (i:Nat):Int:=b.nI d (b.n - i) - b.nI d (b.n - i - 1)
theorem TQ {hard most d:Int} (h:1≤hard∧hard≤9):-9≤(borne hard most d).1∧(borne hard most d).1≤(borne hard most d).2∧(borne hard most d).2≤9:=by
 simp only [borne]
 refine ⟨?_,?_,?_⟩ <;> (repeat' split) <;> omega
def tail (p:Nat→Int) (n i:Nat):Int:=uT p n - uT p i
end Bl
end Go.AH.Warp
namespace Go.AH.Warp
abbrev nev:Int:=1099511627776
def pO (F:Int→Int) (lo:Int):Nat→Int
 |0=>nev
 |k+1=>min (pO F lo k) (F (lo+k))
theorem Gh (F:Int→Int) (lo:Int):∀ k,pO F lo k≤nev
 |0=>dE _
 |k+1=>by have:=Gh F lo k;simp only [pO];omega
theorem KL {F:Int→Int} {lo:Int}:∀ {k:Nat} {g:Int},lo≤g→g<lo+k→pO F lo k≤F g
 |0,g,h1,h2=>by omega
 |k+1,g,h1,h2=>by
  simp only [pO]
  by_cases h:g=lo+k
  ·subst h;omega
  ·have:=KL (F:=F) (lo:=lo) (k:=k) h1 oO;omega
theorem TR {F:Int→Int} {lo:Int}:∀ {k:Nat},pO F lo k<nev→∃ g,lo≤g∧g<lo+k∧F g=pO F lo k
 |0,h=>by simp [pO] at h
 |k+1,h=>by
  simp only [pO] at h ⊢
  by_cases h2:F (lo+k)≤pO F lo k
  ·exact ⟨lo+k,oO,oO,oO⟩
  ·obtain ⟨g,g1,g2,g3⟩:=TR (F:=F) (lo:=lo) (k:=k) oO
   exact ⟨g,g1,oO,oO⟩
theorem KN {F:Int→Int} {lo m:Int} (hm:m≤nev):∀ {k:Nat},(∀ g,lo≤g→g<lo+k→m≤F g)→m≤pO F lo k
 |0,_=>hm
 |k+1,h=>by
  have h1:=KN (F:=F) (lo:=lo) (k:=k) hm fun g g1 g2=>h g g1 oO
  have h2:=h (lo+k) oO oO
  simp only [pO];omega
def lst (F:Int→Int) (lo:Int):Nat→Int
 |0=>lo
 |k+1=>if F (lo+(k+1:Nat))<F (lst F lo k) then lo+(k+1:Nat) else lst F lo k
theorem P7 (F:Int→Int) (lo:Int):∀ k,lo≤lst F lo k∧lst F lo k≤lo+k
 |0=>by simp [lst]
 |k+1=>by have:=P7 F lo k;simp only [lst];split <;> omega
theorem acB (F:Int→Int) (lo:Int):∀ (k:Nat) (g:Int),lo≤g→g≤lo+k→F (lst F lo k)≤F g
 |0,g,h1,h2 =>
            by
            have:g=lo:=oO
            subst this;exact dE _
 |k+1,g,h1,h2=>by
  simp only [lst]
  by_cases h:g=lo+(k+1:Nat)
  ·subst h;split <;> omega
  ·have:=acB F lo k g h1 oO
   split <;> omega
theorem aeK {F:Int→Int} {lo:Int} {k:Nat} (h:pO F lo (k+1)<nev):F (lst F lo k)=pO F lo (k+1):=by
 obtain ⟨g,g1,g2,g3⟩:=TR h
 have h1:=acB F lo k g g1 oO
 have h2:=P7 F lo k
 have h3:=KL (F:=F) (k:=k+1) h2.1 oO
 omega
namespace Bl
variable (b:Bl)
def sLo (i:Nat) (f:Int):Int:=max (b.lo i) (f - b.most)
def sN (i:Nat) (f:Int):Nat:=(min (b.hi i) (f+b.most)+1 - b.sLo i f).toNat
theorem KO {i:Nat} {f g:Int}:(b.sLo i f≤g∧g<b.sLo i f+b.sN i f)↔(b.lo i≤g∧g≤b.hi i∧-b.most≤g - f∧g - f≤b.most):=by
 unfold sN sLo;omega
def vt:Nat→Int→Int
 |0,_=>0
 |k+1,f=>pO (fun g=>vt k g+b.hard (b.n - (k+1))*ab (g - f)) (b.sLo (b.n - (k+1)) f) (b.sN (b.n - (k+1)) f)
theorem BK (x:Int):0≤ab x:=by unfold ab;omega
theorem acC (ho:b.Ok):∀ k≤b.n,∀ f,0≤b.vt k f∧b.vt k f≤nev
 |0,_,f=>by simp [vt]
 |k+1,hk,f=>by
  refine ⟨?_,Gh _ _ _⟩
  refine KN oD fun g _ _=>?_
  have h1:=(acC ho k oO g).1
  have h2:=(ho (b.n - (k+1)) oO).1
  have h3:0≤b.hard (b.n - (k+1))*ab (g - f):=er oO (BK _)
  omega
def LQ (i:Nat) (f:Int):Int→Int:=fun g=>b.vt (b.n - (i+1)) g+b.hard i*ab (g - f)
def pos:Nat→Int
 |0=>0
 |i+1=>lst (b.LQ i (pos i)) (b.sLo i (pos i)) (b.sN i (pos i) - 1)
def blow (i:Nat):Int:=b.pos (i+1) - b.pos i
theorem Yg {i:Nat} {f:Int} (hi:i<b.n):b.vt (b.n - i) f=pO (b.LQ i f) (b.sLo i f) (b.sN i f):=by
 rw [show b.n - i=b.n - (i+1)+1 by omega]
 have e:b.n - (b.n - (i+1)+1)=i:=oO
 simp only [vt,e];rfl
theorem acD (ho:b.Ok) (h:b.vt b.n 0<nev):∀ i≤b.n,b.vt (b.n - i) (b.pos i)<nev∧uT (fun k=>b.hard k*ab (b.blow k)) i+b.vt (b.n - i) (b.pos i)=b.vt b.n 0 ∧
  ∀ k<i,-b.most≤b.blow k∧b.blow k≤b.most∧b.lo k≤b.pos (k+1)∧b.pos (k+1)≤b.hi k
 |0,_=>⟨by rw [Nat.sub_zero];exact h,by rw [Nat.sub_zero];simp [uT,pos],fun k hk=>oO⟩
 |i+1,hi=>by
  obtain ⟨h1,h2,h3⟩:=acD ho h i oO
  rw [b.Yg oO] at h1 h2
  have hp:0<b.sN i (b.pos i):=by
   rcases Nat.eq_zero_or_pos (b.sN i (b.pos i)) with h0|h0
   ·rw [h0] at h1;simp [pO] at h1
   ·exact h0
  have hs:b.sN i (b.pos i)=b.sN i (b.pos i) - 1+1:=oO
  rw [hs] at h1 h2
  have e:=aeK h1
  have c:=P7 (b.LQ i (b.pos i)) (b.sLo i (b.pos i)) (b.sN i (b.pos i) - 1)
  have ep:b.pos (i+1)=lst (b.LQ i (b.pos i)) (b.sLo i (b.pos i)) (b.sN i (b.pos i) - 1):=rfl
  rw [← ep] at e c
  have a:=(b.KO (i:=i) (f:=b.pos i) (g:=b.pos (i+1))).1 ⟨c.1,oO⟩
  rw [← e] at h1 h2
  unfold LQ at h1 h2
  have hh:=(ho i oO).1
  have hc:0≤b.hard i*ab (b.pos (i+1) - b.pos i):=er oO (BK _)
  refine ⟨oO,?_,fun k hk=>?_⟩
  ·simp only [uT]
   show _+b.hard i*ab (b.pos (i+1) - b.pos i)+_=_
   omega
  ·by_cases d:k=i
   ·subst d;exact ⟨a.2.2.1,a.2.2.2,a.1,a.2.1⟩
   ·exact h3 k oO
end Bl
end Go.AH.Warp
namespace Go.AH.Warp
open Go Go.AH
structure Bld where
 n:Nat
 ang:Nat→Int
 tlo:Nat→Int
 thi:Nat→Int
 hard:Nat→Int
 most:Int
def Bld.b (B:Bld):Bl:=⟨B.n,fun i=>B.tlo i - B.ang i,fun i=>B.thi i - B.ang i,B.hard,B.most⟩
structure yg (B:Bld):Prop where
 n:1≤B.n∧B.n≤20
 st:∀ i<B.n,-100≤B.ang i∧B.ang i≤100∧-100≤B.tlo i∧B.tlo i≤B.thi i∧B.thi i≤100∧1≤B.hard i∧B.hard i≤9
 most:0≤B.most∧B.most≤200
theorem yg.tube {B:Bld} (h:yg B) {i:Nat} (hi:i<B.n):-200≤B.b.lo i∧B.b.lo i≤B.b.hi i∧B.b.hi i≤200:=by
 have:=h.st i hi
 show -200≤B.tlo i - B.ang i∧B.tlo i - B.ang i≤B.thi i - B.ang i∧B.thi i - B.ang i≤200
 omega
theorem yg.ok {B:Bld} (h:yg B):B.b.Ok:=fun i hi=>(h.st i hi).2.2.2.2.2
structure LU (σ:Heap) (B:Bld) (sb:Nat):Prop where
 st:∀ i<B.n,aK σ sb (i*4) 4=some [.int .i64 (B.ang i),.int .i64 (B.tlo i),.int .i64 (B.thi i),.int .i64 (B.hard i)]
def Bld.tu (B:Bld):Nat→Int×Int
 |0=>(0,0)
 |i+1=>(B.b.lo i,B.b.hi i)
def Bld.cs (B:Bld) (sb cS tb cT:Nat):List Value:=[.slice (some ⟨sb,0,none⟩) B.n cS,.int .i64 B.most,.slice (some ⟨tb,0,none⟩) (B.n+1) cT]
structure lK (σ:Heap) (B:Bld) (nb sb cS tb cT:Nat):Prop where
 nb:σ[nb]?=some (.rw (B.cs sb cS tb cT))
 st:∀ i<B.n,aK σ sb (i*4) 4=some [.int .i64 (B.ang i),.int .i64 (B.tlo i),.int .i64 (B.thi i),.int .i64 (B.hard i)]
 tu:∀ i≤B.n,aK σ tb (i*2) 2=some [.int .i64 (B.tu i).1,.int .i64 (B.tu i).2]
theorem lK.take {σ H:Heap} {B:Bld} {nb sb cS tb cT:Nat} (h:lK σ B nb sb cS tb cT) (hp:H.take σ.length=σ):lK H B nb sb cS tb cT :=
 ⟨by rw [jm hp (aQ h.nb)];exact h.nb,fun i hi=>fM hp (h.st i hi),fun i hi=>fM hp (h.tu i hi)⟩
theorem lK.app {σ X:Heap} {B:Bld} {nb sb cS tb cT:Nat} (h:lK σ B nb sb cS tb cT):lK (σ++X) B nb sb cS tb cT:=h.take oS
def rU (k:Nat):List Int:=List.replicate k nev++List.replicate (401 - k) 0
theorem acE {k:Nat} (h:k≤401):(rU k).length=401:=by simp [rU];omega
theorem ZE {k:Nat} (h:k<401):(rU k).set k nev=rU (k+1):=by
 unfold rU
 rw [fL _ _ oS,fN,cY,show 401 - k=401 - (k+1)+1 by omega,List.replicate_succ,List.set_cons_zero,List.replicate_succ',cD]
 rfl
theorem BL {L:List Int} {i:Nat} {a:Int} (h:i<L.length):splice (ints L) i [.i a]=ints (L.set i a):=by
 simp only [splice,ints,eg,eb,List.set_eq_take_append_cons_drop,h,if_true,eC,List.map_take,cG,List.map_drop]
 simp
def noRow:List Int:=List.replicate 401 nev
theorem vsub_fn2 {n:Nat} {π:Rho} {f i1 i2 j1 j2:Nat} (h1:i1<n) (e1:π i1=⟨j1,0,0⟩) (h2:i2<n) (e2:π i2=⟨j2,0,0⟩) :
  jS n π (.func (.func f) #[] #[.p i1,.p i2]) (.func (.func f) #[] #[.p j1,.p j2]):=by
 have p1:jS n π (.p i1) (.p j1):=by
  have:=VQ.ptr (q:=true) (ρ:=π) i1 0 h1;rw [e1] at this;exact this
 have p2:jS n π (.p i2) (.p j2):=by
  have:=VQ.ptr (q:=true) (ρ:=π) i2 0 h2;rw [e2] at this;exact this
 refine .func _ _ _ _ _ rfl rfl (fun i h _=>by simp at h) (fun i h _=>?_)
 simp at h
 rcases (by omega:i=0∨i=1) with rfl|rfl
 ·exact p1
 ·exact p2
end Go.AH.Warp
namespace Go.Proofs.YtajpgeklmcjciaaGreat
open Go Go.AH
attribute [local irreducible] dA bP bT jL gX dQ fF bZ fB aY dY fA
open Go.AH.Heat Go.AH.Warp
theorem afT {A B:Prop} (k:B) (h:Hide B→A:=by intro h_k_;(repeat' (first|refine sCm ?_|(refine gU ?_;first|(refine bW ?_;refine st (aJ rfl (by assumption)) rfl rfl ?_)|(refine aat ?_;refine st (fE rfl rfl rfl) rfl rfl ?_)|(refine gIA ?_;refine st (eY rfl rfl (by omega)) rfl rfl ?_)|(refine gMax ?_;refine st (CB rfl rfl) rfl rfl ?_)|(refine gNeg ?_;refine st (UE rfl) rfl rfl ?_))|refine aG ?_));exact h_k_.h):A:=h ⟨k⟩
theorem P8 {σ:Heap} {B:Bld} {nb sb cS tb cT:Nat} (hv:yg B) (hB:lK σ B nb sb cS tb cT) {i:Nat} (hi:i<B.n) {d:Int} (hd:-1000≤d∧d≤1000) :
  Ev Tryz.prog 180 [.p nb,.i (i:Nat),.i d] σ (.i (B.hard i*ab d)) σ:=by
 refine aI σ.length 21 Tryz.func180 rfl rfl rfl rfl rfl ?_
 have hc1:aH σ nb (0+0+0)=some (.s sb B.n cS):=aF hB.nb
 have hst:=hv.st i hi
 have hc2:aH σ sb (0+i*4+3)=some (.i (B.hard i)):=by rw [bA];exact gy (k:=3) (hB.st i hi) oO
 have hiI:(i:Int)<(B.n:Int):=oO
 have hw:IntKind.i64.wrap (0 - d)=-d:=by rw [wrap64 oO oO];omega
 have hm:-1000≤max d (-d)∧max d (-d)≤1000:=oO
 have hml:-9000≤B.hard i*max d (-d)∧B.hard i*max d (-d)≤9000:=by
  have h1:0≤max d (-d):=oO
  have h2:0≤B.hard i*max d (-d):=er oO h1
  have h3:B.hard i*max d (-d)≤9*1000:=fo oO oO h1 oO
  omega
 refine afT ?_
 rw [hw]
 refine afT ?_
 rw [show IntKind.i64.wrap (B.hard i*max d (-d))=B.hard i*ab d from wrap64 oO oO]
 exact dM (.tmp rfl .nil) (.plain oS rfl) ⟨rfl,rfl⟩
theorem TS {A B:Prop} (k:B) (h:Hide B→A:=by intro h_k_;(repeat' (first|refine sCm ?_|(refine gU ?_;first|(refine bW ?_;refine st (bD rfl (by assumption)) rfl rfl ?_)|(refine gIA ?_;refine st (ng rfl rfl (by omega)) rfl rfl ?_)|(refine dZ ?_;refine stN (bF rfl rfl rfl rfl (by exact hput)) rfl ?_))|refine dD (id:=2) ?_|refine aG ?_|refine jc rfl (by first|rfl|exact dW (by assumption)) ?_|refine iM rfl (by rfl) ?_));exact h_k_.h):A:=h ⟨k⟩
theorem tN {σ:Heap}:Ev Tryz.prog 219 [] σ (.agg (ints noRow).toArray) σ:=by
 refine aI σ.length 10 Tryz.func219 rfl rfl rfl rfl rfl ?_
 refine TS ?_
 refine .mk (aG ?_)
 refine TS ?_
 have c:(σ++[aB.rw (List.replicate 401 (.i 0))]).length=σ.length+1:=oS
 have hz:σ++[aB.rw (List.replicate 401 (.i 0))]++[aB.rw (ints (rU 0))]=σ++[aB.rw (List.replicate 401 (.i 0))]++[aB.rw (List.replicate 401 (.i 0))]:=by simp [rU,ints]
 refine dJ [(0,.p σ.length),(1,.p (σ.length+1)),(3,.i ((0:Nat):Int))] (σ++[aB.rw (List.replicate 401 (.i 0))]++[aB.rw (ints (rU 0))]) ?_ ?_ ?_
 ·exact hz.symm
 ·exact ⟨rfl,congrArg (fun n=>some (Value.p n)) c,rfl,trivial⟩
 refine jd (ι:=Nat) (fun k=>[(0,.p σ.length),(1,.p (σ.length+1)),(3,.i (k:Int))]) (fun k=>σ++[aB.rw (List.replicate 401 (.i 0))]++[aB.rw (ints (rU k))]) (fun k=>401 - k) (fun k=>k≤401) 0 oS (.same tE) oO ?_
 intro k hk
 have e:=acE hk
 by_cases hkn:k<401
 ·have hput:putCells (σ++[aB.rw (List.replicate 401 (.i 0))]++[aB.rw (ints (rU k))]) (σ.length+1) (0+k*1) [.i nev]=some (σ++[aB.rw (List.replicate 401 (.i 0))]++[aB.rw (ints (rU (k+1)))]):=by
   have hg:(σ++[aB.rw (List.replicate 401 (.i 0))]++[aB.rw (ints (rU k))])[σ.length+1]?=some (.rw (ints (rU k))):=by rw [← c];exact aO
   rw [fZ hg (by rw [cZ,e];simp;omega) (by rw [cZ,e];omega) (by rw [bA,cJ,BL oO,ZE oO]),← c,fL _ _ (aD _),cY]
   rfl
  have hkI:(k:Int)<401:=oO
  refine TS ?_
  exact ⟨rfl,k+1,oO,oO,.same tE⟩
 ·obtain rfl:k=401:=oO
  have a:(ints (rU 401)).length=401:=by rw [cZ,e]
  have hd1:aK (σ++[aB.rw (List.replicate 401 (.i 0))]++[aB.rw (ints (rU 401))]) (σ.length+1) 0 401=some (ints (rU 401)):=by
   rw [← c];exact dX a
  have hput:putCells (σ++[aB.rw (List.replicate 401 (.i 0))]++[aB.rw (ints (rU 401))]) σ.length 0 (ints (rU 401))=some (σ++[aB.rw (ints (rU 401))]++[aB.rw (ints (rU 401))]):=by
   rw [fZ (cs:=List.replicate 401 (.i 0)) (cs':=ints (rU 401)) oS (by rw [a];simp) oS (by simp [splice,a])]
   simp
  have j:aK (σ++[aB.rw (ints (rU 401))]++[aB.rw (ints (rU 401))]) σ.length 0 401=some (ints (rU 401)):=by
   rw [jk oS];exact dX a
  have f:=bC (rU 401)
  have g:noRow=rU 401:=by simp [noRow,rU]
  rw [g]
  have d:=kM (rU 401)
  generalize ints (rU 401)=rc at *
  refine TS ?_
  refine stN (bF (size:=401) rfl rfl (by exact a) (by exact d) (by exact hput)) rfl ?_
  refine TS ?_
  exact dM (.cellN inferInstance rfl j .nil) (.plain oS f) ⟨rfl,rfl⟩
theorem afU {A B:Prop} (k:B) (h:Hide B→A:=by intro h_k_;(repeat' (first|refine sCm ?_|(refine gU ?_;first|(refine bW ?_;first|refine st (aJ rfl (by assumption)) rfl rfl ?_|refine st (bD rfl (by assumption)) rfl rfl ?_)|(refine gIA ?_;refine st (eY rfl rfl (by omega)) rfl rfl ?_)|(refine eG ?_;refine st (bH rfl rfl rfl (by exact yO)) rfl rfl ?_)|(refine dZ ?_;refine stN (bF rfl rfl rfl rfl (by exact fQ (aD _) (cH _))) rfl ?_))|(refine fU ?_;first|refine frA (aW rfl) rfl ?_ (hcl (by omega))|refine frA (aJ rfl (by exact hq1 _)) rfl ?_ rfl|refine frA (aJ rfl (by exact hq2 _)) rfl ?_ rfl|refine frA (bV rfl) rfl ?_ (hcl (by omega))|refine frA (kE rfl) rfl ?_ (hcl (by omega))|refine frA (aJ rfl (by exact hc2 _)) rfl ?_ rfl|(refine jM ?_;refine fr (bV rfl) (by rfl) rfl ?_)|(refine fAdd ?_;refine fr (kK rfl rfl (by omega) (by omega)) (by rfl) rfl ?_)|(refine fSub ?_;refine fr (jB rfl rfl (by omega) (by omega)) (by rfl) rfl ?_)|(refine fMax ?_;refine fr (CB rfl rfl) (by rfl) rfl ?_)|(refine UO ?_;refine fr (sG rfl rfl) (by rfl) rfl ?_))|(refine gu ⟨by kernel_rfl,?_⟩)|refine dD (id:=2) ?_|refine aG ?_));exact h_k_.h):A:=h ⟨k⟩
theorem KP {σ:Heap} {B:Bld} {nb sb cS tb cT:Nat} (hv:yg B) (hB:lK σ B nb sb cS tb cT) {i:Nat} (hi:i<B.n) {f:Int} (hf:-200≤f∧f≤200) :
  Ev Tryz.prog 177 [.p nb,.i (i:Nat),.i f] σ (.func (.func 278) #[] #[.p σ.length,.p (σ.length+1)]) (σ++[.rw [.i (B.b.sLo i f)]]++[.rw [.i (min (B.b.hi i) (f+B.most))]]):=by
 refine aI σ.length 37 Tryz.func177 rfl rfl rfl rfl rfl ?_
 have hc1:∀ X,aH (σ++X) nb (0+2)=some (.s tb (B.n+1) cT):=fun X=>aF hB.app.nb
 have hc2:∀ X,aH (σ++X) nb (0+0+1)=some (.i B.most):=fun X=>aF hB.app.nb
 have c:=hc1 []
 rw [bL] at c
 have hst:=hv.tube hi
 have hmo:=hv.most
 have hd2:aK σ tb (0+(i+1)*2) 2=some [.i (B.b.lo i),.i (B.b.hi i)]:=by rw [bA];exact hB.tu (i+1) oO
 have hiI:(i:Int)+1<((B.n+1:Nat):Int):=oO
 have hi20:=hv.n
 have hnb:nb < σ.length:=aQ hB.nb
 refine afU ?_
 obtain ⟨K,hK⟩:∃ K,K=σ++[aB.rw [.i (B.b.lo i),.i (B.b.hi i)]]:=⟨_,rfl⟩
 refine .mk (dJ [(0,.p nb),(2,.i f),(7,.p σ.length)] K (by rw [hK];rfl) tE ?_)
 have a:K.length=σ.length+1:=by rw [hK];simp
 have hcl:∀ {q o:Nat},q < σ.length+1→closed K.length (.pointer (some ⟨q,o,none⟩))=true:=fun {q o} h=>by rw [a];exact Nat.blt_eq.mpr h
 have hq1:∀ X,aH (K++X) σ.length (0+0)=some (.i (B.b.lo i)):=fun X=>by rw [hK];exact aF (aA aO)
 have hq2:∀ X,aH (K++X) σ.length (0+1)=some (.i (B.b.hi i)):=fun X=>by rw [hK];exact aF (aA aO)
 have hc2:∀ X,aH (K++X) nb (0+0+1)=some (.i B.most):=fun X=>by rw [hK,cD];exact hc2 _
 refine dI oK rfl ?_
 refine afU ?_
 rw [show K++gZ (fun _=>true) []=K from bL K,a,show max (B.b.lo i) (f - B.most)=B.b.sLo i f from rfl]
 have d:(K++[aB.rw [.i (B.b.sLo i f)]]++[aB.rw [.i (min (B.b.hi i) (f+B.most))]]).take σ.length=σ:=by rw [hK];simp
 refine dM (v2:=.func (.func 278) #[] #[.p σ.length,.p (σ.length+1)]) (σ2:=σ++[aB.rw [.i (B.b.sLo i f)],aB.rw [.i (min (B.b.hi i) (f+B.most))]]) (.tmp rfl .nil)
  (aY.src [.rw [.i (B.b.sLo i f)],.rw [.i (min (B.b.hi i) (f+B.most))]] [σ.length+1,σ.length+2] d rfl (by simp [dG]) ⟨?_,?_,trivial⟩ (vsub_fn2 (f:=278) (i1:=σ.length) (i2:=σ.length+1) (j1:=σ.length+1) (j2:=σ.length+1+1) oS (by simp [fV]) oS (by simp [fV]))) ⟨rfl,by simp⟩
 ·exact vk (j:=σ.length+1) (by simp [fV]) (.inl (aA (bK a))) rfl
 ·exact vk (j:=σ.length+2) (by simp [fV]) (.inl (bK (by simp [a]))) rfl
end Go.Proofs.YtajpgeklmcjciaaGreat
namespace Go.AH
open Go
section
variable {P:Program} {n0 N:Nat} {rd:Option Nat} {Q:Post} {e:Env} {mk:List Nat} {σ:Heap}
def TT (P:Program) (n0 N l0:Nat) (Q:Post) (e:Env) (mk:List Nat) (l:Nat) (σ2:Heap):Prop :=
 ∃ st pend N2 e2 ps2 as2 bd2,σ2[l]?=some (.loop st pend N2 e2 ps2 as2 bd2)∧st ≠ .busy ∧
  (match pend with
   |none=>Q .normal e mk (σ2.set l .dead)
   |some c=>bP P n0 N (some l0) c Q e mk (σ2.set l .dead))
theorem EF {l0:Nat} {L0:aB} {g:Operand} {ps:Array Tmp} {assign body:Code} {f:FuncId} {p q:List Value} [hc:GoFn P f] (hrd:mG (some l0) n0=true) (hl0:σ[l0]?=some L0) (hL0:uN L0=true)
  (hg:aP e g=some (.func (.func f) p.toArray q.toArray))
  (hcall:∀ L,L=aB.loop .ready none N e ps assign body→fB P f (p++[.func (.yield σ.length) #[] #[]]++q) (σ++[L]) (fun _ σ2=>TT P n0 N l0 Q e mk σ.length σ2)) :
  bP P n0 N (some l0) (.rangeFunc g ps assign body) Q e mk σ:=by
 replace hcall:=hcall _ rfl
 intro G w0 ρ0 A w hi
 obtain ⟨h0,ρ,z,hs,o⟩:=hi
 have x:=pV o hg
 have r:l0<n0:=mJ hrd l0 rfl
 generalize hge:A.eval g=gv at x
 cases x with
 |func _ _ p' _ q' e1 e2 e3 e4 =>
  refine wpIn_rangeFunc fun fn _=>?_
  have hro:(fen ρ0 (some l0)).round=some (ρ0 l0).b:=rfl
  rw [hro]
  obtain ⟨r1,b1,_⟩:=wI hs hl0 hL0
  rw [z l0 r] at b1
  let r0:Loop:={ state:=.ready,pending:=none,fn,tmps:=A.tmps,params:=ps,assign,body,defers:=r1.defers }
  have D:=lQ hs (.loop r0) (.loop .ready none N e ps assign body) 0 ⟨fun hg=>by have h1:=(hs.fgn _ hg).1;have:=hs.size;simp only at h1;omega,r0,iC _ _,rfl,rfl,rfl,rfl,rfl,yw o.tmps (Nat.le_succ _) fun i hi=>jg hi⟩
  have hρ:∀ i < σ.length,upd ρ σ.length w.heap.size 0 i=ρ i:=fun i hi=>jg hi
  have t:upd ρ σ.length w.heap.size 0 σ.length=⟨w.heap.size,0,0⟩:=oW
  refine ⟨w.heap.size,[],w.alloc (.loop r0),⟨.fn (.func f) q',p'++#[.func (.yield w.heap.size) #[] #[]]⟩,
   w.alloc (.loop r0),f,p'++#[.func (.yield w.heap.size) #[] #[]]++q',w.alloc (.loop r0),?_,?_,?_,?_,fun h=>by rw [Bh] at h;simp at h,?_⟩
  ·exact run_enterLoop_inner b1 _ _ _ _ _
  ·simp only [resolve,hge]
   simp [Deferred.ofValue,Act.eval]
  ·intro f' _;exact kZ _ _ _
  ·simp [invoke,hc.run]
  ·have j:mP (σ++[aB.loop .ready none N e ps assign body]).length (upd ρ σ.length w.heap.size 0) (p++[Value.func (.yield σ.length) #[] #[]]++q).toArray (p'++#[.func (.yield w.heap.size) #[] #[]]++q'):=by
    have a1:mP σ.length ρ p.toArray p':=⟨e1,e3⟩
    have a2:mP σ.length ρ q.toArray q':=⟨e2,e4⟩
    refine nN (l1:=p++[_]) (nN (yA a1 oS hρ) ⟨rfl,fun i hi hi'=>?_⟩) (yA a2 oS hρ)
    have:i=0:=by simp at hi;exact hi
    subst this
    have:=VQ.yield (q:=false) (n:=(σ++[aB.loop .ready none N e ps assign body]).length) (ρ:=upd ρ σ.length w.heap.size 0) σ.length oS
    rw [t] at this
    exact this
   refine (QT (ρ:=ρ0) (rd:=some l0) (hcall G w0 _ _ _ D j)).mono ?_
   rintro en w' ⟨ρ',vr,v,σ2,rfl,⟨st,l,N2,e2',ps2,as2,bd2,q1,q2,q3⟩,hv,C,a,s⟩
   simp only [aR,eg,eb,bA] at C a
   obtain ⟨r2,b1,b2⟩:=wI s q1 rfl
   have y:(ρ' σ.length).b=w.heap.size:=by rw [a _ oO,t]
   obtain ⟨_,r',c2,c3,c4,_⟩:=s.obj _ _ q1
   rw [b1] at c2;cases c2
   rw [y] at b1
   refine ⟨r2.pending,_,run_endLoop b1 (by rw [c3];exact q2),?_⟩
   have u:=Jc (b2 .exhausted r2.pending) σ.length
   rw [cX,y] at u
   have d:Inv n0 N G w0 ρ0 e mk (σ2.set σ.length .dead) { A with defers:=[]++A.defers } (w'.putObj w.heap.size (.loop { r2 with state:=.exhausted })):=by
    refine ⟨by simp;omega,ρ',fun i hi=>(a i oO).trans ((hρ i oO).trans (z i hi)),u,?_⟩
    exact yx o (m:=(σ2.set σ.length .dead).length) (ρ':=ρ') (by simp;omega) fun i hi=>(a i oO).trans (hρ i hi)
   rw [c4] at d ⊢
   cases l with
   |none=>exact ⟨e,_,_,q3,d⟩
   |some c=>exact q3 G w0 ρ0 _ _ d
end
end Go.AH
namespace Go.AH.Warp
open Go Go.AH
def dH (g:Nat→Int):List Int:=(List.range 401).map g
theorem eX (g:Nat→Int):(dH g).length=401:=by simp [dH]
theorem vC {g:Nat→Int} {i:Nat} (h:i<401):gi (dH g) i=g i:=by simp [dH,gi,cE,cP,ft h]
theorem qK {g g':Nat→Int} (h:∀ i<401,g i=g' i):dH g=dH g':=eD fun i hi=>h i (List.mem_range.1 hi)
theorem KQ {g:Nat→Int} {i:Nat} {v:Int}:(dH g).set i v=dH fun x=>if x=i then v else g x:=by
 refine fx fun x=>?_
 unfold dH
 rw [List.getElem?_set]
 simp only [cP,cU,List.length_range]
 by_cases h:i=x
 ·subst h
  by_cases h2:i<401
  ·rw [ft h2];simp [h2]
  ·rw [eM (oU h2)];simp [h2]
 ·by_cases h2:x<401
  ·rw [ft h2];simp [h,Ne.symm h]
  ·rw [eM (oU h2)];simp [h]
theorem uG:noRow=dH fun _=>nev:=by unfold noRow dH;rw [List.map_const',List.length_range]
def jl (b:Bl) (k:Nat):Nat→Int:=fun x=>b.vt k ((x:Int) - 200)
def nJ (b:Bl) (k j:Nat) (v:Int):Nat→Int:=fun x=>if x=j then v else if x<j then jl b k x else nev
theorem aeL (b:Bl):List.replicate 401 (Value.i 0)=ints (dH (jl b 0)):=by
 have:dH (jl b 0)=List.replicate 401 0:=by
  unfold dH
  rw [show jl b 0=fun _=>0 from rfl,List.map_const',List.length_range]
 rw [this,ints,List.map_replicate]
structure TG (σ H:Heap) (nb:Nat) (row:List Int):Prop where
 pre:H.take σ.length=σ
 b0:H[σ.length]?=some (.rw [.pointer (some ⟨nb,0,none⟩)])
 b1:H[σ.length+1]?=some (.rw (List.replicate 401 (.int .i64 0)))
 b2:H[σ.length+2]?=some (.rw (ints row))
theorem TG.len {σ H:Heap} {nb:Nat} {row:List Int} (h:TG σ H nb row):σ.length+3≤H.length:=aQ h.b2
theorem TG.app {σ H:Heap} {nb:Nat} {row:List Int} (h:TG σ H nb row) (X:Heap):TG σ (H++X) nb row:=⟨aT h.pre,aA h.b0,aA h.b1,aA h.b2⟩
theorem TG.set {σ H:Heap} {nb:Nat} {row:List Int} (h:TG σ H nb row) {i:Nat} (hi:σ.length+3≤i) (x:aB):TG σ (H.set i x) nb row :=
 ⟨take_set h.pre oO,aC h.b0 oO,aC h.b1 oO,aC h.b2 oO⟩
theorem TG.row {σ H:Heap} {nb:Nat} {row:List Int} (h:TG σ H nb row) (r:List Int):TG σ (H.set (σ.length+2) (.rw (ints r))) nb r :=
 ⟨take_set h.pre oO,aC h.b0 oO,aC h.b1 oO,aS h.b2⟩
theorem aeM (b:Bl) (k:Nat):noRow=dH (nJ b k 0 nev):=by
 rw [uG]
 refine qK fun i _=>?_
 unfold nJ
 rw [if_neg (by omega:¬ i<0),ite_self]
theorem Wq (b:Bl) (k j:Nat):dH (nJ b k j (b.vt k (-200+(j:Int))))=dH (nJ b k (j+1) nev):=by
 refine qK fun i _=>?_
 unfold nJ
 by_cases h:i=j
 ·subst h
  rw [if_pos rfl,if_neg oO,if_pos oO]
  unfold jl
  congr 1
 ·rw [if_neg h]
  by_cases h2:i=j+1
  ·rw [if_pos h2,if_neg oO]
  ·rw [if_neg h2]
   by_cases h3:i<j
   ·rw [if_pos h3,if_pos oO]
   ·rw [if_neg h3,if_neg oO]
theorem ZF (b:Bl) (k:Nat):dH (nJ b k 401 nev)=dH (jl b k):=by
 refine qK fun i hi=>?_
 unfold nJ
 rw [if_neg oO,if_pos hi]
theorem ZG (b:Bl) (k j:Nat) (v w:Int):(dH (nJ b k j v)).set j w=dH (nJ b k j w):=by
 rw [KQ]
 refine qK fun i _=>?_
 unfold nJ
 by_cases h:i=j
 ·rw [if_pos h,if_pos h]
 ·rw [if_neg h,if_neg h,if_neg h]
theorem acF (b:Bl) (k:Nat) {j:Nat} (v:Int) (h:j<401):gi (dH (nJ b k j v)) j=v:=by
 rw [vC h];unfold nJ;rw [if_pos rfl]
theorem acG {A X:Heap} {rb l1:Nat} {R0 R1 B bf b1 b2 L2 D:aB} (h1:rb<A.length) (h2:l1<A.length) (hne:rb ≠ l1) :
  ((((A.set rb R0++X++[bf]).set l1 B++[b1]++[b2]++[L2]).set rb R1).set ((A.set rb R0++X++[bf]).set l1 B++[b1]++[b2]).length D)=(A.set rb R1).set l1 B++X++[bf,b1,b2,D]:=by
 have e0:(A.set rb R0++X++[bf]).set l1 B=(A.set rb R0).set l1 B++X++[bf]:=by
  rw [cI _ _ (by simp;omega),cI _ _ (oU h2)]
 rw [e0]
 have e1:((A.set rb R0).set l1 B++X++[bf]++[b1]++[b2]++[L2]).set rb R1=(A.set rb R1).set l1 B++X++[bf]++[b1]++[b2]++[L2]:=by
  rw [cI _ _ (by simp;omega),cI _ _ (by simp;omega),cI _ _ (by simp;omega),cI _ _ (by simp;omega),cI _ _ (by simp;omega),List.set_comm _ _ (by omega:l1 ≠ rb),cX]
 rw [e1,fL _ _ oS]
 simp
theorem acH {A X:Heap} {rb l2:Nat} {R0 R1 B:aB} (h1:rb<A.length) (h2:l2<A.length) (hne:rb ≠ l2):((A.set rb R0++X).set l2 B).set rb R1=(A.set rb R1).set l2 B++X++[]:=by
 rw [bL,cI _ _ (oU h2),cI _ _ (oU h1),List.set_comm _ _ (by omega:l2 ≠ rb),cX]
end Go.AH.Warp
namespace Go.Proofs.YtajpgeklmcjciaaGreat
open Go Go.AH
attribute [local irreducible] dA bP bT jL gX dQ fF bZ fB aY dY fA
open Go.AH.Heat Go.AH.Warp
theorem Cb {A B:Prop} (k:B) (h:Hide B→A:=by intro h_k_;(repeat' (first|refine sCm ?_|(refine gU ?_;first|(refine bW ?_;first|refine st (aJ rfl (by first|exact iG rfl|exact aF hN.b0|exact aF a0|assumption)) rfl rfl ?_|refine st (bD rfl (by assumption)) rfl rfl ?_)|(refine CJ ?_;refine st (jB rfl rfl (by omega) (by omega)) rfl rfl ?_)|(refine Oy ?_;refine st (E8 rfl) rfl rfl ?_)|(refine eG ?_;refine st (bH rfl rfl rfl (by first|exact tN|exact yO)) rfl rfl ?_)|(refine dZ ?_;refine stN (bF rfl rfl rfl rfl (by first|exact fQ (aD _) (cH _)|exact hput)) rfl ?_)|(refine agc ?_;refine stN (DU (by rfl) (by rfl) rfl (by omega) (by rfl) (by exact fQ (aD _) (cH _))) rfl ?_))|refine dD (id:=3) ?_|refine dD (id:=6) ?_|refine dD (id:=7) ?_|refine dD (id:=13) ?_|refine dD (id:=15) ?_|refine aG ?_|refine jc rfl (by first|rfl|exact dW (by assumption)) ?_|refine iM rfl (by first|rfl|exact bM (by assumption)) ?_));exact h_k_.h):A:=h ⟨k⟩
theorem Yh {A B:Prop} (k:B) (h:Hide B→A:=by intro h_k_;(repeat' (first|refine sCm ?_|(refine gU ?_;first|(refine pW ?_;refine st (iZ rfl) (by exact hrd) rfl ?_)|(refine bW ?_;refine st (aJ rfl (by first|exact aF hN.b0|exact aF a0|exact aF a1)) (by exact hrd) rfl ?_)|(refine eG ?_;refine st (bH rfl rfl rfl (by exact hf1)) (by exact hrd) rfl ?_)|(refine Jh ?_;refine st (lU rfl) (by exact hrd) rfl ?_)|(refine dZ ?_;refine stN (bF rfl rfl rfl rfl (by first|exact fQ (aD _) (cH _)|exact hput)) (by exact hrd) ?_))|(refine fU ?_;first|refine gY ?_;refine frA (aJ rfl (by exact hq8 _)) rfl ?_ rfl|refine fIA ?_;refine frA (nY rfl rfl (by omega) (by omega)) rfl ?_ hclr|refine gY ?_;refine frA (aJ rfl (by exact hq7 _)) rfl ?_ rfl|refine fIA ?_;refine frA (nY rfl rfl (by omega) (by omega)) rfl ?_ hcl5|refine gY ?_;refine frA (aJ rfl (by exact hq5 _)) rfl ?_ rfl|refine gY ?_;refine frA (aJ rfl (by exact hq2 _)) rfl ?_ hcln|refine gY ?_;refine frA (aJ rfl (by exact hq6 _)) rfl ?_ rfl|(refine jM ?_;refine fr (bV rfl) (by rfl) rfl ?_)|(refine fAdd ?_;refine fr (kK rfl rfl (by omega) (by omega)) (by rfl) rfl ?_)|(refine fSub ?_;refine fr (jB rfl rfl (by omega) (by omega)) (by rfl) rfl ?_)|(refine UO ?_;refine fr (sG rfl rfl) (by rfl) rfl ?_)|(refine qR ?_;refine fr (bH rfl rfl rfl (by exact hfa _)) (by rfl) rfl ?_))|(refine gu ⟨by kernel_rfl,?_⟩)|refine aG ?_));exact h_k_.h):A:=h ⟨k⟩
theorem IK {σ:Heap} {B:Bld} {nb sb cS tb cT:Nat} (hv:yg B) (hB:lK σ B nb sb cS tb cT) {sn:Nat} (hst:sn≤B.n) :
  Ev Tryz.prog 112 [.p nb,.i (sn:Nat)] σ (.agg (ints (dH (jl B.b (B.n - sn)))).toArray) σ:=by
 refine aI σ.length 53 Tryz.func112 rfl rfl rfl rfl rfl ?_
 have bg:=hv.n
 have bj:nb < σ.length:=aQ hB.nb
 refine Cb ?_
 obtain ⟨Ha,P⟩:∃ Ha,Ha=σ++[aB.rw [.p nb]]++[aB.rw (List.replicate 401 (.i 0))]++[aB.rw (ints (dH (jl B.b 0)))]:=⟨_,rfl⟩
 refine .mk (dJ [(1,.i (sn:Nat)),(2,.p σ.length),(4,.p (σ.length+1)),(5,.p (σ.length+2))] Ha (by rw [P,← aeL];rfl) ⟨rfl,rfl,(by (refine congrArg (fun n=>some (Value.p n)) ?_;simp;try omega)),(by (refine congrArg (fun n=>some (Value.p n)) ?_;simp;try omega)),trivial⟩ ?_)
 have hN:TG σ Ha nb (dH (jl B.b 0)):=⟨by rw [P];simp,by rw [P];exact aA (aA aO),by rw [P];exact aA (bK oS),by rw [P];exact bK oS⟩
 have a6:=hN.len
 have cr:aH Ha nb (0+0+0)=some (.s sb B.n cS):=aF (hB.take hN.pre).nb
 clear P
 apply aG
 refine Cb ?_
 refine dV (ι:=Nat×Nat) (fun k=>[(1,.i (sn:Nat)),(2,.p σ.length),(4,.p (σ.length+1)),(5,.p (σ.length+2)),(6,.p k.2)])
  (fun k mk H=>k.1≤B.n - sn∧Mks (σ.length+3) mk H∧σ.length+3≤k.2∧TG σ H nb (dH (jl B.b k.1))∧H[k.2]?=some (.rw [.i ((B.n:Int) - 1 - k.1)])) (fun k=>B.n - k.1) (0,Ha.length) tE ⟨bN _,.nil,a6,hN.app _,by simp;rfl⟩ ?_
 clear hN a6 cr Ha
 rintro ⟨k,ib⟩ mk H ⟨hk,hM,c5,hN,hi⟩
 dsimp only at hk hM c5 hN hi ⊢
 have cu:=hN.len
 have ax:=aQ hi
 have ch:=hB.take hN.pre
 by_cases cq:k<B.n - sn
 ·have bz:(B.n:Int) - 1 - k≥sn:=oO
  have a0:=hi
  refine Cb ?_
  have a:(ints noRow).length=401:=by rw [cZ,uG,eX]
  have c3:splice (List.replicate 401 (Value.i 0)) 0 (ints noRow)=ints (dH (nJ B.b (k+1) 0 nev)):=by rw [← aeM];simp [splice,a]
  have hf1:=tN (σ:=H)
  refine .mk ?_
  apply aG
  refine Cb ?_
  clear hf1
  obtain ⟨H2,I⟩:∃ H2,H2=H++[aB.rw (ints (dH (nJ B.b (k+1) 0 nev)))]:=⟨_,rfl⟩
  refine .mk (dJ [(1,.i (sn:Nat)),(2,.p σ.length),(4,.p (σ.length+1)),(5,.p (σ.length+2)),(6,.p ib),(7,.p H.length)] H2 (by rw [I,← c3];rfl) tE ?_)
  have hf1:=yO (σ:=H2) (lo:=-200) (hi:=200)
  apply aG
  refine Cb ?_
  clear hf1 c3 a a0
  obtain ⟨Hc,z⟩:∃ Hc,Hc=H2++[aB.rw [.i (-200)]]++[aB.rw [.i 200]]:=⟨_,rfl⟩
  obtain ⟨rb,ah⟩:∃ rb,rb=H.length:=⟨_,rfl⟩
  have w:H2.length=rb+1:=by rw [I,ah];simp
  have y:Hc.length=rb+3:=by rw [z];simp [w]
  have b3:TG σ Hc nb (dH (jl B.b k)):=by rw [z,I];exact ((hN.app _).app _).app _
  have aa:Mks (σ.length+3) mk Hc:=by rw [z,I];exact ((hM.app _).app _).app _
  have b6:Hc[ib]?=some (.rw [.i ((B.n - (k+1):Nat):Int)]):=by rw [show ((B.n - (k+1):Nat):Int)=(B.n:Int) - 1 - k by omega,z,I];exact aA (aA (aA hi))
  have b4:Hc[rb]?=some (.rw (ints (dH (nJ B.b (k+1) 0 nev)))):=by rw [z,I,ah];exact aA (aA aO)
  have ar:Hc[rb+1]?=some (.rw [.i (-200)]):=by rw [z];exact aA (bK w)
  have b9:Hc[rb+2]?=some (.rw [.i 200]):=by rw [z];exact bK (by simp [w])
  have bd:ib<rb:=oO
  have aj:σ.length+3≤rb:=oO
  refine dJ [(1,.i (sn:Nat)),(2,.p σ.length),(4,.p (σ.length+1)),(5,.p (σ.length+2)),(6,.p ib),(7,.p rb),(24,.func (.func 278) #[] #[.p (rb+1),.p (rb+2)])] Hc z.symm ⟨rfl,rfl,rfl,rfl,rfl,by rw [ah];rfl,by rw [show rb+2=rb+1+1 from rfl,← w];rfl,trivial⟩ ?_
  clear z I w ah hN hM hi ch cu ax H2 H
  refine kU (p:=[]) (q:=[.p (rb+1),.p (rb+2)]) rfl fun L hL=>?_
  obtain ⟨A,t⟩:∃ A,A=Hc++[aB.dfr,L]:=⟨_,rfl⟩
  have br:A.length=rb+5:=by rw [t];simp [y]
  have af:TG σ A nb (dH (jl B.b k)):=by rw [t];exact b3.app _
  have bc:Mks (σ.length+3) mk A:=by rw [t];exact aa.app _
  have ai:A[ib]?=some (.rw [.i ((B.n - (k+1):Nat):Int)]):=by rw [t];exact aA b6
  have T:A[rb]?=some (.rw (ints (dH (nJ B.b (k+1) 0 nev)))):=by rw [t];exact aA b4
  have bk:A[rb+1]?=some (.rw [.i (-200)]):=by rw [t];exact aA ar
  have bh:A[rb+2]?=some (.rw [.i 200]):=by rw [t];exact aA b9
  have ap:A[rb+3]?=some .dfr:=by rw [← y,t,bE (aD _)];simp
  have U:A[rb+4]?=some L:=by rw [show rb+4=Hc.length+1 by omega,t,bE oO];simp
  rw [← t,y]
  refine zF (S:=fun j=>A.set rb (.rw (ints (dH (nJ B.b (k+1) j nev))))) (l:=rb+4) (lb:=rb+1) (hb:=rb+2) (lo:=-200) (hi:=200) (n:=401) oO oO oO rfl (set_self T) (fun j=>by simp) (fun j=>aC bk oO) (fun j=>aC bh oO)
   (fun j=>(aC U oO).trans (congrArg some hL)) (fun h j=>jI (o:=.rw (ints _)) (aX (bC _)) h) rfl ?_ ?_
  ·intro j hj X QB bu
   obtain ⟨f,hf⟩:∃ f,f=-200+(j:Int):=⟨_,rfl⟩
   obtain ⟨HX,G⟩:∃ HX,HX=A.set rb (.rw (ints (dH (nJ B.b (k+1) j nev))))++X:=⟨_,rfl⟩
   have bs:TG σ HX nb (dH (jl B.b k)):=by rw [G];exact (af.set aj _).app X
   have bq:HX[ib]?=some (.rw [.i ((B.n - (k+1):Nat):Int)]):=by rw [G];exact aA (aC ai oO)
   have bt:HX[rb]?=some (.rw (ints (dH (nJ B.b (k+1) j nev)))):=by rw [G];exact aA (aS T)
   have ac:HX[rb+4]?=some L:=by rw [G];exact aA (aC U oO)
   have hrd:mG (some (rb+4)) (A.length+X.length)=true:=(show Nat.blt _ _=true from Nat.blt_eq.mpr oO)
   have be:HX.length=A.length+X.length:=by rw [G];simp
   rw [← hf,← G,← be]
   rw [← be] at hrd
   refine Yh ?_
   refine xY (aA ac) hL fun O hO=>?_
   obtain ⟨HB,D⟩:∃ HB,HB=(HX++[aB.rw [.i f]]).set (rb+4) O:=⟨_,rfl⟩
   have cg:=aQ ac
   have ag:TG σ HB nb (dH (jl B.b k)):=by rw [D];exact (bs.app _).set oO _
   have ak:HB[ib]?=some (.rw [.i ((B.n - (k+1):Nat):Int)]):=by rw [D];exact aC (aA bq) oO
   have c6:HB[rb]?=some (.rw (ints (dH (nJ B.b (k+1) j nev)))):=by rw [D];exact aC (aA bt) oO
   have ao:HB[HX.length]?=some (.rw [.i f]):=by rw [D];exact aC aO oO
   have c0:HB[rb+4]?=some O:=by rw [D];exact aS (aA ac)
   have bb:HB.length=HX.length+1:=by rw [D];simp
   refine dJ [(2,.p σ.length),(5,.p (σ.length+2)),(6,.p ib),(7,.p rb),(8,.p HX.length)] HB (by rw [D];rfl) tE ?_
   have hf1:=KP (σ:=HB) (i:=B.n - (k+1)) (f:=f) hv (hB.take ag.pre) oO oO
   have a0:=ak
   have a1:=ao
   have hN:=ag
   refine Yh ?_
   clear hf1 a0 a1 hN
   obtain ⟨i,b8⟩:∃ i,i=B.n - (k+1):=⟨_,rfl⟩
   have bf:i<B.n:=oO
   rw [← b8] at ak ⊢
   obtain ⟨HD,v⟩:∃ HD,HD=HB++[aB.rw [.i (B.b.sLo i f)]]++[aB.rw [.i (min (B.b.hi i) (f+B.most))]]:=⟨_,rfl⟩
   have u:HD.length=HB.length+2:=by rw [v];simp
   obtain ⟨fb,hfb⟩:∃ fb,fb=HX.length:=⟨_,rfl⟩
   have ca:=hv.tube bf
   have cf:=hv.most
   have ce:-200≤B.b.sLo i f∧B.b.sLo i f≤400:=by unfold Bl.sLo;show -200≤max (B.b.lo i) (f - B.most)∧max (B.b.lo i) (f - B.most)≤400;omega
   rw [← v]
   refine EF (p:=[]) (q:=[.p HB.length,.p (HB.length+1)]) (L0:=O) hrd (by rw [v];exact aA (aA c0)) (by rw [hO];rfl) rfl fun L2 ad=>?_
   obtain ⟨A2,c⟩:∃ A2,A2=HD++[L2]:=⟨_,rfl⟩
   have am:A2.length=HB.length+3:=by rw [c];simp [u]
   have Z:TG σ A2 nb (dH (jl B.b k)):=by rw [c,v];exact ((ag.app _).app _).app _
   have a4:A2[ib]?=some (.rw [.i (i:Nat)]):=by rw [c,v];exact aA (aA (aA ak))
   have J:A2[rb]?=some (.rw (ints (dH (nJ B.b (k+1) j nev)))):=by rw [c,v];exact aA (aA (aA c6))
   have a5:A2[fb]?=some (.rw [.i f]):=by rw [c,v,hfb];exact aA (aA (aA ao))
   have a9:A2[HB.length]?=some (.rw [.i (B.b.sLo i f)]):=by rw [c,v];exact aA (aA aO)
   have a3:A2[HB.length+1]?=some (.rw [.i (min (B.b.hi i) (f+B.most))]):=by rw [c,v];exact aA (bK oS)
   have C:A2[HB.length+2]?=some L2:=by rw [c];exact bK u
   rw [← c,u]
   obtain ⟨F,hF⟩:∃ F:Int→Int,F=fun g=>B.b.vt k g+B.hard i*ab (g - f):=⟨_,rfl⟩
   refine zF (S:=fun q=>A2.set rb (.rw (ints (dH (nJ B.b (k+1) j (pO F (B.b.sLo i f) q)))))) (l:=HB.length+2) (lb:=HB.length) (hb:=HB.length+1) (lo:=B.b.sLo i f) (hi:=min (B.b.hi i) (f+B.most)) (n:=B.b.sN i f) oO oO oO rfl (set_self J) (fun j=>by simp) (fun j=>aC a9 oO) (fun j=>aC a3 oO)
    (fun j=>(aC C oO).trans (congrArg some ad)) (fun h j=>jI (o:=.rw (ints _)) (aX (bC _)) h) rfl ?_ ?_
   ·intro q hq X2 QB2 W
    have hg:=(B.b.KO (i:=i) (f:=f) (g:=B.b.sLo i f+q)).1 ⟨oO,oO⟩
    obtain ⟨g,az⟩:∃ g,g=B.b.sLo i f+q:=⟨_,rfl⟩
    rw [← az] at hg ⊢
    have hg2:-200≤g∧g≤200:=oO
    obtain ⟨m,hm⟩:∃ m,m=pO F (B.b.sLo i f) q:=⟨_,rfl⟩
    have c2:pO F (B.b.sLo i f) (q+1)=min m (F g):=by rw [hm,az];rfl
    obtain ⟨HY,E⟩:∃ HY,HY=A2.set rb (.rw (ints (dH (nJ B.b (k+1) j m))))++X2:=⟨_,rfl⟩
    have c1:TG σ HY nb (dH (jl B.b k)):=by rw [E];exact (Z.set aj _).app X2
    have bo:HY[ib]?=some (.rw [.i (i:Nat)]):=by rw [E];exact aA (aC a4 oO)
    have c4:HY[rb]?=some (.rw (ints (dH (nJ B.b (k+1) j m)))):=by rw [E];exact aA (aS J)
    have bl:HY[fb]?=some (.rw [.i f]):=by rw [E];exact aA (aC a5 oO)
    have bv:HY[HB.length+2]?=some L2:=by rw [E];exact aA (aC C oO)
    have hrd:mG (some (HB.length+2)) (A2.length+X2.length)=true:=(show Nat.blt _ _=true from Nat.blt_eq.mpr oO)
    rw [← hm,← E]
    refine Yh ?_
    refine xY bv ad fun O2 bx=>?_
    obtain ⟨HZ,M⟩:∃ HZ,HZ=HY.set (HB.length+2) O2:=⟨_,rfl⟩
    have V:TG σ HZ nb (dH (jl B.b k)):=by rw [M];exact c1.set oO _
    have aw:HZ[ib]?=some (.rw [.i (i:Nat)]):=by rw [M];exact aC bo oO
    have al:HZ[rb]?=some (.rw (ints (dH (nJ B.b (k+1) j m)))):=by rw [M];exact aC c4 oO
    have b5:HZ[fb]?=some (.rw [.i f]):=by rw [M];exact aC bl oO
    rw [← M]
    have au:=V.len
    have ay:=(B.b.acC hv.ok k (by show k≤B.n;omega) g)
    have bp:rb<HZ.length:=aQ al
    have cc:ib<HZ.length:=aQ aw
    have c9:fb<HZ.length:=aQ b5
    have bn:σ.length+2<HZ.length:=oO
    have c7:nb<HZ.length:=oO
    have hclr:∀ {o:Nat},closed HZ.length (.pointer (some ⟨rb,o,none⟩))=true:=fun {o}=>Nat.blt_eq.mpr bp
    have hcl5:∀ {o:Nat},closed HZ.length (.pointer (some ⟨σ.length+2,o,none⟩))=true:=fun {o}=>Nat.blt_eq.mpr bn
    have hcln:closed HZ.length (.p nb)=true:=Nat.blt_eq.mpr c7
    have hq2:∀ Y,aH (HZ++Y) σ.length 0=some (.p nb):=fun Y=>aF (V.app Y).b0
    have hq6:∀ Y,aH (HZ++Y) ib 0=some (.i (i:Nat)):=fun Y=>aF (aA aw)
    have hq8:∀ Y,aH (HZ++Y) fb 0=some (.i f):=fun Y=>aF (aA b5)
    have ba:0+(f+200).toNat*1=j:=oO
    have hq7:∀ Y,aH (HZ++Y) rb (0+(f+200).toNat*1)=some (.i m):=fun Y=>by rw [ba,aF (aA al),ig (by rw [eX];exact hj),acF _ _ _ hj]
    have hq5:∀ Y,aH (HZ++Y) (σ.length+2) (0+(g+200).toNat*1)=some (.i (B.b.vt k g)):=fun Y=>by
     rw [aF (V.app Y).b2,ig (by rw [eX];omega),vC oO]
     unfold jl
     rw [show ((0+(g+200).toNat*1:Nat):Int) - 200=g by omega]
    have hfa:=fun Y=>P8 (σ:=HZ++Y) (i:=i) (d:=g - f) hv ((hB.take V.pre).app) bf oO
    have ck:0≤B.hard i*ab (g - f)∧B.hard i*ab (g - f)≤9000:=by
     have h1:=hv.st i bf
     have h0:0≤ab (g - f)∧ab (g - f)≤1000:=by unfold ab;omega
     refine ⟨er oO h0.1,?_⟩
     exact Int.le_trans (fo (by omega:B.hard i≤9) h0.2 h0.1 oO) oO
    rw [← hfb]
    generalize hcoD:B.hard i*ab (g - f)=co at ck hfa
    generalize hvtD:B.b.vt k g=vg at ay hq5
    have hfr:-200≤f∧f≤200:=oO
    have hvt2:0≤vg∧vg≤1099511627776:=ay
    have hput:putCells (HZ++gZ (fun _=>true) []) rb (0+(f+200).toNat*1) [.i (min m (vg+co))]=some (HZ.set rb (.rw (ints (dH (nJ B.b (k+1) j (min m (vg+co))))))):=by
     rw [show HZ++gZ (fun _=>true) []=HZ from bL HZ,ba]
     exact fZ al (by rw [cZ,eX];simp;omega) (by rw [cZ,eX];omega) (by rw [BL (by rw [eX];exact hj),ZG])
    refine tY (bP.mono (Q:=fun ex _ _ s=>ex=Exit.normal∧s=HZ.set rb (.rw (ints (dH (nJ B.b (k+1) j (min m (vg+co))))))) ?_ ?_)
    ·clear ay W c2 hm hF a4 J a5 a9 a3 C Z c1 bo c4 bl bv V aw al b5 au bp cc c9 bn c7 ba hvtD hcoD M E az hg am c ce cf ca hfb u v b8 ak bb c0 ao c6 ag cg D be ac bt bq bs G hf bu U ap bh bk T ai bc af br t aj bd b9 ar b4 b6 aa b3 y bz cq c5 hk bj bg hst hB bx ad hO hL hq hv
     refine dI oK hrd ?_
     refine Yh ?_
     exact ⟨rfl,rfl⟩
    ·rintro ex e' mk' s ⟨rfl,rfl⟩
     have cm:F g=vg+co:=by rw [hF];show B.b.vt k g+B.hard i*ab (g - f)=_;rw [hvtD,hcoD]
     rw [M,E,acH oO oO oO,← cm,← c2]
     refine wX ?_
     rw [bx]
     exact W _ _ _
   ·refine ⟨.ready,none,_,_,_,_,_,(aC C oO).trans (congrArg some ad),by simp,?_⟩
    show (dQ 4 (dQ 3 QB)) _ _ _ _
    refine wX ?_
    refine wX ?_
    have cv:pO F (B.b.sLo i f) (B.b.sN i f)=B.b.vt (k+1) (-200+(j:Int)):=by rw [hF,← hf,b8];rfl
    rw [cv,Wq,← u,c,v,D,G,acG oO oO oO,hO]
    exact bu _ _ _
  ·refine ⟨.ready,none,_,_,_,_,_,(aC U oO).trans (congrArg some hL),by simp,?_⟩
   show (dQ 2 _) _ _ _ _
   refine wX ?_
   refine uX ?_
   rw [ZF]
   obtain ⟨K,hK⟩:∃ K,K=(A.set rb (.rw (ints (dH (jl B.b (k+1)))))).set (rb+4) .dead:=⟨_,rfl⟩
   have a8:TG σ K nb (dH (jl B.b k)):=by rw [hK];exact (af.set aj _).set oO _
   have aq:K[ib]?=some (.rw [.i ((B.n - (k+1):Nat):Int)]):=by rw [hK];exact aC (aC ai oO) oO
   have av:K[rb]?=some (.rw (ints (dH (jl B.b (k+1))))):=by rw [hK];exact aC (aS T) oO
   have c8:Mks (σ.length+3) ((rb+3)::mk) K:=by
    rw [hK]
    refine Mks.cons ((bc.set T oS).set (aC U oO) (by rw [hL];simp)) (aa.new oO) oO (aC (aC ap oO) oO)
   rw [← hK]
   clear hK T ai bc af U ap bh bk br t hL b9 ar b4 b6 aa b3
   have cl:rb<K.length:=aQ av
   have a:(ints (dH (jl B.b (k+1)))).length=401:=by rw [cZ,eX]
   have N:=kM (dH (jl B.b (k+1)))
   have hd1:aK K rb 0 401=some (ints (dH (jl B.b (k+1)))):=aV av a
   have hput:putCells K (σ.length+2) 0 (ints (dH (jl B.b (k+1))))=some (K.set (σ.length+2) (.rw (ints (dH (jl B.b (k+1)))))):=fZ a8.b2 (by rw [a,cZ,eX];omega) (by rw [cZ,eX];omega) (by simp [splice,cZ,eX])
   have hN:=a8
   have a0:=aq
   apply aG
   refine Cb ?_
   have ae:=a8.row (dH (jl B.b (k+1)))
   have R:=c8.set (x:=.rw (ints (dH (jl B.b (k+1))))) a8.b2 oS
   have bw:=aC (x:=.rw (ints (dH (jl B.b (k+1))))) aq (show σ.length+2 ≠ ib by omega)
   obtain ⟨K2,an⟩:∃ K2,K2=K.set (σ.length+2) (.rw (ints (dH (jl B.b (k+1))))):=⟨_,rfl⟩
   refine .mk (dJ [(1,.i (sn:Nat)),(2,.p σ.length),(4,.p (σ.length+1)),(5,.p (σ.length+2)),(6,.p ib)] K2 an.symm tE ?_)
   rw [← an] at ae R bw
   clear an hput hd1 N a cl c8 av aq a8 a0 hN
   clear K
   have a0:=bw
   have hN:=ae
   have cd:((B.n - (k+1):Nat):Int) - 1=(B.n:Int) - 1 - ((k+1:Nat):Int):=oO
   apply aG
   refine Cb ?_
   exact ⟨(k+1,K2.length),⟨by dsimp only;omega,R.app _,ae.len,ae.app _,by rw [← cd];exact aO⟩,by dsimp only;omega,tE⟩
 ·have bz:¬ (B.n:Int) - 1 - k≥sn:=oO
  have a0:=hi
  refine Cb ?_
  obtain rfl:k=B.n - sn:=oO
  obtain ⟨e,a7⟩:∃ r,r=dH (jl B.b (B.n - sn)):=⟨_,rfl⟩
  rw [← a7] at hN ⊢
  have cn:e.length=401:=by rw [a7,eX]
  have a:(ints e).length=401:=by rw [cZ,cn]
  have N:=kM e
  have cb:=bC e
  have hd1:aK H (σ.length+2) 0 401=some (ints e):=aV hN.b2 a
  have hput:putCells H (σ.length+1) 0 (ints e)=some (H.set (σ.length+1) (.rw (ints e))):=fZ hN.b1 (by rw [a];simp) oS (by simp [splice,a])
  have R:=hM.set (x:=.rw (ints e)) hN.b1 oS
  have cj:(H.set (σ.length+1) (.rw (ints e)))[σ.length+1]?=some (.rw (ints e)):=aS hN.b1
  have cp:(H.set (σ.length+1) (.rw (ints e))).take σ.length=σ:=take_set hN.pre oO
  refine .mk ?_
  apply aG
  generalize ints e=rc at *
  refine Cb ?_
  refine stN (bF (size:=401) rfl rfl (by exact a) (by exact N) (by exact hput)) rfl ?_
  refine Cb ?_
  have ci:=qo (mk:=mk) cp fun x hx=>by have:=(R.2 x hx).1;omega
  exact Ti R (.cellN inferInstance rfl (aV (rP cj fun hx=>by have:=(R.2 _ hx).1;omega) a) .nil) (.plain ci cb) ⟨rfl,rfl⟩
end Go.Proofs.YtajpgeklmcjciaaGreat
namespace Go.AH.Warp
open Go Go.AH
def cIn (b:Bl) (i:Nat) (f v:Int) (G:Nat→Int):Nat→Nat→Int
 |0=>G
 |q+1=>fun x=>if x=(b.sLo i f+q+200).toNat then min (cIn b i f v G q x) (v+b.hard i*ab (b.sLo i f+q - f)) else cIn b i f v G q x
def cOut (b:Bl) (i:Nat) (R:Nat→Int):Nat→Nat→Int
 |0=>fun _=>nev
 |j+1=>if R j≥nev then cOut b i R j else cIn b i (-200+j) (R j) (cOut b i R j) (b.sN i (-200+j))
def iJ (b:Bl):Nat→Nat→Int
 |0=>fun x=>if x=200 then 0 else nev
 |i+1=>cOut b i (iJ b i) 401
theorem TU {b:Bl} {i:Nat} {R:Nat→Int} (h:∀ x<401,R x=nev):∀ j≤401,cOut b i R j=fun _=>nev
 |0,_=>rfl
 |j+1,hj=>by
  simp only [cOut]
  rw [if_pos (by rw [h j oO];exact dE _),TU h j oO]
theorem TV {b:Bl} {i:Nat} (h:∀ x<401,iJ b i x=nev):∀ k,i≤k→∀ x<401,iJ b k x=nev
 |0,hk,x,hx =>
            by
            have:i=0:=oO
            subst this;exact h x hx
 |k+1,hk,x,hx=>by
  by_cases he:i=k+1
  ·subst he;exact h x hx
  ·show cOut b k (iJ b k) 401 x=nev
   rw [TU (TV h k oO) 401 (aD _)]
theorem acI {b:Bl} {i:Nat} {f v:Int} {G:Nat→Int} (hv:0≤v) (hh:0≤b.hard i) (hG:∀ x,0≤G x∧G x≤nev):∀ q x,0≤cIn b i f v G q x∧cIn b i f v G q x≤nev
 |0,x=>hG x
 |q+1,x=>by
  have h1:=acI (b:=b) (i:=i) (f:=f) hv hh hG q x
  have h2:0≤b.hard i*ab (b.sLo i f+q - f):=er hh (Bl.BK _)
  simp only [cIn]
  split <;> omega
theorem P9 {b:Bl} {i:Nat} {R:Nat→Int} (hh:0≤b.hard i) (hR:∀ x,0≤R x):∀ j x,0≤cOut b i R j x∧cOut b i R j x≤nev
 |0,_=>by simp [cOut]
 |j+1,x=>by
  simp only [cOut]
  split
  ·exact P9 hh hR j x
  ·exact acI (hR j) hh (P9 hh hR j) _ x
theorem Qa {b:Bl} (ho:b.Ok):∀ i≤b.n,∀ x,0≤iJ b i x∧iJ b i x≤nev
 |0,_,x=>by simp only [iJ];split <;> simp
 |i+1,hi,x=>P9 (by have:=(ho i oO).1;omega) (fun x=>(Qa ho i oO x).1) 401 x
theorem row0 (b:Bl):noRow.set 200 0=dH (iJ b 0):=by
 rw [uG,KQ];rfl
theorem aeN {b:Bl} {i:Nat} {f v:Int} {G:Nat→Int} {q x0:Nat} (h:x0=(b.sLo i f+q+200).toNat) :
  (dH (cIn b i f v G q)).set x0 (min (cIn b i f v G q x0) (v+b.hard i*ab (b.sLo i f+q - f)))=dH (cIn b i f v G (q+1)):=by
 rw [KQ]
 refine qK fun x _=>?_
 simp only [cIn]
 by_cases hx:x=x0
 ·rw [if_pos hx,if_pos (hx.trans h),hx]
 ·rw [if_neg hx,if_neg fun e=>hx (e.trans h.symm)]
theorem ints_at (g:Nat→Int):Jy g 401 (ints (dH g)).toArray:=fun i hi=>by
 have:=ig (l:=dH g) (i:=i) (by rw [eX];exact hi)
 rw [vC hi] at this
 simpa using this
end Go.AH.Warp
namespace Go.Proofs.YtajpgeklmcjciaaGreat
open Go Go.AH
attribute [local irreducible] dA bP bT jL gX dQ fF bZ fB aY dY fA
open Go.AH.Heat Go.AH.Warp
theorem xQ {A B:Prop} (k:B) (h:Hide B→A:=by intro h_k_;(repeat' (first|refine sCm ?_|(refine gU ?_;first|(refine bW ?_;refine st (bD rfl (by assumption)) rfl rfl ?_)|(refine gIA ?_;refine st (nY rfl rfl (by omega) (by omega)) rfl rfl ?_)|(refine eG ?_;refine st (bH rfl rfl rfl (by first|exact tN|exact yO)) rfl rfl ?_)|(refine dZ ?_;refine stN (bF rfl rfl rfl rfl (by first|exact fQ (aD _) (cH _)|exact hput)) rfl ?_))|(refine gu ⟨by kernel_rfl,?_⟩)|refine dD (id:=1) ?_|refine dD (id:=2) ?_|refine dD (id:=6) ?_|refine dD (id:=7) ?_|refine dD (id:=8) ?_|refine dD (id:=9) ?_|refine dD (id:=17) ?_|refine aG ?_|refine jc rfl (by first|rfl|exact dW (by assumption)) ?_|refine iM rfl (by first|rfl|exact bM (by assumption)) ?_));exact h_k_.h):A:=h ⟨k⟩
theorem TW {A B:Prop} (k:B) (h:Hide B→A:=by intro h_k_;(repeat' (first|refine sCm ?_|(refine gU ?_;first|(refine pW ?_;refine st (iZ rfl) (by exact hrd) rfl ?_)|(refine bW ?_;refine st (aJ rfl (by first|exact aF hN.b0|exact aF a0|exact aF a1|assumption)) (by exact hrd) rfl ?_)|(refine yD ?_;refine st (kK rfl rfl (by omega) (by omega)) (by exact hrd) rfl ?_)|(refine nK ?_;refine st (fE rfl rfl rfl) (by exact hrd) rfl ?_)|(refine gIA ?_;refine st (nY rfl rfl (by omega) (by omega)) (by exact hrd) rfl ?_)|(refine eG ?_;refine st (bH rfl rfl rfl (by exact hf1)) (by exact hrd) rfl ?_)|(refine Jh ?_;refine st (lU rfl) (by exact hrd) rfl ?_)|(refine dZ ?_;refine stN (bF rfl rfl rfl rfl (by first|exact fQ (aD _) (cH _)|exact hput)) (by exact hrd) ?_))|(refine fU ?_;first|refine gY ?_;refine frA (aJ rfl (by exact hq8 _)) rfl ?_ rfl|refine fIA ?_;refine frA (nY rfl rfl (by omega) (by omega)) rfl ?_ hclr|refine gY ?_;refine frA (aJ rfl (by exact hq7 _)) rfl ?_ rfl|refine fIA ?_;refine frA (nY rfl rfl (by omega) (by omega)) rfl ?_ hcl5|refine gY ?_;refine frA (aJ rfl (by exact hq5 _)) rfl ?_ rfl|refine gY ?_;refine frA (aJ rfl (by exact hq2 _)) rfl ?_ hcln|refine gY ?_;refine frA (aJ rfl (by exact hq6 _)) rfl ?_ rfl|(refine jM ?_;refine fr (bV rfl) (by rfl) rfl ?_)|(refine fAdd ?_;refine fr (kK rfl rfl (by omega) (by omega)) (by rfl) rfl ?_)|(refine fSub ?_;refine fr (jB rfl rfl (by omega) (by omega)) (by rfl) rfl ?_)|(refine UO ?_;refine fr (sG rfl rfl) (by rfl) rfl ?_)|(refine qR ?_;refine fr (bH rfl rfl rfl (by exact hfa _)) (by rfl) rfl ?_))|(refine gu ⟨by kernel_rfl,?_⟩)|refine aG ?_|refine jc rfl (by first|rfl|exact dW (by assumption)) ?_|refine iM rfl (by first|rfl|exact bM (by assumption)) ?_));exact h_k_.h):A:=h ⟨k⟩
theorem Qb {σ:Heap} {B:Bld} {nb sb cS tb cT:Nat} (hv:yg B) (hB:lK σ B nb sb cS tb cT) {sn:Nat} (hst:sn≤B.n) :
  Ev Tryz.prog 111 [.p nb,.i (sn:Nat)] σ (.agg (ints (dH (iJ B.b sn))).toArray) σ:=by
 refine aI σ.length 55 Tryz.func111 rfl rfl rfl rfl rfl ?_
 have c2:=hv.n
 have c4:nb < σ.length:=aQ hB.nb
 refine xQ ?_
 have hf1:=tN (σ:=σ++[aB.rw [.p nb]]++[aB.rw (List.replicate 401 (.i 0))])
 refine .mk ?_
 apply aG
 refine xQ ?_
 obtain ⟨H0,ac⟩:∃ H0,H0=σ++[aB.rw [.p nb]]++[aB.rw (List.replicate 401 (.i 0))]++[aB.rw (ints noRow)]:=⟨_,rfl⟩
 have a:(ints noRow).length=401:=by rw [cZ,uG,eX]
 have an:splice (List.replicate 401 (Value.i 0)) 0 (ints noRow)=ints noRow:=by simp [splice,a]
 refine .mk (dJ [(1,.i (sn:Nat)),(2,.p σ.length),(4,.p (σ.length+1)),(5,.p (σ.length+2))] H0 (by rw [ac,← an];rfl) ⟨rfl,rfl,(by (refine congrArg (fun n=>some (Value.p n)) ?_;simp;try omega)),(by (refine congrArg (fun n=>some (Value.p n)) ?_;simp;try omega)),trivial⟩ ?_)
 have bg:TG σ H0 nb noRow:=⟨by rw [ac];simp,by rw [ac];exact aA (aA aO),by rw [ac];exact aA (bK oS),by rw [ac];exact bK oS⟩
 have hput:putCells H0 (σ.length+2) 200 [.i 0]=some (H0.set (σ.length+2) (.rw (ints (dH (iJ B.b 0))))):=fZ bg.b2 (by rw [a];simp) (by rw [a];omega) (by rw [BL (by rw [uG,eX];omega),row0])
 clear an a ac hf1
 have cq:=bg.row (dH (iJ B.b 0))
 apply aG
 refine xQ ?_
 refine dV (ι:=Nat) (fun i=>[(2,.p σ.length),(4,.p (σ.length+1)),(5,.p (σ.length+2)),(12,.i (sn:Nat)),(13,.i (i:Nat))])
  (fun i mk H=>i≤sn∧Mks (σ.length+3) mk H∧TG σ H nb (dH (iJ B.b i))) (fun i=>sn - i) 0 tE ⟨bN _,.nil,cq⟩ ?_
 clear cq hput bg H0
 rintro i mk H ⟨his,hM,hN⟩
 have c9:=hN.len
 by_cases b4:i<sn
 ·have cv:(i:Int)<(sn:Nat):=oO
  refine xQ ?_
  obtain ⟨H1,am⟩:∃ H1,H1=H++[aB.rw [.i (i:Nat)]]:=⟨_,rfl⟩
  obtain ⟨ib,a7⟩:∃ ib,ib=H.length:=⟨_,rfl⟩
  refine .mk (dJ [(2,.p σ.length),(4,.p (σ.length+1)),(5,.p (σ.length+2)),(12,.i (sn:Nat)),(6,.p ib),(13,.i (i:Nat))] H1 (by rw [am];rfl) ⟨rfl,rfl,rfl,rfl,by rw [a7];rfl,rfl,trivial⟩ ?_)
  have C:TG σ H1 nb (dH (iJ B.b i)):=by rw [am];exact hN.app _
  have c5:Mks (σ.length+3) mk H1:=by rw [am];exact hM.app _
  have bq:H1[ib]?=some (.rw [.i (i:Nat)]):=by rw [am,a7];exact aO
  have d5:σ.length+3≤ib:=oO
  clear am a7 c9 hN hM H
  have c9:=C.len
  have hfb:=fun Y=>tN (σ:=H1++Y)
  obtain ⟨r9,aa⟩:∃ r9,r9=ints (dH (iJ B.b i)):=⟨_,rfl⟩
  have bz:∀ Y,aK (H1++Y) (σ.length+2) 0 401=some r9:=fun Y=>by rw [aa];exact aV (C.app Y).b2 (by rw [cZ,eX])
  have a6:closed H1.length (.agg r9.toArray)=true:=by
   have:=(aX (n:=H1.length) (bC (dH (iJ B.b i)))).1
   rw [← aa] at this
   simpa [closed,jq] using this
  have a9:closed H1.length (.agg (ints noRow).toArray)=true:=by
   have:=(aX (n:=H1.length) (bC noRow)).1
   simpa [closed,jq] using this
  have bw:∀ Y:Heap,∀ {rd:Option Nat} {ty:TypeId} {e:Env} {x y:Operand},aP e x=some (.agg r9.toArray)→aP e y=some (.agg (ints noRow).toArray)→bZ Tryz.prog rd (.binOp .eql 203 x y 203) ty e (H1++Y) (.bool (decide (∀ x ∈ List.range 401,iJ B.b i x=nev))) (H1++Y) :=
   fun Y _ _ _ _ _ hx hy=>YP rfl hx hy (by rw [aa];exact bC _) (bC _) (by rw [aa];exact ints_at _) (by rw [uG];exact ints_at _)
  refine dI oK rfl ?_
  refine fU ?_
  refine gY ?_
  refine frA (bD rfl (by exact bz _)) rfl ?_ a6
  refine fU ?_
  refine frA (bH rfl rfl rfl (by exact hfb _)) rfl ?_ a9
  refine fU ?_
  refine frA (bw _ rfl rfl) rfl ?_ rfl
  by_cases ag:∀ x ∈ List.range 401,iJ B.b i x=nev
  ·rw [show dH (iJ B.b sn)=dH (iJ B.b i) from qK fun x hx=>by rw [TV (fun y hy=>ag y (List.mem_range.2 hy)) sn oO x hx,ag x (List.mem_range.2 hx)]]
   refine xQ ?_
   refine .mk (dJ [(2,.p σ.length),(4,.p (σ.length+1)),(5,.p (σ.length+2)),(12,.i (sn:Nat))] H1 (bL H1) tE ?_)
   clear bw a9 a6 bz aa hfb
   obtain ⟨c,F⟩:∃ r,r=dH (iJ B.b i):=⟨_,rfl⟩
   rw [← F] at C ⊢
   have c6:c.length=401:=by rw [F,eX]
   have a:(ints c).length=401:=by rw [cZ,c6]
   have T:=kM c
   have bd:=bC c
   have hd1:aK H1 (σ.length+2) 0 401=some (ints c):=aV C.b2 a
   have hput:putCells H1 (σ.length+1) 0 (ints c)=some (H1.set (σ.length+1) (.rw (ints c))):=fZ C.b1 (by rw [a];simp) oS (by simp [splice,a])
   have R:=c5.set (x:=.rw (ints c)) C.b1 oS
   have bn:(H1.set (σ.length+1) (.rw (ints c)))[σ.length+1]?=some (.rw (ints c)):=aS C.b1
   have c7:(H1.set (σ.length+1) (.rw (ints c))).take σ.length=σ:=take_set C.pre oO
   apply aG
   generalize ints c=rc at *
   refine xQ ?_
   refine stN (bF (size:=401) rfl rfl (by exact a) (by exact T) (by exact hput)) rfl ?_
   refine xQ ?_
   have bj:=qo (mk:=mk) c7 fun x hx=>by have:=(R.2 x hx).1;omega
   exact Ti R (.cellN inferInstance rfl (aV (rP bn fun hx=>by have:=(R.2 _ hx).1;omega) a) .nil) (.plain bj bd) ⟨rfl,rfl⟩
  ·refine xQ ?_
   refine .mk (dJ [(2,.p σ.length),(4,.p (σ.length+1)),(5,.p (σ.length+2)),(12,.i (sn:Nat)),(6,.p ib),(13,.i (i:Nat))] H1 (bL H1) tE ?_)
   clear bw a9 a6 bz aa hfb
   have a:(ints noRow).length=401:=by rw [cZ,uG,eX]
   have an:splice (List.replicate 401 (Value.i 0)) 0 (ints noRow)=ints (dH (cOut B.b i (iJ B.b i) 0)):=by
    rw [show dH (cOut B.b i (iJ B.b i) 0)=noRow from uG.symm];simp [splice,a]
   have hf1:=tN (σ:=H1)
   apply aG
   refine xQ ?_
   clear hf1
   obtain ⟨H2,W⟩:∃ H2,H2=H1++[aB.rw (ints (dH (cOut B.b i (iJ B.b i) 0)))]:=⟨_,rfl⟩
   refine .mk (dJ [(2,.p σ.length),(4,.p (σ.length+1)),(5,.p (σ.length+2)),(12,.i (sn:Nat)),(6,.p ib),(7,.p H1.length),(13,.i (i:Nat))] H2 (by rw [W,← an];rfl) tE ?_)
   have hf1:=yO (σ:=H2) (lo:=-200) (hi:=200)
   apply aG
   refine xQ ?_
   clear hf1 an a
   obtain ⟨Hc,N⟩:∃ Hc,Hc=H2++[aB.rw [.i (-200)]]++[aB.rw [.i 200]]:=⟨_,rfl⟩
   obtain ⟨rb,ay⟩:∃ rb,rb=H1.length:=⟨_,rfl⟩
   have I:H2.length=rb+1:=by rw [W,ay];simp
   have M:Hc.length=rb+3:=by rw [N];simp [I]
   have bh:TG σ Hc nb (dH (iJ B.b i)):=by rw [N,W];exact ((C.app _).app _).app _
   have aq:Mks (σ.length+3) mk Hc:=by rw [N,W];exact ((c5.app _).app _).app _
   have bo:Hc[ib]?=some (.rw [.i (i:Nat)]):=by rw [N,W];exact aA (aA (aA bq))
   have bk:Hc[rb]?=some (.rw (ints (dH (cOut B.b i (iJ B.b i) 0)))):=by rw [N,W,ay];exact aA (aA aO)
   have bb:Hc[rb+1]?=some (.rw [.i (-200)]):=by rw [N];exact aA (bK I)
   have br:Hc[rb+2]?=some (.rw [.i 200]):=by rw [N];exact bK (by simp [I])
   have bu:ib<rb:=by have:=aQ bq;omega
   have b3:σ.length+3≤rb:=by have:=C.len;omega
   refine dJ [(2,.p σ.length),(4,.p (σ.length+1)),(5,.p (σ.length+2)),(12,.i (sn:Nat)),(6,.p ib),(7,.p rb),(13,.i (i:Nat)),(21,.func (.func 278) #[] #[.p (rb+1),.p (rb+2)])] Hc N.symm ⟨rfl,rfl,rfl,rfl,rfl,by rw [ay];rfl,rfl,by rw [show rb+2=rb+1+1 from rfl,← I];rfl,trivial⟩ ?_
   clear N W I ay C c5 bq c9 H2 H1
   refine kU (p:=[]) (q:=[.p (rb+1),.p (rb+2)]) rfl fun L hL=>?_
   obtain ⟨A,z⟩:∃ A,A=Hc++[aB.dfr,L]:=⟨_,rfl⟩
   have cg:A.length=rb+5:=by rw [z];simp [M]
   have ax:TG σ A nb (dH (iJ B.b i)):=by rw [z];exact bh.app _
   have bt:Mks (σ.length+3) mk A:=by rw [z];exact aq.app _
   have az:A[ib]?=some (.rw [.i (i:Nat)]):=by rw [z];exact aA bo
   have ad:A[rb]?=some (.rw (ints (dH (cOut B.b i (iJ B.b i) 0)))):=by rw [z];exact aA bk
   have c8:A[rb+1]?=some (.rw [.i (-200)]):=by rw [z];exact aA bb
   have c3:A[rb+2]?=some (.rw [.i 200]):=by rw [z];exact aA br
   have ba:A[rb+3]?=some .dfr:=by rw [← M,z,bE (aD _)];simp
   have ae:A[rb+4]?=some L:=by rw [show rb+4=Hc.length+1 by omega,z,bE oO];simp
   rw [← z,M]
   refine zF (S:=fun j=>A.set rb (.rw (ints (dH (cOut B.b i (iJ B.b i) j))))) (l:=rb+4) (lb:=rb+1) (hb:=rb+2) (lo:=-200) (hi:=200) (n:=401) oO oO oO rfl (set_self ad) (fun j=>by simp) (fun j=>aC c8 oO) (fun j=>aC c3 oO)
    (fun j=>(aC ae oO).trans (congrArg some hL)) (fun h j=>jI (o:=.rw (ints _)) (aX (bC _)) h) rfl ?_ ?_
   ·intro j hj X QB av
    obtain ⟨f,hf⟩:∃ f,f=-200+(j:Int):=⟨_,rfl⟩
    obtain ⟨HX,U⟩:∃ HX,HX=A.set rb (.rw (ints (dH (cOut B.b i (iJ B.b i) j))))++X:=⟨_,rfl⟩
    have ch:TG σ HX nb (dH (iJ B.b i)):=by rw [U];exact (ax.set b3 _).app X
    have cf:HX[ib]?=some (.rw [.i (i:Nat)]):=by rw [U];exact aA (aC az oO)
    have cj:HX[rb]?=some (.rw (ints (dH (cOut B.b i (iJ B.b i) j)))):=by rw [U];exact aA (aS ad)
    have ar:HX[rb+4]?=some L:=by rw [U];exact aA (aC ae oO)
    have hrd:mG (some (rb+4)) (A.length+X.length)=true:=(show Nat.blt _ _=true from Nat.blt_eq.mpr oO)
    have bx:HX.length=A.length+X.length:=by rw [U];simp
    rw [← hf,← U,← bx]
    rw [← bx] at hrd
    refine TW ?_
    refine xY (aA ar) hL fun O hO=>?_
    obtain ⟨HB,J⟩:∃ HB,HB=(HX++[aB.rw [.i f]]).set (rb+4) O:=⟨_,rfl⟩
    have d2:=aQ ar
    have al:TG σ HB nb (dH (iJ B.b i)):=by rw [J];exact (ch.app _).set oO _
    have c0:HB[ib]?=some (.rw [.i (i:Nat)]):=by rw [J];exact aC (aA cf) oO
    have cr:HB[rb]?=some (.rw (ints (dH (cOut B.b i (iJ B.b i) j)))):=by rw [J];exact aC (aA cj) oO
    have b9:HB[HX.length]?=some (.rw [.i f]):=by rw [J];exact aC aO oO
    have cm:HB[rb+4]?=some O:=by rw [J];exact aS (aA ar)
    have bs:HB.length=HX.length+1:=by rw [J];simp
    refine dJ [(2,.p σ.length),(5,.p (σ.length+2)),(6,.p ib),(7,.p rb),(8,.p HX.length)] HB (by rw [J];rfl) tE ?_
    have ao:i<B.n:=oO
    obtain ⟨v,a8⟩:∃ v,v=iJ B.b i j:=⟨_,rfl⟩
    have a5:=Qa hv.ok i (by show i≤B.n;omega) j
    rw [← a8] at a5
    have hvin2:0≤v∧v≤1099511627776:=a5
    have a0:=c0
    have a1:=b9
    have hN:=al
    have bv:aH HB (σ.length+2) (0+(f+200).toNat*1)=some (.i v):=by
     rw [aF al.b2,ig (by rw [eX];omega),vC oO,a8,show 0+(f+200).toNat*1=j by omega]
    by_cases c1:v≥1099511627776
    ·refine TW ?_
     have hcs:cOut B.b i (iJ B.b i) (j+1)=cOut B.b i (iJ B.b i) j:=by simp only [cOut];rw [if_pos (by rw [← a8];exact c1)]
     rw [hcs] at av
     have d3:HB=(A.set rb (.rw (ints (dH (cOut B.b i (iJ B.b i) j))))).set (rb+4) O++X++[aB.rw [.i f]]:=by
      rw [J,U,cI _ _ (by simp;omega),cI _ _ (by simp;omega)]
     rw [d3,hO]
     exact av _ _ _
    ·have hcs:cOut B.b i (iJ B.b i) (j+1)=cIn B.b i f v (cOut B.b i (iJ B.b i) j) (B.b.sN i f):=by simp only [cOut];rw [if_neg (by rw [← a8];exact c1),← hf,← a8]
     have hf1:=KP (σ:=HB) (i:=i) (f:=f) hv (hB.take al.pre) ao oO
     refine TW ?_
     clear hf1 a0 a1 hN
     have b4:=ao
     obtain ⟨HD,E⟩:∃ HD,HD=HB++[aB.rw [.i (B.b.sLo i f)]]++[aB.rw [.i (min (B.b.hi i) (f+B.most))]]:=⟨_,rfl⟩
     have D:HD.length=HB.length+2:=by rw [E];simp
     obtain ⟨fb,hfb⟩:∃ fb,fb=HX.length:=⟨_,rfl⟩
     have cx:=hv.tube b4
     have d1:=hv.most
     have d0:-200≤B.b.sLo i f∧B.b.sLo i f≤400:=by unfold Bl.sLo;show -200≤max (B.b.lo i) (f - B.most)∧max (B.b.lo i) (f - B.most)≤400;omega
     rw [← E]
     refine EF (p:=[]) (q:=[.p HB.length,.p (HB.length+1)]) (L0:=O) hrd (by rw [E];exact aA (aA cm)) (by rw [hO];rfl) rfl fun L2 au=>?_
     obtain ⟨A2,t⟩:∃ A2,A2=HD++[L2]:=⟨_,rfl⟩
     have b8:A2.length=HB.length+3:=by rw [t];simp [D]
     have ah:TG σ A2 nb (dH (iJ B.b i)):=by rw [t,E];exact ((al.app _).app _).app _
     have aj:A2[ib]?=some (.rw [.i (i:Nat)]):=by rw [t,E];exact aA (aA (aA c0))
     have Z:A2[rb]?=some (.rw (ints (dH (cOut B.b i (iJ B.b i) j)))):=by rw [t,E];exact aA (aA (aA cr))
     have ak:A2[fb]?=some (.rw [.i f]):=by rw [t,E,hfb];exact aA (aA (aA b9))
     have ap:A2[HB.length]?=some (.rw [.i (B.b.sLo i f)]):=by rw [t,E];exact aA (aA aO)
     have ai:A2[HB.length+1]?=some (.rw [.i (min (B.b.hi i) (f+B.most))]):=by rw [t,E];exact aA (bK oS)
     have P:A2[HB.length+2]?=some L2:=by rw [t];exact bK D
     rw [← t,D]
     refine zF (S:=fun q=>A2.set rb (.rw (ints (dH (cIn B.b i f v (cOut B.b i (iJ B.b i) j) q))))) (l:=HB.length+2) (lb:=HB.length) (hb:=HB.length+1) (lo:=B.b.sLo i f) (hi:=min (B.b.hi i) (f+B.most)) (n:=B.b.sN i f) oO oO oO rfl (set_self Z) (fun j=>by simp) (fun j=>aC ap oO) (fun j=>aC ai oO)
      (fun j=>(aC P oO).trans (congrArg some au)) (fun h j=>jI (o:=.rw (ints _)) (aX (bC _)) h) rfl ?_ ?_
     ·intro q hq X2 QB2 a3
      have hg:=(B.b.KO (i:=i) (f:=f) (g:=B.b.sLo i f+q)).1 ⟨oO,oO⟩
      obtain ⟨g,aw⟩:∃ g,g=B.b.sLo i f+q:=⟨_,rfl⟩
      rw [← aw] at hg ⊢
      have hg2:-200≤g∧g≤200:=oO
      obtain ⟨m,hm⟩:∃ m,m=cIn B.b i f v (cOut B.b i (iJ B.b i) j) q (g+200).toNat:=⟨_,rfl⟩
      have u:=aeN (b:=B.b) (i:=i) (f:=f) (v:=v) (G:=cOut B.b i (iJ B.b i) j) (q:=q) (x0:=(g+200).toNat) (by rw [aw])
      rw [← hm,← aw] at u
      generalize hRq:cIn B.b i f v (cOut B.b i (iJ B.b i) j) q=Rq at hm u
      generalize hRq1:dH (cIn B.b i f v (cOut B.b i (iJ B.b i) j) (q+1))=Rn at u a3
      obtain ⟨HY,V⟩:∃ HY,HY=A2.set rb (.rw (ints (dH Rq)))++X2:=⟨_,rfl⟩
      have cn:TG σ HY nb (dH (iJ B.b i)):=by rw [V];exact (ah.set b3 _).app X2
      have cc:HY[ib]?=some (.rw [.i (i:Nat)]):=by rw [V];exact aA (aC aj oO)
      have cp:HY[rb]?=some (.rw (ints (dH Rq))):=by rw [V];exact aA (aS Z)
      have ca:HY[fb]?=some (.rw [.i f]):=by rw [V];exact aA (aC ak oO)
      have ck:HY[HB.length+2]?=some L2:=by rw [V];exact aA (aC P oO)
      have hrd:mG (some (HB.length+2)) (A2.length+X2.length)=true:=(show Nat.blt _ _=true from Nat.blt_eq.mpr oO)
      rw [← V]
      refine TW ?_
      refine xY ck au fun O2 cl=>?_
      obtain ⟨HZ,a4⟩:∃ HZ,HZ=HY.set (HB.length+2) O2:=⟨_,rfl⟩
      have af:TG σ HZ nb (dH (iJ B.b i)):=by rw [a4];exact cn.set oO _
      have bf:HZ[ib]?=some (.rw [.i (i:Nat)]):=by rw [a4];exact aC cc oO
      have b6:HZ[rb]?=some (.rw (ints (dH Rq))):=by rw [a4];exact aC cp oO
      have bl:HZ[fb]?=some (.rw [.i f]):=by rw [a4];exact aC ca oO
      rw [← a4]
      have bc:=af.len
      have cd:rb<HZ.length:=aQ b6
      have cy:ib<HZ.length:=aQ bf
      have cw:fb<HZ.length:=aQ bl
      have cb:σ.length+2<HZ.length:=oO
      have cu:nb<HZ.length:=oO
      have hclr:∀ {o:Nat},closed HZ.length (.pointer (some ⟨rb,o,none⟩))=true:=fun {o}=>Nat.blt_eq.mpr cd
      have hcl5:∀ {o:Nat},closed HZ.length (.pointer (some ⟨σ.length+2,o,none⟩))=true:=fun {o}=>Nat.blt_eq.mpr cb
      have hcln:closed HZ.length (.p nb)=true:=Nat.blt_eq.mpr cu
      have hq2:∀ Y,aH (HZ++Y) σ.length 0=some (.p nb):=fun Y=>aF (af.app Y).b0
      have hq6:∀ Y,aH (HZ++Y) ib 0=some (.i (i:Nat)):=fun Y=>aF (aA bf)
      have hq8:∀ Y,aH (HZ++Y) fb 0=some (.i f):=fun Y=>aF (aA bl)
      have bp:0+(g+200).toNat*1=(g+200).toNat:=oO
      have be:(g+200).toNat<401:=oO
      have hq7:∀ Y,aH (HZ++Y) rb (0+(g+200).toNat*1)=some (.i m):=fun Y=>by rw [bp,aF (aA b6),ig (by rw [eX];exact be),vC be,← hm]
      have hq5:∀ Y,aH (HZ++Y) (σ.length+2) (0+(f+200).toNat*1)=some (.i v):=fun Y=>by
       rw [aF (af.app Y).b2,ig (by rw [eX];omega),vC oO,a8,show 0+(f+200).toNat*1=j by omega]
      have hfa:=fun Y=>P8 (σ:=HZ++Y) (i:=i) (d:=g - f) hv ((hB.take af.pre).app) b4 oO
      have d4:0≤B.hard i*ab (g - f)∧B.hard i*ab (g - f)≤9000:=by
       have h1:=hv.st i b4
       have h0:0≤ab (g - f)∧ab (g - f)≤1000:=by unfold ab;omega
       refine ⟨er oO h0.1,?_⟩
       exact Int.le_trans (fo (by omega:B.hard i≤9) h0.2 h0.1 oO) oO
      have w:(dH Rq).set (g+200).toNat (min m (v+B.hard i*ab (g - f)))=Rn:=u
      rw [← hfb]
      generalize hcoD:B.hard i*ab (g - f)=co at d4 hfa w
      have hfr:-200≤f∧f≤200:=oO
      have hput:putCells (HZ++gZ (fun _=>true) []) rb (0+(g+200).toNat*1) [.i (min m (v+co))]=some (HZ.set rb (.rw (ints Rn))):=by
       rw [show HZ++gZ (fun _=>true) []=HZ from bL HZ,bp]
       exact fZ b6 (by rw [cZ,eX];simp;omega) (by rw [cZ,eX];omega) (by rw [BL (by rw [eX];exact be),w])
      refine tY (bP.mono (Q:=fun ex _ _ s=>ex=Exit.normal∧s=HZ.set rb (.rw (ints Rn))) ?_ ?_)
      ·clear a3 hm aj Z ak ap ai P ah cn cc cp ca ck af bf b6 bl bc cd cy cw cb cu bp hcoD a4 V aw hg b8 t d0 d1 cx hfb D E c0 bs cm b9 cr al d2 J bx ar cj cf ch U hf av ae ba c3 c8 ad az bt ax cg z b3 bu br bb bk bo aq bh M d5 c4 c2 hst hB cl au hO hL hq u w hRq hRq1 hcs c1 bv a8 a5
       refine dI oK hrd ?_
       refine TW ?_
       exact ⟨rfl,rfl⟩
      ·rintro ex e' mk' s ⟨rfl,rfl⟩
       rw [a4,V,acH oO oO oO]
       refine wX ?_
       rw [cl]
       exact a3 _ _ _
     ·refine ⟨.ready,none,_,_,_,_,_,(aC P oO).trans (congrArg some au),by simp,?_⟩
      show (dQ 4 (dQ 3 QB)) _ _ _ _
      refine wX ?_
      refine wX ?_
      rw [← hcs,← D,t,E,J,U,acG oO oO oO,hO]
      exact av _ _ _
   ·refine ⟨.ready,none,_,_,_,_,_,(aC ae oO).trans (congrArg some hL),by simp,?_⟩
    show (dQ 2 _) _ _ _ _
    refine wX ?_
    refine uX ?_
    rw [show dH (cOut B.b i (iJ B.b i) 401)=dH (iJ B.b (i+1)) from rfl]
    obtain ⟨K,hK⟩:∃ K,K=(A.set rb (.rw (ints (dH (iJ B.b (i+1)))))).set (rb+4) .dead:=⟨_,rfl⟩
    have b5:TG σ K nb (dH (iJ B.b i)):=by rw [hK];exact (ax.set b3 _).set oO _
    have ce:K[ib]?=some (.rw [.i (i:Nat)]):=by rw [hK];exact aC (aC az oO) oO
    have ci:K[rb]?=some (.rw (ints (dH (iJ B.b (i+1))))):=by rw [hK];exact aC (aS ad) oO
    have d6:Mks (σ.length+3) ((rb+3)::mk) K:=by
     rw [hK]
     refine Mks.cons ((bt.set ad oS).set (aC ae oO) (by rw [hL];simp)) (aq.new oO) oO (aC (aC ba oO) oO)
    rw [← hK]
    clear hK ad az bt ax ae ba c3 c8 cg z hL br bb bk bo aq bh
    have hKr:rb<K.length:=aQ ci
    have a:(ints (dH (iJ B.b (i+1)))).length=401:=by rw [cZ,eX]
    have T:=kM (dH (iJ B.b (i+1)))
    have hd1:aK K rb 0 401=some (ints (dH (iJ B.b (i+1)))):=aV ci a
    have hput:putCells K (σ.length+2) 0 (ints (dH (iJ B.b (i+1))))=some (K.set (σ.length+2) (.rw (ints (dH (iJ B.b (i+1)))))):=fZ b5.b2 (by rw [a,cZ,eX];omega) (by rw [cZ,eX];omega) (by simp [splice,cZ,eX])
    have hN:=b5
    have a0:=ce
    apply aG
    refine xQ ?_
    have cz:=b5.row (dH (iJ B.b (i+1)))
    have R:=d6.set (x:=.rw (ints (dH (iJ B.b (i+1))))) b5.b2 oS
    have hi2:=aC (x:=.rw (ints (dH (iJ B.b (i+1))))) ce (show σ.length+2 ≠ ib by omega)
    exact ⟨i+1,⟨oO,R,cz⟩,oO,tE⟩
 ·have cv:¬ (i:Int)<(sn:Nat):=oO
  refine xQ ?_
  obtain rfl:i=sn:=oO
  obtain ⟨c,F⟩:∃ r,r=dH (iJ B.b i):=⟨_,rfl⟩
  rw [← F] at hN ⊢
  have c6:c.length=401:=by rw [F,eX]
  have a:(ints c).length=401:=by rw [cZ,c6]
  have T:=kM c
  have bd:=bC c
  have hd1:aK H (σ.length+2) 0 401=some (ints c):=aV hN.b2 a
  have hput:putCells H (σ.length+1) 0 (ints c)=some (H.set (σ.length+1) (.rw (ints c))):=fZ hN.b1 (by rw [a];simp) oS (by simp [splice,a])
  have R:=hM.set (x:=.rw (ints c)) hN.b1 oS
  have bn:(H.set (σ.length+1) (.rw (ints c)))[σ.length+1]?=some (.rw (ints c)):=aS hN.b1
  have c7:(H.set (σ.length+1) (.rw (ints c))).take σ.length=σ:=take_set hN.pre oO
  refine .mk ?_
  apply aG
  generalize ints c=rc at *
  refine xQ ?_
  refine stN (bF (size:=401) rfl rfl (by exact a) (by exact T) (by exact hput)) rfl ?_
  refine xQ ?_
  have bj:=qo (mk:=mk) c7 fun x hx=>by have:=(R.2 x hx).1;omega
  exact Ti R (.cellN inferInstance rfl (aV (rP bn fun hx=>by have:=(R.2 _ hx).1;omega) a) .nil) (.plain bj bd) ⟨rfl,rfl⟩
end Go.Proofs.YtajpgeklmcjciaaGreat
namespace Go.AH.Warp
open Go Go.AH
theorem acJ {b:Bl} {i:Nat} {f v:Int} {G:Nat→Int} (hs:-200≤b.sLo i f):∀ (q:Nat) (x:Nat),
  cIn b i f v G q x=if b.sLo i f≤(x:Int) - 200∧(x:Int) - 200<b.sLo i f+q then min (G x) (v+b.hard i*ab ((x:Int) - 200 - f)) else G x
 |0,x=>by rw [if_neg oO];rfl
 |q+1,x=>by
  simp only [cIn]
  rw [acJ hs q x]
  by_cases h:x=(b.sLo i f+q+200).toNat
  ·rw [if_pos h,if_neg oO,if_pos oO,show (x:Int) - 200=b.sLo i f+q by omega]
  ·rw [if_neg h]
   by_cases h2:b.sLo i f≤(x:Int) - 200∧(x:Int) - 200<b.sLo i f+q
   ·rw [if_pos h2,if_pos oO]
   ·rw [if_neg h2,if_neg oO]
def Bl.Leads (b:Bl) (i:Nat) (f g:Int):Prop:=b.lo i≤g∧g≤b.hi i∧-b.most≤g - f∧g - f≤b.most
theorem NZ {b:Bl} {i:Nat} {R:Nat→Int} (hlo:-200≤b.lo i) (hh:0≤b.hard i) (hR:∀ x,0≤R x∧R x≤nev):∀ (j:Nat) (x:Nat),
  cOut b i R j x≤nev∧(∀ f<j,b.Leads i ((f:Int) - 200) ((x:Int) - 200)→cOut b i R j x≤R f+b.hard i*ab ((x:Int) - f)) ∧
  (cOut b i R j x<nev→∃ f<j,b.Leads i ((f:Int) - 200) ((x:Int) - 200)∧cOut b i R j x=R f+b.hard i*ab ((x:Int) - f))
 |0,x=>⟨dE _,fun f h=>oO,fun h=>absurd h (by simp [cOut])⟩
 |j+1,x=>by
  obtain ⟨h1,h2,h3⟩:=NZ hlo hh hR j x
  simp only [cOut]
  by_cases hn:R j≥nev
  ·rw [if_pos hn]
   refine ⟨h1,fun f hf hl=>?_,fun n=>?_⟩
   ·by_cases l:f=j
    ·subst l
     have:0≤b.hard i*ab ((x:Int) - f):=er hh (Bl.BK _)
     omega
    ·exact h2 f oO hl
   ·obtain ⟨f,a,c⟩:=h3 n
    exact ⟨f,oO,c⟩
  ·rw [if_neg hn]
   have hs:-200≤b.sLo i (-200+(j:Int)):=by unfold Bl.sLo;omega
   rw [acJ hs]
   have e:=b.KO (i:=i) (f:=-200+(j:Int)) (g:=(x:Int) - 200)
   have e2:(x:Int) - 200 - (-200+(j:Int))=(x:Int) - j:=oO
   rw [e2]
   by_cases m:b.sLo i (-200+(j:Int))≤(x:Int) - 200∧(x:Int) - 200<b.sLo i (-200+(j:Int))+b.sN i (-200+(j:Int))
   ·rw [if_pos m]
    have hl:=e.1 m
    refine ⟨oO,fun f hf o=>?_,fun n=>?_⟩
    ·by_cases l:f=j
     ·subst l;omega
     ·have:=h2 f oO o;omega
    ·by_cases hc:cOut b i R j x≤R j+b.hard i*ab ((x:Int) - j)
     ·obtain ⟨f,a,c,d⟩:=h3 oO
      exact ⟨f,oO,c,oO⟩
     ·exact ⟨j,oO,⟨hl.1,hl.2.1,oO,oO⟩,oO⟩
   ·rw [if_neg m]
    refine ⟨h1,fun f hf hl=>?_,fun n=>?_⟩
    ·by_cases l:f=j
     ·subst l
      exact absurd (e.2 ⟨hl.1,hl.2.1,by have:=hl.2.2.1;omega,by have:=hl.2.2.2;omega⟩) m
     ·exact h2 f oO hl
    ·obtain ⟨f,a,c⟩:=h3 n
     exact ⟨f,oO,c⟩
def Bl.ct (b:Bl):Nat→Int→Int
 |0,g=>if g=0 then 0 else nev
 |i+1,g=>if b.lo i≤g∧g≤b.hi i then pO (fun f=>b.ct i f+b.hard i*ab (g - f)) (max (-200) (g - b.most)) (min 200 (g+b.most)+1 - max (-200) (g - b.most)).toNat else nev
theorem Qc {b:Bl} (ho:b.Ok) (hlo:∀ i<b.n,-200≤b.lo i):∀ i≤b.n,∀ x<401,iJ b i x=b.ct i ((x:Int) - 200)
 |0,_,x,hx=>by
  simp only [iJ,Bl.ct]
  by_cases h:x=200
  ·rw [if_pos h,if_pos oO]
  ·rw [if_neg h,if_neg oO]
 |i+1,hi,x,hx=>by
  have ih:=Qc ho hlo i oO
  have hR:=Qa ho i oO
  obtain ⟨h1,h2,h3⟩:=NZ (R:=iJ b i) (hlo i oO) (by have:=(ho i oO).1;omega) hR 401 x
  show cOut b i (iJ b i) 401 x=_
  simp only [Bl.ct]
  by_cases ht:b.lo i≤(x:Int) - 200∧(x:Int) - 200≤b.hi i
  ·rw [if_pos ht]
   refine Int.le_antisymm (KN h1 fun f f1 f2=>?_) ?_
   ·have:=h2 (f+200).toNat oO ⟨ht.1,ht.2,oO,oO⟩
    rw [ih _ oO] at this
    rw [show (x:Int) - 200 - f=(x:Int) - ((f+200).toNat:Nat) by omega]
    rwa [show (((f+200).toNat:Nat):Int) - 200=f by omega] at this
   ·by_cases a:cOut b i (iJ b i) 401 x<nev
    ·obtain ⟨f,f1,f2,f3⟩:=h3 a
     have f4:=f2.2.2
     rw [f3,ih f f1]
     have:=KL (F:=fun f=>b.ct i f+b.hard i*ab ((x:Int) - 200 - f)) (lo:=max (-200) ((x:Int) - 200 - b.most)) (k:=(min 200 ((x:Int) - 200+b.most)+1 - max (-200) ((x:Int) - 200 - b.most)).toNat) (g:=(f:Int) - 200) oO oO
     rwa [show (x:Int) - 200 - ((f:Int) - 200)=(x:Int) - f by omega] at this
    ·have:=Gh (fun f=>b.ct i f+b.hard i*ab ((x:Int) - 200 - f)) (max (-200) ((x:Int) - 200 - b.most)) (min 200 ((x:Int) - 200+b.most)+1 - max (-200) ((x:Int) - 200 - b.most)).toNat
     omega
  ·rw [if_neg ht]
   refine Int.le_antisymm h1 (Int.not_lt.1 fun a=>?_)
   obtain ⟨f,_,f2,_⟩:=h3 a
   exact ht ⟨f2.1,f2.2.1⟩
end Go.AH.Warp
namespace Go.Proofs.YtajpgeklmcjciaaGreat
open Go Go.AH
attribute [local irreducible] dA bP bT jL gX dQ fF bZ fB aY dY fA
open Go.AH.Heat
theorem Yi {A B:Prop} (k:B) (h:Hide B→A:=by intro h_k_;(repeat' (first|(refine gU ?_;first|(refine kP ?_;refine st (bV rfl) rfl rfl ?_)|(refine pW ?_;refine st (iZ rfl) rfl rfl ?_)|(refine bW ?_;refine st (aJ rfl (by first|exact aF a1|exact aF a2)) rfl rfl ?_)|(refine yD ?_;refine st (kK rfl rfl (by omega) (by omega)) rfl rfl ?_)|(refine nK ?_;refine st (fE rfl rfl rfl) rfl rfl ?_)|(refine rV ?_;refine st (lH rfl) rfl rfl ?_))|refine zU ?_|refine aG ?_|refine l9 ?_|refine uX ?_|refine YH ?_|refine wX ?_|refine CG rfl ?_|refine Ci ?_|refine zT ?_|refine tY ?_|refine jc rfl (by first|rfl|exact dW (by assumption)) ?_|refine iM rfl (by first|rfl|exact bM (by assumption)) ?_));exact h_k_.h):A:=h ⟨k⟩
theorem TY {lo hi:Int} (hlo:-1000000≤lo) (hlo2:lo≤1000000) (hhi:hi≤1000000) {n:Nat} (hn:n=(hi+1 - lo).toNat) {σ:Heap} {l lb hb N' p1:Nat} {e':Env} {assign body:Code} {R:Value→Heap→Prop} (I:Nat→Heap→Prop)
  (h0:I 0 σ) (hlen:∀ j H,I j H→σ.length≤H.length) (hlb:∀ j H,I j H→H[lb]?=some (.rw [.i lo])) (hhb:∀ j H,I j H→H[hb]?=some (.rw [.i hi]))
  (hL:∀ j H,I j H→H[l]?=some (.loop .ready none N' e' [p1].toArray assign body)) (hps:Nat.blt p1 N'=true)
  (hround:∀ (j:Nat) (hj:j<n) (H:Heap) (hI:I j H) (QB:Post),(∀ e1 mk1 H',I (j+1) H'→QB .normal e1 mk1 (H'.set l (.loop .busy none N' e' [p1].toArray assign body))) →
   bP Tryz.prog H.length N' (some l) assign (dY Tryz.prog H.length N' l body QB) (mM [p1] [.i (lo+j)] e') [] H)
  (hR:∀ H,I n H→R (.tuple #[]) H):fB Tryz.prog 278 [.func (.yield l) #[] #[],.p lb,.p hb] σ R:=by
 refine aI σ.length 15 Tryz.func278 rfl rfl rfl rfl rfl ?_
 have a1:=hlb 0 _ h0
 have a2:=hhb 0 _ h0
 refine Yi ?_
 clear a1 a2
 refine dV (ι:=Nat) (fun k=>[(0,.func (.yield l) #[] #[]),(1,.p lb),(2,.p hb),(4,.i (lo+k))])
  (fun k mk H=>k≤n∧mk=[]∧I k H) (fun k=>n - k) 0 ⟨rfl,rfl,rfl,(by simp [Env.get]),trivial⟩ ⟨bN _,rfl,h0⟩ ?_
 rintro k mk H ⟨hk,rfl,hI⟩
 have a1:=hlb k H hI
 have a2:=hhb k H hI
 by_cases e:k<n
 ·have f:lo+(k:Int)≤hi:=oO
  refine Yi ?_
  refine Aj (ps:=[p1]) rfl rfl (hL k H hI) rfl (by simp [hps]) rfl ?_
  refine hround k e H hI _ fun e1 mk1 H' d=>?_
  have c:=hL (k+1) H' d
  refine yL (aS c) rfl ?_
  have a:(H'.set l (aB.loop .busy none N' e' [p1].toArray assign body)).set l (mZ .ready none (aB.loop .busy none N' e' [p1].toArray assign body))=H':=by
   rw [cX]
   simp only [mZ]
   rw [set_self c]
  rw [a]
  refine Yi ?_
  exact ⟨k+1,⟨oO,rfl,d⟩,oO,⟨rfl,rfl,rfl,congrArg (fun x=>some (Value.i x)) oO,trivial⟩⟩
 ·obtain rfl:k=n:=oO
  have f:¬ lo+(k:Int)≤hi:=oO
  refine Yi ?_
  exact UL (v2:=.tuple #[]) (σ2:=H) .nil .all (hR H hI)
end Go.Proofs.YtajpgeklmcjciaaGreat
