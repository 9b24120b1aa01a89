/- Numbers that count of warp's bench yields, with an invariant of the heap. -/
import Derived.Test.YtajpgeklmcjciaaGreatPxQ3
import Derived.RangeFuncNested
set_option maxRecDepth 100000
set_option maxHeartbeats 8000000
namespace Go.AH
open Go
theorem acP {P:Program} {F:Fence} (hF:∀ f,F.fn f) {all:List Oper} {Q':Exit→Act→World→Prop} {St:(Nat→Bool)→Act→World→Prop}
  (hst:∀ j o,all[j]?=some o→o.guard=none∧(∀ c,o.op ≠ .defer c)∧∀ i,waits o i=true→i<j)
  (step:∀ L A w j o,all[j]?=some o→L j=false→(∀ k,waits o k=true→L k=true)→St L A w →
   ∃ v' w',((execOp A.eval o).run P w=.ok (.value v') w'∨((execOp A.eval o).run P w=.ok .skip w'∧v'=undef))∧St (jR L j) (A.put o.dst v') w')
  (fin:∀ L A w,(∀ j<all.length,L j=true)→St L A w→Q' .normal A w) :
  ∀ (fuel:Nat) (listed:Array Bool) (A:Act) (w:World),listed.size=all.length→cnt all.length listed≤fuel→St (fun i=>listed.getD i false) A w→wpAnyIn F 0 P .any all.toArray Q' fuel listed A w:=by
 have wt:∀ {o:Oper} {e:Edge},e ∈ o.after→Region.binds .any e=true→waits o e.on=true:=fun {o e} he hb=>by
  unfold waits bT
  rw [Array.any_eq_true']
  exact ⟨e,he,by simp [hb]⟩
 have full:∀ (listed:Array Bool),listed.size=all.length→Region.ready .any all.toArray listed=[]→∀ i,i<all.length→listed.getD i false=true:=by
  intro listed hs hr i
  induction i using Nat.strongRecOn with
  |_ i ih =>
   intro hi
   by_cases hl:listed.getD i true=true
   ·rw [getD_lt (d':=true) oO];exact hl
   ·exfalso
    have:i ∈ Region.ready .any all.toArray listed:=mem_ready.2 ⟨by simpa using hl,all[i],by rw [bO];exact cC hi,fun e he hb=>by
     have h1:=(hst i all[i] (cC hi)).2.2 e.on (wt he hb)
     exact ih e.on h1 oO⟩
    rw [hr] at this;cases this
 intro fuel
 induction fuel with
 |zero =>
  intro listed A w hs hc d
  have l:∀ i<all.length,listed.getD i true=true:=by
   intro i hi
   apply Classical.byContradiction
   intro hn
   have:=qW (n:=all.length) hi hs (oU hn)
   omega
  have hr:Region.ready .any all.toArray listed=[]:=by
   rw [List.eq_nil_iff_forall_not_mem]
   intro i hi
   obtain ⟨h1,o,ho,_⟩:=mem_ready.1 hi
   rw [bO] at ho
   rw [l i (List.getElem?_eq_some_iff.1 ho).1] at h1
   cases h1
  exact ⟨hr,fin _ A w (full listed hs hr) d⟩
 |succ fuel ih =>
  intro listed A w hs hc d
  refine ⟨fun hr=>fin _ A w (full listed hs hr) d,fun i hi=>?_⟩
  obtain ⟨h1,o,ho,hw⟩:=mem_ready.1 hi
  rw [bO] at ho
  have p:=(List.getElem?_eq_some_iff.1 ho).1
  have q:listed.getD i false=false:=by rw [getD_lt (d':=true) oO];exact h1
  obtain ⟨hg,hd,_⟩:=hst i o ho
  obtain ⟨v',w',hr,g⟩:=step (fun i=>listed.getD i false) A w i o ho q (fun k hk=>iF hi ho hk) d
  have m:(fun j=>(listed.setIfInBounds i true).getD j false)=jR (fun j=>listed.getD j false) i:=by
   funext j
   rw [gY oO];rfl
  have a:wpAnyIn F 0 P .any all.toArray Q' fuel (listed.setIfInBounds i true) (A.put o.dst v') w':=ih _ _ _ (oU hs) (by have:=qW (n:=all.length) p hs h1;omega) (by rw [m];exact g)
  unfold wpOpIn
  simp only [bO,ho]
  rw [if_pos (by simp [Region.wanted,hg])]
  refine ⟨fun f _=>hF f,?_⟩
  rw [Oper.semAt_eq _ _ _ hd]
  rcases hr with hr|⟨hr,rfl⟩
  ·rw [hr];exact a
  ·rw [hr];exact a
def wI (d sM sI sK tm ti tk:Nat) (p:String) (ty:Nat→TypeId) (a:Nat→Array Edge):List Oper :=
 [⟨some d,.load tm (.tmp sM),ty 0,p,a 0,none⟩,⟨some (d+1),.move (.tmp sI),ty 1,p,a 1,none⟩,⟨some (d+2),.binOp .sub ti (.tmp (d+1)) (.const (.int .i64 1)) ti,ty 2,p,a 2,none⟩,
  ⟨some (d+3),.move (.tmp sK),ty 3,p,a 3,none⟩,⟨some (d+4),.build tk #[(0,.tmp (d+2)),(1,.tmp (d+3))],ty 4,p,a 4,none⟩,⟨some (d+5),.lookup tm (.tmp d) (.tmp (d+4)) false,ty 5,p,a 5,none⟩,
  ⟨some (d+6),.binOp .add ti (.tmp (d+5)) (.const (.int .i64 1)) ti,ty 6,p,a 6,none⟩,⟨some (d+7),.mapEntry tm (.tmp d) (.tmp (d+4)),ty 7,p,a 7,none⟩,⟨some (d+8),.extract (.tmp (d+7)) 1,ty 8,p,a 8,none⟩,
  ⟨none,.entryStore tm (.tmp d) (.tmp (d+8)) (.tmp (d+6)),ty 9,p,a 9,none⟩]
def KL (a:Nat→Array Edge):Bool :=
 bT (a 2) 1 && bT (a 4) 2 && bT (a 4) 3 && bT (a 5) 0 && bT (a 5) 4 && bT (a 6) 5 && bT (a 7) 0 && bT (a 7) 4 && bT (a 8) 7 && bT (a 9) 0 && bT (a 9) 6 && bT (a 9) 8 &&
  (List.range 10).all fun j=>(a j).all fun e=>!Region.binds .any e || Nat.blt e.on j
structure KN (A0:Act) (d N:Nat) (all:List Oper) (val:Nat→Value) (w w1 w2:World) (L:Nat→Bool) (A:Act) (w':World):Prop where
 sz:A.tmps.size=N
 df:A.defers=A0.defers
 old:∀ t,t<d∨d+9≤t→A.tmps[t]?=A0.tmps[t]?
 new:∀ j<9,L j=true→A.tmps[d+j]?=some (val j)
 clo:Closed all fun j=>L j=true
 wl:w'=if L 9=true then w2 else if L 7=true then w1 else w
theorem Eu {A:Act} {t:Nat} {v:Value} (h:A.tmps[t]?=some v):A.eval (.tmp t)=v:=by simp [Act.eval,h]
section
variable {A0 A:Act} {d N:Nat} {all:List Oper} {val:Nat→Value} {w w1 w2 w' w'':World} {L:Nat→Bool} {o:Oper} {j:Nat}
theorem G6 (h:Closed all fun j=>L j=true) (ho:all[j]?=some o) (hw:∀ k,waits o k=true→L k=true):Closed all fun i=>jR L j i=true:=by
 intro i oi hi hL k hk
 have up:∀ k,L k=true→jR L j k=true:=fun k hk=>by unfold jR;split <;> simp [hk]
 by_cases a:i=j
 ·subst a;rw [ho] at hi;cases hi;exact up k (hw k hk)
 ·have:L i=true:=by simpa [jR,a] using hL
  exact up k (h i oi hi this k hk)
theorem KN.put (h:KN A0 d N all val w w1 w2 L A w') (hN:d+9≤N) (hj:j<9) (ho:all[j]?=some o) (hw:∀ k,waits o k=true→L k=true)
  (hwl:w''=if jR L j 9=true then w2 else if jR L j 7=true then w1 else w):KN A0 d N all val w w1 w2 (jR L j) (A.put (some (d+j)) (val j)) w'':=by
 refine ⟨by simp [Act.put,h.sz],by simp [Act.put,h.df],fun t ht=>?_,fun i hi hL=>?_,G6 h.clo ho hw,hwl⟩
 ·simp only [Act.put]
  rw [fg oO];exact h.old t ht
 ·simp only [Act.put]
  by_cases a:i=j
  ·subst a
   rw [fz (by rw [h.sz];omega)]
  ·rw [fg oO]
   exact h.new i hi (by simpa [jR,a] using hL)
end
section
variable {P:Program} {A0:Act} {d N sM sI sK tm ti tk kt et:Nat} {p:String} {ty:Nat→TypeId} {a:Nat→Array Edge} {val:Nat→Value} {w w1 w2:World}
structure acQ (P:Program) (A0:Act) (d sM sI sK tm ti tk:Nat) (val:Nat→Value) (w w1 w2:World):Prop where
 r0:∀ (ev:Operand→Value) (o:Oper),o.op=.load tm (.tmp sM)→(∀ v,A0.tmps[sM]?=some v→ev (.tmp sM)=v)→(execOp ev o).run P w=.ok (.value (val 0)) w
 r1:A0.tmps[sI]?=some (val 1)
 r2:∀ (ev:Operand→Value) (o:Oper),o.op=.binOp .sub ti (.tmp (d+1)) (.const (.int .i64 1)) ti→ev (.tmp (d+1))=val 1→ev (.const (.int .i64 1))=.int .i64 1→(execOp ev o).run P w=.ok (.value (val 2)) w
 r3:A0.tmps[sK]?=some (val 3)
 r4:∀ (ev:Operand→Value) (o:Oper),o.op=.build tk #[(0,.tmp (d+2)),(1,.tmp (d+3))]→ev (.tmp (d+2))=val 2→ev (.tmp (d+3))=val 3→(execOp ev o).run P w=.ok (.value (val 4)) w
 r5:∀ (ev:Operand→Value) (o:Oper),o.op=.lookup tm (.tmp d) (.tmp (d+4)) false→ev (.tmp d)=val 0→ev (.tmp (d+4))=val 4→(execOp ev o).run P w=.ok (.value (val 5)) w∧(execOp ev o).run P w1=.ok (.value (val 5)) w1
 r6:∀ (ev:Operand→Value) (o:Oper) (w:World),o.op=.binOp .add ti (.tmp (d+5)) (.const (.int .i64 1)) ti→ev (.tmp (d+5))=val 5→ev (.const (.int .i64 1))=.int .i64 1→(execOp ev o).run P w=.ok (.value (val 6)) w
 r7:∀ (ev:Operand→Value) (o:Oper),o.op=.mapEntry tm (.tmp d) (.tmp (d+4))→ev (.tmp d)=val 0→ev (.tmp (d+4))=val 4→(execOp ev o).run P w=.ok (.value (val 7)) w1
 r8:∀ (ev:Operand→Value) (o:Oper) (w:World),o.op=.extract (.tmp (d+7)) 1→ev (.tmp (d+7))=val 7→(execOp ev o).run P w=.ok (.value (val 8)) w
 r9:∀ (ev:Operand→Value) (o:Oper),o.op=.entryStore tm (.tmp d) (.tmp (d+8)) (.tmp (d+6))→ev (.tmp d)=val 0→ev (.tmp (d+8))=val 8→ev (.tmp (d+6))=val 6→(execOp ev o).run P w1=.ok .skip w2
theorem acR (hv:acQ P A0 d sM sI sK tm ti tk val w w1 w2) (hdep:KL a=true) (hN:d+9≤N) (hM:sM<d∨d+9≤sM) (hI:sI<d∨d+9≤sI) (hK:sK<d∨d+9≤sK) :
  ∀ L A w' j o,(wI d sM sI sK tm ti tk p ty a)[j]?=some o→L j=false→(∀ k,waits o k=true→L k=true)→KN A0 d N (wI d sM sI sK tm ti tk p ty a) val w w1 w2 L A w' →
   ∃ v' w'',((execOp A.eval o).run P w'=.ok (.value v') w''∨((execOp A.eval o).run P w'=.ok .skip w''∧v'=undef))∧KN A0 d N (wI d sM sI sK tm ti tk p ty a) val w w1 w2 (jR L j) (A.put o.dst v') w'':=by
 intro L A w' j o ho f hw h
 unfold KL at hdep
 simp only [aE] at hdep
 obtain ⟨⟨⟨⟨⟨⟨⟨⟨⟨⟨⟨⟨D,F⟩,t⟩,C⟩,n⟩,E⟩,G⟩,z⟩,s⟩,r⟩,y⟩,x⟩,_⟩:=hdep
 have c:=h.clo
 have c21:L 2=true→L 1=true:=fun h=>c 2 _ rfl h 1 D
 have K:L 4=true→L 2=true:=fun h=>c 4 _ rfl h 2 F
 have c43:L 4=true→L 3=true:=fun h=>c 4 _ rfl h 3 t
 have c50:L 5=true→L 0=true:=fun h=>c 5 _ rfl h 0 C
 have c54:L 5=true→L 4=true:=fun h=>c 5 _ rfl h 4 n
 have M:L 6=true→L 5=true:=fun h=>c 6 _ rfl h 5 E
 have J:L 7=true→L 0=true:=fun h=>c 7 _ rfl h 0 G
 have u:L 7=true→L 4=true:=fun h=>c 7 _ rfl h 4 z
 have l:L 8=true→L 7=true:=fun h=>c 8 _ rfl h 7 s
 have H:L 9=true→L 0=true:=fun h=>c 9 _ rfl h 0 r
 have I:L 9=true→L 6=true:=fun h=>c 9 _ rfl h 6 y
 have m:L 9=true→L 8=true:=fun h=>c 9 _ rfl h 8 x
 have g:∀ {q:Nat},L q=false→¬ L q=true:=fun h=>by rw [h];simp
 have ev:∀ k<9,L k=true→A.eval (.tmp (d+k))=val k:=fun k hk hL=>Eu (h.new k hk hL)
 have same:∀ (q:Nat),j ≠ q→jR L j q=L q:=fun q hq=>by unfold jR;rw [if_neg (Ne.symm hq)]
 have e:=h.wl
 match j,ho with
 |0,ho =>
  cases ho
  have h7:¬ L 7=true:=fun h7=>g f (J h7)
  have h9:¬ L 9=true:=fun h9=>g f (H h9)
  rw [if_neg h9,if_neg h7] at e
  subst e
  exact ⟨_,_,.inl (hv.r0 _ _ rfl fun v hv=>Eu (by rw [h.old _ hM];exact hv)),h.put (j:=0) hN oO rfl hw (by rw [same 9 oO,same 7 oO,if_neg h9,if_neg h7])⟩
 |1,ho =>
  cases ho
  refine ⟨val 1,w',.inl ?_,h.put (j:=1) hN oO rfl hw (by rw [same 9 oO,same 7 oO];exact e)⟩
  have:A.eval (.tmp sI)=val 1:=Eu (by rw [h.old _ hI];exact hv.r1)
  simp [execOp,this]
 |2,ho =>
  cases ho
  have h1:=hw 1 D
  have h7:¬ L 7=true:=fun h7=>g f (K (u h7))
  have h9:¬ L 9=true:=fun h9=>h7 (l (m h9))
  rw [if_neg h9,if_neg h7] at e
  subst e
  exact ⟨_,_,.inl (hv.r2 _ _ rfl (ev 1 oO h1) rfl),h.put (j:=2) hN oO rfl hw (by rw [same 9 oO,same 7 oO,if_neg h9,if_neg h7])⟩
 |3,ho =>
  cases ho
  refine ⟨val 3,w',.inl ?_,h.put (j:=3) hN oO rfl hw (by rw [same 9 oO,same 7 oO];exact e)⟩
  have:A.eval (.tmp sK)=val 3:=Eu (by rw [h.old _ hK];exact hv.r3)
  simp [execOp,this]
 |4,ho =>
  cases ho
  have h2:=hw 2 F
  have h3:=hw 3 t
  have h7:¬ L 7=true:=fun h7=>g f (u h7)
  have h9:¬ L 9=true:=fun h9=>h7 (l (m h9))
  rw [if_neg h9,if_neg h7] at e
  subst e
  exact ⟨_,_,.inl (hv.r4 _ _ rfl (ev 2 oO h2) (ev 3 oO h3)),h.put (j:=4) hN oO rfl hw (by rw [same 9 oO,same 7 oO,if_neg h9,if_neg h7])⟩
 |5,ho =>
  cases ho
  have h0:=hw 0 C
  have h4:=hw 4 n
  have h9:¬ L 9=true:=fun h9=>g f (M (I h9))
  obtain ⟨g1,g2⟩:=hv.r5 A.eval ⟨some (d+5),.lookup tm (.tmp d) (.tmp (d+4)) false,ty 5,p,a 5,none⟩ rfl (ev 0 oO h0) (ev 4 oO h4)
  rw [if_neg h9] at e
  refine ⟨val 5,w',.inl ?_,h.put (j:=5) hN oO rfl hw (by rw [same 9 oO,same 7 oO,if_neg h9];exact e)⟩
  by_cases h7:L 7=true
  ·rw [if_pos h7] at e;subst e;exact g2
  ·rw [if_neg h7] at e;subst e;exact g1
 |6,ho =>
  cases ho
  have h5:=hw 5 E
  exact ⟨_,_,.inl (hv.r6 _ _ _ rfl (ev 5 oO h5) rfl),h.put (j:=6) hN oO rfl hw (by rw [same 9 oO,same 7 oO];exact e)⟩
 |7,ho =>
  cases ho
  have h0:=hw 0 G
  have h4:=hw 4 z
  have h9:¬ L 9=true:=fun h9=>g f (l (m h9))
  rw [if_neg h9,if_neg (g f)] at e
  subst e
  exact ⟨_,_,.inl (hv.r7 _ _ rfl (ev 0 oO h0) (ev 4 oO h4)),h.put (j:=7) hN oO rfl hw (by rw [same 9 oO,if_neg h9,if_pos (by simp [jR])])⟩
 |8,ho =>
  cases ho
  have h7:=hw 7 s
  exact ⟨_,_,.inl (hv.r8 _ _ _ rfl (ev 7 oO h7)),h.put (j:=8) hN oO rfl hw (by rw [same 9 oO,same 7 oO];exact e)⟩
 |9,ho =>
  cases ho
  have h0:=hw 0 r
  have h6:=hw 6 y
  have h8:=hw 8 x
  rw [if_neg (g f),if_pos (l h8)] at e
  subst e
  refine ⟨undef,w2,.inr ⟨hv.r9 _ _ rfl (ev 0 oO h0) (ev 8 oO h8) (ev 6 oO h6),rfl⟩,h.sz,h.df,h.old,fun i hi hL=>h.new i hi (by rw [← same i oO];exact hL),G6 h.clo (j:=9) rfl hw,by rw [if_pos (by simp [jR])]⟩
 |j+10,ho=>simp [wI] at ho
end
theorem WG {P:Program} {tm kt et m:Nat} [hmp:Mp P tm kt et] [hk:KT P kt kv] {G:Nat→Prop} {w0 w w2:World} {ρ:Rho} {σ:Heap} {l:mg} {k:Int×Int} {c:Int} (hs:Sim G w0 ρ σ w) (hm:σ[m]?=some (nO l)) (hni:σ.all (fun o=>!aU o)=true)
  (f2:∀ (ev:Operand→Value) (o:Oper) (x y u:Operand),o.op=.mapUpdate tm x y u→ev x=.map (some (ρ m).b)→ev y=kv k→ev u=.i c→(execOp ev o).run P w=.ok .skip w2) :
  ∃ ρ',(∀ i < σ.length,ρ' i=ρ i)∧Sim G w0 ρ' (σ.set m (nO (lN l k (.i c)))) w2:=by
 have a:=aQ hm
 have h:=pq (P:=P) (rd:=none) (ty:=0) (e:=[(0,.map (some m)),(1,kv k),(2,.i c)]) (x:=.tmp 0) (y:=.tmp 1) (z:=.tmp 2) (t:=tm) (v:=.i c) (k:=k) rfl hm rfl rfl hni
  ⟨none, .mapUpdate tm (.tmp 0) (.tmp 1) (.tmp 2), 0, "", #[], none⟩ rfl rfl G w0 ρ { tmps := #[.map (some (ρ m).b), kv k, .i c], defers := [] } w oS hs (fun x hx u hu => by
   simp only [Op.operands] at hx
   have hx:x=.tmp 0∨x=.tmp 1∨x=.tmp 2:=by simpa using hx
   rcases hx with rfl|rfl|rfl
   ·cases hu;exact .map m a
   ·cases hu;exact aY _ (Ry k)
   ·cases hu;exact .int _ _) (fun A' w'=>∃ ρ',(∀ i < σ.length,ρ' i=ρ i)∧Sim G w0 ρ' (σ.set m (nO (lN l k (.i c)))) w') (fun _ _ _=>True) (fun ρ' v' w' _ _ h3 h4=>⟨ρ',h3,h4⟩)
 have h2:=h.2
 rw [Oper.semAt_eq _ _ _ oS,f2 _ _ (.tmp 0) (.tmp 1) (.tmp 2) rfl rfl rfl rfl] at h2
 exact h2
section
variable {P:Program} {n0 N:Nat} {rd:Option Nat} {Q:Post} {e:Env} {mk:List Nat} {σ:Heap} {id:Nat}
theorem TY {d sM sI sK tm ti tk kt et sz1 by1 sz2 by2:Nat} {agg2:Bool} {z1 zk:Value} {pl:List (Nat×Nat)} {p:String} {ty:Nat→TypeId} {a:Nat→Array Edge} (hmo:P.follows .mixedOrders=true)
  [hmp:Mp P tm kt et] [hk:KT P kt kv] [hte:Ty P et sz2 agg2 (.i 0) by2] [htm:Ty P tm sz1 false z1 by1] [hpk:Pls P tk zk pl] (hzk:plain zk=true) (hfill:∀ x y:Int,rJ (pl.toArray[·]?) (dR zk) [(0,.i x),(1,.i y)]=some [.i x,.i y])
  (hdep:KL a=true) (hN:Nat.ble (d+9) N=true) (hsl:([sM,sI,sK].all fun q=>Nat.blt q d || Nat.ble (d+9) q)=true) {xb m:Nat} {i k c:Int} {l:mg}
  (hM:Env.get e sM=some (.p xb)) (hbox:aH σ xb 0=some (.map (some m))) (hmm:σ[m]?=some (nO l)) (hI:Env.get e sI=some (.i i)) (hK:Env.get e sK=some (.i k))
  (hi:0≤i∧i≤9223372036854775807) (hv:iH l (i - 1,k)=some (.i c)∨iH l (i - 1,k)=none∧c=0) (hc:0≤c∧c<9223372036854775807) (hni:σ.all (fun o=>!aU o)=true)
  (he:(e.all fun q=>Nat.blt q.1 d || Nat.ble (d+9) q.1)=true) (h:Q .normal e mk (σ.set m (nO (lN l (i - 1,k) (.i (c+1)))))) :
  bK P n0 N rd (.region id (wI d sM sI sK tm ti tk p ty a).toArray true) Q e mk σ:=by
 intro G w0 ρ0 A w D
 obtain ⟨h0,ρ,ha,S,g⟩:=D
 refine wpIn_region_any hmo ?_
 have hs:Sim G w0 ρ σ { w with drawn:=w.drawn+1 }:=o7 S rfl rfl rfl rfl
 generalize ({ w with drawn:=w.drawn+1 }:World)=w at hs
 simp only [List.all_cons,List.all_nil,Bool.and_true,aE,eq,bX,Nat.ble_eq] at hsl
 obtain ⟨K,T,Y⟩:=hsl
 have M:d+9≤N:=cA hN
 obtain ⟨uM,gM,vM⟩:=g.tmps.2 _ _ hM
 obtain ⟨uI,gI,vI⟩:=g.tmps.2 _ _ hI
 obtain ⟨uK,gK,vK⟩:=g.tmps.2 _ _ hK
 have vI:=bH vI rfl
 have vK:=bH vK rfl
 subst vI vK
 obtain ⟨rfl,_⟩:=ng vM
 obtain ⟨_,q2⟩:=kH hs (yL hbox)
 obtain ⟨vm,q3,q4⟩:=q2 0 oS
 simp only [ec] at q4
 obtain ⟨rfl,_⟩:=qZ q4
 obtain ⟨_,ents,clock,hh,U⟩:=sV hs hmm
 obtain ⟨u0,b,w1,J,e1,e2,e3⟩:=WE (P:=P) (t:=tm) (kt:=kt) (et:=et) (z:=.i 0) rfl hh U (k:=(i - 1,k)) (v0:=.i c) (by
  rcases hv with h|⟨h1,rfl⟩
  ·exact .inl h
  ·exact .inr ⟨h1,rfl⟩)
 have J:=bH J rfl
 subst J
 obtain ⟨w2,f1,f2⟩:=e3 (.i (c+1))
 obtain ⟨ρ',r1,r2⟩:=WG hs hmm hni f2
 let val:Nat→Value:=fun j=>match j with
  |0=>.map (some (ρ m).b)|1=>.i i|2=>.i (i - 1)|3=>.i k|4=>kv (i - 1,k)|5=>.i c|6=>.i (c+1)|7=>.tuple #[.i c,goInt b]|8=>goInt b|_=>undef
 have r:∀ (op:BinOp) (x y z:Int) (w:World),U0 op .i64 x y=some (.i z)→∀ (ev:Operand→Value) (o:Oper) (s t:Operand) (t':TypeId),o.op=.binOp op ti s t t'→ev s=.i x→ev t=.i y→(execOp ev o).run P w=.ok (.value (.i z)) w:=fun op x y z w hb ev o s t t' ho hs ht=>by
  have h3:(eqGuard op ti s t (.i x) (.i y)).run P w=.ok () w:=by unfold eqGuard;split <;> rfl
  simp [execOp,ho,hs,ht,h3,Rf hb]
 have H:acQ P A d sM sI sK tm ti tk val w w1 w2:=by
  refine ⟨fun ev o ho V=>?_,gI,fun ev o ho h1 h2=>r .sub i 1 (i - 1) w (by rw [← wrap64 (m:=i - 1) oO oO];rfl) ev o _ _ _ ho h1 h2,gK,fun ev o ho h1 h2=>?_,fun ev o ho h1 h2=>e2 ev o _ _ ho h1 h2,
   fun ev o w ho h1 h2=>r .add c 1 (c+1) w (by rw [← wrap64 (m:=c+1) oO oO];rfl) ev o _ _ _ ho h1 h2,fun ev o ho h1 h2=>e1 ev o _ _ ho h1 h2,fun ev o w ho h1=>?_,fun ev o ho h1 h2 h3=>f1 ev o _ _ _ ho h1 h2 h3⟩
  ·have hv:=V _ gM
   simp only [cV] at q3 hv
   simp [execOp,ho,hv,Instr.loadAt,Instr.sureAddr,loadVar,htm.isAgg,q3,val]
  ·obtain ⟨rc,g3,g4⟩:=vX (n:=σ.length) (ρ:=ρ) [(0,.i (i - 1)),(1,.i k)] [(0,.i (i - 1)),(1,.i k)] _ _ _ (kQ (aY (n:=σ.length) (ρ:=ρ) zk hzk)) rfl
    (fun j h h'=>⟨rfl,by
     match j,h with
     |0,_=>exact .int _ _
     |1,_=>exact .int _ _⟩) (hfill (i - 1) k)
   have O:Value.agg rc=kv (i - 1,k):=bH (n:=σ.length) (ρ:=ρ) (v:=kv (i - 1,k)) (.agg _ _ g4.1 g4.2) rfl
   have hb:=run_build (P:=P) w tk #[(0,.i (i - 1)),(1,.i k)] rc (by rw [hpk.built];exact g3)
   have E:ev (.tmp (d+2))=.i (i - 1):=h1
   have X:ev (.tmp (d+3))=.i k:=h2
   simp [execOp,ho,E,X,hb,val,O]
  ·have E:ev (.tmp (d+7))=.tuple #[.i c,goInt b]:=h1
   simp [execOp,ho,E,Instr.extract,val]
 have f:∀ j<10,∀ i,bT (a j) i=true→i<j:=by
  intro j hj i hw
  unfold KL at hdep
  simp only [aE] at hdep
  have h1:=List.all_eq_true.1 hdep.2 j (List.mem_range.2 hj)
  unfold bT at hw
  obtain ⟨x,hx,hb⟩:=Array.any_eq_true'.1 hw
  simp only [aE] at hb
  have h2:=Array.all_eq_true_iff_forall_mem.1 h1 x hx
  simp only [hb.1,Bool.not_true,Bool.false_or,bX] at h2
  rw [← aM hb.2];exact h2
 have I:∀ i,(Array.replicate (wI d sM sI sK tm ti tk p ty a).toArray.size false).getD i false=false:=fun i=>by
  simp only [eT,fa];split <;> rfl
 refine acP (kN ρ0 rd) (St:=KN A d N (wI d sM sI sK tm ti tk p ty a) val w w1 w2) (fun j o ho=>?_) (acR H hdep M K T Y) (fun L A' w' F C=>?_) _ _ A w oS ?_ ?_
 ·match j,ho with
  |0,ho=>cases ho;exact ⟨rfl,by simp,f 0 oO⟩
  |1,ho=>cases ho;exact ⟨rfl,by simp,f 1 oO⟩
  |2,ho=>cases ho;exact ⟨rfl,by simp,f 2 oO⟩
  |3,ho=>cases ho;exact ⟨rfl,by simp,f 3 oO⟩
  |4,ho=>cases ho;exact ⟨rfl,by simp,f 4 oO⟩
  |5,ho=>cases ho;exact ⟨rfl,by simp,f 5 oO⟩
  |6,ho=>cases ho;exact ⟨rfl,by simp,f 6 oO⟩
  |7,ho=>cases ho;exact ⟨rfl,by simp,f 7 oO⟩
  |8,ho=>cases ho;exact ⟨rfl,by simp,f 8 oO⟩
  |9,ho=>cases ho;exact ⟨rfl,by simp,f 9 oO⟩
  |j+10,ho=>simp [wI] at ho
 ·have h9:L 9=true:=F 9 (by simp [wI])
  have R:w'=w2:=by have:=C.wl;rwa [if_pos h9] at this
  subst R
  refine ⟨e,mk,_,h,by simpa using h0,ρ',fun i hi=>(r1 i oO).trans (ha i hi),r2,⟨C.sz,fun t v ht=>?_⟩,?_,fun i hi=>by simpa using g.mkb i hi⟩
  ·obtain ⟨u,g1,g2⟩:=g.tmps.2 t v ht
   have W:t<d∨d+9≤t:=by
    have:=List.all_eq_true.1 he _ (yN ht)
    simpa using this
   exact ⟨u,by rw [C.old t W];exact g1,g2.mono oS fun i hi=>r1 i hi⟩
  ·rw [C.df,g.mks]
   congr 1
   exact eD fun i hi=>by rw [r1 i (g.mkb i hi)]
 ·unfold cnt
  exact ej List.countP_le_length oS
 ·have hf:(fun i=>(Array.replicate (wI d sM sI sK tm ti tk p ty a).toArray.size false).getD i false)=fun _=>false:=funext I
  rw [hf]
  exact KN.mk g.tmps.1 rfl (fun _ _=>rfl) (fun _ _ h=>absurd h oS) (fun _ _ _ h=>absurd h oS) oS
end
section ops
variable {P:Program} {rd:Option Nat} {ty:TypeId} {e:Env} {σ:Heap} {x y a:Operand}
theorem WH {t el size bytes i n c:Nat} {agg:Bool} {z:Value} {k k':IntKind} {cs:List Value} [ha:Sl P t el] [ht:Ty P el size agg z bytes] (hx:aP e x=some (.s i n c)) (hy:aP e y=some (.int k (n:Nat))) (hz:aP e a=some (.int k' (n:Nat)))
  (hrw:σ[i]?=some (.rw cs)) (hcs:cs ≠ []) (hn:0<n) (hc:n≤c):bW P rd (.slice t x none (some y) (some a)) ty e σ (.slice (some ⟨i,0,some 0⟩) n n) σ :=
 bY oS fun op ho _ G w0 ρ A w hs d=>by
  have hv:=d x (by simp [Op.operands]) _ hx
  have h1:=bH (d y (by simp [Op.operands]) _ hy) rfl
  have h2:=bH (d a (by simp [Op.operands]) _ hz) rfl
  have ho0:(ρ i).o=0:=(hs.obj i _ hrw hcs).2.1
  obtain ⟨e1,e2⟩:=Bd ha
  generalize hr:A.eval x=r at hv
  cases hv with
  |emptySlice=>omega
  |slice _ _ _ _ cap hcc hi =>
   have:=run_slice_hm (P:=P) w t (some ⟨(ρ i).b,(ρ i).o+0,none⟩) n cap e1 k k' n n oO oO oO
   simp only [cM] at this
   refine ⟨ρ,.slice (some ⟨(ρ i).b,(ρ i).o+0,none⟩) n n,w,.inl ?_,VQ.gslice i 0 n n n 0 ⟨aD _,fun _=>rfl⟩ oO hi rfl,aD _,fun _ _=>rfl,hs⟩
   have e3:sliced (some ⟨(ρ i).b,(ρ i).o+0,none⟩) 0 n n size=.slice (some ⟨(ρ i).b,(ρ i).o+0,none⟩) n n:=by simp only [sliced];split <;> simp [addr_add]
   simp only [cV] at hr this e3 ⊢
   simp [execOp,ho,hr,h1,h2,run_sliceAt_slice _ _ _ _ _ _ e1,this,e2,ht.sizeOf,e3]
  |sliceG _ _ _ _ _ _ _ _ hq=>simp at hq
theorem acS {op:Op} {n size el:Nat} {cs:List Value} (hn:0<n) (h:bW P rd op ty e σ (dW σ.length size n) (σ++[.gr cs el])):bW P rd op ty e σ (.s σ.length n n) (σ++[.rw cs]):=by
 intro o ho x G w0 ρ A w hrd hs v next Q' p
 refine h o ho x G w0 ρ A w hrd hs v next Q' fun ρ' v' w' hv hle r a=>p ρ' v' w' ?_ oS r ?_
 ·obtain ⟨k,rfl⟩:∃ k,n=k+1:=⟨n - 1,oO⟩
  have hl:(σ++[aB.rw cs]).length=(σ++[aB.gr cs el]).length:=oS
  rw [hl]
  rcases Jm hv with ⟨h0,_⟩|⟨_,hi,C,g,_,rfl⟩
  ·omega
  ·have:=VQ.slice (q:=false) (n:=(σ++[aB.gr cs el]).length) (ρ:=ρ') σ.length 0 (k+1) (k+1) C g hi
   simpa using this
 ·have hl:(σ++[aB.rw cs]).length=(σ++[aB.gr cs el]).length:=oS
  have get:∀ (i:Nat) (o:aB),(σ++[aB.rw cs])[i]?=some o→(i < σ.length∧(σ++[aB.gr cs el])[i]?=some o)∨(i=σ.length∧o=.rw cs):=by
   intro i o hi
   by_cases c:i < σ.length
   ·rw [bR c] at hi
    exact .inl ⟨c,by rw [bR c];exact hi⟩
   ·have:=aQ hi
    simp at this
    obtain rfl:i=σ.length:=oO
    rw [bE oO,cY] at hi
    exact .inr ⟨rfl,by simpa using hi.symm⟩
  have hg:(σ++[aB.gr cs el])[σ.length]?=some (.gr cs el):=oS
  refine ⟨a.os,a.tape,a.output,a.size,a.fgn,fun i o hi=>?_,fun i j oi oj hi hj l t hb=>?_⟩
  ·rw [hl]
   rcases get i o hi with ⟨_,h1⟩|⟨rfl,rfl⟩
   ·exact a.obj i o h1
   ·intro D
    obtain ⟨g1,g2,rc,g3,g4,g5,g6⟩:=a.obj _ _ hg D
    exact ⟨g1,g2,rc,el,g3,g5,g6⟩
  ·have up:∀ (i:Nat) (o:aB),(σ++[aB.rw cs])[i]?=some o→o.owned→∃ o',(σ++[aB.gr cs el])[i]?=some o'∧o'.owned:=fun i o hi ho=>by
    rcases get i o hi with ⟨_,h1⟩|⟨rfl,rfl⟩
    ·exact ⟨o,h1,ho⟩
    ·exact ⟨_,hg,ho⟩
   obtain ⟨m,u,f⟩:=up i oi hi l
   obtain ⟨z,y,d⟩:=up j oj hj t
   exact a.inj i j m z u y f d hb
theorem WI {t el size bytes i o n j oj m c:Nat} {agg:Bool} {z:Value} {cs news:List Value} [ha:Sl P t el] [ht:Ty P el size agg z bytes] (hzs:z.cells.size=size) (h0:Nat.blt 0 size=true)
  (hx:aP e x=some (.slice (some ⟨i,o,some 0⟩) n n)) (hcs:aJ σ i o (n*size)=some cs) (hy:aP e y=some (.slice (some ⟨j,oj,none⟩) m c)) (hc:aJ σ j oj (m*size)=some news) (hm:0<m)
  (hb:n+m≤1000000) (hby:bytes≤1000000) :
  bW P rd (.call { callee:=.builtin .append,args:=#[x,y],argTypes:=#[t,t] }) ty e σ (.s σ.length (n+m) (n+m)) (σ++[.rw (cs++news)]):=acS oO (JA hzs h0 hx hcs hy hc hm hb hby)
end ops
end Go.AH
namespace Go.AH.Heat
open Go Go.AH
theorem KO {kf:Nat→Int×Int×Int} {a b:Int} (h:a≤b):∀ i,nS kf a i≤nS kf b i
 |0=>aD _
 |i+1=>by
  have ih:=KO (kf:=kf) h i
  have:=AL kf a i
  unfold nS
  by_cases h1:(kf (i+1)).1≤a
  ·rw [if_pos h1,if_pos oO];exact aD _
  ·rw [if_neg h1]
   split
   ·omega
   ·exact ih
theorem Yv {n:Nat} {kf:Nat→Int×Int×Int} (h:ZT n kf) {q:Nat}:∀ {p:Nat},q≤p→p<n→(kf q).2.1≤(kf p).2.1
 |0,hq,_ =>
          by
          obtain rfl:q=0:=oO
          exact dE _
 |p+1,hq,hp=>by
  by_cases a:q=p+1
  ·subst a;exact dE _
  ·have h1:=Yv h (q:=q) (p:=p) oO oO
   have h2:=(h.r p hp).1
   omega
namespace Wk
variable (W:Wk) (m:Int×Int)
def nxt (s k:Nat) (r:Int×Int):Int×Int:=((qp (W.nk s k) (W.kf s k) r.1).1,(qp (W.nk s k) (W.kf s k) r.2).2)
def recs:Nat→Nat→Int×Int→List (List Nat)
 |0,s,r=>if jK r.1 r.2 (W.jS m s) then [[]] else []
 |d+1,s,r=>if jK r.1 r.2 (W.jS m s) then (List.range (W.nw s)).flatMap fun k=>(recs d (s+1) (W.nxt s k r)).map (k::·) else []
end Wk
theorem acT {W:Wk} (hv:uf W) {s k:Nat} {r:Int×Int} (hs:s<W.ns) (hk:k<W.nw s) (hr:jM r):jM (W.nxt s k r):=by
 have a:=hv.k s hs k hk
 have hn:=a.n1
 have l1:=AL (W.kf s k) r.1 (W.nk s k - 1)
 have l2:=AL (W.kf s k) r.2 (W.nk s k - 1)
 have l3:=KO (kf:=W.kf s k) hr.2.1 (W.nk s k - 1)
 have r1:=(a.k _ (show nS (W.kf s k) r.1 (W.nk s k - 1)<W.nk s k by omega)).2.2.1
 have r2:=(a.k _ (show nS (W.kf s k) r.2 (W.nk s k - 1)<W.nk s k by omega)).2.2.1
 have r3:=Yv a l3 oO
 refine ⟨r1.1,?_,r2.2.2⟩
 have:=r2.2.1
 show (qp (W.nk s k) (W.kf s k) r.1).1≤(qp (W.nk s k) (W.kf s k) r.2).2
 unfold qp
 omega
theorem Ew {α:Type} (g:Nat→List α) (k:Nat):((List.range (k+1)).flatMap g).length=((List.range k).flatMap g).length+(g k).length:=by
 rw [fy,List.flatMap_append,aR];simp
theorem ae6 {α:Type} (g:Nat→List α) {k n:Nat} (h:k<n):((List.range k).flatMap g).length+(g k).length≤((List.range n).flatMap g).length:=by
 induction n with
 |zero=>omega
 |succ n ih =>
  rw [Ew g n]
  by_cases hk:k=n
  ·subst hk;exact aD _
  ·have:=ih oO;omega
theorem flat_get {α:Type} (g:Nat→List α) {k n j:Nat} {x:α} (h:k<n) (hj:(g k)[j]?=some x):((List.range n).flatMap g)[((List.range k).flatMap g).length+j]?=some x:=by
 have hjl:=(List.getElem?_eq_some_iff.1 hj).1
 induction n with
 |zero=>omega
 |succ n ih =>
  rw [fy,List.flatMap_append]
  by_cases hk:k=n
  ·subst hk
   rw [bE oO,Nat.add_sub_cancel_left];simpa using hj
  ·have:=ae6 g (show k<n by omega)
   rw [bR oO];exact ih oO
theorem Qi {n m:Nat} (h:n≤m) {o:aB} (hc:fO n o):fO m o:=by
 have hv:∀ v,closed n v=true→okV v=true→closed m v=true:=fun v h1 h2=>rQ (qA (π:=fun i=>⟨i,0,0⟩) (fun _ _=>rfl) h v h1 h2)
 have hl:∀ cs,dP n cs=true∧okL cs=true→dP m cs=true∧okL cs=true:=fun cs h=>⟨(ou _ _).2 fun v a=>hv v ((ou _ _).1 h.1 v a) ((OC _).1 h.2 v a),h.2⟩
 cases o with
 |dead=>trivial
 |ro cs=>exact hl cs hc
 |rw cs=>exact hl cs hc
 |gr cs t=>exact hl cs hc
 |dfr=>trivial
 |loop=>exact fun t v a=>⟨hv v (hc t v a).1 (hc t v a).2,(hc t v a).2⟩
 |map es=>exact fun p hp=>⟨hv _ (hc p hp).1 (hc p hp).2,(hc p hp).2⟩
 |iter k s=>exact fi hc h
 |deep qs sp=>exact fun x hx=>⟨hv _ (hc x hx).1 (hc x hx).2,(hc x hx).2⟩
theorem zi {n m:Nat} (h:n≤m):∀ {σ:Heap},fJ n σ→fJ m σ
 |[],_=>trivial
 |_::_,hc=>⟨Qi h hc.1,zi h hc.2⟩
theorem AP {n:Nat}:∀ {A X:Heap},fJ n A→fJ n X→fJ n (A++X)
 |[],_,_,h=>h
 |_::_,_,h1,h2=>⟨h1.1,AP h1.2 h2⟩
theorem xJ {n:Nat}:∀ {A X:Heap},fJ n (A++X)→fJ n X
 |[],_,h=>h
 |_::r,_,h=>xJ (A:=r) h.2
end Go.AH.Heat
namespace Go.Proofs.YtajpgeklmcjciaaGreat
open Go Go.AH
attribute [local irreducible] bZ bK bM jB gy dO fC bW eU aX dV eH
open Go.AH.Heat
theorem uw {A B:Prop} (k:B) (h:Hide B→A:=by intro h_k_;(repeat' (first|refine sCm ?_|(refine gU ?_;first|(refine bV ?_;first|refine st (aK rfl (by first|exact aF (aA a0)|exact hw _)) rfl rfl ?_|refine st (bD rfl (by exact hd1)) rfl rfl ?_)|refine sK0 ?_|(refine yP ?_;refine st (kW rfl) rfl rfl ?_)|refine sK1 ?_|(refine dX ?_;refine st (bG rfl rfl rfl (by exact hf3)) rfl rfl ?_)|(refine gV ?_;refine stN (bU rfl rfl rfl rfl (by exact hput _)) rfl ?_))|(refine fU ?_;first|refine frA (bD rfl (by exact hq13 _)) rfl ?_ rfl|refine frA (eP rfl) rfl ?_ hcy|refine frA (eP rfl) rfl ?_ (hcs (by assumption))|refine frA (WH rfl rfl rfl (aA hrecH) hrne hn0 (aD _)) rfl ?_ hcz|refine frNA (by kernel_rfl) (WI (by rfl) (by rfl) rfl (by exact hcr _) rfl (by exact hcn _ rfl) (cU _) (by omega) (by omega)) uV (aW hpl).1 hpo rfl ?_|refine frA (bD rfl (by exact hq12 _)) rfl ?_ hck|refine frA (aK rfl (aF (aA b7))) rfl ?_ rfl|refine frA (eP rfl) rfl ?_ (hcl (by assumption))|refine frA (aK rfl (aF (aA a0))) rfl ?_ (hcs (by assumption))|refine frA (jT rfl) rfl ?_ (hcl (by assumption))|refine frA (aZ rfl) rfl ?_ (hcl (by assumption))|refine frA (iV rfl rfl (by omega)) rfl ?_ (hcl (by assumption))|refine JQ ?_|(refine gB ?_;refine frA (bD rfl (by exact hqX _)) rfl ?_)|(refine fAdd ?_;refine frA (qP rfl rfl (by omega)) rfl ?_)|(refine Ro ?_;refine frA (lJ rfl) rfl ?_)|(refine ad7 ?_;refine frA (kW rfl) rfl ?_)|(refine aaS ?_;refine frA (ER rfl rfl) rfl ?_)|(refine EX ?_;refine frA (oG (by rfl) rfl (by rfl)) rfl ?_)|(refine qF ?_;refine frA (bG rfl rfl rfl (by first|exact hfa _|exact hfb _|exact hf1 _)) rfl ?_)|(refine zV ?_;refine fr1 (kC rfl) rfl rfl rfl ?_)|refine VU ?_)|(refine fP ⟨by kernel_rfl,?_⟩)|refine dB (id:=1) ?_|refine dB (id:=8) ?_|refine dB (id:=9) ?_|refine aG ?_|refine dZ rfl ?_|refine eu rfl ?_));exact h_k_.h):A:=h ⟨k⟩
theorem ZY {W:Wk} {m:Int×Int} (hv:uf W) (hm:jM m) {tb fb rb bB cB bS cS lo:Nat} {wB cW:Nat→Nat} {kB cK:Nat→Nat→Nat} (d:Nat):∀ {σ:Heap} {s ib n l N' p1:Nat} {e':Env} {assign body:Code} {rec:List Nat} {r:Int×Int} (S:Nat→Heap) (hs:s+d=W.ns) (hr:jM r)
  (h0:S 0=σ) (hlen:∀ j,(S j).length=σ.length) (hT:∀ j,sH (S j) W m tb fb rb bB cB bS cS wB cW kB cK) (hrec:∀ j,(S j)[ib]?=some (.rw (gu rec))) (hn:rec.length=n∧0<n∧n+d≤100) (hlo:lo≤ib∧lo≤σ.length)
  (hL:∀ j,(S j)[l]?=some (.loop .ready none N' e' [p1].toArray assign body)) (hcl:fJ σ.length σ→∀ j,fJ σ.length (S j)) (hps:Nat.blt p1 N'=true)
  (hround:∀ (j:Nat) (hj:j<(W.recs m d s r).length) (X:Heap) (QB:Post) (iq:Nat),X.all (fun o=>!aU o)=true→lo≤iq→(S j++X)[iq]?=some (.rw (gu (rec++(W.recs m d s r)[j])))→(∀ e1 mk1 Y,QB .normal e1 mk1 ((S (j+1)).set l (.loop .busy none N' e' [p1].toArray assign body)++X++Y)) →
   bK Tryz.prog (σ.length+X.length) N' (some l) assign (dV Tryz.prog (σ.length+X.length) N' l body QB) (lT [p1] [.s iq (n+d) (n+d)] e') [] (S j++X)),
  Ev Tryz.prog 298 [.p tb,.i (s:Nat),.agg #[.i r.1,.i r.2],.s ib n n,.func (.yield l) #[] #[]] σ (.bool true) (S (W.recs m d s r).length):=by
 induction d with
 |zero =>
  intro σ s ib n l N' p1 e' assign body rec r S hs hr h0 hlen hT hrec hn hlo hL hcl hps hround
  have M:=hv.s
  refine aI σ.length 77 Tryz.func298 rfl rfl rfl rfl rfl ?_
  refine ZM fun f=>?_
  have e:=hcl f
  clear f hcl
  rw [← h0]
  have ag:l<(S 0).length:=aQ (hL 0)
  have ax:tb<(S 0).length:=aQ (hT 0).t
  have b4:rb<(S 0).length:=aQ (hT 0).r
  have b5:bS<(S 0).length:=(hT 0).bS
  have D:ib<(S 0).length:=aQ (hrec 0)
  refine uw ?_
  obtain ⟨H,hH⟩:∃ H,H=S 0++[aB.rw [.i r.1,.i r.2]]:=⟨_,rfl⟩
  refine .mk (dH [(0,.p tb),(1,.i (s:Nat)),(3,.s ib n n),(4,.func (.yield l) #[] #[]),(7,.p ((S 0).length)),(10,.bool false)] H hH.symm tE ?_)
  have hp:H.take (S 0).length=S 0:=by rw [hH];simp
  have P:H.length=(S 0).length+1:=by rw [hH];simp
  have g:=(hT 0).take hp
  have a0:=g.t
  have a7:H[(S 0).length]?=some (.rw [.i r.1,.i r.2]):=by rw [hH];exact aO
  have hqX:∀ X,aJ (H++X) (S 0).length 0 2=some [.i r.1,.i r.2]:=fun X=>aV (aA a7) rfl
  have hrecH:H[ib]?=some (.rw (gu rec)):=by rw [iY hp D];exact hrec 0
  have hf1:=fun X=>yx (σ:=H++X) (lG (i:=s) (.inl (aA g.r)) (fun j _=>lH hv.ok hm j) oO) (lH hv.ok hm s) hr.1 hr.2.2 (by have:=hr.2.1;omega)
  have hcl:∀ {q o:Nat},q<(S 0).length→closed H.length (.pointer (some ⟨q,o,none⟩))=true:=fun {q o} h=>(show Nat.blt q H.length=true from Nat.blt_eq.mpr oO)
  have hcs:∀ {q o n c:Nat},q<(S 0).length→closed H.length (.slice (some ⟨q,o,none⟩) n c)=true:=fun h=>bP (Nat.blt_eq.mpr oO)
  have G:fJ (S 0).length (S 0):=by have:=e 0;rwa [← h0] at this
  by_cases u:jK r.1 r.2 (W.jS m s)=true
  ·have a:W.recs m 0 s r=[[]]:=by unfold Wk.recs;rw [if_pos u]
   simp only [u] at hf1
   refine fA oK rfl ?_
   refine uw ?_
   rw [show H++gJ (fun _=>true) []=H from bL H]
   have av:∀ h:0<(W.recs m 0 s r).length,(W.recs m 0 s r)[0]'h=[]:=by rw [a];intro h;rfl
   have ao:H[l]?=some (.loop .ready none N' e' [p1].toArray assign body):=by rw [hH];exact aA (hL 0)
   have b1:0<(W.recs m 0 s r).length:=by rw [a];exact cU _
   have R:=hround 0 b1 [aB.rw [.i r.1,.i r.2]]
   rw [← hH,av,bL] at R
   refine Aa (ps:=[p1]) rfl rfl ao rfl (by simp [hps]) rfl ?_
   rw [show H.length=σ.length+[aB.rw [.i r.1,.i r.2]].length by rw [P,h0];rfl]
   refine R _ ib rfl hlo.1 hrecH fun e1 mk1 Y=>?_
   have aq:l<(S 1).length:=by rw [hlen,← hlen 0];exact ag
   have hg:(((S 1).set l (aB.loop .busy none N' e' #[p1] assign body))++[aB.rw [.i r.1,.i r.2]]++Y)[l]?=some (aB.loop .busy none N' e' #[p1] assign body):=aA (aA (aS (hL 1)))
   refine yw hg rfl ?_
   have ae:(((S 1).set l (aB.loop .busy none N' e' #[p1] assign body))++[aB.rw [.i r.1,.i r.2]]++Y).set l (l9 .ready none (aB.loop .busy none N' e' #[p1] assign body))=S 1++([aB.rw [.i r.1,.i r.2]]++Y):=by
    rw [cD,cH _ _ (oU aq),cX]
    simp only [l9]
    rw [set_self (hL 1)]
   rw [ae]
   have aa:fJ (S 1).length (S 1):=by have:=e 1;rwa [← hlen 1] at this
   have hnn:W.ns=s:=oO
   refine uw ?_
   rw [a]
   exact dK (v2:=.bool true) (.tmp rfl .nil) (aX.dropAll (by rw [hlen,hlen]) aa rfl) ⟨rfl,rfl⟩
  ·have V:jK r.1 r.2 (W.jS m s)=false:=by simpa using u
   have a:W.recs m 0 s r=[]:=by unfold Wk.recs;rw [if_neg u]
   simp only [V] at hf1
   refine fA oK rfl ?_
   refine uw ?_
   rw [show H++gJ (fun _=>true) []=H from bL H,a,hH]
   exact dK (v2:=.bool true) (.tmp rfl .nil) (aX.dropAll rfl G rfl) ⟨rfl,rfl⟩
 |succ d ih =>
  intro σ s ib n l N' p1 e' assign body rec r S hs hr h0 hlen hT hrec hn hlo hL hcl hps hround
  have M:=hv.s
  refine aI σ.length 77 Tryz.func298 rfl rfl rfl rfl rfl ?_
  refine ZM fun f=>?_
  have e:=hcl f
  clear f hcl
  rw [← h0]
  have ag:l<(S 0).length:=aQ (hL 0)
  have ax:tb<(S 0).length:=aQ (hT 0).t
  have b4:rb<(S 0).length:=aQ (hT 0).r
  have b5:bS<(S 0).length:=(hT 0).bS
  have D:ib<(S 0).length:=aQ (hrec 0)
  refine uw ?_
  obtain ⟨H,hH⟩:∃ H,H=S 0++[aB.rw [.i r.1,.i r.2]]:=⟨_,rfl⟩
  refine .mk (dH [(0,.p tb),(1,.i (s:Nat)),(3,.s ib n n),(4,.func (.yield l) #[] #[]),(7,.p ((S 0).length)),(10,.bool false)] H hH.symm tE ?_)
  have hp:H.take (S 0).length=S 0:=by rw [hH];simp
  have P:H.length=(S 0).length+1:=by rw [hH];simp
  have g:=(hT 0).take hp
  have a0:=g.t
  have a7:H[(S 0).length]?=some (.rw [.i r.1,.i r.2]):=by rw [hH];exact aO
  have hqX:∀ X,aJ (H++X) (S 0).length 0 2=some [.i r.1,.i r.2]:=fun X=>aV (aA a7) rfl
  have hrecH:H[ib]?=some (.rw (gu rec)):=by rw [iY hp D];exact hrec 0
  have hf1:=fun X=>yx (σ:=H++X) (lG (i:=s) (.inl (aA g.r)) (fun j _=>lH hv.ok hm j) oO) (lH hv.ok hm s) hr.1 hr.2.2 (by have:=hr.2.1;omega)
  have hcl:∀ {q o:Nat},q<(S 0).length→closed H.length (.pointer (some ⟨q,o,none⟩))=true:=fun {q o} h=>(show Nat.blt q H.length=true from Nat.blt_eq.mpr oO)
  have hcs:∀ {q o n c:Nat},q<(S 0).length→closed H.length (.slice (some ⟨q,o,none⟩) n c)=true:=fun h=>bP (Nat.blt_eq.mpr oO)
  have G:fJ (S 0).length (S 0):=by have:=e 0;rwa [← h0] at this
  by_cases u:jK r.1 r.2 (W.jS m s)=true
  ·have a:W.recs m (d+1) s r=(List.range (W.nw s)).flatMap fun k=>(W.recs m d (s+1) (W.nxt s k r)).map (k::·):=by conv=>lhs;unfold Wk.recs;rw [if_pos u]
   simp only [u] at hf1
   have E:s<W.ns:=oO
   have hnsI:¬ ((s:Nat):Int)=(W.ns:Nat):=oO
   have hw:∀ X,aH (H++X) bS (s+0)=some (.s (wB s) (W.nw s) (cW s)):=fun X=>fQ (k:=0) ((g.w.take (aT (eZ (l:=H)))).steps s E) oO
   refine fA oK rfl ?_
   refine uw ?_
   rw [show H++gJ (fun _=>true) []=H from bL H]
   clear hf1 hcl hcs hqX hw hrecH a7 a0 g
   refine dS (ι:=Nat) (fun k=>[(0,.p tb),(1,.i (s:Nat)),(3,.s ib n n),(4,.func (.yield l) #[] #[]),(7,.p ((S 0).length)),(42,.s (wB s) (W.nw s) (cW s)),(43,.i (W.nw s:Nat)),(44,.i (k:Nat))])
    (fun k mk H=>k≤W.nw s∧mk=[]∧∃ Z:Heap,Z.all (fun o=>!aU o)=true∧H=S (((List.range k).flatMap fun k=>(W.recs m d (s+1) (W.nxt s k r)).map (k::·)).length)++([aB.rw [.i r.1,.i r.2]]++Z)) (fun k=>W.nw s - k) 0 tE ⟨bN _,rfl,[],rfl,hH⟩ ?_
   clear hp P hH H
   rintro k mk H ⟨hk,rfl,Z,hZ,hH⟩
   obtain ⟨b,hb⟩:∃ b,b=((List.range k).flatMap fun k=>(W.recs m d (s+1) (W.nxt s k r)).map (k::·)).length:=⟨_,rfl⟩
   rw [← hb] at hH
   have hp:H.take (S b).length=S b:=by rw [hH];simp
   have ai:(S b).length=(S 0).length:=by rw [hlen,hlen]
   have g:=(hT b).take hp
   have a7:H[(S 0).length]?=some (.rw [.i r.1,.i r.2]):=by rw [hH,← ai,bE oO,cY];rfl
   have P:=take_len hp
   have hHl2:=aQ a7
   by_cases J:k<W.nw s
   ·have b6:(k:Int)<(W.nw s:Nat):=oO
    have hd1:aJ H (wB s) k 1=some [.s (kB s k) (W.nk s k) (cK s k)]:=g.w.ways s E k J
    have hput:∀ c,putCells (H++[aB.rw [c]]) H.length 0 [.s (kB s k) (W.nk s k) (cK s k)]=some (H++[aB.rw [.s (kB s k) (W.nk s k) (cK s k)]]):=fun c=>iW (aD _) (cU _)
    refine uw ?_
    obtain ⟨H1,K⟩:∃ H1,H1=H++[aB.rw [.s (kB s k) (W.nk s k) (cK s k)]]:=⟨_,rfl⟩
    refine .mk (dH [(0,.p tb),(1,.i (s:Nat)),(3,.s ib n n),(4,.func (.yield l) #[] #[]),(7,.p ((S 0).length)),(42,.s (wB s) (W.nw s) (cW s)),(43,.i (W.nw s:Nat)),(44,.i (k:Nat)),(11,.i (k:Nat)),(12,.p H.length)] H1 K.symm tE ?_)
    have ar:H1.take (S b).length=S b:=by rw [K];exact aT hp
    have U:=(hT b).take ar
    have b7:H1[(S 0).length]?=some (.rw [.i r.1,.i r.2]):=by rw [K];exact aA a7
    have ah:H1[H.length]?=some (.rw [.s (kB s k) (W.nk s k) (cK s k)]):=by rw [K];exact aO
    have hH1l:H1.length=H.length+1:=by rw [K];simp
    have F:=hv.k s E k J
    have ap:kB s k<H1.length:=dJ (U.w.kinks s E k J 0 F.n1)
    have ac:∀ X,BD (H1++X) (kB s k) (W.nk s k) (W.kf s k):=fun X q hq=>(U.w.take (aT (eZ (l:=H1)))).kinks s E k J q hq
    have hfa:=fun X=>AO (σ:=H1++X) (c:=cK s k) (h:=r.1) F.n1 (by have:=F.n2;omega) (by rw [F.z];exact hr.1) (ac X)
    have hfb:=fun X=>AO (σ:=H1++X) (c:=cK s k) (h:=r.2) F.n1 (by have:=F.n2;omega) (by rw [F.z];have:=hr.1;have:=hr.2.1;omega) (ac X)
    have hq12:∀ X,aJ (H1++X) H.length 0 1=some [.s (kB s k) (W.nk s k) (cK s k)]:=fun X=>aV (aA ah) rfl
    have hck:closed H1.length (.agg #[.s (kB s k) (W.nk s k) (cK s k)])=true:=by
     have:=bP (n:=H1.length) (i:=kB s k) (o:=0) (l:=W.nk s k) (c:=cK s k) (Nat.blt_eq.mpr ap)
     simp [closed,iZ,dP,this]
    have hcl:∀ {q o:Nat},q<H1.length→closed H1.length (.pointer (some ⟨q,o,none⟩))=true:=fun {q o} h=>(show Nat.blt q H1.length=true from Nat.blt_eq.mpr h)
    have a3:(S 0).length<H1.length:=oO
    have T:H.length<H1.length:=oO
    have C:∀ c c' x y,putCells (H1++[aB.rw [c,c']]) H1.length 0 [x,y]=some (H1++[aB.rw [x,y]]):=fun c c' x y=>iW (aD _) (cU _)
    refine fA oK rfl ?_
    refine uw ?_
    rw [show (H1++gJ (bT #[]) []).length=H1.length from congrArg List.length (bL H1)]
    refine stN (bU (size:=2) (v:=.agg #[.i (W.nxt s k r).1,.i (W.nxt s k r).2]) rfl rfl (by exact rfl) (by exact rfl) (by exact C _ _ _ _)) rfl ?_
    refine kP ?_
    refine tC ?_
    refine uw ?_
    obtain ⟨H2,N⟩:∃ H2,H2=H1++[aB.rw [.i (W.nxt s k r).1,.i (W.nxt s k r).2]]:=⟨_,rfl⟩
    refine .mk (dH [(0,.p tb),(1,.i (s:Nat)),(3,.s ib n n),(4,.func (.yield l) #[] #[]),(7,.p ((S 0).length)),(42,.s (wB s) (W.nw s) (cW s)),(43,.i (W.nw s:Nat)),(44,.i (k:Nat)),(11,.i (k:Nat)),(13,.p H1.length)] H2 N.symm tE ?_)
    clear hfa hfb hq12 hck hcl C b7 ah U ac a3 T hput
    obtain ⟨nx,Q⟩:∃ nx,nx=W.nxt s k r:=⟨_,rfl⟩
    rw [← Q] at N
    obtain ⟨Z2,L,au⟩:∃ Z2:Heap,Z2.all (fun o=>!aU o)=true∧H2=S b++([aB.rw [.i r.1,.i r.2]]++Z2):=⟨Z++[aB.rw [.s (kB s k) (W.nk s k) (cK s k)]]++[aB.rw [.i nx.1,.i nx.2]],bF (bF hZ rfl) rfl,by rw [N,K,hH];simp⟩
    obtain ⟨X2,I⟩:∃ X2:Heap,X2=[aB.rw [.i r.1,.i r.2]]++Z2:=⟨_,rfl⟩
    have a8:X2.all (fun o=>!aU o)=true:=by rw [I];exact bF rfl L
    have ad:H2=S b++X2:=by rw [I];exact au
    have b3:H2[H1.length]?=some (.rw [.i nx.1,.i nx.2]):=by rw [N];exact aO
    have hH2l:H2.length=H1.length+1:=by rw [N];simp
    have hrecH:H2[ib]?=some (.rw (gu rec)):=by rw [ad];exact aA (hrec b)
    have hrne:gu rec ≠ []:=fun h=>by have:=congrArg List.length h;rw [wH] at this;simp at this;have:=hn.1;have:=hn.2.1;simp_all
    have hn0:=hn.2.1
    have hn1:=hn.2.2
    have hq13:∀ X,aJ (H2++X) H1.length 0 2=some [.i nx.1,.i nx.2]:=fun X=>aV (aA b3) rfl
    have hcl:∀ {q o:Nat},q<(S 0).length→closed H2.length (.pointer (some ⟨q,o,none⟩))=true:=fun {q o} h=>(show Nat.blt q H2.length=true from Nat.blt_eq.mpr oO)
    have hcs:∀ {q o n c:Nat},q<(S 0).length→closed H2.length (.slice (some ⟨q,o,none⟩) n c)=true:=fun h=>bP (Nat.blt_eq.mpr oO)
    have hcz:closed H2.length (.slice (some ⟨ib,0,some 0⟩) n n)=true:=(show Nat.blt ib H2.length=true from Nat.blt_eq.mpr oO)
    have hcy:closed H2.length (.func (.yield l) #[] #[])=true:=by simp [closed,iZ,dP];omega
    have hcr:∀ X,aJ (H2++X) ib 0 (n*1)=some (gu rec):=fun X=>aV (aA hrecH) (by rw [wH];omega)
    have hcn:∀ X:Heap,X=[]→aJ (H2++[aB.rw [.i (k:Nat)]]) (H2++X).length 0 (1*1)=some [.i (k:Nat)]:=fun X hX=>by subst hX;rw [bL];exact dU rfl
    have hpl:dL (gu rec++[.i (k:Nat)])=true:=by rw [← BA];exact oM _
    have hpo:=(aW (n:=0) hpl).2
    have hk64:(k:Int)<9223372036854775807:=by have:=hv.w2 s E;omega
    have hs6:=M
    have a9:jM nx:=by rw [Q];exact acT hv E J hr
    obtain ⟨X3,O⟩:∃ X3,X3=X2++[aB.rw [.i (k:Nat)],aB.rw (gu rec++[.i (k:Nat)])]:=⟨_,rfl⟩
    have a4:X3.all (fun o=>!aU o)=true:=by rw [O];exact bF a8 rfl
    have b2:H2++[aB.rw [.i (k:Nat)],aB.rw (gu rec++[.i (k:Nat)])]=S b++X3:=by rw [ad,O,cD]
    have am:∀ i,(S (b+i)++X3).length=(S b++X3).length:=fun i=>by rw [aR,aR,hlen,hlen]
    have a6:∀ i,(S (b+i)++X3)[(H2++[aB.rw [.i (k:Nat)]]).length]?=some (.rw (gu (rec++[k]))):=fun i=>by
     have e1:(H2++[aB.rw [.i (k:Nat)]]).length=(S (b+i)).length+(X2.length+1):=by rw [ad];simp [hlen]
     rw [e1,bE oO,O,BA,bE oO]
     simp
    have an:∀ i,l<(S i).length:=fun i=>aQ (hL i)
    have hf3:=ih (σ:=S b++X3) (s:=s+1) (ib:=(H2++[aB.rw [.i (k:Nat)]]).length) (n:=n+1) (l:=l) (N':=N') (p1:=p1) (e':=e') (assign:=assign) (body:=body) (rec:=rec++[k]) (r:=nx) (fun i=>S (b+i)++X3) oO a9 rfl am
     (fun i=>(hT (b+i)).take (aT eZ)) a6 ⟨by rw [aR,hn.1];rfl,oO,oO⟩ ⟨by have:=hlo.2;simp;omega,by have:=hlo.2;rw [aR,hlen];omega⟩ (fun i=>aA (hL (b+i))) (fun h i=>AP (zi (by rw [aR,hlen];omega) (e (b+i))) (xJ (A:=S b) h)) hps (fun j hj X QB iq ak az aw hQ=>by
      have ay:((fun k=>(W.recs m d (s+1) (W.nxt s k r)).map (k::·)) k)[j]?=some (k::(W.recs m d (s+1) nx)[j]):=by
       show ((W.recs m d (s+1) (W.nxt s k r)).map (k::·))[j]?=_
       rw [← Q,cN,cC hj];rfl
      have af:=flat_get (fun k=>(W.recs m d (s+1) (W.nxt s k r)).map (k::·)) J ay
      rw [← hb,← a] at af
      obtain ⟨al,aj⟩:=List.getElem?_eq_some_iff.1 af
      have R:=hround (b+j) al (X3++X) QB iq (bF a4 ak) az (by rw [aj,← cD];simpa using aw) (fun e1 mk1 Y=>by
       have h1:=hQ e1 mk1 Y
       rw [cH _ _ (an _)] at h1
       rw [← cD];exact h1)
      rw [show n+1+d=n+(d+1) by omega,show (S b++X3).length+X.length=σ.length+(X3++X).length by rw [aR,aR,hlen];omega,cD]
      exact R)
    rw [← b2] at hf3
    refine fA oK rfl ?_
    refine uw ?_
    refine ⟨k+1,⟨oO,rfl,Z2++[aB.rw [.i (k:Nat)],aB.rw (gu rec++[.i (k:Nat)])],bF L rfl,?_⟩,oO,tE⟩
    rw [Ew,← hb,cQ,← Q,O,I];simp
   ·obtain rfl:k=W.nw s:=oO
    have b6:¬ ((W.nw s:Nat):Int)<(W.nw s:Nat):=oO
    have a5:fJ (S b).length (S b):=by have:=e b;rwa [← hlen b] at this
    refine uw ?_
    rw [a,← hb,hH]
    exact dK (v2:=.bool true) (.tmp rfl .nil) (aX.dropAll ai.symm a5 rfl) ⟨rfl,rfl⟩
  ·have V:jK r.1 r.2 (W.jS m s)=false:=by simpa using u
   have a:W.recs m (d+1) s r=[]:=by unfold Wk.recs;rw [if_neg u]
   simp only [V] at hf1
   refine fA oK rfl ?_
   refine uw ?_
   rw [show H++gJ (fun _=>true) []=H from bL H,a,hH]
   exact dK (v2:=.bool true) (.tmp rfl .nil) (aX.dropAll rfl G rfl) ⟨rfl,rfl⟩
end Go.Proofs.YtajpgeklmcjciaaGreat
namespace Go.AH.Heat
open Go Go.AH
theorem Df {α:Type} {g:Nat→List α} {c:Nat}:∀ n,(∀ k<n,(g k).length≤c)→((List.range n).flatMap g).length≤n*c
 |0,_=>by simp
 |n+1,h=>by
  have ih:=Df (c:=c) n fun k hk=>h k oO
  have:=h n oO
  rw [Ew,Nat.succ_mul];omega
def Wk.allR (W:Wk) (m:Int×Int):List (List Nat):=(List.range W.nb).flatMap fun b=>(W.recs m W.ns 0 (W.bf b)).map (b::·)
theorem Ua {W:Wk} (hv:uf W) {m:Int×Int}:∀ (d s:Nat) (r:Int×Int),s+d=W.ns→(W.recs m d s r).length≤5 ^ d
 |0,s,r,_=>by unfold Wk.recs;split <;> simp
 |d+1,s,r,h=>by
  unfold Wk.recs
  split
  ·have hw:=hv.w2 s oO
   have h1:=Df (g:=fun k=>(W.recs m d (s+1) (W.nxt s k r)).map (k::·)) (c:=5 ^ d) (W.nw s) fun k _=>by rw [cQ];exact Ua hv d (s+1) _ oO
   have h2:W.nw s*5 ^ d≤5*5 ^ d:=fh _ hw
   rw [Nat.pow_succ];omega
  ·exact bN _
theorem Ub {W:Wk} (hv:uf W) {m:Int×Int}:(W.allR m).length≤93750:=by
 have h1:=Df (g:=fun b=>(W.recs m W.ns 0 (W.bf b)).map (b::·)) (c:=5 ^ W.ns) W.nb fun k _=>by rw [cQ];exact Ua hv W.ns 0 _ oO
 have h2:5 ^ W.ns≤5 ^ 6:=Nat.pow_le_pow_right oD hv.s
 have h3:W.nb*5 ^ W.ns≤6*5 ^ 6:=Nat.mul_le_mul hv.b2 h2
 unfold Wk.allR
 have h4:6*5 ^ 6=93750:=rfl
 omega
theorem Uc {W:Wk} {m:Int×Int}:∀ (d s:Nat) (r:Int×Int),∀ l ∈ W.recs m d s r,l.length=d
 |0,s,r,l,h=>by
  unfold Wk.recs at h
  split at h
  ·simp at h;rw [h];rfl
  ·simp at h
 |d+1,s,r,l,h=>by
  unfold Wk.recs at h
  split at h
  ·obtain ⟨k,_,h2⟩:=List.mem_flatMap.1 h
   obtain ⟨l',h3,rfl⟩:=List.mem_map.1 h2
   rw [eg,Uc d (s+1) _ l' h3]
  ·simp at h
theorem Ud {W:Wk} {m:Int×Int} {l:List Nat} (h:l ∈ W.allR m):l.length=W.ns+1:=by
 obtain ⟨k,_,h2⟩:=List.mem_flatMap.1 h
 obtain ⟨l',h3,rfl⟩:=List.mem_map.1 h2
 rw [eg,Uc _ _ _ l' h3]
def WJ (M:mg) (k:Int×Int):Int:=match iH M k with|some (.int .i64 c)=>c|_=>0
def inc1 (M:mg) (k:Int×Int):mg:=lN M k (.int .i64 (WJ M k+1))
def Qj (M:mg) (rec:List Nat):Nat→mg
 |0=>M
 |i+1=>inc1 (Qj M rec i) ((i:Int) - 1,((rec.getD i 0:Nat):Int))
def zn (M:mg) (l:List (List Nat)):Nat→mg
 |0=>M
 |j+1=>Qj (zn M l j) (l.getD j []) (l.getD j []).length
def BQ (M:mg) (c:Int):Prop:=∀ q ∈ M,∃ x:Int,q.2=.int .i64 x∧0≤x∧x≤c
theorem Yw {M:mg} {c:Int} (h:BQ M c) (hc:0≤c) (k:Int×Int):(iH M k=some (.i (WJ M k))∨iH M k=none∧WJ M k=0)∧0≤WJ M k∧WJ M k≤c:=by
 unfold WJ
 cases hg:iH M k with
 |none=>exact ⟨.inr ⟨rfl,rfl⟩,dE _,hc⟩
 |some v =>
  unfold iH at hg
  split at hg
  ·obtain ⟨q,h1,h2⟩:=Option.map_eq_some_iff.1 hg
   obtain ⟨x,h3,h4,h5⟩:=h q (ew h1)
   rw [h3] at h2
   subst h2
   exact ⟨.inl rfl,h4,h5⟩
  ·cases hg
theorem acU {M:mg} {c:Int} (h:BQ M c) (k:Int×Int) {x:Int} (hx:0≤x) (hxc:x≤c+1):BQ (lN M k (.i x)) (c+1):=by
 intro q hq
 have e:q ∈ M→∃ y:Int,q.2=.i y∧0≤y∧y≤c+1:=fun h1=>by
  obtain ⟨y,a,b,d⟩:=h q h1
  exact ⟨y,a,b,oO⟩
 unfold lN at hq
 split at hq
 ·rcases List.mem_or_eq_of_mem_set hq with h1|rfl
  ·exact e h1
  ·exact ⟨x,rfl,hx,hxc⟩
 ·rcases List.mem_append.1 hq with h1|h1
  ·exact e h1
  ·simp only [fc] at h1
   subst h1
   exact ⟨x,rfl,hx,hxc⟩
theorem Qk {M:mg} {c:Int} (h:BQ M c) (hc:0≤c) (rec:List Nat):∀ i:Nat,BQ (Qj M rec i) (c+i)
 |0=>by simpa [Qj] using h
 |i+1=>by
  have ih:=Qk h hc rec i
  have hg:=(Yw ih oO ((i:Int) - 1,((rec.getD i 0:Nat):Int))).2
  have:=acU ih ((i:Int) - 1,((rec.getD i 0:Nat):Int)) (x:=WJ (Qj M rec i) ((i:Int) - 1,((rec.getD i 0:Nat):Int))+1) oO oO
  rw [show c+((i+1:Nat):Int)=c+i+1 by omega]
  exact this
theorem Yx {M:mg} (h:BQ M 0) {l:List (List Nat)} {n:Nat} (hl:∀ r ∈ l,r.length=n):∀ j≤l.length,BQ (zn M l j) ((j*n:Nat):Int)
 |0,_=>by simpa [zn] using h
 |j+1,hj=>by
  have ih:=Yx h hl j oO
  have a:(l.getD j []).length=n:=by
   rw [cE,cC oO,Option.getD_some]
   exact hl _ (cP _)
  have:=Qk ih oO (l.getD j []) (l.getD j []).length
  rw [a] at this
  unfold zn
  rw [a,show (((j+1)*n:Nat):Int)=((j*n:Nat):Int)+(n:Nat) by rw [Nat.succ_mul];omega]
  exact this
theorem Ue {M:mg} {c:Int} (h:BQ M c):∀ q ∈ M,plain q.2=true:=fun q hq=>by
 obtain ⟨x,h1,_⟩:=h q hq
 rw [h1];rfl
end Go.AH.Heat
namespace Go.Proofs.YtajpgeklmcjciaaGreat
open Go Go.AH
attribute [local irreducible] bZ bK bM jB gy dO fC bW eU aX dV eH
open Go.AH.Heat
theorem Ob {σ:Heap} {tb:Nat}:Ev Tryz.prog 281 [.p tb] σ (.func (.func 297) #[] #[.p σ.length]) (σ++[.rw [.p tb]]):=by
 refine aI σ.length 4 Tryz.func281 rfl rfl rfl rfl rfl ?_
 repeat' (first|refine sCm ?_|(refine gU ?_;refine sK7 ?_)|refine aG ?_)
 exact dK (.tmp rfl .nil) .all ⟨rfl,rfl⟩
theorem WL {A B:Prop} (k:B) (h:Hide B→A:=by intro h_k_;(repeat' (first|refine sCm ?_|(refine gU ?_;first|(refine bV ?_;first|refine st (aK rfl (by first|exact hc1|exact hc2|exact aF a0)) rfl rfl ?_|refine st (bD rfl (by first|exact hd1|exact dU rfl)) rfl rfl ?_)|refine sK0 ?_|(refine yP ?_;refine st (kW rfl) rfl rfl ?_)|refine sK3 ?_|(refine dX ?_;refine st (bG rfl rfl rfl (by exact hf3)) rfl rfl ?_)|refine Hw ?_|(refine gV ?_;refine stN (bU rfl rfl rfl rfl (by exact hput _ _)) rfl ?_))|refine aG ?_|refine dZ rfl ?_|refine eu rfl ?_));exact h_k_.h):A:=h ⟨k⟩
theorem G7 {W:Wk} {m:Int×Int} (hv:uf W) (hm:jM m) {σ:Heap} {l ib tb fb rb bB cB bS cS N' p1:Nat} {wB cW:Nat→Nat} {kB cK:Nat→Nat→Nat} {e':Env} {assign body:Code} {R:Value→Heap→Prop} (S:Nat→Heap)
  (h0:S 0=σ) (hlen:∀ j,(S j).length=σ.length) (hib:∀ j,aJ (S j) ib 0 1=some [.p tb]) (hT:∀ j,sH (S j) W m tb fb rb bB cB bS cS wB cW kB cK)
  (hL:∀ j,(S j)[l]?=some (.loop .ready none N' e' [p1].toArray assign body)) (hcl:fJ σ.length σ→∀ j,fJ σ.length (S j)) (hps:Nat.blt p1 N'=true)
  (hround:∀ (j:Nat) (hj:j<(W.allR m).length) (X:Heap) (QB:Post) (iq:Nat),X.all (fun o=>!aU o)=true→σ.length≤iq→(S j++X)[iq]?=some (.rw (gu ((W.allR m)[j])))→(∀ e1 mk1 Y,QB .normal e1 mk1 ((S (j+1)).set l (.loop .busy none N' e' [p1].toArray assign body)++X++Y)) →
   bK Tryz.prog (σ.length+X.length) N' (some l) assign (dV Tryz.prog (σ.length+X.length) N' l body QB) (lT [p1] [.s iq (1+W.ns) (1+W.ns)] e') [] (S j++X))
  (hR:R (.tuple #[]) (S (W.allR m).length)):eU Tryz.prog 297 [.func (.yield l) #[] #[],.p ib] σ R:=by
 refine aI σ.length 24 Tryz.func297 rfl rfl rfl rfl rfl ?_
 refine ZM fun e=>?_
 have a:=hcl e
 clear e hcl
 rw [← h0]
 have hll:l<(S 0).length:=aQ (hL 0)
 have hns3:=hv.s
 have hnb3:=hv.b2
 have hb:∀ j,aH (S j) ib (0+0)=some (.p tb):=fun j=>fQ (hib j) oO
 have hc1:=hb 0
 have a0:=(hT 0).t
 refine WL ?_
 clear hc1 a0
 refine dS (ι:=Nat) (fun k=>[(0,.func (.yield l) #[] #[]),(1,.p ib),(9,.s bB W.nb cB),(10,.i (W.nb:Nat)),(11,.i (k:Nat))])
  (fun k mk H=>k≤W.nb∧mk=[]∧∃ Z:Heap,Z.all (fun o=>!aU o)=true∧H=S (((List.range k).flatMap fun b=>(W.recs m W.ns 0 (W.bf b)).map (b::·)).length)++Z) (fun k=>W.nb - k) 0 tE ⟨bN _,rfl,[],rfl,by simp⟩ ?_
 rintro k mk H ⟨hk,rfl,Z,hZ,hH⟩
 obtain ⟨b,f⟩:∃ b,b=((List.range k).flatMap fun b=>(W.recs m W.ns 0 (W.bf b)).map (b::·)).length:=⟨_,rfl⟩
 rw [← f] at hH
 have hp:H.take (S b).length=S b:=by rw [hH];simp
 have L:(S b).length=(S 0).length:=by rw [hlen,hlen]
 have hHl:=take_len hp
 by_cases u:k<W.nb
 ·have E:(k:Int)<(W.nb:Nat):=oO
  have O:=hv.b k u
  have hd1:aJ H bB (0+k*2) 2=some [.i (W.bf k).1,.i (W.bf k).2]:=by rw [bA];exact ((hT b).take hp).w.bars k u
  have hput:∀ c c',putCells (H++[aB.rw [c,c']]) H.length 0 [.i (W.bf k).1,.i (W.bf k).2]=some (H++[aB.rw [.i (W.bf k).1,.i (W.bf k).2]]):=fun c c'=>iW (aD _) (cU _)
  have hc2:aH (H++[aB.rw [.i (W.bf k).1,.i (W.bf k).2]]) ib (0+0)=some (.p tb):=by rw [jP (by have:=dJ (hib b);omega),fQ (fH hp (hib b)) oO];rfl
  have b4:(H++[aB.rw [.i (W.bf k).1,.i (W.bf k).2]])[H.length]?=some (.rw [.i (W.bf k).1,.i (W.bf k).2]):=aO
  obtain ⟨X3,q⟩:∃ X3,X3=Z++[aB.rw [.i (W.bf k).1,.i (W.bf k).2]]++[aB.rw [.i (k:Nat)]]:=⟨_,rfl⟩
  have d:X3.all (fun o=>!aU o)=true:=by rw [q];exact bF (bF hZ rfl) rfl
  have G:H++[aB.rw [.i (W.bf k).1,.i (W.bf k).2]]++[aB.rw [.i (k:Nat)]]=S b++X3:=by rw [hH,q];simp
  have F:∀ i,(S (b+i)++X3).length=(S b++X3).length:=fun i=>by rw [aR,aR,hlen,hlen]
  have g:∀ i,(S (b+i)++X3)[(H++[aB.rw [.i (W.bf k).1,.i (W.bf k).2]]).length]?=some (.rw (gu [k])):=fun i=>by
   have e1:(H++[aB.rw [.i (W.bf k).1,.i (W.bf k).2]]).length=(S (b+i)).length+(Z.length+1):=by rw [hH];simp [hlen]
   rw [e1,bE oO,q,bE oS]
   simp [gu]
  have I:∀ i,l<(S i).length:=fun i=>aQ (hL i)
  have hf3:=ZY (σ:=S b++X3) hv hm W.ns (s:=0) (ib:=(H++[aB.rw [.i (W.bf k).1,.i (W.bf k).2]]).length) (n:=1) (l:=l) (N':=N') (p1:=p1) (e':=e') (assign:=assign) (body:=body) (rec:=[k]) (r:=W.bf k) (fun i=>S (b+i)++X3) oO O rfl F
   (fun i=>(hT (b+i)).take (aT eZ)) g ⟨rfl,oO,oO⟩ (lo:=σ.length) ⟨by rw [aR];have:=hlen 0;omega,by rw [aR,hlen];omega⟩ (fun i=>aA (hL (b+i))) (fun h i=>AP (zi (by rw [aR,hlen];omega) (a (b+i))) (xJ (A:=S b) h)) hps (fun j hj X QB iq z D K hQ=>by
    have N:((fun b=>(W.recs m W.ns 0 (W.bf b)).map (b::·)) k)[j]?=some (k::(W.recs m W.ns 0 (W.bf k))[j]):=by
     show ((W.recs m W.ns 0 (W.bf k)).map (k::·))[j]?=_
     rw [cN,cC hj];rfl
    have x:=flat_get (fun b=>(W.recs m W.ns 0 (W.bf b)).map (b::·)) u N
    rw [← f] at x
    obtain ⟨C,y⟩:=List.getElem?_eq_some_iff.1 x
    have J:=hround (b+j) C (X3++X) QB iq (bF d z) D (by rw [← cD,K];exact congrArg (fun l=>some (aB.rw (gu l))) y.symm) (fun e1 mk1 Y=>by
     have h1:=hQ e1 mk1 Y
     rw [cH _ _ (I _)] at h1
     rw [← cD];exact h1)
    rw [show (S b++X3).length+X.length=σ.length+(X3++X).length by rw [aR,aR,hlen];omega,cD]
    exact J)
  rw [← G] at hf3
  refine WL ?_
  refine ⟨k+1,⟨oO,rfl,X3,d,?_⟩,oO,tE⟩
  rw [Ew,← f,cQ]
 ·obtain rfl:k=W.nb:=oO
  have E:¬ ((W.nb:Nat):Int)<(W.nb:Nat):=oO
  have v:fJ (S b).length (S b):=by have:=a b;rwa [← hlen b] at this
  have M:b=(W.allR m).length:=f
  refine WL ?_
  rw [hH]
  exact U5 (v2:=.tuple #[]) (σ2:=S b) .nil (aX.dropAll L.symm v rfl) (by rw [M];exact hR)
theorem Uf (n lo hi:Int):Ev Tryz.prog 174 [.i n,.p 0,.p 1] [.ro [.i lo],.ro [.i hi]] (.bool (decide (n<lo∨n > hi))) [.ro [.i lo],.ro [.i hi]]:=by
 refine aI 2 13 Tryz.func174 rfl rfl rfl rfl rfl ?_
 repeat' (first|refine sCm ?_|(refine gU ?_;first|refine Hu ?_|refine sK0 ?_|(refine nN ?_;first|refine st (kR rfl (by exact eX oA) rfl) rfl rfl ?_|refine st (jA rfl (by exact cZ oA) rfl) rfl rfl ?_))|(refine gG ?_;first|refine Zv ?_|(refine bV ?_;refine stG rfl (by exact cZ oA) (aK rfl oR) rfl rfl ?_)|refine SL ?_|refine stS rfl (by exact eX oA) rfl ?_|((fail_if_success (refine Vf rfl oR ?_));(refine zS rfl ?_ ?_ <;> intro _)))|refine aG ?_)
 all_goals
  refine dK (.tmp rfl .nil) (.plain rfl rfl) ⟨?_,rfl⟩
  simp only [jY,Value.bool.injEq]
  (simp;omega)
theorem Ug {σ:Heap} {n lo hi:Int} {a b:Nat} (ha:dN σ a [.i lo]) (hb:dN σ b [.i hi]) (hni:σ.all (fun o=>!aU o)=true) :
  Ev Tryz.prog 174 [.i n,.p a,.p b] σ (.bool (decide (n<lo∨n > hi))) σ :=
 Ev.arrs [[.i lo],[.i hi]] [a,b] (Uf n lo hi) ⟨ha,hb,trivial⟩ ⟨.int _ _,by simpa [bsR] using VQ.ptr (q:=true) (n:=2) (ρ:=bsR [a,b]) 0 0 oO,by simpa [bsR] using VQ.ptr (q:=true) (n:=2) (ρ:=bsR [a,b]) 1 0 oO,trivial⟩ rfl rfl hni
theorem LY (l:List Int) (lo hi:Int) (c:Nat) (hN:l.length≤1000000) :
  Ev Tryz.prog 102 [.s 0 l.length c,.func (.func 174) #[] #[.p 1,.p 2]] [.ro (ints l),.ro [.i lo],.ro [.i hi]] (.i (lg lo hi l)) [.ro (ints l),.ro [.i lo],.ro [.i hi]]:=by
 refine aI 3 19 Tryz.func102 rfl rfl rfl rfl rfl ?_
 repeat' (first|refine sCm ?_|refine aG ?_)
 refine iM (ι:=Nat) (fun i=>[(0,.s 0 l.length c),(1,.func (.func 174) #[] #[.p 1,.p 2]),(7,.i (l.length:Int)),(8,.i (i:Int))])
  (fun _=>[.ro (ints l),.ro [.i lo],.ro [.i hi]]) (fun i=>l.length - i) (fun i=>i≤l.length∧∀ j<i,¬ (gi l j<lo∨gi l j > hi)) 0 oS (.same tE) ⟨oO,fun j h=>oO⟩ ?_
 intro i ⟨hi',a⟩
 have hc1:i<l.length→aH [.ro (ints l),.ro [.i lo],.ro [.i hi]] 0 i=some (.i (gi l i)):=fun h=>gQ h
 repeat' (first|refine sCm ?_|(refine gU ?_;first|(refine bV ?_;refine st (aK rfl (by exact hc1 oO)) rfl rfl ?_)|refine sK0 ?_|refine sK1 ?_|(refine dX ?_;refine st (bG rfl rfl rfl (by exact Ug (by exact .inl rfl) (by exact .inl rfl) rfl)) rfl rfl ?_))|refine aG ?_|(refine iR rfl ?_ ?_ <;> intro _))
 ·refine dK (.tmp rfl .nil) (.plain rfl rfl) ⟨?_,rfl⟩
  simp only [jY]
  rw [rX oO oA a]
 ·refine ⟨rfl,i+1,⟨oO,fun j hj=>?_⟩,oO,.same tE⟩
  by_cases d:j=i
  ·subst d;assumption
  ·exact a j oO
 ·refine dK (.tmp rfl .nil) (.plain rfl rfl) ⟨?_,rfl⟩
  simp only [jY]
  rw [rY fun j hj=>a j oO]
theorem LZ {σ:Heap} {l:List Int} {lo hi:Int} {x a b c:Nat} (hx:dN σ x (ints l)) (ha:dN σ a [.i lo]) (hb:dN σ b [.i hi]) (hN:l.length≤1000000) (hni:σ.all (fun o=>!aU o)=true) :
  Ev Tryz.prog 102 [.s x l.length c,.func (.func 174) #[] #[.p a,.p b]] σ (.i (lg lo hi l)) σ :=
 Ev.arrs [ints l,[.i lo],[.i hi]] [x,a,b] (LY l lo hi c hN) ⟨hx,ha,hb,trivial⟩
  ⟨by simpa [bsR] using VQ.slice (q:=true) (n:=3) (ρ:=bsR [x,a,b]) 0 0 l.length c c (aD _) oO,
   vsub_fn2 (by simpa [bsR] using VQ.ptr (q:=true) (n:=3) (ρ:=bsR [x,a,b]) 1 0 oO) (by simpa [bsR] using VQ.ptr (q:=true) (n:=3) (ρ:=bsR [x,a,b]) 2 0 oO),trivial⟩ (by simp [bC,dL,plain]) rfl hni
theorem F7 (l:List Int) (lo hi:Int) (c:Nat) (hN:l.length≤1000000) :
  Ev Tryz.prog 172 [.s 0 l.length c,.func (.func 174) #[] #[.p 1,.p 2]] [.ro (ints l),.ro [.i lo],.ro [.i hi]] (.bool (decide (lg lo hi l≥0))) [.ro (ints l),.ro [.i lo],.ro [.i hi]]:=by
 refine aI 3 9 Tryz.func172 rfl rfl rfl rfl rfl ?_
 repeat' (first|refine sCm ?_|(refine gU ?_;first|refine sK0 ?_|(refine dX ?_;refine st (bG rfl rfl rfl (by exact LZ (by exact .inl rfl) (by exact .inl rfl) (by exact .inl rfl) oO rfl)) rfl rfl ?_))|refine aG ?_)
 refine dK (.tmp rfl .nil) (.plain rfl rfl) ⟨?_,rfl⟩
 rfl
theorem F8 {σ:Heap} {l:List Int} {lo hi:Int} {x a b c:Nat} (hx:dN σ x (ints l)) (ha:dN σ a [.i lo]) (hb:dN σ b [.i hi]) (hN:l.length≤1000000) (hni:σ.all (fun o=>!aU o)=true) :
  Ev Tryz.prog 172 [.s x l.length c,.func (.func 174) #[] #[.p a,.p b]] σ (.bool (decide (lg lo hi l≥0))) σ :=
 Ev.arrs [ints l,[.i lo],[.i hi]] [x,a,b] (F7 l lo hi c hN) ⟨hx,ha,hb,trivial⟩
  ⟨by simpa [bsR] using VQ.slice (q:=true) (n:=3) (ρ:=bsR [x,a,b]) 0 0 l.length c c (aD _) oO,
   vsub_fn2 (by simpa [bsR] using VQ.ptr (q:=true) (n:=3) (ρ:=bsR [x,a,b]) 1 0 oO) (by simpa [bsR] using VQ.ptr (q:=true) (n:=3) (ρ:=bsR [x,a,b]) 2 0 oO),trivial⟩ (by simp [bC,dL,plain]) rfl hni
theorem WM (l:List Int) (lo hi:Int) (c:Nat) (hN:l.length≤1000000) :
  Ev Tryz.prog 84 [.i lo,.i hi,.s 0 l.length c] [.ro (ints l)] (.bool (decide (¬ (lg lo hi l≥0)))) [.ro (ints l)]:=by
 refine aI 1 11 Tryz.func84 rfl rfl rfl rfl rfl ?_
 repeat' (first|refine sCm ?_|(refine gU ?_;first|refine LK ?_|refine sK7 ?_|(refine dX ?_;refine st (bG rfl rfl rfl (by exact F8 (by exact .inl rfl) (by exact .inr (.inl rfl)) (by exact .inr (.inl rfl)) oO rfl)) rfl rfl ?_))|refine aG ?_)
 refine dK (.tmp rfl .nil) (.plain rfl rfl) ⟨?_,rfl⟩
 rfl
theorem WO {σ:Heap} {l:List Int} {lo hi:Int} {x c:Nat} (hx:dN σ x (ints l)) (hN:l.length≤1000000) (hni:σ.all (fun o=>!aU o)=true) :
  Ev Tryz.prog 84 [.i lo,.i hi,.s x l.length c] σ (.bool (decide (¬ (lg lo hi l≥0)))) σ :=
 Ev.arrs [ints l] [x] (WM l lo hi c hN) ⟨hx,trivial⟩ ⟨.int _ _,.int _ _,by simpa [bsR] using VQ.slice (q:=true) (n:=1) (ρ:=bsR [x]) 0 0 l.length c c (aD _) oO,trivial⟩ (by simp [bC]) rfl hni
theorem AQ {σ:Heap} {l:List Int} {lo hi:Int} {x c:Nat} (hx:dN σ x (ints l)) (hN:l.length≤1000000) (hni:σ.all (fun o=>!aU o)=true) :
  Ev Tryz.prog 84 [.i lo,.i hi,.s x l.length c] σ (.bool (decide (∀ y ∈ l,lo≤y∧y≤hi))) σ:=by
 have h:=WO (σ:=σ) (l:=l) (lo:=lo) (hi:=hi) (c:=c) hx hN hni
 have e:(¬ (lg lo hi l≥0))↔(∀ y ∈ l,lo≤y∧y≤hi):=Go.AH.N7
 simpa [e] using h
theorem yB {σ:Heap} {lo hi:Int}:Ev Tryz.prog 220 [.i lo,.i hi] σ (.func (.func 278) #[] #[.p σ.length,.p (σ.length+1)]) (σ++[.rw [.i lo]]++[.rw [.i hi]]):=by
 refine aI σ.length 6 Tryz.func220 rfl rfl rfl rfl rfl ?_
 repeat' (first|refine sCm ?_|(refine gU ?_;refine sK7 ?_)|refine aG ?_)
 have e:(σ++[aB.rw (dR (.i lo))]).length=σ.length+1:=oS
 rw [e]
 exact dK (.tmp rfl .nil) .all ⟨rfl,rfl⟩
theorem Yy {A B:Prop} (k:B) (h:Hide B→A:=by intro h_k_;(repeat' (first|(refine gU ?_;first|refine Py ?_|refine Pz ?_|(refine bV ?_;refine st (aK rfl (by first|exact aF a1|exact aF a2)) rfl rfl ?_)|refine LP ?_|refine sK0 ?_|(refine yP ?_;refine st (kW rfl) rfl rfl ?_))|refine xR ?_|refine aG ?_|refine kP ?_|refine tC ?_|refine Y0 ?_|refine uF ?_|refine Ci rfl ?_|refine yI ?_|refine zJ ?_|refine qg ?_|refine sK2 ?_|refine sK6 ?_|fail));exact h_k_.h):A:=h ⟨k⟩
theorem zo {lo hi:Int} (hlo:-1000000≤lo) (hlo2:lo≤1000000) (hhi:hi≤1000000) {n:Nat} (hn:n=(hi+1 - lo).toNat) {σ:Heap} {l lb hb N' p1:Nat} {e':Env} {assign body:Code} {R:Value→Heap→Prop} (S:Nat→Heap)
  (h0:S 0=σ) (hlen:∀ j,(S j).length=σ.length) (hlb:∀ j,(S j)[lb]?=some (.rw [.i lo])) (hhb:∀ j,(S j)[hb]?=some (.rw [.i hi]))
  (hL:∀ j,(S j)[l]?=some (.loop .ready none N' e' [p1].toArray assign body)) (hcl:fJ σ.length σ→∀ j,fJ σ.length (S j)) (hps:Nat.blt p1 N'=true)
  (hround:∀ (j:Nat) (hj:j<n) (X:Heap) (QB:Post),(∀ e1 mk1 Y,QB .normal e1 mk1 ((S (j+1)).set l (.loop .busy none N' e' [p1].toArray assign body)++X++Y)) →
   bK Tryz.prog (σ.length+X.length) N' (some l) assign (dV Tryz.prog (σ.length+X.length) N' l body QB) (lT [p1] [.i (lo+j)] e') [] (S j++X))
  (hR:R (.tuple #[]) (S n)):eU Tryz.prog 278 [.func (.yield l) #[] #[],.p lb,.p hb] σ R:=by
 refine aI σ.length 15 Tryz.func278 rfl rfl rfl rfl rfl ?_
 refine ZM fun a=>?_
 have c:=hcl a
 clear a hcl
 rw [← h0]
 have hll:l<(S 0).length:=aQ (hL 0)
 have a1:=hlb 0
 have a2:=hhb 0
 refine Yy ?_
 clear a1 a2
 refine dS (ι:=Nat) (fun k=>[(0,.func (.yield l) #[] #[]),(1,.p lb),(2,.p hb),(4,.i (lo+k))])
  (fun k mk H=>k≤n∧mk=[]∧∃ Z:Heap,H=S k++Z) (fun k=>n - k) 0 ⟨rfl,rfl,rfl,(by simp [Env.get]),trivial⟩ ⟨bN _,rfl,[],by simp⟩ ?_
 rintro k mk H ⟨hk,rfl,Z,hH⟩
 have hp:H.take (S k).length=S k:=by rw [hH];simp
 have q:(S k).length=(S 0).length:=by rw [hlen,hlen]
 have hHl:=take_len hp
 have a1:H[lb]?=some (.rw [.i lo]):=by rw [hH];exact aA (hlb k)
 have a2:H[hb]?=some (.rw [.i hi]):=by rw [hH];exact aA (hhb k)
 by_cases r:k<n
 ·have g:lo+(k:Int)≤hi:=oO
  refine Yy ?_
  have m:H[l]?=some (.loop .ready none N' e' [p1].toArray assign body):=by rw [hH];exact aA (hL k)
  refine Aa (ps:=[p1]) rfl rfl m rfl (by simp [hps]) rfl ?_
  have f:=hround k r Z
  rw [show σ.length+Z.length=H.length by rw [hH,aR,hlen],← hH] at f
  refine f _ fun e1 mk1 Y=>?_
  have o:l<(S (k+1)).length:=aQ (hL _)
  refine yw (aA (aA (aS (hL (k+1))))) rfl ?_
  have d:(((S (k+1)).set l (aB.loop .busy none N' e' [p1].toArray assign body))++Z++Y).set l (l9 .ready none (aB.loop .busy none N' e' [p1].toArray assign body))=S (k+1)++(Z++Y):=by
   rw [cD,cH _ _ (oU o),cX]
   simp only [l9]
   rw [set_self (hL (k+1))]
  rw [d]
  refine Yy ?_
  exact ⟨k+1,⟨oO,rfl,Z++Y,rfl⟩,oO,⟨rfl,rfl,rfl,congrArg (fun x=>some (Value.i x)) oO,trivial⟩⟩
 ·obtain rfl:k=n:=oO
  have g:¬ lo+(k:Int)≤hi:=oO
  refine Yy ?_
  have e:fJ (S k).length (S k):=by have:=c k;rwa [← hlen k] at this
  rw [hH]
  exact U5 (v2:=.tuple #[]) (σ2:=S k) .nil (aX.dropAll q.symm e rfl) hR
end Go.Proofs.YtajpgeklmcjciaaGreat
namespace Go.AH.Warp
def uy (f:Nat→Int):Nat→Int
 |0=>0
 |n+1=>uy f n+f n
def ab (x:Int):Int:=max x (-x)
structure Bl where
 n:Nat
 lo:Nat→Int
 hi:Nat→Int
 hard:Nat→Int
 most:Int
namespace Bl
variable (b:Bl)
def sO (d:Nat→Int) (i:Nat):Int:=uy d (i+1)
def Ok:Prop:=∀ i<b.n,1≤b.hard i∧b.hard i≤9
def meet (x y:Int×Int):Int×Int:=(max x.1 y.1,min x.2 y.2)
def borne (hard most d:Int):Int×Int :=
 let lo:=if d > 0 then hard else -hard
 let hi:=if d<0 then -hard else hard
 let hi:=if d=most then 9 else hi
 let lo:=if d=-most then -9 else lo
 (lo,hi)
def next (r:Int×Int) (sO lo hi:Int):Int×Int :=
 if sO > lo∧sO<hi then r
 else if lo=hi then (-9,9)
 else (if sO<hi then -9 else r.1,if sO > lo then 9 else r.2)
def now (d:Nat→Int):Nat→Int×Int
 |0=>(-9,9)
 |i+1=>next (meet (now d i) (borne (b.hard i) b.most (d i))) (sO d i) (b.lo i) (b.hi i)
def rng (d:Nat→Int) (i:Nat):Int×Int:=meet (b.now d i) (borne (b.hard i) b.most (d i))
theorem acV (d:Nat→Int) (i:Nat):b.now d (i+1)=next (b.rng d i) (sO d i) (b.lo i) (b.hi i):=rfl
def mM (d:Nat→Int):Nat→Int
 |0=>0
 |k+1=>if sO d (b.n - (k+1)) > b.lo (b.n - (k+1))∧sO d (b.n - (k+1))<b.hi (b.n - (k+1)) then mM d k
  else max (b.rng d (b.n - (k+1))).1 (min (b.rng d (b.n - (k+1))).2 (mM d k))
def pull (d:Nat→Int) (i:Nat):Int:=b.mM d (b.n - i) - b.mM d (b.n - i - 1)
theorem Uh {hard most d:Int} (h:1≤hard∧hard≤9):-9≤(borne hard most d).1∧(borne hard most d).1≤(borne hard most d).2∧(borne hard most d).2≤9:=by
 simp only [borne]
 refine ⟨?_,?_,?_⟩ <;> (repeat' split) <;> omega
def tail (p:Nat→Int) (n i:Nat):Int:=uy p n - uy p i
end Bl
end Go.AH.Warp
namespace Go.AH.Warp
abbrev nev:Int:=1099511627776
def oQ (F:Int→Int) (lo:Int):Nat→Int
 |0=>nev
 |k+1=>min (oQ F lo k) (F (lo+k))
theorem F9 (F:Int→Int) (lo:Int):∀ k,oQ F lo k≤nev
 |0=>dE _
 |k+1=>by have:=F9 F lo k;simp only [oQ];omega
theorem KP {F:Int→Int} {lo:Int}:∀ {k:Nat} {g:Int},lo≤g→g<lo+k→oQ F lo k≤F g
 |0,g,h1,h2=>by omega
 |k+1,g,h1,h2=>by
  simp only [oQ]
  by_cases h:g=lo+k
  ·subst h;omega
  ·have:=KP (F:=F) (lo:=lo) (k:=k) h1 oO;omega
theorem Ui {F:Int→Int} {lo:Int}:∀ {k:Nat},oQ F lo k<nev→∃ g,lo≤g∧g<lo+k∧F g=oQ F lo k
 |0,h=>by simp [oQ] at h
 |k+1,h=>by
  simp only [oQ] at h ⊢
  by_cases h2:F (lo+k)≤oQ F lo k
  ·exact ⟨lo+k,oO,oO,oO⟩
  ·obtain ⟨g,g1,g2,g3⟩:=Ui (F:=F) (lo:=lo) (k:=k) oO
   exact ⟨g,g1,oO,oO⟩
theorem KQ {F:Int→Int} {lo m:Int} (hm:m≤nev):∀ {k:Nat},(∀ g,lo≤g→g<lo+k→m≤F g)→m≤oQ F lo k
 |0,_=>hm
 |k+1,h=>by
  have h1:=KQ (F:=F) (lo:=lo) (k:=k) hm fun g g1 g2=>h g g1 oO
  have h2:=h (lo+k) oO oO
  simp only [oQ];omega
def lst (F:Int→Int) (lo:Int):Nat→Int
 |0=>lo
 |k+1=>if F (lo+(k+1:Nat))<F (lst F lo k) then lo+(k+1:Nat) else lst F lo k
theorem Ql (F:Int→Int) (lo:Int):∀ k,lo≤lst F lo k∧lst F lo k≤lo+k
 |0=>by simp [lst]
 |k+1=>by have:=Ql F lo k;simp only [lst];split <;> omega
theorem acW (F:Int→Int) (lo:Int):∀ (k:Nat) (g:Int),lo≤g→g≤lo+k→F (lst F lo k)≤F g
 |0,g,h1,h2 =>
            by
            have:g=lo:=oO
            subst this;exact dE _
 |k+1,g,h1,h2=>by
  simp only [lst]
  by_cases h:g=lo+(k+1:Nat)
  ·subst h;split <;> omega
  ·have:=acW F lo k g h1 oO
   split <;> omega
theorem ae7 {F:Int→Int} {lo:Int} {k:Nat} (h:oQ F lo (k+1)<nev):F (lst F lo k)=oQ F lo (k+1):=by
 obtain ⟨g,g1,g2,g3⟩:=Ui h
 have h1:=acW F lo k g g1 oO
 have h2:=Ql F lo k
 have h3:=KP (F:=F) (k:=k+1) h2.1 oO
 omega
namespace Bl
variable (b:Bl)
def sLo (i:Nat) (f:Int):Int:=max (b.lo i) (f - b.most)
def sN (i:Nat) (f:Int):Nat:=(min (b.hi i) (f+b.most)+1 - b.sLo i f).toNat
theorem KR {i:Nat} {f g:Int}:(b.sLo i f≤g∧g<b.sLo i f+b.sN i f)↔(b.lo i≤g∧g≤b.hi i∧-b.most≤g - f∧g - f≤b.most):=by
 unfold sN sLo;omega
def vt:Nat→Int→Int
 |0,_=>0
 |k+1,f=>oQ (fun g=>vt k g+b.hard (b.n - (k+1))*ab (g - f)) (b.sLo (b.n - (k+1)) f) (b.sN (b.n - (k+1)) f)
theorem BF (x:Int):0≤ab x:=by unfold ab;omega
theorem acX (ho:b.Ok):∀ k≤b.n,∀ f,0≤b.vt k f∧b.vt k f≤nev
 |0,_,f=>by simp [vt]
 |k+1,hk,f=>by
  refine ⟨?_,F9 _ _ _⟩
  refine KQ oD fun g _ _=>?_
  have h1:=(acX ho k oO g).1
  have h2:=(ho (b.n - (k+1)) oO).1
  have h3:0≤b.hard (b.n - (k+1))*ab (g - f):=er oO (BF _)
  omega
def L6 (i:Nat) (f:Int):Int→Int:=fun g=>b.vt (b.n - (i+1)) g+b.hard i*ab (g - f)
def pos:Nat→Int
 |0=>0
 |i+1=>lst (b.L6 i (pos i)) (b.sLo i (pos i)) (b.sN i (pos i) - 1)
def blow (i:Nat):Int:=b.pos (i+1) - b.pos i
theorem Yz {i:Nat} {f:Int} (hi:i<b.n):b.vt (b.n - i) f=oQ (b.L6 i f) (b.sLo i f) (b.sN i f):=by
 rw [show b.n - i=b.n - (i+1)+1 by omega]
 have e:b.n - (b.n - (i+1)+1)=i:=oO
 simp only [vt,e];rfl
theorem acY (ho:b.Ok) (h:b.vt b.n 0<nev):∀ i≤b.n,b.vt (b.n - i) (b.pos i)<nev∧uy (fun k=>b.hard k*ab (b.blow k)) i+b.vt (b.n - i) (b.pos i)=b.vt b.n 0 ∧
  ∀ k<i,-b.most≤b.blow k∧b.blow k≤b.most∧b.lo k≤b.pos (k+1)∧b.pos (k+1)≤b.hi k
 |0,_=>⟨by rw [Nat.sub_zero];exact h,by rw [Nat.sub_zero];simp [uy,pos],fun k hk=>oO⟩
 |i+1,hi=>by
  obtain ⟨h1,h2,h3⟩:=acY ho h i oO
  rw [b.Yz oO] at h1 h2
  have hp:0<b.sN i (b.pos i):=by
   rcases Nat.eq_zero_or_pos (b.sN i (b.pos i)) with h0|h0
   ·rw [h0] at h1;simp [oQ] at h1
   ·exact h0
  have hs:b.sN i (b.pos i)=b.sN i (b.pos i) - 1+1:=oO
  rw [hs] at h1 h2
  have e:=ae7 h1
  have c:=Ql (b.L6 i (b.pos i)) (b.sLo i (b.pos i)) (b.sN i (b.pos i) - 1)
  have ep:b.pos (i+1)=lst (b.L6 i (b.pos i)) (b.sLo i (b.pos i)) (b.sN i (b.pos i) - 1):=rfl
  rw [← ep] at e c
  have a:=(b.KR (i:=i) (f:=b.pos i) (g:=b.pos (i+1))).1 ⟨c.1,oO⟩
  rw [← e] at h1 h2
  unfold L6 at h1 h2
  have hh:=(ho i oO).1
  have hc:0≤b.hard i*ab (b.pos (i+1) - b.pos i):=er oO (BF _)
  refine ⟨oO,?_,fun k hk=>?_⟩
  ·simp only [uy]
   show _+b.hard i*ab (b.pos (i+1) - b.pos i)+_=_
   omega
  ·by_cases d:k=i
   ·subst d;exact ⟨a.2.2.1,a.2.2.2,a.1,a.2.1⟩
   ·exact h3 k oO
end Bl
end Go.AH.Warp
namespace Go.AH.Warp
open Go Go.AH
structure Bld where
 n:Nat
 ang:Nat→Int
 tlo:Nat→Int
 thi:Nat→Int
 hard:Nat→Int
 most:Int
def Bld.b (B:Bld):Bl:=⟨B.n,fun i=>B.tlo i - B.ang i,fun i=>B.thi i - B.ang i,B.hard,B.most⟩
structure xK (B:Bld):Prop where
 n:1≤B.n∧B.n≤20
 st:∀ i<B.n,-100≤B.ang i∧B.ang i≤100∧-100≤B.tlo i∧B.tlo i≤B.thi i∧B.thi i≤100∧1≤B.hard i∧B.hard i≤9
 most:0≤B.most∧B.most≤200
theorem xK.tube {B:Bld} (h:xK B) {i:Nat} (hi:i<B.n):-200≤B.b.lo i∧B.b.lo i≤B.b.hi i∧B.b.hi i≤200:=by
 have:=h.st i hi
 show -200≤B.tlo i - B.ang i∧B.tlo i - B.ang i≤B.thi i - B.ang i∧B.thi i - B.ang i≤200
 omega
theorem xK.ok {B:Bld} (h:xK B):B.b.Ok:=fun i hi=>(h.st i hi).2.2.2.2.2
structure L8 (σ:Heap) (B:Bld) (sb:Nat):Prop where
 st:∀ i<B.n,aJ σ sb (i*4) 4=some [.int .i64 (B.ang i),.int .i64 (B.tlo i),.int .i64 (B.thi i),.int .i64 (B.hard i)]
def Bld.tu (B:Bld):Nat→Int×Int
 |0=>(0,0)
 |i+1=>(B.b.lo i,B.b.hi i)
def Bld.cs (B:Bld) (sb cS tb cT:Nat):List Value:=[.slice (some ⟨sb,0,none⟩) B.n cS,.int .i64 B.most,.slice (some ⟨tb,0,none⟩) (B.n+1) cT]
structure kZ (σ:Heap) (B:Bld) (nb sb cS tb cT:Nat):Prop where
 nb:σ[nb]?=some (.rw (B.cs sb cS tb cT))
 st:∀ i<B.n,aJ σ sb (i*4) 4=some [.int .i64 (B.ang i),.int .i64 (B.tlo i),.int .i64 (B.thi i),.int .i64 (B.hard i)]
 tu:∀ i≤B.n,aJ σ tb (i*2) 2=some [.int .i64 (B.tu i).1,.int .i64 (B.tu i).2]
theorem kZ.take {σ H:Heap} {B:Bld} {nb sb cS tb cT:Nat} (h:kZ σ B nb sb cS tb cT) (hp:H.take σ.length=σ):kZ H B nb sb cS tb cT :=
 ⟨by rw [iY hp (aQ h.nb)];exact h.nb,fun i hi=>fH hp (h.st i hi),fun i hi=>fH hp (h.tu i hi)⟩
theorem kZ.app {σ X:Heap} {B:Bld} {nb sb cS tb cT:Nat} (h:kZ σ B nb sb cS tb cT):kZ (σ++X) B nb sb cS tb cT:=h.take oS
def rE (k:Nat):List Int:=List.replicate k nev++List.replicate (401 - k) 0
theorem acZ {k:Nat} (h:k≤401):(rE k).length=401:=by simp [rE];omega
theorem Z4 {k:Nat} (h:k<401):(rE k).set k nev=rE (k+1):=by
 unfold rE
 rw [fL _ _ oS,fN,cY,show 401 - k=401 - (k+1)+1 by omega,List.replicate_succ,List.set_cons_zero,List.replicate_succ',cD]
 rfl
theorem BG {L:List Int} {i:Nat} {a:Int} (h:i<L.length):splice (ints L) i [.i a]=ints (L.set i a):=by
 simp only [splice,ints,eg,eb,List.set_eq_take_append_cons_drop,h,if_true,eC,List.map_take,cG,List.map_drop]
 simp
def noRow:List Int:=List.replicate 401 nev
theorem vsub_fn2 {n:Nat} {π:Rho} {f i1 i2 j1 j2:Nat} (h1:i1<n) (e1:π i1=⟨j1,0,0⟩) (h2:i2<n) (e2:π i2=⟨j2,0,0⟩) :
  jG n π (.func (.func f) #[] #[.p i1,.p i2]) (.func (.func f) #[] #[.p j1,.p j2]):=by
 have p1:jG n π (.p i1) (.p j1):=by
  have:=VQ.ptr (q:=true) (ρ:=π) i1 0 h1;rw [e1] at this;exact this
 have p2:jG n π (.p i2) (.p j2):=by
  have:=VQ.ptr (q:=true) (ρ:=π) i2 0 h2;rw [e2] at this;exact this
 refine .func _ _ _ _ _ rfl rfl (fun i h _=>by simp at h) (fun i h _=>?_)
 simp at h
 rcases (by omega:i=0∨i=1) with rfl|rfl
 ·exact p1
 ·exact p2
end Go.AH.Warp
namespace Go.Proofs.YtajpgeklmcjciaaGreat
open Go Go.AH
attribute [local irreducible] bZ bK bM jB gy dO fC bW eU aX dV eH
open Go.AH.Heat Go.AH.Warp
theorem agk {A B:Prop} (k:B) (h:Hide B→A:=by intro h_k_;(repeat' (first|refine sCm ?_|(refine gU ?_;first|(refine bV ?_;refine st (aK rfl (by assumption)) rfl rfl ?_)|(refine aaN ?_;refine st (jm rfl rfl rfl) rfl rfl ?_)|refine sK3 ?_|(refine gMax ?_;refine st (Cc rfl rfl) rfl rfl ?_)|(refine gNeg ?_;refine st (UZ rfl) rfl rfl ?_))|refine aG ?_));exact h_k_.h):A:=h ⟨k⟩
theorem Qm {σ:Heap} {B:Bld} {nb sb cS tb cT:Nat} (hv:xK B) (hB:kZ σ B nb sb cS tb cT) {i:Nat} (hi:i<B.n) {d:Int} (hd:-1000≤d∧d≤1000) :
  Ev Tryz.prog 180 [.p nb,.i (i:Nat),.i d] σ (.i (B.hard i*ab d)) σ:=by
 refine aI σ.length 21 Tryz.func180 rfl rfl rfl rfl rfl ?_
 have hc1:aH σ nb (0+0+0)=some (.s sb B.n cS):=aF hB.nb
 have hst:=hv.st i hi
 have hc2:aH σ sb (0+i*4+3)=some (.i (B.hard i)):=by rw [bA];exact fQ (k:=3) (hB.st i hi) oO
 have hiI:(i:Int)<(B.n:Int):=oO
 have hw:IntKind.i64.wrap (0 - d)=-d:=by rw [wrap64 oO oO];omega
 have hm:-1000≤max d (-d)∧max d (-d)≤1000:=oO
 have hml:-9000≤B.hard i*max d (-d)∧B.hard i*max d (-d)≤9000:=by
  have h1:0≤max d (-d):=oO
  have h2:0≤B.hard i*max d (-d):=er oO h1
  have h3:B.hard i*max d (-d)≤9*1000:=fo oO oO h1 oO
  omega
 refine agk ?_
 rw [hw]
 refine agk ?_
 rw [show IntKind.i64.wrap (B.hard i*max d (-d))=B.hard i*ab d from wrap64 oO oO]
 exact dK (.tmp rfl .nil) (.plain oS rfl) ⟨rfl,rfl⟩
theorem Uj {A B:Prop} (k:B) (h:Hide B→A:=by intro h_k_;(repeat' (first|refine sCm ?_|(refine gU ?_;first|(refine bV ?_;refine st (bD rfl (by assumption)) rfl rfl ?_)|refine sK0 ?_|refine PE ?_|(refine gV ?_;refine stN (bU rfl rfl rfl rfl (by exact hput)) rfl ?_))|refine dB (id:=2) ?_|refine aG ?_|refine sK2 ?_|refine nZ rfl (by rfl) ?_));exact h_k_.h):A:=h ⟨k⟩
theorem sQ {σ:Heap}:Ev Tryz.prog 219 [] σ (.agg (ints noRow).toArray) σ:=by
 refine aI σ.length 10 Tryz.func219 rfl rfl rfl rfl rfl ?_
 refine Uj ?_
 refine .mk (aG ?_)
 refine Uj ?_
 have c:(σ++[aB.rw (List.replicate 401 (.i 0))]).length=σ.length+1:=oS
 have hz:σ++[aB.rw (List.replicate 401 (.i 0))]++[aB.rw (ints (rE 0))]=σ++[aB.rw (List.replicate 401 (.i 0))]++[aB.rw (List.replicate 401 (.i 0))]:=by simp [rE,ints]
 refine dH [(0,.p σ.length),(1,.p (σ.length+1)),(3,.i ((0:Nat):Int))] (σ++[aB.rw (List.replicate 401 (.i 0))]++[aB.rw (ints (rE 0))]) ?_ ?_ ?_
 ·exact hz.symm
 ·exact ⟨rfl,congrArg (fun n=>some (Value.p n)) c,rfl,trivial⟩
 refine iM (ι:=Nat) (fun k=>[(0,.p σ.length),(1,.p (σ.length+1)),(3,.i (k:Int))]) (fun k=>σ++[aB.rw (List.replicate 401 (.i 0))]++[aB.rw (ints (rE k))]) (fun k=>401 - k) (fun k=>k≤401) 0 oS (.same tE) oO ?_
 intro k hk
 have e:=acZ hk
 by_cases hkn:k<401
 ·have hput:putCells (σ++[aB.rw (List.replicate 401 (.i 0))]++[aB.rw (ints (rE k))]) (σ.length+1) (0+k*1) [.i nev]=some (σ++[aB.rw (List.replicate 401 (.i 0))]++[aB.rw (ints (rE (k+1)))]):=by
   have hg:(σ++[aB.rw (List.replicate 401 (.i 0))]++[aB.rw (ints (rE k))])[σ.length+1]?=some (.rw (ints (rE k))):=by rw [← c];exact aO
   rw [fM hg (by rw [cO,e];simp;omega) (by rw [cO,e];omega) (by rw [bA,cI,BG oO,Z4 oO]),← c,fL _ _ (aD _),cY]
   rfl
  have hkI:(k:Int)<401:=oO
  refine Uj ?_
  exact ⟨rfl,k+1,oO,oO,.same tE⟩
 ·obtain rfl:k=401:=oO
  have a:(ints (rE 401)).length=401:=by rw [cO,e]
  have hd1:aJ (σ++[aB.rw (List.replicate 401 (.i 0))]++[aB.rw (ints (rE 401))]) (σ.length+1) 0 401=some (ints (rE 401)):=by
   rw [← c];exact dU a
  have hput:putCells (σ++[aB.rw (List.replicate 401 (.i 0))]++[aB.rw (ints (rE 401))]) σ.length 0 (ints (rE 401))=some (σ++[aB.rw (ints (rE 401))]++[aB.rw (ints (rE 401))]):=by
   rw [fM (cs:=List.replicate 401 (.i 0)) (cs':=ints (rE 401)) oS (by rw [a];simp) oS (by simp [splice,a])]
   simp
  have g:aJ (σ++[aB.rw (ints (rE 401))]++[aB.rw (ints (rE 401))]) σ.length 0 401=some (ints (rE 401)):=by
   rw [iT oS];exact dU a
  have f:=bC (rE 401)
  have j:noRow=rE 401:=by simp [noRow,rE]
  rw [j]
  have d:=jZ (rE 401)
  generalize ints (rE 401)=rc at *
  refine Uj ?_
  refine stN (bU (size:=401) rfl rfl (by exact a) (by exact d) (by exact hput)) rfl ?_
  refine Uj ?_
  exact dK (.cellN inferInstance rfl g .nil) (.plain oS f) ⟨rfl,rfl⟩
theorem agl {A B:Prop} (k:B) (h:Hide B→A:=by intro h_k_;(repeat' (first|refine sCm ?_|(refine gU ?_;first|(refine bV ?_;first|refine st (aK rfl (by assumption)) rfl rfl ?_|refine st (bD rfl (by assumption)) rfl rfl ?_)|refine sK3 ?_|(refine dX ?_;refine st (bG rfl rfl rfl (by exact yB)) rfl rfl ?_)|refine JV ?_)|(refine fU ?_;first|refine frA (aZ rfl) rfl ?_ (hcl (by omega))|refine frA (aK rfl (by exact hq1 _)) rfl ?_ rfl|refine frA (aK rfl (by exact hq2 _)) rfl ?_ rfl|refine frA (eP rfl) rfl ?_ (hcl (by omega))|refine frA (jT rfl) rfl ?_ (hcl (by omega))|refine frA (aK rfl (by exact hc2 _)) rfl ?_ rfl|refine PD ?_|refine Zw ?_|refine LM ?_|(refine fMax ?_;refine fr (Cc rfl rfl) (by rfl) rfl ?_)|refine VT ?_)|(refine fP ⟨by kernel_rfl,?_⟩)|refine dB (id:=2) ?_|refine aG ?_));exact h_k_.h):A:=h ⟨k⟩
theorem KU {σ:Heap} {B:Bld} {nb sb cS tb cT:Nat} (hv:xK B) (hB:kZ σ B nb sb cS tb cT) {i:Nat} (hi:i<B.n) {f:Int} (hf:-200≤f∧f≤200) :
  Ev Tryz.prog 177 [.p nb,.i (i:Nat),.i f] σ (.func (.func 278) #[] #[.p σ.length,.p (σ.length+1)]) (σ++[.rw [.i (B.b.sLo i f)]]++[.rw [.i (min (B.b.hi i) (f+B.most))]]):=by
 refine aI σ.length 37 Tryz.func177 rfl rfl rfl rfl rfl ?_
 have hc1:∀ X,aH (σ++X) nb (0+2)=some (.s tb (B.n+1) cT):=fun X=>aF hB.app.nb
 have hc2:∀ X,aH (σ++X) nb (0+0+1)=some (.i B.most):=fun X=>aF hB.app.nb
 have c:=hc1 []
 rw [bL] at c
 have hst:=hv.tube hi
 have hmo:=hv.most
 have hd2:aJ σ tb (0+(i+1)*2) 2=some [.i (B.b.lo i),.i (B.b.hi i)]:=by rw [bA];exact hB.tu (i+1) oO
 have hiI:(i:Int)+1<((B.n+1:Nat):Int):=oO
 have hi20:=hv.n
 have hnb:nb < σ.length:=aQ hB.nb
 refine agl ?_
 obtain ⟨K,hK⟩:∃ K,K=σ++[aB.rw [.i (B.b.lo i),.i (B.b.hi i)]]:=⟨_,rfl⟩
 refine .mk (dH [(0,.p nb),(2,.i f),(7,.p σ.length)] K (by rw [hK];rfl) tE ?_)
 have a:K.length=σ.length+1:=by rw [hK];simp
 have hcl:∀ {q o:Nat},q < σ.length+1→closed K.length (.pointer (some ⟨q,o,none⟩))=true:=fun {q o} h=>by rw [a];exact Nat.blt_eq.mpr h
 have hq1:∀ X,aH (K++X) σ.length (0+0)=some (.i (B.b.lo i)):=fun X=>by rw [hK];exact aF (aA aO)
 have hq2:∀ X,aH (K++X) σ.length (0+1)=some (.i (B.b.hi i)):=fun X=>by rw [hK];exact aF (aA aO)
 have hc2:∀ X,aH (K++X) nb (0+0+1)=some (.i B.most):=fun X=>by rw [hK,cD];exact hc2 _
 refine fA oK rfl ?_
 refine agl ?_
 rw [show K++gJ (fun _=>true) []=K from bL K,a,show max (B.b.lo i) (f - B.most)=B.b.sLo i f from rfl]
 have d:(K++[aB.rw [.i (B.b.sLo i f)]]++[aB.rw [.i (min (B.b.hi i) (f+B.most))]]).take σ.length=σ:=by rw [hK];simp
 refine dK (v2:=.func (.func 278) #[] #[.p σ.length,.p (σ.length+1)]) (σ2:=σ++[aB.rw [.i (B.b.sLo i f)],aB.rw [.i (min (B.b.hi i) (f+B.most))]]) (.tmp rfl .nil)
  (aX.src [.rw [.i (B.b.sLo i f)],.rw [.i (min (B.b.hi i) (f+B.most))]] [σ.length+1,σ.length+2] d rfl (by simp [dF]) ⟨?_,?_,trivial⟩ (vsub_fn2 (f:=278) (i1:=σ.length) (i2:=σ.length+1) (j1:=σ.length+1) (j2:=σ.length+1+1) oS (by simp [fK]) oS (by simp [fK]))) ⟨rfl,by simp⟩
 ·exact uJ (j:=σ.length+1) (by simp [fK]) (.inl (aA (bJ a))) rfl
 ·exact uJ (j:=σ.length+2) (by simp [fK]) (.inl (bJ (by simp [a]))) rfl
end Go.Proofs.YtajpgeklmcjciaaGreat
namespace Go.AH
open Go
section
variable {P:Program} {n0 N:Nat} {rd:Option Nat} {Q:Post} {e:Env} {mk:List Nat} {σ:Heap}
def Uk (P:Program) (n0 N l0:Nat) (Q:Post) (e:Env) (mk:List Nat) (l:Nat) (σ2:Heap):Prop :=
 ∃ st pend N2 e2 ps2 as2 bd2,σ2[l]?=some (.loop st pend N2 e2 ps2 as2 bd2)∧st ≠ .busy ∧
  (match pend with
   |none=>Q .normal e mk (σ2.set l .dead)
   |some c=>bK P n0 N (some l0) c Q e mk (σ2.set l .dead))
theorem Ey {l0:Nat} {L0:aB} {g:Operand} {ps:Array Tmp} {assign body:Code} {f:FuncId} {p q:List Value} [hc:GoFn P f] (hrd:lQ (some l0) n0=true) (hl0:σ[l0]?=some L0) (hL0:uj L0=true)
  (hg:aP e g=some (.func (.func f) p.toArray q.toArray))
  (hcall:∀ L,L=aB.loop .ready none N e ps assign body→eU P f (p++[.func (.yield σ.length) #[] #[]]++q) (σ++[L]) (fun _ σ2=>Uk P n0 N l0 Q e mk σ.length σ2)) :
  bK P n0 N (some l0) (.rangeFunc g ps assign body) Q e mk σ:=by
 replace hcall:=hcall _ rfl
 intro G w0 ρ0 A w hi
 obtain ⟨h0,ρ,s,hs,l⟩:=hi
 have x:=oZ l hg
 have o:l0<n0:=lS hrd l0 rfl
 generalize hge:A.eval g=gv at x
 cases x with
 |func _ _ p' _ q' e1 e2 e3 e4 =>
  refine wpIn_rangeFunc fun fn _=>?_
  have hro:(fen ρ0 (some l0)).round=some (ρ0 l0).b:=rfl
  rw [hro]
  obtain ⟨r1,b1,_⟩:=vY hs hl0 hL0
  rw [s l0 o] at b1
  let r0:Loop:={ state:=.ready,pending:=none,fn,tmps:=A.tmps,params:=ps,assign,body,defers:=r1.defers }
  have C:=lu hs (.loop r0) (.loop .ready none N e ps assign body) 0 ⟨fun hg=>by have h1:=(hs.fgn _ hg).1;have:=hs.size;simp only at h1;omega,r0,gX _ _,rfl,rfl,rfl,rfl,rfl,xU l.tmps (Nat.le_succ _) fun i hi=>iP hi⟩
  have hρ:∀ i < σ.length,upd ρ σ.length w.heap.size 0 i=ρ i:=fun i hi=>iP hi
  have z:upd ρ σ.length w.heap.size 0 σ.length=⟨w.heap.size,0,0⟩:=oh
  refine ⟨w.heap.size,[],w.alloc (.loop r0),⟨.fn (.func f) q',p'++#[.func (.yield w.heap.size) #[] #[]]⟩,
   w.alloc (.loop r0),f,p'++#[.func (.yield w.heap.size) #[] #[]]++q',w.alloc (.loop r0),?_,?_,?_,?_,fun h=>by rw [AZ] at h;simp at h,?_⟩
  ·exact run_enterLoop_inner b1 _ _ _ _ _
  ·simp only [resolve,hge]
   simp [Deferred.ofValue,Act.eval]
  ·intro f' _;exact kN _ _ _
  ·simp [invoke,hc.run]
  ·have j:lV (σ++[aB.loop .ready none N e ps assign body]).length (upd ρ σ.length w.heap.size 0) (p++[Value.func (.yield σ.length) #[] #[]]++q).toArray (p'++#[.func (.yield w.heap.size) #[] #[]]++q'):=by
    have a1:lV σ.length ρ p.toArray p':=⟨e1,e3⟩
    have a2:lV σ.length ρ q.toArray q':=⟨e2,e4⟩
    refine mQ (l1:=p++[_]) (mQ (xX a1 oS hρ) ⟨rfl,fun i hi hi'=>?_⟩) (xX a2 oS hρ)
    have:i=0:=by simp at hi;exact hi
    subst this
    have:=VQ.yield (q:=false) (n:=(σ++[aB.loop .ready none N e ps assign body]).length) (ρ:=upd ρ σ.length w.heap.size 0) σ.length oS
    rw [z] at this
    exact this
   refine (Ri (ρ:=ρ0) (rd:=some l0) (hcall G w0 _ _ _ C j)).mono ?_
   rintro en w' ⟨ρ',vr,v,σ2,rfl,⟨st,r,N2,e2',ps2,as2,bd2,q1,q2,q3⟩,hv,D,a,u⟩
   simp only [aR,eg,eb,bA] at D a
   obtain ⟨r2,b1,b2⟩:=vY u q1 rfl
   have y:(ρ' σ.length).b=w.heap.size:=by rw [a _ oO,z]
   obtain ⟨_,r',c2,c3,c4,_⟩:=u.obj _ _ q1
   rw [b1] at c2;cases c2
   rw [y] at b1
   refine ⟨r2.pending,_,run_endLoop b1 (by rw [c3];exact q2),?_⟩
   have t:=Jc (b2 .exhausted r2.pending) σ.length
   rw [cX,y] at t
   have d:Inv n0 N G w0 ρ0 e mk (σ2.set σ.length .dead) { A with defers:=[]++A.defers } (w'.putObj w.heap.size (.loop { r2 with state:=.exhausted })):=by
    refine ⟨by simp;omega,ρ',fun i hi=>(a i oO).trans ((hρ i oO).trans (s i hi)),t,?_⟩
    exact xW l (m:=(σ2.set σ.length .dead).length) (ρ':=ρ') (by simp;omega) fun i hi=>(a i oO).trans (hρ i hi)
   rw [c4] at d ⊢
   cases r with
   |none=>exact ⟨e,_,_,q3,d⟩
   |some c=>exact q3 G w0 ρ0 _ _ d
end
end Go.AH
namespace Go.AH.Warp
open Go Go.AH
def dG (g:Nat→Int):List Int:=(List.range 401).map g
theorem eG (g:Nat→Int):(dG g).length=401:=by simp [dG]
theorem uO {g:Nat→Int} {i:Nat} (h:i<401):gi (dG g) i=g i:=by simp [dG,gi,cE,cN,ft h]
theorem qw {g g':Nat→Int} (h:∀ i<401,g i=g' i):dG g=dG g':=eD fun i hi=>h i (List.mem_range.1 hi)
theorem KW {g:Nat→Int} {i:Nat} {v:Int}:(dG g).set i v=dG fun x=>if x=i then v else g x:=by
 refine fx fun x=>?_
 unfold dG
 rw [List.getElem?_set]
 simp only [cN,cQ,List.length_range]
 by_cases h:i=x
 ·subst h
  by_cases h2:i<401
  ·rw [ft h2];simp [h2]
  ·rw [eM (oU h2)];simp [h2]
 ·by_cases h2:x<401
  ·rw [ft h2];simp [h,Ne.symm h]
  ·rw [eM (oU h2)];simp [h]
theorem ug:noRow=dG fun _=>nev:=by unfold noRow dG;rw [List.map_const',List.length_range]
def iU (b:Bl) (k:Nat):Nat→Int:=fun x=>b.vt k ((x:Int) - 200)
def mO (b:Bl) (k j:Nat) (v:Int):Nat→Int:=fun x=>if x=j then v else if x<j then iU b k x else nev
theorem ae8 (b:Bl):List.replicate 401 (Value.i 0)=ints (dG (iU b 0)):=by
 have:dG (iU b 0)=List.replicate 401 0:=by
  unfold dG
  rw [show iU b 0=fun _=>0 from rfl,List.map_const',List.length_range]
 rw [this,ints,List.map_replicate]
structure TG (σ H:Heap) (nb:Nat) (row:List Int):Prop where
 pre:H.take σ.length=σ
 b0:H[σ.length]?=some (.rw [.pointer (some ⟨nb,0,none⟩)])
 b1:H[σ.length+1]?=some (.rw (List.replicate 401 (.int .i64 0)))
 b2:H[σ.length+2]?=some (.rw (ints row))
theorem TG.len {σ H:Heap} {nb:Nat} {row:List Int} (h:TG σ H nb row):σ.length+3≤H.length:=aQ h.b2
theorem TG.app {σ H:Heap} {nb:Nat} {row:List Int} (h:TG σ H nb row) (X:Heap):TG σ (H++X) nb row:=⟨aT h.pre,aA h.b0,aA h.b1,aA h.b2⟩
theorem TG.set {σ H:Heap} {nb:Nat} {row:List Int} (h:TG σ H nb row) {i:Nat} (hi:σ.length+3≤i) (x:aB):TG σ (H.set i x) nb row :=
 ⟨take_set h.pre oO,aC h.b0 oO,aC h.b1 oO,aC h.b2 oO⟩
theorem TG.row {σ H:Heap} {nb:Nat} {row:List Int} (h:TG σ H nb row) (r:List Int):TG σ (H.set (σ.length+2) (.rw (ints r))) nb r :=
 ⟨take_set h.pre oO,aC h.b0 oO,aC h.b1 oO,aS h.b2⟩
theorem ae9 (b:Bl) (k:Nat):noRow=dG (mO b k 0 nev):=by
 rw [ug]
 refine qw fun i _=>?_
 unfold mO
 rw [if_neg (by omega:¬ i<0),ite_self]
theorem WQ (b:Bl) (k j:Nat):dG (mO b k j (b.vt k (-200+(j:Int))))=dG (mO b k (j+1) nev):=by
 refine qw fun i _=>?_
 unfold mO
 by_cases h:i=j
 ·subst h
  rw [if_pos rfl,if_neg oO,if_pos oO]
  unfold iU
  congr 1
 ·rw [if_neg h]
  by_cases h2:i=j+1
  ·rw [if_pos h2,if_neg oO]
  ·rw [if_neg h2]
   by_cases h3:i<j
   ·rw [if_pos h3,if_pos oO]
   ·rw [if_neg h3,if_neg oO]
theorem Z5 (b:Bl) (k:Nat):dG (mO b k 401 nev)=dG (iU b k):=by
 refine qw fun i hi=>?_
 unfold mO
 rw [if_neg oO,if_pos hi]
theorem Z7 (b:Bl) (k j:Nat) (v w:Int):(dG (mO b k j v)).set j w=dG (mO b k j w):=by
 rw [KW]
 refine qw fun i _=>?_
 unfold mO
 by_cases h:i=j
 ·rw [if_pos h,if_pos h]
 ·rw [if_neg h,if_neg h,if_neg h]
theorem ac0 (b:Bl) (k:Nat) {j:Nat} (v:Int) (h:j<401):gi (dG (mO b k j v)) j=v:=by
 rw [uO h];unfold mO;rw [if_pos rfl]
theorem ac1 {A X:Heap} {rb l1:Nat} {R0 R1 B bf b1 b2 L2 D:aB} (h1:rb<A.length) (h2:l1<A.length) (hne:rb ≠ l1) :
  ((((A.set rb R0++X++[bf]).set l1 B++[b1]++[b2]++[L2]).set rb R1).set ((A.set rb R0++X++[bf]).set l1 B++[b1]++[b2]).length D)=(A.set rb R1).set l1 B++X++[bf,b1,b2,D]:=by
 have e0:(A.set rb R0++X++[bf]).set l1 B=(A.set rb R0).set l1 B++X++[bf]:=by
  rw [cH _ _ (by simp;omega),cH _ _ (oU h2)]
 rw [e0]
 have e1:((A.set rb R0).set l1 B++X++[bf]++[b1]++[b2]++[L2]).set rb R1=(A.set rb R1).set l1 B++X++[bf]++[b1]++[b2]++[L2]:=by
  rw [cH _ _ (by simp;omega),cH _ _ (by simp;omega),cH _ _ (by simp;omega),cH _ _ (by simp;omega),cH _ _ (by simp;omega),List.set_comm _ _ (by omega:l1 ≠ rb),cX]
 rw [e1,fL _ _ oS]
 simp
theorem ac2 {A X:Heap} {rb l2:Nat} {R0 R1 B:aB} (h1:rb<A.length) (h2:l2<A.length) (hne:rb ≠ l2):((A.set rb R0++X).set l2 B).set rb R1=(A.set rb R1).set l2 B++X++[]:=by
 rw [bL,cH _ _ (oU h2),cH _ _ (oU h1),List.set_comm _ _ (by omega:l2 ≠ rb),cX]
end Go.AH.Warp
namespace Go.Proofs.YtajpgeklmcjciaaGreat
open Go Go.AH
attribute [local irreducible] bZ bK bM jB gy dO fC bW eU aX dV eH
open Go.AH.Heat Go.AH.Warp
theorem BR {A B:Prop} (k:B) (h:Hide B→A:=by intro h_k_;(repeat' (first|refine sCm ?_|(refine gU ?_;first|(refine bV ?_;first|refine st (aK rfl (by first|exact ig rfl|exact aF hN.b0|exact aF a0|assumption)) rfl rfl ?_|refine st (bD rfl (by assumption)) rfl rfl ?_)|refine sK8 ?_|refine sK0 ?_|(refine OG ?_;refine st (EY rfl) rfl rfl ?_)|(refine dX ?_;refine st (bG rfl rfl rfl (by first|exact sQ|exact yB)) rfl rfl ?_)|(refine gV ?_;refine stN (bU rfl rfl rfl rfl (by first|exact iW (aD _) (cU _)|exact hput)) rfl ?_)|(refine agD ?_;refine stN (DL (by rfl) (by rfl) rfl (by omega) (by rfl) (by exact iW (aD _) (cU _))) rfl ?_))|refine dB (id:=3) ?_|refine dB (id:=6) ?_|refine dB (id:=7) ?_|refine dB (id:=13) ?_|refine dB (id:=15) ?_|refine aG ?_|refine sK2 ?_|refine sK6 ?_|fail));exact h_k_.h):A:=h ⟨k⟩
theorem YA {A B:Prop} (k:B) (h:Hide B→A:=by intro h_k_;(repeat' (first|refine sCm ?_|(refine gU ?_;first|(refine yO ?_;refine st (kK rfl) (by exact hrd) rfl ?_)|(refine bV ?_;refine st (aK rfl (by first|exact aF hN.b0|exact aF a0|exact aF a1)) (by exact hrd) rfl ?_)|(refine dX ?_;refine st (bG rfl rfl rfl (by exact hf1)) (by exact hrd) rfl ?_)|(refine Cj ?_;refine st (kC rfl) (by exact hrd) rfl ?_)|(refine gV ?_;refine stN (bU rfl rfl rfl rfl (by first|exact iW (aD _) (cU _)|exact hput)) (by exact hrd) ?_))|(refine fU ?_;first|refine gB ?_;refine frA (aK rfl (by exact hq8 _)) rfl ?_ rfl|refine fIA ?_;refine frA (nD rfl rfl (by omega) (by omega)) rfl ?_ hclr|refine gB ?_;refine frA (aK rfl (by exact hq7 _)) rfl ?_ rfl|refine fIA ?_;refine frA (nD rfl rfl (by omega) (by omega)) rfl ?_ hcl5|refine gB ?_;refine frA (aK rfl (by exact hq5 _)) rfl ?_ rfl|refine gB ?_;refine frA (aK rfl (by exact hq2 _)) rfl ?_ hcln|refine gB ?_;refine frA (aK rfl (by exact hq6 _)) rfl ?_ rfl|refine PD ?_|refine Zw ?_|refine LM ?_|refine VT ?_|(refine qF ?_;refine fr (bG rfl rfl rfl (by exact hfa _)) (by rfl) rfl ?_))|(refine fP ⟨by kernel_rfl,?_⟩)|refine aG ?_));exact h_k_.h):A:=h ⟨k⟩
theorem IK {σ:Heap} {B:Bld} {nb sb cS tb cT:Nat} (hv:xK B) (hB:kZ σ B nb sb cS tb cT) {sn:Nat} (hst:sn≤B.n) :
  Ev Tryz.prog 112 [.p nb,.i (sn:Nat)] σ (.agg (ints (dG (iU B.b (B.n - sn)))).toArray) σ:=by
 refine aI σ.length 53 Tryz.func112 rfl rfl rfl rfl rfl ?_
 have ay:=hv.n
 have am:nb < σ.length:=aQ hB.nb
 refine BR ?_
 obtain ⟨Ha,T⟩:∃ Ha,Ha=σ++[aB.rw [.p nb]]++[aB.rw (List.replicate 401 (.i 0))]++[aB.rw (ints (dG (iU B.b 0)))]:=⟨_,rfl⟩
 refine .mk (dH [(1,.i (sn:Nat)),(2,.p σ.length),(4,.p (σ.length+1)),(5,.p (σ.length+2))] Ha (by rw [T,← ae8];rfl) ⟨rfl,rfl,(by (refine congrArg (fun n=>some (Value.p n)) ?_;simp;try omega)),(by (refine congrArg (fun n=>some (Value.p n)) ?_;simp;try omega)),trivial⟩ ?_)
 have hN:TG σ Ha nb (dG (iU B.b 0)):=⟨by rw [T];simp,by rw [T];exact aA (aA aO),by rw [T];exact aA (bJ oS),by rw [T];exact bJ oS⟩
 have a3:=hN.len
 have cd:aH Ha nb (0+0+0)=some (.s sb B.n cS):=aF (hB.take hN.pre).nb
 clear T
 apply aG
 refine BR ?_
 refine dS (ι:=Nat×Nat) (fun k=>[(1,.i (sn:Nat)),(2,.p σ.length),(4,.p (σ.length+1)),(5,.p (σ.length+2)),(6,.p k.2)])
  (fun k mk H=>k.1≤B.n - sn∧Mks (σ.length+3) mk H∧σ.length+3≤k.2∧TG σ H nb (dG (iU B.b k.1))∧H[k.2]?=some (.rw [.i ((B.n:Int) - 1 - k.1)])) (fun k=>B.n - k.1) (0,Ha.length) tE ⟨bN _,.nil,a3,hN.app _,by simp;rfl⟩ ?_
 clear hN a3 cd Ha
 rintro ⟨k,ib⟩ mk H ⟨hk,hM,c3,hN,hi⟩
 dsimp only at hk hM c3 hN hi ⊢
 have cf:=hN.len
 have an:=aQ hi
 have ch:=hB.take hN.pre
 by_cases ck:k<B.n - sn
 ·have c4:(B.n:Int) - 1 - k≥sn:=oO
  have a0:=hi
  refine BR ?_
  have a:(ints noRow).length=401:=by rw [cO,ug,eG]
  have bs:splice (List.replicate 401 (Value.i 0)) 0 (ints noRow)=ints (dG (mO B.b (k+1) 0 nev)):=by rw [← ae9];simp [splice,a]
  have hf1:=sQ (σ:=H)
  refine .mk ?_
  apply aG
  refine BR ?_
  clear hf1
  obtain ⟨H2,I⟩:∃ H2,H2=H++[aB.rw (ints (dG (mO B.b (k+1) 0 nev)))]:=⟨_,rfl⟩
  refine .mk (dH [(1,.i (sn:Nat)),(2,.p σ.length),(4,.p (σ.length+1)),(5,.p (σ.length+2)),(6,.p ib),(7,.p H.length)] H2 (by rw [I,← bs];rfl) tE ?_)
  have hf1:=yB (σ:=H2) (lo:=-200) (hi:=200)
  apply aG
  refine BR ?_
  clear hf1 bs a a0
  obtain ⟨Hc,D⟩:∃ Hc,Hc=H2++[aB.rw [.i (-200)]]++[aB.rw [.i 200]]:=⟨_,rfl⟩
  obtain ⟨rb,aj⟩:∃ rb,rb=H.length:=⟨_,rfl⟩
  have w:H2.length=rb+1:=by rw [I,aj];simp
  have C:Hc.length=rb+3:=by rw [D];simp [w]
  have be:TG σ Hc nb (dG (iU B.b k)):=by rw [D,I];exact ((hN.app _).app _).app _
  have ad:Mks (σ.length+3) mk Hc:=by rw [D,I];exact ((hM.app _).app _).app _
  have aw:Hc[ib]?=some (.rw [.i ((B.n - (k+1):Nat):Int)]):=by rw [show ((B.n - (k+1):Nat):Int)=(B.n:Int) - 1 - k by omega,D,I];exact aA (aA (aA hi))
  have bb:Hc[rb]?=some (.rw (ints (dG (mO B.b (k+1) 0 nev)))):=by rw [D,I,aj];exact aA (aA aO)
  have au:Hc[rb+1]?=some (.rw [.i (-200)]):=by rw [D];exact aA (bJ w)
  have bk:Hc[rb+2]?=some (.rw [.i 200]):=by rw [D];exact bJ (by simp [w])
  have ax:ib<rb:=oO
  have ak:σ.length+3≤rb:=oO
  refine dH [(1,.i (sn:Nat)),(2,.p σ.length),(4,.p (σ.length+1)),(5,.p (σ.length+2)),(6,.p ib),(7,.p rb),(24,.func (.func 278) #[] #[.p (rb+1),.p (rb+2)])] Hc D.symm ⟨rfl,rfl,rfl,rfl,rfl,by rw [aj];rfl,by rw [show rb+2=rb+1+1 from rfl,← w];rfl,trivial⟩ ?_
  clear D I w aj hN hM hi ch cf an H2 H
  refine kG (p:=[]) (q:=[.p (rb+1),.p (rb+2)]) rfl fun L hL=>?_
  obtain ⟨A,e⟩:∃ A,A=Hc++[aB.dfr,L]:=⟨_,rfl⟩
  have bv:A.length=rb+5:=by rw [e];simp [C]
  have ah:TG σ A nb (dG (iU B.b k)):=by rw [e];exact be.app _
  have bj:Mks (σ.length+3) mk A:=by rw [e];exact ad.app _
  have af:A[ib]?=some (.rw [.i ((B.n - (k+1):Nat):Int)]):=by rw [e];exact aA aw
  have U:A[rb]?=some (.rw (ints (dG (mO B.b (k+1) 0 nev)))):=by rw [e];exact aA bb
  have b8:A[rb+1]?=some (.rw [.i (-200)]):=by rw [e];exact aA au
  have b4:A[rb+2]?=some (.rw [.i 200]):=by rw [e];exact aA bk
  have b5:A[rb+3]?=some .dfr:=by rw [← C,e,bE (aD _)];simp
  have R:A[rb+4]?=some L:=by rw [show rb+4=Hc.length+1 by omega,e,bE oO];simp
  rw [← e,C]
  refine zo (S:=fun j=>A.set rb (.rw (ints (dG (mO B.b (k+1) j nev))))) (l:=rb+4) (lb:=rb+1) (hb:=rb+2) (lo:=-200) (hi:=200) (n:=401) oO oO oO rfl (set_self U) (fun j=>by simp) (fun j=>aC b8 oO) (fun j=>aC b4 oO)
   (fun j=>(aC R oO).trans (congrArg some hL)) (fun h j=>jw (o:=.rw (ints _)) (aW (bC _)) h) rfl ?_ ?_
  ·intro j hj X QB bn
   obtain ⟨f,hf⟩:∃ f,f=-200+(j:Int):=⟨_,rfl⟩
   obtain ⟨HX,G⟩:∃ HX,HX=A.set rb (.rw (ints (dG (mO B.b (k+1) j nev))))++X:=⟨_,rfl⟩
   have c2:TG σ HX nb (dG (iU B.b k)):=by rw [G];exact (ah.set ak _).app X
   have bp:HX[ib]?=some (.rw [.i ((B.n - (k+1):Nat):Int)]):=by rw [G];exact aA (aC af oO)
   have c6:HX[rb]?=some (.rw (ints (dG (mO B.b (k+1) j nev)))):=by rw [G];exact aA (aS U)
   have ae:HX[rb+4]?=some L:=by rw [G];exact aA (aC R oO)
   have hrd:lQ (some (rb+4)) (A.length+X.length)=true:=(show Nat.blt _ _=true from Nat.blt_eq.mpr oO)
   have aq:HX.length=A.length+X.length:=by rw [G];simp
   rw [← hf,← G,← aq]
   rw [← aq] at hrd
   refine YA ?_
   refine xG (aA ae) hL fun O hO=>?_
   obtain ⟨HB,y⟩:∃ HB,HB=(HX++[aB.rw [.i f]]).set (rb+4) O:=⟨_,rfl⟩
   have cj:=aQ ae
   have aa:TG σ HB nb (dG (iU B.b k)):=by rw [y];exact (c2.app _).set oO _
   have ag:HB[ib]?=some (.rw [.i ((B.n - (k+1):Nat):Int)]):=by rw [y];exact aC (aA bp) oO
   have c1:HB[rb]?=some (.rw (ints (dG (mO B.b (k+1) j nev)))):=by rw [y];exact aC (aA c6) oO
   have av:HB[HX.length]?=some (.rw [.i f]):=by rw [y];exact aC aO oO
   have c5:HB[rb+4]?=some O:=by rw [y];exact aS (aA ae)
   have ap:HB.length=HX.length+1:=by rw [y];simp
   refine dH [(2,.p σ.length),(5,.p (σ.length+2)),(6,.p ib),(7,.p rb),(8,.p HX.length)] HB (by rw [y];rfl) tE ?_
   have hf1:=KU (σ:=HB) (i:=B.n - (k+1)) (f:=f) hv (hB.take aa.pre) oO oO
   have a0:=ag
   have a1:=av
   have hN:=aa
   refine YA ?_
   clear hf1 a0 a1 hN
   obtain ⟨i,b9⟩:∃ i,i=B.n - (k+1):=⟨_,rfl⟩
   have bd:i<B.n:=oO
   rw [← b9] at ag ⊢
   obtain ⟨HD,v⟩:∃ HD,HD=HB++[aB.rw [.i (B.b.sLo i f)]]++[aB.rw [.i (min (B.b.hi i) (f+B.most))]]:=⟨_,rfl⟩
   have u:HD.length=HB.length+2:=by rw [v];simp
   obtain ⟨fb,hfb⟩:∃ fb,fb=HX.length:=⟨_,rfl⟩
   have cn:=hv.tube bd
   have cu:=hv.most
   have cm:-200≤B.b.sLo i f∧B.b.sLo i f≤400:=by unfold Bl.sLo;show -200≤max (B.b.lo i) (f - B.most)∧max (B.b.lo i) (f - B.most)≤400;omega
   rw [← v]
   refine Ey (p:=[]) (q:=[.p HB.length,.p (HB.length+1)]) (L0:=O) hrd (by rw [v];exact aA (aA c5)) (by rw [hO];rfl) rfl fun L2 ac=>?_
   obtain ⟨A2,c⟩:∃ A2,A2=HD++[L2]:=⟨_,rfl⟩
   have bf:A2.length=HB.length+3:=by rw [c];simp [u]
   have a8:TG σ A2 nb (dG (iU B.b k)):=by rw [c,v];exact ((aa.app _).app _).app _
   have V:A2[ib]?=some (.rw [.i (i:Nat)]):=by rw [c,v];exact aA (aA (aA ag))
   have M:A2[rb]?=some (.rw (ints (dG (mO B.b (k+1) j nev)))):=by rw [c,v];exact aA (aA (aA c1))
   have W:A2[fb]?=some (.rw [.i f]):=by rw [c,v,hfb];exact aA (aA (aA av))
   have a9:A2[HB.length]?=some (.rw [.i (B.b.sLo i f)]):=by rw [c,v];exact aA (aA aO)
   have Z:A2[HB.length+1]?=some (.rw [.i (min (B.b.hi i) (f+B.most))]):=by rw [c,v];exact aA (bJ oS)
   have z:A2[HB.length+2]?=some L2:=by rw [c];exact bJ u
   rw [← c,u]
   obtain ⟨F,hF⟩:∃ F:Int→Int,F=fun g=>B.b.vt k g+B.hard i*ab (g - f):=⟨_,rfl⟩
   refine zo (S:=fun q=>A2.set rb (.rw (ints (dG (mO B.b (k+1) j (oQ F (B.b.sLo i f) q)))))) (l:=HB.length+2) (lb:=HB.length) (hb:=HB.length+1) (lo:=B.b.sLo i f) (hi:=min (B.b.hi i) (f+B.most)) (n:=B.b.sN i f) oO oO oO rfl (set_self M) (fun j=>by simp) (fun j=>aC a9 oO) (fun j=>aC Z oO)
    (fun j=>(aC z oO).trans (congrArg some ac)) (fun h j=>jw (o:=.rw (ints _)) (aW (bC _)) h) rfl ?_ ?_
   ·intro q hq X2 QB2 a5
    have hg:=(B.b.KR (i:=i) (f:=f) (g:=B.b.sLo i f+q)).1 ⟨oO,oO⟩
    obtain ⟨g,ba⟩:∃ g,g=B.b.sLo i f+q:=⟨_,rfl⟩
    rw [← ba] at hg ⊢
    have hg2:-200≤g∧g≤200:=oO
    obtain ⟨m,hm⟩:∃ m,m=oQ F (B.b.sLo i f) q:=⟨_,rfl⟩
    have bq:oQ F (B.b.sLo i f) (q+1)=min m (F g):=by rw [hm,ba];rfl
    obtain ⟨HY,E⟩:∃ HY,HY=A2.set rb (.rw (ints (dG (mO B.b (k+1) j m))))++X2:=⟨_,rfl⟩
    have br:TG σ HY nb (dG (iU B.b k)):=by rw [E];exact (a8.set ak _).app X2
    have c0:HY[ib]?=some (.rw [.i (i:Nat)]):=by rw [E];exact aA (aC V oO)
    have bt:HY[rb]?=some (.rw (ints (dG (mO B.b (k+1) j m)))):=by rw [E];exact aA (aS M)
    have bu:HY[fb]?=some (.rw [.i f]):=by rw [E];exact aA (aC W oO)
    have bl:HY[HB.length+2]?=some L2:=by rw [E];exact aA (aC z oO)
    have hrd:lQ (some (HB.length+2)) (A2.length+X2.length)=true:=(show Nat.blt _ _=true from Nat.blt_eq.mpr oO)
    rw [← hm,← E]
    refine YA ?_
    refine xG bl ac fun O2 bx=>?_
    obtain ⟨HZ,N⟩:∃ HZ,HZ=HY.set (HB.length+2) O2:=⟨_,rfl⟩
    have a4:TG σ HZ nb (dG (iU B.b k)):=by rw [N];exact br.set oO _
    have bg:HZ[ib]?=some (.rw [.i (i:Nat)]):=by rw [N];exact aC c0 oO
    have al:HZ[rb]?=some (.rw (ints (dG (mO B.b (k+1) j m)))):=by rw [N];exact aC bt oO
    have b3:HZ[fb]?=some (.rw [.i f]):=by rw [N];exact aC bu oO
    rw [← N]
    have bh:=a4.len
    have bc:=(B.b.acX hv.ok k (by show k≤B.n;omega) g)
    have c7:rb<HZ.length:=aQ al
    have c9:ib<HZ.length:=aQ bg
    have cb:fb<HZ.length:=aQ b3
    have c8:σ.length+2<HZ.length:=oO
    have bz:nb<HZ.length:=oO
    have hclr:∀ {o:Nat},closed HZ.length (.pointer (some ⟨rb,o,none⟩))=true:=fun {o}=>Nat.blt_eq.mpr c7
    have hcl5:∀ {o:Nat},closed HZ.length (.pointer (some ⟨σ.length+2,o,none⟩))=true:=fun {o}=>Nat.blt_eq.mpr c8
    have hcln:closed HZ.length (.p nb)=true:=Nat.blt_eq.mpr bz
    have hq2:∀ Y,aH (HZ++Y) σ.length 0=some (.p nb):=fun Y=>aF (a4.app Y).b0
    have hq6:∀ Y,aH (HZ++Y) ib 0=some (.i (i:Nat)):=fun Y=>aF (aA bg)
    have hq8:∀ Y,aH (HZ++Y) fb 0=some (.i f):=fun Y=>aF (aA b3)
    have ao:0+(f+200).toNat*1=j:=oO
    have hq7:∀ Y,aH (HZ++Y) rb (0+(f+200).toNat*1)=some (.i m):=fun Y=>by rw [ao,aF (aA al),gQ (by rw [eG];exact hj),ac0 _ _ _ hj]
    have hq5:∀ Y,aH (HZ++Y) (σ.length+2) (0+(g+200).toNat*1)=some (.i (B.b.vt k g)):=fun Y=>by
     rw [aF (a4.app Y).b2,gQ (by rw [eG];omega),uO oO]
     unfold iU
     rw [show ((0+(g+200).toNat*1:Nat):Int) - 200=g by omega]
    have hfa:=fun Y=>Qm (σ:=HZ++Y) (i:=i) (d:=g - f) hv ((hB.take a4.pre).app) bd oO
    have cq:0≤B.hard i*ab (g - f)∧B.hard i*ab (g - f)≤9000:=by
     have h1:=hv.st i bd
     have h0:0≤ab (g - f)∧ab (g - f)≤1000:=by unfold ab;omega
     refine ⟨er oO h0.1,?_⟩
     exact Int.le_trans (fo (by omega:B.hard i≤9) h0.2 h0.1 oO) oO
    rw [← hfb]
    generalize hcoD:B.hard i*ab (g - f)=co at cq hfa
    generalize hvtD:B.b.vt k g=vg at bc hq5
    have hfr:-200≤f∧f≤200:=oO
    have hvt2:0≤vg∧vg≤1099511627776:=bc
    have hput:putCells (HZ++gJ (fun _=>true) []) rb (0+(f+200).toNat*1) [.i (min m (vg+co))]=some (HZ.set rb (.rw (ints (dG (mO B.b (k+1) j (min m (vg+co))))))):=by
     rw [show HZ++gJ (fun _=>true) []=HZ from bL HZ,ao]
     exact fM al (by rw [cO,eG];simp;omega) (by rw [cO,eG];omega) (by rw [BG (by rw [eG];exact hj),Z7])
    refine qg (bK.mono (Q:=fun ex _ _ s=>ex=Exit.normal∧s=HZ.set rb (.rw (ints (dG (mO B.b (k+1) j (min m (vg+co))))))) ?_ ?_)
    ·clear bc a5 bq hm hF V M W a9 Z z a8 br c0 bt bu bl a4 bg al b3 bh c7 c9 cb c8 bz ao hvtD hcoD N E ba hg bf c cm cu cn hfb u v b9 ag ap c5 av c1 aa cj y aq ae c6 bp c2 G hf bn R b5 b4 b8 U af bj ah bv e ak ax bk au bb aw ad be C c4 ck c3 hk am ay hst hB bx ac hO hL hq hv
     refine fA oK hrd ?_
     refine YA ?_
     exact ⟨rfl,rfl⟩
    ·rintro ex e' mk' s ⟨rfl,rfl⟩
     have cc:F g=vg+co:=by rw [hF];show B.b.vt k g+B.hard i*ab (g - f)=_;rw [hvtD,hcoD]
     rw [N,E,ac2 oO oO oO,← cc,← bq]
     refine uF ?_
     rw [bx]
     exact a5 _ _ _
   ·refine ⟨.ready,none,_,_,_,_,_,(aC z oO).trans (congrArg some ac),by simp,?_⟩
    show (dO 4 (dO 3 QB)) _ _ _ _
    refine uF ?_
    refine uF ?_
    have ce:oQ F (B.b.sLo i f) (B.b.sN i f)=B.b.vt (k+1) (-200+(j:Int)):=by rw [hF,← hf,b9];rfl
    rw [ce,WQ,← u,c,v,y,G,ac1 oO oO oO,hO]
    exact bn _ _ _
  ·refine ⟨.ready,none,_,_,_,_,_,(aC R oO).trans (congrArg some hL),by simp,?_⟩
   show (dO 2 _) _ _ _ _
   refine uF ?_
   refine tC ?_
   rw [Z5]
   obtain ⟨K,hK⟩:∃ K,K=(A.set rb (.rw (ints (dG (iU B.b (k+1)))))).set (rb+4) .dead:=⟨_,rfl⟩
   have a6:TG σ K nb (dG (iU B.b k)):=by rw [hK];exact (ah.set ak _).set oO _
   have ar:K[ib]?=some (.rw [.i ((B.n - (k+1):Nat):Int)]):=by rw [hK];exact aC (aC af oO) oO
   have az:K[rb]?=some (.rw (ints (dG (iU B.b (k+1))))):=by rw [hK];exact aC (aS U) oO
   have bo:Mks (σ.length+3) ((rb+3)::mk) K:=by
    rw [hK]
    refine Mks.cons ((bj.set U oS).set (aC R oO) (by rw [hL];simp)) (ad.new oO) oO (aC (aC b5 oO) oO)
   rw [← hK]
   clear hK U af bj ah R b5 b4 b8 bv e hL bk au bb aw ad be
   have ca:rb<K.length:=aQ az
   have a:(ints (dG (iU B.b (k+1)))).length=401:=by rw [cO,eG]
   have J:=jZ (dG (iU B.b (k+1)))
   have hd1:aJ K rb 0 401=some (ints (dG (iU B.b (k+1)))):=aV az a
   have hput:putCells K (σ.length+2) 0 (ints (dG (iU B.b (k+1))))=some (K.set (σ.length+2) (.rw (ints (dG (iU B.b (k+1)))))):=fM a6.b2 (by rw [a,cO,eG];omega) (by rw [cO,eG];omega) (by simp [splice,cO,eG])
   have hN:=a6
   have a0:=ar
   apply aG
   refine BR ?_
   have ai:=a6.row (dG (iU B.b (k+1)))
   have P:=bo.set (x:=.rw (ints (dG (iU B.b (k+1))))) a6.b2 oS
   have bw:=aC (x:=.rw (ints (dG (iU B.b (k+1))))) ar (show σ.length+2 ≠ ib by omega)
   obtain ⟨K2,b6⟩:∃ K2,K2=K.set (σ.length+2) (.rw (ints (dG (iU B.b (k+1))))):=⟨_,rfl⟩
   refine .mk (dH [(1,.i (sn:Nat)),(2,.p σ.length),(4,.p (σ.length+1)),(5,.p (σ.length+2)),(6,.p ib)] K2 b6.symm tE ?_)
   rw [← b6] at ai P bw
   clear b6 hput hd1 J a ca bo az ar a6 a0 hN
   clear K
   have a0:=bw
   have hN:=ai
   have cp:((B.n - (k+1):Nat):Int) - 1=(B.n:Int) - 1 - ((k+1:Nat):Int):=oO
   apply aG
   refine BR ?_
   exact ⟨(k+1,K2.length),⟨by dsimp only;omega,P.app _,ai.len,ai.app _,by rw [← cp];exact aO⟩,by dsimp only;omega,tE⟩
 ·have c4:¬ (B.n:Int) - 1 - k≥sn:=oO
  have a0:=hi
  refine BR ?_
  obtain rfl:k=B.n - sn:=oO
  obtain ⟨t,a7⟩:∃ r,r=dG (iU B.b (B.n - sn)):=⟨_,rfl⟩
  rw [← a7] at hN ⊢
  have cv:t.length=401:=by rw [a7,eG]
  have a:(ints t).length=401:=by rw [cO,cv]
  have J:=jZ t
  have ci:=bC t
  have hd1:aJ H (σ.length+2) 0 401=some (ints t):=aV hN.b2 a
  have hput:putCells H (σ.length+1) 0 (ints t)=some (H.set (σ.length+1) (.rw (ints t))):=fM hN.b1 (by rw [a];simp) oS (by simp [splice,a])
  have P:=hM.set (x:=.rw (ints t)) hN.b1 oS
  have cl:(H.set (σ.length+1) (.rw (ints t)))[σ.length+1]?=some (.rw (ints t)):=aS hN.b1
  have cg:(H.set (σ.length+1) (.rw (ints t))).take σ.length=σ:=take_set hN.pre oO
  refine .mk ?_
  apply aG
  generalize ints t=rc at *
  refine BR ?_
  refine stN (bU (size:=401) rfl rfl (by exact a) (by exact J) (by exact hput)) rfl ?_
  refine BR ?_
  have cr:=pO (mk:=mk) cg fun x hx=>by have:=(P.2 x hx).1;omega
  exact TL P (.cellN inferInstance rfl (aV (rC cl fun hx=>by have:=(P.2 _ hx).1;omega) a) .nil) (.plain cr ci) ⟨rfl,rfl⟩
end Go.Proofs.YtajpgeklmcjciaaGreat
namespace Go.AH.Warp
open Go Go.AH
def cIn (b:Bl) (i:Nat) (f v:Int) (G:Nat→Int):Nat→Nat→Int
 |0=>G
 |q+1=>fun x=>if x=(b.sLo i f+q+200).toNat then min (cIn b i f v G q x) (v+b.hard i*ab (b.sLo i f+q - f)) else cIn b i f v G q x
def cOut (b:Bl) (i:Nat) (R:Nat→Int):Nat→Nat→Int
 |0=>fun _=>nev
 |j+1=>if R j≥nev then cOut b i R j else cIn b i (-200+j) (R j) (cOut b i R j) (b.sN i (-200+j))
def iy (b:Bl):Nat→Nat→Int
 |0=>fun x=>if x=200 then 0 else nev
 |i+1=>cOut b i (iy b i) 401
theorem Ul {b:Bl} {i:Nat} {R:Nat→Int} (h:∀ x<401,R x=nev):∀ j≤401,cOut b i R j=fun _=>nev
 |0,_=>rfl
 |j+1,hj=>by
  simp only [cOut]
  rw [if_pos (by rw [h j oO];exact dE _),Ul h j oO]
theorem Um {b:Bl} {i:Nat} (h:∀ x<401,iy b i x=nev):∀ k,i≤k→∀ x<401,iy b k x=nev
 |0,hk,x,hx =>
            by
            have:i=0:=oO
            subst this;exact h x hx
 |k+1,hk,x,hx=>by
  by_cases he:i=k+1
  ·subst he;exact h x hx
  ·show cOut b k (iy b k) 401 x=nev
   rw [Ul (Um h k oO) 401 (aD _)]
theorem ac3 {b:Bl} {i:Nat} {f v:Int} {G:Nat→Int} (hv:0≤v) (hh:0≤b.hard i) (hG:∀ x,0≤G x∧G x≤nev):∀ q x,0≤cIn b i f v G q x∧cIn b i f v G q x≤nev
 |0,x=>hG x
 |q+1,x=>by
  have h1:=ac3 (b:=b) (i:=i) (f:=f) hv hh hG q x
  have h2:0≤b.hard i*ab (b.sLo i f+q - f):=er hh (Bl.BF _)
  simp only [cIn]
  split <;> omega
theorem Qn {b:Bl} {i:Nat} {R:Nat→Int} (hh:0≤b.hard i) (hR:∀ x,0≤R x):∀ j x,0≤cOut b i R j x∧cOut b i R j x≤nev
 |0,_=>by simp [cOut]
 |j+1,x=>by
  simp only [cOut]
  split
  ·exact Qn hh hR j x
  ·exact ac3 (hR j) hh (Qn hh hR j) _ x
theorem Qo {b:Bl} (ho:b.Ok):∀ i≤b.n,∀ x,0≤iy b i x∧iy b i x≤nev
 |0,_,x=>by simp only [iy];split <;> simp
 |i+1,hi,x=>Qn (by have:=(ho i oO).1;omega) (fun x=>(Qo ho i oO x).1) 401 x
theorem row0 (b:Bl):noRow.set 200 0=dG (iy b 0):=by
 rw [ug,KW];rfl
theorem afa {b:Bl} {i:Nat} {f v:Int} {G:Nat→Int} {q x0:Nat} (h:x0=(b.sLo i f+q+200).toNat) :
  (dG (cIn b i f v G q)).set x0 (min (cIn b i f v G q x0) (v+b.hard i*ab (b.sLo i f+q - f)))=dG (cIn b i f v G (q+1)):=by
 rw [KW]
 refine qw fun x _=>?_
 simp only [cIn]
 by_cases hx:x=x0
 ·rw [if_pos hx,if_pos (hx.trans h),hx]
 ·rw [if_neg hx,if_neg fun e=>hx (e.trans h.symm)]
theorem ints_at (g:Nat→Int):Jw g 401 (ints (dG g)).toArray:=fun i hi=>by
 have:=gQ (l:=dG g) (i:=i) (by rw [eG];exact hi)
 rw [uO hi] at this
 simpa using this
end Go.AH.Warp
namespace Go.Proofs.YtajpgeklmcjciaaGreat
open Go Go.AH
attribute [local irreducible] bZ bK bM jB gy dO fC bW eU aX dV eH
open Go.AH.Heat Go.AH.Warp
theorem xw {A B:Prop} (k:B) (h:Hide B→A:=by intro h_k_;(repeat' (first|refine sCm ?_|(refine gU ?_;first|(refine bV ?_;refine st (bD rfl (by assumption)) rfl rfl ?_)|refine sK0 ?_|(refine gIA ?_;refine st (nD rfl rfl (by omega) (by omega)) rfl rfl ?_)|(refine dX ?_;refine st (bG rfl rfl rfl (by first|exact sQ|exact yB)) rfl rfl ?_)|(refine gV ?_;refine stN (bU rfl rfl rfl rfl (by first|exact iW (aD _) (cU _)|exact hput)) rfl ?_))|(refine fP ⟨by kernel_rfl,?_⟩)|refine dB (id:=1) ?_|refine dB (id:=2) ?_|refine dB (id:=6) ?_|refine dB (id:=7) ?_|refine dB (id:=8) ?_|refine dB (id:=9) ?_|refine dB (id:=17) ?_|refine aG ?_|refine sK2 ?_|refine sK6 ?_|fail));exact h_k_.h):A:=h ⟨k⟩
theorem Un {A B:Prop} (k:B) (h:Hide B→A:=by intro h_k_;(repeat' (first|refine sCm ?_|(refine gU ?_;first|(refine yO ?_;refine st (kK rfl) (by exact hrd) rfl ?_)|(refine bV ?_;refine st (aK rfl (by first|exact aF hN.b0|exact aF a0|exact aF a1|assumption)) (by exact hrd) rfl ?_)|(refine ES ?_;refine st (vJ rfl rfl (by omega) (by omega)) (by exact hrd) rfl ?_)|(refine BK ?_;refine st (jm rfl rfl rfl) (by exact hrd) rfl ?_)|(refine gIA ?_;refine st (nD rfl rfl (by omega) (by omega)) (by exact hrd) rfl ?_)|(refine dX ?_;refine st (bG rfl rfl rfl (by exact hf1)) (by exact hrd) rfl ?_)|(refine Cj ?_;refine st (kC rfl) (by exact hrd) rfl ?_)|(refine gV ?_;refine stN (bU rfl rfl rfl rfl (by first|exact iW (aD _) (cU _)|exact hput)) (by exact hrd) ?_))|(refine fU ?_;first|refine gB ?_;refine frA (aK rfl (by exact hq8 _)) rfl ?_ rfl|refine fIA ?_;refine frA (nD rfl rfl (by omega) (by omega)) rfl ?_ hclr|refine gB ?_;refine frA (aK rfl (by exact hq7 _)) rfl ?_ rfl|refine fIA ?_;refine frA (nD rfl rfl (by omega) (by omega)) rfl ?_ hcl5|refine gB ?_;refine frA (aK rfl (by exact hq5 _)) rfl ?_ rfl|refine gB ?_;refine frA (aK rfl (by exact hq2 _)) rfl ?_ hcln|refine gB ?_;refine frA (aK rfl (by exact hq6 _)) rfl ?_ rfl|refine PD ?_|refine Zw ?_|refine LM ?_|refine VT ?_|(refine qF ?_;refine fr (bG rfl rfl rfl (by exact hfa _)) (by rfl) rfl ?_))|(refine fP ⟨by kernel_rfl,?_⟩)|refine aG ?_|refine sK2 ?_|refine sK6 ?_|fail));exact h_k_.h):A:=h ⟨k⟩
theorem Qp {σ:Heap} {B:Bld} {nb sb cS tb cT:Nat} (hv:xK B) (hB:kZ σ B nb sb cS tb cT) {sn:Nat} (hst:sn≤B.n) :
  Ev Tryz.prog 111 [.p nb,.i (sn:Nat)] σ (.agg (ints (dG (iy B.b sn))).toArray) σ:=by
 refine aI σ.length 55 Tryz.func111 rfl rfl rfl rfl rfl ?_
 have bo:=hv.n
 have b8:nb < σ.length:=aQ hB.nb
 refine xw ?_
 have hf1:=sQ (σ:=σ++[aB.rw [.p nb]]++[aB.rw (List.replicate 401 (.i 0))])
 refine .mk ?_
 apply aG
 refine xw ?_
 obtain ⟨H0,ac⟩:∃ H0,H0=σ++[aB.rw [.p nb]]++[aB.rw (List.replicate 401 (.i 0))]++[aB.rw (ints noRow)]:=⟨_,rfl⟩
 have a:(ints noRow).length=401:=by rw [cO,ug,eG]
 have aj:splice (List.replicate 401 (Value.i 0)) 0 (ints noRow)=ints noRow:=by simp [splice,a]
 refine .mk (dH [(1,.i (sn:Nat)),(2,.p σ.length),(4,.p (σ.length+1)),(5,.p (σ.length+2))] H0 (by rw [ac,← aj];rfl) ⟨rfl,rfl,(by (refine congrArg (fun n=>some (Value.p n)) ?_;simp;try omega)),(by (refine congrArg (fun n=>some (Value.p n)) ?_;simp;try omega)),trivial⟩ ?_)
 have c0:TG σ H0 nb noRow:=⟨by rw [ac];simp,by rw [ac];exact aA (aA aO),by rw [ac];exact aA (bJ oS),by rw [ac];exact bJ oS⟩
 have hput:putCells H0 (σ.length+2) 200 [.i 0]=some (H0.set (σ.length+2) (.rw (ints (dG (iy B.b 0))))):=fM c0.b2 (by rw [a];simp) (by rw [a];omega) (by rw [BG (by rw [ug,eG];omega),row0])
 clear aj a ac hf1
 have cm:=c0.row (dG (iy B.b 0))
 apply aG
 refine xw ?_
 refine dS (ι:=Nat) (fun i=>[(2,.p σ.length),(4,.p (σ.length+1)),(5,.p (σ.length+2)),(12,.i (sn:Nat)),(13,.i (i:Nat))])
  (fun i mk H=>i≤sn∧Mks (σ.length+3) mk H∧TG σ H nb (dG (iy B.b i))) (fun i=>sn - i) 0 tE ⟨bN _,.nil,cm⟩ ?_
 clear cm hput c0 H0
 rintro i mk H ⟨his,hM,hN⟩
 have bb:=hN.len
 by_cases b3:i<sn
 ·have cv:(i:Int)<(sn:Nat):=oO
  refine xw ?_
  obtain ⟨H1,an⟩:∃ H1,H1=H++[aB.rw [.i (i:Nat)]]:=⟨_,rfl⟩
  obtain ⟨ib,W⟩:∃ ib,ib=H.length:=⟨_,rfl⟩
  refine .mk (dH [(2,.p σ.length),(4,.p (σ.length+1)),(5,.p (σ.length+2)),(12,.i (sn:Nat)),(6,.p ib),(13,.i (i:Nat))] H1 (by rw [an];rfl) ⟨rfl,rfl,rfl,rfl,by rw [W];rfl,rfl,trivial⟩ ?_)
  have D:TG σ H1 nb (dG (iy B.b i)):=by rw [an];exact hN.app _
  have ba:Mks (σ.length+3) mk H1:=by rw [an];exact hM.app _
  have bk:H1[ib]?=some (.rw [.i (i:Nat)]):=by rw [an,W];exact aO
  have d4:σ.length+3≤ib:=oO
  clear an W bb hN hM H
  have bb:=D.len
  have hfb:=fun Y=>sQ (σ:=H1++Y)
  obtain ⟨r9,aa⟩:∃ r9,r9=ints (dG (iy B.b i)):=⟨_,rfl⟩
  have b9:∀ Y,aJ (H1++Y) (σ.length+2) 0 401=some r9:=fun Y=>by rw [aa];exact aV (D.app Y).b2 (by rw [cO,eG])
  have Z:closed H1.length (.agg r9.toArray)=true:=by
   have:=(aW (n:=H1.length) (bC (dG (iy B.b i)))).1
   rw [← aa] at this
   simpa [closed,iZ] using this
  have a8:closed H1.length (.agg (ints noRow).toArray)=true:=by
   have:=(aW (n:=H1.length) (bC noRow)).1
   simpa [closed,iZ] using this
  have bd:∀ Y:Heap,∀ {rd:Option Nat} {ty:TypeId} {e:Env} {x y:Operand},aP e x=some (.agg r9.toArray)→aP e y=some (.agg (ints noRow).toArray)→bW Tryz.prog rd (.binOp .eql 203 x y 203) ty e (H1++Y) (.bool (decide (∀ x ∈ List.range 401,iy B.b i x=nev))) (H1++Y) :=
   fun Y _ _ _ _ _ hx hy=>Y8 rfl hx hy (by rw [aa];exact bC _) (bC _) (by rw [aa];exact ints_at _) (by rw [ug];exact ints_at _)
  refine fA oK rfl ?_
  refine fU ?_
  refine gB ?_
  refine frA (bD rfl (by exact b9 _)) rfl ?_ Z
  refine fU ?_
  refine frA (bG rfl rfl rfl (by exact hfb _)) rfl ?_ a8
  refine fU ?_
  refine frA (bd _ rfl rfl) rfl ?_ rfl
  by_cases ak:∀ x ∈ List.range 401,iy B.b i x=nev
  ·rw [show dG (iy B.b sn)=dG (iy B.b i) from qw fun x hx=>by rw [Um (fun y hy=>ak y (List.mem_range.2 hy)) sn oO x hx,ak x (List.mem_range.2 hx)]]
   refine xw ?_
   refine .mk (dH [(2,.p σ.length),(4,.p (σ.length+1)),(5,.p (σ.length+2)),(12,.i (sn:Nat))] H1 (bL H1) tE ?_)
   clear bd a8 Z b9 aa hfb
   obtain ⟨c,I⟩:∃ r,r=dG (iy B.b i):=⟨_,rfl⟩
   rw [← I] at D ⊢
   have c9:c.length=401:=by rw [I,eG]
   have a:(ints c).length=401:=by rw [cO,c9]
   have R:=jZ c
   have be:=bC c
   have hd1:aJ H1 (σ.length+2) 0 401=some (ints c):=aV D.b2 a
   have hput:putCells H1 (σ.length+1) 0 (ints c)=some (H1.set (σ.length+1) (.rw (ints c))):=fM D.b1 (by rw [a];simp) oS (by simp [splice,a])
   have N:=ba.set (x:=.rw (ints c)) D.b1 oS
   have bq:(H1.set (σ.length+1) (.rw (ints c)))[σ.length+1]?=some (.rw (ints c)):=aS D.b1
   have bc:(H1.set (σ.length+1) (.rw (ints c))).take σ.length=σ:=take_set D.pre oO
   apply aG
   generalize ints c=rc at *
   refine xw ?_
   refine stN (bU (size:=401) rfl rfl (by exact a) (by exact R) (by exact hput)) rfl ?_
   refine xw ?_
   have c7:=pO (mk:=mk) bc fun x hx=>by have:=(N.2 x hx).1;omega
   exact TL N (.cellN inferInstance rfl (aV (rC bq fun hx=>by have:=(N.2 _ hx).1;omega) a) .nil) (.plain c7 be) ⟨rfl,rfl⟩
  ·refine xw ?_
   refine .mk (dH [(2,.p σ.length),(4,.p (σ.length+1)),(5,.p (σ.length+2)),(12,.i (sn:Nat)),(6,.p ib),(13,.i (i:Nat))] H1 (bL H1) tE ?_)
   clear bd a8 Z b9 aa hfb
   have a:(ints noRow).length=401:=by rw [cO,ug,eG]
   have aj:splice (List.replicate 401 (Value.i 0)) 0 (ints noRow)=ints (dG (cOut B.b i (iy B.b i) 0)):=by
    rw [show dG (cOut B.b i (iy B.b i) 0)=noRow from ug.symm];simp [splice,a]
   have hf1:=sQ (σ:=H1)
   apply aG
   refine xw ?_
   clear hf1
   obtain ⟨H2,a4⟩:∃ H2,H2=H1++[aB.rw (ints (dG (cOut B.b i (iy B.b i) 0)))]:=⟨_,rfl⟩
   refine .mk (dH [(2,.p σ.length),(4,.p (σ.length+1)),(5,.p (σ.length+2)),(12,.i (sn:Nat)),(6,.p ib),(7,.p H1.length),(13,.i (i:Nat))] H2 (by rw [a4,← aj];rfl) tE ?_)
   have hf1:=yB (σ:=H2) (lo:=-200) (hi:=200)
   apply aG
   refine xw ?_
   clear hf1 aj a
   obtain ⟨Hc,U⟩:∃ Hc,Hc=H2++[aB.rw [.i (-200)]]++[aB.rw [.i 200]]:=⟨_,rfl⟩
   obtain ⟨rb,az⟩:∃ rb,rb=H1.length:=⟨_,rfl⟩
   have F:H2.length=rb+1:=by rw [a4,az];simp
   have T:Hc.length=rb+3:=by rw [U];simp [F]
   have bz:TG σ Hc nb (dG (iy B.b i)):=by rw [U,a4];exact ((D.app _).app _).app _
   have au:Mks (σ.length+3) mk Hc:=by rw [U,a4];exact ((ba.app _).app _).app _
   have bl:Hc[ib]?=some (.rw [.i (i:Nat)]):=by rw [U,a4];exact aA (aA (aA bk))
   have bw:Hc[rb]?=some (.rw (ints (dG (cOut B.b i (iy B.b i) 0)))):=by rw [U,a4,az];exact aA (aA aO)
   have bh:Hc[rb+1]?=some (.rw [.i (-200)]):=by rw [U];exact aA (bJ F)
   have c6:Hc[rb+2]?=some (.rw [.i 200]):=by rw [U];exact bJ (by simp [F])
   have bn:ib<rb:=by have:=aQ bk;omega
   have b5:σ.length+3≤rb:=by have:=D.len;omega
   refine dH [(2,.p σ.length),(4,.p (σ.length+1)),(5,.p (σ.length+2)),(12,.i (sn:Nat)),(6,.p ib),(7,.p rb),(13,.i (i:Nat)),(21,.func (.func 278) #[] #[.p (rb+1),.p (rb+2)])] Hc U.symm ⟨rfl,rfl,rfl,rfl,rfl,by rw [az];rfl,rfl,by rw [show rb+2=rb+1+1 from rfl,← F];rfl,trivial⟩ ?_
   clear U a4 F az D ba bk bb H2 H1
   refine kG (p:=[]) (q:=[.p (rb+1),.p (rb+2)]) rfl fun L hL=>?_
   obtain ⟨A,z⟩:∃ A,A=Hc++[aB.dfr,L]:=⟨_,rfl⟩
   have cg:A.length=rb+5:=by rw [z];simp [T]
   have ax:TG σ A nb (dG (iy B.b i)):=by rw [z];exact bz.app _
   have c4:Mks (σ.length+3) mk A:=by rw [z];exact au.app _
   have aw:A[ib]?=some (.rw [.i (i:Nat)]):=by rw [z];exact aA bl
   have ae:A[rb]?=some (.rw (ints (dG (cOut B.b i (iy B.b i) 0)))):=by rw [z];exact aA bw
   have bu:A[rb+1]?=some (.rw [.i (-200)]):=by rw [z];exact aA bh
   have bs:A[rb+2]?=some (.rw [.i 200]):=by rw [z];exact aA c6
   have bt:A[rb+3]?=some .dfr:=by rw [← T,z,bE (aD _)];simp
   have ad:A[rb+4]?=some L:=by rw [show rb+4=Hc.length+1 by omega,z,bE oO];simp
   rw [← z,T]
   refine zo (S:=fun j=>A.set rb (.rw (ints (dG (cOut B.b i (iy B.b i) j))))) (l:=rb+4) (lb:=rb+1) (hb:=rb+2) (lo:=-200) (hi:=200) (n:=401) oO oO oO rfl (set_self ae) (fun j=>by simp) (fun j=>aC bu oO) (fun j=>aC bs oO)
    (fun j=>(aC ad oO).trans (congrArg some hL)) (fun h j=>jw (o:=.rw (ints _)) (aW (bC _)) h) rfl ?_ ?_
   ·intro j hj X QB aq
    obtain ⟨f,hf⟩:∃ f,f=-200+(j:Int):=⟨_,rfl⟩
    obtain ⟨HX,P⟩:∃ HX,HX=A.set rb (.rw (ints (dG (cOut B.b i (iy B.b i) j))))++X:=⟨_,rfl⟩
    have cn:TG σ HX nb (dG (iy B.b i)):=by rw [P];exact (ax.set b5 _).app X
    have cb:HX[ib]?=some (.rw [.i (i:Nat)]):=by rw [P];exact aA (aC aw oO)
    have cq:HX[rb]?=some (.rw (ints (dG (cOut B.b i (iy B.b i) j)))):=by rw [P];exact aA (aS ae)
    have av:HX[rb+4]?=some L:=by rw [P];exact aA (aC ad oO)
    have hrd:lQ (some (rb+4)) (A.length+X.length)=true:=(show Nat.blt _ _=true from Nat.blt_eq.mpr oO)
    have bg:HX.length=A.length+X.length:=by rw [P];simp
    rw [← hf,← P,← bg]
    rw [← bg] at hrd
    refine Un ?_
    refine xG (aA av) hL fun O hO=>?_
    obtain ⟨HB,J⟩:∃ HB,HB=(HX++[aB.rw [.i f]]).set (rb+4) O:=⟨_,rfl⟩
    have cz:=aQ av
    have ah:TG σ HB nb (dG (iy B.b i)):=by rw [J];exact (cn.app _).set oO _
    have bp:HB[ib]?=some (.rw [.i (i:Nat)]):=by rw [J];exact aC (aA cb) oO
    have cl:HB[rb]?=some (.rw (ints (dG (cOut B.b i (iy B.b i) j)))):=by rw [J];exact aC (aA cq) oO
    have bj:HB[HX.length]?=some (.rw [.i f]):=by rw [J];exact aC aO oO
    have cp:HB[rb+4]?=some O:=by rw [J];exact aS (aA av)
    have bf:HB.length=HX.length+1:=by rw [J];simp
    refine dH [(2,.p σ.length),(5,.p (σ.length+2)),(6,.p ib),(7,.p rb),(8,.p HX.length)] HB (by rw [J];rfl) tE ?_
    have am:i<B.n:=oO
    obtain ⟨v,a5⟩:∃ v,v=iy B.b i j:=⟨_,rfl⟩
    have a3:=Qo hv.ok i (by show i≤B.n;omega) j
    rw [← a5] at a3
    have hvin2:0≤v∧v≤1099511627776:=a3
    have a0:=bp
    have a1:=bj
    have hN:=ah
    have bv:aH HB (σ.length+2) (0+(f+200).toNat*1)=some (.i v):=by
     rw [aF ah.b2,gQ (by rw [eG];omega),uO oO,a5,show 0+(f+200).toNat*1=j by omega]
    by_cases bx:v≥1099511627776
    ·refine Un ?_
     have hcs:cOut B.b i (iy B.b i) (j+1)=cOut B.b i (iy B.b i) j:=by simp only [cOut];rw [if_pos (by rw [← a5];exact bx)]
     rw [hcs] at aq
     have d0:HB=(A.set rb (.rw (ints (dG (cOut B.b i (iy B.b i) j))))).set (rb+4) O++X++[aB.rw [.i f]]:=by
      rw [J,P,cH _ _ (by simp;omega),cH _ _ (by simp;omega)]
     rw [d0,hO]
     exact aq _ _ _
    ·have hcs:cOut B.b i (iy B.b i) (j+1)=cIn B.b i f v (cOut B.b i (iy B.b i) j) (B.b.sN i f):=by simp only [cOut];rw [if_neg (by rw [← a5];exact bx),← hf,← a5]
     have hf1:=KU (σ:=HB) (i:=i) (f:=f) hv (hB.take ah.pre) am oO
     refine Un ?_
     clear hf1 a0 a1 hN
     have b3:=am
     obtain ⟨HD,E⟩:∃ HD,HD=HB++[aB.rw [.i (B.b.sLo i f)]]++[aB.rw [.i (min (B.b.hi i) (f+B.most))]]:=⟨_,rfl⟩
     have C:HD.length=HB.length+2:=by rw [E];simp
     obtain ⟨fb,hfb⟩:∃ fb,fb=HX.length:=⟨_,rfl⟩
     have d3:=hv.tube b3
     have d6:=hv.most
     have d1:-200≤B.b.sLo i f∧B.b.sLo i f≤400:=by unfold Bl.sLo;show -200≤max (B.b.lo i) (f - B.most)∧max (B.b.lo i) (f - B.most)≤400;omega
     rw [← E]
     refine Ey (p:=[]) (q:=[.p HB.length,.p (HB.length+1)]) (L0:=O) hrd (by rw [E];exact aA (aA cp)) (by rw [hO];rfl) rfl fun L2 ar=>?_
     obtain ⟨A2,t⟩:∃ A2,A2=HD++[L2]:=⟨_,rfl⟩
     have c1:A2.length=HB.length+3:=by rw [t];simp [C]
     have ao:TG σ A2 nb (dG (iy B.b i)):=by rw [t,E];exact ((ah.app _).app _).app _
     have af:A2[ib]?=some (.rw [.i (i:Nat)]):=by rw [t,E];exact aA (aA (aA bp))
     have a6:A2[rb]?=some (.rw (ints (dG (cOut B.b i (iy B.b i) j)))):=by rw [t,E];exact aA (aA (aA cl))
     have ag:A2[fb]?=some (.rw [.i f]):=by rw [t,E,hfb];exact aA (aA (aA bj))
     have ap:A2[HB.length]?=some (.rw [.i (B.b.sLo i f)]):=by rw [t,E];exact aA (aA aO)
     have ai:A2[HB.length+1]?=some (.rw [.i (min (B.b.hi i) (f+B.most))]):=by rw [t,E];exact aA (bJ oS)
     have M:A2[HB.length+2]?=some L2:=by rw [t];exact bJ C
     rw [← t,C]
     refine zo (S:=fun q=>A2.set rb (.rw (ints (dG (cIn B.b i f v (cOut B.b i (iy B.b i) j) q))))) (l:=HB.length+2) (lb:=HB.length) (hb:=HB.length+1) (lo:=B.b.sLo i f) (hi:=min (B.b.hi i) (f+B.most)) (n:=B.b.sN i f) oO oO oO rfl (set_self a6) (fun j=>by simp) (fun j=>aC ap oO) (fun j=>aC ai oO)
      (fun j=>(aC M oO).trans (congrArg some ar)) (fun h j=>jw (o:=.rw (ints _)) (aW (bC _)) h) rfl ?_ ?_
     ·intro q hq X2 QB2 a7
      have hg:=(B.b.KR (i:=i) (f:=f) (g:=B.b.sLo i f+q)).1 ⟨oO,oO⟩
      obtain ⟨g,ay⟩:∃ g,g=B.b.sLo i f+q:=⟨_,rfl⟩
      rw [← ay] at hg ⊢
      have hg2:-200≤g∧g≤200:=oO
      obtain ⟨m,hm⟩:∃ m,m=cIn B.b i f v (cOut B.b i (iy B.b i) j) q (g+200).toNat:=⟨_,rfl⟩
      have u:=afa (b:=B.b) (i:=i) (f:=f) (v:=v) (G:=cOut B.b i (iy B.b i) j) (q:=q) (x0:=(g+200).toNat) (by rw [ay])
      rw [← hm,← ay] at u
      generalize hRq:cIn B.b i f v (cOut B.b i (iy B.b i) j) q=Rq at hm u
      generalize hRq1:dG (cIn B.b i f v (cOut B.b i (iy B.b i) j) (q+1))=Rn at u a7
      obtain ⟨HY,V⟩:∃ HY,HY=A2.set rb (.rw (ints (dG Rq)))++X2:=⟨_,rfl⟩
      have cc:TG σ HY nb (dG (iy B.b i)):=by rw [V];exact (ao.set b5 _).app X2
      have ck:HY[ib]?=some (.rw [.i (i:Nat)]):=by rw [V];exact aA (aC af oO)
      have ce:HY[rb]?=some (.rw (ints (dG Rq))):=by rw [V];exact aA (aS a6)
      have cf:HY[fb]?=some (.rw [.i f]):=by rw [V];exact aA (aC ag oO)
      have ca:HY[HB.length+2]?=some L2:=by rw [V];exact aA (aC M oO)
      have hrd:lQ (some (HB.length+2)) (A2.length+X2.length)=true:=(show Nat.blt _ _=true from Nat.blt_eq.mpr oO)
      rw [← V]
      refine Un ?_
      refine xG ca ar fun O2 ch=>?_
      obtain ⟨HZ,a9⟩:∃ HZ,HZ=HY.set (HB.length+2) O2:=⟨_,rfl⟩
      have al:TG σ HZ nb (dG (iy B.b i)):=by rw [a9];exact cc.set oO _
      have c2:HZ[ib]?=some (.rw [.i (i:Nat)]):=by rw [a9];exact aC ck oO
      have b6:HZ[rb]?=some (.rw (ints (dG Rq))):=by rw [a9];exact aC ce oO
      have br:HZ[fb]?=some (.rw [.i f]):=by rw [a9];exact aC cf oO
      rw [← a9]
      have c3:=al.len
      have cr:rb<HZ.length:=aQ b6
      have cw:ib<HZ.length:=aQ c2
      have cx:fb<HZ.length:=aQ br
      have cu:σ.length+2<HZ.length:=oO
      have ci:nb<HZ.length:=oO
      have hclr:∀ {o:Nat},closed HZ.length (.pointer (some ⟨rb,o,none⟩))=true:=fun {o}=>Nat.blt_eq.mpr cr
      have hcl5:∀ {o:Nat},closed HZ.length (.pointer (some ⟨σ.length+2,o,none⟩))=true:=fun {o}=>Nat.blt_eq.mpr cu
      have hcln:closed HZ.length (.p nb)=true:=Nat.blt_eq.mpr ci
      have hq2:∀ Y,aH (HZ++Y) σ.length 0=some (.p nb):=fun Y=>aF (al.app Y).b0
      have hq6:∀ Y,aH (HZ++Y) ib 0=some (.i (i:Nat)):=fun Y=>aF (aA c2)
      have hq8:∀ Y,aH (HZ++Y) fb 0=some (.i f):=fun Y=>aF (aA br)
      have c5:0+(g+200).toNat*1=(g+200).toNat:=oO
      have c8:(g+200).toNat<401:=oO
      have hq7:∀ Y,aH (HZ++Y) rb (0+(g+200).toNat*1)=some (.i m):=fun Y=>by rw [c5,aF (aA b6),gQ (by rw [eG];exact c8),uO c8,← hm]
      have hq5:∀ Y,aH (HZ++Y) (σ.length+2) (0+(f+200).toNat*1)=some (.i v):=fun Y=>by
       rw [aF (al.app Y).b2,gQ (by rw [eG];omega),uO oO,a5,show 0+(f+200).toNat*1=j by omega]
      have hfa:=fun Y=>Qm (σ:=HZ++Y) (i:=i) (d:=g - f) hv ((hB.take al.pre).app) b3 oO
      have d5:0≤B.hard i*ab (g - f)∧B.hard i*ab (g - f)≤9000:=by
       have h1:=hv.st i b3
       have h0:0≤ab (g - f)∧ab (g - f)≤1000:=by unfold ab;omega
       refine ⟨er oO h0.1,?_⟩
       exact Int.le_trans (fo (by omega:B.hard i≤9) h0.2 h0.1 oO) oO
      have w:(dG Rq).set (g+200).toNat (min m (v+B.hard i*ab (g - f)))=Rn:=u
      rw [← hfb]
      generalize hcoD:B.hard i*ab (g - f)=co at d5 hfa w
      have hfr:-200≤f∧f≤200:=oO
      have hput:putCells (HZ++gJ (fun _=>true) []) rb (0+(g+200).toNat*1) [.i (min m (v+co))]=some (HZ.set rb (.rw (ints Rn))):=by
       rw [show HZ++gJ (fun _=>true) []=HZ from bL HZ,c5]
       exact fM b6 (by rw [cO,eG];simp;omega) (by rw [cO,eG];omega) (by rw [BG (by rw [eG];exact c8),w])
      refine qg (bK.mono (Q:=fun ex _ _ s=>ex=Exit.normal∧s=HZ.set rb (.rw (ints Rn))) ?_ ?_)
      ·clear a7 hm af a6 ag ap ai M ao cc ck ce cf ca al c2 b6 br c3 cr cw cx cu ci c5 hcoD a9 V ay hg c1 t d1 d6 d3 hfb C E bp bf cp bj cl ah cz J bg av cq cb cn P hf aq ad bt bs bu ae aw c4 ax cg z b5 bn c6 bh bw bl au bz T d4 b8 bo hst hB ch ar hO hL hq u w hRq hRq1 hcs bx bv a5 a3
       refine fA oK hrd ?_
       refine Un ?_
       exact ⟨rfl,rfl⟩
      ·rintro ex e' mk' s ⟨rfl,rfl⟩
       rw [a9,V,ac2 oO oO oO]
       refine uF ?_
       rw [ch]
       exact a7 _ _ _
     ·refine ⟨.ready,none,_,_,_,_,_,(aC M oO).trans (congrArg some ar),by simp,?_⟩
      show (dO 4 (dO 3 QB)) _ _ _ _
      refine uF ?_
      refine uF ?_
      rw [← hcs,← C,t,E,J,P,ac1 oO oO oO,hO]
      exact aq _ _ _
   ·refine ⟨.ready,none,_,_,_,_,_,(aC ad oO).trans (congrArg some hL),by simp,?_⟩
    show (dO 2 _) _ _ _ _
    refine uF ?_
    refine tC ?_
    rw [show dG (cOut B.b i (iy B.b i) 401)=dG (iy B.b (i+1)) from rfl]
    obtain ⟨K,hK⟩:∃ K,K=(A.set rb (.rw (ints (dG (iy B.b (i+1)))))).set (rb+4) .dead:=⟨_,rfl⟩
    have b4:TG σ K nb (dG (iy B.b i)):=by rw [hK];exact (ax.set b5 _).set oO _
    have cd:K[ib]?=some (.rw [.i (i:Nat)]):=by rw [hK];exact aC (aC aw oO) oO
    have cj:K[rb]?=some (.rw (ints (dG (iy B.b (i+1))))):=by rw [hK];exact aC (aS ae) oO
    have cy:Mks (σ.length+3) ((rb+3)::mk) K:=by
     rw [hK]
     refine Mks.cons ((c4.set ae oS).set (aC ad oO) (by rw [hL];simp)) (au.new oO) oO (aC (aC bt oO) oO)
    rw [← hK]
    clear hK ae aw c4 ax ad bt bs bu cg z hL c6 bh bw bl au bz
    have hKr:rb<K.length:=aQ cj
    have a:(ints (dG (iy B.b (i+1)))).length=401:=by rw [cO,eG]
    have R:=jZ (dG (iy B.b (i+1)))
    have hd1:aJ K rb 0 401=some (ints (dG (iy B.b (i+1)))):=aV cj a
    have hput:putCells K (σ.length+2) 0 (ints (dG (iy B.b (i+1))))=some (K.set (σ.length+2) (.rw (ints (dG (iy B.b (i+1)))))):=fM b4.b2 (by rw [a,cO,eG];omega) (by rw [cO,eG];omega) (by simp [splice,cO,eG])
    have hN:=b4
    have a0:=cd
    apply aG
    refine xw ?_
    have d2:=b4.row (dG (iy B.b (i+1)))
    have N:=cy.set (x:=.rw (ints (dG (iy B.b (i+1))))) b4.b2 oS
    have hi2:=aC (x:=.rw (ints (dG (iy B.b (i+1))))) cd (show σ.length+2 ≠ ib by omega)
    exact ⟨i+1,⟨oO,N,d2⟩,oO,tE⟩
 ·have cv:¬ (i:Int)<(sn:Nat):=oO
  refine xw ?_
  obtain rfl:i=sn:=oO
  obtain ⟨c,I⟩:∃ r,r=dG (iy B.b i):=⟨_,rfl⟩
  rw [← I] at hN ⊢
  have c9:c.length=401:=by rw [I,eG]
  have a:(ints c).length=401:=by rw [cO,c9]
  have R:=jZ c
  have be:=bC c
  have hd1:aJ H (σ.length+2) 0 401=some (ints c):=aV hN.b2 a
  have hput:putCells H (σ.length+1) 0 (ints c)=some (H.set (σ.length+1) (.rw (ints c))):=fM hN.b1 (by rw [a];simp) oS (by simp [splice,a])
  have N:=hM.set (x:=.rw (ints c)) hN.b1 oS
  have bq:(H.set (σ.length+1) (.rw (ints c)))[σ.length+1]?=some (.rw (ints c)):=aS hN.b1
  have bc:(H.set (σ.length+1) (.rw (ints c))).take σ.length=σ:=take_set hN.pre oO
  refine .mk ?_
  apply aG
  generalize ints c=rc at *
  refine xw ?_
  refine stN (bU (size:=401) rfl rfl (by exact a) (by exact R) (by exact hput)) rfl ?_
  refine xw ?_
  have c7:=pO (mk:=mk) bc fun x hx=>by have:=(N.2 x hx).1;omega
  exact TL N (.cellN inferInstance rfl (aV (rC bq fun hx=>by have:=(N.2 _ hx).1;omega) a) .nil) (.plain c7 be) ⟨rfl,rfl⟩
end Go.Proofs.YtajpgeklmcjciaaGreat
namespace Go.AH.Warp
open Go Go.AH
theorem ac4 {b:Bl} {i:Nat} {f v:Int} {G:Nat→Int} (hs:-200≤b.sLo i f):∀ (q:Nat) (x:Nat),
  cIn b i f v G q x=if b.sLo i f≤(x:Int) - 200∧(x:Int) - 200<b.sLo i f+q then min (G x) (v+b.hard i*ab ((x:Int) - 200 - f)) else G x
 |0,x=>by rw [if_neg oO];rfl
 |q+1,x=>by
  simp only [cIn]
  rw [ac4 hs q x]
  by_cases h:x=(b.sLo i f+q+200).toNat
  ·rw [if_pos h,if_neg oO,if_pos oO,show (x:Int) - 200=b.sLo i f+q by omega]
  ·rw [if_neg h]
   by_cases h2:b.sLo i f≤(x:Int) - 200∧(x:Int) - 200<b.sLo i f+q
   ·rw [if_pos h2,if_pos oO]
   ·rw [if_neg h2,if_neg oO]
def Bl.Leads (b:Bl) (i:Nat) (f g:Int):Prop:=b.lo i≤g∧g≤b.hi i∧-b.most≤g - f∧g - f≤b.most
theorem Oc {b:Bl} {i:Nat} {R:Nat→Int} (hlo:-200≤b.lo i) (hh:0≤b.hard i) (hR:∀ x,0≤R x∧R x≤nev):∀ (j:Nat) (x:Nat),
  cOut b i R j x≤nev∧(∀ f<j,b.Leads i ((f:Int) - 200) ((x:Int) - 200)→cOut b i R j x≤R f+b.hard i*ab ((x:Int) - f)) ∧
  (cOut b i R j x<nev→∃ f<j,b.Leads i ((f:Int) - 200) ((x:Int) - 200)∧cOut b i R j x=R f+b.hard i*ab ((x:Int) - f))
 |0,x=>⟨dE _,fun f h=>oO,fun h=>absurd h (by simp [cOut])⟩
 |j+1,x=>by
  obtain ⟨h1,h2,h3⟩:=Oc hlo hh hR j x
  simp only [cOut]
  by_cases hn:R j≥nev
  ·rw [if_pos hn]
   refine ⟨h1,fun f hf hl=>?_,fun m=>?_⟩
   ·by_cases l:f=j
    ·subst l
     have:0≤b.hard i*ab ((x:Int) - f):=er hh (Bl.BF _)
     omega
    ·exact h2 f oO hl
   ·obtain ⟨f,a,c⟩:=h3 m
    exact ⟨f,oO,c⟩
  ·rw [if_neg hn]
   have hs:-200≤b.sLo i (-200+(j:Int)):=by unfold Bl.sLo;omega
   rw [ac4 hs]
   have e:=b.KR (i:=i) (f:=-200+(j:Int)) (g:=(x:Int) - 200)
   have e2:(x:Int) - 200 - (-200+(j:Int))=(x:Int) - j:=oO
   rw [e2]
   by_cases n:b.sLo i (-200+(j:Int))≤(x:Int) - 200∧(x:Int) - 200<b.sLo i (-200+(j:Int))+b.sN i (-200+(j:Int))
   ·rw [if_pos n]
    have hl:=e.1 n
    refine ⟨oO,fun f hf o=>?_,fun m=>?_⟩
    ·by_cases l:f=j
     ·subst l;omega
     ·have:=h2 f oO o;omega
    ·by_cases hc:cOut b i R j x≤R j+b.hard i*ab ((x:Int) - j)
     ·obtain ⟨f,a,c,d⟩:=h3 oO
      exact ⟨f,oO,c,oO⟩
     ·exact ⟨j,oO,⟨hl.1,hl.2.1,oO,oO⟩,oO⟩
   ·rw [if_neg n]
    refine ⟨h1,fun f hf hl=>?_,fun m=>?_⟩
    ·by_cases l:f=j
     ·subst l
      exact absurd (e.2 ⟨hl.1,hl.2.1,by have:=hl.2.2.1;omega,by have:=hl.2.2.2;omega⟩) n
     ·exact h2 f oO hl
    ·obtain ⟨f,a,c⟩:=h3 m
     exact ⟨f,oO,c⟩
def Bl.ct (b:Bl):Nat→Int→Int
 |0,g=>if g=0 then 0 else nev
 |i+1,g=>if b.lo i≤g∧g≤b.hi i then oQ (fun f=>b.ct i f+b.hard i*ab (g - f)) (max (-200) (g - b.most)) (min 200 (g+b.most)+1 - max (-200) (g - b.most)).toNat else nev
theorem Qq {b:Bl} (ho:b.Ok) (hlo:∀ i<b.n,-200≤b.lo i):∀ i≤b.n,∀ x<401,iy b i x=b.ct i ((x:Int) - 200)
 |0,_,x,hx=>by
  simp only [iy,Bl.ct]
  by_cases h:x=200
  ·rw [if_pos h,if_pos oO]
  ·rw [if_neg h,if_neg oO]
 |i+1,hi,x,hx=>by
  have ih:=Qq ho hlo i oO
  have hR:=Qo ho i oO
  obtain ⟨h1,h2,h3⟩:=Oc (R:=iy b i) (hlo i oO) (by have:=(ho i oO).1;omega) hR 401 x
  show cOut b i (iy b i) 401 x=_
  simp only [Bl.ct]
  by_cases ht:b.lo i≤(x:Int) - 200∧(x:Int) - 200≤b.hi i
  ·rw [if_pos ht]
   refine Int.le_antisymm (KQ h1 fun f f1 f2=>?_) ?_
   ·have:=h2 (f+200).toNat oO ⟨ht.1,ht.2,oO,oO⟩
    rw [ih _ oO] at this
    rw [show (x:Int) - 200 - f=(x:Int) - ((f+200).toNat:Nat) by omega]
    rwa [show (((f+200).toNat:Nat):Int) - 200=f by omega] at this
   ·by_cases a:cOut b i (iy b i) 401 x<nev
    ·obtain ⟨f,f1,f2,f3⟩:=h3 a
     have f4:=f2.2.2
     rw [f3,ih f f1]
     have:=KP (F:=fun f=>b.ct i f+b.hard i*ab ((x:Int) - 200 - f)) (lo:=max (-200) ((x:Int) - 200 - b.most)) (k:=(min 200 ((x:Int) - 200+b.most)+1 - max (-200) ((x:Int) - 200 - b.most)).toNat) (g:=(f:Int) - 200) oO oO
     rwa [show (x:Int) - 200 - ((f:Int) - 200)=(x:Int) - f by omega] at this
    ·have:=F9 (fun f=>b.ct i f+b.hard i*ab ((x:Int) - 200 - f)) (max (-200) ((x:Int) - 200 - b.most)) (min 200 ((x:Int) - 200+b.most)+1 - max (-200) ((x:Int) - 200 - b.most)).toNat
     omega
  ·rw [if_neg ht]
   refine Int.le_antisymm h1 (Int.not_lt.1 fun a=>?_)
   obtain ⟨f,_,f2,_⟩:=h3 a
   exact ht ⟨f2.1,f2.2.1⟩
end Go.AH.Warp
namespace Go.Proofs.YtajpgeklmcjciaaGreat
open Go Go.AH
attribute [local irreducible] bZ bK bM jB gy dO fC bW eU aX dV eH
open Go.AH.Heat
theorem YB {A B:Prop} (k:B) (h:Hide B→A:=by intro h_k_;(repeat' (first|(refine gU ?_;first|refine Py ?_|refine Pz ?_|(refine bV ?_;refine st (aK rfl (by first|exact aF a1|exact aF a2)) rfl rfl ?_)|refine LP ?_|refine sK0 ?_|(refine yP ?_;refine st (kW rfl) rfl rfl ?_))|refine xR ?_|refine aG ?_|refine kP ?_|refine tC ?_|refine Y0 ?_|refine uF ?_|refine Ci rfl ?_|refine yI ?_|refine zJ ?_|refine qg ?_|refine sK2 ?_|refine sK6 ?_|fail));exact h_k_.h):A:=h ⟨k⟩
theorem Uo {lo hi:Int} (hlo:-1000000≤lo) (hlo2:lo≤1000000) (hhi:hi≤1000000) {n:Nat} (hn:n=(hi+1 - lo).toNat) {σ:Heap} {l lb hb N' p1:Nat} {e':Env} {assign body:Code} {R:Value→Heap→Prop} (I:Nat→Heap→Prop)
  (h0:I 0 σ) (hlen:∀ j H,I j H→σ.length≤H.length) (hlb:∀ j H,I j H→H[lb]?=some (.rw [.i lo])) (hhb:∀ j H,I j H→H[hb]?=some (.rw [.i hi]))
  (hL:∀ j H,I j H→H[l]?=some (.loop .ready none N' e' [p1].toArray assign body)) (hps:Nat.blt p1 N'=true)
  (hround:∀ (j:Nat) (hj:j<n) (H:Heap) (hI:I j H) (QB:Post),(∀ e1 mk1 H',I (j+1) H'→QB .normal e1 mk1 (H'.set l (.loop .busy none N' e' [p1].toArray assign body))) →
   bK Tryz.prog H.length N' (some l) assign (dV Tryz.prog H.length N' l body QB) (lT [p1] [.i (lo+j)] e') [] H)
  (hR:∀ H,I n H→R (.tuple #[]) H):eU Tryz.prog 278 [.func (.yield l) #[] #[],.p lb,.p hb] σ R:=by
 refine aI σ.length 15 Tryz.func278 rfl rfl rfl rfl rfl ?_
 have a1:=hlb 0 _ h0
 have a2:=hhb 0 _ h0
 refine YB ?_
 clear a1 a2
 refine dS (ι:=Nat) (fun k=>[(0,.func (.yield l) #[] #[]),(1,.p lb),(2,.p hb),(4,.i (lo+k))])
  (fun k mk H=>k≤n∧mk=[]∧I k H) (fun k=>n - k) 0 ⟨rfl,rfl,rfl,(by simp [Env.get]),trivial⟩ ⟨bN _,rfl,h0⟩ ?_
 rintro k mk H ⟨hk,rfl,hI⟩
 have a1:=hlb k H hI
 have a2:=hhb k H hI
 by_cases e:k<n
 ·have f:lo+(k:Int)≤hi:=oO
  refine YB ?_
  refine Aa (ps:=[p1]) rfl rfl (hL k H hI) rfl (by simp [hps]) rfl ?_
  refine hround k e H hI _ fun e1 mk1 H' c=>?_
  have d:=hL (k+1) H' c
  refine yw (aS d) rfl ?_
  have a:(H'.set l (aB.loop .busy none N' e' [p1].toArray assign body)).set l (l9 .ready none (aB.loop .busy none N' e' [p1].toArray assign body))=H':=by
   rw [cX]
   simp only [l9]
   rw [set_self d]
  rw [a]
  refine YB ?_
  exact ⟨k+1,⟨oO,rfl,c⟩,oO,⟨rfl,rfl,rfl,congrArg (fun x=>some (Value.i x)) oO,trivial⟩⟩
 ·obtain rfl:k=n:=oO
  have f:¬ lo+(k:Int)≤hi:=oO
  refine YB ?_
  exact U5 (v2:=.tuple #[]) (σ2:=H) .nil .all (hR H hI)
end Go.Proofs.YtajpgeklmcjciaaGreat
