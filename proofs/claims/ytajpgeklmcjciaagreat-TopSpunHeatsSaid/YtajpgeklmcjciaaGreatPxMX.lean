/- A run of a call that the kernel computes in abstract heaps, and the theorem that what it computes is what the call does. Conditions: the tables hold, the oracle is sound. -/
import Derived.Test.YtajpgeklmcjciaaGreatPxMC
namespace Go.AH
open Go
section ops
variable {P:Program} {rd:Option Nat} {ty:TypeId} {e:Env} {σ:Heap} {x y a:Operand}
theorem Vq {t el size bytes i n sz:Nat} {agg:Bool} {z:Value} {k k':IntKind} [ha:Sl P t el] [ht:Ty P el size agg z bytes] (hx:aP e x=some (.slice (some ⟨i,0,some sz⟩) n n)) (hy:aP e y=some (.int k (n:Nat))) (hz:aP e a=some (.int k' (n:Nat))) :
  bW P rd (.slice t x none (some y) (some a)) ty e σ (.slice (some ⟨i,0,some 0⟩) n n) σ :=
 bY oS fun op ho _ G w0 ρ A w hs c=>by
  have hv:=c x (by simp [Op.operands]) _ hx
  have h1:=bH (c y (by simp [Op.operands]) _ hy) rfl
  have h2:=bH (c a (by simp [Op.operands]) _ hz) rfl
  obtain ⟨e1,e2⟩:=Bd ha
  generalize hr:A.eval x=r at hv
  cases hv with
  |gslice _ _ _ _ cap _ hc hcs hi _ =>
   have hcap:=hc.1
   have:=run_slice_hm (P:=P) w t (some ⟨(ρ i).b,(ρ i).o+0,none⟩) n cap e1 k k' n n oO oO oO
   simp only [cM] at this
   refine ⟨ρ,.slice (some ⟨(ρ i).b,(ρ i).o+0,none⟩) n n,w,.inl ?_,VQ.gslice i 0 n n n 0 ⟨aD _,fun _=>rfl⟩ oO hi rfl,aD _,fun _ _=>rfl,hs⟩
   have e3:sliced (some ⟨(ρ i).b,(ρ i).o+0,none⟩) 0 n n size=.slice (some ⟨(ρ i).b,(ρ i).o+0,none⟩) n n:=by simp only [sliced];split <;> simp [addr_add]
   simp only [cV] at hr this e3 ⊢
   simp [execOp,ho,hr,h1,h2,run_sliceAt_slice _ _ _ _ _ _ e1,this,e2,ht.sizeOf,e3]
  |gsliceG _ _ _ _ _ _ _ _ hq=>simp at hq
theorem JA {t el size bytes i o n j oj m c:Nat} {agg:Bool} {z:Value} {cs news:List Value} [ha:Sl P t el] [ht:Ty P el size agg z bytes] (hzs:z.cells.size=size) (h0:Nat.blt 0 size=true)
  (hx:aP e x=some (.slice (some ⟨i,o,some 0⟩) n n)) (hcs:aJ σ i o (n*size)=some cs) (hy:aP e y=some (.slice (some ⟨j,oj,none⟩) m c)) (hc:aJ σ j oj (m*size)=some news) (hm:0<m)
  (hb:n+m≤1000000) (hby:bytes≤1000000) :
  bW P rd (.call { callee:=.builtin .append,args:=#[x,y],argTypes:=#[t,t] }) ty e σ (dW σ.length size (n+m)) (σ++[.gr (cs++news) el]) :=
 bY oS fun op ho _ G w0 ρ A w hs u=>by
  have s:=u x (by simp [Op.operands,Call.operands]) _ hx
  have D:=u y (by simp [Op.operands,Call.operands]) _ hy
  obtain ⟨ie,i1,i2,i3,i4⟩:=ht.info
  have L:A.eval x=.slice (some ⟨(ρ i).b,(ρ i).o+o,none⟩) n n:=by
   generalize hr:A.eval x=r at s
   cases s with
   |gslice _ _ _ _ cap _ h _ _ _=>rw [← h.2 rfl]
   |gsliceG _ _ _ _ _ _ _ _ hq=>simp at hq
  have p:∃ c',A.eval y=.slice (some ⟨(ρ j).b,(ρ j).o+oj,none⟩) m c':=by
   generalize hr:A.eval y=r at D
   cases D with
   |emptySlice=>omega
   |slice _ _ _ _ c' _ _=>exact ⟨c',rfl⟩
   |sliceG _ _ _ _ _ _ _ _ hq=>simp at hq
  obtain ⟨c',p⟩:=p
  obtain ⟨rs,H,F,g⟩:=CO hs hc
  obtain ⟨os,K,v,a⟩:=CO hs hcs
  have J:news.length=m*size:=by
   have:=g.1;simp at this;omega
  have M:cs.length=n*size:=by
   have:=a.1;simp at this;omega
  have d:(n+m)*ie.bytes≤140737488355328:=by rw [i4];exact ej (Nat.mul_le_mul hb hby) oD
  have E:=grownCap_ge w (n+m) n el
  have B:(os.toArray++rs.toArray++Builtin.zeroCells z.cells (grownCap w (n+m) n el - (n+m))).size=grownCap w (n+m) n el*size:=by
   simp only [Array.size_append,fw,size_zeroCells,hzs,F,v,← Nat.add_mul]
   congr 1;omega
  have f:(cs++news).length=(n+m)*size:=by rw [aR,M,J,Nat.add_mul]
  have I:=lu (Dy hs) (.cells (os.toArray++rs.toArray++Builtin.zeroCells z.cells (grownCap w (n+m) n el - (n+m))) el) (.gr (cs++news) el) (grownCap w (n+m) n el*size) (by
   intro _
   refine ⟨fun hg=>by have h1:=(hs.fgn _ hg).1;have:=hs.size;simp only at h1;have e2:w.drew.heap.size=w.heap.size:=rfl;omega,rfl,_,gX w.drew _,B,?_,fun k hk hk'=>?_⟩
   ·rw [B,f];exact fh _ E
   ·have C:k<(os.toArray++rs.toArray).size:=by simp at hk ⊢;omega
    rw [Array.getElem_append_left C]
    have:=mQ a g
    exact (this.2 k (oU hk) C).mono oS fun q hq=>iP (oU hq))
  refine ⟨_,.slice (some ⟨w.heap.size,0,none⟩) (n+m) (grownCap w (n+m) n el),_,.inl ?_,?_,by simp,fun k hk=>iP hk,I⟩
  ·have l:=run_append_grow (P:=P) w t op.type el ie z ha.und i1 i3 ⟨(ρ i).b,(ρ i).o+o,none⟩ n n os (by rw [i2];exact v) K ⟨(ρ j).b,(ρ j).o+oj,none⟩ m c' rs (by rw [i2];exact F) H oO oO (growslice_fits oO d)
   simp [execOp,ho,resolve,invoke,builtin,L,p,l]
  ·have:=zX (n:=(σ++[aB.gr (cs++news) el]).length) (ρ:=upd ρ σ.length w.heap.size (grownCap w (n+m) n el*size)) (i:=σ.length) (sz:=size) (k:=n+m) (c':=grownCap w (n+m) n el) oO oS ⟨E,fun h=>by have:=Nat.blt_eq.mp h0;omega⟩ (by simp [upd])
   rw [oh] at this;exact this
end ops
section
variable {P:Program} {rd:Option Nat} {ty:TypeId} {e:Env} {σ:Heap} {x y:Operand}
def Zb (k:IntKind) (f:Nat→Int) (n:Nat) (xs:Array Value):Prop:=∀ i<n,xs.toList[i]?=some (.int k (f i))
theorem DZ {el:TypeId} {bytes:Nat} {z:Value} {w:World} {k:IntKind} (ht:Ty P el 1 false z bytes) (hk:Ik P el k) (d:Nat) {n:Nat} {f g:Nat→Int} {xs ys:Array Value} (hx:Zb k f n xs) (hy:Zb k g n ys) :
  ∀ is:List Nat,(∀ i ∈ is,i<n)→(Op.eqItems (d+2) el 1 xs ys is).run P w=.ok (decide (∀ i ∈ is,f i=g i)) w
 |[],_=>by simp [Op.eqItems]
 |i::is,h=>by
  have hi:=h i oS
  have ih:=DZ (w:=w) ht hk d hx hy is fun j hj=>h j (dT _ hj)
  have q:(Op.equalIn (d+2) el (.int k (f i)) (.int k (g i))).run P w=.ok (decide (f i=g i)) w:=by
   have:=hk.und
   simp [Op.equalIn,underlying,this]
   rfl
  have a1:(part el xs (i*1)).run P w=.ok (.int k (f i)) w:=yt ht (by rw [cI];exact hx i hi)
  have a2:(part el ys (i*1)).run P w=.ok (.int k (g i)) w:=yt ht (by rw [cI];exact hy i hi)
  simp only [Op.eqItems,Sem.run_bind,a1,a2,q,Result.andThen_ok]
  by_cases a:f i=g i
  ·simp [ih,a]
  ·simp [a]
theorem Np {t t' el n bytes:Nat} {z:Value} {k:IntKind} {f g:Nat→Int} {xs ys:List Value} [ha:Ar P t n el] [ht:Ty P el 1 false z bytes] [hk:Ik P el k] (hg:P.eqGuardType P.depth t=false)
  (hx:aP e x=some (.agg xs.toArray)) (hy:aP e y=some (.agg ys.toArray)) (hpx:dL xs=true) (hpy:dL ys=true) (hf:Zb k f n xs.toArray) (hgg:Zb k g n ys.toArray) :
  bW P rd (.binOp .eql t x y t') ty e σ (.bool (decide (∀ i ∈ List.range n,f i=g i))) σ :=
 kS oS rfl fun o ho _ A hA w=>by
  have h1:=hA x (by simp [Op.operands]) _ hx hpx
  have h2:=hA y (by simp [Op.operands]) _ hy hpy
  obtain ⟨ie,i1,i2,i3,i4⟩:=ht.info
  have hc:P.cellsOf el=1:=by simp [Program.cellsOf,i1,i2]
  have g1:=run_equalIn_array (P:=P) (w:=w) 9999 xs.toArray ys.toArray ha.und i1
  rw [hc] at g1
  have g2:=DZ (w:=w) ht hk 9997 hf hgg (List.range n) (fun i hi=>List.mem_range.1 hi)
  rw [g2] at g1
  simp only [execOp,ho,h1,h2]
  simp only [run_eqGuard_agg _ _ _ _ _ _ _ hg,run_eql_struct,g1,Sem.run_bind,Result.andThen_ok,Sem.run_pure]
end
section ops
variable {P:Program} {rd:Option Nat} {ty:TypeId} {e:Env} {σ:Heap}
theorem Zc {ρ:Rho} {n B l:Nat}:gq (n+1) (upd ρ n B) (.slice (some ⟨n,0,some 0⟩) l l) (.slice (some ⟨B,0,none⟩) l l):=by
 have:=VQ.gslice (q:=false) (n:=n+1) (ρ:=upd ρ n B) n 0 l l l 0 ⟨aD _,fun _=>rfl⟩ (by simp [upd]) oO rfl
 simpa [upd] using this
theorem Vr {t el size bytes len:Nat} {agg:Bool} {z:Value} {ps:List (Nat×Operand)} {vs:List (Nat×Value)} {cs:List Value} [ha:Sl P t el] [ht:Ty P el size agg z bytes] (hz:plain z=true)
  (hsz:z.cells.size=size) (h0:Nat.blt 0 (len*size)=true) (h1:Nat.ble (len*size) 16777216=true) (h:tJ e ps=some vs) (hf:rJ (fun i=>some (i*size,size)) (iG (dR z) len) vs=some cs) :
  bW P rd (.buildSlice t len ps.toArray) ty e σ (.slice (some ⟨σ.length,0,some 0⟩) len len) (σ++[.rw cs]) :=
 bY oS fun op ho _ G w0 ρ A w hs hx=>by
  obtain ⟨g1,g2⟩:=uY (A:=A) (n:=σ.length) (ρ:=ρ) (fun p hp u hu=>hx p.2 (by simp only [Op.operands];simp;exact ⟨p.1,hp⟩) u hu) h
  obtain ⟨ie,i1,i2,i3,_⟩:=ht.info
  obtain ⟨rc,g3,g4⟩:=vX vs _ _ _ _ (zW (n:=σ.length) (ρ:=ρ) (k:=len) hz hsz) g1 g2 hf
  refine ⟨upd ρ σ.length w.heap.size,.slice (some ⟨w.heap.size,0,none⟩) len len,w.alloc (.cells rc el),.inl ?_,by rw [aR];exact Zc,by simp,fun i hi=>iP hi,CG hs el 0 g4⟩
  have h0':=Nat.blt_eq.mp h0
  have h1':=cA h1
  have:=run_buildSlice (P:=P) w t el len (ps.toArray.map fun p=>(p.1,A.eval p.2)) rc ie z ha.und i1 i3 (by rw [i2];omega) (by rw [i2];omega) (by
   rw [i2]
   have em:(Array.range (len*size)).map (z.cells[· % z.cells.size]!)=madeCells z.cells (len*size):=rfl
   rw [em];simpa using g3)
  simp only [List.map_toArray] at this
  simp [execOp,ho,this]
end ops
def prmG (π:List Nat):Option (Nat×Bool)→Option (Nat×Bool)
 |none=>none
 |some (g,b)=>some (π.idxOf g,b)
def Zd (π:List Nat) (o:Oper):Oper:={ o with after:=⟨o.after.toList.map fun e=>⟨π.idxOf e.on,e.ground⟩⟩,guard:=prmG π o.guard }
def kD (π:List Nat) (l:List Oper):List Oper:=π.map fun i=>Zd π (l.getD i default)
def wo (π:List Nat) (l:List Oper):Bool:=decide π.Nodup && π.all (Nat.blt · l.length) && (List.range l.length).all (π.contains ·) && Nat.beq π.length l.length
section
variable {P:Program} {F:Fence} {n:Nat} {Q':Exit→Act→World→Prop} {π:List Nat} {l:List Oper}
theorem pF (h:wo π l=true):π.Nodup∧(∀ i ∈ π,i<l.length)∧(∀ i<l.length,i ∈ π)∧π.length=l.length:=by
 simp only [wo,aE,decide_eq_true_eq,eo,List.mem_range,List.contains_iff_mem] at h
 exact ⟨h.1.1.1,fun i hi=>Nat.blt_eq.mp (h.1.1.2 i hi),fun i hi=>h.1.2 i hi,aM h.2⟩
theorem Fh (h:wo π l=true) {k:Nat} (hk:k < π.length):∃ o,l[π[k]]?=some o∧(kD π l)[k]?=some (Zd π o):=by
 have hl:=(pF h).2.1 π[k] (cP hk)
 refine ⟨l[π[k]],cC hl,?_⟩
 simp [kD,hk,cC hl]
theorem RF (h:wo π l=true) {k:Nat} (hk:k < π.length):π.idxOf π[k]=k:=(pF h).1.idxOf_getElem k hk
theorem RG (h:wo π l=true) (tm:Array Value) (g:Nat):yielded (kD π l).toArray tm (π.idxOf g)=yielded l.toArray tm g:=by
 have hp:=pF h
 unfold yielded
 simp only [bO]
 by_cases hg:g<l.length
 ·have hm:=hp.2.2.1 g hg
  have hk:=List.idxOf_lt_length_iff.2 hm
  obtain ⟨o,h1,h2⟩:=Fh h hk
  rw [List.getElem_idxOf hk] at h1
  rw [h1,h2];rfl
 ·have hn:g ∉ π:=fun hm=>hg (hp.2.1 g hm)
  rw [eM (Nat.le_of_not_lt hg),eM]
  rw [List.idxOf_eq_length hn];simp [kD]
theorem Vs (h:wo π l=true) (tm:Array Value) (o:Oper):Region.wanted (Zd π o) (yielded (kD π l).toArray tm)=Region.wanted o (yielded l.toArray tm):=by
 obtain ⟨d,op,ty,pos,after,g⟩:=o
 cases g with
 |none=>rfl
 |some g=>obtain ⟨g,b⟩:=g;simp only [Region.wanted,Zd,prmG];rw [RG h]
theorem RH (h:wo π l=true):∀ (fuel:Nat) (listed listed':Array Bool) (A:Act) (w:World),listed.size=l.length→listed'.size=l.length →
  (∀ k (hk:k < π.length),listed'.getD k false=listed.getD π[k] false)→wpAnyIn F n P .any (kD π l).toArray Q' fuel listed' A w→wpAnyIn F n P .any l.toArray Q' fuel listed A w:=by
 have hp:=pF h
 have rd:∀ (listed listed':Array Bool),listed.size=l.length→listed'.size=l.length→(∀ k (hk:k < π.length),listed'.getD k false=listed.getD π[k] false) →
   ∀ k (hk:k < π.length),π[k] ∈ Region.ready .any l.toArray listed↔k ∈ Region.ready .any (kD π l).toArray listed':=by
  intro listed listed' hs f c k hk
  obtain ⟨o,h1,h2⟩:=Fh h hk
  have hl:=hp.2.1 π[k] (cP hk)
  have e1:listed.getD π[k] true=listed'.getD k true:=by
   rw [getD_lt (d':=false) oO,getD_lt (d:=true) (d':=false) oO,c k hk]
  have e2:∀ x,listed'.getD (π.idxOf x) false=listed.getD x false:=by
   intro x
   by_cases hx:x<l.length
   ·have hm:=hp.2.2.1 x hx
    have hk:=List.idxOf_lt_length_iff.2 hm
    rw [c _ hk,List.getElem_idxOf hk]
   ·have hn:x ∉ π:=fun hm=>hx (hp.2.1 x hm)
    rw [List.idxOf_eq_length hn]
    simp [eT,Array.getElem?_eq_none,hs,f,hp.2.2.2,Nat.le_of_not_lt hx]
  rw [mem_ready,mem_ready,e1]
  refine and_congr_right fun _=>?_
  simp only [bO,h1,h2,Option.some.injEq,exists_eq_left']
  constructor
  ·intro g e he hb
   simp only [Zd] at he
   obtain ⟨e0,h3,rfl⟩:∃ a,a ∈ o.after∧({ on:=π.idxOf a.on,ground:=a.ground }:Edge)=e:=by simpa using he
   rw [e2];exact g e0 h3 hb
  ·intro g e he hb
   rw [← e2]
   exact g ⟨π.idxOf e.on,e.ground⟩ (by simp only [Zd];simpa using ⟨e,he,rfl,rfl⟩) hb
 have all:∀ (listed:Array Bool),∀ i ∈ Region.ready .any l.toArray listed,∃ k,∃ hk:k < π.length,π[k]=i:=by
  intro listed i hi
  obtain ⟨_,o,ho,_⟩:=mem_ready.1 hi
  rw [bO] at ho
  have hm:=hp.2.2.1 i (List.getElem?_eq_some_iff.1 ho).1
  exact ⟨_,List.idxOf_lt_length_iff.2 hm,List.getElem_idxOf _⟩
 have nil:∀ (listed listed':Array Bool),listed.size=l.length→listed'.size=l.length→(∀ k (hk:k < π.length),listed'.getD k false=listed.getD π[k] false) →
   Region.ready .any l.toArray listed=[]→Region.ready .any (kD π l).toArray listed'=[]:=by
  intro listed listed' hs f c hn
  refine List.eq_nil_iff_forall_not_mem.2 fun k hk=>?_
  obtain ⟨_,o,ho,_⟩:=mem_ready.1 hk
  rw [bO] at ho
  have p:=(List.getElem?_eq_some_iff.1 ho).1
  simp only [kD,cQ] at p
  have:=(rd listed listed' hs f c k p).2 hk
  rw [hn] at this;cases this
 intro fuel
 induction fuel with
 |zero =>
  intro listed listed' A w hs f c hh
  refine ⟨List.eq_nil_iff_forall_not_mem.2 fun i hi=>?_,hh.2⟩
  obtain ⟨k,hk,rfl⟩:=all _ _ hi
  have:=(rd listed listed' hs f c k hk).1 hi
  rw [hh.1] at this;cases this
 |succ fuel ih =>
  intro listed listed' A w hs f c hh
  refine ⟨fun hn=>hh.1 (nil listed listed' hs f c hn),fun i hi=>?_⟩
  obtain ⟨k,hk,rfl⟩:=all _ _ hi
  have g:=hh.2 k ((rd listed listed' hs f c k hk).1 hi)
  obtain ⟨o,h1,h2⟩:=Fh h hk
  unfold wpOpIn at g ⊢
  simp only [bO,h1,h2] at g ⊢
  rw [Vs h] at g
  have hl:=hp.2.1 π[k] (cP hk)
  have step:∀ A w,wpAnyIn F n P .any (kD π l).toArray Q' fuel (listed'.setIfInBounds k true) A w→wpAnyIn F n P .any l.toArray Q' fuel (listed.setIfInBounds π[k] true) A w:=by
   intro A w
   refine ih _ _ A w (oU hs) (oU f) fun j hj=>?_
   rw [gY oO,gY oO,c j hj]
   by_cases m:j=k
   ·subst m;rw [if_pos rfl,if_pos rfl]
   ·rw [if_neg m,if_neg]
    intro he
    exact m (by rw [← RF h hj,← RF h hk,he])
  split
  ·rename_i hw
   rw [if_pos hw] at g
   exact Oper.wpIn_mono step g
  ·rename_i hw
   rw [if_neg hw] at g
   exact ⟨g.1,step _ _ g.2⟩
end
theorem Ze {P:Program} {n0 N:Nat} {rd:Option Nat} {Q:Post} {e:Env} {mk:List Nat} {σ:Heap} {id:Nat} {l0:List Oper} (π:List Nat) (hm:P.follows .mixedOrders=true) (hrd:lQ rd n0=true) (hπ:wo π l0=true)
  (h:bM P N rd (kD π l0) 0 (kD π l0) e σ [] (fun e' news tl=>drawOk (kD π l0) ((kD π l0).length - tl.length)=true∧bZ P n0 N rd (kD π l0) tl (Q .normal) e' mk (σ++gJ (fun _=>true) news))):bK P n0 N rd (.region id l0.toArray true) Q e mk σ:=by
 intro G w0 ρ0 A w hi
 obtain ⟨h0,ρ,ha,hs,he⟩:=hi
 refine wpIn_region_any hm ?_
 have s:l0.length=(kD π l0).length:=by simp [kD,(pF hπ).2.2.2]
 have hz:∀ (m k:Nat),(Array.replicate m false).getD k false=false:=fun m k=>by
  simp only [eT,fa];split <;> rfl
 refine RH hπ _ _ (Array.replicate (kD π l0).length false) _ _ oS (by simp [s]) (fun k hk=>by rw [hz,hz]) ?_
 rw [show l0.toArray.size=(kD π l0).toArray.size by simpa using s]
 obtain ⟨l,y⟩:∃ l,kD π l0=l:=⟨_,rfl⟩
 rw [y] at h s ⊢
 obtain ⟨ts,tl,g,z,a,hK⟩:=oz l 0 e σ [] _ h
 obtain ⟨fr,u⟩:∃ fr,ts.map (·.o)=fr:=⟨_,rfl⟩
 rw [u] at g
 have hl:l=fr++tl:=g.symm
 have g:=u
 have x:fr.length=l.length - tl.length:=by rw [hl];simp
 rw [lD,kT] at hK
 simp only [gJ,dz,ff,eR] at hK
 have f:fr.length=ts.length:=by rw [← g];simp
 rw [← x] at a
 have p:∀ (i:Nat) (hi:i<ts.length),l[i]?=some ts[i].o:=by
  intro i hi
  rw [hl,bR oO,← g];simp [hi]
 have F:∀ (i:Nat) (o:aB),σ[i]?=some o→fO σ.length o:=fun i o hi=>je (hs.obj i o hi)
 have r:∀ i,(Array.replicate l.toArray.size false).getD i false=false:=fun i=>by
  simp only [eT,fa];split <;> rfl
 rw [f] at a
 refine free_any (e0:=e) (mk:=mk) (σ0:=σ) (ρ0:=ρ0) (G:=G) (w0:=w0) (N:=N) (n0:=n0) (ts:=ts) hrd p a h0 he.mkb F z ?_ (by rw [hl];simp;omega) _ _ _ _ ρ oS (fun i _=>r i) ?_ ?_ ?_
 ·intro A' w' ρ' q c E hp hd hf
  refine tail_any (kN ρ0 rd) a tl ts.length q c A' w' (aD _) (by rw [hl,← f];simp) hf E hp ?_
  have d:=jc (L':=fun _=>true) (fun k hk=>by have:=hp k (by rw [hl];simp;omega);rw [this];simpa using hk) hd
  have n:=d.sim
  rw [kT] at n
  refine hK G w0 ρ0 A' w' ⟨by simp;omega,ρ',fun i hi=>d.ag i hi |>.trans rfl,n,⟨d.sz,fun t v hv=>?_⟩,d.mks,fun i hi=>by have:=he.mkb i hi;simp;omega⟩ _ fun e' D σ' A' w' hk B=>⟨e',D,σ',hk,B⟩
  rcases l7 ts e t v hv with ⟨j,hj,h1,h2,h3⟩|⟨h1,h2⟩
  ·obtain ⟨v',g1,g2⟩:=d.new j hj rfl t h1 fun k hk C _=>h3 k hk C
   refine ⟨v',g1,?_⟩
   rw [← h2]
   have:=uG hj
   exact g2.mono (by simp;omega) fun _ _=>rfl
  ·obtain ⟨v',g1,g2⟩:=d.old t v h1 fun k hk _=>h2 k hk
   exact ⟨v',g1,g2.mono oS fun _ _=>rfl⟩
 ·unfold cnt
  rw [List.countP_eq_length.2]
  ·simp
  ·intro i hi
   rw [getD_lt (d':=false) (oU hi),hz];rfl
 ·intro j o _ hL
  rw [hz] at hL;cases hL
 ·refine jc (L:=fun _=>false) (fun k _=>(hz _ k).symm) ⟨ha,?_,he.tmps.1,he.mks,fun t v hv _=>?_,fun k hk hL=>by cases hL⟩
  ·rw [qE]
   exact o7 (zU hs _) rfl rfl rfl rfl
  ·exact he.tmps.2 t v hv
def aa4 (l:List Oper) (i:Nat):Option (Tmp×Operand):=(l[i]?).bind fun o=>if o.guard.isNone then (match o.op with|.move x|.assign x=>o.dst.map fun d=>(d,x)|_=>none) else none
def aec (F0:List Nat) (o:Oper):Oper:={ o with after:=o.after++(F0.map fun i=>(⟨i,.data⟩:Edge)).toArray }
def kF (F0:List Nat) (l:List Oper):List Oper:=l.mapIdx fun i o=>bif F0.contains i then o else aec F0 o
def D5 (l:List Oper) (F0:List Nat):List Nat→Array Bool→Bool
 |[],listed=>F0.all (listed.getD · false)
 |f::fs,listed=>(aa4 l f).isSome && (Region.ready .any l.toArray listed).contains f && (Region.ready .any (kF F0 l).toArray listed).contains f && Region.free .any l.toArray listed f && D5 l F0 fs (listed.setIfInBounds f true)
def Iy (F0:List Nat) (l:List Oper):Bool:=Region.noSelect l.toArray && D5 l F0 F0 (Array.replicate l.length false)
section
variable {P:Program} {F:Fence} {n:Nat} {Q':Exit→Act→World→Prop} {F0:List Nat} {l:List Oper}
theorem CS (j:Nat):(kF F0 l)[j]?=(l[j]?).map fun o=>bif F0.contains j then o else aec F0 o:=by simp [kF]
theorem Vt:(kF F0 l).length=l.length:=by simp [kF]
theorem aa5 (tm:Array Value):yielded (kF F0 l).toArray tm=yielded l.toArray tm:=by
 funext j
 unfold yielded
 simp only [bO,CS]
 cases l[j]? with
 |none=>rfl
 |some o=>cases h:F0.contains j <;> simp [h,aec]
theorem Ae {listed:Array Bool} (h:∀ i ∈ F0,listed.getD i false=true) (j:Nat):j ∈ Region.ready .any (kF F0 l).toArray listed↔j ∈ Region.ready .any l.toArray listed:=by
 rw [mem_ready,mem_ready]
 refine and_congr_right fun _=>?_
 simp only [bO,CS]
 cases l[j]? with
 |none=>simp
 |some o =>
  simp only [eh,Option.some.injEq,exists_eq_left']
  cases hc:F0.contains j with
  |true=>simp
  |false =>
   simp only [cond_false,aec]
   refine ⟨fun g e he hb=>g e (by simp [he]) hb,fun g e he hb=>?_⟩
   rcases Array.mem_append.1 he with he|he
   ·exact g e he hb
   ·obtain ⟨i,hi,rfl⟩:∃ i ∈ F0,(⟨i,.data⟩:Edge)=e:=by simpa using he
    exact h i hi
theorem RI {j:Nat} {K:Act→World→Prop} {a:Act} {w:World} (h:wpOpIn F n P (kF F0 l).toArray Q' j K a w):wpOpIn F n P l.toArray Q' j K a w:=by
 unfold wpOpIn at h ⊢
 rw [aa5] at h
 simp only [bO,CS] at h ⊢
 cases hj:l[j]? with
 |none=>rw [hj] at h;exact h
 |some o =>
  rw [hj] at h
  cases hc:F0.contains j with
  |true=>simpa only [eh,hc,cond_true] using h
  |false=>simp only [eh,hc,cond_false] at h;exact h
theorem JB:∀ (fuel:Nat) (listed:Array Bool) (A:Act) (w:World),listed.size=l.length→(∀ i ∈ F0,listed.getD i false=true)→wpAnyIn F n P .any (kF F0 l).toArray Q' fuel listed A w→wpAnyIn F n P .any l.toArray Q' fuel listed A w
 |0,listed,A,w,hs,hl,h=>⟨List.eq_nil_iff_forall_not_mem.2 fun i hi=>(by have:=(Ae hl i).2 hi;rw [h.1] at this;cases this),h.2⟩
 |fuel+1,listed,A,w,hs,hl,h=>by
  refine ⟨fun hn=>h.1 (List.eq_nil_iff_forall_not_mem.2 fun i hi=>by have:=(Ae hl i).1 hi;rw [hn] at this;cases this),fun i hi=>?_⟩
  have hil:i<l.length:=by
   obtain ⟨_,o,ho,_⟩:=mem_ready.1 hi
   rw [bO] at ho
   exact (List.getElem?_eq_some_iff.1 ho).1
  refine wpOpIn_mono (fun A w hk=>JB fuel _ A w (oU hs) (fun k a=>?_) hk) (RI (h.2 i ((Ae hl i).2 hi)))
  rw [gY oO]
  split
  ·rfl
  ·exact hl k a
theorem Nq (hro:F.round=none) (hns:Region.noSelect l.toArray=true) (hQ:∀ c a w,¬ Q' (.panic c) a w):∀ (fs:List Nat) (fuel:Nat) (listed:Array Bool) (A:Act) (w:World),listed.size=l.length→D5 l F0 fs listed=true →
  wpAnyIn F n P .any (kF F0 l).toArray Q' fuel listed A w→wpAnyIn F n P .any l.toArray Q' fuel listed A w
 |[],fuel,listed,A,w,hs,hg,h=>JB fuel listed A w hs (by simpa [D5] using hg) h
 |f::fs,fuel,listed,A,w,hs,hg,h=>by
  simp only [D5,aE] at hg
  obtain ⟨⟨⟨⟨h1,h2⟩,h3⟩,h4⟩,h5⟩:=hg
  have i:f ∈ Region.ready .any (kF F0 l).toArray listed:=by simpa using h3
  obtain ⟨⟨d,x⟩,h1⟩:=Option.isSome_iff_exists.1 h1
  unfold aa4 at h1
  obtain ⟨o,ho,h1⟩:=Option.bind_eq_some_iff.1 h1
  split at h1
  ·rename_i q
   have p:o.guard=none:=by simpa using q
   have j:(∀ w,(execOp A.eval o).run P w=.ok (.value (A.eval x)) w)∧(∀ w,o.about P w A.eval=none)∧o.dst=some d:=by
    split at h1
    ·rename_i x' e
     obtain ⟨d',hd,h1⟩:=Option.map_eq_some_iff.1 h1
     cases h1
     exact ⟨fun w=>by simp [execOp,e],fun w=>by simp [Oper.about,e],hd⟩
    ·rename_i x' e
     obtain ⟨d',hd,h1⟩:=Option.map_eq_some_iff.1 h1
     cases h1
     exact ⟨fun w=>by simp [execOp,e],fun w=>by simp [Oper.about,e],hd⟩
    ·cases h1
   have k:∀ m,Region.wanted o (yielded m A.tmps)=true:=fun m=>by simp [Region.wanted,p]
   cases fuel with
   |zero=>rw [h.1] at i;cases i
   |succ fuel =>
    have g:=RI (h.2 f i)
    unfold wpOpIn at g
    simp only [bO,ho,k,if_true,Oper.wpIn,hro,Oper.semAt_none,j.1 w,Oper.uponIn] at g
    refine wpAnyIn_take (v:=A.eval x) hro (oi:=o) (by rw [bO];exact ho) hns h4 h2 (fun c a w hq=>absurd hq (hQ c _ _)) ⟨.inl ⟨k _,j.1⟩,j.2.1⟩ ?_
    exact Nq hro hns hQ fs fuel _ _ _ (oU hs) h5 g.2
  ·cases h1
end
theorem Zf {P:Program} {n0 N:Nat} {Q:Post} {e:Env} {mk:List Nat} {σ:Heap} {id:Nat} {l0:List Oper} (π F0:List Nat) (hm:P.follows .mixedOrders=true) (hF:Iy F0 l0=true) (hπ:wo π (kF F0 l0)=true)
  (h:bM P N none (kD π (kF F0 l0)) 0 (kD π (kF F0 l0)) e σ [] (fun e' news tl=>drawOk (kD π (kF F0 l0)) ((kD π (kF F0 l0)).length - tl.length)=true∧bZ P n0 N none (kD π (kF F0 l0)) tl (Q .normal) e' mk (σ++gJ (fun _=>true) news))):bK P n0 N none (.region id l0.toArray true) Q e mk σ:=by
 intro G w0 ρ0 A w hi
 obtain ⟨h0,ρ,ha,hs,he⟩:=hi
 refine wpIn_region_any hm ?_
 have I:lQ none n0=true:=rfl
 obtain ⟨rd,hrn⟩:∃ rd:Option Nat,rd=none:=⟨none,rfl⟩
 refine pz (Q:=fun ex A' w'=>ex=.normal∧∃ e' g σ',Q .normal e' g σ'∧Inv n0 N G w0 ρ0 e' g σ' A' w') (fun ex a w hq=>by obtain ⟨rfl,e',g,σ',h1,h2⟩:=hq;exact ⟨e',g,σ',h1,h2⟩) _ _ _ _ ?_
 unfold Iy at hF
 simp only [aE] at hF
 refine Nq (F0:=F0) rfl hF.1 (fun c a w hq=>by cases hq.1) F0 _ _ _ _ oS (oU hF.2) ?_
 have H:l0.length=(kF F0 l0).length:=Vt.symm
 rw [show l0.toArray.size=(kF F0 l0).toArray.size by simpa using H]
 obtain ⟨l1,x⟩:∃ l1,kF F0 l0=l1:=⟨_,rfl⟩
 rw [x] at h hπ ⊢
 have u:l1.length=(kD π l1).length:=by simp [kD,(pF hπ).2.2.2]
 have hz:∀ (m k:Nat),(Array.replicate m false).getD k false=false:=fun m k=>by
  simp only [eT,fa];split <;> rfl
 refine RH hπ _ _ (Array.replicate (kD π l1).length false) _ _ oS (by simp [u]) (fun k hk=>by rw [hz,hz]) ?_
 rw [show l1.toArray.size=(kD π l1).toArray.size by simpa using u]
 obtain ⟨l,C⟩:∃ l,kD π l1=l:=⟨_,rfl⟩
 rw [C] at h u ⊢
 obtain ⟨ts,tl,r,D,d,hK⟩:=oz l 0 e σ [] _ h
 obtain ⟨fr,B⟩:∃ fr,ts.map (·.o)=fr:=⟨_,rfl⟩
 rw [B] at r
 have hl:l=fr++tl:=r.symm
 have r:=B
 have J:fr.length=l.length - tl.length:=by rw [hl];simp
 rw [lD,kT] at hK
 simp only [gJ,dz,ff,eR] at hK
 have q:fr.length=ts.length:=by rw [← r];simp
 rw [← J] at d
 have s:∀ (i:Nat) (hi:i<ts.length),l[i]?=some ts[i].o:=by
  intro i hi
  rw [hl,bR oO,← r];simp [hi]
 have M:∀ (i:Nat) (o:aB),σ[i]?=some o→fO σ.length o:=fun i o hi=>je (hs.obj i o hi)
 have z:∀ i,(Array.replicate l.toArray.size false).getD i false=false:=fun i=>by
  simp only [eT,fa];split <;> rfl
 rw [q] at d
 refine free_any (e0:=e) (mk:=mk) (σ0:=σ) (ρ0:=ρ0) (G:=G) (w0:=w0) (N:=N) (n0:=n0) (ts:=ts) I s d h0 he.mkb M D ?_ (by rw [hl];simp;omega) _ _ _ _ ρ oS (fun i _=>z i) ?_ ?_ ?_
 ·intro A' w' ρ' y f K hp hd hf
  refine tail_any (kN ρ0 none) d tl ts.length y f A' w' (aD _) (by rw [hl,← q];simp) hf K hp ?_
  have n:=jc (L':=fun _=>true) (fun k hk=>by have:=hp k (by rw [hl];simp;omega);rw [this];simpa using hk) hd
  have p:=n.sim
  rw [kT] at p
  refine hK G w0 ρ0 A' w' ⟨by simp;omega,ρ',fun i hi=>n.ag i hi |>.trans rfl,p,⟨n.sz,fun t v hv=>?_⟩,n.mks,fun i hi=>by have:=he.mkb i hi;simp;omega⟩ _ fun e' g σ' A' w' hk E=>⟨rfl,e',g,σ',hk,E⟩
  rcases l7 ts e t v hv with ⟨j,hj,h1,h2,h3⟩|⟨h1,h2⟩
  ·obtain ⟨v',g1,g2⟩:=n.new j hj rfl t h1 fun k hk F _=>h3 k hk F
   refine ⟨v',g1,?_⟩
   rw [← h2]
   have:=uG hj
   exact g2.mono (by simp;omega) fun _ _=>rfl
  ·obtain ⟨v',g1,g2⟩:=n.old t v h1 fun k hk _=>h2 k hk
   exact ⟨v',g1,g2.mono oS fun _ _=>rfl⟩
 ·unfold cnt
  rw [List.countP_eq_length.2]
  ·simp
  ·intro i hi
   rw [getD_lt (d':=false) (oU hi),hz];rfl
 ·intro j o _ hL
  rw [hz] at hL;cases hL
 ·refine jc (L:=fun _=>false) (fun k _=>(hz _ k).symm) ⟨ha,?_,he.tmps.1,he.mks,fun t v hv _=>?_,fun k hk hL=>by cases hL⟩
  ·rw [qE]
   exact o7 (zU hs _) rfl rfl rfl rfl
  ·exact he.tmps.2 t v hv
end Go.AH
namespace Go.AH.Late
open Go Go.AH
def partOk (ops:List Oper) (m f:Nat) (o:Oper) (j mk:Nat):Bool :=
 vV o && o.after.all (fun e=>!Region.binds .any e || Nat.blt e.on j) &&
  (match o.guard with|some (g,_)=>waits o g|none=>true) &&
  (List.range j).all fun i=>mk.testBit i || (Nat.blt i m && (match ops[i]? with|some oi=>oi.apart ops.toArray o|none=>false)) && (Nat.blt j m || (Nat.beq i f && Nat.beq j m))
def chkD (all:List Oper) (m f:Nat):List Oper→Nat→List Nat→Bool
 |[],_,_=>true
 |o::rest,j,acc=>EU (ql acc o.after.toList) fun mk=>partOk all m f o j mk && chkD all m f rest (j+1) (acc++[mk])
def drawOk (ops:List Oper) (m f:Nat):Bool:=chkD ops m f ops 0 []
theorem chkD_get {all:List Oper} {m f:Nat}:∀ (rest:List Oper) (j:Nat) (acc:List Nat),rest=all.drop j→acc.length=j→j≤all.length→(∀ (k:Nat) (mk:Nat),acc[k]?=some mk→Good all k mk)→chkD all m f rest j acc=true →
  ∀ (t:Nat) (o:Oper),rest[t]?=some o→∃ mk,partOk all m f o (j+t) mk=true∧Good all (j+t) mk
 |[],_,_,_,_,_,_,_,t,o,h=>by simp at h
 |x::rest,j,acc,hr,hl,hj,hacc,hc,t,o,h=>by
  have hx:all[j]?=some x:=by
   have:=congrArg (fun l:List Oper=>l[0]?) hr
   simpa using this.symm
  have d:rest=all.drop (j+1):=by
   have:=congrArg List.tail hr
   simpa using this
  have hjl:=(List.getElem?_eq_some_iff.1 hx).1
  simp only [chkD,x9,aE] at hc
  have hg:=Bc hx hacc oO
  cases t with
  |zero=>simp at h;subst h;exact ⟨_,hc.1,hg⟩
  |succ t =>
   have:=chkD_get rest (j+1) (acc++[ql acc x.after.toList]) d (by simp [hl]) oO (fun k mk hk=>by
    by_cases a:k<acc.length
    ·rw [bR a] at hk;exact hacc k mk hk
    ·rw [bE oO] at hk
     have c:k - acc.length=0:=by
      have:=(List.getElem?_eq_some_iff.1 hk).1
      simp at this;omega
     rw [c] at hk;simp at hk;subst hk
     rw [show k=j by omega];exact hg) hc.2 t o (oU h)
   rwa [show j+1+t=j+(t+1) by omega] at this
section
variable {all:List Oper} {m f:Nat}
theorem draw_parts (h:drawOk all m f=true) {j:Nat} {o:Oper} (hj:all[j]?=some o) :
  vV o=true∧(∀ e ∈ o.after,Region.binds .any e=true→e.on<j)∧(∀ g b,o.guard=some (g,b)→waits o g=true) ∧
  ∀ i oi,i<j→all[i]?=some oi→(∀ D:Nat→Prop,Closed all D→(∀ k,waits o k=true→D k)→D i)∨(i<m∧(j<m∨(i=f∧j=m))∧oi.apart all.toArray o=true):=by
 obtain ⟨mk,this,a⟩:=chkD_get all 0 [] rfl rfl oO (fun k mk hk=>by simp at hk) h j o hj
 rw [bA] at this a
 unfold partOk at this
 simp only [aE] at this
 obtain ⟨⟨⟨h1,h2⟩,h3⟩,h4⟩:=this
 refine ⟨h1,fun e he hb=>?_,fun g b hg=>?_,fun i oi hi c=>?_⟩
 ·have:=Array.all_eq_true_iff_forall_mem.1 h2 e he
  simp only [hb,Bool.not_true,Bool.false_or,bX] at this;exact this
 ·rw [hg] at h3;exact h3
 ·have:=List.all_eq_true.1 h4 i (oU hi)
  simp only [c,eq,aE,bX,Nat.beq_eq] at this
  rcases this with h|⟨⟨h5,h6⟩,h7⟩
  ·exact .inl fun D hD hw=>a D hD o hj hw i h
  ·exact .inr ⟨h5,h7,h6⟩
theorem waits_lt (h:drawOk all m f=true) {j i:Nat} {o:Oper} (hj:all[j]?=some o) (hw:bT o.after i=true):i<j:=by
 unfold bT at hw
 obtain ⟨e,he,hb⟩:=Array.any_eq_true'.1 hw
 simp only [aE] at hb
 rw [← aM hb.2]
 exact (draw_parts h hj).2.1 e he hb.1
end
section
variable {P:Program} {N:Nat} {rd:Option Nat} {e0:Env} {mk:List Nat} {σ0:Heap} {all:List Oper} {ts:List Tr} {n0:Nat}
theorem dinv_sees {G:Nat→Prop} {w0:World} {ρ0 ρ:Rho} {f:Nat} {L:Nat→Bool} {A:Act} {w:World} (hd:yc n0 N G w0 ρ0 e0 mk σ0 ts L A w ρ) (hall:∀ (i:Nat) (hi:i<ts.length),all[i]?=some ts[i].o)
  (hchk:drawOk all ts.length f=true) {i:Nat} (hi:i<ts.length) (hLi:L i=false) (hw:∀ j,waits ts[i].o j=true→L j=true) (hdc:Closed all fun k=>L k=true)
  {t:Nat} (ht:t ∈ ts[i].o.looksAt all.toArray) {v:Value} (hv:Env.get (lZ (ts.take i) e0) t=some v):∃ v',A.tmps[t]?=some v'∧gq (σ0.length+(dY (ts.take i)).length) ρ v v':=by
 have d:∀ (j:Nat) (hj:j<i),(ts[j]'oO).o.dst=some t→L j=true:=by
  intro j hj a
  rcases (draw_parts hchk (hall i hi)).2.2.2 j _ hj (hall j oO) with h|⟨_,_,h⟩
  ·exact h _ hdc hw
  ·exact absurd ht ((Oper.apart_spec h).1 t a)
 have g:∀ (j:Nat) (hj:j<ts.length),i<j→ts[j].o.dst=some t→L j=true→False:=by
  intro j hj r a n
  rcases (draw_parts hchk (hall j hj)).2.2.2 i _ r (hall i hi) with h|⟨_,_,h⟩
  ·have:=h _ hdc (hdc j _ (hall j hj) n)
   rw [hLi] at this;cases this
  ·exact absurd ht ((Oper.apart_spec h).2.2 t a)
 rcases l7 _ _ _ _ hv with ⟨j,hj,h1,h2,h3⟩|⟨h1,h2⟩
 ·have m:j<i:=by simp at hj;omega
  rw [dC] at h1 h2
  obtain ⟨v',g1,g2⟩:=hd.new j oO (d j m h1) t h1 fun k hk q c e=>by
   rcases fv k i with p|rfl|l
   ·have:=h3 k (by simp;omega) q
    rw [dC] at this;exact this e
   ·rw [hLi] at c;cases c
   ·exact g k hk l e c
  refine ⟨v',g1,?_⟩
  rw [← h2]
  have:=qV m (eK hi)
  exact g2.mono oO fun _ _=>rfl
 ·obtain ⟨v',g1,g2⟩:=hd.old t v h1 fun k hk c e=>by
   rcases fv k i with p|rfl|l
   ·have:=h2 k (by simp;omega)
    rw [dC] at this;exact this e
   ·rw [hLi] at c;cases c
   ·exact g k hk l e c
  exact ⟨v',g1,g2.mono oO fun _ _=>rfl⟩
theorem dinv_step {G:Nat→Prop} {w0:World} {ρ0 ρ ρ':Rho} {f:Nat} {L:Nat→Bool} {A:Act} {w w':World} (hd:yc n0 N G w0 ρ0 e0 mk σ0 ts L A w ρ) (hall:∀ (i:Nat) (hi:i<ts.length),all[i]?=some ts[i].o)
  (hchk:drawOk all ts.length f=true) (hn0:n0≤σ0.length) (hmk:∀ i ∈ mk,i < σ0.length)
  (hns:∀ (j:Nat) (hj:j<ts.length),rH σ0.length ts[j].ns) (hnok:∀ (j:Nat) (hj:j<ts.length) (i:Nat) (hi:i<j),(∃ D:Nat→Prop,Closed all D∧D j∧¬ D i)→∀ (m:Nat) (ρ ρ':Rho) (v':Value),gq m ρ ts[j].v v' →
   (∀ q,q < σ0.length+(dY (ts.take i)).length∨σ0.length+(dY (ts.take i)).length+ts[i].ns.length≤q→ρ' q=ρ q)→gq m ρ' ts[j].v v')
  {i:Nat} (hi:i<ts.length) (hLi:L i=false) (hdc:Closed all fun k=>L k=true) (hdst:tH N ts[i].o=true)
  {v':Value} (hag:∀ k < σ0.length+(dY (ts.take i)).length,ρ' k=ρ k) (hv:gq (σ0.length+((dY (ts.take i)).length+ts[i].ns.length)) ρ' ts[i].v v')
  (hs':Sim (oth G ρ σ0 ts L (bT ts[i].o.after)) w ρ' (σ0++maskN (ts.take i) 0 (bT ts[i].o.after)++ts[i].ns) w') :
  yc n0 N G w0 ρ0 e0 mk σ0 ts (jR L i) (A.put ts[i].o.dst v') w' (rF ρ ρ' (σ0.length+(dY (ts.take i)).length) ts[i].ns.length):=by
 have a:∀ k < σ0.length+(dY (ts.take i)).length,rF ρ ρ' (σ0.length+(dY (ts.take i)).length) ts[i].ns.length k=ρ k:=fun k hk=>by simp only [rF];rw [if_neg oO]
 have c:∀ k < σ0.length+((dY (ts.take i)).length+ts[i].ns.length),rF ρ ρ' (σ0.length+(dY (ts.take i)).length) ts[i].ns.length k=ρ' k:=fun k hk=>by
  simp only [rF];split
  ·rfl
  ·rw [hag k oO]
 have l:∀ k,σ0.length+(dY (ts.take i)).length+ts[i].ns.length≤k→rF ρ ρ' (σ0.length+(dY (ts.take i)).length) ts[i].ns.length k=ρ k:=fun k hk=>by simp only [rF];rw [if_neg oO]
 have n:∀ t u,A.tmps[t]?=some u→ts[i].o.dst ≠ some t→(A.put ts[i].o.dst v').tmps[t]?=some u:=by
  intro t u hu z
  cases hdd:ts[i].o.dst with
  |none=>simpa [Act.put] using hu
  |some d =>
   simp only [Act.put]
   rw [fg (fun E=>z (by rw [hdd,E]))];exact hu
 refine ⟨fun k hk=>(a k oO).trans (hd.ag k hk),Jj hi hLi (fun j hj=>waits_lt hchk (hall i hi) hj) hd.sim hns hag hs',?_,?_,fun t v ht g=>?_,fun k hk y t s g=>?_⟩
 ·cases hdd:ts[i].o.dst <;> simp [Act.put,hd.sz]
 ·have:(A.put ts[i].o.dst v').defers=A.defers:=by cases ts[i].o.dst <;> rfl
  rw [this,hd.mks]
  congr 1
  exact eD fun k hk=>by rw [a k (by have:=hmk k hk;omega)]
 ·obtain ⟨u,g1,g2⟩:=hd.old t v ht fun k hk y=>g k hk (by simp only [jR];split <;> simp [y])
  exact ⟨u,n t u g1 (g i hi (by simp [jR])),g2.mono (aD _) fun k hk=>a k oO⟩
 ·by_cases r:k=i
  ·subst r
   refine ⟨v',?_,hv.mono oO c⟩
   simp only [s,tH,bX] at hdst
   simp only [s,Act.put]
   rw [fz (by rw [hd.sz];exact hdst)]
  ·have e:L k=true:=by simpa [jR,r] using y
   have z:ts[i].o.dst ≠ some t:=by
    intro B
    rcases fu r with x|p
    ·exact g i hi x (by simp [jR]) B
    ·rcases (draw_parts hchk (hall k hk)).2.2.2 i _ p (hall i hi) with h|⟨_,_,h⟩
     ·have:=h _ hdc (hdc k _ (hall k hk) e)
      rw [hLi] at this;cases this
     ·exact (Oper.apart_spec h).2.1 t B s
   obtain ⟨u,g1,g2⟩:=hd.new k hk e t s fun j hj F C=>g j hj F (by simp only [jR];split <;> simp [C])
   refine ⟨u,n t u g1 z,?_⟩
   rcases fu r with x|p
   ·have:=qV x (eK hi)
    exact g2.mono (aD _) fun j hj=>a j oO
   ·have:=qV p (eK hk)
    exact hnok k hk i p ⟨fun q=>L q=true,hdc,e,by simp [hLi]⟩ _ _ _ _ g2 fun j hj=>by
     rcases hj with hj|hj
     ·exact a j hj
     ·exact l j hj
theorem free_any {G:Nat→Prop} {w0:World} {ρ0:Rho} {f:Nat} {Q':Exit→Act→World→Prop} (hrd:lQ rd n0=true) (hall:∀ (i:Nat) (hi:i<ts.length),all[i]?=some ts[i].o)
  (hchk:drawOk all ts.length f=true) (hn0:n0≤σ0.length) (hmk:∀ i ∈ mk,i < σ0.length) (hcl:∀ (i:Nat) (o:aB),σ0[i]?=some o→fO σ0.length o) (htr:U6 P N rd all 0 ts e0 σ0 [])
  (hfin:∀ A w ρ fuel listed,listed.size=all.length→(∀ i<all.length,listed.getD i false=decide (i<ts.length))→yc n0 N G w0 ρ0 e0 mk σ0 ts (fun i=>listed.getD i false) A w ρ →
   fuel=all.length - ts.length→wpAnyIn (fen ρ0 rd) 0 P .any all.toArray Q' fuel listed A w)
  (hlate:∀ A w ρ fuel listed,listed.size=all.length→(∀ i,listed.getD i false=decide (i<ts.length∧i ≠ f))→yc n0 N G w0 ρ0 e0 mk σ0 ts (fun i=>listed.getD i false) A w ρ→Closed all (fun k=>listed.getD k false=true) →
   f<ts.length→ts.length<all.length→ts.length ∈ Region.ready .any all.toArray listed→fuel=all.length - ts.length→wpOpIn (fen ρ0 rd) 0 P all.toArray Q' ts.length (wpAnyIn (fen ρ0 rd) 0 P .any all.toArray Q' fuel (listed.setIfInBounds ts.length true)) A w)
  (hlen:ts.length≤all.length):∀ (fuel:Nat) (listed:Array Bool) (A:Act) (w:World) (ρ:Rho),listed.size=all.length→(∀ i,ts.length≤i→listed.getD i false=false)→cnt all.length listed=fuel →
  Closed all (fun k=>listed.getD k false=true) →
  yc n0 N G w0 ρ0 e0 mk σ0 ts (fun i=>listed.getD i false) A w ρ→wpAnyIn (fen ρ0 rd) 0 P .any all.toArray Q' fuel listed A w:=by
 intro fuel
 induction fuel with
 |zero =>
  intro listed A w ρ C H d F hd
  have O:∀ i<all.length,listed.getD i false=true:=by
   intro i hi
   unfold cnt at d
   have:=(List.countP_eq_zero.1 d) i (oU hi)
   simp only [eQ,Bool.not_eq_false] at this
   rw [getD_lt oO false true];exact this
  have hm:ts.length=all.length:=by
   rcases e7 ts.length all.length with h|h
   ·have h1:=O ts.length h
    rw [H ts.length (aD _)] at h1;cases h1
   ·omega
  exact hfin A w ρ 0 listed C (fun i hi=>by rw [O i hi];simp;omega) hd oO
 |succ fuel ih =>
  intro listed A w ρ C H d F hd
  by_cases a:∀ i<ts.length,listed.getD i false=true
  ·have J:∀ i<all.length,listed.getD i false=decide (i<ts.length):=fun i hi=>by
    by_cases r:i<ts.length
    ·rw [a i r];simp [r]
    ·rw [H i oO];simp [r]
   refine hfin A w ρ (fuel+1) listed C J hd ?_
   rw [← d]
   exact Jk hlen fun i hi=>by rw [getD_lt oO true false];exact J i hi
  ·refine ⟨fun hr=>?_,fun i hr=>?_⟩
   ·
    exfalso
    have U:∃ i,i<ts.length∧listed.getD i false=false:=by
     simp only [Classical.not_forall] at a
     obtain ⟨i,hi,hn⟩:=a
     exact ⟨i,hi,by simpa using hn⟩
    have K:∃ i,(i<ts.length∧listed.getD i false=false)∧∀ k<i,listed.getD k false=true:=by
     obtain ⟨i,hi⟩:=U
     induction i using Nat.strongRecOn with
     |_ i ih2 =>
      by_cases p:∃ k,k<i∧listed.getD k false=false
      ·obtain ⟨k,hk,B⟩:=p;exact ih2 k hk ⟨oO,B⟩
      ·refine ⟨i,hi,fun k hk=>?_⟩
       cases hc:listed.getD k false with
       |true=>rfl
       |false=>exact absurd ⟨k,hk,hc⟩ p
    obtain ⟨i,⟨hi,M⟩,p⟩:=K
    have:i ∈ Region.ready .any all.toArray listed:=mem_ready.2 ⟨by rw [getD_lt oO true false];exact M,ts[i].o,by rw [bO];exact hall i hi,
     fun e he hb=>p _ ((draw_parts hchk (hall i hi)).2.1 e he hb)⟩
    rw [hr] at this;cases this
   ·obtain ⟨M,o,ho,_⟩:=mem_ready.1 hr
    rw [bO] at ho
    have Y:i<all.length:=(List.getElem?_eq_some_iff.1 ho).1
    have L:listed.getD i false=false:=by rw [getD_lt oO false true];exact M
    rcases e7 i ts.length with r|r
    rotate_left
    ·have S:∀ k<ts.length,listed.getD k false=true∨(k=f∧i=ts.length):=by
      intro k hk
      rcases (draw_parts hchk ho).2.2.2 k _ oO (hall k hk) with h'|⟨_,h',_⟩
      ·exact .inl (h' (fun k=>listed.getD k false=true) F fun k hk=>iF hr ho hk)
      ·rcases h' with h'|h'
       ·omega
       ·exact .inr h'
     have U:f<ts.length∧i=ts.length∧listed.getD f false=false:=by
      apply Classical.byContradiction;intro O
      apply a
      intro k hk
      rcases S k hk with h|⟨rfl,h⟩
      ·exact h
      ·cases hc:listed.getD k false with
       |true=>rfl
       |false=>exact absurd ⟨hk,h,hc⟩ O
     obtain ⟨a2,a5,Q⟩:=U
     subst a5
     refine hlate A w ρ fuel listed C (fun k=>?_) hd F a2 Y hr ?_
     ·by_cases hk:k<ts.length
      ·rcases S k hk with h|⟨rfl,_⟩
       ·rw [h];symm;simp only [decide_eq_true_eq];refine ⟨hk,fun B=>?_⟩;rw [B,Q] at h;cases h
       ·rw [Q];simp
      ·rw [H k oO];simp;omega
     ·have hc1:=qW (n:=all.length) (listed:=listed) (i:=f) oO C (by rw [getD_lt oO true false];exact Q)
      have hc2:=Jk (listed:=listed.setIfInBounds f true) hlen fun k hk=>by
       rw [getD_lt (by simpa using oO) true false,gY oO]
       split
       ·rename_i B;subst B;simp [a2]
       ·rename_i B
        by_cases X:k<ts.length
        ·rcases S k X with h|⟨h,_⟩
         ·rw [h];simp [X]
         ·exact absurd h B
        ·rw [H k oO];simp [X]
      omega
    have a4:o=ts[i].o:=by have:=hall i r;rw [ho] at this;exact Option.some.inj this
    subst a4
    have hw:∀ j,waits ts[i].o j=true→listed.getD j false=true:=fun j hj=>iF hr ho hj
    have E:=fun (j:Nat) (hj:j<ts.length)=>Jh ts e0 htr j hj
    obtain ⟨h1,h2,h3,h4,h5,h6⟩:=E i r
    have a1:∀ (j:Nat) (hj:j<ts.length),rH σ0.length ts[j].ns:=fun j hj=>(E j hj).2.2.2.2.1
    have T:∀ (j:Nat) (hj:j<ts.length) (i:Nat) (hi:i<j),(∃ D:Nat→Prop,Closed all D∧D j∧¬ D i)→∀ (m:Nat) (ρ ρ':Rho) (v':Value),gq m ρ ts[j].v v' →
      (∀ q,q < σ0.length+(dY (ts.take i)).length∨σ0.length+(dY (ts.take i)).length+ts[i].ns.length≤q→ρ' q=ρ q)→gq m ρ' ts[j].v v':=fun j hj i hij hD m ρ ρ' v' hv hq=>by
     by_cases Z:ts[i].ns=[]
     ·exact hv.mono (aD _) fun q _=>hq q (by rw [Z];simp;omega)
     ·have V:((ts.take j)[i]'(by simp;omega)).ns ≠ []:=by simpa using Z
      obtain ⟨n1,n2,e1,e2⟩:=qU (ts.take j) 0 [] i (by simp;omega) V
      rw [bA] at e1
      have e3:iw n1=dY (ts.take i):=by
       rw [e2,eJ,fj oO];simp [iw]
      refine (E j hj).2.2.2.2.2 n1 i _ n2 e1 hD m ρ ρ' v' hv fun q a0=>hq q ?_
      rw [e3] at a0
      simpa using a0
    have z:=fun {t:Nat} (ht:t ∈ ts[i].o.looksAt all.toArray) {v:Value} (hv:Env.get (lZ (ts.take i) e0) t=some v) =>
     dinv_sees hd hall hchk r L hw F ht hv
    have s:Region.wanted ts[i].o (yielded all.toArray A.tmps)=ts[i].run:=by
     refine zT h2 fun g want hg t ht v hv=>?_
     obtain ⟨v',g1,g2⟩:=z (t:=t) (by
      unfold Oper.looksAt
      rw [hg]
      refine List.mem_append_right _ ?_
      simp only [bO]
      rw [ht];simp) hv
     exact ⟨_,_,v',g1,g2⟩
    have y:=DJ (i:=i) (W:=bT ts[i].o.after) hd.sim hcl a1 hw
    have after:∀ (ρ':Rho) (v':Value) (w':World),(∀ k < σ0.length+(dY (ts.take i)).length,ρ' k=ρ k)→gq (σ0.length+((dY (ts.take i)).length+ts[i].ns.length)) ρ' ts[i].v v' →
      Sim (oth G ρ σ0 ts (fun i=>listed.getD i false) (bT ts[i].o.after)) w ρ' (σ0++maskN (ts.take i) 0 (bT ts[i].o.after)++ts[i].ns) w' →
      wpAnyIn (fen ρ0 rd) 0 P .any all.toArray Q' fuel (listed.setIfInBounds i true) (A.put ts[i].o.dst v') w':=by
     intro ρ' v' w' ha hv R
     have a6:=dinv_step hd hall hchk hn0 hmk a1 T r L F h1 ha hv R
     refine ih _ _ _ _ (oU C) (fun k hk=>?_) ?_ (fun j o' hj I k hk=>?_) (jc (fun k hk=>?_) a6)
     ·rw [gY oO,if_neg oO];exact H k hk
     ·have:=qW Y C M;omega
     ·show (listed.setIfInBounds i true).getD k false=true
      have I:(listed.setIfInBounds i true).getD j false=true:=I
      rw [gY oO] at I ⊢
      split
      ·rfl
      ·split at I
       ·rename_i a7;subst a7
        rw [ho] at hj;cases hj
        exact hw k hk
       ·exact F j o' hj I k hk
     ·simp only [jR];rw [gY oO]
    unfold wpOpIn
    simp only [bO,ho]
    cases hrun:ts[i].run with
    |true =>
     rw [if_pos (by rw [s,hrun])]
     have a3:=h3 hrun
     rw [← lW (rd:=rd) (ρ':=ρ) (ρ:=ρ0) fun l hl=>hd.ag l (lS hrd l hl)]
     refine a3 ts[i].o rfl rfl (oth G ρ σ0 ts (fun i=>listed.getD i false) (bT ts[i].o.after)) w ρ A w (fun l hl=>by have:=lS hrd l hl;simp;omega) y (fun x hx u hu=>?_) _ _ ?_
     ·cases x with
      |tmp t =>
       obtain ⟨v',g1,g2⟩:=z (t:=t) (fW _ (List.mem_filterMap.2 ⟨.tmp t,by simpa using hx,rfl⟩)) hu
       rw [aR,eY]
       simpa [Act.eval,g1] using g2
      |const c =>
       simp only [aP] at hu
       cases hp:plain c <;> simp [hp] at hu
       subst hu;exact aY c hp
      |func f=>simp only [aP,Option.some.injEq] at hu;subst hu;exact .func f #[] #[] #[] #[] rfl rfl (fun i h=>by simp at h) (fun i h=>by simp at h)
      |global g=>simp [aP] at hu
     ·intro ρ' v' w' hv hle ha R
      rw [lW (rd:=rd) (ρ':=ρ) (ρ:=ρ0) fun l hl=>hd.ag l (lS hrd l hl)]
      refine after ρ' v' w' (fun k hk=>ha k (by rw [aR,eY];exact hk)) ?_ R
      rw [aR,aR,eY,cF] at hv;exact hv
    |false =>
     rw [if_neg (by rw [s,hrun];simp)]
     obtain ⟨g1,g2⟩:=h4 hrun
     refine ⟨fun f _=>kN _ _ _,?_⟩
     have:=after ρ undef w (fun _ _=>rfl) (by rw [g1];exact aY _ rfl) (by rw [g2];simpa using y)
     exact this
theorem tail_any {F:Fence} (hF:∀ f,F.fn f) {m f:Nat} {Q':Exit→Act→World→Prop} (hchk:drawOk all m f=true):∀ (rest:List Oper) (k fuel:Nat) (listed:Array Bool) (A:Act) (w:World),
  m≤k→rest=all.drop k→fuel=all.length - k→listed.size=all.length→(∀ i<all.length,listed.getD i false=decide (i<k)) →
  wpL F 0 P all.toArray Q' rest A w→wpAnyIn F 0 P .any all.toArray Q' fuel listed A w
 |[],k,fuel,listed,A,w,hmk,hr,hf,hsz,hp,h=>by
  have hk:all.length≤k:=by
   have:=congrArg List.length hr
   simp at this;omega
  refine wpAnyIn_done (List.eq_nil_iff_forall_not_mem.2 fun j hj=>?_) h fuel
  obtain ⟨h1,o,ho,_⟩:=mem_ready.1 hj
  rw [bO] at ho
  have d:=(List.getElem?_eq_some_iff.1 ho).1
  have:=hp j d
  rw [getD_lt (d':=true) oO,h1] at this
  simp at this;omega
 |o::rest,k,fuel,listed,A,w,hmk,hr,hf,hsz,hp,h=>by
  have hk:k<all.length:=by
   rcases e7 k all.length with h|h
   ·exact h
   ·rw [List.drop_eq_nil_of_le h] at hr;cases hr
  have ho:all[k]?=some o:=by
   have:=congrArg (fun l:List Oper=>l[0]?) hr
   simpa using this.symm
  have t:rest=all.drop (k+1):=by
   have:=congrArg List.tail hr
   simpa using this
  obtain ⟨fuel,rfl⟩:∃ f,fuel=f+1:=⟨fuel - 1,oO⟩
  refine ⟨fun hn=>?_,fun j hj=>?_⟩
  ·exfalso
   have:k ∈ Region.ready .any all.toArray listed:=mem_ready.2 ⟨by rw [getD_lt (d':=false) oO,hp k hk];simp,o,by rw [bO];exact ho,
    fun e he hb=>by have:=(draw_parts hchk ho).2.1 e he hb;rw [hp _ oO];simpa using this⟩
   rw [hn] at this;cases this
  ·obtain ⟨h1,oj,c,_⟩:=mem_ready.1 hj
   rw [bO] at c
   have d:=(List.getElem?_eq_some_iff.1 c).1
   have hkj:¬ j<k:=by
    intro g
    have:=hp j d
    rw [getD_lt (d':=true) oO,h1] at this
    simp at this;omega
   have p:j=k:=by
    rcases e7 k j with g|hge
    ·exfalso
     rcases (draw_parts hchk c).2.2.2 k _ g ho with h'|⟨h',_,_⟩
     ·have:=h' (fun q=>listed.getD q false=true) (fun q o' hq s i hi=>by
       have h1:=waits_lt hchk hq hi
       have r:=(List.getElem?_eq_some_iff.1 hq).1
       have h2:=hp q r
       rw [s] at h2
       have h3:q<k:=of_decide_eq_true h2.symm
       show listed.getD i false=true
       rw [hp i oO];simp;omega) fun q hq=>iF hj c hq
      simp only [hp k hk] at this;simp at this
     ·omega
    ·omega
   subst p
   have a:∀ A w,wpL F 0 P all.toArray Q' rest A w→wpAnyIn F 0 P .any all.toArray Q' fuel (listed.setIfInBounds j true) A w:=fun A w h =>
    tail_any hF hchk rest (j+1) fuel _ A w oO t oO (oU hsz) (fun i hi=>by
     rw [gY oO]
     split
     ·rename_i n;subst n;simp
     ·rename_i n;rw [hp i hi];simp only [decide_eq_decide];omega) h
   unfold wpOpIn
   simp only [bO,ho]
   simp only [wpL] at h
   split
   ·rename_i hw;rw [if_pos hw] at h
    exact Oper.wpIn_mono a h
   ·rename_i hw;rw [if_neg hw] at h
    exact ⟨fun f _=>hF f,a _ _ h⟩
theorem aa6 {F:Fence} (hF:∀ f,F.fn f) {m f:Nat} {Q':Exit→Act→World→Prop} (hchk:drawOk all m f=true) {o1 o2:Oper} {t:List Oper} (h1:all[m]?=some o1) (h2:all[f]?=some o2) (ht:t=all.drop (m+1)) (hf:f<m)
  {listed:Array Bool} (hsz:listed.size=all.length) (hp:∀ i,listed.getD i false=decide (i<m∧i ≠ f)) (hdc:Closed all (fun k=>listed.getD k false=true)) (hr:m ∈ Region.ready .any all.toArray listed) {fuel:Nat} (hfuel:fuel=all.length - m) {A:Act} {w:World}
  (h:wpL F 0 P all.toArray Q' (o1::o2::t) A w):wpOpIn F 0 P all.toArray Q' m (wpAnyIn F 0 P .any all.toArray Q' fuel (listed.setIfInBounds m true)) A w:=by
 have hm:m<all.length:=(List.getElem?_eq_some_iff.1 h1).1
 obtain ⟨fuel,rfl⟩:∃ f,fuel=f+1:=⟨fuel - 1,oO⟩
 have c:∀ i,(listed.setIfInBounds m true).getD i false=if i=m then true else decide (i<m∧i ≠ f):=fun i=>by
  rw [gY oO,hp]
 have d:∀ A w,wpL F 0 P all.toArray Q' (o2::t) A w→wpAnyIn F 0 P .any all.toArray Q' (fuel+1) (listed.setIfInBounds m true) A w:=by
  intro A w h
  refine ⟨fun hn=>?_,fun j hj=>?_⟩
  ·exfalso
   have:f ∈ Region.ready .any all.toArray (listed.setIfInBounds m true):=mem_ready.2 ⟨by rw [getD_lt (d':=false) (by simp;omega),c,if_neg oO];simp,o2,by rw [bO];exact h2,
    fun e he hb=>by have:=(draw_parts hchk h2).2.1 e he hb;rw [c];split <;> simp <;> omega⟩
   rw [hn] at this;cases this
  ·obtain ⟨g1,oj,l,_⟩:=mem_ready.1 hj
   rw [bO] at l
   have hj':=(List.getElem?_eq_some_iff.1 l).1
   have g2:(listed.setIfInBounds m true).getD j false=false:=by rw [getD_lt (by simp;omega) false true];exact g1
   have o:j=f:=by
    rw [c] at g2
    split at g2
    ·cases g2
    ·rename_i hjm
     have g3:¬ (j<m∧j ≠ f):=of_decide_eq_false g2
     rcases e7 m j with hlt|hge
     ·exfalso
      rcases (draw_parts hchk l).2.2.2 f _ oO h2 with h'|⟨_,h',_⟩
      ·have:=h' (fun q=>(listed.setIfInBounds m true).getD q false=true) (fun q o' hq g i hi=>by
        show (listed.setIfInBounds m true).getD i false=true
        have g:(listed.setIfInBounds m true).getD q false=true:=g
        rw [gY oO] at g ⊢
        split
        ·rfl
        ·split at g
         ·rename_i n;subst n
          rw [h1] at hq;cases hq
          exact iF hr h1 hi
         ·exact hdc q o' hq g i hi) fun q hq=>iF hj l hq
       rw [c,if_neg oO] at this
       simp at this
      ·omega
     ·omega
   subst o
   have a:∀ A w,wpL F 0 P all.toArray Q' t A w→wpAnyIn F 0 P .any all.toArray Q' fuel ((listed.setIfInBounds m true).setIfInBounds j true) A w:=fun A w h =>
    tail_any hF hchk t (m+1) fuel _ A w oO ht oO (oU hsz) (fun i hi=>by
     rw [gY (by simp;omega),c]
     split
     ·simp;omega
     ·split
      ·simp;omega
      ·simp only [decide_eq_decide];omega) h
   unfold wpOpIn
   simp only [bO,h2]
   simp only [wpL] at h
   split
   ·rename_i hw;rw [if_pos hw] at h
    exact Oper.wpIn_mono a h
   ·rename_i hw;rw [if_neg hw] at h
    exact ⟨fun f _=>hF f,a _ _ h⟩
 unfold wpOpIn
 simp only [bO,h1]
 simp only [wpL] at h
 split
 ·rename_i hw;rw [if_pos hw] at h
  exact Oper.wpIn_mono d h
 ·rename_i hw;rw [if_neg hw] at h
  exact ⟨fun f _=>hF f,d _ _ h⟩
theorem Nr {L:Nat→Bool}:∀ (ts:List Tr) (k:Nat),(∀ (j:Nat) (hj:j<ts.length),L (k+j)=true∨ts[j].ns=[])→maskN ts k L=dY ts
 |[],_,_=>rfl
 |t::ts,k,h=>by
  have h1:=Nr (L:=L) ts (k+1) fun j hj=>by have:=h (j+1) (oU hj);simpa [cF,e8 1 j] using this
  have h0:=h 0 oS
  simp only [cV,ec] at h0
  simp only [maskN,h1]
  rcases h0 with h0|h0
  ·simp [h0,dY]
  ·simp [h0,dY,hide]
def zB (d:Nat):Env→Env
 |[]=>[]
 |(k,v)::e=>bif Nat.beq k d then zB d e else (k,v)::zB d e
theorem yu {d t:Nat} {v:Value}:∀ {e:Env},Env.get (zB d e) t=some v→t ≠ d∧Env.get e t=some v
 |[],h=>by simp [zB,Env.get] at h
 |(k,u)::e,h=>by
  simp only [zB] at h
  cases hk:Nat.beq k d with
  |true =>
   rw [hk] at h
   obtain ⟨h1,h2⟩:=yu (e:=e) h
   refine ⟨h1,?_⟩
   have hkd:=aM hk
   simp only [Env.get]
   rw [jl oO]
   exact h2
  |false =>
   rw [hk] at h
   simp only [cond_false,Env.get] at h ⊢
   cases hkt:Nat.beq k t with
   |true =>
    rw [hkt] at h
    have:=aM hkt
    have:=Nat.ne_of_beq_eq_false hk
    exact ⟨oO,h⟩
   |false =>
    rw [hkt] at h
    exact yu (e:=e) h
end
theorem Bh {P:Program} {n0 N:Nat} {rd:Option Nat} {Q:Post} {e:Env} {mk:List Nat} {σ:Heap} {id:Nat} {l:List Oper} (f d:Nat) (hm:P.follows .mixedOrders=true) (hrd:lQ rd n0=true)
  (h:bM P N rd l 0 l e σ [] (fun e' news tl=>drawOk l (l.length - tl.length) f=true∧(bZ P n0 N rd l tl (Q .normal) e' mk (σ++gJ (fun _=>true) news) ∧
   ∃ o1 o2 t,tl=o1::t∧l[f]?=some o2∧o2.dst=some d∧(news.all fun p=>!Nat.beq p.1 f)=true∧bZ P n0 N rd l (o1::o2::t) (Q .normal) (zB d e') mk (σ++gJ (fun _=>true) news)))):bK P n0 N rd (.region id l.toArray true) Q e mk σ:=by
 intro G w0 ρ0 A w hi
 obtain ⟨h0,ρ,ha,hs,he⟩:=hi
 refine wpIn_region_any hm ?_
 obtain ⟨ts,tl,y,O,c,hK,o1,o2,t,K,M,S,J,C⟩:=oz l 0 e σ [] _ h
 obtain ⟨fr,I⟩:∃ fr,ts.map (·.o)=fr:=⟨_,rfl⟩
 rw [I] at y
 have hl:l=fr++tl:=y.symm
 have y:=I
 have W:fr.length=l.length - tl.length:=by rw [hl];simp
 rw [lD,kT] at hK C
 simp only [gJ,dz,ff,eR] at hK C
 have q:fr.length=ts.length:=by rw [← y];simp
 rw [← W] at c
 have s:∀ (i:Nat) (hi:i<ts.length),l[i]?=some ts[i].o:=by
  intro i hi
  rw [hl,bR oO,← y];simp [hi]
 have Y:∀ (i:Nat) (o:aB),σ[i]?=some o→fO σ.length o:=fun i o hi=>je (hs.obj i o hi)
 have n:∀ i,(Array.replicate l.toArray.size false).getD i false=false:=fun i=>by
  simp only [eT,fa];split <;> rfl
 rw [q] at c
 refine free_any (e0:=e) (mk:=mk) (σ0:=σ) (ρ0:=ρ0) (G:=G) (w0:=w0) (N:=N) (n0:=n0) (ts:=ts) hrd s c h0 he.mkb Y O ?_ (f:=f) ?_ (by rw [hl];simp;omega) _ _ _ _ ρ oS (fun i _=>n i) ?_ ?_ ?_
 ·intro A' w' ρ' x m F hp hd hf
  refine tail_any (kN ρ0 rd) c tl ts.length x m A' w' (aD _) (by rw [hl,← q];simp) hf F hp ?_
  have a:=jc (L':=fun _=>true) (fun k hk=>by have:=hp k (by rw [hl];simp;omega);rw [this];simpa using hk) hd
  have g:=a.sim
  rw [kT] at g
  refine hK G w0 ρ0 A' w' ⟨by simp;omega,ρ',fun i hi=>a.ag i hi |>.trans rfl,g,⟨a.sz,fun t v hv=>?_⟩,a.mks,fun i hi=>by have:=he.mkb i hi;simp;omega⟩ _ fun e' E σ' A' w' hk z=>⟨e',E,σ',hk,z⟩
  rcases l7 ts e t v hv with ⟨j,hj,h1,h2,h3⟩|⟨h1,h2⟩
  ·obtain ⟨v',g1,g2⟩:=a.new j hj rfl t h1 fun k hk B _=>h3 k hk B
   refine ⟨v',g1,?_⟩
   rw [← h2]
   have:=uG hj
   exact g2.mono (by simp;omega) fun _ _=>rfl
  ·obtain ⟨v',g1,g2⟩:=a.old t v h1 fun k hk _=>h2 k hk
   exact ⟨v',g1,g2.mono oS fun _ _=>rfl⟩
 ·intro A' w' ρ' x m F hp hd R H hmlt D u
  have V:ts[f].ns=[]:=by
   apply Classical.byContradiction;intro U
   obtain ⟨n1,n2,e1,_⟩:=qU ts 0 [] f H U
   rw [e1] at J
   simp at J
  have Z:l[ts.length]?=some o1:=by rw [hl,K,bE oO,q];simp
  refine aa6 (kN ρ0 rd) c Z M (t:=t) (by
   have:l.drop fr.length=o1::t:=by rw [hl,K];simp
   have h2:l.drop (ts.length+1)=(l.drop fr.length).drop 1:=by rw [fk];congr 1;omega
   rw [h2,this];rfl) H F hp R D u ?_
  have a:=jc (L':=fun k=>decide (k ≠ f)) (fun k hk=>by rw [hp];simp [hk]) hd
  have g:=a.sim
  rw [Nr ts 0 fun j hj=>by
   by_cases r:j=f
   ·subst r;exact .inr V
   ·exact .inl (by simp [r])] at g
  refine C G w0 ρ0 A' w' ⟨by simp;omega,ρ',fun i hi=>a.ag i hi |>.trans rfl,g,⟨a.sz,fun t v hv=>?_⟩,a.mks,fun i hi=>by have:=he.mkb i hi;simp;omega⟩ _ fun e' E σ' A' w' hk z=>⟨e',E,σ',hk,z⟩
  obtain ⟨X,hv⟩:=yu hv
  have T:ts[f].o.dst=some d:=by
   have h1:=s f H
   rw [M] at h1
   rw [← Option.some.inj h1];exact S
  rcases l7 ts e t v hv with ⟨j,hj,h1,h2,h3⟩|⟨h1,h2⟩
  ·have r:j ≠ f:=by
    intro r;subst r
    rw [T] at h1
    exact X (Option.some.inj h1).symm
   obtain ⟨v',g1,g2⟩:=a.new j hj (by simp [r]) t h1 fun k hk B _=>h3 k hk B
   refine ⟨v',g1,?_⟩
   rw [← h2]
   have:=uG hj
   exact g2.mono (by simp;omega) fun _ _=>rfl
  ·obtain ⟨v',g1,g2⟩:=a.old t v h1 fun k hk _=>h2 k hk
   exact ⟨v',g1,g2.mono oS fun _ _=>rfl⟩
 ·unfold cnt
  rw [List.countP_eq_length.2]
  ·simp
  ·intro i hi
   rw [getD_lt (d':=false) (oU hi),n];rfl
 ·intro j o _ hL
  rw [n] at hL;cases hL
 ·refine jc (L:=fun _=>false) (fun k _=>(n k).symm) ⟨ha,?_,he.tmps.1,he.mks,fun t v hv _=>?_,fun k hk hL=>by cases hL⟩
  ·rw [qE]
   exact o7 (zU hs _) rfl rfl rfl rfl
  ·exact he.tmps.2 t v hv
end Go.AH.Late
namespace Go.AH
open Go
theorem Vu {P:Program} {rd:Option Nat} {ty:TypeId} {e:Env} {σ:Heap} {x y:Operand} {t el size bytes i sz n l:Nat} {agg:Bool} {z:Value} {k:IntKind} [ha:Sl P t el] [ht:Ty P el size agg z bytes] (hx:aP e x=some (.slice (some ⟨i,0,some sz⟩) n n)) (hy:aP e y=some (.int k (l:Nat))) (hl:l<n) :
  bW P rd (.slice t x (some y) none none) ty e σ (.slice (some ⟨i,l*size,none⟩) (n - l) (n - l)) σ :=
 bY oS fun op ho _ G w0 ρ A w hs c=>by
  have hv:=c x (by simp [Op.operands]) _ hx
  have hi:=bH (c y (by simp [Op.operands]) _ hy) rfl
  obtain ⟨e1,e2⟩:=Bd ha
  generalize hr:A.eval x=r at hv
  cases hv with
  |gslice _ _ _ _ c' _ hc hsz hil _ =>
   have:=run_slice_l (P:=P) w t (some ⟨(ρ i).b,(ρ i).o+0,none⟩) n c' e1 k l oO oO
   simp only [cM] at this
   have a:(execOp A.eval op).run P w=.ok (.value (sliced (some ⟨(ρ i).b,(ρ i).o+0,none⟩) l n c' size)) w:=by
    simp only [cV] at hr this ⊢
    simp [execOp,ho,hr,hi,run_sliceAt_slice _ _ _ _ _ _ e1,this,e2,ht.sizeOf]
   refine ⟨ρ,_,w,.inl a,?_,aD _,fun _ _=>rfl,hs⟩
   simp only [sliced]
   rw [if_neg oO]
   simp only [eh,addr_add,cV]
   exact VQ.slice i (l*size) (n - l) (n - l) (c' - l) oO hil
  |gsliceG _ _ _ _ _ _ _ _ hq=>simp at hq
def Clo (all:List Oper) (L:Nat→Bool):Prop:=∀ j o,all[j]?=some o→L j=true→∀ k,waits o k=true→L k=true
theorem aed {P:Program} {F:Fence} (hF:∀ f,F.fn f) {all:List Oper} {Q':Exit→Act→World→Prop} {St:(Nat→Bool)→Act→World→Prop}
  (hst:∀ j o,all[j]?=some o→o.guard=none∧∀ i,waits o i=true→i<j)
  (step:∀ L A w j o,all[j]?=some o→L j=false→(∀ k,waits o k=true→L k=true)→St L A w→∀ next:Act→World→Prop,(∀ A' w',St (jR L j) A' w'→next A' w')→o.wpIn F 0 P A w next Q')
  (fin:∀ L A w,(∀ j<all.length,L j=true)→St L A w→Q' .normal A w) :
  ∀ (fuel:Nat) (listed:Array Bool) (A:Act) (w:World),listed.size=all.length→cnt all.length listed≤fuel→St (fun i=>listed.getD i false) A w→wpAnyIn F 0 P .any all.toArray Q' fuel listed A w:=by
 have wt:∀ {o:Oper} {e:Edge},e ∈ o.after→Region.binds .any e=true→waits o e.on=true:=fun {o e} he hb=>by
  unfold waits bT
  rw [Array.any_eq_true']
  exact ⟨e,he,by simp [hb]⟩
 have full:∀ (listed:Array Bool),listed.size=all.length→Region.ready .any all.toArray listed=[]→∀ i,i<all.length→listed.getD i false=true:=by
  intro listed hs hr i
  induction i using Nat.strongRecOn with
  |_ i ih =>
   intro hi
   by_cases hl:listed.getD i true=true
   ·rw [getD_lt (d':=true) oO];exact hl
   ·exfalso
    have:i ∈ Region.ready .any all.toArray listed:=mem_ready.2 ⟨by simpa using hl,all[i],by rw [bO];exact cC hi,fun e he hb=>by
     have h1:=(hst i all[i] (cC hi)).2 e.on (wt he hb)
     exact ih e.on h1 oO⟩
    rw [hr] at this;cases this
 intro fuel
 induction fuel with
 |zero =>
  intro listed A w hs hc a
  have g:∀ i<all.length,listed.getD i true=true:=by
   intro i hi
   apply Classical.byContradiction
   intro hn
   have:=qW (n:=all.length) hi hs (oU hn)
   omega
  have hr:Region.ready .any all.toArray listed=[]:=by
   rw [List.eq_nil_iff_forall_not_mem]
   intro i hi
   obtain ⟨h1,o,ho,_⟩:=mem_ready.1 hi
   rw [bO] at ho
   rw [g i (List.getElem?_eq_some_iff.1 ho).1] at h1
   cases h1
  exact ⟨hr,fin _ A w (full listed hs hr) a⟩
 |succ fuel ih =>
  intro listed A w hs hc a
  refine ⟨fun hr=>fin _ A w (full listed hs hr) a,fun i hi=>?_⟩
  obtain ⟨h1,o,ho,hw⟩:=mem_ready.1 hi
  rw [bO] at ho
  have h:=(List.getElem?_eq_some_iff.1 ho).1
  have l:listed.getD i false=false:=by rw [getD_lt (d':=true) oO];exact h1
  have hg:=(hst i o ho).1
  have c:(fun j=>(listed.setIfInBounds i true).getD j false)=jR (fun j=>listed.getD j false) i:=by
   funext j
   rw [gY oO];rfl
  unfold wpOpIn
  simp only [bO,ho]
  rw [if_pos (by simp [Region.wanted,hg])]
  exact step (fun i=>listed.getD i false) A w i o ho l (fun k hk=>iF hi ho hk) a _ fun A' w' d=>ih _ _ _ (oU hs) (by have:=qW (n:=all.length) h hs h1;omega) (by rw [c];exact d)
section
variable {P:Program} {n0 N:Nat} {rd:Option Nat} {Q:Post} {e:Env} {mk:List Nat} {σ:Heap} {id:Nat}
theorem aee {all:List Oper} {L:Nat→Bool} {j:Nat} {o:Oper} (h:Clo all L) (ho:all[j]?=some o) (hw:∀ k,waits o k=true→L k=true):Clo all (jR L j):=fun i o' hi hL k hk=>by
 unfold jR at hL ⊢
 by_cases a:k=j
 ·rw [if_pos a]
 ·rw [if_neg a]
  by_cases c:i=j
  ·subst c
   rw [ho] at hi;cases hi
   exact hw k hk
  ·rw [if_neg c] at hL
   exact h i o' hi hL k hk
theorem OV {all:List Oper} (hmo:P.follows .mixedOrders=true) (hrd:lQ rd n0=true) (val:Nat→Value) (Hp:(Nat→Bool)→Heap) (ed:Nat→Env)
  (hlen:∀ L,(Hp L).length=σ.length) (h0:Hp (fun _=>false)=σ)
  (hst:∀ j o,all[j]?=some o→o.guard=none∧(∀ i,waits o i=true→i<j)∧∀ d,o.dst=some d→d<N∧Env.get e d=none∧∀ i o',i ≠ j→all[i]?=some o'→o'.dst ≠ some d)
  (hed:∀ j o,all[j]?=some o→∀ t u,Env.get (ed j) t=some u→Env.get e t=some u∨∃ k o',waits o k=true∧all[k]?=some o'∧o'.dst=some t∧u=val k)
  (hop:∀ L j o,all[j]?=some o→L j=false→(∀ k,waits o k=true→L k=true)→Clo all L→∃ v,bW P rd o.op o.type (ed j) (Hp L) v (Hp (jR L j))∧(o.dst.isSome=true→v=val j))
  (hfin:∀ L,(∀ j<all.length,L j=true)→∃ e',(∀ t u,Env.get e' t=some u→Env.get e t=some u∨∃ k o',all[k]?=some o'∧o'.dst=some t∧u=val k)∧Q .normal e' mk (Hp L)) :
  bK P n0 N rd (.region id all.toArray true) Q e mk σ:=by
 intro G w0 ρb A w m
 obtain ⟨g0,ρ,ha,B,c⟩:=m
 refine wpIn_region_any hmo ?_
 have hs:Sim G w0 ρ σ { w with drawn:=w.drawn+1 }:=o7 B rfl rfl rfl rfl
 generalize ({ w with drawn:=w.drawn+1 }:World)=w at hs
 have a:=lS hrd
 have r:∀ i,(Array.replicate all.toArray.size false).getD i false=false:=fun i=>by
  simp only [eT,fa];split <;> rfl
 have g:∀ ρ':Rho,(∀ i < σ.length,ρ' i=ρ i)→(mk.map fun i=>({ target:=.collected (ρ' i).b,args:=#[] }:Deferred))=mk.map fun i=>{ target:=.collected (ρ i).b,args:=#[] }:=fun ρ' h=>eD fun i hi=>by rw [h i (c.mkb i hi)]
 refine aed (kN ρb rd) (St:=fun L A' w'=>∃ ρ',(∀ i < σ.length,ρ' i=ρ i)∧Sim G w0 ρ' (Hp L) w'∧A'.tmps.size=N∧A'.defers=A.defers∧(∀ t v,Env.get e t=some v→∃ u,A'.tmps[t]?=some u∧gq σ.length ρ' v u) ∧
   (∀ j o d,all[j]?=some o→L j=true→o.dst=some d→∃ u,A'.tmps[d]?=some u∧gq σ.length ρ' (val j) u)∧Clo all L) (fun j o ho=>⟨(hst j o ho).1,(hst j o ho).2.1⟩) ?_ ?_ _ _ A w oS ?_ ?_
 ·rintro L A1 w1 j o ho z hw ⟨ρ1,a1,s1,z1,d1,e1,n1,c1⟩ next hn
  rw [← lW (rd:=rd) (ρ':=ρ1) (ρ:=ρb) fun l hl=>(a1 l (by have:=a l hl;omega)).trans (ha l (a l hl))]
  have C:Hq (aaL n0 ρb) (Hp L).length ρ1 N (ed j) mk A1:=by
   rw [hlen]
   refine ⟨⟨z1,fun t v hv=>?_⟩,by rw [d1,c.mks,g ρ1 a1],c.mkb⟩
   rcases hed j o ho t v hv with h|⟨k,o',h1,h2,h3,rfl⟩
   ·exact e1 t v h
   ·exact n1 k o' t h2 (hw k h1) h3
  obtain ⟨v,q,E⟩:=hop L j o ho z hw c1
  refine q o rfl rfl G w0 ρ1 A1 w1 (fun l hl=>by rw [hlen];have:=a l hl;omega) s1 (fun x _ u hu=>oZ C hu) next _ ?_
  intro ρ2 v' w2 hv hle hρ y
  rw [hlen] at hv hρ
  refine hn _ _ ⟨ρ2,fun i hi=>(hρ i hi).trans (a1 i hi),y,?_,?_,fun t v ht=>?_,fun i o' d hi hL hd=>?_,aee c1 ho hw⟩
  ·cases o.dst <;> simp [Act.put,z1]
  ·cases o.dst <;> simp [Act.put,d1]
  ·obtain ⟨u,u1,u2⟩:=e1 t v ht
   refine ⟨u,?_,u2.mono (aD _) hρ⟩
   cases hd:o.dst with
   |none=>simpa [Act.put] using u1
   |some d =>
    have n:d ≠ t:=fun h=>by have:=((hst j o ho).2.2 d hd).2.1;rw [h,ht] at this;cases this
    simp only [Act.put]
    rw [fg n];exact u1
  ·by_cases p:i=j
   ·subst p
    rw [ho] at hi;cases hi
    refine ⟨v',?_,by rw [E (by rw [hd];rfl)] at hv;exact hv⟩
    have s:=((hst i o ho).2.2 d hd).1
    rw [hd]
    simp only [Act.put]
    rw [fz (show d<A1.tmps.size by rw [z1];exact s)]
   ·have D:L i=true:=by unfold jR at hL;rwa [if_neg p] at hL
    obtain ⟨u,u1,u2⟩:=n1 i o' d hi D hd
    refine ⟨u,?_,u2.mono (aD _) hρ⟩
    cases hd2:o.dst with
    |none=>simpa [Act.put] using u1
    |some d2 =>
     have n:d2 ≠ d:=fun h=>((hst j o ho).2.2 d2 hd2).2.2 i o' p hi (by rw [hd,h])
     simp only [Act.put]
     rw [fg n];exact u1
 ·rintro L A1 w1 f ⟨ρ1,a1,s1,z1,d1,e1,n1,c1⟩
  obtain ⟨e',h1,h2⟩:=hfin L f
  refine ⟨e',mk,Hp L,h2,by rw [hlen];exact g0,ρ1,fun i hi=>(a1 i oO).trans (ha i hi),s1,?_⟩
  rw [hlen]
  refine ⟨⟨z1,fun t v hv=>?_⟩,by rw [d1,c.mks,g ρ1 a1],c.mkb⟩
  rcases h1 t v hv with h|⟨k,o',h2,h3,rfl⟩
  ·exact e1 t v h
  ·exact n1 k o' t h2 (f k (List.getElem?_eq_some_iff.1 h2).1) h3
 ·unfold cnt
  exact ej List.countP_le_length oS
 ·have hf:(fun i=>(Array.replicate all.toArray.size false).getD i false)=fun _=>false:=funext r
  rw [hf,h0]
  exact ⟨ρ,fun _ _=>rfl,hs,c.tmps.1,rfl,c.tmps.2,fun _ _ _ _ h=>absurd h oS,fun _ _ _ h=>absurd h oS⟩
end
inductive Trie (α:Type) where
 |z
 |nd (v:Option α) (l r:Trie α)
abbrev PT:=Trie Value
def Trie.get {α:Type}:Trie α→Nat→Option α
 |.z,_=>none
 |.nd v l r,t=>bif Nat.beq t 0 then v else bif Nat.beq (Nat.mod t 2) 1 then l.get (Nat.div t 2) else r.get (Nat.pred (Nat.div t 2))
def Trie.put {α:Type}:Trie α→Nat→α→Trie α
 |.z,_,_=>.z
 |.nd v l r,t,x=>bif Nat.beq t 0 then .nd (some x) l r else bif Nat.beq (Nat.mod t 2) 1 then .nd v (l.put (Nat.div t 2) x) r else .nd v l (r.put (Nat.pred (Nat.div t 2)) x)
def Trie.del {α:Type}:Trie α→Nat→Trie α
 |.z,_=>.z
 |.nd v l r,t=>bif Nat.beq t 0 then .nd none l r else bif Nat.beq (Nat.mod t 2) 1 then .nd v (l.del (Nat.div t 2)) r else .nd v l (r.del (Nat.pred (Nat.div t 2)))
def Trie.full {α:Type}:Nat→Trie α
 |0=>.z
 |k+1=>.nd none (Trie.full k) (Trie.full k)
structure Tab where
 ty:Trie (Nat×Bool×Value×Nat)
 fld:Trie (List (Nat×Nat))
 sl:Trie Nat
 ar:Trie (Nat×Nat)
 ik:Trie IntKind
 eq2:Trie Unit
 pls:Trie (Value×List (Nat×Nat))
 fn:Trie (Nat×List ResultVar×Code)
 mp:Trie (Nat×Nat×Nat)
 gl:Trie (List Nat):=.z
def Tab.Dz (T:Tab) (s f:Nat):Option (Nat×Nat):=(T.fld.get s).bind fun l=>l[f]?
def iI {α β:Type}:List α→(List α→β)→β
 |[],k=>k []
 |x::l,k=>iI l fun m=>k (x::m)
theorem fV {α β:Type}:∀ (l:List α) (k:List α→β),iI l k=k l
 |[],_=>rfl
 |x::l,k=>fV l fun m=>k (x::m)
abbrev Res:=Option (Value×Heap×Nat)
def bQ {α:Type} (b:Bool) (x:Option α):Option α:=bif b then x else none
def asInt:Value→Option (IntKind×Int)
 |.int k n=>some (k,n)
 |_=>none
def asBool:Value→Option Bool
 |.bool b=>some b
 |_=>none
def qG:Value→Option (Nat×Nat)
 |.pointer (some ⟨i,o,none⟩)=>some (i,o)
 |_=>none
def ru:Value→Option (Nat×Nat×Nat×Nat)
 |.slice (some ⟨i,o,none⟩) n c=>some (i,o,n,c)
 |_=>none
def RJ:Value→Option (Nat×Nat×Nat)
 |.slice (some ⟨i,0,some sz⟩) (n+1) c=>bQ (Nat.beq c (n+1)) (some (i,sz,n))
 |_=>none
def xE:Value→Bool
 |.slice none 0 0=>true
 |_=>false
def lenS:Value→Option Nat
 |.slice _ n _=>some n
 |_=>none
def asAgg:Value→Option (List Value)
 |.agg ⟨l⟩=>some l
 |_=>none
def JC:Value→Option (List Value)
 |.tuple ⟨l⟩=>some l
 |_=>none
def Vw:Value→Option (Nat×List Value×List Value)
 |.func (.func f) ⟨p⟩ ⟨q⟩=>some (f,p,q)
 |_=>none
def XE:Value→Option Nat
 |.func (.yield l) ⟨[]⟩ ⟨[]⟩=>some l
 |_=>none
def as2:List Value→Option (IntKind×Int×IntKind×Int)
 |[a,b]=>(asInt a).bind fun x=>(asInt b).bind fun y=>some (x.1,x.2,y.1,y.2)
 |_=>none
def evO (e:PT):Operand→Option Value
 |.tmp t=>e.get t
 |.const v=>bQ (plain v) (some v)
 |.func f=>some (.func (.func f) #[] #[])
 |.global _=>none
def evL (e:PT):List Operand→Option (List Value)
 |[]=>some []
 |x::l=>(evO e x).bind fun v=>(evL e l).bind fun vs=>some (v::vs)
def evP (e:PT):List (Nat×Operand)→Option (List (Nat×Value))
 |[]=>some []
 |p::l=>(evO e p.2).bind fun v=>(evP e l).bind fun vs=>some ((p.1,v)::vs)
def iJ (v:Value) (σ:Heap):Res:=some (v,σ,σ.length)
def newR (v:Value) (σ:Heap) (cs:List Value):Res:=iI cs fun cs=>iI (σ++[.rw cs]) fun σ'=>some (v,σ',σ.length)
def Zg (v:Value) (i:Nat) (σ:Option Heap):Res:=σ.bind fun σ=>iI σ fun σ=>some (v,σ,i)
def arith:BinOp→IntKind→Int→Int→Option Value
 |.quo=>fun k m n=>bQ (!decide (n=0)) (some (.int k (k.wrap (m.tdiv n))))
 |.rem=>fun k m n=>bQ (!decide (n=0)) (some (.int k (m.tmod n)))
 |.or=>fun k m n=>bQ (decide (k=.i64) && (decide (m=0) || decide (m=1)) && (decide (n=0) || decide (n=1))) (some (.int .i64 (bI (decide (m=1) || decide (n=1)))))
 |op=>U0 op
def eqOp:BinOp→Bool→Option Value
 |.eql=>fun b=>some (.bool b)
 |.neq=>fun b=>some (.bool (!b))
 |_=>fun _=>none
def afN (op:BinOp) (v:Value) (σ:Heap) (x:IntKind×Int):Res :=
 (asInt v).bind fun y=>bQ (decide (x.1=y.1)) ((arith op x.1 x.2 y.2).bind fun r=>iJ r σ)
def afO (T:Tab) (op:BinOp) (t:TypeId) (u v:Value) (σ:Heap):Res :=
 (asAgg u).bind fun a=>(asAgg v).bind fun b=>(as2 a).bind fun x=>(as2 b).bind fun y =>
  bQ ((T.eq2.get t).isSome && decide (x.1=y.1) && decide (x.2.2.1=y.2.2.1)) ((eqOp op (decide (x.2.1=y.2.1∧x.2.2.2=y.2.2.2))).bind fun r=>iJ r σ)
def isI:Value→Bool
 |.int .i64 _=>true
 |_=>false
def XF:List Value→Bool
 |[]=>true
 |v::l=>isI v && XF l
def isK (k:IntKind) (v:Value):Bool:=match asInt v with|some x=>decide (x.1=k)|none=>false
def JD (k:IntKind):List Value→Bool
 |[]=>true
 |v::l=>isK k v && JD k l
def ivV (v:Value):Int:=match asInt v with|some x=>x.2|none=>0
def ivA (a:List Value) (i:Nat):Int:=match a[i]? with|some v=>ivV v|none=>0
def aa7:List Value→List Value→Bool
 |x::xs=>fun l=>match l with|y::ys=>decide (ivV x=ivV y) && aa7 xs ys|[]=>false
 |[]=>fun l=>l.isEmpty
def RN:BinOp→Bool
 |.eql=>true
 |_=>false
def afP (T:Tab) (op:BinOp) (t:TypeId) (u v:Value) (σ:Heap):Res :=
 (asAgg u).bind fun a=>(asAgg v).bind fun b=>(T.ar.get t).bind fun y=>(T.ty.get y.2).bind fun q=>(T.ik.get y.2).bind fun k =>
  bQ (RN op && Nat.beq q.1 1 && !q.2.1 && Nat.beq a.length y.1 && Nat.beq b.length y.1 && JD k a && JD k b) (iJ (.bool (aa7 a b)) σ)
def afQ (T:Tab) (op:BinOp) (t:TypeId) (u:Value) (σ:Heap):Res :=
 (ru u).bind fun p=>(T.sl.get t).bind fun _=>bQ (RN op && Nat.blt 0 p.2.2.1) (iJ (.bool false) σ)
def Zh:Value→Option Nat
 |.map (some i)=>some i
 |_=>none
def RP:aB→Option (List (Value×Value))
 |.map es=>some es
 |_=>none
def Af:Value→Bool
 |.map none=>true
 |_=>false
def pV (v:Value):Int:=match asInt v with|some x=>x.2|none=>0
def decI (v:Value):Option Int:=bQ (isI v) (some (pV v))
def decL (n:Nat) (l:List Int):Option (NL n):=if h:l.length=n then some ⟨l,h⟩ else none
def decN (n:Nat) (v:Value):Option (NL n):=(asAgg v).bind fun l=>bQ (XF l) (decL n (l.map pV))
def XG {α:Type} (f:Value→Option α):List (Value×Value)→Option (List (α×Value))
 |[]=>some []
 |p::r=>(f p.1).bind fun k=>(XG f r).bind fun l=>some ((k,p.2)::l)
def mIdx {α:Type} [DecidableEq α] (f:Value→Option α) (es:List (Value×Value)) (k:Value):Option (Option Nat) :=
 (XG f es).bind fun l=>(f k).bind fun k=>some ((l.map (·.1)).findIdx? (fun q=>decide (k=q)))
def Ns (n:Nat) (es:List (Value×Value)) (k:Value):Option (Option Nat):=bif Nat.beq n 0 then mIdx decI es k else mIdx (decN n) es k
def two (b:Bool) (v:Value) (ok:Bool):Value:=bif b then .tuple #[v,.bool ok] else v
def aa8 (z:Value) (b:Bool) (σ:Heap) (es:List (Value×Value)):Option Nat→Res
 |some j=>(es[j]?).bind fun p=>iJ (two b p.2 true) σ
 |none=>bQ (plain z) (iJ (two b z false) σ)
def OW (T:Tab) (t:TypeId) (b:Bool) (u k:Value) (σ:Heap):Res :=
 (Zh u).bind fun i=>(σ[i]?).bind fun o=>(RP o).bind fun es=>(T.mp.get t).bind fun m=>(T.ty.get m.2.1).bind fun y=>(Ns m.2.2 es k).bind (aa8 y.2.2.1 b σ es)
def aa9 (es:List (Value×Value)) (k v:Value):Option Nat→List (Value×Value)
 |some j=>es.set j (k,v)
 |none=>es++[(k,v)]
def RQ (es:List (Value×Value)):Option Nat→List (Value×Value)
 |some j=>es.eraseIdx j
 |none=>es
def abb:aB→Bool
 |.iter _ _=>false
 |_=>true
def Zi (v:Value) (i:Nat) (σ:Heap) (es:List (Value×Value)):Res:=iI es fun es=>iI (σ.set i (.map es)) fun σ'=>some (v,σ',i)
def Vx (T:Tab) (t:TypeId) (u k v:Value) (σ:Heap):Res :=
 (Zh u).bind fun i=>(σ[i]?).bind fun o=>(RP o).bind fun es=>(T.mp.get t).bind fun m=>(Ns m.2.2 es k).bind fun j=>bQ (σ.all abb) (Zi undef i σ (aa9 es k v j))
def OX (T:Tab) (t:TypeId) (u k:Value) (σ:Heap):Res :=
 (Zh u).bind fun i=>(σ[i]?).bind fun o=>(RP o).bind fun es=>(T.mp.get t).bind fun m=>(Ns m.2.2 es k).bind fun j=>Zi (.tuple #[]) i σ (RQ es j)
def Vy (σ:Heap):Res:=iI (σ++[.map []]) fun σ'=>some (.map (some σ.length),σ',σ.length)
def XH (T:Tab) (op:BinOp) (t:TypeId) (u:Value) (σ:Heap):Res:=(T.mp.get t).bind fun _=>bQ (RN op && (Af u || (Zh u).isSome)) (iJ (.bool (Af u)) σ)
def afR (T:Tab) (op:BinOp) (t:TypeId) (u v:Value) (σ:Heap):Bool→Res
 |true=>afQ T op t u σ
 |false=>match afO T op t u v σ with
  |some r=>some r
  |none=>afP T op t u v σ
def rBin (T:Tab) (op:BinOp) (t:TypeId) (u v:Value) (σ:Heap):Res :=
 match asInt u with
 |some x=>afN op v σ x
 |none=>bif Af v then XH T op t u σ else afR T op t u v σ (xE v)
def Vz (i o:Nat) (σ:Heap) (size:Nat):Bool→Res
 |false=>(aH σ i o).bind fun v=>iJ v σ
 |true=>(aJ σ i o size).bind fun cs=>iJ (.agg ⟨cs⟩) σ
def RS (T:Tab) (t:TypeId) (u:Value) (σ:Heap):Res :=
 (qG u).bind fun p=>(T.ty.get t).bind fun y=>Vz p.1 p.2 σ y.1 y.2.1
def putF (σ:Heap) (i o:Nat) (vs:List Value):aB→Option Heap
 |.rw cs=>bQ (Nat.ble (o+vs.length) cs.length && Nat.blt 0 cs.length) (iI (splice cs o vs) fun cs=>some (σ.set i (.rw cs)))
 |.gr cs t=>bQ (Nat.ble (o+vs.length) cs.length && Nat.blt 0 cs.length) (iI (splice cs o vs) fun cs=>some (σ.set i (.gr cs t)))
 |_=>none
def Zj (σ:Heap) (i o:Nat) (vs:List Value):Option Heap:=(σ[i]?).bind (putF σ i o vs)
def VA (T:Tab) (t:TypeId) (u v:Value) (σ:Heap):Res :=
 (qG u).bind fun p=>(T.ty.get t).bind fun y=>bQ (Nat.beq (dR v).length y.1 && (dR v).all (·.oneCell')) (Zg undef p.1 (Zj σ p.1 p.2 (dR v)))
def rFA (T:Tab) (s f:Nat) (u:Value) (σ:Heap):Res :=
 (qG u).bind fun p=>(T.Dz s f).bind fun x=>(T.ty.get x.2).bind fun y=>bQ (Nat.blt 0 y.1) (iJ (.pointer (some ⟨p.1,p.2+x.1,none⟩)) σ)
def RU (cs:List Value) (off:Nat) (σ:Heap) (size:Nat):Bool→Res
 |false=>(cs[off]?).bind fun v=>iJ v σ
 |true=>bQ (Nat.ble (off+size) cs.length) (iI ((cs.drop off).take size) fun l=>iJ (.agg ⟨l⟩) σ)
def VB (T:Tab) (s f:Nat) (u:Value) (σ:Heap):Res :=
 (asAgg u).bind fun cs=>(T.Dz s f).bind fun x=>(T.ty.get x.2).bind fun y=>RU cs x.1 σ y.1 y.2.1
def afS (T:Tab) (t:TypeId) (j:Int) (σ:Heap) (p:Nat×Nat×Nat×Nat):Res :=
 (T.sl.get t).bind fun el=>(T.ty.get el).bind fun y=>bQ (decide (0≤j) && decide (j<p.2.2.1)) (iJ (.pointer (some ⟨p.1,p.2.1+j.toNat*y.1,none⟩)) σ)
def afT (T:Tab) (t:TypeId) (j:Int) (σ:Heap) (p:Nat×Nat×Nat):Res :=
 (T.sl.get t).bind fun el=>(T.ty.get el).bind fun y=>bQ (decide (0≤j) && decide (j<(p.2.2+1:Nat))) (iJ (.pointer (some ⟨p.1,j.toNat*y.1,none⟩)) σ)
def afU (T:Tab) (t:TypeId) (j:Int) (σ:Heap) (p:Nat×Nat):Res :=
 (T.ar.get t).bind fun a=>(T.ty.get a.2).bind fun y=>bQ (decide (0≤j) && decide (j<a.1)) (iJ (.pointer (some ⟨p.1,p.2+j.toNat*y.1,none⟩)) σ)
def abd (T:Tab) (t:TypeId) (u:Value) (σ:Heap) (j:Int):Res :=
 match ru u with
 |some p=>afS T t j σ p
 |none=>match RJ u with
  |some p=>afT T t j σ p
  |none=>(qG u).bind (afU T t j σ)
def abe (T:Tab) (t:TypeId) (u v:Value) (σ:Heap):Res:=(asInt v).bind fun x=>abd T t u σ x.2
def rIdx (T:Tab) (t:TypeId) (u v:Value) (σ:Heap):Res :=
 (asAgg u).bind fun cs=>(asInt v).bind fun x=>(T.ar.get t).bind fun a=>(T.ty.get a.2).bind fun y =>
  bQ (decide (0≤x.2) && decide (x.2<a.1)) (RU cs (x.2.toNat*y.1) σ y.1 y.2.1)
def XI (T:Tab) (t:TypeId) (σ:Heap) (vs:List (Nat×Value)):Res :=
 (T.ty.get t).bind fun y=>(T.ar.get t).bind fun a=>(T.ty.get a.2).bind fun q=>bQ (y.2.1 && plain y.2.2.1) ((rJ (fun i=>some (i*q.1,q.1)) (dR y.2.2.1) vs).bind fun cs=>iI cs fun cs=>iJ (.agg ⟨cs⟩) σ)
def VD (T:Tab) (t:TypeId) (vs:List (Nat×Value)) (σ:Heap):Res :=
 match T.pls.get t with
 |some z=>bQ (plain z.1) ((rJ (z.2.toArray[·]?) (dR z.1) vs).bind fun cs=>iI cs fun cs=>iJ (.agg ⟨cs⟩) σ)
 |none=>XI T t σ vs
def abf:List (Nat×Value)→Bool
 |[]=>true
 |_=>false
def RV (T:Tab) (t:TypeId) (vs:List (Nat×Value)) (σ:Heap):Res :=
 (T.sl.get t).bind fun el=>(T.ty.get el).bind fun _=>bQ (abf vs) (iI (σ++[.dead]) fun σ'=>some (.slice none 0 1,σ',σ.length))
def RX (T:Tab) (t:TypeId) (len:Nat) (vs:List (Nat×Value)) (σ:Heap):Res :=
 (T.sl.get t).bind fun el=>(T.ty.get el).bind fun y =>
  bQ (plain y.2.2.1 && Nat.beq y.2.2.1.cells.toList.length y.1 && Nat.blt 0 (len*y.1) && Nat.ble (len*y.1) 16777216)
   ((rJ (fun i=>some (i*y.1,y.1)) (iG (dR y.2.2.1) len) vs).bind fun cs=>newR (.slice (some ⟨σ.length,0,none⟩) len len) σ cs)
def OY (T:Tab) (t:TypeId) (len:Nat) (vs:List (Nat×Value)) (σ:Heap):Res:=bif Nat.beq len 0 then RV T t vs σ else RX T t len vs σ
def XJ (z:Value) (size bytes:Nat) (l c:Int) (σ:Heap):Res :=
 bQ (plain z && Nat.beq z.cells.toList.length size && decide (0≤l) && decide (l≤c) && Nat.ble (bytes*c.toNat) 281474976710656 && Nat.ble c.toNat 9223372036854775807)
  (newR (.slice (some ⟨σ.length,0,none⟩) l.toNat c.toNat) σ (iG (dR z) c.toNat))
def VE (T:Tab) (t:TypeId) (u v:Value) (σ:Heap):Res :=
 (asInt u).bind fun l=>(asInt v).bind fun c=>(T.sl.get t).bind fun el=>(T.ty.get el).bind fun y=>XJ y.2.2.1 y.1 y.2.2.2 l.2 c.2 σ
def rLen (T:Tab) (t:TypeId) (u:Value) (σ:Heap):Res:=(lenS u).bind fun n=>(T.sl.get t).bind fun _=>iJ (.int .i64 (n:Nat)) σ
def rNot (u:Value) (σ:Heap):Res:=(asBool u).bind fun b=>iJ (.bool (!b)) σ
def rNeg (u:Value) (σ:Heap):Res:=(asInt u).bind fun x=>iJ (.int x.1 (x.1.wrap (0 - x.2))) σ
def abg (a b:Option Value) (σ:Heap):Bool→Res
 |true=>a.bind fun v=>iJ v σ
 |false=>b.bind fun v=>iJ v σ
def abh (T:Tab) (s d:TypeId) (u:Value) (σ:Heap):Res :=
 (asInt u).bind fun x=>(T.ik.get s).bind fun a=>(T.ik.get d).bind fun k=>bQ (decide (a=x.1)) (iJ (.int k (k.wrap x.2)) σ)
def rMM (f:Int→Int→Int) (u v:Value) (σ:Heap):Res:=(asInt u).bind fun x=>(asInt v).bind fun y=>bQ (decide (x.1=y.1)) (iJ (.int x.1 (f x.2 y.2)) σ)
def RY (u:Value) (i:Nat) (σ:Heap):Res:=(JC u).bind fun vs=>(vs[i]?).bind fun v=>iJ v σ
def rNil (u:Value) (σ:Heap):Res:=bQ ((qG u).isSome || (Vw u).isSome) (iJ u σ)
def abj (T:Tab) (t:TypeId) (σ:Heap):Res:=(T.ty.get t).bind fun y=>bQ (plain y.2.2.1) (newR (.pointer (some ⟨σ.length,0,none⟩)) σ (dR y.2.2.1))
def rBox (σ:Heap) (v:Value):Res:=newR (.pointer (some ⟨σ.length,0,none⟩)) σ (dR v)
def slH (T:Tab) (t:TypeId) (p:Nat×Nat×Nat×Nat) (h:Int) (σ:Heap):Res :=
 (T.sl.get t).bind fun el=>(T.ty.get el).bind fun _=>bQ (decide (0≤h) && decide (h≤p.2.2.2)) (iJ (.slice (some ⟨p.1,p.2.1,none⟩) h.toNat p.2.2.2) σ)
def slL (T:Tab) (t:TypeId) (p:Nat×Nat×Nat×Nat) (l:Int) (σ:Heap):Res :=
 (T.sl.get t).bind fun el=>(T.ty.get el).bind fun y=>bQ (decide (0≤l) && decide (l≤p.2.2.1) && Nat.ble p.2.2.1 p.2.2.2)
  (iJ (.slice (some ⟨p.1,p.2.1+l.toNat*y.1,none⟩) (p.2.2.1 - l.toNat) (p.2.2.2 - l.toNat)) σ)
def slG (T:Tab) (t:TypeId) (u:Value) (h m:Int) (σ:Heap):Res :=
 (T.sl.get t).bind fun el=>(T.ty.get el).bind fun _ =>
  match RJ u with
  |some p=>bQ (decide (h=(p.2.2+1:Nat)) && decide (m=(p.2.2+1:Nat))) (iJ (.slice (some ⟨p.1,0,some 0⟩) (p.2.2+1) (p.2.2+1)) σ)
  |none=>bQ (xE u && decide (h=0) && decide (m=0)) (iJ u σ)
def slLG (T:Tab) (t:TypeId) (p:Nat×Nat×Nat) (l:Int) (σ:Heap):Res :=
 (T.sl.get t).bind fun el=>(T.ty.get el).bind fun y=>bQ (decide (0≤l) && decide (l<(p.2.2+1:Nat)))
  (iJ (.slice (some ⟨p.1,l.toNat*y.1,none⟩) (p.2.2+1 - l.toNat) (p.2.2+1 - l.toNat)) σ)
def slA (T:Tab) (t:TypeId) (p:Nat×Nat) (h:Option Int) (σ:Heap):Res :=
 (T.ar.get t).bind fun a=>(T.ty.get a.2).bind fun _ =>
  match h with
  |none=>iJ (.slice (some ⟨p.1,p.2,none⟩) a.1 a.1) σ
  |some h=>bQ (decide (0≤h) && decide (h≤a.1)) (iJ (.slice (some ⟨p.1,p.2,none⟩) h.toNat a.1) σ)
def VF (T:Tab) (t:TypeId) (u:Value) (σ:Heap):Option Int→Option Int→Option Int→Res
 |none,some h,none=>match ru u with|some p=>slH T t p h σ|none=>(qG u).bind fun p=>slA T t p (some h) σ
 |some l,none,none=>match ru u with|some p=>slL T t p l σ|none=>(RJ u).bind fun p=>slLG T t p l σ
 |none,none,none=>(qG u).bind fun p=>slA T t p none σ
 |none,some h,some m=>slG T t u h m σ
 |_,_,_=>none
def app0 (el size m:Nat) (news:List Value) (σ:Heap):Res :=
 bQ (Nat.ble m 1000000) (iI news fun news=>iI (σ++[.dead]++[.gr news el]) fun σ'=>some (dW (σ.length+1) size m,σ',σ.length))
def afV (el size m i n:Nat) (news:List Value) (σ:Heap):aB→Res
 |.gr cs el'=>bQ (Nat.beq el' el && Nat.beq cs.length ((n+1)*size)) (iI (cs++news) fun cs'=>iI (σ.set i .dead++[.gr cs' el]) fun σ'=>some (dW σ.length size (n+1+m),σ',i))
 |_=>none
def appG (el size m:Nat) (news:List Value) (σ:Heap) (p:Nat×Nat×Nat):Res :=
 bQ (Nat.beq p.2.1 size && Nat.ble (p.2.2+1+m) 1000000) ((σ[p.1]?).bind (afV el size m p.1 p.2.2 news σ))
def afW (size m:Nat) (news:List Value) (σ:Heap) (p:Nat×Nat×Nat×Nat):Res :=
 bQ (Nat.ble (p.2.2.1+m) p.2.2.2) (Zg (.slice (some ⟨p.1,p.2.1,none⟩) (p.2.2.1+m) p.2.2.2) p.1 (Zj σ p.1 (p.2.1+p.2.2.1*size) news))
def RZ (size m:Nat) (u:Value) (news:List Value) (σ:Heap):Res:=(ru u).bind (afW size m news σ)
def isZS:Value→Bool
 |.slice none 0 1=>true
 |_=>false
def appE (el size m:Nat) (news:List Value) (σ:Heap):Res :=
 bQ (Nat.ble m 1000000) (iI news fun news=>iI (σ++[.gr news el]) fun σ'=>some (dW σ.length size m,σ',σ.length))
def appX (el size m i n:Nat) (news:List Value) (σ:Heap):Res :=
 bQ (Nat.ble (n+m) 1000000) ((aJ σ i 0 (n*size)).bind fun cs=>iI (cs++news) fun cs'=>iI (σ++[.gr cs' el]) fun σ'=>some (dW σ.length size (n+m),σ',σ.length))
def Si (el size m:Nat) (u:Value) (news:List Value) (σ:Heap):Res :=
 match RJ u with
 |some p=>bif Nat.beq p.2.1 0 then appX el size m p.1 (p.2.2+1) news σ else appG el size m news σ p
 |none=>bif xE u then app0 el size m news σ else bif isZS u then appE el size m news σ else RZ size m u news σ
def OZ (T:Tab) (t:TypeId) (u v:Value) (σ:Heap):Res :=
 (ru v).bind fun q=>(T.sl.get t).bind fun el=>(T.ty.get el).bind fun y =>
  bQ (Nat.beq y.2.2.1.cells.toList.length y.1 && Nat.blt 0 y.1 && Nat.ble y.2.2.2 1000000 && Nat.blt 0 q.2.2.1)
   ((aJ σ q.1 q.2.1 (q.2.2.1*y.1)).bind fun news=>bQ (news.all (·.oneCell')) (Si el y.1 q.2.2.1 u news σ))
def abk (T:Tab) (t:TypeId) (u v:Value) (σ:Heap):Res :=
 (ru u).bind fun p=>(ru v).bind fun q=>(T.sl.get t).bind fun el=>(T.ty.get el).bind fun y =>
  bQ (Nat.beq q.2.2.1 p.2.2.1 && Nat.blt 0 p.2.2.1)
   ((aJ σ q.1 q.2.1 (p.2.2.1*y.1)).bind fun news=>bQ (news.all (·.oneCell')) (Zg (.int .i64 (p.2.2.1:Nat)) p.1 (Zj σ p.1 p.2.1 news)))
def VG (T:Tab) (t:TypeId) (u:Value) (σ:Heap):Res :=
 (ru u).bind fun p=>(T.sl.get t).bind fun el=>(T.ty.get el).bind fun y =>
  bQ (plain y.2.2.1 && Nat.beq y.2.2.1.cells.toList.length y.1 && Nat.blt 0 p.2.2.1 && (iG (dR y.2.2.1) p.2.2.1).all (·.oneCell'))
   (Zg (.tuple #[]) p.1 (Zj σ p.1 p.2.1 (iG (dR y.2.2.1) p.2.2.1)))
def eqI (k:IntKind) (m:Int) (v:Value):Bool:=match asInt v with|some y=>decide (k=y.1) && decide (m=y.2)|none=>false
def eqB (b:Bool) (v:Value):Bool:=match asBool v with|some c=>b == c|none=>false
def eqP (p:Nat×Nat) (v:Value):Bool:=match qG v with|some q=>Nat.beq p.1 q.1 && Nat.beq p.2 q.2|none=>false
def eqS (p:Nat×Nat×Nat×Nat) (v:Value):Bool:=match ru v with|some q=>Nat.beq p.1 q.1 && Nat.beq p.2.1 q.2.1 && Nat.beq p.2.2.1 q.2.2.1 && Nat.beq p.2.2.2 q.2.2.2|none=>false
def aef:Value→Option (Nat×Nat×Nat×Nat×Nat)
 |.slice (some ⟨i,o,some s⟩) n c=>some (i,o,s,n,c)
 |_=>none
def eqG (p:Nat×Nat×Nat×Nat×Nat) (v:Value):Bool:=match aef v with|some q=>Nat.beq p.1 q.1 && Nat.beq p.2.1 q.2.1 && Nat.beq p.2.2.1 q.2.2.1 && Nat.beq p.2.2.2.1 q.2.2.2.1 && Nat.beq p.2.2.2.2 q.2.2.2.2|none=>false
def Fj:Value→Bool
 |.pointer none=>true
 |_=>false
def eqV2 (u v:Value):Bool:=match aef u with|some p=>eqG p v|none=>xE u && xE v || Fj u && Fj v
def eqV1 (u v:Value):Bool:=match ru u with|some p=>eqS p v|none=>match qG u with|some p=>eqP p v|none=>eqV2 u v
def eqV (u v:Value):Bool:=match asInt u with|some x=>eqI x.1 x.2 v|none=>match asBool u with|some b=>eqB b v|none=>eqV1 u v
def Ag:List Value→List Value→Bool
 |[],l=>l.isEmpty
 |u::us,l=>match l with|[]=>false|v::vs=>eqV u v && Ag us vs
def sW:aB→Option (List Value)
 |.rw cs=>some cs
 |_=>none
def wV:aB→Option (List Value)
 |.ro cs=>some cs
 |_=>none
def Bj:aB→Option (List Value×Nat)
 |.gr cs t=>some (cs,t)
 |_=>none
def Fp:aB→Bool
 |.dead=>true
 |_=>false
def eqO2 (a b:aB):Bool :=
 match Bj a with
 |some x=>(match Bj b with|some y=>Nat.beq x.2 y.2 && Ag x.1 y.1|none=>false)
 |none=>Fp a && Fp b
def eqO (a b:aB):Bool :=
 match sW a with
 |some x=>(match sW b with|some y=>Ag x y|none=>false)
 |none=>match wV a with
  |some x=>(match wV b with|some y=>Ag x y|none=>false)
  |none=>eqO2 a b
def eqH:Heap→Heap→Bool
 |[],_=>true
 |a::as,l=>match l with|[]=>false|b::bs=>eqO a b && eqH as bs
def Sj (lo:Nat) (σ σ':Heap):Bool:=eqH (σ.drop lo) (σ'.drop lo)
def fixR (σ:Heap) (r:Value×Heap×Nat):Res:=bif Nat.ble σ.length r.2.2 then some r else bif Sj r.2.2 σ r.2.1 then some (r.1,r.2.1,σ.length) else some r
abbrev jk:=FuncId→List Value→Heap→Res
def abl (T:Tab) (call:jk) (u:Value) (vs:List Value) (σ:Heap):Res :=
 (Vw u).bind fun f=>bQ (T.fn.get f.1).isSome ((call f.1 (f.2.1++vs++f.2.2) σ).bind (fixR σ))
def un (e:PT) (x:Operand) (f:Value→Res):Res:=(evO e x).bind f
def bi (e:PT) (x y:Operand) (f:Value→Value→Res):Res:=(evO e x).bind fun u=>(evO e y).bind fun v=>f u v
def opt (e:PT):Option Operand→Option (Option Int)
 |none=>some none
 |some x=>((evO e x).bind asInt).bind fun v=>some (some v.2)
abbrev jW:=Tab→jk→PT→Heap→Res
def Ah:jW:=fun _ _ _ _=>none
def abm (x:Operand):jW:=fun _ _ e σ=>un e x (iJ · σ)
def agZ (t:TypeId) (x:Operand):jW:=fun T _ e σ=>un e x (RS T t · σ)
def aeg (t:TypeId) (x y:Operand):jW:=fun T _ e σ=>bi e x y (VA T t · · σ)
def stBin (op:BinOp) (t:TypeId) (x y:Operand):jW:=fun T _ e σ=>bi e x y (rBin T op t · · σ)
def stFA (s:TypeId) (x:Operand) (f:Nat):jW:=fun T _ e σ=>un e x (rFA T s f · σ)
def ag0 (t:TypeId) (x y:Operand):jW:=fun T _ e σ=>bi e x y (abe T t · · σ)
def aeh (s:TypeId) (x:Operand) (f:Nat):jW:=fun T _ e σ=>un e x (VB T s f · σ)
def stIdx (t:TypeId) (x y:Operand):jW:=fun T _ e σ=>bi e x y (rIdx T t · · σ)
def VH (c a b:Operand):jW:=fun _ _ e σ=>((evO e c).bind asBool).bind (abg (evO e a) (evO e b) σ)
def stUn:UnOp→Operand→jW
 |.not=>fun x _ _ e σ=>un e x (rNot · σ)
 |.neg=>fun x _ _ e σ=>un e x (rNeg · σ)
 |_=>fun _=>Ah
def Zk (x:Operand) (i:Nat):jW:=fun _ _ e σ=>un e x (RY · i σ)
def stNil (x:Operand):jW:=fun _ _ e σ=>un e x (rNil · σ)
def stBox (x:Operand):jW:=fun _ _ e σ=>un e x (rBox σ)
def XK (t:TypeId):jW:=fun T _ _ σ=>abj T t σ
def ag1 (s d:TypeId) (x:Operand):jW:=fun T _ e σ=>un e x (abh T s d · σ)
def afX:Fn→Array Operand→Array Operand→jW
 |.func f=>fun l1 l2 _ _ e σ=>(evL e l1.toList).bind fun v1=>(evL e l2.toList).bind fun v2=>iJ (.func (.func f) ⟨v1⟩ ⟨v2⟩) σ
 |_=>fun _ _=>Ah
def XL (t:TypeId) (ps:Array (Nat×Operand)):jW:=fun T _ e σ=>(evP e ps.toList).bind fun vs=>VD T t vs σ
def JE (t n:Nat) (ps:Array (Nat×Operand)):jW:=fun T _ e σ=>(evP e ps.toList).bind fun vs=>OY T t n vs σ
def O1 (T:Tab) (t:TypeId) (len:Nat) (vs:List (Nat×Value)) (σ:Heap):Res :=
 (T.sl.get t).bind fun el=>(T.ty.get el).bind fun y =>
  bQ (plain y.2.2.1 && Nat.beq y.2.2.1.cells.toList.length y.1 && Nat.blt 0 (len*y.1) && Nat.ble (len*y.1) 16777216)
   ((rJ (fun i=>some (i*y.1,y.1)) (iG (dR y.2.2.1) len) vs).bind fun cs=>newR (.slice (some ⟨σ.length,0,some 0⟩) len len) σ cs)
def Sm (t n:Nat) (ps:Array (Nat×Operand)):jW:=fun T _ e σ=>(evP e ps.toList).bind fun vs=>O1 T t n vs σ
def aei (t:TypeId) (x y:Operand):jW:=fun T _ e σ=>bi e x y (VE T t · · σ)
def aej (t:TypeId) (x:Operand) (a b c:Option Operand):jW:=fun T _ e σ =>
 un e x fun u=>(opt e a).bind fun a=>(opt e b).bind fun b=>(opt e c).bind fun c=>VF T t u σ a b c
def abn (t:TypeId) (b:Bool) (x y:Operand):jW:=fun T _ e σ=>bi e x y (OW T t b · · σ)
def XM (t:TypeId) (x y z:Operand):jW:=fun T _ e σ=>bi e x y fun u k=>un e z fun v=>Vx T t u k v σ
def aek (n:Option Operand):jW:=fun _ _ _ σ=>bQ n.isNone (Vy σ)
def ael (f:Tab→TypeId→Value→Heap→Res):List Operand→List TypeId→jW
 |[x]=>fun ts T _ e σ=>ts.head?.bind fun t=>bQ ts.tail.isEmpty (un e x (f T t · σ))
 |_=>fun _=>Ah
def abo (f:Tab→TypeId→TypeId→Value→Value→Heap→Res):List Operand→List TypeId→jW
 |[x,y]=>fun ts T _ e σ=>ts.head?.bind fun t=>ts.tail.head?.bind fun t'=>bQ ts.tail.tail.isEmpty (bi e x y (f T t t' · · σ))
 |_=>fun _=>Ah
def aem (f:Int→Int→Int):List Operand→List TypeId→jW
 |[x,y]=>fun _ _ _ e σ=>bi e x y (rMM f · · σ)
 |_=>fun _=>Ah
def Nu:Builtin→List Operand→List TypeId→jW
 |.len=>ael rLen
 |.clear=>ael VG
 |.max=>aem max
 |.min=>aem min
 |.append=>abo fun T t t' u v σ=>bQ (Nat.beq t t') (OZ T t u v σ)
 |.copy=>abo fun T t _ u v σ=>abk T t u v σ
 |.delete=>abo fun T t _ u v σ=>OX T t u v σ
 |_=>fun _ _=>Ah
def XO (x:Operand) (args:List Operand):jW:=fun T call e σ=>un e x fun u=>(evL e args).bind fun vs=>abl T call u vs σ
def D6:Callee→List Operand→List TypeId→jW
 |.value x=>fun args _=>XO x args
 |.builtin b=>Nu b
 |_=>fun _ _=>Ah
def abp (c:Call):jW:=D6 c.callee c.args.toList c.argTypes.toList
def VI:Op→jW
 |.move x=>abm x
 |.assign x=>abm x
 |.load t x=>agZ t x
 |.store t x y=>aeg t x y
 |.binOp op t x y _=>stBin op t x y
 |.fieldAddr s x f=>stFA s x f
 |.indexAddr t x y=>ag0 t x y
 |.field s x f=>aeh s x f
 |.index t x y=>stIdx t x y
 |.pick c a b=>VH c a b
 |.unOp o _ x=>stUn o x
 |.extract x i=>Zk x i
 |.nilCheck x=>stNil x
 |.box _ x=>stBox x
 |.alloc t=>XK t
 |.convert s d x=>ag1 s d x
 |.makeFunc f l1 l2=>afX f l1 l2
 |.build t ps=>XL t ps
 |.buildSlice t n ps=>JE t n ps
 |.makeSlice t x y=>aei t x y
 |.slice t x a b c=>aej t x a b c
 |.lookup t x y b=>abn t b x y
 |.mapUpdate t x y z=>XM t x y z
 |.insert t x y z=>XM t x y z
 |.makeMap _ n=>aek n
 |.call c=>abp c
 |_=>Ah
def isGl (T:Tab) (N:Nat) (d:Option Nat):Bool :=
 match d with
 |some d=>(match T.gl.get N with|some l=>l.any (Nat.beq d)|none=>false)
 |none=>false
def Sr (T:Tab) (N:Nat) (d:Option Nat):Op→jW
 |.buildSlice t n ps=>bif isGl T N d then Sm t n ps else JE t n ps
 |op=>VI op
abbrev Sv:=Option (Exit×PT×List Nat×Heap×Nat)
abbrev qH:=Code→(N:Nat)→(rd:Option Nat)→PT→List Nat→Heap→Sv
abbrev Hr:=Option (PT×Heap×Nat)
def minN (a b:Nat):Nat:=bif Nat.ble a b then a else b
def XP:Value→Option (Option Bool)
 |.bool b=>some (some b)
 |.tuple ⟨[]⟩=>some none
 |_=>none
def isB (w:Bool):Option Bool→Bool
 |some b=>b == w
 |none=>false
def abq (all:List Oper) (e:PT) (j:Nat):Option (Option Bool):=(all[j]?).bind fun o=>o.dst.bind fun t=>(e.get t).bind XP
def Sz (all:List Oper) (e:PT):Option (Nat×Bool)→Option Bool
 |none=>some true
 |some g=>(abq all e g.1).bind fun b=>some (isB g.2 b)
def Zl (N:Nat) (v:Value) (e:PT):Option Nat→Option PT
 |some d=>bQ (Nat.blt d N) (some (e.put d v))
 |none=>some e
def D7:List Nat→List Value→PT→PT
 |p::ps,v::vs,e=>D7 ps vs (e.put p v)
 |_,_,e=>e
def abr:Env→PT
 |[]=>Trie.full 9
 |p::e=>(abr e).put p.1 p.2
def Trie.ents {α:Type}:Trie α→Nat→Nat→List (Nat×α)
 |.z,_,_=>[]
 |.nd v l r,a,b=>(match v with|some x=>[(b,x)]|none=>[])++(l.ents (2*a) (a+b)++r.ents (2*a) (2*a+b))
def D8 (e:PT):Env:=e.ents 1 0
def abt (e:PT) (args:List Operand):Callee→Option (Nat×List Value)
 |.value x=>((evO e x).bind XE).bind fun l=>(evL e args).bind fun vs=>some (l,vs)
 |_=>none
def XQ (e:PT):Op→Option (Nat×List Value)
 |.call c=>abt e c.args.toList c.callee
 |_=>none
def yieldOf (e:PT) (o:Oper):Option Nat→Option (Nat×List Value)
 |none=>bQ o.dst.isSome (XQ e o.op)
 |_=>none
def endY (N d l:Nat) (e:PT) (σ2:Heap) (lo:Nat) (o:aB):Exit→Hr
 |.normal=>bQ (uj o && Nat.blt d N) (some (e.put d (.bool true),σ2.set l (l9 .ready none o),lo))
 |.ret=>bQ (uj o && Nat.blt d N) (some (e.put d (.bool false),σ2.set l (l9 .done (some .ret) o),lo))
 |.exit id=>bQ (uj o && Nat.blt d N) (some (e.put d (.bool false),σ2.set l (l9 .done (some (.exit id)) o),lo))
 |_=>none
def afY (code:qH) (N d l:Nat) (e:PT) (N':Nat) (body:Code) (e1:PT) (mk1:List Nat) (σ1:Heap) (lo1:Nat):aB→Hr
 |.loop .ready pend N2 e2 ps2 as2 bd2=>(code body N' (some l) e1 mk1 (σ1.set l (.loop .busy pend N2 e2 ps2 as2 bd2))).bind fun r=>(r.2.2.2.1[l]?).bind fun o=>endY N d l e r.2.2.2.1 (minN l (minN lo1 r.2.2.2.2)) o r.1
 |_=>none
def JF:Exit→Bool
 |.normal=>true
 |_=>false
def abu (code:qH) (N d l:Nat) (vs:List Value) (e:PT) (σ:Heap):aB→Hr
 |.loop .ready _ N' e' ps assign body=>bQ (Nat.beq vs.length ps.toList.length && ps.toList.all (Nat.blt · N'))
   ((code assign N' (some l) (D7 ps.toList vs (abr e')) [] σ).bind fun r=>bQ (JF r.1) ((r.2.2.2.1[l]?).bind (afY code N d l e N' body r.2.1 r.2.2.1 r.2.2.2.1 r.2.2.2.2)))
 |_=>none
def JG (code:qH) (N:Nat) (dst:Option Nat) (e:PT) (σ:Heap) (y:Nat×List Value):Hr :=
 dst.bind fun d=>(σ[y.1]?).bind (abu code N d y.1 y.2 e σ)
def afZ (r:Hr) (k:PT→Heap→Hr):Hr:=r.bind fun a=>(k a.1 a.2.1).bind fun b=>some (b.1,b.2.1,minN a.2.2 b.2.2)
def O4 (T:Tab) (call:jk) (N:Nat) (o:Oper) (e:PT) (σ:Heap):Hr :=
 (Sr T N o.dst o.op T call e σ).bind fun r=>(Zl N r.1 e o.dst).bind fun e1=>some (e1,r.2.1,r.2.2)
def JH (T:Tab) (call:jk) (code:qH) (N:Nat) (rd:Option Nat) (o:Oper) (e:PT) (σ:Heap):Bool→Hr
 |true=>match yieldOf e o rd with
  |some y=>JG code N o.dst e σ y
  |none=>O4 T call N o e σ
 |false=>(Zl N undef e o.dst).bind fun e1=>some (e1,σ,σ.length)
def CU (T:Tab) (call:jk) (code:qH) (N:Nat) (rd:Option Nat) (all:List Oper):List Oper→PT→Heap→Hr
 |[],e,σ=>some (e,σ,σ.length)
 |o::rest,e,σ=>(Sz all e o.guard).bind fun b=>afZ (JH T call code N rd o e σ b) (CU T call code N rd all rest)
def O5 (n:Nat):Heap→Bool
 |[]=>true
 |.rw cs::r=>dP n cs && okL cs && O5 n r
 |_::_=>false
def nH:List Oper→List Nat→List Nat
 |[],acc=>acc
 |o::r,acc=>EU (ql acc o.after.toList) fun m=>nH r (acc++[m])
mutual
def pv (p:Nat→Bool):Value→Bool
 |.pointer (some a)=>p a.block
 |.slice (some a) _ _=>p a.block
 |.map (some i)=>p i
 |.chan (some i)=>p i
 |.func (.yield l) a b=>p l && pvA p a && pvA p b
 |.func _ a b=>pvA p a && pvA p b
 |.iface _ v=>pv p v
 |.agg cs=>pvA p cs
 |.tuple cs=>pvA p cs
 |_=>true
def pvA (p:Nat→Bool):Array Value→Bool
 |⟨l⟩=>pvL p l
def pvL (p:Nat→Bool):List Value→Bool
 |[]=>true
 |v::l=>pv p v && pvL p l
end
def D9:List (Nat×Heap)→Nat→Option Nat
 |[],_=>none
 |p::r,b=>bif Nat.blt b p.2.length then some p.1 else D9 r (b - p.2.length)
def isBit (m:Nat):Option Nat→Bool
 |some j=>m.testBit j
 |none=>false
def abv (n len m:Nat) (news:List (Nat×Heap)) (b:Nat):Bool:=Nat.blt b n || Nat.ble len b || isBit m (D9 news (b - n))
abbrev FRes:=Option (PT×List (Nat×Heap)×List Oper)
def SA (T:Tab) (call:jk) (N:Nat) (o:Oper) (e:PT) (n0 m:Nat) (news:List (Nat×Heap)) (σ:Heap):Option (PT×Heap) :=
 (Sr T N o.dst o.op T call e σ).bind fun r=>bQ (Nat.ble σ.length r.2.2 && O5 n0 (r.2.1.drop σ.length) && pv (abv n0 σ.length m news) r.1) ((Zl N r.1 e o.dst).bind fun e1=>iI (r.2.1.drop σ.length) fun ns=>some (e1,ns))
def seen {β:Type} (L:Nat→Bool) (σ0:Heap) (k:Heap→β):List (Nat×Heap)→β
 |[]=>k σ0
 |p::news=>iI (σ0++gJ L (p::news)) k
def O6 (T:Tab) (call:jk) (N:Nat) (o:Oper) (e:PT) (σ0:Heap) (m:Nat) (news:List (Nat×Heap)):Bool→Option (PT×Heap)
 |true=>seen (bT o.after) σ0 (SA T call N o e σ0.length m news) news
 |false=>(Zl N undef e o.dst).bind fun e1=>some (e1,[])
def Ea (T:Tab) (call:jk) (N:Nat) (all:List Oper) (ms:List Nat) (σ0:Heap):Nat→List Oper→PT→List (Nat×Heap)→FRes
 |_,[],e,news=>some (e,news,[])
 |k,o::rest,e,news=>match (Sz all e o.guard).bind (O6 T call N o e σ0 (ms.getD k 0) news) with
  |some r=>Ea T call N all ms σ0 (k+1) rest r.1 (addN news k r.2)
  |none=>some (e,news,o::rest)
abbrev CT:=Tab→jk→qH→(N:Nat)→(rd:Option Nat)→PT→List Nat→Heap→Sv
def XR (ex:Exit):CT:=fun _ _ _ _ _ e mk σ=>some (ex,e,mk,σ,σ.length)
def failC:CT:=fun _ _ _ _ _ _ _ _=>none
def seqK (code:qH) (N:Nat) (rd:Option Nat) (b:Code) (e:PT) (mk:List Nat) (σ:Heap) (lo:Nat):Exit→Sv
 |.normal=>(code b N rd e mk σ).bind fun r=>some (r.1,r.2.1,r.2.2.1,r.2.2.2.1,minN lo r.2.2.2.2)
 |ex=>some (ex,e,mk,σ,lo)
def abw (a b:Code):CT:=fun _ _ code N rd e mk σ=>(code a N rd e mk σ).bind fun r=>seqK code N rd b r.2.1 r.2.2.1 r.2.2.2.1 r.2.2.2.2 r.1
def XT:Exit→Bool
 |.goto _=>false
 |_=>true
def abx (c:Code):CT:=fun _ _ code N rd e mk σ=>(code c N rd e mk σ).bind fun r=>bQ (XT r.1) (some r)
def aby (id:Nat):Exit→Exit
 |.exit id'=>bif Nat.beq id' id then .normal else .exit id'
 |ex=>ex
def abz (id:Nat) (c:Code):CT:=fun _ _ code N rd e mk σ=>(code c N rd e mk σ).bind fun r=>some (aby id r.1,r.2)
def condK (a b:Code):Bool→Code
 |true=>a
 |false=>b
def condC (c:Operand) (a b:Code):CT:=fun _ _ code N rd e mk σ=>((evO e c).bind asBool).bind fun t=>code (condK a b t) N rd e mk σ
def abA (b:Code):CT:=abw b (.loop b)
def abB (mk:List Nat) (r:Hr):Sv:=r.bind fun r=>some (.normal,r.1,mk,r.2.1,r.2.2)
def aen:Builtin→Bool
 |.append|.copy|.clear|.delete=>true
 |_=>false
def aeo:Callee→Bool
 |.builtin b=>aen b
 |_=>false
def VJ:Op→Bool
 |.store ..|.mapUpdate ..|.insert ..|.mapEntry ..|.entryStore ..=>true
 |.call c=>aeo c.callee
 |_=>false
def abC:List Oper→List Bool→List Bool
 |[],acc=>acc
 |o::r,acc=>abC r (acc++[VJ o.op || o.after.toList.any fun e=>acc.getD e.on false])
def pick (b:Bool):List Bool→Nat→List Nat
 |[],_=>[]
 |c::l,i=>bif c == b then i::pick b l (i+1) else pick b l (i+1)
def Bo (ops:List Oper):List Nat:=pick false (abC ops []) 0++pick true (abC ops []) 0
def regD (ops:List Oper) (T:Tab) (call:jk) (code:qH) (N:Nat) (rd:Option Nat) (e:PT) (mk:List Nat) (σ:Heap) (r:PT×List (Nat×Heap)×List Oper):Sv :=
 seen (fun _=>true) σ (fun σ1=>abB mk ((CU T call code N rd ops r.2.2 r.1 σ1).bind fun q=>some (q.1,q.2.1,minN σ.length q.2.2))) r.2.1
def Zm (ops:List Oper):CT:=fun T call code N rd e mk σ =>
 (Ea T call N ops (nH ops []) σ 0 ops e []).bind fun r=>bQ (EU (ops.length - r.2.2.length) (drawOk ops)) (regD ops T call code N rd e mk σ r)
def regP (π:List Nat) (ops:List Oper):CT:=fun T call code N rd e mk σ=>bQ (wo π ops) (Zm (kD π ops) T call code N rd e mk σ)
def XU (o:Oper):Bool :=
 o.guard.isNone && o.dst.isSome && o.after.toList.all (fun e=>!Region.binds .any e) && match o.op with
  |.move _=>true
  |.assign _=>true
  |_=>false
def XV (p:Oper→Bool):List Oper→Nat→List Nat
 |[],_=>[]
 |o::l,i=>bif p o then i::XV p l (i+1) else XV p l (i+1)
def O7 (ops:List Oper):List Nat:=bif Iy (XV XU ops 0) ops then XV XU ops 0 else []
def Eb (N:Nat):List Oper→List Nat→Nat→Bool
 |[],_,_=>true
 |o::r,ds,j=>o.guard.isNone && o.after.toList.all (fun e=>!Region.binds .any e || Nat.blt e.on j) && (match o.dst with|some d=>Nat.blt d N && !(ds.any (Nat.beq d))|none=>true) && Eb N r (match o.dst with|some d=>d::ds|none=>ds) (j+1)
def Fq:List Oper→PT→PT
 |[],e=>e
 |o::r,e=>match o.dst with|some d=>(Fq r e).del d|none=>Fq r e
def vN (vs:List Value) (j:Nat):Value:=vs.getD j undef
def Zn (all:List Oper) (vs:List Value):List Edge→PT→PT
 |[],e=>e
 |a::r,e=>bif Region.binds .any a then (match (all[a.on]?).bind (·.dst) with|some d=>(Zn all vs r e).put d (vN vs a.on)|none=>Zn all vs r e) else Zn all vs r e
def SB (vs:List Value):List Oper→Nat→PT→PT
 |[],_,e=>e
 |o::r,j,e=>match o.dst with|some d=>(SB vs r (j+1) e).put d (vN vs j)|none=>SB vs r (j+1) e
def Ht (i:Nat) (l:List Nat):Bool:=l.any (Nat.beq i)
section
variable (T:Tab) (call:jk) (N:Nat) (all:List Oper) (vs:List Value) (e0:PT)
def stepS (o:Oper) (σ:Heap):Res:=Sr T N o.dst o.op T call (Zn all vs o.after.toList e0) σ
def hOf (sel:Nat→Bool):List Nat→Heap→Nat→Option (Heap×Nat)
 |[],σ,lo=>some (σ,lo)
 |i::r,σ,lo=>bif sel i then (all[i]?).bind fun o=>(stepS T call N all vs e0 o σ).bind fun q=>hOf sel r q.2.1 (minN lo q.2.2) else hOf sel r σ lo
def aep (u v:Value):Bool:=match asAgg u with|some l=>(match asAgg v with|some l'=>Ag l l'|none=>false)|none=>eqV u v
def eqHp (a b:Heap):Bool:=Nat.beq a.length b.length && eqH a b
def chkV (o:Oper) (v:Value) (j:Nat):Bool:=match o.dst with|some _=>aep v (vN vs j)|none=>true
def chkO (ws:List Nat) (σ:Heap) (Tl:List Nat) (h:Heap) (o:Oper) (j:Nat):Bool :=
 match stepS T call N all vs e0 o h with
 |some q=>chkV vs o q.1 j && (bif Ht j ws then (match hOf T call N all vs e0 (fun i=>Nat.beq j i || Ht i Tl) ws σ σ.length with|some h2=>eqHp q.2.1 h2.1|none=>false) else Nat.ble h.length q.2.2 && Nat.beq q.2.1.length h.length)
 |none=>false
def Zo (ws ms:List Nat) (σ:Heap) (Tl:List Nat) (h:Heap):List Oper→Nat→Bool
 |[],_=>true
 |o::r,j=>(Ht j Tl || Tl.any (fun i=>(ms.getD i 0).testBit j) || chkO T call N all vs e0 ws σ Tl h o j) && Zo ws ms σ Tl h r (j+1)
def aer (ws ms:List Nat) (σ:Heap):List (List Nat)→Bool
 |[]=>true
 |Tl::r=>(match hOf T call N all vs e0 (fun i=>Ht i Tl) ws σ σ.length with|some h=>Nat.beq h.1.length σ.length && iI h.1 (fun h'=>Zo T call N all vs e0 ws ms σ Tl h' all 0)|none=>false) && aer ws ms σ r
end
def Nv:List Nat→List (List Nat)
 |[]=>[[]]
 |i::r=>Nv r++(Nv r).map (i::·)
def tN:List Oper→Nat→List Nat
 |[],_=>[]
 |o::r,j=>bif VJ o.op then j::tN r (j+1) else tN r (j+1)
def valsN (eF:PT) (l:List Oper):List Value:=l.map fun o=>match o.dst with|some d=>(match eF.get d with|some v=>v|none=>undef)|none=>undef
def af0 (all:List Oper) (T:Tab) (call:jk) (N:Nat) (mk:List Nat) (σ:Heap) (e0:PT) (ws:List Nat) (vs:List Value):Sv :=
 bQ (Nat.ble ws.length 4 && Eb N all [] 0 && aer T call N all vs e0 ws (nH all []) σ (Nv ws))
  ((hOf T call N all vs e0 (fun _=>true) ws σ σ.length).bind fun h=>some (.normal,SB vs all 0 e0,mk,h.1,h.2))
def aes (all:List Oper):CT:=fun T call code N rd e mk σ=>bQ (Eb N all [] 0) <|
 (CU T call code N rd all all (Fq all e) σ).bind fun r=>iI (valsN r.1 all) fun vs=>af0 all T call N mk σ (Fq all e) (tN all 0) vs
def aeu (n b:Nat):List Nat:=bif Nat.ble n b then [b] else []
def XW (n:Nat):Value→List Nat
 |.pointer (some a)=>aeu n a.block
 |.slice (some a) _ _=>aeu n a.block
 |.map (some i)=>aeu n i
 |.chan (some i)=>aeu n i
 |_=>[]
def af2 (n:Nat):Value→List Nat
 |.agg ⟨l⟩=>l.flatMap (XW n)
 |.tuple ⟨l⟩=>l.flatMap (XW n)
 |.func _ ⟨a⟩ ⟨b⟩=>(a++b).flatMap (XW n)
 |v=>XW n v
def ag7:aB→List Value
 |.ro cs|.rw cs|.gr cs _=>cs
 |_=>[]
def refsO (n:Nat):Option aB→List Nat
 |some o=>(ag7 o).flatMap (af2 n)
 |none=>[]
def reach (n:Nat) (σ:Heap):Nat→List Nat→List Nat→List Nat
 |0,_,acc=>acc
 |_+1,[],acc=>acc
 |k+1,b::todo,acc=>bif acc.contains b then reach n σ k todo acc else reach n σ k (refsO n σ[b]?++todo) (acc++[b])
def num (n:Nat) (l:List Nat) (b:Nat):Nat:=bif Nat.blt b n then b else n+l.idxOf b
def cv1 (n:Nat) (l:List Nat) (v:Value):Value :=
 match v with
 |.pointer (some ⟨i,o,s⟩)=>.pointer (some ⟨num n l i,o,s⟩)
 |.slice (some ⟨i,o,_⟩) k c=>.slice (some ⟨num n l i,o,none⟩) k c
 |v=>v
def cvV (n:Nat) (l:List Nat) (v:Value):Value :=
 match v with
 |.agg ⟨x⟩=>.agg ⟨x.map (cv1 n l)⟩
 |.tuple ⟨x⟩=>.tuple ⟨x.map (cv1 n l)⟩
 |.func f ⟨x⟩ ⟨y⟩=>.func f ⟨x.map (cv1 n l)⟩ ⟨y.map (cv1 n l)⟩
 |v=>cv1 n l v
def cvO (n:Nat) (l:List Nat):Option aB→aB
 |some (.rw cs)=>.rw (cs.map (cvV n l))
 |some (.gr cs _)=>.rw (cs.map (cvV n l))
 |some (.ro cs)=>.ro (cs.map (cvV n l))
 |_=>.dead
def abD:Value→Option (Nat×Nat×Nat×Nat)
 |.slice (some ⟨i,o,some _⟩) n c=>some (i,o,n,c)
 |_=>none
def O8:Value→Bool
 |.nilFunc=>true
 |_=>false
def aev (n':Nat) (π:Rho) (p q:Nat×Nat×Nat×Nat):Bool:=Nat.blt p.1 n' && Nat.beq (π p.1).b q.1 && Nat.beq ((π p.1).o+p.2.1) q.2.1 && Nat.beq p.2.2.1 q.2.2.1 && Nat.ble p.2.2.2 q.2.2.2
def subP (n':Nat) (π:Rho) (p q:Nat×Nat):Bool:=Nat.blt p.1 n' && Nat.beq (π p.1).b q.1 && Nat.beq ((π p.1).o+p.2) q.2
def abE (u v:Value):Bool :=
 match asInt u with
 |some x=>eqI x.1 x.2 v
 |none=>match asBool u with
  |some b=>eqB b v
  |none=>xE u && xE v || Fj u && Fj v || O8 u && O8 v
def aew (n':Nat) (π:Rho) (u v:Value):Bool :=
 match qG u with
 |some p=>(match qG v with|some q=>subP n' π p q|none=>false)
 |none=>match ru u with
  |some p=>(match ru v with|some q=>aev n' π p q|none=>(match abD v with|some q=>aev n' π p q|none=>false))
  |none=>abE u v
def O9 (n':Nat) (π:Rho):List Value→List Value→Bool
 |[],l=>l.isEmpty
 |u::us,l=>match l with|[]=>false|v::vs=>aew n' π u v && O9 n' π us vs
def af4 (n':Nat) (π:Rho) (u v:Value):Bool :=
 match Vw u with
 |some f=>(match Vw v with|some g=>Nat.beq f.1 g.1 && O9 n' π f.2.1 g.2.1 && O9 n' π f.2.2 g.2.2|none=>false)
 |none=>aew n' π u v
def abG (n':Nat) (π:Rho) (u v:Value):Bool :=
 match JC u with
 |some l=>(match JC v with|some l'=>O9 n' π l l'|none=>false)
 |none=>match asAgg u with
  |some l=>(match asAgg v with|some l'=>O9 n' π l l'|none=>false)
  |none=>af4 n' π u v
def GK (n':Nat) (π:Rho):List Value→List Value→Bool
 |[],_=>true
 |u::us,l=>match l with|[]=>false|v::vs=>abG n' π u v && GK n' π us vs
def XY:aB→Option (List Value)
 |.rw cs=>some cs
 |.gr cs _=>some cs
 |_=>none
def subO (n':Nat) (π:Rho) (o:aB) (x:Option aB):Bool :=
 match sW o with
 |some cs2=>(match x.bind XY with|some cs=>GK n' π cs2 cs|none=>false)
 |none=>(match wV o with|some cs2=>(match x.bind wV with|some cs=>GK n' π cs2 cs|none=>false)|none=>false)
def SC (n':Nat) (π:Rho) (σ:Heap):List Nat→Heap→Bool
 |[],l=>l.isEmpty
 |b::bs,l=>match l with|[]=>false|o::os=>subO n' π o σ[b]? && SC n' π σ bs os
def Ec:List Oper→Nat→Bool
 |[],_=>true
 |o::r,j=>o.after.toList.all (fun e=>!Region.binds .any e || Nat.blt e.on j) && Ec r (j+1)
abbrev CSt:=List Bool×(PT×Heap×Nat)×List (Nat×Nat)
def CV (m:List Bool) (j:Nat) (o:Oper):Bool:=!m.getD j true && o.after.toList.all (fun e=>!Region.binds .any e || m.getD e.on false)
def SE (T:Tab) (call:jk) (code:qH) (N:Nat) (rd:Option Nat) (all:List Oper) (s:CSt) (j:Nat) (o:Oper):Option CSt :=
 (Sz all s.2.1.1 o.guard).bind fun b=>(JH T call code N rd o s.2.1.1 s.2.1.2.1 b).bind fun r =>
  iI r.2.1 fun σ'=>iI (s.1.set j true) fun m=>some (m,(r.1,σ',minN s.2.1.2.2 r.2.2),s.2.2++[(j,σ'.length - s.2.1.2.1.length)])
def abH (n:Nat):List (Nat×Nat)→Nat→Nat
 |[],_=>n
 |p::r,j=>bif Nat.beq p.1 j then n else abH (n+p.2) r j
def abI (n1:Nat) (r t:List (Nat×Nat)):List Nat:=t.flatMap fun p=>(List.range p.2).map (abH n1 r p.1+·)
def aex (n':Nat) (π:Rho) (u v:Value):Bool :=
 match RJ u with
 |some p=>(match RJ v with|some q=>Nat.blt p.1 n' && Nat.beq (π p.1).b q.1 && Nat.beq (π p.1).o 0 && Nat.beq p.2.1 q.2.1 && Nat.beq p.2.2 q.2.2|none=>false)
 |none=>match JC u with
  |some l=>(match JC v with|some l'=>Nat.beq l.length l'.length && GK n' π l l'|none=>false)
  |none=>abG n' π u v
def GL (n':Nat) (π:Rho):List Value→List Value→Bool
 |[],l=>l.isEmpty
 |u::us,l=>match l with|[]=>false|v::vs=>aex n' π u v && GL n' π us vs
def Pg:aB→Bool
 |.dfr=>true
 |_=>false
def subX (n':Nat) (π:Rho) (o:aB) (x:Option aB):Bool :=
 bif Fp o then true else
 match sW o with
 |some cs2=>(match x.bind sW with|some cs=>GL n' π cs2 cs|none=>false)
 |none=>match wV o with
  |some cs2=>(match x.bind wV with|some cs=>GL n' π cs2 cs|none=>false)
  |none=>match Bj o with
   |some cs2=>(match x.bind Bj with|some cs=>Nat.beq cs2.2 cs.2 && GL n' π cs2.1 cs.1|none=>false)
   |none=>Pg o && (match x with|some y=>Pg y|none=>false)
def XZ (n':Nat) (π:Rho) (σ:Heap):Nat→Heap→Bool
 |_,[]=>true
 |i,o::r=>subX n' π o σ[(π i).b]? && Nat.beq (π i).o 0 && XZ n' π σ (i+1) r
def af5 (n1:Nat) (r t:CSt) (lo n2:Nat) (pl:List Nat):Bool :=
 dF n1 pl && Nat.ble n1 n2 && Nat.beq pl.length (n2 - n1) && XZ n2 (fK n1 pl) r.2.1.2.1 lo (t.2.1.2.1.drop lo) &&
  (t.2.1.1.ents 1 0).all fun p=>match r.2.1.1.get p.1 with|some u=>aex n2 (fK n1 pl) p.2 u|none=>false
def aey (n1:Nat) (r t:CSt):Bool:=iI (abI n1 r.2.2 t.2.2) fun pl=>af5 n1 r t (minN n1 (minN r.2.1.2.2 t.2.1.2.2)) t.2.1.2.1.length pl
def VK:List Bool→List Bool→Bool
 |[],l=>l.isEmpty
 |b::bs,l=>match l with|[]=>false|c::cs=>(b == c) && VK bs cs
def SG (m:List Bool):List CSt→Option CSt
 |[]=>none
 |t::l=>bif VK t.1 m then some t else SG m l
section
variable (T:Tab) (call:jk) (code:qH) (N:Nat) (rd:Option Nat) (all:List Oper) (n1:Nat)
def addX (s:CSt) (acc:List CSt) (j:Nat) (o:Oper):Option (List CSt) :=
 bif CV s.1 j o then bQ (Nat.ble acc.length 300) ((SE T call code N rd all s j o).bind fun r=>match SG r.1 acc with|some t=>bQ (aey n1 r t) (some acc)|none=>some (acc++[r])) else some acc
def aez (s:CSt):List Oper→Nat→List CSt→Option (List CSt)
 |[],_,acc=>some acc
 |o::r,j,acc=>(addX T call code N rd all n1 s acc j o).bind fun acc'=>aez s r (j+1) acc'
def X0:List CSt→List CSt→Option (List CSt)
 |[],acc=>some acc
 |s::r,acc=>(aez T call code N rd all n1 s all 0 acc).bind fun acc'=>X0 r acc'
def oJ:Nat→List CSt→Option CSt
 |0,Ls=>match Ls with|[s]=>bQ (s.1.all id) (some s)|_=>none
 |k+1,Ls=>bQ (Ls.all fun s=>!s.1.all id) ((X0 T call code N rd all n1 Ls []).bind (oJ k))
end
def aeA (all:List Oper):CT:=fun T call code N rd e mk σ=>bQ (Ec all 0)
 ((oJ T call code N rd all σ.length all.length [(List.replicate all.length false,(e,σ,σ.length),[])]).bind fun s=>some (.normal,s.2.1.1,mk,s.2.1.2.1,s.2.1.2.2))
def regG (F0 π:List Nat) (ops:List Oper):CT:=fun T call code N rd e mk σ=>bQ (Iy F0 ops && wo π (kF F0 ops)) (Zm (kD π (kF F0 ops)) T call code N rd e mk σ)
def af6 (ops:List Oper) (rd:Option Nat):CT:=match rd with
 |none=>regG (O7 ops) (Bo (kF (O7 ops) ops)) ops
 |some _=>regP (Bo ops) ops
def regC (ops:List Oper):Bool→CT
 |false=>fun T call code N rd e mk σ=>abB mk (CU T call code N rd ops ops e σ)
 |true=>fun T call code N rd e mk σ=>match Zm ops T call code N rd e mk σ with
  |some r=>some r
  |none=>match af6 ops rd T call code N rd e mk σ with
   |some r=>some r
   |none=>match aes ops T call code N rd e mk σ with
    |some r=>some r
    |none=>aeA ops T call code N rd e mk σ
def aeB:LoopState→Bool
 |.busy=>false
 |_=>true
def abJ:Option Code→Option Exit
 |none=>some .normal
 |some .ret=>some .ret
 |some (.exit id)=>some (.exit id)
 |_=>none
def endR (n:Nat) (e:PT) (mk:List Nat) (σ2:Heap) (lo:Nat):aB→Sv
 |.loop st pend _ _ _ _ _=>bQ (aeB st) ((abJ pend).bind fun ex=>some (ex,e,n::mk,σ2.set (n+1) .dead,minN n lo))
 |_=>none
def abK (T:Tab) (call:jk) (N:Nat) (ps:Array Tmp) (assign body:Code) (e:PT) (mk:List Nat) (σ:Heap) (f:Nat×List Value×List Value):Sv :=
 bQ (T.fn.get f.1).isSome ((call f.1 (f.2.1++[.func (.yield (σ.length+1)) #[] #[]]++f.2.2) (σ++[.dfr,.loop .ready none N (D8 e) ps assign body])).bind fun r =>
  (r.2.1[σ.length+1]?).bind (endR σ.length e mk r.2.1 r.2.2))
def VL (g:Operand) (ps:Array Tmp) (assign body:Code):CT:=fun T call _ N rd e mk σ =>
 match rd with
 |none=>((evO e g).bind Vw).bind (abK T call N ps assign body e mk σ)
 |some _=>none
def Ph:Code→CT
 |.skip=>XR .normal
 |.label _=>XR .normal
 |.scope c=>abx c
 |.exit id=>XR (.exit id)
 |.ret=>XR .ret
 |.seq a b=>abw a b
 |.block id c=>abz id c
 |.cond c a b=>condC c a b
 |.loop b=>abA b
 |.region _ ops d=>regC ops.toList d
 |.rangeFunc g ps assign body=>VL g ps assign body
 |_=>failC
mutual
def top:Value→Nat
 |.pointer (some a)=>a.block+1
 |.slice (some a) _ _=>a.block+1
 |.map (some i)=>i+1
 |.chan (some i)=>i+1
 |.func (.yield l) _ _=>l+1
 |.func _ ⟨a⟩ ⟨b⟩=>Nat.max (VN a) (VN b)
 |.iface _ v=>top v
 |.agg ⟨cs⟩=>VN cs
 |.tuple ⟨cs⟩=>VN cs
 |_=>0
def VN:List Value→Nat
 |[]=>0
 |v::l=>Nat.max (top v) (VN l)
end
def resT (T:Tab) (e:PT) (σ:Heap):List ResultVar→Option (List Value)
 |[]=>some []
 |.tmp t::r=>(e.get t).bind fun v=>(resT T e σ r).bind fun vs=>some (v::vs)
 |.cell a ty::r=>((e.get a).bind fun p=>RS T ty p σ).bind fun v=>(resT T e σ r).bind fun vs=>some (v.1::vs)
def Ai (n:Nat):aB→Bool
 |.dead=>true
 |.ro cs|.rw cs|.gr cs _=>dP n cs && okL cs
 |.dfr=>true
 |.map es=>es.all fun p=>closed n p.2 && okV p.2
 |_=>false
def allB (p:aB→Bool):Heap→Bool
 |[]=>true
 |o::r=>p o && allB p r
def topO:aB→Nat
 |.ro cs|.rw cs|.gr cs _=>VN cs
 |.map es=>VN (es.map (·.2))
 |_=>0
def topH:Heap→Nat
 |[]=>0
 |o::r=>Nat.max (topO o) (topH r)
def abL:Nat→List Value→PT→PT
 |_,[],e=>e
 |k,v::l,e=>abL (k+1) l (e.put k v)
def af7 (lo m:Nat) (v:Value) (σ:Heap):Nat:=bif Nat.ble m σ.length && closed m v && okV v && allB (Ai m) ((σ.take m).drop lo) then m else σ.length
def X4 (n lo:Nat) (v:Value) (σ:Heap):Nat:=af7 (minN lo n) (Nat.max n (Nat.max (top v) (topH ((σ.take n).drop lo)))) v σ
def af8:Option aB→Bool
 |some .dfr=>true
 |_=>false
def mkOk (mk:List Nat) (σ:Heap):Bool:=decide mk.Nodup && mk.all fun i=>af8 σ[i]?
def minL (n:Nat):List Nat→Nat
 |[]=>n
 |i::l=>minN i (minL n l)
def af9:Exit→Bool
 |.normal|.ret=>true
 |_=>false
def aga (n lo:Nat) (v:Value) (σ:Heap) (l:List Nat) (v2:Value) (news:Heap):Res :=
 bQ (dF n l && Nat.beq l.length news.length && SC (n+news.length) (fK n l) σ l news && abG (n+news.length) (fK n l) v2 v) (iI (σ.take n++news) fun σ'=>some (v2,σ',lo))
def agb (n lo:Nat) (v:Value) (σ:Heap) (l:List Nat):Res:=iI (l.map fun b=>cvO n l σ[b]?) fun news=>aga n lo v σ l (cvV n l v) news
def VO (n lo:Nat) (v:Value) (σ:Heap):Res:=iI (reach n σ 1000 (af2 n v) []) (agb n lo v σ)
def Pj (n lo:Nat) (v:Value) (σ:Heap):Res:=iI (σ.take (X4 n lo v σ)) fun σ'=>some (v,σ',lo)
def retK (n lo:Nat) (v:Value) (σ:Heap):Res :=
 bif Nat.ble n lo then (match VO n lo v σ with|some r=>some r|none=>Pj n lo v σ) else Pj n lo v σ
def retC (T:Tab) (rv:List ResultVar) (n:Nat) (r:Exit×PT×List Nat×Heap×Nat):Res :=
 bQ (af9 r.1 && mkOk r.2.2.1 r.2.2.2.1) (iI (kE r.2.2.1 r.2.2.2.1) fun σ1=>(resT T r.2.1 σ1 rv).bind fun vs=>retK n (minN r.2.2.2.2 (minL r.2.2.2.2 r.2.2.1)) (jY vs) σ1)
def X5 (T:Tab) (code:qH) (args:List Value) (σ:Heap) (x:Nat×List ResultVar×Code):Res :=
 bQ (Nat.ble args.length x.1) ((code x.2.2 x.1 none (abL 0 args (Trie.full 9)) [] σ).bind (retC T x.2.1 σ.length))
def Pm (T:Tab) (orc:jk) (code:qH) (f:FuncId) (args:List Value) (σ:Heap):Res :=
 match orc f args σ with
 |some r=>some r
 |none=>(T.fn.get f).bind (X5 T code args σ)
def rn (T:Tab) (orc:jk):Nat→jk×qH :=
 Nat.rec (⟨fun _ _ _=>none,fun _ _ _ _ _ _=>none⟩) (fun _ r=>⟨Pm T orc r.2,fun c=>Ph c T r.1 r.2⟩)
def Trie.All {α:Type} (p:Nat→α→Prop):Trie α→Prop
 |.z=>True
 |.nd v l r=>(match v with|some x=>p 0 x|none=>True)∧Trie.All (fun t=>p (2*t+1)) l∧Trie.All (fun t=>p (2*t+2)) r
theorem Trie.all_get {α:Type} {tr:Trie α}:∀ {p:Nat→α→Prop},tr.All p→∀ t x,tr.get t=some x→p t x:=by
 induction tr with
 |z=>intro p _ t x h;cases h
 |nd v l r ihl ihr =>
  rintro p ⟨h1,h2,h3⟩ t x h
  simp only [Trie.get] at h
  by_cases h0:t=0
  ·subst h0
   have h':v=some x:=h
   subst h';exact h1
  ·have hb:Nat.beq t 0=false:=jl h0
   rw [hb] at h
   simp only [cond_false] at h
   by_cases hm:Nat.mod t 2=1
   ·rw [hm] at h
    have:=ihl h2 _ _ h
    have e:2*Nat.div t 2+1=t:=by have h1:=Nat.div_add_mod t 2;have h2:t % 2=1:=hm;have h3:Nat.div t 2=t / 2:=rfl;omega
    rwa [e] at this
   ·have a:Nat.beq (Nat.mod t 2) 1=false:=jl hm
    rw [a] at h
    simp only [cond_false] at h
    have:=ihr h3 _ _ h
    have e:2*Nat.pred (Nat.div t 2)+2=t:=by have h1:=Nat.div_add_mod t 2;have h2:t % 2 ≠ 1:=hm;have h3:Nat.div t 2=t / 2:=rfl;rw [Nat.pred_eq_sub_one,h3];omega
    rwa [e] at this
def MpOk (P:Program) (t:TypeId) (x:Nat×Nat×Nat):Prop:=mpOf P t=some (x.1,x.2.1)∧(x.2.2=0→OA P x.1=some .i64)∧(x.2.2 ≠ 0→tK P 5 x.1 x.2.2=true∧OT P x.1=true)
def FnOk (P:Program) (f:Nat) (x:Nat×List ResultVar×Code):Prop :=
 zO P f=true∧∃ fn,P.funcs[f]?=some fn∧fn.ntmps=x.1∧fn.results=x.2.1.toArray∧fn.body=some x.2.2
structure gZ (P:Program) (T:Tab):Prop where
 ty:∀ t x,T.ty.get t=some x→Q8 P t=some x
 fld:∀ t x,T.fld.get t=some x→x.zipIdx.map (fun p=>Dz P t p.2)=x.map some
 sl:∀ t x,T.sl.get t=some x→adZ P t=some x
 ar:∀ t x,T.ar.get t=some x→ad1 P t=some x
 ik:∀ t x,T.ik.get t=some x→OA P t=some x
 eq2:∀ t x,T.eq2.get t=some x→Rt P t=true
 pls:∀ t x,T.pls.get t=some x→Xz P t=some x
 fn:∀ t x,T.fn.get t=some x→FnOk P t x
 mp:∀ t x,T.mp.get t=some x→MpOk P t x
theorem gZ.field {P:Program} {T:Tab} (h:gZ P T) {s f:Nat} {y:Nat×Nat} (hy:T.Dz s f=some y):Dz P s f=some y:=by
 obtain ⟨l,hl,hy⟩:=Option.bind_eq_some_iff.1 hy
 have h1:=h.fld _ _ hl
 have h2:(l.zipIdx.map (fun p=>Dz P s p.2))[f]?=(l.map some)[f]?:=by rw [h1]
 simp only [cN,List.getElem?_zipIdx,hy] at h2
 simpa using h2
theorem aN {α:Type} {b:Bool} {x:Option α} {r:α}:bQ b x=some r↔b=true∧x=some r:=by cases b <;> simp [bQ]
theorem jC {v:Value} {x:IntKind×Int} (h:asInt v=some x):v=.int x.1 x.2:=by unfold asInt at h;split at h <;> cases h <;> rfl
theorem rU {v:Value} {b:Bool} (h:Go.AH.asBool v=some b):v=.bool b:=by unfold Go.AH.asBool at h;split at h <;> simp_all
theorem jD {v:Value} {p:Nat×Nat} (h:qG v=some p):v=.pointer (some ⟨p.1,p.2,none⟩):=by unfold qG at h;split at h <;> cases h <;> rfl
theorem kY {v:Value} {p:Nat×Nat×Nat×Nat} (h:ru v=some p):v=.slice (some ⟨p.1,p.2.1,none⟩) p.2.2.1 p.2.2.2:=by unfold ru at h;split at h <;> cases h <;> rfl
theorem yY {v:Value} {p:Nat×Nat×Nat} (h:RJ v=some p):v=dW p.1 p.2.1 (p.2.2+1):=by
 unfold RJ at h
 split at h
 ·obtain ⟨h1,h2⟩:=aN.1 h
  cases h2
  have:=aM h1
  subst this;rfl
 ·cases h
theorem rV {v:Value} (h:xE v=true):v=.slice none 0 0:=by unfold xE at h;split at h <;> simp_all
theorem Bq {v:Value} (h:Fj v=true):v=.pointer none:=by unfold Fj at h;split at h <;> simp_all
theorem aeC {v:Value} {n:Nat} (h:lenS v=some n):∃ a c,v=.slice a n c:=by unfold lenS at h;split at h <;> simp_all
theorem mD {v:Value} {l:List Value} (h:asAgg v=some l):v=.agg l.toArray:=by unfold asAgg at h;split at h <;> simp_all
theorem Aj {v:Value} {l:List Value} (h:JC v=some l):v=.tuple l.toArray:=by unfold JC at h;split at h <;> simp_all
theorem Ed {v:Value} {x:Nat×List Value×List Value} (h:Vw v=some x):v=.func (.func x.1) x.2.1.toArray x.2.2.toArray:=by unfold Vw at h;split at h <;> cases h <;> rfl
theorem abM {l:List Value} {x:IntKind×Int×IntKind×Int} (h:as2 l=some x):l=[.int x.1 x.2.1,.int x.2.2.1 x.2.2.2]:=by
 unfold as2 at h
 split at h
 ·simp only [aL] at h
  obtain ⟨y,h1,z,h2,h3⟩:=h
  cases h3
  rw [jC h1,jC h2]
 ·cases h
def Agr (e:Env) (tr:PT):Prop:=∀ t v,tr.get t=some v→Env.get e t=some v
theorem um {e:Env} {tr:PT} {x:Operand} {v:Value} (ha:Agr e tr) (h:evO tr x=some v):aP e x=some v:=by
 cases x with
 |tmp t=>exact ha _ _ h
 |const u =>
  obtain ⟨h1,h2⟩:=aN.1 (show bQ (plain u) (some u)=some v from h)
  simp [aP,h1,h2]
 |global g=>cases h
 |func f=>exact h
theorem JI {e:Env} {tr:PT} (ha:Agr e tr):∀ {l:List Operand} {vs:List Value},evL tr l=some vs→wP e l=some vs
 |[],_,h=>h
 |x::l,vs,h=>by
  simp only [evL,aL] at h
  obtain ⟨v,h1,us,h2,h3⟩:=h
  simp [wP,um ha h1,JI ha h2,h3]
theorem Pn {e:Env} {tr:PT} (ha:Agr e tr):∀ {l:List (Nat×Operand)} {vs:List (Nat×Value)},evP tr l=some vs→tJ e l=some vs
 |[],_,h=>h
 |(i,x)::l,vs,h=>by
  simp only [evP,aL] at h
  obtain ⟨v,h1,us,h2,h3⟩:=h
  simp [tJ,um ha h1,Pn ha h2,h3]
def Keep (lo:Nat) (σ σ':Heap):Prop:=σ.length≤σ'.length∧∀ i,i<lo→i < σ.length→σ'[i]?=σ[i]?
theorem Keep.refl {lo:Nat} {σ:Heap}:Keep lo σ σ:=⟨aD _,fun _ _ _=>rfl⟩
theorem Keep.app {lo:Nat} {σ x:Heap}:Keep lo σ (σ++x):=⟨by simp,fun i _ h=>bR h⟩
theorem Keep.set {i:Nat} {σ:Heap} {o:aB}:Keep i σ (σ.set i o):=⟨by simp,fun j h _=>by rw [eN oO]⟩
theorem Keep.trans {a b:Nat} {σ σ1 σ2:Heap} (h1:Keep a σ σ1) (h2:Keep b σ1 σ2):Keep (min a b) σ σ2 :=
 ⟨ej h1.1 h2.1,fun i hi hl=>by rw [h2.2 i oO (fi hl h1.1),h1.2 i oO hl]⟩
theorem Keep.mono {a b:Nat} {σ σ1:Heap} (h:Keep a σ σ1) (hb:b≤a):Keep b σ σ1:=⟨h.1,fun i hi=>h.2 i oO⟩
theorem qh {a b:Nat}:minN a b=min a b:=by
 unfold minN
 cases h:Nat.ble a b with
 |true=>have:=cA h;simp;omega
 |false =>
       have:¬ a≤b:=fun c=>by rw [fq c] at h;cases h
       simp;omega
theorem Keep.eq_app {σ σ':Heap} (h:Keep σ.length σ σ'):σ'=σ++σ'.drop σ.length:=by
 refine fx fun i=>?_
 by_cases hi:i < σ.length
 ·rw [bR hi,h.2 i hi hi]
 ·rw [bE oO,eO];congr 1;omega
def SR (P:Program) (op:Op) (e:Env) (σ:Heap) (r:Value×Heap×Nat):Prop:=(∀ rd ty,bW P rd op ty e σ r.1 r.2.1)∧Keep r.2.2 σ r.2.1
theorem nP {v:Value} {σ:Heap} {r:Value×Heap×Nat} (h:iJ v σ=some r):r=(v,σ,σ.length):=by cases h;rfl
theorem aeD {v:Value} {σ:Heap} {cs:List Value} {r:Value×Heap×Nat} (h:newR v σ cs=some r):r=(v,σ++[.rw cs],σ.length):=by
 simp only [newR,fV] at h;cases h;rfl
theorem Iz {σ σ':Heap} {i o:Nat} {vs:List Value} (h:Zj σ i o vs=some σ'):putCells σ i o vs=some σ'∧Keep i σ σ':=by
 simp only [Zj,aL] at h
 obtain ⟨x,h1,h2⟩:=h
 unfold putF at h2
 split at h2
 ·simp only [fV] at h2
  obtain ⟨h3,h4⟩:=aN.1 h2
  cases h4
  exact ⟨by simp only [putCells,h1];rw [h3];rfl,Keep.set⟩
 ·simp only [fV] at h2
  obtain ⟨h3,h4⟩:=aN.1 h2
  cases h4
  exact ⟨by simp only [putCells,h1];rw [h3];rfl,Keep.set⟩
 ·cases h2
theorem IB {v:Value} {i:Nat} {x:Option Heap} {r:Value×Heap×Nat} (h:Zg v i x=some r):∃ σ',x=some σ'∧r=(v,σ',i):=by
 simp only [Zg,fV,aL] at h
 obtain ⟨σ',h1,h2⟩:=h
 exact ⟨σ',h1,by cases h2;rfl⟩
section
variable {P:Program} {T:Tab} {e:Env} {tr:PT} {σ:Heap} {r:Value×Heap×Nat} {x y:Operand} {u v:Value}
theorem SR.pure {op:Op} (h:iJ v σ=some r) (hv:∀ rd ty,bW P rd op ty e σ v σ):SR P op e σ r:=by cases nP h;exact ⟨hv,Keep.refl⟩
theorem SR.new {op:Op} {cs:List Value} (h:newR v σ cs=some r) (hv:∀ rd ty,bW P rd op ty e σ v (σ++[.rw cs])):SR P op e σ r:=by cases aeD h;exact ⟨hv,Keep.app⟩
theorem uz {f:Value→Res} (ha:Agr e tr) (h:un tr x f=some r):∃ u,aP e x=some u∧f u=some r:=by
 obtain ⟨u,h1,h2⟩:=Option.bind_eq_some_iff.1 h
 exact ⟨u,um ha h1,h2⟩
theorem BN {f:Value→Value→Res} (ha:Agr e tr) (h:bi tr x y f=some r):∃ u v,aP e x=some u∧aP e y=some v∧f u v=some r:=by
 obtain ⟨u,h1,h2⟩:=Option.bind_eq_some_iff.1 h
 obtain ⟨v,h3,h4⟩:=Option.bind_eq_some_iff.1 h2
 exact ⟨u,v,um ha h1,um ha h3,h4⟩
theorem abN {op:BinOp} {k:IntKind} {m n:Int} {w:Value} {t t':TypeId} (hx:aP e x=some (.int k m)) (hy:aP e y=some (.int k n)) (h:arith op k m n=some w) (rd ty):bW P rd (.binOp op t x y t') ty e σ w σ:=by
 unfold arith at h
 split at h
 ·obtain ⟨h1,h2⟩:=aN.1 h
  cases h2
  exact U2 hx hy (oU h1)
 ·obtain ⟨h1,h2⟩:=aN.1 h
  cases h2
  exact U3 hx hy (oU h1)
 ·obtain ⟨h1,h2⟩:=aN.1 h
  cases h2
  simp only [aE,eq,decide_eq_true_eq] at h1
  obtain ⟨⟨rfl,hm⟩,hn⟩:=h1
  have e1:m=bI (decide (m=1)):=by rcases hm with rfl|rfl <;> rfl
  have e2:n=bI (decide (n=1)):=by rcases hn with rfl|rfl <;> rfl
  exact agA (by rw [← e1];exact hx) (by rw [← e2];exact hy)
 ·exact jm hx hy h
theorem JJ {op:BinOp} (h:RN op=true):op=.eql:=by unfold RN at h;split at h <;> simp_all
theorem abO {k:IntKind} {v:Value} (h:isK k v=true):v=.int k (ivV v):=by
 unfold isK at h
 split at h
 ·rename_i x hx
  have h1:=of_decide_eq_true h
  have h2:ivV v=x.2:=by unfold ivV;rw [hx]
  rw [h2,← h1];exact jC hx
 ·cases h
theorem JK {k:IntKind}:∀ {a:List Value},JD k a=true→∀ i<a.length,a[i]?=some (.int k (ivA a i))
 |[],_,i,hi=>by simp at hi
 |v::a,h,i,hi=>by
  simp only [JD,aE] at h
  cases i with
  |zero=>simpa [ivA] using abO h.1
  |succ i =>
   have:=JK h.2 i (oU hi)
   simpa [ivA] using this
theorem Ak {k:IntKind}:∀ {a:List Value},JD k a=true→dL a=true
 |[],_=>rfl
 |v::a,h=>by
  simp only [JD,aE] at h
  rw [abO h.1]
  simp [dL,plain,Ak h.2]
theorem X6:∀ {a b:List Value},a.length=b.length→aa7 a b=decide (∀ i ∈ List.range a.length,ivA a i=ivA b i)
 |[],[],_=>by simp [aa7]
 |v::a,[],h=>by simp at h
 |[],v::b,h=>by simp at h
 |v::a,u::b,h=>by
  have ih:=X6 (a:=a) (b:=b) (oU h)
  simp only [aa7]
  rw [ih,← Bool.decide_and]
  refine decide_eq_decide.2 ⟨fun ⟨h1,h2⟩ i hi=>?_,fun hh=>⟨?_,fun i hi=>?_⟩⟩
  ·cases i with
   |zero=>simpa [ivA] using h1
   |succ i =>
    have:=h2 i (oU hi)
    simpa [ivA] using this
  ·have:=hh 0 oS
   simpa [ivA] using this
  ·have:=hh (i+1) (oU hi)
   simpa [ivA] using this
theorem ahf (hT:gZ P T) {op:BinOp} {t t':TypeId} (hm:Af v=true→XH T op t u σ=some r→SR P (.binOp op t x y t') e σ r) (hx:aP e x=some u) (hy:aP e y=some v) (h:rBin T op t u v σ=some r):SR P (.binOp op t x y t') e σ r:=by
 unfold rBin at h
 split at h
 ·rename_i a ha
  simp only [afN,aL,aN] at h
  obtain ⟨b,h1,h2,w,h3,h4⟩:=h
  rw [jC ha] at hx
  rw [jC h1] at hy
  have h2:=of_decide_eq_true h2
  rw [← h2] at hy
  exact SR.pure h4 (abN hx hy h3)
 ·cases hnm:Af v with
  |true=>rw [hnm] at h;exact hm hnm h
  |false =>
  rw [hnm] at h
  simp only [cond_false] at h
  unfold afR at h
  split at h
  ·rename_i hn
   simp only [afQ,aL,aN,aE] at h
   obtain ⟨p,h1,el,h2,⟨h3,h4⟩,h5⟩:=h
   rw [kY h1] at hx
   rw [rV hn] at hy
   have:=JJ h3
   subst this
   haveI:Sl P t el:=⟨hT.sl _ _ h2⟩
   exact SR.pure h5 fun rd ty=>aaZ hx (Nat.blt_eq.mp h4) hy
  split at h
  ·rename_i r0 c
   cases h
   simp only [afO,aL,aN,aE,decide_eq_true_eq] at c
   obtain ⟨a,h1,b,h2,x1,h3,x2,h4,⟨⟨h5,h6⟩,h7⟩,w,h8,h9⟩:=c
   rw [mD h1,abM h3] at hx
   rw [mD h2,abM h4,← h6,← h7] at hy
   obtain ⟨z,hz⟩:=Option.isSome_iff_exists.1 h5
   haveI:Eq2 P t:=⟨hT.eq2 _ _ hz⟩
   refine SR.pure h9 fun rd ty=>?_
   unfold eqOp at h8
   split at h8
   ·cases h8;exact agH hx hy
   ·cases h8
    have:=OJ (P:=P) (rd:=rd) (ty:=ty) (σ:=σ) (t:=t) (t':=t') hx hy
    simpa using this
   ·cases h8
  ·simp only [afP,aL,aN,aE,decide_eq_true_eq] at h
   obtain ⟨a,h1,b,h2,y,h3,q,h4,k,h5,⟨⟨⟨⟨⟨⟨g1,g2⟩,g3⟩,g5⟩,g6⟩,g7⟩,g8⟩,h6⟩:=h
   have:=JJ g1
   subst this
   obtain ⟨q1,q2,q3,q4⟩:=q
   have e1:=aM g2
   have e2:q2=false:=by simpa using g3
   simp only at e1
   subst e1;subst e2
   rw [mD h1] at hx
   rw [mD h2] at hy
   haveI:Ar P t y.1 y.2:=⟨hT.ar _ _ h3⟩
   haveI:Ty P y.2 1 false q3 q4:=⟨hT.ty _ _ h4⟩
   haveI:Ik P y.2 k:=⟨hT.ik _ _ h5⟩
   have l1:=aM g5
   have l2:=aM g6
   rw [X6 oO,l1] at h6
   exact SR.pure h6 fun rd ty=>Np Y7 hx hy (Ak g7) (Ak g8) (fun i hi=>JK g7 i oO) (fun i hi=>JK g8 i oO)
theorem X7 (hT:gZ P T) {t:TypeId} (h:RS T t u σ=some r):∃ i o size bytes z agg,u=.pointer (some ⟨i,o,none⟩)∧Ty P t size agg z bytes∧r.2=(σ,σ.length) ∧
  ((agg=false∧aH σ i o=some r.1)∨(agg=true∧∃ cs,aJ σ i o size=some cs∧r.1=.agg cs.toArray)):=by
 simp only [RS,aL] at h
 obtain ⟨p,h1,y,h2,h3⟩:=h
 refine ⟨p.1,p.2,y.1,y.2.2.2,y.2.2.1,y.2.1,jD h1,⟨hT.ty _ _ h2⟩,?_⟩
 cases hb:y.2.1 with
 |false =>
  rw [hb] at h3
  simp only [Vz,aL] at h3
  obtain ⟨w,h4,h5⟩:=h3
  cases nP h5
  exact ⟨rfl,.inl ⟨rfl,h4⟩⟩
 |true =>
  rw [hb] at h3
  simp only [Vz,aL] at h3
  obtain ⟨w,h4,h5⟩:=h3
  cases nP h5
  exact ⟨rfl,.inr ⟨rfl,w,h4,rfl⟩⟩
theorem aeE (hT:gZ P T) {t:TypeId} (hx:aP e x=some u) (h:RS T t u σ=some r):SR P (.load t x) e σ r:=by
 obtain ⟨i,o,size,bytes,z,agg,rfl,a,h1,h2⟩:=X7 hT h
 obtain ⟨r1,r2,r3⟩:=r
 cases h1
 rcases h2 with ⟨rfl,h2⟩|⟨rfl,cs,h2,h3⟩
 ·exact ⟨fun rd ty=>aK (ht:=a) hx h2,Keep.refl⟩
 ·simp only at h3;subst h3
  exact ⟨fun rd ty=>bD (ht:=a) hx h2,Keep.refl⟩
theorem abP (hT:gZ P T) {t:TypeId} (hx:aP e x=some u) (hy:aP e y=some v) (h:VA T t u v σ=some r):SR P (.store t x y) e σ r:=by
 simp only [VA,aL,aN,aE] at h
 obtain ⟨p,h1,q,h2,⟨h3,h4⟩,h5⟩:=h
 obtain ⟨σ',h6,rfl⟩:=IB h5
 obtain ⟨h7,h8⟩:=Iz h6
 rw [jD h1] at hx
 haveI:Ty P t q.1 q.2.1 q.2.2.1 q.2.2.2:=⟨hT.ty _ _ h2⟩
 exact ⟨fun rd ty=>bU hx hy (aM h3) h4 h7,h8⟩
theorem fa_ok (hT:gZ P T) {s:TypeId} {f:Nat} (hx:aP e x=some u) (h:rFA T s f u σ=some r):SR P (.fieldAddr s x f) e σ r:=by
 simp only [rFA,aL,aN] at h
 obtain ⟨p,h1,q,h2,y,h3,h4,h5⟩:=h
 rw [jD h1] at hx
 obtain ⟨y1,y2,y3,y4⟩:=y
 obtain ⟨k,rfl⟩:∃ k,y1=k+1:=⟨y1 - 1,by have:=Nat.blt_eq.mp h4;simp only at this;omega⟩
 haveI:Ty P q.2 (k+1) y2 y3 y4:=⟨hT.ty _ _ h3⟩
 haveI:Fld P s f q.1 q.2:=⟨hT.field h2⟩
 exact SR.pure h5 fun rd ty=>aZ hx
theorem X8 {op:Op} {cs:List Value} {off size:Nat} {agg:Bool} (h:RU cs off σ size agg=some r)
  (h1:agg=false→∀ v,cs[off]?=some v→∀ rd ty,bW P rd op ty e σ v σ) (h2:agg=true→off+size≤cs.length→∀ rd ty,bW P rd op ty e σ (.agg ((cs.drop off).take size).toArray) σ):SR P op e σ r:=by
 cases agg with
 |false =>
  simp only [RU,aL] at h
  obtain ⟨w,h3,h4⟩:=h
  exact SR.pure h4 (h1 rfl w h3)
 |true =>
  simp only [RU,aN,fV] at h
  exact SR.pure h.2 (h2 rfl (cA h.1))
theorem abQ (hT:gZ P T) {s:TypeId} {f:Nat} (hx:aP e x=some u) (h:VB T s f u σ=some r):SR P (.field s x f) e σ r:=by
 simp only [VB,aL] at h
 obtain ⟨cs,h1,q,h2,y,h3,h4⟩:=h
 rw [mD h1] at hx
 obtain ⟨y1,y2,y3,y4⟩:=y
 haveI:Fld P s f q.1 q.2:=⟨hT.field h2⟩
 refine X8 h4 (fun ha w hw rd ty=>?_) (fun ha hl rd ty=>?_)
 ·simp only at ha;subst ha
  haveI:Ty P q.2 y1 false y3 y4:=⟨hT.ty _ _ h3⟩
  exact ER hx hw
 ·simp only at ha;subst ha
  haveI:Ty P q.2 y1 true y3 y4:=⟨hT.ty _ _ h3⟩
  exact YV hx (oU hl)
theorem aeF (hT:gZ P T) {t:TypeId} (hx:aP e x=some u) (hy:aP e y=some v) (h:abe T t u v σ=some r):SR P (.indexAddr t x y) e σ r:=by
 simp only [abe,aL] at h
 obtain ⟨j,h1,h2⟩:=h
 rw [jC h1] at hy
 unfold abd at h2
 split at h2
 ·rename_i p hp
  simp only [afS,aL,aN,aE,decide_eq_true_eq] at h2
  obtain ⟨el,h3,y,h4,⟨h5,h6⟩,h7⟩:=h2
  rw [kY hp] at hx
  haveI:Sl P t el:=⟨hT.sl _ _ h3⟩
  haveI:Ty P el y.1 y.2.1 y.2.2.1 y.2.2.2:=⟨hT.ty _ _ h4⟩
  exact SR.pure h7 fun rd ty=>ny hx hy h5 h6
 ·split at h2
  ·rename_i p hp
   simp only [afT,aL,aN,aE,decide_eq_true_eq] at h2
   obtain ⟨el,h3,y,h4,⟨h5,h6⟩,h7⟩:=h2
   rw [yY hp] at hx
   haveI:Sl P t el:=⟨hT.sl _ _ h3⟩
   haveI:Ty P el y.1 y.2.1 y.2.2.1 y.2.2.2:=⟨hT.ty _ _ h4⟩
   exact SR.pure h7 fun rd ty=>DC hx hy h5 h6
  ·simp only [aL] at h2
   obtain ⟨p,hp,h2⟩:=h2
   simp only [afU,aL,aN,aE,decide_eq_true_eq] at h2
   obtain ⟨a,h3,y,h4,⟨h5,h6⟩,h7⟩:=h2
   rw [jD hp] at hx
   haveI:Ar P t a.1 a.2:=⟨hT.ar _ _ h3⟩
   haveI:Ty P a.2 y.1 y.2.1 y.2.2.1 y.2.2.2:=⟨hT.ty _ _ h4⟩
   exact SR.pure h7 fun rd ty=>nD hx hy h5 h6
theorem ahg (hT:gZ P T) {t:TypeId} (hx:aP e x=some u) (hy:aP e y=some v) (h:rIdx T t u v σ=some r):SR P (.index t x y) e σ r:=by
 simp only [rIdx,aL,aN,aE,decide_eq_true_eq] at h
 obtain ⟨cs,h1,j,h2,a,h3,y,h4,⟨h5,h6⟩,h7⟩:=h
 rw [mD h1] at hx
 rw [jC h2] at hy
 obtain ⟨y1,y2,y3,y4⟩:=y
 haveI:Ar P t a.1 a.2:=⟨hT.ar _ _ h3⟩
 refine X8 h7 (fun ha w hw rd ty=>?_) (fun ha hl rd ty=>?_)
 ·simp only at ha;subst ha
  haveI:Ty P a.2 y1 false y3 y4:=⟨hT.ty _ _ h4⟩
  exact YW hx hy h5 h6 hw
 ·simp only at ha;subst ha
  haveI:Ty P a.2 y1 true y3 y4:=⟨hT.ty _ _ h4⟩
  exact YX hx hy h5 h6 (oU hl)
theorem abR (hT:gZ P T) {t:TypeId} {ps:Array (Nat×Operand)} {vs:List (Nat×Value)} (hp:tJ e ps.toList=some vs) (h:VD T t vs σ=some r):SR P (.build t ps) e σ r:=by
 unfold VD at h
 split at h
 ·rename_i z hz
  simp only [aN,aL,fV] at h
  obtain ⟨h1,cs,h2,h3⟩:=h
  haveI:Pls P t z.1 z.2:=⟨hT.pls _ _ hz⟩
  exact SR.pure h3 fun rd ty=>oG h1 hp h2
 ·unfold XI at h
  simp only [aN,aL,aE,fV] at h
  obtain ⟨y,h1,a,h2,z,h3,⟨h4,h5⟩,cs,h6,h7⟩:=h
  obtain ⟨y1,y2,y3,y4⟩:=y
  simp only at h4;subst h4
  haveI:Ty P t y1 true y3 y4:=⟨hT.ty _ _ h1⟩
  haveI:Ar P t a.1 a.2:=⟨hT.ar _ _ h2⟩
  haveI:Ty P a.2 z.1 z.2.1 z.2.2.1 z.2.2.2:=⟨hT.ty _ _ h3⟩
  exact SR.pure h7 fun rd ty=>U9 h5 hp h6
theorem Zp (hT:gZ P T) {t n:TypeId} {ps:Array (Nat×Operand)} {vs:List (Nat×Value)} (hp:tJ e ps.toList=some vs) (h:OY T t n vs σ=some r):SR P (.buildSlice t n ps) e σ r:=by
 unfold OY at h
 cases hn:Nat.beq n 0 with
 |true =>
  rw [hn] at h
  simp only [cond_true,RV,aN,aL,fV] at h
  obtain ⟨el,h1,y,h2,h3,h4⟩:=h
  cases h4
  have e0:=aM hn
  subst e0
  haveI:Sl P t el:=⟨hT.sl _ _ h1⟩
  haveI:Ty P el y.1 y.2.1 y.2.2.1 y.2.2.2:=⟨hT.ty _ _ h2⟩
  have a:ps=#[]:=by
   obtain ⟨l⟩:=ps
   cases l with
   |nil=>rfl
   |cons p l =>
    obtain ⟨i,q⟩:=p
    simp only [tJ] at hp
    split at hp
    ·cases hp;simp [abf] at h3
    ·cases hp
  subst a
  exact ⟨fun rd ty=>Vh,Keep.app⟩
 |false =>
 rw [hn] at h
 simp only [cond_false,RX,aN,aL,aE] at h
 obtain ⟨el,h1,y,h2,⟨⟨⟨h3,h4⟩,h5⟩,h6⟩,cs,h7,h8⟩:=h
 haveI:Sl P t el:=⟨hT.sl _ _ h1⟩
 haveI:Ty P el y.1 y.2.1 y.2.2.1 y.2.2.2:=⟨hT.ty _ _ h2⟩
 exact SR.new h8 fun rd ty=>nU h3 (by simpa using aM h4) h5 h6 hp h7
theorem Zq (hT:gZ P T) {t n:TypeId} {ps:Array (Nat×Operand)} {vs:List (Nat×Value)} (hp:tJ e ps.toList=some vs) (h:O1 T t n vs σ=some r):SR P (.buildSlice t n ps) e σ r:=by
 simp only [O1,aN,aL,aE] at h
 obtain ⟨el,h1,y,h2,⟨⟨⟨h3,h4⟩,h5⟩,h6⟩,cs,h7,h8⟩:=h
 haveI:Sl P t el:=⟨hT.sl _ _ h1⟩
 haveI:Ty P el y.1 y.2.1 y.2.2.1 y.2.2.2:=⟨hT.ty _ _ h2⟩
 exact SR.new h8 fun rd ty=>Vr h3 (by simpa using aM h4) h5 h6 hp h7
theorem abS (hT:gZ P T) {t:TypeId} (hx:aP e x=some u) (hy:aP e y=some v) (h:VE T t u v σ=some r):SR P (.makeSlice t x y) e σ r:=by
 simp only [VE,XJ,aN,aL,aE,decide_eq_true_eq] at h
 obtain ⟨l,h1,c,h2,el,h3,q,h4,⟨⟨⟨⟨⟨h5,h6⟩,h7⟩,h8⟩,h9⟩,d⟩,a⟩:=h
 rw [jC h1,show l.2=((l.2.toNat:Nat):Int) by omega] at hx
 rw [jC h2,show c.2=((c.2.toNat:Nat):Int) by omega] at hy
 haveI:Sl P t el:=⟨hT.sl _ _ h3⟩
 haveI:Ty P el q.1 q.2.1 q.2.2.1 q.2.2.2:=⟨hT.ty _ _ h4⟩
 exact SR.new a fun rd ty=>zY h5 (by simpa using aM h6) hx hy oO (cA h9) (cA d)
theorem ahh (hT:gZ P T) {t:TypeId} (hx:aP e x=some u) (h:rLen T t u σ=some r):SR P (.call { callee:=.builtin .len,args:=#[x],argTypes:=#[t] }) e σ r:=by
 simp only [rLen,aL] at h
 obtain ⟨n,h1,el,h2,h3⟩:=h
 obtain ⟨a,c,rfl⟩:=aeC h1
 haveI:Sl P t el:=⟨hT.sl _ _ h2⟩
 exact SR.pure h3 fun rd ty=>lJ hx
theorem aeG (hT:gZ P T) {s d:TypeId} (hx:aP e x=some u) (h:abh T s d u σ=some r):SR P (.convert s d x) e σ r:=by
 simp only [abh,aN,aL,decide_eq_true_eq] at h
 obtain ⟨a,h1,b,h2,k,h3,h4,h5⟩:=h
 rw [jC h1,← h4] at hx
 haveI:Ik P s b:=⟨hT.ik _ _ h2⟩
 haveI:Ik P d k:=⟨hT.ik _ _ h3⟩
 exact SR.pure h5 fun rd ty=>Rh hx
theorem abT (hT:gZ P T) {t:TypeId} {a b c:Option Operand} {i j k:Option Int} (hx:aP e x=some u)
  (ha:∀ o,a=some o→∃ q m,aP e o=some (.int q m)∧i=some m) (ha':a=none→i=none) (hb:∀ o,b=some o→∃ q m,aP e o=some (.int q m)∧j=some m) (hb':b=none→j=none)
  (hc:∀ o,c=some o→∃ q m,aP e o=some (.int q m)∧k=some m) (hc':c=none→k=none) (h:VF T t u σ i j k=some r):SR P (.slice t x a b c) e σ r:=by
 unfold VF at h
 have na:∀ {i:Option Int} {a:Option Operand},(∀ o,a=some o→∃ q m,aP e o=some (.int q m)∧i=some m)→i=none→a=none:=by
  intro i a ha hi
  cases a with
  |none=>rfl
  |some o=>obtain ⟨q,m,_,h2⟩:=ha o rfl;rw [hi] at h2;cases h2
 have sa:∀ {i:Option Int} {a:Option Operand} {m:Int},(∀ o,a=some o→∃ q m,aP e o=some (.int q m)∧i=some m)→(a=none→i=none)→i=some m→∃ o q,a=some o∧aP e o=some (.int q m):=by
  intro i a m ha ha' hi
  cases a with
  |none=>rw [ha' rfl] at hi;cases hi
  |some o=>obtain ⟨q,m',h1,h2⟩:=ha o rfl;rw [hi] at h2;cases h2;exact ⟨o,q,rfl,h1⟩
 split at h
 ·rename_i hh
  obtain rfl:=na ha rfl
  obtain rfl:=na hc rfl
  obtain ⟨o,q,rfl,ho⟩:=sa hb hb' rfl
  split at h
  ·rename_i p hp
   simp only [slH,aN,aL,aE,decide_eq_true_eq] at h
   obtain ⟨el,h1,z,h2,⟨h3,h4⟩,h5⟩:=h
   rw [kY hp] at hx
   rw [show hh=((hh.toNat:Nat):Int) by omega] at ho
   haveI:Sl P t el:=⟨hT.sl _ _ h1⟩
   haveI:Ty P el z.1 z.2.1 z.2.2.1 z.2.2.2:=⟨hT.ty _ _ h2⟩
   exact SR.pure h5 fun rd ty=>MZ hx ho oO
  ·simp only [slA,aN,aL,aE,decide_eq_true_eq] at h
   obtain ⟨p,hp,a2,h1,z,h2,⟨h3,h4⟩,h5⟩:=h
   rw [jD hp] at hx
   rw [show hh=((hh.toNat:Nat):Int) by omega] at ho
   haveI:Ar P t a2.1 a2.2:=⟨hT.ar _ _ h1⟩
   haveI:Ty P a2.2 z.1 z.2.1 z.2.2.1 z.2.2.2:=⟨hT.ty _ _ h2⟩
   exact SR.pure h5 fun rd ty=>Vb hx ho oO
 ·rename_i ll
  obtain rfl:=na hb rfl
  obtain rfl:=na hc rfl
  obtain ⟨o,q,rfl,ho⟩:=sa ha ha' rfl
  rw [show ll=((ll.toNat:Nat):Int) by
   split at h
   ·simp only [slL,aN,aL,aE,decide_eq_true_eq] at h
    obtain ⟨el,h1,z,h2,⟨⟨h3,h4⟩,d⟩,h5⟩:=h
    omega
   ·simp only [slLG,aN,aL,aE,decide_eq_true_eq] at h
    obtain ⟨p,hp,el,h1,z,h2,⟨h3,h4⟩,h5⟩:=h
    omega] at ho
  split at h
  ·rename_i p hp
   simp only [slL,aN,aL,aE,decide_eq_true_eq] at h
   obtain ⟨el,h1,z,h2,⟨⟨h3,h4⟩,d⟩,h5⟩:=h
   rw [kY hp] at hx
   haveI:Sl P t el:=⟨hT.sl _ _ h1⟩
   haveI:Ty P el z.1 z.2.1 z.2.2.1 z.2.2.2:=⟨hT.ty _ _ h2⟩
   exact SR.pure h5 fun rd ty=>Bf hx ho oO (cA d)
  ·simp only [slLG,aN,aL,aE,decide_eq_true_eq] at h
   obtain ⟨p,hp,el,h1,z,h2,⟨h3,h4⟩,h5⟩:=h
   rw [yY hp] at hx
   haveI:Sl P t el:=⟨hT.sl _ _ h1⟩
   haveI:Ty P el z.1 z.2.1 z.2.2.1 z.2.2.2:=⟨hT.ty _ _ h2⟩
   exact SR.pure h5 fun rd ty=>Vu hx ho oO
 ·obtain rfl:=na ha rfl
  obtain rfl:=na hb rfl
  obtain rfl:=na hc rfl
  simp only [slA,aL] at h
  obtain ⟨p,hp,a2,h1,z,h2,h5⟩:=h
  rw [jD hp] at hx
  haveI:Ar P t a2.1 a2.2:=⟨hT.ar _ _ h1⟩
  haveI:Ty P a2.2 z.1 z.2.1 z.2.2.1 z.2.2.2:=⟨hT.ty _ _ h2⟩
  exact SR.pure h5 fun rd ty=>EY hx
 ·rename_i hh mm
  obtain rfl:=na ha rfl
  obtain ⟨o,q,rfl,ho⟩:=sa hb hb' rfl
  obtain ⟨o2,q2,rfl,f⟩:=sa hc hc' rfl
  simp only [slG,aL] at h
  obtain ⟨el,h1,z,h2,h⟩:=h
  haveI:Sl P t el:=⟨hT.sl _ _ h1⟩
  haveI:Ty P el z.1 z.2.1 z.2.2.1 z.2.2.2:=⟨hT.ty _ _ h2⟩
  split at h
  ·rename_i p hp
   simp only [aN,aE,decide_eq_true_eq] at h
   obtain ⟨⟨h4,h5⟩,h6⟩:=h
   have hu:=yY hp
   subst hu
   subst h4 h5
   exact SR.pure h6 fun rd ty=>Vq (sz:=p.2.1) hx ho f
  ·simp only [aN,aE,decide_eq_true_eq] at h
   obtain ⟨⟨⟨h3,h4⟩,h5⟩,h6⟩:=h
   have hu:=rV h3
   subst hu h4 h5
   exact SR.pure h6 fun rd ty=>yR (i:=0) (size:=z.1) (n:=0) hx ho f
 ·cases h
end
theorem IC {v:Value} {i:Nat} (h:Zh v=some i):v=.map (some i):=by unfold Zh at h;split at h <;> cases h <;> rfl
theorem JL {o:aB} {es:List (Value×Value)} (h:RP o=some es):o=.map es:=by unfold RP at h;split at h <;> cases h <;> rfl
theorem Nw {v:Value} (h:Af v=true):v=.map none:=by unfold Af at h;split at h <;> simp_all
theorem Po {v:Value} {a:Int} (h:decI v=some a):v=kvI a:=by
 obtain ⟨h1,h2⟩:=aN.1 h
 cases h2
 unfold isI at h1
 split at h1
 ·rfl
 ·cases h1
theorem JM:∀ {l:List Value},XF l=true→l=ints (l.map pV)
 |[],_=>rfl
 |v::l,h=>by
  simp only [XF,aE] at h
  have ih:=JM h.2
  have h1:=h.1
  unfold isI at h1
  split at h1
  ·simp only [ints,cG,List.cons.injEq] at ih ⊢
   exact ⟨rfl,ih⟩
  ·cases h1
theorem Pq {n:Nat} {v:Value} {a:NL n} (h:decN n v=some a):v=kvN n a:=by
 simp only [decN,aL,aN] at h
 obtain ⟨l,h1,h2,h3⟩:=h
 rw [mD h1]
 unfold decL at h3
 split at h3
 ·cases h3
  simp only [kvN]
  rw [← JM h2]
 ·cases h3
theorem SH {α:Type} {f:Value→Option α} {kv:α→Value} (hf:∀ v a,f v=some a→v=kv a):∀ {es:List (Value×Value)} {l:List (α×Value)},XG f es=some l→es=l.map fun p=>(kv p.1,p.2)
 |[],l,h=>by cases h;rfl
 |p::r,l,h=>by
  simp only [XG,aL] at h
  obtain ⟨k,h1,l',h2,h3⟩:=h
  cases h3
  rw [cG,← SH hf h2,← hf _ _ h1]
theorem Pv {α:Type} [DecidableEq α] {f:Value→Option α} {kv:α→Value} (hf:∀ v a,f v=some a→v=kv a) {es:List (Value×Value)} {k:Value} {j:Option Nat} (h:mIdx f es k=some j) :
  ∃ (l:List (α×Value)) (k':α),es=l.map (fun p=>(kv p.1,p.2))∧k=kv k'∧j=(l.map (·.1)).findIdx? (fun q=>decide (k'=q)):=by
 simp only [mIdx,aL] at h
 obtain ⟨l,h1,k',h2,h3⟩:=h
 cases h3
 exact ⟨l,k',SH hf h1,hf _ _ h2,rfl⟩
section
variable {P:Program} {T:Tab} {e:Env} {tr:PT} {σ:Heap} {r:Value×Heap×Nat} {x y z:Operand} {u v k:Value}
section
variable {α:Type} [DecidableEq α] {f:Value→Option α} {kv:α→Value} {t kt et i size bytes:Nat} {agg:Bool} {z0:Value} {es:List (Value×Value)} {j:Option Nat}
theorem JO [Mp P t kt et] [KT P kt kv] [Ty P et size agg z0 bytes] (hf:∀ v a,f v=some a→v=kv a) (hx:aP e x=some (.map (some i))) (hi:σ[i]?=some (.map es)) (hy:aP e y=some k) (h:mIdx f es k=some j) {b:Bool} (h2:aa8 z0 b σ es j=some r):SR P (.lookup t x y b) e σ r:=by
 obtain ⟨l,k',rfl,rfl,rfl⟩:=Pv hf h
 unfold aa8 at h2
 split at h2
 ·rename_i j hj
  simp only [aL] at h2
  obtain ⟨p,h3,h4⟩:=h2
  simp only [cN,fT] at h3
  obtain ⟨q,h5,rfl⟩:=h3
  have hg:iH l k'=some q.2:=by unfold iH;rw [hj];simp only [h5];rfl
  cases b with
  |false=>exact SR.pure h4 fun rd ty=>Nj hx hi hy hg
  |true=>exact SR.pure h4 fun rd ty=>Jy hx hi hy hg
 ·rename_i hj
  obtain ⟨hz,h4⟩:=aN.1 h2
  have hg:iH l k'=none:=by unfold iH;rw [hj]
  cases b with
  |false=>exact SR.pure h4 fun rd ty=>Vo hz hx hi hy hg
  |true=>exact SR.pure h4 fun rd ty=>Jz hz hx hi hy hg
theorem X9 {w:Value} (h:Zi w i σ es=some r):r=(w,σ.set i (.map es),i):=by
 simp only [Zi,fV] at h;cases h;rfl
theorem Ny {σ:Heap} (h:σ.all abb=true):σ.all (fun o=>!aU o)=true:=by
 rw [eo] at h ⊢
 intro o ho
 have:=h o ho
 cases o <;> first|rfl|cases this
theorem abU [Mp P t kt et] [KT P kt kv] (hf:∀ v a,f v=some a→v=kv a) (hx:aP e x=some (.map (some i))) (hi:σ[i]?=some (.map es)) (hy:aP e y=some k) (hz:aP e z=some v) (h:mIdx f es k=some j) (hn:σ.all abb=true) (h2:Zi undef i σ (aa9 es k v j)=some r) :
  SR P (.mapUpdate t x y z) e σ r∧SR P (.insert t x y z) e σ r:=by
 obtain ⟨l,k',rfl,rfl,rfl⟩:=Pv hf h
 cases X9 h2
 have e1:aB.map (aa9 (l.map fun p=>(kv p.1,p.2)) (kv k') v ((l.map (·.1)).findIdx? (fun q=>decide (k'=q))))=ji kv (lN l k' v):=by
  unfold lN
  cases (l.map (·.1)).findIdx? (fun q=>decide (k'=q)) with
  |none=>simp [aa9,ji]
  |some j=>simp [aa9,ji,List.map_set]
 rw [e1]
 exact ⟨⟨fun rd ty=>pq hx hi hy hz (Ny hn),Keep.set⟩,⟨fun rd ty=>Y9 hx hi hy hz (Ny hn),Keep.set⟩⟩
theorem Ya [Mp P t kt et] [KT P kt kv] {t2:Nat} (hf:∀ v a,f v=some a→v=kv a) (hx:aP e x=some (.map (some i))) (hi:σ[i]?=some (.map es)) (hy:aP e y=some k) (h:mIdx f es k=some j) (h2:Zi (.tuple #[]) i σ (RQ es j)=some r) :
  SR P (.call { callee:=.builtin .delete,args:=#[x,y],argTypes:=#[t,t2] }) e σ r:=by
 obtain ⟨l,k',rfl,rfl,rfl⟩:=Pv hf h
 cases X9 h2
 have e1:aB.map (RQ (l.map fun p=>(kv p.1,p.2)) ((l.map (·.1)).findIdx? (fun q=>decide (k'=q))))=ji kv (nG l k'):=by
  unfold nG
  cases (l.map (·.1)).findIdx? (fun q=>decide (k'=q)) with
  |none=>simp [RQ,ji]
  |some j=>simp [RQ,ji,List.eraseIdx_eq_take_drop_succ,List.map_take,List.map_drop]
 rw [e1]
 exact ⟨fun rd ty=>Bg hx hi hy,Keep.set⟩
end
theorem Zr (hT:gZ P T) {t:TypeId} {b:Bool} (hx:aP e x=some u) (hy:aP e y=some k) (h:OW T t b u k σ=some r):SR P (.lookup t x y b) e σ r:=by
 simp only [OW,aL] at h
 obtain ⟨i,h1,o,h2,es,h3,m,h4,y0,h5,j,h6,h7⟩:=h
 rw [IC h1] at hx
 rw [JL h3] at h2
 obtain ⟨g1,g2,g3⟩:=hT.mp _ _ h4
 haveI:Mp P t m.1 m.2.1:=⟨g1⟩
 haveI:Ty P m.2.1 y0.1 y0.2.1 y0.2.2.1 y0.2.2.2:=⟨hT.ty _ _ h5⟩
 unfold Ns at h6
 cases hn:Nat.beq m.2.2 0 with
 |true =>
  rw [hn] at h6
  haveI:Ik P m.1 .i64:=⟨g2 (aM hn)⟩
  exact JO (fun _ _ h=>Po h) hx h2 hy h6 h7
 |false =>
  rw [hn] at h6
  have g4:=g3 (Nat.ne_of_beq_eq_false hn)
  haveI:FlatN P m.1 m.2.2:=⟨g4.1,g4.2⟩
  exact JO (fun _ _ h=>Pq h) hx h2 hy h6 h7
theorem SI (hT:gZ P T) {t:TypeId} (hx:aP e x=some u) (hy:aP e y=some k) (hz:aP e z=some v) (h:Vx T t u k v σ=some r):SR P (.mapUpdate t x y z) e σ r∧SR P (.insert t x y z) e σ r:=by
 simp only [Vx,aL,aN] at h
 obtain ⟨i,h1,o,h2,es,h3,m,h4,j,h6,h7,h8⟩:=h
 rw [IC h1] at hx
 rw [JL h3] at h2
 obtain ⟨g1,g2,g3⟩:=hT.mp _ _ h4
 haveI:Mp P t m.1 m.2.1:=⟨g1⟩
 unfold Ns at h6
 cases hn:Nat.beq m.2.2 0 with
 |true =>
  rw [hn] at h6
  haveI:Ik P m.1 .i64:=⟨g2 (aM hn)⟩
  exact abU (fun _ _ h=>Po h) hx h2 hy hz h6 h7 h8
 |false =>
  rw [hn] at h6
  have g4:=g3 (Nat.ne_of_beq_eq_false hn)
  haveI:FlatN P m.1 m.2.2:=⟨g4.1,g4.2⟩
  exact abU (fun _ _ h=>Pq h) hx h2 hy hz h6 h7 h8
theorem Zt (hT:gZ P T) {t t2:TypeId} (hx:aP e x=some u) (hy:aP e y=some k) (h:OX T t u k σ=some r):SR P (.call { callee:=.builtin .delete,args:=#[x,y],argTypes:=#[t,t2] }) e σ r:=by
 simp only [OX,aL] at h
 obtain ⟨i,h1,o,h2,es,h3,m,h4,j,h6,h8⟩:=h
 rw [IC h1] at hx
 rw [JL h3] at h2
 obtain ⟨g1,g2,g3⟩:=hT.mp _ _ h4
 haveI:Mp P t m.1 m.2.1:=⟨g1⟩
 unfold Ns at h6
 cases hn:Nat.beq m.2.2 0 with
 |true =>
  rw [hn] at h6
  haveI:Ik P m.1 .i64:=⟨g2 (aM hn)⟩
  exact Ya (fun _ _ h=>Po h) hx h2 hy h6 h8
 |false =>
  rw [hn] at h6
  have g4:=g3 (Nat.ne_of_beq_eq_false hn)
  haveI:FlatN P m.1 m.2.2:=⟨g4.1,g4.2⟩
  exact Ya (fun _ _ h=>Pq h) hx h2 hy h6 h8
theorem abV {t:TypeId} (h:Vy σ=some r):SR P (.makeMap t none) e σ r:=by
 simp only [Vy,fV] at h
 cases h
 exact ⟨fun rd ty=>yX,Keep.app⟩
theorem aeH (hT:gZ P T) {op:BinOp} {t t':TypeId} (hx:aP e x=some u) (hy:aP e y=some (.map none)) (h:XH T op t u σ=some r):SR P (.binOp op t x y t') e σ r:=by
 simp only [XH,aL,aN,aE,eq] at h
 obtain ⟨m,h1,⟨h2,h3⟩,h4⟩:=h
 obtain ⟨g1,_⟩:=hT.mp _ _ h1
 haveI:Mp P t m.1 m.2.1:=⟨g1⟩
 have:=JJ h2
 subst this
 cases hn:Af u with
 |true =>
  rw [hn] at h4
  rw [Nw hn] at hx
  exact SR.pure h4 fun rd ty=>Nk hx hy
 |false =>
  rw [hn] at h3 h4
  rcases h3 with h3|h3
  ·cases h3
  ·obtain ⟨i,hi⟩:=Option.isSome_iff_exists.1 h3
   rw [IC hi] at hx
   exact SR.pure h4 fun rd ty=>Nl hx hy
end
theorem Yb {G:Nat→Prop} {w0 w:World} {ρ:Rho} {σ:Heap} (hs:Sim G w0 ρ σ w) (el:TypeId):Sim G w0 ρ (σ++[.gr [] el]) w where
 os:=hs.os
 tape:=hs.tape
 output:=hs.output
 size:=hs.size
 fgn:=hs.fgn
 obj:=fun i o h=>by
  rcases getElem?_snoc h with h|⟨rfl,rfl⟩
  ·exact nT (hs.obj i o h) oS (fun _ _=>rfl) (fun _ h=>h) (fun _ _ _ _ h=>h) (fun _ _ _ h=>h)
  ·intro hc;exact absurd rfl hc
 inj:=fun i j oi oj hi hj a c hb=>by
  rcases getElem?_snoc hi with hi|⟨rfl,rfl⟩
  ·rcases getElem?_snoc hj with hj|⟨rfl,rfl⟩
   ·exact hs.inj i j oi oj hi hj a c hb
   ·exact absurd rfl c
  ·exact absurd rfl a
theorem SK {P:Program} {rd:Option Nat} {op:Op} {ty el:TypeId} {e:Env} {σ σ':Heap} {v:Value} (h:bW P rd op ty e (σ++[.gr [] el]) v σ'):bW P rd op ty e σ v σ':=by
 intro o ho f G w0 ρ A w c hs hx next Q' hk
 refine h o ho f G w0 ρ A w (fun l hl=>by have:=c l hl;simp;omega) (Yb hs el) (fun y hy u hu=>(hx y hy u hu).mono oS fun _ _=>rfl) next Q' ?_
 intro ρ' v' w' hv hl a d
 simp only [aR,List.length_singleton] at hl a
 exact hk ρ' v' w' hv oO (fun i hi=>a i oO) d
def iK (P:Program) (call:jk):Prop:=∀ f args σ r,call f args σ=some r→Ev P f args σ r.1 r.2.1∧Keep r.2.2 σ r.2.1
section
variable {P:Program} {T:Tab} {e:Env} {tr:PT} {σ:Heap} {r:Value×Heap×Nat} {x y:Operand} {u v:Value}
theorem Zu (hT:gZ P T) {t:TypeId} (hx:aP e x=some u) (hy:aP e y=some v) (h:OZ T t u v σ=some r):SR P (.call { callee:=.builtin .append,args:=#[x,y],argTypes:=#[t,t] }) e σ r:=by
 simp only [OZ,aL,aN,aE] at h
 obtain ⟨q,h1,el,h2,z,h3,⟨⟨⟨h4,h5⟩,h6⟩,h7⟩,g,h8,h9,a⟩:=h
 rw [kY h1] at hy
 haveI:Sl P t el:=⟨hT.sl _ _ h2⟩
 haveI:Ty P el z.1 z.2.1 z.2.2.1 z.2.2.2:=⟨hT.ty _ _ h3⟩
 have d:z.2.2.1.cells.size=z.1:=by simpa using aM h4
 have f:=cA h6
 have c:0<q.2.2.1:=Nat.blt_eq.mp h7
 unfold Si at a
 split at a
 ·rename_i p hp
  cases hz:Nat.beq p.2.1 0 with
  |true =>
   rw [hz] at a
   simp only [cond_true,appX,aN,aL,fV] at a
   obtain ⟨g1,cs,g2,g3⟩:=a
   cases g3
   have e0:=aM hz
   rw [yY hp,e0] at hx
   exact ⟨fun rd ty=>JA d h5 hx g2 hy h8 c (cA g1) f,Keep.app⟩
  |false =>
  rw [hz] at a
  simp only [cond_false,appG,aN,aL,aE] at a
  obtain ⟨⟨g1,g2⟩,ob,g3,g4⟩:=a
  unfold afV at g4
  split at g4
  ·rename_i cs el'
   simp only [aN,fV,aE] at g4
   obtain ⟨⟨g5,g6⟩,g7⟩:=g4
   cases g7
   have g5:=aM g5
   subst g5
   rw [yY hp,aM g1] at hx
   refine ⟨fun rd ty=>iQ d h5 hx g3 (aM g6) hy h8 c h9 (by have:=cA g2;omega) f,?_⟩
   exact (Keep.set.trans (Keep.app (lo:=p.1))).mono oS
  ·cases g4
 ·cases hn:xE u with
  |true =>
   rw [hn] at a
   simp only [cond_true,app0,aN,fV] at a
   obtain ⟨g1,g2⟩:=a
   cases g2
   rw [rV hn] at hx
   refine ⟨fun rd ty=>SK (el:=el) ?_,⟨by simp,fun i _ hi=>by rw [cD];exact bR hi⟩⟩
   have j:aJ (σ++[.gr [] el]) q.1 q.2.1 (q.2.2.1*z.1)=some g:=by
    unfold aJ at h8 ⊢
    have hq:q.1 < σ.length:=by
     cases hh:σ[q.1]? with
     |none=>rw [hh] at h8;cases h8
     |some o=>exact aQ hh
    rw [bR hq];exact h8
   have:=iQ (P:=P) (rd:=rd) (ty:=ty) (e:=e) (σ:=σ++[.gr [] el]) (x:=x) (y:=y) (t:=t) (el:=el) (i:=σ.length) (n:=0) (cs:=[]) d h5 (by simpa [dW] using hx) oS oS hy j c h9 (by have:=cA g1;omega) f
   simpa using this
  |false =>
   rw [hn] at a
   simp only [cond_false] at a
   cases hz:isZS u with
   |true =>
    rw [hz] at a
    simp only [cond_true,appE,aN,fV] at a
    obtain ⟨g1,g2⟩:=a
    cases g2
    have hu:u=.slice none 0 1:=by unfold isZS at hz;split at hz <;> simp_all
    rw [hu] at hx
    exact ⟨fun rd ty=>Vj d hx hy h8 c (cA g1) f h5,Keep.app⟩
   |false =>
   rw [hz] at a
   simp only [cond_false,RZ,aL,afW,aN] at a
   obtain ⟨p,hp,g1,g2⟩:=a
   obtain ⟨σ',g3,rfl⟩:=IB g2
   obtain ⟨g4,g5⟩:=Iz g3
   rw [kY hp] at hx
   exact ⟨fun rd ty=>Rx hx hy c (cA g1) h8 h9 g4,g5⟩
theorem aeI (hT:gZ P T) {t t2:TypeId} (hx:aP e x=some u) (hy:aP e y=some v) (h:abk T t u v σ=some r):SR P (.call { callee:=.builtin .copy,args:=#[x,y],argTypes:=#[t,t2] }) e σ r:=by
 simp only [abk,aL,aN,aE] at h
 obtain ⟨p,h1,q,h2,el,h3,z,h4,⟨h5,h6⟩,news,h7,h8,h9⟩:=h
 obtain ⟨σ',g3,rfl⟩:=IB h9
 obtain ⟨g4,g5⟩:=Iz g3
 rw [kY h1] at hx
 rw [kY h2,aM h5] at hy
 haveI:Sl P t el:=⟨hT.sl _ _ h3⟩
 haveI:Ty P el z.1 z.2.1 z.2.2.1 z.2.2.2:=⟨hT.ty _ _ h4⟩
 exact ⟨fun rd ty=>XB hx hy (Nat.blt_eq.mp h6) h7 h8 g4,g5⟩
theorem abW (hT:gZ P T) {t:TypeId} (hx:aP e x=some u) (h:VG T t u σ=some r):SR P (.call { callee:=.builtin .clear,args:=#[x],argTypes:=#[t] }) e σ r:=by
 simp only [VG,aL,aN,aE] at h
 obtain ⟨p,h1,el,h3,z,h4,⟨⟨⟨h5,h6⟩,h7⟩,h8⟩,h9⟩:=h
 obtain ⟨σ',g3,rfl⟩:=IB h9
 obtain ⟨g4,g5⟩:=Iz g3
 rw [kY h1] at hx
 haveI:Sl P t el:=⟨hT.sl _ _ h3⟩
 haveI:Ty P el z.1 z.2.1 z.2.2.1 z.2.2.2:=⟨hT.ty _ _ h4⟩
 exact ⟨fun rd ty=>DL h5 (by simpa using aM h6) hx (Nat.blt_eq.mp h7) h8 g4,g5⟩
theorem VP {u v:Value} (h:eqV u v=true):u=v:=by
 unfold eqV at h
 split at h
 ·rename_i x hx
  unfold eqI at h
  split at h
  ·rename_i y hy
   simp only [aE,decide_eq_true_eq] at h
   rw [jC hx,jC hy,h.1,h.2]
  ·cases h
 split at h
 ·rename_i b hb
  unfold eqB at h
  split at h
  ·rename_i c hc
   rw [rU hb,rU hc]
   simpa using h
  ·cases h
 unfold eqV1 at h
 split at h
 ·rename_i p hp
  unfold eqS at h
  split at h
  ·rename_i q hq
   simp only [aE] at h
   obtain ⟨⟨⟨h1,h2⟩,h3⟩,h4⟩:=h
   rw [kY hp,kY hq,aM h1,aM h2,aM h3,aM h4]
  ·cases h
 split at h
 ·rename_i p hp
  unfold eqP at h
  split at h
  ·rename_i q hq
   simp only [aE] at h
   rw [jD hp,jD hq,aM h.1,aM h.2]
  ·cases h
 unfold eqV2 at h
 have g3:∀ {v:Value} {p:Nat×Nat×Nat×Nat×Nat},aef v=some p→v=.slice (some ⟨p.1,p.2.1,some p.2.2.1⟩) p.2.2.2.1 p.2.2.2.2:=by
  intro v p h;unfold aef at h;split at h <;> cases h <;> rfl
 split at h
 ·rename_i p hp
  unfold eqG at h
  split at h
  ·rename_i q hq
   simp only [aE] at h
   obtain ⟨⟨⟨⟨h1,h2⟩,h3⟩,h4⟩,h5⟩:=h
   rw [g3 hp,g3 hq,aM h1,aM h2,aM h3,aM h4,aM h5]
  ·cases h
 ·simp only [eq,aE] at h
  rcases h with h|h
  ·rw [rV h.1,rV h.2]
  ·rw [Bq h.1,Bq h.2]
theorem pG:∀ {a b:List Value},Ag a b=true→a=b
 |[],b,h=>by simp only [Ag,List.isEmpty_iff] at h;exact h.symm
 |u::us,[],h=>by simp [Ag] at h
 |u::us,v::vs,h=>by
  simp only [Ag,aE] at h
  rw [VP h.1,pG h.2]
theorem oL {o:aB} {cs:List Value} (h:sW o=some cs):o=.rw cs:=by unfold sW at h;split at h <;> cases h <;> rfl
theorem rW {o:aB} {cs:List Value} (h:wV o=some cs):o=.ro cs:=by unfold wV at h;split at h <;> cases h <;> rfl
theorem yZ {o:aB} {x:List Value×Nat} (h:Bj o=some x):o=.gr x.1 x.2:=by unfold Bj at h;split at h <;> cases h <;> rfl
theorem Fv {o:aB} (h:Fp o=true):o=.dead:=by unfold Fp at h;split at h <;> simp_all
theorem ahi {a b:aB} (h:eqO a b=true):a=b:=by
 unfold eqO at h
 split at h
 ·rename_i x hx
  split at h
  ·rename_i y hy
   rw [oL hx,oL hy,pG h]
  ·cases h
 split at h
 ·rename_i x hx
  split at h
  ·rename_i y hy
   rw [rW hx,rW hy,pG h]
  ·cases h
 unfold eqO2 at h
 split at h
 ·rename_i x hx
  split at h
  ·rename_i y hy
   simp only [aE] at h
   rw [yZ hx,yZ hy,pG h.2,aM h.1]
  ·cases h
 ·simp only [aE] at h
  rw [Fv h.1,Fv h.2]
theorem VR:∀ {a b:Heap},eqH a b=true→∀ i,i<a.length→b[i]?=a[i]?
 |[],b,h,i,hi=>by simp at hi
 |u::us,[],h,i,hi=>by simp [eqH] at h
 |u::us,v::vs,h,i,hi=>by
  simp only [eqH,aE] at h
  cases i with
  |zero=>simp [ahi h.1]
  |succ i=>simpa using VR h.2 i (oU hi)
theorem aeJ {r0:Value×Heap×Nat} (h:fixR σ r0=some r) (hk:Keep r0.2.2 σ r0.2.1):r.1=r0.1∧r.2.1=r0.2.1∧Keep r.2.2 σ r.2.1:=by
 unfold fixR at h
 cases h1:Nat.ble σ.length r0.2.2 with
 |true=>rw [h1] at h;cases h;exact ⟨rfl,rfl,hk⟩
 |false =>
  rw [h1] at h
  simp only [cond_false] at h
  cases h2:Sj r0.2.2 σ r0.2.1 with
  |false=>rw [h2] at h;cases h;exact ⟨rfl,rfl,hk⟩
  |true =>
   rw [h2] at h
   cases h
   refine ⟨rfl,rfl,hk.1,fun i hi hl=>?_⟩
   by_cases a:i<r0.2.2
   ·exact hk.2 i a hl
   ·have:=VR h2 (i - r0.2.2) (by simp;omega)
    simp only [eO] at this
    rwa [show r0.2.2+(i - r0.2.2)=i by omega] at this
theorem aeK {call:jk} (hT:gZ P T) (hc:iK P call) {l:List Operand} {ts:Array TypeId} {vs:List Value} (hx:aP e x=some u) (hl:wP e l=some vs) (h:abl T call u vs σ=some r) :
  SR P (.call { callee:=.value x,args:=l.toArray,argTypes:=ts }) e σ r:=by
 simp only [abl,aL,aN] at h
 obtain ⟨f,h1,h2,r0,h3,h4⟩:=h
 obtain ⟨z,hz⟩:=Option.isSome_iff_exists.1 h2
 haveI:GoFn P f.1:=⟨(hT.fn _ _ hz).1⟩
 obtain ⟨h5,h6⟩:=hc _ _ _ _ h3
 obtain ⟨h7,h8,h9⟩:=aeJ h4 h6
 rw [Ed h1] at hx
 refine ⟨fun rd ty=>?_,h9⟩
 rw [h7,h8]
 exact bG hx hl rfl h5
theorem abX {call:jk} (hT:gZ P T) (hc:iK P call) (ha:Agr e tr) {c:Call} (h:abp c T call tr σ=some r):SR P (.call c) e σ r:=by
 obtain ⟨l,⟨d⟩,⟨ts⟩⟩:=c
 have h:D6 l d ts T call tr σ=some r:=h
 cases l with
 |value f =>
  simp only [D6,XO] at h
  obtain ⟨u,h1,h2⟩:=uz ha h
  obtain ⟨vs,h3,h4⟩:=Option.bind_eq_some_iff.1 h2
  exact aeK hT hc h1 (JI ha h3) h4
 |builtin bn =>
  simp only [D6] at h
  have b1:∀ {f:Tab→TypeId→Value→Heap→Res},ael f d ts T call tr σ=some r→∃ x t u,d=[x]∧ts=[t]∧aP e x=some u∧f T t u σ=some r:=by
   intro f hf
   unfold ael at hf
   split at hf
   ·simp only [aL,aN] at hf
    obtain ⟨t,h1,h2,h3⟩:=hf
    obtain ⟨u,h4,h5⟩:=uz ha h3
    cases ts with
    |nil=>cases h1
    |cons a b=>simp only [List.head?_cons,Option.some.injEq,List.tail_cons,List.isEmpty_iff] at h1 h2;subst h1 h2;exact ⟨_,_,u,rfl,rfl,h4,h5⟩
   ·cases hf
  have b2:∀ {f:Tab→TypeId→TypeId→Value→Value→Heap→Res},abo f d ts T call tr σ=some r→∃ x y t t' u v,d=[x,y]∧ts=[t,t']∧aP e x=some u∧aP e y=some v∧f T t t' u v σ=some r:=by
   intro f hf
   unfold abo at hf
   split at hf
   ·simp only [aL,aN] at hf
    obtain ⟨t,h1,t',i,h2,h3⟩:=hf
    obtain ⟨u,v,h4,j,h5⟩:=BN ha h3
    match ts,h1,i,h2 with
    |[a,b],h1,i,_=>simp only [List.head?_cons,Option.some.injEq,List.tail_cons] at h1 i;subst h1 i;exact ⟨_,_,_,_,u,v,rfl,rfl,h4,j,h5⟩
    |_::_::_::_,_,_,h2=>simp at h2
   ·cases hf
  have bm:∀ {g:Int→Int→Int},aem g d ts T call tr σ=some r→∃ x y k m n,d=[x,y]∧aP e x=some (.int k m)∧aP e y=some (.int k n)∧iJ (.int k (g m n)) σ=some r:=by
   intro g hf
   unfold aem at hf
   split at hf
   ·obtain ⟨u,v,h4,j,h5⟩:=BN ha hf
    simp only [rMM,aL,aN,decide_eq_true_eq] at h5
    obtain ⟨a,g1,b,g2,g3,g4⟩:=h5
    rw [jC g1] at h4
    rw [jC g2,← g3] at j
    exact ⟨_,_,_,_,_,rfl,h4,j,g4⟩
   ·cases hf
  unfold Nu at h
  split at h
  ·obtain ⟨x,t,u,rfl,rfl,h1,h2⟩:=b1 h
   exact ahh hT h1 h2
  ·obtain ⟨x,t,u,rfl,rfl,h1,h2⟩:=b1 h
   exact abW hT h1 h2
  ·obtain ⟨x,y,k,m,n,rfl,h1,h2,h3⟩:=bm h
   exact SR.pure h3 fun rd ty=>Cc h1 h2
  ·obtain ⟨x,y,k,m,n,rfl,h1,h2,h3⟩:=bm h
   exact SR.pure h3 fun rd ty=>Ce h1 h2
  ·obtain ⟨x,y,t,t',u,v,rfl,rfl,h1,h2,h3⟩:=b2 h
   obtain ⟨h4,h5⟩:=aN.1 h3
   have h4:=aM h4
   subst h4
   exact Zu hT h1 h2 h5
  ·obtain ⟨x,y,t,t',u,v,rfl,rfl,h1,h2,h3⟩:=b2 h
   exact aeI hT h1 h2 h3
  ·obtain ⟨x,y,t,t',u,v,rfl,rfl,h1,h2,h3⟩:=b2 h
   exact Zt hT h1 h2 h3
  ·cases h
 |invoke a b=>cases h
theorem ahj (hx:aP e x=some u) (h:rNil u σ=some r):SR P (.nilCheck x) e σ r:=by
 simp only [rNil,aN,eq] at h
 obtain ⟨h1,h2⟩:=h
 rcases h1 with h1|h1
 ·obtain ⟨p,hp⟩:=Option.isSome_iff_exists.1 h1
  have:=jD hp;subst this
  exact SR.pure h2 fun rd ty=>jT hx
 ·obtain ⟨p,hp⟩:=Option.isSome_iff_exists.1 h1
  have:=Ed hp;subst this
  exact SR.pure h2 fun rd ty=>ad2 hx
theorem aeL {call:jk} (ha:Agr e tr) {c a b:Operand} (h:VH c a b T call tr σ=some r):SR P (.pick c a b) e σ r:=by
 simp only [VH,aL] at h
 obtain ⟨t,⟨w,h1,h2⟩,h3⟩:=h
 have h1:=um ha h1
 rw [rU h2] at h1
 cases t with
 |true =>
  simp only [abg,aL] at h3
  obtain ⟨z,h4,h5⟩:=h3
  exact SR.pure h5 fun rd ty=>kR h1 rfl (um ha h4)
 |false =>
  simp only [abg,aL] at h3
  obtain ⟨z,h4,h5⟩:=h3
  exact SR.pure h5 fun rd ty=>jA h1 rfl (um ha h4)
theorem Nz {call:jk} (hT:gZ P T) (hc:iK P call) (ha:Agr e tr) {op:Op} (h:VI op T call tr σ=some r):SR P op e σ r:=by
 unfold VI at h
 split at h
 ·obtain ⟨u,h1,h2⟩:=uz ha h;exact SR.pure h2 fun rd ty=>eP h1
 ·obtain ⟨u,h1,h2⟩:=uz ha h;exact SR.pure h2 fun rd ty=>kK h1
 ·obtain ⟨u,h1,h2⟩:=uz ha h;exact aeE hT h1 h2
 ·obtain ⟨u,v,h1,h2,h3⟩:=BN ha h;exact abP hT h1 h2 h3
 ·obtain ⟨u,v,h1,h2,h3⟩:=BN ha h;exact ahf hT (fun g1 g2=>aeH hT h1 (by rw [h2,Nw g1]) g2) h1 h2 h3
 ·obtain ⟨u,h1,h2⟩:=uz ha h;exact fa_ok hT h1 h2
 ·obtain ⟨u,v,h1,h2,h3⟩:=BN ha h;exact aeF hT h1 h2 h3
 ·obtain ⟨u,h1,h2⟩:=uz ha h;exact abQ hT h1 h2
 ·obtain ⟨u,v,h1,h2,h3⟩:=BN ha h;exact ahg hT h1 h2 h3
 ·exact aeL ha h
 ·rename_i o t x
  unfold stUn at h
  split at h
  ·obtain ⟨u,h1,h2⟩:=uz ha h
   simp only [rNot,aL] at h2
   obtain ⟨b,h3,h4⟩:=h2
   rw [rU h3] at h1
   exact SR.pure h4 fun rd ty=>kW h1
  ·obtain ⟨u,h1,h2⟩:=uz ha h
   simp only [rNeg,aL] at h2
   obtain ⟨b,h3,h4⟩:=h2
   rw [jC h3] at h1
   exact SR.pure h4 fun rd ty=>UZ h1
  ·cases h
 ·obtain ⟨u,h1,h2⟩:=uz ha h
  simp only [RY,aL] at h2
  obtain ⟨l,h3,w,h4,h5⟩:=h2
  rw [Aj h3] at h1
  exact SR.pure h5 fun rd ty=>Cb h1 (oU h4)
 ·obtain ⟨u,h1,h2⟩:=uz ha h;exact ahj h1 h2
 ·obtain ⟨u,h1,h2⟩:=uz ha h
  exact SR.new h2 fun rd ty=>OB h1
 ·simp only [XK,abj,aL,aN] at h
  obtain ⟨y,h1,h2,h3⟩:=h
  haveI:Ty P _ y.1 y.2.1 y.2.2.1 y.2.2.2:=⟨hT.ty _ _ h1⟩
  exact SR.new h3 fun rd ty=>kC h2
 ·obtain ⟨u,h1,h2⟩:=uz ha h;exact aeG hT h1 h2
 ·rename_i f l1 l2
  cases f with
  |func g =>
   simp only [afX,aL] at h
   obtain ⟨v1,h1,v2,h2,h3⟩:=h
   obtain ⟨l1⟩:=l1
   obtain ⟨l2⟩:=l2
   exact SR.pure h3 fun rd ty=>zN (JI ha h1) (JI ha h2)
  |_=>cases h
 ·simp only [XL,aL] at h
  obtain ⟨vs,h1,h2⟩:=h
  exact abR hT (Pn ha h1) h2
 ·simp only [JE,aL] at h
  obtain ⟨vs,h1,h2⟩:=h
  exact Zp hT (Pn ha h1) h2
 ·obtain ⟨u,v,h1,h2,h3⟩:=BN ha h;exact abS hT h1 h2 h3
 ·obtain ⟨u,h1,h2⟩:=uz ha h
  simp only [aL] at h2
  obtain ⟨a,h3,b,h4,c,h5,h6⟩:=h2
  have d:∀ {o:Option Operand} {a:Option Int},opt tr o=some a→(∀ x,o=some x→∃ q m,aP e x=some (.int q m)∧a=some m)∧(o=none→a=none):=by
   intro o a ho
   cases o with
   |none=>cases ho;exact ⟨fun _ h=>by (cases h),fun _=>rfl⟩
   |some x =>
    simp only [opt,aL] at ho
    obtain ⟨w,⟨z,g1,g2⟩,g3⟩:=ho
    have g1:=um ha g1
    rw [jC g2] at g1
    exact ⟨fun x' i=>by cases i;exact ⟨_,_,g1,by cases g3;rfl⟩,fun h=>by (cases h)⟩
  exact abT hT h1 (d h3).1 (d h3).2 (d h4).1 (d h4).2 (d h5).1 (d h5).2 h6
 ·obtain ⟨u,v,h1,h2,h3⟩:=BN ha h;exact Zr hT h1 h2 h3
 ·obtain ⟨u,k,h1,h2,h3⟩:=BN ha h
  obtain ⟨v,h4,h5⟩:=uz ha h3
  exact (SI hT h1 h2 h4 h5).1
 ·obtain ⟨u,k,h1,h2,h3⟩:=BN ha h
  obtain ⟨v,h4,h5⟩:=uz ha h3
  exact (SI hT h1 h2 h4 h5).2
 ·rename_i n
  obtain ⟨h1,h2⟩:=aN.1 h
  cases n with
  |none=>exact abV h2
  |some _=>cases h1
 ·exact abX hT hc ha h
 ·cases h
theorem Am {call:jk} (hT:gZ P T) (hc:iK P call) (ha:Agr e tr) {N:Nat} {d:Option Nat} {op:Op} (h:Sr T N d op T call tr σ=some r):SR P op e σ r:=by
 unfold Sr at h
 split at h
 ·cases hg:isGl T N d with
  |true =>
   rw [hg] at h
   simp only [cond_true,Sm,aL] at h
   obtain ⟨vs,h1,h2⟩:=h
   exact Zq hT (Pn ha h1) h2
  |false=>rw [hg] at h;exact Nz hT hc ha (op:=.buildSlice ..) h
 ·exact Nz hT hc ha h
end
end Go.AH
