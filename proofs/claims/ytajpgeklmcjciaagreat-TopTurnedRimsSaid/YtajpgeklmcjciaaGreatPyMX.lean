/- Lemmas. No conditions. -/
import Derived.Test.YtajpgeklmcjciaaGreatPyMC
open Go Go.AH
namespace Go.AH
section ops
variable {P:Program} {rd:Option Nat} {ty:TypeId} {e:Env} {U:Heap} {x y a:Operand}
theorem VX {t el size bytes i n sz:Nat} {agg:Bool} {z:Value} {k k':IntKind} [ha:Sl P t el] [ht:Ty P el size agg z bytes] (hx:aT e x=some (.slice (some ⟨i,0,some sz⟩) n n)) (hy:aT e y=some (.int k (n:Nat))) (hz:aT e a=some (.int k' (n:Nat))) :
  bY P rd (.slice t x none (some y) (some a)) ty e U (.slice (some ⟨i,0,some 0⟩) n n) U :=
 dh oS fun op ho _ G w0 V A w hs c=>by
  have hv:=c x (by simp [Op.operands]) _ hx
  have h1:=bH (c y (by simp [Op.operands]) _ hy) rfl
  have h2:=bH (c a (by simp [Op.operands]) _ hz) rfl
  obtain ⟨e1,e2⟩:=Bg ha
  generalize hr:A.eval x=r at hv
  cases hv with
  |gslice _ _ _ _ cap _ hc hcs hi _ =>
   have hcap:=hc.1
   have:=run_slice_hm (P:=P) w t (some ⟨(V i).b,(V i).o+0,none⟩) n cap e1 k k' n n oO oO oO
   simp only [dj] at this
   refine ⟨V,.slice (some ⟨(V i).b,(V i).o+0,none⟩) n n,w,.inl ?_,VQ.gslice i 0 n n n 0 ⟨aD _,fun _=>rfl⟩ oO hi rfl,aD _,fun _ _=>rfl,hs⟩
   have e3:sliced (some ⟨(V i).b,(V i).o+0,none⟩) 0 n n size=.slice (some ⟨(V i).b,(V i).o+0,none⟩) n n:=by simp only [sliced];split <;> simp [addr_add]
   simp only [cV] at hr this e3 ⊢
   simp [execOp,ho,hr,h1,h2,run_sliceAt_slice _ _ _ _ _ _ e1,this,e2,ht.sizeOf,e3]
  |gsliceG _ _ _ _ _ _ _ _ hq=>simp at hq
theorem JR {t el size bytes i o n j oj m c:Nat} {agg:Bool} {z:Value} {cs news:List Value} [ha:Sl P t el] [ht:Ty P el size agg z bytes] (hzs:z.cells.size=size) (h0:Nat.blt 0 size=true)
  (hx:aT e x=some (.slice (some ⟨i,o,some 0⟩) n n)) (hcs:aK U i o (n*size)=some cs) (hy:aT e y=some (.slice (some ⟨j,oj,none⟩) m c)) (hc:aK U j oj (m*size)=some news) (hm:0<m)
  (hb:n+m<=1000000) (hby:bytes<=1000000) :
  bY P rd (.call { callee:=.builtin .append,args:=#[x,y],argTypes:=#[t,t] }) ty e U (eP U.length size (n+m)) (U++[.gr (cs++news) el]) :=
 dh oS fun op ho _ G w0 V A w hs D=>by
  have F:=D x (by simp [Op.operands,Call.operands]) _ hx
  have E:=D y (by simp [Op.operands,Call.operands]) _ hy
  obtain ⟨ie,i1,i2,i3,i4⟩:=ht.info
  have I:A.eval x=.slice (some ⟨(V i).b,(V i).o+o,none⟩) n n:=by
   generalize hr:A.eval x=r at F
   cases F with
   |gslice _ _ _ _ cap _ h _ _ _=>rw [<- h.2 rfl]
   |gsliceG _ _ _ _ _ _ _ _ hq=>simp at hq
  have l:∃ c',A.eval y=.slice (some ⟨(V j).b,(V j).o+oj,none⟩) m c':=by
   generalize hr:A.eval y=r at E
   cases E with
   |emptySlice=>omega
   |slice _ _ _ _ c' _ _=>exact ⟨c',rfl⟩
   |sliceG _ _ _ _ _ _ _ _ hq=>simp at hq
  obtain ⟨c',l⟩:=l
  obtain ⟨rs,L,v,g⟩:=CU hs hc
  obtain ⟨os,K,u,a⟩:=CU hs hcs
  have H:news.length=m*size:=by
   have:=g.1;simp at this;omega
  have J:cs.length=n*size:=by
   have:=a.1;simp at this;omega
  have d:(n+m)*ie.bytes<=140737488355328:=by rw [i4];exact eg (Nat.mul_le_mul hb hby) oD
  have C:=grownCap_ge w (n+m) n el
  have s:(os.toArray++rs.toArray++Builtin.zeroCells z.cells (grownCap w (n+m) n el - (n+m))).size=grownCap w (n+m) n el*size:=by
   simp only [Array.size_append,fm,size_zeroCells,hzs,v,u,<- Nat.add_mul]
   congr 1;omega
  have f:(cs++news).length=(n+m)*size:=by rw [bA,J,H,Nat.add_mul]
  have M:=kW (DN hs) (.cells (os.toArray++rs.toArray++Builtin.zeroCells z.cells (grownCap w (n+m) n el - (n+m))) el) (.gr (cs++news) el) (grownCap w (n+m) n el*size) (by
   intro _
   refine ⟨fun hg=>by have h1:=(hs.fgn _ hg).1;have:=hs.size;simp only at h1;have e2:w.drew.heap.size=w.heap.size:=rfl;omega,rfl,_,iC w.drew _,s,?_,fun k hk hk'=>?_⟩
   ·rw [s,f];exact fd _ C
   ·have B:k<(os.toArray++rs.toArray).size:=by simp at hk ⊢;omega
    rw [Array.getElem_append_left B]
    have:=mM a g
    exact (this.2 k (oU hk) B).mono oS fun q hq=>iT (oU hq))
  refine ⟨_,.slice (some ⟨w.heap.size,0,none⟩) (n+m) (grownCap w (n+m) n el),_,.inl ?_,?_,by simp,fun k hk=>iT hk,M⟩
  ·have p:=run_append_grow (P:=P) w t op.type el ie z ha.und i1 i3 ⟨(V i).b,(V i).o+o,none⟩ n n os (by rw [i2];exact u) K ⟨(V j).b,(V j).o+oj,none⟩ m c' rs (by rw [i2];exact v) L oO oO (growslice_fits oO d)
   simp [execOp,ho,resolve,invoke,builtin,I,l,p]
  ·have:=Aa (n:=(U++[aC.gr (cs++news) el]).length) (V:=upd V U.length w.heap.size (grownCap w (n+m) n el*size)) (i:=U.length) (sz:=size) (k:=n+m) (c':=grownCap w (n+m) n el) oO oS ⟨C,fun h=>by have:=Nat.blt_eq.mp h0;omega⟩ (by simp [upd])
   rw [oh] at this;exact this
end ops
section
variable {P:Program} {rd:Option Nat} {ty:TypeId} {e:Env} {U:Heap} {x y:Operand}
def ZY (k:IntKind) (f:Nat->Int) (n:Nat) (xs:Array Value):Prop:=∀ i<n,xs.toList[i]?=some (.int k (f i))
theorem Ee {el:TypeId} {bytes:Nat} {z:Value} {w:World} {k:IntKind} (ht:Ty P el 1 false z bytes) (hk:Ik P el k) (d:Nat) {n:Nat} {f g:Nat->Int} {xs ys:Array Value} (hx:ZY k f n xs) (hy:ZY k g n ys) :
  ∀ is:List Nat,(∀ i ∈ is,i<n)->(Op.eqItems (d+2) el 1 xs ys is).run P w=.ok (decide (∀ i ∈ is,f i=g i)) w
 |[],_=>by simp [Op.eqItems]
 |i::is,h=>by
  have hi:=h i oS
  have ih:=Ee (w:=w) ht hk d hx hy is fun j hj=>h j (dm _ hj)
  have q:(Op.equalIn (d+2) el (.int k (f i)) (.int k (g i))).run P w=.ok (decide (f i=g i)) w:=by
   have:=hk.und
   simp [Op.equalIn,underlying,this]
   rfl
  have a1:(part el xs (i*1)).run P w=.ok (.int k (f i)) w:=yt ht (by rw [cH];exact hx i hi)
  have a2:(part el ys (i*1)).run P w=.ok (.int k (g i)) w:=yt ht (by rw [cH];exact hy i hi)
  simp only [Op.eqItems,Sem.run_bind,a1,a2,q,Result.andThen_ok]
  by_cases a:f i=g i
  ·simp [ih,a]
  ·simp [a]
theorem NP {t t' el n bytes:Nat} {z:Value} {k:IntKind} {f g:Nat->Int} {xs ys:List Value} [ha:Ar P t n el] [ht:Ty P el 1 false z bytes] [hk:Ik P el k] (hg:P.eqGuardType P.depth t=false)
  (hx:aT e x=some (.agg xs.toArray)) (hy:aT e y=some (.agg ys.toArray)) (hpx:dN xs=true) (hpy:dN ys=true) (hf:ZY k f n xs.toArray) (hgg:ZY k g n ys.toArray) :
  bY P rd (.binOp .eql t x y t') ty e U (.bool (decide (∀ i ∈ List.range n,f i=g i))) U :=
 kK oS rfl fun o ho _ A hA w=>by
  have h1:=hA x (by simp [Op.operands]) _ hx hpx
  have h2:=hA y (by simp [Op.operands]) _ hy hpy
  obtain ⟨ie,i1,i2,i3,i4⟩:=ht.info
  have hc:P.cellsOf el=1:=by simp [Program.cellsOf,i1,i2]
  have g1:=run_equalIn_array (P:=P) (w:=w) 9999 xs.toArray ys.toArray ha.und i1
  rw [hc] at g1
  have g2:=Ee (w:=w) ht hk 9997 hf hgg (List.range n) (fun i hi=>List.mem_range.1 hi)
  rw [g2] at g1
  simp only [execOp,ho,h1,h2]
  simp only [run_eqGuard_agg _ _ _ _ _ _ _ hg,run_eql_struct,g1,Sem.run_bind,Result.andThen_ok,Sem.run_pure]
end
section ops
variable {P:Program} {rd:Option Nat} {ty:TypeId} {e:Env} {U:Heap}
theorem Z4 {V:Rho} {n B l:Nat}:gJ (n+1) (upd V n B) (.slice (some ⟨n,0,some 0⟩) l l) (.slice (some ⟨B,0,none⟩) l l):=by
 have:=VQ.gslice (q:=false) (n:=n+1) (V:=upd V n B) n 0 l l l 0 ⟨aD _,fun _=>rfl⟩ (by simp [upd]) oO rfl
 simpa [upd] using this
theorem VY {t el size bytes len:Nat} {agg:Bool} {z:Value} {ps:List (Nat×Operand)} {vs:List (Nat×Value)} {cs:List Value} [ha:Sl P t el] [ht:Ty P el size agg z bytes] (hz:plain z=true)
  (hsz:z.cells.size=size) (h0:Nat.blt 0 (len*size)=true) (h1:Nat.ble (len*size) 16777216=true) (h:tJ e ps=some vs) (hf:rO (fun i=>some (i*size,size)) (fZ (dM z) len) vs=some cs) :
  bY P rd (.buildSlice t len ps.toArray) ty e U (.slice (some ⟨U.length,0,some 0⟩) len len) (U++[.rw cs]) :=
 dh oS fun op ho _ G w0 V A w hs hx=>by
  obtain ⟨g1,g2⟩:=uQ (A:=A) (n:=U.length) (V:=V) (fun p hp u hu=>hx p.2 (by simp only [Op.operands];simp;exact ⟨p.1,hp⟩) u hu) h
  obtain ⟨ie,i1,i2,i3,_⟩:=ht.info
  obtain ⟨rc,g3,g4⟩:=vH vs _ _ _ _ (zZ (n:=U.length) (V:=V) (k:=len) hz hsz) g1 g2 hf
  refine ⟨upd V U.length w.heap.size,.slice (some ⟨w.heap.size,0,none⟩) len len,w.alloc (.cells rc el),.inl ?_,by rw [bA];exact Z4,by simp,fun i hi=>iT hi,CQ hs el 0 g4⟩
  have h0':=Nat.blt_eq.mp h0
  have h1':=cC h1
  have:=run_buildSlice (P:=P) w t el len (ps.toArray.map fun p=>(p.1,A.eval p.2)) rc ie z ha.und i1 i3 (by rw [i2];omega) (by rw [i2];omega) (by
   rw [i2]
   have em:(Array.range (len*size)).map (z.cells[· % z.cells.size]!)=madeCells z.cells (len*size):=rfl
   rw [em];simpa using g3)
  simp only [List.map_toArray] at this
  simp [execOp,ho,this]
end ops
def prmG (Z:List Nat):Option (Nat×Bool)->Option (Nat×Bool)
 |none=>none
 |some (g,b)=>some (Z.idxOf g,b)
def Z5 (Z:List Nat) (o:Oper):Oper:={ o with after:=⟨o.after.toList.map fun e=>⟨Z.idxOf e.on,e.ground⟩⟩,guard:=prmG Z o.guard }
def kD (Z:List Nat) (l:List Oper):List Oper:=Z.map fun i=>Z5 Z (l.getD i default)
def vU (Z:List Nat) (l:List Oper):Bool:=decide Z.Nodup && Z.all (Nat.blt · l.length) && (List.range l.length).all (Z.contains ·) && Nat.beq Z.length l.length
section
variable {P:Program} {F:Fence} {n:Nat} {Q':Exit->Act->World->Prop} {Z:List Nat} {l:List Oper}
theorem o8 (h:vU Z l=true):Z.Nodup/\(∀ i ∈ Z,i<l.length)/\(∀ i<l.length,i ∈ Z)/\Z.length=l.length:=by
 simp only [vU,aE,decide_eq_true_eq,dT,List.mem_range,List.contains_iff_mem] at h
 exact ⟨h.1.1.1,fun i hi=>Nat.blt_eq.mp (h.1.1.2 i hi),fun i hi=>h.1.2 i hi,aM h.2⟩
theorem FH (h:vU Z l=true) {k:Nat} (hk:k < Z.length):∃ o,l[Z[k]]?=some o/\(kD Z l)[k]?=some (Z5 Z o):=by
 have hl:=(o8 h).2.1 Z[k] (cP hk)
 refine ⟨l[Z[k]],cA hl,?_⟩
 simp [kD,hk,cA hl]
theorem SG (h:vU Z l=true) {k:Nat} (hk:k < Z.length):Z.idxOf Z[k]=k:=(o8 h).1.idxOf_getElem k hk
theorem SH (h:vU Z l=true) (tm:Array Value) (g:Nat):yielded (kD Z l).toArray tm (Z.idxOf g)=yielded l.toArray tm g:=by
 have hp:=o8 h
 unfold yielded
 simp only [bR]
 by_cases hg:g<l.length
 ·have hm:=hp.2.2.1 g hg
  have hk:=List.idxOf_lt_length_iff.2 hm
  obtain ⟨o,h1,h2⟩:=FH h hk
  rw [List.getElem_idxOf hk] at h1
  rw [h1,h2];rfl
 ·have hn:g ∉ Z:=fun hm=>hg (hp.2.1 g hm)
  rw [di (Nat.le_of_not_lt hg),di]
  rw [List.idxOf_eq_length hn];simp [kD]
theorem VZ (h:vU Z l=true) (tm:Array Value) (o:Oper):Region.wanted (Z5 Z o) (yielded (kD Z l).toArray tm)=Region.wanted o (yielded l.toArray tm):=by
 obtain ⟨d,op,ty,pos,after,g⟩:=o
 cases g with
 |none=>rfl
 |some g=>obtain ⟨g,b⟩:=g;simp only [Region.wanted,Z5,prmG];rw [SH h]
theorem SI (h:vU Z l=true):∀ (fuel:Nat) (listed listed':Array Bool) (A:Act) (w:World),listed.size=l.length->listed'.size=l.length ->
  (∀ k (hk:k < Z.length),listed'.getD k false=listed.getD Z[k] false)->wpAnyIn F n P .any (kD Z l).toArray Q' fuel listed' A w->wpAnyIn F n P .any l.toArray Q' fuel listed A w:=by
 have hp:=o8 h
 have rd:∀ (listed listed':Array Bool),listed.size=l.length->listed'.size=l.length->(∀ k (hk:k < Z.length),listed'.getD k false=listed.getD Z[k] false) ->
   ∀ k (hk:k < Z.length),Z[k] ∈ Region.ready .any l.toArray listed↔k ∈ Region.ready .any (kD Z l).toArray listed':=by
  intro listed listed' hs f c k hk
  obtain ⟨o,h1,h2⟩:=FH h hk
  have hl:=hp.2.1 Z[k] (cP hk)
  have e1:listed.getD Z[k] true=listed'.getD k true:=by
   rw [getD_lt (d':=false) oO,getD_lt (d:=true) (d':=false) oO,c k hk]
  have e2:∀ x,listed'.getD (Z.idxOf x) false=listed.getD x false:=by
   intro x
   by_cases hx:x<l.length
   ·have hm:=hp.2.2.1 x hx
    have hk:=List.idxOf_lt_length_iff.2 hm
    rw [c _ hk,List.getElem_idxOf hk]
   ·have hn:x ∉ Z:=fun hm=>hx (hp.2.1 x hm)
    rw [List.idxOf_eq_length hn]
    simp [eN,Array.getElem?_eq_none,hs,f,hp.2.2.2,Nat.le_of_not_lt hx]
  rw [mem_ready,mem_ready,e1]
  refine and_congr_right fun _=>?_
  simp only [bR,h1,h2,Option.some.injEq,exists_eq_left']
  constructor
  ·intro g e he hb
   simp only [Z5] at he
   obtain ⟨e0,h3,rfl⟩:∃ a,a ∈ o.after/\({ on:=Z.idxOf a.on,ground:=a.ground }:Edge)=e:=by simpa using he
   rw [e2];exact g e0 h3 hb
  ·intro g e he hb
   rw [<- e2]
   exact g ⟨Z.idxOf e.on,e.ground⟩ (by simp only [Z5];simpa using ⟨e,he,rfl,rfl⟩) hb
 have all:∀ (listed:Array Bool),∀ i ∈ Region.ready .any l.toArray listed,∃ k,∃ hk:k < Z.length,Z[k]=i:=by
  intro listed i hi
  obtain ⟨_,o,ho,_⟩:=mem_ready.1 hi
  rw [bR] at ho
  have hm:=hp.2.2.1 i (List.getElem?_eq_some_iff.1 ho).1
  exact ⟨_,List.idxOf_lt_length_iff.2 hm,List.getElem_idxOf _⟩
 have nil:∀ (listed listed':Array Bool),listed.size=l.length->listed'.size=l.length->(∀ k (hk:k < Z.length),listed'.getD k false=listed.getD Z[k] false) ->
   Region.ready .any l.toArray listed=[]->Region.ready .any (kD Z l).toArray listed'=[]:=by
  intro listed listed' hs f c hn
  refine List.eq_nil_iff_forall_not_mem.2 fun k hk=>?_
  obtain ⟨_,o,ho,_⟩:=mem_ready.1 hk
  rw [bR] at ho
  have p:=(List.getElem?_eq_some_iff.1 ho).1
  simp only [kD,cU] at p
  have:=(rd listed listed' hs f c k p).2 hk
  rw [hn] at this;cases this
 intro fuel
 induction fuel with
 |zero =>
  intro listed listed' A w hs f c hh
  refine ⟨List.eq_nil_iff_forall_not_mem.2 fun i hi=>?_,hh.2⟩
  obtain ⟨k,hk,rfl⟩:=all _ _ hi
  have:=(rd listed listed' hs f c k hk).1 hi
  rw [hh.1] at this;cases this
 |succ fuel ih =>
  intro listed listed' A w hs f c hh
  refine ⟨fun hn=>hh.1 (nil listed listed' hs f c hn),fun i hi=>?_⟩
  obtain ⟨k,hk,rfl⟩:=all _ _ hi
  have g:=hh.2 k ((rd listed listed' hs f c k hk).1 hi)
  obtain ⟨o,h1,h2⟩:=FH h hk
  unfold wpOpIn at g ⊢
  simp only [bR,h1,h2] at g ⊢
  rw [VZ h] at g
  have hl:=hp.2.1 Z[k] (cP hk)
  have step:∀ A w,wpAnyIn F n P .any (kD Z l).toArray Q' fuel (listed'.setIfInBounds k true) A w->wpAnyIn F n P .any l.toArray Q' fuel (listed.setIfInBounds Z[k] true) A w:=by
   intro A w
   refine ih _ _ A w (oU hs) (oU f) fun j hj=>?_
   rw [iD oO,iD oO,c j hj]
   by_cases m:j=k
   ·subst m;rw [if_pos rfl,if_pos rfl]
   ·rw [if_neg m,if_neg]
    intro he
    exact m (by rw [<- SG h hj,<- SG h hk,he])
  split
  ·rename_i hw
   rw [if_pos hw] at g
   exact Oper.wpIn_mono step g
  ·rename_i hw
   rw [if_neg hw] at g
   exact ⟨g.1,step _ _ g.2⟩
end
theorem Z7 {P:Program} {n0 N:Nat} {rd:Option Nat} {Q:Post} {e:Env} {mk:List Nat} {U:Heap} {id:Nat} {l0:List Oper} (Z:List Nat) (hm:P.follows .mixedOrders=true) (hrd:lJ rd n0=true) (hπ:vU Z l0=true)
  (h:bK P N rd (kD Z l0) 0 (kD Z l0) e U [] (fun e' news tl=>drawOk (kD Z l0) ((kD Z l0).length - tl.length)=true/\dA P n0 N rd (kD Z l0) tl (Q .normal) e' mk (U++gV (fun _=>true) news))):bJ P n0 N rd (.region id l0.toArray true) Q e mk U:=by
 intro G w0 ρ0 A w hi
 obtain ⟨h0,V,ha,hs,he⟩:=hi
 refine wpIn_region_any hm ?_
 have q:l0.length=(kD Z l0).length:=by simp [kD,(o8 hπ).2.2.2]
 have hz:∀ (m k:Nat),(Array.replicate m false).getD k false=false:=fun m k=>by
  simp only [eN,eZ];split <;> rfl
 refine SI hπ _ _ (Array.replicate (kD Z l0).length false) _ _ oS (by simp [q]) (fun k hk=>by rw [hz,hz]) ?_
 rw [show l0.toArray.size=(kD Z l0).toArray.size by simpa using q]
 obtain ⟨l,B⟩:∃ l,kD Z l0=l:=⟨_,rfl⟩
 rw [B] at h q ⊢
 obtain ⟨ts,tl,f,E,a,hK⟩:=oz l 0 e U [] _ h
 obtain ⟨fr,u⟩:∃ fr,ts.map (·.o)=fr:=⟨_,rfl⟩
 rw [u] at f
 have hl:l=fr++tl:=f.symm
 have f:=u
 have F:fr.length=l.length - tl.length:=by rw [hl];simp
 rw [lq,kL] at hK
 simp only [gV,cY,e7,eM] at hK
 have n:fr.length=ts.length:=by rw [<- f];simp
 rw [<- F] at a
 have s:∀ (i:Nat) (hi:i<ts.length),l[i]?=some ts[i].o:=by
  intro i hi
  rw [hl,bO oO,<- f];simp [hi]
 have z:∀ (i:Nat) (o:aC),U[i]?=some o->fV U.length o:=fun i o hi=>jg (hs.obj i o hi)
 have r:∀ i,(Array.replicate l.toArray.size false).getD i false=false:=fun i=>by
  simp only [eN,eZ];split <;> rfl
 rw [n] at a
 refine free_any (e0:=e) (mk:=mk) (σ0:=U) (ρ0:=ρ0) (G:=G) (w0:=w0) (N:=N) (n0:=n0) (ts:=ts) hrd s a h0 he.mkb z E ?_ (by rw [hl];simp;omega) _ _ _ _ V oS (fun i _=>r i) ?_ ?_ ?_
 ·intro A' w' ρ' p c C hp hd hf
  refine tail_any (lV ρ0 rd) a tl ts.length p c A' w' (aD _) (by rw [hl,<- n];simp) hf C hp ?_
  have d:=iZ (L':=fun _=>true) (fun k hk=>by have:=hp k (by rw [hl];simp;omega);rw [this];simpa using hk) hd
  have g:=d.sim
  rw [kL] at g
  refine hK G w0 ρ0 A' w' ⟨by simp;omega,ρ',fun i hi=>d.ag i hi |>.trans rfl,g,⟨d.sz,fun t v hv=>?_⟩,d.mks,fun i hi=>by have:=he.mkb i hi;simp;omega⟩ _ fun e' D σ' A' w' hk y=>⟨e',D,σ',hk,y⟩
  rcases l9 ts e t v hv with ⟨j,hj,h1,h2,h3⟩|⟨h1,h2⟩
  ·obtain ⟨v',g1,g2⟩:=d.new j hj rfl t h1 fun k hk x _=>h3 k hk x
   refine ⟨v',g1,?_⟩
   rw [<- h2]
   have:=uF hj
   exact g2.mono (by simp;omega) fun _ _=>rfl
  ·obtain ⟨v',g1,g2⟩:=d.old t v h1 fun k hk _=>h2 k hk
   exact ⟨v',g1,g2.mono oS fun _ _=>rfl⟩
 ·unfold cnt
  rw [List.countP_eq_length.2]
  ·simp
  ·intro i hi
   rw [getD_lt (d':=false) (oU hi),hz];rfl
 ·intro j o _ hL
  rw [hz] at hL;cases hL
 ·refine iZ (L:=fun _=>false) (fun k _=>(hz _ k).symm) ⟨ha,?_,he.tmps.1,he.mks,fun t v hv _=>?_,fun k hk hL=>by cases hL⟩
  ·rw [qE]
   exact qF (zX hs _) rfl rfl rfl rfl
  ·exact he.tmps.2 t v hv
def ab2 (l:List Oper) (i:Nat):Option (Tmp×Operand):=(l[i]?).bind fun o=>if o.guard.isNone then (match o.op with|.move x|.assign x=>o.dst.map fun d=>(d,x)|_=>none) else none
def afe (F0:List Nat) (o:Oper):Oper:={ o with after:=o.after++(F0.map fun i=>(⟨i,.data⟩:Edge)).toArray }
def kF (F0:List Nat) (l:List Oper):List Oper:=l.mapIdx fun i o=>bif F0.contains i then o else afe F0 o
def Ef (l:List Oper) (F0:List Nat):List Nat->Array Bool->Bool
 |[],listed=>F0.all (listed.getD · false)
 |f::fs,listed=>(ab2 l f).isSome && (Region.ready .any l.toArray listed).contains f && (Region.ready .any (kF F0 l).toArray listed).contains f && Region.free .any l.toArray listed f && Ef l F0 fs (listed.setIfInBounds f true)
def IY (F0:List Nat) (l:List Oper):Bool:=Region.noSelect l.toArray && Ef l F0 F0 (Array.replicate l.length false)
section
variable {P:Program} {F:Fence} {n:Nat} {Q':Exit->Act->World->Prop} {F0:List Nat} {l:List Oper}
theorem CW (j:Nat):(kF F0 l)[j]?=(l[j]?).map fun o=>bif F0.contains j then o else afe F0 o:=by simp [kF]
theorem V3:(kF F0 l).length=l.length:=by simp [kF]
theorem ab3 (tm:Array Value):yielded (kF F0 l).toArray tm=yielded l.toArray tm:=by
 funext j
 unfold yielded
 simp only [bR,CW]
 cases l[j]? with
 |none=>rfl
 |some o=>cases h:F0.contains j <;> simp [h,afe]
theorem Af {listed:Array Bool} (h:∀ i ∈ F0,listed.getD i false=true) (j:Nat):j ∈ Region.ready .any (kF F0 l).toArray listed↔j ∈ Region.ready .any l.toArray listed:=by
 rw [mem_ready,mem_ready]
 refine and_congr_right fun _=>?_
 simp only [bR,CW]
 cases l[j]? with
 |none=>simp
 |some o =>
  simp only [du,Option.some.injEq,exists_eq_left']
  cases hc:F0.contains j with
  |true=>simp
  |false =>
   simp only [cond_false,afe]
   refine ⟨fun g e he hb=>g e (by simp [he]) hb,fun g e he hb=>?_⟩
   rcases Array.mem_append.1 he with he|he
   ·exact g e he hb
   ·obtain ⟨i,hi,rfl⟩:∃ i ∈ F0,(⟨i,.data⟩:Edge)=e:=by simpa using he
    exact h i hi
theorem SK {j:Nat} {K:Act->World->Prop} {a:Act} {w:World} (h:wpOpIn F n P (kF F0 l).toArray Q' j K a w):wpOpIn F n P l.toArray Q' j K a w:=by
 unfold wpOpIn at h ⊢
 rw [ab3] at h
 simp only [bR,CW] at h ⊢
 cases hj:l[j]? with
 |none=>rw [hj] at h;exact h
 |some o =>
  rw [hj] at h
  cases hc:F0.contains j with
  |true=>simpa only [du,hc,cond_true] using h
  |false=>simp only [du,hc,cond_false] at h;exact h
theorem JU:∀ (fuel:Nat) (listed:Array Bool) (A:Act) (w:World),listed.size=l.length->(∀ i ∈ F0,listed.getD i false=true)->wpAnyIn F n P .any (kF F0 l).toArray Q' fuel listed A w->wpAnyIn F n P .any l.toArray Q' fuel listed A w
 |0,listed,A,w,hs,hl,h=>⟨List.eq_nil_iff_forall_not_mem.2 fun i hi=>(by have:=(Af hl i).2 hi;rw [h.1] at this;cases this),h.2⟩
 |fuel+1,listed,A,w,hs,hl,h=>by
  refine ⟨fun hn=>h.1 (List.eq_nil_iff_forall_not_mem.2 fun i hi=>by have:=(Af hl i).1 hi;rw [hn] at this;cases this),fun i hi=>?_⟩
  have hil:i<l.length:=by
   obtain ⟨_,o,ho,_⟩:=mem_ready.1 hi
   rw [bR] at ho
   exact (List.getElem?_eq_some_iff.1 ho).1
  refine wpOpIn_mono (fun A w hk=>JU fuel _ A w (oU hs) (fun k a=>?_) hk) (SK (h.2 i ((Af hl i).2 hi)))
  rw [iD oO]
  split
  ·rfl
  ·exact hl k a
theorem NQ (hro:F.round=none) (hns:Region.noSelect l.toArray=true) (hQ:∀ c a w,¬ Q' (.panic c) a w):∀ (fs:List Nat) (fuel:Nat) (listed:Array Bool) (A:Act) (w:World),listed.size=l.length->Ef l F0 fs listed=true ->
  wpAnyIn F n P .any (kF F0 l).toArray Q' fuel listed A w->wpAnyIn F n P .any l.toArray Q' fuel listed A w
 |[],fuel,listed,A,w,hs,hg,h=>JU fuel listed A w hs (by simpa [Ef] using hg) h
 |f::fs,fuel,listed,A,w,hs,hg,h=>by
  simp only [Ef,aE] at hg
  obtain ⟨⟨⟨⟨h1,h2⟩,h3⟩,h4⟩,h5⟩:=hg
  have j:f ∈ Region.ready .any (kF F0 l).toArray listed:=by simpa using h3
  obtain ⟨⟨d,x⟩,h1⟩:=Option.isSome_iff_exists.1 h1
  unfold ab2 at h1
  obtain ⟨o,ho,h1⟩:=Option.bind_eq_some_iff.1 h1
  split at h1
  ·rename_i q
   have p:o.guard=none:=by simpa using q
   have i:(∀ w,(execOp A.eval o).run P w=.ok (.value (A.eval x)) w)/\(∀ w,o.about P w A.eval=none)/\o.dst=some d:=by
    split at h1
    ·rename_i x' e
     obtain ⟨d',hd,h1⟩:=Option.map_eq_some_iff.1 h1
     cases h1
     exact ⟨fun w=>by simp [execOp,e],fun w=>by simp [Oper.about,e],hd⟩
    ·rename_i x' e
     obtain ⟨d',hd,h1⟩:=Option.map_eq_some_iff.1 h1
     cases h1
     exact ⟨fun w=>by simp [execOp,e],fun w=>by simp [Oper.about,e],hd⟩
    ·cases h1
   have m:∀ k,Region.wanted o (yielded k A.tmps)=true:=fun k=>by simp [Region.wanted,p]
   cases fuel with
   |zero=>rw [h.1] at j;cases j
   |succ fuel =>
    have g:=SK (h.2 f j)
    unfold wpOpIn at g
    simp only [bR,ho,m,if_true,Oper.wpIn,hro,Oper.semAt_none,i.1 w,Oper.uponIn] at g
    refine wpAnyIn_take (v:=A.eval x) hro (oi:=o) (by rw [bR];exact ho) hns h4 h2 (fun c a w hq=>absurd hq (hQ c _ _)) ⟨.inl ⟨m _,i.1⟩,i.2.1⟩ ?_
    exact NQ hro hns hQ fs fuel _ _ _ (oU hs) h5 g.2
  ·cases h1
end
theorem Z8 {P:Program} {n0 N:Nat} {Q:Post} {e:Env} {mk:List Nat} {U:Heap} {id:Nat} {l0:List Oper} (Z F0:List Nat) (hm:P.follows .mixedOrders=true) (hF:IY F0 l0=true) (hπ:vU Z (kF F0 l0)=true)
  (h:bK P N none (kD Z (kF F0 l0)) 0 (kD Z (kF F0 l0)) e U [] (fun e' news tl=>drawOk (kD Z (kF F0 l0)) ((kD Z (kF F0 l0)).length - tl.length)=true/\dA P n0 N none (kD Z (kF F0 l0)) tl (Q .normal) e' mk (U++gV (fun _=>true) news))):bJ P n0 N none (.region id l0.toArray true) Q e mk U:=by
 intro G w0 ρ0 A w hi
 obtain ⟨h0,V,ha,hs,he⟩:=hi
 refine wpIn_region_any hm ?_
 have K:lJ none n0=true:=rfl
 obtain ⟨rd,hrn⟩:∃ rd:Option Nat,rd=none:=⟨none,rfl⟩
 refine ru (Q:=fun ex A' w'=>ex=.normal/\∃ e' g σ',Q .normal e' g σ'/\Inv n0 N G w0 ρ0 e' g σ' A' w') (fun ex a w hq=>by obtain ⟨rfl,e',g,σ',h1,h2⟩:=hq;exact ⟨e',g,σ',h1,h2⟩) _ _ _ _ ?_
 unfold IY at hF
 simp only [aE] at hF
 refine NQ (F0:=F0) rfl hF.1 (fun c a w hq=>by cases hq.1) F0 _ _ _ _ oS (oU hF.2) ?_
 have M:l0.length=(kF F0 l0).length:=V3.symm
 rw [show l0.toArray.size=(kF F0 l0).toArray.size by simpa using M]
 obtain ⟨l1,u⟩:∃ l1,kF F0 l0=l1:=⟨_,rfl⟩
 rw [u] at h hπ ⊢
 have s:l1.length=(kD Z l1).length:=by simp [kD,(o8 hπ).2.2.2]
 have hz:∀ (m k:Nat),(Array.replicate m false).getD k false=false:=fun m k=>by
  simp only [eN,eZ];split <;> rfl
 refine SI hπ _ _ (Array.replicate (kD Z l1).length false) _ _ oS (by simp [s]) (fun k hk=>by rw [hz,hz]) ?_
 rw [show l1.toArray.size=(kD Z l1).toArray.size by simpa using s]
 obtain ⟨l,D⟩:∃ l,kD Z l1=l:=⟨_,rfl⟩
 rw [D] at h s ⊢
 obtain ⟨ts,tl,p,E,d,hK⟩:=oz l 0 e U [] _ h
 obtain ⟨fr,B⟩:∃ fr,ts.map (·.o)=fr:=⟨_,rfl⟩
 rw [B] at p
 have hl:l=fr++tl:=p.symm
 have p:=B
 have F:fr.length=l.length - tl.length:=by rw [hl];simp
 rw [lq,kL] at hK
 simp only [gV,cY,e7,eM] at hK
 have r:fr.length=ts.length:=by rw [<- p];simp
 rw [<- F] at d
 have z:∀ (i:Nat) (hi:i<ts.length),l[i]?=some ts[i].o:=by
  intro i hi
  rw [hl,bO oO,<- p];simp [hi]
 have I:∀ (i:Nat) (o:aC),U[i]?=some o->fV U.length o:=fun i o hi=>jg (hs.obj i o hi)
 have y:∀ i,(Array.replicate l.toArray.size false).getD i false=false:=fun i=>by
  simp only [eN,eZ];split <;> rfl
 rw [r] at d
 refine free_any (e0:=e) (mk:=mk) (σ0:=U) (ρ0:=ρ0) (G:=G) (w0:=w0) (N:=N) (n0:=n0) (ts:=ts) K z d h0 he.mkb I E ?_ (by rw [hl];simp;omega) _ _ _ _ V oS (fun i _=>y i) ?_ ?_ ?_
 ·intro A' w' ρ' x f J hp hd hf
  refine tail_any (lV ρ0 none) d tl ts.length x f A' w' (aD _) (by rw [hl,<- r];simp) hf J hp ?_
  have n:=iZ (L':=fun _=>true) (fun k hk=>by have:=hp k (by rw [hl];simp;omega);rw [this];simpa using hk) hd
  have q:=n.sim
  rw [kL] at q
  refine hK G w0 ρ0 A' w' ⟨by simp;omega,ρ',fun i hi=>n.ag i hi |>.trans rfl,q,⟨n.sz,fun t v hv=>?_⟩,n.mks,fun i hi=>by have:=he.mkb i hi;simp;omega⟩ _ fun e' g σ' A' w' hk C=>⟨rfl,e',g,σ',hk,C⟩
  rcases l9 ts e t v hv with ⟨j,hj,h1,h2,h3⟩|⟨h1,h2⟩
  ·obtain ⟨v',g1,g2⟩:=n.new j hj rfl t h1 fun k hk H _=>h3 k hk H
   refine ⟨v',g1,?_⟩
   rw [<- h2]
   have:=uF hj
   exact g2.mono (by simp;omega) fun _ _=>rfl
  ·obtain ⟨v',g1,g2⟩:=n.old t v h1 fun k hk _=>h2 k hk
   exact ⟨v',g1,g2.mono oS fun _ _=>rfl⟩
 ·unfold cnt
  rw [List.countP_eq_length.2]
  ·simp
  ·intro i hi
   rw [getD_lt (d':=false) (oU hi),hz];rfl
 ·intro j o _ hL
  rw [hz] at hL;cases hL
 ·refine iZ (L:=fun _=>false) (fun k _=>(hz _ k).symm) ⟨ha,?_,he.tmps.1,he.mks,fun t v hv _=>?_,fun k hk hL=>by cases hL⟩
  ·rw [qE]
   exact qF (zX hs _) rfl rfl rfl rfl
  ·exact he.tmps.2 t v hv
end Go.AH
namespace Go.AH.Late
def partOk (ops:List Oper) (m f:Nat) (o:Oper) (j mk:Nat):Bool :=
 vC o && o.after.all (fun e=>!Region.binds .any e || Nat.blt e.on j) &&
  (match o.guard with|some (g,_)=>waits o g|none=>true) &&
  (List.range j).all fun i=>mk.testBit i || (Nat.blt i m && (match ops[i]? with|some oi=>oi.apart ops.toArray o|none=>false)) && (Nat.blt j m || (Nat.beq i f && Nat.beq j m))
def chkD (all:List Oper) (m f:Nat):List Oper->Nat->List Nat->Bool
 |[],_,_=>true
 |o::rest,j,acc=>Fj (ql acc o.after.toList) fun mk=>partOk all m f o j mk && chkD all m f rest (j+1) (acc++[mk])
def drawOk (ops:List Oper) (m f:Nat):Bool:=chkD ops m f ops 0 []
theorem chkD_get {all:List Oper} {m f:Nat}:∀ (rest:List Oper) (j:Nat) (acc:List Nat),rest=all.drop j->acc.length=j->j<=all.length->(∀ (k:Nat) (mk:Nat),acc[k]?=some mk->Good all k mk)->chkD all m f rest j acc=true ->
  ∀ (t:Nat) (o:Oper),rest[t]?=some o->∃ mk,partOk all m f o (j+t) mk=true/\Good all (j+t) mk
 |[],_,_,_,_,_,_,_,t,o,h=>by simp at h
 |x::rest,j,acc,hr,hl,hj,hacc,hc,t,o,h=>by
  have hx:all[j]?=some x:=by
   have:=congrArg (fun l:List Oper=>l[0]?) hr
   simpa using this.symm
  have c:rest=all.drop (j+1):=by
   have:=congrArg List.tail hr
   simpa using this
  have hjl:=(List.getElem?_eq_some_iff.1 hx).1
  simp only [chkD,xY,aE] at hc
  have hg:=Bd hx hacc oO
  cases t with
  |zero=>simp at h;subst h;exact ⟨_,hc.1,hg⟩
  |succ t =>
   have:=chkD_get rest (j+1) (acc++[ql acc x.after.toList]) c (by simp [hl]) oO (fun k mk hk=>by
    by_cases d:k<acc.length
    ·rw [bO d] at hk;exact hacc k mk hk
    ·rw [bE oO] at hk
     have a:k - acc.length=0:=by
      have:=(List.getElem?_eq_some_iff.1 hk).1
      simp at this;omega
     rw [a] at hk;simp at hk;subst hk
     rw [show k=j by omega];exact hg) hc.2 t o (oU h)
   rwa [show j+1+t=j+(t+1) by omega] at this
section
variable {all:List Oper} {m f:Nat}
theorem draw_parts (h:drawOk all m f=true) {j:Nat} {o:Oper} (hj:all[j]?=some o) :
  vC o=true/\(∀ e ∈ o.after,Region.binds .any e=true->e.on<j)/\(∀ g b,o.guard=some (g,b)->waits o g=true) /\
  ∀ i oi,i<j->all[i]?=some oi->(∀ D:Nat->Prop,Closed all D->(∀ k,waits o k=true->D k)->D i)\/(i<m/\(j<m\/(i=f/\j=m))/\oi.apart all.toArray o=true):=by
 obtain ⟨mk,this,a⟩:=chkD_get all 0 [] rfl rfl oO (fun k mk hk=>by simp at hk) h j o hj
 rw [aR] at this a
 unfold partOk at this
 simp only [aE] at this
 obtain ⟨⟨⟨h1,h2⟩,h3⟩,h4⟩:=this
 refine ⟨h1,fun e he hb=>?_,fun g b hg=>?_,fun i oi hi c=>?_⟩
 ·have:=Array.all_eq_true_iff_forall_mem.1 h2 e he
  simp only [hb,Bool.not_true,Bool.false_or,bX] at this;exact this
 ·rw [hg] at h3;exact h3
 ·have:=List.all_eq_true.1 h4 i (oU hi)
  simp only [c,ee,aE,bX,Nat.beq_eq] at this
  rcases this with h|⟨⟨h5,h6⟩,h7⟩
  ·exact .inl fun D hD hw=>a D hD o hj hw i h
  ·exact .inr ⟨h5,h7,h6⟩
theorem waits_lt (h:drawOk all m f=true) {j i:Nat} {o:Oper} (hj:all[j]?=some o) (hw:bV o.after i=true):i<j:=by
 unfold bV at hw
 obtain ⟨e,he,hb⟩:=Array.any_eq_true'.1 hw
 simp only [aE] at hb
 rw [<- aM hb.2]
 exact (draw_parts h hj).2.1 e he hb.1
end
section
variable {P:Program} {N:Nat} {rd:Option Nat} {e0:Env} {mk:List Nat} {σ0:Heap} {all:List Oper} {ts:List Tr} {n0:Nat}
theorem dinv_sees {G:Nat->Prop} {w0:World} {ρ0 V:Rho} {f:Nat} {L:Nat->Bool} {A:Act} {w:World} (hd:x9 n0 N G w0 ρ0 e0 mk σ0 ts L A w V) (hall:∀ (i:Nat) (hi:i<ts.length),all[i]?=some ts[i].o)
  (hchk:drawOk all ts.length f=true) {i:Nat} (hi:i<ts.length) (hLi:L i=false) (hw:∀ j,waits ts[i].o j=true->L j=true) (hdc:Closed all fun k=>L k=true)
  {t:Nat} (ht:t ∈ ts[i].o.looksAt all.toArray) {v:Value} (hv:Env.get (l7 (ts.take i) e0) t=some v):∃ v',A.tmps[t]?=some v'/\gJ (σ0.length+(eG (ts.take i)).length) V v v':=by
 have d:∀ (j:Nat) (hj:j<i),(ts[j]'oO).o.dst=some t->L j=true:=by
  intro j hj c
  rcases (draw_parts hchk (hall i hi)).2.2.2 j _ hj (hall j oO) with h|⟨_,_,h⟩
  ·exact h _ hdc hw
  ·exact absurd ht ((Oper.apart_spec h).1 t c)
 have g:∀ (j:Nat) (hj:j<ts.length),i<j->ts[j].o.dst=some t->L j=true->False:=by
  intro j hj n c p
  rcases (draw_parts hchk (hall j hj)).2.2.2 i _ n (hall i hi) with h|⟨_,_,h⟩
  ·have:=h _ hdc (hdc j _ (hall j hj) p)
   rw [hLi] at this;cases this
  ·exact absurd ht ((Oper.apart_spec h).2.2 t c)
 rcases l9 _ _ _ _ hv with ⟨j,hj,h1,h2,h3⟩|⟨h1,h2⟩
 ·have m:j<i:=by simp at hj;omega
  rw [cX] at h1 h2
  obtain ⟨v',g1,g2⟩:=hd.new j oO (d j m h1) t h1 fun k hk q a e=>by
   rcases fk k i with r|rfl|l
   ·have:=h3 k (by simp;omega) q
    rw [cX] at this;exact this e
   ·rw [hLi] at a;cases a
   ·exact g k hk l e a
  refine ⟨v',g1,?_⟩
  rw [<- h2]
  have:=qV m (eC hi)
  exact g2.mono oO fun _ _=>rfl
 ·obtain ⟨v',g1,g2⟩:=hd.old t v h1 fun k hk a e=>by
   rcases fk k i with r|rfl|l
   ·have:=h2 k (by simp;omega)
    rw [cX] at this;exact this e
   ·rw [hLi] at a;cases a
   ·exact g k hk l e a
  exact ⟨v',g1,g2.mono oO fun _ _=>rfl⟩
theorem dinv_step {G:Nat->Prop} {w0:World} {ρ0 V ρ':Rho} {f:Nat} {L:Nat->Bool} {A:Act} {w w':World} (hd:x9 n0 N G w0 ρ0 e0 mk σ0 ts L A w V) (hall:∀ (i:Nat) (hi:i<ts.length),all[i]?=some ts[i].o)
  (hchk:drawOk all ts.length f=true) (hn0:n0<=σ0.length) (hmk:∀ i ∈ mk,i < σ0.length)
  (hns:∀ (j:Nat) (hj:j<ts.length),rM σ0.length ts[j].ns) (hnok:∀ (j:Nat) (hj:j<ts.length) (i:Nat) (hi:i<j),(∃ D:Nat->Prop,Closed all D/\D j/\¬ D i)->∀ (m:Nat) (V ρ':Rho) (v':Value),gJ m V ts[j].v v' ->
   (∀ q,q < σ0.length+(eG (ts.take i)).length\/σ0.length+(eG (ts.take i)).length+ts[i].ns.length<=q->ρ' q=V q)->gJ m ρ' ts[j].v v')
  {i:Nat} (hi:i<ts.length) (hLi:L i=false) (hdc:Closed all fun k=>L k=true) (hdst:tH N ts[i].o=true)
  {v':Value} (hag:∀ k < σ0.length+(eG (ts.take i)).length,ρ' k=V k) (hv:gJ (σ0.length+((eG (ts.take i)).length+ts[i].ns.length)) ρ' ts[i].v v')
  (hs':Sim (oth G V σ0 ts L (bV ts[i].o.after)) w ρ' (σ0++maskN (ts.take i) 0 (bV ts[i].o.after)++ts[i].ns) w') :
  x9 n0 N G w0 ρ0 e0 mk σ0 ts (jW L i) (A.put ts[i].o.dst v') w' (rH V ρ' (σ0.length+(eG (ts.take i)).length) ts[i].ns.length):=by
 have a:∀ k < σ0.length+(eG (ts.take i)).length,rH V ρ' (σ0.length+(eG (ts.take i)).length) ts[i].ns.length k=V k:=fun k hk=>by simp only [rH];rw [if_neg oO]
 have c:∀ k < σ0.length+((eG (ts.take i)).length+ts[i].ns.length),rH V ρ' (σ0.length+(eG (ts.take i)).length) ts[i].ns.length k=ρ' k:=fun k hk=>by
  simp only [rH];split
  ·rfl
  ·rw [hag k oO]
 have n:∀ k,σ0.length+(eG (ts.take i)).length+ts[i].ns.length<=k->rH V ρ' (σ0.length+(eG (ts.take i)).length) ts[i].ns.length k=V k:=fun k hk=>by simp only [rH];rw [if_neg oO]
 have l:∀ t u,A.tmps[t]?=some u->ts[i].o.dst ≠ some t->(A.put ts[i].o.dst v').tmps[t]?=some u:=by
  intro t u hu x
  cases hdd:ts[i].o.dst with
  |none=>simpa [Act.put] using hu
  |some d =>
   simp only [Act.put]
   rw [e8 (fun F=>x (by rw [hdd,F]))];exact hu
 refine ⟨fun k hk=>(a k oO).trans (hd.ag k hk),JA hi hLi (fun j hj=>waits_lt hchk (hall i hi) hj) hd.sim hns hag hs',?_,?_,fun t v ht g=>?_,fun k hk y t r g=>?_⟩
 ·cases hdd:ts[i].o.dst <;> simp [Act.put,hd.sz]
 ·have:(A.put ts[i].o.dst v').defers=A.defers:=by cases ts[i].o.dst <;> rfl
  rw [this,hd.mks]
  congr 1
  exact eI fun k hk=>by rw [a k (by have:=hmk k hk;omega)]
 ·obtain ⟨u,g1,g2⟩:=hd.old t v ht fun k hk y=>g k hk (by simp only [jW];split <;> simp [y])
  exact ⟨u,l t u g1 (g i hi (by simp [jW])),g2.mono (aD _) fun k hk=>a k oO⟩
 ·by_cases s:k=i
  ·subst s
   refine ⟨v',?_,hv.mono oO c⟩
   simp only [r,tH,bX] at hdst
   simp only [r,Act.put]
   rw [fp (by rw [hd.sz];exact hdst)]
  ·have e:L k=true:=by simpa [jW,s] using y
   have x:ts[i].o.dst ≠ some t:=by
    intro B
    rcases fi s with z|p
    ·exact g i hi z (by simp [jW]) B
    ·rcases (draw_parts hchk (hall k hk)).2.2.2 i _ p (hall i hi) with h|⟨_,_,h⟩
     ·have:=h _ hdc (hdc k _ (hall k hk) e)
      rw [hLi] at this;cases this
     ·exact (Oper.apart_spec h).2.1 t B r
   obtain ⟨u,g1,g2⟩:=hd.new k hk e t r fun j hj E C=>g j hj E (by simp only [jW];split <;> simp [C])
   refine ⟨u,l t u g1 x,?_⟩
   rcases fi s with z|p
   ·have:=qV z (eC hi)
    exact g2.mono (aD _) fun j hj=>a j oO
   ·have:=qV p (eC hk)
    exact hnok k hk i p ⟨fun q=>L q=true,hdc,e,by simp [hLi]⟩ _ _ _ _ g2 fun j hj=>by
     rcases hj with hj|hj
     ·exact a j hj
     ·exact n j hj
theorem free_any {G:Nat->Prop} {w0:World} {ρ0:Rho} {f:Nat} {Q':Exit->Act->World->Prop} (hrd:lJ rd n0=true) (hall:∀ (i:Nat) (hi:i<ts.length),all[i]?=some ts[i].o)
  (hchk:drawOk all ts.length f=true) (hn0:n0<=σ0.length) (hmk:∀ i ∈ mk,i < σ0.length) (hcl:∀ (i:Nat) (o:aC),σ0[i]?=some o->fV σ0.length o) (htr:VF P N rd all 0 ts e0 σ0 [])
  (hfin:∀ A w V fuel listed,listed.size=all.length->(∀ i<all.length,listed.getD i false=decide (i<ts.length))->x9 n0 N G w0 ρ0 e0 mk σ0 ts (fun i=>listed.getD i false) A w V ->
   fuel=all.length - ts.length->wpAnyIn (fen ρ0 rd) 0 P .any all.toArray Q' fuel listed A w)
  (hlate:∀ A w V fuel listed,listed.size=all.length->(∀ i,listed.getD i false=decide (i<ts.length/\i ≠ f))->x9 n0 N G w0 ρ0 e0 mk σ0 ts (fun i=>listed.getD i false) A w V->Closed all (fun k=>listed.getD k false=true) ->
   f<ts.length->ts.length<all.length->ts.length ∈ Region.ready .any all.toArray listed->fuel=all.length - ts.length->wpOpIn (fen ρ0 rd) 0 P all.toArray Q' ts.length (wpAnyIn (fen ρ0 rd) 0 P .any all.toArray Q' fuel (listed.setIfInBounds ts.length true)) A w)
  (hlen:ts.length<=all.length):∀ (fuel:Nat) (listed:Array Bool) (A:Act) (w:World) (V:Rho),listed.size=all.length->(∀ i,ts.length<=i->listed.getD i false=false)->cnt all.length listed=fuel ->
  Closed all (fun k=>listed.getD k false=true) ->
  x9 n0 N G w0 ρ0 e0 mk σ0 ts (fun i=>listed.getD i false) A w V->wpAnyIn (fen ρ0 rd) 0 P .any all.toArray Q' fuel listed A w:=by
 intro fuel
 induction fuel with
 |zero =>
  intro listed A w V C F d H hd
  have M:∀ i<all.length,listed.getD i false=true:=by
   intro i hi
   unfold cnt at d
   have:=(List.countP_eq_zero.1 d) i (oU hi)
   simp only [eL,Bool.not_eq_false] at this
   rw [getD_lt oO false true];exact this
  have hm:ts.length=all.length:=by
   rcases eV ts.length all.length with h|h
   ·have h1:=M ts.length h
    rw [F ts.length (aD _)] at h1;cases h1
   ·omega
  exact hfin A w V 0 listed C (fun i hi=>by rw [M i hi];simp;omega) hd oO
 |succ fuel ih =>
  intro listed A w V C F d H hd
  by_cases a:∀ i<ts.length,listed.getD i false=true
  ·have K:∀ i<all.length,listed.getD i false=decide (i<ts.length):=fun i hi=>by
    by_cases r:i<ts.length
    ·rw [a i r];simp [r]
    ·rw [F i oO];simp [r]
   refine hfin A w V (fuel+1) listed C K hd ?_
   rw [<- d]
   exact JB hlen fun i hi=>by rw [getD_lt oO true false];exact K i hi
  ·refine ⟨fun hr=>?_,fun i hr=>?_⟩
   ·
    exfalso
    have S:∃ i,i<ts.length/\listed.getD i false=false:=by
     simp only [Classical.not_forall] at a
     obtain ⟨i,hi,hn⟩:=a
     exact ⟨i,hi,by simpa using hn⟩
    have J:∃ i,(i<ts.length/\listed.getD i false=false)/\∀ k<i,listed.getD k false=true:=by
     obtain ⟨i,hi⟩:=S
     induction i using Nat.strongRecOn with
     |_ i ih2 =>
      by_cases p:∃ k,k<i/\listed.getD k false=false
      ·obtain ⟨k,hk,E⟩:=p;exact ih2 k hk ⟨oO,E⟩
      ·refine ⟨i,hi,fun k hk=>?_⟩
       cases hc:listed.getD k false with
       |true=>rfl
       |false=>exact absurd ⟨k,hk,hc⟩ p
    obtain ⟨i,⟨hi,O⟩,p⟩:=J
    have:i ∈ Region.ready .any all.toArray listed:=mem_ready.2 ⟨by rw [getD_lt oO true false];exact O,ts[i].o,by rw [bR];exact hall i hi,
     fun e he hb=>p _ ((draw_parts hchk (hall i hi)).2.1 e he hb)⟩
    rw [hr] at this;cases this
   ·obtain ⟨O,o,ho,_⟩:=mem_ready.1 hr
    rw [bR] at ho
    have ZZ:i<all.length:=(List.getElem?_eq_some_iff.1 ho).1
    have L:listed.getD i false=false:=by rw [getD_lt oO false true];exact O
    rcases eV i ts.length with r|r
    rotate_left
    ·have R:∀ k<ts.length,listed.getD k false=true\/(k=f/\i=ts.length):=by
      intro k hk
      rcases (draw_parts hchk ho).2.2.2 k _ oO (hall k hk) with h'|⟨_,h',_⟩
      ·exact .inl (h' (fun k=>listed.getD k false=true) H fun k hk=>iM hr ho hk)
      ·rcases h' with h'|h'
       ·omega
       ·exact .inr h'
     have S:f<ts.length/\i=ts.length/\listed.getD f false=false:=by
      apply Classical.byContradiction;intro M
      apply a
      intro k hk
      rcases R k hk with h|⟨rfl,h⟩
      ·exact h
      ·cases hc:listed.getD k false with
       |true=>rfl
       |false=>exact absurd ⟨hk,h,hc⟩ M
     obtain ⟨a0,a4,T⟩:=S
     subst a4
     refine hlate A w V fuel listed C (fun k=>?_) hd H a0 ZZ hr ?_
     ·by_cases hk:k<ts.length
      ·rcases R k hk with h|⟨rfl,_⟩
       ·rw [h];symm;simp only [decide_eq_true_eq];refine ⟨hk,fun E=>?_⟩;rw [E,T] at h;cases h
       ·rw [T];simp
      ·rw [F k oO];simp;omega
     ·have hc1:=qW (n:=all.length) (listed:=listed) (i:=f) oO C (by rw [getD_lt oO true false];exact T)
      have hc2:=JB (listed:=listed.setIfInBounds f true) hlen fun k hk=>by
       rw [getD_lt (by simpa using oO) true false,iD oO]
       split
       ·rename_i E;subst E;simp [a0]
       ·rename_i E
        by_cases X:k<ts.length
        ·rcases R k X with h|⟨h,_⟩
         ·rw [h];simp [X]
         ·exact absurd h E
        ·rw [F k oO];simp [X]
      omega
    have a3:o=ts[i].o:=by have:=hall i r;rw [ho] at this;exact Option.some.inj this
    subst a3
    have hw:∀ j,waits ts[i].o j=true->listed.getD j false=true:=fun j hj=>iM hr ho hj
    have B:=fun (j:Nat) (hj:j<ts.length)=>Jy ts e0 htr j hj
    obtain ⟨h1,h2,h3,h4,h5,h6⟩:=B i r
    have Y:∀ (j:Nat) (hj:j<ts.length),rM σ0.length ts[j].ns:=fun j hj=>(B j hj).2.2.2.2.1
    have Q:∀ (j:Nat) (hj:j<ts.length) (i:Nat) (hi:i<j),(∃ D:Nat->Prop,Closed all D/\D j/\¬ D i)->∀ (m:Nat) (V ρ':Rho) (v':Value),gJ m V ts[j].v v' ->
      (∀ q,q < σ0.length+(eG (ts.take i)).length\/σ0.length+(eG (ts.take i)).length+ts[i].ns.length<=q->ρ' q=V q)->gJ m ρ' ts[j].v v':=fun j hj i hij hD m V ρ' v' hv hq=>by
     by_cases a2:ts[i].ns=[]
     ·exact hv.mono (aD _) fun q _=>hq q (by rw [a2];simp;omega)
     ·have Uq:((ts.take j)[i]'(by simp;omega)).ns ≠ []:=by simpa using a2
      obtain ⟨n1,n2,e1,e2⟩:=qU (ts.take j) 0 [] i (by simp;omega) Uq
      rw [aR] at e1
      have e3:iI n1=eG (ts.take i):=by
       rw [e2,eA,fo oO];simp [iI]
      refine (B j hj).2.2.2.2.2 n1 i _ n2 e1 hD m V ρ' v' hv fun q a1=>hq q ?_
      rw [e3] at a1
      simpa using a1
    have y:=fun {t:Nat} (ht:t ∈ ts[i].o.looksAt all.toArray) {v:Value} (hv:Env.get (l7 (ts.take i) e0) t=some v) =>
     dinv_sees hd hall hchk r L hw H ht hv
    have z:Region.wanted ts[i].o (yielded all.toArray A.tmps)=ts[i].run:=by
     refine zW h2 fun g want hg t ht v hv=>?_
     obtain ⟨v',g1,g2⟩:=y (t:=t) (by
      unfold Oper.looksAt
      rw [hg]
      refine List.mem_append_right _ ?_
      simp only [bR]
      rw [ht];simp) hv
     exact ⟨_,_,v',g1,g2⟩
    have s:=DV (i:=i) (W:=bV ts[i].o.after) hd.sim hcl Y hw
    have after:∀ (ρ':Rho) (v':Value) (w':World),(∀ k < σ0.length+(eG (ts.take i)).length,ρ' k=V k)->gJ (σ0.length+((eG (ts.take i)).length+ts[i].ns.length)) ρ' ts[i].v v' ->
      Sim (oth G V σ0 ts (fun i=>listed.getD i false) (bV ts[i].o.after)) w ρ' (σ0++maskN (ts.take i) 0 (bV ts[i].o.after)++ts[i].ns) w' ->
      wpAnyIn (fen ρ0 rd) 0 P .any all.toArray Q' fuel (listed.setIfInBounds i true) (A.put ts[i].o.dst v') w':=by
     intro ρ' v' w' ha hv Vv
     have a6:=dinv_step hd hall hchk hn0 hmk Y Q r L H h1 ha hv Vv
     refine ih _ _ _ _ (oU C) (fun k hk=>?_) ?_ (fun j o' hj I k hk=>?_) (iZ (fun k hk=>?_) a6)
     ·rw [iD oO,if_neg oO];exact F k hk
     ·have:=qW ZZ C O;omega
     ·show (listed.setIfInBounds i true).getD k false=true
      have I:(listed.setIfInBounds i true).getD j false=true:=I
      rw [iD oO] at I ⊢
      split
      ·rfl
      ·split at I
       ·rename_i a5;subst a5
        rw [ho] at hj;cases hj
        exact hw k hk
       ·exact H j o' hj I k hk
     ·simp only [jW];rw [iD oO]
    unfold wpOpIn
    simp only [bR,ho]
    cases hrun:ts[i].run with
    |true =>
     rw [if_pos (by rw [z,hrun])]
     have a7:=h3 hrun
     rw [<- lW (rd:=rd) (ρ':=V) (V:=ρ0) fun l hl=>hd.ag l (lQ hrd l hl)]
     refine a7 ts[i].o rfl rfl (oth G V σ0 ts (fun i=>listed.getD i false) (bV ts[i].o.after)) w V A w (fun l hl=>by have:=lQ hrd l hl;simp;omega) s (fun x hx u hu=>?_) _ _ ?_
     ·cases x with
      |tmp t =>
       obtain ⟨v',g1,g2⟩:=y (t:=t) (fI _ (List.mem_filterMap.2 ⟨.tmp t,by simpa using hx,rfl⟩)) hu
       rw [bA,fC]
       simpa [Act.eval,g1] using g2
      |const c =>
       simp only [aT] at hu
       cases hp:plain c <;> simp [hp] at hu
       subst hu;exact bF c hp
      |func f=>simp only [aT,Option.some.injEq] at hu;subst hu;exact .func f #[] #[] #[] #[] rfl rfl (fun i h=>by simp at h) (fun i h=>by simp at h)
      |global g=>simp [aT] at hu
     ·intro ρ' v' w' hv hle ha Vv
      rw [lW (rd:=rd) (ρ':=V) (V:=ρ0) fun l hl=>hd.ag l (lQ hrd l hl)]
      refine after ρ' v' w' (fun k hk=>ha k (by rw [bA,fC];exact hk)) ?_ Vv
      rw [bA,bA,fC,cF] at hv;exact hv
    |false =>
     rw [if_neg (by rw [z,hrun];simp)]
     obtain ⟨g1,g2⟩:=h4 hrun
     refine ⟨fun f _=>lV _ _ _,?_⟩
     have:=after V undef w (fun _ _=>rfl) (by rw [g1];exact bF _ rfl) (by rw [g2];simpa using s)
     exact this
theorem tail_any {F:Fence} (hF:∀ f,F.fn f) {m f:Nat} {Q':Exit->Act->World->Prop} (hchk:drawOk all m f=true):∀ (rest:List Oper) (k fuel:Nat) (listed:Array Bool) (A:Act) (w:World),
  m<=k->rest=all.drop k->fuel=all.length - k->listed.size=all.length->(∀ i<all.length,listed.getD i false=decide (i<k)) ->
  wpL F 0 P all.toArray Q' rest A w->wpAnyIn F 0 P .any all.toArray Q' fuel listed A w
 |[],k,fuel,listed,A,w,hmk,hr,hf,hsz,hp,h=>by
  have hk:all.length<=k:=by
   have:=congrArg List.length hr
   simp at this;omega
  refine wpAnyIn_done (List.eq_nil_iff_forall_not_mem.2 fun j hj=>?_) h fuel
  obtain ⟨h1,o,ho,_⟩:=mem_ready.1 hj
  rw [bR] at ho
  have d:=(List.getElem?_eq_some_iff.1 ho).1
  have:=hp j d
  rw [getD_lt (d':=true) oO,h1] at this
  simp at this;omega
 |o::rest,k,fuel,listed,A,w,hmk,hr,hf,hsz,hp,h=>by
  have hk:k<all.length:=by
   rcases eV k all.length with h|h
   ·exact h
   ·rw [List.drop_eq_nil_of_le h] at hr;cases hr
  have ho:all[k]?=some o:=by
   have:=congrArg (fun l:List Oper=>l[0]?) hr
   simpa using this.symm
  have s:rest=all.drop (k+1):=by
   have:=congrArg List.tail hr
   simpa using this
  obtain ⟨fuel,rfl⟩:∃ f,fuel=f+1:=⟨fuel - 1,oO⟩
  refine ⟨fun hn=>?_,fun j hj=>?_⟩
  ·exfalso
   have:k ∈ Region.ready .any all.toArray listed:=mem_ready.2 ⟨by rw [getD_lt (d':=false) oO,hp k hk];simp,o,by rw [bR];exact ho,
    fun e he hb=>by have:=(draw_parts hchk ho).2.1 e he hb;rw [hp _ oO];simpa using this⟩
   rw [hn] at this;cases this
  ·obtain ⟨h1,oj,c,_⟩:=mem_ready.1 hj
   rw [bR] at c
   have d:=(List.getElem?_eq_some_iff.1 c).1
   have hkj:¬ j<k:=by
    intro g
    have:=hp j d
    rw [getD_lt (d':=true) oO,h1] at this
    simp at this;omega
   have p:j=k:=by
    rcases eV k j with g|hge
    ·exfalso
     rcases (draw_parts hchk c).2.2.2 k _ g ho with h'|⟨h',_,_⟩
     ·have:=h' (fun q=>listed.getD q false=true) (fun q o' hq r i hi=>by
       have h1:=waits_lt hchk hq hi
       have t:=(List.getElem?_eq_some_iff.1 hq).1
       have h2:=hp q t
       rw [r] at h2
       have h3:q<k:=of_decide_eq_true h2.symm
       show listed.getD i false=true
       rw [hp i oO];simp;omega) fun q hq=>iM hj c hq
      simp only [hp k hk] at this;simp at this
     ·omega
    ·omega
   subst p
   have a:∀ A w,wpL F 0 P all.toArray Q' rest A w->wpAnyIn F 0 P .any all.toArray Q' fuel (listed.setIfInBounds j true) A w:=fun A w h =>
    tail_any hF hchk rest (j+1) fuel _ A w oO s oO (oU hsz) (fun i hi=>by
     rw [iD oO]
     split
     ·rename_i n;subst n;simp
     ·rename_i n;rw [hp i hi];simp only [decide_eq_decide];omega) h
   unfold wpOpIn
   simp only [bR,ho]
   simp only [wpL] at h
   split
   ·rename_i hw;rw [if_pos hw] at h
    exact Oper.wpIn_mono a h
   ·rename_i hw;rw [if_neg hw] at h
    exact ⟨fun f _=>hF f,a _ _ h⟩
theorem ab4 {F:Fence} (hF:∀ f,F.fn f) {m f:Nat} {Q':Exit->Act->World->Prop} (hchk:drawOk all m f=true) {o1 o2:Oper} {t:List Oper} (h1:all[m]?=some o1) (h2:all[f]?=some o2) (ht:t=all.drop (m+1)) (hf:f<m)
  {listed:Array Bool} (hsz:listed.size=all.length) (hp:∀ i,listed.getD i false=decide (i<m/\i ≠ f)) (hdc:Closed all (fun k=>listed.getD k false=true)) (hr:m ∈ Region.ready .any all.toArray listed) {fuel:Nat} (hfuel:fuel=all.length - m) {A:Act} {w:World}
  (h:wpL F 0 P all.toArray Q' (o1::o2::t) A w):wpOpIn F 0 P all.toArray Q' m (wpAnyIn F 0 P .any all.toArray Q' fuel (listed.setIfInBounds m true)) A w:=by
 have hm:m<all.length:=(List.getElem?_eq_some_iff.1 h1).1
 obtain ⟨fuel,rfl⟩:∃ f,fuel=f+1:=⟨fuel - 1,oO⟩
 have a:∀ i,(listed.setIfInBounds m true).getD i false=if i=m then true else decide (i<m/\i ≠ f):=fun i=>by
  rw [iD oO,hp]
 have d:∀ A w,wpL F 0 P all.toArray Q' (o2::t) A w->wpAnyIn F 0 P .any all.toArray Q' (fuel+1) (listed.setIfInBounds m true) A w:=by
  intro A w h
  refine ⟨fun hn=>?_,fun j hj=>?_⟩
  ·exfalso
   have:f ∈ Region.ready .any all.toArray (listed.setIfInBounds m true):=mem_ready.2 ⟨by rw [getD_lt (d':=false) (by simp;omega),a,if_neg oO];simp,o2,by rw [bR];exact h2,
    fun e he hb=>by have:=(draw_parts hchk h2).2.1 e he hb;rw [a];split <;> simp <;> omega⟩
   rw [hn] at this;cases this
  ·obtain ⟨g1,oj,l,_⟩:=mem_ready.1 hj
   rw [bR] at l
   have hj':=(List.getElem?_eq_some_iff.1 l).1
   have g2:(listed.setIfInBounds m true).getD j false=false:=by rw [getD_lt (by simp;omega) false true];exact g1
   have o:j=f:=by
    rw [a] at g2
    split at g2
    ·cases g2
    ·rename_i hjm
     have g3:¬ (j<m/\j ≠ f):=of_decide_eq_false g2
     rcases eV m j with hlt|hge
     ·exfalso
      rcases (draw_parts hchk l).2.2.2 f _ oO h2 with h'|⟨_,h',_⟩
      ·have:=h' (fun q=>(listed.setIfInBounds m true).getD q false=true) (fun q o' hq g i hi=>by
        show (listed.setIfInBounds m true).getD i false=true
        have g:(listed.setIfInBounds m true).getD q false=true:=g
        rw [iD oO] at g ⊢
        split
        ·rfl
        ·split at g
         ·rename_i n;subst n
          rw [h1] at hq;cases hq
          exact iM hr h1 hi
         ·exact hdc q o' hq g i hi) fun q hq=>iM hj l hq
       rw [a,if_neg oO] at this
       simp at this
      ·omega
     ·omega
   subst o
   have c:∀ A w,wpL F 0 P all.toArray Q' t A w->wpAnyIn F 0 P .any all.toArray Q' fuel ((listed.setIfInBounds m true).setIfInBounds j true) A w:=fun A w h =>
    tail_any hF hchk t (m+1) fuel _ A w oO ht oO (oU hsz) (fun i hi=>by
     rw [iD (by simp;omega),a]
     split
     ·simp;omega
     ·split
      ·simp;omega
      ·simp only [decide_eq_decide];omega) h
   unfold wpOpIn
   simp only [bR,h2]
   simp only [wpL] at h
   split
   ·rename_i hw;rw [if_pos hw] at h
    exact Oper.wpIn_mono c h
   ·rename_i hw;rw [if_neg hw] at h
    exact ⟨fun f _=>hF f,c _ _ h⟩
 unfold wpOpIn
 simp only [bR,h1]
 simp only [wpL] at h
 split
 ·rename_i hw;rw [if_pos hw] at h
  exact Oper.wpIn_mono d h
 ·rename_i hw;rw [if_neg hw] at h
  exact ⟨fun f _=>hF f,d _ _ h⟩
theorem NR {L:Nat->Bool}:∀ (ts:List Tr) (k:Nat),(∀ (j:Nat) (hj:j<ts.length),L (k+j)=true\/ts[j].ns=[])->maskN ts k L=eG ts
 |[],_,_=>rfl
 |t::ts,k,h=>by
  have h1:=NR (L:=L) ts (k+1) fun j hj=>by have:=h (j+1) (oU hj);simpa [cF,eW 1 j] using this
  have h0:=h 0 oS
  simp only [cV,dz] at h0
  simp only [maskN,h1]
  rcases h0 with h0|h0
  ·simp [h0,eG]
  ·simp [h0,eG,hide]
def zG (d:Nat):Env->Env
 |[]=>[]
 |(k,v)::e=>bif Nat.beq k d then zG d e else (k,v)::zG d e
theorem yu {d t:Nat} {v:Value}:∀ {e:Env},Env.get (zG d e) t=some v->t ≠ d/\Env.get e t=some v
 |[],h=>by simp [zG,Env.get] at h
 |(k,u)::e,h=>by
  simp only [zG] at h
  cases hk:Nat.beq k d with
  |true =>
   rw [hk] at h
   obtain ⟨h1,h2⟩:=yu (e:=e) h
   refine ⟨h1,?_⟩
   have hkd:=aM hk
   simp only [Env.get]
   rw [jA oO]
   exact h2
  |false =>
   rw [hk] at h
   simp only [cond_false,Env.get] at h ⊢
   cases hkt:Nat.beq k t with
   |true =>
    rw [hkt] at h
    have:=aM hkt
    have:=Nat.ne_of_beq_eq_false hk
    exact ⟨oO,h⟩
   |false =>
    rw [hkt] at h
    exact yu (e:=e) h
end
theorem Bo {P:Program} {n0 N:Nat} {rd:Option Nat} {Q:Post} {e:Env} {mk:List Nat} {U:Heap} {id:Nat} {l:List Oper} (f d:Nat) (hm:P.follows .mixedOrders=true) (hrd:lJ rd n0=true)
  (h:bK P N rd l 0 l e U [] (fun e' news tl=>drawOk l (l.length - tl.length) f=true/\(dA P n0 N rd l tl (Q .normal) e' mk (U++gV (fun _=>true) news) /\
   ∃ o1 o2 t,tl=o1::t/\l[f]?=some o2/\o2.dst=some d/\(news.all fun p=>!Nat.beq p.1 f)=true/\dA P n0 N rd l (o1::o2::t) (Q .normal) (zG d e') mk (U++gV (fun _=>true) news)))):bJ P n0 N rd (.region id l.toArray true) Q e mk U:=by
 intro G w0 ρ0 A w hi
 obtain ⟨h0,V,ha,hs,he⟩:=hi
 refine wpIn_region_any hm ?_
 obtain ⟨ts,tl,s,Uq,c,hK,o1,o2,t,I,K,S,J,z⟩:=oz l 0 e U [] _ h
 obtain ⟨fr,M⟩:∃ fr,ts.map (·.o)=fr:=⟨_,rfl⟩
 rw [M] at s
 have hl:l=fr++tl:=s.symm
 have s:=M
 have Vv:fr.length=l.length - tl.length:=by rw [hl];simp
 rw [lq,kL] at hK z
 simp only [gV,cY,e7,eM] at hK z
 have q:fr.length=ts.length:=by rw [<- s];simp
 rw [<- Vv] at c
 have y:∀ (i:Nat) (hi:i<ts.length),l[i]?=some ts[i].o:=by
  intro i hi
  rw [hl,bO oO,<- s];simp [hi]
 have X:∀ (i:Nat) (o:aC),U[i]?=some o->fV U.length o:=fun i o hi=>jg (hs.obj i o hi)
 have n:∀ i,(Array.replicate l.toArray.size false).getD i false=false:=fun i=>by
  simp only [eN,eZ];split <;> rfl
 rw [q] at c
 refine free_any (e0:=e) (mk:=mk) (σ0:=U) (ρ0:=ρ0) (G:=G) (w0:=w0) (N:=N) (n0:=n0) (ts:=ts) hrd y c h0 he.mkb X Uq ?_ (f:=f) ?_ (by rw [hl];simp;omega) _ _ _ _ V oS (fun i _=>n i) ?_ ?_ ?_
 ·intro A' w' ρ' x m H hp hd hf
  refine tail_any (lV ρ0 rd) c tl ts.length x m A' w' (aD _) (by rw [hl,<- q];simp) hf H hp ?_
  have a:=iZ (L':=fun _=>true) (fun k hk=>by have:=hp k (by rw [hl];simp;omega);rw [this];simpa using hk) hd
  have g:=a.sim
  rw [kL] at g
  refine hK G w0 ρ0 A' w' ⟨by simp;omega,ρ',fun i hi=>a.ag i hi |>.trans rfl,g,⟨a.sz,fun t v hv=>?_⟩,a.mks,fun i hi=>by have:=he.mkb i hi;simp;omega⟩ _ fun e' D σ' A' w' hk B=>⟨e',D,σ',hk,B⟩
  rcases l9 ts e t v hv with ⟨j,hj,h1,h2,h3⟩|⟨h1,h2⟩
  ·obtain ⟨v',g1,g2⟩:=a.new j hj rfl t h1 fun k hk F _=>h3 k hk F
   refine ⟨v',g1,?_⟩
   rw [<- h2]
   have:=uF hj
   exact g2.mono (by simp;omega) fun _ _=>rfl
  ·obtain ⟨v',g1,g2⟩:=a.old t v h1 fun k hk _=>h2 k hk
   exact ⟨v',g1,g2.mono oS fun _ _=>rfl⟩
 ·intro A' w' ρ' x m H hp hd R E hmlt C u
  have W:ts[f].ns=[]:=by
   apply Classical.byContradiction;intro ZZ
   obtain ⟨n1,n2,e1,_⟩:=qU ts 0 [] f E ZZ
   rw [e1] at J
   simp at J
  have T:l[ts.length]?=some o1:=by rw [hl,I,bE oO,q];simp
  refine ab4 (lV ρ0 rd) c T K (t:=t) (by
   have:l.drop fr.length=o1::t:=by rw [hl,I];simp
   have h2:l.drop (ts.length+1)=(l.drop fr.length).drop 1:=by rw [fg];congr 1;omega
   rw [h2,this];rfl) E H hp R C u ?_
  have a:=iZ (L':=fun k=>decide (k ≠ f)) (fun k hk=>by rw [hp];simp [hk]) hd
  have g:=a.sim
  rw [NR ts 0 fun j hj=>by
   by_cases r:j=f
   ·subst r;exact .inr W
   ·exact .inl (by simp [r])] at g
  refine z G w0 ρ0 A' w' ⟨by simp;omega,ρ',fun i hi=>a.ag i hi |>.trans rfl,g,⟨a.sz,fun t v hv=>?_⟩,a.mks,fun i hi=>by have:=he.mkb i hi;simp;omega⟩ _ fun e' D σ' A' w' hk B=>⟨e',D,σ',hk,B⟩
  obtain ⟨O,hv⟩:=yu hv
  have Y:ts[f].o.dst=some d:=by
   have h1:=y f E
   rw [K] at h1
   rw [<- Option.some.inj h1];exact S
  rcases l9 ts e t v hv with ⟨j,hj,h1,h2,h3⟩|⟨h1,h2⟩
  ·have r:j ≠ f:=by
    intro r;subst r
    rw [Y] at h1
    exact O (Option.some.inj h1).symm
   obtain ⟨v',g1,g2⟩:=a.new j hj (by simp [r]) t h1 fun k hk F _=>h3 k hk F
   refine ⟨v',g1,?_⟩
   rw [<- h2]
   have:=uF hj
   exact g2.mono (by simp;omega) fun _ _=>rfl
  ·obtain ⟨v',g1,g2⟩:=a.old t v h1 fun k hk _=>h2 k hk
   exact ⟨v',g1,g2.mono oS fun _ _=>rfl⟩
 ·unfold cnt
  rw [List.countP_eq_length.2]
  ·simp
  ·intro i hi
   rw [getD_lt (d':=false) (oU hi),n];rfl
 ·intro j o _ hL
  rw [n] at hL;cases hL
 ·refine iZ (L:=fun _=>false) (fun k _=>(n k).symm) ⟨ha,?_,he.tmps.1,he.mks,fun t v hv _=>?_,fun k hk hL=>by cases hL⟩
  ·rw [qE]
   exact qF (zX hs _) rfl rfl rfl rfl
  ·exact he.tmps.2 t v hv
end Go.AH.Late
namespace Go.AH
theorem V4 {P:Program} {rd:Option Nat} {ty:TypeId} {e:Env} {U:Heap} {x y:Operand} {t el size bytes i sz n l:Nat} {agg:Bool} {z:Value} {k:IntKind} [ha:Sl P t el] [ht:Ty P el size agg z bytes] (hx:aT e x=some (.slice (some ⟨i,0,some sz⟩) n n)) (hy:aT e y=some (.int k (l:Nat))) (hl:l<n) :
  bY P rd (.slice t x (some y) none none) ty e U (.slice (some ⟨i,l*size,none⟩) (n - l) (n - l)) U :=
 dh oS fun op ho _ G w0 V A w hs c=>by
  have hv:=c x (by simp [Op.operands]) _ hx
  have hi:=bH (c y (by simp [Op.operands]) _ hy) rfl
  obtain ⟨e1,e2⟩:=Bg ha
  generalize hr:A.eval x=r at hv
  cases hv with
  |gslice _ _ _ _ c' _ hc hsz hil _ =>
   have:=run_slice_l (P:=P) w t (some ⟨(V i).b,(V i).o+0,none⟩) n c' e1 k l oO oO
   simp only [dj] at this
   have a:(execOp A.eval op).run P w=.ok (.value (sliced (some ⟨(V i).b,(V i).o+0,none⟩) l n c' size)) w:=by
    simp only [cV] at hr this ⊢
    simp [execOp,ho,hr,hi,run_sliceAt_slice _ _ _ _ _ _ e1,this,e2,ht.sizeOf]
   refine ⟨V,_,w,.inl a,?_,aD _,fun _ _=>rfl,hs⟩
   simp only [sliced]
   rw [if_neg oO]
   simp only [du,addr_add,cV]
   exact VQ.slice i (l*size) (n - l) (n - l) (c' - l) oO hil
  |gsliceG _ _ _ _ _ _ _ _ hq=>simp at hq
def Clo (all:List Oper) (L:Nat->Bool):Prop:=∀ j o,all[j]?=some o->L j=true->∀ k,waits o k=true->L k=true
theorem aff {P:Program} {F:Fence} (hF:∀ f,F.fn f) {all:List Oper} {Q':Exit->Act->World->Prop} {St:(Nat->Bool)->Act->World->Prop}
  (hst:∀ j o,all[j]?=some o->o.guard=none/\∀ i,waits o i=true->i<j)
  (step:∀ L A w j o,all[j]?=some o->L j=false->(∀ k,waits o k=true->L k=true)->St L A w->∀ next:Act->World->Prop,(∀ A' w',St (jW L j) A' w'->next A' w')->o.wpIn F 0 P A w next Q')
  (fin:∀ L A w,(∀ j<all.length,L j=true)->St L A w->Q' .normal A w) :
  ∀ (fuel:Nat) (listed:Array Bool) (A:Act) (w:World),listed.size=all.length->cnt all.length listed<=fuel->St (fun i=>listed.getD i false) A w->wpAnyIn F 0 P .any all.toArray Q' fuel listed A w:=by
 have wt:∀ {o:Oper} {e:Edge},e ∈ o.after->Region.binds .any e=true->waits o e.on=true:=fun {o e} he hb=>by
  unfold waits bV
  rw [Array.any_eq_true']
  exact ⟨e,he,by simp [hb]⟩
 have full:∀ (listed:Array Bool),listed.size=all.length->Region.ready .any all.toArray listed=[]->∀ i,i<all.length->listed.getD i false=true:=by
  intro listed hs hr i
  induction i using Nat.strongRecOn with
  |_ i ih =>
   intro hi
   by_cases hl:listed.getD i true=true
   ·rw [getD_lt (d':=true) oO];exact hl
   ·exfalso
    have:i ∈ Region.ready .any all.toArray listed:=mem_ready.2 ⟨by simpa using hl,all[i],by rw [bR];exact cA hi,fun e he hb=>by
     have h1:=(hst i all[i] (cA hi)).2 e.on (wt he hb)
     exact ih e.on h1 oO⟩
    rw [hr] at this;cases this
 intro fuel
 induction fuel with
 |zero =>
  intro listed A w hs hc a
  have d:∀ i<all.length,listed.getD i true=true:=by
   intro i hi
   apply Classical.byContradiction
   intro hn
   have:=qW (n:=all.length) hi hs (oU hn)
   omega
  have hr:Region.ready .any all.toArray listed=[]:=by
   rw [List.eq_nil_iff_forall_not_mem]
   intro i hi
   obtain ⟨h1,o,ho,_⟩:=mem_ready.1 hi
   rw [bR] at ho
   rw [d i (List.getElem?_eq_some_iff.1 ho).1] at h1
   cases h1
  exact ⟨hr,fin _ A w (full listed hs hr) a⟩
 |succ fuel ih =>
  intro listed A w hs hc a
  refine ⟨fun hr=>fin _ A w (full listed hs hr) a,fun i hi=>?_⟩
  obtain ⟨h1,o,ho,hw⟩:=mem_ready.1 hi
  rw [bR] at ho
  have l:=(List.getElem?_eq_some_iff.1 ho).1
  have h:listed.getD i false=false:=by rw [getD_lt (d':=true) oO];exact h1
  have hg:=(hst i o ho).1
  have g:(fun j=>(listed.setIfInBounds i true).getD j false)=jW (fun j=>listed.getD j false) i:=by
   funext j
   rw [iD oO];rfl
  unfold wpOpIn
  simp only [bR,ho]
  rw [if_pos (by simp [Region.wanted,hg])]
  exact step (fun i=>listed.getD i false) A w i o ho h (fun k hk=>iM hi ho hk) a _ fun A' w' c=>ih _ _ _ (oU hs) (by have:=qW (n:=all.length) l hs h1;omega) (by rw [g];exact c)
section
variable {P:Program} {n0 N:Nat} {rd:Option Nat} {Q:Post} {e:Env} {mk:List Nat} {U:Heap} {id:Nat}
theorem afg {all:List Oper} {L:Nat->Bool} {j:Nat} {o:Oper} (h:Clo all L) (ho:all[j]?=some o) (hw:∀ k,waits o k=true->L k=true):Clo all (jW L j):=fun i o' hi hL k hk=>by
 unfold jW at hL ⊢
 by_cases c:k=j
 ·rw [if_pos c]
 ·rw [if_neg c]
  by_cases a:i=j
  ·subst a
   rw [ho] at hi;cases hi
   exact hw k hk
  ·rw [if_neg a] at hL
   exact h i o' hi hL k hk
theorem PG {all:List Oper} (hmo:P.follows .mixedOrders=true) (hrd:lJ rd n0=true) (val:Nat->Value) (Hp:(Nat->Bool)->Heap) (ed:Nat->Env)
  (hlen:∀ L,(Hp L).length=U.length) (h0:Hp (fun _=>false)=U)
  (hst:∀ j o,all[j]?=some o->o.guard=none/\(∀ i,waits o i=true->i<j)/\∀ d,o.dst=some d->d<N/\Env.get e d=none/\∀ i o',i ≠ j->all[i]?=some o'->o'.dst ≠ some d)
  (hed:∀ j o,all[j]?=some o->∀ t u,Env.get (ed j) t=some u->Env.get e t=some u\/∃ k o',waits o k=true/\all[k]?=some o'/\o'.dst=some t/\u=val k)
  (hop:∀ L j o,all[j]?=some o->L j=false->(∀ k,waits o k=true->L k=true)->Clo all L->∃ v,bY P rd o.op o.type (ed j) (Hp L) v (Hp (jW L j))/\(o.dst.isSome=true->v=val j))
  (hfin:∀ L,(∀ j<all.length,L j=true)->∃ e',(∀ t u,Env.get e' t=some u->Env.get e t=some u\/∃ k o',all[k]?=some o'/\o'.dst=some t/\u=val k)/\Q .normal e' mk (Hp L)) :
  bJ P n0 N rd (.region id all.toArray true) Q e mk U:=by
 intro G w0 ρb A w n
 obtain ⟨g0,V,ha,C,a⟩:=n
 refine wpIn_region_any hmo ?_
 have hs:Sim G w0 V U { w with drawn:=w.drawn+1 }:=qF C rfl rfl rfl rfl
 generalize ({ w with drawn:=w.drawn+1 }:World)=w at hs
 have c:=lQ hrd
 have r:∀ i,(Array.replicate all.toArray.size false).getD i false=false:=fun i=>by
  simp only [eN,eZ];split <;> rfl
 have f:∀ ρ':Rho,(∀ i < U.length,ρ' i=V i)->(mk.map fun i=>({ target:=.collected (ρ' i).b,args:=#[] }:Deferred))=mk.map fun i=>{ target:=.collected (V i).b,args:=#[] }:=fun ρ' h=>eI fun i hi=>by rw [h i (a.mkb i hi)]
 refine aff (lV ρb rd) (St:=fun L A' w'=>∃ ρ',(∀ i < U.length,ρ' i=V i)/\Sim G w0 ρ' (Hp L) w'/\A'.tmps.size=N/\A'.defers=A.defers/\(∀ t v,Env.get e t=some v->∃ u,A'.tmps[t]?=some u/\gJ U.length ρ' v u) /\
   (∀ j o d,all[j]?=some o->L j=true->o.dst=some d->∃ u,A'.tmps[d]?=some u/\gJ U.length ρ' (val j) u)/\Clo all L) (fun j o ho=>⟨(hst j o ho).1,(hst j o ho).2.1⟩) ?_ ?_ _ _ A w oS ?_ ?_
 ·rintro L A1 w1 j o ho s hw ⟨ρ1,a1,s1,z1,d1,e1,n1,c1⟩ next hn
  rw [<- lW (rd:=rd) (ρ':=ρ1) (V:=ρb) fun l hl=>(a1 l (by have:=c l hl;omega)).trans (ha l (c l hl))]
  have y:Ip (abI n0 ρb) (Hp L).length ρ1 N (ed j) mk A1:=by
   rw [hlen]
   refine ⟨⟨z1,fun t v hv=>?_⟩,by rw [d1,a.mks,f ρ1 a1],a.mkb⟩
   rcases hed j o ho t v hv with h|⟨k,o',h1,h2,h3,rfl⟩
   ·exact e1 t v h
   ·exact n1 k o' t h2 (hw k h1) h3
  obtain ⟨v,m,B⟩:=hop L j o ho s hw c1
  refine m o rfl rfl G w0 ρ1 A1 w1 (fun l hl=>by rw [hlen];have:=c l hl;omega) s1 (fun x _ u hu=>qx y hu) next _ ?_
  intro ρ2 v' w2 hv hle hρ E
  rw [hlen] at hv hρ
  refine hn _ _ ⟨ρ2,fun i hi=>(hρ i hi).trans (a1 i hi),E,?_,?_,fun t v ht=>?_,fun i o' d hi hL hd=>?_,afg c1 ho hw⟩
  ·cases o.dst <;> simp [Act.put,z1]
  ·cases o.dst <;> simp [Act.put,d1]
  ·obtain ⟨u,u1,u2⟩:=e1 t v ht
   refine ⟨u,?_,u2.mono (aD _) hρ⟩
   cases hd:o.dst with
   |none=>simpa [Act.put] using u1
   |some d =>
    have q:d ≠ t:=fun h=>by have:=((hst j o ho).2.2 d hd).2.1;rw [h,ht] at this;cases this
    simp only [Act.put]
    rw [e8 q];exact u1
  ·by_cases p:i=j
   ·subst p
    rw [ho] at hi;cases hi
    refine ⟨v',?_,by rw [B (by rw [hd];rfl)] at hv;exact hv⟩
    have z:=((hst i o ho).2.2 d hd).1
    rw [hd]
    simp only [Act.put]
    rw [fp (show d<A1.tmps.size by rw [z1];exact z)]
   ·have D:L i=true:=by unfold jW at hL;rwa [if_neg p] at hL
    obtain ⟨u,u1,u2⟩:=n1 i o' d hi D hd
    refine ⟨u,?_,u2.mono (aD _) hρ⟩
    cases hd2:o.dst with
    |none=>simpa [Act.put] using u1
    |some d2 =>
     have q:d2 ≠ d:=fun h=>((hst j o ho).2.2 d2 hd2).2.2 i o' p hi (by rw [hd,h])
     simp only [Act.put]
     rw [e8 q];exact u1
 ·rintro L A1 w1 g ⟨ρ1,a1,s1,z1,d1,e1,n1,c1⟩
  obtain ⟨e',h1,h2⟩:=hfin L g
  refine ⟨e',mk,Hp L,h2,by rw [hlen];exact g0,ρ1,fun i hi=>(a1 i oO).trans (ha i hi),s1,?_⟩
  rw [hlen]
  refine ⟨⟨z1,fun t v hv=>?_⟩,by rw [d1,a.mks,f ρ1 a1],a.mkb⟩
  rcases h1 t v hv with h|⟨k,o',h2,h3,rfl⟩
  ·exact e1 t v h
  ·exact n1 k o' t h2 (g k (List.getElem?_eq_some_iff.1 h2).1) h3
 ·unfold cnt
  exact eg List.countP_le_length oS
 ·have hf:(fun i=>(Array.replicate all.toArray.size false).getD i false)=fun _=>false:=funext r
  rw [hf,h0]
  exact ⟨V,fun _ _=>rfl,hs,a.tmps.1,rfl,a.tmps.2,fun _ _ _ _ h=>absurd h oS,fun _ _ _ h=>absurd h oS⟩
end
inductive Trie (α:Type) where
 |z
 |nd (v:Option α) (l r:Trie α)
abbrev Trie.n {α:Type} (l r:Trie α):Trie α:=.nd none l r
abbrev Trie.y {α:Type} (v:α) (l r:Trie α):Trie α:=.nd (some v) l r
abbrev PT:=Trie Value
def Trie.get {α:Type}:Trie α->Nat->Option α
 |.z,_=>none
 |.nd v l r,t=>bif Nat.beq t 0 then v else bif Nat.beq (Nat.mod t 2) 1 then l.get (Nat.div t 2) else r.get (Nat.pred (Nat.div t 2))
def Trie.put {α:Type}:Trie α->Nat->α->Trie α
 |.z,_,_=>.z
 |.nd v l r,t,x=>bif Nat.beq t 0 then .nd (some x) l r else bif Nat.beq (Nat.mod t 2) 1 then .nd v (l.put (Nat.div t 2) x) r else .nd v l (r.put (Nat.pred (Nat.div t 2)) x)
def Trie.del {α:Type}:Trie α->Nat->Trie α
 |.z,_=>.z
 |.nd v l r,t=>bif Nat.beq t 0 then .nd none l r else bif Nat.beq (Nat.mod t 2) 1 then .nd v (l.del (Nat.div t 2)) r else .nd v l (r.del (Nat.pred (Nat.div t 2)))
def Trie.full {α:Type}:Nat->Trie α
 |0=>.z
 |k+1=>.nd none (Trie.full k) (Trie.full k)
structure Tab where
 ty:Trie (Nat×Bool×Value×Nat)
 fld:Trie (List (Nat×Nat))
 sl:Trie Nat
 ar:Trie (Nat×Nat)
 ik:Trie IntKind
 eq2:Trie Unit
 pls:Trie (Value×List (Nat×Nat))
 fn:Trie (Nat×List ResultVar×Code)
 mp:Trie (Nat×Nat×Nat)
 gl:Trie (List Nat):=.z
def Tab.DR (T:Tab) (s f:Nat):Option (Nat×Nat):=(T.fld.get s).bind fun l=>l[f]?
def iP {α β:Type}:List α->(List α->β)->β
 |[],k=>k []
 |x::l,k=>iP l fun m=>k (x::m)
theorem gq {α β:Type}:∀ (l:List α) (k:List α->β),iP l k=k l
 |[],_=>rfl
 |x::l,k=>gq l fun m=>k (x::m)
abbrev Res:=Option (Value×Heap×Nat)
def bT {α:Type} (b:Bool) (x:Option α):Option α:=bif b then x else none
def asInt:Value->Option (IntKind×Int)
 |.int k n=>some (k,n)
 |_=>none
def asBool:Value->Option Bool
 |.bool b=>some b
 |_=>none
def qH:Value->Option (Nat×Nat)
 |.pointer (some ⟨i,o,none⟩)=>some (i,o)
 |_=>none
def rC:Value->Option (Nat×Nat×Nat×Nat)
 |.slice (some ⟨i,o,none⟩) n c=>some (i,o,n,c)
 |_=>none
def SL:Value->Option (Nat×Nat×Nat)
 |.slice (some ⟨i,0,some sz⟩) (n+1) c=>bT (Nat.beq c (n+1)) (some (i,sz,n))
 |_=>none
def xH:Value->Bool
 |.slice none 0 0=>true
 |_=>false
def lenS:Value->Option Nat
 |.slice _ n _=>some n
 |_=>none
def asAgg:Value->Option (List Value)
 |.agg ⟨l⟩=>some l
 |_=>none
def JV:Value->Option (List Value)
 |.tuple ⟨l⟩=>some l
 |_=>none
def V5:Value->Option (Nat×List Value×List Value)
 |.func (.func f) ⟨p⟩ ⟨q⟩=>some (f,p,q)
 |_=>none
def Yr:Value->Option Nat
 |.func (.yield l) ⟨[]⟩ ⟨[]⟩=>some l
 |_=>none
def as2:List Value->Option (IntKind×Int×IntKind×Int)
 |[a,b]=>(asInt a).bind fun x=>(asInt b).bind fun y=>some (x.1,x.2,y.1,y.2)
 |_=>none
def evO (e:PT):Operand->Option Value
 |.tmp t=>e.get t
 |.const v=>bT (plain v) (some v)
 |.func f=>some (.func (.func f) #[] #[])
 |.global _=>none
def evL (e:PT):List Operand->Option (List Value)
 |[]=>some []
 |x::l=>(evO e x).bind fun v=>(evL e l).bind fun vs=>some (v::vs)
def evP (e:PT):List (Nat×Operand)->Option (List (Nat×Value))
 |[]=>some []
 |p::l=>(evO e p.2).bind fun v=>(evP e l).bind fun vs=>some ((p.1,v)::vs)
def iQ (v:Value) (U:Heap):Res:=some (v,U,U.length)
def newR (v:Value) (U:Heap) (cs:List Value):Res:=iP cs fun cs=>iP (U++[.rw cs]) fun σ'=>some (v,σ',U.length)
def Z9 (v:Value) (i:Nat) (U:Option Heap):Res:=U.bind fun U=>iP U fun U=>some (v,U,i)
def arith:BinOp->IntKind->Int->Int->Option Value
 |.quo=>fun k m n=>bT (!decide (n=0)) (some (.int k (k.wrap (m.tdiv n))))
 |.rem=>fun k m n=>bT (!decide (n=0)) (some (.int k (m.tmod n)))
 |.or=>fun k m n=>bT (decide (k=.i64) && (decide (m=0) || decide (m=1)) && (decide (n=0) || decide (n=1))) (some (.int .i64 (bI (decide (m=1) || decide (n=1)))))
 |op=>VB op
def eqOp:BinOp->Bool->Option Value
 |.eql=>fun b=>some (.bool b)
 |.neq=>fun b=>some (.bool (!b))
 |_=>fun _=>none
def agQ (op:BinOp) (v:Value) (U:Heap) (x:IntKind×Int):Res :=
 (asInt v).bind fun y=>bT (decide (x.1=y.1)) ((arith op x.1 x.2 y.2).bind fun r=>iQ r U)
def agR (T:Tab) (op:BinOp) (t:TypeId) (u v:Value) (U:Heap):Res :=
 (asAgg u).bind fun a=>(asAgg v).bind fun b=>(as2 a).bind fun x=>(as2 b).bind fun y =>
  bT ((T.eq2.get t).isSome && decide (x.1=y.1) && decide (x.2.2.1=y.2.2.1)) ((eqOp op (decide (x.2.1=y.2.1/\x.2.2.2=y.2.2.2))).bind fun r=>iQ r U)
def isI:Value->Bool
 |.int .i64 _=>true
 |_=>false
def Yt:List Value->Bool
 |[]=>true
 |v::l=>isI v && Yt l
def isK (k:IntKind) (v:Value):Bool:=match asInt v with|some x=>decide (x.1=k)|none=>false
def JW (k:IntKind):List Value->Bool
 |[]=>true
 |v::l=>isK k v && JW k l
def ivV (v:Value):Int:=match asInt v with|some x=>x.2|none=>0
def ivA (a:List Value) (i:Nat):Int:=match a[i]? with|some v=>ivV v|none=>0
def ab5:List Value->List Value->Bool
 |x::xs=>fun l=>match l with|y::ys=>decide (ivV x=ivV y) && ab5 xs ys|[]=>false
 |[]=>fun l=>l.isEmpty
def SN:BinOp->Bool
 |.eql=>true
 |_=>false
def agS (T:Tab) (op:BinOp) (t:TypeId) (u v:Value) (U:Heap):Res :=
 (asAgg u).bind fun a=>(asAgg v).bind fun b=>(T.ar.get t).bind fun y=>(T.ty.get y.2).bind fun q=>(T.ik.get y.2).bind fun k =>
  bT (SN op && Nat.beq q.1 1 && !q.2.1 && Nat.beq a.length y.1 && Nat.beq b.length y.1 && JW k a && JW k b) (iQ (.bool (ab5 a b)) U)
def agT (T:Tab) (op:BinOp) (t:TypeId) (u:Value) (U:Heap):Res :=
 (rC u).bind fun p=>(T.sl.get t).bind fun _=>bT (SN op && Nat.blt 0 p.2.2.1) (iQ (.bool false) U)
def aac:Value->Option Nat
 |.map (some i)=>some i
 |_=>none
def SQ:aC->Option (List (Value×Value))
 |.map es=>some es
 |_=>none
def Ag:Value->Bool
 |.map none=>true
 |_=>false
def pO (v:Value):Int:=match asInt v with|some x=>x.2|none=>0
def decI (v:Value):Option Int:=bT (isI v) (some (pO v))
def decL (n:Nat) (l:List Int):Option (NL n):=if h:l.length=n then some ⟨l,h⟩ else none
def decN (n:Nat) (v:Value):Option (NL n):=(asAgg v).bind fun l=>bT (Yt l) (decL n (l.map pO))
def Yu {α:Type} (f:Value->Option α):List (Value×Value)->Option (List (α×Value))
 |[]=>some []
 |p::r=>(f p.1).bind fun k=>(Yu f r).bind fun l=>some ((k,p.2)::l)
def mIdx {α:Type} [DecidableEq α] (f:Value->Option α) (es:List (Value×Value)) (k:Value):Option (Option Nat) :=
 (Yu f es).bind fun l=>(f k).bind fun k=>some ((l.map (·.1)).findIdx? (fun q=>decide (k=q)))
def NS (n:Nat) (es:List (Value×Value)) (k:Value):Option (Option Nat):=bif Nat.beq n 0 then mIdx decI es k else mIdx (decN n) es k
def two (b:Bool) (v:Value) (ok:Bool):Value:=bif b then .tuple #[v,.bool ok] else v
def ab6 (z:Value) (b:Bool) (U:Heap) (es:List (Value×Value)):Option Nat->Res
 |some j=>(es[j]?).bind fun p=>iQ (two b p.2 true) U
 |none=>bT (plain z) (iQ (two b z false) U)
def PI (T:Tab) (t:TypeId) (b:Bool) (u k:Value) (U:Heap):Res :=
 (aac u).bind fun i=>(U[i]?).bind fun o=>(SQ o).bind fun es=>(T.mp.get t).bind fun m=>(T.ty.get m.2.1).bind fun y=>(NS m.2.2 es k).bind (ab6 y.2.2.1 b U es)
def ab7 (es:List (Value×Value)) (k v:Value):Option Nat->List (Value×Value)
 |some j=>es.set j (k,v)
 |none=>es++[(k,v)]
def SS (es:List (Value×Value)):Option Nat->List (Value×Value)
 |some j=>es.eraseIdx j
 |none=>es
def ab8:aC->Bool
 |.iter _ _=>false
 |_=>true
def aad (v:Value) (i:Nat) (U:Heap) (es:List (Value×Value)):Res:=iP es fun es=>iP (U.set i (.map es)) fun σ'=>some (v,σ',i)
def V6 (T:Tab) (t:TypeId) (u k v:Value) (U:Heap):Res :=
 (aac u).bind fun i=>(U[i]?).bind fun o=>(SQ o).bind fun es=>(T.mp.get t).bind fun m=>(NS m.2.2 es k).bind fun j=>bT (U.all ab8) (aad undef i U (ab7 es k v j))
def PK (T:Tab) (t:TypeId) (u k:Value) (U:Heap):Res :=
 (aac u).bind fun i=>(U[i]?).bind fun o=>(SQ o).bind fun es=>(T.mp.get t).bind fun m=>(NS m.2.2 es k).bind fun j=>aad (.tuple #[]) i U (SS es j)
def V7 (U:Heap):Res:=iP (U++[.map []]) fun σ'=>some (.map (some U.length),σ',U.length)
def Yv (T:Tab) (op:BinOp) (t:TypeId) (u:Value) (U:Heap):Res:=(T.mp.get t).bind fun _=>bT (SN op && (Ag u || (aac u).isSome)) (iQ (.bool (Ag u)) U)
def agU (T:Tab) (op:BinOp) (t:TypeId) (u v:Value) (U:Heap):Bool->Res
 |true=>agT T op t u U
 |false=>match agR T op t u v U with
  |some r=>some r
  |none=>agS T op t u v U
def rBin (T:Tab) (op:BinOp) (t:TypeId) (u v:Value) (U:Heap):Res :=
 match asInt u with
 |some x=>agQ op v U x
 |none=>bif Ag v then Yv T op t u U else agU T op t u v U (xH v)
def V8 (i o:Nat) (U:Heap) (size:Nat):Bool->Res
 |false=>(aI U i o).bind fun v=>iQ v U
 |true=>(aK U i o size).bind fun cs=>iQ (.agg ⟨cs⟩) U
def SV (T:Tab) (t:TypeId) (u:Value) (U:Heap):Res :=
 (qH u).bind fun p=>(T.ty.get t).bind fun y=>V8 p.1 p.2 U y.1 y.2.1
def putF (U:Heap) (i o:Nat) (vs:List Value):aC->Option Heap
 |.rw cs=>bT (Nat.ble (o+vs.length) cs.length && Nat.blt 0 cs.length) (iP (splice cs o vs) fun cs=>some (U.set i (.rw cs)))
 |.gr cs t=>bT (Nat.ble (o+vs.length) cs.length && Nat.blt 0 cs.length) (iP (splice cs o vs) fun cs=>some (U.set i (.gr cs t)))
 |_=>none
def aae (U:Heap) (i o:Nat) (vs:List Value):Option Heap:=(U[i]?).bind (putF U i o vs)
def V9 (T:Tab) (t:TypeId) (u v:Value) (U:Heap):Res :=
 (qH u).bind fun p=>(T.ty.get t).bind fun y=>bT (Nat.beq (dM v).length y.1 && (dM v).all (·.oneCell')) (Z9 undef p.1 (aae U p.1 p.2 (dM v)))
def rFA (T:Tab) (s f:Nat) (u:Value) (U:Heap):Res :=
 (qH u).bind fun p=>(T.DR s f).bind fun x=>(T.ty.get x.2).bind fun y=>bT (Nat.blt 0 y.1) (iQ (.pointer (some ⟨p.1,p.2+x.1,none⟩)) U)
def SX (cs:List Value) (off:Nat) (U:Heap) (size:Nat):Bool->Res
 |false=>(cs[off]?).bind fun v=>iQ v U
 |true=>bT (Nat.ble (off+size) cs.length) (iP ((cs.drop off).take size) fun l=>iQ (.agg ⟨l⟩) U)
def Wh (T:Tab) (s f:Nat) (u:Value) (U:Heap):Res :=
 (asAgg u).bind fun cs=>(T.DR s f).bind fun x=>(T.ty.get x.2).bind fun y=>SX cs x.1 U y.1 y.2.1
def agV (T:Tab) (t:TypeId) (j:Int) (U:Heap) (p:Nat×Nat×Nat×Nat):Res :=
 (T.sl.get t).bind fun el=>(T.ty.get el).bind fun y=>bT (decide (0<=j) && decide (j<p.2.2.1)) (iQ (.pointer (some ⟨p.1,p.2.1+j.toNat*y.1,none⟩)) U)
def agW (T:Tab) (t:TypeId) (j:Int) (U:Heap) (p:Nat×Nat×Nat):Res :=
 (T.sl.get t).bind fun el=>(T.ty.get el).bind fun y=>bT (decide (0<=j) && decide (j<(p.2.2+1:Nat))) (iQ (.pointer (some ⟨p.1,j.toNat*y.1,none⟩)) U)
def agX (T:Tab) (t:TypeId) (j:Int) (U:Heap) (p:Nat×Nat):Res :=
 (T.ar.get t).bind fun a=>(T.ty.get a.2).bind fun y=>bT (decide (0<=j) && decide (j<a.1)) (iQ (.pointer (some ⟨p.1,p.2+j.toNat*y.1,none⟩)) U)
def ab9 (T:Tab) (t:TypeId) (u:Value) (U:Heap) (j:Int):Res :=
 match rC u with
 |some p=>agV T t j U p
 |none=>match SL u with
  |some p=>agW T t j U p
  |none=>(qH u).bind (agX T t j U)
def acd (T:Tab) (t:TypeId) (u v:Value) (U:Heap):Res:=(asInt v).bind fun x=>ab9 T t u U x.2
def rIdx (T:Tab) (t:TypeId) (u v:Value) (U:Heap):Res :=
 (asAgg u).bind fun cs=>(asInt v).bind fun x=>(T.ar.get t).bind fun a=>(T.ty.get a.2).bind fun y =>
  bT (decide (0<=x.2) && decide (x.2<a.1)) (SX cs (x.2.toNat*y.1) U y.1 y.2.1)
def Yw (T:Tab) (t:TypeId) (U:Heap) (vs:List (Nat×Value)):Res :=
 (T.ty.get t).bind fun y=>(T.ar.get t).bind fun a=>(T.ty.get a.2).bind fun q=>bT (y.2.1 && plain y.2.2.1) ((rO (fun i=>some (i*q.1,q.1)) (dM y.2.2.1) vs).bind fun cs=>iP cs fun cs=>iQ (.agg ⟨cs⟩) U)
def Wi (T:Tab) (t:TypeId) (vs:List (Nat×Value)) (U:Heap):Res :=
 match T.pls.get t with
 |some z=>bT (plain z.1) ((rO (z.2.toArray[·]?) (dM z.1) vs).bind fun cs=>iP cs fun cs=>iQ (.agg ⟨cs⟩) U)
 |none=>Yw T t U vs
def ace:List (Nat×Value)->Bool
 |[]=>true
 |_=>false
def SY (T:Tab) (t:TypeId) (vs:List (Nat×Value)) (U:Heap):Res :=
 (T.sl.get t).bind fun el=>(T.ty.get el).bind fun _=>bT (ace vs) (iP (U++[.dead]) fun σ'=>some (.slice none 0 1,σ',U.length))
def S9 (T:Tab) (t:TypeId) (len:Nat) (vs:List (Nat×Value)) (U:Heap):Res :=
 (T.sl.get t).bind fun el=>(T.ty.get el).bind fun y =>
  bT (plain y.2.2.1 && Nat.beq y.2.2.1.cells.toList.length y.1 && Nat.blt 0 (len*y.1) && Nat.ble (len*y.1) 16777216)
   ((rO (fun i=>some (i*y.1,y.1)) (fZ (dM y.2.2.1) len) vs).bind fun cs=>newR (.slice (some ⟨U.length,0,none⟩) len len) U cs)
def PL (T:Tab) (t:TypeId) (len:Nat) (vs:List (Nat×Value)) (U:Heap):Res:=bif Nat.beq len 0 then SY T t vs U else S9 T t len vs U
def Yx (z:Value) (size bytes:Nat) (l c:Int) (U:Heap):Res :=
 bT (plain z && Nat.beq z.cells.toList.length size && decide (0<=l) && decide (l<=c) && Nat.ble (bytes*c.toNat) 281474976710656 && Nat.ble c.toNat 9223372036854775807)
  (newR (.slice (some ⟨U.length,0,none⟩) l.toNat c.toNat) U (fZ (dM z) c.toNat))
def Wj (T:Tab) (t:TypeId) (u v:Value) (U:Heap):Res :=
 (asInt u).bind fun l=>(asInt v).bind fun c=>(T.sl.get t).bind fun el=>(T.ty.get el).bind fun y=>Yx y.2.2.1 y.1 y.2.2.2 l.2 c.2 U
def rLen (T:Tab) (t:TypeId) (u:Value) (U:Heap):Res:=(lenS u).bind fun n=>(T.sl.get t).bind fun _=>iQ (.int .i64 (n:Nat)) U
def rNot (u:Value) (U:Heap):Res:=(asBool u).bind fun b=>iQ (.bool (!b)) U
def rNeg (u:Value) (U:Heap):Res:=(asInt u).bind fun x=>iQ (.int x.1 (x.1.wrap (0 - x.2))) U
def acf (a b:Option Value) (U:Heap):Bool->Res
 |true=>a.bind fun v=>iQ v U
 |false=>b.bind fun v=>iQ v U
def acg (T:Tab) (s d:TypeId) (u:Value) (U:Heap):Res :=
 (asInt u).bind fun x=>(T.ik.get s).bind fun a=>(T.ik.get d).bind fun k=>bT (decide (a=x.1)) (iQ (.int k (k.wrap x.2)) U)
def rMM (f:Int->Int->Int) (u v:Value) (U:Heap):Res:=(asInt u).bind fun x=>(asInt v).bind fun y=>bT (decide (x.1=y.1)) (iQ (.int x.1 (f x.2 y.2)) U)
def Tc (u:Value) (i:Nat) (U:Heap):Res:=(JV u).bind fun vs=>(vs[i]?).bind fun v=>iQ v U
def rNil (u:Value) (U:Heap):Res:=bT ((qH u).isSome || (V5 u).isSome) (iQ u U)
def ach (T:Tab) (t:TypeId) (U:Heap):Res:=(T.ty.get t).bind fun y=>bT (plain y.2.2.1) (newR (.pointer (some ⟨U.length,0,none⟩)) U (dM y.2.2.1))
def rBox (U:Heap) (v:Value):Res:=newR (.pointer (some ⟨U.length,0,none⟩)) U (dM v)
def slH (T:Tab) (t:TypeId) (p:Nat×Nat×Nat×Nat) (h:Int) (U:Heap):Res :=
 (T.sl.get t).bind fun el=>(T.ty.get el).bind fun _=>bT (decide (0<=h) && decide (h<=p.2.2.2)) (iQ (.slice (some ⟨p.1,p.2.1,none⟩) h.toNat p.2.2.2) U)
def slL (T:Tab) (t:TypeId) (p:Nat×Nat×Nat×Nat) (l:Int) (U:Heap):Res :=
 (T.sl.get t).bind fun el=>(T.ty.get el).bind fun y=>bT (decide (0<=l) && decide (l<=p.2.2.1) && Nat.ble p.2.2.1 p.2.2.2)
  (iQ (.slice (some ⟨p.1,p.2.1+l.toNat*y.1,none⟩) (p.2.2.1 - l.toNat) (p.2.2.2 - l.toNat)) U)
def slG (T:Tab) (t:TypeId) (u:Value) (h m:Int) (U:Heap):Res :=
 (T.sl.get t).bind fun el=>(T.ty.get el).bind fun _ =>
  match SL u with
  |some p=>bT (decide (h=(p.2.2+1:Nat)) && decide (m=(p.2.2+1:Nat))) (iQ (.slice (some ⟨p.1,0,some 0⟩) (p.2.2+1) (p.2.2+1)) U)
  |none=>bT (xH u && decide (h=0) && decide (m=0)) (iQ u U)
def slLG (T:Tab) (t:TypeId) (p:Nat×Nat×Nat) (l:Int) (U:Heap):Res :=
 (T.sl.get t).bind fun el=>(T.ty.get el).bind fun y=>bT (decide (0<=l) && decide (l<(p.2.2+1:Nat)))
  (iQ (.slice (some ⟨p.1,l.toNat*y.1,none⟩) (p.2.2+1 - l.toNat) (p.2.2+1 - l.toNat)) U)
def slA (T:Tab) (t:TypeId) (p:Nat×Nat) (h:Option Int) (U:Heap):Res :=
 (T.ar.get t).bind fun a=>(T.ty.get a.2).bind fun _ =>
  match h with
  |none=>iQ (.slice (some ⟨p.1,p.2,none⟩) a.1 a.1) U
  |some h=>bT (decide (0<=h) && decide (h<=a.1)) (iQ (.slice (some ⟨p.1,p.2,none⟩) h.toNat a.1) U)
def Wn (T:Tab) (t:TypeId) (u:Value) (U:Heap):Option Int->Option Int->Option Int->Res
 |none,some h,none=>match rC u with|some p=>slH T t p h U|none=>(qH u).bind fun p=>slA T t p (some h) U
 |some l,none,none=>match rC u with|some p=>slL T t p l U|none=>(SL u).bind fun p=>slLG T t p l U
 |none,none,none=>(qH u).bind fun p=>slA T t p none U
 |none,some h,some m=>slG T t u h m U
 |_,_,_=>none
def app0 (el size m:Nat) (news:List Value) (U:Heap):Res :=
 bT (Nat.ble m 1000000) (iP news fun news=>iP (U++[.dead]++[.gr news el]) fun σ'=>some (eP (U.length+1) size m,σ',U.length))
def agY (el size m i n:Nat) (news:List Value) (U:Heap):aC->Res
 |.gr cs el'=>bT (Nat.beq el' el && Nat.beq cs.length ((n+1)*size)) (iP (cs++news) fun cs'=>iP (U.set i .dead++[.gr cs' el]) fun σ'=>some (eP U.length size (n+1+m),σ',i))
 |_=>none
def appG (el size m:Nat) (news:List Value) (U:Heap) (p:Nat×Nat×Nat):Res :=
 bT (Nat.beq p.2.1 size && Nat.ble (p.2.2+1+m) 1000000) ((U[p.1]?).bind (agY el size m p.1 p.2.2 news U))
def agZ (size m:Nat) (news:List Value) (U:Heap) (p:Nat×Nat×Nat×Nat):Res :=
 bT (Nat.ble (p.2.2.1+m) p.2.2.2) (Z9 (.slice (some ⟨p.1,p.2.1,none⟩) (p.2.2.1+m) p.2.2.2) p.1 (aae U p.1 (p.2.1+p.2.2.1*size) news))
def Td (size m:Nat) (u:Value) (news:List Value) (U:Heap):Res:=(rC u).bind (agZ size m news U)
def isZS:Value->Bool
 |.slice none 0 1=>true
 |_=>false
def appE (el size m:Nat) (news:List Value) (U:Heap):Res :=
 bT (Nat.ble m 1000000) (iP news fun news=>iP (U++[.gr news el]) fun σ'=>some (eP U.length size m,σ',U.length))
def appX (el size m i n:Nat) (news:List Value) (U:Heap):Res :=
 bT (Nat.ble (n+m) 1000000) ((aK U i 0 (n*size)).bind fun cs=>iP (cs++news) fun cs'=>iP (U++[.gr cs' el]) fun σ'=>some (eP U.length size (n+m),σ',U.length))
def Tf (el size m:Nat) (u:Value) (news:List Value) (U:Heap):Res :=
 match SL u with
 |some p=>bif Nat.beq p.2.1 0 then appX el size m p.1 (p.2.2+1) news U else appG el size m news U p
 |none=>bif xH u then app0 el size m news U else bif isZS u then appE el size m news U else Td size m u news U
def PN (T:Tab) (t:TypeId) (u v:Value) (U:Heap):Res :=
 (rC v).bind fun q=>(T.sl.get t).bind fun el=>(T.ty.get el).bind fun y =>
  bT (Nat.beq y.2.2.1.cells.toList.length y.1 && Nat.blt 0 y.1 && Nat.ble y.2.2.2 1000000 && Nat.blt 0 q.2.2.1)
   ((aK U q.1 q.2.1 (q.2.2.1*y.1)).bind fun news=>bT (news.all (·.oneCell')) (Tf el y.1 q.2.2.1 u news U))
def aci (T:Tab) (t:TypeId) (u v:Value) (U:Heap):Res :=
 (rC u).bind fun p=>(rC v).bind fun q=>(T.sl.get t).bind fun el=>(T.ty.get el).bind fun y =>
  bT (Nat.beq q.2.2.1 p.2.2.1 && Nat.blt 0 p.2.2.1)
   ((aK U q.1 q.2.1 (p.2.2.1*y.1)).bind fun news=>bT (news.all (·.oneCell')) (Z9 (.int .i64 (p.2.2.1:Nat)) p.1 (aae U p.1 p.2.1 news)))
def Wp (T:Tab) (t:TypeId) (u:Value) (U:Heap):Res :=
 (rC u).bind fun p=>(T.sl.get t).bind fun el=>(T.ty.get el).bind fun y =>
  bT (plain y.2.2.1 && Nat.beq y.2.2.1.cells.toList.length y.1 && Nat.blt 0 p.2.2.1 && (fZ (dM y.2.2.1) p.2.2.1).all (·.oneCell'))
   (Z9 (.tuple #[]) p.1 (aae U p.1 p.2.1 (fZ (dM y.2.2.1) p.2.2.1)))
def eqI (k:IntKind) (m:Int) (v:Value):Bool:=match asInt v with|some y=>decide (k=y.1) && decide (m=y.2)|none=>false
def eqB (b:Bool) (v:Value):Bool:=match asBool v with|some c=>b == c|none=>false
def eqP (p:Nat×Nat) (v:Value):Bool:=match qH v with|some q=>Nat.beq p.1 q.1 && Nat.beq p.2 q.2|none=>false
def eqS (p:Nat×Nat×Nat×Nat) (v:Value):Bool:=match rC v with|some q=>Nat.beq p.1 q.1 && Nat.beq p.2.1 q.2.1 && Nat.beq p.2.2.1 q.2.2.1 && Nat.beq p.2.2.2 q.2.2.2|none=>false
def afh:Value->Option (Nat×Nat×Nat×Nat×Nat)
 |.slice (some ⟨i,o,some s⟩) n c=>some (i,o,s,n,c)
 |_=>none
def eqG (p:Nat×Nat×Nat×Nat×Nat) (v:Value):Bool:=match afh v with|some q=>Nat.beq p.1 q.1 && Nat.beq p.2.1 q.2.1 && Nat.beq p.2.2.1 q.2.2.1 && Nat.beq p.2.2.2.1 q.2.2.2.1 && Nat.beq p.2.2.2.2 q.2.2.2.2|none=>false
def FI:Value->Bool
 |.pointer none=>true
 |_=>false
def eqV2 (u v:Value):Bool:=match afh u with|some p=>eqG p v|none=>xH u && xH v || FI u && FI v
def eqV1 (u v:Value):Bool:=match rC u with|some p=>eqS p v|none=>match qH u with|some p=>eqP p v|none=>eqV2 u v
def eqV (u v:Value):Bool:=match asInt u with|some x=>eqI x.1 x.2 v|none=>match asBool u with|some b=>eqB b v|none=>eqV1 u v
def Ah:List Value->List Value->Bool
 |[],l=>l.isEmpty
 |u::us,l=>match l with|[]=>false|v::vs=>eqV u v && Ah us vs
def sW:aC->Option (List Value)
 |.rw cs=>some cs
 |_=>none
def wP:aC->Option (List Value)
 |.ro cs=>some cs
 |_=>none
def Bq:aC->Option (List Value×Nat)
 |.gr cs t=>some (cs,t)
 |_=>none
def FK:aC->Bool
 |.dead=>true
 |_=>false
def eqO2 (a b:aC):Bool :=
 match Bq a with
 |some x=>(match Bq b with|some y=>Nat.beq x.2 y.2 && Ah x.1 y.1|none=>false)
 |none=>FK a && FK b
def eqO (a b:aC):Bool :=
 match sW a with
 |some x=>(match sW b with|some y=>Ah x y|none=>false)
 |none=>match wP a with
  |some x=>(match wP b with|some y=>Ah x y|none=>false)
  |none=>eqO2 a b
def eqH:Heap->Heap->Bool
 |[],_=>true
 |a::as,l=>match l with|[]=>false|b::bs=>eqO a b && eqH as bs
def Ti (lo:Nat) (U σ':Heap):Bool:=eqH (U.drop lo) (σ'.drop lo)
def fixR (U:Heap) (r:Value×Heap×Nat):Res:=bif Nat.ble U.length r.2.2 then some r else bif Ti r.2.2 U r.2.1 then some (r.1,r.2.1,U.length) else some r
abbrev jw:=FuncId->List Value->Heap->Res
def acj (T:Tab) (call:jw) (u:Value) (vs:List Value) (U:Heap):Res :=
 (V5 u).bind fun f=>bT (T.fn.get f.1).isSome ((call f.1 (f.2.1++vs++f.2.2) U).bind (fixR U))
def un (e:PT) (x:Operand) (f:Value->Res):Res:=(evO e x).bind f
def bi (e:PT) (x y:Operand) (f:Value->Value->Res):Res:=(evO e x).bind fun u=>(evO e y).bind fun v=>f u v
def opt (e:PT):Option Operand->Option (Option Int)
 |none=>some none
 |some x=>((evO e x).bind asInt).bind fun v=>some (some v.2)
abbrev jZ:=Tab->jw->PT->Heap->Res
def Ai:jZ:=fun _ _ _ _=>none
def acn (x:Operand):jZ:=fun _ _ e U=>un e x (iQ · U)
def ahU (t:TypeId) (x:Operand):jZ:=fun T _ e U=>un e x (SV T t · U)
def afi (t:TypeId) (x y:Operand):jZ:=fun T _ e U=>bi e x y (V9 T t · · U)
def stBin (op:BinOp) (t:TypeId) (x y:Operand):jZ:=fun T _ e U=>bi e x y (rBin T op t · · U)
def stFA (s:TypeId) (x:Operand) (f:Nat):jZ:=fun T _ e U=>un e x (rFA T s f · U)
def ahV (t:TypeId) (x y:Operand):jZ:=fun T _ e U=>bi e x y (acd T t · · U)
def afj (s:TypeId) (x:Operand) (f:Nat):jZ:=fun T _ e U=>un e x (Wh T s f · U)
def stIdx (t:TypeId) (x y:Operand):jZ:=fun T _ e U=>bi e x y (rIdx T t · · U)
def Wq (c a b:Operand):jZ:=fun _ _ e U=>((evO e c).bind asBool).bind (acf (evO e a) (evO e b) U)
def stUn:UnOp->Operand->jZ
 |.not=>fun x _ _ e U=>un e x (rNot · U)
 |.neg=>fun x _ _ e U=>un e x (rNeg · U)
 |_=>fun _=>Ai
def aaf (x:Operand) (i:Nat):jZ:=fun _ _ e U=>un e x (Tc · i U)
def stNil (x:Operand):jZ:=fun _ _ e U=>un e x (rNil · U)
def stBox (x:Operand):jZ:=fun _ _ e U=>un e x (rBox U)
def Yy (t:TypeId):jZ:=fun T _ _ U=>ach T t U
def ahW (s d:TypeId) (x:Operand):jZ:=fun T _ e U=>un e x (acg T s d · U)
def ag0:Fn->Array Operand->Array Operand->jZ
 |.func f=>fun l1 l2 _ _ e U=>(evL e l1.toList).bind fun v1=>(evL e l2.toList).bind fun v2=>iQ (.func (.func f) ⟨v1⟩ ⟨v2⟩) U
 |_=>fun _ _=>Ai
def Yz (t:TypeId) (ps:Array (Nat×Operand)):jZ:=fun T _ e U=>(evP e ps.toList).bind fun vs=>Wi T t vs U
def JX (t n:Nat) (ps:Array (Nat×Operand)):jZ:=fun T _ e U=>(evP e ps.toList).bind fun vs=>PL T t n vs U
def PO (T:Tab) (t:TypeId) (len:Nat) (vs:List (Nat×Value)) (U:Heap):Res :=
 (T.sl.get t).bind fun el=>(T.ty.get el).bind fun y =>
  bT (plain y.2.2.1 && Nat.beq y.2.2.1.cells.toList.length y.1 && Nat.blt 0 (len*y.1) && Nat.ble (len*y.1) 16777216)
   ((rO (fun i=>some (i*y.1,y.1)) (fZ (dM y.2.2.1) len) vs).bind fun cs=>newR (.slice (some ⟨U.length,0,some 0⟩) len len) U cs)
def Tj (t n:Nat) (ps:Array (Nat×Operand)):jZ:=fun T _ e U=>(evP e ps.toList).bind fun vs=>PO T t n vs U
def afk (t:TypeId) (x y:Operand):jZ:=fun T _ e U=>bi e x y (Wj T t · · U)
def afl (t:TypeId) (x:Operand) (a b c:Option Operand):jZ:=fun T _ e U =>
 un e x fun u=>(opt e a).bind fun a=>(opt e b).bind fun b=>(opt e c).bind fun c=>Wn T t u U a b c
def aco (t:TypeId) (b:Bool) (x y:Operand):jZ:=fun T _ e U=>bi e x y (PI T t b · · U)
def YA (t:TypeId) (x y z:Operand):jZ:=fun T _ e U=>bi e x y fun u k=>un e z fun v=>V6 T t u k v U
def afm (n:Option Operand):jZ:=fun _ _ _ U=>bT n.isNone (V7 U)
def afn (f:Tab->TypeId->Value->Heap->Res):List Operand->List TypeId->jZ
 |[x]=>fun ts T _ e U=>ts.head?.bind fun t=>bT ts.tail.isEmpty (un e x (f T t · U))
 |_=>fun _=>Ai
def acp (f:Tab->TypeId->TypeId->Value->Value->Heap->Res):List Operand->List TypeId->jZ
 |[x,y]=>fun ts T _ e U=>ts.head?.bind fun t=>ts.tail.head?.bind fun t'=>bT ts.tail.tail.isEmpty (bi e x y (f T t t' · · U))
 |_=>fun _=>Ai
def afo (f:Int->Int->Int):List Operand->List TypeId->jZ
 |[x,y]=>fun _ _ _ e U=>bi e x y (rMM f · · U)
 |_=>fun _=>Ai
def NU:Builtin->List Operand->List TypeId->jZ
 |.len=>afn rLen
 |.clear=>afn Wp
 |.max=>afo max
 |.min=>afo min
 |.append=>acp fun T t t' u v U=>bT (Nat.beq t t') (PN T t u v U)
 |.copy=>acp fun T t _ u v U=>aci T t u v U
 |.delete=>acp fun T t _ u v U=>PK T t u v U
 |_=>fun _ _=>Ai
def YB (x:Operand) (args:List Operand):jZ:=fun T call e U=>un e x fun u=>(evL e args).bind fun vs=>acj T call u vs U
def Eh:Callee->List Operand->List TypeId->jZ
 |.value x=>fun args _=>YB x args
 |.builtin b=>NU b
 |_=>fun _ _=>Ai
def acr (c:Call):jZ:=Eh c.callee c.args.toList c.argTypes.toList
def Ws:Op->jZ
 |.move x=>acn x
 |.assign x=>acn x
 |.load t x=>ahU t x
 |.store t x y=>afi t x y
 |.binOp op t x y _=>stBin op t x y
 |.fieldAddr s x f=>stFA s x f
 |.indexAddr t x y=>ahV t x y
 |.field s x f=>afj s x f
 |.index t x y=>stIdx t x y
 |.pick c a b=>Wq c a b
 |.unOp o _ x=>stUn o x
 |.extract x i=>aaf x i
 |.nilCheck x=>stNil x
 |.box _ x=>stBox x
 |.alloc t=>Yy t
 |.convert s d x=>ahW s d x
 |.makeFunc f l1 l2=>ag0 f l1 l2
 |.build t ps=>Yz t ps
 |.buildSlice t n ps=>JX t n ps
 |.makeSlice t x y=>afk t x y
 |.slice t x a b c=>afl t x a b c
 |.lookup t x y b=>aco t b x y
 |.mapUpdate t x y z=>YA t x y z
 |.insert t x y z=>YA t x y z
 |.makeMap _ n=>afm n
 |.call c=>acr c
 |_=>Ai
def isGl (T:Tab) (N:Nat) (d:Option Nat):Bool :=
 match d with
 |some d=>(match T.gl.get N with|some l=>l.any (Nat.beq d)|none=>false)
 |none=>false
def Tm (T:Tab) (N:Nat) (d:Option Nat):Op->jZ
 |.buildSlice t n ps=>bif isGl T N d then Tj t n ps else JX t n ps
 |op=>Ws op
abbrev Tn:=Option (Exit×PT×List Nat×Heap×Nat)
abbrev qI:=Code->(N:Nat)->(rd:Option Nat)->PT->List Nat->Heap->Tn
abbrev Ir:=Option (PT×Heap×Nat)
def minN (a b:Nat):Nat:=bif Nat.ble a b then a else b
def YC:Value->Option (Option Bool)
 |.bool b=>some (some b)
 |.tuple ⟨[]⟩=>some none
 |_=>none
def isB (w:Bool):Option Bool->Bool
 |some b=>b == w
 |none=>false
def acs (all:List Oper) (e:PT) (j:Nat):Option (Option Bool):=(all[j]?).bind fun o=>o.dst.bind fun t=>(e.get t).bind YC
def Tq (all:List Oper) (e:PT):Option (Nat×Bool)->Option Bool
 |none=>some true
 |some g=>(acs all e g.1).bind fun b=>some (isB g.2 b)
def aag (N:Nat) (v:Value) (e:PT):Option Nat->Option PT
 |some d=>bT (Nat.blt d N) (some (e.put d v))
 |none=>some e
def Ei:List Nat->List Value->PT->PT
 |p::ps,v::vs,e=>Ei ps vs (e.put p v)
 |_,_,e=>e
def acu:Env->PT
 |[]=>Trie.full 9
 |p::e=>(acu e).put p.1 p.2
def Trie.ents {α:Type}:Trie α->Nat->Nat->List (Nat×α)
 |.z,_,_=>[]
 |.nd v l r,a,b=>(match v with|some x=>[(b,x)]|none=>[])++(l.ents (2*a) (a+b)++r.ents (2*a) (2*a+b))
def Ej (e:PT):Env:=e.ents 1 0
def acv (e:PT) (args:List Operand):Callee->Option (Nat×List Value)
 |.value x=>((evO e x).bind Yr).bind fun l=>(evL e args).bind fun vs=>some (l,vs)
 |_=>none
def YD (e:PT):Op->Option (Nat×List Value)
 |.call c=>acv e c.args.toList c.callee
 |_=>none
def yieldOf (e:PT) (o:Oper):Option Nat->Option (Nat×List Value)
 |none=>bT o.dst.isSome (YD e o.op)
 |_=>none
def endY (N d l:Nat) (e:PT) (σ2:Heap) (lo:Nat) (o:aC):Exit->Ir
 |.normal=>bT (uf o && Nat.blt d N) (some (e.put d (.bool true),σ2.set l (kV .ready none o),lo))
 |.ret=>bT (uf o && Nat.blt d N) (some (e.put d (.bool false),σ2.set l (kV .done (some .ret) o),lo))
 |.exit id=>bT (uf o && Nat.blt d N) (some (e.put d (.bool false),σ2.set l (kV .done (some (.exit id)) o),lo))
 |_=>none
def ag1 (code:qI) (N d l:Nat) (e:PT) (N':Nat) (body:Code) (e1:PT) (mk1:List Nat) (σ1:Heap) (lo1:Nat):aC->Ir
 |.loop .ready pend N2 e2 ps2 as2 bd2=>(code body N' (some l) e1 mk1 (σ1.set l (.loop .busy pend N2 e2 ps2 as2 bd2))).bind fun r=>(r.2.2.2.1[l]?).bind fun o=>endY N d l e r.2.2.2.1 (minN l (minN lo1 r.2.2.2.2)) o r.1
 |_=>none
def JY:Exit->Bool
 |.normal=>true
 |_=>false
def acw (code:qI) (N d l:Nat) (vs:List Value) (e:PT) (U:Heap):aC->Ir
 |.loop .ready _ N' e' ps assign body=>bT (Nat.beq vs.length ps.toList.length && ps.toList.all (Nat.blt · N'))
   ((code assign N' (some l) (Ei ps.toList vs (acu e')) [] U).bind fun r=>bT (JY r.1) ((r.2.2.2.1[l]?).bind (ag1 code N d l e N' body r.2.1 r.2.2.1 r.2.2.2.1 r.2.2.2.2)))
 |_=>none
def JZ (code:qI) (N:Nat) (dst:Option Nat) (e:PT) (U:Heap) (y:Nat×List Value):Ir :=
 dst.bind fun d=>(U[y.1]?).bind (acw code N d y.1 y.2 e U)
def ag2 (r:Ir) (k:PT->Heap->Ir):Ir:=r.bind fun a=>(k a.1 a.2.1).bind fun b=>some (b.1,b.2.1,minN a.2.2 b.2.2)
def PS (T:Tab) (call:jw) (N:Nat) (o:Oper) (e:PT) (U:Heap):Ir :=
 (Tm T N o.dst o.op T call e U).bind fun r=>(aag N r.1 e o.dst).bind fun e1=>some (e1,r.2.1,r.2.2)
def J3 (T:Tab) (call:jw) (code:qI) (N:Nat) (rd:Option Nat) (o:Oper) (e:PT) (U:Heap):Bool->Ir
 |true=>match yieldOf e o rd with
  |some y=>JZ code N o.dst e U y
  |none=>PS T call N o e U
 |false=>(aag N undef e o.dst).bind fun e1=>some (e1,U,U.length)
def CX (T:Tab) (call:jw) (code:qI) (N:Nat) (rd:Option Nat) (all:List Oper):List Oper->PT->Heap->Ir
 |[],e,U=>some (e,U,U.length)
 |o::rest,e,U=>(Tq all e o.guard).bind fun b=>ag2 (J3 T call code N rd o e U b) (CX T call code N rd all rest)
def PU (n:Nat):Heap->Bool
 |[]=>true
 |.rw cs::r=>dU n cs && okL cs && PU n r
 |_::_=>false
def nC:List Oper->List Nat->List Nat
 |[],acc=>acc
 |o::r,acc=>Fj (ql acc o.after.toList) fun m=>nC r (acc++[m])
mutual
def pv (p:Nat->Bool):Value->Bool
 |.pointer (some a)=>p a.block
 |.slice (some a) _ _=>p a.block
 |.map (some i)=>p i
 |.chan (some i)=>p i
 |.func (.yield l) a b=>p l && pvA p a && pvA p b
 |.func _ a b=>pvA p a && pvA p b
 |.iface _ v=>pv p v
 |.agg cs=>pvA p cs
 |.tuple cs=>pvA p cs
 |_=>true
def pvA (p:Nat->Bool):Array Value->Bool
 |⟨l⟩=>pvL p l
def pvL (p:Nat->Bool):List Value->Bool
 |[]=>true
 |v::l=>pv p v && pvL p l
end
def Em:List (Nat×Heap)->Nat->Option Nat
 |[],_=>none
 |p::r,b=>bif Nat.blt b p.2.length then some p.1 else Em r (b - p.2.length)
def isBit (m:Nat):Option Nat->Bool
 |some j=>m.testBit j
 |none=>false
def acy (n len m:Nat) (news:List (Nat×Heap)) (b:Nat):Bool:=Nat.blt b n || Nat.ble len b || isBit m (Em news (b - n))
abbrev FRes:=Option (PT×List (Nat×Heap)×List Oper)
def Tt (T:Tab) (call:jw) (N:Nat) (o:Oper) (e:PT) (n0 m:Nat) (news:List (Nat×Heap)) (U:Heap):Option (PT×Heap) :=
 (Tm T N o.dst o.op T call e U).bind fun r=>bT (Nat.ble U.length r.2.2 && PU n0 (r.2.1.drop U.length) && pv (acy n0 U.length m news) r.1) ((aag N r.1 e o.dst).bind fun e1=>iP (r.2.1.drop U.length) fun ns=>some (e1,ns))
def seen {β:Type} (L:Nat->Bool) (σ0:Heap) (k:Heap->β):List (Nat×Heap)->β
 |[]=>k σ0
 |p::news=>iP (σ0++gV L (p::news)) k
def PV (T:Tab) (call:jw) (N:Nat) (o:Oper) (e:PT) (σ0:Heap) (m:Nat) (news:List (Nat×Heap)):Bool->Option (PT×Heap)
 |true=>seen (bV o.after) σ0 (Tt T call N o e σ0.length m news) news
 |false=>(aag N undef e o.dst).bind fun e1=>some (e1,[])
def En (T:Tab) (call:jw) (N:Nat) (all:List Oper) (ms:List Nat) (σ0:Heap):Nat->List Oper->PT->List (Nat×Heap)->FRes
 |_,[],e,news=>some (e,news,[])
 |k,o::rest,e,news=>match (Tq all e o.guard).bind (PV T call N o e σ0 (ms.getD k 0) news) with
  |some r=>En T call N all ms σ0 (k+1) rest r.1 (addN news k r.2)
  |none=>some (e,news,o::rest)
abbrev CT:=Tab->jw->qI->(N:Nat)->(rd:Option Nat)->PT->List Nat->Heap->Tn
def YE (ex:Exit):CT:=fun _ _ _ _ _ e mk U=>some (ex,e,mk,U,U.length)
def failC:CT:=fun _ _ _ _ _ _ _ _=>none
def seqK (code:qI) (N:Nat) (rd:Option Nat) (b:Code) (e:PT) (mk:List Nat) (U:Heap) (lo:Nat):Exit->Tn
 |.normal=>(code b N rd e mk U).bind fun r=>some (r.1,r.2.1,r.2.2.1,r.2.2.2.1,minN lo r.2.2.2.2)
 |ex=>some (ex,e,mk,U,lo)
def acz (a b:Code):CT:=fun _ _ code N rd e mk U=>(code a N rd e mk U).bind fun r=>seqK code N rd b r.2.1 r.2.2.1 r.2.2.2.1 r.2.2.2.2 r.1
def YF:Exit->Bool
 |.goto _=>false
 |_=>true
def acA (c:Code):CT:=fun _ _ code N rd e mk U=>(code c N rd e mk U).bind fun r=>bT (YF r.1) (some r)
def acB (id:Nat):Exit->Exit
 |.exit id'=>bif Nat.beq id' id then .normal else .exit id'
 |ex=>ex
def acC (id:Nat) (c:Code):CT:=fun _ _ code N rd e mk U=>(code c N rd e mk U).bind fun r=>some (acB id r.1,r.2)
def condK (a b:Code):Bool->Code
 |true=>a
 |false=>b
def condC (c:Operand) (a b:Code):CT:=fun _ _ code N rd e mk U=>((evO e c).bind asBool).bind fun t=>code (condK a b t) N rd e mk U
def acD (b:Code):CT:=acz b (.loop b)
def acE (mk:List Nat) (r:Ir):Tn:=r.bind fun r=>some (.normal,r.1,mk,r.2.1,r.2.2)
def afp:Builtin->Bool
 |.append|.copy|.clear|.delete=>true
 |_=>false
def afq:Callee->Bool
 |.builtin b=>afp b
 |_=>false
def Wu:Op->Bool
 |.store ..|.mapUpdate ..|.insert ..|.mapEntry ..|.entryStore ..=>true
 |.call c=>afq c.callee
 |_=>false
def acF:List Oper->List Bool->List Bool
 |[],acc=>acc
 |o::r,acc=>acF r (acc++[Wu o.op || o.after.toList.any fun e=>acc.getD e.on false])
def pick (b:Bool):List Bool->Nat->List Nat
 |[],_=>[]
 |c::l,i=>bif c == b then i::pick b l (i+1) else pick b l (i+1)
def Bv (ops:List Oper):List Nat:=pick false (acF ops []) 0++pick true (acF ops []) 0
def regD (ops:List Oper) (T:Tab) (call:jw) (code:qI) (N:Nat) (rd:Option Nat) (e:PT) (mk:List Nat) (U:Heap) (r:PT×List (Nat×Heap)×List Oper):Tn :=
 seen (fun _=>true) U (fun σ1=>acE mk ((CX T call code N rd ops r.2.2 r.1 σ1).bind fun q=>some (q.1,q.2.1,minN U.length q.2.2))) r.2.1
def aah (ops:List Oper):CT:=fun T call code N rd e mk U =>
 (En T call N ops (nC ops []) U 0 ops e []).bind fun r=>bT (Fj (ops.length - r.2.2.length) (drawOk ops)) (regD ops T call code N rd e mk U r)
def regP (Z:List Nat) (ops:List Oper):CT:=fun T call code N rd e mk U=>bT (vU Z ops) (aah (kD Z ops) T call code N rd e mk U)
def YG (o:Oper):Bool :=
 o.guard.isNone && o.dst.isSome && o.after.toList.all (fun e=>!Region.binds .any e) && match o.op with
  |.move _=>true
  |.assign _=>true
  |_=>false
def YH (p:Oper->Bool):List Oper->Nat->List Nat
 |[],_=>[]
 |o::l,i=>bif p o then i::YH p l (i+1) else YH p l (i+1)
def PW (ops:List Oper):List Nat:=bif IY (YH YG ops 0) ops then YH YG ops 0 else []
def Eo (N:Nat):List Oper->List Nat->Nat->Bool
 |[],_,_=>true
 |o::r,ds,j=>o.guard.isNone && o.after.toList.all (fun e=>!Region.binds .any e || Nat.blt e.on j) && (match o.dst with|some d=>Nat.blt d N && !(ds.any (Nat.beq d))|none=>true) && Eo N r (match o.dst with|some d=>d::ds|none=>ds) (j+1)
def FM:List Oper->PT->PT
 |[],e=>e
 |o::r,e=>match o.dst with|some d=>(FM r e).del d|none=>FM r e
def vN (vs:List Value) (j:Nat):Value:=vs.getD j undef
def aai (all:List Oper) (vs:List Value):List Edge->PT->PT
 |[],e=>e
 |a::r,e=>bif Region.binds .any a then (match (all[a.on]?).bind (·.dst) with|some d=>(aai all vs r e).put d (vN vs a.on)|none=>aai all vs r e) else aai all vs r e
def Tv (vs:List Value):List Oper->Nat->PT->PT
 |[],_,e=>e
 |o::r,j,e=>match o.dst with|some d=>(Tv vs r (j+1) e).put d (vN vs j)|none=>Tv vs r (j+1) e
def Iu (i:Nat) (l:List Nat):Bool:=l.any (Nat.beq i)
section
variable (T:Tab) (call:jw) (N:Nat) (all:List Oper) (vs:List Value) (e0:PT)
def stepS (o:Oper) (U:Heap):Res:=Tm T N o.dst o.op T call (aai all vs o.after.toList e0) U
def hOf (sel:Nat->Bool):List Nat->Heap->Nat->Option (Heap×Nat)
 |[],U,lo=>some (U,lo)
 |i::r,U,lo=>bif sel i then (all[i]?).bind fun o=>(stepS T call N all vs e0 o U).bind fun q=>hOf sel r q.2.1 (minN lo q.2.2) else hOf sel r U lo
def afr (u v:Value):Bool:=match asAgg u with|some l=>(match asAgg v with|some l'=>Ah l l'|none=>false)|none=>eqV u v
def eqHp (a b:Heap):Bool:=Nat.beq a.length b.length && eqH a b
def chkV (o:Oper) (v:Value) (j:Nat):Bool:=match o.dst with|some _=>afr v (vN vs j)|none=>true
def chkO (ws:List Nat) (U:Heap) (Tl:List Nat) (h:Heap) (o:Oper) (j:Nat):Bool :=
 match stepS T call N all vs e0 o h with
 |some q=>chkV vs o q.1 j && (bif Iu j ws then (match hOf T call N all vs e0 (fun i=>Nat.beq j i || Iu i Tl) ws U U.length with|some h2=>eqHp q.2.1 h2.1|none=>false) else Nat.ble h.length q.2.2 && Nat.beq q.2.1.length h.length)
 |none=>false
def aaj (ws ms:List Nat) (U:Heap) (Tl:List Nat) (h:Heap):List Oper->Nat->Bool
 |[],_=>true
 |o::r,j=>(Iu j Tl || Tl.any (fun i=>(ms.getD i 0).testBit j) || chkO T call N all vs e0 ws U Tl h o j) && aaj ws ms U Tl h r (j+1)
def afs (ws ms:List Nat) (U:Heap):List (List Nat)->Bool
 |[]=>true
 |Tl::r=>(match hOf T call N all vs e0 (fun i=>Iu i Tl) ws U U.length with|some h=>Nat.beq h.1.length U.length && iP h.1 (fun h'=>aaj T call N all vs e0 ws ms U Tl h' all 0)|none=>false) && afs ws ms U r
end
def NV:List Nat->List (List Nat)
 |[]=>[[]]
 |i::r=>NV r++(NV r).map (i::·)
def tN:List Oper->Nat->List Nat
 |[],_=>[]
 |o::r,j=>bif Wu o.op then j::tN r (j+1) else tN r (j+1)
def valsN (eF:PT) (l:List Oper):List Value:=l.map fun o=>match o.dst with|some d=>(match eF.get d with|some v=>v|none=>undef)|none=>undef
def ag3 (all:List Oper) (T:Tab) (call:jw) (N:Nat) (mk:List Nat) (U:Heap) (e0:PT) (ws:List Nat) (vs:List Value):Tn :=
 bT (Nat.ble ws.length 4 && Eo N all [] 0 && afs T call N all vs e0 ws (nC all []) U (NV ws))
  ((hOf T call N all vs e0 (fun _=>true) ws U U.length).bind fun h=>some (.normal,Tv vs all 0 e0,mk,h.1,h.2))
def afu (all:List Oper):CT:=fun T call code N rd e mk U=>bT (Eo N all [] 0) <|
 (CX T call code N rd all all (FM all e) U).bind fun r=>iP (valsN r.1 all) fun vs=>ag3 all T call N mk U (FM all e) (tN all 0) vs
def afv (n b:Nat):List Nat:=bif Nat.ble n b then [b] else []
def YI (n:Nat):Value->List Nat
 |.pointer (some a)=>afv n a.block
 |.slice (some a) _ _=>afv n a.block
 |.map (some i)=>afv n i
 |.chan (some i)=>afv n i
 |_=>[]
def ag4 (n:Nat):Value->List Nat
 |.agg ⟨l⟩=>l.flatMap (YI n)
 |.tuple ⟨l⟩=>l.flatMap (YI n)
 |.func _ ⟨a⟩ ⟨b⟩=>(a++b).flatMap (YI n)
 |v=>YI n v
def ah2:aC->List Value
 |.ro cs|.rw cs|.gr cs _=>cs
 |_=>[]
def refsO (n:Nat):Option aC->List Nat
 |some o=>(ah2 o).flatMap (ag4 n)
 |none=>[]
def reach (n:Nat) (U:Heap):Nat->List Nat->List Nat->List Nat
 |0,_,acc=>acc
 |_+1,[],acc=>acc
 |k+1,b::todo,acc=>bif acc.contains b then reach n U k todo acc else reach n U k (refsO n U[b]?++todo) (acc++[b])
def num (n:Nat) (l:List Nat) (b:Nat):Nat:=bif Nat.blt b n then b else n+l.idxOf b
def cv1 (n:Nat) (l:List Nat) (v:Value):Value :=
 match v with
 |.pointer (some ⟨i,o,s⟩)=>.pointer (some ⟨num n l i,o,s⟩)
 |.slice (some ⟨i,o,_⟩) k c=>.slice (some ⟨num n l i,o,none⟩) k c
 |v=>v
def cvV (n:Nat) (l:List Nat) (v:Value):Value :=
 match v with
 |.agg ⟨x⟩=>.agg ⟨x.map (cv1 n l)⟩
 |.tuple ⟨x⟩=>.tuple ⟨x.map (cv1 n l)⟩
 |.func f ⟨x⟩ ⟨y⟩=>.func f ⟨x.map (cv1 n l)⟩ ⟨y.map (cv1 n l)⟩
 |v=>cv1 n l v
def cvO (n:Nat) (l:List Nat):Option aC->aC
 |some (.rw cs)=>.rw (cs.map (cvV n l))
 |some (.gr cs _)=>.rw (cs.map (cvV n l))
 |some (.ro cs)=>.ro (cs.map (cvV n l))
 |_=>.dead
def acG:Value->Option (Nat×Nat×Nat×Nat)
 |.slice (some ⟨i,o,some _⟩) n c=>some (i,o,n,c)
 |_=>none
def PX:Value->Bool
 |.nilFunc=>true
 |_=>false
def afw (n':Nat) (Z:Rho) (p q:Nat×Nat×Nat×Nat):Bool:=Nat.blt p.1 n' && Nat.beq (Z p.1).b q.1 && Nat.beq ((Z p.1).o+p.2.1) q.2.1 && Nat.beq p.2.2.1 q.2.2.1 && Nat.ble p.2.2.2 q.2.2.2
def subP (n':Nat) (Z:Rho) (p q:Nat×Nat):Bool:=Nat.blt p.1 n' && Nat.beq (Z p.1).b q.1 && Nat.beq ((Z p.1).o+p.2) q.2
def acH (u v:Value):Bool :=
 match asInt u with
 |some x=>eqI x.1 x.2 v
 |none=>match asBool u with
  |some b=>eqB b v
  |none=>xH u && xH v || FI u && FI v || PX u && PX v
def afx (n':Nat) (Z:Rho) (u v:Value):Bool :=
 match qH u with
 |some p=>(match qH v with|some q=>subP n' Z p q|none=>false)
 |none=>match rC u with
  |some p=>(match rC v with|some q=>afw n' Z p q|none=>(match acG v with|some q=>afw n' Z p q|none=>false))
  |none=>acH u v
def PY (n':Nat) (Z:Rho):List Value->List Value->Bool
 |[],l=>l.isEmpty
 |u::us,l=>match l with|[]=>false|v::vs=>afx n' Z u v && PY n' Z us vs
def ag5 (n':Nat) (Z:Rho) (u v:Value):Bool :=
 match V5 u with
 |some f=>(match V5 v with|some g=>Nat.beq f.1 g.1 && PY n' Z f.2.1 g.2.1 && PY n' Z f.2.2 g.2.2|none=>false)
 |none=>afx n' Z u v
def acI (n':Nat) (Z:Rho) (u v:Value):Bool :=
 match JV u with
 |some l=>(match JV v with|some l'=>PY n' Z l l'|none=>false)
 |none=>match asAgg u with
  |some l=>(match asAgg v with|some l'=>PY n' Z l l'|none=>false)
  |none=>ag5 n' Z u v
def G8 (n':Nat) (Z:Rho):List Value->List Value->Bool
 |[],_=>true
 |u::us,l=>match l with|[]=>false|v::vs=>acI n' Z u v && G8 n' Z us vs
def YJ:aC->Option (List Value)
 |.rw cs=>some cs
 |.gr cs _=>some cs
 |_=>none
def subO (n':Nat) (Z:Rho) (o:aC) (x:Option aC):Bool :=
 match sW o with
 |some cs2=>(match x.bind YJ with|some cs=>G8 n' Z cs2 cs|none=>false)
 |none=>(match wP o with|some cs2=>(match x.bind wP with|some cs=>G8 n' Z cs2 cs|none=>false)|none=>false)
def Tz (n':Nat) (Z:Rho) (U:Heap):List Nat->Heap->Bool
 |[],l=>l.isEmpty
 |b::bs,l=>match l with|[]=>false|o::os=>subO n' Z o U[b]? && Tz n' Z U bs os
def Ep:List Oper->Nat->Bool
 |[],_=>true
 |o::r,j=>o.after.toList.all (fun e=>!Region.binds .any e || Nat.blt e.on j) && Ep r (j+1)
abbrev CSt:=List Bool×(PT×Heap×Nat)×List (Nat×Nat)
def CY (m:List Bool) (j:Nat) (o:Oper):Bool:=!m.getD j true && o.after.toList.all (fun e=>!Region.binds .any e || m.getD e.on false)
def TA (T:Tab) (call:jw) (code:qI) (N:Nat) (rd:Option Nat) (all:List Oper) (s:CSt) (j:Nat) (o:Oper):Option CSt :=
 (Tq all s.2.1.1 o.guard).bind fun b=>(J3 T call code N rd o s.2.1.1 s.2.1.2.1 b).bind fun r =>
  iP r.2.1 fun σ'=>iP (s.1.set j true) fun m=>some (m,(r.1,σ',minN s.2.1.2.2 r.2.2),s.2.2++[(j,σ'.length - s.2.1.2.1.length)])
def acJ (n:Nat):List (Nat×Nat)->Nat->Nat
 |[],_=>n
 |p::r,j=>bif Nat.beq p.1 j then n else acJ (n+p.2) r j
def acK (n1:Nat) (r t:List (Nat×Nat)):List Nat:=t.flatMap fun p=>(List.range p.2).map (acJ n1 r p.1+·)
def afy (n':Nat) (Z:Rho) (u v:Value):Bool :=
 match SL u with
 |some p=>(match SL v with|some q=>Nat.blt p.1 n' && Nat.beq (Z p.1).b q.1 && Nat.beq (Z p.1).o 0 && Nat.beq p.2.1 q.2.1 && Nat.beq p.2.2 q.2.2|none=>false)
 |none=>match JV u with
  |some l=>(match JV v with|some l'=>Nat.beq l.length l'.length && G8 n' Z l l'|none=>false)
  |none=>acI n' Z u v
def G9 (n':Nat) (Z:Rho):List Value->List Value->Bool
 |[],l=>l.isEmpty
 |u::us,l=>match l with|[]=>false|v::vs=>afy n' Z u v && G9 n' Z us vs
def PZ:aC->Bool
 |.dfr=>true
 |_=>false
def subX (n':Nat) (Z:Rho) (o:aC) (x:Option aC):Bool :=
 bif FK o then true else
 match sW o with
 |some cs2=>(match x.bind sW with|some cs=>G9 n' Z cs2 cs|none=>false)
 |none=>match wP o with
  |some cs2=>(match x.bind wP with|some cs=>G9 n' Z cs2 cs|none=>false)
  |none=>match Bq o with
   |some cs2=>(match x.bind Bq with|some cs=>Nat.beq cs2.2 cs.2 && G9 n' Z cs2.1 cs.1|none=>false)
   |none=>PZ o && (match x with|some y=>PZ y|none=>false)
def YK (n':Nat) (Z:Rho) (U:Heap):Nat->Heap->Bool
 |_,[]=>true
 |i,o::r=>subX n' Z o U[(Z i).b]? && Nat.beq (Z i).o 0 && YK n' Z U (i+1) r
def ag6 (n1:Nat) (r t:CSt) (lo n2:Nat) (pl:List Nat):Bool :=
 dF n1 pl && Nat.ble n1 n2 && Nat.beq pl.length (n2 - n1) && YK n2 (fK n1 pl) r.2.1.2.1 lo (t.2.1.2.1.drop lo) &&
  (t.2.1.1.ents 1 0).all fun p=>match r.2.1.1.get p.1 with|some u=>afy n2 (fK n1 pl) p.2 u|none=>false
def afz (n1:Nat) (r t:CSt):Bool:=iP (acK n1 r.2.2 t.2.2) fun pl=>ag6 n1 r t (minN n1 (minN r.2.1.2.2 t.2.1.2.2)) t.2.1.2.1.length pl
def Wv:List Bool->List Bool->Bool
 |[],l=>l.isEmpty
 |b::bs,l=>match l with|[]=>false|c::cs=>(b == c) && Wv bs cs
def TB (m:List Bool):List CSt->Option CSt
 |[]=>none
 |t::l=>bif Wv t.1 m then some t else TB m l
section
variable (T:Tab) (call:jw) (code:qI) (N:Nat) (rd:Option Nat) (all:List Oper) (n1:Nat)
def addX (s:CSt) (acc:List CSt) (j:Nat) (o:Oper):Option (List CSt) :=
 bif CY s.1 j o then bT (Nat.ble acc.length 300) ((TA T call code N rd all s j o).bind fun r=>match TB r.1 acc with|some t=>bT (afz n1 r t) (some acc)|none=>some (acc++[r])) else some acc
def afA (s:CSt):List Oper->Nat->List CSt->Option (List CSt)
 |[],_,acc=>some acc
 |o::r,j,acc=>(addX T call code N rd all n1 s acc j o).bind fun acc'=>afA s r (j+1) acc'
def YL:List CSt->List CSt->Option (List CSt)
 |[],acc=>some acc
 |s::r,acc=>(afA T call code N rd all n1 s all 0 acc).bind fun acc'=>YL r acc'
def oG:Nat->List CSt->Option CSt
 |0,Ls=>match Ls with|[s]=>bT (s.1.all id) (some s)|_=>none
 |k+1,Ls=>bT (Ls.all fun s=>!s.1.all id) ((YL T call code N rd all n1 Ls []).bind (oG k))
end
def afB (all:List Oper):CT:=fun T call code N rd e mk U=>bT (Ep all 0)
 ((oG T call code N rd all U.length all.length [(List.replicate all.length false,(e,U,U.length),[])]).bind fun s=>some (.normal,s.2.1.1,mk,s.2.1.2.1,s.2.1.2.2))
def regG (F0 Z:List Nat) (ops:List Oper):CT:=fun T call code N rd e mk U=>bT (IY F0 ops && vU Z (kF F0 ops)) (aah (kD Z (kF F0 ops)) T call code N rd e mk U)
def ag7 (ops:List Oper) (rd:Option Nat):CT:=match rd with
 |none=>regG (PW ops) (Bv (kF (PW ops) ops)) ops
 |some _=>regP (Bv ops) ops
def regC (ops:List Oper):Bool->CT
 |false=>fun T call code N rd e mk U=>acE mk (CX T call code N rd ops ops e U)
 |true=>fun T call code N rd e mk U=>match aah ops T call code N rd e mk U with
  |some r=>some r
  |none=>match ag7 ops rd T call code N rd e mk U with
   |some r=>some r
   |none=>match afu ops T call code N rd e mk U with
    |some r=>some r
    |none=>afB ops T call code N rd e mk U
def afC:LoopState->Bool
 |.busy=>false
 |_=>true
def acL:Option Code->Option Exit
 |none=>some .normal
 |some .ret=>some .ret
 |some (.exit id)=>some (.exit id)
 |_=>none
def endR (n:Nat) (e:PT) (mk:List Nat) (σ2:Heap) (lo:Nat):aC->Tn
 |.loop st pend _ _ _ _ _=>bT (afC st) ((acL pend).bind fun ex=>some (ex,e,n::mk,σ2.set (n+1) .dead,minN n lo))
 |_=>none
def acM (T:Tab) (call:jw) (N:Nat) (ps:Array Tmp) (assign body:Code) (e:PT) (mk:List Nat) (U:Heap) (f:Nat×List Value×List Value):Tn :=
 bT (T.fn.get f.1).isSome ((call f.1 (f.2.1++[.func (.yield (U.length+1)) #[] #[]]++f.2.2) (U++[.dfr,.loop .ready none N (Ej e) ps assign body])).bind fun r =>
  (r.2.1[U.length+1]?).bind (endR U.length e mk r.2.1 r.2.2))
def Wx (g:Operand) (ps:Array Tmp) (assign body:Code):CT:=fun T call _ N rd e mk U =>
 match rd with
 |none=>((evO e g).bind V5).bind (acM T call N ps assign body e mk U)
 |some _=>none
def P5:Code->CT
 |.skip=>YE .normal
 |.label _=>YE .normal
 |.scope c=>acA c
 |.exit id=>YE (.exit id)
 |.ret=>YE .ret
 |.seq a b=>acz a b
 |.block id c=>acC id c
 |.cond c a b=>condC c a b
 |.loop b=>acD b
 |.region _ ops d=>regC ops.toList d
 |.rangeFunc g ps assign body=>Wx g ps assign body
 |_=>failC
mutual
def top:Value->Nat
 |.pointer (some a)=>a.block+1
 |.slice (some a) _ _=>a.block+1
 |.map (some i)=>i+1
 |.chan (some i)=>i+1
 |.func (.yield l) _ _=>l+1
 |.func _ ⟨a⟩ ⟨b⟩=>Nat.max (Wy a) (Wy b)
 |.iface _ v=>top v
 |.agg ⟨cs⟩=>Wy cs
 |.tuple ⟨cs⟩=>Wy cs
 |_=>0
def Wy:List Value->Nat
 |[]=>0
 |v::l=>Nat.max (top v) (Wy l)
end
def resT (T:Tab) (e:PT) (U:Heap):List ResultVar->Option (List Value)
 |[]=>some []
 |.tmp t::r=>(e.get t).bind fun v=>(resT T e U r).bind fun vs=>some (v::vs)
 |.cell a ty::r=>((e.get a).bind fun p=>SV T ty p U).bind fun v=>(resT T e U r).bind fun vs=>some (v.1::vs)
def Aj (n:Nat):aC->Bool
 |.dead=>true
 |.ro cs|.rw cs|.gr cs _=>dU n cs && okL cs
 |.dfr=>true
 |.map es=>es.all fun p=>closed n p.2 && okV p.2
 |_=>false
def allB (p:aC->Bool):Heap->Bool
 |[]=>true
 |o::r=>p o && allB p r
def topO:aC->Nat
 |.ro cs|.rw cs|.gr cs _=>Wy cs
 |.map es=>Wy (es.map (·.2))
 |_=>0
def topH:Heap->Nat
 |[]=>0
 |o::r=>Nat.max (topO o) (topH r)
def acN:Nat->List Value->PT->PT
 |_,[],e=>e
 |k,v::l,e=>acN (k+1) l (e.put k v)
def ag8 (lo m:Nat) (v:Value) (U:Heap):Nat:=bif Nat.ble m U.length && closed m v && okV v && allB (Aj m) ((U.take m).drop lo) then m else U.length
def YM (n lo:Nat) (v:Value) (U:Heap):Nat:=ag8 (minN lo n) (Nat.max n (Nat.max (top v) (topH ((U.take n).drop lo)))) v U
def ag9:Option aC->Bool
 |some .dfr=>true
 |_=>false
def mkOk (mk:List Nat) (U:Heap):Bool:=decide mk.Nodup && mk.all fun i=>ag9 U[i]?
def minL (n:Nat):List Nat->Nat
 |[]=>n
 |i::l=>minN i (minL n l)
def aha:Exit->Bool
 |.normal|.ret=>true
 |_=>false
def ahb (n lo:Nat) (v:Value) (U:Heap) (l:List Nat) (v2:Value) (news:Heap):Res :=
 bT (dF n l && Nat.beq l.length news.length && Tz (n+news.length) (fK n l) U l news && acI (n+news.length) (fK n l) v2 v) (iP (U.take n++news) fun σ'=>some (v2,σ',lo))
def ahc (n lo:Nat) (v:Value) (U:Heap) (l:List Nat):Res:=iP (l.map fun b=>cvO n l U[b]?) fun news=>ahb n lo v U l (cvV n l v) news
def WA (n lo:Nat) (v:Value) (U:Heap):Res:=iP (reach n U 1000 (ag4 n v) []) (ahc n lo v U)
def P6 (n lo:Nat) (v:Value) (U:Heap):Res:=iP (U.take (YM n lo v U)) fun σ'=>some (v,σ',lo)
def retK (n lo:Nat) (v:Value) (U:Heap):Res :=
 bif Nat.ble n lo then (match WA n lo v U with|some r=>some r|none=>P6 n lo v U) else P6 n lo v U
def retC (T:Tab) (rv:List ResultVar) (n:Nat) (r:Exit×PT×List Nat×Heap×Nat):Res :=
 bT (aha r.1 && mkOk r.2.2.1 r.2.2.2.1) (iP (kE r.2.2.1 r.2.2.2.1) fun σ1=>(resT T r.2.1 σ1 rv).bind fun vs=>retK n (minN r.2.2.2.2 (minL r.2.2.2.2 r.2.2.1)) (jH vs) σ1)
def YN (T:Tab) (code:qI) (args:List Value) (U:Heap) (x:Nat×List ResultVar×Code):Res :=
 bT (Nat.ble args.length x.1) ((code x.2.2 x.1 none (acN 0 args (Trie.full 9)) [] U).bind (retC T x.2.1 U.length))
def P7 (T:Tab) (orc:jw) (code:qI) (f:FuncId) (args:List Value) (U:Heap):Res :=
 match orc f args U with
 |some r=>some r
 |none=>(T.fn.get f).bind (YN T code args U)
def rn (T:Tab) (orc:jw):Nat->jw×qI :=
 Nat.rec (⟨fun _ _ _=>none,fun _ _ _ _ _ _=>none⟩) (fun _ r=>⟨P7 T orc r.2,fun c=>P5 c T r.1 r.2⟩)
def Trie.All {α:Type} (p:Nat->α->Prop):Trie α->Prop
 |.z=>True
 |.nd v l r=>(match v with|some x=>p 0 x|none=>True)/\Trie.All (fun t=>p (2*t+1)) l/\Trie.All (fun t=>p (2*t+2)) r
theorem Trie.all_get {α:Type} {tr:Trie α}:∀ {p:Nat->α->Prop},tr.All p->∀ t x,tr.get t=some x->p t x:=by
 induction tr with
 |z=>intro p _ t x h;cases h
 |nd v l r ihl ihr =>
  rintro p ⟨h1,h2,h3⟩ t x h
  simp only [Trie.get] at h
  by_cases h0:t=0
  ·subst h0
   have h':v=some x:=h
   subst h';exact h1
  ·have hb:Nat.beq t 0=false:=jA h0
   rw [hb] at h
   simp only [cond_false] at h
   by_cases hm:Nat.mod t 2=1
   ·rw [hm] at h
    have:=ihl h2 _ _ h
    have e:2*Nat.div t 2+1=t:=by have h1:=Nat.div_add_mod t 2;have h2:t % 2=1:=hm;have h3:Nat.div t 2=t / 2:=rfl;omega
    rwa [e] at this
   ·have a:Nat.beq (Nat.mod t 2) 1=false:=jA hm
    rw [a] at h
    simp only [cond_false] at h
    have:=ihr h3 _ _ h
    have e:2*Nat.pred (Nat.div t 2)+2=t:=by have h1:=Nat.div_add_mod t 2;have h2:t % 2 ≠ 1:=hm;have h3:Nat.div t 2=t / 2:=rfl;rw [Nat.pred_eq_sub_one,h3];omega
    rwa [e] at this
def MpOk (P:Program) (t:TypeId) (x:Nat×Nat×Nat):Prop:=mpOf P t=some (x.1,x.2.1)/\(x.2.2=0->O9 P x.1=some .i64)/\(x.2.2 ≠ 0->tK P 5 x.1 x.2.2=true/\PD P x.1=true)
def FnOk (P:Program) (f:Nat) (x:Nat×List ResultVar×Code):Prop :=
 zU P f=true/\∃ fn,P.funcs[f]?=some fn/\fn.ntmps=x.1/\fn.results=x.2.1.toArray/\fn.body=some x.2.2
structure iG (P:Program) (T:Tab):Prop where
 ty:∀ t x,T.ty.get t=some x->RQ P t=some x
 fld:∀ t x,T.fld.get t=some x->x.zipIdx.map (fun p=>DR P t p.2)=x.map some
 sl:∀ t x,T.sl.get t=some x->ae1 P t=some x
 ar:∀ t x,T.ar.get t=some x->ae2 P t=some x
 ik:∀ t x,T.ik.get t=some x->O9 P t=some x
 eq2:∀ t x,T.eq2.get t=some x->Sm P t=true
 pls:∀ t x,T.pls.get t=some x->Ym P t=some x
 fn:∀ t x,T.fn.get t=some x->FnOk P t x
 mp:∀ t x,T.mp.get t=some x->MpOk P t x
theorem iG.field {P:Program} {T:Tab} (h:iG P T) {s f:Nat} {y:Nat×Nat} (hy:T.DR s f=some y):DR P s f=some y:=by
 obtain ⟨l,hl,hy⟩:=Option.bind_eq_some_iff.1 hy
 have h1:=h.fld _ _ hl
 have h2:(l.zipIdx.map (fun p=>DR P s p.2))[f]?=(l.map some)[f]?:=by rw [h1]
 simp only [cJ,List.getElem?_zipIdx,hy] at h2
 simpa using h2
theorem aO {α:Type} {b:Bool} {x:Option α} {r:α}:bT b x=some r↔b=true/\x=some r:=by cases b <;> simp [bT]
theorem jI {v:Value} {x:IntKind×Int} (h:asInt v=some x):v=.int x.1 x.2:=by unfold asInt at h;split at h <;> cases h <;> rfl
theorem rX {v:Value} {b:Bool} (h:Go.AH.asBool v=some b):v=.bool b:=by unfold Go.AH.asBool at h;split at h <;> simp_all
theorem jJ {v:Value} {p:Nat×Nat} (h:qH v=some p):v=.pointer (some ⟨p.1,p.2,none⟩):=by unfold qH at h;split at h <;> cases h <;> rfl
theorem kP {v:Value} {p:Nat×Nat×Nat×Nat} (h:rC v=some p):v=.slice (some ⟨p.1,p.2.1,none⟩) p.2.2.1 p.2.2.2:=by unfold rC at h;split at h <;> cases h <;> rfl
theorem y7 {v:Value} {p:Nat×Nat×Nat} (h:SL v=some p):v=eP p.1 p.2.1 (p.2.2+1):=by
 unfold SL at h
 split at h
 ·obtain ⟨h1,h2⟩:=aO.1 h
  cases h2
  have:=aM h1
  subst this;rfl
 ·cases h
theorem rY {v:Value} (h:xH v=true):v=.slice none 0 0:=by unfold xH at h;split at h <;> simp_all
theorem Bz {v:Value} (h:FI v=true):v=.pointer none:=by unfold FI at h;split at h <;> simp_all
theorem afD {v:Value} {n:Nat} (h:lenS v=some n):∃ a c,v=.slice a n c:=by unfold lenS at h;split at h <;> simp_all
theorem mD {v:Value} {l:List Value} (h:asAgg v=some l):v=.agg l.toArray:=by unfold asAgg at h;split at h <;> simp_all
theorem Ak {v:Value} {l:List Value} (h:JV v=some l):v=.tuple l.toArray:=by unfold JV at h;split at h <;> simp_all
theorem Es {v:Value} {x:Nat×List Value×List Value} (h:V5 v=some x):v=.func (.func x.1) x.2.1.toArray x.2.2.toArray:=by unfold V5 at h;split at h <;> cases h <;> rfl
theorem acO {l:List Value} {x:IntKind×Int×IntKind×Int} (h:as2 l=some x):l=[.int x.1 x.2.1,.int x.2.2.1 x.2.2.2]:=by
 unfold as2 at h
 split at h
 ·simp only [aL] at h
  obtain ⟨y,h1,z,h2,h3⟩:=h
  cases h3
  rw [jI h1,jI h2]
 ·cases h
def Agr (e:Env) (tr:PT):Prop:=∀ t v,tr.get t=some v->Env.get e t=some v
theorem ug {e:Env} {tr:PT} {x:Operand} {v:Value} (ha:Agr e tr) (h:evO tr x=some v):aT e x=some v:=by
 cases x with
 |tmp t=>exact ha _ _ h
 |const u =>
  obtain ⟨h1,h2⟩:=aO.1 (show bT (plain u) (some u)=some v from h)
  simp [aT,h1,h2]
 |global g=>cases h
 |func f=>exact h
theorem J4 {e:Env} {tr:PT} (ha:Agr e tr):∀ {l:List Operand} {vs:List Value},evL tr l=some vs->wI e l=some vs
 |[],_,h=>h
 |x::l,vs,h=>by
  simp only [evL,aL] at h
  obtain ⟨v,h1,us,h2,h3⟩:=h
  simp [wI,ug ha h1,J4 ha h2,h3]
theorem P8 {e:Env} {tr:PT} (ha:Agr e tr):∀ {l:List (Nat×Operand)} {vs:List (Nat×Value)},evP tr l=some vs->tJ e l=some vs
 |[],_,h=>h
 |(i,x)::l,vs,h=>by
  simp only [evP,aL] at h
  obtain ⟨v,h1,us,h2,h3⟩:=h
  simp [tJ,ug ha h1,P8 ha h2,h3]
def Keep (lo:Nat) (U σ':Heap):Prop:=U.length<=σ'.length/\∀ i,i<lo->i < U.length->σ'[i]?=U[i]?
theorem Keep.refl {lo:Nat} {U:Heap}:Keep lo U U:=⟨aD _,fun _ _ _=>rfl⟩
theorem Keep.app {lo:Nat} {U x:Heap}:Keep lo U (U++x):=⟨by simp,fun i _ h=>bO h⟩
theorem Keep.set {i:Nat} {U:Heap} {o:aC}:Keep i U (U.set i o):=⟨by simp,fun j h _=>by rw [eE oO]⟩
theorem Keep.trans {a b:Nat} {U σ1 σ2:Heap} (h1:Keep a U σ1) (h2:Keep b σ1 σ2):Keep (min a b) U σ2 :=
 ⟨eg h1.1 h2.1,fun i hi hl=>by rw [h2.2 i oO (fe hl h1.1),h1.2 i oO hl]⟩
theorem Keep.mono {a b:Nat} {U σ1:Heap} (h:Keep a U σ1) (hb:b<=a):Keep b U σ1:=⟨h.1,fun i hi=>h.2 i oO⟩
theorem qh {a b:Nat}:minN a b=min a b:=by
 unfold minN
 cases h:Nat.ble a b with
 |true=>have:=cC h;simp;omega
 |false =>
       have:¬ a<=b:=fun c=>by rw [fc c] at h;cases h
       simp;omega
theorem Keep.eq_app {U σ':Heap} (h:Keep U.length U σ'):σ'=U++σ'.drop U.length:=by
 refine eK fun i=>?_
 by_cases hi:i < U.length
 ·rw [bO hi,h.2 i hi hi]
 ·rw [bE oO,eJ];congr 1;omega
def SR (P:Program) (op:Op) (e:Env) (U:Heap) (r:Value×Heap×Nat):Prop:=(∀ rd ty,bY P rd op ty e U r.1 r.2.1)/\Keep r.2.2 U r.2.1
theorem nJ {v:Value} {U:Heap} {r:Value×Heap×Nat} (h:iQ v U=some r):r=(v,U,U.length):=by cases h;rfl
theorem afE {v:Value} {U:Heap} {cs:List Value} {r:Value×Heap×Nat} (h:newR v U cs=some r):r=(v,U++[.rw cs],U.length):=by
 simp only [newR,gq] at h;cases h;rfl
theorem IZ {U σ':Heap} {i o:Nat} {vs:List Value} (h:aae U i o vs=some σ'):putCells U i o vs=some σ'/\Keep i U σ':=by
 simp only [aae,aL] at h
 obtain ⟨x,h1,h2⟩:=h
 unfold putF at h2
 split at h2
 ·simp only [gq] at h2
  obtain ⟨h3,h4⟩:=aO.1 h2
  cases h4
  exact ⟨by simp only [putCells,h1];rw [h3];rfl,Keep.set⟩
 ·simp only [gq] at h2
  obtain ⟨h3,h4⟩:=aO.1 h2
  cases h4
  exact ⟨by simp only [putCells,h1];rw [h3];rfl,Keep.set⟩
 ·cases h2
theorem I4 {v:Value} {i:Nat} {x:Option Heap} {r:Value×Heap×Nat} (h:Z9 v i x=some r):∃ σ',x=some σ'/\r=(v,σ',i):=by
 simp only [Z9,gq,aL] at h
 obtain ⟨σ',h1,h2⟩:=h
 exact ⟨σ',h1,by cases h2;rfl⟩
section
variable {P:Program} {T:Tab} {e:Env} {tr:PT} {U:Heap} {r:Value×Heap×Nat} {x y:Operand} {u v:Value}
theorem SR.pure {op:Op} (h:iQ v U=some r) (hv:∀ rd ty,bY P rd op ty e U v U):SR P op e U r:=by cases nJ h;exact ⟨hv,Keep.refl⟩
theorem SR.new {op:Op} {cs:List Value} (h:newR v U cs=some r) (hv:∀ rd ty,bY P rd op ty e U v (U++[.rw cs])):SR P op e U r:=by cases afE h;exact ⟨hv,Keep.app⟩
theorem uw {f:Value->Res} (ha:Agr e tr) (h:un tr x f=some r):∃ u,aT e x=some u/\f u=some r:=by
 obtain ⟨u,h1,h2⟩:=Option.bind_eq_some_iff.1 h
 exact ⟨u,ug ha h1,h2⟩
theorem BP {f:Value->Value->Res} (ha:Agr e tr) (h:bi tr x y f=some r):∃ u v,aT e x=some u/\aT e y=some v/\f u v=some r:=by
 obtain ⟨u,h1,h2⟩:=Option.bind_eq_some_iff.1 h
 obtain ⟨v,h3,h4⟩:=Option.bind_eq_some_iff.1 h2
 exact ⟨u,v,ug ha h1,ug ha h3,h4⟩
theorem acP {op:BinOp} {k:IntKind} {m n:Int} {w:Value} {t t':TypeId} (hx:aT e x=some (.int k m)) (hy:aT e y=some (.int k n)) (h:arith op k m n=some w) (rd ty):bY P rd (.binOp op t x y t') ty e U w U:=by
 unfold arith at h
 split at h
 ·obtain ⟨h1,h2⟩:=aO.1 h
  cases h2
  exact abJ hx hy (oU h1)
 ·obtain ⟨h1,h2⟩:=aO.1 h
  cases h2
  exact abK hx hy (oU h1)
 ·obtain ⟨h1,h2⟩:=aO.1 h
  cases h2
  simp only [aE,ee,decide_eq_true_eq] at h1
  obtain ⟨⟨rfl,hm⟩,hn⟩:=h1
  have e1:m=bI (decide (m=1)):=by rcases hm with rfl|rfl <;> rfl
  have e2:n=bI (decide (n=1)):=by rcases hn with rfl|rfl <;> rfl
  exact ahz (by rw [<- e1];exact hx) (by rw [<- e2];exact hy)
 ·exact iU hx hy h
theorem J5 {op:BinOp} (h:SN op=true):op=.eql:=by unfold SN at h;split at h <;> simp_all
theorem acQ {k:IntKind} {v:Value} (h:isK k v=true):v=.int k (ivV v):=by
 unfold isK at h
 split at h
 ·rename_i x hx
  have h1:=of_decide_eq_true h
  have h2:ivV v=x.2:=by unfold ivV;rw [hx]
  rw [h2,<- h1];exact jI hx
 ·cases h
theorem J6 {k:IntKind}:∀ {a:List Value},JW k a=true->∀ i<a.length,a[i]?=some (.int k (ivA a i))
 |[],_,i,hi=>by simp at hi
 |v::a,h,i,hi=>by
  simp only [JW,aE] at h
  cases i with
  |zero=>simpa [ivA] using acQ h.1
  |succ i =>
   have:=J6 h.2 i (oU hi)
   simpa [ivA] using this
theorem Am {k:IntKind}:∀ {a:List Value},JW k a=true->dN a=true
 |[],_=>rfl
 |v::a,h=>by
  simp only [JW,aE] at h
  rw [acQ h.1]
  simp [dN,plain,Am h.2]
theorem YO:∀ {a b:List Value},a.length=b.length->ab5 a b=decide (∀ i ∈ List.range a.length,ivA a i=ivA b i)
 |[],[],_=>by simp [ab5]
 |v::a,[],h=>by simp at h
 |[],v::b,h=>by simp at h
 |v::a,u::b,h=>by
  have ih:=YO (a:=a) (b:=b) (oU h)
  simp only [ab5]
  rw [ih,<- Bool.decide_and]
  refine decide_eq_decide.2 ⟨fun ⟨h1,h2⟩ i hi=>?_,fun hh=>⟨?_,fun i hi=>?_⟩⟩
  ·cases i with
   |zero=>simpa [ivA] using h1
   |succ i =>
    have:=h2 i (oU hi)
    simpa [ivA] using this
  ·have:=hh 0 oS
   simpa [ivA] using this
  ·have:=hh (i+1) (oU hi)
   simpa [ivA] using this
theorem aia (hT:iG P T) {op:BinOp} {t t':TypeId} (hm:Ag v=true->Yv T op t u U=some r->SR P (.binOp op t x y t') e U r) (hx:aT e x=some u) (hy:aT e y=some v) (h:rBin T op t u v U=some r):SR P (.binOp op t x y t') e U r:=by
 unfold rBin at h
 split at h
 ·rename_i a ha
  simp only [agQ,aL,aO] at h
  obtain ⟨b,h1,h2,w,h3,h4⟩:=h
  rw [jI ha] at hx
  rw [jI h1] at hy
  have h2:=of_decide_eq_true h2
  rw [<- h2] at hy
  exact SR.pure h4 (acP hx hy h3)
 ·cases hnm:Ag v with
  |true=>rw [hnm] at h;exact hm hnm h
  |false =>
  rw [hnm] at h
  simp only [cond_false] at h
  unfold agU at h
  split at h
  ·rename_i hn
   simp only [agT,aL,aO,aE] at h
   obtain ⟨p,h1,el,h2,⟨h3,h4⟩,h5⟩:=h
   rw [kP h1] at hx
   rw [rY hn] at hy
   have:=J5 h3
   subst this
   haveI:Sl P t el:=⟨hT.sl _ _ h2⟩
   exact SR.pure h5 fun rd ty=>abW hx (Nat.blt_eq.mp h4) hy
  split at h
  ·rename_i r0 c
   cases h
   simp only [agR,aL,aO,aE,decide_eq_true_eq] at c
   obtain ⟨a,h1,b,h2,x1,h3,x2,h4,⟨⟨h5,h6⟩,h7⟩,w,h8,h9⟩:=c
   rw [mD h1,acO h3] at hx
   rw [mD h2,acO h4,<- h6,<- h7] at hy
   obtain ⟨z,hz⟩:=Option.isSome_iff_exists.1 h5
   haveI:Eq2 P t:=⟨hT.eq2 _ _ hz⟩
   refine SR.pure h9 fun rd ty=>?_
   unfold eqOp at h8
   split at h8
   ·cases h8;exact ahD hx hy
   ·cases h8
    have:=Pq (P:=P) (rd:=rd) (ty:=ty) (U:=U) (t:=t) (t':=t') hx hy
    simpa using this
   ·cases h8
  ·simp only [agS,aL,aO,aE,decide_eq_true_eq] at h
   obtain ⟨a,h1,b,h2,y,h3,q,h4,k,h5,⟨⟨⟨⟨⟨⟨g1,g2⟩,g3⟩,g5⟩,g6⟩,g7⟩,g8⟩,h6⟩:=h
   have:=J5 g1
   subst this
   obtain ⟨q1,q2,q3,q4⟩:=q
   have e1:=aM g2
   have e2:q2=false:=by simpa using g3
   simp only at e1
   subst e1;subst e2
   rw [mD h1] at hx
   rw [mD h2] at hy
   haveI:Ar P t y.1 y.2:=⟨hT.ar _ _ h3⟩
   haveI:Ty P y.2 1 false q3 q4:=⟨hT.ty _ _ h4⟩
   haveI:Ik P y.2 k:=⟨hT.ik _ _ h5⟩
   have l1:=aM g5
   have l2:=aM g6
   rw [YO oO,l1] at h6
   exact SR.pure h6 fun rd ty=>NP ZU hx hy (Am g7) (Am g8) (fun i hi=>J6 g7 i oO) (fun i hi=>J6 g8 i oO)
theorem YP (hT:iG P T) {t:TypeId} (h:SV T t u U=some r):∃ i o size bytes z agg,u=.pointer (some ⟨i,o,none⟩)/\Ty P t size agg z bytes/\r.2=(U,U.length) /\
  ((agg=false/\aI U i o=some r.1)\/(agg=true/\∃ cs,aK U i o size=some cs/\r.1=.agg cs.toArray)):=by
 simp only [SV,aL] at h
 obtain ⟨p,h1,y,h2,h3⟩:=h
 refine ⟨p.1,p.2,y.1,y.2.2.2,y.2.2.1,y.2.1,jJ h1,⟨hT.ty _ _ h2⟩,?_⟩
 cases hb:y.2.1 with
 |false =>
  rw [hb] at h3
  simp only [V8,aL] at h3
  obtain ⟨w,h4,h5⟩:=h3
  cases nJ h5
  exact ⟨rfl,.inl ⟨rfl,h4⟩⟩
 |true =>
  rw [hb] at h3
  simp only [V8,aL] at h3
  obtain ⟨w,h4,h5⟩:=h3
  cases nJ h5
  exact ⟨rfl,.inr ⟨rfl,w,h4,rfl⟩⟩
theorem afF (hT:iG P T) {t:TypeId} (hx:aT e x=some u) (h:SV T t u U=some r):SR P (.load t x) e U r:=by
 obtain ⟨i,o,size,bytes,z,agg,rfl,a,h1,h2⟩:=YP hT h
 obtain ⟨r1,r2,r3⟩:=r
 cases h1
 rcases h2 with ⟨rfl,h2⟩|⟨rfl,cs,h2,h3⟩
 ·exact ⟨fun rd ty=>aJ (ht:=a) hx h2,Keep.refl⟩
 ·simp only at h3;subst h3
  exact ⟨fun rd ty=>bG (ht:=a) hx h2,Keep.refl⟩
theorem acR (hT:iG P T) {t:TypeId} (hx:aT e x=some u) (hy:aT e y=some v) (h:V9 T t u v U=some r):SR P (.store t x y) e U r:=by
 simp only [V9,aL,aO,aE] at h
 obtain ⟨p,h1,q,h2,⟨h3,h4⟩,h5⟩:=h
 obtain ⟨σ',h6,rfl⟩:=I4 h5
 obtain ⟨h7,h8⟩:=IZ h6
 rw [jJ h1] at hx
 haveI:Ty P t q.1 q.2.1 q.2.2.1 q.2.2.2:=⟨hT.ty _ _ h2⟩
 exact ⟨fun rd ty=>bW hx hy (aM h3) h4 h7,h8⟩
theorem fa_ok (hT:iG P T) {s:TypeId} {f:Nat} (hx:aT e x=some u) (h:rFA T s f u U=some r):SR P (.fieldAddr s x f) e U r:=by
 simp only [rFA,aL,aO] at h
 obtain ⟨p,h1,q,h2,y,h3,h4,h5⟩:=h
 rw [jJ h1] at hx
 obtain ⟨y1,y2,y3,y4⟩:=y
 obtain ⟨k,rfl⟩:∃ k,y1=k+1:=⟨y1 - 1,by have:=Nat.blt_eq.mp h4;simp only at this;omega⟩
 haveI:Ty P q.2 (k+1) y2 y3 y4:=⟨hT.ty _ _ h3⟩
 haveI:Fld P s f q.1 q.2:=⟨hT.field h2⟩
 exact SR.pure h5 fun rd ty=>bD hx
theorem YQ {op:Op} {cs:List Value} {off size:Nat} {agg:Bool} (h:SX cs off U size agg=some r)
  (h1:agg=false->∀ v,cs[off]?=some v->∀ rd ty,bY P rd op ty e U v U) (h2:agg=true->off+size<=cs.length->∀ rd ty,bY P rd op ty e U (.agg ((cs.drop off).take size).toArray) U):SR P op e U r:=by
 cases agg with
 |false =>
  simp only [SX,aL] at h
  obtain ⟨w,h3,h4⟩:=h
  exact SR.pure h4 (h1 rfl w h3)
 |true =>
  simp only [SX,aO,gq] at h
  exact SR.pure h.2 (h2 rfl (cC h.1))
theorem acS (hT:iG P T) {s:TypeId} {f:Nat} (hx:aT e x=some u) (h:Wh T s f u U=some r):SR P (.field s x f) e U r:=by
 simp only [Wh,aL] at h
 obtain ⟨cs,h1,q,h2,y,h3,h4⟩:=h
 rw [mD h1] at hx
 obtain ⟨y1,y2,y3,y4⟩:=y
 haveI:Fld P s f q.1 q.2:=⟨hT.field h2⟩
 refine YQ h4 (fun ha w hw rd ty=>?_) (fun ha hl rd ty=>?_)
 ·simp only at ha;subst ha
  haveI:Ty P q.2 y1 false y3 y4:=⟨hT.ty _ _ h3⟩
  exact Ns hx hw
 ·simp only at ha;subst ha
  haveI:Ty P q.2 y1 true y3 y4:=⟨hT.ty _ _ h3⟩
  exact ZH hx (oU hl)
theorem afG (hT:iG P T) {t:TypeId} (hx:aT e x=some u) (hy:aT e y=some v) (h:acd T t u v U=some r):SR P (.indexAddr t x y) e U r:=by
 simp only [acd,aL] at h
 obtain ⟨j,h1,h2⟩:=h
 rw [jI h1] at hy
 unfold ab9 at h2
 split at h2
 ·rename_i p hp
  simp only [agV,aL,aO,aE,decide_eq_true_eq] at h2
  obtain ⟨el,h3,y,h4,⟨h5,h6⟩,h7⟩:=h2
  rw [kP hp] at hx
  haveI:Sl P t el:=⟨hT.sl _ _ h3⟩
  haveI:Ty P el y.1 y.2.1 y.2.2.1 y.2.2.2:=⟨hT.ty _ _ h4⟩
  exact SR.pure h7 fun rd ty=>pJ hx hy h5 h6
 ·split at h2
  ·rename_i p hp
   simp only [agW,aL,aO,aE,decide_eq_true_eq] at h2
   obtain ⟨el,h3,y,h4,⟨h5,h6⟩,h7⟩:=h2
   rw [y7 hp] at hx
   haveI:Sl P t el:=⟨hT.sl _ _ h3⟩
   haveI:Ty P el y.1 y.2.1 y.2.2.1 y.2.2.2:=⟨hT.ty _ _ h4⟩
   exact SR.pure h7 fun rd ty=>IU hx hy h5 h6
  ·simp only [aL] at h2
   obtain ⟨p,hp,h2⟩:=h2
   simp only [agX,aL,aO,aE,decide_eq_true_eq] at h2
   obtain ⟨a,h3,y,h4,⟨h5,h6⟩,h7⟩:=h2
   rw [jJ hp] at hx
   haveI:Ar P t a.1 a.2:=⟨hT.ar _ _ h3⟩
   haveI:Ty P a.2 y.1 y.2.1 y.2.2.1 y.2.2.2:=⟨hT.ty _ _ h4⟩
   exact SR.pure h7 fun rd ty=>ng hx hy h5 h6
theorem aib (hT:iG P T) {t:TypeId} (hx:aT e x=some u) (hy:aT e y=some v) (h:rIdx T t u v U=some r):SR P (.index t x y) e U r:=by
 simp only [rIdx,aL,aO,aE,decide_eq_true_eq] at h
 obtain ⟨cs,h1,j,h2,a,h3,y,h4,⟨h5,h6⟩,h7⟩:=h
 rw [mD h1] at hx
 rw [jI h2] at hy
 obtain ⟨y1,y2,y3,y4⟩:=y
 haveI:Ar P t a.1 a.2:=⟨hT.ar _ _ h3⟩
 refine YQ h7 (fun ha w hw rd ty=>?_) (fun ha hl rd ty=>?_)
 ·simp only at ha;subst ha
  haveI:Ty P a.2 y1 false y3 y4:=⟨hT.ty _ _ h4⟩
  exact ZI hx hy h5 h6 hw
 ·simp only at ha;subst ha
  haveI:Ty P a.2 y1 true y3 y4:=⟨hT.ty _ _ h4⟩
  exact ZJ hx hy h5 h6 (oU hl)
theorem acT (hT:iG P T) {t:TypeId} {ps:Array (Nat×Operand)} {vs:List (Nat×Value)} (hp:tJ e ps.toList=some vs) (h:Wi T t vs U=some r):SR P (.build t ps) e U r:=by
 unfold Wi at h
 split at h
 ·rename_i z hz
  simp only [aO,aL,gq] at h
  obtain ⟨h1,cs,h2,h3⟩:=h
  haveI:Pls P t z.1 z.2:=⟨hT.pls _ _ hz⟩
  exact SR.pure h3 fun rd ty=>pV h1 hp h2
 ·unfold Yw at h
  simp only [aO,aL,aE,gq] at h
  obtain ⟨y,h1,a,h2,z,h3,⟨h4,h5⟩,cs,h6,h7⟩:=h
  obtain ⟨y1,y2,y3,y4⟩:=y
  simp only at h4;subst h4
  haveI:Ty P t y1 true y3 y4:=⟨hT.ty _ _ h1⟩
  haveI:Ar P t a.1 a.2:=⟨hT.ar _ _ h2⟩
  haveI:Ty P a.2 z.1 z.2.1 z.2.2.1 z.2.2.2:=⟨hT.ty _ _ h3⟩
  exact SR.pure h7 fun rd ty=>VI h5 hp h6
theorem aak (hT:iG P T) {t n:TypeId} {ps:Array (Nat×Operand)} {vs:List (Nat×Value)} (hp:tJ e ps.toList=some vs) (h:PL T t n vs U=some r):SR P (.buildSlice t n ps) e U r:=by
 unfold PL at h
 cases hn:Nat.beq n 0 with
 |true =>
  rw [hn] at h
  simp only [cond_true,SY,aO,aL,gq] at h
  obtain ⟨el,h1,y,h2,h3,h4⟩:=h
  cases h4
  have e0:=aM hn
  subst e0
  haveI:Sl P t el:=⟨hT.sl _ _ h1⟩
  haveI:Ty P el y.1 y.2.1 y.2.2.1 y.2.2.2:=⟨hT.ty _ _ h2⟩
  have a:ps=#[]:=by
   obtain ⟨l⟩:=ps
   cases l with
   |nil=>rfl
   |cons p l =>
    obtain ⟨i,q⟩:=p
    simp only [tJ] at hp
    split at hp
    ·cases hp;simp [ace] at h3
    ·cases hp
  subst a
  exact ⟨fun rd ty=>VR,Keep.app⟩
 |false =>
 rw [hn] at h
 simp only [cond_false,S9,aO,aL,aE] at h
 obtain ⟨el,h1,y,h2,⟨⟨⟨h3,h4⟩,h5⟩,h6⟩,cs,h7,h8⟩:=h
 haveI:Sl P t el:=⟨hT.sl _ _ h1⟩
 haveI:Ty P el y.1 y.2.1 y.2.2.1 y.2.2.2:=⟨hT.ty _ _ h2⟩
 exact SR.new h8 fun rd ty=>oW h3 (by simpa using aM h4) h5 h6 hp h7
theorem aal (hT:iG P T) {t n:TypeId} {ps:Array (Nat×Operand)} {vs:List (Nat×Value)} (hp:tJ e ps.toList=some vs) (h:PO T t n vs U=some r):SR P (.buildSlice t n ps) e U r:=by
 simp only [PO,aO,aL,aE] at h
 obtain ⟨el,h1,y,h2,⟨⟨⟨h3,h4⟩,h5⟩,h6⟩,cs,h7,h8⟩:=h
 haveI:Sl P t el:=⟨hT.sl _ _ h1⟩
 haveI:Ty P el y.1 y.2.1 y.2.2.1 y.2.2.2:=⟨hT.ty _ _ h2⟩
 exact SR.new h8 fun rd ty=>VY h3 (by simpa using aM h4) h5 h6 hp h7
theorem acU (hT:iG P T) {t:TypeId} (hx:aT e x=some u) (hy:aT e y=some v) (h:Wj T t u v U=some r):SR P (.makeSlice t x y) e U r:=by
 simp only [Wj,Yx,aO,aL,aE,decide_eq_true_eq] at h
 obtain ⟨l,h1,c,h2,el,h3,q,h4,⟨⟨⟨⟨⟨h5,h6⟩,h7⟩,h8⟩,h9⟩,d⟩,a⟩:=h
 rw [jI h1,show l.2=((l.2.toNat:Nat):Int) by omega] at hx
 rw [jI h2,show c.2=((c.2.toNat:Nat):Int) by omega] at hy
 haveI:Sl P t el:=⟨hT.sl _ _ h3⟩
 haveI:Ty P el q.1 q.2.1 q.2.2.1 q.2.2.2:=⟨hT.ty _ _ h4⟩
 exact SR.new a fun rd ty=>qY h5 (by simpa using aM h6) hx hy oO (cC h9) (cC d)
theorem aic (hT:iG P T) {t:TypeId} (hx:aT e x=some u) (h:rLen T t u U=some r):SR P (.call { callee:=.builtin .len,args:=#[x],argTypes:=#[t] }) e U r:=by
 simp only [rLen,aL] at h
 obtain ⟨n,h1,el,h2,h3⟩:=h
 obtain ⟨a,c,rfl⟩:=afD h1
 haveI:Sl P t el:=⟨hT.sl _ _ h2⟩
 exact SR.pure h3 fun rd ty=>lY hx
theorem afH (hT:iG P T) {s d:TypeId} (hx:aT e x=some u) (h:acg T s d u U=some r):SR P (.convert s d x) e U r:=by
 simp only [acg,aO,aL,decide_eq_true_eq] at h
 obtain ⟨a,h1,b,h2,k,h3,h4,h5⟩:=h
 rw [jI h1,<- h4] at hx
 haveI:Ik P s b:=⟨hT.ik _ _ h2⟩
 haveI:Ik P d k:=⟨hT.ik _ _ h3⟩
 exact SR.pure h5 fun rd ty=>RV hx
theorem acV (hT:iG P T) {t:TypeId} {a b c:Option Operand} {i j k:Option Int} (hx:aT e x=some u)
  (ha:∀ o,a=some o->∃ q m,aT e o=some (.int q m)/\i=some m) (ha':a=none->i=none) (hb:∀ o,b=some o->∃ q m,aT e o=some (.int q m)/\j=some m) (hb':b=none->j=none)
  (hc:∀ o,c=some o->∃ q m,aT e o=some (.int q m)/\k=some m) (hc':c=none->k=none) (h:Wn T t u U i j k=some r):SR P (.slice t x a b c) e U r:=by
 unfold Wn at h
 have na:∀ {i:Option Int} {a:Option Operand},(∀ o,a=some o->∃ q m,aT e o=some (.int q m)/\i=some m)->i=none->a=none:=by
  intro i a ha hi
  cases a with
  |none=>rfl
  |some o=>obtain ⟨q,m,_,h2⟩:=ha o rfl;rw [hi] at h2;cases h2
 have sa:∀ {i:Option Int} {a:Option Operand} {m:Int},(∀ o,a=some o->∃ q m,aT e o=some (.int q m)/\i=some m)->(a=none->i=none)->i=some m->∃ o q,a=some o/\aT e o=some (.int q m):=by
  intro i a m ha ha' hi
  cases a with
  |none=>rw [ha' rfl] at hi;cases hi
  |some o=>obtain ⟨q,m',h1,h2⟩:=ha o rfl;rw [hi] at h2;cases h2;exact ⟨o,q,rfl,h1⟩
 split at h
 ·rename_i hh
  obtain rfl:=na ha rfl
  obtain rfl:=na hc rfl
  obtain ⟨o,q,rfl,ho⟩:=sa hb hb' rfl
  split at h
  ·rename_i p hp
   simp only [slH,aO,aL,aE,decide_eq_true_eq] at h
   obtain ⟨el,h1,z,h2,⟨h3,h4⟩,h5⟩:=h
   rw [kP hp] at hx
   rw [show hh=((hh.toNat:Nat):Int) by omega] at ho
   haveI:Sl P t el:=⟨hT.sl _ _ h1⟩
   haveI:Ty P el z.1 z.2.1 z.2.2.1 z.2.2.2:=⟨hT.ty _ _ h2⟩
   exact SR.pure h5 fun rd ty=>NC hx ho oO
  ·simp only [slA,aO,aL,aE,decide_eq_true_eq] at h
   obtain ⟨p,hp,a2,h1,z,h2,⟨h3,h4⟩,h5⟩:=h
   rw [jJ hp] at hx
   rw [show hh=((hh.toNat:Nat):Int) by omega] at ho
   haveI:Ar P t a2.1 a2.2:=⟨hT.ar _ _ h1⟩
   haveI:Ty P a2.2 z.1 z.2.1 z.2.2.1 z.2.2.2:=⟨hT.ty _ _ h2⟩
   exact SR.pure h5 fun rd ty=>VK hx ho oO
 ·rename_i ll
  obtain rfl:=na hb rfl
  obtain rfl:=na hc rfl
  obtain ⟨o,q,rfl,ho⟩:=sa ha ha' rfl
  rw [show ll=((ll.toNat:Nat):Int) by
   split at h
   ·simp only [slL,aO,aL,aE,decide_eq_true_eq] at h
    obtain ⟨el,h1,z,h2,⟨⟨h3,h4⟩,d⟩,h5⟩:=h
    omega
   ·simp only [slLG,aO,aL,aE,decide_eq_true_eq] at h
    obtain ⟨p,hp,el,h1,z,h2,⟨h3,h4⟩,h5⟩:=h
    omega] at ho
  split at h
  ·rename_i p hp
   simp only [slL,aO,aL,aE,decide_eq_true_eq] at h
   obtain ⟨el,h1,z,h2,⟨⟨h3,h4⟩,d⟩,h5⟩:=h
   rw [kP hp] at hx
   haveI:Sl P t el:=⟨hT.sl _ _ h1⟩
   haveI:Ty P el z.1 z.2.1 z.2.2.1 z.2.2.2:=⟨hT.ty _ _ h2⟩
   exact SR.pure h5 fun rd ty=>Bh hx ho oO (cC d)
  ·simp only [slLG,aO,aL,aE,decide_eq_true_eq] at h
   obtain ⟨p,hp,el,h1,z,h2,⟨h3,h4⟩,h5⟩:=h
   rw [y7 hp] at hx
   haveI:Sl P t el:=⟨hT.sl _ _ h1⟩
   haveI:Ty P el z.1 z.2.1 z.2.2.1 z.2.2.2:=⟨hT.ty _ _ h2⟩
   exact SR.pure h5 fun rd ty=>V4 hx ho oO
 ·obtain rfl:=na ha rfl
  obtain rfl:=na hb rfl
  obtain rfl:=na hc rfl
  simp only [slA,aL] at h
  obtain ⟨p,hp,a2,h1,z,h2,h5⟩:=h
  rw [jJ hp] at hx
  haveI:Ar P t a2.1 a2.2:=⟨hT.ar _ _ h1⟩
  haveI:Ty P a2.2 z.1 z.2.1 z.2.2.1 z.2.2.2:=⟨hT.ty _ _ h2⟩
  exact SR.pure h5 fun rd ty=>Fq hx
 ·rename_i hh mm
  obtain rfl:=na ha rfl
  obtain ⟨o,q,rfl,ho⟩:=sa hb hb' rfl
  obtain ⟨o2,q2,rfl,f⟩:=sa hc hc' rfl
  simp only [slG,aL] at h
  obtain ⟨el,h1,z,h2,h⟩:=h
  haveI:Sl P t el:=⟨hT.sl _ _ h1⟩
  haveI:Ty P el z.1 z.2.1 z.2.2.1 z.2.2.2:=⟨hT.ty _ _ h2⟩
  split at h
  ·rename_i p hp
   simp only [aO,aE,decide_eq_true_eq] at h
   obtain ⟨⟨h4,h5⟩,h6⟩:=h
   have hu:=y7 hp
   subst hu
   subst h4 h5
   exact SR.pure h6 fun rd ty=>VX (sz:=p.2.1) hx ho f
  ·simp only [aO,aE,decide_eq_true_eq] at h
   obtain ⟨⟨⟨h3,h4⟩,h5⟩,h6⟩:=h
   have hu:=rY h3
   subst hu h4 h5
   exact SR.pure h6 fun rd ty=>yV (i:=0) (size:=z.1) (n:=0) hx ho f
 ·cases h
end
theorem I5 {v:Value} {i:Nat} (h:aac v=some i):v=.map (some i):=by unfold aac at h;split at h <;> cases h <;> rfl
theorem J7 {o:aC} {es:List (Value×Value)} (h:SQ o=some es):o=.map es:=by unfold SQ at h;split at h <;> cases h <;> rfl
theorem NW {v:Value} (h:Ag v=true):v=.map none:=by unfold Ag at h;split at h <;> simp_all
theorem P9 {v:Value} {a:Int} (h:decI v=some a):v=kvI a:=by
 obtain ⟨h1,h2⟩:=aO.1 h
 cases h2
 unfold isI at h1
 split at h1
 ·rfl
 ·cases h1
theorem J8:∀ {l:List Value},Yt l=true->l=ints (l.map pO)
 |[],_=>rfl
 |v::l,h=>by
  simp only [Yt,aE] at h
  have ih:=J8 h.2
  have h1:=h.1
  unfold isI at h1
  split at h1
  ·simp only [ints,cG,List.cons.injEq] at ih ⊢
   exact ⟨rfl,ih⟩
  ·cases h1
theorem Qa {n:Nat} {v:Value} {a:NL n} (h:decN n v=some a):v=kvN n a:=by
 simp only [decN,aL,aO] at h
 obtain ⟨l,h1,h2,h3⟩:=h
 rw [mD h1]
 unfold decL at h3
 split at h3
 ·cases h3
  simp only [kvN]
  rw [<- J8 h2]
 ·cases h3
theorem TD {α:Type} {f:Value->Option α} {kv:α->Value} (hf:∀ v a,f v=some a->v=kv a):∀ {es:List (Value×Value)} {l:List (α×Value)},Yu f es=some l->es=l.map fun p=>(kv p.1,p.2)
 |[],l,h=>by cases h;rfl
 |p::r,l,h=>by
  simp only [Yu,aL] at h
  obtain ⟨k,h1,l',h2,h3⟩:=h
  cases h3
  rw [cG,<- TD hf h2,<- hf _ _ h1]
theorem Qb {α:Type} [DecidableEq α] {f:Value->Option α} {kv:α->Value} (hf:∀ v a,f v=some a->v=kv a) {es:List (Value×Value)} {k:Value} {j:Option Nat} (h:mIdx f es k=some j) :
  ∃ (l:List (α×Value)) (k':α),es=l.map (fun p=>(kv p.1,p.2))/\k=kv k'/\j=(l.map (·.1)).findIdx? (fun q=>decide (k'=q)):=by
 simp only [mIdx,aL] at h
 obtain ⟨l,h1,k',h2,h3⟩:=h
 cases h3
 exact ⟨l,k',TD hf h1,hf _ _ h2,rfl⟩
section
variable {P:Program} {T:Tab} {e:Env} {tr:PT} {U:Heap} {r:Value×Heap×Nat} {x y z:Operand} {u v k:Value}
section
variable {α:Type} [DecidableEq α] {f:Value->Option α} {kv:α->Value} {t kt et i size bytes:Nat} {agg:Bool} {z0:Value} {es:List (Value×Value)} {j:Option Nat}
theorem J9 [Mp P t kt et] [KT P kt kv] [Ty P et size agg z0 bytes] (hf:∀ v a,f v=some a->v=kv a) (hx:aT e x=some (.map (some i))) (hi:U[i]?=some (.map es)) (hy:aT e y=some k) (h:mIdx f es k=some j) {b:Bool} (h2:ab6 z0 b U es j=some r):SR P (.lookup t x y b) e U r:=by
 obtain ⟨l,k',rfl,rfl,rfl⟩:=Qb hf h
 unfold ab6 at h2
 split at h2
 ·rename_i j hj
  simp only [aL] at h2
  obtain ⟨p,h3,h4⟩:=h2
  simp only [cJ,fz] at h3
  obtain ⟨q,h5,rfl⟩:=h3
  have hg:iO l k'=some q.2:=by unfold iO;rw [hj];simp only [h5];rfl
  cases b with
  |false=>exact SR.pure h4 fun rd ty=>NJ hx hi hy hg
  |true=>exact SR.pure h4 fun rd ty=>JO hx hi hy hg
 ·rename_i hj
  obtain ⟨hz,h4⟩:=aO.1 h2
  have hg:iO l k'=none:=by unfold iO;rw [hj]
  cases b with
  |false=>exact SR.pure h4 fun rd ty=>VU hz hx hi hy hg
  |true=>exact SR.pure h4 fun rd ty=>JQ hz hx hi hy hg
theorem YR {w:Value} (h:aad w i U es=some r):r=(w,U.set i (.map es),i):=by
 simp only [aad,gq] at h;cases h;rfl
theorem NY {U:Heap} (h:U.all ab8=true):U.all (fun o=>!aU o)=true:=by
 rw [dT] at h ⊢
 intro o ho
 have:=h o ho
 cases o <;> first|rfl|cases this
theorem acW [Mp P t kt et] [KT P kt kv] (hf:∀ v a,f v=some a->v=kv a) (hx:aT e x=some (.map (some i))) (hi:U[i]?=some (.map es)) (hy:aT e y=some k) (hz:aT e z=some v) (h:mIdx f es k=some j) (hn:U.all ab8=true) (h2:aad undef i U (ab7 es k v j)=some r) :
  SR P (.mapUpdate t x y z) e U r/\SR P (.insert t x y z) e U r:=by
 obtain ⟨l,k',rfl,rfl,rfl⟩:=Qb hf h
 cases YR h2
 have e1:aC.map (ab7 (l.map fun p=>(kv p.1,p.2)) (kv k') v ((l.map (·.1)).findIdx? (fun q=>decide (k'=q))))=jv kv (lN l k' v):=by
  unfold lN
  cases (l.map (·.1)).findIdx? (fun q=>decide (k'=q)) with
  |none=>simp [ab7,jv]
  |some j=>simp [ab7,jv,List.map_set]
 rw [e1]
 exact ⟨⟨fun rd ty=>o7 hx hi hy hz (NY hn),Keep.set⟩,⟨fun rd ty=>ZW hx hi hy hz (NY hn),Keep.set⟩⟩
theorem YS [Mp P t kt et] [KT P kt kv] {t2:Nat} (hf:∀ v a,f v=some a->v=kv a) (hx:aT e x=some (.map (some i))) (hi:U[i]?=some (.map es)) (hy:aT e y=some k) (h:mIdx f es k=some j) (h2:aad (.tuple #[]) i U (SS es j)=some r) :
  SR P (.call { callee:=.builtin .delete,args:=#[x,y],argTypes:=#[t,t2] }) e U r:=by
 obtain ⟨l,k',rfl,rfl,rfl⟩:=Qb hf h
 cases YR h2
 have e1:aC.map (SS (l.map fun p=>(kv p.1,p.2)) ((l.map (·.1)).findIdx? (fun q=>decide (k'=q))))=jv kv (ny l k'):=by
  unfold ny
  cases (l.map (·.1)).findIdx? (fun q=>decide (k'=q)) with
  |none=>simp [SS,jv]
  |some j=>simp [SS,jv,List.eraseIdx_eq_take_drop_succ,List.map_take,List.map_drop]
 rw [e1]
 exact ⟨fun rd ty=>Bj hx hi hy,Keep.set⟩
end
theorem aam (hT:iG P T) {t:TypeId} {b:Bool} (hx:aT e x=some u) (hy:aT e y=some k) (h:PI T t b u k U=some r):SR P (.lookup t x y b) e U r:=by
 simp only [PI,aL] at h
 obtain ⟨i,h1,o,h2,es,h3,m,h4,y0,h5,j,h6,h7⟩:=h
 rw [I5 h1] at hx
 rw [J7 h3] at h2
 obtain ⟨g1,g2,g3⟩:=hT.mp _ _ h4
 haveI:Mp P t m.1 m.2.1:=⟨g1⟩
 haveI:Ty P m.2.1 y0.1 y0.2.1 y0.2.2.1 y0.2.2.2:=⟨hT.ty _ _ h5⟩
 unfold NS at h6
 cases hn:Nat.beq m.2.2 0 with
 |true =>
  rw [hn] at h6
  haveI:Ik P m.1 .i64:=⟨g2 (aM hn)⟩
  exact J9 (fun _ _ h=>P9 h) hx h2 hy h6 h7
 |false =>
  rw [hn] at h6
  have g4:=g3 (Nat.ne_of_beq_eq_false hn)
  haveI:FlatN P m.1 m.2.2:=⟨g4.1,g4.2⟩
  exact J9 (fun _ _ h=>Qa h) hx h2 hy h6 h7
theorem TF (hT:iG P T) {t:TypeId} (hx:aT e x=some u) (hy:aT e y=some k) (hz:aT e z=some v) (h:V6 T t u k v U=some r):SR P (.mapUpdate t x y z) e U r/\SR P (.insert t x y z) e U r:=by
 simp only [V6,aL,aO] at h
 obtain ⟨i,h1,o,h2,es,h3,m,h4,j,h6,h7,h8⟩:=h
 rw [I5 h1] at hx
 rw [J7 h3] at h2
 obtain ⟨g1,g2,g3⟩:=hT.mp _ _ h4
 haveI:Mp P t m.1 m.2.1:=⟨g1⟩
 unfold NS at h6
 cases hn:Nat.beq m.2.2 0 with
 |true =>
  rw [hn] at h6
  haveI:Ik P m.1 .i64:=⟨g2 (aM hn)⟩
  exact acW (fun _ _ h=>P9 h) hx h2 hy hz h6 h7 h8
 |false =>
  rw [hn] at h6
  have g4:=g3 (Nat.ne_of_beq_eq_false hn)
  haveI:FlatN P m.1 m.2.2:=⟨g4.1,g4.2⟩
  exact acW (fun _ _ h=>Qa h) hx h2 hy hz h6 h7 h8
theorem aan (hT:iG P T) {t t2:TypeId} (hx:aT e x=some u) (hy:aT e y=some k) (h:PK T t u k U=some r):SR P (.call { callee:=.builtin .delete,args:=#[x,y],argTypes:=#[t,t2] }) e U r:=by
 simp only [PK,aL] at h
 obtain ⟨i,h1,o,h2,es,h3,m,h4,j,h6,h8⟩:=h
 rw [I5 h1] at hx
 rw [J7 h3] at h2
 obtain ⟨g1,g2,g3⟩:=hT.mp _ _ h4
 haveI:Mp P t m.1 m.2.1:=⟨g1⟩
 unfold NS at h6
 cases hn:Nat.beq m.2.2 0 with
 |true =>
  rw [hn] at h6
  haveI:Ik P m.1 .i64:=⟨g2 (aM hn)⟩
  exact YS (fun _ _ h=>P9 h) hx h2 hy h6 h8
 |false =>
  rw [hn] at h6
  have g4:=g3 (Nat.ne_of_beq_eq_false hn)
  haveI:FlatN P m.1 m.2.2:=⟨g4.1,g4.2⟩
  exact YS (fun _ _ h=>Qa h) hx h2 hy h6 h8
theorem acX {t:TypeId} (h:V7 U=some r):SR P (.makeMap t none) e U r:=by
 simp only [V7,gq] at h
 cases h
 exact ⟨fun rd ty=>y5,Keep.app⟩
theorem afI (hT:iG P T) {op:BinOp} {t t':TypeId} (hx:aT e x=some u) (hy:aT e y=some (.map none)) (h:Yv T op t u U=some r):SR P (.binOp op t x y t') e U r:=by
 simp only [Yv,aL,aO,aE,ee] at h
 obtain ⟨m,h1,⟨h2,h3⟩,h4⟩:=h
 obtain ⟨g1,_⟩:=hT.mp _ _ h1
 haveI:Mp P t m.1 m.2.1:=⟨g1⟩
 have:=J5 h2
 subst this
 cases hn:Ag u with
 |true =>
  rw [hn] at h4
  rw [NW hn] at hx
  exact SR.pure h4 fun rd ty=>NK hx hy
 |false =>
  rw [hn] at h3 h4
  rcases h3 with h3|h3
  ·cases h3
  ·obtain ⟨i,hi⟩:=Option.isSome_iff_exists.1 h3
   rw [I5 hi] at hx
   exact SR.pure h4 fun rd ty=>NM hx hy
end
theorem YT {G:Nat->Prop} {w0 w:World} {V:Rho} {U:Heap} (hs:Sim G w0 V U w) (el:TypeId):Sim G w0 V (U++[.gr [] el]) w where
 os:=hs.os
 tape:=hs.tape
 output:=hs.output
 size:=hs.size
 fgn:=hs.fgn
 obj:=fun i o h=>by
  rcases getElem?_snoc h with h|⟨rfl,rfl⟩
  ·exact nP (hs.obj i o h) oS (fun _ _=>rfl) (fun _ h=>h) (fun _ _ _ _ h=>h) (fun _ _ _ h=>h)
  ·intro hc;exact absurd rfl hc
 inj:=fun i j oi oj hi hj c a hb=>by
  rcases getElem?_snoc hi with hi|⟨rfl,rfl⟩
  ·rcases getElem?_snoc hj with hj|⟨rfl,rfl⟩
   ·exact hs.inj i j oi oj hi hj c a hb
   ·exact absurd rfl a
  ·exact absurd rfl c
theorem TI {P:Program} {rd:Option Nat} {op:Op} {ty el:TypeId} {e:Env} {U σ':Heap} {v:Value} (h:bY P rd op ty e (U++[.gr [] el]) v σ'):bY P rd op ty e U v σ':=by
 intro o ho c G w0 V A w d hs hx next Q' hk
 refine h o ho c G w0 V A w (fun l hl=>by have:=d l hl;simp;omega) (YT hs el) (fun y hy u hu=>(hx y hy u hu).mono oS fun _ _=>rfl) next Q' ?_
 intro ρ' v' w' hv hl a f
 simp only [bA,List.length_singleton] at hl a
 exact hk ρ' v' w' hv oO (fun i hi=>a i oO) f
def iR (P:Program) (call:jw):Prop:=∀ f args U r,call f args U=some r->Ev P f args U r.1 r.2.1/\Keep r.2.2 U r.2.1
section
variable {P:Program} {T:Tab} {e:Env} {tr:PT} {U:Heap} {r:Value×Heap×Nat} {x y:Operand} {u v:Value}
theorem aao (hT:iG P T) {t:TypeId} (hx:aT e x=some u) (hy:aT e y=some v) (h:PN T t u v U=some r):SR P (.call { callee:=.builtin .append,args:=#[x,y],argTypes:=#[t,t] }) e U r:=by
 simp only [PN,aL,aO,aE] at h
 obtain ⟨q,h1,el,h2,z,h3,⟨⟨⟨h4,h5⟩,h6⟩,h7⟩,g,h8,h9,a⟩:=h
 rw [kP h1] at hy
 haveI:Sl P t el:=⟨hT.sl _ _ h2⟩
 haveI:Ty P el z.1 z.2.1 z.2.2.1 z.2.2.2:=⟨hT.ty _ _ h3⟩
 have d:z.2.2.1.cells.size=z.1:=by simpa using aM h4
 have f:=cC h6
 have c:0<q.2.2.1:=Nat.blt_eq.mp h7
 unfold Tf at a
 split at a
 ·rename_i p hp
  cases hz:Nat.beq p.2.1 0 with
  |true =>
   rw [hz] at a
   simp only [cond_true,appX,aO,aL,gq] at a
   obtain ⟨g1,cs,g2,g3⟩:=a
   cases g3
   have e0:=aM hz
   rw [y7 hp,e0] at hx
   exact ⟨fun rd ty=>JR d h5 hx g2 hy h8 c (cC g1) f,Keep.app⟩
  |false =>
  rw [hz] at a
  simp only [cond_false,appG,aO,aL,aE] at a
  obtain ⟨⟨g1,g2⟩,ob,g3,g4⟩:=a
  unfold agY at g4
  split at g4
  ·rename_i cs el'
   simp only [aO,gq,aE] at g4
   obtain ⟨⟨g5,g6⟩,g7⟩:=g4
   cases g7
   have g5:=aM g5
   subst g5
   rw [y7 hp,aM g1] at hx
   refine ⟨fun rd ty=>jO d h5 hx g3 (aM g6) hy h8 c h9 (by have:=cC g2;omega) f,?_⟩
   exact (Keep.set.trans (Keep.app (lo:=p.1))).mono oS
  ·cases g4
 ·cases hn:xH u with
  |true =>
   rw [hn] at a
   simp only [cond_true,app0,aO,gq] at a
   obtain ⟨g1,g2⟩:=a
   cases g2
   rw [rY hn] at hx
   refine ⟨fun rd ty=>TI (el:=el) ?_,⟨by simp,fun i _ hi=>by rw [cD];exact bO hi⟩⟩
   have j:aK (U++[.gr [] el]) q.1 q.2.1 (q.2.2.1*z.1)=some g:=by
    unfold aK at h8 ⊢
    have hq:q.1 < U.length:=by
     cases hh:U[q.1]? with
     |none=>rw [hh] at h8;cases h8
     |some o=>exact aS hh
    rw [bO hq];exact h8
   have:=jO (P:=P) (rd:=rd) (ty:=ty) (e:=e) (U:=U++[.gr [] el]) (x:=x) (y:=y) (t:=t) (el:=el) (i:=U.length) (n:=0) (cs:=[]) d h5 (by simpa [eP] using hx) oS oS hy j c h9 (by have:=cC g1;omega) f
   simpa using this
  |false =>
   rw [hn] at a
   simp only [cond_false] at a
   cases hz:isZS u with
   |true =>
    rw [hz] at a
    simp only [cond_true,appE,aO,gq] at a
    obtain ⟨g1,g2⟩:=a
    cases g2
    have hu:u=.slice none 0 1:=by unfold isZS at hz;split at hz <;> simp_all
    rw [hu] at hx
    exact ⟨fun rd ty=>VT d hx hy h8 c (cC g1) f h5,Keep.app⟩
   |false =>
   rw [hz] at a
   simp only [cond_false,Td,aL,agZ,aO] at a
   obtain ⟨p,hp,g1,g2⟩:=a
   obtain ⟨σ',g3,rfl⟩:=I4 g2
   obtain ⟨g4,g5⟩:=IZ g3
   rw [kP hp] at hx
   exact ⟨fun rd ty=>SA hx hy c (cC g1) h8 h9 g4,g5⟩
theorem afJ (hT:iG P T) {t t2:TypeId} (hx:aT e x=some u) (hy:aT e y=some v) (h:aci T t u v U=some r):SR P (.call { callee:=.builtin .copy,args:=#[x,y],argTypes:=#[t,t2] }) e U r:=by
 simp only [aci,aL,aO,aE] at h
 obtain ⟨p,h1,q,h2,el,h3,z,h4,⟨h5,h6⟩,news,h7,h8,h9⟩:=h
 obtain ⟨σ',g3,rfl⟩:=I4 h9
 obtain ⟨g4,g5⟩:=IZ g3
 rw [kP h1] at hx
 rw [kP h2,aM h5] at hy
 haveI:Sl P t el:=⟨hT.sl _ _ h3⟩
 haveI:Ty P el z.1 z.2.1 z.2.2.1 z.2.2.2:=⟨hT.ty _ _ h4⟩
 exact ⟨fun rd ty=>Po hx hy (Nat.blt_eq.mp h6) h7 h8 g4,g5⟩
theorem acY (hT:iG P T) {t:TypeId} (hx:aT e x=some u) (h:Wp T t u U=some r):SR P (.call { callee:=.builtin .clear,args:=#[x],argTypes:=#[t] }) e U r:=by
 simp only [Wp,aL,aO,aE] at h
 obtain ⟨p,h1,el,h3,z,h4,⟨⟨⟨h5,h6⟩,h7⟩,h8⟩,h9⟩:=h
 obtain ⟨σ',g3,rfl⟩:=I4 h9
 obtain ⟨g4,g5⟩:=IZ g3
 rw [kP h1] at hx
 haveI:Sl P t el:=⟨hT.sl _ _ h3⟩
 haveI:Ty P el z.1 z.2.1 z.2.2.1 z.2.2.2:=⟨hT.ty _ _ h4⟩
 exact ⟨fun rd ty=>DX h5 (by simpa using aM h6) hx (Nat.blt_eq.mp h7) h8 g4,g5⟩
theorem WB {u v:Value} (h:eqV u v=true):u=v:=by
 unfold eqV at h
 split at h
 ·rename_i x hx
  unfold eqI at h
  split at h
  ·rename_i y hy
   simp only [aE,decide_eq_true_eq] at h
   rw [jI hx,jI hy,h.1,h.2]
  ·cases h
 split at h
 ·rename_i b hb
  unfold eqB at h
  split at h
  ·rename_i c hc
   rw [rX hb,rX hc]
   simpa using h
  ·cases h
 unfold eqV1 at h
 split at h
 ·rename_i p hp
  unfold eqS at h
  split at h
  ·rename_i q hq
   simp only [aE] at h
   obtain ⟨⟨⟨h1,h2⟩,h3⟩,h4⟩:=h
   rw [kP hp,kP hq,aM h1,aM h2,aM h3,aM h4]
  ·cases h
 split at h
 ·rename_i p hp
  unfold eqP at h
  split at h
  ·rename_i q hq
   simp only [aE] at h
   rw [jJ hp,jJ hq,aM h.1,aM h.2]
  ·cases h
 unfold eqV2 at h
 have g3:∀ {v:Value} {p:Nat×Nat×Nat×Nat×Nat},afh v=some p->v=.slice (some ⟨p.1,p.2.1,some p.2.2.1⟩) p.2.2.2.1 p.2.2.2.2:=by
  intro v p h;unfold afh at h;split at h <;> cases h <;> rfl
 split at h
 ·rename_i p hp
  unfold eqG at h
  split at h
  ·rename_i q hq
   simp only [aE] at h
   obtain ⟨⟨⟨⟨h1,h2⟩,h3⟩,h4⟩,h5⟩:=h
   rw [g3 hp,g3 hq,aM h1,aM h2,aM h3,aM h4,aM h5]
  ·cases h
 ·simp only [ee,aE] at h
  rcases h with h|h
  ·rw [rY h.1,rY h.2]
  ·rw [Bz h.1,Bz h.2]
theorem pq:∀ {a b:List Value},Ah a b=true->a=b
 |[],b,h=>by simp only [Ah,List.isEmpty_iff] at h;exact h.symm
 |u::us,[],h=>by simp [Ah] at h
 |u::us,v::vs,h=>by
  simp only [Ah,aE] at h
  rw [WB h.1,pq h.2]
theorem oH {o:aC} {cs:List Value} (h:sW o=some cs):o=.rw cs:=by unfold sW at h;split at h <;> cases h <;> rfl
theorem rZ {o:aC} {cs:List Value} (h:wP o=some cs):o=.ro cs:=by unfold wP at h;split at h <;> cases h <;> rfl
theorem y8 {o:aC} {x:List Value×Nat} (h:Bq o=some x):o=.gr x.1 x.2:=by unfold Bq at h;split at h <;> cases h <;> rfl
theorem FN {o:aC} (h:FK o=true):o=.dead:=by unfold FK at h;split at h <;> simp_all
theorem aie {a b:aC} (h:eqO a b=true):a=b:=by
 unfold eqO at h
 split at h
 ·rename_i x hx
  split at h
  ·rename_i y hy
   rw [oH hx,oH hy,pq h]
  ·cases h
 split at h
 ·rename_i x hx
  split at h
  ·rename_i y hy
   rw [rZ hx,rZ hy,pq h]
  ·cases h
 unfold eqO2 at h
 split at h
 ·rename_i x hx
  split at h
  ·rename_i y hy
   simp only [aE] at h
   rw [y8 hx,y8 hy,pq h.2,aM h.1]
  ·cases h
 ·simp only [aE] at h
  rw [FN h.1,FN h.2]
theorem WC:∀ {a b:Heap},eqH a b=true->∀ i,i<a.length->b[i]?=a[i]?
 |[],b,h,i,hi=>by simp at hi
 |u::us,[],h,i,hi=>by simp [eqH] at h
 |u::us,v::vs,h,i,hi=>by
  simp only [eqH,aE] at h
  cases i with
  |zero=>simp [aie h.1]
  |succ i=>simpa using WC h.2 i (oU hi)
theorem afK {r0:Value×Heap×Nat} (h:fixR U r0=some r) (hk:Keep r0.2.2 U r0.2.1):r.1=r0.1/\r.2.1=r0.2.1/\Keep r.2.2 U r.2.1:=by
 unfold fixR at h
 cases h1:Nat.ble U.length r0.2.2 with
 |true=>rw [h1] at h;cases h;exact ⟨rfl,rfl,hk⟩
 |false =>
  rw [h1] at h
  simp only [cond_false] at h
  cases h2:Ti r0.2.2 U r0.2.1 with
  |false=>rw [h2] at h;cases h;exact ⟨rfl,rfl,hk⟩
  |true =>
   rw [h2] at h
   cases h
   refine ⟨rfl,rfl,hk.1,fun i hi hl=>?_⟩
   by_cases a:i<r0.2.2
   ·exact hk.2 i a hl
   ·have:=WC h2 (i - r0.2.2) (by simp;omega)
    simp only [eJ] at this
    rwa [show r0.2.2+(i - r0.2.2)=i by omega] at this
theorem afL {call:jw} (hT:iG P T) (hc:iR P call) {l:List Operand} {ts:Array TypeId} {vs:List Value} (hx:aT e x=some u) (hl:wI e l=some vs) (h:acj T call u vs U=some r) :
  SR P (.call { callee:=.value x,args:=l.toArray,argTypes:=ts }) e U r:=by
 simp only [acj,aL,aO] at h
 obtain ⟨f,h1,h2,r0,h3,h4⟩:=h
 obtain ⟨z,hz⟩:=Option.isSome_iff_exists.1 h2
 haveI:GoFn P f.1:=⟨(hT.fn _ _ hz).1⟩
 obtain ⟨h5,h6⟩:=hc _ _ _ _ h3
 obtain ⟨h7,h8,h9⟩:=afK h4 h6
 rw [Es h1] at hx
 refine ⟨fun rd ty=>?_,h9⟩
 rw [h7,h8]
 exact bC hx hl rfl h5
theorem acZ {call:jw} (hT:iG P T) (hc:iR P call) (ha:Agr e tr) {c:Call} (h:acr c T call tr U=some r):SR P (.call c) e U r:=by
 obtain ⟨l,⟨d⟩,⟨ts⟩⟩:=c
 have h:Eh l d ts T call tr U=some r:=h
 cases l with
 |value f =>
  simp only [Eh,YB] at h
  obtain ⟨u,h1,h2⟩:=uw ha h
  obtain ⟨vs,h3,h4⟩:=Option.bind_eq_some_iff.1 h2
  exact afL hT hc h1 (J4 ha h3) h4
 |builtin bn =>
  simp only [Eh] at h
  have b1:∀ {f:Tab->TypeId->Value->Heap->Res},afn f d ts T call tr U=some r->∃ x t u,d=[x]/\ts=[t]/\aT e x=some u/\f T t u U=some r:=by
   intro f hf
   unfold afn at hf
   split at hf
   ·simp only [aL,aO] at hf
    obtain ⟨t,h1,h2,h3⟩:=hf
    obtain ⟨u,h4,h5⟩:=uw ha h3
    cases ts with
    |nil=>cases h1
    |cons a b=>simp only [List.head?_cons,Option.some.injEq,List.tail_cons,List.isEmpty_iff] at h1 h2;subst h1 h2;exact ⟨_,_,u,rfl,rfl,h4,h5⟩
   ·cases hf
  have b2:∀ {f:Tab->TypeId->TypeId->Value->Value->Heap->Res},acp f d ts T call tr U=some r->∃ x y t t' u v,d=[x,y]/\ts=[t,t']/\aT e x=some u/\aT e y=some v/\f T t t' u v U=some r:=by
   intro f hf
   unfold acp at hf
   split at hf
   ·simp only [aL,aO] at hf
    obtain ⟨t,h1,t',j,h2,h3⟩:=hf
    obtain ⟨u,v,h4,i,h5⟩:=BP ha h3
    match ts,h1,j,h2 with
    |[a,b],h1,j,_=>simp only [List.head?_cons,Option.some.injEq,List.tail_cons] at h1 j;subst h1 j;exact ⟨_,_,_,_,u,v,rfl,rfl,h4,i,h5⟩
    |_::_::_::_,_,_,h2=>simp at h2
   ·cases hf
  have bm:∀ {g:Int->Int->Int},afo g d ts T call tr U=some r->∃ x y k m n,d=[x,y]/\aT e x=some (.int k m)/\aT e y=some (.int k n)/\iQ (.int k (g m n)) U=some r:=by
   intro g hf
   unfold afo at hf
   split at hf
   ·obtain ⟨u,v,h4,i,h5⟩:=BP ha hf
    simp only [rMM,aL,aO,decide_eq_true_eq] at h5
    obtain ⟨a,g1,b,g2,g3,g4⟩:=h5
    rw [jI g1] at h4
    rw [jI g2,<- g3] at i
    exact ⟨_,_,_,_,_,rfl,h4,i,g4⟩
   ·cases hf
  unfold NU at h
  split at h
  ·obtain ⟨x,t,u,rfl,rfl,h1,h2⟩:=b1 h
   exact aic hT h1 h2
  ·obtain ⟨x,t,u,rfl,rfl,h1,h2⟩:=b1 h
   exact acY hT h1 h2
  ·obtain ⟨x,y,k,m,n,rfl,h1,h2,h3⟩:=bm h
   exact SR.pure h3 fun rd ty=>CG h1 h2
  ·obtain ⟨x,y,k,m,n,rfl,h1,h2,h3⟩:=bm h
   exact SR.pure h3 fun rd ty=>Fg h1 h2
  ·obtain ⟨x,y,t,t',u,v,rfl,rfl,h1,h2,h3⟩:=b2 h
   obtain ⟨h4,h5⟩:=aO.1 h3
   have h4:=aM h4
   subst h4
   exact aao hT h1 h2 h5
  ·obtain ⟨x,y,t,t',u,v,rfl,rfl,h1,h2,h3⟩:=b2 h
   exact afJ hT h1 h2 h3
  ·obtain ⟨x,y,t,t',u,v,rfl,rfl,h1,h2,h3⟩:=b2 h
   exact aan hT h1 h2 h3
  ·cases h
 |invoke a b=>cases h
theorem aif (hx:aT e x=some u) (h:rNil u U=some r):SR P (.nilCheck x) e U r:=by
 simp only [rNil,aO,ee] at h
 obtain ⟨h1,h2⟩:=h
 rcases h1 with h1|h1
 ·obtain ⟨p,hp⟩:=Option.isSome_iff_exists.1 h1
  have:=jJ hp;subst this
  exact SR.pure h2 fun rd ty=>jB hx
 ·obtain ⟨p,hp⟩:=Option.isSome_iff_exists.1 h1
  have:=Es hp;subst this
  exact SR.pure h2 fun rd ty=>ae3 hx
theorem afM {call:jw} (ha:Agr e tr) {c a b:Operand} (h:Wq c a b T call tr U=some r):SR P (.pick c a b) e U r:=by
 simp only [Wq,aL] at h
 obtain ⟨t,⟨w,h1,h2⟩,h3⟩:=h
 have h1:=ug ha h1
 rw [rX h2] at h1
 cases t with
 |true =>
  simp only [acf,aL] at h3
  obtain ⟨z,h4,h5⟩:=h3
  exact SR.pure h5 fun rd ty=>kC h1 rfl (ug ha h4)
 |false =>
  simp only [acf,aL] at h3
  obtain ⟨z,h4,h5⟩:=h3
  exact SR.pure h5 fun rd ty=>je h1 rfl (ug ha h4)
theorem NZ {call:jw} (hT:iG P T) (hc:iR P call) (ha:Agr e tr) {op:Op} (h:Ws op T call tr U=some r):SR P op e U r:=by
 unfold Ws at h
 split at h
 ·obtain ⟨u,h1,h2⟩:=uw ha h;exact SR.pure h2 fun rd ty=>dY h1
 ·obtain ⟨u,h1,h2⟩:=uw ha h;exact SR.pure h2 fun rd ty=>jd h1
 ·obtain ⟨u,h1,h2⟩:=uw ha h;exact afF hT h1 h2
 ·obtain ⟨u,v,h1,h2,h3⟩:=BP ha h;exact acR hT h1 h2 h3
 ·obtain ⟨u,v,h1,h2,h3⟩:=BP ha h;exact aia hT (fun g1 g2=>afI hT h1 (by rw [h2,NW g1]) g2) h1 h2 h3
 ·obtain ⟨u,h1,h2⟩:=uw ha h;exact fa_ok hT h1 h2
 ·obtain ⟨u,v,h1,h2,h3⟩:=BP ha h;exact afG hT h1 h2 h3
 ·obtain ⟨u,h1,h2⟩:=uw ha h;exact acS hT h1 h2
 ·obtain ⟨u,v,h1,h2,h3⟩:=BP ha h;exact aib hT h1 h2 h3
 ·exact afM ha h
 ·rename_i o t x
  unfold stUn at h
  split at h
  ·obtain ⟨u,h1,h2⟩:=uw ha h
   simp only [rNot,aL] at h2
   obtain ⟨b,h3,h4⟩:=h2
   rw [rX h3] at h1
   exact SR.pure h4 fun rd ty=>iV h1
  ·obtain ⟨u,h1,h2⟩:=uw ha h
   simp only [rNeg,aL] at h2
   obtain ⟨b,h3,h4⟩:=h2
   rw [jI h3] at h1
   exact SR.pure h4 fun rd ty=>Cj h1
  ·cases h
 ·obtain ⟨u,h1,h2⟩:=uw ha h
  simp only [Tc,aL] at h2
  obtain ⟨l,h3,w,h4,h5⟩:=h2
  rw [Ak h3] at h1
  exact SR.pure h5 fun rd ty=>yP h1 (oU h4)
 ·obtain ⟨u,h1,h2⟩:=uw ha h;exact aif h1 h2
 ·obtain ⟨u,h1,h2⟩:=uw ha h
  exact SR.new h2 fun rd ty=>Jt h1
 ·simp only [Yy,ach,aL,aO] at h
  obtain ⟨y,h1,h2,h3⟩:=h
  haveI:Ty P _ y.1 y.2.1 y.2.2.1 y.2.2.2:=⟨hT.ty _ _ h1⟩
  exact SR.new h3 fun rd ty=>jG h2
 ·obtain ⟨u,h1,h2⟩:=uw ha h;exact afH hT h1 h2
 ·rename_i f l1 l2
  cases f with
  |func g =>
   simp only [ag0,aL] at h
   obtain ⟨v1,h1,v2,h2,h3⟩:=h
   obtain ⟨l1⟩:=l1
   obtain ⟨l2⟩:=l2
   exact SR.pure h3 fun rd ty=>zT (J4 ha h1) (J4 ha h2)
  |_=>cases h
 ·simp only [Yz,aL] at h
  obtain ⟨vs,h1,h2⟩:=h
  exact acT hT (P8 ha h1) h2
 ·simp only [JX,aL] at h
  obtain ⟨vs,h1,h2⟩:=h
  exact aak hT (P8 ha h1) h2
 ·obtain ⟨u,v,h1,h2,h3⟩:=BP ha h;exact acU hT h1 h2 h3
 ·obtain ⟨u,h1,h2⟩:=uw ha h
  simp only [aL] at h2
  obtain ⟨a,h3,b,h4,c,h5,h6⟩:=h2
  have d:∀ {o:Option Operand} {a:Option Int},opt tr o=some a->(∀ x,o=some x->∃ q m,aT e x=some (.int q m)/\a=some m)/\(o=none->a=none):=by
   intro o a ho
   cases o with
   |none=>cases ho;exact ⟨fun _ h=>by (cases h),fun _=>rfl⟩
   |some x =>
    simp only [opt,aL] at ho
    obtain ⟨w,⟨z,g1,g2⟩,g3⟩:=ho
    have g1:=ug ha g1
    rw [jI g2] at g1
    exact ⟨fun x' i=>by cases i;exact ⟨_,_,g1,by cases g3;rfl⟩,fun h=>by (cases h)⟩
  exact acV hT h1 (d h3).1 (d h3).2 (d h4).1 (d h4).2 (d h5).1 (d h5).2 h6
 ·obtain ⟨u,v,h1,h2,h3⟩:=BP ha h;exact aam hT h1 h2 h3
 ·obtain ⟨u,k,h1,h2,h3⟩:=BP ha h
  obtain ⟨v,h4,h5⟩:=uw ha h3
  exact (TF hT h1 h2 h4 h5).1
 ·obtain ⟨u,k,h1,h2,h3⟩:=BP ha h
  obtain ⟨v,h4,h5⟩:=uw ha h3
  exact (TF hT h1 h2 h4 h5).2
 ·rename_i n
  obtain ⟨h1,h2⟩:=aO.1 h
  cases n with
  |none=>exact acX h2
  |some _=>cases h1
 ·exact acZ hT hc ha h
 ·cases h
theorem Ap {call:jw} (hT:iG P T) (hc:iR P call) (ha:Agr e tr) {N:Nat} {d:Option Nat} {op:Op} (h:Tm T N d op T call tr U=some r):SR P op e U r:=by
 unfold Tm at h
 split at h
 ·cases hg:isGl T N d with
  |true =>
   rw [hg] at h
   simp only [cond_true,Tj,aL] at h
   obtain ⟨vs,h1,h2⟩:=h
   exact aal hT (P8 ha h1) h2
  |false=>rw [hg] at h;exact NZ hT hc ha (op:=.buildSlice ..) h
 ·exact NZ hT hc ha h
end
end Go.AH
