/- Lemmas. No conditions. -/
import Derived.RangeFuncNested
import Derived.RangeFuncLeaves
import Derived.OrdersIn
import Derived.Still
import Derived.Laws.CopyRow
import Derived.Laws.Cells
import Derived.Laws.Tables
import Derived.Laws.AppendOwn
import Derived.Great.BuildSlice
theorem oU {A B:Prop} (a:A) (h:A->B:=by intro h_;simpa using h_):B:=h a
theorem oK {P:Prop} (h:P:=by kernel_rfl):P:=h
theorem oO {P:Prop} (h:P:=by omega):P:=h
theorem oR {P:Prop} (h:P:=by rfl):P:=h
theorem oA {P:Prop} (h:P:=by assumption):P:=h
theorem oD {P:Prop} (h:P:=by decide):P:=h
theorem oS {P:Prop} (h:P:=by simp):P:=h
abbrev aD:=@Nat.le_refl
abbrev aE:=@Bool.and_eq_true
abbrev aL:=@Option.bind_eq_some_iff
abbrev aM:=@Nat.eq_of_beq_eq_true
abbrev aR:=@Nat.zero_add
abbrev bA:=@List.length_append
abbrev bE:=@List.getElem?_append_right
abbrev bL:=@Nat.zero_le
abbrev bN:=@List.append_nil
abbrev bO:=@List.getElem?_append_left
abbrev bR:=@List.getElem?_toArray
abbrev bX:=@Nat.blt_eq
abbrev cA:=@List.getElem?_eq_getElem
abbrev cC:=@Nat.le_of_ble_eq_true
abbrev cD:=@List.append_assoc
abbrev cE:=@List.getD_eq_getElem?_getD
abbrev cF:=@Nat.add_assoc
abbrev cG:=@List.map_cons
abbrev cH:=@Nat.mul_one
abbrev cI:=@List.set_append_left
abbrev cJ:=@List.getElem?_map
abbrev cL:=@Nat.succ_pos
abbrev cM:=@Nat.sub_self
abbrev cN:=@List.set_set
abbrev cP:=@List.getElem_mem
abbrev cQ:=@List.getElem_map
abbrev cU:=@List.length_map
abbrev cV:=@Nat.add_zero
abbrev cX:=@List.getElem_take
abbrev cY:=@List.map_nil
abbrev di:=@List.getElem?_eq_none
abbrev dj:=@Int.toNat_natCast
abbrev dk:=@List.length_set
abbrev dl:=@Int.mul_nonneg
abbrev dm:=@List.mem_cons_of_mem
abbrev dq:=@List.getElem?_range
abbrev du:=@Option.map_some
abbrev dx:=@List.length_nil
abbrev dy:=@Int.le_refl
abbrev dz:=@List.getElem_cons_zero
abbrev dC:=@Array.getElem_toList
abbrev dE:=@List.length_cons
abbrev dT:=@List.all_eq_true
abbrev ea:=@Int.max_eq_right
abbrev eb:=@List.take_length
abbrev ec:=@Int.max_eq_left
abbrev ee:=@Bool.or_eq_true
abbrev eg:=@Nat.le_trans
abbrev eh:=@List.mem_of_getElem?
abbrev ej:=@List.flatten_cons
abbrev eo:=@List.length_take
abbrev eq:=@List.map_append
abbrev ew:=@List.getElem_of_mem
abbrev ey:=@List.getElem?_take
abbrev eA:=@List.take_take
abbrev eC:=@Nat.le_of_lt
abbrev eD:=@List.drop_of_length_le
abbrev eE:=@List.getElem?_set_ne
abbrev eI:=@List.map_congr_left
abbrev eJ:=@List.getElem?_drop
abbrev eK:=@List.ext_getElem?
abbrev eL:=@Bool.not_eq_true'
abbrev eM:=@List.nil_append
abbrev eN:=@Array.getD_eq_getD_getElem?
abbrev eO:=@List.getElem_append_right
abbrev eQ:=@List.getElem_append_left
abbrev eR:=@List.length_drop
abbrev eT:=@Int.mul_le_mul
abbrev eV:=@Nat.lt_or_ge
abbrev eW:=@Nat.add_comm
abbrev eZ:=@Array.getElem?_replicate
abbrev e6:=@List.findIdx?_cons
abbrev e7:=@List.flatten_nil
abbrev e8:=@Array.getElem?_setIfInBounds_ne
abbrev fc:=@Nat.ble_eq_true_of_le
abbrev fd:=@Nat.mul_le_mul_right
abbrev fe:=@Nat.lt_of_lt_of_le
abbrev ff:=@List.range_succ
abbrev fg:=@List.drop_drop
abbrev fh:=@List.take_append_of_le_length
abbrev fi:=@Nat.lt_or_gt_of_ne
abbrev fj:=@List.mem_singleton
abbrev fk:=@Nat.lt_trichotomy
abbrev fm:=@List.size_toArray
abbrev fo:=@Nat.min_eq_left
abbrev fp:=@Array.getElem?_setIfInBounds_self_of_lt
abbrev fq:=@List.set_append_right
abbrev ft:=@List.length_replicate
abbrev fu:=@List.mem_cons_self
abbrev fv:=@List.drop_append_of_le_length
abbrev fw:=@Int.tdiv_eq_ediv_of_nonneg
abbrev fx:=@Array.getElem?_eq_getElem
abbrev fy:=@List.getElem?_cons_succ
abbrev fz:=@Option.map_eq_some_iff
abbrev fI:=@List.mem_append_left
abbrev fL:=@List.getElem_toArray
theorem Go.xy {α:Sort _} (a:α):∃ b,b=a:=⟨a,rfl⟩
namespace Go
abbrev Value.oy:Value:=.int .i64 0
end Go
namespace Go.AH
open Go
structure Pl where
 b:Nat
 o:Nat
 s:Nat:=0
abbrev Rho:=Nat->Pl
def comp (V r:Rho):Rho:=fun i=>⟨(V (r i).b).b,(V (r i).b).o+(r i).o,(V (r i).b).s⟩
mutual
def ren (r:Rho):Value->Value
 |.pointer (some ⟨i,o,s⟩)=>.pointer (some ⟨(r i).b,(r i).o+o,s⟩)
 |.slice (some ⟨i,o,s⟩) n c=>.slice (some ⟨(r i).b,(r i).o+o,s⟩) n c
 |.map (some i)=>.map (some (r i).b)
 |.chan (some i)=>.chan (some (r i).b)
 |.func (.yield l) a b=>.func (.yield (r l).b) (zM r a) (zM r b)
 |.func f a b=>.func f (zM r a) (zM r b)
 |.iface t v=>.iface t (ren r v)
 |.agg cs=>.agg (zM r cs)
 |.tuple cs=>.tuple (zM r cs)
 |v=>v
def zM (r:Rho):Array Value->Array Value
 |⟨l⟩=>⟨yK r l⟩
def yK (r:Rho):List Value->List Value
 |[]=>[]
 |v::l=>ren r v::yK r l
end
theorem AZ (r:Rho) (l:List Value):yK r l=l.map (ren r):=by
 induction l with
 |nil=>rfl
 |cons v l ih=>simp [yK,ih]
theorem Yi (r:Rho) (a:Array Value):zM r a=a.map (ren r):=by
 cases a with|mk l=>simp [zM,AZ]
theorem qw (r:Rho) (a:Array Value):(zM r a).size=a.size:=by simp [Yi]
theorem DK (r:Rho) (a:Array Value) (i:Nat) (h:i<(zM r a).size) (h':i<a.size):(zM r a)[i]=ren r a[i]:=by
 simp [Yi]
inductive VQ (q:Bool) (n:Nat) (V:Rho):Value->Value->Prop
 |bool (b:Bool):VQ q n V (.bool b) (.bool b)
 |int (k:IntKind) (x:Int):VQ q n V (.int k x) (.int k x)
 |string (s:ByteArray):VQ q n V (.string s) (.string s)
 |nilPtr:VQ q n V (.pointer none) (.pointer none)
 |ptr (i o:Nat) (hi:i<n):VQ q n V (.pointer (some ⟨i,o,none⟩)) (.pointer (some ⟨(V i).b,(V i).o+o,none⟩))
 |nilSlice:VQ q n V (.slice none 0 0) (.slice none 0 0)
 |zslice (a:Option Addr) (hq:q=false):VQ q n V (.slice none 0 1) (.slice a 0 0)
 |zsliceZ (hq:q=true):VQ q n V (.slice none 0 1) (.slice none 0 1)
 |emptySlice (i o:Nat) (a:Option Addr) (c:Nat):VQ q n V (.slice (some ⟨i,o,none⟩) 0 0) (.slice a 0 c)
 |slice (i o l c c':Nat) (h:c<=c') (hi:i<n):VQ q n V (.slice (some ⟨i,o,none⟩) l c) (.slice (some ⟨(V i).b,(V i).o+o,none⟩) l c')
 |gslice (i o l c c' sz:Nat) (h:c<=c'/\(sz=0->c=c')) (hs:(V i).o+o+c'*sz<=(V i).s) (hi:i<n) (hq:q=false):VQ q n V (.slice (some ⟨i,o,some sz⟩) l c) (.slice (some ⟨(V i).b,(V i).o+o,none⟩) l c')
 |sliceG (i o l c c' sz:Nat) (h:c<=c') (hi:i<n) (hq:q=true):VQ q n V (.slice (some ⟨i,o,none⟩) l c) (.slice (some ⟨(V i).b,(V i).o+o,some sz⟩) l c')
 |gsliceG (i o l c c' sz:Nat) (h:c<=c'/\(sz=0->c=c')) (hi:i<n) (hq:q=true):VQ q n V (.slice (some ⟨i,o,some sz⟩) l c) (.slice (some ⟨(V i).b,(V i).o+o,some sz⟩) l c')
 |nilMap:VQ q n V (.map none) (.map none)
 |map (i:Nat) (hi:i<n):VQ q n V (.map (some i)) (.map (some (V i).b))
 |stamp (i:Nat) (hi:i<n) (hq:q=false):VQ q n V (.chan (some i)) (.int .i64 ((V i).s:Int))
 |stampG (i:Nat) (hi:i<n) (hq:q=true):VQ q n V (.chan (some i)) (.chan (some (V i).b))
 |nilFunc:VQ q n V .nilFunc .nilFunc
 |func (f:FuncId) (a a' b b':Array Value) (h1:a.size=a'.size) (h2:b.size=b'.size)
   (h3:∀ (i:Nat) (h:i<a.size) (h':i<a'.size),VQ q n V a[i] a'[i]) (h4:∀ (i:Nat) (h:i<b.size) (h':i<b'.size),VQ q n V b[i] b'[i]) :
   VQ q n V (.func (.func f) a b) (.func (.func f) a' b')
 |yield (l:Nat) (hi:l<n):VQ q n V (.func (.yield l) #[] #[]) (.func (.yield (V l).b) #[] #[])
 |nilIface:VQ q n V .nilIface .nilIface
 |iface (t:TypeId) (v v':Value) (h:VQ q n V v v'):VQ q n V (.iface t v) (.iface t v')
 |agg (a a':Array Value) (h1:a.size=a'.size) (h3:∀ (i:Nat) (h:i<a.size) (h':i<a'.size),VQ q n V a[i] a'[i]):VQ q n V (.agg a) (.agg a')
 |tuple (a a':Array Value) (h1:a.size=a'.size) (h3:∀ (i:Nat) (h:i<a.size) (h':i<a'.size),VQ q n V a[i] a'[i]):VQ q n V (.tuple a) (.tuple a')
abbrev gJ:=VQ false
abbrev jS:=VQ true
def lU (n:Nat) (V:Rho) (a a':Array Value):Prop:=a.size=a'.size/\∀ (i:Nat) (h:i<a.size) (h':i<a'.size),gJ n V a[i] a'[i]
theorem GZ {q:Bool} {n m:Nat} {V r:Rho} {v v':Value} (hr:∀ i<n,(r i).b<m) (h:VQ q n (comp V r) v v'):VQ q m V (ren r v) v':=by
 induction h with
 |bool b=>exact .bool b
 |int k n=>exact .int k n
 |string s=>exact .string s
 |nilPtr=>exact .nilPtr
 |ptr i o hi=>simp only [ren,comp,cF];exact .ptr _ _ (hr _ hi)
 |nilSlice=>exact .nilSlice
 |zslice a hq=>exact .zslice a hq
 |zsliceZ hq=>exact .zsliceZ hq
 |emptySlice i o a c=>exact .emptySlice _ _ _ _
 |slice i o n c c' h hi=>simp only [ren,comp,cF];exact .slice _ _ _ _ _ h (hr _ hi)
 |gslice i o l c c' sz h hs hi hq =>
  simp only [comp] at hs
  simp only [ren,comp,cF];exact .gslice _ _ _ _ _ _ h oO (hr _ hi) hq
 |sliceG i o l c c' sz h hi hq=>simp only [ren,comp,cF];exact .sliceG _ _ _ _ _ _ h (hr _ hi) hq
 |gsliceG i o l c c' sz h hi hq=>simp only [ren,comp,cF];exact .gsliceG _ _ _ _ _ _ h (hr _ hi) hq
 |nilMap=>exact .nilMap
 |map i hi=>exact .map _ (hr _ hi)
 |stamp i hi hq=>exact .stamp _ (hr _ hi) hq
 |stampG i hi hq=>exact .stampG _ (hr _ hi) hq
 |nilFunc=>exact .nilFunc
 |func f a a' b b' h1 h2 h3 h4 ih3 ih4 =>
  refine .func f _ _ _ _ (by rw [qw];exact h1) (by rw [qw];exact h2) ?_ ?_
  ·intro i h h';rw [DK _ _ _ _ (by rw [qw] at h;exact h)];exact ih3 i _ h'
  ·intro i h h';rw [DK _ _ _ _ (by rw [qw] at h;exact h)];exact ih4 i _ h'
 |yield l hi=>exact .yield _ (hr _ hi)
 |nilIface=>exact .nilIface
 |iface t v v' h ih=>exact .iface t _ _ ih
 |agg a a' h1 h3 ih =>
  refine .agg _ _ (by rw [qw];exact h1) ?_
  intro i h h';rw [DK _ _ _ _ (by rw [qw] at h;exact h)];exact ih i _ h'
 |tuple a a' h1 h3 ih =>
  refine .tuple _ _ (by rw [qw];exact h1) ?_
  intro i h h';rw [DK _ _ _ _ (by rw [qw] at h;exact h)];exact ih i _ h'
theorem VQ.trans {q:Bool} {n m:Nat} {V r:Rho} {v u:Value} (h:VQ true n r v u):∀ {v':Value},VQ q m V u v'->VQ q n (comp V r) v v':=by
 induction h with
 |bool b=>intro v' h';cases h';exact .bool _
 |int k n=>intro v' h';cases h';exact .int _ _
 |string s=>intro v' h';cases h';exact .string _
 |nilPtr=>intro v' h';cases h';exact .nilPtr
 |ptr i o hi =>
  intro v' h';cases h'
  have:=VQ.ptr (q:=q) (V:=comp V r) i o hi
  simp only [comp,cF] at this;exact this
 |nilSlice=>intro v' h';cases h';exact .nilSlice
 |zslice a hq=>simp at hq
 |zsliceZ hq =>
  intro v' h';cases h' with
  |zslice a hq=>exact .zslice a hq
  |zsliceZ hq=>exact .zsliceZ hq
 |emptySlice i o a c =>
  intro v' h'
  generalize hu:Value.slice a 0 c=u at h'
  cases h' <;> simp at hu
  ·exact .emptySlice _ _ _ _
  ·exact .emptySlice _ _ _ _
  all_goals (obtain ⟨_,rfl,_⟩:=hu;exact .emptySlice _ _ _ _)
 |slice i o l c c' h hi =>
  intro v' h';cases h' with
  |emptySlice =>
          obtain rfl:c=0:=oO
          exact .emptySlice _ _ _ _
  |slice _ _ _ _ c'' h2 =>
   have:=VQ.slice (q:=q) (V:=comp V r) i o l c c'' oO hi
   simp only [comp,cF] at this;exact this
  |sliceG _ _ _ _ c'' sz h2 hi2 hq =>
   have:=VQ.sliceG (q:=q) (V:=comp V r) i o l c c'' sz oO hi hq
   simp only [comp,cF] at this;exact this
 |gslice i o l c c' sz h hs hi hq=>exact absurd hq oS
 |sliceG i o l c c' sz h hi hq =>
  intro v' h';cases h' with
  |gslice _ _ _ _ c'' _ h2 hs hi2 hq2 =>
   have:=VQ.slice (q:=q) (V:=comp V r) i o l c c'' oO hi
   simp only [comp,cF] at this;exact this
  |gsliceG _ _ _ _ c'' _ h2 hi2 hq2 =>
   have:=VQ.sliceG (q:=q) (V:=comp V r) i o l c c'' sz oO hi hq2
   simp only [comp,cF] at this;exact this
 |gsliceG i o l c c' sz h hi hq =>
  intro v' h';cases h' with
  |gslice _ _ _ _ c'' _ h2 hs hi2 hq2 =>
   have:=VQ.gslice (q:=q) (V:=comp V r) i o l c c'' sz oO (by simp only [comp];omega) hi hq2
   simp only [comp,cF] at this;exact this
  |gsliceG _ _ _ _ c'' _ h2 hi2 hq2 =>
   have:=VQ.gsliceG (q:=q) (V:=comp V r) i o l c c'' sz oO hi hq2
   simp only [comp,cF] at this;exact this
 |nilMap=>intro v' h';cases h';exact .nilMap
 |map i hi=>intro v' h';cases h';exact .map (V:=comp V r) i hi
 |stamp i hi hq=>exact absurd hq oS
 |stampG i hi hq =>
  intro v' h';cases h' with
  |stamp _ hi2 hq2=>exact .stamp (V:=comp V r) i hi hq2
  |stampG _ hi2 hq2=>exact .stampG (V:=comp V r) i hi hq2
 |nilFunc=>intro v' h';cases h';exact .nilFunc
 |func f a a' b b' h1 h2 h3 h4 ih3 ih4 =>
  intro v' h';cases h' with
  |func _ _ x _ y g1 g2 g3 g4 =>
   exact .func f _ _ _ _ (h1.trans g1) (h2.trans g2) (fun i h h'=>ih3 i h oO (g3 i oO h')) (fun i h h'=>ih4 i h oO (g4 i oO h'))
 |yield l hi =>
  intro v' h';cases h'
  exact .yield (V:=comp V r) l hi
 |nilIface=>intro v' h';cases h';exact .nilIface
 |iface t v v' h ih=>intro v'' h';cases h' with|iface _ _ _ g=>exact .iface _ _ _ (ih g)
 |agg a a' h1 h3 ih =>
  intro v' h';cases h' with
  |agg _ x g1 g3=>exact .agg _ _ (h1.trans g1) (fun i h h'=>ih i h oO (g3 i oO h'))
 |tuple a a' h1 h3 ih =>
  intro v' h';cases h' with
  |tuple _ x g1 g3=>exact .tuple _ _ (h1.trans g1) (fun i h h'=>ih i h oO (g3 i oO h'))
theorem VQ.mono {q:Bool} {n m:Nat} {V ρ':Rho} {v v':Value} (h:VQ q n V v v') (hn:n<=m) (hρ:∀ i<n,ρ' i=V i):VQ q m ρ' v v':=by
 induction h with
 |bool b=>exact .bool _
 |int k n=>exact .int _ _
 |string s=>exact .string _
 |nilPtr=>exact .nilPtr
 |ptr i o hi=>rw [<- hρ i hi];exact .ptr _ _ oO
 |nilSlice=>exact .nilSlice
 |zslice a hq=>exact .zslice a hq
 |zsliceZ hq=>exact .zsliceZ hq
 |emptySlice i o a c=>exact .emptySlice _ _ _ _
 |slice i o n c c' h hi=>rw [<- hρ i hi];exact .slice _ _ _ _ _ h oO
 |gslice i o l c c' sz h hs hi hq=>rw [<- hρ i hi] at hs ⊢;exact .gslice _ _ _ _ _ _ h hs oO hq
 |sliceG i o l c c' sz h hi hq=>rw [<- hρ i hi];exact .sliceG _ _ _ _ _ _ h oO hq
 |gsliceG i o l c c' sz h hi hq=>rw [<- hρ i hi];exact .gsliceG _ _ _ _ _ _ h oO hq
 |nilMap=>exact .nilMap
 |map i hi=>rw [<- hρ i hi];exact .map _ oO
 |stamp i hi hq=>rw [<- hρ i hi];exact .stamp _ oO hq
 |stampG i hi hq=>rw [<- hρ i hi];exact .stampG _ oO hq
 |nilFunc=>exact .nilFunc
 |func f a a' b b' h1 h2 h3 h4 ih3 ih4=>exact .func f _ _ _ _ h1 h2 ih3 ih4
 |yield l hi=>rw [<- hρ l hi];exact .yield _ oO
 |nilIface=>exact .nilIface
 |iface t v v' h ih=>exact .iface t _ _ ih
 |agg a a' h1 h3 ih=>exact .agg _ _ h1 ih
 |tuple a a' h1 h3 ih=>exact .tuple _ _ h1 ih
mutual
def plain:Value->Bool
 |.bool _|.int _ _|.string _|.pointer none|.slice none 0 0|.map none|.nilFunc|.nilIface=>true
 |.func (.func _) a b=>xB a && xB b
 |.iface _ v=>plain v
 |.agg cs|.tuple cs=>xB cs
 |_=>false
def xB:Array Value->Bool
 |⟨l⟩=>dN l
def dN:List Value->Bool
 |[]=>true
 |v::l=>plain v && dN l
end
theorem Vy (l:List Value):dN l=true↔∀ v ∈ l,plain v=true:=by
 induction l with
 |nil=>simp [dN]
 |cons v l ih=>simp [dN,ih]
mutual
theorem bF {q:Bool} {n:Nat} {V:Rho}:(v:Value)->plain v=true->VQ q n V v v
 |.bool b,_=>.bool b
 |.int k x,_=>.int k x
 |.string s,_=>.string s
 |.pointer none,_=>.nilPtr
 |.pointer (some _),h=>by simp [plain] at h
 |.slice none 0 0,_=>.nilSlice
 |.slice none (_+1) _,h=>by simp [plain] at h
 |.slice none 0 (_+1),h=>by simp [plain] at h
 |.slice (some _) _ _,h=>by simp [plain] at h
 |.map none,_=>.nilMap
 |.map (some _),h=>by simp [plain] at h
 |.nilFunc,_=>.nilFunc
 |.nilIface,_=>.nilIface
 |.func f a b,h=>match f,h with
  |.func f,h=>by
   simp only [plain,aE] at h
   exact .func f a a b b rfl rfl (fun i h1 _=>tq a h.1 i h1) (fun i h1 _=>tq b h.2 i h1)
  |.method _,h=>by simp [plain] at h
  |.methodOf _ _,h=>by simp [plain] at h
  |.via _ _ _ _,h=>by simp [plain] at h
  |.yield _,h=>by simp [plain] at h
 |.iface t v,h=>.iface t v v (bF v (by simpa [plain] using h))
 |.agg cs,h=>.agg cs cs rfl (fun i h1 _=>tq cs (by simpa [plain] using h) i h1)
 |.tuple cs,h=>.tuple cs cs rfl (fun i h1 _=>tq cs (by simpa [plain] using h) i h1)
 |.float _ _,h=>by simp [plain] at h
 |.complex _ _ _,h=>by simp [plain] at h
 |.chan _,h=>by simp [plain] at h
theorem tq {q:Bool} {n:Nat} {V:Rho}:(a:Array Value)->xB a=true->∀ (i:Nat) (h:i<a.size),VQ q n V a[i] a[i]
 |⟨l⟩,h=>fun i hi=>kZ l (by simpa [xB] using h) i hi
theorem kZ {q:Bool} {n:Nat} {V:Rho}:(l:List Value)->dN l=true->∀ (i:Nat) (h:i<l.length),VQ q n V l[i] l[i]
 |[],_=>fun i h=>absurd h (Nat.not_lt_zero i)
 |v::l,h=>fun i hi=>by
  simp only [dN,aE] at h
  cases i with
  |zero=>exact bF v h.1
  |succ i=>exact kZ l h.2 i (oU hi)
end
mutual
theorem xO {r:Rho}:(v:Value)->plain v=true->ren r v=v
 |.bool b,_=>rfl
 |.int k x,_=>rfl
 |.string s,_=>rfl
 |.pointer none,_=>rfl
 |.pointer (some _),h=>by simp [plain] at h
 |.slice none 0 0,_=>rfl
 |.slice none (_+1) _,h=>by simp [plain] at h
 |.slice none 0 (_+1),h=>by simp [plain] at h
 |.slice (some _) _ _,h=>by simp [plain] at h
 |.map none,_=>rfl
 |.map (some _),h=>by simp [plain] at h
 |.nilFunc,_=>rfl
 |.nilIface,_=>rfl
 |.func f a b,h=>match f,h with
  |.func f,h=>by
   simp only [plain,aE] at h
   simp only [ren,yL a h.1,yL b h.2]
  |.method _,h=>by simp [plain] at h
  |.methodOf _ _,h=>by simp [plain] at h
  |.via _ _ _ _,h=>by simp [plain] at h
  |.yield _,h=>by simp [plain] at h
 |.iface t v,h=>by simp only [ren,xO v (by simpa [plain] using h)]
 |.agg cs,h=>by simp only [ren,yL cs (by simpa [plain] using h)]
 |.tuple cs,h=>by simp only [ren,yL cs (by simpa [plain] using h)]
 |.float _ _,h=>by simp [plain] at h
 |.complex _ _ _,h=>by simp [plain] at h
 |.chan _,h=>by simp [plain] at h
theorem yL {r:Rho}:(a:Array Value)->xB a=true->zM r a=a
 |⟨l⟩,h=>by simp only [zM,uX l (by simpa [xB] using h)]
theorem uX {r:Rho}:(l:List Value)->dN l=true->yK r l=l
 |[],_=>rfl
 |v::l,h=>by
  simp only [dN,aE] at h
  simp only [yK,xO v h.1,uX l h.2]
end
theorem yM {a:Array Value} (h:xB a=true) (i:Nat) (hi:i<a.size):plain a[i]=true:=by
 cases a with|mk l=>exact (Vy l).1 (by simpa [xB] using h) _ oS
theorem bH {q:Bool} {n:Nat} {V:Rho} {v v':Value} (h:VQ q n V v v') (hp:plain v=true):v'=v:=by
 induction h with
 |bool b=>rfl
 |int k n=>rfl
 |string s=>rfl
 |nilPtr=>rfl
 |ptr i o hi=>simp [plain] at hp
 |nilSlice=>rfl
 |zslice a hq=>simp [plain] at hp
 |zsliceZ hq=>rfl
 |emptySlice i o a c=>simp [plain] at hp
 |gslice i o l c c' sz h hs hi hq=>simp [plain] at hp
 |sliceG i o l c c' sz h hi hq=>simp [plain] at hp
 |gsliceG i o l c c' sz h hi hq=>simp [plain] at hp
 |slice i o n c c' h hi=>simp [plain] at hp
 |nilMap=>rfl
 |map i hi=>simp [plain] at hp
 |stamp i hi hq=>simp [plain] at hp
 |stampG i hi hq=>simp [plain] at hp
 |nilFunc=>rfl
 |func f a a' b b' h1 h2 h3 h4 ih3 ih4 =>
  simp only [plain,aE] at hp
  rw [show a'=a from Array.ext h1.symm (fun i g g'=>ih3 i oO oO (yM hp.1 i oO)),
   show b'=b from Array.ext h2.symm (fun i g g'=>ih4 i oO oO (yM hp.2 i oO))]
 |yield l hi=>simp [plain] at hp
 |nilIface=>rfl
 |iface t v v' h ih=>rw [ih (by simpa [plain] using hp)]
 |agg a a' h1 h3 ih =>
  rw [show a'=a from Array.ext h1.symm (fun i g g'=>ih i oO oO (yM (by simpa [plain] using hp) i oO))]
 |tuple a a' h1 h3 ih =>
  rw [show a'=a from Array.ext h1.symm (fun i g g'=>ih i oO oO (yM (by simpa [plain] using hp) i oO))]
abbrev Env:=List (Nat×Value)
def Env.get:Env->Nat->Option Value
 |[],_=>none
 |(k,v)::e,t=>bif Nat.beq k t then some v else Env.get e t
inductive aC where
 |dead
 |ro (cs:List Value)
 |rw (cs:List Value)
 |gr (cs:List Value) (e:TypeId)
 |dfr
 |loop (st:LoopState) (pend:Option Code) (N:Nat) (e:Env) (params:Array Tmp) (assign body:Code)
 |map (es:List (Value×Value))
 |iter (m:Nat) (seen:List Value)
 |deep (qs:List (List Value)) (sp:List (Nat×Value))
abbrev Heap:=List aC
def aC.owned:aC->Prop
 |.dead=>False
 |.ro _=>False
 |.rw cs=>cs ≠ []
 |.gr cs _=>cs ≠ []
 |.deep _ _=>False
 |_=>True
def Fa (n:Nat) (V:Rho) (N:Nat) (e:Env) (tmps:Array Value):Prop :=
 tmps.size=N/\∀ t v,Env.get e t=some v->∃ v',tmps[t]?=some v'/\gJ n V v v'
def ZF (n:Nat) (V:Rho) (es:List (Value×Value)) (ents:Array MapEntry) (clock:Nat):Prop :=
 ents.size=es.length /\
 (∀ (i:Nat) (h:i<es.length) (h':i<ents.size),ents[i].key=es[i].1/\plain es[i].1=true/\gJ n V es[i].2 ents[i].val/\ents[i].born<clock) /\
 (∀ (i j:Nat) (hi:i<ents.size) (hj:j<ents.size),i<j->ents[i].born<ents[j].born)
def FRow (G:Nat->Prop) (w:World) (q:List Value) (v':Value):Prop :=
 ∃ (a:Option Addr) (cap:Nat),v'=.slice a q.length cap/\q.length<=cap/\(q ≠ []->∃ b o,a=some ⟨b,o,none⟩/\G b/\∀ (k:Nat) (h:k<q.length),w.cell? ⟨b,o+k,none⟩=some q[k])
def L8 (G:Nat->Prop) (n:Nat) (V:Rho) (w:World) (p:Pl):aC->Prop
 |.dead=>True
 |.ro cs=>cs ≠ []->G p.b/\∀ (k:Nat) (h:k<cs.length),∃ v',w.cell? ⟨p.b,p.o+k,none⟩=some v'/\gJ n V cs[k] v'
 |.rw cs=>cs ≠ []->¬ G p.b/\p.o=0/\∃ (rc:Array Value) (t:TypeId),w.heap[p.b]?=some (.cells rc t (0,0))/\cs.length<=rc.size /\
   ∀ (k:Nat) (h:k<cs.length) (h':k<rc.size),gJ n V cs[k] rc[k]
 |.gr cs e=>cs ≠ []->¬ G p.b/\p.o=0/\∃ rc:Array Value,w.heap[p.b]?=some (.cells rc e (0,0))/\rc.size=p.s/\cs.length<=rc.size /\
   ∀ (k:Nat) (h:k<cs.length) (h':k<rc.size),gJ n V cs[k] rc[k]
 |.dfr=>¬ G p.b/\w.heap[p.b]?=some (.deferred (some []))
 |.loop st pend N e params assign body=>¬ G p.b/\∃ r:Loop,w.heap[p.b]?=some (.loop r)/\r.state=st/\r.pending=pend/\r.params=params /\
   r.assign=assign/\r.body=body/\Fa n V N e r.tmps
 |.map es=>¬ G p.b/\∃ (ents:Array MapEntry) (clock:Nat),w.heap[p.b]?=some (.map ents clock)/\ZF n V es ents clock
 |.iter m seen=>¬ G p.b/\m<n/\∃ (ents:Array MapEntry) (clock:Nat) (sb:Array Nat),w.heap[p.b]?=some (.mapIter (some (V m).b) clock sb clock) /\
   w.heap[(V m).b]?=some (.map ents clock)/\(∀ e ∈ ents,(sb.contains e.born=true↔e.key ∈ seen))/\(∀ k,seen.getLast?=some k->∃ t,sb.back?=some t/\∀ e ∈ ents,e.key=k->e.born=t)/\p.o=0
 |.deep qs sp=>(qs ≠ []->G p.b/\∀ (k:Nat) (h:k<qs.length),∃ v',w.cell? ⟨p.b,p.o+k,none⟩=some v'/\FRow G w qs[k] v') /\
   ∀ x ∈ sp,G p.b/\∃ v',w.cell? ⟨p.b,p.o+x.1,none⟩=some v'/\gJ n V x.2 v'
structure Sim (G:Nat->Prop) (w0:World) (V:Rho) (U:Heap) (w:World):Prop where
 os:w.os=w0.os
 tape:w.tape=w0.tape
 output:w.output=w0.output
 size:w0.heap.size<=w.heap.size
 fgn:∀ b,G b->b<w0.heap.size/\w.heap[b]?=w0.heap[b]?
 obj:∀ i o,U[i]?=some o->L8 G U.length V w (V i) o
 inj:∀ i j oi oj,U[i]?=some oi->U[j]?=some oj->oi.owned->oj.owned->(V i).b=(V j).b->i=j
def fen (V:Rho):Option Nat->Fence
 |none=>Fence.wide
 |some l=>Fence.wide.inRound (V l).b
def abI (n0:Nat) (ρ0:Rho):List Deferred:=(List.range (ρ0 n0).b).map fun j=>{ target:=.collected (ρ0 (n0+1+j)).b,args:=#[] }
def xC (n:Nat) (V:Rho) (T:List Nat):Rho:=fun i=>if i<n then V i else if i=n then ⟨T.length,0,0⟩ else ⟨T.getD (i - (n+1)) 0,0,0⟩
theorem uO {n i:Nat} {V:Rho} {T:List Nat} (h:i<n):xC n V T i=V i:=by simp [xC,h]
theorem Ce (n:Nat) (V:Rho) (T:List Nat):abI n (xC n V T)=T.map fun b=>{ target:=.collected b,args:=#[] }:=by
 have h0:(xC n V T n).b=T.length:=by simp [xC]
 unfold abI
 rw [h0]
 apply List.ext_getElem
 ·simp
 ·intro i h1 h2
  have hi:i<T.length:=by simpa using h1
  simp only [cQ,List.getElem_range]
  simp only [xC]
  rw [if_neg oO,if_neg oO,show n+1+i - (n+1)=i by omega,cE,cA hi,Option.getD_some]
structure Ip (T:List Deferred) (n:Nat) (V:Rho) (N:Nat) (e:Env) (mk:List Nat) (A:Act):Prop where
 tmps:Fa n V N e A.tmps
 mks:A.defers=(mk.map fun i=>{ target:=.collected (V i).b,args:=#[] })++T
 mkb:∀ i ∈ mk,i<n
def Inv (n0 N:Nat) (G:Nat->Prop) (w0:World) (ρ0:Rho) (e:Env) (mk:List Nat) (U:Heap) (A:Act) (w:World):Prop :=
 n0<=U.length/\∃ V:Rho,(∀ i<n0,V i=ρ0 i)/\Sim G w0 V U w/\Ip (abI n0 ρ0) U.length V N e mk A
abbrev Post:=Exit->Env->List Nat->Heap->Prop
def bJ (P:Program) (n0 N:Nat) (rd:Option Nat) (c:Code) (Q:Post) (e:Env) (mk:List Nat) (U:Heap):Prop :=
 ∀ G w0 ρ0 A w,Inv n0 N G w0 ρ0 e mk U A w ->
  c.wpIn (fen ρ0 rd) 0 P (fun ex A' w'=>∃ e' mk' σ',Q ex e' mk' σ'/\Inv n0 N G w0 ρ0 e' mk' σ' A' w') A w
section
variable {P:Program} {n0 N:Nat} {rd:Option Nat} {Q Q':Post} {e:Env} {mk:List Nat} {U:Heap}
theorem bJ.mono {c:Code} (h:bJ P n0 N rd c Q e mk U) (hq:∀ ex e mk U,Q ex e mk U->Q' ex e mk U):bJ P n0 N rd c Q' e mk U :=
 fun G w0 ρ0 A w hi=>wpIn_mono (h G w0 ρ0 A w hi) fun _ _ _ ⟨e',a,σ',q,i⟩=>⟨e',a,σ',hq _ _ _ _ q,i⟩
theorem xE (h:Q .normal e mk U):bJ P n0 N rd .skip Q e mk U:=fun _ _ _ _ _ hi=>wpIn_skip ⟨_,_,_,h,hi⟩
theorem yN {id:Nat} (h:Q (.exit id) e mk U):bJ P n0 N rd (.exit id) Q e mk U:=fun _ _ _ _ _ hi=>wpIn_exit ⟨_,_,_,h,hi⟩
theorem DL (h:Q .ret e mk U):bJ P n0 N rd .ret Q e mk U:=fun _ _ _ _ _ hi=>wpIn_ret ⟨_,_,_,h,hi⟩
def fQ (K:Env->List Nat->Heap->Prop) (Q:Post):Post
 |.normal,e,mk,U=>K e mk U
 |ex,e,mk,U=>Q ex e mk U
theorem uq {x y:Code} (h:bJ P n0 N rd x (fQ (bJ P n0 N rd y Q) Q) e mk U):bJ P n0 N rd (.seq x y) Q e mk U:=by
 intro G w0 ρ0 A w hi
 refine wpIn_seq (wpIn_mono (h G w0 ρ0 A w hi) ?_)
 rintro ex A' w' ⟨e',a,σ',q,i⟩
 cases ex with
 |normal=>exact q G w0 ρ0 A' w' i
 |_=>exact ⟨e',a,σ',q,i⟩
def dK (id:Nat) (Q:Post):Post
 |.exit id',e,mk,U=>if id'=id then Q .normal e mk U else Q (.exit id') e mk U
 |ex,e,mk,U=>Q ex e mk U
theorem qg {id:Nat} {c:Code} (h:bJ P n0 N rd c (dK id Q) e mk U):bJ P n0 N rd (.block id c) Q e mk U:=by
 intro G w0 ρ0 A w hi
 refine wpIn_block (wpIn_mono (h G w0 ρ0 A w hi) ?_)
 rintro ex A' w' ⟨e',d,σ',q,i⟩
 cases ex with
 |exit id' =>
  simp only [Exit.inBlock,dK] at *
  split
  ·rename_i a;rw [if_pos a] at q;exact ⟨e',d,σ',q,i⟩
  ·rename_i a;rw [if_neg a] at q;exact ⟨e',d,σ',q,i⟩
 |_=>exact ⟨e',d,σ',q,i⟩
def aT (e:Env):Operand->Option Value
 |.tmp t=>Env.get e t
 |.const v=>bif plain v then some v else none
 |.func f=>some (.func (.func f) #[] #[])
 |.global _=>none
theorem qx {T:List Deferred} {n:Nat} {V:Rho} {A:Act} {x:Operand} {v:Value} (h:Ip T n V N e mk A) (hx:aT e x=some v):gJ n V v (A.eval x):=by
 cases x with
 |tmp t =>
  obtain ⟨v',h1,h2⟩:=h.tmps.2 t v hx
  simpa [Act.eval,h1] using h2
 |const u =>
  simp only [aT] at hx
  cases hp:plain u <;> simp [hp] at hx
  subst hx;exact bF u hp
 |func f=>simp only [aT,Option.some.injEq] at hx;subst hx;exact .func f #[] #[] #[] #[] rfl rfl (fun i h=>by simp at h) (fun i h=>by simp at h)
 |global g=>simp [aT] at hx
theorem Vz {c:Operand} {x y:Code} {b:Bool} (hc:aT e c=some (.bool b)) (h1:b=true->bJ P n0 N rd x Q e mk U) (h2:b=false->bJ P n0 N rd y Q e mk U) :
  bJ P n0 N rd (.cond c x y) Q e mk U:=by
 intro G w0 ρ0 A w hi
 obtain ⟨h0,V,ha,hs,he⟩:=hi
 have hv:=bH (qx he hc) rfl
 refine wpIn_cond (t:=b) hv ?_
 cases b
 ·exact h2 rfl G w0 ρ0 A w ⟨h0,V,ha,hs,he⟩
 ·exact h1 rfl G w0 ρ0 A w ⟨h0,V,ha,hs,he⟩
theorem VA {body:Code} (I:Nat->Env->List Nat->Heap->Prop) {m0:Nat} (h0:I m0 e mk U)
  (round:∀ m e mk U,I m e mk U->bJ P n0 N rd body (fQ (fun e' mk' σ'=>∃ m',m'<m/\I m' e' mk' σ') Q) e mk U):bJ P n0 N rd (.loop body) Q e mk U:=by
 classical
 intro G w0 ρ0 A w hi
 let R:Act->World->Nat->Prop:=fun A w m=>∃ e mk U,I m e mk U/\Inv n0 N G w0 ρ0 e mk U A w
 have a:∀ A w,(∃ m,R A w m)->∃ m,R A w m/\∀ m',R A w m'->m<=m':=by
  intro A w ⟨m,hm⟩
  induction m using Nat.strongRecOn with
  |_ m ih =>
   by_cases h:∃ m',m'<m/\R A w m'
   ·obtain ⟨m',h1,h2⟩:=h;exact ih m' h1 h2
   ·exact ⟨m,hm,fun m' g=>Nat.le_of_not_lt fun d=>h ⟨m',d,g⟩⟩
 let μ:Act->World->Nat:=fun A w=>if h:∃ m,R A w m then Classical.choose (a A w h) else 0
 have hμ:∀ A w m,R A w m->R A w (μ A w)/\μ A w<=m:=by
  intro A w m hm
  have h:∃ m,R A w m:=⟨m,hm⟩
  have hs:=Classical.choose_spec (a A w h)
  have e1:μ A w=Classical.choose (a A w h):=dif_pos h
  rw [e1];exact ⟨hs.1,hs.2 m hm⟩
 refine wpIn_loop (fun A w=>∃ m,R A w m) μ ⟨m0,e,mk,U,h0,hi⟩ ?_
 intro A w ⟨m,hm⟩
 obtain ⟨⟨e,mk,U,hI,c⟩,_⟩:=hμ A w m hm
 refine wpIn_mono (round _ e mk U hI G w0 ρ0 A w c) ?_
 rintro ex A' w' ⟨e',mk',σ',q,i⟩
 cases ex with
 |normal =>
  obtain ⟨m',d,f⟩:=q
  exact ⟨⟨m',e',mk',σ',f,i⟩,Nat.lt_of_le_of_lt (hμ A' w' m' ⟨e',mk',σ',f,i⟩).2 d⟩
 |_=>exact ⟨e',mk',σ',q,i⟩
end
theorem jA {a b:Nat} (h:¬ a=b):Nat.beq a b=false:=by
 cases hb:Nat.beq a b with
 |false=>rfl
 |true=>exact absurd (aM hb) h
section
variable {P:Program} {n0 N:Nat} {rd:Option Nat} {Q:Post} {e:Env} {mk:List Nat} {U:Heap}
def bY (P:Program) (rd:Option Nat) (op:Op) (ty:TypeId) (e:Env) (U:Heap) (v:Value) (σ':Heap):Prop :=
 ∀ o:Oper,o.op=op->o.type=ty->∀ G w0 V A w,(∀ l,rd=some l->l < U.length)->Sim G w0 V U w ->
  (∀ x ∈ op.operands,∀ u,aT e x=some u->gJ U.length V u (A.eval x))->∀ (next:Act->World->Prop) (Q':Exit->Act->World->Prop),
  (∀ ρ' v' w',gJ σ'.length ρ' v v'->U.length<=σ'.length->(∀ i < U.length,ρ' i=V i)->Sim G w0 ρ' σ' w'->next (A.put o.dst v') w') ->
  o.wpIn (fen V rd) 0 P A w next Q'
theorem lV (V:Rho) (rd:Option Nat) (f:FuncId):(fen V rd).fn f:=by cases rd <;> trivial
theorem A8 (V:Rho) (rd:Option Nat):(fen V rd).depth=none:=by cases rd <;> rfl
theorem lW {V ρ':Rho} {rd:Option Nat} (h:∀ l,rd=some l->ρ' l=V l):fen ρ' rd=fen V rd:=by
 cases rd with
 |none=>rfl
 |some l=>simp only [fen,h l rfl]
theorem dh {op:Op} {ty:TypeId} {v:Value} {σ':Heap} (hd:∀ c,op ≠ .defer c)
  (h:∀ (o:Oper),o.op=op->o.type=ty->∀ G w0 V (A:Act) w,Sim G w0 V U w->(∀ x ∈ op.operands,∀ u,aT e x=some u->gJ U.length V u (A.eval x)) ->
   ∃ ρ' v' w',((execOp A.eval o).run P w=.ok (.value v') w'\/((execOp A.eval o).run P w=.ok .skip w'/\v'=undef)) /\
    gJ σ'.length ρ' v v'/\U.length<=σ'.length/\(∀ i < U.length,ρ' i=V i)/\Sim G w0 ρ' σ' w'):bY P rd op ty e U v σ':=by
 intro o ho a G w0 V A w _ hs hx next Q' hn
 obtain ⟨ρ',v',w',hr,h1,h2,h3,h4⟩:=h o ho a G w0 V A w hs hx
 refine ⟨fun f _=>lV _ _ _,?_⟩
 rw [Oper.semAt_eq _ _ _ (by rw [ho];exact hd)]
 rcases hr with hr|⟨hr,rfl⟩
 ·rw [hr];exact hn ρ' v' w' h1 h2 h3 h4
 ·rw [hr];exact hn ρ' undef w' h1 h2 h3 h4
def wpL (F:Fence) (n:Nat) (P:Program) (ops:Array Oper) (Q:Exit->Act->World->Prop):List Oper->Act->World->Prop
 |[],a,w=>Q .normal a w
 |o::rest,a,w=>if Region.wanted o (yielded ops a.tmps) then o.wpIn F n P a w (wpL F n P ops Q rest) Q else wpL F n P ops Q rest (a.put o.dst undef) w
theorem Fb {F:Fence} (hF:∀ f,F.fn f) {n:Nat} {ops:Array Oper} {Q:Exit->Act->World->Prop}:∀ (rest:List Oper) (k:Nat) (a:Act) (w:World),
  (∀ j,rest[j]?=ops[k+j]?)->wpL F n P ops Q rest a w->wpOpsIn F n P ops Q (List.range' k rest.length) a w
 |[],_,_,_,_,h=>h
 |o::rest,k,a,w,hl,h=>by
  have h0:ops[k]?=some o:=by simpa using (hl 0).symm
  simp only [dE,List.range'_succ,wpOpsIn,h0]
  simp only [wpL] at h
  have c:∀ j,rest[j]?=ops[k+1+j]?:=fun j=>by have:=hl (j+1);simpa [cF,eW 1 j] using this
  split
  ·rename_i hw;rw [if_pos hw] at h
   exact Oper.wpIn_mono (fun a w h=>Fb hF rest (k+1) a w c h) h
  ·rename_i hw;rw [if_neg hw] at h
   exact ⟨fun f _=>hF f,Fb hF rest (k+1) _ _ c h⟩
def dA (P:Program) (n0 N:Nat) (rd:Option Nat) (all rest:List Oper) (K:Env->List Nat->Heap->Prop) (e:Env) (mk:List Nat) (U:Heap):Prop :=
 ∀ G w0 ρ0 A w,Inv n0 N G w0 ρ0 e mk U A w->∀ Q':Exit->Act->World->Prop,
  (∀ e' mk' σ' A' w',K e' mk' σ'->Inv n0 N G w0 ρ0 e' mk' σ' A' w'->Q' .normal A' w')->wpL (fen ρ0 rd) 0 P all.toArray Q' rest A w
theorem aG {id:Nat} {l:List Oper} (h:dA P n0 N rd l l (Q .normal) e mk U):bJ P n0 N rd (.region id l.toArray false) Q e mk U:=by
 intro G w0 ρ0 A w hi
 refine wpIn_region ?_
 rw [List.range_eq_range']
 have:=Fb (P:=P) (lV ρ0 rd) l 0 A w oS (h G w0 ρ0 A w hi (fun ex A' w'=>∃ e' a σ',Q ex e' a σ'/\Inv n0 N G w0 ρ0 e' a σ' A' w') fun e' a σ' A' w' hk c=>⟨e',a,σ',hk,c⟩)
 simpa using this
variable {all rest:List Oper} {K:Env->List Nat->Heap->Prop}
theorem kU (h:K e mk U):dA P n0 N rd all [] K e mk U:=fun _ _ _ _ _ hi _ hQ=>hQ _ _ _ _ _ h hi
theorem RP {n:Nat} {V:Rho} {d:Nat} {v v':Value} {tmps:Array Value} (h:Fa n V N e tmps) (hd:d<N) (hv:gJ n V v v'):Fa n V N ((d,v)::e) (tmps.setIfInBounds d v'):=by
 refine ⟨by rw [Array.size_setIfInBounds];exact h.1,fun t u hu=>?_⟩
 simp only [Env.get] at hu
 by_cases a:d=t
 ·subst a
  simp at hu;subst hu
  exact ⟨v',by rw [fp (by rw [h.1];exact hd)],hv⟩
 ·have:Nat.beq d t=false:=jA a
  rw [this] at hu
  obtain ⟨u',h1,h2⟩:=h.2 t u hu
  exact ⟨u',by rw [e8 a];exact h1,h2⟩
theorem xP {n m:Nat} {V ρ':Rho} {tmps:Array Value} (h:Fa n V N e tmps) (hn:n<=m) (hρ:∀ i<n,ρ' i=V i):Fa m ρ' N e tmps :=
 ⟨h.1,fun t v hv=>let ⟨v',h1,h2⟩:=h.2 t v hv;⟨v',h1,h2.mono hn hρ⟩⟩
theorem xQ {T:List Deferred} {n m:Nat} {V ρ':Rho} {A:Act} (h:Ip T n V N e mk A) (hn:n<=m) (hρ:∀ i<n,ρ' i=V i):Ip T m ρ' N e mk A :=
 ⟨xP h.tmps hn hρ,by rw [h.mks];congr 1;exact eI fun i hi=>by rw [hρ i (h.mkb i hi)],fun i hi=>fe (h.mkb i hi) hn⟩
theorem xR {T:List Deferred} {n:Nat} {V:Rho} {d:Nat} {v v':Value} {A:Act} (h:Ip T n V N e mk A) (hd:d<N) (hv:gJ n V v v'):Ip T n V N ((d,v)::e) mk (A.put (some d) v') :=
 ⟨RP h.tmps hd hv,h.mks,h.mkb⟩
def lJ (rd:Option Nat) (n0:Nat):Bool:=match rd with|none=>true|some l=>Nat.blt l n0
theorem lQ {n:Nat} (h:lJ rd n=true):∀ l,rd=some l->l<n:=by
 intro l hl;subst hl;simpa [lJ,bX] using h
theorem IL {o:Oper} {v:Value} {σ':Heap} (hrd:lJ rd n0=true) (h:bY P rd o.op o.type e U v σ') (hd:∀ d,o.dst=some d->d<N)
  (hw:∀ T n V A,Ip T n V N e mk A->Region.wanted o (yielded all.toArray A.tmps)=true)
  (k:dA P n0 N rd all rest K (match o.dst with|some d=>(d,v)::e|none=>e) mk σ'):dA P n0 N rd all (o::rest) K e mk U:=by
 intro G w0 ρ0 A w hi Q' hQ
 obtain ⟨h0,V,ha,hs,he⟩:=hi
 simp only [wpL]
 rw [if_pos (hw _ _ _ _ he)]
 have a:=lQ hrd
 rw [<- lW (rd:=rd) (ρ':=V) (V:=ρ0) fun l hl=>ha l (a l hl)]
 refine h o rfl rfl G w0 V A w (fun l hl=>fe (a l hl) h0) hs (fun x _ u hu=>qx he hu) _ _ ?_
 intro ρ' v' w' hv f hρ g
 rw [lW (rd:=rd) (ρ':=V) (V:=ρ0) fun l hl=>ha l (a l hl)]
 refine k G w0 ρ0 _ w' ⟨oO,ρ',fun i hi=>(hρ i oO).trans (ha i hi),g,?_⟩ Q' hQ
 have c:=xQ he f hρ
 cases hdst:o.dst with
 |none=>simpa [Act.put] using c
 |some d=>exact xR c (hd d hdst) hv
theorem st {d:Nat} {op:Op} {ty:TypeId} {pos:String} {after:Array Edge} {v:Value} {σ':Heap} (h:bY P rd op ty e U v σ') (hrd:lJ rd n0=true) (hd:Nat.blt d N=true)
  (k:dA P n0 N rd all rest K ((d,v)::e) mk σ'):dA P n0 N rd all (⟨some d,op,ty,pos,after,none⟩::rest) K e mk U :=
 IL hrd h (fun d' a=>by cases a;simpa [bX] using hd) (fun _ _ _ _ _=>rfl) k
theorem stN {op:Op} {ty:TypeId} {pos:String} {after:Array Edge} {v:Value} {σ':Heap} (h:bY P rd op ty e U v σ') (hrd:lJ rd n0=true)
  (k:dA P n0 N rd all rest K e mk σ'):dA P n0 N rd all (⟨none,op,ty,pos,after,none⟩::rest) K e mk U :=
 IL hrd h (fun d' a=>by cases a) (fun _ _ _ _ _=>rfl) k
def jM (all:List Oper) (e:Env) (j:Nat):Option Value :=
 match all[j]? with
 |some o=>match o.dst with|some t=>Env.get e t|none=>none
 |none=>none
theorem zQ {T:List Deferred} {n:Nat} {V:Rho} {A:Act} {j:Nat} {b:Bool} (h:Ip T n V N e mk A) (hg:jM all e j=some (.bool b)):yielded all.toArray A.tmps j=some b:=by
 unfold jM at hg
 unfold yielded
 simp only [bR]
 cases ho:all[j]? with
 |none=>simp [ho] at hg
 |some o =>
  simp only [ho] at hg
  cases hd:o.dst with
  |none=>simp [hd] at hg
  |some t =>
   simp only [hd] at hg
   obtain ⟨v',h1,h2⟩:=h.tmps.2 t _ hg
   rw [bH h2 rfl] at h1
   simp [hd,h1]
theorem stG {d:Nat} {op:Op} {ty:TypeId} {pos:String} {after:Array Edge} {v:Value} {σ':Heap} {j:Nat} {b want:Bool} (hg:jM all e j=some (.bool b)) (hb:b=want)
  (h:bY P rd op ty e U v σ') (hrd:lJ rd n0=true) (hd:Nat.blt d N=true)
  (k:dA P n0 N rd all rest K ((d,v)::e) mk σ'):dA P n0 N rd all (⟨some d,op,ty,pos,after,some (j,want)⟩::rest) K e mk U :=
 IL hrd h (fun d' a=>by cases a;simpa [bX] using hd) (fun T n V A he=>by simp only [Region.wanted,zQ he hg,hb];cases want <;> rfl) k
theorem stS {d:Nat} {op:Op} {ty:TypeId} {pos:String} {after:Array Edge} {j:Nat} {b want:Bool} (hg:jM all e j=some (.bool b)) (hb:b=!want) (hd:Nat.blt d N=true)
  (k:dA P n0 N rd all rest K ((d,undef)::e) mk U):dA P n0 N rd all (⟨some d,op,ty,pos,after,some (j,want)⟩::rest) K e mk U:=by
 intro G w0 ρ0 A w hi Q' hQ
 obtain ⟨h0,V,ha,hs,he⟩:=hi
 simp only [wpL]
 rw [if_neg (by simp only [Region.wanted,zQ he hg,hb];cases want <;> simp)]
 exact k G w0 ρ0 _ w ⟨h0,V,ha,hs,xR he (by simpa [bX] using hd) (bF undef rfl)⟩ Q' hQ
def eu (P:Program) (f:FuncId) (args:List Value) (U:Heap) (R:Value->Heap->Prop):Prop :=
 ∀ G w0 V (ar:Array Value) w,Sim G w0 V U w->lU U.length V args.toArray ar ->
  CallsIn Fence.wide 0 P f ar w (fun en w'=>∃ ρ' vr v σ',en=.returned vr/\R v σ'/\gJ σ'.length ρ' v vr/\U.length<=σ'.length/\(∀ i < U.length,ρ' i=V i)/\Sim G w0 ρ' σ' w')
def Ev (P:Program) (f:FuncId) (args:List Value) (U:Heap) (v:Value) (σ':Heap):Prop:=eu P f args U (fun v' s=>v'=v/\s=σ')
theorem eu.mono {f:FuncId} {args:List Value} {R R':Value->Heap->Prop} (h:eu P f args U R) (hr:∀ v s,R v s->R' v s):eu P f args U R' :=
 fun G w0 V ar w hs ha=>(h G w0 V ar w hs ha).mono fun _ _ ⟨ρ',vr,v,σ',h1,h2,h3⟩=>⟨ρ',vr,v,σ',h1,hr _ _ h2,h3⟩
def uy:Nat->List Value->Env
 |_,[]=>[]
 |k,v::l=>(k,v)::uy (k+1) l
theorem zS:∀ (l:List Value) (k t:Nat) (v:Value),Env.get (uy k l) t=some v->k<=t/\l[t - k]?=some v
 |[],_,_,_,h=>by simp [uy,Env.get] at h
 |u::l,k,t,v,h=>by
  simp only [uy,Env.get] at h
  by_cases a:k=t
  ·subst a;simp at h;subst h;simp
  ·have:Nat.beq k t=false:=jA a
   rw [this] at h
   obtain ⟨h1,h2⟩:=zS l (k+1) t v h
   refine ⟨oO,?_⟩
   rw [show t - k=(t - (k+1))+1 from by omega];simpa using h2
def Nq:List (Nat×Value)->Nat->Option Value
 |[],_=>none
 |(k,v)::r,o=>bif Nat.beq k o then some v else Nq r o
theorem Fe:∀ {sp:List (Nat×Value)} {o:Nat} {v:Value},Nq sp o=some v->(o,v) ∈ sp
 |[],_,_,h=>by cases h
 |(k,u)::r,o,v,h=>by
  unfold Nq at h
  cases hk:Nat.beq k o with
  |true=>rw [hk] at h;simp only [cond_true,Option.some.injEq] at h;subst h;rw [aM hk];exact fu ..
  |false=>rw [hk] at h;exact dm _ (Fe h)
def aK (U:Heap) (b o n:Nat):Option (List Value) :=
 match U[b]? with
 |some (.ro cs)=>bif Nat.ble (o+n) cs.length then some ((cs.drop o).take n) else none
 |some (.rw cs)=>bif Nat.ble (o+n) cs.length then some ((cs.drop o).take n) else none
 |some (.gr cs _)=>bif Nat.ble (o+n) cs.length then some ((cs.drop o).take n) else none
 |some (.deep _ sp)=>bif Nat.beq n 1 then (Nq sp o).map (fun v=>[v]) else none
 |_=>none
end
def upd (V:Rho) (n:Nat) (b:Nat) (s:Nat:=0):Rho:=fun i=>if i=n then ⟨b,0,s⟩ else V i
theorem iT {V:Rho} {n b s i:Nat} (h:i<n):upd V n b s i=V i:=by simp [upd,Nat.ne_of_lt h]
theorem oh {V:Rho} {n b s:Nat}:upd V n b s n=⟨b,0,s⟩:=by simp [upd]
theorem yO {w w':World} {a:Addr} (h:w'.heap[a.block]?=w.heap[a.block]?):w'.cell? a=w.cell? a:=by simp only [World.cell?,h]
theorem block_lt {w:World} {b:Nat} {o:Obj} (h:w.heap[b]?=some o):b<w.heap.size:=(Array.getElem?_eq_some_iff.1 h).1
theorem lX {w w':World} {a:Addr} {v:Value} (h:w.cell? a=some v) (hh:∀ x,w.heap[a.block]?=some x->w'.heap[a.block]?=some x):w'.cell? a=some v:=by
 rw [<- h]
 cases hp:w.heap[a.block]? with
 |none=>simp [World.cell?,hp] at h
 |some x=>exact yO (by rw [hp];exact hh x hp)
theorem qy {G G':Nat->Prop} {w w':World} {q:List Value} {v':Value} (h:FRow G w q v') (hGG:∀ b,G b->G' b) (hG:∀ b,G b->∀ x,w.heap[b]?=some x->w'.heap[b]?=some x):FRow G' w' q v':=by
 obtain ⟨a,c,h1,h2,h3⟩:=h
 refine ⟨a,c,h1,h2,fun hq=>?_⟩
 obtain ⟨b,o,h4,h5,h6⟩:=h3 hq
 exact ⟨b,o,h4,hGG b h5,fun k hk=>lX (h6 k hk) (hG b h5)⟩
theorem nP {G:Nat->Prop} {n m:Nat} {V ρ':Rho} {w w':World} {p:Pl} {o:aC} (h:L8 G n V w p o) (hn:n<=m) (hρ:∀ i<n,ρ' i=V i)
  (hh:∀ x,w.heap[p.b]?=some x->w'.heap[p.b]?=some x) (hit:∀ k seen,o=.iter k seen->∀ x,w.heap[(V k).b]?=some x->w'.heap[(V k).b]?=some x) (hG:∀ b,G b->∀ x,w.heap[b]?=some x->w'.heap[b]?=some x):L8 G m ρ' w' p o:=by
 cases o with
 |dead=>trivial
 |ro cs =>
  intro hc
  obtain ⟨h1,h2⟩:=h hc
  refine ⟨h1,fun k hk=>?_⟩
  obtain ⟨v',h3,h4⟩:=h2 k hk
  refine ⟨v',?_,h4.mono hn hρ⟩
  rw [<- h3]
  cases hp:w.heap[p.b]? with
  |none=>simp [World.cell?,hp] at h3
  |some x=>exact yO (by rw [hp];exact hh x hp)
 |rw cs =>
  intro hc
  obtain ⟨h1,h2,rc,t,h3,h4,h5⟩:=h hc
  exact ⟨h1,h2,rc,t,hh _ h3,h4,fun k hk d=>(h5 k hk d).mono hn hρ⟩
 |gr cs e =>
  intro hc
  obtain ⟨h1,h2,rc,h3,f,h4,h5⟩:=h hc
  exact ⟨h1,h2,rc,hh _ h3,f,h4,fun k hk d=>(h5 k hk d).mono hn hρ⟩
 |dfr=>exact ⟨h.1,hh _ h.2⟩
 |loop st pend N e params assign body =>
  obtain ⟨h1,r,h2,h3,h4,h5,h6,h7,h8⟩:=h
  exact ⟨h1,r,hh _ h2,h3,h4,h5,h6,h7,xP h8 hn hρ⟩
 |map es =>
  obtain ⟨h1,ents,a,h2,h3,h4,h5⟩:=h
  exact ⟨h1,ents,a,hh _ h2,h3,fun i hi c=>⟨(h4 i hi c).1,(h4 i hi c).2.1,(h4 i hi c).2.2.1.mono hn hρ,(h4 i hi c).2.2.2⟩,h5⟩
 |iter k seen =>
  obtain ⟨h1,h2,ents,a,sb,h3,h4,h5⟩:=h
  refine ⟨h1,oO,ents,a,sb,?_,?_,h5⟩
  ·rw [hρ k h2];exact hh _ h3
  ·rw [hρ k h2];exact hit k seen rfl _ h4
 |deep qs sp =>
  refine ⟨fun hq=>?_,fun x hx=>?_⟩
  ·obtain ⟨h1,h2⟩:=h.1 hq
   refine ⟨h1,fun k hk=>?_⟩
   obtain ⟨v',h3,h4⟩:=h2 k hk
   exact ⟨v',lX h3 hh,qy h4 (fun _ hb=>hb) hG⟩
  ·obtain ⟨h1,v',h3,h4⟩:=h.2 x hx
   exact ⟨h1,v',lX h3 hh,h4.mono hn hρ⟩
theorem fH {G:Nat->Prop} {n:Nat} {V:Rho} {w:World} {p:Pl} {o:aC} (h:L8 G n V w p o) (ho:o.owned):p.b<w.heap.size/\¬ G p.b:=by
 cases o with
 |dead=>exact ho.elim
 |ro cs=>exact ho.elim
 |rw cs=>obtain ⟨h1,h2,rc,t,h3,_⟩:=h ho;exact ⟨block_lt h3,h1⟩
 |gr cs e=>obtain ⟨h1,h2,rc,h3,_⟩:=h ho;exact ⟨block_lt h3,h1⟩
 |dfr=>exact ⟨block_lt h.2,h.1⟩
 |loop st pend N e params assign body=>obtain ⟨h1,r,h2,_⟩:=h;exact ⟨block_lt h2,h1⟩
 |map es=>obtain ⟨h1,ents,a,h2,_⟩:=h;exact ⟨block_lt h2,h1⟩
 |iter k seen=>obtain ⟨h1,_,ents,a,sb,h3,_⟩:=h;exact ⟨block_lt h3,h1⟩
 |deep qs sp=>exact ho.elim
theorem nG {w:World} {o x:Obj} {b:Nat} (h:w.heap[b]?=some x):(w.alloc o).heap[b]?=some x:=by
 show (w.heap.push o)[b]?=some x
 rw [Array.getElem?_push,if_neg (by have:=block_lt h;omega)];exact h
theorem iC (w:World) (o:Obj):(w.alloc o).heap[w.heap.size]?=some o:=by
 show (w.heap.push o)[w.heap.size]?=_
 simp
theorem getElem?_snoc {U:Heap} {o x:aC} {i:Nat} (h:(U++[o])[i]?=some x):U[i]?=some x\/(i=U.length/\x=o):=by
 by_cases hi:i < U.length
 ·left;rwa [bO hi] at h
 ·right
  rw [bE oO] at h
  by_cases h2:i - U.length=0
  ·rw [h2] at h;simp at h;exact ⟨oO,h.symm⟩
  ·rw [di (by simp;omega)] at h;simp at h
theorem aS {U:Heap} {o:aC} {i:Nat} (h:U[i]?=some o):i < U.length:=(List.getElem?_eq_some_iff.1 h).1
theorem kW {G:Nat->Prop} {w0 w:World} {V:Rho} {U:Heap} (h:Sim G w0 V U w) (O:Obj) (o:aC) (s:Nat:=0)
  (ho:L8 G (U.length+1) (upd V U.length w.heap.size s) (w.alloc O) ⟨w.heap.size,0,s⟩ o):Sim G w0 (upd V U.length w.heap.size s) (U++[o]) (w.alloc O) where
 os:=h.os
 tape:=h.tape
 output:=h.output
 size:=by have:=h.size;simp;omega
 fgn b hb:=by
  obtain ⟨h1,h2⟩:=h.fgn b hb
  refine ⟨h1,?_⟩
  rw [<- h2]
  have a:b<w.heap.size:=by have:=h.size;omega
  exact nG (fx a) |>.trans (fx a).symm
 obj i x hx:=by
  rw [bA]
  rcases getElem?_snoc hx with hx|⟨rfl,rfl⟩
  ·rw [iT (aS hx)]
   exact nP (h.obj i x hx) oS (fun j hj=>iT hj) (fun _ hy=>nG hy) (fun _ _ _ _ hy=>nG hy) (fun _ _ _ hy=>nG hy)
  ·rw [oh];exact ho
 inj i j oi oj hi hj hoi hoj hij:=by
  rcases getElem?_snoc hi with gi|⟨rfl,rfl⟩ <;> rcases getElem?_snoc hj with gj|⟨rfl,rfl⟩
  ·rw [iT (aS gi),iT (aS gj)] at hij
   exact h.inj i j oi oj gi gj hoi hoj hij
  ·rw [iT (aS gi),oh] at hij
   have:=(fH (h.obj i oi gi) hoi).1
   simp at hij;omega
  ·rw [iT (aS gj),oh] at hij
   have:=(fH (h.obj j oj gj) hoj).1
   simp at hij;omega
  ·rfl
theorem DN {G:Nat->Prop} {w0 w:World} {V:Rho} {U:Heap} (h:Sim G w0 V U w):Sim G w0 V U w.drew:=⟨h.os,h.tape,h.output,h.size,h.fgn,h.obj,h.inj⟩
structure Chg (w w':World) (B:Nat):Prop where
 os:w'.os=w.os
 tape:w'.tape=w.tape
 output:w'.output=w.output
 size:w'.heap.size=w.heap.size
 block:∀ b,b ≠ B->w'.heap[b]?=w.heap[b]?
theorem Ci (w:World) (g:Nat) (cs:Array Value):Chg w (w.setRow g cs) g :=
 ⟨rfl,rfl,rfl,by simp [World.setRow],fun b hb=>by simp [World.setRow,Array.getElem?_modify,Ne.symm hb]⟩
theorem rQ (w:World) (g:Nat) (o:Obj):Chg w { w with heap:=w.heap.setIfInBounds g o } g :=
 ⟨rfl,rfl,rfl,by simp,fun b hb=>by simp [Ne.symm hb]⟩
theorem getElem?_set' {U:Heap} {o x:aC} {i j:Nat} (h:(U.set i o)[j]?=some x):(j=i/\x=o)\/(j ≠ i/\U[j]?=some x):=by
 by_cases hj:j=i
 ·subst hj
  left
  have a:j < U.length:=by simpa using (List.getElem?_eq_some_iff.1 h).1
  rw [List.getElem?_set_self a] at h;simp at h;exact ⟨rfl,h.symm⟩
 ·right;rw [eE (Ne.symm hj)] at h;exact ⟨hj,h⟩
theorem wH {G:Nat->Prop} {w0 w w':World} {V:Rho} {U:Heap} (h:Sim G w0 V U w) {i:Nat} {oi o:aC} (hi:U[i]?=some oi) (hoi:oi.owned) (hc:Chg w w' (V i).b)
  (ho:L8 G U.length V w' (V i) o) (hit:∀ j k seen,U[j]?=some (.iter k seen)->(V k).b ≠ (V i).b\/j=i):Sim G w0 V (U.set i o) w' where
 os:=hc.os.trans h.os
 tape:=hc.tape.trans h.tape
 output:=hc.output.trans h.output
 size:=by rw [hc.size];exact h.size
 fgn b hb:=by
  obtain ⟨h1,h2⟩:=h.fgn b hb
  have:b ≠ (V i).b:=fun d=>(fH (h.obj i oi hi) hoi).2 (d ▸ hb)
  exact ⟨h1,(hc.block b this).trans h2⟩
 obj j x hx:=by
  rw [dk]
  rcases getElem?_set' hx with ⟨rfl,rfl⟩|⟨n,hx⟩
  ·exact ho
  ·have c:=h.obj j x hx
   by_cases a:x.owned
   ·have g:(V j).b ≠ (V i).b:=fun d=>n (h.inj j i x oi hx hi a hoi d)
    refine nP c (aD _) (fun _ _=>rfl) (fun y hy=>by rw [hc.block _ g];exact hy) (fun k seen hk y hy=>?_) (fun b hb y hy=>by rw [hc.block b (fun d=>(fH (h.obj i oi hi) hoi).2 (d ▸ hb))];exact hy)
    subst hk
    rcases hit j k seen hx with m|hj
    ·rw [hc.block _ m];exact hy
    ·exact absurd hj n
   ·cases x with
    |dead=>trivial
    |ro cs =>
     intro l
     obtain ⟨h1,h2⟩:=c l
     have g:(V j).b ≠ (V i).b:=fun d=>(fH (h.obj i oi hi) hoi).2 (d ▸ h1)
     refine ⟨h1,fun k hk=>?_⟩
     obtain ⟨v',h3,h4⟩:=h2 k hk
     exact ⟨v',by rw [<- h3];exact yO (hc.block _ g),h4⟩
    |rw cs=>intro l;exact absurd l a
    |gr cs e=>intro l;exact absurd l a
    |deep qs sp =>
     have f:∀ b,G b->∀ y,w.heap[b]?=some y->w'.heap[b]?=some y:=fun b hb y hy=>by rw [hc.block b (fun d=>(fH (h.obj i oi hi) hoi).2 (d ▸ hb))];exact hy
     refine ⟨fun hq=>?_,fun y hy=>?_⟩
     ·obtain ⟨h1,h2⟩:=c.1 hq
      refine ⟨h1,fun k hk=>?_⟩
      obtain ⟨v',h3,h4⟩:=h2 k hk
      exact ⟨v',lX h3 (f _ h1),qy h4 (fun _ hb=>hb) f⟩
     ·obtain ⟨h1,v',h3,h4⟩:=c.2 y hy
      exact ⟨h1,v',lX h3 (f _ h1),h4⟩
    |_=>exact absurd trivial a
 inj j k oj ok hj hk hoj hok hjk:=by
  rcases getElem?_set' hj with ⟨rfl,rfl⟩|⟨n,gj⟩ <;> rcases getElem?_set' hk with ⟨rfl,rfl⟩|⟨hne',gk⟩
  ·rfl
  ·exact h.inj _ _ oi ok hi gk hoi hok hjk
  ·exact h.inj _ _ oj oi gj hi hoj hoi hjk
  ·exact h.inj _ _ oj ok gj gk hoj hok hjk
theorem Jq {G:Nat->Prop} {w0 w:World} {V:Rho} {U:Heap} (h:Sim G w0 V U w) (i:Nat):Sim G w0 V (U.set i .dead) w where
 os:=h.os
 tape:=h.tape
 output:=h.output
 size:=h.size
 fgn:=h.fgn
 obj j x hx:=by
  rw [dk]
  rcases getElem?_set' hx with ⟨rfl,rfl⟩|⟨_,hx⟩
  ·trivial
  ·exact h.obj j x hx
 inj j k oj ok hj hk hoj hok hjk:=by
  rcases getElem?_set' hj with ⟨rfl,rfl⟩|⟨_,hj⟩
  ·exact hoj.elim
  rcases getElem?_set' hk with ⟨rfl,rfl⟩|⟨_,hk⟩
  ·exact hok.elim
  exact h.inj _ _ oj ok hj hk hoj hok hjk
theorem kG {G:Nat->Prop} {w0 w:World} {V:Rho} {U:Heap} (h:Sim G w0 V U w) {b o n:Nat} {cs:List Value} (hc:aK U b o n=some cs) :
  cs.length=n/\∀ (k:Nat) (hk:k<cs.length),∃ v',w.cell? ⟨(V b).b,(V b).o+o+k,none⟩=some v'/\gJ U.length V cs[k] v':=by
 unfold aK at hc
 cases hb:U[b]? with
 |none=>simp [hb] at hc
 |some x =>
  rw [hb] at hc
  have c:=h.obj b x hb
  cases x with
  |ro l =>
   simp only at hc
   cases hle:Nat.ble (o+n) l.length <;> simp [hle] at hc
   have a:o+n<=l.length:=cC hle
   subst hc
   refine ⟨by simp;omega,fun k hk=>?_⟩
   have d:k<n:=by simp at hk;omega
   obtain ⟨_,h2⟩:=c (fun hl=>by subst hl;simp at a;omega)
   obtain ⟨v',h3,h4⟩:=h2 (o+k) oO
   exact ⟨v',by rw [cF];exact h3,by simpa using h4⟩
  |rw l =>
   simp only at hc
   cases hle:Nat.ble (o+n) l.length <;> simp [hle] at hc
   have a:o+n<=l.length:=cC hle
   subst hc
   refine ⟨by simp;omega,fun k hk=>?_⟩
   have d:k<n:=by simp at hk;omega
   obtain ⟨_,h2,rc,t,h3,h4,h5⟩:=c (fun hl=>by subst hl;simp at a;omega)
   refine ⟨rc[o+k],?_,by simpa using h5 (o+k) oO oO⟩
   simp [World.cell?,h3,h2,show o+k<rc.size from by omega]
  |gr l e =>
   simp only at hc
   cases hle:Nat.ble (o+n) l.length <;> simp [hle] at hc
   have a:o+n<=l.length:=cC hle
   subst hc
   refine ⟨by simp;omega,fun k hk=>?_⟩
   have d:k<n:=by simp at hk;omega
   obtain ⟨_,h2,rc,h3,h3',h4,h5⟩:=c (fun hl=>by subst hl;simp at a;omega)
   refine ⟨rc[o+k],?_,by simpa using h5 (o+k) oO oO⟩
   simp [World.cell?,h3,h2,show o+k<rc.size from by omega]
  |deep qs sp =>
   simp only at hc
   cases hn:Nat.beq n 1 with
   |false=>simp [hn] at hc
   |true =>
    simp only [hn,cond_true,fz] at hc
    obtain ⟨v,hv,rfl⟩:=hc
    obtain rfl:=aM hn
    refine ⟨rfl,fun k hk=>?_⟩
    obtain rfl:k=0:=by simpa using hk
    obtain ⟨_,v',h3,h4⟩:=c.2 _ (Fe hv)
    exact ⟨v',by simpa using h3,by simpa using h4⟩
  |_=>simp at hc
theorem addr_add (b o k:Nat):(⟨b,o,none⟩:Addr).add k=⟨b,o+k,none⟩:=by
 unfold Addr.add;split <;> simp_all
theorem Nr {P:Program} {G:Nat->Prop} {w0 w:World} {V:Rho} {U:Heap} (h:Sim G w0 V U w) {b o n:Nat} {cs:List Value} (hc:aK U b o n=some cs) :
  ∃ rs:List Value,(loadCells ⟨(V b).b,(V b).o+o,none⟩ n).run P w=.ok rs.toArray w/\rs.length=n/\lU U.length V cs.toArray rs.toArray:=by
 obtain ⟨hl,hk⟩:=kG h hc
 have:∀ (m:Nat),m<=cs.length->∃ rs:List Value,rs.length=m/\∀ (k:Nat) (h1:k<rs.length) (h2:k<cs.length),w.cell? ⟨(V b).b,(V b).o+o+k,none⟩=some rs[k]/\gJ U.length V cs[k] rs[k]:=by
  intro m
  induction m with
  |zero=>exact fun _=>⟨[],rfl,fun k h1=>by simp at h1⟩
  |succ m ih =>
   intro hm
   obtain ⟨rs,h1,h2⟩:=ih oO
   obtain ⟨v',h3,h4⟩:=hk m oO
   refine ⟨rs++[v'],by simp [h1],fun k f c=>?_⟩
   by_cases a:k<rs.length
   ·rw [eQ a];exact h2 k a c
   ·have:k=m:=by simp at f;omega
    subst this
    rw [eO oO]
    simp only [h1,cM,dz]
    exact ⟨h3,h4⟩
 obtain ⟨rs,h1,h2⟩:=this cs.length (aD _)
 refine ⟨rs,?_,oO,by simp [h1],fun i hi d=>?_⟩
 ·rw [show n=rs.length from by omega]
  refine run_loadCells_list w _ rs fun j v hj=>?_
  obtain ⟨e,rfl⟩:=List.getElem?_eq_some_iff.1 hj
  rw [addr_add]
  exact (h2 j e oO).1
 ·simpa using (h2 i (oU d) (oU hi)).2
def Yj:TypeDesc->Bool
 |.struct _|.array _ _=>true
 |_=>false
def RQ (P:Program) (t:TypeId):Option (Nat×Bool×Value×Nat) :=
 match P.info? t,P.underlying t with
 |some i,some d=>match i.zero with|some z=>some (i.size,Yj d,z,i.bytes)|none=>none
 |_,_=>none
class Ty (P:Program) (t:TypeId) (size:outParam Nat) (agg:outParam Bool) (z:outParam Value) (bytes:outParam Nat):Prop where
 h:RQ P t=some (size,agg,z,bytes)
def DR (P:Program) (s:TypeId) (f:Nat):Option (Nat×TypeId) :=
 match P.underlying s with
 |some (.struct fs)=>match fs[f]? with|some x=>some (x.offset,x.type)|none=>none
 |_=>none
class Fld (P:Program) (s:TypeId) (f:Nat) (off:outParam Nat) (t:outParam TypeId):Prop where
 h:DR P s f=some (off,t)
def ae1 (P:Program) (t:TypeId):Option TypeId:=match P.underlying t with|some (.slice e)=>some e|_=>none
class Sl (P:Program) (t:TypeId) (e:outParam TypeId):Prop where
 h:ae1 P t=some e
def ae2 (P:Program) (t:TypeId):Option (Nat×TypeId):=match P.underlying t with|some (.array n e)=>some (n,e)|_=>none
class Ar (P:Program) (t:TypeId) (n:outParam Nat) (e:outParam TypeId):Prop where
 h:ae2 P t=some (n,e)
def O9 (P:Program) (t:TypeId):Option IntKind:=match P.underlying t with|some (.int k)=>some k|_=>none
class Ik (P:Program) (t:TypeId) (k:outParam IntKind):Prop where
 h:O9 P t=some k
section types
variable {P:Program} {t s e:TypeId} {size bytes n off:Nat} {agg:Bool} {z:Value} {w:World} {k:IntKind}
theorem Ty.info (h:Ty P t size agg z bytes):∃ i,P.info? t=some i/\i.size=size/\i.zero=some z/\i.bytes=bytes:=by
 have:=h.h
 unfold RQ at this
 cases hi:P.info? t <;> simp [hi] at this
 rename_i i
 cases hu:P.underlying t <;> simp [hu] at this
 cases hz:i.zero <;> simp [hz] at this
 exact ⟨i,rfl,this.1,by rw [hz,this.2.2.1],this.2.2.2⟩
theorem Ty.und (h:Ty P t size agg z bytes):∃ d,P.underlying t=some d/\Yj d=agg:=by
 have:=h.h
 unfold RQ at this
 cases hi:P.info? t <;> simp [hi] at this
 rename_i i
 cases hu:P.underlying t <;> simp [hu] at this
 cases hz:i.zero <;> simp [hz] at this
 exact ⟨_,rfl,this.2.1⟩
theorem lS {d:TypeDesc} (h:P.underlying t=some d):(underlying t).run P w=.ok d w:=by simp [underlying,h]
theorem Ty.sizeOf (h:Ty P t size agg z bytes):(sizeOf t).run P w=.ok size w:=by
 obtain ⟨i,h1,h2,_⟩:=h.info
 simp [Go.sizeOf,typeInfo,h1,h2]
theorem Ty.zeroV (h:Ty P t size agg z bytes):(zeroValue t).run P w=.ok z w:=by
 obtain ⟨i,h1,h2,h3,_⟩:=h.info
 simp [zeroValue,typeInfo,h1,h3]
theorem Ty.isAgg (h:Ty P t size agg z bytes):(isAgg t).run P w=.ok agg w:=by
 obtain ⟨d,h1,h2⟩:=h.und
 subst h2
 unfold Go.isAgg
 rw [Sem.run_bind,lS h1]
 cases d <;> rfl
theorem Fld.und (h:Fld P s n off t):∃ fs x,P.underlying s=some (.struct fs)/\fs[n]?=some x/\x.offset=off/\x.type=t:=by
 have:=h.h
 unfold DR at this
 cases hu:P.underlying s with
 |none=>simp [hu] at this
 |some d =>
  cases d with
  |struct fs =>
   cases hx:fs[n]? with
   |none=>simp [hu,hx] at this
   |some y=>simp [hu,hx] at this;exact ⟨fs,y,rfl,hx,this.1,this.2⟩
  |_=>simp [hu] at this
theorem Sl.und (h:Sl P t e):P.underlying t=some (.slice e):=by
 have:=h.h
 unfold ae1 at this
 split at this <;> simp at this
 subst this;assumption
theorem Ar.und (h:Ar P t n e):P.underlying t=some (.array n e):=by
 have:=h.h
 unfold ae2 at this
 split at this <;> simp at this
 obtain ⟨rfl,rfl⟩:=this;assumption
theorem Ik.und (h:Ik P t k):P.underlying t=some (.int k):=by
 have:=h.h
 unfold O9 at this
 split at this <;> simp at this
 subst this;assumption
end types
def dM:Value->List Value
 |.agg cs=>cs.toList
 |v=>[v]
theorem kJ {n:Nat} {V:Rho} {v v':Value} (h:gJ n V v v'):lU n V (dM v).toArray v'.cells:=by
 have one:∀ {u u':Value},gJ n V u u'->lU n V #[u] #[u']:=fun hu=>⟨rfl,fun i hi _=>by
  have:i=0:=by simp at hi;exact hi
  subst this;simpa using hu⟩
 cases h with
 |agg a a' h1 h3=>exact ⟨by simpa [dM,Value.cells] using h1,fun i hi d=>h3 i (by simpa [dM] using hi) d⟩
 |bool b=>exact one (.bool b)
 |int k x=>exact one (.int k x)
 |string s=>exact one (.string s)
 |nilPtr=>exact one .nilPtr
 |ptr i o hi=>exact one (.ptr i o hi)
 |nilSlice=>exact one .nilSlice
 |zslice a hq=>exact one (.zslice a hq)
 |zsliceZ hq=>simp at hq
 |emptySlice i o a c=>exact one (.emptySlice i o a c)
 |slice i o l c c' h hi=>exact one (.slice i o l c c' h hi)
 |gslice i o l c c' sz h hs hi hq=>exact one (.gslice i o l c c' sz h hs hi hq)
 |sliceG i o l c c' sz h hi hq=>exact one (.sliceG i o l c c' sz h hi hq)
 |gsliceG i o l c c' sz h hi hq=>exact one (.gsliceG i o l c c' sz h hi hq)
 |nilMap=>exact one .nilMap
 |map i hi=>exact one (.map i hi)
 |stamp i hi hq=>exact one (.stamp i hi hq)
 |stampG i hi hq=>simp at hq
 |nilFunc=>exact one .nilFunc
 |func f a a' b b' h1 h2 h3 h4=>exact one (.func f a a' b b' h1 h2 h3 h4)
 |yield l hi=>exact one (.yield l hi)
 |nilIface=>exact one .nilIface
 |iface t v v' h=>exact one (.iface t v v' h)
 |tuple a a' h1 h3=>exact one (.tuple a a' h1 h3)
theorem RS {n:Nat} {V:Rho} {v v':Value} (h:gJ n V v v'):v'.oneCell'=v.oneCell':=by cases h <;> rfl
theorem xU {n m:Nat} {V ρ':Rho} {a a':Array Value} (h:lU n V a a') (hn:n<=m) (hρ:∀ i<n,ρ' i=V i):lU m ρ' a a' :=
 ⟨h.1,fun i hi c=>(h.2 i hi c).mono hn hρ⟩
section ops
variable {P:Program} {rd:Option Nat} {ty:TypeId} {e:Env} {U:Heap} {x y c a b:Operand} {v u:Value}
theorem dY (h:aT e x=some v):bY P rd (.move x) ty e U v U :=
 dh oS fun o ho _ G w0 V A w hs hx=>⟨V,A.eval x,w,.inl (by simp [execOp,ho]),hx x (by simp [Op.operands]) v h,aD _,fun _ _=>rfl,hs⟩
theorem jd (h:aT e x=some v):bY P rd (.assign x) ty e U v U :=
 dh oS fun o ho _ G w0 V A w hs hx=>⟨V,A.eval x,w,.inl (by simp [execOp,ho]),hx x (by simp [Op.operands]) v h,aD _,fun _ _=>rfl,hs⟩
theorem kC {t:Bool} (hc:aT e c=some (.bool t)) (ht:t=true) (ha:aT e a=some v):bY P rd (.pick c a b) ty e U v U :=
 dh oS fun o ho _ G w0 V A w hs hx=>⟨V,A.eval a,w,.inl (by
  have:=bH (hx c (by simp [Op.operands]) _ hc) rfl
  subst ht;simp [execOp,ho,this,asBool]),hx a (by simp [Op.operands]) v ha,aD _,fun _ _=>rfl,hs⟩
theorem je {t:Bool} (hc:aT e c=some (.bool t)) (ht:t=false) (hb:aT e b=some v):bY P rd (.pick c a b) ty e U v U :=
 dh oS fun o ho _ G w0 V A w hs hx=>⟨V,A.eval b,w,.inl (by
  have:=bH (hx c (by simp [Op.operands]) _ hc) rfl
  subst ht;simp [execOp,ho,this,asBool]),hx b (by simp [Op.operands]) v hb,aD _,fun _ _=>rfl,hs⟩
theorem kK {op:Op} (hd:∀ c,op ≠ .defer c) (hv:plain v=true)
  (h:∀ (o:Oper),o.op=op->o.type=ty->∀ A:Act,(∀ x ∈ op.operands,∀ u,aT e x=some u->plain u=true->A.eval x=u)->∀ w,(execOp A.eval o).run P w=.ok (.value v) w):bY P rd op ty e U v U :=
 dh hd fun o ho a _ _ V A w hs hx=>⟨V,v,w,.inl (h o ho a A (fun x hm u hu hp=>bH (hx x hm u hu) hp) w),bF v hv,aD _,fun _ _=>rfl,hs⟩
theorem Ba {t:TypeId} {p:Prop} [Decidable p] (h:aT e x=some (.bool (decide p))):bY P rd (.unOp .not t x) ty e U (.bool (decide ¬ p)) U :=
 kK oS rfl fun o ho _ A hA w=>by simp [execOp,ho,hA x (by simp [Op.operands]) _ h rfl,Op.unary]
theorem iV {t:TypeId} {q:Bool} (h:aT e x=some (.bool q)):bY P rd (.unOp .not t x) ty e U (.bool (!q)) U :=
 kK oS rfl fun o ho _ A hA w=>by simp [execOp,ho,hA x (by simp [Op.operands]) _ h rfl,Op.unary]
theorem Cj {t:TypeId} {k:IntKind} {m:Int} (h:aT e x=some (.int k m)):bY P rd (.unOp .neg t x) ty e U (.int k (k.wrap (0 - m))) U :=
 kK oS rfl fun o ho _ A hA w=>by simp [execOp,ho,hA x (by simp [Op.operands]) _ h rfl,Op.unary,Op.intArith]
def VB (op:BinOp) (k:IntKind) (m n:Int):Option Value :=
 match op with
 |.add=>some (.int k (k.wrap (m+n)))
 |.sub=>some (.int k (k.wrap (m - n)))
 |.mul=>some (.int k (k.wrap (m*n)))
 |.eql=>some (.bool (decide (m=n)))
 |.neq=>some (.bool (decide (m ≠ n)))
 |.lss=>some (.bool (decide (m<n)))
 |.leq=>some (.bool (decide (m<=n)))
 |.gtr=>some (.bool (decide (m > n)))
 |.geq=>some (.bool (decide (m>=n)))
 |_=>none
theorem VD {op:BinOp} {k:IntKind} {m n:Int} (h:VB op k m n=some v):plain v=true:=by
 unfold VB at h;split at h <;> simp at h <;> subst h <;> rfl
theorem RU {op:BinOp} {k:IntKind} {m n:Int} {t:TypeId} {w:World} (h:VB op k m n=some v):(binOp op t (.int k m) (.int k n)).run P w=.ok v w:=by
 unfold VB at h
 split at h <;> simp at h <;> subst h <;> simp [binOp,Op.intArith,Op.intCmp] <;> (first|rfl|(rw [Bool.eq_iff_iff];simp)|skip)
theorem iU {op:BinOp} {k:IntKind} {m n:Int} {t t':TypeId} (hx:aT e x=some (.int k m)) (hy:aT e y=some (.int k n)) (h:VB op k m n=some v) :
  bY P rd (.binOp op t x y t') ty e U v U :=
 kK oS (VD h) fun o ho _ A hA w=>by
  have h1:=hA x (by simp [Op.operands]) _ hx rfl
  have h2:=hA y (by simp [Op.operands]) _ hy rfl
  have h3:(eqGuard op t x y (.int k m) (.int k n)).run P w=.ok () w:=by unfold eqGuard;split <;> rfl
  simp [execOp,ho,h1,h2,h3,RU h]
theorem wrap64 {m:Int} (h1:-9223372036854775808<=m) (h2:m<=9223372036854775807):IntKind.i64.wrap m=m:=by
 simp only [IntKind.wrap_i64];omega
theorem uY {m n:Int} {t t':TypeId} (hx:aT e x=some (.int .i64 m)) (hy:aT e y=some (.int .i64 n)) (h1:-9223372036854775808<=m+n) (h2:m+n<=9223372036854775807) :
  bY P rd (.binOp .add t x y t') ty e U (.int .i64 (m+n)) U:=iU hx hy (by rw [<- wrap64 h1 h2];rfl)
theorem xG {m n:Int} {t t':TypeId} (hx:aT e x=some (.int .i64 m)) (hy:aT e y=some (.int .i64 n)) (h1:-9223372036854775808<=m - n) (h2:m - n<=9223372036854775807) :
  bY P rd (.binOp .sub t x y t') ty e U (.int .i64 (m - n)) U:=iU hx hy (by rw [<- wrap64 h1 h2];rfl)
theorem Cm {m n:Int} {t t':TypeId} (hx:aT e x=some (.int .i64 m)) (hy:aT e y=some (.int .i64 n)) (h1:-9223372036854775808<=m*n) (h2:m*n<=9223372036854775807) :
  bY P rd (.binOp .mul t x y t') ty e U (.int .i64 (m*n)) U:=iU hx hy (by rw [<- wrap64 h1 h2];rfl)
def bI (b:Bool):Int:=if b then 1 else 0
theorem ahz {a b:Bool} {t t':TypeId} (hx:aT e x=some (.int .i64 (bI a))) (hy:aT e y=some (.int .i64 (bI b))):bY P rd (.binOp .or t x y t') ty e U (.int .i64 (bI (a || b))) U :=
 kK oS rfl fun o ho _ A hA w=>by
  have h1:=hA x (by simp [Op.operands]) _ hx rfl
  have h2:=hA y (by simp [Op.operands]) _ hy rfl
  have h3:(eqGuard .or t x y (.int .i64 (bI a)) (.int .i64 (bI b))).run P w=.ok () w:=by unfold eqGuard;split <;> rfl
  have h4:(binOp .or t (.int .i64 (bI a)) (.int .i64 (bI b))).run P w=.ok (.int .i64 (bI (a || b))) w:=by clear h1 h2 h3 hx hy;cases a <;> cases b <;> rfl
  simp [execOp,ho,h1,h2,h3,h4]
theorem pI {m:Nat} {t t':TypeId} (hx:aT e x=some (.int .i64 (m:Nat))) (hy:aT e y=some (.int .i64 1)) (h2:(m:Int)+1<=9223372036854775807) :
  bY P rd (.binOp .add t x y t') ty e U (.int .i64 ((m+1:Nat):Int)) U:=by
 have:=uY (P:=P) (rd:=rd) (ty:=ty) (U:=U) (t:=t) (t':=t') hx hy oO h2
 rwa [show ((m+1:Nat):Int)=(m:Int)+1 from by omega]
theorem abJ {k:IntKind} {m n:Int} {t t':TypeId} (hx:aT e x=some (.int k m)) (hy:aT e y=some (.int k n)) (h:n ≠ 0) :
  bY P rd (.binOp .quo t x y t') ty e U (.int k (k.wrap (m.tdiv n))) U :=
 kK oS rfl fun o ho _ A hA w=>by
  have h1:=hA x (by simp [Op.operands]) _ hx rfl
  have h2:=hA y (by simp [Op.operands]) _ hy rfl
  have h3:(eqGuard .quo t x y (.int k m) (.int k n)).run P w=.ok () w:=rfl
  simp [execOp,ho,h1,h2,h3,binOp,Op.intDiv,h]
theorem abK {k:IntKind} {m n:Int} {t t':TypeId} (hx:aT e x=some (.int k m)) (hy:aT e y=some (.int k n)) (h:n ≠ 0) :
  bY P rd (.binOp .rem t x y t') ty e U (.int k (m.tmod n)) U :=
 kK oS rfl fun o ho _ A hA w=>by
  have h1:=hA x (by simp [Op.operands]) _ hx rfl
  have h2:=hA y (by simp [Op.operands]) _ hy rfl
  have h3:(eqGuard .rem t x y (.int k m) (.int k n)).run P w=.ok () w:=rfl
  simp [execOp,ho,h1,h2,h3,binOp,Op.intDiv,h]
theorem RV {k k':IntKind} {m:Int} {s d:TypeId} [hs:Ik P s k'] [hd:Ik P d k] (hx:aT e x=some (.int k' m)):bY P rd (.convert s d x) ty e U (.int k (k.wrap m)) U :=
 kK oS rfl fun o ho _ A hA w=>by
  have h1:=hA x (by simp [Op.operands]) _ hx rfl
  simp [execOp,ho,h1,convert,lS hs.und,lS hd.und,Conv.intToInt]
end ops
section ops
variable {P:Program} {rd:Option Nat} {ty:TypeId} {e:Env} {U:Heap} {x y a b:Operand} {v u:Value}
theorem ZG {n:Nat} {V:Rho} {G:Nat->Prop} {w:World} {p:Pl} {cs:List Value} {rc:Array Value} {t:TypeId} (hG:¬ G p.b) (hp:p.o=0)
  (hh:w.heap[p.b]?=some (.cells rc t (0,0))) (hr:lU n V cs.toArray rc):L8 G n V w p (.rw cs):=by
 intro _
 exact ⟨hG,hp,rc,t,hh,by have:=hr.1;simp at this;omega,fun k hk a=>hr.2 k (oU hk) a⟩
theorem Jr {G:Nat->Prop} {w0 w:World} {V:Rho} (h:Sim G w0 V U w) {cs:List Value} {rc:Array Value} (t:TypeId) (hr:lU U.length V cs.toArray rc) :
  Sim G w0 (upd V U.length w.heap.size) (U++[.rw cs]) (w.alloc (.cells rc t)) :=
 kW h _ _ 0 (ZG (fun hg=>by have h1:=(h.fgn _ hg).1;have:=h.size;simp only at h1;omega) rfl (iC w _) (xU hr oS fun i hi=>iT hi))
theorem Js {V:Rho} {n B s:Nat}:gJ (n+1) (upd V n B s) (.pointer (some ⟨n,0,none⟩)) (.pointer (some ⟨B,0,none⟩)):=by
 have:=VQ.ptr (q:=false) (n:=n+1) (V:=upd V n B s) n 0 oO
 simpa [upd] using this
theorem jG {t size bytes:Nat} {agg:Bool} {z:Value} [ht:Ty P t size agg z bytes] (hz:plain z=true) :
  bY P rd (.alloc t) ty e U (.pointer (some ⟨U.length,0,none⟩)) (U++[.rw (dM z)]) :=
 dh oS fun o ho _ G w0 V A w hs hx=>by
  refine ⟨upd V U.length w.heap.size,.pointer (some ⟨w.heap.size,0,none⟩),w.alloc (.cells z.cells t),.inl ?_,?_,by simp,fun i hi=>iT hi,?_⟩
  ·simp [execOp,ho,Instr.alloc,ht.zeroV,newVar,newRow]
  ·rw [bA];exact Js
  ·exact Jr hs t (kJ (bF z hz))
theorem Jt {t:TypeId} (h:aT e x=some v):bY P rd (.box t x) ty e U (.pointer (some ⟨U.length,0,none⟩)) (U++[.rw (dM v)]) :=
 dh oS fun o ho _ G w0 V A w hs hx=>by
  refine ⟨upd V U.length w.heap.size,.pointer (some ⟨w.heap.size,0,none⟩),w.alloc (.cells (A.eval x).cells t),.inl ?_,?_,by simp,fun i hi=>iT hi,?_⟩
  ·simp [execOp,ho,Instr.box,newVar,newRow]
  ·rw [bA];exact Js
  ·exact Jr hs t (kJ (hx x (by simp [Op.operands]) v h))
theorem nV {n:Nat} {V:Rho} {i o:Nat} {v':Value} (h:gJ n V (.pointer (some ⟨i,o,none⟩)) v'):v'=.pointer (some ⟨(V i).b,(V i).o+o,none⟩)/\i<n:=by
 cases h;exact ⟨rfl,oA⟩
theorem bG {t size bytes i o:Nat} {z:Value} {cs:List Value} [ht:Ty P t size true z bytes] (h:aT e x=some (.pointer (some ⟨i,o,none⟩))) (hc:aK U i o size=some cs) :
  bY P rd (.load t x) ty e U (.agg cs.toArray) U :=
 dh oS fun op ho _ G w0 V A w hs hx=>by
  obtain ⟨hv,_⟩:=nV (hx x (by simp [Op.operands]) _ h)
  obtain ⟨rs,h1,h2,h3⟩:=Nr (P:=P) hs hc
  refine ⟨V,.agg rs.toArray,w,.inl ?_,?_,aD _,fun _ _=>rfl,hs⟩
  ·simp [execOp,ho,hv,Instr.loadAt,Instr.sureAddr,loadVar,ht.isAgg,ht.sizeOf,h1]
  ·exact .agg _ _ h3.1 h3.2
def aI (U:Heap) (i o:Nat):Option Value :=
 match U[i]? with
 |some (.ro cs)=>cs[o]?
 |some (.rw cs)=>cs[o]?
 |some (.gr cs _)=>cs[o]?
 |some (.deep _ sp)=>Nq sp o
 |_=>none
theorem CB {i o:Nat} (h:aI U i o=some v):aK U i o 1=some [v]:=by
 unfold aI at h
 unfold aK
 have a:∀ cs:List Value,cs[o]?=some v->(bif Nat.ble (o+1) cs.length then some ((cs.drop o).take 1) else none)=some [v]:=by
  intro cs c
  obtain ⟨hl,hv⟩:=List.getElem?_eq_some_iff.1 c
  rw [show Nat.ble (o+1) cs.length=true from fc hl]
  rw [List.drop_eq_getElem_cons hl]
  simp [hv]
 split at h
 ·rename_i cs hs;first|exact a cs h|(rw [hs];exact a cs h)
 ·rename_i cs hs;first|exact a cs h|(rw [hs];exact a cs h)
 ·rename_i cs t hs;first|exact a cs h|(rw [hs];exact a cs h)
 ·rename_i qs sp hs;first|(simp [h];done)|(rw [hs];simp [h])
 ·simp at h
theorem aJ {t size bytes i o:Nat} {z:Value} [ht:Ty P t size false z bytes] (h:aT e x=some (.pointer (some ⟨i,o,none⟩))) (hc:aI U i o=some v) :
  bY P rd (.load t x) ty e U v U :=
 dh oS fun op ho _ G w0 V A w hs hx=>by
  obtain ⟨hv,_⟩:=nV (hx x (by simp [Op.operands]) _ h)
  obtain ⟨h1,h2⟩:=kG hs (CB hc)
  obtain ⟨v',h3,h4⟩:=h2 0 oS
  refine ⟨V,v',w,.inl ?_,by simpa using h4,aD _,fun _ _=>rfl,hs⟩
  simp only [cV] at h3
  simp [execOp,ho,hv,Instr.loadAt,Instr.sureAddr,loadVar,ht.isAgg,h3]
def splice (cs:List Value) (o:Nat) (vs:List Value):List Value:=cs.take o++vs++cs.drop (o+vs.length)
theorem pU {cs vs:List Value} {o:Nat} (h:o+vs.length<=cs.length):(splice cs o vs).length=cs.length:=by simp [splice];omega
theorem Yk {n:Nat} {V:Rho} {l1 l2 r1 r2:List Value} (hl:l1.length=l2.length) (h1:∀ (k:Nat) (h:k<l1.length) (h':k<l2.length),gJ n V l1[k] l2[k])
  (h2:∀ (k:Nat) (h:k<r1.length) (h':k<r2.length),gJ n V r1[k] r2[k]):∀ (k:Nat) (h:k<(l1++r1).length) (h':k<(l2++r2).length),gJ n V (l1++r1)[k] (l2++r2)[k]:=by
 intro k h h'
 by_cases hk:k<l1.length
 ·rw [eQ hk,eQ oO];exact h1 k hk oO
 ·simp only [bA] at h h'
  rw [eO oO,eO oO]
  have:=h2 (k - l1.length) oO oO
  simp only [hl] at this ⊢;exact this
theorem Ju {n:Nat} {V:Rho} {cs vs:List Value} {rc:Array Value} {rs:List Value} {o:Nat} (h1:cs.length<=rc.size) (hl:o+vs.length<=cs.length)
  (h2:∀ (k:Nat) (h:k<cs.length) (h':k<rc.size),gJ n V cs[k] rc[k]) (h3:lU n V vs.toArray rs.toArray) :
  ∀ (k:Nat) (h:k<(splice cs o vs).length) (h':k<(rc.toList.take o++rs++rc.toList.drop (o+rs.length)).length),gJ n V (splice cs o vs)[k] (rc.toList.take o++rs++rc.toList.drop (o+rs.length))[k]:=by
 have a:vs.length=rs.length:=by simpa using h3.1
 refine Yk (by simp;omega) (Yk (by simp;omega) ?_ ?_) ?_
 ·intro k h h'
  simp only [cX,dC]
  simp only [eo,Array.length_toList] at h h'
  exact h2 k oO oO
 ·intro k h h';exact h3.2 k (oU h) (oU h')
 ·intro k h h'
  simp only [eR,Array.length_toList] at h h'
  simp only [List.getElem_drop,dC,<- a]
  exact h2 _ oO oO
def putCells (U:Heap) (i o:Nat) (vs:List Value):Option Heap :=
 match U[i]? with
 |some (.rw cs)=>bif Nat.ble (o+vs.length) cs.length && Nat.blt 0 cs.length then some (U.set i (.rw (splice cs o vs))) else none
 |some (.gr cs t)=>bif Nat.ble (o+vs.length) cs.length && Nat.blt 0 cs.length then some (U.set i (.gr (splice cs o vs) t)) else none
 |_=>none
theorem IQ {G:Nat->Prop} {w0 w:World} {V:Rho} (h:Sim G w0 V U w) {i o:Nat} {vs rs:List Value} {σ':Heap} (hp:putCells U i o vs=some σ') (hv:lU U.length V vs.toArray rs.toArray)
  (h1:∀ v ∈ rs,v.oneCell'=true):∃ w',(storeCells ⟨(V i).b,(V i).o+o,none⟩ rs).run P w=.ok () w'/\Sim G w0 V σ' w'/\σ'.length=U.length:=by
 have hlen:vs.length=rs.length:=by simpa using hv.1
 unfold putCells at hp
 cases hi:U[i]? with
 |none=>simp [hi] at hp
 |some x =>
  rw [hi] at hp
  have d:=h.obj i x hi
  cases x with
  |rw cs =>
   simp only at hp
   cases hb:(Nat.ble (o+vs.length) cs.length && Nat.blt 0 cs.length) <;> simp only [hb,cond_true,cond_false,Option.some.injEq,reduceCtorEq] at hp
   simp only [aE,bX] at hb
   have c:=cC hb.1
   have a:cs ≠ []:=fun hc=>by subst hc;simp at hb
   obtain ⟨g1,g2,rc,t,g3,g4,g5⟩:=d a
   subst hp
   refine ⟨w.setRow (V i).b (rc.toList.take (o+0)++rs++rc.toList.drop (o+0+rs.length)).toArray,?_,?_,by simp⟩
   ·rw [g2,aR]
    exact run_storeCells_at (P:=P) (V i).b o t rs 0 rc w g3 oO h1
   ·refine wH h hi a (Ci w _ _) ?_ ?_
    ·intro _
     refine ⟨g1,g2,_,t,setRow_heap w _ rc _ t (0,0) g3,?_,?_⟩
     ·rw [pU c];simp;omega
     ·intro k hk g
      exact Ju g4 c g5 hv k hk (oU g)
    ·intro j k seen hj
     left
     intro f
     obtain ⟨_,_,ents,e,sb,_,g6,_⟩:=h.obj j _ hj
     rw [f,g3] at g6;simp at g6
  |gr cs t =>
   simp only at hp
   cases hb:(Nat.ble (o+vs.length) cs.length && Nat.blt 0 cs.length) <;> simp only [hb,cond_true,cond_false,Option.some.injEq,reduceCtorEq] at hp
   simp only [aE,bX] at hb
   have c:=cC hb.1
   have a:cs ≠ []:=fun hc=>by subst hc;simp at hb
   obtain ⟨g1,g2,rc,g3,g3',g4,g5⟩:=d a
   subst hp
   refine ⟨w.setRow (V i).b (rc.toList.take (o+0)++rs++rc.toList.drop (o+0+rs.length)).toArray,?_,?_,by simp⟩
   ·rw [g2,aR]
    exact run_storeCells_at (P:=P) (V i).b o t rs 0 rc w g3 oO h1
   ·refine wH h hi a (Ci w _ _) ?_ ?_
    ·intro _
     refine ⟨g1,g2,_,setRow_heap w _ rc _ t (0,0) g3,?_,?_,?_⟩
     ·simp;omega
     ·rw [pU c];simp;omega
     ·intro k hk g
      exact Ju g4 c g5 hv k hk (oU g)
    ·intro j k seen hj
     left
     intro f
     obtain ⟨_,_,ents,e,sb,_,g6,_⟩:=h.obj j _ hj
     rw [f,g3] at g6;simp at g6
  |_=>simp at hp
theorem qQ {n:Nat} {V:Rho} {vs:List Value} {rc:Array Value} (h:lU n V vs.toArray rc) (h1:vs.all (·.oneCell')=true):∀ v ∈ rc.toList,v.oneCell'=true:=by
 intro v hv
 obtain ⟨k,hk,rfl⟩:=ew hv
 have a:k<rc.size:=by simpa using hk
 have:=h.2 k (by simpa [h.1] using a) a
 rw [dC,RS this]
 exact List.all_eq_true.1 h1 _ oS
theorem bW {t size bytes i o:Nat} {agg:Bool} {z:Value} {σ':Heap} [ht:Ty P t size agg z bytes] (ha:aT e x=some (.pointer (some ⟨i,o,none⟩))) (hv:aT e y=some v)
  (hl:(dM v).length=size) (h1:(dM v).all (·.oneCell')=true) (hp:putCells U i o (dM v)=some σ'):bY P rd (.store t x y) ty e U undef σ' :=
 dh oS fun op ho _ G w0 V A w hs hx=>by
  obtain ⟨c,_⟩:=nV (hx x (by simp [Op.operands]) _ ha)
  have hy:=kJ (hx y (by simp [Op.operands]) _ hv)
  obtain ⟨w',g1,g2,g3⟩:=IQ (P:=P) hs hp (rs:=(A.eval y).cells.toList) (oU hy) (qQ hy h1)
  refine ⟨V,undef,w',.inr ⟨?_,rfl⟩,bF _ rfl,oO,fun _ _=>rfl,g2⟩
  have a:(A.eval y).cells.size=size:=by have:=hy.1;simp at this;omega
  simp [execOp,ho,c,Instr.storeAt,Instr.sureAddr,storeVar,ht.sizeOf,a,g1]
theorem bD {s f off t size bytes i o:Nat} {agg:Bool} {z:Value} [hf:Fld P s f off t] [ht:Ty P t (size+1) agg z bytes] (h:aT e x=some (.pointer (some ⟨i,o,none⟩))) :
  bY P rd (.fieldAddr s x f) ty e U (.pointer (some ⟨i,o+off,none⟩)) U :=
 dh oS fun op ho _ G w0 V A w hs hx=>by
  obtain ⟨a,hi⟩:=nV (hx x (by simp [Op.operands]) _ h)
  obtain ⟨fs,fl,h1,h2,rfl,rfl⟩:=hf.und
  refine ⟨V,.pointer (some ⟨(V i).b,(V i).o+(o+fl.offset),none⟩),w,.inl ?_,.ptr _ _ hi,aD _,fun _ _=>rfl,hs⟩
  simp [execOp,ho,a,Instr.fieldAt,Instr.sureAddr,lS h1,h2,fieldPlace,ht.sizeOf,addr_add,cF]
end ops
section ops
variable {P:Program} {rd:Option Nat} {ty:TypeId} {e:Env} {U:Heap} {x y a b:Operand} {v u:Value}
theorem Ns {s f off t size bytes:Nat} {z:Value} {cs:Array Value} [hf:Fld P s f off t] [ht:Ty P t size false z bytes] (h:aT e x=some (.agg cs)) (hc:cs.toList[off]?=some v) :
  bY P rd (.field s x f) ty e U v U :=
 dh oS fun op ho _ G w0 V A w hs hx=>by
  have hv:=hx x (by simp [Op.operands]) _ h
  generalize hr:A.eval x=r at hv
  cases hv with
  |agg _ rs g1 g2 =>
   obtain ⟨fs,fl,h1,h2,rfl,rfl⟩:=hf.und
   obtain ⟨hl,rfl⟩:=List.getElem?_eq_some_iff.1 hc
   have a:fl.offset<cs.size:=by simpa using hl
   refine ⟨V,rs[fl.offset],w,.inl ?_,g2 _ a oO,aD _,fun _ _=>rfl,hs⟩
   have:rs[fl.offset]?=some rs[fl.offset]:=by simp [show fl.offset<rs.size from by omega]
   simp [execOp,ho,hr,Instr.field,lS h1,h2,part,asAgg,ht.isAgg,this]
theorem ZH {s f off t size bytes:Nat} {z:Value} {cs:Array Value} [hf:Fld P s f off t] [ht:Ty P t size true z bytes] (h:aT e x=some (.agg cs)) (hc:off+size<=cs.size) :
  bY P rd (.field s x f) ty e U (.agg ((cs.toList.drop off).take size).toArray) U :=
 dh oS fun op ho _ G w0 V A w hs hx=>by
  have hv:=hx x (by simp [Op.operands]) _ h
  generalize hr:A.eval x=r at hv
  cases hv with
  |agg _ rs g1 g2 =>
   obtain ⟨fs,fl,h1,h2,rfl,rfl⟩:=hf.und
   refine ⟨V,.agg (rs.extract fl.offset (fl.offset+size)),w,.inl ?_,?_,aD _,fun _ _=>rfl,hs⟩
   ·simp [execOp,ho,hr,Instr.field,lS h1,h2,part,asAgg,ht.isAgg,ht.sizeOf]
   ·refine .agg _ _ (by simp;omega) fun i hi hi'=>?_
    have hi2:i<size:=by simp at hi;omega
    have:=g2 (fl.offset+i) oO oO
    simpa using this
theorem ZI {t n el size bytes:Nat} {z:Value} {cs:Array Value} {k:IntKind} {i:Int} [ha:Ar P t n el] [ht:Ty P el size false z bytes] (h:aT e x=some (.agg cs)) (hy:aT e y=some (.int k i))
  (h0:0<=i) (h1:i<n) (hc:cs.toList[i.toNat*size]?=some v):bY P rd (.index t x y) ty e U v U :=
 dh oS fun op ho _ G w0 V A w hs hx=>by
  have hv:=hx x (by simp [Op.operands]) _ h
  have hi:=bH (hx y (by simp [Op.operands]) _ hy) rfl
  generalize hr:A.eval x=r at hv
  cases hv with
  |agg _ rs g1 g2 =>
   obtain ⟨hl,rfl⟩:=List.getElem?_eq_some_iff.1 hc
   have a:i.toNat*size<cs.size:=by simpa using hl
   refine ⟨V,rs[i.toNat*size],w,.inl ?_,g2 _ a oO,aD _,fun _ _=>rfl,hs⟩
   have:rs[i.toNat*size]?=some rs[i.toNat*size]:=by simp [show i.toNat*size<rs.size from by omega]
   simp [execOp,ho,hr,hi,Instr.index,asIntOf,lS ha.und,h0,h1,part,ht.isAgg,ht.sizeOf,this]
theorem ZJ {t n el size bytes:Nat} {z:Value} {cs:Array Value} {k:IntKind} {i:Int} [ha:Ar P t n el] [ht:Ty P el size true z bytes] (h:aT e x=some (.agg cs)) (hy:aT e y=some (.int k i))
  (h0:0<=i) (h1:i<n) (hc:i.toNat*size+size<=cs.size):bY P rd (.index t x y) ty e U (.agg ((cs.toList.drop (i.toNat*size)).take size).toArray) U :=
 dh oS fun op ho _ G w0 V A w hs hx=>by
  have hv:=hx x (by simp [Op.operands]) _ h
  have hi:=bH (hx y (by simp [Op.operands]) _ hy) rfl
  generalize hr:A.eval x=r at hv
  cases hv with
  |agg _ rs g1 g2 =>
   refine ⟨V,.agg (rs.extract (i.toNat*size) (i.toNat*size+size)),w,.inl ?_,?_,aD _,fun _ _=>rfl,hs⟩
   ·simp [execOp,ho,hr,hi,Instr.index,asIntOf,lS ha.und,h0,h1,part,ht.isAgg,ht.sizeOf]
   ·refine .agg _ _ (by simp;omega) fun j hj hj'=>?_
    have hj2:j<size:=by simp at hj;omega
    have:=g2 (i.toNat*size+j) oO oO
    simpa using this
theorem pJ {t el size bytes i o n c:Nat} {agg:Bool} {z:Value} {k:IntKind} {j:Int} [ha:Sl P t el] [ht:Ty P el size agg z bytes] (h:aT e x=some (.slice (some ⟨i,o,none⟩) n c)) (hy:aT e y=some (.int k j))
  (h0:0<=j) (h1:j<n):bY P rd (.indexAddr t x y) ty e U (.pointer (some ⟨i,o+j.toNat*size,none⟩)) U :=
 dh oS fun op ho _ G w0 V A w hs hx=>by
  have hv:=hx x (by simp [Op.operands]) _ h
  have hi:=bH (hx y (by simp [Op.operands]) _ hy) rfl
  generalize hr:A.eval x=r at hv
  cases hv with
  |emptySlice=>omega
  |slice _ _ _ _ c' hc hil =>
   refine ⟨V,.pointer (some ⟨(V i).b,(V i).o+(o+j.toNat*size),none⟩),w,.inl ?_,.ptr _ _ hil,aD _,fun _ _=>rfl,hs⟩
   simp [execOp,ho,hr,hi,Instr.indexAt,asIntOf,lS ha.und,h0,h1,ht.sizeOf,addr_add,cF]
  |sliceG _ _ _ _ _ _ _ _ hq=>simp at hq
theorem qR {t el bytes i n c:Nat} {agg:Bool} {z:Value} {kd:IntKind} {k:Nat} [ha:Sl P t el] [ht:Ty P el 1 agg z bytes] (h:aT e x=some (.slice (some ⟨i,0,none⟩) n c)) (hy:aT e y=some (.int kd (k:Nat)))
  (h1:k<n):bY P rd (.indexAddr t x y) ty e U (.pointer (some ⟨i,k,none⟩)) U:=by
 have:=pJ (P:=P) (rd:=rd) (ty:=ty) (U:=U) (t:=t) (ht:=ht) h hy oO oO
 simpa using this
theorem IU {t el size bytes i n c sz:Nat} {agg:Bool} {z:Value} {k:IntKind} {j:Int} [ha:Sl P t el] [ht:Ty P el size agg z bytes] (h:aT e x=some (.slice (some ⟨i,0,some sz⟩) n c)) (hy:aT e y=some (.int k j))
  (h0:0<=j) (h1:j<n):bY P rd (.indexAddr t x y) ty e U (.pointer (some ⟨i,j.toNat*size,none⟩)) U :=
 dh oS fun op ho _ G w0 V A w hs hx=>by
  have hv:=hx x (by simp [Op.operands]) _ h
  have hi:=bH (hx y (by simp [Op.operands]) _ hy) rfl
  generalize hr:A.eval x=r at hv
  cases hv with
  |gslice _ _ _ _ c' _ hc hsz hil _ =>
   refine ⟨V,.pointer (some ⟨(V i).b,(V i).o+j.toNat*size,none⟩),w,.inl ?_,.ptr _ _ hil,aD _,fun _ _=>rfl,hs⟩
   simp [execOp,ho,hr,hi,Instr.indexAt,asIntOf,lS ha.und,h0,h1,ht.sizeOf,addr_add]
  |gsliceG _ _ _ _ _ _ _ _ hq=>simp at hq
theorem ng {t len el size bytes i o:Nat} {agg:Bool} {z:Value} {k:IntKind} {j:Int} [ha:Ar P t len el] [ht:Ty P el size agg z bytes] (h:aT e x=some (.pointer (some ⟨i,o,none⟩))) (hy:aT e y=some (.int k j))
  (h0:0<=j) (h1:j<len):bY P rd (.indexAddr t x y) ty e U (.pointer (some ⟨i,o+j.toNat*size,none⟩)) U :=
 dh oS fun op ho _ G w0 V A w hs hx=>by
  obtain ⟨hv,a⟩:=nV (hx x (by simp [Op.operands]) _ h)
  have hi:=bH (hx y (by simp [Op.operands]) _ hy) rfl
  refine ⟨V,.pointer (some ⟨(V i).b,(V i).o+(o+j.toNat*size),none⟩),w,.inl ?_,.ptr _ _ a,aD _,fun _ _=>rfl,hs⟩
  simp [execOp,ho,hv,hi,Instr.indexAt,Instr.sureAddr,asIntOf,lS ha.und,h0,h1,ht.sizeOf,addr_add,cF]
theorem yP {vs:Array Value} {i:Nat} (h:aT e x=some (.tuple vs)) (hi:vs.toList[i]?=some v):bY P rd (.extract x i) ty e U v U :=
 dh oS fun op ho _ G w0 V A w hs hx=>by
  have hv:=hx x (by simp [Op.operands]) _ h
  generalize hr:A.eval x=r at hv
  cases hv with
  |tuple _ rs g1 g2 =>
   obtain ⟨hl,rfl⟩:=List.getElem?_eq_some_iff.1 hi
   have a:i<vs.size:=by simpa using hl
   refine ⟨V,rs[i],w,.inl ?_,g2 _ a oO,aD _,fun _ _=>rfl,hs⟩
   have:rs[i]?=some rs[i]:=by simp [show i<rs.size from by omega]
   simp [execOp,ho,hr,Instr.extract,this]
def wI (e:Env):List Operand->Option (List Value)
 |[]=>some []
 |x::l=>match aT e x,wI e l with
  |some v,some vs=>some (v::vs)
  |_,_=>none
theorem xW {n:Nat} {V:Rho} {A:Act}:∀ {l:List Operand} {vs:List Value},(∀ x ∈ l,∀ u,aT e x=some u->gJ n V u (A.eval x))->wI e l=some vs->lU n V vs.toArray (l.map A.eval).toArray
 |[],vs,_,h=>by simp only [wI,Option.some.injEq] at h;subst h;exact ⟨rfl,fun i hi _=>by simp at hi⟩
 |x::l,vs,hx,h=>by
  simp only [wI] at h
  cases hv:aT e x with
  |none=>simp [hv] at h
  |some v =>
   cases hvs:wI e l with
   |none=>simp [hv,hvs] at h
   |some us =>
    simp only [hv,hvs,Option.some.injEq] at h
    subst h
    have ih:=xW (fun y hy=>hx y (by simp [hy])) hvs
    refine ⟨by have:=ih.1;simp at this ⊢;exact this,fun i hi a=>?_⟩
    cases i with
    |zero=>exact hx x oS v hv
    |succ i=>exact ih.2 i (oU hi) (oU a)
theorem zT {f:FuncId} {l1 l2:List Operand} {vs1 vs2:List Value} (h1:wI e l1=some vs1) (h2:wI e l2=some vs2) :
  bY P rd (.makeFunc (.func f) l1.toArray l2.toArray) ty e U (.func (.func f) vs1.toArray vs2.toArray) U :=
 dh oS fun op ho _ G w0 V A w hs hx=>by
  have g1:=xW (A:=A) (fun y hy=>hx y (by simp [Op.operands,hy])) h1
  have g2:=xW (A:=A) (fun y hy=>hx y (by simp [Op.operands,hy])) h2
  refine ⟨V,.func (.func f) (l1.map A.eval).toArray (l2.map A.eval).toArray,w,.inl ?_,.func f _ _ _ _ g1.1 g2.1 g1.2 g2.2,aD _,fun _ _=>rfl,hs⟩
  simp [execOp,ho,Instr.makeFunc]
theorem lY {t el n c:Nat} {ad:Option Addr} [ha:Sl P t el] (h:aT e x=some (.slice ad n c)) :
  bY P rd (.call { callee:=.builtin .len,args:=#[x],argTypes:=#[t] }) ty e U (.int .i64 (n:Int)) U :=
 dh oS fun op ho _ G w0 V A w hs hx=>by
  have hv:=hx x (by simp [Op.operands,Call.operands]) _ h
  refine ⟨V,.int .i64 (n:Int),w,.inl ?_,.int _ _,aD _,fun _ _=>rfl,hs⟩
  have:∃ a c',A.eval x=.slice a n c':=by
   generalize hr:A.eval x=r at hv
   cases hv <;> exact ⟨_,_,rfl⟩
  obtain ⟨a,c',hr⟩:=this
  simp [execOp,ho,resolve,invoke,builtin,hr,Builtin.len_,lS ha.und,goInt]
theorem CG {k:IntKind} {m n:Int} {ts:Array TypeId} (hx:aT e x=some (.int k m)) (hy:aT e y=some (.int k n)) :
  bY P rd (.call { callee:=.builtin .max,args:=#[x,y],argTypes:=ts }) ty e U (.int k (max m n)) U :=
 kK oS rfl fun o ho _ A hA w=>by
  have h1:=hA x (by simp [Op.operands,Call.operands]) _ hx rfl
  have h2:=hA y (by simp [Op.operands,Call.operands]) _ hy rfl
  simp [execOp,ho,resolve,invoke,builtin,h1,h2,Builtin.max_,Builtin.max2]
  split <;> omega
theorem Fg {k:IntKind} {m n:Int} {ts:Array TypeId} (hx:aT e x=some (.int k m)) (hy:aT e y=some (.int k n)) :
  bY P rd (.call { callee:=.builtin .min,args:=#[x,y],argTypes:=ts }) ty e U (.int k (min m n)) U :=
 kK oS rfl fun o ho _ A hA w=>by
  have h1:=hA x (by simp [Op.operands,Call.operands]) _ hx rfl
  have h2:=hA y (by simp [Op.operands,Call.operands]) _ hy rfl
  simp [execOp,ho,resolve,invoke,builtin,h1,h2,Builtin.min_,Builtin.min2]
  split <;> omega
theorem jB {i o:Nat} (h:aT e x=some (.pointer (some ⟨i,o,none⟩))):bY P rd (.nilCheck x) ty e U (.pointer (some ⟨i,o,none⟩)) U :=
 dh oS fun op ho _ G w0 V A w hs hx=>by
  have hv:=hx x (by simp [Op.operands]) _ h
  obtain ⟨hr,a⟩:=nV hv
  exact ⟨V,_,w,.inl (by simp [execOp,ho,hr]),.ptr _ _ a,aD _,fun _ _=>rfl,hs⟩
theorem ae3 {f:FuncId} {p q:Array Value} (h:aT e x=some (.func (.func f) p q)):bY P rd (.nilCheck x) ty e U (.func (.func f) p q) U :=
 dh oS fun op ho _ G w0 V A w hs hx=>by
  have hv:=hx x (by simp [Op.operands]) _ h
  refine ⟨V,A.eval x,w,.inl ?_,hv,aD _,fun _ _=>rfl,hs⟩
  generalize hr:A.eval x=r at hv
  cases hv
  simp [execOp,ho,hr]
def zU (P:Program) (f:FuncId):Bool :=
 match P.funcs[f]? with
 | some fn => !(fn.name == "runtime.NumGoroutine") && fn.body.isSome
 |none=>false
class GoFn (P:Program) (f:FuncId):Prop where
 h:zU P f=true
theorem GoFn.run {f:FuncId} (h:GoFn P f) (args:Array Value) (w:World):(callFunc f args).run P w=.ok (.enter f args) w:=by
 have:=h.h
 unfold zU at this
 cases hf:P.funcs[f]? with
 |none=>simp [hf] at this
 |some fn =>
  simp only [hf,aE,eL] at this
  unfold callFunc
  simp only [Sem.run_bind,run_program,Result.andThen_ok,hf]
  rw [if_neg (by simp [this.1]),if_neg (by cases hb:fn.body <;> simp [hb] at this ⊢)]
  rfl
theorem mM {n:Nat} {V:Rho} {l1 l2:List Value} {r1 r2:Array Value} (h1:lU n V l1.toArray r1) (h2:lU n V l2.toArray r2):lU n V (l1++l2).toArray (r1++r2):=by
 have e1:l1.length=r1.size:=by simpa using h1.1
 refine ⟨by have:=h2.1;simp at this ⊢;omega,fun i hi a=>?_⟩
 simp only [fL]
 by_cases hk:i<l1.length
 ·rw [eQ hk,Array.getElem_append_left oO];exact h1.2 i (oU hk) oO
 ·simp only [Array.size_append] at a
  rw [eO oO,Array.getElem_append_right oO]
  simp only [e1]
  exact h2.2 _ (by have:=h2.1;simp at this ⊢;omega) oO
theorem VE {o:Oper} {x:Operand} {l:List Operand} {ts:Array TypeId} {f:FuncId} {p q vs:List Value} [hc:GoFn P f]
  {G:Nat->Prop} {w0:World} {V:Rho} {A:Act} {w:World} (ho:o.op=.call { callee:=.value x,args:=l.toArray,argTypes:=ts }) (_hs:Sim G w0 V U w)
  (hx:∀ y ∈ o.op.operands,∀ u,aT e y=some u->gJ U.length V u (A.eval y))
  (hf:aT e x=some (.func (.func f) p.toArray q.toArray)) (hl:wI e l=some vs) :
  ∃ ar,(execOp A.eval o).run P w=.ok (.enter f ar) w/\lU U.length V (p++vs++q).toArray ar:=by
 have hv:=hx x (by rw [ho];simp [Op.operands,Call.operands]) _ hf
 have ha:=xW (A:=A) (fun y hy=>hx y (by rw [ho];simp [Op.operands,Call.operands,hy])) hl
 generalize hr:A.eval x=r at hv
 cases hv with
 |func _ _ p' _ q' g1 g2 g3 g4 =>
  refine ⟨p'++(l.map A.eval).toArray++q',?_,mM (mM ⟨g1,g3⟩ ha) ⟨g2,g4⟩⟩
  simp [execOp,ho,resolve,hr,Deferred.ofValue,invoke,hc.run]
theorem bC {x:Operand} {l:List Operand} {ts:Array TypeId} {f:FuncId} {p q vs args:List Value} {σ':Heap} [GoFn P f] (hf:aT e x=some (.func (.func f) p.toArray q.toArray)) (hl:wI e l=some vs)
  (he:p++vs++q=args) (hev:Ev P f args U v σ'):bY P rd (.call { callee:=.value x,args:=l.toArray,argTypes:=ts }) ty e U v σ':=by
 subst he
 intro o ho hty G w0 V A w _ hs hx next Q' hn
 obtain ⟨ar,h1,h2⟩:=VE (P:=P) ho hs (by rw [ho];exact hx) hf hl
 refine ⟨fun f _=>lV _ _ _,?_⟩
 rw [Oper.semAt_eq _ _ _ (by rw [ho];simp),h1,Oper.uponIn_enter]
 refine ⟨fun h=>by rw [A8] at h;simp at h,?_⟩
 have hc:=hev G w0 V ar w hs h2
 have c:CallsIn (fen V rd) 0 P f ar w (fun en w'=>∃ ρ' vr v' a,en=.returned vr/\(v'=v/\a=σ')/\gJ a.length ρ' v' vr/\U.length<=a.length/\(∀ i < U.length,ρ' i=V i)/\Sim G w0 ρ' a w'):=by
  cases rd with
  |none=>exact hc
  |some l=>exact CallsIn.inRound _ hc
 refine c.mono ?_
 rintro en w' ⟨ρ',vr,v',a,rfl,⟨rfl,rfl⟩,h3,h4,h5,h6⟩
 exact hn ρ' vr w' h3 h4 h5 h6
theorem RX {n:Nat} {f:FuncId} {ar:Array Value} {w:World} {V:Rho} {R:Ending->World->Prop} (h:CallsIn Fence.wide n P f ar w R):CallsIn (fen V rd) n P f ar w R:=by
 cases rd with
 |none=>exact h
 |some l=>exact CallsIn.inRound _ h
end ops
mutual
def closed (n:Nat):Value->Bool
 |.pointer (some a)=>Nat.blt a.block n
 |.slice (some ⟨i,_,some _⟩) _ _=>Nat.blt i n
 |.slice (some ⟨_,_,none⟩) 0 0=>true
 |.slice (some ⟨i,_,none⟩) _ _=>Nat.blt i n
 |.map (some i)=>Nat.blt i n
 |.chan (some i)=>Nat.blt i n
 |.func (.yield l) a b=>Nat.blt l n && jC n a && jC n b
 |.func _ a b=>jC n a && jC n b
 |.iface _ v=>closed n v
 |.agg cs=>jC n cs
 |.tuple cs=>jC n cs
 |_=>true
def jC (n:Nat):Array Value->Bool
 |⟨l⟩=>dU n l
def dU (n:Nat):List Value->Bool
 |[]=>true
 |v::l=>closed n v && dU n l
end
theorem ou (n:Nat) (l:List Value):dU n l=true↔∀ v ∈ l,closed n v=true:=by
 induction l with
 |nil=>simp [dU]
 |cons v l ih=>simp [dU,ih]
theorem mO (n:Nat) (a:Array Value):jC n a=true↔∀ (i:Nat) (h:i<a.size),closed n a[i]=true:=by
 cases a with|mk l =>
 simp only [jC,ou]
 exact ⟨fun h i hi=>h _ oS,fun h v hv=>let ⟨i,hi,e⟩:=ew hv;e ▸ h i hi⟩
theorem rU {q:Bool} {n:Nat} {V:Rho} {v v':Value} (h:VQ q n V v v'):closed n v=true:=by
 induction h with
 |ptr i o hi=>simpa [closed,bX] using hi
 |emptySlice i o a c=>rfl
 |slice i o l c c' h hi=>cases l <;> cases c <;> simp [closed,bX,hi]
 |gslice i o l c c' sz h hs hi hq=>simp [closed,bX,hi]
 |sliceG i o l c c' sz h hi hq=>cases l <;> cases c <;> simp [closed,bX,hi]
 |gsliceG i o l c c' sz h hi hq=>simp [closed,bX,hi]
 |map i hi=>simpa [closed,bX] using hi
 |stamp i hi hq=>simpa [closed,bX] using hi
 |stampG i hi hq=>simpa [closed,bX] using hi
 |func f a a' b b' h1 h2 h3 h4 ih3 ih4 =>
  simp only [closed,aE]
  exact ⟨(mO _ _).2 fun i hi=>ih3 i hi oO,(mO _ _).2 fun i hi=>ih4 i hi oO⟩
 |yield l hi=>simp [closed,bX,hi,jC,dU]
 |iface t v v' h ih=>simpa [closed] using ih
 |agg a a' h1 h3 ih=>simp only [closed];exact (mO _ _).2 fun i hi=>ih i hi oO
 |tuple a a' h1 h3 ih=>simp only [closed];exact (mO _ _).2 fun i hi=>ih i hi oO
 |_=>rfl
theorem uZ {q:Bool} {n m:Nat} {V:Rho} {v v':Value} (h:VQ q m V v v') (hc:closed n v=true):VQ q n V v v':=by
 induction h with
 |bool b=>exact .bool b
 |int k x=>exact .int k x
 |string s=>exact .string s
 |nilPtr=>exact .nilPtr
 |ptr i o hi=>exact .ptr i o (by simpa [closed,bX] using hc)
 |nilSlice=>exact .nilSlice
 |zslice a hq=>exact .zslice a hq
 |zsliceZ hq=>exact .zsliceZ hq
 |emptySlice i o a c=>exact .emptySlice i o a c
 |slice i o l c c' h hi =>
  by_cases e:l=0/\c=0
  ·obtain ⟨rfl,rfl⟩:=e;exact .emptySlice _ _ _ _
  ·refine .slice i o l c c' h ?_
   cases l <;> cases c <;> simp [closed,bX] at hc e <;> exact hc
 |gslice i o l c c' sz h hs hi hq=>exact .gslice i o l c c' sz h hs (by simpa [closed,bX] using hc) hq
 |sliceG i o l c c' sz h hi hq =>
  by_cases e:l=0/\c=0
  ·obtain ⟨rfl,rfl⟩:=e;exact .emptySlice _ _ _ _
  ·refine .sliceG i o l c c' sz h ?_ hq
   cases l <;> cases c <;> simp [closed,bX] at hc e <;> exact hc
 |gsliceG i o l c c' sz h hi hq=>exact .gsliceG i o l c c' sz h (by simpa [closed,bX] using hc) hq
 |nilMap=>exact .nilMap
 |map i hi=>exact .map i (by simpa [closed,bX] using hc)
 |stamp i hi hq=>exact .stamp i (by simpa [closed,bX] using hc) hq
 |stampG i hi hq=>exact .stampG i (by simpa [closed,bX] using hc) hq
 |nilFunc=>exact .nilFunc
 |func f a a' b b' h1 h2 h3 h4 ih3 ih4 =>
  simp only [closed,aE] at hc
  exact .func f a a' b b' h1 h2 (fun i hi d=>ih3 i hi d ((mO _ _).1 hc.1 i hi)) (fun i hi d=>ih4 i hi d ((mO _ _).1 hc.2 i hi))
 |yield l hi=>exact .yield l (by simpa [closed,bX,jC,dU] using hc)
 |nilIface=>exact .nilIface
 |iface t v v' h ih=>exact .iface t v v' (ih (by simpa [closed] using hc))
 |agg a a' h1 h3 ih=>simp only [closed] at hc;exact .agg a a' h1 (fun i hi d=>ih i hi d ((mO _ _).1 hc i hi))
 |tuple a a' h1 h3 ih=>simp only [closed] at hc;exact .tuple a a' h1 (fun i hi d=>ih i hi d ((mO _ _).1 hc i hi))
mutual
def okV:Value->Bool
 |.pointer (some ⟨_,_,some _⟩)=>false
 |.slice none (_+1) _=>false
 |.slice none 0 (_+2)=>false
 |.func (.func _) a b=>okA a && okA b
 |.func (.yield _) a b=>a.isEmpty && b.isEmpty
 |.func _ _ _=>false
 |.iface _ v=>okV v
 |.agg cs=>okA cs
 |.tuple cs=>okA cs
 |.float _ _=>false
 |.complex _ _ _=>false
 |.chan none=>false
 |_=>true
def okA:Array Value->Bool
 |⟨l⟩=>okL l
def okL:List Value->Bool
 |[]=>true
 |v::l=>okV v && okL l
end
theorem Pg (l:List Value):okL l=true↔∀ v ∈ l,okV v=true:=by
 induction l with
 |nil=>simp [okL]
 |cons v l ih=>simp [okL,ih]
theorem IV (a:Array Value):okA a=true↔∀ (i:Nat) (h:i<a.size),okV a[i]=true:=by
 cases a with|mk l =>
 simp only [okA,Pg]
 exact ⟨fun h i hi=>h _ oS,fun h v hv=>let ⟨i,hi,e⟩:=ew hv;e ▸ h i hi⟩
theorem Nu {q:Bool} {n:Nat} {V:Rho} {v v':Value} (h:VQ q n V v v'):okV v=true:=by
 induction h with
 |func f a a' b b' h1 h2 h3 h4 ih3 ih4 =>
  simp only [okV,aE]
  exact ⟨(IV _).2 fun i hi=>ih3 i hi oO,(IV _).2 fun i hi=>ih4 i hi oO⟩
 |iface t v v' h ih=>simpa [okV] using ih
 |agg a a' h1 h3 ih=>simp only [okV];exact (IV _).2 fun i hi=>ih i hi oO
 |tuple a a' h1 h3 ih=>simp only [okV];exact (IV _).2 fun i hi=>ih i hi oO
 |_=>rfl
theorem Ph {v:Value} {n:Nat} (h:plain v=true):closed n v=true:=rU (bF (q:=false) (n:=n) (V:=fun _=>⟨0,0,0⟩) v h)
mutual
theorem qA {n m:Nat} {Z:Rho} (hπ:∀ i<m,Z i=⟨i,0,0⟩) (hnm:m<=n):(v:Value)->closed m v=true->okV v=true->jS n Z v v
 |.bool b,_,_=>.bool b
 |.int k x,_,_=>.int k x
 |.string s,_,_=>.string s
 |.pointer none,_,_=>.nilPtr
 |.pointer (some ⟨i,o,s⟩),h,ho=>by
  simp only [closed,bX] at h
  cases s with
  |some s=>simp [okV] at ho
  |none =>
   have:=VQ.ptr (q:=true) (n:=n) (V:=Z) i o oO
   simpa [hπ i h] using this
 |.slice none 0 0,_,_=>.nilSlice
 |.slice none (_+1) _,_,ho=>by simp [okV] at ho
 |.slice none 0 1,_,_=>.zsliceZ rfl
 |.slice none 0 (_+2),_,ho=>by simp [okV] at ho
 |.slice (some ⟨i,o,none⟩) l c,h,_=>by
  by_cases d:l=0/\c=0
  ·obtain ⟨rfl,rfl⟩:=d;exact .emptySlice _ _ _ _
  ·have hi:i<m:=by cases l <;> cases c <;> simp [closed,bX] at h d <;> exact h
   have:=VQ.slice (q:=true) (n:=n) (V:=Z) i o l c c (aD _) oO
   simpa [hπ i hi] using this
 |.slice (some ⟨i,o,some sz⟩) l c,h,_=>by
  simp only [closed,bX] at h
  have:=VQ.gsliceG (q:=true) (n:=n) (V:=Z) i o l c c sz ⟨aD _,fun _=>rfl⟩ oO rfl
  simpa [hπ i h] using this
 |.map none,_,_=>.nilMap
 |.map (some i),h,_=>by
  simp only [closed,bX] at h
  have:=VQ.map (q:=true) (n:=n) (V:=Z) i oO
  simpa [hπ i h] using this
 |.chan (some i),h,_=>by
  simp only [closed,bX] at h
  have:=VQ.stampG (q:=true) (n:=n) (V:=Z) i oO rfl
  simpa [hπ i h] using this
 |.nilFunc,_,_=>.nilFunc
 |.nilIface,_,_=>.nilIface
 |.func f a b,h,ho=>match f,h,ho with
  |.func f,h,ho=>by
   simp only [closed,aE] at h
   simp only [okV,aE] at ho
   exact .func f a a b b rfl rfl (fun i h1 _=>yQ hπ hnm a h.1 ho.1 i h1) (fun i h1 _=>yQ hπ hnm b h.2 ho.2 i h1)
  |.yield l,h,ho=>by
   simp only [closed,aE,bX] at h
   simp only [okV,aE] at ho
   obtain rfl:a=#[]:=by simpa using ho.1
   obtain rfl:b=#[]:=by simpa using ho.2
   have:=VQ.yield (q:=true) (n:=n) (V:=Z) l oO
   simpa [hπ l h.1.1] using this
  |.method _,_,ho=>by simp [okV] at ho
  |.methodOf _ _,_,ho=>by simp [okV] at ho
  |.via _ _ _ _,_,ho=>by simp [okV] at ho
 |.iface t v,h,ho=>.iface t v v (qA hπ hnm v (by simpa [closed] using h) (by simpa [okV] using ho))
 |.agg cs,h,ho=>.agg cs cs rfl (fun i h1 _=>yQ hπ hnm cs (by simpa [closed] using h) (by simpa [okV] using ho) i h1)
 |.tuple cs,h,ho=>.tuple cs cs rfl (fun i h1 _=>yQ hπ hnm cs (by simpa [closed] using h) (by simpa [okV] using ho) i h1)
 |.float _ _,_,ho=>by simp [okV] at ho
 |.complex _ _ _,_,ho=>by simp [okV] at ho
 |.chan none,_,ho=>by simp [okV] at ho
theorem yQ {n m:Nat} {Z:Rho} (hπ:∀ i<m,Z i=⟨i,0,0⟩) (hnm:m<=n):(a:Array Value)->jC m a=true->okA a=true->∀ (i:Nat) (h:i<a.size),jS n Z a[i] a[i]
 |⟨l⟩,h,ho=>fun i hi=>rV hπ hnm l (by simpa [jC] using h) (by simpa [okA] using ho) i hi
theorem rV {n m:Nat} {Z:Rho} (hπ:∀ i<m,Z i=⟨i,0,0⟩) (hnm:m<=n):(l:List Value)->dU m l=true->okL l=true->∀ (i:Nat) (h:i<l.length),jS n Z l[i] l[i]
 |[],_,_=>fun i h=>absurd h (Nat.not_lt_zero i)
 |v::l,h,ho=>fun i hi=>by
  simp only [dU,aE] at h
  simp only [okL,aE] at ho
  cases i with
  |zero=>exact qA hπ hnm v h.1 ho.1
  |succ i=>exact rV hπ hnm l h.2 ho.2 i (oU hi)
end
def xX (U:Heap) (n:Nat) (Z:Rho) (p:Pl):aC->Prop
 |.dead=>True
 |.ro cs2=>cs2=[]\/∃ cs,U[p.b]?=some (.ro cs)/\∀ (k:Nat) (h:k<cs2.length),∃ h':p.o+k<cs.length,jS n Z cs2[k] cs[p.o+k]
 |.rw cs2=>cs2=[]\/(p.o=0/\∃ cs,(U[p.b]?=some (.rw cs)\/∃ t,U[p.b]?=some (.gr cs t))/\cs2.length<=cs.length/\∀ (k:Nat) (h:k<cs2.length) (h':k<cs.length),jS n Z cs2[k] cs[k])
 |.gr cs2 t=>cs2=[]\/(p.o=0/\∃ cs,U[p.b]?=some (.gr cs t)/\cs2.length<=cs.length/\∀ (k:Nat) (h:k<cs2.length) (h':k<cs.length),jS n Z cs2[k] cs[k])
 |.dfr=>U[p.b]?=some .dfr
 |.loop st pend N e2 params assign body=>∃ e1,U[p.b]?=some (.loop st pend N e1 params assign body)/\∀ t v2,Env.get e2 t=some v2->∃ v,Env.get e1 t=some v/\jS n Z v2 v
 |.map es2=>∃ es,U[p.b]?=some (.map es)/\es.length=es2.length/\∀ (i:Nat) (h:i<es2.length) (h':i<es.length),es2[i].1=es[i].1/\jS n Z es2[i].2 es[i].2
 |.iter m seen=>m<n/\U[p.b]?=some (.iter (Z m).b seen)/\p.o=0
 |.deep qs2 sp2=>p.o=0/\(qs2=[]\/∃ sp,U[p.b]?=some (.deep qs2 sp))/\∀ x ∈ sp2,∃ qs sp,U[p.b]?=some (.deep qs sp)/\∃ v,(x.1,v) ∈ sp/\jS n Z x.2 v
structure ZK (n0:Nat) (Z:Rho) (U σ2:Heap):Prop where
 le:n0<=σ2.length
 id:∀ i<n0,Z i=⟨i,0,0⟩
 obj:∀ i o2,σ2[i]?=some o2->xX U σ2.length Z (Z i) o2
 inj:∀ i j oi oj,σ2[i]?=some oi->σ2[j]?=some oj->oi.owned->oj.owned->(Z i).b=(Z j).b->i=j
theorem Jv {U:Heap} {n:Nat} {Z:Rho} {p:Pl} {o2:aC} (h:xX U n Z p o2) (ho:o2.owned):∃ o,U[p.b]?=some o/\o.owned:=by
 cases o2 with
 |dead=>exact ho.elim
 |ro cs=>exact ho.elim
 |rw cs2 =>
  rcases h with h|⟨_,cs,h1,h2,_⟩
  ·exact absurd h ho
  ·have a:cs ≠ []:=fun hc=>by subst hc;simp at h2;exact ho h2
   rcases h1 with h1|⟨t,h1⟩
   ·exact ⟨_,h1,a⟩
   ·exact ⟨_,h1,a⟩
 |gr cs2 t =>
  rcases h with h|⟨_,cs,h1,h2,_⟩
  ·exact absurd h ho
  ·exact ⟨_,h1,fun hc=>by subst hc;simp at h2;exact ho h2⟩
 |dfr=>exact ⟨_,h,trivial⟩
 |loop st pend N e2 params assign body=>obtain ⟨e1,h1,_⟩:=h;exact ⟨_,h1,trivial⟩
 |map es2=>obtain ⟨es,h1,_⟩:=h;exact ⟨_,h1,trivial⟩
 |iter m seen=>exact ⟨_,h.2.1,trivial⟩
 |deep qs sp=>exact ho.elim
theorem IW {n0:Nat} {Z:Rho} {U σ2:Heap} {G:Nat->Prop} {w0 w:World} {V:Rho} (hr:ZK n0 Z U σ2) (hs:Sim G w0 V U w):Sim G w0 (comp V Z) σ2 w where
 os:=hs.os
 tape:=hs.tape
 output:=hs.output
 size:=hs.size
 fgn:=hs.fgn
 inj i j oi oj hi hj hoi hoj hij:=by
  obtain ⟨o1,g1,g2⟩:=Jv (hr.obj i oi hi) hoi
  obtain ⟨o3,g3,g4⟩:=Jv (hr.obj j oj hj) hoj
  exact hr.inj i j oi oj hi hj hoi hoj (hs.inj _ _ o1 o3 g1 g3 g2 g4 hij)
 obj i o2 hi:=by
  have h:=hr.obj i o2 hi
  cases o2 with
  |dead=>trivial
  |ro cs2 =>
   intro c
   rcases h with h|⟨cs,h1,h2⟩
   ·exact absurd h c
   ·have d:cs ≠ []:=fun hc=>by
     subst hc
     obtain ⟨h',_⟩:=h2 0 (List.length_pos_iff.2 c)
     simp at h'
    obtain ⟨g1,g2⟩:=hs.obj _ _ h1 d
    refine ⟨g1,fun k hk=>?_⟩
    obtain ⟨h',h3⟩:=h2 k hk
    obtain ⟨v',g3,g4⟩:=g2 _ h'
    exact ⟨v',by simpa [comp,cF] using g3,h3.trans g4⟩
  |rw cs2 =>
   intro c
   rcases h with h|⟨h0,cs,h1,h2,h3⟩
   ·exact absurd h c
   ·have d:cs ≠ []:=fun hc=>by subst hc;simp at h2;exact c h2
    rcases h1 with h1|⟨t,h1⟩
    ·obtain ⟨g1,g2,rc,t,g3,g4,g5⟩:=hs.obj _ _ h1 d
     exact ⟨g1,by simp [comp,g2,h0],rc,t,g3,oO,fun k hk e=>(h3 k hk oO).trans (g5 k oO e)⟩
    ·obtain ⟨g1,g2,rc,g3,f,g4,g5⟩:=hs.obj _ _ h1 d
     exact ⟨g1,by simp [comp,g2,h0],rc,t,g3,oO,fun k hk e=>(h3 k hk oO).trans (g5 k oO e)⟩
  |gr cs2 t =>
   intro c
   rcases h with h|⟨h0,cs,h1,h2,h3⟩
   ·exact absurd h c
   ·have d:cs ≠ []:=fun hc=>by subst hc;simp at h2;exact c h2
    obtain ⟨g1,g2,rc,g3,f,g4,g5⟩:=hs.obj _ _ h1 d
    exact ⟨g1,by simp [comp,g2,h0],rc,g3,f,oO,fun k hk e=>(h3 k hk oO).trans (g5 k oO e)⟩
  |dfr=>exact hs.obj _ _ h
  |loop st pend N e2 params assign body =>
   obtain ⟨e1,h1,h2⟩:=h
   obtain ⟨g1,r,g2,g3,g4,g5,g6,g7,g8⟩:=hs.obj _ _ h1
   refine ⟨g1,r,g2,g3,g4,g5,g6,g7,g8.1,fun t v2 hv=>?_⟩
   obtain ⟨v,h3,h4⟩:=h2 t v2 hv
   obtain ⟨v',h5,h6⟩:=g8.2 t v h3
   exact ⟨v',h5,h4.trans h6⟩
  |map es2 =>
   obtain ⟨es,h1,h2,h3⟩:=h
   obtain ⟨g1,ents,a,g2,g3,g4,g5⟩:=hs.obj _ _ h1
   refine ⟨g1,ents,a,g2,oO,fun i hi g=>?_,g5⟩
   obtain ⟨k1,k2,k3,k4⟩:=g4 i oO g
   obtain ⟨l1,l2⟩:=h3 i hi oO
   exact ⟨by rw [k1,l1],by rw [l1];exact k2,l2.trans k3,k4⟩
  |iter m seen =>
   obtain ⟨h0,h1,l⟩:=h
   obtain ⟨g1,g2,ents,a,sb,g3,g4,g5,g6,g7⟩:=hs.obj _ _ h1
   exact ⟨g1,h0,ents,a,sb,g3,g4,g5,g6,by simp only [comp,g7,l]⟩
  |deep qs2 sp2 =>
   obtain ⟨h0,h1,h2⟩:=h
   refine ⟨fun hq=>?_,fun x hx=>?_⟩
   ·obtain ⟨sp,h1⟩:=h1.resolve_left hq
    obtain ⟨g1,g2⟩:=(hs.obj _ _ h1).1 hq
    refine ⟨g1,fun k hk=>?_⟩
    obtain ⟨v',g3,g4⟩:=g2 k hk
    exact ⟨v',by simpa [comp,h0] using g3,g4⟩
   ·obtain ⟨qs,sp,h3,v,h4,h5⟩:=h2 x hx
    obtain ⟨g1,v',g3,g4⟩:=(hs.obj _ _ h3).2 _ h4
    exact ⟨g1,v',by simpa [comp,h0] using g3,h5.trans g4⟩
theorem comp_id {V Z:Rho} {i:Nat} (h:Z i=⟨i,0,0⟩):comp V Z i=V i:=by simp [comp,h]
def abL (n:Nat) (Z:Rho) (e e2:Env):Prop:=∀ p ∈ e2,∃ v,Env.get e p.1=some v/\jS n Z p.2 v
theorem yR:∀ {e:Env} {t:Nat} {v:Value},Env.get e t=some v->(t,v) ∈ e
 |[],_,_,h=>by simp [Env.get] at h
 |(k,u)::e,t,v,h=>by
  simp only [Env.get] at h
  cases hk:Nat.beq k t with
  |true=>rw [hk] at h;simp at h;subst h;rw [aM hk];simp
  |false=>rw [hk] at h;exact dm _ (yR h)
theorem RY {n:Nat} {m:Nat} {Z V:Rho} {N:Nat} {e e2:Env} {tmps:Array Value} (he:abL m Z e e2) (h:Fa n V N e tmps):Fa m (comp V Z) N e2 tmps :=
 ⟨h.1,fun t v hv=>by
  obtain ⟨u,h1,h2⟩:=he _ (yR hv)
  obtain ⟨v',h3,h4⟩:=h.2 t u h1
  exact ⟨v',h3,h2.trans h4⟩⟩
def fV (n:Nat):aC->Prop
 |.dead=>True
 |.ro cs=>dU n cs=true/\okL cs=true
 |.rw cs=>dU n cs=true/\okL cs=true
 |.gr cs _=>dU n cs=true/\okL cs=true
 |.dfr=>True
 |.loop _ _ _ e _ _ _=>∀ t v,Env.get e t=some v->closed n v=true/\okV v=true
 |.map es=>∀ p ∈ es,closed n p.2=true/\okV p.2=true
 |.iter m _=>m<n
 |.deep _ sp=>∀ x ∈ sp,closed n x.2=true/\okV x.2=true
theorem zV {n:Nat} {V:Rho} {cs:List Value} (h:∀ (k:Nat) (hk:k<cs.length),∃ v',gJ n V cs[k] v'):dU n cs=true/\okL cs=true:=by
 refine ⟨(ou _ _).2 fun v hv=>?_,(Pg _).2 fun v hv=>?_⟩
 all_goals
  obtain ⟨k,hk,rfl⟩:=ew hv
  obtain ⟨v',a⟩:=h k hk
 ·exact rU a
 ·exact Nu a
theorem jg {G:Nat->Prop} {n:Nat} {V:Rho} {w:World} {p:Pl} {o:aC} (h:L8 G n V w p o):fV n o:=by
 cases o with
 |dead=>trivial
 |ro cs =>
  refine zV (V:=V) fun k hk=>?_
  obtain ⟨_,h2⟩:=h (fun hc=>by subst hc;simp at hk)
  obtain ⟨v',_,h3⟩:=h2 k hk
  exact ⟨v',h3⟩
 |rw cs =>
  refine zV (V:=V) fun k hk=>?_
  obtain ⟨_,_,rc,t,_,h4,h5⟩:=h (fun hc=>by subst hc;simp at hk)
  exact ⟨_,h5 k hk oO⟩
 |gr cs t =>
  refine zV (V:=V) fun k hk=>?_
  obtain ⟨_,_,rc,_,_,h4,h5⟩:=h (fun hc=>by subst hc;simp at hk)
  exact ⟨_,h5 k hk oO⟩
 |dfr=>trivial
 |loop st pend N e params assign body =>
  obtain ⟨_,r,_,_,_,_,_,_,h8⟩:=h
  intro t v hv
  obtain ⟨v',_,h9⟩:=h8.2 t v hv
  exact ⟨rU h9,Nu h9⟩
 |map es =>
  obtain ⟨_,ents,clock,_,h3,h4,_⟩:=h
  intro p hp
  obtain ⟨k,hk,rfl⟩:=ew hp
  have:=(h4 k hk oO).2.2.1
  exact ⟨rU this,Nu this⟩
 |iter m seen=>exact h.2.1
 |deep qs sp =>
  intro x hx
  obtain ⟨_,v',_,h4⟩:=h.2 x hx
  exact ⟨rU h4,Nu h4⟩
theorem lZ {U:Heap} {n m i:Nat} {Z:Rho} {o:aC} (hπ:∀ i<m,Z i=⟨i,0,0⟩) (hnm:m<=n) (hi:i<m) (hσ:U[i]?=some o) (hc:fV m o):xX U n Z (Z i) o:=by
 rw [hπ i hi]
 have cells:∀ cs:List Value,(dU m cs=true/\okL cs=true)->∀ (k:Nat) (h:k<cs.length) (h':k<cs.length),jS n Z cs[k] cs[k]:=fun cs a k h _=>rV hπ hnm cs a.1 a.2 k h
 cases o with
 |dead=>trivial
 |ro cs=>exact .inr ⟨cs,hσ,fun k h=>⟨by simpa using h,by simpa using cells cs hc k h h⟩⟩
 |rw cs=>exact .inr ⟨rfl,cs,.inl hσ,aD _,cells cs hc⟩
 |gr cs t=>exact .inr ⟨rfl,cs,hσ,aD _,cells cs hc⟩
 |dfr=>exact hσ
 |loop st pend N e params assign body=>exact ⟨e,hσ,fun t v hv=>⟨v,hv,qA hπ hnm v (hc t v hv).1 (hc t v hv).2⟩⟩
 |map es=>exact ⟨es,hσ,rfl,fun i h _=>⟨rfl,qA hπ hnm _ (hc _ (cP h)).1 (hc _ (cP h)).2⟩⟩
 |iter k seen=>exact ⟨fe hc hnm,by rw [hπ k hc];exact hσ,rfl⟩
 |deep qs sp=>exact ⟨rfl,.inr ⟨sp,hσ⟩,fun x hx=>⟨qs,sp,hσ,x.2,hx,qA hπ hnm _ (hc x hx).1 (hc x hx).2⟩⟩
def aW (σin U:Heap) (v v2:Value) (σ2:Heap):Prop :=
 (v2=v/\σ2=U)\/((∀ (i:Nat) (o:aC),σin[i]?=some o->fV σin.length o)->∃ Z,ZK σin.length Z U σ2/\jS σ2.length Z v2 v)
theorem aW.all {σin U:Heap} {v:Value}:aW σin U v v U:=Or.inl ⟨rfl,rfl⟩
theorem vk {σin U:Heap} (h:U.take σin.length=σin) {i:Nat} {o:aC} (hi:σin[i]?=some o):U[i]?=some o:=by
 rw [<- h] at hi
 have:=aS hi
 rw [ey] at hi
 split at hi
 ·exact hi
 ·simp at hi
theorem aW.mk {σin U:Heap} {v v2:Value} (Z:Rho) (news:List aC) (hσ:U.take σin.length=σin) (hid:∀ i < σin.length,Z i=⟨i,0,0⟩)
  (hge:∀ j<news.length,σin.length<=(Z (σin.length+j)).b) (hd:∀ j k,j<news.length->k<news.length->(Z (σin.length+j)).b=(Z (σin.length+k)).b->j=k)
  (hn:∀ j o,news[j]?=some o->xX U (σin.length+news.length) Z (Z (σin.length+j)) o) (hv:jS (σin.length+news.length) Z v2 v):aW σin U v v2 (σin++news):=by
 refine Or.inr fun f=>⟨Z,⟨by simp,hid,fun i o2 hi=>?_,fun i j oi oj hi hj _ _ a=>?_⟩,by simpa using hv⟩
 ·rw [bA]
  by_cases e:i < σin.length
  ·rw [bO e] at hi
   exact lZ hid oO e (vk hσ hi) (f i o2 hi)
  ·rw [bE oO] at hi
   have:=hn _ o2 hi
   rwa [show σin.length+(i - σin.length)=i from by omega] at this
 ·have h1:=aS hi
  have h2:=aS hj
  simp only [bA] at h1 h2
  by_cases c:i < σin.length <;> by_cases d:j < σin.length
  ·rw [hid i c,hid j d] at a;exact a
  ·rw [hid i c] at a
   have:=hge (j - σin.length) oO
   rw [show σin.length+(j - σin.length)=j from by omega,<- a] at this
   simp only at this;omega
  ·rw [hid j d] at a
   have:=hge (i - σin.length) oO
   rw [show σin.length+(i - σin.length)=i from by omega,a] at this
   simp only at this;omega
  ·have:=hd (i - σin.length) (j - σin.length) oO oO (by
    rw [show σin.length+(i - σin.length)=i from by omega,show σin.length+(j - σin.length)=j from by omega];exact a)
   omega
theorem aW.plain {σin U:Heap} {v:Value} (hσ:U.take σin.length=σin) (hv:plain v=true):aW σin U v v σin:=by
 have:=aW.mk (σin:=σin) (U:=U) (v:=v) (v2:=v) (fun i=>⟨i,0,0⟩) [] hσ (fun _ _=>rfl) (fun _ h=>by simp at h) (fun _ _ h=>by simp at h) (fun _ _ h=>by simp at h) (bF v hv)
 simpa using this
inductive tC (P:Program) (e:Env) (U:Heap):List ResultVar->List Value->Prop
 |nil:tC P e U [] []
 |tmp {t:Tmp} {v:Value} {rest:List ResultVar} {vs:List Value} (h:Env.get e t=some v) (hr:tC P e U rest vs):tC P e U (.tmp t::rest) (v::vs)
 |cellN {a ty size bytes i o:Nat} {z:Value} {cs:List Value} {rest:List ResultVar} {vs:List Value} (ht:Ty P ty size true z bytes) (h:Env.get e a=some (.pointer (some ⟨i,o,none⟩)))
   (hc:aK U i o size=some cs) (hr:tC P e U rest vs):tC P e U (.cell a ty::rest) (.agg cs.toArray::vs)
 |cell1 {a ty size bytes i o:Nat} {z v:Value} {rest:List ResultVar} {vs:List Value} (ht:Ty P ty size false z bytes) (h:Env.get e a=some (.pointer (some ⟨i,o,none⟩)))
   (hc:aI U i o=some v) (hr:tC P e U rest vs):tC P e U (.cell a ty::rest) (v::vs)
def wJ (tmps:Array Value):ResultVar->Sem Value
 |.tmp t=>pure (tmps.getD t undef)
 |.cell a t=>do loadVar t (<- asAddr (tmps.getD a undef))
section
variable {P:Program} {e:Env} {U:Heap}
theorem tC.run {G:Nat->Prop} {w0 w:World} {V:Rho} {N:Nat} {tmps:Array Value} (hs:Sim G w0 V U w) (ht:Fa U.length V N e tmps) {rv:List ResultVar} {vs:List Value} (h:tC P e U rv vs) :
  ∃ rs:List Value,(rv.mapM (wJ tmps)).run P w=.ok rs w/\lU U.length V vs.toArray rs.toArray:=by
 have cons:∀ {v r:Value} {vs rs:List Value},gJ U.length V v r->lU U.length V vs.toArray rs.toArray->lU U.length V (v::vs).toArray (r::rs).toArray:=by
  intro v r vs rs h1 h2
  refine ⟨by have:=h2.1;simp at this ⊢;exact this,fun i hi c=>?_⟩
  cases i with
  |zero=>exact h1
  |succ i=>exact h2.2 i (oU hi) (oU c)
 induction h with
 |nil=>exact ⟨[],by simp,rfl,fun i hi _=>by simp at hi⟩
 |@tmp t v rest vs h hr ih =>
  obtain ⟨rs,h1,h2⟩:=ih
  obtain ⟨v',g1,g2⟩:=ht.2 t v h
  refine ⟨v'::rs,?_,cons g2 h2⟩
  have e0:(wJ tmps (.tmp t)).run P w=.ok v' w:=by simp [wJ,g1]
  simp only [List.mapM_cons,Sem.run_bind,e0,h1,Result.andThen_ok,Sem.run_pure]
 |@cellN a ty size bytes i o z cs rest vs hty h hc hr ih =>
  obtain ⟨rs,h1,h2⟩:=ih
  obtain ⟨v',g1,g2⟩:=ht.2 a _ h
  obtain ⟨rfl,_⟩:=nV g2
  obtain ⟨cr,c1,c2,c3⟩:=Nr (P:=P) hs hc
  refine ⟨.agg cr.toArray::rs,?_,cons (.agg _ _ c3.1 c3.2) h2⟩
  have e0:(wJ tmps (.cell a ty)).run P w=.ok (.agg cr.toArray) w:=by simp [wJ,g1,asAddr,loadVar,hty.isAgg,hty.sizeOf,c1]
  simp only [List.mapM_cons,Sem.run_bind,e0,h1,Result.andThen_ok,Sem.run_pure]
 |@cell1 a ty size bytes i o z v rest vs hty h hc hr ih =>
  obtain ⟨rs,h1,h2⟩:=ih
  obtain ⟨v',g1,g2⟩:=ht.2 a _ h
  obtain ⟨rfl,_⟩:=nV g2
  obtain ⟨_,c2⟩:=kG hs (CB hc)
  obtain ⟨u,c3,c4⟩:=c2 0 oS
  simp only [cV] at c3
  refine ⟨u::rs,?_,cons (oU c4) h2⟩
  have e0:(wJ tmps (.cell a ty)).run P w=.ok u w:=by simp [wJ,g1,asAddr,loadVar,hty.isAgg,c3]
  simp only [List.mapM_cons,Sem.run_bind,e0,h1,Result.andThen_ok,Sem.run_pure]
def jH (vs:List Value):Value :=
 match vs with
 |[v]=>v
 |vs=>.tuple vs.toArray
def kE:List Nat->Heap->Heap
 |[],U=>U
 |i::l,U=>kE l (U.set i .dead)
theorem vw:∀ (l:List Nat) (U:Heap),(kE l U).length=U.length
 |[],_=>rfl
 |i::l,U=>by rw [kE,vw l];simp
def jh (P:Program) (σin:Heap) (rv:List ResultVar) (R:Value->Heap->Prop):Post
 |.normal,e,mk,U|.ret,e,mk,U=>mk.Nodup/\(∀ i ∈ mk,U[i]?=some .dfr)/\∃ vs v2 σ2,tC P e (kE mk U) rv vs/\aW σin (kE mk U) (jH vs) v2 σ2/\R v2 σ2
 |_,_,_,_=>False
theorem Nv {fn:Func} {G:Nat->Prop} {w0:World} {V:Rho} {N:Nat} {tmps:Array Value} {R:Ending->World->Prop} {vs:List Value} {rv:List ResultVar} (hrv:fn.results=rv.toArray) :
  ∀ (mk:List Nat) (U:Heap) (w:World),Sim G w0 V U w->Fa U.length V N e tmps->mk.Nodup->(∀ i ∈ mk,U[i]?=some .dfr)->tC P e (kE mk U) rv vs ->
  (∀ w' vr,Sim G w0 V (kE mk U) w'->gJ U.length V (jH vs) vr->R (.returned vr) w') ->
  LeavesInM Fence.wide 0 P fn tmps R (mk.map fun i=>{ target:=.collected (V i).b,args:=#[] }) .returning w
 |[],U,w,hs,ht,_,_,hr,hR=>by
  obtain ⟨rs,h1,h2⟩:=hr.run hs ht
  have c:vs.length=rs.length:=by simpa using h2.1
  refine ⟨if h:rs.length=1 then rs[0] else .tuple rs.toArray,?_,hR w _ hs ?_⟩
  ·have e0:results fn tmps=(do let vs <- rv.toArray.mapM (wJ tmps);pure (if h:vs.size=1 then vs[0] else .tuple vs)):=by
    unfold results
    rw [hrv]
    rfl
   rw [e0,Array.mapM_eq_mapM_toList]
   simp only [Sem.run_bind,Sem.run_map,h1,Result.andThen_ok,Sem.run_pure,fm]
   split <;> rfl
  ·unfold jH
   match vs,rs,c,h2 with
   |[],[],_,h2=>exact .tuple _ _ h2.1 h2.2
   |[v],[r],_,h2=>exact h2.2 0 oS oS
   |v::v2::vs,r::r2::rs,_,h2 =>
    rw [dif_neg oS]
    exact .tuple _ _ h2.1 h2.2
 |i::mk,U,w,hs,ht,hnd,hm,hr,hR=>by
  obtain ⟨g1,g2⟩:=hs.obj i _ (hm i oS)
  refine ⟨by simp,.inl ⟨(V i).b,w.putObj (V i).b (.deferred none),rfl,run_takeDeferred g2,?_⟩⟩
  have g:Sim G w0 V (U.set i .dead) (w.putObj (V i).b (.deferred none)):=by
   refine wH hs (hm i oS) trivial (rQ w _ _) trivial ?_
   intro j k seen hj
   left
   intro f
   obtain ⟨_,_,ents,clock,sb,_,g6,_⟩:=hs.obj j _ hj
   rw [f,g2] at g6;simp at g6
  have a:=List.nodup_cons.1 hnd
  refine Nv hrv mk _ _ g (by rw [dk];exact ht) a.2 (fun j hj=>?_) hr (fun w' vr h1 h2=>hR w' vr h1 (by rwa [dk] at h2))
  rw [eE (fun d=>a.1 (by rw [d];exact hj))]
  exact hm j (by simp [hj])
theorem aH {f:FuncId} {fn:Func} {c:Code} {args:List Value} {R:Value->Heap->Prop} {rv:List ResultVar} (n0 N:Nat) (hf:P.funcs[f]?=some fn) (hb:fn.body=some c:=by rfl) (hrv:fn.results=rv.toArray:=by rfl)
  (hN:fn.ntmps=N:=by rfl) (h0:U.length=n0:=by rfl) (hn:Nat.ble args.length N=true:=by rfl) (h:bJ P n0 N none c (jh P U rv R) (uy 0 args) [] U):eu P f args U R:=by
 subst hN h0
 intro G w0 V ar w hs ha
 have hlen:args.length=ar.size:=by simpa using ha.1
 have hle:=cC hn
 refine callsIn_of_wp_marks hf hb trivial ?_ rfl
 have g:Inv U.length fn.ntmps G w0 (xC U.length V []) (uy 0 args) [] U { tmps:=ar++Array.replicate (fn.ntmps - ar.size) undef,defers:=[] } w:=by
  refine ⟨aD _,V,fun _ h=>(uO h).symm,hs,⟨by simp;omega,fun t v hv=>?_⟩,by rw [Ce];rfl,fun i hi=>by simp at hi⟩
  obtain ⟨_,h2⟩:=zS args 0 t v hv
  simp only [Nat.sub_zero] at h2
  obtain ⟨hl,rfl⟩:=List.getElem?_eq_some_iff.1 h2
  exact ⟨ar[t],by rw [Array.getElem?_append_left oO];simp [show t<ar.size from by omega],ha.2 t (oU hl) oO⟩
 refine wpIn_mono (h G w0 _ _ w g) ?_
 rintro ex A' w' ⟨e',e,σ',q,h0,ρ',d,m,k⟩
 replace d:∀ i < U.length,ρ' i=V i:=fun i hi=>(d i hi).trans (uO hi)
 have j:jh P U rv R .ret e' e σ'->LeavesInM Fence.wide 0 P fn A'.tmps (fun en w'=>∃ ρ' vr v σ',en=.returned vr/\R v σ'/\gJ σ'.length ρ' v vr/\U.length<=σ'.length/\(∀ i < U.length,ρ' i=V i)/\Sim G w0 ρ' σ' w') A'.defers .returning w':=by
  rintro ⟨n,hm,vs,v2,σ2,hr,a,hR⟩
  rw [k.mks,Ce,cY,bN]
  refine Nv hrv e σ' w' m k.tmps n hm hr fun w'' vr h1 h2=>?_
  rcases a with ⟨rfl,rfl⟩|a
  ·exact ⟨ρ',vr,jH vs,kE e σ',rfl,hR,by rw [vw];exact h2,by rw [vw];exact h0,d,h1⟩
  ·obtain ⟨Z,g1,g2⟩:=a fun i o hi=>jg (hs.obj i o hi)
   exact ⟨comp ρ' Z,vr,v2,σ2,rfl,hR,g2.trans h2,g1.le,fun i hi=>(comp_id (g1.id i hi)).trans (d i hi),IW g1 h1⟩
 cases ex with
 |normal=>exact j q
 |ret=>exact j q
 |exit id=>exact q.elim
 |goto l=>exact q.elim
 |panic ch=>exact q.elim
 |outgrown=>exact q.elim
theorem dG {σin:Heap} {rv:List ResultVar} {R:Value->Heap->Prop} {vs:List Value} {v2:Value} {σ2:Heap} (hr:tC P e U rv vs) (href:aW σin U (jH vs) v2 σ2) (hR:R v2 σ2) :
  jh P σin rv R .ret e [] U:=⟨List.nodup_nil,fun _ h=>by simp at h,vs,v2,σ2,hr,href,hR⟩
theorem RZ {σin:Heap} {rv:List ResultVar} {R:Value->Heap->Prop} {vs:List Value} {v2:Value} {σ2:Heap} (hr:tC P e U rv vs) (href:aW σin U (jH vs) v2 σ2) (hR:R v2 σ2) :
  jh P σin rv R .normal e [] U:=⟨List.nodup_nil,fun _ h=>by simp at h,vs,v2,σ2,hr,href,hR⟩
end
section
variable {P:Program} {n0 N:Nat} {rd:Option Nat} {Q:Post} {e:Env} {mk:List Nat} {U:Heap} {K:Env->List Nat->Heap->Prop} {all rest:List Oper} {x y:Code} {c:Operand}
theorem rG (h:K e mk U):fQ K Q .normal e mk U:=h
theorem abM (h:Q .ret e mk U):fQ K Q .ret e mk U:=h
theorem ZL {id:Nat} (h:Q (.exit id) e mk U):fQ K Q (.exit id) e mk U:=h
theorem uz {id:Nat} (h:Q .normal e mk U):dK id Q .normal e mk U:=h
theorem ae4 {id:Nat} (h:Q .ret e mk U):dK id Q .ret e mk U:=h
theorem CJ {id id':Nat} (hid:Nat.beq id' id=true) (h:Q .normal e mk U):dK id Q (.exit id') e mk U:=by
 have:id'=id:=aM hid
 simp only [dK,if_pos this];exact h
theorem DT {id id':Nat} (hid:Nat.beq id' id=false) (h:Q (.exit id') e mk U):dK id Q (.exit id') e mk U:=by
 have:¬ id'=id:=fun he=>by subst he;simp at hid
 simp only [dK,if_neg this];exact h
theorem oV {b:Bool} (hc:aT e c=some (.bool b)) (hb:b=true) (h:bJ P n0 N rd x Q e mk U):bJ P n0 N rd (.cond c x y) Q e mk U :=
 Vz hc (fun _=>h) (fun h'=>by rw [hb] at h';simp at h')
theorem lg {b:Bool} (hc:aT e c=some (.bool b)) (hb:b=false) (h:bJ P n0 N rd y Q e mk U):bJ P n0 N rd (.cond c x y) Q e mk U :=
 Vz hc (fun h'=>by rw [hb] at h';simp at h') (fun _=>h)
theorem jm {p:Prop} [Decidable p] (hc:aT e c=some (.bool (decide p))) (h1:p->bJ P n0 N rd x Q e mk U) (h2:¬ p->bJ P n0 N rd y Q e mk U):bJ P n0 N rd (.cond c x y) Q e mk U :=
 Vz hc (fun h'=>h1 (of_decide_eq_true h')) (fun h'=>h2 (of_decide_eq_false h'))
theorem ae5 {o:Oper} {j:Nat} {b:Bool} (_hg:jM all e j=some (.bool b)) (h1:b=true->dA P n0 N rd all (o::rest) K e mk U) (h2:b=false->dA P n0 N rd all (o::rest) K e mk U) :
  dA P n0 N rd all (o::rest) K e mk U:=by
 cases hb:b
 ·exact h2 hb
 ·exact h1 hb
theorem zC {d:Option Nat} {op:Op} {ty:TypeId} {pos:String} {after:Array Edge} {j:Nat} {p:Prop} [Decidable p] {want:Bool} (hg:jM all e j=some (.bool (decide p)))
  (h1:p->dA P n0 N rd all (⟨d,op,ty,pos,after,some (j,want)⟩::rest) K e mk U) (h2:¬ p->dA P n0 N rd all (⟨d,op,ty,pos,after,some (j,want)⟩::rest) K e mk U) :
  dA P n0 N rd all (⟨d,op,ty,pos,after,some (j,want)⟩::rest) K e mk U:=ae5 hg (fun h=>h1 (of_decide_eq_true h)) (fun h=>h2 (of_decide_eq_false h))
section
variable {d:Option Nat} {op:Op} {ty:TypeId} {pos:String} {after:Array Edge} {g:Option (Nat×Bool)}
theorem gU (h:dA P n0 N rd all (⟨d,op,ty,pos,after,none⟩::rest) K e mk U):dA P n0 N rd all (⟨d,op,ty,pos,after,none⟩::rest) K e mk U:=h
theorem gG {j:Nat} {b:Bool} (h:dA P n0 N rd all (⟨d,op,ty,pos,after,some (j,b)⟩::rest) K e mk U):dA P n0 N rd all (⟨d,op,ty,pos,after,some (j,b)⟩::rest) K e mk U:=h
theorem wK {x:Operand} (h:dA P n0 N rd all (⟨d,.move x,ty,pos,after,g⟩::rest) K e mk U):dA P n0 N rd all (⟨d,.move x,ty,pos,after,g⟩::rest) K e mk U:=h
theorem uD {x:Operand} (h:dA P n0 N rd all (⟨d,.assign x,ty,pos,after,g⟩::rest) K e mk U):dA P n0 N rd all (⟨d,.assign x,ty,pos,after,g⟩::rest) K e mk U:=h
theorem gFA {t f:Nat} {x:Operand} (h:dA P n0 N rd all (⟨d,.fieldAddr t x f,ty,pos,after,g⟩::rest) K e mk U):dA P n0 N rd all (⟨d,.fieldAddr t x f,ty,pos,after,g⟩::rest) K e mk U:=h
theorem cO {t:Nat} {x:Operand} (h:dA P n0 N rd all (⟨d,.load t x,ty,pos,after,g⟩::rest) K e mk U):dA P n0 N rd all (⟨d,.load t x,ty,pos,after,g⟩::rest) K e mk U:=h
theorem gZ {t:Nat} {x y:Operand} (h:dA P n0 N rd all (⟨d,.store t x y,ty,pos,after,g⟩::rest) K e mk U):dA P n0 N rd all (⟨d,.store t x y,ty,pos,after,g⟩::rest) K e mk U:=h
theorem yS {o:BinOp} {t t':Nat} {x y:Operand} (h:dA P n0 N rd all (⟨d,.binOp o t x y t',ty,pos,after,g⟩::rest) K e mk U):dA P n0 N rd all (⟨d,.binOp o t x y t',ty,pos,after,g⟩::rest) K e mk U:=h
theorem Fh {t t':Nat} {x y:Operand} (h:dA P n0 N rd all (⟨d,.binOp .add t x y t',ty,pos,after,g⟩::rest) K e mk U):dA P n0 N rd all (⟨d,.binOp .add t x y t',ty,pos,after,g⟩::rest) K e mk U:=h
theorem ae6 {t t':Nat} {x y:Operand} (h:dA P n0 N rd all (⟨d,.binOp .sub t x y t',ty,pos,after,g⟩::rest) K e mk U):dA P n0 N rd all (⟨d,.binOp .sub t x y t',ty,pos,after,g⟩::rest) K e mk U:=h
theorem abN {t t':Nat} {x y:Operand} (h:dA P n0 N rd all (⟨d,.binOp .mul t x y t',ty,pos,after,g⟩::rest) K e mk U):dA P n0 N rd all (⟨d,.binOp .mul t x y t',ty,pos,after,g⟩::rest) K e mk U:=h
theorem rW {t:Nat} {x:Operand} (h:dA P n0 N rd all (⟨d,.unOp .not t x,ty,pos,after,g⟩::rest) K e mk U):dA P n0 N rd all (⟨d,.unOp .not t x,ty,pos,after,g⟩::rest) K e mk U:=h
theorem ae7 {t:Nat} {x:Operand} (h:dA P n0 N rd all (⟨d,.unOp .neg t x,ty,pos,after,g⟩::rest) K e mk U):dA P n0 N rd all (⟨d,.unOp .neg t x,ty,pos,after,g⟩::rest) K e mk U:=h
theorem lM {x y z:Operand} (h:dA P n0 N rd all (⟨d,.pick x y z,ty,pos,after,g⟩::rest) K e mk U):dA P n0 N rd all (⟨d,.pick x y z,ty,pos,after,g⟩::rest) K e mk U:=h
theorem ae8 {t:Nat} {x:Operand} (h:dA P n0 N rd all (⟨d,.box t x,ty,pos,after,g⟩::rest) K e mk U):dA P n0 N rd all (⟨d,.box t x,ty,pos,after,g⟩::rest) K e mk U:=h
theorem yT {t:Nat} (h:dA P n0 N rd all (⟨d,.alloc t,ty,pos,after,g⟩::rest) K e mk U):dA P n0 N rd all (⟨d,.alloc t,ty,pos,after,g⟩::rest) K e mk U:=h
theorem Jw {i:Nat} {x:Operand} (h:dA P n0 N rd all (⟨d,.extract x i,ty,pos,after,g⟩::rest) K e mk U):dA P n0 N rd all (⟨d,.extract x i,ty,pos,after,g⟩::rest) K e mk U:=h
theorem gNil {x:Operand} (h:dA P n0 N rd all (⟨d,.nilCheck x,ty,pos,after,g⟩::rest) K e mk U):dA P n0 N rd all (⟨d,.nilCheck x,ty,pos,after,g⟩::rest) K e mk U:=h
theorem gIA {t:Nat} {x y:Operand} (h:dA P n0 N rd all (⟨d,.indexAddr t x y,ty,pos,after,g⟩::rest) K e mk U):dA P n0 N rd all (⟨d,.indexAddr t x y,ty,pos,after,g⟩::rest) K e mk U:=h
theorem Iq {as:Array Operand} {ts:Array TypeId} (h:dA P n0 N rd all (⟨d,.call { callee:=.builtin .len,args:=as,argTypes:=ts },ty,pos,after,g⟩::rest) K e mk U):dA P n0 N rd all (⟨d,.call { callee:=.builtin .len,args:=as,argTypes:=ts },ty,pos,after,g⟩::rest) K e mk U:=h
theorem gMax {as:Array Operand} {ts:Array TypeId} (h:dA P n0 N rd all (⟨d,.call { callee:=.builtin .max,args:=as,argTypes:=ts },ty,pos,after,g⟩::rest) K e mk U):dA P n0 N rd all (⟨d,.call { callee:=.builtin .max,args:=as,argTypes:=ts },ty,pos,after,g⟩::rest) K e mk U:=h
theorem ae9 {as:Array Operand} {ts:Array TypeId} (h:dA P n0 N rd all (⟨d,.call { callee:=.builtin .min,args:=as,argTypes:=ts },ty,pos,after,g⟩::rest) K e mk U):dA P n0 N rd all (⟨d,.call { callee:=.builtin .min,args:=as,argTypes:=ts },ty,pos,after,g⟩::rest) K e mk U:=h
theorem gConv {t u:Nat} {x:Operand} (h:dA P n0 N rd all (⟨d,.convert t u x,ty,pos,after,g⟩::rest) K e mk U):dA P n0 N rd all (⟨d,.convert t u x,ty,pos,after,g⟩::rest) K e mk U:=h
theorem gMkF {f:Fn} {as bs:Array Operand} (h:dA P n0 N rd all (⟨d,.makeFunc f as bs,ty,pos,after,g⟩::rest) K e mk U):dA P n0 N rd all (⟨d,.makeFunc f as bs,ty,pos,after,g⟩::rest) K e mk U:=h
theorem dV {x:Operand} {as:Array Operand} {ts:Array TypeId} (h:dA P n0 N rd all (⟨d,.call { callee:=.value x,args:=as,argTypes:=ts },ty,pos,after,g⟩::rest) K e mk U):dA P n0 N rd all (⟨d,.call { callee:=.value x,args:=as,argTypes:=ts },ty,pos,after,g⟩::rest) K e mk U:=h
theorem Pj {t:Nat} {ps:Array (Nat×Operand)} (h:dA P n0 N rd all (⟨d,.build t ps,ty,pos,after,g⟩::rest) K e mk U):dA P n0 N rd all (⟨d,.build t ps,ty,pos,after,g⟩::rest) K e mk U:=h
theorem Bc {t n:Nat} {ps:Array (Nat×Operand)} (h:dA P n0 N rd all (⟨d,.buildSlice t n ps,ty,pos,after,g⟩::rest) K e mk U):dA P n0 N rd all (⟨d,.buildSlice t n ps,ty,pos,after,g⟩::rest) K e mk U:=h
theorem Pm {t:Nat} {x:Operand} {a b c:Option Operand} (h:dA P n0 N rd all (⟨d,.slice t x a b c,ty,pos,after,g⟩::rest) K e mk U):dA P n0 N rd all (⟨d,.slice t x a b c,ty,pos,after,g⟩::rest) K e mk U:=h
theorem ahA {as:Array Operand} {ts:Array TypeId} (h:dA P n0 N rd all (⟨d,.call { callee:=.builtin .clear,args:=as,argTypes:=ts },ty,pos,after,g⟩::rest) K e mk U):dA P n0 N rd all (⟨d,.call { callee:=.builtin .clear,args:=as,argTypes:=ts },ty,pos,after,g⟩::rest) K e mk U:=h
theorem gCopy {as:Array Operand} {ts:Array TypeId} (h:dA P n0 N rd all (⟨d,.call { callee:=.builtin .copy,args:=as,argTypes:=ts },ty,pos,after,g⟩::rest) K e mk U):dA P n0 N rd all (⟨d,.call { callee:=.builtin .copy,args:=as,argTypes:=ts },ty,pos,after,g⟩::rest) K e mk U:=h
theorem abO {t:Nat} {x y:Operand} (h:dA P n0 N rd all (⟨d,.makeSlice t x y,ty,pos,after,g⟩::rest) K e mk U):dA P n0 N rd all (⟨d,.makeSlice t x y,ty,pos,after,g⟩::rest) K e mk U:=h
theorem gApp {as:Array Operand} {ts:Array TypeId} (h:dA P n0 N rd all (⟨d,.call { callee:=.builtin .append,args:=as,argTypes:=ts },ty,pos,after,g⟩::rest) K e mk U):dA P n0 N rd all (⟨d,.call { callee:=.builtin .append,args:=as,argTypes:=ts },ty,pos,after,g⟩::rest) K e mk U:=h
end
theorem fE {p:Prop} [Decidable p] (h:p):decide p=true:=decide_eq_true h
theorem bM {p:Prop} [Decidable p] (h:¬ p):decide p=false:=decide_eq_false h
end
end Go.AH
