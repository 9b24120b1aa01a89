/- Rules for calls in abstract heaps: values, operations, steps and branches of one call are shown at a list of small objects, and hold in every memory that carries such objects. Conditions: stand in each theorem. -/
import Derived.RangeFuncNested
import Derived.RangeFuncLeaves
import Derived.OrdersIn
import Derived.Still
import Derived.Laws.CopyRow
import Derived.Laws.Cells
import Derived.Laws.Tables
import Derived.Laws.AppendOwn
import Derived.Great.BuildSlice
theorem oU {A B:Prop} (a:A) (h:A→B:=by intro h_;simpa using h_):B:=h a
theorem oK {P:Prop} (h:P:=by kernel_rfl):P:=h
theorem oO {P:Prop} (h:P:=by omega):P:=h
theorem oR {P:Prop} (h:P:=by rfl):P:=h
theorem oA {P:Prop} (h:P:=by assumption):P:=h
theorem oD {P:Prop} (h:P:=by decide):P:=h
theorem oS {P:Prop} (h:P:=by simp):P:=h
abbrev aD:=@Nat.le_refl
abbrev aE:=@Bool.and_eq_true
abbrev aL:=@Option.bind_eq_some_iff
abbrev aM:=@Nat.eq_of_beq_eq_true
abbrev aR:=@List.length_append
abbrev bA:=@Nat.zero_add
abbrev bE:=@List.getElem?_append_right
abbrev bL:=@List.append_nil
abbrev bN:=@Nat.zero_le
abbrev bO:=@List.getElem?_toArray
abbrev bR:=@List.getElem?_append_left
abbrev bX:=@Nat.blt_eq
abbrev cA:=@Nat.le_of_ble_eq_true
abbrev cC:=@List.getElem?_eq_getElem
abbrev cD:=@List.append_assoc
abbrev cE:=@List.getD_eq_getElem?_getD
abbrev cF:=@Nat.add_assoc
abbrev cG:=@List.map_cons
abbrev cH:=@List.set_append_left
abbrev cI:=@Nat.mul_one
abbrev cJ:=@Int.tdiv_eq_ediv_of_nonneg
abbrev cL:=@List.getElem_map
abbrev cM:=@Int.toNat_natCast
abbrev cN:=@List.getElem?_map
abbrev cP:=@List.getElem_mem
abbrev cQ:=@List.length_map
abbrev cU:=@Nat.succ_pos
abbrev cV:=@Nat.add_zero
abbrev cX:=@List.set_set
abbrev cY:=@Nat.sub_self
abbrev dz:=@List.map_nil
abbrev dC:=@List.getElem_take
abbrev dE:=@Int.le_refl
abbrev dT:=@List.mem_cons_of_mem
abbrev ea:=@List.length_set
abbrev eb:=@List.length_nil
abbrev ec:=@List.getElem_cons_zero
abbrev ee:=@Array.getElem_toList
abbrev eg:=@List.length_cons
abbrev eh:=@Option.map_some
abbrev ej:=@Nat.le_trans
abbrev eo:=@List.all_eq_true
abbrev eq:=@Bool.or_eq_true
abbrev er:=@Int.mul_nonneg
abbrev ew:=@List.mem_of_getElem?
abbrev ey:=@List.getElem_of_mem
abbrev eA:=@List.flatten_cons
abbrev eC:=@List.map_append
abbrev eD:=@List.map_congr_left
abbrev eE:=@List.getElem?_take
abbrev eI:=@List.length_take
abbrev eJ:=@List.take_take
abbrev eK:=@Nat.le_of_lt
abbrev eL:=@List.drop_of_length_le
abbrev eM:=@List.getElem?_eq_none
abbrev eN:=@List.getElem?_set_ne
abbrev eO:=@List.getElem?_drop
abbrev eQ:=@Bool.not_eq_true'
abbrev eR:=@List.nil_append
abbrev eT:=@Array.getD_eq_getD_getElem?
abbrev eV:=@List.getElem_append_right
abbrev eW:=@List.getElem_append_left
abbrev eZ:=@List.take_length
abbrev e6:=@List.length_drop
abbrev e7:=@Nat.lt_or_ge
abbrev e8:=@Nat.add_comm
abbrev fa:=@Array.getElem?_replicate
abbrev fc:=@List.mem_singleton
abbrev fe:=@List.findIdx?_cons
abbrev ff:=@List.flatten_nil
abbrev fg:=@Array.getElem?_setIfInBounds_ne
abbrev fh:=@Nat.mul_le_mul_right
abbrev fi:=@Nat.lt_of_lt_of_le
abbrev fj:=@Nat.min_eq_left
abbrev fk:=@List.drop_drop
abbrev fo:=@Int.mul_le_mul
abbrev fp:=@List.take_append_of_le_length
abbrev fq:=@Nat.ble_eq_true_of_le
abbrev ft:=@List.getElem?_range
abbrev fu:=@Nat.lt_or_gt_of_ne
abbrev fv:=@Nat.lt_trichotomy
abbrev fw:=@List.size_toArray
abbrev fx:=@List.ext_getElem?
abbrev fy:=@List.range_succ
abbrev fz:=@Array.getElem?_setIfInBounds_self_of_lt
abbrev fI:=@Array.getElem?_eq_getElem
abbrev fL:=@List.set_append_right
abbrev fN:=@List.length_replicate
abbrev fR:=@List.mem_cons_self
abbrev fS:=@List.drop_append_of_le_length
abbrev fT:=@Option.map_eq_some_iff
abbrev fW:=@List.mem_append_left
abbrev fX:=@List.getElem_toArray
namespace Go.AH
open Go
structure Pl where
 b:Nat
 o:Nat
 s:Nat:=0
abbrev Rho:=Nat→Pl
def comp (ρ r:Rho):Rho:=fun i=>⟨(ρ (r i).b).b,(ρ (r i).b).o+(r i).o,(ρ (r i).b).s⟩
mutual
def ren (r:Rho):Value→Value
 |.pointer (some ⟨i,o,s⟩)=>.pointer (some ⟨(r i).b,(r i).o+o,s⟩)
 |.slice (some ⟨i,o,s⟩) n c=>.slice (some ⟨(r i).b,(r i).o+o,s⟩) n c
 |.map (some i)=>.map (some (r i).b)
 |.chan (some i)=>.chan (some (r i).b)
 |.func (.yield l) a b=>.func (.yield (r l).b) (zH r a) (zH r b)
 |.func f a b=>.func f (zH r a) (zH r b)
 |.iface t v=>.iface t (ren r v)
 |.agg cs=>.agg (zH r cs)
 |.tuple cs=>.tuple (zH r cs)
 |v=>v
def zH (r:Rho):Array Value→Array Value
 |⟨l⟩=>⟨yF r l⟩
def yF (r:Rho):List Value→List Value
 |[]=>[]
 |v::l=>ren r v::yF r l
end
theorem AY (r:Rho) (l:List Value):yF r l=l.map (ren r):=by
 induction l with
 |nil=>rfl
 |cons v l ih=>simp [yF,ih]
theorem Xv (r:Rho) (a:Array Value):zH r a=a.map (ren r):=by
 cases a with|mk l=>simp [zH,AY]
theorem qx (r:Rho) (a:Array Value):(zH r a).size=a.size:=by simp [Xv]
theorem Dx (r:Rho) (a:Array Value) (i:Nat) (h:i<(zH r a).size) (h':i<a.size):(zH r a)[i]=ren r a[i]:=by
 simp [Xv]
inductive VQ (q:Bool) (n:Nat) (ρ:Rho):Value→Value→Prop
 |bool (b:Bool):VQ q n ρ (.bool b) (.bool b)
 |int (k:IntKind) (x:Int):VQ q n ρ (.int k x) (.int k x)
 |string (s:ByteArray):VQ q n ρ (.string s) (.string s)
 |nilPtr:VQ q n ρ (.pointer none) (.pointer none)
 |ptr (i o:Nat) (hi:i<n):VQ q n ρ (.pointer (some ⟨i,o,none⟩)) (.pointer (some ⟨(ρ i).b,(ρ i).o+o,none⟩))
 |nilSlice:VQ q n ρ (.slice none 0 0) (.slice none 0 0)
 |zslice (a:Option Addr) (hq:q=false):VQ q n ρ (.slice none 0 1) (.slice a 0 0)
 |zsliceZ (hq:q=true):VQ q n ρ (.slice none 0 1) (.slice none 0 1)
 |emptySlice (i o:Nat) (a:Option Addr) (c:Nat):VQ q n ρ (.slice (some ⟨i,o,none⟩) 0 0) (.slice a 0 c)
 |slice (i o l c c':Nat) (h:c≤c') (hi:i<n):VQ q n ρ (.slice (some ⟨i,o,none⟩) l c) (.slice (some ⟨(ρ i).b,(ρ i).o+o,none⟩) l c')
 |gslice (i o l c c' sz:Nat) (h:c≤c'∧(sz=0→c=c')) (hs:(ρ i).o+o+c'*sz≤(ρ i).s) (hi:i<n) (hq:q=false):VQ q n ρ (.slice (some ⟨i,o,some sz⟩) l c) (.slice (some ⟨(ρ i).b,(ρ i).o+o,none⟩) l c')
 |sliceG (i o l c c' sz:Nat) (h:c≤c') (hi:i<n) (hq:q=true):VQ q n ρ (.slice (some ⟨i,o,none⟩) l c) (.slice (some ⟨(ρ i).b,(ρ i).o+o,some sz⟩) l c')
 |gsliceG (i o l c c' sz:Nat) (h:c≤c'∧(sz=0→c=c')) (hi:i<n) (hq:q=true):VQ q n ρ (.slice (some ⟨i,o,some sz⟩) l c) (.slice (some ⟨(ρ i).b,(ρ i).o+o,some sz⟩) l c')
 |nilMap:VQ q n ρ (.map none) (.map none)
 |map (i:Nat) (hi:i<n):VQ q n ρ (.map (some i)) (.map (some (ρ i).b))
 |stamp (i:Nat) (hi:i<n) (hq:q=false):VQ q n ρ (.chan (some i)) (.int .i64 ((ρ i).s:Int))
 |stampG (i:Nat) (hi:i<n) (hq:q=true):VQ q n ρ (.chan (some i)) (.chan (some (ρ i).b))
 |nilFunc:VQ q n ρ .nilFunc .nilFunc
 |func (f:FuncId) (a a' b b':Array Value) (h1:a.size=a'.size) (h2:b.size=b'.size)
   (h3:∀ (i:Nat) (h:i<a.size) (h':i<a'.size),VQ q n ρ a[i] a'[i]) (h4:∀ (i:Nat) (h:i<b.size) (h':i<b'.size),VQ q n ρ b[i] b'[i]) :
   VQ q n ρ (.func (.func f) a b) (.func (.func f) a' b')
 |yield (l:Nat) (hi:l<n):VQ q n ρ (.func (.yield l) #[] #[]) (.func (.yield (ρ l).b) #[] #[])
 |nilIface:VQ q n ρ .nilIface .nilIface
 |iface (t:TypeId) (v v':Value) (h:VQ q n ρ v v'):VQ q n ρ (.iface t v) (.iface t v')
 |agg (a a':Array Value) (h1:a.size=a'.size) (h3:∀ (i:Nat) (h:i<a.size) (h':i<a'.size),VQ q n ρ a[i] a'[i]):VQ q n ρ (.agg a) (.agg a')
 |tuple (a a':Array Value) (h1:a.size=a'.size) (h3:∀ (i:Nat) (h:i<a.size) (h':i<a'.size),VQ q n ρ a[i] a'[i]):VQ q n ρ (.tuple a) (.tuple a')
abbrev gq:=VQ false
abbrev jG:=VQ true
def lV (n:Nat) (ρ:Rho) (a a':Array Value):Prop:=a.size=a'.size∧∀ (i:Nat) (h:i<a.size) (h':i<a'.size),gq n ρ a[i] a'[i]
theorem Gx {q:Bool} {n m:Nat} {ρ r:Rho} {v v':Value} (hr:∀ i<n,(r i).b<m) (h:VQ q n (comp ρ r) v v'):VQ q m ρ (ren r v) v':=by
 induction h with
 |bool b=>exact .bool b
 |int k n=>exact .int k n
 |string s=>exact .string s
 |nilPtr=>exact .nilPtr
 |ptr i o hi=>simp only [ren,comp,cF];exact .ptr _ _ (hr _ hi)
 |nilSlice=>exact .nilSlice
 |zslice a hq=>exact .zslice a hq
 |zsliceZ hq=>exact .zsliceZ hq
 |emptySlice i o a c=>exact .emptySlice _ _ _ _
 |slice i o n c c' h hi=>simp only [ren,comp,cF];exact .slice _ _ _ _ _ h (hr _ hi)
 |gslice i o l c c' sz h hs hi hq =>
  simp only [comp] at hs
  simp only [ren,comp,cF];exact .gslice _ _ _ _ _ _ h oO (hr _ hi) hq
 |sliceG i o l c c' sz h hi hq=>simp only [ren,comp,cF];exact .sliceG _ _ _ _ _ _ h (hr _ hi) hq
 |gsliceG i o l c c' sz h hi hq=>simp only [ren,comp,cF];exact .gsliceG _ _ _ _ _ _ h (hr _ hi) hq
 |nilMap=>exact .nilMap
 |map i hi=>exact .map _ (hr _ hi)
 |stamp i hi hq=>exact .stamp _ (hr _ hi) hq
 |stampG i hi hq=>exact .stampG _ (hr _ hi) hq
 |nilFunc=>exact .nilFunc
 |func f a a' b b' h1 h2 h3 h4 ih3 ih4 =>
  refine .func f _ _ _ _ (by rw [qx];exact h1) (by rw [qx];exact h2) ?_ ?_
  ·intro i h h';rw [Dx _ _ _ _ (by rw [qx] at h;exact h)];exact ih3 i _ h'
  ·intro i h h';rw [Dx _ _ _ _ (by rw [qx] at h;exact h)];exact ih4 i _ h'
 |yield l hi=>exact .yield _ (hr _ hi)
 |nilIface=>exact .nilIface
 |iface t v v' h ih=>exact .iface t _ _ ih
 |agg a a' h1 h3 ih =>
  refine .agg _ _ (by rw [qx];exact h1) ?_
  intro i h h';rw [Dx _ _ _ _ (by rw [qx] at h;exact h)];exact ih i _ h'
 |tuple a a' h1 h3 ih =>
  refine .tuple _ _ (by rw [qx];exact h1) ?_
  intro i h h';rw [Dx _ _ _ _ (by rw [qx] at h;exact h)];exact ih i _ h'
theorem VQ.trans {q:Bool} {n m:Nat} {ρ r:Rho} {v u:Value} (h:VQ true n r v u):∀ {v':Value},VQ q m ρ u v'→VQ q n (comp ρ r) v v':=by
 induction h with
 |bool b=>intro v' h';cases h';exact .bool _
 |int k n=>intro v' h';cases h';exact .int _ _
 |string s=>intro v' h';cases h';exact .string _
 |nilPtr=>intro v' h';cases h';exact .nilPtr
 |ptr i o hi =>
  intro v' h';cases h'
  have:=VQ.ptr (q:=q) (ρ:=comp ρ r) i o hi
  simp only [comp,cF] at this;exact this
 |nilSlice=>intro v' h';cases h';exact .nilSlice
 |zslice a hq=>simp at hq
 |zsliceZ hq =>
  intro v' h';cases h' with
  |zslice a hq=>exact .zslice a hq
  |zsliceZ hq=>exact .zsliceZ hq
 |emptySlice i o a c =>
  intro v' h'
  generalize hu:Value.slice a 0 c=u at h'
  cases h' <;> simp at hu
  ·exact .emptySlice _ _ _ _
  ·exact .emptySlice _ _ _ _
  all_goals (obtain ⟨_,rfl,_⟩:=hu;exact .emptySlice _ _ _ _)
 |slice i o l c c' h hi =>
  intro v' h';cases h' with
  |emptySlice =>
          obtain rfl:c=0:=oO
          exact .emptySlice _ _ _ _
  |slice _ _ _ _ c'' h2 =>
   have:=VQ.slice (q:=q) (ρ:=comp ρ r) i o l c c'' oO hi
   simp only [comp,cF] at this;exact this
  |sliceG _ _ _ _ c'' sz h2 hi2 hq =>
   have:=VQ.sliceG (q:=q) (ρ:=comp ρ r) i o l c c'' sz oO hi hq
   simp only [comp,cF] at this;exact this
 |gslice i o l c c' sz h hs hi hq=>exact absurd hq oS
 |sliceG i o l c c' sz h hi hq =>
  intro v' h';cases h' with
  |gslice _ _ _ _ c'' _ h2 hs hi2 hq2 =>
   have:=VQ.slice (q:=q) (ρ:=comp ρ r) i o l c c'' oO hi
   simp only [comp,cF] at this;exact this
  |gsliceG _ _ _ _ c'' _ h2 hi2 hq2 =>
   have:=VQ.sliceG (q:=q) (ρ:=comp ρ r) i o l c c'' sz oO hi hq2
   simp only [comp,cF] at this;exact this
 |gsliceG i o l c c' sz h hi hq =>
  intro v' h';cases h' with
  |gslice _ _ _ _ c'' _ h2 hs hi2 hq2 =>
   have:=VQ.gslice (q:=q) (ρ:=comp ρ r) i o l c c'' sz oO (by simp only [comp];omega) hi hq2
   simp only [comp,cF] at this;exact this
  |gsliceG _ _ _ _ c'' _ h2 hi2 hq2 =>
   have:=VQ.gsliceG (q:=q) (ρ:=comp ρ r) i o l c c'' sz oO hi hq2
   simp only [comp,cF] at this;exact this
 |nilMap=>intro v' h';cases h';exact .nilMap
 |map i hi=>intro v' h';cases h';exact .map (ρ:=comp ρ r) i hi
 |stamp i hi hq=>exact absurd hq oS
 |stampG i hi hq =>
  intro v' h';cases h' with
  |stamp _ hi2 hq2=>exact .stamp (ρ:=comp ρ r) i hi hq2
  |stampG _ hi2 hq2=>exact .stampG (ρ:=comp ρ r) i hi hq2
 |nilFunc=>intro v' h';cases h';exact .nilFunc
 |func f a a' b b' h1 h2 h3 h4 ih3 ih4 =>
  intro v' h';cases h' with
  |func _ _ x _ y g1 g2 g3 g4 =>
   exact .func f _ _ _ _ (h1.trans g1) (h2.trans g2) (fun i h h'=>ih3 i h oO (g3 i oO h')) (fun i h h'=>ih4 i h oO (g4 i oO h'))
 |yield l hi =>
  intro v' h';cases h'
  exact .yield (ρ:=comp ρ r) l hi
 |nilIface=>intro v' h';cases h';exact .nilIface
 |iface t v v' h ih=>intro v'' h';cases h' with|iface _ _ _ g=>exact .iface _ _ _ (ih g)
 |agg a a' h1 h3 ih =>
  intro v' h';cases h' with
  |agg _ x g1 g3=>exact .agg _ _ (h1.trans g1) (fun i h h'=>ih i h oO (g3 i oO h'))
 |tuple a a' h1 h3 ih =>
  intro v' h';cases h' with
  |tuple _ x g1 g3=>exact .tuple _ _ (h1.trans g1) (fun i h h'=>ih i h oO (g3 i oO h'))
theorem VQ.mono {q:Bool} {n m:Nat} {ρ ρ':Rho} {v v':Value} (h:VQ q n ρ v v') (hn:n≤m) (hρ:∀ i<n,ρ' i=ρ i):VQ q m ρ' v v':=by
 induction h with
 |bool b=>exact .bool _
 |int k n=>exact .int _ _
 |string s=>exact .string _
 |nilPtr=>exact .nilPtr
 |ptr i o hi=>rw [← hρ i hi];exact .ptr _ _ oO
 |nilSlice=>exact .nilSlice
 |zslice a hq=>exact .zslice a hq
 |zsliceZ hq=>exact .zsliceZ hq
 |emptySlice i o a c=>exact .emptySlice _ _ _ _
 |slice i o n c c' h hi=>rw [← hρ i hi];exact .slice _ _ _ _ _ h oO
 |gslice i o l c c' sz h hs hi hq=>rw [← hρ i hi] at hs ⊢;exact .gslice _ _ _ _ _ _ h hs oO hq
 |sliceG i o l c c' sz h hi hq=>rw [← hρ i hi];exact .sliceG _ _ _ _ _ _ h oO hq
 |gsliceG i o l c c' sz h hi hq=>rw [← hρ i hi];exact .gsliceG _ _ _ _ _ _ h oO hq
 |nilMap=>exact .nilMap
 |map i hi=>rw [← hρ i hi];exact .map _ oO
 |stamp i hi hq=>rw [← hρ i hi];exact .stamp _ oO hq
 |stampG i hi hq=>rw [← hρ i hi];exact .stampG _ oO hq
 |nilFunc=>exact .nilFunc
 |func f a a' b b' h1 h2 h3 h4 ih3 ih4=>exact .func f _ _ _ _ h1 h2 ih3 ih4
 |yield l hi=>rw [← hρ l hi];exact .yield _ oO
 |nilIface=>exact .nilIface
 |iface t v v' h ih=>exact .iface t _ _ ih
 |agg a a' h1 h3 ih=>exact .agg _ _ h1 ih
 |tuple a a' h1 h3 ih=>exact .tuple _ _ h1 ih
mutual
def plain:Value→Bool
 |.bool _|.int _ _|.string _|.pointer none|.slice none 0 0|.map none|.nilFunc|.nilIface=>true
 |.func (.func _) a b=>xB a && xB b
 |.iface _ v=>plain v
 |.agg cs|.tuple cs=>xB cs
 |_=>false
def xB:Array Value→Bool
 |⟨l⟩=>dL l
def dL:List Value→Bool
 |[]=>true
 |v::l=>plain v && dL l
end
theorem UU (l:List Value):dL l=true↔∀ v ∈ l,plain v=true:=by
 induction l with
 |nil=>simp [dL]
 |cons v l ih=>simp [dL,ih]
mutual
theorem aY {q:Bool} {n:Nat} {ρ:Rho}:(v:Value)→plain v=true→VQ q n ρ v v
 |.bool b,_=>.bool b
 |.int k x,_=>.int k x
 |.string s,_=>.string s
 |.pointer none,_=>.nilPtr
 |.pointer (some _),h=>by simp [plain] at h
 |.slice none 0 0,_=>.nilSlice
 |.slice none (_+1) _,h=>by simp [plain] at h
 |.slice none 0 (_+1),h=>by simp [plain] at h
 |.slice (some _) _ _,h=>by simp [plain] at h
 |.map none,_=>.nilMap
 |.map (some _),h=>by simp [plain] at h
 |.nilFunc,_=>.nilFunc
 |.nilIface,_=>.nilIface
 |.func f a b,h=>match f,h with
  |.func f,h=>by
   simp only [plain,aE] at h
   exact .func f a a b b rfl rfl (fun i h1 _=>sZ a h.1 i h1) (fun i h1 _=>sZ b h.2 i h1)
  |.method _,h=>by simp [plain] at h
  |.methodOf _ _,h=>by simp [plain] at h
  |.via _ _ _ _,h=>by simp [plain] at h
  |.yield _,h=>by simp [plain] at h
 |.iface t v,h=>.iface t v v (aY v (by simpa [plain] using h))
 |.agg cs,h=>.agg cs cs rfl (fun i h1 _=>sZ cs (by simpa [plain] using h) i h1)
 |.tuple cs,h=>.tuple cs cs rfl (fun i h1 _=>sZ cs (by simpa [plain] using h) i h1)
 |.float _ _,h=>by simp [plain] at h
 |.complex _ _ _,h=>by simp [plain] at h
 |.chan _,h=>by simp [plain] at h
theorem sZ {q:Bool} {n:Nat} {ρ:Rho}:(a:Array Value)→xB a=true→∀ (i:Nat) (h:i<a.size),VQ q n ρ a[i] a[i]
 |⟨l⟩,h=>fun i hi=>lC l (by simpa [xB] using h) i hi
theorem lC {q:Bool} {n:Nat} {ρ:Rho}:(l:List Value)→dL l=true→∀ (i:Nat) (h:i<l.length),VQ q n ρ l[i] l[i]
 |[],_=>fun i h=>absurd h (Nat.not_lt_zero i)
 |v::l,h=>fun i hi=>by
  simp only [dL,aE] at h
  cases i with
  |zero=>exact aY v h.1
  |succ i=>exact lC l h.2 i (oU hi)
end
mutual
theorem xQ {r:Rho}:(v:Value)→plain v=true→ren r v=v
 |.bool b,_=>rfl
 |.int k x,_=>rfl
 |.string s,_=>rfl
 |.pointer none,_=>rfl
 |.pointer (some _),h=>by simp [plain] at h
 |.slice none 0 0,_=>rfl
 |.slice none (_+1) _,h=>by simp [plain] at h
 |.slice none 0 (_+1),h=>by simp [plain] at h
 |.slice (some _) _ _,h=>by simp [plain] at h
 |.map none,_=>rfl
 |.map (some _),h=>by simp [plain] at h
 |.nilFunc,_=>rfl
 |.nilIface,_=>rfl
 |.func f a b,h=>match f,h with
  |.func f,h=>by
   simp only [plain,aE] at h
   simp only [ren,yG a h.1,yG b h.2]
  |.method _,h=>by simp [plain] at h
  |.methodOf _ _,h=>by simp [plain] at h
  |.via _ _ _ _,h=>by simp [plain] at h
  |.yield _,h=>by simp [plain] at h
 |.iface t v,h=>by simp only [ren,xQ v (by simpa [plain] using h)]
 |.agg cs,h=>by simp only [ren,yG cs (by simpa [plain] using h)]
 |.tuple cs,h=>by simp only [ren,yG cs (by simpa [plain] using h)]
 |.float _ _,h=>by simp [plain] at h
 |.complex _ _ _,h=>by simp [plain] at h
 |.chan _,h=>by simp [plain] at h
theorem yG {r:Rho}:(a:Array Value)→xB a=true→zH r a=a
 |⟨l⟩,h=>by simp only [zH,vG l (by simpa [xB] using h)]
theorem vG {r:Rho}:(l:List Value)→dL l=true→yF r l=l
 |[],_=>rfl
 |v::l,h=>by
  simp only [dL,aE] at h
  simp only [yF,xQ v h.1,vG l h.2]
end
theorem yH {a:Array Value} (h:xB a=true) (i:Nat) (hi:i<a.size):plain a[i]=true:=by
 cases a with|mk l=>exact (UU l).1 (by simpa [xB] using h) _ oS
theorem bH {q:Bool} {n:Nat} {ρ:Rho} {v v':Value} (h:VQ q n ρ v v') (hp:plain v=true):v'=v:=by
 induction h with
 |bool b=>rfl
 |int k n=>rfl
 |string s=>rfl
 |nilPtr=>rfl
 |ptr i o hi=>simp [plain] at hp
 |nilSlice=>rfl
 |zslice a hq=>simp [plain] at hp
 |zsliceZ hq=>rfl
 |emptySlice i o a c=>simp [plain] at hp
 |gslice i o l c c' sz h hs hi hq=>simp [plain] at hp
 |sliceG i o l c c' sz h hi hq=>simp [plain] at hp
 |gsliceG i o l c c' sz h hi hq=>simp [plain] at hp
 |slice i o n c c' h hi=>simp [plain] at hp
 |nilMap=>rfl
 |map i hi=>simp [plain] at hp
 |stamp i hi hq=>simp [plain] at hp
 |stampG i hi hq=>simp [plain] at hp
 |nilFunc=>rfl
 |func f a a' b b' h1 h2 h3 h4 ih3 ih4 =>
  simp only [plain,aE] at hp
  rw [show a'=a from Array.ext h1.symm (fun i g g'=>ih3 i oO oO (yH hp.1 i oO)),
   show b'=b from Array.ext h2.symm (fun i g g'=>ih4 i oO oO (yH hp.2 i oO))]
 |yield l hi=>simp [plain] at hp
 |nilIface=>rfl
 |iface t v v' h ih=>rw [ih (by simpa [plain] using hp)]
 |agg a a' h1 h3 ih =>
  rw [show a'=a from Array.ext h1.symm (fun i g g'=>ih i oO oO (yH (by simpa [plain] using hp) i oO))]
 |tuple a a' h1 h3 ih =>
  rw [show a'=a from Array.ext h1.symm (fun i g g'=>ih i oO oO (yH (by simpa [plain] using hp) i oO))]
abbrev Env:=List (Nat×Value)
def Env.get:Env→Nat→Option Value
 |[],_=>none
 |(k,v)::e,t=>bif Nat.beq k t then some v else Env.get e t
inductive aB where
 |dead
 |ro (cs:List Value)
 |rw (cs:List Value)
 |gr (cs:List Value) (e:TypeId)
 |dfr
 |loop (st:LoopState) (pend:Option Code) (N:Nat) (e:Env) (params:Array Tmp) (assign body:Code)
 |map (es:List (Value×Value))
 |iter (m:Nat) (seen:List Value)
 |deep (qs:List (List Value)) (sp:List (Nat×Value))
abbrev Heap:=List aB
def aB.owned:aB→Prop
 |.dead=>False
 |.ro _=>False
 |.rw cs=>cs ≠ []
 |.gr cs _=>cs ≠ []
 |.deep _ _=>False
 |_=>True
def EN (n:Nat) (ρ:Rho) (N:Nat) (e:Env) (tmps:Array Value):Prop :=
 tmps.size=N∧∀ t v,Env.get e t=some v→∃ v',tmps[t]?=some v'∧gq n ρ v v'
def YT (n:Nat) (ρ:Rho) (es:List (Value×Value)) (ents:Array MapEntry) (clock:Nat):Prop :=
 ents.size=es.length ∧
 (∀ (i:Nat) (h:i<es.length) (h':i<ents.size),ents[i].key=es[i].1∧plain es[i].1=true∧gq n ρ es[i].2 ents[i].val∧ents[i].born<clock) ∧
 (∀ (i j:Nat) (hi:i<ents.size) (hj:j<ents.size),i<j→ents[i].born<ents[j].born)
def FRow (G:Nat→Prop) (w:World) (q:List Value) (v':Value):Prop :=
 ∃ (a:Option Addr) (cap:Nat),v'=.slice a q.length cap∧q.length≤cap∧(q ≠ []→∃ b o,a=some ⟨b,o,none⟩∧G b∧∀ (k:Nat) (h:k<q.length),w.cell? ⟨b,o+k,none⟩=some q[k])
def LG (G:Nat→Prop) (n:Nat) (ρ:Rho) (w:World) (p:Pl):aB→Prop
 |.dead=>True
 |.ro cs=>cs ≠ []→G p.b∧∀ (k:Nat) (h:k<cs.length),∃ v',w.cell? ⟨p.b,p.o+k,none⟩=some v'∧gq n ρ cs[k] v'
 |.rw cs=>cs ≠ []→¬ G p.b∧p.o=0∧∃ (rc:Array Value) (t:TypeId),w.heap[p.b]?=some (.cells rc t (0,0))∧cs.length≤rc.size ∧
   ∀ (k:Nat) (h:k<cs.length) (h':k<rc.size),gq n ρ cs[k] rc[k]
 |.gr cs e=>cs ≠ []→¬ G p.b∧p.o=0∧∃ rc:Array Value,w.heap[p.b]?=some (.cells rc e (0,0))∧rc.size=p.s∧cs.length≤rc.size ∧
   ∀ (k:Nat) (h:k<cs.length) (h':k<rc.size),gq n ρ cs[k] rc[k]
 |.dfr=>¬ G p.b∧w.heap[p.b]?=some (.deferred (some []))
 |.loop st pend N e params assign body=>¬ G p.b∧∃ r:Loop,w.heap[p.b]?=some (.loop r)∧r.state=st∧r.pending=pend∧r.params=params ∧
   r.assign=assign∧r.body=body∧EN n ρ N e r.tmps
 |.map es=>¬ G p.b∧∃ (ents:Array MapEntry) (clock:Nat),w.heap[p.b]?=some (.map ents clock)∧YT n ρ es ents clock
 |.iter m seen=>¬ G p.b∧m<n∧∃ (ents:Array MapEntry) (clock:Nat) (sb:Array Nat),w.heap[p.b]?=some (.mapIter (some (ρ m).b) clock sb clock) ∧
   w.heap[(ρ m).b]?=some (.map ents clock)∧(∀ e ∈ ents,(sb.contains e.born=true↔e.key ∈ seen))∧(∀ k,seen.getLast?=some k→∃ t,sb.back?=some t∧∀ e ∈ ents,e.key=k→e.born=t)∧p.o=0
 |.deep qs sp=>(qs ≠ []→G p.b∧∀ (k:Nat) (h:k<qs.length),∃ v',w.cell? ⟨p.b,p.o+k,none⟩=some v'∧FRow G w qs[k] v') ∧
   ∀ x ∈ sp,G p.b∧∃ v',w.cell? ⟨p.b,p.o+x.1,none⟩=some v'∧gq n ρ x.2 v'
structure Sim (G:Nat→Prop) (w0:World) (ρ:Rho) (σ:Heap) (w:World):Prop where
 os:w.os=w0.os
 tape:w.tape=w0.tape
 output:w.output=w0.output
 size:w0.heap.size≤w.heap.size
 fgn:∀ b,G b→b<w0.heap.size∧w.heap[b]?=w0.heap[b]?
 obj:∀ i o,σ[i]?=some o→LG G σ.length ρ w (ρ i) o
 inj:∀ i j oi oj,σ[i]?=some oi→σ[j]?=some oj→oi.owned→oj.owned→(ρ i).b=(ρ j).b→i=j
def fen (ρ:Rho):Option Nat→Fence
 |none=>Fence.wide
 |some l=>Fence.wide.inRound (ρ l).b
def aaL (n0:Nat) (ρ0:Rho):List Deferred:=(List.range (ρ0 n0).b).map fun j=>{ target:=.collected (ρ0 (n0+1+j)).b,args:=#[] }
def xC (n:Nat) (ρ:Rho) (T:List Nat):Rho:=fun i=>if i<n then ρ i else if i=n then ⟨T.length,0,0⟩ else ⟨T.getD (i - (n+1)) 0,0,0⟩
theorem uU {n i:Nat} {ρ:Rho} {T:List Nat} (h:i<n):xC n ρ T i=ρ i:=by simp [xC,h]
theorem BX (n:Nat) (ρ:Rho) (T:List Nat):aaL n (xC n ρ T)=T.map fun b=>{ target:=.collected b,args:=#[] }:=by
 have h0:(xC n ρ T n).b=T.length:=by simp [xC]
 unfold aaL
 rw [h0]
 apply List.ext_getElem
 ·simp
 ·intro i h1 h2
  have hi:i<T.length:=by simpa using h1
  simp only [cL,List.getElem_range]
  simp only [xC]
  rw [if_neg oO,if_neg oO,show n+1+i - (n+1)=i by omega,cE,cC hi,Option.getD_some]
structure Hq (T:List Deferred) (n:Nat) (ρ:Rho) (N:Nat) (e:Env) (mk:List Nat) (A:Act):Prop where
 tmps:EN n ρ N e A.tmps
 mks:A.defers=(mk.map fun i=>{ target:=.collected (ρ i).b,args:=#[] })++T
 mkb:∀ i ∈ mk,i<n
def Inv (n0 N:Nat) (G:Nat→Prop) (w0:World) (ρ0:Rho) (e:Env) (mk:List Nat) (σ:Heap) (A:Act) (w:World):Prop :=
 n0≤σ.length∧∃ ρ:Rho,(∀ i<n0,ρ i=ρ0 i)∧Sim G w0 ρ σ w∧Hq (aaL n0 ρ0) σ.length ρ N e mk A
abbrev Post:=Exit→Env→List Nat→Heap→Prop
def bK (P:Program) (n0 N:Nat) (rd:Option Nat) (c:Code) (Q:Post) (e:Env) (mk:List Nat) (σ:Heap):Prop :=
 ∀ G w0 ρ0 A w,Inv n0 N G w0 ρ0 e mk σ A w →
  c.wpIn (fen ρ0 rd) 0 P (fun ex A' w'=>∃ e' mk' σ',Q ex e' mk' σ'∧Inv n0 N G w0 ρ0 e' mk' σ' A' w') A w
section
variable {P:Program} {n0 N:Nat} {rd:Option Nat} {Q Q':Post} {e:Env} {mk:List Nat} {σ:Heap}
theorem bK.mono {c:Code} (h:bK P n0 N rd c Q e mk σ) (hq:∀ ex e mk σ,Q ex e mk σ→Q' ex e mk σ):bK P n0 N rd c Q' e mk σ :=
 fun G w0 ρ0 A w hi=>wpIn_mono (h G w0 ρ0 A w hi) fun _ _ _ ⟨e',a,σ',q,i⟩=>⟨e',a,σ',hq _ _ _ _ q,i⟩
theorem yI (h:Q .normal e mk σ):bK P n0 N rd .skip Q e mk σ:=fun _ _ _ _ _ hi=>wpIn_skip ⟨_,_,_,h,hi⟩
theorem zJ {id:Nat} (h:Q (.exit id) e mk σ):bK P n0 N rd (.exit id) Q e mk σ:=fun _ _ _ _ _ hi=>wpIn_exit ⟨_,_,_,h,hi⟩
theorem Gy (h:Q .ret e mk σ):bK P n0 N rd .ret Q e mk σ:=fun _ _ _ _ _ hi=>wpIn_ret ⟨_,_,_,h,hi⟩
def gy (K:Env→List Nat→Heap→Prop) (Q:Post):Post
 |.normal,e,mk,σ=>K e mk σ
 |ex,e,mk,σ=>Q ex e mk σ
theorem xR {x y:Code} (h:bK P n0 N rd x (gy (bK P n0 N rd y Q) Q) e mk σ):bK P n0 N rd (.seq x y) Q e mk σ:=by
 intro G w0 ρ0 A w hi
 refine wpIn_seq (wpIn_mono (h G w0 ρ0 A w hi) ?_)
 rintro ex A' w' ⟨e',a,σ',q,i⟩
 cases ex with
 |normal=>exact q G w0 ρ0 A' w' i
 |_=>exact ⟨e',a,σ',q,i⟩
def dO (id:Nat) (Q:Post):Post
 |.exit id',e,mk,σ=>if id'=id then Q .normal e mk σ else Q (.exit id') e mk σ
 |ex,e,mk,σ=>Q ex e mk σ
theorem qg {id:Nat} {c:Code} (h:bK P n0 N rd c (dO id Q) e mk σ):bK P n0 N rd (.block id c) Q e mk σ:=by
 intro G w0 ρ0 A w hi
 refine wpIn_block (wpIn_mono (h G w0 ρ0 A w hi) ?_)
 rintro ex A' w' ⟨e',a,σ',q,i⟩
 cases ex with
 |exit id' =>
  simp only [Exit.inBlock,dO] at *
  split
  ·rename_i d;rw [if_pos d] at q;exact ⟨e',a,σ',q,i⟩
  ·rename_i d;rw [if_neg d] at q;exact ⟨e',a,σ',q,i⟩
 |_=>exact ⟨e',a,σ',q,i⟩
def aP (e:Env):Operand→Option Value
 |.tmp t=>Env.get e t
 |.const v=>bif plain v then some v else none
 |.func f=>some (.func (.func f) #[] #[])
 |.global _=>none
theorem oZ {T:List Deferred} {n:Nat} {ρ:Rho} {A:Act} {x:Operand} {v:Value} (h:Hq T n ρ N e mk A) (hx:aP e x=some v):gq n ρ v (A.eval x):=by
 cases x with
 |tmp t =>
  obtain ⟨v',h1,h2⟩:=h.tmps.2 t v hx
  simpa [Act.eval,h1] using h2
 |const u =>
  simp only [aP] at hx
  cases hp:plain u <;> simp [hp] at hx
  subst hx;exact aY u hp
 |func f=>simp only [aP,Option.some.injEq] at hx;subst hx;exact .func f #[] #[] #[] #[] rfl rfl (fun i h=>by simp at h) (fun i h=>by simp at h)
 |global g=>simp [aP] at hx
theorem UW {c:Operand} {x y:Code} {b:Bool} (hc:aP e c=some (.bool b)) (h1:b=true→bK P n0 N rd x Q e mk σ) (h2:b=false→bK P n0 N rd y Q e mk σ) :
  bK P n0 N rd (.cond c x y) Q e mk σ:=by
 intro G w0 ρ0 A w hi
 obtain ⟨h0,ρ,ha,hs,he⟩:=hi
 have hv:=bH (oZ he hc) rfl
 refine wpIn_cond (t:=b) hv ?_
 cases b
 ·exact h2 rfl G w0 ρ0 A w ⟨h0,ρ,ha,hs,he⟩
 ·exact h1 rfl G w0 ρ0 A w ⟨h0,ρ,ha,hs,he⟩
theorem UY {body:Code} (I:Nat→Env→List Nat→Heap→Prop) {m0:Nat} (h0:I m0 e mk σ)
  (round:∀ m e mk σ,I m e mk σ→bK P n0 N rd body (gy (fun e' mk' σ'=>∃ m',m'<m∧I m' e' mk' σ') Q) e mk σ):bK P n0 N rd (.loop body) Q e mk σ:=by
 classical
 intro G w0 ρ0 A w hi
 let R:Act→World→Nat→Prop:=fun A w m=>∃ e mk σ,I m e mk σ∧Inv n0 N G w0 ρ0 e mk σ A w
 have a:∀ A w,(∃ m,R A w m)→∃ m,R A w m∧∀ m',R A w m'→m≤m':=by
  intro A w ⟨m,hm⟩
  induction m using Nat.strongRecOn with
  |_ m ih =>
   by_cases h:∃ m',m'<m∧R A w m'
   ·obtain ⟨m',h1,h2⟩:=h;exact ih m' h1 h2
   ·exact ⟨m,hm,fun m' g=>Nat.le_of_not_lt fun d=>h ⟨m',d,g⟩⟩
 let μ:Act→World→Nat:=fun A w=>if h:∃ m,R A w m then Classical.choose (a A w h) else 0
 have hμ:∀ A w m,R A w m→R A w (μ A w)∧μ A w≤m:=by
  intro A w m hm
  have h:∃ m,R A w m:=⟨m,hm⟩
  have hs:=Classical.choose_spec (a A w h)
  have e1:μ A w=Classical.choose (a A w h):=dif_pos h
  rw [e1];exact ⟨hs.1,hs.2 m hm⟩
 refine wpIn_loop (fun A w=>∃ m,R A w m) μ ⟨m0,e,mk,σ,h0,hi⟩ ?_
 intro A w ⟨m,hm⟩
 obtain ⟨⟨e,mk,σ,hI,c⟩,_⟩:=hμ A w m hm
 refine wpIn_mono (round _ e mk σ hI G w0 ρ0 A w c) ?_
 rintro ex A' w' ⟨e',mk',σ',q,i⟩
 cases ex with
 |normal =>
  obtain ⟨m',d,f⟩:=q
  exact ⟨⟨m',e',mk',σ',f,i⟩,Nat.lt_of_le_of_lt (hμ A' w' m' ⟨e',mk',σ',f,i⟩).2 d⟩
 |_=>exact ⟨e',mk',σ',q,i⟩
end
theorem jl {a b:Nat} (h:¬ a=b):Nat.beq a b=false:=by
 cases hb:Nat.beq a b with
 |false=>rfl
 |true=>exact absurd (aM hb) h
section
variable {P:Program} {n0 N:Nat} {rd:Option Nat} {Q:Post} {e:Env} {mk:List Nat} {σ:Heap}
def bW (P:Program) (rd:Option Nat) (op:Op) (ty:TypeId) (e:Env) (σ:Heap) (v:Value) (σ':Heap):Prop :=
 ∀ o:Oper,o.op=op→o.type=ty→∀ G w0 ρ A w,(∀ l,rd=some l→l < σ.length)→Sim G w0 ρ σ w →
  (∀ x ∈ op.operands,∀ u,aP e x=some u→gq σ.length ρ u (A.eval x))→∀ (next:Act→World→Prop) (Q':Exit→Act→World→Prop),
  (∀ ρ' v' w',gq σ'.length ρ' v v'→σ.length≤σ'.length→(∀ i < σ.length,ρ' i=ρ i)→Sim G w0 ρ' σ' w'→next (A.put o.dst v') w') →
  o.wpIn (fen ρ rd) 0 P A w next Q'
theorem kN (ρ:Rho) (rd:Option Nat) (f:FuncId):(fen ρ rd).fn f:=by cases rd <;> trivial
theorem AZ (ρ:Rho) (rd:Option Nat):(fen ρ rd).depth=none:=by cases rd <;> rfl
theorem lW {ρ ρ':Rho} {rd:Option Nat} (h:∀ l,rd=some l→ρ' l=ρ l):fen ρ' rd=fen ρ rd:=by
 cases rd with
 |none=>rfl
 |some l=>simp only [fen,h l rfl]
theorem bY {op:Op} {ty:TypeId} {v:Value} {σ':Heap} (hd:∀ c,op ≠ .defer c)
  (h:∀ (o:Oper),o.op=op→o.type=ty→∀ G w0 ρ (A:Act) w,Sim G w0 ρ σ w→(∀ x ∈ op.operands,∀ u,aP e x=some u→gq σ.length ρ u (A.eval x)) →
   ∃ ρ' v' w',((execOp A.eval o).run P w=.ok (.value v') w'∨((execOp A.eval o).run P w=.ok .skip w'∧v'=undef)) ∧
    gq σ'.length ρ' v v'∧σ.length≤σ'.length∧(∀ i < σ.length,ρ' i=ρ i)∧Sim G w0 ρ' σ' w'):bW P rd op ty e σ v σ':=by
 intro o ho a G w0 ρ A w _ hs hx next Q' hn
 obtain ⟨ρ',v',w',hr,h1,h2,h3,h4⟩:=h o ho a G w0 ρ A w hs hx
 refine ⟨fun f _=>kN _ _ _,?_⟩
 rw [Oper.semAt_eq _ _ _ (by rw [ho];exact hd)]
 rcases hr with hr|⟨hr,rfl⟩
 ·rw [hr];exact hn ρ' v' w' h1 h2 h3 h4
 ·rw [hr];exact hn ρ' undef w' h1 h2 h3 h4
def wpL (F:Fence) (n:Nat) (P:Program) (ops:Array Oper) (Q:Exit→Act→World→Prop):List Oper→Act→World→Prop
 |[],a,w=>Q .normal a w
 |o::rest,a,w=>if Region.wanted o (yielded ops a.tmps) then o.wpIn F n P a w (wpL F n P ops Q rest) Q else wpL F n P ops Q rest (a.put o.dst undef) w
theorem EO {F:Fence} (hF:∀ f,F.fn f) {n:Nat} {ops:Array Oper} {Q:Exit→Act→World→Prop}:∀ (rest:List Oper) (k:Nat) (a:Act) (w:World),
  (∀ j,rest[j]?=ops[k+j]?)→wpL F n P ops Q rest a w→wpOpsIn F n P ops Q (List.range' k rest.length) a w
 |[],_,_,_,_,h=>h
 |o::rest,k,a,w,hl,h=>by
  have h0:ops[k]?=some o:=by simpa using (hl 0).symm
  simp only [eg,List.range'_succ,wpOpsIn,h0]
  simp only [wpL] at h
  have c:∀ j,rest[j]?=ops[k+1+j]?:=fun j=>by have:=hl (j+1);simpa [cF,e8 1 j] using this
  split
  ·rename_i hw;rw [if_pos hw] at h
   exact Oper.wpIn_mono (fun a w h=>EO hF rest (k+1) a w c h) h
  ·rename_i hw;rw [if_neg hw] at h
   exact ⟨fun f _=>hF f,EO hF rest (k+1) _ _ c h⟩
def bZ (P:Program) (n0 N:Nat) (rd:Option Nat) (all rest:List Oper) (K:Env→List Nat→Heap→Prop) (e:Env) (mk:List Nat) (σ:Heap):Prop :=
 ∀ G w0 ρ0 A w,Inv n0 N G w0 ρ0 e mk σ A w→∀ Q':Exit→Act→World→Prop,
  (∀ e' mk' σ' A' w',K e' mk' σ'→Inv n0 N G w0 ρ0 e' mk' σ' A' w'→Q' .normal A' w')→wpL (fen ρ0 rd) 0 P all.toArray Q' rest A w
theorem aG {id:Nat} {l:List Oper} (h:bZ P n0 N rd l l (Q .normal) e mk σ):bK P n0 N rd (.region id l.toArray false) Q e mk σ:=by
 intro G w0 ρ0 A w hi
 refine wpIn_region ?_
 rw [List.range_eq_range']
 have:=EO (P:=P) (kN ρ0 rd) l 0 A w oS (h G w0 ρ0 A w hi (fun ex A' w'=>∃ e' a σ',Q ex e' a σ'∧Inv n0 N G w0 ρ0 e' a σ' A' w') fun e' a σ' A' w' hk c=>⟨e',a,σ',hk,c⟩)
 simpa using this
variable {all rest:List Oper} {K:Env→List Nat→Heap→Prop}
theorem kP (h:K e mk σ):bZ P n0 N rd all [] K e mk σ:=fun _ _ _ _ _ hi _ hQ=>hQ _ _ _ _ _ h hi
theorem Q7 {n:Nat} {ρ:Rho} {d:Nat} {v v':Value} {tmps:Array Value} (h:EN n ρ N e tmps) (hd:d<N) (hv:gq n ρ v v'):EN n ρ N ((d,v)::e) (tmps.setIfInBounds d v'):=by
 refine ⟨by rw [Array.size_setIfInBounds];exact h.1,fun t u hu=>?_⟩
 simp only [Env.get] at hu
 by_cases a:d=t
 ·subst a
  simp at hu;subst hu
  exact ⟨v',by rw [fz (by rw [h.1];exact hd)],hv⟩
 ·have:Nat.beq d t=false:=jl a
  rw [this] at hu
  obtain ⟨u',h1,h2⟩:=h.2 t u hu
  exact ⟨u',by rw [fg a];exact h1,h2⟩
theorem xU {n m:Nat} {ρ ρ':Rho} {tmps:Array Value} (h:EN n ρ N e tmps) (hn:n≤m) (hρ:∀ i<n,ρ' i=ρ i):EN m ρ' N e tmps :=
 ⟨h.1,fun t v hv=>let ⟨v',h1,h2⟩:=h.2 t v hv;⟨v',h1,h2.mono hn hρ⟩⟩
theorem xW {T:List Deferred} {n m:Nat} {ρ ρ':Rho} {A:Act} (h:Hq T n ρ N e mk A) (hn:n≤m) (hρ:∀ i<n,ρ' i=ρ i):Hq T m ρ' N e mk A :=
 ⟨xU h.tmps hn hρ,by rw [h.mks];congr 1;exact eD fun i hi=>by rw [hρ i (h.mkb i hi)],fun i hi=>fi (h.mkb i hi) hn⟩
theorem vH {T:List Deferred} {n:Nat} {ρ:Rho} {d:Nat} {v v':Value} {A:Act} (h:Hq T n ρ N e mk A) (hd:d<N) (hv:gq n ρ v v'):Hq T n ρ N ((d,v)::e) mk (A.put (some d) v') :=
 ⟨Q7 h.tmps hd hv,h.mks,h.mkb⟩
def lQ (rd:Option Nat) (n0:Nat):Bool:=match rd with|none=>true|some l=>Nat.blt l n0
theorem lS {n:Nat} (h:lQ rd n=true):∀ l,rd=some l→l<n:=by
 intro l hl;subst hl;simpa [lQ,bX] using h
theorem Ii {o:Oper} {v:Value} {σ':Heap} (hrd:lQ rd n0=true) (h:bW P rd o.op o.type e σ v σ') (hd:∀ d,o.dst=some d→d<N)
  (hw:∀ T n ρ A,Hq T n ρ N e mk A→Region.wanted o (yielded all.toArray A.tmps)=true)
  (k:bZ P n0 N rd all rest K (match o.dst with|some d=>(d,v)::e|none=>e) mk σ'):bZ P n0 N rd all (o::rest) K e mk σ:=by
 intro G w0 ρ0 A w hi Q' hQ
 obtain ⟨h0,ρ,ha,hs,he⟩:=hi
 simp only [wpL]
 rw [if_pos (hw _ _ _ _ he)]
 have a:=lS hrd
 rw [← lW (rd:=rd) (ρ':=ρ) (ρ:=ρ0) fun l hl=>ha l (a l hl)]
 refine h o rfl rfl G w0 ρ A w (fun l hl=>fi (a l hl) h0) hs (fun x _ u hu=>oZ he hu) _ _ ?_
 intro ρ' v' w' hv g hρ f
 rw [lW (rd:=rd) (ρ':=ρ) (ρ:=ρ0) fun l hl=>ha l (a l hl)]
 refine k G w0 ρ0 _ w' ⟨oO,ρ',fun i hi=>(hρ i oO).trans (ha i hi),f,?_⟩ Q' hQ
 have c:=xW he g hρ
 cases hdst:o.dst with
 |none=>simpa [Act.put] using c
 |some d=>exact vH c (hd d hdst) hv
theorem st {d:Nat} {op:Op} {ty:TypeId} {pos:String} {after:Array Edge} {v:Value} {σ':Heap} (h:bW P rd op ty e σ v σ') (hrd:lQ rd n0=true) (hd:Nat.blt d N=true)
  (k:bZ P n0 N rd all rest K ((d,v)::e) mk σ'):bZ P n0 N rd all (⟨some d,op,ty,pos,after,none⟩::rest) K e mk σ :=
 Ii hrd h (fun d' a=>by cases a;simpa [bX] using hd) (fun _ _ _ _ _=>rfl) k
theorem stN {op:Op} {ty:TypeId} {pos:String} {after:Array Edge} {v:Value} {σ':Heap} (h:bW P rd op ty e σ v σ') (hrd:lQ rd n0=true)
  (k:bZ P n0 N rd all rest K e mk σ'):bZ P n0 N rd all (⟨none,op,ty,pos,after,none⟩::rest) K e mk σ :=
 Ii hrd h (fun d' a=>by cases a) (fun _ _ _ _ _=>rfl) k
def jH (all:List Oper) (e:Env) (j:Nat):Option Value :=
 match all[j]? with
 |some o=>match o.dst with|some t=>Env.get e t|none=>none
 |none=>none
theorem zK {T:List Deferred} {n:Nat} {ρ:Rho} {A:Act} {j:Nat} {b:Bool} (h:Hq T n ρ N e mk A) (hg:jH all e j=some (.bool b)):yielded all.toArray A.tmps j=some b:=by
 unfold jH at hg
 unfold yielded
 simp only [bO]
 cases ho:all[j]? with
 |none=>simp [ho] at hg
 |some o =>
  simp only [ho] at hg
  cases hd:o.dst with
  |none=>simp [hd] at hg
  |some t =>
   simp only [hd] at hg
   obtain ⟨v',h1,h2⟩:=h.tmps.2 t _ hg
   rw [bH h2 rfl] at h1
   simp [hd,h1]
theorem stG {d:Nat} {op:Op} {ty:TypeId} {pos:String} {after:Array Edge} {v:Value} {σ':Heap} {j:Nat} {b want:Bool} (hg:jH all e j=some (.bool b)) (hb:b=want)
  (h:bW P rd op ty e σ v σ') (hrd:lQ rd n0=true) (hd:Nat.blt d N=true)
  (k:bZ P n0 N rd all rest K ((d,v)::e) mk σ'):bZ P n0 N rd all (⟨some d,op,ty,pos,after,some (j,want)⟩::rest) K e mk σ :=
 Ii hrd h (fun d' a=>by cases a;simpa [bX] using hd) (fun T n ρ A he=>by simp only [Region.wanted,zK he hg,hb];cases want <;> rfl) k
theorem stS {d:Nat} {op:Op} {ty:TypeId} {pos:String} {after:Array Edge} {j:Nat} {b want:Bool} (hg:jH all e j=some (.bool b)) (hb:b=!want) (hd:Nat.blt d N=true)
  (k:bZ P n0 N rd all rest K ((d,undef)::e) mk σ):bZ P n0 N rd all (⟨some d,op,ty,pos,after,some (j,want)⟩::rest) K e mk σ:=by
 intro G w0 ρ0 A w hi Q' hQ
 obtain ⟨h0,ρ,ha,hs,he⟩:=hi
 simp only [wpL]
 rw [if_neg (by simp only [Region.wanted,zK he hg,hb];cases want <;> simp)]
 exact k G w0 ρ0 _ w ⟨h0,ρ,ha,hs,vH he (by simpa [bX] using hd) (aY undef rfl)⟩ Q' hQ
def eU (P:Program) (f:FuncId) (args:List Value) (σ:Heap) (R:Value→Heap→Prop):Prop :=
 ∀ G w0 ρ (ar:Array Value) w,Sim G w0 ρ σ w→lV σ.length ρ args.toArray ar →
  CallsIn Fence.wide 0 P f ar w (fun en w'=>∃ ρ' vr v σ',en=.returned vr∧R v σ'∧gq σ'.length ρ' v vr∧σ.length≤σ'.length∧(∀ i < σ.length,ρ' i=ρ i)∧Sim G w0 ρ' σ' w')
def Ev (P:Program) (f:FuncId) (args:List Value) (σ:Heap) (v:Value) (σ':Heap):Prop:=eU P f args σ (fun v' s=>v'=v∧s=σ')
theorem eU.mono {f:FuncId} {args:List Value} {R R':Value→Heap→Prop} (h:eU P f args σ R) (hr:∀ v s,R v s→R' v s):eU P f args σ R' :=
 fun G w0 ρ ar w hs ha=>(h G w0 ρ ar w hs ha).mono fun _ _ ⟨ρ',vr,v,σ',h1,h2,h3⟩=>⟨ρ',vr,v,σ',h1,hr _ _ h2,h3⟩
def uD:Nat→List Value→Env
 |_,[]=>[]
 |k,v::l=>(k,v)::uD (k+1) l
theorem zL:∀ (l:List Value) (k t:Nat) (v:Value),Env.get (uD k l) t=some v→k≤t∧l[t - k]?=some v
 |[],_,_,_,h=>by simp [uD,Env.get] at h
 |u::l,k,t,v,h=>by
  simp only [uD,Env.get] at h
  by_cases a:k=t
  ·subst a;simp at h;subst h;simp
  ·have:Nat.beq k t=false:=jl a
   rw [this] at h
   obtain ⟨h1,h2⟩:=zL l (k+1) t v h
   refine ⟨oO,?_⟩
   rw [show t - k=(t - (k+1))+1 from by omega];simpa using h2
def MP:List (Nat×Value)→Nat→Option Value
 |[],_=>none
 |(k,v)::r,o=>bif Nat.beq k o then some v else MP r o
theorem EP:∀ {sp:List (Nat×Value)} {o:Nat} {v:Value},MP sp o=some v→(o,v) ∈ sp
 |[],_,_,h=>by cases h
 |(k,u)::r,o,v,h=>by
  unfold MP at h
  cases hk:Nat.beq k o with
  |true=>rw [hk] at h;simp only [cond_true,Option.some.injEq] at h;subst h;rw [aM hk];exact fR ..
  |false=>rw [hk] at h;exact dT _ (EP h)
def aJ (σ:Heap) (b o n:Nat):Option (List Value) :=
 match σ[b]? with
 |some (.ro cs)=>bif Nat.ble (o+n) cs.length then some ((cs.drop o).take n) else none
 |some (.rw cs)=>bif Nat.ble (o+n) cs.length then some ((cs.drop o).take n) else none
 |some (.gr cs _)=>bif Nat.ble (o+n) cs.length then some ((cs.drop o).take n) else none
 |some (.deep _ sp)=>bif Nat.beq n 1 then (MP sp o).map (fun v=>[v]) else none
 |_=>none
end
def upd (ρ:Rho) (n:Nat) (b:Nat) (s:Nat:=0):Rho:=fun i=>if i=n then ⟨b,0,s⟩ else ρ i
theorem iP {ρ:Rho} {n b s i:Nat} (h:i<n):upd ρ n b s i=ρ i:=by simp [upd,Nat.ne_of_lt h]
theorem oh {ρ:Rho} {n b s:Nat}:upd ρ n b s n=⟨b,0,s⟩:=by simp [upd]
theorem yJ {w w':World} {a:Addr} (h:w'.heap[a.block]?=w.heap[a.block]?):w'.cell? a=w.cell? a:=by simp only [World.cell?,h]
theorem block_lt {w:World} {b:Nat} {o:Obj} (h:w.heap[b]?=some o):b<w.heap.size:=(Array.getElem?_eq_some_iff.1 h).1
theorem lX {w w':World} {a:Addr} {v:Value} (h:w.cell? a=some v) (hh:∀ x,w.heap[a.block]?=some x→w'.heap[a.block]?=some x):w'.cell? a=some v:=by
 rw [← h]
 cases hp:w.heap[a.block]? with
 |none=>simp [World.cell?,hp] at h
 |some x=>exact yJ (by rw [hp];exact hh x hp)
theorem qy {G G':Nat→Prop} {w w':World} {q:List Value} {v':Value} (h:FRow G w q v') (hGG:∀ b,G b→G' b) (hG:∀ b,G b→∀ x,w.heap[b]?=some x→w'.heap[b]?=some x):FRow G' w' q v':=by
 obtain ⟨a,c,h1,h2,h3⟩:=h
 refine ⟨a,c,h1,h2,fun hq=>?_⟩
 obtain ⟨b,o,h4,h5,h6⟩:=h3 hq
 exact ⟨b,o,h4,hGG b h5,fun k hk=>lX (h6 k hk) (hG b h5)⟩
theorem nT {G:Nat→Prop} {n m:Nat} {ρ ρ':Rho} {w w':World} {p:Pl} {o:aB} (h:LG G n ρ w p o) (hn:n≤m) (hρ:∀ i<n,ρ' i=ρ i)
  (hh:∀ x,w.heap[p.b]?=some x→w'.heap[p.b]?=some x) (hit:∀ k seen,o=.iter k seen→∀ x,w.heap[(ρ k).b]?=some x→w'.heap[(ρ k).b]?=some x) (hG:∀ b,G b→∀ x,w.heap[b]?=some x→w'.heap[b]?=some x):LG G m ρ' w' p o:=by
 cases o with
 |dead=>trivial
 |ro cs =>
  intro hc
  obtain ⟨h1,h2⟩:=h hc
  refine ⟨h1,fun k hk=>?_⟩
  obtain ⟨v',h3,h4⟩:=h2 k hk
  refine ⟨v',?_,h4.mono hn hρ⟩
  rw [← h3]
  cases hp:w.heap[p.b]? with
  |none=>simp [World.cell?,hp] at h3
  |some x=>exact yJ (by rw [hp];exact hh x hp)
 |rw cs =>
  intro hc
  obtain ⟨h1,h2,rc,t,h3,h4,h5⟩:=h hc
  exact ⟨h1,h2,rc,t,hh _ h3,h4,fun k hk d=>(h5 k hk d).mono hn hρ⟩
 |gr cs e =>
  intro hc
  obtain ⟨h1,h2,rc,h3,f,h4,h5⟩:=h hc
  exact ⟨h1,h2,rc,hh _ h3,f,h4,fun k hk d=>(h5 k hk d).mono hn hρ⟩
 |dfr=>exact ⟨h.1,hh _ h.2⟩
 |loop st pend N e params assign body =>
  obtain ⟨h1,r,h2,h3,h4,h5,h6,h7,h8⟩:=h
  exact ⟨h1,r,hh _ h2,h3,h4,h5,h6,h7,xU h8 hn hρ⟩
 |map es =>
  obtain ⟨h1,ents,a,h2,h3,h4,h5⟩:=h
  exact ⟨h1,ents,a,hh _ h2,h3,fun i hi c=>⟨(h4 i hi c).1,(h4 i hi c).2.1,(h4 i hi c).2.2.1.mono hn hρ,(h4 i hi c).2.2.2⟩,h5⟩
 |iter k seen =>
  obtain ⟨h1,h2,ents,a,sb,h3,h4,h5⟩:=h
  refine ⟨h1,oO,ents,a,sb,?_,?_,h5⟩
  ·rw [hρ k h2];exact hh _ h3
  ·rw [hρ k h2];exact hit k seen rfl _ h4
 |deep qs sp =>
  refine ⟨fun hq=>?_,fun x hx=>?_⟩
  ·obtain ⟨h1,h2⟩:=h.1 hq
   refine ⟨h1,fun k hk=>?_⟩
   obtain ⟨v',h3,h4⟩:=h2 k hk
   exact ⟨v',lX h3 hh,qy h4 (fun _ hb=>hb) hG⟩
  ·obtain ⟨h1,v',h3,h4⟩:=h.2 x hx
   exact ⟨h1,v',lX h3 hh,h4.mono hn hρ⟩
theorem fD {G:Nat→Prop} {n:Nat} {ρ:Rho} {w:World} {p:Pl} {o:aB} (h:LG G n ρ w p o) (ho:o.owned):p.b<w.heap.size∧¬ G p.b:=by
 cases o with
 |dead=>exact ho.elim
 |ro cs=>exact ho.elim
 |rw cs=>obtain ⟨h1,h2,rc,t,h3,_⟩:=h ho;exact ⟨block_lt h3,h1⟩
 |gr cs e=>obtain ⟨h1,h2,rc,h3,_⟩:=h ho;exact ⟨block_lt h3,h1⟩
 |dfr=>exact ⟨block_lt h.2,h.1⟩
 |loop st pend N e params assign body=>obtain ⟨h1,r,h2,_⟩:=h;exact ⟨block_lt h2,h1⟩
 |map es=>obtain ⟨h1,ents,a,h2,_⟩:=h;exact ⟨block_lt h2,h1⟩
 |iter k seen=>obtain ⟨h1,_,ents,a,sb,h3,_⟩:=h;exact ⟨block_lt h3,h1⟩
 |deep qs sp=>exact ho.elim
theorem nM {w:World} {o x:Obj} {b:Nat} (h:w.heap[b]?=some x):(w.alloc o).heap[b]?=some x:=by
 show (w.heap.push o)[b]?=some x
 rw [Array.getElem?_push,if_neg (by have:=block_lt h;omega)];exact h
theorem gX (w:World) (o:Obj):(w.alloc o).heap[w.heap.size]?=some o:=by
 show (w.heap.push o)[w.heap.size]?=_
 simp
theorem getElem?_snoc {σ:Heap} {o x:aB} {i:Nat} (h:(σ++[o])[i]?=some x):σ[i]?=some x∨(i=σ.length∧x=o):=by
 by_cases hi:i < σ.length
 ·left;rwa [bR hi] at h
 ·right
  rw [bE oO] at h
  by_cases h2:i - σ.length=0
  ·rw [h2] at h;simp at h;exact ⟨oO,h.symm⟩
  ·rw [eM (by simp;omega)] at h;simp at h
theorem aQ {σ:Heap} {o:aB} {i:Nat} (h:σ[i]?=some o):i < σ.length:=(List.getElem?_eq_some_iff.1 h).1
theorem lu {G:Nat→Prop} {w0 w:World} {ρ:Rho} {σ:Heap} (h:Sim G w0 ρ σ w) (O:Obj) (o:aB) (s:Nat:=0)
  (ho:LG G (σ.length+1) (upd ρ σ.length w.heap.size s) (w.alloc O) ⟨w.heap.size,0,s⟩ o):Sim G w0 (upd ρ σ.length w.heap.size s) (σ++[o]) (w.alloc O) where
 os:=h.os
 tape:=h.tape
 output:=h.output
 size:=by have:=h.size;simp;omega
 fgn b hb:=by
  obtain ⟨h1,h2⟩:=h.fgn b hb
  refine ⟨h1,?_⟩
  rw [← h2]
  have a:b<w.heap.size:=by have:=h.size;omega
  exact nM (fI a) |>.trans (fI a).symm
 obj i x hx:=by
  rw [aR]
  rcases getElem?_snoc hx with hx|⟨rfl,rfl⟩
  ·rw [iP (aQ hx)]
   exact nT (h.obj i x hx) oS (fun j hj=>iP hj) (fun _ hy=>nM hy) (fun _ _ _ _ hy=>nM hy) (fun _ _ _ hy=>nM hy)
  ·rw [oh];exact ho
 inj i j oi oj hi hj hoi hoj hij:=by
  rcases getElem?_snoc hi with gi|⟨rfl,rfl⟩ <;> rcases getElem?_snoc hj with gj|⟨rfl,rfl⟩
  ·rw [iP (aQ gi),iP (aQ gj)] at hij
   exact h.inj i j oi oj gi gj hoi hoj hij
  ·rw [iP (aQ gi),oh] at hij
   have:=(fD (h.obj i oi gi) hoi).1
   simp at hij;omega
  ·rw [iP (aQ gj),oh] at hij
   have:=(fD (h.obj j oj gj) hoj).1
   simp at hij;omega
  ·rfl
theorem Dy {G:Nat→Prop} {w0 w:World} {ρ:Rho} {σ:Heap} (h:Sim G w0 ρ σ w):Sim G w0 ρ σ w.drew:=⟨h.os,h.tape,h.output,h.size,h.fgn,h.obj,h.inj⟩
structure Chg (w w':World) (B:Nat):Prop where
 os:w'.os=w.os
 tape:w'.tape=w.tape
 output:w'.output=w.output
 size:w'.heap.size=w.heap.size
 block:∀ b,b ≠ B→w'.heap[b]?=w.heap[b]?
theorem BZ (w:World) (g:Nat) (cs:Array Value):Chg w (w.setRow g cs) g :=
 ⟨rfl,rfl,rfl,by simp [World.setRow],fun b hb=>by simp [World.setRow,Array.getElem?_modify,Ne.symm hb]⟩
theorem rP (w:World) (g:Nat) (o:Obj):Chg w { w with heap:=w.heap.setIfInBounds g o } g :=
 ⟨rfl,rfl,rfl,by simp,fun b hb=>by simp [Ne.symm hb]⟩
theorem getElem?_set' {σ:Heap} {o x:aB} {i j:Nat} (h:(σ.set i o)[j]?=some x):(j=i∧x=o)∨(j ≠ i∧σ[j]?=some x):=by
 by_cases hj:j=i
 ·subst hj
  left
  have a:j < σ.length:=by simpa using (List.getElem?_eq_some_iff.1 h).1
  rw [List.getElem?_set_self a] at h;simp at h;exact ⟨rfl,h.symm⟩
 ·right;rw [eN (Ne.symm hj)] at h;exact ⟨hj,h⟩
theorem wO {G:Nat→Prop} {w0 w w':World} {ρ:Rho} {σ:Heap} (h:Sim G w0 ρ σ w) {i:Nat} {oi o:aB} (hi:σ[i]?=some oi) (hoi:oi.owned) (hc:Chg w w' (ρ i).b)
  (ho:LG G σ.length ρ w' (ρ i) o) (hit:∀ j k seen,σ[j]?=some (.iter k seen)→(ρ k).b ≠ (ρ i).b∨j=i):Sim G w0 ρ (σ.set i o) w' where
 os:=hc.os.trans h.os
 tape:=hc.tape.trans h.tape
 output:=hc.output.trans h.output
 size:=by rw [hc.size];exact h.size
 fgn b hb:=by
  obtain ⟨h1,h2⟩:=h.fgn b hb
  have:b ≠ (ρ i).b:=fun c=>(fD (h.obj i oi hi) hoi).2 (c ▸ hb)
  exact ⟨h1,(hc.block b this).trans h2⟩
 obj j x hx:=by
  rw [ea]
  rcases getElem?_set' hx with ⟨rfl,rfl⟩|⟨m,hx⟩
  ·exact ho
  ·have d:=h.obj j x hx
   by_cases a:x.owned
   ·have g:(ρ j).b ≠ (ρ i).b:=fun c=>m (h.inj j i x oi hx hi a hoi c)
    refine nT d (aD _) (fun _ _=>rfl) (fun y hy=>by rw [hc.block _ g];exact hy) (fun k seen hk y hy=>?_) (fun b hb y hy=>by rw [hc.block b (fun c=>(fD (h.obj i oi hi) hoi).2 (c ▸ hb))];exact hy)
    subst hk
    rcases hit j k seen hx with n|hj
    ·rw [hc.block _ n];exact hy
    ·exact absurd hj m
   ·cases x with
    |dead=>trivial
    |ro cs =>
     intro l
     obtain ⟨h1,h2⟩:=d l
     have g:(ρ j).b ≠ (ρ i).b:=fun c=>(fD (h.obj i oi hi) hoi).2 (c ▸ h1)
     refine ⟨h1,fun k hk=>?_⟩
     obtain ⟨v',h3,h4⟩:=h2 k hk
     exact ⟨v',by rw [← h3];exact yJ (hc.block _ g),h4⟩
    |rw cs=>intro l;exact absurd l a
    |gr cs e=>intro l;exact absurd l a
    |deep qs sp =>
     have f:∀ b,G b→∀ y,w.heap[b]?=some y→w'.heap[b]?=some y:=fun b hb y hy=>by rw [hc.block b (fun c=>(fD (h.obj i oi hi) hoi).2 (c ▸ hb))];exact hy
     refine ⟨fun hq=>?_,fun y hy=>?_⟩
     ·obtain ⟨h1,h2⟩:=d.1 hq
      refine ⟨h1,fun k hk=>?_⟩
      obtain ⟨v',h3,h4⟩:=h2 k hk
      exact ⟨v',lX h3 (f _ h1),qy h4 (fun _ hb=>hb) f⟩
     ·obtain ⟨h1,v',h3,h4⟩:=d.2 y hy
      exact ⟨h1,v',lX h3 (f _ h1),h4⟩
    |_=>exact absurd trivial a
 inj j k oj ok hj hk hoj hok hjk:=by
  rcases getElem?_set' hj with ⟨rfl,rfl⟩|⟨m,gj⟩ <;> rcases getElem?_set' hk with ⟨rfl,rfl⟩|⟨hne',gk⟩
  ·rfl
  ·exact h.inj _ _ oi ok hi gk hoi hok hjk
  ·exact h.inj _ _ oj oi gj hi hoj hoi hjk
  ·exact h.inj _ _ oj ok gj gk hoj hok hjk
theorem Jc {G:Nat→Prop} {w0 w:World} {ρ:Rho} {σ:Heap} (h:Sim G w0 ρ σ w) (i:Nat):Sim G w0 ρ (σ.set i .dead) w where
 os:=h.os
 tape:=h.tape
 output:=h.output
 size:=h.size
 fgn:=h.fgn
 obj j x hx:=by
  rw [ea]
  rcases getElem?_set' hx with ⟨rfl,rfl⟩|⟨_,hx⟩
  ·trivial
  ·exact h.obj j x hx
 inj j k oj ok hj hk hoj hok hjk:=by
  rcases getElem?_set' hj with ⟨rfl,rfl⟩|⟨_,hj⟩
  ·exact hoj.elim
  rcases getElem?_set' hk with ⟨rfl,rfl⟩|⟨_,hk⟩
  ·exact hok.elim
  exact h.inj _ _ oj ok hj hk hoj hok hjk
theorem kH {G:Nat→Prop} {w0 w:World} {ρ:Rho} {σ:Heap} (h:Sim G w0 ρ σ w) {b o n:Nat} {cs:List Value} (hc:aJ σ b o n=some cs) :
  cs.length=n∧∀ (k:Nat) (hk:k<cs.length),∃ v',w.cell? ⟨(ρ b).b,(ρ b).o+o+k,none⟩=some v'∧gq σ.length ρ cs[k] v':=by
 unfold aJ at hc
 cases hb:σ[b]? with
 |none=>simp [hb] at hc
 |some x =>
  rw [hb] at hc
  have c:=h.obj b x hb
  cases x with
  |ro l =>
   simp only at hc
   cases hle:Nat.ble (o+n) l.length <;> simp [hle] at hc
   have a:o+n≤l.length:=cA hle
   subst hc
   refine ⟨by simp;omega,fun k hk=>?_⟩
   have d:k<n:=by simp at hk;omega
   obtain ⟨_,h2⟩:=c (fun hl=>by subst hl;simp at a;omega)
   obtain ⟨v',h3,h4⟩:=h2 (o+k) oO
   exact ⟨v',by rw [cF];exact h3,by simpa using h4⟩
  |rw l =>
   simp only at hc
   cases hle:Nat.ble (o+n) l.length <;> simp [hle] at hc
   have a:o+n≤l.length:=cA hle
   subst hc
   refine ⟨by simp;omega,fun k hk=>?_⟩
   have d:k<n:=by simp at hk;omega
   obtain ⟨_,h2,rc,t,h3,h4,h5⟩:=c (fun hl=>by subst hl;simp at a;omega)
   refine ⟨rc[o+k],?_,by simpa using h5 (o+k) oO oO⟩
   simp [World.cell?,h3,h2,show o+k<rc.size from by omega]
  |gr l e =>
   simp only at hc
   cases hle:Nat.ble (o+n) l.length <;> simp [hle] at hc
   have a:o+n≤l.length:=cA hle
   subst hc
   refine ⟨by simp;omega,fun k hk=>?_⟩
   have d:k<n:=by simp at hk;omega
   obtain ⟨_,h2,rc,h3,h3',h4,h5⟩:=c (fun hl=>by subst hl;simp at a;omega)
   refine ⟨rc[o+k],?_,by simpa using h5 (o+k) oO oO⟩
   simp [World.cell?,h3,h2,show o+k<rc.size from by omega]
  |deep qs sp =>
   simp only at hc
   cases hn:Nat.beq n 1 with
   |false=>simp [hn] at hc
   |true =>
    simp only [hn,cond_true,fT] at hc
    obtain ⟨v,hv,rfl⟩:=hc
    obtain rfl:=aM hn
    refine ⟨rfl,fun k hk=>?_⟩
    obtain rfl:k=0:=by simpa using hk
    obtain ⟨_,v',h3,h4⟩:=c.2 _ (EP hv)
    exact ⟨v',by simpa using h3,by simpa using h4⟩
  |_=>simp at hc
theorem addr_add (b o k:Nat):(⟨b,o,none⟩:Addr).add k=⟨b,o+k,none⟩:=by
 unfold Addr.add;split <;> simp_all
theorem MQ {P:Program} {G:Nat→Prop} {w0 w:World} {ρ:Rho} {σ:Heap} (h:Sim G w0 ρ σ w) {b o n:Nat} {cs:List Value} (hc:aJ σ b o n=some cs) :
  ∃ rs:List Value,(loadCells ⟨(ρ b).b,(ρ b).o+o,none⟩ n).run P w=.ok rs.toArray w∧rs.length=n∧lV σ.length ρ cs.toArray rs.toArray:=by
 obtain ⟨hl,hk⟩:=kH h hc
 have:∀ (m:Nat),m≤cs.length→∃ rs:List Value,rs.length=m∧∀ (k:Nat) (h1:k<rs.length) (h2:k<cs.length),w.cell? ⟨(ρ b).b,(ρ b).o+o+k,none⟩=some rs[k]∧gq σ.length ρ cs[k] rs[k]:=by
  intro m
  induction m with
  |zero=>exact fun _=>⟨[],rfl,fun k h1=>by simp at h1⟩
  |succ m ih =>
   intro hm
   obtain ⟨rs,h1,h2⟩:=ih oO
   obtain ⟨v',h3,h4⟩:=hk m oO
   refine ⟨rs++[v'],by simp [h1],fun k f d=>?_⟩
   by_cases a:k<rs.length
   ·rw [eW a];exact h2 k a d
   ·have:k=m:=by simp at f;omega
    subst this
    rw [eV oO]
    simp only [h1,cY,ec]
    exact ⟨h3,h4⟩
 obtain ⟨rs,h1,h2⟩:=this cs.length (aD _)
 refine ⟨rs,?_,oO,by simp [h1],fun i hi e=>?_⟩
 ·rw [show n=rs.length from by omega]
  refine run_loadCells_list w _ rs fun j v hj=>?_
  obtain ⟨c,rfl⟩:=List.getElem?_eq_some_iff.1 hj
  rw [addr_add]
  exact (h2 j c oO).1
 ·simpa using (h2 i (oU e) (oU hi)).2
def Xw:TypeDesc→Bool
 |.struct _|.array _ _=>true
 |_=>false
def Q8 (P:Program) (t:TypeId):Option (Nat×Bool×Value×Nat) :=
 match P.info? t,P.underlying t with
 |some i,some d=>match i.zero with|some z=>some (i.size,Xw d,z,i.bytes)|none=>none
 |_,_=>none
class Ty (P:Program) (t:TypeId) (size:outParam Nat) (agg:outParam Bool) (z:outParam Value) (bytes:outParam Nat):Prop where
 h:Q8 P t=some (size,agg,z,bytes)
def Dz (P:Program) (s:TypeId) (f:Nat):Option (Nat×TypeId) :=
 match P.underlying s with
 |some (.struct fs)=>match fs[f]? with|some x=>some (x.offset,x.type)|none=>none
 |_=>none
class Fld (P:Program) (s:TypeId) (f:Nat) (off:outParam Nat) (t:outParam TypeId):Prop where
 h:Dz P s f=some (off,t)
def adZ (P:Program) (t:TypeId):Option TypeId:=match P.underlying t with|some (.slice e)=>some e|_=>none
class Sl (P:Program) (t:TypeId) (e:outParam TypeId):Prop where
 h:adZ P t=some e
def ad1 (P:Program) (t:TypeId):Option (Nat×TypeId):=match P.underlying t with|some (.array n e)=>some (n,e)|_=>none
class Ar (P:Program) (t:TypeId) (n:outParam Nat) (e:outParam TypeId):Prop where
 h:ad1 P t=some (n,e)
def OA (P:Program) (t:TypeId):Option IntKind:=match P.underlying t with|some (.int k)=>some k|_=>none
class Ik (P:Program) (t:TypeId) (k:outParam IntKind):Prop where
 h:OA P t=some k
section types
variable {P:Program} {t s e:TypeId} {size bytes n off:Nat} {agg:Bool} {z:Value} {w:World} {k:IntKind}
theorem Ty.info (h:Ty P t size agg z bytes):∃ i,P.info? t=some i∧i.size=size∧i.zero=some z∧i.bytes=bytes:=by
 have:=h.h
 unfold Q8 at this
 cases hi:P.info? t <;> simp [hi] at this
 rename_i i
 cases hu:P.underlying t <;> simp [hu] at this
 cases hz:i.zero <;> simp [hz] at this
 exact ⟨i,rfl,this.1,by rw [hz,this.2.2.1],this.2.2.2⟩
theorem Ty.und (h:Ty P t size agg z bytes):∃ d,P.underlying t=some d∧Xw d=agg:=by
 have:=h.h
 unfold Q8 at this
 cases hi:P.info? t <;> simp [hi] at this
 rename_i i
 cases hu:P.underlying t <;> simp [hu] at this
 cases hz:i.zero <;> simp [hz] at this
 exact ⟨_,rfl,this.2.1⟩
theorem kV {d:TypeDesc} (h:P.underlying t=some d):(underlying t).run P w=.ok d w:=by simp [underlying,h]
theorem Ty.sizeOf (h:Ty P t size agg z bytes):(sizeOf t).run P w=.ok size w:=by
 obtain ⟨i,h1,h2,_⟩:=h.info
 simp [Go.sizeOf,typeInfo,h1,h2]
theorem Ty.zeroV (h:Ty P t size agg z bytes):(zeroValue t).run P w=.ok z w:=by
 obtain ⟨i,h1,h2,h3,_⟩:=h.info
 simp [zeroValue,typeInfo,h1,h3]
theorem Ty.isAgg (h:Ty P t size agg z bytes):(isAgg t).run P w=.ok agg w:=by
 obtain ⟨d,h1,h2⟩:=h.und
 subst h2
 unfold Go.isAgg
 rw [Sem.run_bind,kV h1]
 cases d <;> rfl
theorem Fld.und (h:Fld P s n off t):∃ fs x,P.underlying s=some (.struct fs)∧fs[n]?=some x∧x.offset=off∧x.type=t:=by
 have:=h.h
 unfold Dz at this
 cases hu:P.underlying s with
 |none=>simp [hu] at this
 |some d =>
  cases d with
  |struct fs =>
   cases hx:fs[n]? with
   |none=>simp [hu,hx] at this
   |some y=>simp [hu,hx] at this;exact ⟨fs,y,rfl,hx,this.1,this.2⟩
  |_=>simp [hu] at this
theorem Sl.und (h:Sl P t e):P.underlying t=some (.slice e):=by
 have:=h.h
 unfold adZ at this
 split at this <;> simp at this
 subst this;assumption
theorem Ar.und (h:Ar P t n e):P.underlying t=some (.array n e):=by
 have:=h.h
 unfold ad1 at this
 split at this <;> simp at this
 obtain ⟨rfl,rfl⟩:=this;assumption
theorem Ik.und (h:Ik P t k):P.underlying t=some (.int k):=by
 have:=h.h
 unfold OA at this
 split at this <;> simp at this
 subst this;assumption
end types
def dR:Value→List Value
 |.agg cs=>cs.toList
 |v=>[v]
theorem kQ {n:Nat} {ρ:Rho} {v v':Value} (h:gq n ρ v v'):lV n ρ (dR v).toArray v'.cells:=by
 have one:∀ {u u':Value},gq n ρ u u'→lV n ρ #[u] #[u']:=fun hu=>⟨rfl,fun i hi _=>by
  have:i=0:=by simp at hi;exact hi
  subst this;simpa using hu⟩
 cases h with
 |agg a a' h1 h3=>exact ⟨by simpa [dR,Value.cells] using h1,fun i hi d=>h3 i (by simpa [dR] using hi) d⟩
 |bool b=>exact one (.bool b)
 |int k x=>exact one (.int k x)
 |string s=>exact one (.string s)
 |nilPtr=>exact one .nilPtr
 |ptr i o hi=>exact one (.ptr i o hi)
 |nilSlice=>exact one .nilSlice
 |zslice a hq=>exact one (.zslice a hq)
 |zsliceZ hq=>simp at hq
 |emptySlice i o a c=>exact one (.emptySlice i o a c)
 |slice i o l c c' h hi=>exact one (.slice i o l c c' h hi)
 |gslice i o l c c' sz h hs hi hq=>exact one (.gslice i o l c c' sz h hs hi hq)
 |sliceG i o l c c' sz h hi hq=>exact one (.sliceG i o l c c' sz h hi hq)
 |gsliceG i o l c c' sz h hi hq=>exact one (.gsliceG i o l c c' sz h hi hq)
 |nilMap=>exact one .nilMap
 |map i hi=>exact one (.map i hi)
 |stamp i hi hq=>exact one (.stamp i hi hq)
 |stampG i hi hq=>simp at hq
 |nilFunc=>exact one .nilFunc
 |func f a a' b b' h1 h2 h3 h4=>exact one (.func f a a' b b' h1 h2 h3 h4)
 |yield l hi=>exact one (.yield l hi)
 |nilIface=>exact one .nilIface
 |iface t v v' h=>exact one (.iface t v v' h)
 |tuple a a' h1 h3=>exact one (.tuple a a' h1 h3)
theorem Q9 {n:Nat} {ρ:Rho} {v v':Value} (h:gq n ρ v v'):v'.oneCell'=v.oneCell':=by cases h <;> rfl
theorem xX {n m:Nat} {ρ ρ':Rho} {a a':Array Value} (h:lV n ρ a a') (hn:n≤m) (hρ:∀ i<n,ρ' i=ρ i):lV m ρ' a a' :=
 ⟨h.1,fun i hi c=>(h.2 i hi c).mono hn hρ⟩
section ops
variable {P:Program} {rd:Option Nat} {ty:TypeId} {e:Env} {σ:Heap} {x y c a b:Operand} {v u:Value}
theorem eP (h:aP e x=some v):bW P rd (.move x) ty e σ v σ :=
 bY oS fun o ho _ G w0 ρ A w hs hx=>⟨ρ,A.eval x,w,.inl (by simp [execOp,ho]),hx x (by simp [Op.operands]) v h,aD _,fun _ _=>rfl,hs⟩
theorem kK (h:aP e x=some v):bW P rd (.assign x) ty e σ v σ :=
 bY oS fun o ho _ G w0 ρ A w hs hx=>⟨ρ,A.eval x,w,.inl (by simp [execOp,ho]),hx x (by simp [Op.operands]) v h,aD _,fun _ _=>rfl,hs⟩
theorem kR {t:Bool} (hc:aP e c=some (.bool t)) (ht:t=true) (ha:aP e a=some v):bW P rd (.pick c a b) ty e σ v σ :=
 bY oS fun o ho _ G w0 ρ A w hs hx=>⟨ρ,A.eval a,w,.inl (by
  have:=bH (hx c (by simp [Op.operands]) _ hc) rfl
  subst ht;simp [execOp,ho,this,asBool]),hx a (by simp [Op.operands]) v ha,aD _,fun _ _=>rfl,hs⟩
theorem jA {t:Bool} (hc:aP e c=some (.bool t)) (ht:t=false) (hb:aP e b=some v):bW P rd (.pick c a b) ty e σ v σ :=
 bY oS fun o ho _ G w0 ρ A w hs hx=>⟨ρ,A.eval b,w,.inl (by
  have:=bH (hx c (by simp [Op.operands]) _ hc) rfl
  subst ht;simp [execOp,ho,this,asBool]),hx b (by simp [Op.operands]) v hb,aD _,fun _ _=>rfl,hs⟩
theorem kS {op:Op} (hd:∀ c,op ≠ .defer c) (hv:plain v=true)
  (h:∀ (o:Oper),o.op=op→o.type=ty→∀ A:Act,(∀ x ∈ op.operands,∀ u,aP e x=some u→plain u=true→A.eval x=u)→∀ w,(execOp A.eval o).run P w=.ok (.value v) w):bW P rd op ty e σ v σ :=
 bY hd fun o ho a _ _ ρ A w hs hx=>⟨ρ,v,w,.inl (h o ho a A (fun x hm u hu hp=>bH (hx x hm u hu) hp) w),aY v hv,aD _,fun _ _=>rfl,hs⟩
theorem A8 {t:TypeId} {p:Prop} [Decidable p] (h:aP e x=some (.bool (decide p))):bW P rd (.unOp .not t x) ty e σ (.bool (decide ¬ p)) σ :=
 kS oS rfl fun o ho _ A hA w=>by simp [execOp,ho,hA x (by simp [Op.operands]) _ h rfl,Op.unary]
theorem kW {t:TypeId} {q:Bool} (h:aP e x=some (.bool q)):bW P rd (.unOp .not t x) ty e σ (.bool (!q)) σ :=
 kS oS rfl fun o ho _ A hA w=>by simp [execOp,ho,hA x (by simp [Op.operands]) _ h rfl,Op.unary]
theorem UZ {t:TypeId} {k:IntKind} {m:Int} (h:aP e x=some (.int k m)):bW P rd (.unOp .neg t x) ty e σ (.int k (k.wrap (0 - m))) σ :=
 kS oS rfl fun o ho _ A hA w=>by simp [execOp,ho,hA x (by simp [Op.operands]) _ h rfl,Op.unary,Op.intArith]
def U0 (op:BinOp) (k:IntKind) (m n:Int):Option Value :=
 match op with
 |.add=>some (.int k (k.wrap (m+n)))
 |.sub=>some (.int k (k.wrap (m - n)))
 |.mul=>some (.int k (k.wrap (m*n)))
 |.eql=>some (.bool (decide (m=n)))
 |.neq=>some (.bool (decide (m ≠ n)))
 |.lss=>some (.bool (decide (m<n)))
 |.leq=>some (.bool (decide (m≤n)))
 |.gtr=>some (.bool (decide (m > n)))
 |.geq=>some (.bool (decide (m≥n)))
 |_=>none
theorem U1 {op:BinOp} {k:IntKind} {m n:Int} (h:U0 op k m n=some v):plain v=true:=by
 unfold U0 at h;split at h <;> simp at h <;> subst h <;> rfl
theorem Rf {op:BinOp} {k:IntKind} {m n:Int} {t:TypeId} {w:World} (h:U0 op k m n=some v):(binOp op t (.int k m) (.int k n)).run P w=.ok v w:=by
 unfold U0 at h
 split at h <;> simp at h <;> subst h <;> simp [binOp,Op.intArith,Op.intCmp] <;> (first|rfl|(rw [Bool.eq_iff_iff];simp)|skip)
theorem jm {op:BinOp} {k:IntKind} {m n:Int} {t t':TypeId} (hx:aP e x=some (.int k m)) (hy:aP e y=some (.int k n)) (h:U0 op k m n=some v) :
  bW P rd (.binOp op t x y t') ty e σ v σ :=
 kS oS (U1 h) fun o ho _ A hA w=>by
  have h1:=hA x (by simp [Op.operands]) _ hx rfl
  have h2:=hA y (by simp [Op.operands]) _ hy rfl
  have h3:(eqGuard op t x y (.int k m) (.int k n)).run P w=.ok () w:=by unfold eqGuard;split <;> rfl
  simp [execOp,ho,h1,h2,h3,Rf h]
theorem wrap64 {m:Int} (h1:-9223372036854775808≤m) (h2:m≤9223372036854775807):IntKind.i64.wrap m=m:=by
 simp only [IntKind.wrap_i64];omega
theorem vJ {m n:Int} {t t':TypeId} (hx:aP e x=some (.int .i64 m)) (hy:aP e y=some (.int .i64 n)) (h1:-9223372036854775808≤m+n) (h2:m+n≤9223372036854775807) :
  bW P rd (.binOp .add t x y t') ty e σ (.int .i64 (m+n)) σ:=jm hx hy (by rw [← wrap64 h1 h2];rfl)
theorem yK {m n:Int} {t t':TypeId} (hx:aP e x=some (.int .i64 m)) (hy:aP e y=some (.int .i64 n)) (h1:-9223372036854775808≤m - n) (h2:m - n≤9223372036854775807) :
  bW P rd (.binOp .sub t x y t') ty e σ (.int .i64 (m - n)) σ:=jm hx hy (by rw [← wrap64 h1 h2];rfl)
theorem zM {m n:Int} {t t':TypeId} (hx:aP e x=some (.int .i64 m)) (hy:aP e y=some (.int .i64 n)) (h1:-9223372036854775808≤m*n) (h2:m*n≤9223372036854775807) :
  bW P rd (.binOp .mul t x y t') ty e σ (.int .i64 (m*n)) σ:=jm hx hy (by rw [← wrap64 h1 h2];rfl)
def bI (b:Bool):Int:=if b then 1 else 0
theorem agA {a b:Bool} {t t':TypeId} (hx:aP e x=some (.int .i64 (bI a))) (hy:aP e y=some (.int .i64 (bI b))):bW P rd (.binOp .or t x y t') ty e σ (.int .i64 (bI (a || b))) σ :=
 kS oS rfl fun o ho _ A hA w=>by
  have h1:=hA x (by simp [Op.operands]) _ hx rfl
  have h2:=hA y (by simp [Op.operands]) _ hy rfl
  have h3:(eqGuard .or t x y (.int .i64 (bI a)) (.int .i64 (bI b))).run P w=.ok () w:=by unfold eqGuard;split <;> rfl
  have h4:(binOp .or t (.int .i64 (bI a)) (.int .i64 (bI b))).run P w=.ok (.int .i64 (bI (a || b))) w:=by clear h1 h2 h3 hx hy;cases a <;> cases b <;> rfl
  simp [execOp,ho,h1,h2,h3,h4]
theorem qP {m:Nat} {t t':TypeId} (hx:aP e x=some (.int .i64 (m:Nat))) (hy:aP e y=some (.int .i64 1)) (h2:(m:Int)+1≤9223372036854775807) :
  bW P rd (.binOp .add t x y t') ty e σ (.int .i64 ((m+1:Nat):Int)) σ:=by
 have:=vJ (P:=P) (rd:=rd) (ty:=ty) (σ:=σ) (t:=t) (t':=t') hx hy oO h2
 rwa [show ((m+1:Nat):Int)=(m:Int)+1 from by omega]
theorem U2 {k:IntKind} {m n:Int} {t t':TypeId} (hx:aP e x=some (.int k m)) (hy:aP e y=some (.int k n)) (h:n ≠ 0) :
  bW P rd (.binOp .quo t x y t') ty e σ (.int k (k.wrap (m.tdiv n))) σ :=
 kS oS rfl fun o ho _ A hA w=>by
  have h1:=hA x (by simp [Op.operands]) _ hx rfl
  have h2:=hA y (by simp [Op.operands]) _ hy rfl
  have h3:(eqGuard .quo t x y (.int k m) (.int k n)).run P w=.ok () w:=rfl
  simp [execOp,ho,h1,h2,h3,binOp,Op.intDiv,h]
theorem U3 {k:IntKind} {m n:Int} {t t':TypeId} (hx:aP e x=some (.int k m)) (hy:aP e y=some (.int k n)) (h:n ≠ 0) :
  bW P rd (.binOp .rem t x y t') ty e σ (.int k (m.tmod n)) σ :=
 kS oS rfl fun o ho _ A hA w=>by
  have h1:=hA x (by simp [Op.operands]) _ hx rfl
  have h2:=hA y (by simp [Op.operands]) _ hy rfl
  have h3:(eqGuard .rem t x y (.int k m) (.int k n)).run P w=.ok () w:=rfl
  simp [execOp,ho,h1,h2,h3,binOp,Op.intDiv,h]
theorem Rh {k k':IntKind} {m:Int} {s d:TypeId} [hs:Ik P s k'] [hd:Ik P d k] (hx:aP e x=some (.int k' m)):bW P rd (.convert s d x) ty e σ (.int k (k.wrap m)) σ :=
 kS oS rfl fun o ho _ A hA w=>by
  have h1:=hA x (by simp [Op.operands]) _ hx rfl
  simp [execOp,ho,h1,convert,kV hs.und,kV hd.und,Conv.intToInt]
end ops
section ops
variable {P:Program} {rd:Option Nat} {ty:TypeId} {e:Env} {σ:Heap} {x y a b:Operand} {v u:Value}
theorem YU {n:Nat} {ρ:Rho} {G:Nat→Prop} {w:World} {p:Pl} {cs:List Value} {rc:Array Value} {t:TypeId} (hG:¬ G p.b) (hp:p.o=0)
  (hh:w.heap[p.b]?=some (.cells rc t (0,0))) (hr:lV n ρ cs.toArray rc):LG G n ρ w p (.rw cs):=by
 intro _
 exact ⟨hG,hp,rc,t,hh,by have:=hr.1;simp at this;omega,fun k hk a=>hr.2 k (oU hk) a⟩
theorem Jd {G:Nat→Prop} {w0 w:World} {ρ:Rho} (h:Sim G w0 ρ σ w) {cs:List Value} {rc:Array Value} (t:TypeId) (hr:lV σ.length ρ cs.toArray rc) :
  Sim G w0 (upd ρ σ.length w.heap.size) (σ++[.rw cs]) (w.alloc (.cells rc t)) :=
 lu h _ _ 0 (YU (fun hg=>by have h1:=(h.fgn _ hg).1;have:=h.size;simp only at h1;omega) rfl (gX w _) (xX hr oS fun i hi=>iP hi))
theorem Je {ρ:Rho} {n B s:Nat}:gq (n+1) (upd ρ n B s) (.pointer (some ⟨n,0,none⟩)) (.pointer (some ⟨B,0,none⟩)):=by
 have:=VQ.ptr (q:=false) (n:=n+1) (ρ:=upd ρ n B s) n 0 oO
 simpa [upd] using this
theorem kC {t size bytes:Nat} {agg:Bool} {z:Value} [ht:Ty P t size agg z bytes] (hz:plain z=true) :
  bW P rd (.alloc t) ty e σ (.pointer (some ⟨σ.length,0,none⟩)) (σ++[.rw (dR z)]) :=
 bY oS fun o ho _ G w0 ρ A w hs hx=>by
  refine ⟨upd ρ σ.length w.heap.size,.pointer (some ⟨w.heap.size,0,none⟩),w.alloc (.cells z.cells t),.inl ?_,?_,by simp,fun i hi=>iP hi,?_⟩
  ·simp [execOp,ho,Instr.alloc,ht.zeroV,newVar,newRow]
  ·rw [aR];exact Je
  ·exact Jd hs t (kQ (aY z hz))
theorem OB {t:TypeId} (h:aP e x=some v):bW P rd (.box t x) ty e σ (.pointer (some ⟨σ.length,0,none⟩)) (σ++[.rw (dR v)]) :=
 bY oS fun o ho _ G w0 ρ A w hs hx=>by
  refine ⟨upd ρ σ.length w.heap.size,.pointer (some ⟨w.heap.size,0,none⟩),w.alloc (.cells (A.eval x).cells t),.inl ?_,?_,by simp,fun i hi=>iP hi,?_⟩
  ·simp [execOp,ho,Instr.box,newVar,newRow]
  ·rw [aR];exact Je
  ·exact Jd hs t (kQ (hx x (by simp [Op.operands]) v h))
theorem ng {n:Nat} {ρ:Rho} {i o:Nat} {v':Value} (h:gq n ρ (.pointer (some ⟨i,o,none⟩)) v'):v'=.pointer (some ⟨(ρ i).b,(ρ i).o+o,none⟩)∧i<n:=by
 cases h;exact ⟨rfl,oA⟩
theorem bD {t size bytes i o:Nat} {z:Value} {cs:List Value} [ht:Ty P t size true z bytes] (h:aP e x=some (.pointer (some ⟨i,o,none⟩))) (hc:aJ σ i o size=some cs) :
  bW P rd (.load t x) ty e σ (.agg cs.toArray) σ :=
 bY oS fun op ho _ G w0 ρ A w hs hx=>by
  obtain ⟨hv,_⟩:=ng (hx x (by simp [Op.operands]) _ h)
  obtain ⟨rs,h1,h2,h3⟩:=MQ (P:=P) hs hc
  refine ⟨ρ,.agg rs.toArray,w,.inl ?_,?_,aD _,fun _ _=>rfl,hs⟩
  ·simp [execOp,ho,hv,Instr.loadAt,Instr.sureAddr,loadVar,ht.isAgg,ht.sizeOf,h1]
  ·exact .agg _ _ h3.1 h3.2
def aH (σ:Heap) (i o:Nat):Option Value :=
 match σ[i]? with
 |some (.ro cs)=>cs[o]?
 |some (.rw cs)=>cs[o]?
 |some (.gr cs _)=>cs[o]?
 |some (.deep _ sp)=>MP sp o
 |_=>none
theorem yL {i o:Nat} (h:aH σ i o=some v):aJ σ i o 1=some [v]:=by
 unfold aH at h
 unfold aJ
 have a:∀ cs:List Value,cs[o]?=some v→(bif Nat.ble (o+1) cs.length then some ((cs.drop o).take 1) else none)=some [v]:=by
  intro cs c
  obtain ⟨hl,hv⟩:=List.getElem?_eq_some_iff.1 c
  rw [show Nat.ble (o+1) cs.length=true from fq hl]
  rw [List.drop_eq_getElem_cons hl]
  simp [hv]
 split at h
 ·rename_i cs hs;first|exact a cs h|(rw [hs];exact a cs h)
 ·rename_i cs hs;first|exact a cs h|(rw [hs];exact a cs h)
 ·rename_i cs t hs;first|exact a cs h|(rw [hs];exact a cs h)
 ·rename_i qs sp hs;first|(simp [h];done)|(rw [hs];simp [h])
 ·simp at h
theorem aK {t size bytes i o:Nat} {z:Value} [ht:Ty P t size false z bytes] (h:aP e x=some (.pointer (some ⟨i,o,none⟩))) (hc:aH σ i o=some v) :
  bW P rd (.load t x) ty e σ v σ :=
 bY oS fun op ho _ G w0 ρ A w hs hx=>by
  obtain ⟨hv,_⟩:=ng (hx x (by simp [Op.operands]) _ h)
  obtain ⟨h1,h2⟩:=kH hs (yL hc)
  obtain ⟨v',h3,h4⟩:=h2 0 oS
  refine ⟨ρ,v',w,.inl ?_,by simpa using h4,aD _,fun _ _=>rfl,hs⟩
  simp only [cV] at h3
  simp [execOp,ho,hv,Instr.loadAt,Instr.sureAddr,loadVar,ht.isAgg,h3]
def splice (cs:List Value) (o:Nat) (vs:List Value):List Value:=cs.take o++vs++cs.drop (o+vs.length)
theorem pX {cs vs:List Value} {o:Nat} (h:o+vs.length≤cs.length):(splice cs o vs).length=cs.length:=by simp [splice];omega
theorem Xx {n:Nat} {ρ:Rho} {l1 l2 r1 r2:List Value} (hl:l1.length=l2.length) (h1:∀ (k:Nat) (h:k<l1.length) (h':k<l2.length),gq n ρ l1[k] l2[k])
  (h2:∀ (k:Nat) (h:k<r1.length) (h':k<r2.length),gq n ρ r1[k] r2[k]):∀ (k:Nat) (h:k<(l1++r1).length) (h':k<(l2++r2).length),gq n ρ (l1++r1)[k] (l2++r2)[k]:=by
 intro k h h'
 by_cases hk:k<l1.length
 ·rw [eW hk,eW oO];exact h1 k hk oO
 ·simp only [aR] at h h'
  rw [eV oO,eV oO]
  have:=h2 (k - l1.length) oO oO
  simp only [hl] at this ⊢;exact this
theorem Jf {n:Nat} {ρ:Rho} {cs vs:List Value} {rc:Array Value} {rs:List Value} {o:Nat} (h1:cs.length≤rc.size) (hl:o+vs.length≤cs.length)
  (h2:∀ (k:Nat) (h:k<cs.length) (h':k<rc.size),gq n ρ cs[k] rc[k]) (h3:lV n ρ vs.toArray rs.toArray) :
  ∀ (k:Nat) (h:k<(splice cs o vs).length) (h':k<(rc.toList.take o++rs++rc.toList.drop (o+rs.length)).length),gq n ρ (splice cs o vs)[k] (rc.toList.take o++rs++rc.toList.drop (o+rs.length))[k]:=by
 have a:vs.length=rs.length:=by simpa using h3.1
 refine Xx (by simp;omega) (Xx (by simp;omega) ?_ ?_) ?_
 ·intro k h h'
  simp only [dC,ee]
  simp only [eI,Array.length_toList] at h h'
  exact h2 k oO oO
 ·intro k h h';exact h3.2 k (oU h) (oU h')
 ·intro k h h'
  simp only [e6,Array.length_toList] at h h'
  simp only [List.getElem_drop,ee,← a]
  exact h2 _ oO oO
def putCells (σ:Heap) (i o:Nat) (vs:List Value):Option Heap :=
 match σ[i]? with
 |some (.rw cs)=>bif Nat.ble (o+vs.length) cs.length && Nat.blt 0 cs.length then some (σ.set i (.rw (splice cs o vs))) else none
 |some (.gr cs t)=>bif Nat.ble (o+vs.length) cs.length && Nat.blt 0 cs.length then some (σ.set i (.gr (splice cs o vs) t)) else none
 |_=>none
theorem Ij {G:Nat→Prop} {w0 w:World} {ρ:Rho} (h:Sim G w0 ρ σ w) {i o:Nat} {vs rs:List Value} {σ':Heap} (hp:putCells σ i o vs=some σ') (hv:lV σ.length ρ vs.toArray rs.toArray)
  (h1:∀ v ∈ rs,v.oneCell'=true):∃ w',(storeCells ⟨(ρ i).b,(ρ i).o+o,none⟩ rs).run P w=.ok () w'∧Sim G w0 ρ σ' w'∧σ'.length=σ.length:=by
 have hlen:vs.length=rs.length:=by simpa using hv.1
 unfold putCells at hp
 cases hi:σ[i]? with
 |none=>simp [hi] at hp
 |some x =>
  rw [hi] at hp
  have d:=h.obj i x hi
  cases x with
  |rw cs =>
   simp only at hp
   cases hb:(Nat.ble (o+vs.length) cs.length && Nat.blt 0 cs.length) <;> simp only [hb,cond_true,cond_false,Option.some.injEq,reduceCtorEq] at hp
   simp only [aE,bX] at hb
   have e:=cA hb.1
   have c:cs ≠ []:=fun hc=>by subst hc;simp at hb
   obtain ⟨g1,g2,rc,t,g3,g4,g5⟩:=d c
   subst hp
   refine ⟨w.setRow (ρ i).b (rc.toList.take (o+0)++rs++rc.toList.drop (o+0+rs.length)).toArray,?_,?_,by simp⟩
   ·rw [g2,bA]
    exact run_storeCells_at (P:=P) (ρ i).b o t rs 0 rc w g3 oO h1
   ·refine wO h hi c (BZ w _ _) ?_ ?_
    ·intro _
     refine ⟨g1,g2,_,t,setRow_heap w _ rc _ t (0,0) g3,?_,?_⟩
     ·rw [pX e];simp;omega
     ·intro k hk g
      exact Jf g4 e g5 hv k hk (oU g)
    ·intro j k seen hj
     left
     intro f
     obtain ⟨_,_,ents,a,sb,_,g6,_⟩:=h.obj j _ hj
     rw [f,g3] at g6;simp at g6
  |gr cs t =>
   simp only at hp
   cases hb:(Nat.ble (o+vs.length) cs.length && Nat.blt 0 cs.length) <;> simp only [hb,cond_true,cond_false,Option.some.injEq,reduceCtorEq] at hp
   simp only [aE,bX] at hb
   have e:=cA hb.1
   have c:cs ≠ []:=fun hc=>by subst hc;simp at hb
   obtain ⟨g1,g2,rc,g3,g3',g4,g5⟩:=d c
   subst hp
   refine ⟨w.setRow (ρ i).b (rc.toList.take (o+0)++rs++rc.toList.drop (o+0+rs.length)).toArray,?_,?_,by simp⟩
   ·rw [g2,bA]
    exact run_storeCells_at (P:=P) (ρ i).b o t rs 0 rc w g3 oO h1
   ·refine wO h hi c (BZ w _ _) ?_ ?_
    ·intro _
     refine ⟨g1,g2,_,setRow_heap w _ rc _ t (0,0) g3,?_,?_,?_⟩
     ·simp;omega
     ·rw [pX e];simp;omega
     ·intro k hk g
      exact Jf g4 e g5 hv k hk (oU g)
    ·intro j k seen hj
     left
     intro f
     obtain ⟨_,_,ents,a,sb,_,g6,_⟩:=h.obj j _ hj
     rw [f,g3] at g6;simp at g6
  |_=>simp at hp
theorem qQ {n:Nat} {ρ:Rho} {vs:List Value} {rc:Array Value} (h:lV n ρ vs.toArray rc) (h1:vs.all (·.oneCell')=true):∀ v ∈ rc.toList,v.oneCell'=true:=by
 intro v hv
 obtain ⟨k,hk,rfl⟩:=ey hv
 have a:k<rc.size:=by simpa using hk
 have:=h.2 k (by simpa [h.1] using a) a
 rw [ee,Q9 this]
 exact List.all_eq_true.1 h1 _ oS
theorem bU {t size bytes i o:Nat} {agg:Bool} {z:Value} {σ':Heap} [ht:Ty P t size agg z bytes] (ha:aP e x=some (.pointer (some ⟨i,o,none⟩))) (hv:aP e y=some v)
  (hl:(dR v).length=size) (h1:(dR v).all (·.oneCell')=true) (hp:putCells σ i o (dR v)=some σ'):bW P rd (.store t x y) ty e σ undef σ' :=
 bY oS fun op ho _ G w0 ρ A w hs hx=>by
  obtain ⟨c,_⟩:=ng (hx x (by simp [Op.operands]) _ ha)
  have hy:=kQ (hx y (by simp [Op.operands]) _ hv)
  obtain ⟨w',g1,g2,g3⟩:=Ij (P:=P) hs hp (rs:=(A.eval y).cells.toList) (oU hy) (qQ hy h1)
  refine ⟨ρ,undef,w',.inr ⟨?_,rfl⟩,aY _ rfl,oO,fun _ _=>rfl,g2⟩
  have a:(A.eval y).cells.size=size:=by have:=hy.1;simp at this;omega
  simp [execOp,ho,c,Instr.storeAt,Instr.sureAddr,storeVar,ht.sizeOf,a,g1]
theorem aZ {s f off t size bytes i o:Nat} {agg:Bool} {z:Value} [hf:Fld P s f off t] [ht:Ty P t (size+1) agg z bytes] (h:aP e x=some (.pointer (some ⟨i,o,none⟩))) :
  bW P rd (.fieldAddr s x f) ty e σ (.pointer (some ⟨i,o+off,none⟩)) σ :=
 bY oS fun op ho _ G w0 ρ A w hs hx=>by
  obtain ⟨a,hi⟩:=ng (hx x (by simp [Op.operands]) _ h)
  obtain ⟨fs,fl,h1,h2,rfl,rfl⟩:=hf.und
  refine ⟨ρ,.pointer (some ⟨(ρ i).b,(ρ i).o+(o+fl.offset),none⟩),w,.inl ?_,.ptr _ _ hi,aD _,fun _ _=>rfl,hs⟩
  simp [execOp,ho,a,Instr.fieldAt,Instr.sureAddr,kV h1,h2,fieldPlace,ht.sizeOf,addr_add,cF]
end ops
section ops
variable {P:Program} {rd:Option Nat} {ty:TypeId} {e:Env} {σ:Heap} {x y a b:Operand} {v u:Value}
theorem ER {s f off t size bytes:Nat} {z:Value} {cs:Array Value} [hf:Fld P s f off t] [ht:Ty P t size false z bytes] (h:aP e x=some (.agg cs)) (hc:cs.toList[off]?=some v) :
  bW P rd (.field s x f) ty e σ v σ :=
 bY oS fun op ho _ G w0 ρ A w hs hx=>by
  have hv:=hx x (by simp [Op.operands]) _ h
  generalize hr:A.eval x=r at hv
  cases hv with
  |agg _ rs g1 g2 =>
   obtain ⟨fs,fl,h1,h2,rfl,rfl⟩:=hf.und
   obtain ⟨hl,rfl⟩:=List.getElem?_eq_some_iff.1 hc
   have a:fl.offset<cs.size:=by simpa using hl
   refine ⟨ρ,rs[fl.offset],w,.inl ?_,g2 _ a oO,aD _,fun _ _=>rfl,hs⟩
   have:rs[fl.offset]?=some rs[fl.offset]:=by simp [show fl.offset<rs.size from by omega]
   simp [execOp,ho,hr,Instr.field,kV h1,h2,part,asAgg,ht.isAgg,this]
theorem YV {s f off t size bytes:Nat} {z:Value} {cs:Array Value} [hf:Fld P s f off t] [ht:Ty P t size true z bytes] (h:aP e x=some (.agg cs)) (hc:off+size≤cs.size) :
  bW P rd (.field s x f) ty e σ (.agg ((cs.toList.drop off).take size).toArray) σ :=
 bY oS fun op ho _ G w0 ρ A w hs hx=>by
  have hv:=hx x (by simp [Op.operands]) _ h
  generalize hr:A.eval x=r at hv
  cases hv with
  |agg _ rs g1 g2 =>
   obtain ⟨fs,fl,h1,h2,rfl,rfl⟩:=hf.und
   refine ⟨ρ,.agg (rs.extract fl.offset (fl.offset+size)),w,.inl ?_,?_,aD _,fun _ _=>rfl,hs⟩
   ·simp [execOp,ho,hr,Instr.field,kV h1,h2,part,asAgg,ht.isAgg,ht.sizeOf]
   ·refine .agg _ _ (by simp;omega) fun i hi hi'=>?_
    have hi2:i<size:=by simp at hi;omega
    have:=g2 (fl.offset+i) oO oO
    simpa using this
theorem YW {t n el size bytes:Nat} {z:Value} {cs:Array Value} {k:IntKind} {i:Int} [ha:Ar P t n el] [ht:Ty P el size false z bytes] (h:aP e x=some (.agg cs)) (hy:aP e y=some (.int k i))
  (h0:0≤i) (h1:i<n) (hc:cs.toList[i.toNat*size]?=some v):bW P rd (.index t x y) ty e σ v σ :=
 bY oS fun op ho _ G w0 ρ A w hs hx=>by
  have hv:=hx x (by simp [Op.operands]) _ h
  have hi:=bH (hx y (by simp [Op.operands]) _ hy) rfl
  generalize hr:A.eval x=r at hv
  cases hv with
  |agg _ rs g1 g2 =>
   obtain ⟨hl,rfl⟩:=List.getElem?_eq_some_iff.1 hc
   have a:i.toNat*size<cs.size:=by simpa using hl
   refine ⟨ρ,rs[i.toNat*size],w,.inl ?_,g2 _ a oO,aD _,fun _ _=>rfl,hs⟩
   have:rs[i.toNat*size]?=some rs[i.toNat*size]:=by simp [show i.toNat*size<rs.size from by omega]
   simp [execOp,ho,hr,hi,Instr.index,asIntOf,kV ha.und,h0,h1,part,ht.isAgg,ht.sizeOf,this]
theorem YX {t n el size bytes:Nat} {z:Value} {cs:Array Value} {k:IntKind} {i:Int} [ha:Ar P t n el] [ht:Ty P el size true z bytes] (h:aP e x=some (.agg cs)) (hy:aP e y=some (.int k i))
  (h0:0≤i) (h1:i<n) (hc:i.toNat*size+size≤cs.size):bW P rd (.index t x y) ty e σ (.agg ((cs.toList.drop (i.toNat*size)).take size).toArray) σ :=
 bY oS fun op ho _ G w0 ρ A w hs hx=>by
  have hv:=hx x (by simp [Op.operands]) _ h
  have hi:=bH (hx y (by simp [Op.operands]) _ hy) rfl
  generalize hr:A.eval x=r at hv
  cases hv with
  |agg _ rs g1 g2 =>
   refine ⟨ρ,.agg (rs.extract (i.toNat*size) (i.toNat*size+size)),w,.inl ?_,?_,aD _,fun _ _=>rfl,hs⟩
   ·simp [execOp,ho,hr,hi,Instr.index,asIntOf,kV ha.und,h0,h1,part,ht.isAgg,ht.sizeOf]
   ·refine .agg _ _ (by simp;omega) fun j hj hj'=>?_
    have hj2:j<size:=by simp at hj;omega
    have:=g2 (i.toNat*size+j) oO oO
    simpa using this
theorem ny {t el size bytes i o n c:Nat} {agg:Bool} {z:Value} {k:IntKind} {j:Int} [ha:Sl P t el] [ht:Ty P el size agg z bytes] (h:aP e x=some (.slice (some ⟨i,o,none⟩) n c)) (hy:aP e y=some (.int k j))
  (h0:0≤j) (h1:j<n):bW P rd (.indexAddr t x y) ty e σ (.pointer (some ⟨i,o+j.toNat*size,none⟩)) σ :=
 bY oS fun op ho _ G w0 ρ A w hs hx=>by
  have hv:=hx x (by simp [Op.operands]) _ h
  have hi:=bH (hx y (by simp [Op.operands]) _ hy) rfl
  generalize hr:A.eval x=r at hv
  cases hv with
  |emptySlice=>omega
  |slice _ _ _ _ c' hc hil =>
   refine ⟨ρ,.pointer (some ⟨(ρ i).b,(ρ i).o+(o+j.toNat*size),none⟩),w,.inl ?_,.ptr _ _ hil,aD _,fun _ _=>rfl,hs⟩
   simp [execOp,ho,hr,hi,Instr.indexAt,asIntOf,kV ha.und,h0,h1,ht.sizeOf,addr_add,cF]
  |sliceG _ _ _ _ _ _ _ _ hq=>simp at hq
theorem nC {t el bytes i n c:Nat} {agg:Bool} {z:Value} {kd:IntKind} {k:Nat} [ha:Sl P t el] [ht:Ty P el 1 agg z bytes] (h:aP e x=some (.slice (some ⟨i,0,none⟩) n c)) (hy:aP e y=some (.int kd (k:Nat)))
  (h1:k<n):bW P rd (.indexAddr t x y) ty e σ (.pointer (some ⟨i,k,none⟩)) σ:=by
 have:=ny (P:=P) (rd:=rd) (ty:=ty) (σ:=σ) (t:=t) (ht:=ht) h hy oO oO
 simpa using this
theorem DC {t el size bytes i n c sz:Nat} {agg:Bool} {z:Value} {k:IntKind} {j:Int} [ha:Sl P t el] [ht:Ty P el size agg z bytes] (h:aP e x=some (.slice (some ⟨i,0,some sz⟩) n c)) (hy:aP e y=some (.int k j))
  (h0:0≤j) (h1:j<n):bW P rd (.indexAddr t x y) ty e σ (.pointer (some ⟨i,j.toNat*size,none⟩)) σ :=
 bY oS fun op ho _ G w0 ρ A w hs hx=>by
  have hv:=hx x (by simp [Op.operands]) _ h
  have hi:=bH (hx y (by simp [Op.operands]) _ hy) rfl
  generalize hr:A.eval x=r at hv
  cases hv with
  |gslice _ _ _ _ c' _ hc hsz hil _ =>
   refine ⟨ρ,.pointer (some ⟨(ρ i).b,(ρ i).o+j.toNat*size,none⟩),w,.inl ?_,.ptr _ _ hil,aD _,fun _ _=>rfl,hs⟩
   simp [execOp,ho,hr,hi,Instr.indexAt,asIntOf,kV ha.und,h0,h1,ht.sizeOf,addr_add]
  |gsliceG _ _ _ _ _ _ _ _ hq=>simp at hq
theorem nD {t len el size bytes i o:Nat} {agg:Bool} {z:Value} {k:IntKind} {j:Int} [ha:Ar P t len el] [ht:Ty P el size agg z bytes] (h:aP e x=some (.pointer (some ⟨i,o,none⟩))) (hy:aP e y=some (.int k j))
  (h0:0≤j) (h1:j<len):bW P rd (.indexAddr t x y) ty e σ (.pointer (some ⟨i,o+j.toNat*size,none⟩)) σ :=
 bY oS fun op ho _ G w0 ρ A w hs hx=>by
  obtain ⟨hv,a⟩:=ng (hx x (by simp [Op.operands]) _ h)
  have hi:=bH (hx y (by simp [Op.operands]) _ hy) rfl
  refine ⟨ρ,.pointer (some ⟨(ρ i).b,(ρ i).o+(o+j.toNat*size),none⟩),w,.inl ?_,.ptr _ _ a,aD _,fun _ _=>rfl,hs⟩
  simp [execOp,ho,hv,hi,Instr.indexAt,Instr.sureAddr,asIntOf,kV ha.und,h0,h1,ht.sizeOf,addr_add,cF]
theorem Cb {vs:Array Value} {i:Nat} (h:aP e x=some (.tuple vs)) (hi:vs.toList[i]?=some v):bW P rd (.extract x i) ty e σ v σ :=
 bY oS fun op ho _ G w0 ρ A w hs hx=>by
  have hv:=hx x (by simp [Op.operands]) _ h
  generalize hr:A.eval x=r at hv
  cases hv with
  |tuple _ rs g1 g2 =>
   obtain ⟨hl,rfl⟩:=List.getElem?_eq_some_iff.1 hi
   have a:i<vs.size:=by simpa using hl
   refine ⟨ρ,rs[i],w,.inl ?_,g2 _ a oO,aD _,fun _ _=>rfl,hs⟩
   have:rs[i]?=some rs[i]:=by simp [show i<rs.size from by omega]
   simp [execOp,ho,hr,Instr.extract,this]
def wP (e:Env):List Operand→Option (List Value)
 |[]=>some []
 |x::l=>match aP e x,wP e l with
  |some v,some vs=>some (v::vs)
  |_,_=>none
theorem xY {n:Nat} {ρ:Rho} {A:Act}:∀ {l:List Operand} {vs:List Value},(∀ x ∈ l,∀ u,aP e x=some u→gq n ρ u (A.eval x))→wP e l=some vs→lV n ρ vs.toArray (l.map A.eval).toArray
 |[],vs,_,h=>by simp only [wP,Option.some.injEq] at h;subst h;exact ⟨rfl,fun i hi _=>by simp at hi⟩
 |x::l,vs,hx,h=>by
  simp only [wP] at h
  cases hv:aP e x with
  |none=>simp [hv] at h
  |some v =>
   cases hvs:wP e l with
   |none=>simp [hv,hvs] at h
   |some us =>
    simp only [hv,hvs,Option.some.injEq] at h
    subst h
    have ih:=xY (fun y hy=>hx y (by simp [hy])) hvs
    refine ⟨by have:=ih.1;simp at this ⊢;exact this,fun i hi a=>?_⟩
    cases i with
    |zero=>exact hx x oS v hv
    |succ i=>exact ih.2 i (oU hi) (oU a)
theorem zN {f:FuncId} {l1 l2:List Operand} {vs1 vs2:List Value} (h1:wP e l1=some vs1) (h2:wP e l2=some vs2) :
  bW P rd (.makeFunc (.func f) l1.toArray l2.toArray) ty e σ (.func (.func f) vs1.toArray vs2.toArray) σ :=
 bY oS fun op ho _ G w0 ρ A w hs hx=>by
  have g1:=xY (A:=A) (fun y hy=>hx y (by simp [Op.operands,hy])) h1
  have g2:=xY (A:=A) (fun y hy=>hx y (by simp [Op.operands,hy])) h2
  refine ⟨ρ,.func (.func f) (l1.map A.eval).toArray (l2.map A.eval).toArray,w,.inl ?_,.func f _ _ _ _ g1.1 g2.1 g1.2 g2.2,aD _,fun _ _=>rfl,hs⟩
  simp [execOp,ho,Instr.makeFunc]
theorem lJ {t el n c:Nat} {ad:Option Addr} [ha:Sl P t el] (h:aP e x=some (.slice ad n c)) :
  bW P rd (.call { callee:=.builtin .len,args:=#[x],argTypes:=#[t] }) ty e σ (.int .i64 (n:Int)) σ :=
 bY oS fun op ho _ G w0 ρ A w hs hx=>by
  have hv:=hx x (by simp [Op.operands,Call.operands]) _ h
  refine ⟨ρ,.int .i64 (n:Int),w,.inl ?_,.int _ _,aD _,fun _ _=>rfl,hs⟩
  have:∃ a c',A.eval x=.slice a n c':=by
   generalize hr:A.eval x=r at hv
   cases hv <;> exact ⟨_,_,rfl⟩
  obtain ⟨a,c',hr⟩:=this
  simp [execOp,ho,resolve,invoke,builtin,hr,Builtin.len_,kV ha.und,goInt]
theorem Cc {k:IntKind} {m n:Int} {ts:Array TypeId} (hx:aP e x=some (.int k m)) (hy:aP e y=some (.int k n)) :
  bW P rd (.call { callee:=.builtin .max,args:=#[x,y],argTypes:=ts }) ty e σ (.int k (max m n)) σ :=
 kS oS rfl fun o ho _ A hA w=>by
  have h1:=hA x (by simp [Op.operands,Call.operands]) _ hx rfl
  have h2:=hA y (by simp [Op.operands,Call.operands]) _ hy rfl
  simp [execOp,ho,resolve,invoke,builtin,h1,h2,Builtin.max_,Builtin.max2]
  split <;> omega
theorem Ce {k:IntKind} {m n:Int} {ts:Array TypeId} (hx:aP e x=some (.int k m)) (hy:aP e y=some (.int k n)) :
  bW P rd (.call { callee:=.builtin .min,args:=#[x,y],argTypes:=ts }) ty e σ (.int k (min m n)) σ :=
 kS oS rfl fun o ho _ A hA w=>by
  have h1:=hA x (by simp [Op.operands,Call.operands]) _ hx rfl
  have h2:=hA y (by simp [Op.operands,Call.operands]) _ hy rfl
  simp [execOp,ho,resolve,invoke,builtin,h1,h2,Builtin.min_,Builtin.min2]
  split <;> omega
theorem jT {i o:Nat} (h:aP e x=some (.pointer (some ⟨i,o,none⟩))):bW P rd (.nilCheck x) ty e σ (.pointer (some ⟨i,o,none⟩)) σ :=
 bY oS fun op ho _ G w0 ρ A w hs hx=>by
  have hv:=hx x (by simp [Op.operands]) _ h
  obtain ⟨hr,a⟩:=ng hv
  exact ⟨ρ,_,w,.inl (by simp [execOp,ho,hr]),.ptr _ _ a,aD _,fun _ _=>rfl,hs⟩
theorem ad2 {f:FuncId} {p q:Array Value} (h:aP e x=some (.func (.func f) p q)):bW P rd (.nilCheck x) ty e σ (.func (.func f) p q) σ :=
 bY oS fun op ho _ G w0 ρ A w hs hx=>by
  have hv:=hx x (by simp [Op.operands]) _ h
  refine ⟨ρ,A.eval x,w,.inl ?_,hv,aD _,fun _ _=>rfl,hs⟩
  generalize hr:A.eval x=r at hv
  cases hv
  simp [execOp,ho,hr]
def zO (P:Program) (f:FuncId):Bool :=
 match P.funcs[f]? with
 | some fn => !(fn.name == "runtime.NumGoroutine") && fn.body.isSome
 |none=>false
class GoFn (P:Program) (f:FuncId):Prop where
 h:zO P f=true
theorem GoFn.run {f:FuncId} (h:GoFn P f) (args:Array Value) (w:World):(callFunc f args).run P w=.ok (.enter f args) w:=by
 have:=h.h
 unfold zO at this
 cases hf:P.funcs[f]? with
 |none=>simp [hf] at this
 |some fn =>
  simp only [hf,aE,eQ] at this
  unfold callFunc
  simp only [Sem.run_bind,run_program,Result.andThen_ok,hf]
  rw [if_neg (by simp [this.1]),if_neg (by cases hb:fn.body <;> simp [hb] at this ⊢)]
  rfl
theorem mQ {n:Nat} {ρ:Rho} {l1 l2:List Value} {r1 r2:Array Value} (h1:lV n ρ l1.toArray r1) (h2:lV n ρ l2.toArray r2):lV n ρ (l1++l2).toArray (r1++r2):=by
 have e1:l1.length=r1.size:=by simpa using h1.1
 refine ⟨by have:=h2.1;simp at this ⊢;omega,fun i hi a=>?_⟩
 simp only [fX]
 by_cases hk:i<l1.length
 ·rw [eW hk,Array.getElem_append_left oO];exact h1.2 i (oU hk) oO
 ·simp only [Array.size_append] at a
  rw [eV oO,Array.getElem_append_right oO]
  simp only [e1]
  exact h2.2 _ (by have:=h2.1;simp at this ⊢;omega) oO
theorem U4 {o:Oper} {x:Operand} {l:List Operand} {ts:Array TypeId} {f:FuncId} {p q vs:List Value} [hc:GoFn P f]
  {G:Nat→Prop} {w0:World} {ρ:Rho} {A:Act} {w:World} (ho:o.op=.call { callee:=.value x,args:=l.toArray,argTypes:=ts }) (_hs:Sim G w0 ρ σ w)
  (hx:∀ y ∈ o.op.operands,∀ u,aP e y=some u→gq σ.length ρ u (A.eval y))
  (hf:aP e x=some (.func (.func f) p.toArray q.toArray)) (hl:wP e l=some vs) :
  ∃ ar,(execOp A.eval o).run P w=.ok (.enter f ar) w∧lV σ.length ρ (p++vs++q).toArray ar:=by
 have hv:=hx x (by rw [ho];simp [Op.operands,Call.operands]) _ hf
 have ha:=xY (A:=A) (fun y hy=>hx y (by rw [ho];simp [Op.operands,Call.operands,hy])) hl
 generalize hr:A.eval x=r at hv
 cases hv with
 |func _ _ p' _ q' g1 g2 g3 g4 =>
  refine ⟨p'++(l.map A.eval).toArray++q',?_,mQ (mQ ⟨g1,g3⟩ ha) ⟨g2,g4⟩⟩
  simp [execOp,ho,resolve,hr,Deferred.ofValue,invoke,hc.run]
theorem bG {x:Operand} {l:List Operand} {ts:Array TypeId} {f:FuncId} {p q vs args:List Value} {σ':Heap} [GoFn P f] (hf:aP e x=some (.func (.func f) p.toArray q.toArray)) (hl:wP e l=some vs)
  (he:p++vs++q=args) (hev:Ev P f args σ v σ'):bW P rd (.call { callee:=.value x,args:=l.toArray,argTypes:=ts }) ty e σ v σ':=by
 subst he
 intro o ho hty G w0 ρ A w _ hs hx next Q' hn
 obtain ⟨ar,h1,h2⟩:=U4 (P:=P) ho hs (by rw [ho];exact hx) hf hl
 refine ⟨fun f _=>kN _ _ _,?_⟩
 rw [Oper.semAt_eq _ _ _ (by rw [ho];simp),h1,Oper.uponIn_enter]
 refine ⟨fun h=>by rw [AZ] at h;simp at h,?_⟩
 have hc:=hev G w0 ρ ar w hs h2
 have c:CallsIn (fen ρ rd) 0 P f ar w (fun en w'=>∃ ρ' vr v' a,en=.returned vr∧(v'=v∧a=σ')∧gq a.length ρ' v' vr∧σ.length≤a.length∧(∀ i < σ.length,ρ' i=ρ i)∧Sim G w0 ρ' a w'):=by
  cases rd with
  |none=>exact hc
  |some l=>exact CallsIn.inRound _ hc
 refine c.mono ?_
 rintro en w' ⟨ρ',vr,v',a,rfl,⟨rfl,rfl⟩,h3,h4,h5,h6⟩
 exact hn ρ' vr w' h3 h4 h5 h6
theorem Ri {n:Nat} {f:FuncId} {ar:Array Value} {w:World} {ρ:Rho} {R:Ending→World→Prop} (h:CallsIn Fence.wide n P f ar w R):CallsIn (fen ρ rd) n P f ar w R:=by
 cases rd with
 |none=>exact h
 |some l=>exact CallsIn.inRound _ h
end ops
mutual
def closed (n:Nat):Value→Bool
 |.pointer (some a)=>Nat.blt a.block n
 |.slice (some ⟨i,_,some _⟩) _ _=>Nat.blt i n
 |.slice (some ⟨_,_,none⟩) 0 0=>true
 |.slice (some ⟨i,_,none⟩) _ _=>Nat.blt i n
 |.map (some i)=>Nat.blt i n
 |.chan (some i)=>Nat.blt i n
 |.func (.yield l) a b=>Nat.blt l n && iZ n a && iZ n b
 |.func _ a b=>iZ n a && iZ n b
 |.iface _ v=>closed n v
 |.agg cs=>iZ n cs
 |.tuple cs=>iZ n cs
 |_=>true
def iZ (n:Nat):Array Value→Bool
 |⟨l⟩=>dP n l
def dP (n:Nat):List Value→Bool
 |[]=>true
 |v::l=>closed n v && dP n l
end
theorem ou (n:Nat) (l:List Value):dP n l=true↔∀ v ∈ l,closed n v=true:=by
 induction l with
 |nil=>simp [dP]
 |cons v l ih=>simp [dP,ih]
theorem mV (n:Nat) (a:Array Value):iZ n a=true↔∀ (i:Nat) (h:i<a.size),closed n a[i]=true:=by
 cases a with|mk l =>
 simp only [iZ,ou]
 exact ⟨fun h i hi=>h _ oS,fun h v hv=>let ⟨i,hi,e⟩:=ey hv;e ▸ h i hi⟩
theorem rQ {q:Bool} {n:Nat} {ρ:Rho} {v v':Value} (h:VQ q n ρ v v'):closed n v=true:=by
 induction h with
 |ptr i o hi=>simpa [closed,bX] using hi
 |emptySlice i o a c=>rfl
 |slice i o l c c' h hi=>cases l <;> cases c <;> simp [closed,bX,hi]
 |gslice i o l c c' sz h hs hi hq=>simp [closed,bX,hi]
 |sliceG i o l c c' sz h hi hq=>cases l <;> cases c <;> simp [closed,bX,hi]
 |gsliceG i o l c c' sz h hi hq=>simp [closed,bX,hi]
 |map i hi=>simpa [closed,bX] using hi
 |stamp i hi hq=>simpa [closed,bX] using hi
 |stampG i hi hq=>simpa [closed,bX] using hi
 |func f a a' b b' h1 h2 h3 h4 ih3 ih4 =>
  simp only [closed,aE]
  exact ⟨(mV _ _).2 fun i hi=>ih3 i hi oO,(mV _ _).2 fun i hi=>ih4 i hi oO⟩
 |yield l hi=>simp [closed,bX,hi,iZ,dP]
 |iface t v v' h ih=>simpa [closed] using ih
 |agg a a' h1 h3 ih=>simp only [closed];exact (mV _ _).2 fun i hi=>ih i hi oO
 |tuple a a' h1 h3 ih=>simp only [closed];exact (mV _ _).2 fun i hi=>ih i hi oO
 |_=>rfl
theorem vO {q:Bool} {n m:Nat} {ρ:Rho} {v v':Value} (h:VQ q m ρ v v') (hc:closed n v=true):VQ q n ρ v v':=by
 induction h with
 |bool b=>exact .bool b
 |int k x=>exact .int k x
 |string s=>exact .string s
 |nilPtr=>exact .nilPtr
 |ptr i o hi=>exact .ptr i o (by simpa [closed,bX] using hc)
 |nilSlice=>exact .nilSlice
 |zslice a hq=>exact .zslice a hq
 |zsliceZ hq=>exact .zsliceZ hq
 |emptySlice i o a c=>exact .emptySlice i o a c
 |slice i o l c c' h hi =>
  by_cases e:l=0∧c=0
  ·obtain ⟨rfl,rfl⟩:=e;exact .emptySlice _ _ _ _
  ·refine .slice i o l c c' h ?_
   cases l <;> cases c <;> simp [closed,bX] at hc e <;> exact hc
 |gslice i o l c c' sz h hs hi hq=>exact .gslice i o l c c' sz h hs (by simpa [closed,bX] using hc) hq
 |sliceG i o l c c' sz h hi hq =>
  by_cases e:l=0∧c=0
  ·obtain ⟨rfl,rfl⟩:=e;exact .emptySlice _ _ _ _
  ·refine .sliceG i o l c c' sz h ?_ hq
   cases l <;> cases c <;> simp [closed,bX] at hc e <;> exact hc
 |gsliceG i o l c c' sz h hi hq=>exact .gsliceG i o l c c' sz h (by simpa [closed,bX] using hc) hq
 |nilMap=>exact .nilMap
 |map i hi=>exact .map i (by simpa [closed,bX] using hc)
 |stamp i hi hq=>exact .stamp i (by simpa [closed,bX] using hc) hq
 |stampG i hi hq=>exact .stampG i (by simpa [closed,bX] using hc) hq
 |nilFunc=>exact .nilFunc
 |func f a a' b b' h1 h2 h3 h4 ih3 ih4 =>
  simp only [closed,aE] at hc
  exact .func f a a' b b' h1 h2 (fun i hi d=>ih3 i hi d ((mV _ _).1 hc.1 i hi)) (fun i hi d=>ih4 i hi d ((mV _ _).1 hc.2 i hi))
 |yield l hi=>exact .yield l (by simpa [closed,bX,iZ,dP] using hc)
 |nilIface=>exact .nilIface
 |iface t v v' h ih=>exact .iface t v v' (ih (by simpa [closed] using hc))
 |agg a a' h1 h3 ih=>simp only [closed] at hc;exact .agg a a' h1 (fun i hi d=>ih i hi d ((mV _ _).1 hc i hi))
 |tuple a a' h1 h3 ih=>simp only [closed] at hc;exact .tuple a a' h1 (fun i hi d=>ih i hi d ((mV _ _).1 hc i hi))
mutual
def okV:Value→Bool
 |.pointer (some ⟨_,_,some _⟩)=>false
 |.slice none (_+1) _=>false
 |.slice none 0 (_+2)=>false
 |.func (.func _) a b=>okA a && okA b
 |.func (.yield _) a b=>a.isEmpty && b.isEmpty
 |.func _ _ _=>false
 |.iface _ v=>okV v
 |.agg cs=>okA cs
 |.tuple cs=>okA cs
 |.float _ _=>false
 |.complex _ _ _=>false
 |.chan none=>false
 |_=>true
def okA:Array Value→Bool
 |⟨l⟩=>okL l
def okL:List Value→Bool
 |[]=>true
 |v::l=>okV v && okL l
end
theorem OC (l:List Value):okL l=true↔∀ v ∈ l,okV v=true:=by
 induction l with
 |nil=>simp [okL]
 |cons v l ih=>simp [okL,ih]
theorem Il (a:Array Value):okA a=true↔∀ (i:Nat) (h:i<a.size),okV a[i]=true:=by
 cases a with|mk l =>
 simp only [okA,OC]
 exact ⟨fun h i hi=>h _ oS,fun h v hv=>let ⟨i,hi,e⟩:=ey hv;e ▸ h i hi⟩
theorem MR {q:Bool} {n:Nat} {ρ:Rho} {v v':Value} (h:VQ q n ρ v v'):okV v=true:=by
 induction h with
 |func f a a' b b' h1 h2 h3 h4 ih3 ih4 =>
  simp only [okV,aE]
  exact ⟨(Il _).2 fun i hi=>ih3 i hi oO,(Il _).2 fun i hi=>ih4 i hi oO⟩
 |iface t v v' h ih=>simpa [okV] using ih
 |agg a a' h1 h3 ih=>simp only [okV];exact (Il _).2 fun i hi=>ih i hi oO
 |tuple a a' h1 h3 ih=>simp only [okV];exact (Il _).2 fun i hi=>ih i hi oO
 |_=>rfl
theorem OD {v:Value} {n:Nat} (h:plain v=true):closed n v=true:=rQ (aY (q:=false) (n:=n) (ρ:=fun _=>⟨0,0,0⟩) v h)
mutual
theorem qA {n m:Nat} {π:Rho} (hπ:∀ i<m,π i=⟨i,0,0⟩) (hnm:m≤n):(v:Value)→closed m v=true→okV v=true→jG n π v v
 |.bool b,_,_=>.bool b
 |.int k x,_,_=>.int k x
 |.string s,_,_=>.string s
 |.pointer none,_,_=>.nilPtr
 |.pointer (some ⟨i,o,s⟩),h,ho=>by
  simp only [closed,bX] at h
  cases s with
  |some s=>simp [okV] at ho
  |none =>
   have:=VQ.ptr (q:=true) (n:=n) (ρ:=π) i o oO
   simpa [hπ i h] using this
 |.slice none 0 0,_,_=>.nilSlice
 |.slice none (_+1) _,_,ho=>by simp [okV] at ho
 |.slice none 0 1,_,_=>.zsliceZ rfl
 |.slice none 0 (_+2),_,ho=>by simp [okV] at ho
 |.slice (some ⟨i,o,none⟩) l c,h,_=>by
  by_cases d:l=0∧c=0
  ·obtain ⟨rfl,rfl⟩:=d;exact .emptySlice _ _ _ _
  ·have hi:i<m:=by cases l <;> cases c <;> simp [closed,bX] at h d <;> exact h
   have:=VQ.slice (q:=true) (n:=n) (ρ:=π) i o l c c (aD _) oO
   simpa [hπ i hi] using this
 |.slice (some ⟨i,o,some sz⟩) l c,h,_=>by
  simp only [closed,bX] at h
  have:=VQ.gsliceG (q:=true) (n:=n) (ρ:=π) i o l c c sz ⟨aD _,fun _=>rfl⟩ oO rfl
  simpa [hπ i h] using this
 |.map none,_,_=>.nilMap
 |.map (some i),h,_=>by
  simp only [closed,bX] at h
  have:=VQ.map (q:=true) (n:=n) (ρ:=π) i oO
  simpa [hπ i h] using this
 |.chan (some i),h,_=>by
  simp only [closed,bX] at h
  have:=VQ.stampG (q:=true) (n:=n) (ρ:=π) i oO rfl
  simpa [hπ i h] using this
 |.nilFunc,_,_=>.nilFunc
 |.nilIface,_,_=>.nilIface
 |.func f a b,h,ho=>match f,h,ho with
  |.func f,h,ho=>by
   simp only [closed,aE] at h
   simp only [okV,aE] at ho
   exact .func f a a b b rfl rfl (fun i h1 _=>yM hπ hnm a h.1 ho.1 i h1) (fun i h1 _=>yM hπ hnm b h.2 ho.2 i h1)
  |.yield l,h,ho=>by
   simp only [closed,aE,bX] at h
   simp only [okV,aE] at ho
   obtain rfl:a=#[]:=by simpa using ho.1
   obtain rfl:b=#[]:=by simpa using ho.2
   have:=VQ.yield (q:=true) (n:=n) (ρ:=π) l oO
   simpa [hπ l h.1.1] using this
  |.method _,_,ho=>by simp [okV] at ho
  |.methodOf _ _,_,ho=>by simp [okV] at ho
  |.via _ _ _ _,_,ho=>by simp [okV] at ho
 |.iface t v,h,ho=>.iface t v v (qA hπ hnm v (by simpa [closed] using h) (by simpa [okV] using ho))
 |.agg cs,h,ho=>.agg cs cs rfl (fun i h1 _=>yM hπ hnm cs (by simpa [closed] using h) (by simpa [okV] using ho) i h1)
 |.tuple cs,h,ho=>.tuple cs cs rfl (fun i h1 _=>yM hπ hnm cs (by simpa [closed] using h) (by simpa [okV] using ho) i h1)
 |.float _ _,_,ho=>by simp [okV] at ho
 |.complex _ _ _,_,ho=>by simp [okV] at ho
 |.chan none,_,ho=>by simp [okV] at ho
theorem yM {n m:Nat} {π:Rho} (hπ:∀ i<m,π i=⟨i,0,0⟩) (hnm:m≤n):(a:Array Value)→iZ m a=true→okA a=true→∀ (i:Nat) (h:i<a.size),jG n π a[i] a[i]
 |⟨l⟩,h,ho=>fun i hi=>vP hπ hnm l (by simpa [iZ] using h) (by simpa [okA] using ho) i hi
theorem vP {n m:Nat} {π:Rho} (hπ:∀ i<m,π i=⟨i,0,0⟩) (hnm:m≤n):(l:List Value)→dP m l=true→okL l=true→∀ (i:Nat) (h:i<l.length),jG n π l[i] l[i]
 |[],_,_=>fun i h=>absurd h (Nat.not_lt_zero i)
 |v::l,h,ho=>fun i hi=>by
  simp only [dP,aE] at h
  simp only [okL,aE] at ho
  cases i with
  |zero=>exact qA hπ hnm v h.1 ho.1
  |succ i=>exact vP hπ hnm l h.2 ho.2 i (oU hi)
end
def xZ (σ:Heap) (n:Nat) (π:Rho) (p:Pl):aB→Prop
 |.dead=>True
 |.ro cs2=>cs2=[]∨∃ cs,σ[p.b]?=some (.ro cs)∧∀ (k:Nat) (h:k<cs2.length),∃ h':p.o+k<cs.length,jG n π cs2[k] cs[p.o+k]
 |.rw cs2=>cs2=[]∨(p.o=0∧∃ cs,(σ[p.b]?=some (.rw cs)∨∃ t,σ[p.b]?=some (.gr cs t))∧cs2.length≤cs.length∧∀ (k:Nat) (h:k<cs2.length) (h':k<cs.length),jG n π cs2[k] cs[k])
 |.gr cs2 t=>cs2=[]∨(p.o=0∧∃ cs,σ[p.b]?=some (.gr cs t)∧cs2.length≤cs.length∧∀ (k:Nat) (h:k<cs2.length) (h':k<cs.length),jG n π cs2[k] cs[k])
 |.dfr=>σ[p.b]?=some .dfr
 |.loop st pend N e2 params assign body=>∃ e1,σ[p.b]?=some (.loop st pend N e1 params assign body)∧∀ t v2,Env.get e2 t=some v2→∃ v,Env.get e1 t=some v∧jG n π v2 v
 |.map es2=>∃ es,σ[p.b]?=some (.map es)∧es.length=es2.length∧∀ (i:Nat) (h:i<es2.length) (h':i<es.length),es2[i].1=es[i].1∧jG n π es2[i].2 es[i].2
 |.iter m seen=>m<n∧σ[p.b]?=some (.iter (π m).b seen)∧p.o=0
 |.deep qs2 sp2=>p.o=0∧(qs2=[]∨∃ sp,σ[p.b]?=some (.deep qs2 sp))∧∀ x ∈ sp2,∃ qs sp,σ[p.b]?=some (.deep qs sp)∧∃ v,(x.1,v) ∈ sp∧jG n π x.2 v
structure YZ (n0:Nat) (π:Rho) (σ σ2:Heap):Prop where
 le:n0≤σ2.length
 id:∀ i<n0,π i=⟨i,0,0⟩
 obj:∀ i o2,σ2[i]?=some o2→xZ σ σ2.length π (π i) o2
 inj:∀ i j oi oj,σ2[i]?=some oi→σ2[j]?=some oj→oi.owned→oj.owned→(π i).b=(π j).b→i=j
theorem Jg {σ:Heap} {n:Nat} {π:Rho} {p:Pl} {o2:aB} (h:xZ σ n π p o2) (ho:o2.owned):∃ o,σ[p.b]?=some o∧o.owned:=by
 cases o2 with
 |dead=>exact ho.elim
 |ro cs=>exact ho.elim
 |rw cs2 =>
  rcases h with h|⟨_,cs,h1,h2,_⟩
  ·exact absurd h ho
  ·have a:cs ≠ []:=fun hc=>by subst hc;simp at h2;exact ho h2
   rcases h1 with h1|⟨t,h1⟩
   ·exact ⟨_,h1,a⟩
   ·exact ⟨_,h1,a⟩
 |gr cs2 t =>
  rcases h with h|⟨_,cs,h1,h2,_⟩
  ·exact absurd h ho
  ·exact ⟨_,h1,fun hc=>by subst hc;simp at h2;exact ho h2⟩
 |dfr=>exact ⟨_,h,trivial⟩
 |loop st pend N e2 params assign body=>obtain ⟨e1,h1,_⟩:=h;exact ⟨_,h1,trivial⟩
 |map es2=>obtain ⟨es,h1,_⟩:=h;exact ⟨_,h1,trivial⟩
 |iter m seen=>exact ⟨_,h.2.1,trivial⟩
 |deep qs sp=>exact ho.elim
theorem Io {n0:Nat} {π:Rho} {σ σ2:Heap} {G:Nat→Prop} {w0 w:World} {ρ:Rho} (hr:YZ n0 π σ σ2) (hs:Sim G w0 ρ σ w):Sim G w0 (comp ρ π) σ2 w where
 os:=hs.os
 tape:=hs.tape
 output:=hs.output
 size:=hs.size
 fgn:=hs.fgn
 inj i j oi oj hi hj hoi hoj hij:=by
  obtain ⟨o1,g1,g2⟩:=Jg (hr.obj i oi hi) hoi
  obtain ⟨o3,g3,g4⟩:=Jg (hr.obj j oj hj) hoj
  exact hr.inj i j oi oj hi hj hoi hoj (hs.inj _ _ o1 o3 g1 g3 g2 g4 hij)
 obj i o2 hi:=by
  have h:=hr.obj i o2 hi
  cases o2 with
  |dead=>trivial
  |ro cs2 =>
   intro c
   rcases h with h|⟨cs,h1,h2⟩
   ·exact absurd h c
   ·have d:cs ≠ []:=fun hc=>by
     subst hc
     obtain ⟨h',_⟩:=h2 0 (List.length_pos_iff.2 c)
     simp at h'
    obtain ⟨g1,g2⟩:=hs.obj _ _ h1 d
    refine ⟨g1,fun k hk=>?_⟩
    obtain ⟨h',h3⟩:=h2 k hk
    obtain ⟨v',g3,g4⟩:=g2 _ h'
    exact ⟨v',by simpa [comp,cF] using g3,h3.trans g4⟩
  |rw cs2 =>
   intro c
   rcases h with h|⟨h0,cs,h1,h2,h3⟩
   ·exact absurd h c
   ·have d:cs ≠ []:=fun hc=>by subst hc;simp at h2;exact c h2
    rcases h1 with h1|⟨t,h1⟩
    ·obtain ⟨g1,g2,rc,t,g3,g4,g5⟩:=hs.obj _ _ h1 d
     exact ⟨g1,by simp [comp,g2,h0],rc,t,g3,oO,fun k hk e=>(h3 k hk oO).trans (g5 k oO e)⟩
    ·obtain ⟨g1,g2,rc,g3,f,g4,g5⟩:=hs.obj _ _ h1 d
     exact ⟨g1,by simp [comp,g2,h0],rc,t,g3,oO,fun k hk e=>(h3 k hk oO).trans (g5 k oO e)⟩
  |gr cs2 t =>
   intro c
   rcases h with h|⟨h0,cs,h1,h2,h3⟩
   ·exact absurd h c
   ·have d:cs ≠ []:=fun hc=>by subst hc;simp at h2;exact c h2
    obtain ⟨g1,g2,rc,g3,f,g4,g5⟩:=hs.obj _ _ h1 d
    exact ⟨g1,by simp [comp,g2,h0],rc,g3,f,oO,fun k hk e=>(h3 k hk oO).trans (g5 k oO e)⟩
  |dfr=>exact hs.obj _ _ h
  |loop st pend N e2 params assign body =>
   obtain ⟨e1,h1,h2⟩:=h
   obtain ⟨g1,r,g2,g3,g4,g5,g6,g7,g8⟩:=hs.obj _ _ h1
   refine ⟨g1,r,g2,g3,g4,g5,g6,g7,g8.1,fun t v2 hv=>?_⟩
   obtain ⟨v,h3,h4⟩:=h2 t v2 hv
   obtain ⟨v',h5,h6⟩:=g8.2 t v h3
   exact ⟨v',h5,h4.trans h6⟩
  |map es2 =>
   obtain ⟨es,h1,h2,h3⟩:=h
   obtain ⟨g1,ents,a,g2,g3,g4,g5⟩:=hs.obj _ _ h1
   refine ⟨g1,ents,a,g2,oO,fun i hi g=>?_,g5⟩
   obtain ⟨k1,k2,k3,k4⟩:=g4 i oO g
   obtain ⟨l1,l2⟩:=h3 i hi oO
   exact ⟨by rw [k1,l1],by rw [l1];exact k2,l2.trans k3,k4⟩
  |iter m seen =>
   obtain ⟨h0,h1,l⟩:=h
   obtain ⟨g1,g2,ents,a,sb,g3,g4,g5,g6,g7⟩:=hs.obj _ _ h1
   exact ⟨g1,h0,ents,a,sb,g3,g4,g5,g6,by simp only [comp,g7,l]⟩
  |deep qs2 sp2 =>
   obtain ⟨h0,h1,h2⟩:=h
   refine ⟨fun hq=>?_,fun x hx=>?_⟩
   ·obtain ⟨sp,h1⟩:=h1.resolve_left hq
    obtain ⟨g1,g2⟩:=(hs.obj _ _ h1).1 hq
    refine ⟨g1,fun k hk=>?_⟩
    obtain ⟨v',g3,g4⟩:=g2 k hk
    exact ⟨v',by simpa [comp,h0] using g3,g4⟩
   ·obtain ⟨qs,sp,h3,v,h4,h5⟩:=h2 x hx
    obtain ⟨g1,v',g3,g4⟩:=(hs.obj _ _ h3).2 _ h4
    exact ⟨g1,v',by simpa [comp,h0] using g3,h5.trans g4⟩
theorem comp_id {ρ π:Rho} {i:Nat} (h:π i=⟨i,0,0⟩):comp ρ π i=ρ i:=by simp [comp,h]
def aaM (n:Nat) (π:Rho) (e e2:Env):Prop:=∀ p ∈ e2,∃ v,Env.get e p.1=some v∧jG n π p.2 v
theorem yN:∀ {e:Env} {t:Nat} {v:Value},Env.get e t=some v→(t,v) ∈ e
 |[],_,_,h=>by simp [Env.get] at h
 |(k,u)::e,t,v,h=>by
  simp only [Env.get] at h
  cases hk:Nat.beq k t with
  |true=>rw [hk] at h;simp at h;subst h;rw [aM hk];simp
  |false=>rw [hk] at h;exact dT _ (yN h)
theorem Rj {n:Nat} {m:Nat} {π ρ:Rho} {N:Nat} {e e2:Env} {tmps:Array Value} (he:aaM m π e e2) (h:EN n ρ N e tmps):EN m (comp ρ π) N e2 tmps :=
 ⟨h.1,fun t v hv=>by
  obtain ⟨u,h1,h2⟩:=he _ (yN hv)
  obtain ⟨v',h3,h4⟩:=h.2 t u h1
  exact ⟨v',h3,h2.trans h4⟩⟩
def fO (n:Nat):aB→Prop
 |.dead=>True
 |.ro cs=>dP n cs=true∧okL cs=true
 |.rw cs=>dP n cs=true∧okL cs=true
 |.gr cs _=>dP n cs=true∧okL cs=true
 |.dfr=>True
 |.loop _ _ _ e _ _ _=>∀ t v,Env.get e t=some v→closed n v=true∧okV v=true
 |.map es=>∀ p ∈ es,closed n p.2=true∧okV p.2=true
 |.iter m _=>m<n
 |.deep _ sp=>∀ x ∈ sp,closed n x.2=true∧okV x.2=true
theorem zQ {n:Nat} {ρ:Rho} {cs:List Value} (h:∀ (k:Nat) (hk:k<cs.length),∃ v',gq n ρ cs[k] v'):dP n cs=true∧okL cs=true:=by
 refine ⟨(ou _ _).2 fun v hv=>?_,(OC _).2 fun v hv=>?_⟩
 all_goals
  obtain ⟨k,hk,rfl⟩:=ey hv
  obtain ⟨v',a⟩:=h k hk
 ·exact rQ a
 ·exact MR a
theorem je {G:Nat→Prop} {n:Nat} {ρ:Rho} {w:World} {p:Pl} {o:aB} (h:LG G n ρ w p o):fO n o:=by
 cases o with
 |dead=>trivial
 |ro cs =>
  refine zQ (ρ:=ρ) fun k hk=>?_
  obtain ⟨_,h2⟩:=h (fun hc=>by subst hc;simp at hk)
  obtain ⟨v',_,h3⟩:=h2 k hk
  exact ⟨v',h3⟩
 |rw cs =>
  refine zQ (ρ:=ρ) fun k hk=>?_
  obtain ⟨_,_,rc,t,_,h4,h5⟩:=h (fun hc=>by subst hc;simp at hk)
  exact ⟨_,h5 k hk oO⟩
 |gr cs t =>
  refine zQ (ρ:=ρ) fun k hk=>?_
  obtain ⟨_,_,rc,_,_,h4,h5⟩:=h (fun hc=>by subst hc;simp at hk)
  exact ⟨_,h5 k hk oO⟩
 |dfr=>trivial
 |loop st pend N e params assign body =>
  obtain ⟨_,r,_,_,_,_,_,_,h8⟩:=h
  intro t v hv
  obtain ⟨v',_,h9⟩:=h8.2 t v hv
  exact ⟨rQ h9,MR h9⟩
 |map es =>
  obtain ⟨_,ents,clock,_,h3,h4,_⟩:=h
  intro p hp
  obtain ⟨k,hk,rfl⟩:=ey hp
  have:=(h4 k hk oO).2.2.1
  exact ⟨rQ this,MR this⟩
 |iter m seen=>exact h.2.1
 |deep qs sp =>
  intro x hx
  obtain ⟨_,v',_,h4⟩:=h.2 x hx
  exact ⟨rQ h4,MR h4⟩
theorem lY {σ:Heap} {n m i:Nat} {π:Rho} {o:aB} (hπ:∀ i<m,π i=⟨i,0,0⟩) (hnm:m≤n) (hi:i<m) (hσ:σ[i]?=some o) (hc:fO m o):xZ σ n π (π i) o:=by
 rw [hπ i hi]
 have cells:∀ cs:List Value,(dP m cs=true∧okL cs=true)→∀ (k:Nat) (h:k<cs.length) (h':k<cs.length),jG n π cs[k] cs[k]:=fun cs a k h _=>vP hπ hnm cs a.1 a.2 k h
 cases o with
 |dead=>trivial
 |ro cs=>exact .inr ⟨cs,hσ,fun k h=>⟨by simpa using h,by simpa using cells cs hc k h h⟩⟩
 |rw cs=>exact .inr ⟨rfl,cs,.inl hσ,aD _,cells cs hc⟩
 |gr cs t=>exact .inr ⟨rfl,cs,hσ,aD _,cells cs hc⟩
 |dfr=>exact hσ
 |loop st pend N e params assign body=>exact ⟨e,hσ,fun t v hv=>⟨v,hv,qA hπ hnm v (hc t v hv).1 (hc t v hv).2⟩⟩
 |map es=>exact ⟨es,hσ,rfl,fun i h _=>⟨rfl,qA hπ hnm _ (hc _ (cP h)).1 (hc _ (cP h)).2⟩⟩
 |iter k seen=>exact ⟨fi hc hnm,by rw [hπ k hc];exact hσ,rfl⟩
 |deep qs sp=>exact ⟨rfl,.inr ⟨sp,hσ⟩,fun x hx=>⟨qs,sp,hσ,x.2,hx,qA hπ hnm _ (hc x hx).1 (hc x hx).2⟩⟩
def aX (σin σ:Heap) (v v2:Value) (σ2:Heap):Prop :=
 (v2=v∧σ2=σ)∨((∀ (i:Nat) (o:aB),σin[i]?=some o→fO σin.length o)→∃ π,YZ σin.length π σ σ2∧jG σ2.length π v2 v)
theorem aX.all {σin σ:Heap} {v:Value}:aX σin σ v v σ:=Or.inl ⟨rfl,rfl⟩
theorem iO {σin σ:Heap} (h:σ.take σin.length=σin) {i:Nat} {o:aB} (hi:σin[i]?=some o):σ[i]?=some o:=by
 rw [← h] at hi
 have:=aQ hi
 rw [eE] at hi
 split at hi
 ·exact hi
 ·simp at hi
theorem aX.mk {σin σ:Heap} {v v2:Value} (π:Rho) (news:List aB) (hσ:σ.take σin.length=σin) (hid:∀ i < σin.length,π i=⟨i,0,0⟩)
  (hge:∀ j<news.length,σin.length≤(π (σin.length+j)).b) (hd:∀ j k,j<news.length→k<news.length→(π (σin.length+j)).b=(π (σin.length+k)).b→j=k)
  (hn:∀ j o,news[j]?=some o→xZ σ (σin.length+news.length) π (π (σin.length+j)) o) (hv:jG (σin.length+news.length) π v2 v):aX σin σ v v2 (σin++news):=by
 refine Or.inr fun f=>⟨π,⟨by simp,hid,fun i o2 hi=>?_,fun i j oi oj hi hj _ _ a=>?_⟩,by simpa using hv⟩
 ·rw [aR]
  by_cases d:i < σin.length
  ·rw [bR d] at hi
   exact lY hid oO d (iO hσ hi) (f i o2 hi)
  ·rw [bE oO] at hi
   have:=hn _ o2 hi
   rwa [show σin.length+(i - σin.length)=i from by omega] at this
 ·have h1:=aQ hi
  have h2:=aQ hj
  simp only [aR] at h1 h2
  by_cases c:i < σin.length <;> by_cases e:j < σin.length
  ·rw [hid i c,hid j e] at a;exact a
  ·rw [hid i c] at a
   have:=hge (j - σin.length) oO
   rw [show σin.length+(j - σin.length)=j from by omega,← a] at this
   simp only at this;omega
  ·rw [hid j e] at a
   have:=hge (i - σin.length) oO
   rw [show σin.length+(i - σin.length)=i from by omega,a] at this
   simp only at this;omega
  ·have:=hd (i - σin.length) (j - σin.length) oO oO (by
    rw [show σin.length+(i - σin.length)=i from by omega,show σin.length+(j - σin.length)=j from by omega];exact a)
   omega
theorem aX.plain {σin σ:Heap} {v:Value} (hσ:σ.take σin.length=σin) (hv:plain v=true):aX σin σ v v σin:=by
 have:=aX.mk (σin:=σin) (σ:=σ) (v:=v) (v2:=v) (fun i=>⟨i,0,0⟩) [] hσ (fun _ _=>rfl) (fun _ h=>by simp at h) (fun _ _ h=>by simp at h) (fun _ _ h=>by simp at h) (aY v hv)
 simpa using this
inductive tq (P:Program) (e:Env) (σ:Heap):List ResultVar→List Value→Prop
 |nil:tq P e σ [] []
 |tmp {t:Tmp} {v:Value} {rest:List ResultVar} {vs:List Value} (h:Env.get e t=some v) (hr:tq P e σ rest vs):tq P e σ (.tmp t::rest) (v::vs)
 |cellN {a ty size bytes i o:Nat} {z:Value} {cs:List Value} {rest:List ResultVar} {vs:List Value} (ht:Ty P ty size true z bytes) (h:Env.get e a=some (.pointer (some ⟨i,o,none⟩)))
   (hc:aJ σ i o size=some cs) (hr:tq P e σ rest vs):tq P e σ (.cell a ty::rest) (.agg cs.toArray::vs)
 |cell1 {a ty size bytes i o:Nat} {z v:Value} {rest:List ResultVar} {vs:List Value} (ht:Ty P ty size false z bytes) (h:Env.get e a=some (.pointer (some ⟨i,o,none⟩)))
   (hc:aH σ i o=some v) (hr:tq P e σ rest vs):tq P e σ (.cell a ty::rest) (v::vs)
def wQ (tmps:Array Value):ResultVar→Sem Value
 |.tmp t=>pure (tmps.getD t undef)
 |.cell a t=>do loadVar t (← asAddr (tmps.getD a undef))
section
variable {P:Program} {e:Env} {σ:Heap}
theorem tq.run {G:Nat→Prop} {w0 w:World} {ρ:Rho} {N:Nat} {tmps:Array Value} (hs:Sim G w0 ρ σ w) (ht:EN σ.length ρ N e tmps) {rv:List ResultVar} {vs:List Value} (h:tq P e σ rv vs) :
  ∃ rs:List Value,(rv.mapM (wQ tmps)).run P w=.ok rs w∧lV σ.length ρ vs.toArray rs.toArray:=by
 have cons:∀ {v r:Value} {vs rs:List Value},gq σ.length ρ v r→lV σ.length ρ vs.toArray rs.toArray→lV σ.length ρ (v::vs).toArray (r::rs).toArray:=by
  intro v r vs rs h1 h2
  refine ⟨by have:=h2.1;simp at this ⊢;exact this,fun i hi c=>?_⟩
  cases i with
  |zero=>exact h1
  |succ i=>exact h2.2 i (oU hi) (oU c)
 induction h with
 |nil=>exact ⟨[],by simp,rfl,fun i hi _=>by simp at hi⟩
 |@tmp t v rest vs h hr ih =>
  obtain ⟨rs,h1,h2⟩:=ih
  obtain ⟨v',g1,g2⟩:=ht.2 t v h
  refine ⟨v'::rs,?_,cons g2 h2⟩
  have e0:(wQ tmps (.tmp t)).run P w=.ok v' w:=by simp [wQ,g1]
  simp only [List.mapM_cons,Sem.run_bind,e0,h1,Result.andThen_ok,Sem.run_pure]
 |@cellN a ty size bytes i o z cs rest vs hty h hc hr ih =>
  obtain ⟨rs,h1,h2⟩:=ih
  obtain ⟨v',g1,g2⟩:=ht.2 a _ h
  obtain ⟨rfl,_⟩:=ng g2
  obtain ⟨cr,c1,c2,c3⟩:=MQ (P:=P) hs hc
  refine ⟨.agg cr.toArray::rs,?_,cons (.agg _ _ c3.1 c3.2) h2⟩
  have e0:(wQ tmps (.cell a ty)).run P w=.ok (.agg cr.toArray) w:=by simp [wQ,g1,asAddr,loadVar,hty.isAgg,hty.sizeOf,c1]
  simp only [List.mapM_cons,Sem.run_bind,e0,h1,Result.andThen_ok,Sem.run_pure]
 |@cell1 a ty size bytes i o z v rest vs hty h hc hr ih =>
  obtain ⟨rs,h1,h2⟩:=ih
  obtain ⟨v',g1,g2⟩:=ht.2 a _ h
  obtain ⟨rfl,_⟩:=ng g2
  obtain ⟨_,c2⟩:=kH hs (yL hc)
  obtain ⟨u,c3,c4⟩:=c2 0 oS
  simp only [cV] at c3
  refine ⟨u::rs,?_,cons (oU c4) h2⟩
  have e0:(wQ tmps (.cell a ty)).run P w=.ok u w:=by simp [wQ,g1,asAddr,loadVar,hty.isAgg,c3]
  simp only [List.mapM_cons,Sem.run_bind,e0,h1,Result.andThen_ok,Sem.run_pure]
def jY (vs:List Value):Value :=
 match vs with
 |[v]=>v
 |vs=>.tuple vs.toArray
def kE:List Nat→Heap→Heap
 |[],σ=>σ
 |i::l,σ=>kE l (σ.set i .dead)
theorem vU:∀ (l:List Nat) (σ:Heap),(kE l σ).length=σ.length
 |[],_=>rfl
 |i::l,σ=>by rw [kE,vU l];simp
def jB (P:Program) (σin:Heap) (rv:List ResultVar) (R:Value→Heap→Prop):Post
 |.normal,e,mk,σ|.ret,e,mk,σ=>mk.Nodup∧(∀ i ∈ mk,σ[i]?=some .dfr)∧∃ vs v2 σ2,tq P e (kE mk σ) rv vs∧aX σin (kE mk σ) (jY vs) v2 σ2∧R v2 σ2
 |_,_,_,_=>False
theorem MS {fn:Func} {G:Nat→Prop} {w0:World} {ρ:Rho} {N:Nat} {tmps:Array Value} {R:Ending→World→Prop} {vs:List Value} {rv:List ResultVar} (hrv:fn.results=rv.toArray) :
  ∀ (mk:List Nat) (σ:Heap) (w:World),Sim G w0 ρ σ w→EN σ.length ρ N e tmps→mk.Nodup→(∀ i ∈ mk,σ[i]?=some .dfr)→tq P e (kE mk σ) rv vs →
  (∀ w' vr,Sim G w0 ρ (kE mk σ) w'→gq σ.length ρ (jY vs) vr→R (.returned vr) w') →
  LeavesInM Fence.wide 0 P fn tmps R (mk.map fun i=>{ target:=.collected (ρ i).b,args:=#[] }) .returning w
 |[],σ,w,hs,ht,_,_,hr,hR=>by
  obtain ⟨rs,h1,h2⟩:=hr.run hs ht
  have c:vs.length=rs.length:=by simpa using h2.1
  refine ⟨if h:rs.length=1 then rs[0] else .tuple rs.toArray,?_,hR w _ hs ?_⟩
  ·have e0:results fn tmps=(do let vs ← rv.toArray.mapM (wQ tmps);pure (if h:vs.size=1 then vs[0] else .tuple vs)):=by
    unfold results
    rw [hrv]
    rfl
   rw [e0,Array.mapM_eq_mapM_toList]
   simp only [Sem.run_bind,Sem.run_map,h1,Result.andThen_ok,Sem.run_pure,fw]
   split <;> rfl
  ·unfold jY
   match vs,rs,c,h2 with
   |[],[],_,h2=>exact .tuple _ _ h2.1 h2.2
   |[v],[r],_,h2=>exact h2.2 0 oS oS
   |v::v2::vs,r::r2::rs,_,h2 =>
    rw [dif_neg oS]
    exact .tuple _ _ h2.1 h2.2
 |i::mk,σ,w,hs,ht,hnd,hm,hr,hR=>by
  obtain ⟨g1,g2⟩:=hs.obj i _ (hm i oS)
  refine ⟨by simp,.inl ⟨(ρ i).b,w.putObj (ρ i).b (.deferred none),rfl,run_takeDeferred g2,?_⟩⟩
  have f:Sim G w0 ρ (σ.set i .dead) (w.putObj (ρ i).b (.deferred none)):=by
   refine wO hs (hm i oS) trivial (rP w _ _) trivial ?_
   intro j k seen hj
   left
   intro d
   obtain ⟨_,_,ents,clock,sb,_,g6,_⟩:=hs.obj j _ hj
   rw [d,g2] at g6;simp at g6
  have a:=List.nodup_cons.1 hnd
  refine MS hrv mk _ _ f (by rw [ea];exact ht) a.2 (fun j hj=>?_) hr (fun w' vr h1 h2=>hR w' vr h1 (by rwa [ea] at h2))
  rw [eN (fun g=>a.1 (by rw [g];exact hj))]
  exact hm j (by simp [hj])
theorem aI {f:FuncId} {fn:Func} {c:Code} {args:List Value} {R:Value→Heap→Prop} {rv:List ResultVar} (n0 N:Nat) (hf:P.funcs[f]?=some fn) (hb:fn.body=some c) (hrv:fn.results=rv.toArray)
  (hN:fn.ntmps=N) (h0:σ.length=n0) (hn:Nat.ble args.length N=true) (h:bK P n0 N none c (jB P σ rv R) (uD 0 args) [] σ):eU P f args σ R:=by
 subst hN h0
 intro G w0 ρ ar w hs ha
 have hlen:args.length=ar.size:=by simpa using ha.1
 have hle:=cA hn
 refine callsIn_of_wp_marks hf hb trivial ?_ rfl
 have e:Inv σ.length fn.ntmps G w0 (xC σ.length ρ []) (uD 0 args) [] σ { tmps:=ar++Array.replicate (fn.ntmps - ar.size) undef,defers:=[] } w:=by
  refine ⟨aD _,ρ,fun _ h=>(uU h).symm,hs,⟨by simp;omega,fun t v hv=>?_⟩,by rw [BX];rfl,fun i hi=>by simp at hi⟩
  obtain ⟨_,h2⟩:=zL args 0 t v hv
  simp only [Nat.sub_zero] at h2
  obtain ⟨hl,rfl⟩:=List.getElem?_eq_some_iff.1 h2
  exact ⟨ar[t],by rw [Array.getElem?_append_left oO];simp [show t<ar.size from by omega],ha.2 t (oU hl) oO⟩
 refine wpIn_mono (h G w0 _ _ w e) ?_
 rintro ex A' w' ⟨e',g,σ',q,h0,ρ',d,m,j⟩
 replace d:∀ i < σ.length,ρ' i=ρ i:=fun i hi=>(d i hi).trans (uU hi)
 have k:jB P σ rv R .ret e' g σ'→LeavesInM Fence.wide 0 P fn A'.tmps (fun en w'=>∃ ρ' vr v σ',en=.returned vr∧R v σ'∧gq σ'.length ρ' v vr∧σ.length≤σ'.length∧(∀ i < σ.length,ρ' i=ρ i)∧Sim G w0 ρ' σ' w') A'.defers .returning w':=by
  rintro ⟨n,hm,vs,v2,σ2,hr,a,hR⟩
  rw [j.mks,BX,dz,bL]
  refine MS hrv g σ' w' m j.tmps n hm hr fun w'' vr h1 h2=>?_
  rcases a with ⟨rfl,rfl⟩|a
  ·exact ⟨ρ',vr,jY vs,kE g σ',rfl,hR,by rw [vU];exact h2,by rw [vU];exact h0,d,h1⟩
  ·obtain ⟨π,g1,g2⟩:=a fun i o hi=>je (hs.obj i o hi)
   exact ⟨comp ρ' π,vr,v2,σ2,rfl,hR,g2.trans h2,g1.le,fun i hi=>(comp_id (g1.id i hi)).trans (d i hi),Io g1 h1⟩
 cases ex with
 |normal=>exact k q
 |ret=>exact k q
 |exit id=>exact q.elim
 |goto l=>exact q.elim
 |panic ch=>exact q.elim
 |outgrown=>exact q.elim
theorem dK {σin:Heap} {rv:List ResultVar} {R:Value→Heap→Prop} {vs:List Value} {v2:Value} {σ2:Heap} (hr:tq P e σ rv vs) (href:aX σin σ (jY vs) v2 σ2) (hR:R v2 σ2) :
  jB P σin rv R .ret e [] σ:=⟨List.nodup_nil,fun _ h=>by simp at h,vs,v2,σ2,hr,href,hR⟩
theorem U5 {σin:Heap} {rv:List ResultVar} {R:Value→Heap→Prop} {vs:List Value} {v2:Value} {σ2:Heap} (hr:tq P e σ rv vs) (href:aX σin σ (jY vs) v2 σ2) (hR:R v2 σ2) :
  jB P σin rv R .normal e [] σ:=⟨List.nodup_nil,fun _ h=>by simp at h,vs,v2,σ2,hr,href,hR⟩
end
section
variable {P:Program} {n0 N:Nat} {rd:Option Nat} {Q:Post} {e:Env} {mk:List Nat} {σ:Heap} {K:Env→List Nat→Heap→Prop} {all rest:List Oper} {x y:Code} {c:Operand}
theorem tC (h:K e mk σ):gy K Q .normal e mk σ:=h
theorem ad3 (h:Q .ret e mk σ):gy K Q .ret e mk σ:=h
theorem Y0 {id:Nat} (h:Q (.exit id) e mk σ):gy K Q (.exit id) e mk σ:=h
theorem uF {id:Nat} (h:Q .normal e mk σ):dO id Q .normal e mk σ:=h
theorem ad4 {id:Nat} (h:Q .ret e mk σ):dO id Q .ret e mk σ:=h
theorem Ci {id id':Nat} (hid:Nat.beq id' id=true) (h:Q .normal e mk σ):dO id Q (.exit id') e mk σ:=by
 have:id'=id:=aM hid
 simp only [dO,if_pos this];exact h
theorem DF {id id':Nat} (hid:Nat.beq id' id=false) (h:Q (.exit id') e mk σ):dO id Q (.exit id') e mk σ:=by
 have:¬ id'=id:=fun he=>by subst he;simp at hid
 simp only [dO,if_neg this];exact h
theorem qR {b:Bool} (hc:aP e c=some (.bool b)) (hb:b=true) (h:bK P n0 N rd x Q e mk σ):bK P n0 N rd (.cond c x y) Q e mk σ :=
 UW hc (fun _=>h) (fun h'=>by rw [hb] at h';simp at h')
theorem nZ {b:Bool} (hc:aP e c=some (.bool b)) (hb:b=false) (h:bK P n0 N rd y Q e mk σ):bK P n0 N rd (.cond c x y) Q e mk σ :=
 UW hc (fun h'=>by rw [hb] at h';simp at h') (fun _=>h)
theorem iR {p:Prop} [Decidable p] (hc:aP e c=some (.bool (decide p))) (h1:p→bK P n0 N rd x Q e mk σ) (h2:¬ p→bK P n0 N rd y Q e mk σ):bK P n0 N rd (.cond c x y) Q e mk σ :=
 UW hc (fun h'=>h1 (of_decide_eq_true h')) (fun h'=>h2 (of_decide_eq_false h'))
theorem ad5 {o:Oper} {j:Nat} {b:Bool} (_hg:jH all e j=some (.bool b)) (h1:b=true→bZ P n0 N rd all (o::rest) K e mk σ) (h2:b=false→bZ P n0 N rd all (o::rest) K e mk σ) :
  bZ P n0 N rd all (o::rest) K e mk σ:=by
 cases hb:b
 ·exact h2 hb
 ·exact h1 hb
theorem zS {d:Option Nat} {op:Op} {ty:TypeId} {pos:String} {after:Array Edge} {j:Nat} {p:Prop} [Decidable p] {want:Bool} (hg:jH all e j=some (.bool (decide p)))
  (h1:p→bZ P n0 N rd all (⟨d,op,ty,pos,after,some (j,want)⟩::rest) K e mk σ) (h2:¬ p→bZ P n0 N rd all (⟨d,op,ty,pos,after,some (j,want)⟩::rest) K e mk σ) :
  bZ P n0 N rd all (⟨d,op,ty,pos,after,some (j,want)⟩::rest) K e mk σ:=ad5 hg (fun h=>h1 (of_decide_eq_true h)) (fun h=>h2 (of_decide_eq_false h))
section
variable {d:Option Nat} {op:Op} {ty:TypeId} {pos:String} {after:Array Edge} {g:Option (Nat×Bool)}
theorem gU (h:bZ P n0 N rd all (⟨d,op,ty,pos,after,none⟩::rest) K e mk σ):bZ P n0 N rd all (⟨d,op,ty,pos,after,none⟩::rest) K e mk σ:=h
theorem gG {j:Nat} {b:Bool} (h:bZ P n0 N rd all (⟨d,op,ty,pos,after,some (j,b)⟩::rest) K e mk σ):bZ P n0 N rd all (⟨d,op,ty,pos,after,some (j,b)⟩::rest) K e mk σ:=h
theorem zx {x:Operand} (h:bZ P n0 N rd all (⟨d,.move x,ty,pos,after,g⟩::rest) K e mk σ):bZ P n0 N rd all (⟨d,.move x,ty,pos,after,g⟩::rest) K e mk σ:=h
theorem yO {x:Operand} (h:bZ P n0 N rd all (⟨d,.assign x,ty,pos,after,g⟩::rest) K e mk σ):bZ P n0 N rd all (⟨d,.assign x,ty,pos,after,g⟩::rest) K e mk σ:=h
theorem gFA {t f:Nat} {x:Operand} (h:bZ P n0 N rd all (⟨d,.fieldAddr t x f,ty,pos,after,g⟩::rest) K e mk σ):bZ P n0 N rd all (⟨d,.fieldAddr t x f,ty,pos,after,g⟩::rest) K e mk σ:=h
theorem bV {t:Nat} {x:Operand} (h:bZ P n0 N rd all (⟨d,.load t x,ty,pos,after,g⟩::rest) K e mk σ):bZ P n0 N rd all (⟨d,.load t x,ty,pos,after,g⟩::rest) K e mk σ:=h
theorem gV {t:Nat} {x y:Operand} (h:bZ P n0 N rd all (⟨d,.store t x y,ty,pos,after,g⟩::rest) K e mk σ):bZ P n0 N rd all (⟨d,.store t x y,ty,pos,after,g⟩::rest) K e mk σ:=h
theorem BK {o:BinOp} {t t':Nat} {x y:Operand} (h:bZ P n0 N rd all (⟨d,.binOp o t x y t',ty,pos,after,g⟩::rest) K e mk σ):bZ P n0 N rd all (⟨d,.binOp o t x y t',ty,pos,after,g⟩::rest) K e mk σ:=h
theorem ES {t t':Nat} {x y:Operand} (h:bZ P n0 N rd all (⟨d,.binOp .add t x y t',ty,pos,after,g⟩::rest) K e mk σ):bZ P n0 N rd all (⟨d,.binOp .add t x y t',ty,pos,after,g⟩::rest) K e mk σ:=h
theorem gSub {t t':Nat} {x y:Operand} (h:bZ P n0 N rd all (⟨d,.binOp .sub t x y t',ty,pos,after,g⟩::rest) K e mk σ):bZ P n0 N rd all (⟨d,.binOp .sub t x y t',ty,pos,after,g⟩::rest) K e mk σ:=h
theorem aaN {t t':Nat} {x y:Operand} (h:bZ P n0 N rd all (⟨d,.binOp .mul t x y t',ty,pos,after,g⟩::rest) K e mk σ):bZ P n0 N rd all (⟨d,.binOp .mul t x y t',ty,pos,after,g⟩::rest) K e mk σ:=h
theorem yP {t:Nat} {x:Operand} (h:bZ P n0 N rd all (⟨d,.unOp .not t x,ty,pos,after,g⟩::rest) K e mk σ):bZ P n0 N rd all (⟨d,.unOp .not t x,ty,pos,after,g⟩::rest) K e mk σ:=h
theorem gNeg {t:Nat} {x:Operand} (h:bZ P n0 N rd all (⟨d,.unOp .neg t x,ty,pos,after,g⟩::rest) K e mk σ):bZ P n0 N rd all (⟨d,.unOp .neg t x,ty,pos,after,g⟩::rest) K e mk σ:=h
theorem nN {x y z:Operand} (h:bZ P n0 N rd all (⟨d,.pick x y z,ty,pos,after,g⟩::rest) K e mk σ):bZ P n0 N rd all (⟨d,.pick x y z,ty,pos,after,g⟩::rest) K e mk σ:=h
theorem gBox {t:Nat} {x:Operand} (h:bZ P n0 N rd all (⟨d,.box t x,ty,pos,after,g⟩::rest) K e mk σ):bZ P n0 N rd all (⟨d,.box t x,ty,pos,after,g⟩::rest) K e mk σ:=h
theorem Cj {t:Nat} (h:bZ P n0 N rd all (⟨d,.alloc t,ty,pos,after,g⟩::rest) K e mk σ):bZ P n0 N rd all (⟨d,.alloc t,ty,pos,after,g⟩::rest) K e mk σ:=h
theorem Rk {i:Nat} {x:Operand} (h:bZ P n0 N rd all (⟨d,.extract x i,ty,pos,after,g⟩::rest) K e mk σ):bZ P n0 N rd all (⟨d,.extract x i,ty,pos,after,g⟩::rest) K e mk σ:=h
theorem gNil {x:Operand} (h:bZ P n0 N rd all (⟨d,.nilCheck x,ty,pos,after,g⟩::rest) K e mk σ):bZ P n0 N rd all (⟨d,.nilCheck x,ty,pos,after,g⟩::rest) K e mk σ:=h
theorem gIA {t:Nat} {x y:Operand} (h:bZ P n0 N rd all (⟨d,.indexAddr t x y,ty,pos,after,g⟩::rest) K e mk σ):bZ P n0 N rd all (⟨d,.indexAddr t x y,ty,pos,after,g⟩::rest) K e mk σ:=h
theorem ET {as:Array Operand} {ts:Array TypeId} (h:bZ P n0 N rd all (⟨d,.call { callee:=.builtin .len,args:=as,argTypes:=ts },ty,pos,after,g⟩::rest) K e mk σ):bZ P n0 N rd all (⟨d,.call { callee:=.builtin .len,args:=as,argTypes:=ts },ty,pos,after,g⟩::rest) K e mk σ:=h
theorem gMax {as:Array Operand} {ts:Array TypeId} (h:bZ P n0 N rd all (⟨d,.call { callee:=.builtin .max,args:=as,argTypes:=ts },ty,pos,after,g⟩::rest) K e mk σ):bZ P n0 N rd all (⟨d,.call { callee:=.builtin .max,args:=as,argTypes:=ts },ty,pos,after,g⟩::rest) K e mk σ:=h
theorem aaO {as:Array Operand} {ts:Array TypeId} (h:bZ P n0 N rd all (⟨d,.call { callee:=.builtin .min,args:=as,argTypes:=ts },ty,pos,after,g⟩::rest) K e mk σ):bZ P n0 N rd all (⟨d,.call { callee:=.builtin .min,args:=as,argTypes:=ts },ty,pos,after,g⟩::rest) K e mk σ:=h
theorem gConv {t u:Nat} {x:Operand} (h:bZ P n0 N rd all (⟨d,.convert t u x,ty,pos,after,g⟩::rest) K e mk σ):bZ P n0 N rd all (⟨d,.convert t u x,ty,pos,after,g⟩::rest) K e mk σ:=h
theorem gMkF {f:Fn} {as bs:Array Operand} (h:bZ P n0 N rd all (⟨d,.makeFunc f as bs,ty,pos,after,g⟩::rest) K e mk σ):bZ P n0 N rd all (⟨d,.makeFunc f as bs,ty,pos,after,g⟩::rest) K e mk σ:=h
theorem dX {x:Operand} {as:Array Operand} {ts:Array TypeId} (h:bZ P n0 N rd all (⟨d,.call { callee:=.value x,args:=as,argTypes:=ts },ty,pos,after,g⟩::rest) K e mk σ):bZ P n0 N rd all (⟨d,.call { callee:=.value x,args:=as,argTypes:=ts },ty,pos,after,g⟩::rest) K e mk σ:=h
theorem OE {t:Nat} {ps:Array (Nat×Operand)} (h:bZ P n0 N rd all (⟨d,.build t ps,ty,pos,after,g⟩::rest) K e mk σ):bZ P n0 N rd all (⟨d,.build t ps,ty,pos,after,g⟩::rest) K e mk σ:=h
theorem Ba {t n:Nat} {ps:Array (Nat×Operand)} (h:bZ P n0 N rd all (⟨d,.buildSlice t n ps,ty,pos,after,g⟩::rest) K e mk σ):bZ P n0 N rd all (⟨d,.buildSlice t n ps,ty,pos,after,g⟩::rest) K e mk σ:=h
theorem OG {t:Nat} {x:Operand} {a b c:Option Operand} (h:bZ P n0 N rd all (⟨d,.slice t x a b c,ty,pos,after,g⟩::rest) K e mk σ):bZ P n0 N rd all (⟨d,.slice t x a b c,ty,pos,after,g⟩::rest) K e mk σ:=h
theorem agD {as:Array Operand} {ts:Array TypeId} (h:bZ P n0 N rd all (⟨d,.call { callee:=.builtin .clear,args:=as,argTypes:=ts },ty,pos,after,g⟩::rest) K e mk σ):bZ P n0 N rd all (⟨d,.call { callee:=.builtin .clear,args:=as,argTypes:=ts },ty,pos,after,g⟩::rest) K e mk σ:=h
theorem aaP {t:Nat} {x y:Operand} (h:bZ P n0 N rd all (⟨d,.makeSlice t x y,ty,pos,after,g⟩::rest) K e mk σ):bZ P n0 N rd all (⟨d,.makeSlice t x y,ty,pos,after,g⟩::rest) K e mk σ:=h
theorem gApp {as:Array Operand} {ts:Array TypeId} (h:bZ P n0 N rd all (⟨d,.call { callee:=.builtin .append,args:=as,argTypes:=ts },ty,pos,after,g⟩::rest) K e mk σ):bZ P n0 N rd all (⟨d,.call { callee:=.builtin .append,args:=as,argTypes:=ts },ty,pos,after,g⟩::rest) K e mk σ:=h
end
theorem eX {p:Prop} [Decidable p] (h:p):decide p=true:=decide_eq_true h
theorem cZ {p:Prop} [Decidable p] (h:¬ p):decide p=false:=decide_eq_false h
end
end Go.AH
