/- A run of a call that the kernel computes in abstract heaps, and the theorem that what it computes is what the call does. Conditions: the tables hold, the oracle is sound. -/
import Derived.Test.YtomioaiojidnbaaDfMC
namespace Go.AH
open Go
inductive Trie (α:Type) where
 |z
 |nd (v:Option α) (l r:Trie α)
abbrev PT:=Trie Value
def Trie.get {α:Type}:Trie α→Nat→Option α
 |.z,_=>none
 |.nd v l r,t=>bif Nat.beq t 0 then v else bif Nat.beq (Nat.mod t 2) 1 then l.get (Nat.div t 2) else r.get (Nat.pred (Nat.div t 2))
def Trie.put {α:Type}:Trie α→Nat→α→Trie α
 |.z,_,_=>.z
 |.nd v l r,t,x=>bif Nat.beq t 0 then .nd (some x) l r else bif Nat.beq (Nat.mod t 2) 1 then .nd v (l.put (Nat.div t 2) x) r else .nd v l (r.put (Nat.pred (Nat.div t 2)) x)
def Trie.full {α:Type}:Nat→Trie α
 |0=>.z
 |k+1=>.nd none (Trie.full k) (Trie.full k)
structure Tab where
 ty:Trie (Nat×Bool×Value×Nat)
 fld:Trie (List (Nat×Nat))
 sl:Trie Nat
 ar:Trie (Nat×Nat)
 ik:Trie IntKind
 eq2:Trie Unit
 pls:Trie (Value×List (Nat×Nat))
 fn:Trie (Nat×List ResultVar×Code)
def Tab.yQ (T:Tab) (s f:Nat):Option (Nat×Nat):=(T.fld.get s).bind fun l=>l[f]?
def kG {α β:Type}:List α→(List α→β)→β
 |[],k=>k []
 |x::l,k=>kG l fun m=>k (x::m)
theorem jA {α β:Type}:∀ (l:List α) (k:List α→β),kG l k=k l
 |[],_=>rfl
 |x::l,k=>jA l fun m=>k (x::m)
abbrev Res:=Option (Value×Heap×Nat)
def fA {α:Type} (b:Bool) (x:Option α):Option α:=bif b then x else none
def asInt:Value→Option (IntKind×Int)
 |.int k n=>some (k,n)
 |_=>none
def asBool:Value→Option Bool
 |.bool b=>some b
 |_=>none
def uN:Value→Option (Nat×Nat)
 |.pointer (some ⟨i,o,none⟩)=>some (i,o)
 |_=>none
def wC:Value→Option (Nat×Nat×Nat×Nat)
 |.slice (some ⟨i,o,none⟩) n c=>some (i,o,n,c)
 |_=>none
def OB:Value→Option (Nat×Nat×Nat)
 |.slice (some ⟨i,0,some sz⟩) (n+1) c=>fA (Nat.beq c (n+1)) (some (i,sz,n))
 |_=>none
def uj:Value→Bool
 |.slice none 0 0=>true
 |_=>false
def SB:Value→Option Nat
 |.slice _ n _=>some n
 |_=>none
def asAgg:Value→Option (List Value)
 |.agg ⟨l⟩=>some l
 |_=>none
def IQ:Value→Option (List Value)
 |.tuple ⟨l⟩=>some l
 |_=>none
def KC:Value→Option (Nat×List Value×List Value)
 |.func (.func f) ⟨p⟩ ⟨q⟩=>some (f,p,q)
 |_=>none
def LM:Value→Option Nat
 |.func (.yield l) ⟨[]⟩ ⟨[]⟩=>some l
 |_=>none
def as2:List Value→Option (IntKind×Int×IntKind×Int)
 |[a,b]=>(asInt a).bind fun x=>(asInt b).bind fun y=>some (x.1,x.2,y.1,y.2)
 |_=>none
def evO (e:PT):Operand→Option Value
 |.tmp t=>e.get t
 |.const v=>fA (plain v) (some v)
 |.func f=>some (.func (.func f) #[] #[])
 |.global _=>none
def evL (e:PT):List Operand→Option (List Value)
 |[]=>some []
 |x::l=>(evO e x).bind fun v=>(evL e l).bind fun vs=>some (v::vs)
def evP (e:PT):List (Nat×Operand)→Option (List (Nat×Value))
 |[]=>some []
 |p::l=>(evO e p.2).bind fun v=>(evP e l).bind fun vs=>some ((p.1,v)::vs)
def jY (v:Value) (σ:Heap):Res:=some (v,σ,σ.length)
def newR (v:Value) (σ:Heap) (cs:List Value):Res:=kG cs fun cs=>kG (σ++[.rw cs]) fun σ'=>some (v,σ',σ.length)
def N8 (v:Value) (i:Nat) (σ:Option Heap):Res:=σ.bind fun σ=>kG σ fun σ=>some (v,σ,i)
def arith:BinOp→IntKind→Int→Int→Option Value
 |.quo=>fun k m n=>fA (!decide (n=0)) (some (.int k (k.wrap (m.tdiv n))))
 |.rem=>fun k m n=>fA (!decide (n=0)) (some (.int k (m.tmod n)))
 |.or=>fun k m n=>fA (decide (k=.i64) && (decide (m=0) || decide (m=1)) && (decide (n=0) || decide (n=1))) (some (.int .i64 (bI (decide (m=1) || decide (n=1)))))
 |op=>Iq op
def Tn:BinOp→Bool→Option Value
 |.eql=>fun b=>some (.bool b)
 |.neq=>fun b=>some (.bool (!b))
 |_=>fun _=>none
def QV (op:BinOp) (v:Value) (σ:Heap) (x:IntKind×Int):Res :=
 (asInt v).bind fun y=>fA (decide (x.1=y.1)) ((arith op x.1 x.2 y.2).bind fun r=>jY r σ)
def QW (T:Tab) (op:BinOp) (t:TypeId) (u v:Value) (σ:Heap):Res :=
 (asAgg u).bind fun a=>(asAgg v).bind fun b=>(as2 a).bind fun x=>(as2 b).bind fun y =>
  fA ((T.eq2.get t).isSome && decide (x.1=y.1) && decide (x.2.2.1=y.2.2.1)) ((Tn op (decide (x.2.1=y.2.1∧x.2.2.2=y.2.2.2))).bind fun r=>jY r σ)
def isI:Value→Bool
 |.int .i64 _=>true
 |_=>false
def Dv:List Value→Bool
 |[]=>true
 |v::l=>isI v && Dv l
def ivA (a:List Value) (i:Nat):Int:=match (a[i]?).bind asInt with|some x=>x.2|none=>0
def LP:BinOp→Bool
 |.eql=>true
 |_=>false
def QX (T:Tab) (op:BinOp) (t:TypeId) (u v:Value) (σ:Heap):Res :=
 (asAgg u).bind fun a=>(asAgg v).bind fun b=>(T.ar.get t).bind fun y=>(T.ty.get y.2).bind fun q=>(T.ik.get y.2).bind fun k =>
  fA (LP op && Nat.beq q.1 1 && !q.2.1 && decide (k=.i64) && Nat.beq a.length y.1 && Nat.beq b.length y.1 && Dv a && Dv b) (jY (.bool (decide (∀ i ∈ List.range y.1,ivA a i=ivA b i))) σ)
def QY (T:Tab) (op:BinOp) (t:TypeId) (u:Value) (σ:Heap):Res :=
 (wC u).bind fun p=>(T.sl.get t).bind fun _=>fA (LP op && Nat.blt 0 p.2.2.1) (jY (.bool false) σ)
def QZ (T:Tab) (op:BinOp) (t:TypeId) (u v:Value) (σ:Heap):Bool→Res
 |true=>QY T op t u σ
 |false=>match QW T op t u v σ with
  |some r=>some r
  |none=>QX T op t u v σ
def SC (T:Tab) (op:BinOp) (t:TypeId) (u v:Value) (σ:Heap):Res :=
 match asInt u with
 |some x=>QV op v σ x
 |none=>QZ T op t u v σ (uj v)
def KD (i o:Nat) (σ:Heap) (size:Nat):Bool→Res
 |false=>(cZ σ i o).bind fun v=>jY v σ
 |true=>(dh σ i o size).bind fun cs=>jY (.agg ⟨cs⟩) σ
def IU (T:Tab) (t:TypeId) (u:Value) (σ:Heap):Res :=
 (uN u).bind fun p=>(T.ty.get t).bind fun y=>KD p.1 p.2 σ y.1 y.2.1
def Tq (σ:Heap) (i o:Nat) (vs:List Value):cu→Option Heap
 |.rw cs=>fA (Nat.ble (o+vs.length) cs.length && Nat.blt 0 cs.length) (kG (splice cs o vs) fun cs=>some (σ.set i (.rw cs)))
 |.gr cs t=>fA (Nat.ble (o+vs.length) cs.length && Nat.blt 0 cs.length) (kG (splice cs o vs) fun cs=>some (σ.set i (.gr cs t)))
 |_=>none
def N9 (σ:Heap) (i o:Nat) (vs:List Value):Option Heap:=(σ[i]?).bind (Tq σ i o vs)
def KE (T:Tab) (t:TypeId) (u v:Value) (σ:Heap):Res :=
 (uN u).bind fun p=>(T.ty.get t).bind fun y=>fA (Nat.beq (gB v).length y.1 && (gB v).all (·.oneCell')) (N8 undef p.1 (N9 σ p.1 p.2 (gB v)))
def rFA (T:Tab) (s f:Nat) (u:Value) (σ:Heap):Res :=
 (uN u).bind fun p=>(T.yQ s f).bind fun x=>(T.ty.get x.2).bind fun y=>fA (Nat.blt 0 y.1) (jY (.pointer (some ⟨p.1,p.2+x.1,none⟩)) σ)
def IV (cs:List Value) (off:Nat) (σ:Heap) (size:Nat):Bool→Res
 |false=>(cs[off]?).bind fun v=>jY v σ
 |true=>fA (Nat.ble (off+size) cs.length) (kG ((cs.drop off).take size) fun l=>jY (.agg ⟨l⟩) σ)
def KF (T:Tab) (s f:Nat) (u:Value) (σ:Heap):Res :=
 (asAgg u).bind fun cs=>(T.yQ s f).bind fun x=>(T.ty.get x.2).bind fun y=>IV cs x.1 σ y.1 y.2.1
def Q5 (T:Tab) (t:TypeId) (j:Int) (σ:Heap) (p:Nat×Nat×Nat×Nat):Res :=
 (T.sl.get t).bind fun el=>(T.ty.get el).bind fun y=>fA (decide (0≤j) && decide (j<p.2.2.1)) (jY (.pointer (some ⟨p.1,p.2.1+j.toNat*y.1,none⟩)) σ)
def Q7 (T:Tab) (t:TypeId) (j:Int) (σ:Heap) (p:Nat×Nat×Nat):Res :=
 (T.sl.get t).bind fun el=>(T.ty.get el).bind fun y=>fA (decide (0≤j) && decide (j<(p.2.2+1:Nat))) (jY (.pointer (some ⟨p.1,j.toNat*y.1,none⟩)) σ)
def Q8 (T:Tab) (t:TypeId) (j:Int) (σ:Heap) (p:Nat×Nat):Res :=
 (T.ar.get t).bind fun a=>(T.ty.get a.2).bind fun y=>fA (decide (0≤j) && decide (j<a.1)) (jY (.pointer (some ⟨p.1,p.2+j.toNat*y.1,none⟩)) σ)
def OC (T:Tab) (t:TypeId) (u:Value) (σ:Heap) (j:Int):Res :=
 match wC u with
 |some p=>Q5 T t j σ p
 |none=>match OB u with
  |some p=>Q7 T t j σ p
  |none=>(uN u).bind (Q8 T t j σ)
def OD (T:Tab) (t:TypeId) (u v:Value) (σ:Heap):Res:=(asInt v).bind fun x=>OC T t u σ x.2
def SE (T:Tab) (t:TypeId) (u v:Value) (σ:Heap):Res :=
 (asAgg u).bind fun cs=>(asInt v).bind fun x=>(T.ar.get t).bind fun a=>(T.ty.get a.2).bind fun y =>
  fA (decide (0≤x.2) && decide (x.2<a.1)) (IV cs (x.2.toNat*y.1) σ y.1 y.2.1)
def LQ (T:Tab) (t:TypeId) (σ:Heap) (vs:List (Nat×Value)):Res :=
 (T.ty.get t).bind fun y=>(T.ar.get t).bind fun a=>(T.ty.get a.2).bind fun q=>fA (y.2.1 && plain y.2.2.1) ((uH (fun i=>some (i*q.1,q.1)) (gB y.2.2.1) vs).bind fun cs=>kG cs fun cs=>jY (.agg ⟨cs⟩) σ)
def KG (T:Tab) (t:TypeId) (vs:List (Nat×Value)) (σ:Heap):Res :=
 match T.pls.get t with
 |some z=>fA (plain z.1) ((uH (z.2.toArray[·]?) (gB z.1) vs).bind fun cs=>kG cs fun cs=>jY (.agg ⟨cs⟩) σ)
 |none=>LQ T t σ vs
def OE:List (Nat×Value)→Bool
 |[]=>true
 |_=>false
def IW (T:Tab) (t:TypeId) (vs:List (Nat×Value)) (σ:Heap):Res :=
 (T.sl.get t).bind fun el=>(T.ty.get el).bind fun _=>fA (OE vs) (kG (σ++[.dead]) fun σ'=>some (.slice none 0 1,σ',σ.length))
def IX (T:Tab) (t:TypeId) (len:Nat) (vs:List (Nat×Value)) (σ:Heap):Res :=
 (T.sl.get t).bind fun el=>(T.ty.get el).bind fun y =>
  fA (plain y.2.2.1 && Nat.beq y.2.2.1.cells.toList.length y.1 && Nat.blt 0 (len*y.1) && Nat.ble (len*y.1) 16777216)
   ((uH (fun i=>some (i*y.1,y.1)) (jI (gB y.2.2.1) len) vs).bind fun cs=>newR (.slice (some ⟨σ.length,0,none⟩) len len) σ cs)
def Gt (T:Tab) (t:TypeId) (len:Nat) (vs:List (Nat×Value)) (σ:Heap):Res:=bif Nat.beq len 0 then IW T t vs σ else IX T t len vs σ
def LU (z:Value) (size bytes:Nat) (l c:Int) (σ:Heap):Res :=
 fA (plain z && Nat.beq z.cells.toList.length size && decide (0≤l) && decide (l≤c) && Nat.ble (bytes*c.toNat) 281474976710656 && Nat.ble c.toNat 9223372036854775807)
  (newR (.slice (some ⟨σ.length,0,none⟩) l.toNat c.toNat) σ (jI (gB z) c.toNat))
def KH (T:Tab) (t:TypeId) (u v:Value) (σ:Heap):Res :=
 (asInt u).bind fun l=>(asInt v).bind fun c=>(T.sl.get t).bind fun el=>(T.ty.get el).bind fun y=>LU y.2.2.1 y.1 y.2.2.2 l.2 c.2 σ
def SG (T:Tab) (t:TypeId) (u:Value) (σ:Heap):Res:=(SB u).bind fun n=>(T.sl.get t).bind fun _=>jY (.int .i64 (n:Nat)) σ
def Tt (u:Value) (σ:Heap):Res:=(asBool u).bind fun b=>jY (.bool (!b)) σ
def Tv (u:Value) (σ:Heap):Res:=(asInt u).bind fun x=>jY (.int x.1 (x.1.wrap (0 - x.2))) σ
def OG (a b:Option Value) (σ:Heap):Bool→Res
 |true=>a.bind fun v=>jY v σ
 |false=>b.bind fun v=>jY v σ
def OH (T:Tab) (s d:TypeId) (u:Value) (σ:Heap):Res :=
 (asInt u).bind fun x=>(T.ik.get s).bind fun a=>(T.ik.get d).bind fun k=>fA (decide (a=x.1)) (jY (.int k (k.wrap x.2)) σ)
def rMM (f:Int→Int→Int) (u v:Value) (σ:Heap):Res:=(asInt u).bind fun x=>(asInt v).bind fun y=>fA (decide (x.1=y.1)) (jY (.int x.1 (f x.2 y.2)) σ)
def IY (u:Value) (i:Nat) (σ:Heap):Res:=(IQ u).bind fun vs=>(vs[i]?).bind fun v=>jY v σ
def SH (u:Value) (σ:Heap):Res:=fA ((uN u).isSome || (KC u).isSome) (jY u σ)
def OI (T:Tab) (t:TypeId) (σ:Heap):Res:=(T.ty.get t).bind fun y=>fA (plain y.2.2.1) (newR (.pointer (some ⟨σ.length,0,none⟩)) σ (gB y.2.2.1))
def rBox (σ:Heap) (v:Value):Res:=newR (.pointer (some ⟨σ.length,0,none⟩)) σ (gB v)
def slH (T:Tab) (t:TypeId) (p:Nat×Nat×Nat×Nat) (h:Int) (σ:Heap):Res :=
 (T.sl.get t).bind fun el=>(T.ty.get el).bind fun _=>fA (decide (0≤h) && decide (h≤p.2.2.2)) (jY (.slice (some ⟨p.1,p.2.1,none⟩) h.toNat p.2.2.2) σ)
def slL (T:Tab) (t:TypeId) (p:Nat×Nat×Nat×Nat) (l:Int) (σ:Heap):Res :=
 (T.sl.get t).bind fun el=>(T.ty.get el).bind fun y=>fA (decide (0≤l) && decide (l≤p.2.2.1) && Nat.ble p.2.2.1 p.2.2.2)
  (jY (.slice (some ⟨p.1,p.2.1+l.toNat*y.1,none⟩) (p.2.2.1 - l.toNat) (p.2.2.2 - l.toNat)) σ)
def slG (T:Tab) (t:TypeId) (u:Value) (h m:Int) (σ:Heap):Res :=
 (T.sl.get t).bind fun el=>(T.ty.get el).bind fun y =>
  match OB u with
  |some p=>fA (Nat.beq y.1 p.2.1 && decide (h=(p.2.2+1:Nat)) && decide (m=(p.2.2+1:Nat))) (jY u σ)
  |none=>fA (uj u && decide (h=0) && decide (m=0)) (jY u σ)
def slA (T:Tab) (t:TypeId) (p:Nat×Nat) (h:Option Int) (σ:Heap):Res :=
 (T.ar.get t).bind fun a=>(T.ty.get a.2).bind fun _ =>
  match h with
  |none=>jY (.slice (some ⟨p.1,p.2,none⟩) a.1 a.1) σ
  |some h=>fA (decide (0≤h) && decide (h≤a.1)) (jY (.slice (some ⟨p.1,p.2,none⟩) h.toNat a.1) σ)
def KI (T:Tab) (t:TypeId) (u:Value) (σ:Heap):Option Int→Option Int→Option Int→Res
 |none,some h,none=>match wC u with|some p=>slH T t p h σ|none=>(uN u).bind fun p=>slA T t p (some h) σ
 |some l,none,none=>(wC u).bind fun p=>slL T t p l σ
 |none,none,none=>(uN u).bind fun p=>slA T t p none σ
 |none,some h,some m=>slG T t u h m σ
 |_,_,_=>none
def app0 (el size m:Nat) (news:List Value) (σ:Heap):Res :=
 fA (Nat.ble m 1000000) (kG news fun news=>kG (σ++[.dead]++[.gr news el]) fun σ'=>some (dL (σ.length+1) size m,σ',σ.length))
def Q9 (el size m i n:Nat) (news:List Value) (σ:Heap):cu→Res
 |.gr cs el'=>fA (Nat.beq el' el && Nat.beq cs.length ((n+1)*size)) (kG (cs++news) fun cs'=>kG (σ.set i .dead++[.gr cs' el]) fun σ'=>some (dL σ.length size (n+1+m),σ',i))
 |_=>none
def appG (el size m:Nat) (news:List Value) (σ:Heap) (p:Nat×Nat×Nat):Res :=
 fA (Nat.beq p.2.1 size && Nat.ble (p.2.2+1+m) 1000000) ((σ[p.1]?).bind (Q9 el size m p.1 p.2.2 news σ))
def Rf (size m:Nat) (news:List Value) (σ:Heap) (p:Nat×Nat×Nat×Nat):Res :=
 fA (Nat.ble (p.2.2.1+m) p.2.2.2) (N8 (.slice (some ⟨p.1,p.2.1,none⟩) (p.2.2.1+m) p.2.2.2) p.1 (N9 σ p.1 (p.2.1+p.2.2.1*size) news))
def IZ (size m:Nat) (u:Value) (news:List Value) (σ:Heap):Res:=(wC u).bind (Rf size m news σ)
def SI:Value→Bool
 |.slice none 0 1=>true
 |_=>false
def Tz (el size m:Nat) (news:List Value) (σ:Heap):Res :=
 fA (Nat.ble m 1000000) (kG news fun news=>kG (σ++[.gr news el]) fun σ'=>some (dL σ.length size m,σ',σ.length))
def I4 (el size m:Nat) (u:Value) (news:List Value) (σ:Heap):Res :=
 match OB u with
 |some p=>appG el size m news σ p
 |none=>bif uj u then app0 el size m news σ else bif SI u then Tz el size m news σ else IZ size m u news σ
def Gu (T:Tab) (t:TypeId) (u v:Value) (σ:Heap):Res :=
 (wC v).bind fun q=>(T.sl.get t).bind fun el=>(T.ty.get el).bind fun y =>
  fA (Nat.beq y.2.2.1.cells.toList.length y.1 && Nat.blt 0 y.1 && Nat.ble y.2.2.2 1000000 && Nat.blt 0 q.2.2.1)
   ((dh σ q.1 q.2.1 (q.2.2.1*y.1)).bind fun news=>fA (news.all (·.oneCell')) (I4 el y.1 q.2.2.1 u news σ))
def OJ (T:Tab) (t:TypeId) (u v:Value) (σ:Heap):Res :=
 (wC u).bind fun p=>(wC v).bind fun q=>(T.sl.get t).bind fun el=>(T.ty.get el).bind fun y =>
  fA (Nat.beq q.2.2.1 p.2.2.1 && Nat.blt 0 p.2.2.1)
   ((dh σ q.1 q.2.1 (p.2.2.1*y.1)).bind fun news=>fA (news.all (·.oneCell')) (N8 (.int .i64 (p.2.2.1:Nat)) p.1 (N9 σ p.1 p.2.1 news)))
def KJ (T:Tab) (t:TypeId) (u:Value) (σ:Heap):Res :=
 (wC u).bind fun p=>(T.sl.get t).bind fun el=>(T.ty.get el).bind fun y =>
  fA (plain y.2.2.1 && Nat.beq y.2.2.1.cells.toList.length y.1 && Nat.blt 0 p.2.2.1 && (jI (gB y.2.2.1) p.2.2.1).all (·.oneCell'))
   (N8 (.tuple #[]) p.1 (N9 σ p.1 p.2.1 (jI (gB y.2.2.1) p.2.2.1)))
def eqI (k:IntKind) (m:Int) (v:Value):Bool:=match asInt v with|some y=>decide (k=y.1) && decide (m=y.2)|none=>false
def eqB (b:Bool) (v:Value):Bool:=match asBool v with|some c=>b == c|none=>false
def eqP (p:Nat×Nat) (v:Value):Bool:=match uN v with|some q=>Nat.beq p.1 q.1 && Nat.beq p.2 q.2|none=>false
def eqS (p:Nat×Nat×Nat×Nat) (v:Value):Bool:=match wC v with|some q=>Nat.beq p.1 q.1 && Nat.beq p.2.1 q.2.1 && Nat.beq p.2.2.1 q.2.2.1 && Nat.beq p.2.2.2 q.2.2.2|none=>false
def QC:Value→Option (Nat×Nat×Nat×Nat×Nat)
 |.slice (some ⟨i,o,some s⟩) n c=>some (i,o,s,n,c)
 |_=>none
def eqG (p:Nat×Nat×Nat×Nat×Nat) (v:Value):Bool:=match QC v with|some q=>Nat.beq p.1 q.1 && Nat.beq p.2.1 q.2.1 && Nat.beq p.2.2.1 q.2.2.1 && Nat.beq p.2.2.2.1 q.2.2.2.1 && Nat.beq p.2.2.2.2 q.2.2.2.2|none=>false
def Ad:Value→Bool
 |.pointer none=>true
 |_=>false
def TA (u v:Value):Bool:=match QC u with|some p=>eqG p v|none=>uj u && uj v || Ad u && Ad v
def TB (u v:Value):Bool:=match wC u with|some p=>eqS p v|none=>match uN u with|some p=>eqP p v|none=>TA u v
def eqV (u v:Value):Bool:=match asInt u with|some x=>eqI x.1 x.2 v|none=>match asBool u with|some b=>eqB b v|none=>TB u v
def Gv:List Value→List Value→Bool
 |[],l=>l.isEmpty
 |u::us,l=>match l with|[]=>false|v::vs=>eqV u v && Gv us vs
def y9:cu→Option (List Value)
 |.rw cs=>some cs
 |_=>none
def xC:cu→Option (List Value)
 |.ro cs=>some cs
 |_=>none
def BO:cu→Option (List Value×Nat)
 |.gr cs t=>some (cs,t)
 |_=>none
def Gw:cu→Bool
 |.dead=>true
 |_=>false
def TD (a b:cu):Bool :=
 match BO a with
 |some x=>(match BO b with|some y=>Nat.beq x.2 y.2 && Gv x.1 y.1|none=>false)
 |none=>Gw a && Gw b
def eqO (a b:cu):Bool :=
 match y9 a with
 |some x=>(match y9 b with|some y=>Gv x y|none=>false)
 |none=>match xC a with
  |some x=>(match xC b with|some y=>Gv x y|none=>false)
  |none=>TD a b
def eqH:Heap→Heap→Bool
 |[],_=>true
 |a::as,l=>match l with|[]=>false|b::bs=>eqO a b && eqH as bs
def I5 (lo:Nat) (σ σ':Heap):Bool:=eqH (σ.drop lo) (σ'.drop lo)
def SK (σ:Heap) (r:Value×Heap×Nat):Res:=bif Nat.ble σ.length r.2.2 then some r else bif I5 r.2.2 σ r.2.1 then some (r.1,r.2.1,σ.length) else some r
abbrev lV:=FuncId→List Value→Heap→Res
def OL (T:Tab) (call:lV) (u:Value) (vs:List Value) (σ:Heap):Res :=
 (KC u).bind fun f=>fA (T.fn.get f.1).isSome ((call f.1 (f.2.1++vs++f.2.2) σ).bind (SK σ))
def un (e:PT) (x:Operand) (f:Value→Res):Res:=(evO e x).bind f
def bi (e:PT) (x y:Operand) (f:Value→Value→Res):Res:=(evO e x).bind fun u=>(evO e y).bind fun v=>f u v
def opt (e:PT):Option Operand→Option (Option Int)
 |none=>some none
 |some x=>((evO e x).bind asInt).bind fun v=>some (some v.2)
abbrev lq:=Tab→lV→PT→Heap→Res
def wE:lq:=fun _ _ _ _=>none
def OM (x:Operand):lq:=fun _ _ e σ=>un e x (jY · σ)
def stLoad (t:TypeId) (x:Operand):lq:=fun T _ e σ=>un e x (IU T t · σ)
def stStore (t:TypeId) (x y:Operand):lq:=fun T _ e σ=>bi e x y (KE T t · · σ)
def stBin (op:BinOp) (t:TypeId) (x y:Operand):lq:=fun T _ e σ=>bi e x y (SC T op t · · σ)
def stFA (s:TypeId) (x:Operand) (f:Nat):lq:=fun T _ e σ=>un e x (rFA T s f · σ)
def stIdxA (t:TypeId) (x y:Operand):lq:=fun T _ e σ=>bi e x y (OD T t · · σ)
def stField (s:TypeId) (x:Operand) (f:Nat):lq:=fun T _ e σ=>un e x (KF T s f · σ)
def stIdx (t:TypeId) (x y:Operand):lq:=fun T _ e σ=>bi e x y (SE T t · · σ)
def KN (c a b:Operand):lq:=fun _ _ e σ=>((evO e c).bind asBool).bind (OG (evO e a) (evO e b) σ)
def TF:UnOp→Operand→lq
 |.not=>fun x _ _ e σ=>un e x (Tt · σ)
 |.neg=>fun x _ _ e σ=>un e x (Tv · σ)
 |_=>fun _=>wE
def stExtract (x:Operand) (i:Nat):lq:=fun _ _ e σ=>un e x (IY · i σ)
def stNil (x:Operand):lq:=fun _ _ e σ=>un e x (SH · σ)
def stBox (x:Operand):lq:=fun _ _ e σ=>un e x (rBox σ)
def LV (t:TypeId):lq:=fun T _ _ σ=>OI T t σ
def stConv (s d:TypeId) (x:Operand):lq:=fun T _ e σ=>un e x (OH T s d · σ)
def Rh:Fn→Array Operand→Array Operand→lq
 |.func f=>fun l1 l2 _ _ e σ=>(evL e l1.toList).bind fun v1=>(evL e l2.toList).bind fun v2=>jY (.func (.func f) ⟨v1⟩ ⟨v2⟩) σ
 |_=>fun _ _=>wE
def LW (t:TypeId) (ps:Array (Nat×Operand)):lq:=fun T _ e σ=>(evP e ps.toList).bind fun vs=>KG T t vs σ
def I7 (t n:Nat) (ps:Array (Nat×Operand)):lq:=fun T _ e σ=>(evP e ps.toList).bind fun vs=>Gt T t n vs σ
def stMakeS (t:TypeId) (x y:Operand):lq:=fun T _ e σ=>bi e x y (KH T t · · σ)
def stSlice (t:TypeId) (x:Operand) (a b c:Option Operand):lq:=fun T _ e σ =>
 un e x fun u=>(opt e a).bind fun a=>(opt e b).bind fun b=>(opt e c).bind fun c=>KI T t u σ a b c
def QD (f:Tab→TypeId→Value→Heap→Res):List Operand→List TypeId→lq
 |[x]=>fun ts T _ e σ=>ts.head?.bind fun t=>fA ts.tail.isEmpty (un e x (f T t · σ))
 |_=>fun _=>wE
def QE (f:Tab→TypeId→TypeId→Value→Value→Heap→Res):List Operand→List TypeId→lq
 |[x,y]=>fun ts T _ e σ=>ts.head?.bind fun t=>ts.tail.head?.bind fun t'=>fA ts.tail.tail.isEmpty (bi e x y (f T t t' · · σ))
 |_=>fun _=>wE
def QF (f:Int→Int→Int):List Operand→List TypeId→lq
 |[x,y]=>fun _ _ _ e σ=>bi e x y (rMM f · · σ)
 |_=>fun _=>wE
def EY:Builtin→List Operand→List TypeId→lq
 |.len=>QD SG
 |.clear=>QD KJ
 |.max=>QF max
 |.min=>QF min
 |.append=>QE fun T t t' u v σ=>fA (Nat.beq t t') (Gu T t u v σ)
 |.copy=>QE fun T t _ u v σ=>OJ T t u v σ
 |_=>fun _ _=>wE
def LX (x:Operand) (args:List Operand):lq:=fun T call e σ=>un e x fun u=>(evL e args).bind fun vs=>OL T call u vs σ
def zf:Callee→List Operand→List TypeId→lq
 |.value x=>fun args _=>LX x args
 |.builtin b=>EY b
 |_=>fun _ _=>wE
def OO (c:Call):lq:=zf c.callee c.args.toList c.argTypes.toList
def Gx:Op→lq
 |.move x=>OM x
 |.assign x=>OM x
 |.load t x=>stLoad t x
 |.store t x y=>stStore t x y
 |.binOp op t x y _=>stBin op t x y
 |.fieldAddr s x f=>stFA s x f
 |.indexAddr t x y=>stIdxA t x y
 |.field s x f=>stField s x f
 |.index t x y=>stIdx t x y
 |.pick c a b=>KN c a b
 |.unOp o _ x=>TF o x
 |.extract x i=>stExtract x i
 |.nilCheck x=>stNil x
 |.box _ x=>stBox x
 |.alloc t=>LV t
 |.convert s d x=>stConv s d x
 |.makeFunc f l1 l2=>Rh f l1 l2
 |.build t ps=>LW t ps
 |.buildSlice t n ps=>I7 t n ps
 |.makeSlice t x y=>stMakeS t x y
 |.slice t x a b c=>stSlice t x a b c
 |.call c=>OO c
 |_=>wE
end Go.AH
namespace Go.AH
open Go
abbrev Oa:=Option (Exit×PT×List Nat×Heap×Nat)
abbrev uO:=Code→(N:Nat)→(rd:Option Nat)→PT→List Nat→Heap→Oa
abbrev BH:=Option (PT×Heap×Nat)
def wF (a b:Nat):Nat:=bif Nat.ble a b then a else b
def LY:Value→Option (Option Bool)
 |.bool b=>some (some b)
 |.tuple ⟨[]⟩=>some none
 |_=>none
def isB (w:Bool):Option Bool→Bool
 |some b=>b == w
 |none=>false
def OQ (all:List Oper) (e:PT) (j:Nat):Option (Option Bool):=(all[j]?).bind fun o=>o.dst.bind fun t=>(e.get t).bind LY
def LZ (all:List Oper) (e:PT):Option (Nat×Bool)→Option Bool
 |none=>some true
 |some g=>(OQ all e g.1).bind fun b=>some (isB g.2 b)
def Ob (N:Nat) (v:Value) (e:PT):Option Nat→Option PT
 |some d=>fA (Nat.blt d N) (some (e.put d v))
 |none=>some e
def zh:List Nat→List Value→PT→PT
 |p::ps,v::vs,e=>zh ps vs (e.put p v)
 |_,_,e=>e
def OT:Env→PT
 |[]=>Trie.full 9
 |p::e=>(OT e).put p.1 p.2
def Trie.ents {α:Type}:Trie α→Nat→Nat→List (Nat×α)
 |.z,_,_=>[]
 |.nd v l r,a,b=>(match v with|some x=>[(b,x)]|none=>[])++(l.ents (2*a) (a+b)++r.ents (2*a) (2*a+b))
def EZ (e:PT):Env:=e.ents 1 0
def OU (e:PT) (args:List Operand):Callee→Option (Nat×List Value)
 |.value x=>((evO e x).bind LM).bind fun l=>(evL e args).bind fun vs=>some (l,vs)
 |_=>none
def L6 (e:PT):Op→Option (Nat×List Value)
 |.call c=>OU e c.args.toList c.callee
 |_=>none
def yieldOf (e:PT) (o:Oper):Option Nat→Option (Nat×List Value)
 |none=>fA o.dst.isSome (L6 e o.op)
 |_=>none
def SL (N d l:Nat) (e:PT) (σ2:Heap) (lo:Nat) (o:cu):Exit→BH
 |.normal=>fA (sH o && Nat.blt d N) (some (e.put d (.bool true),σ2.set l (uh .ready none o),lo))
 |.ret=>fA (sH o && Nat.blt d N) (some (e.put d (.bool false),σ2.set l (uh .done (some .ret) o),lo))
 |.exit id=>fA (sH o && Nat.blt d N) (some (e.put d (.bool false),σ2.set l (uh .done (some (.exit id)) o),lo))
 |_=>none
def Ri (code:uO) (N d l:Nat) (e:PT) (N':Nat) (body:Code) (e1:PT) (mk1:List Nat) (σ1:Heap) (lo1:Nat):cu→BH
 |.loop .ready pend N2 e2 ps2 as2 bd2=>(code body N' (some l) e1 mk1 (σ1.set l (.loop .busy pend N2 e2 ps2 as2 bd2))).bind fun r=>(r.2.2.2.1[l]?).bind fun o=>SL N d l e r.2.2.2.1 (wF l (wF lo1 r.2.2.2.2)) o r.1
 |_=>none
def Dw:Exit→Bool
 |.normal=>true
 |_=>false
def OV (code:uO) (N d l:Nat) (vs:List Value) (e:PT) (σ:Heap):cu→BH
 |.loop .ready _ N' e' ps assign body=>fA (Nat.beq vs.length ps.toList.length && ps.toList.all (Nat.blt · N'))
   ((code assign N' (some l) (zh ps.toList vs (OT e')) [] σ).bind fun r=>fA (Dw r.1) ((r.2.2.2.1[l]?).bind (Ri code N d l e N' body r.2.1 r.2.2.1 r.2.2.2.1 r.2.2.2.2)))
 |_=>none
def Dx (code:uO) (N:Nat) (dst:Option Nat) (e:PT) (σ:Heap) (y:Nat×List Value):BH :=
 dst.bind fun d=>(σ[y.1]?).bind (OV code N d y.1 y.2 e σ)
def Rj (r:BH) (k:PT→Heap→BH):BH:=r.bind fun a=>(k a.1 a.2.1).bind fun b=>some (b.1,b.2.1,wF a.2.2 b.2.2)
def Gy (T:Tab) (call:lV) (N:Nat) (o:Oper) (e:PT) (σ:Heap):BH :=
 (Gx o.op T call e σ).bind fun r=>(Ob N r.1 e o.dst).bind fun e1=>some (e1,r.2.1,r.2.2)
def Gz (T:Tab) (call:lV) (code:uO) (N:Nat) (rd:Option Nat) (o:Oper) (e:PT) (σ:Heap):Bool→BH
 |true=>match yieldOf e o rd with
  |some y=>Dx code N o.dst e σ y
  |none=>Gy T call N o e σ
 |false=>(Ob N undef e o.dst).bind fun e1=>some (e1,σ,σ.length)
def Ae (T:Tab) (call:lV) (code:uO) (N:Nat) (rd:Option Nat) (all:List Oper):List Oper→PT→Heap→BH
 |[],e,σ=>some (e,σ,σ.length)
 |o::rest,e,σ=>(LZ all e o.guard).bind fun b=>Rj (Gz T call code N rd o e σ b) (Ae T call code N rd all rest)
def GH (n:Nat):Heap→Bool
 |[]=>true
 |.rw cs::r=>dR n cs && okL cs && GH n r
 |_::_=>false
def ru:List Oper→List Nat→List Nat
 |[],acc=>acc
 |o::r,acc=>zU (oz acc o.after.toList) fun m=>ru r (acc++[m])
mutual
def pv (p:Nat→Bool):Value→Bool
 |.pointer (some a)=>p a.block
 |.slice (some a) _ _=>p a.block
 |.map (some i)=>p i
 |.func (.yield l) a b=>p l && pvA p a && pvA p b
 |.func _ a b=>pvA p a && pvA p b
 |.iface _ v=>pv p v
 |.agg cs=>pvA p cs
 |.tuple cs=>pvA p cs
 |_=>true
def pvA (p:Nat→Bool):Array Value→Bool
 |⟨l⟩=>pvL p l
def pvL (p:Nat→Bool):List Value→Bool
 |[]=>true
 |v::l=>pv p v && pvL p l
end
def zi:List (Nat×Heap)→Nat→Option Nat
 |[],_=>none
 |p::r,b=>bif Nat.blt b p.2.length then some p.1 else zi r (b - p.2.length)
def isBit (m:Nat):Option Nat→Bool
 |some j=>m.testBit j
 |none=>false
def OW (n len m:Nat) (news:List (Nat×Heap)) (b:Nat):Bool:=Nat.blt b n || Nat.ble len b || isBit m (zi news (b - n))
abbrev FRes:=Option (PT×List (Nat×Heap)×List Oper)
def I8 (T:Tab) (call:lV) (N:Nat) (o:Oper) (e:PT) (n0 m:Nat) (news:List (Nat×Heap)) (σ:Heap):Option (PT×Heap) :=
 (Gx o.op T call e σ).bind fun r=>fA (Nat.ble σ.length r.2.2 && GH n0 (r.2.1.drop σ.length) && pv (OW n0 σ.length m news) r.1) ((Ob N r.1 e o.dst).bind fun e1=>kG (r.2.1.drop σ.length) fun ns=>some (e1,ns))
def seen {β:Type} (L:Nat→Bool) (σ0:Heap) (k:Heap→β):List (Nat×Heap)→β
 |[]=>k σ0
 |p::news=>kG (σ0++kV L (p::news)) k
def GI (T:Tab) (call:lV) (N:Nat) (o:Oper) (e:PT) (σ0:Heap) (m:Nat) (news:List (Nat×Heap)):Bool→Option (PT×Heap)
 |true=>seen (dS o.after) σ0 (I8 T call N o e σ0.length m news) news
 |false=>(Ob N undef e o.dst).bind fun e1=>some (e1,[])
def BP (T:Tab) (call:lV) (N:Nat) (all:List Oper) (ms:List Nat) (σ0:Heap):Nat→List Oper→PT→List (Nat×Heap)→FRes
 |_,[],e,news=>some (e,news,[])
 |k,o::rest,e,news=>match (LZ all e o.guard).bind (GI T call N o e σ0 (ms.getD k 0) news) with
  |some r=>BP T call N all ms σ0 (k+1) rest r.1 (addN news k r.2)
  |none=>some (e,news,o::rest)
abbrev CT:=Tab→lV→uO→(N:Nat)→(rd:Option Nat)→PT→List Nat→Heap→Oa
def L8 (ex:Exit):CT:=fun _ _ _ _ _ e mk σ=>some (ex,e,mk,σ,σ.length)
def failC:CT:=fun _ _ _ _ _ _ _ _=>none
def SN (code:uO) (N:Nat) (rd:Option Nat) (b:Code) (e:PT) (mk:List Nat) (σ:Heap) (lo:Nat):Exit→Oa
 |.normal=>(code b N rd e mk σ).bind fun r=>some (r.1,r.2.1,r.2.2.1,r.2.2.2.1,wF lo r.2.2.2.2)
 |ex=>some (ex,e,mk,σ,lo)
def OX (a b:Code):CT:=fun _ _ code N rd e mk σ=>(code a N rd e mk σ).bind fun r=>SN code N rd b r.2.1 r.2.2.1 r.2.2.2.1 r.2.2.2.2 r.1
def L9:Exit→Bool
 |.goto _=>false
 |_=>true
def OY (c:Code):CT:=fun _ _ code N rd e mk σ=>(code c N rd e mk σ).bind fun r=>fA (L9 r.1) (some r)
def OZ (id:Nat):Exit→Exit
 |.exit id'=>bif Nat.beq id' id then .normal else .exit id'
 |ex=>ex
def O1 (id:Nat) (c:Code):CT:=fun _ _ code N rd e mk σ=>(code c N rd e mk σ).bind fun r=>some (OZ id r.1,r.2)
def condK (a b:Code):Bool→Code
 |true=>a
 |false=>b
def condC (c:Operand) (a b:Code):CT:=fun _ _ code N rd e mk σ=>((evO e c).bind asBool).bind fun t=>code (condK a b t) N rd e mk σ
def O4 (b:Code):CT:=OX b (.loop b)
def O5 (mk:List Nat) (r:BH):Oa:=r.bind fun r=>some (.normal,r.1,mk,r.2.1,r.2.2)
def SQ (ops:List Oper):Bool→CT
 |false=>fun T call code N rd e mk σ=>O5 mk (Ae T call code N rd ops ops e σ)
 |true=>fun T call code N rd e mk σ=>(BP T call N ops (ru ops []) σ 0 ops e []).bind fun r=>fA (zU (ops.length - r.2.2.length) (drawOk ops))
   (seen (fun _=>true) σ (fun σ1=>O5 mk ((Ae T call code N rd ops r.2.2 r.1 σ1).bind fun q=>some (q.1,q.2.1,wF σ.length q.2.2))) r.2.1)
def notBusy:LoopState→Bool
 |.busy=>false
 |_=>true
def O6:Option Code→Option Exit
 |none=>some .normal
 |some .ret=>some .ret
 |some (.exit id)=>some (.exit id)
 |_=>none
def TG (n:Nat) (e:PT) (mk:List Nat) (σ2:Heap) (lo:Nat):cu→Oa
 |.loop st pend _ _ _ _ _=>fA (notBusy st) ((O6 pend).bind fun ex=>some (ex,e,n::mk,σ2.set (n+1) .dead,wF n lo))
 |_=>none
def O7 (T:Tab) (call:lV) (N:Nat) (ps:Array Tmp) (assign body:Code) (e:PT) (mk:List Nat) (σ:Heap) (f:Nat×List Value×List Value):Oa :=
 fA (T.fn.get f.1).isSome ((call f.1 (f.2.1++[.func (.yield (σ.length+1)) #[] #[]]++f.2.2) (σ++[.dfr,.loop .ready none N (EZ e) ps assign body])).bind fun r =>
  (r.2.1[σ.length+1]?).bind (TG σ.length e mk r.2.1 r.2.2))
def KO (g:Operand) (ps:Array Tmp) (assign body:Code):CT:=fun T call _ N rd e mk σ =>
 match rd with
 |none=>((evO e g).bind KC).bind (O7 T call N ps assign body e mk σ)
 |some _=>none
def GK:Code→CT
 |.skip=>L8 .normal
 |.label _=>L8 .normal
 |.scope c=>OY c
 |.exit id=>L8 (.exit id)
 |.ret=>L8 .ret
 |.seq a b=>OX a b
 |.block id c=>O1 id c
 |.cond c a b=>condC c a b
 |.loop b=>O4 b
 |.region _ ops d=>SQ ops.toList d
 |.rangeFunc g ps assign body=>KO g ps assign body
 |_=>failC
mutual
def top:Value→Nat
 |.pointer (some a)=>a.block+1
 |.slice (some a) _ _=>a.block+1
 |.map (some i)=>i+1
 |.func (.yield l) _ _=>l+1
 |.func _ ⟨a⟩ ⟨b⟩=>Nat.max (Oc a) (Oc b)
 |.iface _ v=>top v
 |.agg ⟨cs⟩=>Oc cs
 |.tuple ⟨cs⟩=>Oc cs
 |_=>0
def Oc:List Value→Nat
 |[]=>0
 |v::l=>Nat.max (top v) (Oc l)
end
def resT (T:Tab) (e:PT) (σ:Heap):List ResultVar→Option (List Value)
 |[]=>some []
 |.tmp t::r=>(e.get t).bind fun v=>(resT T e σ r).bind fun vs=>some (v::vs)
 |.cell a ty::r=>((e.get a).bind fun p=>IU T ty p σ).bind fun v=>(resT T e σ r).bind fun vs=>some (v.1::vs)
def zk (n:Nat):cu→Bool
 |.dead=>true
 |.ro cs|.rw cs|.gr cs _=>dR n cs && okL cs
 |.dfr=>true
 |_=>false
def allB (p:cu→Bool):Heap→Bool
 |[]=>true
 |o::r=>p o && allB p r
def topO:cu→Nat
 |.ro cs|.rw cs|.gr cs _=>Oc cs
 |_=>0
def SS:Heap→Nat
 |[]=>0
 |o::r=>Nat.max (topO o) (SS r)
def O8:Nat→List Value→PT→PT
 |_,[],e=>e
 |k,v::l,e=>O8 (k+1) l (e.put k v)
def Rk (lo m:Nat) (v:Value) (σ:Heap):Nat:=bif Nat.ble m σ.length && closed m v && okV v && allB (zk m) ((σ.take m).drop lo) then m else σ.length
def Mc (n lo:Nat) (v:Value) (σ:Heap):Nat:=Rk (wF lo n) (Nat.max n (Nat.max (top v) (SS ((σ.take n).drop lo)))) v σ
def Rl:Option cu→Bool
 |some .dfr=>true
 |_=>false
def SV (mk:List Nat) (σ:Heap):Bool:=decide mk.Nodup && mk.all fun i=>Rl σ[i]?
def minL (n:Nat):List Nat→Nat
 |[]=>n
 |i::l=>wF i (minL n l)
def Rn:Exit→Bool
 |.normal|.ret=>true
 |_=>false
def SX (n b:Nat):List Nat:=bif Nat.ble n b then [b] else []
def Md (n:Nat):Value→List Nat
 |.pointer (some a)=>SX n a.block
 |.slice (some a) _ _=>SX n a.block
 |.map (some i)=>SX n i
 |_=>[]
def Ro (n:Nat):Value→List Nat
 |.agg ⟨l⟩=>l.flatMap (Md n)
 |.tuple ⟨l⟩=>l.flatMap (Md n)
 |.func _ ⟨a⟩ ⟨b⟩=>(a++b).flatMap (Md n)
 |v=>Md n v
def cellsO:cu→List Value
 |.ro cs|.rw cs|.gr cs _=>cs
 |_=>[]
def refsO (n:Nat):Option cu→List Nat
 |some o=>(cellsO o).flatMap (Ro n)
 |none=>[]
def reach (n:Nat) (σ:Heap):Nat→List Nat→List Nat→List Nat
 |0,_,acc=>acc
 |_+1,[],acc=>acc
 |k+1,b::todo,acc=>bif acc.contains b then reach n σ k todo acc else reach n σ k (refsO n σ[b]?++todo) (acc++[b])
def num (n:Nat) (l:List Nat) (b:Nat):Nat:=bif Nat.blt b n then b else n+l.idxOf b
def cv1 (n:Nat) (l:List Nat) (v:Value):Value :=
 match v with
 |.pointer (some ⟨i,o,s⟩)=>.pointer (some ⟨num n l i,o,s⟩)
 |.slice (some ⟨i,o,_⟩) k c=>.slice (some ⟨num n l i,o,none⟩) k c
 |v=>v
def cvV (n:Nat) (l:List Nat) (v:Value):Value :=
 match v with
 |.agg ⟨x⟩=>.agg ⟨x.map (cv1 n l)⟩
 |.tuple ⟨x⟩=>.tuple ⟨x.map (cv1 n l)⟩
 |.func f ⟨x⟩ ⟨y⟩=>.func f ⟨x.map (cv1 n l)⟩ ⟨y.map (cv1 n l)⟩
 |v=>cv1 n l v
def cvO (n:Nat) (l:List Nat):Option cu→cu
 |some (.rw cs)=>.rw (cs.map (cvV n l))
 |some (.gr cs _)=>.rw (cs.map (cvV n l))
 |some (.ro cs)=>.ro (cs.map (cvV n l))
 |_=>.dead
def O9:Value→Option (Nat×Nat×Nat×Nat)
 |.slice (some ⟨i,o,some _⟩) n c=>some (i,o,n,c)
 |_=>none
def GL:Value→Bool
 |.nilFunc=>true
 |_=>false
def QG (n':Nat) (π:Rho) (p q:Nat×Nat×Nat×Nat):Bool:=Nat.blt p.1 n' && Nat.beq (π p.1).b q.1 && Nat.beq ((π p.1).o+p.2.1) q.2.1 && Nat.beq p.2.2.1 q.2.2.1 && Nat.ble p.2.2.2 q.2.2.2
def TI (n':Nat) (π:Rho) (p q:Nat×Nat):Bool:=Nat.blt p.1 n' && Nat.beq (π p.1).b q.1 && Nat.beq ((π p.1).o+p.2) q.2
def Pg (u v:Value):Bool :=
 match asInt u with
 |some x=>eqI x.1 x.2 v
 |none=>match asBool u with
  |some b=>eqB b v
  |none=>uj u && uj v || Ad u && Ad v || GL u && GL v
def QH (n':Nat) (π:Rho) (u v:Value):Bool :=
 match uN u with
 |some p=>(match uN v with|some q=>TI n' π p q|none=>false)
 |none=>match wC u with
  |some p=>(match wC v with|some q=>QG n' π p q|none=>(match O9 v with|some q=>QG n' π p q|none=>false))
  |none=>Pg u v
def GN (n':Nat) (π:Rho):List Value→List Value→Bool
 |[],l=>l.isEmpty
 |u::us,l=>match l with|[]=>false|v::vs=>QH n' π u v && GN n' π us vs
def Rq (n':Nat) (π:Rho) (u v:Value):Bool :=
 match KC u with
 |some f=>(match KC v with|some g=>Nat.beq f.1 g.1 && GN n' π f.2.1 g.2.1 && GN n' π f.2.2 g.2.2|none=>false)
 |none=>QH n' π u v
def QI (n':Nat) (π:Rho) (u v:Value):Bool :=
 match IQ u with
 |some l=>(match IQ v with|some l'=>GN n' π l l'|none=>false)
 |none=>match asAgg u with
  |some l=>(match asAgg v with|some l'=>GN n' π l l'|none=>false)
  |none=>Rq n' π u v
def Dy (n':Nat) (π:Rho):List Value→List Value→Bool
 |[],_=>true
 |u::us,l=>match l with|[]=>false|v::vs=>QI n' π u v && Dy n' π us vs
def Me:cu→Option (List Value)
 |.rw cs=>some cs
 |.gr cs _=>some cs
 |_=>none
def SY (n':Nat) (π:Rho) (o:cu) (x:Option cu):Bool :=
 match y9 o with
 |some cs2=>(match x.bind Me with|some cs=>Dy n' π cs2 cs|none=>false)
 |none=>(match xC o with|some cs2=>(match x.bind xC with|some cs=>Dy n' π cs2 cs|none=>false)|none=>false)
def I9 (n':Nat) (π:Rho) (σ:Heap):List Nat→Heap→Bool
 |[],l=>l.isEmpty
 |b::bs,l=>match l with|[]=>false|o::os=>SY n' π o σ[b]? && I9 n' π σ bs os
def Rt (n lo:Nat) (v:Value) (σ:Heap) (l:List Nat) (v2:Value) (news:Heap):Res :=
 fA (jo n l && Nat.beq l.length news.length && I9 (n+news.length) (je n l) σ l news && QI (n+news.length) (je n l) v2 v) (kG (σ.take n++news) fun σ'=>some (v2,σ',lo))
def Ru (n lo:Nat) (v:Value) (σ:Heap) (l:List Nat):Res:=kG (l.map fun b=>cvO n l σ[b]?) fun news=>Rt n lo v σ l (cvV n l v) news
def KP (n lo:Nat) (v:Value) (σ:Heap):Res:=kG (reach n σ 1000 (Ro n v) []) (Ru n lo v σ)
def GR (n lo:Nat) (v:Value) (σ:Heap):Res:=kG (σ.take (Mc n lo v σ)) fun σ'=>some (v,σ',lo)
def S9 (n lo:Nat) (v:Value) (σ:Heap):Res :=
 bif Nat.ble n lo then (match KP n lo v σ with|some r=>some r|none=>GR n lo v σ) else GR n lo v σ
def TJ (T:Tab) (rv:List ResultVar) (n:Nat) (r:Exit×PT×List Nat×Heap×Nat):Res :=
 fA (Rn r.1 && SV r.2.2.1 r.2.2.2.1) (kG (ji r.2.2.1 r.2.2.2.1) fun σ1=>(resT T r.2.1 σ1 rv).bind fun vs=>S9 n (wF r.2.2.2.2 (minL r.2.2.2.2 r.2.2.1)) (uD vs) σ1)
def MB (T:Tab) (code:uO) (args:List Value) (σ:Heap) (x:Nat×List ResultVar×Code):Res :=
 fA (Nat.ble args.length x.1) ((code x.2.2 x.1 none (O8 0 args (Trie.full 9)) [] σ).bind (TJ T x.2.1 σ.length))
def GU (T:Tab) (orc:lV) (code:uO) (f:FuncId) (args:List Value) (σ:Heap):Res :=
 match orc f args σ with
 |some r=>some r
 |none=>(T.fn.get f).bind (MB T code args σ)
def rn (T:Tab) (orc:lV):Nat→lV×uO :=
 Nat.rec (⟨fun _ _ _=>none,fun _ _ _ _ _ _=>none⟩) (fun _ r=>⟨GU T orc r.2,fun c=>GK c T r.1 r.2⟩)
end Go.AH
namespace Go.AH
open Go
def Trie.All {α:Type} (p:Nat→α→Prop):Trie α→Prop
 |.z=>True
 |.nd v l r=>(match v with|some x=>p 0 x|none=>True)∧Trie.All (fun t=>p (2*t+1)) l∧Trie.All (fun t=>p (2*t+2)) r
theorem Trie.all_get {α:Type} {tr:Trie α}:∀ {p:Nat→α→Prop},tr.All p→∀ t x,tr.get t=some x→p t x:=by
 induction tr with
 |z=>intro p _ t x h;cases h
 |nd v l r ihl ihr =>
  rintro p ⟨h1,h2,h3⟩ t x h
  simp only [Trie.get] at h
  by_cases h0:t=0
  ·subst h0
   have h':v=some x:=h
   subst h';exact h1
  ·have hb:Nat.beq t 0=false:=jR h0
   rw [hb] at h
   simp only [cond_false] at h
   by_cases hm:Nat.mod t 2=1
   ·rw [hm] at h
    have:=ihl h2 _ _ h
    have e:2*Nat.div t 2+1=t:=by have h1:=Nat.div_add_mod t 2;have h2:t % 2=1:=hm;have h3:Nat.div t 2=t / 2:=rfl;omega
    rwa [e] at this
   ·have hb2:Nat.beq (Nat.mod t 2) 1=false:=jR hm
    rw [hb2] at h
    simp only [cond_false] at h
    have:=ihr h3 _ _ h
    have e:2*Nat.pred (Nat.div t 2)+2=t:=by have h1:=Nat.div_add_mod t 2;have h2:t % 2 ≠ 1:=hm;have h3:Nat.div t 2=t / 2:=rfl;rw [Nat.pred_eq_sub_one,h3];omega
    rwa [e] at this
def FnOk (P:Program) (f:Nat) (x:Nat×List ResultVar×Code):Prop :=
 bF P f=true∧∃ fn,P.funcs[f]?=some fn∧fn.ntmps=x.1∧fn.results=x.2.1.toArray∧fn.body=some x.2.2
structure jZ (P:Program) (T:Tab):Prop where
 ty:∀ t x,T.ty.get t=some x→fF P t=some x
 fld:∀ t x,T.fld.get t=some x→x.zipIdx.map (fun p=>yQ P t p.2)=x.map some
 sl:∀ t x,T.sl.get t=some x→CS P t=some x
 ar:∀ t x,T.ar.get t=some x→Gi P t=some x
 ik:∀ t x,T.ik.get t=some x→uw P t=some x
 eq2:∀ t x,T.eq2.get t=some x→AZ P t=true
 pls:∀ t x,T.pls.get t=some x→qQ P t=some x
 fn:∀ t x,T.fn.get t=some x→FnOk P t x
theorem jZ.field {P:Program} {T:Tab} (h:jZ P T) {s f:Nat} {y:Nat×Nat} (hy:T.yQ s f=some y):yQ P s f=some y:=by
 obtain ⟨l,hl,hy⟩:=Option.bind_eq_some_iff.1 hy
 have h1:=h.fld _ _ hl
 have h2:(l.zipIdx.map (fun p=>yQ P s p.2))[f]?=(l.map some)[f]?:=by rw [h1]
 simp only [List.getElem?_map,List.getElem?_zipIdx,hy] at h2
 simpa using h2
end Go.AH
namespace Go.AH
open Go
theorem bJ {α:Type} {b:Bool} {x:Option α} {r:α}:fA b x=some r↔b=true∧x=some r:=by cases b <;> simp [fA]
theorem jT {v:Value} {x:IntKind×Int} (h:asInt v=some x):v=.int x.1 x.2:=by unfold asInt at h;split at h <;> cases h <;> rfl
theorem ql {v:Value} {b:Bool} (h:Go.AH.asBool v=some b):v=.bool b:=by unfold Go.AH.asBool at h;split at h <;> simp_all
theorem mW {v:Value} {p:Nat×Nat} (h:uN v=some p):v=.pointer (some ⟨p.1,p.2,none⟩):=by unfold uN at h;split at h <;> cases h <;> rfl
theorem mF {v:Value} {p:Nat×Nat×Nat×Nat} (h:wC v=some p):v=.slice (some ⟨p.1,p.2.1,none⟩) p.2.2.1 p.2.2.2:=by unfold wC at h;split at h <;> cases h <;> rfl
theorem GV {v:Value} {p:Nat×Nat×Nat} (h:OB v=some p):v=dL p.1 p.2.1 (p.2.2+1):=by
 unfold OB at h
 split at h
 ·obtain ⟨h1,h2⟩:=bJ.1 h
  cases h2
  have:=Nat.eq_of_beq_eq_true h1
  subst this;rfl
 ·cases h
theorem qm {v:Value} (h:uj v=true):v=.slice none 0 0:=by unfold uj at h;split at h <;> simp_all
theorem xE {v:Value} (h:Ad v=true):v=.pointer none:=by unfold Ad at h;split at h <;> simp_all
theorem lenS_eq {v:Value} {n:Nat} (h:SB v=some n):∃ a c,v=.slice a n c:=by unfold SB at h;split at h <;> simp_all
theorem qJ {v:Value} {l:List Value} (h:asAgg v=some l):v=.agg l.toArray:=by unfold asAgg at h;split at h <;> simp_all
theorem Dz {v:Value} {l:List Value} (h:IQ v=some l):v=.tuple l.toArray:=by unfold IQ at h;split at h <;> simp_all
theorem zn {v:Value} {x:Nat×List Value×List Value} (h:KC v=some x):v=.func (.func x.1) x.2.1.toArray x.2.2.toArray:=by unfold KC at h;split at h <;> cases h <;> rfl
theorem Ph {l:List Value} {x:IntKind×Int×IntKind×Int} (h:as2 l=some x):l=[.int x.1 x.2.1,.int x.2.2.1 x.2.2.2]:=by
 unfold as2 at h
 split at h
 ·simp only [Option.bind_eq_some_iff] at h
  obtain ⟨y,h1,z,h2,h3⟩:=h
  cases h3
  rw [jT h1,jT h2]
 ·cases h
def Agr (e:Env) (tr:PT):Prop:=∀ t v,tr.get t=some v→Env.get e t=some v
theorem qN {e:Env} {tr:PT} {x:Operand} {v:Value} (ha:Agr e tr) (h:evO tr x=some v):bf e x=some v:=by
 cases x with
 |tmp t=>exact ha _ _ h
 |const u =>
  obtain ⟨h1,h2⟩:=bJ.1 (show fA (plain u) (some u)=some v from h)
  simp [bf,h1,h2]
 |global g=>cases h
 |func f=>exact h
theorem DC {e:Env} {tr:PT} (ha:Agr e tr):∀ {l:List Operand} {vs:List Value},evL tr l=some vs→uy e l=some vs
 |[],_,h=>h
 |x::l,vs,h=>by
  simp only [evL,Option.bind_eq_some_iff] at h
  obtain ⟨v,h1,us,h2,h3⟩:=h
  simp [uy,qN ha h1,DC ha h2,h3]
theorem KQ {e:Env} {tr:PT} (ha:Agr e tr):∀ {l:List (Nat×Operand)} {vs:List (Nat×Value)},evP tr l=some vs→tJ e l=some vs
 |[],_,h=>h
 |(i,x)::l,vs,h=>by
  simp only [evP,Option.bind_eq_some_iff] at h
  obtain ⟨v,h1,us,h2,h3⟩:=h
  simp [tJ,qN ha h1,KQ ha h2,h3]
def Keep (lo:Nat) (σ σ':Heap):Prop:=σ.length≤σ'.length∧∀ i,i<lo→i < σ.length→σ'[i]?=σ[i]?
theorem Keep.refl {lo:Nat} {σ:Heap}:Keep lo σ σ:=⟨Nat.le_refl _,fun _ _ _=>rfl⟩
theorem Keep.app {lo:Nat} {σ x:Heap}:Keep lo σ (σ++x):=⟨by simp,fun i _ h=>List.getElem?_append_left h⟩
theorem Keep.set {i:Nat} {σ:Heap} {o:cu}:Keep i σ (σ.set i o):=⟨by simp,fun j h _=>by rw [List.getElem?_set_ne (by omega)]⟩
theorem Keep.trans {a b:Nat} {σ σ1 σ2:Heap} (h1:Keep a σ σ1) (h2:Keep b σ1 σ2):Keep (min a b) σ σ2 :=
 ⟨Nat.le_trans h1.1 h2.1,fun i hi hl=>by rw [h2.2 i (by omega) (Nat.lt_of_lt_of_le hl h1.1),h1.2 i (by omega) hl]⟩
theorem Keep.mono {a b:Nat} {σ σ1:Heap} (h:Keep a σ σ1) (hb:b≤a):Keep b σ σ1:=⟨h.1,fun i hi=>h.2 i (by omega)⟩
theorem tK {a b:Nat}:wF a b=min a b:=by
 unfold wF
 cases h:Nat.ble a b with
 |true=>have:=Nat.le_of_ble_eq_true h;simp;omega
 |false =>
       have:¬ a≤b:=fun hab=>by rw [Nat.ble_eq_true_of_le hab] at h;cases h
       simp;omega
theorem Keep.eq_app {σ σ':Heap} (h:Keep σ.length σ σ'):σ'=σ++σ'.drop σ.length:=by
 refine List.ext_getElem? fun i=>?_
 by_cases hi:i < σ.length
 ·rw [List.getElem?_append_left hi,h.2 i hi hi]
 ·rw [List.getElem?_append_right (by omega),List.getElem?_drop];congr 1;omega
def SR (P:Program) (op:Op) (e:Env) (σ:Heap) (r:Value×Heap×Nat):Prop:=(∀ rd ty,dV P rd op ty e σ r.1 r.2.1)∧Keep r.2.2 σ r.2.1
theorem DF {v:Value} {σ:Heap} {r:Value×Heap×Nat} (h:jY v σ=some r):r=(v,σ,σ.length):=by cases h;rfl
theorem newR_eq {v:Value} {σ:Heap} {cs:List Value} {r:Value×Heap×Nat} (h:newR v σ cs=some r):r=(v,σ++[.rw cs],σ.length):=by
 simp only [newR,jA] at h;cases h;rfl
theorem BQ {σ σ':Heap} {i o:Nat} {vs:List Value} (h:N9 σ i o vs=some σ'):putCells σ i o vs=some σ'∧Keep i σ σ':=by
 simp only [N9,Option.bind_eq_some_iff] at h
 obtain ⟨x,h1,h2⟩:=h
 unfold Tq at h2
 split at h2
 ·simp only [jA] at h2
  obtain ⟨h3,h4⟩:=bJ.1 h2
  cases h4
  exact ⟨by simp only [putCells,h1];rw [h3];rfl,Keep.set⟩
 ·simp only [jA] at h2
  obtain ⟨h3,h4⟩:=bJ.1 h2
  cases h4
  exact ⟨by simp only [putCells,h1];rw [h3];rfl,Keep.set⟩
 ·cases h2
theorem BR {v:Value} {i:Nat} {x:Option Heap} {r:Value×Heap×Nat} (h:N8 v i x=some r):∃ σ',x=some σ'∧r=(v,σ',i):=by
 simp only [N8,jA,Option.bind_eq_some_iff] at h
 obtain ⟨σ',h1,h2⟩:=h
 exact ⟨σ',h1,by cases h2;rfl⟩
section
variable {P:Program} {T:Tab} {e:Env} {tr:PT} {σ:Heap} {r:Value×Heap×Nat} {x y:Operand} {u v:Value}
theorem SR.pure {op:Op} (h:jY v σ=some r) (hv:∀ rd ty,dV P rd op ty e σ v σ):SR P op e σ r:=by cases DF h;exact ⟨hv,Keep.refl⟩
theorem SR.new {op:Op} {cs:List Value} (h:newR v σ cs=some r) (hv:∀ rd ty,dV P rd op ty e σ v (σ++[.rw cs])):SR P op e σ r:=by cases newR_eq h;exact ⟨hv,Keep.app⟩
theorem tN {f:Value→Res} (ha:Agr e tr) (h:un tr x f=some r):∃ u,bf e x=some u∧f u=some r:=by
 obtain ⟨u,h1,h2⟩:=Option.bind_eq_some_iff.1 h
 exact ⟨u,qN ha h1,h2⟩
theorem DI {f:Value→Value→Res} (ha:Agr e tr) (h:bi tr x y f=some r):∃ u v,bf e x=some u∧bf e y=some v∧f u v=some r:=by
 obtain ⟨u,h1,h2⟩:=Option.bind_eq_some_iff.1 h
 obtain ⟨v,h3,h4⟩:=Option.bind_eq_some_iff.1 h2
 exact ⟨u,v,qN ha h1,qN ha h3,h4⟩
theorem arith_ok {op:BinOp} {k:IntKind} {m n:Int} {w:Value} {t t':TypeId} (hx:bf e x=some (.int k m)) (hy:bf e y=some (.int k n)) (h:arith op k m n=some w) (rd ty):dV P rd (.binOp op t x y t') ty e σ w σ:=by
 unfold arith at h
 split at h
 ·obtain ⟨h1,h2⟩:=bJ.1 h
  cases h2
  exact Oi hx hy (by simpa using h1)
 ·obtain ⟨h1,h2⟩:=bJ.1 h
  cases h2
  exact CV hx hy (by simpa using h1)
 ·obtain ⟨h1,h2⟩:=bJ.1 h
  cases h2
  simp only [Bool.and_eq_true,Bool.or_eq_true,decide_eq_true_eq] at h1
  obtain ⟨⟨rfl,hm⟩,hn⟩:=h1
  have e1:m=bI (decide (m=1)):=by rcases hm with rfl|rfl <;> rfl
  have e2:n=bI (decide (n=1)):=by rcases hn with rfl|rfl <;> rfl
  exact Oh (by rw [← e1];exact hx) (by rw [← e2];exact hy)
 ·exact aG hx hy h
theorem Ja {op:BinOp} (h:LP op=true):op=.eql:=by unfold LP at h;split at h <;> simp_all
theorem DJ:∀ {a:List Value},Dv a=true→∀ i<a.length,a[i]?=some (.int .i64 (ivA a i))
 |[],_,i,hi=>by simp at hi
 |v::a,h,i,hi=>by
  simp only [Dv,Bool.and_eq_true] at h
  cases i with
  |zero =>
   have h1:=h.1
   unfold isI at h1
   split at h1
   ·simp [ivA,asInt]
   ·cases h1
  |succ i =>
   have:=DJ h.2 i (by simpa using hi)
   simpa [ivA] using this
theorem wG:∀ {a:List Value},Dv a=true→gy a=true
 |[],_=>rfl
 |v::a,h=>by
  simp only [Dv,Bool.and_eq_true] at h
  have h1:=h.1
  unfold isI at h1
  split at h1
  ·simp [gy,plain,wG h.2]
  ·cases h1
theorem bin_ok (hT:jZ P T) {op:BinOp} {t t':TypeId} (hx:bf e x=some u) (hy:bf e y=some v) (h:SC T op t u v σ=some r):SR P (.binOp op t x y t') e σ r:=by
 unfold SC at h
 split at h
 ·rename_i a ha
  simp only [QV,Option.bind_eq_some_iff,bJ] at h
  obtain ⟨b,h1,h2,w,h3,h4⟩:=h
  rw [jT ha] at hx
  rw [jT h1] at hy
  have h2:=of_decide_eq_true h2
  rw [← h2] at hy
  exact SR.pure h4 (arith_ok hx hy h3)
 ·unfold QZ at h
  split at h
  ·rename_i hn
   simp only [QY,Option.bind_eq_some_iff,bJ,Bool.and_eq_true] at h
   obtain ⟨p,h1,el,h2,⟨h3,h4⟩,h5⟩:=h
   rw [mF h1] at hx
   rw [qm hn] at hy
   have:=Ja h3
   subst this
   haveI:Sl P t el:=⟨hT.sl _ _ h2⟩
   exact SR.pure h5 fun rd ty=>ok_eqNil hx (Nat.blt_eq.mp h4) hy
  split at h
  ·rename_i r0 hr0
   cases h
   simp only [QW,Option.bind_eq_some_iff,bJ,Bool.and_eq_true,decide_eq_true_eq] at hr0
   obtain ⟨a,h1,b,h2,x1,h3,x2,h4,⟨⟨h5,h6⟩,h7⟩,w,h8,h9⟩:=hr0
   rw [qJ h1,Ph h3] at hx
   rw [qJ h2,Ph h4,← h6,← h7] at hy
   obtain ⟨z,hz⟩:=Option.isSome_iff_exists.1 h5
   haveI:Eq2 P t:=⟨hT.eq2 _ _ hz⟩
   refine SR.pure h9 fun rd ty=>?_
   unfold Tn at h8
   split at h8
   ·cases h8;exact Ku hx hy
   ·cases h8
    have:=LJ (P:=P) (rd:=rd) (ty:=ty) (σ:=σ) (t:=t) (t':=t') hx hy
    simpa using this
   ·cases h8
  ·simp only [QX,Option.bind_eq_some_iff,bJ,Bool.and_eq_true,decide_eq_true_eq] at h
   obtain ⟨a,h1,b,h2,y,h3,q,h4,k,h5,⟨⟨⟨⟨⟨⟨⟨g1,g2⟩,g3⟩,g4⟩,g5⟩,g6⟩,g7⟩,g8⟩,h6⟩:=h
   have:=Ja g1
   subst this
   subst g4
   obtain ⟨q1,q2,q3,q4⟩:=q
   have e1:=Nat.eq_of_beq_eq_true g2
   have e2:q2=false:=by simpa using g3
   simp only at e1
   subst e1;subst e2
   rw [qJ h1] at hx
   rw [qJ h2] at hy
   haveI:Ar P t y.1 y.2:=⟨hT.ar _ _ h3⟩
   haveI:Ty P y.2 1 false q3 q4:=⟨hT.ty _ _ h4⟩
   haveI:Ik P y.2 .i64:=⟨hT.ik _ _ h5⟩
   have l1:=Nat.eq_of_beq_eq_true g5
   have l2:=Nat.eq_of_beq_eq_true g6
   exact SR.pure h6 fun rd ty=>nJ guard_arr hx hy (wG g7) (wG g8) (fun i hi=>DJ g7 i (by omega)) (fun i hi=>DJ g8 i (by omega))
theorem MC (hT:jZ P T) {t:TypeId} (h:IU T t u σ=some r):∃ i o size bytes z agg,u=.pointer (some ⟨i,o,none⟩)∧Ty P t size agg z bytes∧r.2=(σ,σ.length) ∧
  ((agg=false∧cZ σ i o=some r.1)∨(agg=true∧∃ cs,dh σ i o size=some cs∧r.1=.agg cs.toArray)):=by
 simp only [IU,Option.bind_eq_some_iff] at h
 obtain ⟨p,h1,y,h2,h3⟩:=h
 refine ⟨p.1,p.2,y.1,y.2.2.2,y.2.2.1,y.2.1,mW h1,⟨hT.ty _ _ h2⟩,?_⟩
 cases hb:y.2.1 with
 |false =>
  rw [hb] at h3
  simp only [KD,Option.bind_eq_some_iff] at h3
  obtain ⟨w,h4,h5⟩:=h3
  cases DF h5
  exact ⟨rfl,.inl ⟨rfl,h4⟩⟩
 |true =>
  rw [hb] at h3
  simp only [KD,Option.bind_eq_some_iff] at h3
  obtain ⟨w,h4,h5⟩:=h3
  cases DF h5
  exact ⟨rfl,.inr ⟨rfl,w,h4,rfl⟩⟩
theorem load_ok (hT:jZ P T) {t:TypeId} (hx:bf e x=some u) (h:IU T t u σ=some r):SR P (.load t x) e σ r:=by
 obtain ⟨i,o,size,bytes,z,agg,rfl,hty,h1,h2⟩:=MC hT h
 obtain ⟨r1,r2,r3⟩:=r
 cases h1
 rcases h2 with ⟨rfl,h2⟩|⟨rfl,cs,h2,h3⟩
 ·exact ⟨fun rd ty=>ak (ht:=hty) hx h2,Keep.refl⟩
 ·simp only at h3;subst h3
  exact ⟨fun rd ty=>aZ (ht:=hty) hx h2,Keep.refl⟩
theorem store_ok (hT:jZ P T) {t:TypeId} (hx:bf e x=some u) (hy:bf e y=some v) (h:KE T t u v σ=some r):SR P (.store t x y) e σ r:=by
 simp only [KE,Option.bind_eq_some_iff,bJ,Bool.and_eq_true] at h
 obtain ⟨p,h1,q,h2,⟨h3,h4⟩,h5⟩:=h
 obtain ⟨σ',h6,rfl⟩:=BR h5
 obtain ⟨h7,h8⟩:=BQ h6
 rw [mW h1] at hx
 haveI:Ty P t q.1 q.2.1 q.2.2.1 q.2.2.2:=⟨hT.ty _ _ h2⟩
 exact ⟨fun rd ty=>aJ hx hy (Nat.eq_of_beq_eq_true h3) h4 h7,h8⟩
theorem fa_ok (hT:jZ P T) {s:TypeId} {f:Nat} (hx:bf e x=some u) (h:rFA T s f u σ=some r):SR P (.fieldAddr s x f) e σ r:=by
 simp only [rFA,Option.bind_eq_some_iff,bJ] at h
 obtain ⟨p,h1,q,h2,y,h3,h4,h5⟩:=h
 rw [mW h1] at hx
 obtain ⟨y1,y2,y3,y4⟩:=y
 obtain ⟨k,rfl⟩:∃ k,y1=k+1:=⟨y1 - 1,by have:=Nat.blt_eq.mp h4;simp only at this;omega⟩
 haveI:Ty P q.2 (k+1) y2 y3 y4:=⟨hT.ty _ _ h3⟩
 haveI:Fld P s f q.1 q.2:=⟨hT.field h2⟩
 exact SR.pure h5 fun rd ty=>aB hx
theorem part_ok {op:Op} {cs:List Value} {off size:Nat} {agg:Bool} (h:IV cs off σ size agg=some r)
  (h1:agg=false→∀ v,cs[off]?=some v→∀ rd ty,dV P rd op ty e σ v σ) (h2:agg=true→off+size≤cs.length→∀ rd ty,dV P rd op ty e σ (.agg ((cs.drop off).take size).toArray) σ):SR P op e σ r:=by
 cases agg with
 |false =>
  simp only [IV,Option.bind_eq_some_iff] at h
  obtain ⟨w,h3,h4⟩:=h
  exact SR.pure h4 (h1 rfl w h3)
 |true =>
  simp only [IV,bJ,jA] at h
  exact SR.pure h.2 (h2 rfl (Nat.le_of_ble_eq_true h.1))
theorem field_ok (hT:jZ P T) {s:TypeId} {f:Nat} (hx:bf e x=some u) (h:KF T s f u σ=some r):SR P (.field s x f) e σ r:=by
 simp only [KF,Option.bind_eq_some_iff] at h
 obtain ⟨cs,h1,q,h2,y,h3,h4⟩:=h
 rw [qJ h1] at hx
 obtain ⟨y1,y2,y3,y4⟩:=y
 haveI:Fld P s f q.1 q.2:=⟨hT.field h2⟩
 refine part_ok h4 (fun ha w hw rd ty=>?_) (fun ha hl rd ty=>?_)
 ·simp only at ha;subst ha
  haveI:Ty P q.2 y1 false y3 y4:=⟨hT.ty _ _ h3⟩
  exact ok_field1 hx hw
 ·simp only at ha;subst ha
  haveI:Ty P q.2 y1 true y3 y4:=⟨hT.ty _ _ h3⟩
  exact ok_fieldN hx (by simpa using hl)
theorem idxA_ok (hT:jZ P T) {t:TypeId} (hx:bf e x=some u) (hy:bf e y=some v) (h:OD T t u v σ=some r):SR P (.indexAddr t x y) e σ r:=by
 simp only [OD,Option.bind_eq_some_iff] at h
 obtain ⟨j,h1,h2⟩:=h
 rw [jT h1] at hy
 unfold OC at h2
 split at h2
 ·rename_i p hp
  simp only [Q5,Option.bind_eq_some_iff,bJ,Bool.and_eq_true,decide_eq_true_eq] at h2
  obtain ⟨el,h3,y,h4,⟨h5,h6⟩,h7⟩:=h2
  rw [mF hp] at hx
  haveI:Sl P t el:=⟨hT.sl _ _ h3⟩
  haveI:Ty P el y.1 y.2.1 y.2.2.1 y.2.2.2:=⟨hT.ty _ _ h4⟩
  exact SR.pure h7 fun rd ty=>lC hx hy h5 h6
 ·split at h2
  ·rename_i p hp
   simp only [Q7,Option.bind_eq_some_iff,bJ,Bool.and_eq_true,decide_eq_true_eq] at h2
   obtain ⟨el,h3,y,h4,⟨h5,h6⟩,h7⟩:=h2
   rw [GV hp] at hx
   haveI:Sl P t el:=⟨hT.sl _ _ h3⟩
   haveI:Ty P el y.1 y.2.1 y.2.2.1 y.2.2.2:=⟨hT.ty _ _ h4⟩
   exact SR.pure h7 fun rd ty=>yR hx hy h5 h6
  ·simp only [Option.bind_eq_some_iff] at h2
   obtain ⟨p,hp,h2⟩:=h2
   simp only [Q8,Option.bind_eq_some_iff,bJ,Bool.and_eq_true,decide_eq_true_eq] at h2
   obtain ⟨a,h3,y,h4,⟨h5,h6⟩,h7⟩:=h2
   rw [mW hp] at hx
   haveI:Ar P t a.1 a.2:=⟨hT.ar _ _ h3⟩
   haveI:Ty P a.2 y.1 y.2.1 y.2.2.1 y.2.2.2:=⟨hT.ty _ _ h4⟩
   exact SR.pure h7 fun rd ty=>bV hx hy h5 h6
theorem idx_ok (hT:jZ P T) {t:TypeId} (hx:bf e x=some u) (hy:bf e y=some v) (h:SE T t u v σ=some r):SR P (.index t x y) e σ r:=by
 simp only [SE,Option.bind_eq_some_iff,bJ,Bool.and_eq_true,decide_eq_true_eq] at h
 obtain ⟨cs,h1,j,h2,a,h3,y,h4,⟨h5,h6⟩,h7⟩:=h
 rw [qJ h1] at hx
 rw [jT h2] at hy
 obtain ⟨y1,y2,y3,y4⟩:=y
 haveI:Ar P t a.1 a.2:=⟨hT.ar _ _ h3⟩
 refine part_ok h7 (fun ha w hw rd ty=>?_) (fun ha hl rd ty=>?_)
 ·simp only at ha;subst ha
  haveI:Ty P a.2 y1 false y3 y4:=⟨hT.ty _ _ h4⟩
  exact rM hx hy h5 h6 hw
 ·simp only at ha;subst ha
  haveI:Ty P a.2 y1 true y3 y4:=⟨hT.ty _ _ h4⟩
  exact ok_indexN hx hy h5 h6 (by simpa using hl)
theorem build_ok (hT:jZ P T) {t:TypeId} {ps:Array (Nat×Operand)} {vs:List (Nat×Value)} (hp:tJ e ps.toList=some vs) (h:KG T t vs σ=some r):SR P (.build t ps) e σ r:=by
 unfold KG at h
 split at h
 ·rename_i z hz
  simp only [bJ,Option.bind_eq_some_iff,jA] at h
  obtain ⟨h1,cs,h2,h3⟩:=h
  haveI:Pls P t z.1 z.2:=⟨hT.pls _ _ hz⟩
  exact SR.pure h3 fun rd ty=>jK h1 hp h2
 ·unfold LQ at h
  simp only [bJ,Option.bind_eq_some_iff,Bool.and_eq_true,jA] at h
  obtain ⟨y,h1,a,h2,z,h3,⟨h4,h5⟩,cs,h6,h7⟩:=h
  obtain ⟨y1,y2,y3,y4⟩:=y
  simp only at h4;subst h4
  haveI:Ty P t y1 true y3 y4:=⟨hT.ty _ _ h1⟩
  haveI:Ar P t a.1 a.2:=⟨hT.ar _ _ h2⟩
  haveI:Ty P a.2 z.1 z.2.1 z.2.2.1 z.2.2.2:=⟨hT.ty _ _ h3⟩
  exact SR.pure h7 fun rd ty=>ok_buildAr h5 hp h6
theorem buildS_ok (hT:jZ P T) {t n:TypeId} {ps:Array (Nat×Operand)} {vs:List (Nat×Value)} (hp:tJ e ps.toList=some vs) (h:Gt T t n vs σ=some r):SR P (.buildSlice t n ps) e σ r:=by
 unfold Gt at h
 cases hn:Nat.beq n 0 with
 |true =>
  rw [hn] at h
  simp only [cond_true,IW,bJ,Option.bind_eq_some_iff,jA] at h
  obtain ⟨el,h1,y,h2,h3,h4⟩:=h
  cases h4
  have e0:=Nat.eq_of_beq_eq_true hn
  subst e0
  haveI:Sl P t el:=⟨hT.sl _ _ h1⟩
  haveI:Ty P el y.1 y.2.1 y.2.2.1 y.2.2.2:=⟨hT.ty _ _ h2⟩
  have hps:ps=#[]:=by
   obtain ⟨l⟩:=ps
   cases l with
   |nil=>rfl
   |cons p l =>
    obtain ⟨i,q⟩:=p
    simp only [tJ] at hp
    split at hp
    ·cases hp;simp [OE] at h3
    ·cases hp
  subst hps
  exact ⟨fun rd ty=>dK,Keep.app⟩
 |false =>
 rw [hn] at h
 simp only [cond_false,IX,bJ,Option.bind_eq_some_iff,Bool.and_eq_true] at h
 obtain ⟨el,h1,y,h2,⟨⟨⟨h3,h4⟩,h5⟩,h6⟩,cs,h7,h8⟩:=h
 haveI:Sl P t el:=⟨hT.sl _ _ h1⟩
 haveI:Ty P el y.1 y.2.1 y.2.2.1 y.2.2.2:=⟨hT.ty _ _ h2⟩
 exact SR.new h8 fun rd ty=>kM h3 (by simpa using Nat.eq_of_beq_eq_true h4) h5 h6 hp h7
theorem makeS_ok (hT:jZ P T) {t:TypeId} (hx:bf e x=some u) (hy:bf e y=some v) (h:KH T t u v σ=some r):SR P (.makeSlice t x y) e σ r:=by
 simp only [KH,LU,bJ,Option.bind_eq_some_iff,Bool.and_eq_true,decide_eq_true_eq] at h
 obtain ⟨l,h1,c,h2,el,h3,q,h4,⟨⟨⟨⟨⟨h5,h6⟩,h7⟩,h8⟩,h9⟩,h10⟩,h11⟩:=h
 rw [jT h1,show l.2=((l.2.toNat:Nat):Int) by omega] at hx
 rw [jT h2,show c.2=((c.2.toNat:Nat):Int) by omega] at hy
 haveI:Sl P t el:=⟨hT.sl _ _ h3⟩
 haveI:Ty P el q.1 q.2.1 q.2.2.1 q.2.2.2:=⟨hT.ty _ _ h4⟩
 exact SR.new h11 fun rd ty=>wu h5 (by simpa using Nat.eq_of_beq_eq_true h6) hx hy (by omega) (Nat.le_of_ble_eq_true h9) (Nat.le_of_ble_eq_true h10)
theorem len_ok (hT:jZ P T) {t:TypeId} (hx:bf e x=some u) (h:SG T t u σ=some r):SR P (.call { callee:=.builtin .len,args:=#[x],argTypes:=#[t] }) e σ r:=by
 simp only [SG,Option.bind_eq_some_iff] at h
 obtain ⟨n,h1,el,h2,h3⟩:=h
 obtain ⟨a,c,rfl⟩:=lenS_eq h1
 haveI:Sl P t el:=⟨hT.sl _ _ h2⟩
 exact SR.pure h3 fun rd ty=>bK hx
theorem conv_ok (hT:jZ P T) {s d:TypeId} (hx:bf e x=some u) (h:OH T s d u σ=some r):SR P (.convert s d x) e σ r:=by
 simp only [OH,bJ,Option.bind_eq_some_iff,decide_eq_true_eq] at h
 obtain ⟨a,h1,b,h2,k,h3,h4,h5⟩:=h
 rw [jT h1,← h4] at hx
 haveI:Ik P s b:=⟨hT.ik _ _ h2⟩
 haveI:Ik P d k:=⟨hT.ik _ _ h3⟩
 exact SR.pure h5 fun rd ty=>Iu hx
theorem slice_ok (hT:jZ P T) {t:TypeId} {a b c:Option Operand} {i j k:Option Int} (hx:bf e x=some u)
  (ha:∀ o,a=some o→∃ q m,bf e o=some (.int q m)∧i=some m) (ha':a=none→i=none) (hb:∀ o,b=some o→∃ q m,bf e o=some (.int q m)∧j=some m) (hb':b=none→j=none)
  (hc:∀ o,c=some o→∃ q m,bf e o=some (.int q m)∧k=some m) (hc':c=none→k=none) (h:KI T t u σ i j k=some r):SR P (.slice t x a b c) e σ r:=by
 unfold KI at h
 have na:∀ {i:Option Int} {a:Option Operand},(∀ o,a=some o→∃ q m,bf e o=some (.int q m)∧i=some m)→i=none→a=none:=by
  intro i a ha hi
  cases a with
  |none=>rfl
  |some o=>obtain ⟨q,m,_,h2⟩:=ha o rfl;rw [hi] at h2;cases h2
 have sa:∀ {i:Option Int} {a:Option Operand} {m:Int},(∀ o,a=some o→∃ q m,bf e o=some (.int q m)∧i=some m)→(a=none→i=none)→i=some m→∃ o q,a=some o∧bf e o=some (.int q m):=by
  intro i a m ha ha' hi
  cases a with
  |none=>rw [ha' rfl] at hi;cases hi
  |some o=>obtain ⟨q,m',h1,h2⟩:=ha o rfl;rw [hi] at h2;cases h2;exact ⟨o,q,rfl,h1⟩
 split at h
 ·rename_i hh
  obtain rfl:=na ha rfl
  obtain rfl:=na hc rfl
  obtain ⟨o,q,rfl,ho⟩:=sa hb hb' rfl
  split at h
  ·rename_i p hp
   simp only [slH,bJ,Option.bind_eq_some_iff,Bool.and_eq_true,decide_eq_true_eq] at h
   obtain ⟨el,h1,z,h2,⟨h3,h4⟩,h5⟩:=h
   rw [mF hp] at hx
   rw [show hh=((hh.toNat:Nat):Int) by omega] at ho
   haveI:Sl P t el:=⟨hT.sl _ _ h1⟩
   haveI:Ty P el z.1 z.2.1 z.2.2.1 z.2.2.2:=⟨hT.ty _ _ h2⟩
   exact SR.pure h5 fun rd ty=>zX hx ho (by omega)
  ·simp only [slA,bJ,Option.bind_eq_some_iff,Bool.and_eq_true,decide_eq_true_eq] at h
   obtain ⟨p,hp,a2,h1,z,h2,⟨h3,h4⟩,h5⟩:=h
   rw [mW hp] at hx
   rw [show hh=((hh.toNat:Nat):Int) by omega] at ho
   haveI:Ar P t a2.1 a2.2:=⟨hT.ar _ _ h1⟩
   haveI:Ty P a2.2 z.1 z.2.1 z.2.2.1 z.2.2.2:=⟨hT.ty _ _ h2⟩
   exact SR.pure h5 fun rd ty=>ok_sliceAH hx ho (by omega)
 ·rename_i ll
  obtain rfl:=na hb rfl
  obtain rfl:=na hc rfl
  obtain ⟨o,q,rfl,ho⟩:=sa ha ha' rfl
  simp only [slL,bJ,Option.bind_eq_some_iff,Bool.and_eq_true,decide_eq_true_eq] at h
  obtain ⟨p,hp,el,h1,z,h2,⟨⟨h3,h4⟩,h4'⟩,h5⟩:=h
  rw [mF hp] at hx
  rw [show ll=((ll.toNat:Nat):Int) by omega] at ho
  haveI:Sl P t el:=⟨hT.sl _ _ h1⟩
  haveI:Ty P el z.1 z.2.1 z.2.2.1 z.2.2.2:=⟨hT.ty _ _ h2⟩
  exact SR.pure h5 fun rd ty=>ok_sliceL hx ho (by omega) (Nat.le_of_ble_eq_true h4')
 ·obtain rfl:=na ha rfl
  obtain rfl:=na hb rfl
  obtain rfl:=na hc rfl
  simp only [slA,Option.bind_eq_some_iff] at h
  obtain ⟨p,hp,a2,h1,z,h2,h5⟩:=h
  rw [mW hp] at hx
  haveI:Ar P t a2.1 a2.2:=⟨hT.ar _ _ h1⟩
  haveI:Ty P a2.2 z.1 z.2.1 z.2.2.1 z.2.2.2:=⟨hT.ty _ _ h2⟩
  exact SR.pure h5 fun rd ty=>ER hx
 ·rename_i hh mm
  obtain rfl:=na ha rfl
  obtain ⟨o,q,rfl,ho⟩:=sa hb hb' rfl
  obtain ⟨o2,q2,rfl,ho2⟩:=sa hc hc' rfl
  simp only [slG,Option.bind_eq_some_iff] at h
  obtain ⟨el,h1,z,h2,h⟩:=h
  haveI:Sl P t el:=⟨hT.sl _ _ h1⟩
  haveI:Ty P el z.1 z.2.1 z.2.2.1 z.2.2.2:=⟨hT.ty _ _ h2⟩
  split at h
  ·rename_i p hp
   simp only [bJ,Bool.and_eq_true,decide_eq_true_eq] at h
   obtain ⟨⟨⟨h3,h4⟩,h5⟩,h6⟩:=h
   have h3:=Nat.eq_of_beq_eq_true h3
   have hu:=GV hp
   subst hu
   rw [← h3] at hx h6
   subst h4 h5
   exact SR.pure h6 fun rd ty=>yj hx ho ho2
  ·simp only [bJ,Bool.and_eq_true,decide_eq_true_eq] at h
   obtain ⟨⟨⟨h3,h4⟩,h5⟩,h6⟩:=h
   have hu:=qm h3
   subst hu h4 h5
   exact SR.pure h6 fun rd ty=>yj (i:=0) (size:=z.1) (n:=0) hx ho ho2
 ·cases h
end
end Go.AH
namespace Go.AH
open Go
theorem sim_gr0 {G:Nat→Prop} {w0 w:World} {ρ:Rho} {σ:Heap} (hs:Sim G w0 ρ σ w) (el:TypeId):Sim G w0 ρ (σ++[.gr [] el]) w where
 os:=hs.os
 tape:=hs.tape
 output:=hs.output
 size:=hs.size
 fgn:=hs.fgn
 obj:=fun i o h=>by
  rcases getElem?_snoc h with h|⟨rfl,rfl⟩
  ·exact lJ (hs.obj i o h) (by simp) (fun _ _=>rfl) (fun _ h=>h) (fun _ _ _ _ h=>h) (fun _ _ _ h=>h)
  ·intro hc;exact absurd rfl hc
 inj:=fun i j oi oj hi hj hoi hoj hb=>by
  rcases getElem?_snoc hi with hi|⟨rfl,rfl⟩
  ·rcases getElem?_snoc hj with hj|⟨rfl,rfl⟩
   ·exact hs.inj i j oi oj hi hj hoi hoj hb
   ·exact absurd rfl hoj
  ·exact absurd rfl hoi
theorem opok_gr0 {P:Program} {rd:Option Nat} {op:Op} {ty el:TypeId} {e:Env} {σ σ':Heap} {v:Value} (h:dV P rd op ty e (σ++[.gr [] el]) v σ'):dV P rd op ty e σ v σ':=by
 intro o ho hty G w0 ρ A w hrd hs hx next Q' hk
 refine h o ho hty G w0 ρ A w (fun l hl=>by have:=hrd l hl;simp;omega) (sim_gr0 hs el) (fun y hy u hu=>(hx y hy u hu).mono (by simp) fun _ _=>rfl) next Q' ?_
 intro ρ' v' w' hv hl hag hs'
 simp only [List.length_append,List.length_singleton] at hl hag
 exact hk ρ' v' w' hv (by omega) (fun i hi=>hag i (by omega)) hs'
def nP (P:Program) (call:lV):Prop:=∀ f args σ r,call f args σ=some r→Ev P f args σ r.1 r.2.1∧Keep r.2.2 σ r.2.1
section
variable {P:Program} {T:Tab} {e:Env} {tr:PT} {σ:Heap} {r:Value×Heap×Nat} {x y:Operand} {u v:Value}
theorem append_ok (hT:jZ P T) {t:TypeId} (hx:bf e x=some u) (hy:bf e y=some v) (h:Gu T t u v σ=some r):SR P (.call { callee:=.builtin .append,args:=#[x,y],argTypes:=#[t,t] }) e σ r:=by
 simp only [Gu,Option.bind_eq_some_iff,bJ,Bool.and_eq_true] at h
 obtain ⟨q,h1,el,h2,z,h3,⟨⟨⟨h4,h5⟩,h6⟩,h7⟩,news,h8,h9,h10⟩:=h
 rw [mF h1] at hy
 haveI:Sl P t el:=⟨hT.sl _ _ h2⟩
 haveI:Ty P el z.1 z.2.1 z.2.2.1 z.2.2.2:=⟨hT.ty _ _ h3⟩
 have h4':z.2.2.1.cells.size=z.1:=by simpa using Nat.eq_of_beq_eq_true h4
 have h6':=Nat.le_of_ble_eq_true h6
 have h7':0<q.2.2.1:=Nat.blt_eq.mp h7
 unfold I4 at h10
 split at h10
 ·rename_i p hp
  simp only [appG,bJ,Option.bind_eq_some_iff,Bool.and_eq_true] at h10
  obtain ⟨⟨g1,g2⟩,ob,g3,g4⟩:=h10
  unfold Q9 at g4
  split at g4
  ·rename_i cs el'
   simp only [bJ,jA,Bool.and_eq_true] at g4
   obtain ⟨⟨g5,g6⟩,g7⟩:=g4
   cases g7
   have g5:=Nat.eq_of_beq_eq_true g5
   subst g5
   rw [GV hp,Nat.eq_of_beq_eq_true g1] at hx
   refine ⟨fun rd ty=>fZ h4' h5 hx g3 (Nat.eq_of_beq_eq_true g6) hy h8 h7' h9 (by have:=Nat.le_of_ble_eq_true g2;omega) h6',?_⟩
   exact (Keep.set.trans (Keep.app (lo:=p.1))).mono (by simp)
  ·cases g4
 ·cases hn:uj u with
  |true =>
   rw [hn] at h10
   simp only [cond_true,app0,bJ,jA] at h10
   obtain ⟨g1,g2⟩:=h10
   cases g2
   rw [qm hn] at hx
   refine ⟨fun rd ty=>opok_gr0 (el:=el) ?_,⟨by simp,fun i _ hi=>by rw [List.append_assoc];exact List.getElem?_append_left hi⟩⟩
   have hy':dh (σ++[.gr [] el]) q.1 q.2.1 (q.2.2.1*z.1)=some news:=by
    unfold dh at h8 ⊢
    have hq:q.1 < σ.length:=by
     cases hh:σ[q.1]? with
     |none=>rw [hh] at h8;cases h8
     |some o=>exact iP hh
    rw [List.getElem?_append_left hq];exact h8
   have:=fZ (P:=P) (rd:=rd) (ty:=ty) (e:=e) (σ:=σ++[.gr [] el]) (x:=x) (y:=y) (t:=t) (el:=el) (i:=σ.length) (n:=0) (cs:=[]) h4' h5 (by simpa [dL] using hx) (by simp) (by simp) hy hy' h7' h9 (by have:=Nat.le_of_ble_eq_true g1;omega) h6'
   simpa using this
  |false =>
   rw [hn] at h10
   simp only [cond_false] at h10
   cases hz:SI u with
   |true =>
    rw [hz] at h10
    simp only [cond_true,Tz,bJ,jA] at h10
    obtain ⟨g1,g2⟩:=h10
    cases g2
    have hu:u=.slice none 0 1:=by unfold SI at hz;split at hz <;> simp_all
    rw [hu] at hx
    exact ⟨fun rd ty=>bW h4' hx hy h8 h7' (Nat.le_of_ble_eq_true g1) h6',Keep.app⟩
   |false =>
   rw [hz] at h10
   simp only [cond_false,IZ,Option.bind_eq_some_iff,Rf,bJ] at h10
   obtain ⟨p,hp,g1,g2⟩:=h10
   obtain ⟨σ',g3,rfl⟩:=BR g2
   obtain ⟨g4,g5⟩:=BQ g3
   rw [mF hp] at hx
   exact ⟨fun rd ty=>ok_appendIn hx hy h7' (Nat.le_of_ble_eq_true g1) h8 h9 g4,g5⟩
theorem copy_ok (hT:jZ P T) {t t2:TypeId} (hx:bf e x=some u) (hy:bf e y=some v) (h:OJ T t u v σ=some r):SR P (.call { callee:=.builtin .copy,args:=#[x,y],argTypes:=#[t,t2] }) e σ r:=by
 simp only [OJ,Option.bind_eq_some_iff,bJ,Bool.and_eq_true] at h
 obtain ⟨p,h1,q,h2,el,h3,z,h4,⟨h5,h6⟩,news,h7,h8,h9⟩:=h
 obtain ⟨σ',g3,rfl⟩:=BR h9
 obtain ⟨g4,g5⟩:=BQ g3
 rw [mF h1] at hx
 rw [mF h2,Nat.eq_of_beq_eq_true h5] at hy
 haveI:Sl P t el:=⟨hT.sl _ _ h3⟩
 haveI:Ty P el z.1 z.2.1 z.2.2.1 z.2.2.2:=⟨hT.ty _ _ h4⟩
 exact ⟨fun rd ty=>LH hx hy (Nat.blt_eq.mp h6) h7 h8 g4,g5⟩
theorem clear_ok (hT:jZ P T) {t:TypeId} (hx:bf e x=some u) (h:KJ T t u σ=some r):SR P (.call { callee:=.builtin .clear,args:=#[x],argTypes:=#[t] }) e σ r:=by
 simp only [KJ,Option.bind_eq_some_iff,bJ,Bool.and_eq_true] at h
 obtain ⟨p,h1,el,h3,z,h4,⟨⟨⟨h5,h6⟩,h7⟩,h8⟩,h9⟩:=h
 obtain ⟨σ',g3,rfl⟩:=BR h9
 obtain ⟨g4,g5⟩:=BQ g3
 rw [mF h1] at hx
 haveI:Sl P t el:=⟨hT.sl _ _ h3⟩
 haveI:Ty P el z.1 z.2.1 z.2.2.1 z.2.2.2:=⟨hT.ty _ _ h4⟩
 exact ⟨fun rd ty=>IJ h5 (by simpa using Nat.eq_of_beq_eq_true h6) hx (Nat.blt_eq.mp h7) h8 g4,g5⟩
theorem eqV_eq {u v:Value} (h:eqV u v=true):u=v:=by
 unfold eqV at h
 split at h
 ·rename_i x hx
  unfold eqI at h
  split at h
  ·rename_i y hy
   simp only [Bool.and_eq_true,decide_eq_true_eq] at h
   rw [jT hx,jT hy,h.1,h.2]
  ·cases h
 split at h
 ·rename_i b hb
  unfold eqB at h
  split at h
  ·rename_i c hc
   rw [ql hb,ql hc]
   simpa using h
  ·cases h
 unfold TB at h
 split at h
 ·rename_i p hp
  unfold eqS at h
  split at h
  ·rename_i q hq
   simp only [Bool.and_eq_true] at h
   obtain ⟨⟨⟨h1,h2⟩,h3⟩,h4⟩:=h
   rw [mF hp,mF hq,Nat.eq_of_beq_eq_true h1,Nat.eq_of_beq_eq_true h2,Nat.eq_of_beq_eq_true h3,Nat.eq_of_beq_eq_true h4]
  ·cases h
 split at h
 ·rename_i p hp
  unfold eqP at h
  split at h
  ·rename_i q hq
   simp only [Bool.and_eq_true] at h
   rw [mW hp,mW hq,Nat.eq_of_beq_eq_true h.1,Nat.eq_of_beq_eq_true h.2]
  ·cases h
 unfold TA at h
 have g3:∀ {v:Value} {p:Nat×Nat×Nat×Nat×Nat},QC v=some p→v=.slice (some ⟨p.1,p.2.1,some p.2.2.1⟩) p.2.2.2.1 p.2.2.2.2:=by
  intro v p h;unfold QC at h;split at h <;> cases h <;> rfl
 split at h
 ·rename_i p hp
  unfold eqG at h
  split at h
  ·rename_i q hq
   simp only [Bool.and_eq_true] at h
   obtain ⟨⟨⟨⟨h1,h2⟩,h3⟩,h4⟩,h5⟩:=h
   rw [g3 hp,g3 hq,Nat.eq_of_beq_eq_true h1,Nat.eq_of_beq_eq_true h2,Nat.eq_of_beq_eq_true h3,Nat.eq_of_beq_eq_true h4,Nat.eq_of_beq_eq_true h5]
  ·cases h
 ·simp only [Bool.or_eq_true,Bool.and_eq_true] at h
  rcases h with h|h
  ·rw [qm h.1,qm h.2]
  ·rw [xE h.1,xE h.2]
theorem zo:∀ {a b:List Value},Gv a b=true→a=b
 |[],b,h=>by simp only [Gv,List.isEmpty_iff] at h;exact h.symm
 |u::us,[],h=>by simp [Gv] at h
 |u::us,v::vs,h=>by
  simp only [Gv,Bool.and_eq_true] at h
  rw [eqV_eq h.1,zo h.2]
theorem yx {o:cu} {cs:List Value} (h:y9 o=some cs):o=.rw cs:=by unfold y9 at h;split at h <;> cases h <;> rfl
theorem vI {o:cu} {cs:List Value} (h:xC o=some cs):o=.ro cs:=by unfold xC at h;split at h <;> cases h <;> rfl
theorem DK {o:cu} {x:List Value×Nat} (h:BO o=some x):o=.gr x.1 x.2:=by unfold BO at h;split at h <;> cases h <;> rfl
theorem E5 {o:cu} (h:Gw o=true):o=.dead:=by unfold Gw at h;split at h <;> simp_all
theorem eqO_eq {a b:cu} (h:eqO a b=true):a=b:=by
 unfold eqO at h
 split at h
 ·rename_i x hx
  split at h
  ·rename_i y hy
   rw [yx hx,yx hy,zo h]
  ·cases h
 split at h
 ·rename_i x hx
  split at h
  ·rename_i y hy
   rw [vI hx,vI hy,zo h]
  ·cases h
 unfold TD at h
 split at h
 ·rename_i x hx
  split at h
  ·rename_i y hy
   simp only [Bool.and_eq_true] at h
   rw [DK hx,DK hy,zo h.2,Nat.eq_of_beq_eq_true h.1]
  ·cases h
 ·simp only [Bool.and_eq_true] at h
  rw [E5 h.1,E5 h.2]
theorem Pj:∀ {a b:Heap},eqH a b=true→∀ i,i<a.length→b[i]?=a[i]?
 |[],b,h,i,hi=>by simp at hi
 |u::us,[],h,i,hi=>by simp [eqH] at h
 |u::us,v::vs,h,i,hi=>by
  simp only [eqH,Bool.and_eq_true] at h
  cases i with
  |zero=>simp [eqO_eq h.1]
  |succ i=>simpa using Pj h.2 i (by simpa using hi)
theorem fixR_ok {r0:Value×Heap×Nat} (h:SK σ r0=some r) (hk:Keep r0.2.2 σ r0.2.1):r.1=r0.1∧r.2.1=r0.2.1∧Keep r.2.2 σ r.2.1:=by
 unfold SK at h
 cases h1:Nat.ble σ.length r0.2.2 with
 |true=>rw [h1] at h;cases h;exact ⟨rfl,rfl,hk⟩
 |false =>
  rw [h1] at h
  simp only [cond_false] at h
  cases h2:I5 r0.2.2 σ r0.2.1 with
  |false=>rw [h2] at h;cases h;exact ⟨rfl,rfl,hk⟩
  |true =>
   rw [h2] at h
   cases h
   refine ⟨rfl,rfl,hk.1,fun i hi hl=>?_⟩
   by_cases hlo:i<r0.2.2
   ·exact hk.2 i hlo hl
   ·have:=Pj h2 (i - r0.2.2) (by simp;omega)
    simp only [List.getElem?_drop] at this
    rwa [show r0.2.2+(i - r0.2.2)=i by omega] at this
theorem call_ok {call:lV} (hT:jZ P T) (hc:nP P call) {l:List Operand} {ts:Array TypeId} {vs:List Value} (hx:bf e x=some u) (hl:uy e l=some vs) (h:OL T call u vs σ=some r) :
  SR P (.call { callee:=.value x,args:=l.toArray,argTypes:=ts }) e σ r:=by
 simp only [OL,Option.bind_eq_some_iff,bJ] at h
 obtain ⟨f,h1,h2,r0,h3,h4⟩:=h
 obtain ⟨z,hz⟩:=Option.isSome_iff_exists.1 h2
 haveI:GoFn P f.1:=⟨(hT.fn _ _ hz).1⟩
 obtain ⟨h5,h6⟩:=hc _ _ _ _ h3
 obtain ⟨h7,h8,h9⟩:=fixR_ok h4 h6
 rw [zn h1] at hx
 refine ⟨fun rd ty=>?_,h9⟩
 rw [h7,h8]
 exact bC hx hl rfl h5
theorem callS_ok {call:lV} (hT:jZ P T) (hc:nP P call) (ha:Agr e tr) {c:Call} (h:OO c T call tr σ=some r):SR P (.call c) e σ r:=by
 obtain ⟨cal,⟨args⟩,⟨ts⟩⟩:=c
 have h:zf cal args ts T call tr σ=some r:=h
 cases cal with
 |value f =>
  simp only [zf,LX] at h
  obtain ⟨u,h1,h2⟩:=tN ha h
  obtain ⟨vs,h3,h4⟩:=Option.bind_eq_some_iff.1 h2
  exact call_ok hT hc h1 (DC ha h3) h4
 |builtin bn =>
  simp only [zf] at h
  have b1:∀ {f:Tab→TypeId→Value→Heap→Res},QD f args ts T call tr σ=some r→∃ x t u,args=[x]∧ts=[t]∧bf e x=some u∧f T t u σ=some r:=by
   intro f hf
   unfold QD at hf
   split at hf
   ·simp only [Option.bind_eq_some_iff,bJ] at hf
    obtain ⟨t,h1,h2,h3⟩:=hf
    obtain ⟨u,h4,h5⟩:=tN ha h3
    cases ts with
    |nil=>cases h1
    |cons a b=>simp only [List.head?_cons,Option.some.injEq,List.tail_cons,List.isEmpty_iff] at h1 h2;subst h1 h2;exact ⟨_,_,u,rfl,rfl,h4,h5⟩
   ·cases hf
  have b2:∀ {f:Tab→TypeId→TypeId→Value→Value→Heap→Res},QE f args ts T call tr σ=some r→∃ x y t t' u v,args=[x,y]∧ts=[t,t']∧bf e x=some u∧bf e y=some v∧f T t t' u v σ=some r:=by
   intro f hf
   unfold QE at hf
   split at hf
   ·simp only [Option.bind_eq_some_iff,bJ] at hf
    obtain ⟨t,h1,t',h1',h2,h3⟩:=hf
    obtain ⟨u,v,h4,h4',h5⟩:=DI ha h3
    match ts,h1,h1',h2 with
    |[a,b],h1,h1',_=>simp only [List.head?_cons,Option.some.injEq,List.tail_cons] at h1 h1';subst h1 h1';exact ⟨_,_,_,_,u,v,rfl,rfl,h4,h4',h5⟩
    |_::_::_::_,_,_,h2=>simp at h2
   ·cases hf
  have bm:∀ {g:Int→Int→Int},QF g args ts T call tr σ=some r→∃ x y k m n,args=[x,y]∧bf e x=some (.int k m)∧bf e y=some (.int k n)∧jY (.int k (g m n)) σ=some r:=by
   intro g hf
   unfold QF at hf
   split at hf
   ·obtain ⟨u,v,h4,h4',h5⟩:=DI ha hf
    simp only [rMM,Option.bind_eq_some_iff,bJ,decide_eq_true_eq] at h5
    obtain ⟨a,g1,b,g2,g3,g4⟩:=h5
    rw [jT g1] at h4
    rw [jT g2,← g3] at h4'
    exact ⟨_,_,_,_,_,rfl,h4,h4',g4⟩
   ·cases hf
  unfold EY at h
  split at h
  ·obtain ⟨x,t,u,rfl,rfl,h1,h2⟩:=b1 h
   exact len_ok hT h1 h2
  ·obtain ⟨x,t,u,rfl,rfl,h1,h2⟩:=b1 h
   exact clear_ok hT h1 h2
  ·obtain ⟨x,y,k,m,n,rfl,h1,h2,h3⟩:=bm h
   exact SR.pure h3 fun rd ty=>zT h1 h2
  ·obtain ⟨x,y,k,m,n,rfl,h1,h2,h3⟩:=bm h
   exact SR.pure h3 fun rd ty=>ok_min h1 h2
  ·obtain ⟨x,y,t,t',u,v,rfl,rfl,h1,h2,h3⟩:=b2 h
   obtain ⟨h4,h5⟩:=bJ.1 h3
   have h4:=Nat.eq_of_beq_eq_true h4
   subst h4
   exact append_ok hT h1 h2 h5
  ·obtain ⟨x,y,t,t',u,v,rfl,rfl,h1,h2,h3⟩:=b2 h
   exact copy_ok hT h1 h2 h3
  ·cases h
 |invoke a b=>cases h
theorem nil_ok (hx:bf e x=some u) (h:SH u σ=some r):SR P (.nilCheck x) e σ r:=by
 simp only [SH,bJ,Bool.or_eq_true] at h
 obtain ⟨h1,h2⟩:=h
 rcases h1 with h1|h1
 ·obtain ⟨p,hp⟩:=Option.isSome_iff_exists.1 h1
  have:=mW hp;subst this
  exact SR.pure h2 fun rd ty=>iR hx
 ·obtain ⟨p,hp⟩:=Option.isSome_iff_exists.1 h1
  have:=zn hp;subst this
  exact SR.pure h2 fun rd ty=>ok_nilF hx
theorem pick_ok {call:lV} (ha:Agr e tr) {c a b:Operand} (h:KN c a b T call tr σ=some r):SR P (.pick c a b) e σ r:=by
 simp only [KN,Option.bind_eq_some_iff] at h
 obtain ⟨t,⟨w,h1,h2⟩,h3⟩:=h
 have h1:=qN ha h1
 rw [ql h2] at h1
 cases t with
 |true =>
  simp only [OG,Option.bind_eq_some_iff] at h3
  obtain ⟨z,h4,h5⟩:=h3
  exact SR.pure h5 fun rd ty=>Io h1 rfl (qN ha h4)
 |false =>
  simp only [OG,Option.bind_eq_some_iff] at h3
  obtain ⟨z,h4,h5⟩:=h3
  exact SR.pure h5 fun rd ty=>Ip h1 rfl (qN ha h4)
theorem Af {call:lV} (hT:jZ P T) (hc:nP P call) (ha:Agr e tr) {op:Op} (h:Gx op T call tr σ=some r):SR P op e σ r:=by
 unfold Gx at h
 split at h
 ·obtain ⟨u,h1,h2⟩:=tN ha h;exact SR.pure h2 fun rd ty=>au h1
 ·obtain ⟨u,h1,h2⟩:=tN ha h;exact SR.pure h2 fun rd ty=>aA h1
 ·obtain ⟨u,h1,h2⟩:=tN ha h;exact load_ok hT h1 h2
 ·obtain ⟨u,v,h1,h2,h3⟩:=DI ha h;exact store_ok hT h1 h2 h3
 ·obtain ⟨u,v,h1,h2,h3⟩:=DI ha h;exact bin_ok hT h1 h2 h3
 ·obtain ⟨u,h1,h2⟩:=tN ha h;exact fa_ok hT h1 h2
 ·obtain ⟨u,v,h1,h2,h3⟩:=DI ha h;exact idxA_ok hT h1 h2 h3
 ·obtain ⟨u,h1,h2⟩:=tN ha h;exact field_ok hT h1 h2
 ·obtain ⟨u,v,h1,h2,h3⟩:=DI ha h;exact idx_ok hT h1 h2 h3
 ·exact pick_ok ha h
 ·rename_i o t x
  unfold TF at h
  split at h
  ·obtain ⟨u,h1,h2⟩:=tN ha h
   simp only [Tt,Option.bind_eq_some_iff] at h2
   obtain ⟨b,h3,h4⟩:=h2
   rw [ql h3] at h1
   exact SR.pure h4 fun rd ty=>gX h1
  ·obtain ⟨u,h1,h2⟩:=tN ha h
   simp only [Tv,Option.bind_eq_some_iff] at h2
   obtain ⟨b,h3,h4⟩:=h2
   rw [jT h3] at h1
   exact SR.pure h4 fun rd ty=>ok_neg h1
  ·cases h
 ·obtain ⟨u,h1,h2⟩:=tN ha h
  simp only [IY,Option.bind_eq_some_iff] at h2
  obtain ⟨l,h3,w,h4,h5⟩:=h2
  rw [Dz h3] at h1
  exact SR.pure h5 fun rd ty=>jh h1 (by simpa using h4)
 ·obtain ⟨u,h1,h2⟩:=tN ha h;exact nil_ok h1 h2
 ·obtain ⟨u,h1,h2⟩:=tN ha h
  exact SR.new h2 fun rd ty=>gI h1
 ·simp only [LV,OI,Option.bind_eq_some_iff,bJ] at h
  obtain ⟨y,h1,h2,h3⟩:=h
  haveI:Ty P _ y.1 y.2.1 y.2.2.1 y.2.2.2:=⟨hT.ty _ _ h1⟩
  exact SR.new h3 fun rd ty=>bQ h2
 ·obtain ⟨u,h1,h2⟩:=tN ha h;exact conv_ok hT h1 h2
 ·rename_i f l1 l2
  cases f with
  |func g =>
   simp only [Rh,Option.bind_eq_some_iff] at h
   obtain ⟨v1,h1,v2,h2,h3⟩:=h
   obtain ⟨l1⟩:=l1
   obtain ⟨l2⟩:=l2
   exact SR.pure h3 fun rd ty=>jy (DC ha h1) (DC ha h2)
  |_=>cases h
 ·simp only [LW,Option.bind_eq_some_iff] at h
  obtain ⟨vs,h1,h2⟩:=h
  exact build_ok hT (KQ ha h1) h2
 ·simp only [I7,Option.bind_eq_some_iff] at h
  obtain ⟨vs,h1,h2⟩:=h
  exact buildS_ok hT (KQ ha h1) h2
 ·obtain ⟨u,v,h1,h2,h3⟩:=DI ha h;exact makeS_ok hT h1 h2 h3
 ·obtain ⟨u,h1,h2⟩:=tN ha h
  simp only [Option.bind_eq_some_iff] at h2
  obtain ⟨a,h3,b,h4,c,h5,h6⟩:=h2
  have op1:∀ {o:Option Operand} {a:Option Int},opt tr o=some a→(∀ x,o=some x→∃ q m,bf e x=some (.int q m)∧a=some m)∧(o=none→a=none):=by
   intro o a ho
   cases o with
   |none=>cases ho;exact ⟨fun _ h=>by (cases h),fun _=>rfl⟩
   |some x =>
    simp only [opt,Option.bind_eq_some_iff] at ho
    obtain ⟨w,⟨z,g1,g2⟩,g3⟩:=ho
    have g1:=qN ha g1
    rw [jT g2] at g1
    exact ⟨fun x' hx'=>by cases hx';exact ⟨_,_,g1,by cases g3;rfl⟩,fun h=>by (cases h)⟩
  exact slice_ok hT h1 (op1 h3).1 (op1 h3).2 (op1 h4).1 (op1 h4).2 (op1 h5).1 (op1 h5).2 h6
 ·exact callS_ok hT hc ha h
 ·cases h
end
end Go.AH
namespace Go.AH
open Go
theorem Trie.get_put {α:Type}:∀ {tr:Trie α} {d t:Nat} {v u:α},(tr.put d v).get t=some u→(t=d∧u=v)∨(t ≠ d∧tr.get t=some u)
 |.z,_,_,_,_,h=>by cases h
 |.nd w l r,d,t,v,u,h=>by
  have key:∀ {a b:Nat},Nat.beq a b=true→a=b:=fun h=>Nat.eq_of_beq_eq_true h
  simp only [Trie.put] at h
  by_cases hd:d=0
  ·subst hd
   have h:(Trie.nd (some v) l r).get t=some u:=h
   by_cases ht:t=0
   ·subst ht;exact .inl ⟨rfl,by have h:some v=some u:=h;exact (Option.some.inj h).symm⟩
   ·refine .inr ⟨ht,?_⟩
    simp only [Trie.get,jR ht,cond_false] at h ⊢;exact h
  ·rw [jR hd] at h
   simp only [cond_false] at h
   have e1:∀ {x y:Nat},¬ y=0→¬ x=0→Nat.mod x 2=Nat.mod y 2→Nat.div x 2=Nat.div y 2→x=y:=by
    intro x y _ _ h1 h2
    have a1:=Nat.div_add_mod x 2
    have a2:=Nat.div_add_mod y 2
    have b1:x % 2=y % 2:=h1
    have b2:x / 2=y / 2:=h2
    omega
   have e2:∀ {x y:Nat},¬ y=0→¬ x=0→¬ Nat.mod x 2=1→¬ Nat.mod y 2=1→Nat.pred (Nat.div x 2)=Nat.pred (Nat.div y 2)→x=y:=by
    intro x y hy hx h1 h2 h3
    have b1:¬ x % 2=1:=h1
    have b2:¬ y % 2=1:=h2
    have b3:x / 2 - 1=y / 2 - 1:=h3
    omega
   by_cases hm:Nat.mod d 2=1
   ·rw [hm] at h
    have h:(Trie.nd w (l.put (Nat.div d 2) v) r).get t=some u:=h
    by_cases ht:t=0
    ·subst ht;exact .inr ⟨fun h0=>hd h0.symm,h⟩
    ·simp only [Trie.get,jR ht,cond_false] at h ⊢
     by_cases htm:Nat.mod t 2=1
     ·rw [htm] at h ⊢
      have h:(l.put (Nat.div d 2) v).get (Nat.div t 2)=some u:=h
      rcases Trie.get_put h with ⟨g1,g2⟩|⟨g1,g2⟩
      ·exact .inl ⟨e1 hd ht (by rw [htm,hm]) g1,g2⟩
      ·exact .inr ⟨fun h0=>g1 (by rw [h0]),g2⟩
     ·rw [jR htm] at h ⊢
      exact .inr ⟨fun h0=>htm (by rw [h0];exact hm),h⟩
   ·rw [jR hm] at h
    have h:(Trie.nd w l (r.put (Nat.pred (Nat.div d 2)) v)).get t=some u:=h
    by_cases ht:t=0
    ·subst ht;exact .inr ⟨fun h0=>hd h0.symm,h⟩
    ·simp only [Trie.get,jR ht,cond_false] at h ⊢
     by_cases htm:Nat.mod t 2=1
     ·rw [htm] at h ⊢
      exact .inr ⟨fun h0=>hm (by rw [← h0];exact htm),h⟩
     ·rw [jR htm] at h ⊢
      simp only [cond_false] at h ⊢
      rcases Trie.get_put h with ⟨g1,g2⟩|⟨g1,g2⟩
      ·exact .inl ⟨e2 hd ht htm hm g1,g2⟩
      ·exact .inr ⟨fun h0=>g1 (by rw [h0]),g2⟩
theorem DL {α:Type}:∀ (k t:Nat),(Trie.full k:Trie α).get t=none
 |0,_=>rfl
 |k+1,t=>by
  simp only [Trie.full,Trie.get]
  by_cases ht:t=0
  ·subst ht;rfl
  ·rw [jR ht]
   simp only [cond_false]
   cases Nat.beq (Nat.mod t 2) 1
   ·exact DL k _
   ·exact DL k _
theorem Agr.put {e:Env} {tr:PT} (h:Agr e tr) (d:Nat) (v:Value):Agr ((d,v)::e) (tr.put d v):=by
 intro t u hu
 rcases Trie.get_put hu with ⟨rfl,rfl⟩|⟨h1,h2⟩
 ·simp [Env.get,Nat.beq_refl]
 ·simp only [Env.get]
  rw [jR (fun h0=>h1 h0.symm)]
  exact h t u h2
theorem Agr.full (e:Env) (k:Nat):Agr e (Trie.full k):=fun t v h=>by rw [DL] at h;cases h
theorem BU {N:Nat} {v:Value} {e:Env} {tr tr':PT} {o:Oper} (ha:Agr e tr) (h:Ob N v tr o.dst=some tr'):qH N o=true∧Agr (yT o.dst v e) tr':=by
 unfold Ob at h
 unfold qH yT
 split at h
 ·rename_i d hd
  rw [hd]
  obtain ⟨h1,h2⟩:=bJ.1 h
  cases h2
  exact ⟨h1,ha.put d v⟩
 ·rename_i hd
  rw [hd]
  cases h
  exact ⟨rfl,ha⟩
theorem MF {all:List Oper} {e:Env} {tr:PT} {o:Oper} {b:Bool} (ha:Agr e tr) (h:LZ all tr o.guard=some b):jP all e o=some b:=by
 unfold LZ at h
 unfold jP
 split at h
 ·rename_i hg;rw [hg];exact h
 ·rename_i g hg
  rw [hg]
  simp only [OQ,Option.bind_eq_some_iff] at h
  obtain ⟨x,⟨p,h1,t,h2,v,h3,h4⟩,h5⟩:=h
  have hv:ku all e g.1=some v:=by simp [ku,h1,h2,ha t v h3]
  simp only [hv]
  unfold LY at h4
  split at h4
  ·cases h4;exact h5
  ·cases h4;exact h5
  ·cases h4
theorem E8:∀ {ps:List Nat} {vs:List Value} {e:Env} {tr:PT},Agr e tr→Agr (qE ps vs e) (zh ps vs tr)
 |[],_,_,_,h=>by simpa [qE,zh] using h
 |_::_,[],_,_,h=>by simpa [qE,zh] using h
 |p::ps,v::vs,e,tr,h=>E8 (ps:=ps) (vs:=vs) (h.put p v)
theorem MH:∀ {vs:List Value} {k:Nat} {e:Env} {tr:PT},Agr e tr→(∀ t v,Env.get e t=some v→t<k)→∃ e',Agr e' (O8 k vs tr)∧∀ t v,Env.get e' t=some v→Env.get (qR k vs) t=some v∨(t<k∧Env.get e t=some v)
 |[],k,e,tr,h,hk=>⟨e,h,fun t v hv=>.inr ⟨hk t v hv,hv⟩⟩
 |v::vs,k,e,tr,h,hk=>by
  obtain ⟨e',h1,h2⟩:=MH (vs:=vs) (k:=k+1) (h.put k v) (fun t u hu=>by
   simp only [Env.get] at hu
   by_cases ht:k=t
   ·omega
   ·rw [jR ht] at hu;have:=hk t u hu;omega)
  refine ⟨e',h1,fun t u hu=>?_⟩
  rcases h2 t u hu with h3|⟨h3,h4⟩
  ·left
   simp only [qR,Env.get]
   have:¬ k=t:=fun h0=>by
    have:=(vW vs (k+1) t u h3).1;omega
   rw [jR this];exact h3
  ·simp only [Env.get] at h4
   by_cases ht:k=t
   ·subst ht
    left
    simp only [qR,Env.get]
    rw [Nat.beq_refl] at h4 ⊢
    exact h4
   ·rw [jR ht] at h4
    right;exact ⟨by omega,h4⟩
theorem zq {α:Type}:∀ {tr:Trie α} {a b:Nat} {p:Nat×α},p ∈ tr.ents a b→∃ t,p.1=a*t+b∧tr.get t=some p.2
 |.z,_,_,_,h=>by simp [Trie.ents] at h
 |.nd v l r,a,b,p,h=>by
  simp only [Trie.ents,List.mem_append] at h
  rcases h with h|h|h
  ·cases v with
   |none=>simp at h
   |some x=>simp at h;subst h;exact ⟨0,by simp,rfl⟩
  ·obtain ⟨t,h1,h2⟩:=zq h
   refine ⟨2*t+1,by rw [h1,Nat.mul_add,Nat.mul_one,← Nat.mul_assoc,Nat.mul_comm a 2];omega,?_⟩
   simp only [Trie.get]
   rw [jR (show ¬ 2*t+1=0 by omega),show Nat.mod (2*t+1) 2=1 from (by show (2*t+1) % 2=1;omega),show Nat.div (2*t+1) 2=t from (by show (2*t+1) / 2=t;omega)]
   exact h2
  ·obtain ⟨t,h1,h2⟩:=zq h
   refine ⟨2*t+2,by rw [h1,Nat.mul_add,← Nat.mul_assoc,Nat.mul_comm a 2];omega,?_⟩
   simp only [Trie.get]
   rw [jR (show ¬ 2*t+2=0 by omega),show Nat.mod (2*t+2) 2=0 from (by show (2*t+2) % 2=0;omega),show Nat.pred (Nat.div (2*t+2) 2)=t from (by rw [Nat.pred_eq_sub_one];show (2*t+2) / 2 - 1=t;omega)]
   exact h2
theorem DN {α:Type}:∀ {tr:Trie α} {a b t:Nat} {x:α},tr.get t=some x→(a*t+b,x) ∈ tr.ents a b
 |.z,_,_,_,_,h=>by cases h
 |.nd v l r,a,b,t,x,h=>by
  simp only [Trie.ents,List.mem_append]
  simp only [Trie.get] at h
  by_cases ht:t=0
  ·subst ht
   have h:v=some x:=h
   subst h;left;simp
  ·rw [jR ht] at h
   simp only [cond_false] at h
   right
   by_cases hm:Nat.mod t 2=1
   ·rw [hm] at h
    left
    have:=DN (a:=2*a) (b:=a+b) (show l.get (Nat.div t 2)=some x from h)
    have e:2*a*Nat.div t 2+(a+b)=a*t+b:=by
     have h1:t=2*(t / 2)+1:=by have h2:t % 2=1:=hm;omega
     show 2*a*(t / 2)+(a+b)=a*t+b
     conv=>rhs;rw [h1]
     rw [Nat.mul_add,Nat.mul_one,← Nat.mul_assoc,Nat.mul_comm a 2];omega
    rwa [e] at this
   ·rw [jR hm] at h
    right
    have:=DN (a:=2*a) (b:=2*a+b) (show r.get (Nat.pred (Nat.div t 2))=some x from h)
    have e:2*a*Nat.pred (Nat.div t 2)+(2*a+b)=a*t+b:=by
     have h1:t=2*(t / 2 - 1)+2:=by have h2:¬ t % 2=1:=hm;omega
     rw [Nat.pred_eq_sub_one]
     show 2*a*(t / 2 - 1)+(2*a+b)=a*t+b
     conv=>rhs;rw [h1]
     rw [Nat.mul_add,← Nat.mul_assoc,Nat.mul_comm a 2];omega
    rwa [e] at this
theorem Bc:∀ {e:Env} {t:Nat} {v:Value},(t,v) ∈ e→(∀ u,(t,u) ∈ e→u=v)→Env.get e t=some v
 |[],_,_,h,_=>by simp at h
 |(k,w)::e,t,v,h,hu=>by
  simp only [Env.get]
  by_cases hk:k=t
  ·subst hk
   rw [Nat.beq_refl]
   have:=hu w (by simp)
   subst this;rfl
  ·rw [jR hk]
   rcases List.mem_cons.1 h with h|h
   ·exact absurd (congrArg Prod.fst h).symm hk
   ·exact Bc h fun u hu'=>hu u (List.mem_cons_of_mem _ hu')
theorem Ag {tr:PT}:Agr (EZ tr) tr:=by
 intro t v h
 refine Bc ?_ fun u hu=>?_
 ·have:=DN (a:=1) (b:=0) h;simpa [EZ] using this
 ·obtain ⟨t',h1,h2⟩:=zq hu
  simp only [Nat.one_mul,Nat.add_zero] at h1
  subst h1
  rw [h] at h2
  exact (Option.some.inj h2).symm
theorem Fa {e:Env}:∀ {e2:Env},(∀ p ∈ e2,Env.get e p.1=some p.2)→yt e e2
 |[],_=>trivial
 |(t,v)::r,h=>⟨h (t,v) (by simp),Fa fun p hp=>h p (List.mem_cons_of_mem _ hp)⟩
theorem toEnv_envSub {e:Env} {tr:PT} (h:Agr e tr):yt e (EZ tr):=Fa fun p hp=>by
 obtain ⟨t,h1,h2⟩:=zq hp
 simp only [Nat.one_mul,Nat.add_zero] at h1
 rw [h1];exact h t _ h2
theorem Fb:∀ {e:Env},Agr e (OT e)
 |[]=>Agr.full _ _
 |(t,v)::e=>(Fb (e:=e)).put t v
theorem pv_rel {q:Bool} {m:Nat} {ρ ρ':Rho} {p:Nat→Bool} {v v':Value} (h:VQ q m ρ v v'):pv p v=true→(∀ i,p i=true→ρ' i=ρ i)→VQ q m ρ' v v':=by
 have arr:∀ {a:Array Value},pvA p a=true→∀ (i:Nat) (h:i<a.size),pv p a[i]=true:=by
  rintro ⟨l⟩ h i hi
  have:∀ (l:List Value),pvL p l=true→∀ (i:Nat) (h:i<l.length),pv p l[i]=true:=by
   intro l
   induction l with
   |nil=>intro _ i hi;simp at hi
   |cons x l ih =>
    intro h i hi
    simp only [pvL,Bool.and_eq_true] at h
    cases i with
    |zero=>exact h.1
    |succ i=>exact ih h.2 i (by simpa using hi)
  exact this l h i hi
 induction h with
 |bool b=>intro _ _;exact .bool b
 |int k x=>intro _ _;exact .int k x
 |string s=>intro _ _;exact .string s
 |nilPtr=>intro _ _;exact .nilPtr
 |ptr i o hi=>intro h1 h2;rw [← h2 i h1];exact .ptr _ _ hi
 |nilSlice=>intro _ _;exact .nilSlice
 |zslice a hq=>intro _ _;exact .zslice a hq
 |zsliceZ hq=>intro _ _;exact .zsliceZ hq
 |emptySlice i o a c=>intro _ _;exact .emptySlice _ _ _ _
 |slice i o l c c' hc hi=>intro h1 h2;rw [← h2 i h1];exact .slice _ _ _ _ _ hc hi
 |gslice i o l c c' sz hc hs hi hq=>intro h1 h2;rw [← h2 i h1] at hs ⊢;exact .gslice _ _ _ _ _ _ hc hs hi hq
 |sliceG i o l c c' sz hc hi hq=>intro h1 h2;rw [← h2 i h1];exact .sliceG _ _ _ _ _ _ hc hi hq
 |gsliceG i o l c c' sz hc hi hq=>intro h1 h2;rw [← h2 i h1];exact .gsliceG _ _ _ _ _ _ hc hi hq
 |nilMap=>intro _ _;exact .nilMap
 |map i hi=>intro h1 h2;rw [← h2 i h1];exact .map _ hi
 |nilFunc=>intro _ _;exact .nilFunc
 |func f a a' b b' h1 h2 h3 h4 ih1 ih2 =>
  intro h5 h6
  simp only [pv,Bool.and_eq_true] at h5
  exact .func _ _ _ _ _ h1 h2 (fun i h h'=>ih1 i h h' (arr h5.1 i h) h6) (fun i h h'=>ih2 i h h' (arr h5.2 i h) h6)
 |yield l hi=>intro h1 h2;simp only [pv,Bool.and_eq_true] at h1;rw [← h2 l h1.1.1];exact .yield _ hi
 |nilIface=>intro _ _;exact .nilIface
 |iface t v v' h ih=>intro h1 h2;exact .iface _ _ _ (ih h1 h2)
 |agg a a' h1 h3 ih=>intro h5 h6;exact .agg _ _ h1 fun i h h'=>ih i h h' (arr h5 i h) h6
 |tuple a a' h1 h3 ih=>intro h5 h6;exact .tuple _ _ h1 fun i h h'=>ih i h h' (arr h5 i h) h6
theorem Bd:∀ {n1:List (Nat×Heap)} {i:Nat} {h:Heap} {n2:List (Nat×Heap)} {q:Nat},q<h.length→zi (n1++(i,h)::n2) ((jg n1).length+q)=some i
 |[],i,h,n2,q,hq=>by
  simp only [List.nil_append,jg,List.map_nil,List.flatten_nil,List.length_nil,Nat.zero_add,zi]
  rw [show Nat.blt q h.length=true from Nat.blt_eq.mpr hq];rfl
 |p::n1,i,h,n2,q,hq=>by
  have hl:(jg (p::n1)).length=p.2.length+(jg n1).length:=by simp [jg]
  simp only [List.cons_append,zi]
  rw [show Nat.blt ((jg (p::n1)).length+q) p.2.length=false from by
   cases hb:Nat.blt ((jg (p::n1)).length+q) p.2.length with
   |false=>rfl
   |true=>have:=Nat.blt_eq.mp hb;omega]
  simp only [cond_false]
  rw [show (jg (p::n1)).length+q - p.2.length=(jg n1).length+q by omega]
  exact Bd hq
theorem DR {all:List Oper}:∀ (rest:List Oper) (acc:List Nat),rest=all.drop acc.length→acc.length≤all.length→(∀ (k mk:Nat),acc[k]?=some mk→Good all k mk) →
  ∀ (k mk:Nat),(ru rest acc)[k]?=some mk→Good all k mk
 |[],acc,_,_,h,k,mk,hk=>h k mk hk
 |o::rest,acc,hr,hl,h,k,mk,hk=>by
  simp only [ru,uF] at hk
  have hx:all[acc.length]?=some o:=by
   have:=congrArg (fun l:List Oper=>l[0]?) hr
   simpa using this.symm
  have hlt:=(List.getElem?_eq_some_iff.1 hx).1
  refine DR rest (acc++[oz acc o.after.toList]) ?_ (by simp;omega) ?_ k mk hk
  ·have:=congrArg List.tail hr
   simpa using this
  ·intro j m hj
   by_cases hjl:j<acc.length
   ·rw [List.getElem?_append_left hjl] at hj;exact h j m hj
   ·rw [List.getElem?_append_right (by omega)] at hj
    have:j=acc.length:=by
     have:=(List.getElem?_eq_some_iff.1 hj).1
     simp at this;omega
    subst this
    simp at hj
    subst hj
    exact xu hx h hl
theorem MI {all:List Oper} {k n len m:Nat} {news:List (Nat×Heap)} {v:Value} {o:Oper} (ho:all[k]?=some o) (hm:Good all k m) (hlen:len=n+(jg news).length) (h:pv (OW n len m news) v=true):N7 all k n news v:=by
 rintro n1 i x n2 rfl ⟨D,hD,hDk,hDi⟩ w ρ ρ' v' hv hρ
 refine pv_rel hv h fun b hb=>hρ b ?_
 simp only [OW,Bool.or_eq_true] at hb
 have hl:(jg (n1++(i,x)::n2)).length=(jg n1).length+(x.length+(jg n2).length):=by simp [jg]
 rcases hb with (hb|hb)|hb
 ·have:=Nat.blt_eq.mp hb;omega
 ·have:=Nat.le_of_ble_eq_true hb;omega
 ·by_cases hr:b<n+(jg n1).length∨n+(jg n1).length+x.length≤b
  ·exact hr
  ·exfalso
   have hown:=Bd (n1:=n1) (i:=i) (h:=x) (n2:=n2) (q:=b - n - (jg n1).length) (by omega)
   rw [show (jg n1).length+(b - n - (jg n1).length)=b - n by omega] at hown
   rw [hown] at hb
   exact hDi (hm D hD o ho (fun j hj=>hD k o ho hDk j hj) i hb)
theorem Fe {n:Nat}:∀ {ns:Heap},GH n ns=true→pY n ns
 |[],_=>fun x hx=>by simp at hx
 |o::r,h=>by
  unfold GH at h
  split at h
  ·cases ‹_::_=[]›
  ·rename_i cs r' heq
   cases heq
   simp only [Bool.and_eq_true] at h
   intro x hx
   rcases List.mem_cons.1 hx with rfl|hx
   ·exact ⟨cs,rfl,h.1.1,h.1.2⟩
   ·exact Fe h.2 x hx
  ·cases h
end Go.AH
namespace Go.AH
open Go
theorem asSlG_eq {v:Value} {p:Nat×Nat×Nat×Nat} (h:O9 v=some p):∃ s,v=.slice (some ⟨p.1,p.2.1,some s⟩) p.2.2.1 p.2.2.2:=by unfold O9 at h;split at h <;> cases h <;> exact ⟨_,rfl⟩
theorem Fg {v:Value} (h:GL v=true):v=.nilFunc:=by unfold GL at h;split at h <;> simp_all
theorem sameP_eq {n:Nat} {π:Rho} {u v:Value} (h:Pg u v=true):jv n π u v:=by
 unfold Pg at h
 split at h
 ·rename_i x hx
  unfold eqI at h
  split at h
  ·rename_i y hy
   simp only [Bool.and_eq_true,decide_eq_true_eq] at h
   rw [jT hx,jT hy,h.1,h.2];exact .int _ _
  ·cases h
 split at h
 ·rename_i b hb
  unfold eqB at h
  split at h
  ·rename_i c hc
   rw [ql hb,ql hc]
   have:b=c:=by simpa using h
   rw [this];exact .bool _
  ·cases h
 simp only [Bool.or_eq_true,Bool.and_eq_true] at h
 rcases h with (h|h)|h
 ·rw [qm h.1,qm h.2];exact .nilSlice
 ·rw [xE h.1,xE h.2];exact .nilPtr
 ·rw [Fg h.1,Fg h.2];exact .nilFunc
theorem MJ {n:Nat} {π:Rho} {u v:Value} (h:QH n π u v=true):jv n π u v:=by
 unfold QH at h
 split at h
 ·rename_i p hp
  split at h
  ·rename_i q hq
   simp only [TI,Bool.and_eq_true] at h
   obtain ⟨⟨h1,h2⟩,h3⟩:=h
   rw [mW hp,mW hq,← Nat.eq_of_beq_eq_true h2,← Nat.eq_of_beq_eq_true h3]
   exact .ptr _ _ (Nat.blt_eq.mp h1)
  ·cases h
 split at h
 ·rename_i p hp
  split at h
  ·rename_i q hq
   simp only [QG,Bool.and_eq_true] at h
   obtain ⟨⟨⟨⟨h1,h2⟩,h3⟩,h4⟩,h5⟩:=h
   rw [mF hp,mF hq,← Nat.eq_of_beq_eq_true h2,← Nat.eq_of_beq_eq_true h3,← Nat.eq_of_beq_eq_true h4]
   exact .slice _ _ _ _ _ (Nat.le_of_ble_eq_true h5) (Nat.blt_eq.mp h1)
  ·split at h
   ·rename_i q hq
    simp only [QG,Bool.and_eq_true] at h
    obtain ⟨⟨⟨⟨h1,h2⟩,h3⟩,h4⟩,h5⟩:=h
    obtain ⟨s,hs⟩:=asSlG_eq hq
    rw [mF hp,hs,← Nat.eq_of_beq_eq_true h2,← Nat.eq_of_beq_eq_true h3,← Nat.eq_of_beq_eq_true h4]
    exact .sliceG _ _ _ _ _ _ (Nat.le_of_ble_eq_true h5) (Nat.blt_eq.mp h1) rfl
   ·cases h
 ·exact sameP_eq h
theorem zu {n:Nat} {π:Rho}:∀ {a b:List Value},GN n π a b=true→a.length=b.length∧∀ (i:Nat) (h:i<a.length) (h':i<b.length),jv n π a[i] b[i]
 |[],b,h=>by
  simp only [GN,List.isEmpty_iff] at h
  subst h;exact ⟨rfl,fun i hi=>by simp at hi⟩
 |u::us,[],h=>by simp [GN] at h
 |u::us,v::vs,h=>by
  simp only [GN,Bool.and_eq_true] at h
  obtain ⟨h1,h2⟩:=zu h.2
  refine ⟨by simp [h1],fun i hi hi'=>?_⟩
  cases i with
  |zero=>exact MJ h.1
  |succ i=>exact h2 i (by simpa using hi) (by simpa using hi')
theorem MK {n:Nat} {π:Rho} {u v:Value} (h:QI n π u v=true):jv n π u v:=by
 unfold QI at h
 split at h
 ·rename_i l hl
  split at h
  ·rename_i l' hl'
   obtain ⟨h1,h2⟩:=zu h
   rw [Dz hl,Dz hl']
   exact .tuple _ _ (by simpa using h1) fun i hi hi'=>by simpa using h2 i (by simpa using hi) (by simpa using hi')
  ·cases h
 split at h
 ·rename_i l hl
  split at h
  ·rename_i l' hl'
   obtain ⟨h1,h2⟩:=zu h
   rw [qJ hl,qJ hl']
   exact .agg _ _ (by simpa using h1) fun i hi hi'=>by simpa using h2 i (by simpa using hi) (by simpa using hi')
  ·cases h
 unfold Rq at h
 split at h
 ·rename_i f hf
  split at h
  ·rename_i g hg
   simp only [Bool.and_eq_true] at h
   obtain ⟨⟨h0,h1⟩,h2⟩:=h
   obtain ⟨a1,a2⟩:=zu h1
   obtain ⟨b1,b2⟩:=zu h2
   rw [zn hf,zn hg,← Nat.eq_of_beq_eq_true h0]
   exact .func _ _ _ _ _ (by simpa using a1) (by simpa using b1) (fun i hi hi'=>by simpa using a2 i (by simpa using hi) (by simpa using hi')) (fun i hi hi'=>by simpa using b2 i (by simpa using hi) (by simpa using hi'))
  ·cases h
 ·exact MJ h
theorem zx {n:Nat} {π:Rho}:∀ {a b:List Value},Dy n π a b=true→a.length≤b.length∧∀ (i:Nat) (h:i<a.length) (h':i<b.length),jv n π a[i] b[i]
 |[],b,h=>⟨by simp,fun i hi=>by simp at hi⟩
 |u::us,[],h=>by simp [Dy] at h
 |u::us,v::vs,h=>by
  simp only [Dy,Bool.and_eq_true] at h
  obtain ⟨h1,h2⟩:=zx h.2
  refine ⟨by simp [h1],fun i hi hi'=>?_⟩
  cases i with
  |zero=>exact MK h.1
  |succ i=>exact h2 i (by simpa using hi) (by simpa using hi')
theorem subO_ok {σ:Heap} {n b:Nat} {π:Rho} {o:cu} (h:SY n π o σ[b]?=true):qU σ n π ⟨b,0,0⟩ o:=by
 unfold SY at h
 split at h
 ·rename_i cs2 h2
  split at h
  ·rename_i cs hc
   obtain ⟨h3,h4⟩:=zx h
   rw [yx h2]
   refine .inr ⟨rfl,cs,?_,h3,h4⟩
   simp only [Option.bind_eq_some_iff] at hc
   obtain ⟨x,hx,hc⟩:=hc
   unfold Me at hc
   split at hc
   ·cases hc;exact .inl hx
   ·cases hc;exact .inr ⟨_,hx⟩
   ·cases hc
  ·cases h
 split at h
 ·rename_i cs2 h2
  split at h
  ·rename_i cs hc
   obtain ⟨h3,h4⟩:=zx h
   rw [vI h2]
   simp only [Option.bind_eq_some_iff] at hc
   obtain ⟨x,hx,hc⟩:=hc
   rw [vI hc] at hx
   exact .inr ⟨cs,hx,fun k hk=>⟨by simp only [Nat.zero_add];omega,by simpa using h4 k hk (by omega)⟩⟩
  ·cases h
 ·cases h
theorem Jb {σ:Heap} {n:Nat} {π:Rho}:∀ {l:List Nat} {news:Heap} {k:Nat},I9 n π σ l news=true→(∀ (j b:Nat),l[j]?=some b→π (k+j)=⟨b,0,0⟩)→nT σ n π k news
 |[],news,k,h,_=>by
  simp only [I9,List.isEmpty_iff] at h
  subst h;trivial
 |b::bs,[],k,h,_=>trivial
 |b::bs,o::os,k,h,hπ=>by
  simp only [I9,Bool.and_eq_true] at h
  have h0:=hπ 0 b (by simp)
  rw [Nat.add_zero] at h0
  refine ⟨by rw [h0];exact subO_ok h.1,Jb h.2 fun j c hj=>?_⟩
  rw [show k+1+j=k+(j+1) by omega]
  exact hπ (j+1) c (by simpa using hj)
theorem Keep.take {lo:Nat} {σ0 σ:Heap} (h:Keep lo σ0 σ) (hn:σ0.length≤lo):σ.take σ0.length=σ0:=by
 refine List.ext_getElem? fun i=>?_
 rw [List.getElem?_take]
 split
 ·rename_i hi;exact h.2 i (by omega) hi
 ·rename_i hi;exact (List.getElem?_eq_none (by omega)).symm
theorem Jc {p:cu→Bool}:∀ {l:Heap},allB p l=true→∀ (i:Nat) (o:cu),l[i]?=some o→p o=true
 |[],_,i,o,h=>by simp at h
 |x::l,h,i,o,ho=>by
  simp only [allB,Bool.and_eq_true] at h
  cases i with
  |zero=>simp at ho;subst ho;exact h.1
  |succ i=>exact Jc h.2 i o (by simpa using ho)
theorem oclosedB_ok {n:Nat} {o:cu} (h:zk n o=true):fJ n o:=by
 cases o <;> simp_all [zk,fJ]
theorem keep_ok {σ0 σ:Heap} {lo:Nat} {v:Value} (h:Keep lo σ0 σ):dQ σ0 σ v v (σ.take (Mc σ0.length lo v σ))∧σ0.length≤Mc σ0.length lo v σ:=by
 unfold Mc Rk
 generalize hm:Nat.max σ0.length (Nat.max (top v) (SS ((σ.take σ0.length).drop lo)))=m
 have hge:σ0.length≤m:=by rw [← hm];exact Nat.le_max_left _ _
 cases hc:Nat.ble m σ.length && closed m v && okV v && allB (zk m) ((σ.take m).drop (wF lo σ0.length)) with
 |false =>
  simp only [cond_false]
  refine ⟨.inl ⟨rfl,List.take_length⟩,h.1⟩
 |true =>
  simp only [cond_true]
  simp only [Bool.and_eq_true] at hc
  obtain ⟨⟨⟨h1,h2⟩,h3⟩,h4⟩:=hc
  have h1:=Nat.le_of_ble_eq_true h1
  have hlen:(σ.take m).length=m:=by simp;omega
  refine ⟨.inr fun hcl=>⟨fun i=>⟨i,0,0⟩,⟨by rw [hlen];exact hge,fun _ _=>rfl,fun i o2 hi=>?_,fun i j oi oj _ _ _ _ hb=>hb⟩,?_⟩,hge⟩
  ·have hi':=hi
   rw [List.getElem?_take] at hi
   split at hi
   ·rename_i him
    by_cases hlo:i<wF lo σ0.length
    ·rw [tK] at hlo
     have h0:=h.2 i (by omega) (by omega)
     rw [h0] at hi
     have hcc:=hcl i o2 hi
     exact oN (m:=σ0.length) (fun _ _=>rfl) (by rw [hlen];exact hge) (by omega) (by rw [h0];exact hi) hcc
    ·have:=Jc h4 (i - wF lo σ0.length) o2 (by rw [List.getElem?_drop,show wF lo σ0.length+(i - wF lo σ0.length)=i by omega];exact hi')
     exact oN (m:=m) (fun _ _=>rfl) (by rw [hlen];exact Nat.le_refl _) him hi (oclosedB_ok this)
   ·cases hi
  ·exact nG (m:=m) (fun _ _=>rfl) (by rw [hlen];exact Nat.le_refl _) v h2 h3
theorem Fh {σ0 σ:Heap} {lo:Nat} {v:Value} {r:Value×Heap×Nat} (h:Keep lo σ0 σ) (hr:GR σ0.length lo v σ=some r):dQ σ0 σ v r.1 r.2.1∧Keep r.2.2 σ0 r.2.1:=by
 simp only [GR,jA] at hr
 cases hr
 obtain ⟨h1,h2⟩:=keep_ok (v:=v) h
 refine ⟨h1,by have:=h.1;simp;omega,fun i hi hl=>?_⟩
 rw [List.getElem?_take,if_pos (by omega)]
 exact h.2 i hi hl
theorem retNew_ok {σ0 σ:Heap} {lo:Nat} {v:Value} {r:Value×Heap×Nat} (h:Keep lo σ0 σ) (hlo:σ0.length≤lo) (hr:KP σ0.length lo v σ=some r):dQ σ0 σ v r.1 r.2.1∧Keep r.2.2 σ0 r.2.1:=by
 simp only [KP,Ru,Rt,jA,bJ,Bool.and_eq_true] at hr
 obtain ⟨⟨⟨⟨h1,h2⟩,h3⟩,h4⟩,h5⟩:=hr
 cases h5
 have ht:=h.take hlo
 simp only [ht]
 refine ⟨dQ.src _ _ ht (Nat.eq_of_beq_eq_true h2) h1 (Jb h3 fun j b hj=>?_) (MK h4),Keep.app⟩
 unfold je
 rw [if_neg (by omega),Nat.add_sub_cancel_left,hj]
theorem retK_ok {σ0 σ:Heap} {lo:Nat} {v:Value} {r:Value×Heap×Nat} (h:Keep lo σ0 σ) (hr:S9 σ0.length lo v σ=some r):dQ σ0 σ v r.1 r.2.1∧Keep r.2.2 σ0 r.2.1:=by
 unfold S9 at hr
 cases hb:Nat.ble σ0.length lo with
 |false=>rw [hb] at hr;exact Fh h hr
 |true =>
  rw [hb] at hr
  simp only [cond_true] at hr
  split at hr
  ·rename_i r' hr'
   cases hr
   exact retNew_ok h (Nat.le_of_ble_eq_true hb) hr'
  ·exact Fh h hr
theorem BX {P:Program} {T:Tab} (hT:jZ P T) {e:Env} {tr:PT} {σ:Heap} (ha:Agr e tr):∀ {rv:List ResultVar} {vs:List Value},resT T tr σ rv=some vs→pz P e σ rv vs
 |[],vs,h=>by cases h;exact .nil
 |.tmp t::rv,vs,h=>by
  simp only [resT,Option.bind_eq_some_iff] at h
  obtain ⟨v,h1,us,h2,h3⟩:=h
  cases h3
  exact .tmp (ha t v h1) (BX hT ha h2)
 |.cell a ty::rv,vs,h=>by
  simp only [resT,Option.bind_eq_some_iff] at h
  obtain ⟨v,⟨p,h1,h1'⟩,us,h2,h3⟩:=h
  cases h3
  obtain ⟨i,o,size,bytes,z,agg,rfl,hty,h4,h5⟩:=MC hT h1'
  rcases h5 with ⟨rfl,h5⟩|⟨rfl,cs,h5,h6⟩
  ·exact .cell1 hty (ha a _ h1) h5 (BX hT ha h2)
  ·rw [h6];exact .cellN hty (ha a _ h1) h5 (BX hT ha h2)
theorem Fj:∀ (mk:List Nat) (n:Nat) (σ:Heap),Keep (minL n mk) σ (ji mk σ)
 |[],n,σ=>Keep.refl
 |i::l,n,σ=>by
  simp only [ji,minL,tK]
  exact Keep.set.trans (Fj l n _)
theorem mkOk_ok {mk:List Nat} {σ:Heap} (h:SV mk σ=true):mk.Nodup∧∀ i ∈ mk,σ[i]?=some .dfr:=by
 simp only [SV,Bool.and_eq_true,decide_eq_true_eq,List.all_eq_true] at h
 refine ⟨h.1,fun i hi=>?_⟩
 have:=h.2 i hi
 unfold Rl at this
 split at this
 ·assumption
 ·cases this
end Go.AH
namespace Go.AH
open Go
def vJ (P:Program) (code:uO):Prop:=∀ (c:Code) (N:Nat) (rd:Option Nat) (tr:PT) (mk:List Nat) (σ:Heap) (r:Exit×PT×List Nat×Heap×Nat),code c N rd tr mk σ=some r →
 (∀ (n0:Nat) (e:Env) (Q:Post),qM rd n0=true→Agr e tr→(∀ e',Agr e' r.2.1→Q r.1 e' r.2.2.1 r.2.2.2.1)→dI P n0 N rd c Q e mk σ)∧Keep r.2.2.2.2 σ r.2.2.2.1
section
variable {P:Program} {T:Tab} {call:lV} {code:uO} {N:Nat} {rd:Option Nat} {tr:PT} {mk:List Nat} {σ:Heap} {all:List Oper}
theorem isNormal_eq {ex:Exit} (h:Dw ex=true):ex=.normal:=by unfold Dw at h;split at h <;> simp_all
def OpsOk (P:Program) (N:Nat) (rd:Option Nat) (all rest:List Oper) (tr:PT) (σ:Heap) (r:PT×Heap×Nat):Prop :=
 (∀ (n0:Nat) (e:Env) (mk:List Nat) (K:Env→List Nat→Heap→Prop),qM rd n0=true→Agr e tr→(∀ e',Agr e' r.1→K e' mk r.2.1)→dO P n0 N rd all rest K e mk σ)∧Keep r.2.2 σ r.2.1
def Pm (P:Program) (N:Nat) (rd:Option Nat) (all:List Oper) (o:Oper) (tr:PT) (σ:Heap) (r:PT×Heap×Nat):Prop :=
 (∀ (n0:Nat) (e:Env) (mk:List Nat) (rest:List Oper) (K:Env→List Nat→Heap→Prop),qM rd n0=true→Agr e tr→(∀ e',Agr e' r.1→dO P n0 N rd all rest K e' mk r.2.1)→dO P n0 N rd all (o::rest) K e mk σ)∧Keep r.2.2 σ r.2.1
theorem runStep_ok (hT:jZ P T) (hc:nP P call) {o:Oper} {r:PT×Heap×Nat} (h:Gy T call N o tr σ=some r) (hw:∀ e,Agr e tr→jP all e o=some true):Pm P N rd all o tr σ r:=by
 simp only [Gy,Option.bind_eq_some_iff] at h
 obtain ⟨q,h1,t1,h2,h3⟩:=h
 cases h3
 refine ⟨fun n0 e mk rest K hrd ha hK=>?_,(Af hT hc (e:=EZ tr) Ag h1).2⟩
 obtain ⟨h4,h5⟩:=BU ha h2
 exact st_run hrd (hw e ha) h4 ((Af hT hc ha h1).1 _ _) (hK _ h5)
theorem ML {d l lo:Nat} {σ2:Heap} {ob:cu} {ex:Exit} {r:PT×Heap×Nat} (h:SL N d l tr σ2 lo ob ex=some r) (hσ:σ2[l]?=some ob):Nat.blt d N=true∧r.2.2=lo∧(∃ o,r.2.1=σ2.set l o) ∧
  ∀ (n0:Nat) (e:Env) (mk:List Nat) (rest:List Oper) (K:Env→List Nat→Heap→Prop),Agr e tr→(∀ e',Agr e' r.1→dO P n0 N none all rest K e' mk r.2.1)→∀ e2 mk2,iE P n0 N all rest K d l e mk ex e2 mk2 σ2:=by
 unfold SL at h
 split at h
 ·simp only [bJ,Bool.and_eq_true] at h
  obtain ⟨⟨h1,h2⟩,h3⟩:=h
  cases h3
  exact ⟨h2,rfl,⟨_,rfl⟩,fun n0 e mk rest K ha hK e2 mk2=>⟨ob,hσ,h1,hK _ (ha.put d _)⟩⟩
 ·simp only [bJ,Bool.and_eq_true] at h
  obtain ⟨⟨h1,h2⟩,h3⟩:=h
  cases h3
  exact ⟨h2,rfl,⟨_,rfl⟩,fun n0 e mk rest K ha hK e2 mk2=>⟨ob,hσ,h1,hK _ (ha.put d _)⟩⟩
 ·simp only [bJ,Bool.and_eq_true] at h
  obtain ⟨⟨h1,h2⟩,h3⟩:=h
  cases h3
  exact ⟨h2,rfl,⟨_,rfl⟩,fun n0 e mk rest K ha hK e2 mk2=>⟨ob,hσ,h1,hK _ (ha.put d _)⟩⟩
 ·cases h
theorem yield_ok (hcode:vJ P code) {o:Oper} {y:Nat×List Value} {r:PT×Heap×Nat} (hy:yieldOf tr o rd=some y) (h:Dx code N o.dst tr σ y=some r) (hw:∀ e,Agr e tr→jP all e o=some true):Pm P N rd all o tr σ r:=by
 unfold yieldOf at hy
 split at hy
 ·obtain ⟨hd,hy⟩:=bJ.1 hy
  obtain ⟨dst,op,ty,pos,after,g⟩:=o
  simp only [Dx,Option.bind_eq_some_iff] at h
  obtain ⟨d,rfl,ob,h1,h2⟩:=h
  simp only at hy h1 h2 hw
  cases op with
  |call c =>
   obtain ⟨cal,⟨args⟩,ts⟩:=c
   cases cal with
   |value x =>
    simp only [L6,OU,Option.bind_eq_some_iff] at hy
    obtain ⟨l,⟨w,g1,g2⟩,vs,g3,g4⟩:=hy
    cases g4
    have hyv:w=.func (.yield l) #[] #[]:=by unfold LM at g2;split at g2 <;> cases g2;rfl
    subst hyv
    simp only at h1 h2
    unfold OV at h2
    split at h2
    ·rename_i p0 N' e' ps assign body
     obtain ⟨ps⟩:=ps
     simp only [bJ,Bool.and_eq_true,Option.bind_eq_some_iff] at h2
     obtain ⟨⟨k1,k2⟩,r1,k3,k4,ob1,k5,k6⟩:=h2
     obtain ⟨ex1,t1,mk1,σ1,lo1⟩:=r1
     have k4:=isNormal_eq k4
     simp only at k4 k5 k6
     subst k4
     unfold Ri at k6
     split at k6
     ·rename_i pend N2 e2 ps2 as2 bd2
      simp only [Option.bind_eq_some_iff] at k6
      obtain ⟨r2,k7,ob2,k8,k9⟩:=k6
      obtain ⟨ex2,t2,mk2,σ2,lo2⟩:=r2
      simp only at k8 k9
      have hlt:Nat.blt l σ.length=true:=Nat.blt_eq.mpr (iP h1)
      obtain ⟨c1,c2⟩:=hcode _ _ _ _ _ _ _ k3
      obtain ⟨c3,c4⟩:=hcode _ _ _ _ _ _ _ k7
      have he:=ML (P:=P) (all:=all) k9 k8
      obtain ⟨b1,b2,⟨o9,b3⟩,_⟩:=he
      constructor
      ·intro n0 e mk rest K hrd ha hK
       refine iT (qN ha g1) (DC ha g3) h1 k1 k2 b1 (fun _ n ρ A hE=>ig (hw e ha) hE) ?_
       refine c1 σ.length _ _ hlt (E8 Fb) fun e3 a3=>?_
       refine ⟨N2,e2,ps2,as2,bd2,pend,k5,?_⟩
       refine c3 σ.length _ _ hlt a3 fun e4 a4=>?_
       exact (ML (P:=P) (all:=all) k9 k8).2.2.2 n0 e mk rest K ha hK e4 mk2
      ·rw [b2,b3]
       simp only [tK]
       have q1:Keep (min lo1 l) σ (σ1.set l (.loop .busy pend N2 e2 ps2 as2 bd2)):=c2.trans Keep.set
       have q2:Keep (min (min lo1 l) lo2) σ σ2:=q1.trans c4
       exact (q2.trans (Keep.set (i:=l))).mono (by simp only [Nat.le_min];omega)
     ·cases k6
    ·cases h2
   |_=>cases hy
  |_=>cases hy
 ·cases hy
theorem runOne_ok (hT:jZ P T) (hc:nP P call) (hcode:vJ P code) {o:Oper} {b:Bool} {r:PT×Heap×Nat} (hw:∀ e,Agr e tr→jP all e o=some b) (h:Gz T call code N rd o tr σ b=some r):Pm P N rd all o tr σ r:=by
 cases b with
 |false =>
  simp only [Gz,Option.bind_eq_some_iff] at h
  obtain ⟨t1,h1,h2⟩:=h
  cases h2
  refine ⟨fun n0 e mk rest K hrd ha hK=>?_,Keep.refl⟩
  obtain ⟨h4,h5⟩:=BU ha h1
  exact LK (hw e ha) h4 (hK _ h5)
 |true =>
  simp only [Gz] at h
  split at h
  ·rename_i y hy;exact yield_ok hcode hy h hw
  ·exact runStep_ok hT hc h hw
theorem Ah (hT:jZ P T) (hc:nP P call) (hcode:vJ P code):∀ {rest:List Oper} {tr:PT} {σ:Heap} {r:PT×Heap×Nat},Ae T call code N rd all rest tr σ=some r→OpsOk P N rd all rest tr σ r
 |[],tr,σ,r,h=>by cases h;exact ⟨fun n0 e mk K _ ha hK=>ah (hK e ha),Keep.refl⟩
 |o::rest,tr,σ,r,h=>by
  simp only [Ae,Rj,Option.bind_eq_some_iff] at h
  obtain ⟨b,h1,r1,h2,r2,h3,h4⟩:=h
  cases h4
  obtain ⟨g1,g2⟩:=runOne_ok (all:=all) hT hc hcode (fun e ha=>MF ha h1) h2
  obtain ⟨g3,g4⟩:=Ah hT hc hcode h3
  refine ⟨fun n0 e mk K hrd ha hK=>g1 n0 e mk rest K hrd ha fun e1 ha1=>g3 n0 e1 mk K hrd ha1 hK,?_⟩
  simp only [tK];exact g2.trans g4
theorem seen_eq {β:Type} {L:Nat→Bool} {σ0:Heap} {k:Heap→β}:∀ {news:List (Nat×Heap)},seen L σ0 k news=k (σ0++kV L news)
 |[]=>by simp [seen,kV]
 |p::news=>by simp [seen,jA]
theorem yA (hT:jZ P T) (hc:nP P call) {σ0:Heap} {K:Env→List (Nat×Heap)→List Oper→Prop}:∀ {rest:List Oper} {k:Nat} {tr:PT} {e:Env} {news:List (Nat×Heap)} {r:PT×List (Nat×Heap)×List Oper},
  rest=all.drop k→BP T call N all (ru all []) σ0 k rest tr news=some r→Agr e tr→(∀ e',Agr e' r.1→K e' r.2.1 r.2.2)→dM P N rd all k rest e σ0 news K
 |[],k,tr,e,news,r,_,h,ha,hK=>by cases h;exact hK e ha
 |o::rest,k,tr,e,news,r,hr,h,ha,hK=>by
  have hx:all[k]?=some o:=by
   have:=congrArg (fun l:List Oper=>l[0]?) hr
   simpa using this.symm
  have hr':rest=all.drop (k+1):=by
   have:=congrArg List.tail hr
   simpa using this
  simp only [BP] at h
  split at h
  ·rename_i r1 hr1
   simp only [Option.bind_eq_some_iff] at hr1
   obtain ⟨b,h1,h2⟩:=hr1
   have hw:=MF ha h1
   cases b with
   |false =>
    simp only [GI,Option.bind_eq_some_iff] at h2
    obtain ⟨t1,h3,h4⟩:=h2
    cases h4
    obtain ⟨h5,h6⟩:=BU ha h3
    exact .inr ⟨h5,.inr ⟨hw,yA hT hc hr' h h6 hK⟩⟩
   |true =>
    simp only [GI,seen_eq,I8,Option.bind_eq_some_iff,bJ,jA,Bool.and_eq_true] at h2
    obtain ⟨q,h3,⟨⟨h4,h5⟩,h6⟩,t1,h7,h8⟩:=h2
    cases h8
    obtain ⟨h9,h10⟩:=BU ha h7
    obtain ⟨g1,g2⟩:=Af hT hc ha h3
    have g3:=(g2.mono (Nat.le_of_ble_eq_true h4)).eq_app
    refine .inr ⟨h9,.inl ⟨hw,q.1,_,by rw [← g3];exact g1 rd o.type,Fe h5,?_,yA hT hc hr' h h10 hK⟩⟩
    have hlt:=(List.getElem?_eq_some_iff.1 hx).1
    by_cases hm:k<(ru all []).length
    ·have hg:(ru all [])[k]?=some ((ru all []).getD k 0):=by rw [List.getD_eq_getElem?_getD,List.getElem?_eq_getElem hm];rfl
     exact MI hx (DR all [] (by simp) (by simp) (fun _ _ h=>by simp at h) k _ hg) (by rw [List.length_append,oO]) h6
    ·have h0:(ru all []).getD k 0=0:=by rw [List.getD_eq_getElem?_getD,List.getElem?_eq_none (by omega)];rfl
     rw [h0] at h6
     exact MI hx (fun D _ o' _ _ i hi=>by simp at hi) (by rw [List.length_append,oO]) h6
  ·cases h;exact .inl (hK e ha)
theorem MN {x:BH} {r:Exit×PT×List Nat×Heap×Nat} (h:O5 mk x=some r):∃ q,x=some q∧r=(.normal,q.1,mk,q.2.1,q.2.2):=by
 simp only [O5,Option.bind_eq_some_iff] at h
 obtain ⟨q,h1,h2⟩:=h
 exact ⟨q,h1,by cases h2;rfl⟩
theorem seq_ok (hcode:vJ P code) {a b:Code} {r:Exit×PT×List Nat×Heap×Nat} (h:OX a b T call code N rd tr mk σ=some r) :
  (∀ (n0:Nat) (e:Env) (Q:Post),qM rd n0=true→Agr e tr→(∀ e',Agr e' r.2.1→Q r.1 e' r.2.2.1 r.2.2.2.1)→dI P n0 N rd (.seq a b) Q e mk σ)∧Keep r.2.2.2.2 σ r.2.2.2.1:=by
 simp only [OX,Option.bind_eq_some_iff] at h
 obtain ⟨⟨ex1,t1,mk1,σ1,lo1⟩,h1,h2⟩:=h
 obtain ⟨g1,g2⟩:=hcode _ _ _ _ _ _ _ h1
 simp only at g1 g2 h2
 unfold SN at h2
 split at h2
 ·simp only [Option.bind_eq_some_iff] at h2
  obtain ⟨⟨ex2,t2,mk2,σ2,lo2⟩,h3,h4⟩:=h2
  cases h4
  obtain ⟨g3,g4⟩:=hcode _ _ _ _ _ _ _ h3
  refine ⟨fun n0 e Q hrd ha hQ=>aS (g1 n0 e _ hrd ha fun e1 a1=>g3 n0 e1 Q hrd a1 hQ),?_⟩
  simp only [tK];exact g2.trans g4
 ·rename_i hne
  cases h2
  refine ⟨fun n0 e Q hrd ha hQ=>aS (g1 n0 e _ hrd ha fun e1 a1=>?_),g2⟩
  have:=hQ e1 a1
  cases ex1 with
  |normal=>exact absurd rfl hne
  |_=>exact this
def zy (P:Program) (N:Nat) (rd:Option Nat) (b:Code) (r:Exit×PT×List Nat×Heap×Nat):Nat→PT→List Nat→Heap→Prop
 |0,_,_,_=>False
 |m+1,tr,mk,σ=>∃ ex tr1 mk1 σ1,(∀ (n0:Nat) (e:Env) (Q:Post),qM rd n0=true→Agr e tr→(∀ e',Agr e' tr1→Q ex e' mk1 σ1)→dI P n0 N rd b Q e mk σ) ∧
  ((ex=.normal∧zy P N rd b r m tr1 mk1 σ1)∨(ex ≠ .normal∧r.1=ex∧r.2.1=tr1∧r.2.2.1=mk1∧r.2.2.2.1=σ1))
theorem loop_ok {b:Code} {r:Exit×PT×List Nat×Heap×Nat} {m:Nat} (h:zy P N rd b r m tr mk σ) {n0:Nat} {e:Env} {Q:Post} (hrd:qM rd n0=true) (ha:Agr e tr) (hQ:∀ e',Agr e' r.2.1→Q r.1 e' r.2.2.1 r.2.2.2.1) :
  dI P n0 N rd (.loop b) Q e mk σ:=by
 refine Kq (fun m e mk σ=>∃ tr,Agr e tr∧zy P N rd b r m tr mk σ) (m0:=m) ⟨tr,ha,h⟩ ?_
 rintro m e mk σ ⟨tr,ha,h⟩
 cases m with
 |zero=>exact h.elim
 |succ m =>
  obtain ⟨ex,tr1,mk1,σ1,h1,h2⟩:=h
  refine h1 n0 e _ hrd ha fun e1 a1=>?_
  rcases h2 with ⟨rfl,h2⟩|⟨hne,h3,h4,h5,h6⟩
  ·exact ⟨m,by omega,tr1,a1,h2⟩
  ·have:=hQ e1 (by rw [h4];exact a1)
   rw [h3,h5,h6] at this
   cases ex with
   |normal=>exact absurd rfl hne
   |_=>exact this
def GX (P:Program) (code:uO):Prop:=∀ (b:Code) (N:Nat) (rd:Option Nat) (tr:PT) (mk:List Nat) (σ:Heap) (r:Exit×PT×List Nat×Heap×Nat),code (.loop b) N rd tr mk σ=some r→∃ m,zy P N rd b r m tr mk σ
theorem Jd (hcode:vJ P code) (hl:GX P code) {b:Code} {r:Exit×PT×List Nat×Heap×Nat} (h:O4 b T call code N rd tr mk σ=some r):(∃ m,zy P N rd b r m tr mk σ)∧Keep r.2.2.2.2 σ r.2.2.2.1:=by
 refine ⟨?_,(seq_ok hcode h).2⟩
 simp only [O4,OX,Option.bind_eq_some_iff] at h
 obtain ⟨⟨ex1,t1,mk1,σ1,lo1⟩,h1,h2⟩:=h
 obtain ⟨g1,g2⟩:=hcode _ _ _ _ _ _ _ h1
 simp only at g1 g2 h2
 unfold SN at h2
 split at h2
 ·simp only [Option.bind_eq_some_iff] at h2
  obtain ⟨⟨ex2,t2,mk2,σ2,lo2⟩,h3,h4⟩:=h2
  cases h4
  obtain ⟨m,hm⟩:=hl _ _ _ _ _ _ _ h3
  refine ⟨m+1,.normal,t1,mk1,σ1,g1,.inl ⟨rfl,?_⟩⟩
  clear h1 g1 g2 h3
  induction m generalizing t1 mk1 σ1 with
  |zero=>exact hm.elim
  |succ m ih =>
   obtain ⟨ex,tr1,mk3,σ3,q1,q2⟩:=hm
   refine ⟨ex,tr1,mk3,σ3,q1,?_⟩
   rcases q2 with ⟨q2,q3⟩|q2
   ·exact .inl ⟨q2,ih _ _ _ q3⟩
   ·exact .inr q2
 ·rename_i hne
  cases h2
  exact ⟨1,ex1,t1,mk1,σ1,g1,.inr ⟨fun h=>hne h,rfl,rfl,rfl,rfl⟩⟩
theorem reg_ok (hT:jZ P T) (hc:nP P call) (hcode:vJ P code) (hmix:P.follows .mixedOrders=true) {id:Nat} {ops:Array Oper} {d:Bool} {r:Exit×PT×List Nat×Heap×Nat} (h:SQ ops.toList d T call code N rd tr mk σ=some r) :
  (∀ (n0:Nat) (e:Env) (Q:Post),qM rd n0=true→Agr e tr→(∀ e',Agr e' r.2.1→Q r.1 e' r.2.2.1 r.2.2.2.1)→dI P n0 N rd (.region id ops d) Q e mk σ)∧Keep r.2.2.2.2 σ r.2.2.2.1:=by
 obtain ⟨l⟩:=ops
 cases d with
 |false =>
  obtain ⟨q,h1,rfl⟩:=MN (show O5 mk (Ae T call code N rd l l tr σ)=some r from h)
  obtain ⟨g1,g2⟩:=Ah hT hc hcode h1
  exact ⟨fun n0 e Q hrd ha hQ=>aj (g1 n0 e mk _ hrd ha hQ),g2⟩
 |true =>
  simp only [SQ,Option.bind_eq_some_iff,bJ,uF,seen_eq] at h
  obtain ⟨f,h1,h2,h3⟩:=h
  obtain ⟨q,h4,rfl⟩:=MN h3
  simp only [Option.bind_eq_some_iff] at h4
  obtain ⟨q0,h5,h6⟩:=h4
  cases h6
  obtain ⟨g1,g2⟩:=Ah hT hc hcode h5
  refine ⟨fun n0 e Q hrd ha hQ=>dH hmix hrd (yA (all:=l) hT hc (by simp) h1 ha fun e1 a1=>⟨h2,g1 n0 e1 mk _ hrd a1 hQ⟩),?_⟩
  simp only [tK]
  exact (Keep.app (lo:=σ.length)).trans g2
theorem pendE_W {n0:Nat} {pend:Option Code} {ex:Exit} {Q:Post} {e:Env} (h:O6 pend=some ex) (hq:Q ex e mk σ):(pend=none→Q .normal e mk σ)∧∀ c,pend=some c→dI P n0 N none c Q e mk σ:=by
 unfold O6 at h
 split at h
 ·cases h;exact ⟨fun _=>hq,fun c hc=>(by cases hc)⟩
 ·cases h;exact ⟨fun h=>(by cases h),fun c hc=>(by cases hc;exact dX hq)⟩
 ·cases h;exact ⟨fun h=>(by cases h),fun c hc=>(by cases hc;exact dW hq)⟩
 ·cases h
theorem Rw {n0:Nat} {c:Code} {Q:Post} {e e2:Env} (h:∀ t v,Env.get e2 t=some v→Env.get e t=some v) (k:dI P n0 N rd c Q e2 mk σ):dI P n0 N rd c Q e mk σ:=by
 rintro G w0 ρ0 A w ⟨h0,ρ,hag,hs,he⟩
 exact k G w0 ρ0 A w ⟨h0,ρ,hag,hs,⟨he.tmps.1,fun t v hv=>he.tmps.2 t v (h t v hv)⟩,he.mks,he.mkb⟩
theorem range_ok (hT:jZ P T) (hc:nP P call) {g:Operand} {ps:Array Tmp} {assign body:Code} {r:Exit×PT×List Nat×Heap×Nat} (h:KO g ps assign body T call code N rd tr mk σ=some r) :
  (∀ (n0:Nat) (e:Env) (Q:Post),qM rd n0=true→Agr e tr→(∀ e',Agr e' r.2.1→Q r.1 e' r.2.2.1 r.2.2.2.1)→dI P n0 N rd (.rangeFunc g ps assign body) Q e mk σ)∧Keep r.2.2.2.2 σ r.2.2.2.1:=by
 unfold KO at h
 split at h
 ·simp only [Option.bind_eq_some_iff,O7,bJ] at h
  obtain ⟨f,⟨w,h1,h2⟩,h3,q,h4,ob,h5,h6⟩:=h
  obtain ⟨z,hz⟩:=Option.isSome_iff_exists.1 h3
  haveI:GoFn P f.1:=⟨(hT.fn _ _ hz).1⟩
  obtain ⟨h7,h8⟩:=hc _ _ _ _ h4
  unfold TG at h6
  split at h6
  ·rename_i st pend N2 e2 ps2 as2 bd2
   simp only [bJ,Option.bind_eq_some_iff] at h6
   obtain ⟨h9,ex,h10,h11⟩:=h6
   cases h11
   refine ⟨fun n0 e Q hrd ha hQ=>?_,?_⟩
   ·refine Rw (fun t v hv=>sD (toEnv_envSub ha) _ (vk hv)) ?_
    refine Ba (p:=f.2.1) (q:=f.2.2) (by rw [qN (Ag) h1,zn h2]) (h7.mono ?_)
    rintro v s ⟨rfl,rfl⟩
    have hp:=pendE_W (P:=P) (N:=N) (n0:=n0) (Q:=Q) h10 (hQ _ Ag)
    refine ⟨st,pend,N2,e2,ps2,as2,bd2,h5,(fun hb=>by subst hb;cases h9),?_⟩
    cases pend with
    |none=>exact hp.1 rfl
    |some c=>exact hp.2 c rfl
   ·simp only [tK]
    have q1:Keep σ.length σ (σ++[.dfr,.loop .ready none N (EZ tr) ps assign body]):=Keep.app
    exact ((q1.trans h8).trans (Keep.set (i:=σ.length+1))).mono (by simp only [Nat.le_min];omega)
  ·cases h6
 ·cases h
theorem runCode_ok (hT:jZ P T) (hc:nP P call) (hcode:vJ P code) (hl:GX P code) (hmix:P.follows .mixedOrders=true) {c:Code} {r:Exit×PT×List Nat×Heap×Nat} (h:GK c T call code N rd tr mk σ=some r) :
  (∀ (n0:Nat) (e:Env) (Q:Post),qM rd n0=true→Agr e tr→(∀ e',Agr e' r.2.1→Q r.1 e' r.2.2.1 r.2.2.2.1)→dI P n0 N rd c Q e mk σ)∧Keep r.2.2.2.2 σ r.2.2.2.1:=by
 unfold GK at h
 split at h
 ·cases h;exact ⟨fun n0 e Q _ ha hQ=>aW (hQ e ha),Keep.refl⟩
 ·cases h;exact ⟨fun n0 e Q _ ha hQ=>vG (hQ e ha),Keep.refl⟩
 ·simp only [OY,Option.bind_eq_some_iff,bJ] at h
  obtain ⟨⟨ex1,t1,mk1,σ1,lo1⟩,h1,h0,h2⟩:=h
  cases h2
  obtain ⟨g1,g2⟩:=hcode _ _ _ _ _ _ _ h1
  refine ⟨fun n0 e Q hrd ha hQ=>vH (g1 n0 e _ hrd ha fun e1 a1=>?_),g2⟩
  have:=hQ e1 a1
  cases ex1 with
  |goto l=>exact absurd h0 (by simp [L9])
  |_=>exact this
 ·cases h;exact ⟨fun n0 e Q _ ha hQ=>dW (hQ e ha),Keep.refl⟩
 ·cases h;exact ⟨fun n0 e Q _ ha hQ=>dX (hQ e ha),Keep.refl⟩
 ·exact seq_ok hcode h
 ·rename_i id b
  simp only [O1,Option.bind_eq_some_iff] at h
  obtain ⟨⟨ex1,t1,mk1,σ1,lo1⟩,h1,h2⟩:=h
  cases h2
  obtain ⟨g1,g2⟩:=hcode _ _ _ _ _ _ _ h1
  refine ⟨fun n0 e Q hrd ha hQ=>aO (g1 n0 e _ hrd ha fun e1 a1=>?_),g2⟩
  have:=hQ e1 a1
  simp only [OZ] at this
  cases ex1 with
  |exit id' =>
   simp only at this
   by_cases hid:id'=id
   ·subst hid
    rw [Nat.beq_refl] at this
    exact eG (Nat.beq_refl _) this
   ·rw [jR hid] at this
    exact qW (jR hid) this
  |_=>exact this
 ·rename_i x a b
  simp only [condC,Option.bind_eq_some_iff] at h
  obtain ⟨t,⟨w,h1,h2⟩,h3⟩:=h
  obtain ⟨g1,g2⟩:=hcode _ _ _ _ _ _ _ h3
  refine ⟨fun n0 e Q hrd ha hQ=>?_,g2⟩
  have hx:=qN ha h1
  rw [ql h2] at hx
  cases t with
  |true=>exact Gj hx rfl (g1 n0 e Q hrd ha hQ)
  |false=>exact Gl hx rfl (g1 n0 e Q hrd ha hQ)
 ·obtain ⟨⟨m,hm⟩,g2⟩:=Jd hcode hl h
  exact ⟨fun n0 e Q hrd ha hQ=>loop_ok hm hrd ha hQ,g2⟩
 ·exact reg_ok hT hc hcode hmix h
 ·exact range_ok hT hc h
 ·cases h
theorem runCall_ok (hT:jZ P T) {orc:lV} (ho:nP P orc) (hcode:vJ P code):nP P (GU T orc code):=by
 intro f args σ r h
 unfold GU at h
 split at h
 ·rename_i r' hr'
  cases h
  exact ho _ _ _ _ hr'
 ·simp only [Option.bind_eq_some_iff,MB,bJ] at h
  obtain ⟨x,h1,h2,r1,h3,h4⟩:=h
  obtain ⟨ex,t1,mk1,σ1,lo⟩:=r1
  obtain ⟨hf,fn,f1,f2,f3,f4⟩:=hT.fn _ _ h1
  obtain ⟨g1,g2⟩:=hcode _ _ _ _ _ _ _ h3
  simp only [TJ,bJ,jA,Option.bind_eq_some_iff,Bool.and_eq_true] at h4
  obtain ⟨⟨h5,h6⟩,vs,h7,h8⟩:=h4
  obtain ⟨m1,m2⟩:=mkOk_ok h6
  have hk:Keep (wF lo (minL lo mk1)) σ (ji mk1 σ1):=by
   simp only [tK]
   exact Keep.trans g2 (Fj mk1 lo σ1)
  obtain ⟨r1,r2⟩:=retK_ok hk h8
  refine ⟨?_,r2⟩
  obtain ⟨e0,a1,a2⟩:=MH (vs:=args) (k:=0) (Agr.full [] 9) (fun t v h=>by cases h)
  refine aX σ.length x.1 f1 f4 f3 f2 rfl h2 ?_
  refine Rw (e2:=e0) (fun t v hv=>(a2 t v hv).elim id fun h=>by omega) (g1 σ.length e0 _ rfl a1 fun e' a'=>?_)
  ·have key:mk1.Nodup∧(∀ i ∈ mk1,σ1[i]?=some .dfr)∧∃ vs v2 σ2,pz P e' (ji mk1 σ1) x.2.1 vs∧dQ σ (ji mk1 σ1) (uD vs) v2 σ2∧(v2=r.1∧σ2=r.2.1) :=
    ⟨m1,m2,vs,r.1,r.2.1,BX hT a' h7,r1,rfl,rfl⟩
   unfold Rn at h5
   split at h5
   ·exact key
   ·exact key
   ·cases h5
theorem Rx (hT:jZ P T) {orc:lV} (ho:nP P orc) (hmix:P.follows .mixedOrders=true):∀ n:Nat,nP P (rn T orc n).1∧vJ P (rn T orc n).2∧GX P (rn T orc n).2
 |0=>⟨fun _ _ _ _ h=>(by cases h),fun _ _ _ _ _ _ _ h=>(by cases h),fun _ _ _ _ _ _ _ h=>(by cases h)⟩
 |n+1=>by
  obtain ⟨h1,h2,h3⟩:=Rx hT ho hmix n
  exact ⟨runCall_ok hT ho h2,fun c N rd tr mk σ r h=>runCode_ok hT h1 h2 h3 hmix h,fun b N rd tr mk σ r h=>(Jd (T:=T) (call:=(rn T orc n).1) h2 h3 h).1⟩
theorem mD (hT:jZ P T) {orc:lV} (ho:nP P orc) (hmix:P.follows .mixedOrders=true) {n f:Nat} {args:List Value} {v:Value} {σ':Heap} {lo:Nat} (h:(rn T orc n).1 f args σ=some (v,σ',lo)):Ev P f args σ v σ' :=
 ((Rx hT ho hmix n).1 f args σ _ h).1
end
end Go.AH
namespace Go.AH
open Go
structure Known where
 f:Nat
 args:List Value
 css:List (List Value)
 v:Value
 news:Heap
def MP:List Value→List Nat
 |[]=>[]
 |v::l=>match wC v with
  |some p=>bif Nat.beq p.2.2.1 0 then MP l else p.1::MP l
  |none=>MP l
def Je:cu→Option (List Value)
 |.ro cs=>some cs
 |.rw cs=>some cs
 |.gr cs _=>some cs
 |_=>none
def Fp (σ:Heap):List (List Value)→List Nat→Bool
 |[],l=>l.isEmpty
 |c::cs,l=>match l with
  |[]=>false
  |b::bs=>(match (σ[b]?).bind Je with|some x=>Gv c x|none=>false) && Fp σ cs bs
def DT (k:Known) (args:List Value) (σ:Heap) (bs:List Nat):Res :=
 fA (Fp σ k.css bs && Dy k.css.length (bsR bs) k.args args && Nat.beq k.args.length args.length && σ.all (fun o=>!dB o))
  (some (ren (shf k.css.length σ.length (bsR bs)) k.v,σ++k.news.map (sW (shf k.css.length σ.length (bsR bs))),σ.length))
def Pn:List Known→lV
 |[]=>fun _ _ _=>none
 |k::ks=>fun f args σ=>bif Nat.beq k.f f then (match DT k args σ (MP args) with|some r=>some r|none=>Pn ks f args σ) else Pn ks f args σ
def iV (P:Program) (k:Known):Prop:=Ev P k.f k.args (k.css.map .ro) k.v (k.css.map .ro++k.news)∧k.css.all gy=true∧k.news.all wz=true
theorem MQ {σ:Heap}:∀ {cs:List (List Value)} {bs:List Nat},Fp σ cs bs=true→zZ σ cs bs
 |[],bs,h=>by
  simp only [Fp,List.isEmpty_iff] at h
  subst h;trivial
 |c::cs,[],h=>by simp [Fp] at h
 |c::cs,b::bs,h=>by
  simp only [Fp,Bool.and_eq_true] at h
  obtain ⟨h1,h2⟩:=h
  refine ⟨?_,MQ h2⟩
  split at h1
  ·rename_i x hx
   have:=zo h1
   subst this
   obtain ⟨o,h3,h4⟩:=Option.bind_eq_some_iff.1 hx
   unfold Je at h4
   split at h4
   ·cases h4;exact .inl h3
   ·cases h4;exact .inr (.inl h3)
   ·cases h4;exact .inr (.inr ⟨_,h3⟩)
   ·cases h4
  ·cases h1
theorem Ry {n:Nat} {π:Rho}:∀ {a b:List Value},a.length=b.length→(∀ (i:Nat) (h:i<a.length) (h':i<b.length),jv n π a[i] b[i])→AS n π a b
 |[],[],_,_=>trivial
 |x::a,[],h,_=>by simp at h
 |[],y::b,h,_=>by simp at h
 |x::a,y::b,h,hi=>⟨hi 0 (by simp) (by simp),Ry (by simpa using h) fun i h1 h2=>hi (i+1) (by simpa using h1) (by simpa using h2)⟩
def orcOr (a b:lV):lV:=fun f args σ=>match a f args σ with|some r=>some r|none=>b f args σ
end Go.AH
