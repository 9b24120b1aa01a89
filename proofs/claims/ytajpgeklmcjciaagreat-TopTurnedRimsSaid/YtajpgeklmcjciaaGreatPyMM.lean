/- Lemmas. No conditions. -/
import Derived.Test.YtajpgeklmcjciaaGreatPyM7
import Derived.Below
import Derived.ChangeSame
import Derived.WalkKit
import Derived.ProofKit
import Derived.OpenShut
namespace Go.AH
open Go Go.RowKit
theorem ZX {P:Program} {f:FuncId} {args:List Value} {U:Heap} {V:Rho} {ar:Array Value} {w:World} (h:eu P f args U fun v _=>v=.bool true)
  (hro:∀ i o,U[i]?=some o->∃ cs,o=.ro cs/\(cs ≠ []->(V i).b<w.heap.size/\∀ (k:Nat) (h:k<cs.length),∃ v',w.cell? ⟨(V i).b,(V i).o+k,none⟩=some v'/\gJ U.length V cs[k] v'))
  (ha:lU U.length V args.toArray ar):Calls P f ar w fun e w'=>e=.returned (.bool true)/\Below w.heap.size w w':=by
 have hs:Sim (fun b=>b<w.heap.size) w V U w:=by
  refine ⟨rfl,rfl,rfl,aD _,fun b hb=>⟨hb,rfl⟩,fun i o hi=>?_,fun i j oi oj hi hj d hoj _=>?_⟩
  ·obtain ⟨cs,rfl,hc⟩:=hro i o hi
   exact fun c=>hc c
  ·obtain ⟨cs,rfl,_⟩:=hro i oi hi
   exact d.elim
 refine Calls.mono (callsIn_wide.1 (h _ w V ar w hs ha)) ?_
 rintro e w' ⟨ρ',vr,v,σ',rfl,rfl,hv,hl,hag,a⟩
 exact ⟨by rw [bH hv rfl],a.os,a.tape,a.output,a.size,fun k hk=>(a.fgn k hk).2⟩
section
open Go.RowKit Go.WideShapes Go.ChangeShapes
variable {H:Type} {enc:TypeId×Value->H} {P:Program}
theorem VW {f:Func} {s:ChangeSpec} {apart fresh handsOn again:Bool} {W W':World} {args:Array Value} {v:Value} {ds gs:List (DataW H)} {before pa pv:List MemPlace}
  (hW:DataW.Whole enc P f.params.toList s.vars apart W args.toList ds gs before)
  (hres:∀ (b:Nat) (sp:Nat->Bool) (hd:Bool),DataW.TrodAll enc P W' b sp hd f.resultTypes.toList (v.resultList f.resultTypes.size) (s.fn H (ds++gs)).results [])
  (hargs:∀ sp:Nat->Bool,(∀ p ∈ before,sp p.block=true)->DataW.TrodAll enc P W' 0 sp true f.params.toList args.toList (s.fn H (ds++gs)).args pa)
  (hvars:∀ sp:Nat->Bool,(∀ p ∈ before,sp p.block=true)->DataW.TrodVars enc P W' sp s.vars (s.fn H (ds++gs)).vars pv)
  (hps:before=pa++pv) (hb:Below W.heap.size W W')
  (hok:∀ (j:Nat) (t:TypeId) (r:Value),f.resultTypes[j]?=some t->(v.resultList f.resultTypes.size)[j]?=some r->Value.okWide P W' .any 0 t r) :
  s.post enc P f apart fresh handsOn again W args v W':=by
 have e:∀ p ∈ before,p.block<W.heap.size:=fun p hp=>hW.lt p hp
 have a:∀ p ∈ before,(fun b=>decide (b<W.heap.size)) p.block=true:=fun p hp=>by simpa using e p hp
 refine ⟨ds,gs,before,[],pa,pv,hW,hres _ _ _,hargs _ a,hvars _ a,World.keptBut_mono (fun p hp=>⟨hp,?_⟩) (hb.frame (· ∈ before)),fun _=>?_⟩
 ·rw [hps,List.mem_append] at hp
  exact Or.inr hp
 ·obtain ⟨_,_,_,_,_,hz,hn⟩:=hW
  refine ⟨hok,_,_,([]++pa)++pv,⟨[]++pa,pv,trodAll_append (hargs _ (fun _ _=>rfl)) (hres _ _ _),hvars _ (fun _ _=>rfl),rfl,?_,?_⟩,?_⟩
  ·intro b d hp
   have c:MemPlace.cell b d ∈ before:=by rw [hps];simpa using hp
   rw [hb.frozen (e _ c)]
   exact hz b d c
  ·intro ha
   have:=hn ha
   rw [hps] at this
   simpa using this
  ·intro p hp _
   rw [hps]
   simpa using hp
end
end Go.AH
