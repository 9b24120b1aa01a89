/- bolsterlaw09.DustNamed returns true for every input, on every schedule; the input reads as it did.  Conditions: none. -/
import Derived.Test.YtomioaiojidnbaaRows
import Derived.Test.YtomioaiojidnbaaDnQ6
namespace Go.Proofs.Ytomioaiojidnbaa
open Go Go.AH Go.ChangeShapes Go.WideShapes Go.ChangeAt Go.RowKit Go.AH.Dust
theorem rim_own:ownKnob Try.prog.godebug=none:=by kernel_rfl
theorem rim_laid:laidOutB Try.prog=true:=by kernel_rfl
theorem readable5:Try.prog.readableRec 5=true:=by kernel_rfl
theorem readable26:Try.prog.readableRec 26=true:=by kernel_rfl
set_option maxRecDepth 100000 in
theorem dustNamed_lifted (os:Os) (started:os.Started) (H:Type) (enc:TypeId×Value→H) :
  ReturnsInHanded {} Try.checked os 11 .any (Rows.dustNamedSpec.pre6 enc Try.prog Try.f11 Rows.dustNamedRow.domain false) (Rows.dustNamedSpec.post enc Try.prog Try.f11 false true false false):=by
 refine returnsInHanded_of_change (C:=Try.checked) rim_own started (by kernel_rfl) Try.func11
  (ChangeSpec.witness6 (enc:=enc) (C:=Try.checked) false ⟨#[],#[.agg #[.slice none 0 0,.slice none 0 0,.slice none 0 0],.int .u8 0,.int .u8 0],[]⟩ 8 (by kernel_rfl) (by kernel_rfl) (by kernel_rfl) (by kernel_rfl)) ?_
 intro W base args ds gs before hval0 hW hcnd _
 have hval:∀ (j:Nat) t v,Try.f11.params[j]?=some t→args[j]?=some v→Value.okWide Try.prog W .any base t v:=hval0
 have hW':=hW
 obtain ⟨p,q,hA0,hV,rfl,hfz,hnd⟩:=hW
 have hA:DataW.TrodAll enc Try.prog W 0 (fun _=>true) true Try.f11.params.toList args.toList ds p:=hA0
 rw [Try.params11] at hA hval
 obtain ⟨v0,v1,v2,d0,d1,d2,p0,p1,p2,rfl,rfl,rfl,h0,h1,h2⟩:=trodAll_three hA
 obtain ⟨rfl,rfl⟩:=trodVars_none hV
 clear hA0 hval0
 simp only [List.append_nil] at hW'
 have hlt:∀ x ∈ p0++p1++p2,x.block<W.heap.size:=fun x hx=>hW'.lt x hx
 obtain ⟨s0,qa0,qb0,qc0,hl0⟩:=read_shop (hval 0 26 v0 rfl rfl) h0
 obtain ⟨n1,e1,hn1⟩:=read_u8 Try.underlying5 (hval 1 5 v1 rfl rfl) h1
 subst e1
 obtain ⟨n2,e2,hn2⟩:=read_u8 Try.underlying5 (hval 2 5 v2 rfl rfl) h2
 subst e2
 have hcall:ACall Try.prog 11 [Dust.shV 0 1 2 s0,.int .u8 n1,.int .u8 n2] [.ro (ints s0.d),.ro (Dust.pc s0.f),.ro (ints s0.s)] fun v _=>v=.bool true:=(dustNamed_law s0 hl0.fit n1 n2 hn1.1 hn1.2 hn2.1 hn2.2).mono fun v s' h=>h.1
 refine (calls_law (ρ:=(fun i=>if i=0 then qa0 else if i=1 then qb0 else qc0)) (w:=W) (ar:=#[v0,.int .u8 n1,.int .u8 n2]) hcall (fun i o ho=>?_) ⟨rfl,fun i hi hi'=>?_⟩).mono fun e W' ⟨he,hg⟩=>?_
 ·match i,ho with
  |0,ho=>cases ho;exact ⟨_,rfl,fun hne=>hl0.d (fun i=>if i=0 then qa0 else if i=1 then qb0 else qc0) 0 _ rfl hne⟩
  |1,ho=>cases ho;exact ⟨_,rfl,fun hne=>hl0.f (fun i=>if i=0 then qa0 else if i=1 then qb0 else qc0) 1 _ rfl hne⟩
  |2,ho=>cases ho;exact ⟨_,rfl,fun hne=>hl0.s (fun i=>if i=0 then qa0 else if i=1 then qb0 else qc0) 2 _ rfl hne⟩
 ·match i,hi with
  |0,_=>exact hl0.rel _ _ 0 1 2 (by simp) (by simp) (by simp) rfl rfl rfl
  |1,_=>exact vrel_plain _ rfl
  |2,_=>exact vrel_plain _ rfl
 subst he
 have stays:∀ (t:TypeId) (hr:Try.prog.readableRec t=true) (ht:t<Try.prog.types.size) (v:Value) (d:DataW H) (q:List MemPlace) (h:DataW.Trod enc Try.prog W 0 (fun _=>true) true t v d q) (hq:∀ x ∈ q,x ∈ p0++p1++p2)
   (sp:Nat→Bool) (hsp:∀ x ∈ p0++p1++p2,sp x.block=true),DataW.Trod enc Try.prog W' 0 sp true t v d q:=fun t hr ht v d q h hq sp hsp =>
  WideElems.Trod_stays rim_laid hr ht h (fun x hx=>hg.same (hlt x (hq x hx))) fun x hx=>hsp x (hq x hx)
 exact ⟨_,rfl,post_below (pa:=(p0++(p1++p2))) (pv:=[]) hW' (fun _ _ _=>(trodAll_cons_mk (shut_bool Try.underlying4 _) trodAll_mk0))
  (fun sp hsp=>trodAll_mk3 (stays 26 readable26 (of_decide_eq_true (by kernel_rfl)) _ _ _ h0 (fun x hx=>by simp [hx]) sp hsp)
   (stays 5 readable5 (of_decide_eq_true (by kernel_rfl)) _ _ _ h1 (fun x hx=>by simp [hx]) sp hsp)
   (stays 5 readable5 (of_decide_eq_true (by kernel_rfl)) _ _ _ h2 (fun x hx=>by simp [hx]) sp hsp)) (fun _ _=>rfl) (by simp)
  hg (ok_one (by kernel_rfl) rfl (okWide_bool_mk Try.underlying4 _))⟩
theorem dustNamed_holds:Rows.DustNamedSaid :=
 OpenClaim.holds_of_wide 11 Try.f11 rfl rfl rfl rfl rfl rfl rfl ⟨rfl,rfl,rfl,rfl,rfl⟩ rfl rfl rfl rfl rfl (by kernel_rfl) Try.func11 (by kernel_rfl)
  (of_decide_eq_true (by kernel_rfl)) (by unfold Func.isWrapper;first|(rw [if_pos (by decide +kernel)];kernel_rfl)|(rw [if_neg (by decide +kernel)];exact ⟨rfl,rfl⟩))
  (fun os started H enc _=>dustNamed_lifted os started H enc)
#print axioms dustNamed_holds
end Go.Proofs.Ytomioaiojidnbaa
