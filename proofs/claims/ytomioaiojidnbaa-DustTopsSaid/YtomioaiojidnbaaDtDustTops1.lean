/- bolsterlaw09.DustTops returns true for every input, on every schedule; the input reads as it did. The bound of tops is what the definition says, or the error; tops that are returned are right, and their bound is the window. Conditions: none. -/
import Derived.Test.YtomioaiojidnbaaRows
import Derived.Test.YtomioaiojidnbaaDtQ5
namespace Go.Proofs.Ytomioaiojidnbaa
open Go Go.AH Go.AH.Dust Go.ChangeShapes Go.WideShapes Go.ChangeAt Go.RowKit
theorem rim_own:ownKnob Try.prog.godebug=none:=by kernel_rfl
theorem rim_laid:laidOutB Try.prog=true:=by kernel_rfl
theorem readable3:Try.prog.readableRec 3=true:=by kernel_rfl
theorem readable26:Try.prog.readableRec 26=true:=by kernel_rfl
theorem readable42:Try.prog.readableRec 42=true:=by kernel_rfl
set_option maxRecDepth 100000 in
theorem dustTops_lifted (os:Os) (started:os.Started) (H:Type) (enc:TypeId×Value→H) :
  ReturnsInHanded {} Try.checked os 5 .any (Rows.dustTopsSpec.pre6 enc Try.prog Try.f5 Rows.dustTopsRow.domain false) (Rows.dustTopsSpec.post enc Try.prog Try.f5 false true false false):=by
 refine returnsInHanded_of_change (C:=Try.checked) rim_own started (by kernel_rfl) Try.func5
  (ChangeSpec.witness6 (enc:=enc) (C:=Try.checked) false ⟨#[],#[.agg #[.slice none 0 0,.slice none 0 0,.slice none 0 0],.int .i64 0,.slice none 0 0],[]⟩ 8 (by kernel_rfl) (by kernel_rfl) (by kernel_rfl) (by kernel_rfl)) ?_
 intro W base args ds gs before hval0 hW hcnd _
 have hval:∀ (j:Nat) t v,Try.f5.params[j]?=some t→args[j]?=some v→Value.okWide Try.prog W .any base t v:=hval0
 have hW':=hW
 obtain ⟨p,q,hA0,hV,rfl,hfz,hnd⟩:=hW
 have hA:DataW.TrodAll enc Try.prog W 0 (fun _=>true) true Try.f5.params.toList args.toList ds p:=hA0
 rw [Try.params5] at hA hval
 obtain ⟨v0,v1,v2,d0,d1,d2,p0,p1,p2,rfl,rfl,rfl,h0,h1,h2⟩:=trodAll_three hA
 obtain ⟨rfl,rfl⟩:=trodVars_none hV
 clear hA0 hval0
 simp only [List.append_nil] at hW'
 have hlt:∀ x ∈ p0++p1++p2,x.block<W.heap.size:=fun x hx=>hW'.lt x hx
 obtain ⟨s0,qa0,qb0,qc0,hl0⟩:=read_shop (hval 0 26 v0 rfl rfl) h0
 obtain ⟨n1,e1,hn1⟩:=read_int Try.underlying3 (hval 1 3 v1 rfl rfl) h1
 subst e1
 obtain ⟨l2,pl2,hl2⟩:=read_rows (hval 2 42 v2 rfl rfl) h2
 have hcall:ACall Try.prog 5 [Dust.shV 0 1 2 s0,.int .i64 n1,.slice (some ⟨3,0,none⟩) l2.length l2.length] [.ro (ints s0.d),.ro (Dust.pc s0.f),.ro (ints s0.s),.deep (rowsQ l2) []] fun v _=>v=.bool true:=(dustTops_law s0 hl0.fit n1 l2 l2.length hl2.len).mono fun v s' h=>h.1
 refine (calls_lawD (ρ:=(fun i=>if i=0 then qa0 else if i=1 then qb0 else if i=2 then qc0 else pl2)) (w:=W) (ar:=#[v0,.int .i64 n1,v2]) hcall (fun i o ho=>?_) ⟨rfl,fun i hi hi'=>?_⟩).mono fun e W' ⟨he,hg⟩=>?_
 ·match i,ho with
  |0,ho=>cases ho;exact .inl ⟨_,rfl,fun hne=>hl0.d (fun i=>if i=0 then qa0 else if i=1 then qb0 else if i=2 then qc0 else pl2) 0 _ rfl hne⟩
  |1,ho=>cases ho;exact .inl ⟨_,rfl,fun hne=>hl0.f (fun i=>if i=0 then qa0 else if i=1 then qb0 else if i=2 then qc0 else pl2) 1 _ rfl hne⟩
  |2,ho=>cases ho;exact .inl ⟨_,rfl,fun hne=>hl0.s (fun i=>if i=0 then qa0 else if i=1 then qb0 else if i=2 then qc0 else pl2) 2 _ rfl hne⟩
  |3,ho=>cases ho;exact .inr ⟨_,rfl,fun hne=>hl2.cells hne⟩
 ·match i,hi with
  |0,_=>exact hl0.rel _ _ 0 1 2 (by simp) (by simp) (by simp) rfl rfl rfl
  |1,_=>exact vrel_plain _ rfl
  |2,_=>exact hl2.rel _ _ 3 (by simp) rfl
 subst he
 have stays:∀ (t:TypeId) (hr:Try.prog.readableRec t=true) (ht:t<Try.prog.types.size) (v:Value) (d:DataW H) (q:List MemPlace) (h:DataW.Trod enc Try.prog W 0 (fun _=>true) true t v d q) (hq:∀ x ∈ q,x ∈ p0++p1++p2)
   (sp:Nat→Bool) (hsp:∀ x ∈ p0++p1++p2,sp x.block=true),DataW.Trod enc Try.prog W' 0 sp true t v d q:=fun t hr ht v d q h hq sp hsp =>
  WideElems.Trod_stays rim_laid hr ht h (fun x hx=>hg.same (hlt x (hq x hx))) fun x hx=>hsp x (hq x hx)
 exact ⟨_,rfl,post_below (pa:=(p0++(p1++p2))) (pv:=[]) hW' (fun _ _ _=>(trodAll_cons_mk (shut_bool Try.underlying4 _) trodAll_mk0))
  (fun sp hsp=>trodAll_mk3 (stays 26 readable26 (of_decide_eq_true (by kernel_rfl)) _ _ _ h0 (fun x hx=>by simp [hx]) sp hsp)
   (stays 3 readable3 (of_decide_eq_true (by kernel_rfl)) _ _ _ h1 (fun x hx=>by simp [hx]) sp hsp)
   (stays 42 readable42 (of_decide_eq_true (by kernel_rfl)) _ _ _ h2 (fun x hx=>by simp [hx]) sp hsp)) (fun _ _=>rfl) (by simp)
  hg (ok_one (by kernel_rfl) rfl (okWide_bool_mk Try.underlying4 _))⟩
theorem dustTops_holds:Rows.DustTopsSaid :=
 OpenClaim.holds_of_wide 5 Try.f5 rfl rfl rfl rfl rfl rfl rfl ⟨rfl,rfl,rfl,rfl,rfl⟩ rfl rfl rfl rfl rfl (by kernel_rfl) Try.func5 (by kernel_rfl)
  (of_decide_eq_true (by kernel_rfl)) (by unfold Func.isWrapper;first|(rw [if_pos (by decide +kernel)];kernel_rfl)|(rw [if_neg (by decide +kernel)];exact ⟨rfl,rfl⟩))
  (fun os started H enc _=>dustTops_lifted os started H enc)
#print axioms dustTops_holds
end Go.Proofs.Ytomioaiojidnbaa
