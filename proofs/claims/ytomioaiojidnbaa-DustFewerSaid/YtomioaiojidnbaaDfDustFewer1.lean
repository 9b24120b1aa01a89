/- bolsterlaw09.DustFewer returns true for every input, on every schedule; the input reads as it did. For any shop, three numbers, a count, a width and a limit the law holds. Conditions: none. -/
import Derived.Test.YtomioaiojidnbaaRows
import Derived.Test.YtomioaiojidnbaaDfQ7
namespace Go.Proofs.Ytomioaiojidnbaa
open Go Go.AH Go.ChangeShapes Go.WideShapes Go.ChangeAt Go.RowKit Go.AH.Dust
theorem rim_own:ownKnob Try.prog.godebug=none:=by kernel_rfl
theorem rim_laid:laidOutB Try.prog=true:=by kernel_rfl
theorem readable2:Try.prog.readableRec 2=true:=by kernel_rfl
theorem readable5:Try.prog.readableRec 5=true:=by kernel_rfl
theorem readable26:Try.prog.readableRec 26=true:=by kernel_rfl
theorem readable62:Try.prog.readableRec 62=true:=by kernel_rfl
theorem readable63:Try.prog.readableRec 63=true:=by kernel_rfl
set_option maxRecDepth 100000 in
theorem dustFewer_lifted (os:Os) (started:os.Started) (H:Type) (enc:TypeId×Value→H) :
  ReturnsInHanded {} Try.checked os 9 .any (Rows.dustFewerSpec.pre6 enc Try.prog Try.f9 Rows.dustFewerRow.domain false) (Rows.dustFewerSpec.post enc Try.prog Try.f9 false true false false):=by
 refine returnsInHanded_of_change (C:=Try.checked) rim_own started (by kernel_rfl) Try.func9
  (ChangeSpec.witness6 (enc:=enc) (C:=Try.checked) false ⟨#[],#[.agg #[.slice none 0 0,.slice none 0 0,.slice none 0 0],.agg #[.int .u8 0,.int .u8 0,.int .u8 0],.int .u16 0,.int .u8 0,.int .i64 0],[]⟩ 8 (by kernel_rfl) (by kernel_rfl) (by kernel_rfl) (by kernel_rfl)) ?_
 intro W base args ds gs before hval0 hW hcnd _
 have hval:∀ (j:Nat) t v,Try.f9.params[j]?=some t→args[j]?=some v→Value.okWide Try.prog W .any base t v:=hval0
 have hW':=hW
 obtain ⟨p,q,hA0,hV,rfl,hfz,hnd⟩:=hW
 have hA:DataW.TrodAll enc Try.prog W 0 (fun _=>true) true Try.f9.params.toList args.toList ds p:=hA0
 rw [Try.params9] at hA hval
 obtain ⟨v0,v1,v2,v3,v4,d0,d1,d2,d3,d4,p0,p1,p2,p3,p4,rfl,rfl,rfl,h0,h1,h2,h3,h4⟩:=trodAll_n5 hA
 obtain ⟨rfl,rfl⟩:=trodVars_none hV
 clear hA0 hval0
 simp only [List.append_nil] at hW'
 have hlt:∀ x ∈ p0++p1++p2++p3++p4,x.block<W.heap.size:=fun x hx=>hW'.lt x hx
 obtain ⟨s0,qa0,qb0,qc0,hl0⟩:=read_shop (hval 0 26 v0 rfl rfl) h0
 obtain ⟨x1,y1,z1,e1,wx1,wy1,wz1⟩:=read_arr3 Try.underlying62 Try.underlying5 (by kernel_rfl) (by kernel_rfl) (hval 1 62 v1 rfl rfl) h1
 simp only [Lit.wf,Bool.and_eq_true,decide_eq_true_eq] at wx1 wy1 wz1
 subst e1
 obtain ⟨n2,e2,hn2⟩:=read_u16 Try.underlying63 (hval 2 63 v2 rfl rfl) h2
 subst e2
 obtain ⟨n3,e3,hn3⟩:=read_u8 Try.underlying5 (hval 3 5 v3 rfl rfl) h3
 subst e3
 obtain ⟨n4,e4,hn4⟩:=read_int Try.underlying2 (hval 4 2 v4 rfl rfl) h4
 subst e4
 have hcall:iJ Try.prog 9 [Dust.shV 0 1 2 s0,.agg #[.int .u8 x1,.int .u8 y1,.int .u8 z1],.int .u16 n2,.int .u8 n3,.int .i64 n4] [.ro (ints s0.d),.ro (Dust.pc s0.f),.ro (ints s0.s)] fun v _=>v=.bool true:=(dustFewer_law s0 hl0.fit x1 y1 z1 n2 n3 n4 wx1 wy1 wz1 hn2 hn3 hn4).mono fun v s' h=>h.1
 refine (calls_law (ρ:=(fun i=>if i=0 then qa0 else if i=1 then qb0 else qc0)) (w:=W) (ar:=#[v0,.agg #[.int .u8 x1,.int .u8 y1,.int .u8 z1],.int .u16 n2,.int .u8 n3,.int .i64 n4]) hcall (fun i o ho=>?_) ⟨rfl,fun i hi hi'=>?_⟩).mono fun e W' ⟨he,hg⟩=>?_
 ·match i,ho with
  |0,ho=>cases ho;exact ⟨_,rfl,fun hne=>hl0.d (fun i=>if i=0 then qa0 else if i=1 then qb0 else qc0) 0 _ rfl hne⟩
  |1,ho=>cases ho;exact ⟨_,rfl,fun hne=>hl0.f (fun i=>if i=0 then qa0 else if i=1 then qb0 else qc0) 1 _ rfl hne⟩
  |2,ho=>cases ho;exact ⟨_,rfl,fun hne=>hl0.s (fun i=>if i=0 then qa0 else if i=1 then qb0 else qc0) 2 _ rfl hne⟩
 ·match i,hi with
  |0,_=>exact hl0.rel _ _ 0 1 2 (by simp) (by simp) (by simp) rfl rfl rfl
  |1,_=>exact bU _ rfl
  |2,_=>exact bU _ rfl
  |3,_=>exact bU _ rfl
  |4,_=>exact bU _ rfl
 subst he
 have stays:∀ (t:TypeId) (hr:Try.prog.readableRec t=true) (ht:t<Try.prog.types.size) (v:Value) (d:DataW H) (q:List MemPlace) (h:DataW.Trod enc Try.prog W 0 (fun _=>true) true t v d q) (hq:∀ x ∈ q,x ∈ p0++p1++p2++p3++p4)
   (sp:Nat→Bool) (hsp:∀ x ∈ p0++p1++p2++p3++p4,sp x.block=true),DataW.Trod enc Try.prog W' 0 sp true t v d q:=fun t hr ht v d q h hq sp hsp =>
  WideElems.Trod_stays rim_laid hr ht h (fun x hx=>hg.same (hlt x (hq x hx))) fun x hx=>hsp x (hq x hx)
 exact ⟨_,rfl,post_below (pa:=(p0++(p1++(p2++(p3++p4))))) (pv:=[]) hW' (fun _ _ _=>(trodAll_cons_mk (shut_bool Try.underlying4 _) trodAll_mk0))
  (fun sp hsp=>trodAll_mkn5 (stays 26 readable26 (of_decide_eq_true (by kernel_rfl)) _ _ _ h0 (fun x hx=>by simp [hx]) sp hsp)
   (stays 62 readable62 (of_decide_eq_true (by kernel_rfl)) _ _ _ h1 (fun x hx=>by simp [hx]) sp hsp)
   (stays 63 readable63 (of_decide_eq_true (by kernel_rfl)) _ _ _ h2 (fun x hx=>by simp [hx]) sp hsp)
   (stays 5 readable5 (of_decide_eq_true (by kernel_rfl)) _ _ _ h3 (fun x hx=>by simp [hx]) sp hsp)
   (stays 2 readable2 (of_decide_eq_true (by kernel_rfl)) _ _ _ h4 (fun x hx=>by simp [hx]) sp hsp)) (fun _ _=>rfl) (by simp)
  hg (ok_one (by kernel_rfl) rfl (okWide_bool_mk Try.underlying4 _))⟩
theorem dustFewer_holds:Rows.DustFewerSaid :=
 OpenClaim.holds_of_wide 9 Try.f9 rfl rfl rfl rfl rfl rfl rfl ⟨rfl,rfl,rfl,rfl,rfl⟩ rfl rfl rfl rfl rfl (by kernel_rfl) Try.func9 (by kernel_rfl)
  (of_decide_eq_true (by kernel_rfl)) (by unfold Func.isWrapper;first|(rw [if_pos (by decide +kernel)];kernel_rfl)|(rw [if_neg (by decide +kernel)];exact ⟨rfl,rfl⟩))
  (fun os started H enc _=>dustFewer_lifted os started H enc)
#print axioms dustFewer_holds
end Go.Proofs.Ytomioaiojidnbaa
