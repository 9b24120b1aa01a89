/- bolstertop.TopSpunHeats returns true for every input, on every schedule; the input reads as it did.  Conditions: none. -/
import Derived.Test.YtajpgeklmcjciaaGreatRows
import Derived.Test.YtajpgeklmcjciaaGreatPxQ7
namespace Go.Proofs.YtajpgeklmcjciaaGreat
open Go Go.AH Go.ChangeShapes Go.WideShapes Go.ChangeAt Go.RowKit
theorem afD:ownKnob Tryz.prog.godebug=none:=by kernel_rfl
theorem adJ:laidOutB Tryz.prog=true:=by kernel_rfl
theorem aaA:Tryz.prog.readableRec 5=true:=by kernel_rfl
theorem Xh:Tryz.prog.readableRec 25=true:=by kernel_rfl
theorem readable26:Tryz.prog.readableRec 26=true:=by kernel_rfl
theorem Xi:Tryz.prog.readableRec 27=true:=by kernel_rfl
theorem LD:Tryz.prog.readableRec 28=true:=by kernel_rfl
set_option maxRecDepth 100000 in
theorem topSpunHeats_lifted (os:Os) (started:os.Started) (H:Type) (enc:TypeId×Value→H) :
  ReturnsInHanded {} Tryz.checked os 3 .any (Rows.topSpunHeatsSpec.pre6 enc Tryz.prog Tryz.f3 Rows.topSpunHeatsRow.domain false) (Rows.topSpunHeatsSpec.post enc Tryz.prog Tryz.f3 false true false false):=by
 refine returnsInHanded_of_change (C:=Tryz.checked) afD started oK Tryz.func3
  (ChangeSpec.witness6 (enc:=enc) (C:=Tryz.checked) false ⟨#[],#[.agg #[.int .i64 0,.int .i64 0,.int .i64 0,.int .i64 0,.int .i64 0],.slice none 0 0,.slice none 0 0,.int .u8 0,.int .u32 0,.int .u32 0],[]⟩ 8 oK oK oK oK) ?_
 intro W r k ds gs before g hW hcnd _
 have c:∀ (j:Nat) t v,Tryz.f3.params[j]?=some t→k[j]?=some v→Value.okWide Tryz.prog W .any r t v:=g
 have m:=hW
 obtain ⟨p,q,A,hV,rfl,hfz,hnd⟩:=hW
 have hA:DataW.TrodAll enc Tryz.prog W 0 (fun _=>true) true Tryz.f3.params.toList k.toList ds p:=A
 rw [Tryz.params3] at hA c
 obtain ⟨v0,v1,v2,v3,v4,v5,d0,d1,d2,d3,d4,d5,p0,p1,p2,p3,p4,p5,rfl,rfl,rfl,h0,h1,h2,h3,h4,h5⟩:=Xg hA
 obtain ⟨rfl,rfl⟩:=trodVars_none hV
 clear A g
 simp only [bL] at m
 have D:∀ x ∈ p0++p1++p2++p3++p4++p5,x.block<W.heap.size:=fun x hx=>m.lt x hx
 obtain ⟨s0,e0,hs0a,y,hs0c,hs0d,hs0e⟩:=Xf (c 0 25 v0 rfl rfl) h0
 subst e0
 obtain ⟨l1,s,B,hb1⟩:=aay Tryz.underlying26 Tryz.underlying2 oK (c 1 26 v1 rfl rfl) h1
 obtain ⟨l2,u,z,hb2⟩:=aaz (c 2 27 v2 rfl rfl) h2
 obtain ⟨n3,e3,G⟩:=afC Tryz.underlying5 (c 3 5 v3 rfl rfl) h3
 subst e3
 obtain ⟨n4,e4,E⟩:=UN Tryz.underlying28 (c 4 28 v4 rfl rfl) h4
 subst e4
 obtain ⟨n5,e5,F⟩:=UN Tryz.underlying28 (c 5 28 v5 rfl rfl) h5
 subst e5
 have l:eU Tryz.prog 3 [s0.val,.slice (some ⟨0,0,none⟩) l1.length l1.length,.slice (some ⟨1,0,none⟩) l2.length l2.length,.int .u8 n3,.int .u32 n4,.int .u32 n5] [.ro (ints l1),.ro (dI l2)] fun v _=>v=.bool true:=(QI (σ:=[.ro (ints l1),.ro (dI l2)]) (.inl rfl) (.inl rfl) y G E F rfl).mono fun v s' h=>h.1
 refine (Za (ρ:=(fun i=>if i=0 then s else u)) (w:=W) (ar:=#[s0.val,v1,v2,.int .u8 n3,.int .u32 n4,.int .u32 n5]) l (fun i o ho=>?_) ⟨rfl,fun i hi hi'=>?_⟩).mono fun e W' ⟨he,hg⟩=>?_
 ·match i,ho with
  |0,ho=>cases ho;exact ⟨_,rfl,fun n=>B.hro (bC l1) (fun i=>if i=0 then s else u) 0 _ rfl n⟩
  |1,ho=>cases ho;exact ⟨_,rfl,fun n=>z.hro (gW l2) (fun i=>if i=0 then s else u) 1 _ rfl n⟩
 ·match i,hi with
  |0,_=>exact aY _ rfl
  |1,_=>exact B.rel _ _ 0 oS rfl
  |2,_=>exact z.rel _ _ 1 oS rfl
  |3,_=>exact aY _ rfl
  |4,_=>exact aY _ rfl
  |5,_=>exact aY _ rfl
 subst he
 have a:∀ (t:TypeId) (hr:Tryz.prog.readableRec t=true) (ht:t<Tryz.prog.types.size) (v:Value) (d:DataW H) (q:List MemPlace) (h:DataW.Trod enc Tryz.prog W 0 (fun _=>true) true t v d q) (hq:∀ x ∈ q,x ∈ p0++p1++p2++p3++p4++p5)
   (sp:Nat→Bool) (f:∀ x ∈ p0++p1++p2++p3++p4++p5,sp x.block=true),DataW.Trod enc Tryz.prog W' 0 sp true t v d q:=fun t hr ht v d q h hq sp f =>
  WideElems.Trod_stays adJ hr ht h (fun x hx=>hg.same (D x (hq x hx))) fun x hx=>f x (hq x hx)
 exact ⟨_,rfl,Vp (pa:=(p0++(p1++(p2++(p3++(p4++p5)))))) (pv:=[]) m (fun _ _ _=>(trodAll_cons_mk (shut_bool Tryz.underlying4 _) trodAll_mk0))
  (fun sp f=>QM (a 25 Xh (of_decide_eq_true oK) _ _ _ h0 (fun x hx=>by simp [hx]) sp f)
   (a 26 readable26 (of_decide_eq_true oK) _ _ _ h1 (fun x hx=>by simp [hx]) sp f)
   (a 27 Xi (of_decide_eq_true oK) _ _ _ h2 (fun x hx=>by simp [hx]) sp f)
   (a 5 aaA (of_decide_eq_true oK) _ _ _ h3 (fun x hx=>by simp [hx]) sp f)
   (a 28 LD (of_decide_eq_true oK) _ _ _ h4 (fun x hx=>by simp [hx]) sp f)
   (a 28 LD (of_decide_eq_true oK) _ _ _ h5 (fun x hx=>by simp [hx]) sp f)) (fun _ _=>rfl) oS
  hg (ok_one oK rfl (okWide_bool_mk Tryz.underlying4 _))⟩
set_option maxRecDepth 100000 in
theorem adK:Tryz.prog.closure 3=[3,11,64,12,65,130,75,131,233,232,46,104,167,81,173,172,102,82,19,20,77,166,254,255,287,249,284,256,78,22,132,133,235,280,234,134,79,168,257,171,258,170,80,169,21,135,236,281,297,298,136,237,238,137,138,239,282,76,101,43,240,231,139,140,66,141,241,35,92,193,84,174,194,265,25,26,85,175,86,112,219,220,278,177,180,176,179,178,142,143,27,53,110,111,114,115,113,222,221,31,90,184,28,87,182,181,144,242,283,243,244,145,146,245,24,83,89,30,50,147,148,67,149,158,150,151,69,162,165,253,163,246,152,247,14,70,164,251,252,286,285,15,71,72,73,74,153,23,154,155,248,156,157,250,159,160,161,13,68,16,17,18]:=by kernel_rfl
theorem Xj:Tryz.prog.inPlace 3=Rows.topSpunHeatsRow.inPlace:=by unfold Program.inPlace;rw [adK];kernel_rfl
theorem adL:Tryz.prog.unfollowed 3=true:=by unfold Program.unfollowed;rw [adK];kernel_rfl
theorem ah9:Tryz.prog.recurses 3=true:=by unfold Program.recurses;rw [adL];rfl
theorem adM:Tryz.prog.varsNamed 3=Rows.topSpunHeatsRow.named:=by unfold Program.varsNamed;rw [adK];kernel_rfl
theorem jf:joinedFacts Tryz.prog 3 Tryz.f3 Rows.topSpunHeatsSpec Rows.topSpunHeatsRow=true:=by
 unfold joinedFacts
 rw [Xj,adL,ah9,adM]
 kernel_rfl
theorem topSpunHeats_holds:Rows.TopSpunHeatsSaid :=
 OpenClaim.holds_of_wide 3 Tryz.f3 rfl rfl rfl rfl rfl rfl rfl ⟨rfl,rfl,rfl,rfl,rfl⟩ rfl rfl rfl rfl rfl oK Tryz.func3 jf
  (of_decide_eq_true oK) (by unfold Func.isWrapper;first|(rw [if_pos (by decide +kernel)];kernel_rfl)|(rw [if_neg (by decide +kernel)];exact ⟨rfl,rfl⟩))
  (fun os a H c _=>topSpunHeats_lifted os a H c)
#print axioms topSpunHeats_holds
end Go.Proofs.YtajpgeklmcjciaaGreat
