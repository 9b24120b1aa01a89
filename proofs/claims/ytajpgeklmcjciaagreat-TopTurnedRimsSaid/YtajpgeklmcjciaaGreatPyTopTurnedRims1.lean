/- bolstertop.TopTurnedRims returns true for every input, on every schedule; the input reads as it did.  Conditions: none. -/
import Derived.Test.YtajpgeklmcjciaaGreatRows
import Derived.Test.YtajpgeklmcjciaaGreatPyQ7
open Go.Proofs.Tryz
namespace Go.Proofs.YtajpgeklmcjciaaGreat
open Go Go.AH Go.ChangeShapes Go.WideShapes Go.ChangeAt Go.RowKit
theorem agG:ownKnob prog.godebug=none:=by kernel_rfl
theorem aeL:laidOutB prog=true:=by kernel_rfl
theorem X0:prog.readableRec 25=true:=by kernel_rfl
theorem readable26:prog.readableRec 26=true:=by kernel_rfl
theorem X4:prog.readableRec 27=true:=by kernel_rfl
theorem X5:prog.readableRec 63=true:=by kernel_rfl
theorem X6:prog.readableRec 64=true:=by kernel_rfl
set_option maxRecDepth 100000 in
theorem topTurnedRims_lifted (os:Os) (started:os.Started) (H:Type) (enc:TypeId×Value->H) :
  ReturnsInHanded {} Tryz.checked os 4 .any (Rows.topTurnedRimsSpec.pre6 enc prog Tryz.f4 Rows.topTurnedRimsRow.domain false) (Rows.topTurnedRimsSpec.post enc prog Tryz.f4 false true false false):=by
 refine returnsInHanded_of_change (C:=Tryz.checked) agG started oK func4
  (ChangeSpec.witness6 (enc:=enc) (C:=Tryz.checked) false ⟨#[],#[.agg #[.int .i64 0,.int .i64 0,.int .i64 0,.int .i64 0,.int .i64 0],.slice none 0 0,.slice none 0 0,.slice none 0 0,.int .u16 0,.slice none 0 0],[]⟩ 8 oK oK oK oK) ?_
 intro W z l ds gs before g hW hcnd _
 have c:∀ (j:Nat) t v,Tryz.f4.params[j]?=some t->l[j]?=some v->Value.okWide prog W .any z t v:=g
 have B:=hW
 obtain ⟨p,q,F,hV,rfl,hfz,hnd⟩:=hW
 have hA:DataW.TrodAll enc prog W 0 (fun _=>true) true Tryz.f4.params.toList l.toList ds p:=F
 rw [Tryz.params4] at hA c
 obtain ⟨v0,v1,v2,v3,v4,v5,d0,d1,d2,d3,d4,d5,p0,p1,p2,p3,p4,p5,rfl,rfl,rfl,h0,h1,h2,h3,h4,h5⟩:=XY hA
 obtain ⟨rfl,rfl⟩:=trodVars_none hV
 clear F g
 simp only [bN] at B
 have L:∀ x ∈ p0++p1++p2++p3++p4++p5,x.block<W.heap.size:=fun x hx=>B.lt x hx
 obtain ⟨s0,e0,hs0a,A,hs0c,hs0d,hs0e⟩:=XW (c 0 25 v0 rfl rfl) h0
 subst e0
 obtain ⟨l1,s,G,hb1⟩:=OY Tryz.underlying26 Tryz.underlying2 oK (c 1 26 v1 rfl rfl) h1
 obtain ⟨l2,r,D,hb2⟩:=abw (c 2 27 v2 rfl rfl) h2
 obtain ⟨l3,m,E,J⟩:=XZ Tryz.underlying63 Tryz.underlying64 oK (c 3 63 v3 rfl rfl) h3
 obtain ⟨n4,e4,K⟩:=aeK Tryz.underlying64 (c 4 64 v4 rfl rfl) h4
 subst e4
 obtain ⟨l5,y,I,hb5⟩:=OY Tryz.underlying26 Tryz.underlying2 oK (c 5 26 v5 rfl rfl) h5
 have u:eu prog 4 [s0.val,.slice (some ⟨0,0,none⟩) l1.length l1.length,.slice (some ⟨1,0,none⟩) l2.length l2.length,.slice (some ⟨2,0,none⟩) l3.length l3.length,.int .u16 n4,.slice (some ⟨3,0,none⟩) l5.length l5.length] [.ro (ints l1),.ro (dL l2),.ro (yJ .u16 l3),.ro (ints l5)] fun v _=>v=.bool true:=(MQ (U:=[.ro (ints l1),.ro (dL l2),.ro (yJ .u16 l3),.ro (ints l5)]) (.inl rfl) (.inl rfl) (.inl rfl) (.inl rfl) A (ajd (Q:=fun n=>0<=n/\n<=65535) (fun n hn=>by have:=J n hn;simp only [Lit.wf,aE,decide_eq_true_eq] at this;exact this) ⟨dy _,by decide⟩) K rfl).mono fun v s' h=>h.1
 refine (ZX (V:=(fun i=>if i=0 then s else if i=1 then r else if i=2 then m else y)) (w:=W) (ar:=#[s0.val,v1,v2,v3,.int .u16 n4,v5]) u (fun i o ho=>?_) ⟨rfl,fun i hi hi'=>?_⟩).mono fun e W' ⟨he,hg⟩=>?_
 ·match i,ho with
  |0,ho=>cases ho;exact ⟨_,rfl,fun k=>G.hro (aZ l1) (fun i=>if i=0 then s else if i=1 then r else if i=2 then m else y) 0 _ rfl k⟩
  |1,ho=>cases ho;exact ⟨_,rfl,fun k=>D.hro (iy l2) (fun i=>if i=0 then s else if i=1 then r else if i=2 then m else y) 1 _ rfl k⟩
  |2,ho=>cases ho;exact ⟨_,rfl,fun k=>E.hro (Vs _ l3) (fun i=>if i=0 then s else if i=1 then r else if i=2 then m else y) 2 _ rfl k⟩
  |3,ho=>cases ho;exact ⟨_,rfl,fun k=>I.hro (aZ l5) (fun i=>if i=0 then s else if i=1 then r else if i=2 then m else y) 3 _ rfl k⟩
 ·match i,hi with
  |0,_=>exact bF _ rfl
  |1,_=>exact G.rel _ _ 0 oS rfl
  |2,_=>exact D.rel _ _ 1 oS rfl
  |3,_=>exact E.rel _ _ 2 oS rfl
  |4,_=>exact bF _ rfl
  |5,_=>exact I.rel _ _ 3 oS rfl
 subst he
 have a:∀ (t:TypeId) (hr:prog.readableRec t=true) (ht:t<prog.types.size) (v:Value) (d:DataW H) (q:List MemPlace) (h:DataW.Trod enc prog W 0 (fun _=>true) true t v d q) (hq:∀ x ∈ q,x ∈ p0++p1++p2++p3++p4++p5)
   (sp:Nat->Bool) (f:∀ x ∈ p0++p1++p2++p3++p4++p5,sp x.block=true),DataW.Trod enc prog W' 0 sp true t v d q:=fun t hr ht v d q h hq sp f =>
  WideElems.Trod_stays aeL hr ht h (fun x hx=>hg.same (L x (hq x hx))) fun x hx=>f x (hq x hx)
 exact ⟨_,rfl,VW (pa:=(p0++(p1++(p2++(p3++(p4++p5)))))) (pv:=[]) B (fun _ _ _=>(trodAll_cons_mk (shut_bool Tryz.underlying4 _) trodAll_mk0))
  (fun sp f=>Ru (a 25 X0 (of_decide_eq_true oK) _ _ _ h0 (fun x hx=>by simp [hx]) sp f)
   (a 26 readable26 (of_decide_eq_true oK) _ _ _ h1 (fun x hx=>by simp [hx]) sp f)
   (a 27 X4 (of_decide_eq_true oK) _ _ _ h2 (fun x hx=>by simp [hx]) sp f)
   (a 63 X5 (of_decide_eq_true oK) _ _ _ h3 (fun x hx=>by simp [hx]) sp f)
   (a 64 X6 (of_decide_eq_true oK) _ _ _ h4 (fun x hx=>by simp [hx]) sp f)
   (a 26 readable26 (of_decide_eq_true oK) _ _ _ h5 (fun x hx=>by simp [hx]) sp f)) (fun _ _=>rfl) oS
  hg (ok_one oK rfl (okWide_bool_mk Tryz.underlying4 _))⟩
set_option maxRecDepth 100000 in
theorem aeM:prog.closure 4=[4,11,64,12,65,130,75,131,233,232,46,104,167,81,173,172,102,82,19,20,77,166,254,255,287,249,284,256,78,22,132,133,235,280,234,134,79,168,257,171,258,170,80,169,21,135,236,281,297,298,136,237,238,137,138,239,282,76,101,43,240,231,139,140,66,141,241,35,92,193,84,174,194,265,25,26,85,175,86,112,219,220,278,177,180,176,179,178,142,143,27,53,110,111,114,115,113,222,221,31,90,184,28,87,182,181,144,242,283,243,244,145,146,245,24,83,89,30,50,147,148,67,149,158,150,151,69,162,165,253,163,246,152,247,14,70,164,251,252,286,285,15,71,72,73,74,153,23,154,155,248,156,157,250,159,160,161,13,68,16,29,88,183]:=by kernel_rfl
theorem X7:prog.inPlace 4=Rows.topTurnedRimsRow.inPlace:=by unfold Program.inPlace;rw [aeM];kernel_rfl
theorem aeN:prog.unfollowed 4=true:=by unfold Program.unfollowed;rw [aeM];kernel_rfl
theorem aje:prog.recurses 4=true:=by unfold Program.recurses;rw [aeN];rfl
theorem aeO:prog.varsNamed 4=Rows.topTurnedRimsRow.named:=by unfold Program.varsNamed;rw [aeM];kernel_rfl
theorem jf:joinedFacts prog 4 Tryz.f4 Rows.topTurnedRimsSpec Rows.topTurnedRimsRow=true:=by
 unfold joinedFacts
 rw [X7,aeN,aje,aeO]
 kernel_rfl
theorem topTurnedRims_holds:Rows.TopTurnedRimsSaid :=
 OpenClaim.holds_of_wide 4 Tryz.f4 rfl rfl rfl rfl rfl rfl rfl ⟨rfl,rfl,rfl,rfl,rfl⟩ rfl rfl rfl rfl rfl oK func4 jf
  (of_decide_eq_true oK) (by unfold Func.isWrapper;first|(rw [if_pos (by decide +kernel)];kernel_rfl)|(rw [if_neg (by decide +kernel)];exact ⟨rfl,rfl⟩))
  (fun os a H c _=>topTurnedRims_lifted os a H c)
#print axioms topTurnedRims_holds
end Go.Proofs.YtajpgeklmcjciaaGreat
