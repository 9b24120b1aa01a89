/- As the text before it. -/
import Derived.Test.YtajpgeklmcjciaaGreatPyQ5b
set_option maxRecDepth 100000
set_option maxHeartbeats 8000000
open Go.Proofs.Tryz
open Go Go.AH
namespace Go.AH
structure St where
 long:Int
 short:Int
 off:Int
 lo:Int
 hi:Int
def St.cells (s:St):List Value:=[.int .i64 s.long,.int .i64 s.short,.int .i64 s.off,.int .i64 s.lo,.int .i64 s.hi]
def St.val (s:St):Value:=.agg #[.int .i64 s.long,.int .i64 s.short,.int .i64 s.off,.int .i64 s.lo,.int .i64 s.hi]
def fB (s:St):Prop:=s.short<1\/s.short > s.long\/s.long > 100000\/s.off<0\/s.off>=s.short\/s.lo<0\/s.lo > s.hi\/s.hi > 1000000000
instance (s:St):Decidable (fB s):=by unfold fB;infer_instance
def tX (l:List Int):Bool:=(List.range l.length).any fun i=>gi l i<1 || gi l i > 10000
theorem pF {l:List Int}:tX l=true↔∃ i<l.length,gi l i<1\/gi l i > 10000:=by simp [tX]
def gX (s:St) (l:List Int):Int :=
 if l.length<1\/l.length > 12 then 6 else if fB s then 2 else if tX l=true then 3 else 0
end Go.AH
namespace Go.Proofs.YtajpgeklmcjciaaGreat
attribute [local irreducible] dA bJ bK jh fQ dK eH bY eu aW dR dW
theorem Gx (s:St) (l:List Int) (c:Nat) :
  Ev prog 64 [s.val,.s 0 l.length c] [.ro (ints l)] (.i (gX s l)) [.ro (ints l)]:=by
 refine aH 1 80 func64 (h:=?_)
 repeat' (first|refine sCm ?_|(refine gU ?_;first|refine Iw ?_|refine sK0 ?_|(refine lM ?_;first|refine st (kC rfl (by first|rfl|exact fE oA) rfl) rfl rfl ?_|refine st (je rfl (by exact bM oA) rfl) rfl rfl ?_))|(refine gG ?_;first|refine WE ?_|(refine gFA ?_;refine stG rfl (by exact bM oA) (bD rfl) rfl rfl ?_)|(refine cO ?_;refine stG rfl (by exact bM oA) (aJ rfl oR) rfl rfl ?_)|refine TJ ?_|(refine Iq ?_;refine stG rfl (by exact bM oA) (lY rfl) rfl rfl ?_)|refine stS rfl (by first|rfl|exact fE oA) rfl ?_|((fail_if_success (refine VO rfl oR ?_));(refine zC rfl ?_ ?_ <;> intro _)))|refine aG ?_|refine oV rfl oR ?_|(refine jm rfl ?_ ?_ <;> intro _))
 all_goals try
  refine dG (.tmp rfl .nil) (.plain rfl rfl) ⟨?_,rfl⟩
  simp only [jH,gX,fB]
  congr 1
  repeat' split
  all_goals first|rfl|omega
 refine jq (ι:=Nat) (fun i=>[(1,.s 0 l.length c),(5,.i (i:Int))]) (fun _=>[.ro (ints l),.rw s.cells]) (fun i=>l.length - i)
  (fun i=>i<=l.length/\∀ j<i,¬ (gi l j<1\/gi l j > 10000)) 0 oS (.same tE) ⟨oO,fun j h=>oO⟩ ?_
 intro i ⟨hi,a⟩
 have hc1:i<l.length->aI [.ro (ints l),.rw s.cells] 0 i=some (.i (gi l i)):=fun h=>iF h
 repeat' (first|refine sCm ?_|(refine gU ?_;first|(refine cO ?_;refine st (aJ rfl (by exact hc1 oO)) rfl rfl ?_)|refine sK0 ?_|(refine lM ?_;first|refine st (kC rfl (by exact fE oA) rfl) rfl rfl ?_|refine st (je rfl (by exact bM oA) rfl) rfl rfl ?_)|refine sK6 ?_)|(refine gG ?_;first|refine WE ?_|(refine cO ?_;refine stG rfl (by exact bM oA) (aJ rfl (by exact hc1 oO)) rfl rfl ?_)|refine TJ ?_|(refine gIA ?_;refine stG rfl (by exact bM oA) (qR rfl rfl oO) rfl rfl ?_)|refine aap ?_|((fail_if_success (refine VO rfl oR ?_));(refine zC rfl ?_ ?_ <;> intro _)))|refine aG ?_|refine oV rfl oR ?_|(refine jm rfl ?_ ?_ <;> intro _))
 ·refine dG (.tmp rfl .nil) (.plain rfl rfl) ⟨?_,rfl⟩
  simp only [jH,gX]
  rw [if_neg oO,if_neg (by unfold fB;omega),if_pos (pF.2 ⟨i,oO,oO⟩)]
 ·refine dG (.tmp rfl .nil) (.plain rfl rfl) ⟨?_,rfl⟩
  simp only [jH,gX]
  rw [if_neg oO,if_neg (by unfold fB;omega),if_pos (pF.2 ⟨i,oO,oO⟩)]
 ·refine ⟨rfl,i+1,⟨oO,fun j hj=>?_⟩,oO,.same tE⟩
  by_cases d:j=i
  ·subst d;omega
  ·exact a j oO
 ·refine dG (.tmp rfl .nil) (.plain rfl rfl) ⟨?_,rfl⟩
  simp only [jH,gX]
  rw [if_neg oO,if_neg (by unfold fB;omega),if_neg]
  rw [pF]
  rintro ⟨j,hj,hb⟩
  exact a j oO hb
theorem XE (n lo hi:Int):Ev prog 253 [.i n,.p 0,.p 1] [.ro [.i lo],.ro [.i hi]] (.bool (decide (n<lo\/n > hi))) [.ro [.i lo],.ro [.i hi]]:=by
 refine aH 2 13 func253 (h:=?_)
 repeat' (first|refine sCm ?_|(refine gU ?_;first|refine Iw ?_|refine sK0 ?_|(refine lM ?_;first|refine st (kC rfl (by exact fE oA) rfl) rfl rfl ?_|refine st (je rfl (by exact bM oA) rfl) rfl rfl ?_))|(refine gG ?_;first|refine WE ?_|(refine cO ?_;refine stG rfl (by exact bM oA) (aJ rfl oR) rfl rfl ?_)|refine TJ ?_|refine aap ?_|((fail_if_success (refine VO rfl oR ?_));(refine zC rfl ?_ ?_ <;> intro _)))|refine aG ?_)
 all_goals
  refine dG (.tmp rfl .nil) (.plain rfl rfl) ⟨?_,rfl⟩
  simp only [jH,Value.bool.injEq]
  (simp;omega)
theorem XF {U:Heap} {n lo hi:Int} {a b:Nat} (ha:dD U a [.i lo]) (hb:dD U b [.i hi]) (hni:Ni U) :
  Ev prog 253 [.i n,.p a,.p b] U (.bool (decide (n<lo\/n > hi))) U :=
 Ev.arrs [[.i lo],[.i hi]] [a,b] (XE n lo hi) ⟨ha,hb,trivial⟩ ⟨.int _ _,by simpa [bsR] using VQ.ptr (q:=true) (n:=2) (V:=bsR [a,b]) 0 0 oO,by simpa [bsR] using VQ.ptr (q:=true) (n:=2) (V:=bsR [a,b]) 1 0 oO,trivial⟩ rfl rfl hni
theorem QO (l:List Int) (lo hi:Int) (c:Nat) (hN:l.length<=1000000) :
  Ev prog 102 [.s 0 l.length c,.func (.func 253) #[] #[.p 1,.p 2]] [.ro (ints l),.ro [.i lo],.ro [.i hi]] (.i (kR lo hi l)) [.ro (ints l),.ro [.i lo],.ro [.i hi]]:=by
 refine aH 3 19 func102 (h:=?_)
 repeat' (first|refine sCm ?_|refine aG ?_)
 refine jq (ι:=Nat) (fun i=>[(0,.s 0 l.length c),(1,.func (.func 253) #[] #[.p 1,.p 2]),(7,.i (l.length:Int)),(8,.i (i:Int))])
  (fun _=>[.ro (ints l),.ro [.i lo],.ro [.i hi]]) (fun i=>l.length - i) (fun i=>i<=l.length/\∀ j<i,¬ (gi l j<lo\/gi l j > hi)) 0 oS (.same tE) ⟨oO,fun j h=>oO⟩ ?_
 intro i ⟨hi',a⟩
 have hc1:i<l.length->aI [.ro (ints l),.ro [.i lo],.ro [.i hi]] 0 i=some (.i (gi l i)):=fun h=>iF h
 repeat' (first|refine sCm ?_|(refine gU ?_;first|(refine cO ?_;refine st (aJ rfl (by exact hc1 oO)) rfl rfl ?_)|refine sK0 ?_|refine sK6 ?_|(refine dV ?_;refine st (bC rfl rfl rfl (by exact XF (by exact .inl rfl) (by exact .inl rfl) rfl)) rfl rfl ?_))|refine aG ?_|(refine jm rfl ?_ ?_ <;> intro _))
 ·refine dG (.tmp rfl .nil) (.plain rfl rfl) ⟨?_,rfl⟩
  simp only [jH]
  rw [su oO oA a]
 ·refine ⟨rfl,i+1,⟨oO,fun j hj=>?_⟩,oO,.same tE⟩
  by_cases d:j=i
  ·subst d;assumption
  ·exact a j oO
 ·refine dG (.tmp rfl .nil) (.plain rfl rfl) ⟨?_,rfl⟩
  simp only [jH]
  rw [sD fun j hj=>a j oO]
theorem QS {U:Heap} {l:List Int} {lo hi:Int} {x a b c:Nat} (hx:dD U x (ints l)) (ha:dD U a [.i lo]) (hb:dD U b [.i hi]) (hN:l.length<=1000000) (hni:Ni U) :
  Ev prog 102 [.s x l.length c,.func (.func 253) #[] #[.p a,.p b]] U (.i (kR lo hi l)) U :=
 Ev.arrs [ints l,[.i lo],[.i hi]] [x,a,b] (QO l lo hi c hN) ⟨hx,ha,hb,trivial⟩
  ⟨by simpa [bsR] using VQ.slice (q:=true) (n:=3) (V:=bsR [x,a,b]) 0 0 l.length c c (aD _) oO,
   vsub_fn2 (by simpa [bsR] using VQ.ptr (q:=true) (n:=3) (V:=bsR [x,a,b]) 1 0 oO) (by simpa [bsR] using VQ.ptr (q:=true) (n:=3) (V:=bsR [x,a,b]) 2 0 oO),trivial⟩ (by simp [aZ,dN,plain]) rfl hni
theorem IB (l:List Int) (lo hi:Int) (c:Nat) (hN:l.length<=1000000) :
  Ev prog 172 [.s 0 l.length c,.func (.func 253) #[] #[.p 1,.p 2]] [.ro (ints l),.ro [.i lo],.ro [.i hi]] (.bool (decide (kR lo hi l>=0))) [.ro (ints l),.ro [.i lo],.ro [.i hi]]:=by
 refine aH 3 9 func172 (h:=?_)
 repeat' (first|refine sCm ?_|(refine gU ?_;first|refine sK0 ?_|(refine dV ?_;refine st (bC rfl rfl rfl (by exact QS (by exact .inl rfl) (by exact .inl rfl) (by exact .inl rfl) oO rfl)) rfl rfl ?_))|refine aG ?_)
 refine dG (.tmp rfl .nil) (.plain rfl rfl) ⟨?_,rfl⟩
 rfl
theorem IC {U:Heap} {l:List Int} {lo hi:Int} {x a b c:Nat} (hx:dD U x (ints l)) (ha:dD U a [.i lo]) (hb:dD U b [.i hi]) (hN:l.length<=1000000) (hni:Ni U) :
  Ev prog 172 [.s x l.length c,.func (.func 253) #[] #[.p a,.p b]] U (.bool (decide (kR lo hi l>=0))) U :=
 Ev.arrs [ints l,[.i lo],[.i hi]] [x,a,b] (IB l lo hi c hN) ⟨hx,ha,hb,trivial⟩
  ⟨by simpa [bsR] using VQ.slice (q:=true) (n:=3) (V:=bsR [x,a,b]) 0 0 l.length c c (aD _) oO,
   vsub_fn2 (by simpa [bsR] using VQ.ptr (q:=true) (n:=3) (V:=bsR [x,a,b]) 1 0 oO) (by simpa [bsR] using VQ.ptr (q:=true) (n:=3) (V:=bsR [x,a,b]) 2 0 oO),trivial⟩ (by simp [aZ,dN,plain]) rfl hni
theorem aa7 (l:List Int) (lo hi:Int) (c:Nat) (hN:l.length<=1000000) :
  Ev prog 165 [.i lo,.i hi,.s 0 l.length c] [.ro (ints l)] (.bool (decide (¬ (kR lo hi l>=0)))) [.ro (ints l)]:=by
 refine aH 1 11 func165 (h:=?_)
 repeat' (first|refine sCm ?_|(refine gU ?_;first|refine TK ?_|refine sK7 ?_|(refine dV ?_;refine st (bC rfl rfl rfl (by exact IC (by exact .inl rfl) (by exact .inr (.inl rfl)) (by exact .inr (.inl rfl)) oO rfl)) rfl rfl ?_))|refine aG ?_)
 refine dG (.tmp rfl .nil) (.plain rfl rfl) ⟨?_,rfl⟩
 rfl
theorem Gy {U:Heap} {l:List Int} {lo hi:Int} {x c:Nat} (hx:dD U x (ints l)) (hN:l.length<=1000000) (hni:Ni U) :
  Ev prog 165 [.i lo,.i hi,.s x l.length c] U (.bool (decide (¬ (kR lo hi l>=0)))) U :=
 Ev.arrs [ints l] [x] (aa7 l lo hi c hN) ⟨hx,trivial⟩ ⟨.int _ _,.int _ _,by simpa [bsR] using VQ.slice (q:=true) (n:=1) (V:=bsR [x]) 0 0 l.length c c (aD _) oO,trivial⟩ (by simp [aZ]) rfl hni
theorem _root_.Go.AH.U0 {l:List Int}:kR 1 10000 l>=0↔tX l=true:=by rw [Oa,pF]
theorem LJ {U:Heap} {a lo hi:Int} {x c:Nat} (hx:dD U x [.i a]) (hni:Ni U) :
  Ev prog 165 [.i lo,.i hi,.s x 1 c] U (.bool (decide (lo<=a/\a<=hi))) U:=by
 have h:=Gy (U:=U) (l:=[a]) (lo:=lo) (hi:=hi) (c:=c) hx oS hni
 have e:(¬ (kR lo hi [a]>=0))↔(lo<=a/\a<=hi):=by
  by_cases hb:a<lo\/a > hi
  ·rw [su (l:=[a]) (i:=0) oS (by simpa [gi] using hb) (fun j hj=>oO)];simp;omega
  ·rw [sD (l:=[a]) (fun j hj=>by
                        have:j=0:=by simpa using hj
                        subst this;simpa [gi] using hb)];simp;omega
 simpa [e] using h
theorem Dw {U:Heap} {a b lo hi:Int} {x c:Nat} (hx:dD U x [.i a,.i b]) (hni:Ni U) :
  Ev prog 165 [.i lo,.i hi,.s x 2 c] U (.bool (decide ((lo<=a/\a<=hi)/\lo<=b/\b<=hi))) U:=by
 have h:=Gy (U:=U) (l:=[a,b]) (lo:=lo) (hi:=hi) (c:=c) hx oS hni
 have e:(¬ (kR lo hi [a,b]>=0))↔((lo<=a/\a<=hi)/\lo<=b/\b<=hi):=by
  by_cases ha:a<lo\/a > hi
  ·rw [su (l:=[a,b]) (i:=0) oS (by simpa [gi] using ha) (fun j hj=>oO)];simp;omega
  ·by_cases hb:b<lo\/b > hi
   ·rw [su (l:=[a,b]) (i:=1) oS (by simpa [gi] using hb) (fun j hj=>by
                                                 have:j=0:=oO
                                                 subst this;simpa [gi] using ha)];simp;omega
   ·rw [sD (l:=[a,b]) (fun j hj=>by
     have:j=0\/j=1:=by simp at hj;omega
     rcases this with rfl|rfl
     ·simpa [gi] using ha
     ·simpa [gi] using hb)];simp;omega
 simpa [e] using h
theorem Dx:Ev prog 246 [] [] (.agg #[.i 100001,.i (-1)]) []:=by
 refine aH 0 2 func246 (h:=?_)
 repeat' (first|refine sCm ?_|(refine gU ?_;first|refine FP ?_|refine TN ?_)|refine aG ?_)
 refine dG (.cellN inferInstance rfl rfl .nil) (.plain rfl rfl) ⟨rfl,rfl⟩
theorem Gz (s:St) (l:List Int) (c:Nat) (hN:l.length<=1000000) (hr:-9223372036854775808<=s.short/\s.short<=9223372036854775807) :
  Ev prog 162 [s.val,.s 0 l.length c] [.ro (ints l)] (.i (gX s l)) [.ro (ints l)]:=by
 refine aH 1 63 func162 (h:=?_)
 repeat' (first|refine sCm ?_|(refine gU ?_;first|refine Iw ?_|refine sK0 ?_|(refine lM ?_;first|refine st (kC rfl (by first|rfl|exact fE oA) rfl) rfl rfl ?_|refine st (je rfl (by exact bM oA) rfl) rfl rfl ?_)|refine TK ?_|(refine dV ?_;refine st (bC rfl rfl rfl (by first|exact Dw (by exact .inr (.inl rfl)) rfl|exact Gy (by exact .inl rfl) oO rfl)) rfl rfl ?_)|refine Me ?_)|(refine gG ?_;first|refine WE ?_|(refine gFA ?_;refine stG rfl (by exact bM oA) (bD rfl) rfl rfl ?_)|(refine cO ?_;refine stG rfl (by exact bM oA) (aJ rfl oR) rfl rfl ?_)|(refine ae6 ?_;refine stG rfl (by exact bM oA) (xG rfl rfl oO oO) rfl rfl ?_)|refine TJ ?_|(refine Iq ?_;refine stG rfl (by exact bM oA) (lY rfl) rfl rfl ?_)|(refine rW ?_;refine stG rfl (by exact bM oA) (Ba rfl) rfl rfl ?_)|(refine dV ?_;refine stG rfl (by exact bM oA) (bC rfl rfl rfl (by first|exact LJ (by exact .inr (.inl rfl)) rfl|exact Dw (by exact .inr (.inl rfl)) rfl)) rfl rfl ?_)|(refine Bc ?_;refine stG rfl (by exact bM oA) (oW oR oR oR oR rfl oR) rfl rfl ?_)|refine stS rfl (by first|rfl|exact fE oA) rfl ?_|((fail_if_success (refine VO rfl oR ?_));(refine zC rfl ?_ ?_ <;> intro _)))|refine aG ?_|refine oV rfl oR ?_|(refine jm rfl ?_ ?_ <;> intro _))
 all_goals
  refine dG (.tmp rfl .nil) (.plain rfl rfl) ⟨?_,rfl⟩
  simp only [jH,gX,<- U0]
  congr 1
  unfold fB
  repeat' split
  all_goals first|rfl|omega
theorem GH {U:Heap} {s:St} {l:List Int} {x c:Nat} (hx:dD U x (ints l)) (hN:l.length<=1000000) (hr:-9223372036854775808<=s.short/\s.short<=9223372036854775807) (hni:Ni U) :
  Ev prog 162 [s.val,.s x l.length c] U (.i (gX s l)) U :=
 Ev.arrs [ints l] [x] (Gz s l c hN hr) ⟨hx,trivial⟩ ⟨bF _ rfl,by simpa [bsR] using VQ.slice (q:=true) (n:=1) (V:=bsR [x]) 0 0 l.length c c (aD _) oO,trivial⟩ (by simp [aZ]) rfl hni
theorem sQ {U:Heap} {s:St} {l:List Int} {x c:Nat} (hx:dD U x (ints l)) (hni:Ni U) :
  Ev prog 64 [s.val,.s x l.length c] U (.i (gX s l)) U :=
 Ev.arrs [ints l] [x] (Gx s l c) ⟨hx,trivial⟩ ⟨bF _ rfl,by simpa [bsR] using VQ.slice (q:=true) (n:=1) (V:=bsR [x]) 0 0 l.length c c (aD _) oO,trivial⟩ (by simp [aZ]) rfl hni
end Go.Proofs.YtajpgeklmcjciaaGreat
namespace Go.AH
def aho (p:Int×Int):List Value:=[.int .i64 p.1,.int .i64 p.2]
def mG (f:Nat->Int×Int):List Value:=(List.range 12).flatMap fun k=>aho (f k)
def outC (g:Nat->Int):List Value:=(List.range 12).map fun k=>.int .i64 (g k)
def dI (s:St) (tv:Value) (f:Nat->Int×Int) (g:Nat->Int):List Value:=s.cells++[tv]++mG f++outC g
theorem Zl {s:St} {tv:Value} {f:Nat->Int×Int} {g:Nat->Int}:∀ {i:Nat},i<12->(dI s tv f g)[6+i*2]?=some (.i (f i).1)
 |0,_=>rfl|1,_=>rfl|2,_=>rfl|3,_=>rfl|4,_=>rfl|5,_=>rfl|6,_=>rfl|7,_=>rfl|8,_=>rfl|9,_=>rfl|10,_=>rfl|11,_=>rfl
theorem aee {s:St} {tv:Value} {f:Nat->Int×Int} {g:Nat->Int}:∀ {i:Nat},i<12->(dI s tv f g)[30+i*1]?=some (.i (g i))
 |0,_=>rfl|1,_=>rfl|2,_=>rfl|3,_=>rfl|4,_=>rfl|5,_=>rfl|6,_=>rfl|7,_=>rfl|8,_=>rfl|9,_=>rfl|10,_=>rfl|11,_=>rfl
theorem U1 {s:St} {tv:Value} {f:Nat->Int×Int} {g:Nat->Int} {a b:Int}:∀ {i:Nat},i<12->splice (dI s tv f g) (6+i*2) [.i a,.i b]=dI s tv (WL f i (a,b)) g
 |0,_=>rfl|1,_=>rfl|2,_=>rfl|3,_=>rfl|4,_=>rfl|5,_=>rfl|6,_=>rfl|7,_=>rfl|8,_=>rfl|9,_=>rfl|10,_=>rfl|11,_=>rfl
theorem EO {s:St} {tv:Value} {f:Nat->Int×Int} {g:Nat->Int}:(dI s tv f g).length=42:=rfl
theorem tY (s:St):dN s.cells=true:=by simp [St.cells,dN,plain]
theorem oP (f:Nat->Int×Int):dN (mG f)=true:=by simp [mG,aho,List.range,List.range.loop,dN,plain]
theorem GI (g:Nat->Int):dN (outC g)=true:=by simp [outC,List.range,List.range.loop,dN,plain]
theorem jE {n:Nat} {s:St} {tv:Value} {f:Nat->Int×Int} {g:Nat->Int} (h1:closed n tv=true) (h2:okV tv=true):dU n (dI s tv f g)=true/\okL (dI s tv f g)=true:=by
 have a:=aY (n:=n) (tY s)
 have b:=aY (n:=n) (oP f)
 have c:=aY (n:=n) (GI g)
 simp only [dI,TU,afO]
 exact ⟨by simp [a.1,b.1,c.1,dU,h1],by simp [a.2,b.2,c.2,okL,h2]⟩
def span (s:St) (n:Int):Int×Int:=(max s.short ((s.lo+n - 1).tdiv n+s.off),min s.long (s.hi.tdiv n - s.off))
def LK (s:St) (n:Int):Int×Int:=if (span s n).1<=(span s n).2 then span s n else (100001,-1)
def dX (s:St) (l:List Int) (i:Nat):Int×Int:=if i<l.length then LK s (gi l i) else (100001,-1)
end Go.AH
namespace Go.Proofs.YtajpgeklmcjciaaGreat
attribute [local irreducible] dA bJ bK jh fQ dK eH bY eu aW dR dW
theorem XG (s:St) (l:List Int) (c:Nat) (h12:l.length<=12) (hs:¬ fB s) (ht:tX l=false) :
  Ev prog 163 [s.val,.s 0 l.length c] [.ro (ints l)] (.p 1) [.ro (ints l),.rw (dI s (.s 0 l.length c) (dX s l) fun _=>0)]:=by
 refine aH 1 72 func163 (h:=?_)
 repeat' (first|(refine gU ?_;first|refine MF ?_|refine MG ?_|refine WH ?_|refine FP ?_|(refine ae8 ?_;refine st (Jt rfl) rfl rfl ?_))|refine uq ?_|refine aG ?_|refine kU ?_|refine rG ?_|refine qg ?_)
 unfold fB at hs
 have j:∀ i<l.length,1<=gi l i/\gi l i<=10000:=fun i hi=>by
  have:¬ (gi l i<1\/gi l i > 10000):=fun hb=>by rw [pF.2 ⟨i,hi,hb⟩] at ht;cases ht
  omega
 refine jq (ι:=Nat) (fun i=>[(1,.s 0 l.length c),(2,.p 1),(5,.p 2),(15,.i (i:Int))])
  (fun i=>[.ro (ints l),.rw s.cells,.rw (dI s (.s 0 l.length c) (fun k=>if k<i then (100001,-1) else (0,0)) fun _=>0)]) (fun i=>12 - i) (fun i=>i<=12) 0 oS
  (.same tE) oO ?_
 ·intro i hi
  have hp1:i<12->putCells [.ro (ints l),.rw s.cells,.rw (dI s (.s 0 l.length c) (fun k=>if k<i then (100001,-1) else (0,0)) fun _=>0)] 2 (6+i*2) [.i 100001,.i (-1)] =
    some [.ro (ints l),.rw s.cells,.rw (dI s (.s 0 l.length c) (fun k=>if k<i+1 then (100001,-1) else (0,0)) fun _=>0)]:=fun h=>by
   refine fF rfl (by rw [EO];simp;omega) (by rw [EO];omega) ?_
   rw [U1 h]
   congr 1
   funext k
   simp only [WL]
   by_cases hk:k=i <;> by_cases f:k<i <;> simp [hk,f] <;> omega
  repeat' (first|(refine gU ?_;first|refine MF ?_|refine MG ?_|(refine Fh ?_;refine st (pI rfl rfl oO) rfl rfl ?_)|refine sK0 ?_|(refine Iq ?_;refine st (lY rfl) rfl rfl ?_)|(refine gZ ?_;refine stN (bW rfl rfl rfl rfl (by exact hp1 oO)) rfl ?_))|(refine fU ?_;first|refine Iy ?_|(refine fFA ?_;refine fr (bD rfl) oR rfl ?_)|(refine L9 ?_;refine fr (jB rfl) oR rfl ?_)|(refine fIA ?_;refine fr (Ad rfl rfl oO) oR rfl ?_)|(refine qX ?_;refine fr (bC rfl rfl rfl (by exact Ev.nil Dx rfl rfl rfl)) oR rfl ?_))|(refine fP ⟨oK,?_⟩)|refine uq ?_|refine aG ?_|refine sK5 ?_|refine kU ?_|refine rG ?_|refine ZL ?_|refine uz ?_|refine CJ rfl ?_|refine xE ?_|refine yN ?_|refine qg ?_|(refine jm rfl ?_ ?_ <;> intro _))
  ·exact ⟨rfl,i+1,oO,oO,.same tE⟩
  ·obtain rfl:i=12:=oO
   refine jq (ι:=Nat) (fun i=>[(2,.p 1),(5,.p 2),(25,.s 0 l.length c),(26,.i (l.length:Int)),(27,.i (i:Int))])
    (fun i=>[.ro (ints l),.rw s.cells,.rw (dI s (.s 0 l.length c) (fun k=>if k<i then dX s l k else (100001,-1)) fun _=>0)]) (fun i=>l.length - i) (fun i=>i<=l.length) 0 oS
    (.same tE) oO ?_
   intro i hi
   have hc1:i<l.length->aI [.ro (ints l),.rw s.cells,.rw (dI s (.s 0 l.length c) (fun k=>if k<i then dX s l k else (100001,-1)) fun _=>0)] 0 i=some (.i (gi l i)):=fun h=>iF h
   have d:=j i
   have hq1:i<l.length->0<=(s.lo+gi l i - 1).tdiv (gi l i):=fun h=>by
    have:=Int.tdiv_nonneg (a:=s.lo+gi l i - 1) (b:=gi l i) (by have:=d h;omega) (by have:=d h;omega);omega
   have hq2:i<l.length->(s.lo+gi l i - 1).tdiv (gi l i)<=2000000000:=fun h=>by
    have:=Int.tdiv_le_self (a:=s.lo+gi l i - 1) (gi l i) (by have:=d h;omega);have:=d h;omega
   have hq3:i<l.length->0<=s.hi.tdiv (gi l i):=fun h=>by
    have:=Int.tdiv_nonneg (a:=s.hi) (b:=gi l i) oO (by have:=d h;omega);omega
   have hq4:i<l.length->s.hi.tdiv (gi l i)<=2000000000:=fun h=>by
    have:=Int.tdiv_le_self (a:=s.hi) (gi l i) oO;omega
   have hf:∀ h:i<l.length,WL (fun k=>if k<i then dX s l k else (100001,-1)) i (dX s l i)=fun k=>if k<i+1 then dX s l k else (100001,-1):=fun h=>by
    funext k
    simp only [WL]
    by_cases hk:k=i
    ·subst hk;simp
    ·by_cases f:k<i
     ·simp [hk,f,show k<i+1 by omega]
     ·simp [hk,f,show ¬ k<i+1 by omega]
   have hp1:(i<l.length/\max s.short ((s.lo+gi l i - 1).tdiv (gi l i)+s.off)<=min s.long (s.hi.tdiv (gi l i) - s.off)) ->
     putCells [.ro (ints l),.rw s.cells,.rw (dI s (.s 0 l.length c) (fun k=>if k<i then dX s l k else (100001,-1)) fun _=>0),
      .rw [.i (max s.short ((s.lo+gi l i - 1).tdiv (gi l i)+s.off)),.i (min s.long (s.hi.tdiv (gi l i) - s.off))]] 2 (6+i*2)
      [.i (max s.short ((s.lo+gi l i - 1).tdiv (gi l i)+s.off)),.i (min s.long (s.hi.tdiv (gi l i) - s.off))] =
     some [.ro (ints l),.rw s.cells,.rw (dI s (.s 0 l.length c) (fun k=>if k<i+1 then dX s l k else (100001,-1)) fun _=>0),
      .rw [.i (max s.short ((s.lo+gi l i - 1).tdiv (gi l i)+s.off)),.i (min s.long (s.hi.tdiv (gi l i) - s.off))]]:=fun ⟨h,hb⟩=>by
    refine fF rfl (by rw [EO];simp;omega) (by rw [EO];omega) ?_
    rw [U1 oO,<- hf h]
    have:dX s l i=(max s.short ((s.lo+gi l i - 1).tdiv (gi l i)+s.off),min s.long (s.hi.tdiv (gi l i) - s.off)):=by
     simp only [dX,if_pos h,LK,span]
     exact if_pos hb
    rw [this]
   have hcl:∀ i,fD 3 [.ro (ints l),.rw s.cells,.rw (dI s (.s 0 l.length c) (fun k=>if k<i then dX s l k else (100001,-1)) fun _=>0)]:=fun i =>
    ⟨aY (aZ l),aY (tY s),jE (tv:=.s 0 l.length c) (dP oO).1 (dP (n:=3) (i:=0) oO).2,trivial⟩
   repeat' (first|(refine gU ?_;first|refine MF ?_|refine MG ?_|(refine gFA ?_;refine st (bD rfl) rfl rfl ?_)|(refine cO ?_;refine st (aJ rfl (by first|rfl|exact hc1 oO)) rfl rfl ?_)|(refine Fh ?_;first|refine st (pI rfl rfl oO) rfl rfl ?_|refine st (uY rfl rfl oO oO) rfl rfl ?_)|refine sK4 ?_|(refine yS ?_;first|refine st (iU rfl rfl rfl) rfl rfl ?_|refine st (D6 rfl rfl oO oO oO) rfl rfl ?_)|refine sK6 ?_|(refine gZ ?_;refine stN (bW rfl rfl rfl rfl (by first|rfl|exact hp1 oO)) rfl ?_))|(refine fU ?_;first|refine Iy ?_|(refine fFA ?_;refine fr (bD rfl) oR rfl ?_)|(refine eU ?_;first|refine fr (aJ rfl oR) oR rfl ?_|refine fr (bG rfl oR) oR rfl ?_)|refine TM ?_|refine Iz ?_|(refine Fp ?_;refine fr (D6 rfl rfl oO oO oO) oR rfl ?_)|(refine L9 ?_;refine fr (jB rfl) oR rfl ?_)|(refine fIA ?_;refine fr (Ad rfl rfl oO) oR rfl ?_)|refine aar ?_|refine WG ?_|(refine JC ?_;refine fr (pV oR rfl oR) oR rfl ?_)|(refine zY ?_;refine fr1 (jG rfl) rfl rfl rfl ?_))|(refine fP ⟨oK,?_⟩)|refine uq ?_|refine aG ?_|refine sK5 ?_|refine kU ?_|refine rG ?_|refine ZL ?_|refine uz ?_|refine CJ rfl ?_|refine xE ?_|refine yN ?_|refine DL ?_|refine qg ?_|(refine jm rfl ?_ ?_ <;> intro _))
   ·exact ⟨rfl,i+1,oO,oO,.drop _ [_] (cC rfl) (hcl _) ⟨⟨rfl,rfl,rfl⟩,⟨rfl,rfl,rfl⟩,⟨rfl,dP (Nat.blt_eq.mp rfl)⟩,⟨rfl,rfl,rfl⟩,⟨rfl,rfl,rfl⟩,trivial⟩⟩
   ·rename_i hlt hb
    have e:i<l.length:=oO
    have o:dX s l i=(100001,-1):=by
     simp only [dX,if_pos e,LK,span]
     exact if_neg hb
    have g:(fun k=>if k<i+1 then dX s l k else ((100001,-1):Int×Int))=fun k=>if k<i then dX s l k else (100001,-1):=by
     rw [<- hf e,o]
     funext k
     simp only [WL]
     by_cases hk:k=i <;> simp [hk]
    refine ⟨rfl,i+1,oO,oO,?_⟩
    rw [g]
    exact .drop _ [_] (cC rfl) (hcl _) ⟨⟨rfl,rfl,rfl⟩,⟨rfl,rfl,rfl⟩,⟨rfl,dP (Nat.blt_eq.mp rfl)⟩,⟨rfl,rfl,rfl⟩,⟨rfl,rfl,rfl⟩,trivial⟩
   ·obtain rfl:i=l.length:=oO
    have g:(fun k=>if k<l.length then dX s l k else ((100001,-1):Int×Int))=dX s l:=by
     funext k
     by_cases hk:k<l.length <;> simp [hk,dX]
    rw [g]
    refine dG (.tmp rfl .nil) (.src [_] [2] rfl rfl rfl ⟨yj (m:=1) rfl (.inl rfl) (fun i hi=>gu hi) (cC rfl) (jE (n:=1) (tv:=.s 0 l.length c) (dP oO).1 (dP (n:=1) (i:=0) oO).2).1 (jE (n:=1) (tv:=.s 0 l.length c) (dP oO).1 (dP (n:=1) (i:=0) oO).2).2,trivial⟩ ?_) ⟨rfl,rfl⟩
    have:=VQ.ptr (q:=true) (n:=2) (V:=fK 1 [2]) 1 0 oO
    exact this
theorem _root_.Go.AH.LM {r:Rho} {s:St} {tv:Value} {f:Nat->Int×Int} {g:Nat->Int}:yK r (dI s tv f g)=dI s (ren r tv) f g:=by
 simp only [dI,ac6,Qi (tY s),Qi (oP f),Qi (GI g)]
 rfl
theorem XH {U:Heap} {s:St} {l:List Int} {x c:Nat} (hx:dD U x (ints l)) (h12:l.length<=12) (hs:¬ fB s) (ht:tX l=false) (hni:Ni U) :
  Ev prog 163 [s.val,.s x l.length c] U (.p U.length) (U++[.rw (dI s (.s x l.length c) (dX s l) fun _=>0)]):=by
 refine Ev.arrsN [ints l] [x] (XG s l c h12 hs ht) ⟨hx,trivial⟩ ⟨bF _ rfl,by simpa [bsR] using VQ.slice (q:=true) (n:=1) (V:=bsR [x]) 0 0 l.length c c (aD _) oO,trivial⟩ (by simp [aZ]) rfl ?_ ?_ hni
 ·simp [ren,shf]
 ·simp only [cG,cY,CS,LM]
  simp [ren,shf,bsR]
theorem kH {s:St} {l:List Int} (h:gX s l=0):l.length<=12/\1<=l.length/\¬ fB s/\tX l=false:=by
 unfold gX at h
 split at h
 ·omega
 ·split at h
  ·omega
  ·split at h
   ·omega
   ·rename_i h1 h2 h3
    exact ⟨oO,oO,h2,by simpa using h3⟩
theorem aef {A B:Prop} (k:B) (h:Hide B->A:=by intro z_;(repeat' (first|refine sCm ?_|(refine gU ?_;first|refine WH ?_|refine sK0 ?_|(refine dV ?_;refine st (bC rfl rfl rfl (by first|exact GH (by exact .inl rfl) (by assumption) (by assumption) rfl|exact XH (by exact .inl rfl) (by assumption) (by assumption) (by assumption) rfl)) rfl rfl ?_))|refine aG ?_|refine sK2 ?_|refine lg rfl (by first|rfl|exact bM (by omega)) ?_));exact z_.h):A:=h ⟨k⟩
theorem aeg (s:St) (l:List Int) (c:Nat) (hN:l.length<=1000000) (hr:-9223372036854775808<=s.short/\s.short<=9223372036854775807) (h:gX s l ≠ 0) :
  Ev prog 69 [s.val,.s 0 l.length c] [.ro (ints l)] (.tuple #[.pointer none,.i (gX s l)]) [.ro (ints l)]:=by
 refine aH 1 16 func69 (h:=?_)
 refine aef ?_
 refine dG (.tmp rfl (.tmp rfl .nil)) (.plain rfl rfl) ⟨rfl,rfl⟩
theorem agh (s:St) (l:List Int) (c:Nat) (hr:-9223372036854775808<=s.short/\s.short<=9223372036854775807) (h:gX s l=0) :
  Ev prog 69 [s.val,.s 0 l.length c] [.ro (ints l)] (.tuple #[.p 1,.i 0]) [.ro (ints l),.rw (dI s (.s 0 l.length c) (dX s l) fun _=>0)]:=by
 obtain ⟨h12,h1,hs,ht⟩:=kH h
 have hN:l.length<=1000000:=oO
 refine aH 1 16 func69 (h:=?_)
 refine aef ?_
 refine dG (.tmp rfl (.tmp rfl .nil)) (.src [_] [2] rfl rfl rfl ⟨yj (m:=1) rfl (.inl rfl) (fun i hi=>gu hi) (cC rfl) (jE (n:=1) (tv:=.s 0 l.length c) (dP oO).1 (dP (n:=1) (i:=0) oO).2).1 (jE (n:=1) (tv:=.s 0 l.length c) (dP oO).1 (dP (n:=1) (i:=0) oO).2).2,trivial⟩ ?_) ⟨rfl,rfl⟩
 refine .tuple _ _ rfl fun i hi _=>?_
 match i,hi with
 |0,_=>exact VQ.ptr (q:=true) (n:=2) (V:=fK 1 [2]) 1 0 oO
 |1,_=>exact .int _ _
def rkV (l:List Int) (t c:Nat):Value:=.slice (some ⟨t,0,none⟩) l.length c
theorem aiW (s:St) (l:List Int) (c:Nat) (f:Nat->Int×Int) (g:Nat->Int) (i:Nat) (hi:i<12) :
  Ev prog 286 [.i (i:Int),.p 2] [.ro (ints l),.ro (dI s (rkV l 0 c) f g),.ro [.p 1]] (.i (f i).1)
   [.ro (ints l),.ro (dI s (rkV l 0 c) f g),.ro [.p 1]]:=by
 refine aH 3 11 func286 (h:=?_)
 have hc1:i<12->aI [.ro (ints l),.ro (dI s (rkV l 0 c) f g),.ro [.p 1]] 1 (6+i*2)=some (.i (f i).1):=fun h=>Zl h
 repeat' (first|refine sCm ?_|(refine gU ?_;first|(refine cO ?_;refine st (aJ rfl (by first|rfl|exact hc1 oO)) rfl rfl ?_)|refine Qc ?_)|refine aG ?_)
 refine dG (.tmp rfl .nil) (.plain rfl rfl) ⟨?_,rfl⟩
 rfl
end Go.Proofs.YtajpgeklmcjciaaGreat
namespace Go.AH
def fJ (key:Nat->Int) (l:List Nat):Nat->Int
 |0=>-1
 |n+1=>if fJ key l n<0\/key (gn l n)<key (gn l (fJ key l n).toNat) then (n:Int) else fJ key l n
theorem wu (key:Nat->Int) (l:List Nat):∀ n:Nat,-1<=fJ key l n/\fJ key l n<n
 |0=>by simp [fJ]
 |n+1=>by
  have:=wu key l n
  simp only [fJ]
  split <;> omega
theorem XI (key:Nat->Int) (l:List Nat) {n:Nat} (h:0<n):0<=fJ key l n:=by
 obtain ⟨n,rfl⟩:∃ k,n=k+1:=⟨n - 1,oO⟩
 simp only [fJ]
 split <;> omega
end Go.AH
namespace Go.Proofs.YtajpgeklmcjciaaGreat
attribute [local irreducible] dA bJ bK jh fQ dK eH bY eu aW dR dW
theorem gy.app {n:Nat} {Z:Rho} {a a' b b':List Value} (h1:gy n Z a a') (h2:gy n Z b b'):gy n Z (a++b) (a'++b'):=by
 refine ⟨by simp [h1.1,h2.1],fun j h h'=>?_⟩
 by_cases hj:j<a.length
 ·rw [eQ hj,eQ (by have:=h1.1;omega)];exact h1.2 j hj _
 ·simp only [bA] at h h'
  have:=h1.1
  rw [eO oO,eO oO]
  have:=h2.2 (j - a.length) oO oO
  simpa [h1.1] using this
theorem gy.plain {n:Nat} {Z:Rho} {a:List Value} (h:dN a=true):gy n Z a a:=⟨rfl,fun j hj _=>kZ a h j hj⟩
theorem gy.one {n:Nat} {Z:Rho} {v v':Value} (h:jS n Z v v'):gy n Z [v] [v']:=by
 refine ⟨rfl,fun j hj _=>?_⟩
 have:j=0:=by simpa using hj
 subst this;exact h
theorem wz {n:Nat} {Z:Rho} {s:St} {tv tv':Value} {f:Nat->Int×Int} {g:Nat->Int} (h:jS n Z tv tv'):gy n Z (dI s tv f g) (dI s tv' f g) :=
 gy.app (gy.app (gy.app (gy.plain (tY s)) (gy.one h)) (gy.plain (oP f))) (gy.plain (GI g))
theorem aiX {U:Heap} {s:St} {l:List Int} {c:Nat} {f:Nat->Int×Int} {g:Nat->Int} {i t r x:Nat} (hi:i<12) (ht:dD U t (ints l)) (hr:dD U r (dI s (rkV l t c) f g)) (hx:dD U x [.p r])
  (hni:Ni U):Ev prog 286 [.i (i:Int),.p x] U (.i (f i).1) U:=by
 exact Ev.arrsP [ints l,dI s (rkV l 0 c) f g,[.p 1]] [(t,ints l),(r,dI s (rkV l t c) f g),(x,[.p r])] (aiW s l c f g i hi)
  ⟨⟨ht,gy.plain (aZ l)⟩,⟨hr,wz (by simpa [bsR,rkV] using VQ.slice (q:=true) (n:=3) (V:=bsR [t,r,x]) 0 0 l.length c c (aD _) oO)⟩,⟨hx,gy.one (by simpa [bsR] using VQ.ptr (q:=true) (n:=3) (V:=bsR [t,r,x]) 1 0 oO)⟩,trivial⟩
  ⟨.int _ _,by simpa [bsR] using VQ.ptr (q:=true) (n:=3) (V:=bsR [t,r,x]) 2 0 oO,trivial⟩ rfl hni
end Go.Proofs.YtajpgeklmcjciaaGreat
namespace Go.AH
abbrev nw:Int×Int:=(100001,-1)
def Cov (f:Nat->Int×Int) (n:Nat) (x:Int):Prop:=∃ i<n,(f i).1<=x/\x<=(f i).2
def EP (f:Nat->Int×Int) (n:Nat) (short long r:Int):Prop :=
 (r=-1/\∀ x,short<=x->x<=long->Cov f n x)\/(short<=r/\r<=long/\¬ Cov f n r/\∀ x,r<x->x<=long->Cov f n x)
theorem EP.uniq {f:Nat->Int×Int} {n:Nat} {short long r r':Int} (_hs:0<=short) (h:EP f n short long r) (h':EP f n short long r'):r=r':=by
 rcases h with ⟨rfl,h⟩|⟨h1,h2,h3,h4⟩ <;> rcases h' with ⟨rfl,h'⟩|⟨g1,g2,g3,g4⟩
 ·rfl
 ·exact absurd (h _ g1 g2) g3
 ·exact absurd (h' _ h1 h2) h3
 ·rcases Int.lt_trichotomy r r' with hl|hl|hl
  ·exact absurd (h4 _ hl g2) g3
  ·exact hl
  ·exact absurd (g4 _ hl h2) h3
def covB (f:Nat->Int×Int) (n:Nat) (x:Int):Bool:=(List.range n).any fun i=>decide ((f i).1<=x) && decide (x<=(f i).2)
theorem U2 {f:Nat->Int×Int} {n:Nat} {x:Int}:covB f n x=true↔Cov f n x:=by simp [covB,Cov]
def QT (f:Nat->Int×Int) (x:Int):Nat->Int
 |0=>x+1
 |n+1=>if (f n).1<=x/\x<=(f n).2 then min (QT f x n) (f n).1 else QT f x n
theorem Zm {f:Nat->Int×Int} {x:Int}:∀ {n:Nat},QT f x n<=x+1/\(∀ i<n,(f i).1<=x->x<=(f i).2->QT f x n<=(f i).1)/\(QT f x n=x+1\/∃ i<n,(f i).1=QT f x n/\(f i).1<=x/\x<=(f i).2)
 |0=>⟨dy _,fun i h=>oO,.inl rfl⟩
 |n+1=>by
  obtain ⟨h1,h2,h3⟩:=Zm (f:=f) (x:=x) (n:=n)
  simp only [QT]
  split
  ·rename_i h
   refine ⟨oO,fun i hi a b=>?_,?_⟩
   ·by_cases c:i=n
    ·subst c;omega
    ·have:=h2 i oO a b;omega
   ·rcases h3 with h3|⟨i,hi,h3,h4⟩
    ·exact .inr ⟨n,oO,oO,h⟩
    ·by_cases hc:QT f x n<=(f n).1
     ·exact .inr ⟨i,oO,oO,h4⟩
     ·exact .inr ⟨n,oO,oO,h⟩
  ·rename_i h
   refine ⟨h1,fun i hi a b=>?_,?_⟩
   ·by_cases c:i=n
    ·subst c;exact absurd ⟨a,b⟩ h
    ·exact h2 i oO a b
   ·rcases h3 with h3|⟨i,hi,h3⟩
    ·exact .inl h3
    ·exact .inr ⟨i,oO,h3⟩
def Zn (f:Nat->Int×Int) (n:Nat) (short:Int):Nat->Int->Int
 |0,_=>-1
 |k+1,x=>if x<short then -1 else if covB f n x=true then Zn f n short k (QT f x n - 1) else x
def agi (f:Nat->Int×Int) (n:Nat) (short long:Int):Int:=Zn f n short (long - short+1).toNat long
theorem U3 {f:Nat->Int×Int} {n:Nat} {short long:Int}:∀ (k:Nat) (x:Int),x<=long->x<short+k->(∀ y,x<y->y<=long->Cov f n y)->EP f n short long (Zn f n short k x)
 |0,x,hx,hk,h=>.inl ⟨rfl,fun y h1 h2=>h y oO h2⟩
 |k+1,x,hx,hk,h=>by
  simp only [Zn]
  split
  ·exact .inl ⟨rfl,fun y h1 h2=>h y oO h2⟩
  ·split
   ·rename_i h1 h2
    obtain ⟨a1,a2,a3⟩:=Zm (f:=f) (x:=x) (n:=n)
    obtain ⟨i,hi,c1,c2⟩:=U2.1 h2
    have hle:=a2 i hi c1 c2
    refine U3 k _ oO oO fun y hy c=>?_
    by_cases a:x<y
    ·exact h y a c
    ·rcases a3 with a3|⟨j,hj,b1,b2,b3⟩
     ·omega
     ·exact ⟨j,hj,oO,oO⟩
   ·rename_i h1 h2
    exact .inr ⟨oO,hx,fun hc=>h2 (U2.2 hc),h⟩
theorem QU {f:Nat->Int×Int} {n:Nat} {short long:Int} (h:short<=long):EP f n short long (agi f n short long) :=
 U3 _ _ (dy _) oO fun y h1 h2=>by omega
def jR (l:mg):List (Int×Int):=l.map (·.1)
theorem aeh (l:mg) (k:Int×Int) (v:Value):jR (lN l k v)=if k ∈ jR l then jR l else jR l++[k]:=by
 unfold lN
 cases hf:(l.map (·.1)).findIdx? (fun q=>decide (k=q)) with
 |none =>
  have:k ∉ jR l:=fun hk=>by
   rw [List.findIdx?_eq_none_iff] at hf
   have:=hf k hk
   simp at this
  rw [if_neg this];simp [jR]
 |some j =>
  obtain ⟨h1,h2,h3⟩:=List.findIdx?_eq_some_iff_getElem.1 hf
  have hk:k=(jR l)[j]:=of_decide_eq_true h2
  have:k ∈ jR l:=by rw [hk];exact cP h1
  rw [if_pos this]
  simp only [jR,List.map_set]
  refine List.ext_getElem oS fun i h4 h5=>?_
  rw [List.getElem_set]
  split
  ·rename_i a;subst a;exact hk
  ·rfl
theorem BZ {l:mg} {k p:Int×Int} (hn:(jR l).Nodup):p ∈ jR (ny l k)↔p ∈ jR l/\p ≠ k:=by
 unfold ny
 cases hf:(l.map (·.1)).findIdx? (fun q=>decide (k=q)) with
 |none =>
  have:k ∉ jR l:=fun hk=>by
   rw [List.findIdx?_eq_none_iff] at hf
   have:=hf k hk
   simp at this
  exact ⟨fun h=>⟨h,fun e=>this (e ▸ h)⟩,fun h=>h.1⟩
 |some j =>
  obtain ⟨h1,h2,h3⟩:=List.findIdx?_eq_some_iff_getElem.1 hf
  have hk:k=(jR l)[j]:=of_decide_eq_true h2
  have d:jR (l.eraseIdx j)=(jR l).eraseIdx j:=by simp [jR,List.eraseIdx_eq_take_drop_succ,List.map_take,List.map_drop]
  simp only [d]
  have h1':j<(jR l).length:=h1
  have hp:=List.pairwise_iff_getElem.1 hn
  rw [List.mem_eraseIdx_iff_getElem]
  constructor
  ·rintro ⟨i,hi,c,rfl⟩
   refine ⟨cP _,fun he=>?_⟩
   rw [hk] at he
   rcases fi c with h|h
   ·exact hp _ _ _ _ h he
   ·exact hp _ _ _ _ h he.symm
  ·rintro ⟨h4,h5⟩
   obtain ⟨i,hi,rfl⟩:=ew h4
   exact ⟨i,hi,fun a=>h5 (by subst a;exact hk.symm),rfl⟩
theorem xq (l:mg) (k:Int×Int):(ny l k).Sublist l:=by
 unfold ny
 split
 ·exact List.eraseIdx_sublist ..
 ·exact List.Sublist.refl _
theorem IE {l:mg} {k:Int×Int} (hn:(jR l).Nodup):(jR (ny l k)).Nodup:=List.Nodup.sublist ((xq l k).map _) hn
def bm (f:Nat->Int×Int):Nat->mg
 |0=>[]
 |i+1=>if f i=nw then bm f i else lN (bm f i) (f i) (.int .i64 (i:Int))
theorem Zo (f:Nat->Int×Int):∀ n,(jR (bm f n)).Nodup/\∀ p,p ∈ jR (bm f n)↔∃ i<n,f i=p/\p ≠ nw
 |0=>⟨by simp [bm,jR],fun p=>by simp [bm,jR]⟩
 |n+1=>by
  obtain ⟨h1,h2⟩:=Zo f n
  simp only [bm]
  split
  ·rename_i hn
   refine ⟨h1,fun p=>(h2 p).trans ⟨fun ⟨i,hi,a,b⟩=>⟨i,oO,a,b⟩,fun ⟨i,hi,a,b⟩=>⟨i,?_,a,b⟩⟩⟩
   rcases eV i n with h|h
   ·exact h
   ·have:i=n:=oO
    subst this;exact absurd (a ▸ hn) b
  ·rename_i hn
   rw [aeh]
   split
   ·rename_i c
    refine ⟨h1,fun p=>⟨fun hp=>?_,fun ⟨i,hi,a,b⟩=>?_⟩⟩
    ·obtain ⟨i,hi,a,b⟩:=(h2 p).1 hp;exact ⟨i,oO,a,b⟩
    ·by_cases h:i=n
     ·subst h;exact a ▸ c
     ·exact (h2 p).2 ⟨i,oO,a,b⟩
   ·rename_i c
    refine ⟨List.nodup_append.2 ⟨h1,by simp,fun a ha b hb=>?_⟩,fun p=>⟨fun hp=>?_,fun ⟨i,hi,a,b⟩=>?_⟩⟩
    ·simp at hb;subst hb;exact fun h=>c (h ▸ ha)
    ·rcases List.mem_append.1 hp with hp|hp
     ·obtain ⟨i,hi,a,b⟩:=(h2 p).1 hp;exact ⟨i,oO,a,b⟩
     ·simp at hp;subst hp;exact ⟨n,oO,rfl,hn⟩
    ·by_cases h:i=n
     ·subst h;exact List.mem_append_right _ (by simp [a])
     ·exact fI _ ((h2 p).2 ⟨i,oO,a,b⟩)
theorem ER (f:Nat->Int×Int):∀ n,∀ p ∈ bm f n,plain p.2=true
 |0,p,h=>by simp [bm] at h
 |n+1,p,h=>by
  simp only [bm] at h
  split at h
  ·exact ER f n p h
  ·unfold lN at h
   split at h
   ·rcases List.mem_or_eq_of_mem_set h with h|rfl
    ·exact ER f n p h
    ·rfl
   ·rcases List.mem_append.1 h with h|h
    ·exact ER f n p h
    ·simp at h;subst h;rfl
def aei (l:mg) (seen:List (Int×Int)):Nat:=((jR l).filter fun p=>decide (p ∉ seen)).length
theorem U4 {α:Type} (p q:α->Bool) (hpq:∀ x,q x=true->p x=true) (e:α) (hp:p e=true) (hq:q e=false):∀ (l l':List α),l'.Sublist l->e ∈ l->(l'.filter q).length<(l.filter p).length
 |l,l',hs,he=>by
  have h1:(l'.filter q).length<=(l.filter q).length:=(hs.filter q).length_le
  have h2:(l.filter q).length<(l.filter p).length:=Go.filter_lt p q hpq e hp hq l he
  omega
theorem U5 {l l':mg} {seen:List (Int×Int)} {k:Int×Int} (hs:l'.Sublist l) (hk:k ∈ jR l) (hn:k ∉ seen):aei l' (seen++[k])<aei l seen :=
 U4 _ _ (fun x hx=>by simp at hx ⊢;exact hx.1) k (oU hn) oS _ _ (hs.map _) hk
structure GInv (f:Nat->Int×Int) (n:Nat) (short long len:Int) (lm:mg):Prop where
 le:len<=long
 ge:short - 1<=len
 nd:(jR lm).Nodup
 pl:∀ q ∈ lm,plain q.2=true
 sub:∀ k ∈ jR lm,∃ i<n,f i=k/\k ≠ nw
 all:∀ i<n,f i ≠ nw->f i ∈ jR lm\/len<(f i).1
 cov:∀ x,len<x->x<=long->Cov f n x
structure GIn (f:Nat->Int×Int) (n:Nat) (len:Int) (lm:mg) (low:Int) (lm':mg) (seen:List (Int×Int)):Prop where
 sub:lm'.Sublist lm
 nd:(jR lm').Nodup
 le:low<=len+1
 lw:low=len+1\/∃ i<n,f i ≠ nw/\(f i).1=low/\low<=len/\len<=(f i).2
 gone:∀ k ∈ jR lm,k ∈ jR lm'\/(len<=k.2/\low<=k.1)
 passed:∀ k ∈ jR lm',k ∈ seen->k.2<len
section
variable {f:Nat->Int×Int} {n:Nat} {short long len low:Int} {lm lm':mg} {seen:List (Int×Int)}
theorem GIn.start (h:GInv f n short long len lm):GIn f n len lm (len+1) lm [] :=
 ⟨List.Sublist.refl _,h.nd,dy _,.inl rfl,fun k hk=>.inl hk,fun k _ hs=>by simp at hs⟩
theorem GIn.skip (h:GIn f n len lm low lm' seen) {k:Int×Int} (hk:k.2<len):GIn f n len lm low lm' (seen++[k]) :=
 ⟨h.sub,h.nd,h.le,h.lw,h.gone,fun q hq hs=>by
  rcases List.mem_append.1 hs with hs|hs
  ·exact h.passed q hq hs
  ·simp at hs;subst hs;exact hk⟩
theorem GIn.take (h:GIn f n len lm low lm' seen) (hi:GInv f n short long len lm) {k:Int×Int} (hk:k ∈ jR lm') (hl:¬ k.2<len):GIn f n len lm (min low k.1) (ny lm' k) (seen++[k]):=by
 have o:k ∈ jR lm:=(h.sub.map _).subset hk
 obtain ⟨i,r,g,p⟩:=hi.sub k o
 refine ⟨(xq lm' k).trans h.sub,IE h.nd,by have:=h.le;omega,?_,fun q hq=>?_,fun q hq hs=>?_⟩
 ·by_cases hle:k.1<low
  ·by_cases hlen:k.1<=len
   ·exact .inr ⟨i,r,by rw [g];exact p,by rw [g];omega,oO,by rw [g];omega⟩
   ·have:=h.le;left;omega
  ·rcases h.lw with h0|⟨j,a,b,c,d,e⟩
   ·left;have:=h.le;omega
   ·exact .inr ⟨j,a,b,oO,oO,e⟩
 ·rcases h.gone q hq with h0|h0
  ·by_cases m:q=k
   ·subst m;exact .inr ⟨oO,oO⟩
   ·exact .inl ((BZ h.nd).2 ⟨h0,m⟩)
  ·exact .inr ⟨h0.1,oO⟩
 ·obtain ⟨h0,h1⟩:=(BZ h.nd).1 hq
  rcases List.mem_append.1 hs with hs|hs
  ·exact h.passed q h0 hs
  ·simp at hs;exact absurd hs h1
theorem GIn.found (h:GIn f n len lm low lm' seen) (hi:GInv f n short long len lm) (hall:∀ q ∈ lm',q.1 ∈ seen) (hlow:low > len) (hs:short<=len) (_hnw:∀ i<n,f i=nw\/(short<=(f i).1/\(f i).1<=(f i).2/\(f i).2<=long)) (_h1:1<=short):EP f n short long len:=by
 refine .inr ⟨hs,hi.le,?_,hi.cov⟩
 rintro ⟨i,c,a,b⟩
 have d:f i ≠ nw:=fun h=>by rw [h] at a b;simp at a b;omega
 rcases hi.all i c d with hk|hk
 ·rcases h.gone _ hk with h0|h0
  ·obtain ⟨q,hq,e⟩:=List.mem_map.1 h0
   have:=h.passed _ h0 (by rw [<- e];exact hall q hq)
   omega
  ·omega
 ·omega
theorem GIn.next (h:GIn f n len lm low lm' seen) (hi:GInv f n short long len lm) (hlow:¬ low > len) (hnw:∀ i<n,f i=nw\/(short<=(f i).1/\(f i).1<=(f i).2/\(f i).2<=long)):GInv f n short long (low - 1) lm':=by
 have hl:∃ i<n,f i ≠ nw/\(f i).1=low/\low<=len/\len<=(f i).2:=by
  rcases h.lw with h0|h0
  ·omega
  ·exact h0
 obtain ⟨i,e,m,a,b,c⟩:=hl
 have hs:short<=low:=by
  rcases hnw i e with h0|h0
  ·exact absurd h0 m
  ·omega
 refine ⟨by have:=hi.le;omega,oO,h.nd,fun q hq=>hi.pl q (h.sub.subset hq),fun k hk=>hi.sub k ((h.sub.map _).subset hk),fun j hj o=>?_,fun x hx g=>?_⟩
 ·rcases hi.all j hj o with h0|h0
  ·rcases h.gone _ h0 with h1|h1
   ·exact .inl h1
   ·exact .inr oO
  ·exact .inr oO
 ·by_cases d:len<x
  ·exact hi.cov x d g
  ·exact ⟨i,e,oO,oO⟩
end
theorem IG {m:Nat} {v:Value} (h:plain v=true):closed m v=true/\okV v=true:=by
 have:=aY (n:=m) (l:=[v]) (by simp [dN,h])
 simpa [dU,okL] using this
theorem ES {m:Nat} {lm:mg} (h:∀ q ∈ lm,plain q.2=true):fV m (nI lm):=by
 intro p hp
 obtain ⟨q,hq,rfl⟩:=List.mem_map.1 hp
 exact IG (h q hq)
theorem aej {f:Nat->Int×Int}:∀ {i:Nat},i<12->(mG f)[i*2]?=some (.i (f i).1)
 |0,_=>rfl|1,_=>rfl|2,_=>rfl|3,_=>rfl|4,_=>rfl|5,_=>rfl|6,_=>rfl|7,_=>rfl|8,_=>rfl|9,_=>rfl|10,_=>rfl|11,_=>rfl
theorem aek {f:Nat->Int×Int}:∀ {i:Nat},i<12->(mG f)[i*2+1]?=some (.i (f i).2)
 |0,_=>rfl|1,_=>rfl|2,_=>rfl|3,_=>rfl|4,_=>rfl|5,_=>rfl|6,_=>rfl|7,_=>rfl|8,_=>rfl|9,_=>rfl|10,_=>rfl|11,_=>rfl
theorem aa8 {f:Nat->Int×Int} {a b:Int}:∀ {i:Nat},i<12->splice (mG f) (i*2) [.i a,.i b]=mG (WL f i (a,b))
 |0,_=>rfl|1,_=>rfl|2,_=>rfl|3,_=>rfl|4,_=>rfl|5,_=>rfl|6,_=>rfl|7,_=>rfl|8,_=>rfl|9,_=>rfl|10,_=>rfl|11,_=>rfl
theorem OI {f:Nat->Int×Int}:(mG f).length=24:=rfl
theorem Ib (f:Nat->Int×Int):D9 f 12 (mG f).toArray:=fun _i hi=>⟨aej hi,aek hi⟩
theorem OJ {a:aC} {s:St} {tv:Value} {f:Nat->Int×Int} {g:Nat->Int} {r:Heap}:∀ {i:Nat},i<12->aK (a::.ro (dI s tv f g)::r) 1 (6+i*2) 2=some [.i (f i).1,.i (f i).2]
 |0,_=>rfl|1,_=>rfl|2,_=>rfl|3,_=>rfl|4,_=>rfl|5,_=>rfl|6,_=>rfl|7,_=>rfl|8,_=>rfl|9,_=>rfl|10,_=>rfl|11,_=>rfl
end Go.AH
namespace Go.Proofs.YtajpgeklmcjciaaGreat
attribute [local irreducible] dA bJ bK jh fQ dK eH bY eu aW dR dW
theorem qj {A B:Prop} (k:B) (h:Hide B->A:=by intro z_;(repeat' (first|refine sCm ?_|(refine gU ?_;first|refine Iw ?_|refine sK9 ?_|refine sK0 ?_|(refine Pj ?_;refine st (Ny (by rfl)) rfl rfl ?_)|refine TN ?_)|refine aG ?_|refine sK2 ?_|refine lg rfl (by first|rfl|exact bM (by assumption)|exact bM (by omega)) ?_));exact z_.h):A:=h ⟨k⟩
theorem aiZ (s:St) (l:List Int) (c:Nat) (f:Nat->Int×Int) (g:Nat->Int) (hn:l.length<=12) (h1:1<=s.short) (h2:s.short<=s.long) (h3:s.long<=100000)
  (hf:∀ i<l.length,f i=nw\/(s.short<=(f i).1/\(f i).1<=(f i).2/\(f i).2<=s.long)) (_hf':∀ i,l.length<=i->f i=nw) :
  Ev prog 247 [.p 1] [.ro (ints l),.ro (dI s (rkV l 0 c) f g)] (.i (agi f l.length s.short s.long)) [.ro (ints l),.ro (dI s (rkV l 0 c) f g)]:=by
 refine aH 2 93 func247 (h:=?_)
 refine qj ?_
 refine D8 ?_
 refine qj ?_
 refine jq (ι:=Nat) (fun i=>[(0,.p 1),(3,.p 2),(12,.i (i:Int))])
  (fun i=>[.ro (ints l),.ro (dI s (rkV l 0 c) f g),.rw (mG fun k=>if k<i then nw else (0,0))]) (fun i=>12 - i) (fun i=>i<=12) 0 oS
  (.same tE) oO ?_
 intro i hi
 have hp1:i<12->putCells [.ro (ints l),.ro (dI s (rkV l 0 c) f g),.rw (mG fun k=>if k<i then nw else (0,0))] 2 (0+i*2) [.i 100001,.i (-1)] =
   some [.ro (ints l),.ro (dI s (rkV l 0 c) f g),.rw (mG fun k=>if k<i+1 then nw else (0,0))]:=fun h=>by
  refine fF rfl (by rw [OI];simp;omega) (by rw [OI];omega) ?_
  rw [aR,aa8 h]
  congr 1
  funext k
  simp only [WL]
  by_cases hk:k=i <;> by_cases M:k<i <;> simp [hk,M] <;> omega
 repeat' (first|refine sCm ?_|(refine gU ?_;first|refine sK0 ?_|refine Qc ?_|(refine dV ?_;refine st (bC rfl rfl rfl (by exact Ev.nil Dx rfl rfl rfl)) rfl rfl ?_)|(refine gZ ?_;refine stN (bW rfl rfl rfl rfl (by exact hp1 oO)) rfl ?_))|(refine fU ?_;first|refine Iy ?_|(refine fFA ?_;refine fr (bD rfl) oR rfl ?_)|(refine eU ?_;refine fr (bG rfl oR) oR rfl ?_)|(refine L9 ?_;refine fr (jB rfl) oR rfl ?_))|(refine fP ⟨oK,?_⟩)|refine aG ?_|refine sK5 ?_|(refine jm rfl ?_ ?_ <;> intro _))
 ·exact ⟨rfl,i+1,oO,oO,.same tE⟩
 obtain rfl:i=12:=oO
 refine st (abV (f:=f) (g:=fun k=>if k<12 then nw else (0,0)) (xs:=mG f) (ys:=mG fun k=>if k<12 then nw else (0,0)) oK rfl rfl (oP _) (oP _) (Ib _) (Ib _)) rfl rfl ?_
 repeat' (first|refine sCm ?_|(refine gU ?_;refine Iw ?_)|refine aG ?_|(refine jm rfl ?_ ?_ <;> intro _))
 ·rename_i o
  refine ZT (dG (.tmp rfl .nil) (.plain rfl rfl) ⟨?_,rfl⟩)
  simp only [jH]
  congr 1
  refine EP.uniq oO (.inr ⟨h2,dy _,?_,fun x hx y=>oO⟩) (QU h2)
  rintro ⟨i,hi,a,b⟩
  have:=o i (List.mem_range.2 oO)
  rw [if_pos oO] at this
  rw [this] at a b
  simp at a b
  omega
 refine st y5 rfl rfl ?_
 refine qj ?_
 refine jq (ι:=Nat) (fun i=>[(0,.p 1),(5,.map (some 3)),(35,.i (l.length:Int)),(36,.i (i:Int))])
  (fun i=>[.ro (ints l),.ro (dI s (rkV l 0 c) f g),.rw (mG fun k=>if k<12 then nw else (0,0)),nI (bm f i)]) (fun i=>l.length - i) (fun i=>i<=l.length) 0 oS
  (.same tE) oO ?_
 intro i hi
 have hc1:i<12->aK [.ro (ints l),.ro (dI s (rkV l 0 c) f g),.rw (mG fun k=>if k<12 then nw else (0,0)),nI (bm f i)] 1 (6+i*2) 2=some [.i (f i).1,.i (f i).2]:=fun h=>OJ h
 by_cases hlt:i<l.length
 ·repeat' (first|refine sCm ?_|(refine gU ?_;first|(refine cO ?_;refine st (bG rfl (by exact hc1 oO)) rfl rfl ?_)|refine sK0 ?_|refine Qc ?_)|(refine fU ?_;first|refine Iy ?_|(refine fFA ?_;refine fr (bD rfl) oR rfl ?_)|(refine eU ?_;refine fr (bG rfl (by exact hc1 oO)) oR rfl ?_)|(refine Fp ?_;refine fr (Pq rfl rfl) oR rfl ?_)|(refine L9 ?_;refine fr (jB rfl) oR rfl ?_)|(refine fIA ?_;refine fr (Ad rfl rfl oO) oR rfl ?_)|(refine qX ?_;refine fr (bC rfl rfl rfl (by exact Ev.nil Dx rfl rfl rfl)) oR rfl ?_))|(refine fP ⟨oK,?_⟩)|refine aG ?_|refine sK5 ?_|refine oV rfl (by first|rfl|exact fE oO) ?_|(refine jm rfl ?_ ?_ <;> intro _))
  ·rename_i t
   have w:f i ≠ nw:=fun h=>by rw [h] at t;simp at t
   refine stN (o7 (i:=3) (l:=bm f i) (k:=f i) (v:=.i (i:Int)) rfl rfl rfl rfl rfl) rfl ?_
   refine qj ?_
   refine ⟨rfl,i+1,oO,oO,?_⟩
   have:bm f (i+1)=lN (bm f i) (f i) (.i (i:Int)):=by simp only [bm];rw [if_neg w]
   rw [this]
   exact .same tE
  ·rename_i t
   have w:f i=nw:=Prod.ext (by simpa using (Classical.not_not.1 t).1) (by simpa using (Classical.not_not.1 t).2)
   refine ⟨rfl,i+1,oO,oO,?_⟩
   have:bm f (i+1)=bm f i:=by simp only [bm];rw [if_pos w]
   rw [this]
   exact .same tE
 obtain rfl:i=l.length:=oO
 obtain ⟨E,G⟩:=Zo f l.length
 have D:=ER f l.length
 clear hc1
 refine qj ?_
 refine D7 ?_
 refine qj ?_
 have z:∀ i<l.length,f i=nw\/(s.short<=(f i).1/\(f i).1<=(f i).2/\(f i).2<=s.long):=hf
 have hcl:∀ lm:mg,(∀ q ∈ lm,plain q.2=true)->fD 4 [.ro (ints l),.ro (dI s (rkV l 0 c) f g),.rw (mG fun k=>if k<12 then nw else (0,0)),nI lm]:=fun lm hp=>⟨aY (aZ l),jE (tv:=rkV l 0 c) (dP oO).1 (dP (n:=4) (i:=0) oO).2,aY (oP _),ES hp,trivial⟩
 have r:∀ (lm:mg) (seen:List (Int×Int)),(∀ q ∈ lm,plain q.2=true)->fD 5 [.ro (ints l),.ro (dI s (rkV l 0 c) f g),.rw (mG fun k=>if k<12 then nw else (0,0)),nI lm,.iter 3 (seen.map kv)]:=fun lm seen hp=>⟨aY (aZ l),jE (tv:=rkV l 0 c) (dP oO).1 (dP (n:=5) (i:=0) oO).2,aY (oP _),ES hp,(by show (3:Nat)<5;omega),trivial⟩
 refine jq (ι:=Int×mg) (fun q=>[(0,.p 1),(5,.map (some 3)),(7,.i (-1)),(8,.i q.1)])
  (fun q=>[.ro (ints l),.ro (dI s (rkV l 0 c) f g),.rw (mG fun k=>if k<12 then nw else (0,0)),nI q.2]) (fun q=>(q.1 - s.short+1).toNat) (fun q=>GInv f l.length s.short s.long q.1 q.2) (s.long,bm f l.length) oS
  (.same tE) ⟨dy _,oO,E,D,fun k hk=>(G k).1 hk,fun i hi L=>.inl ((G _).2 ⟨i,hi,rfl,L⟩),fun x hx y=>oO⟩ ?_
 rintro ⟨len,lm⟩ hI
 have hI:GInv f l.length s.short s.long len lm:=hI
 have hle:=hI.le
 have hge:=hI.ge
 by_cases F:len>=s.short
 ·refine qj ?_
  refine st (abT (i:=3) (l:=lm) rfl rfl) rfl rfl ?_
  refine qj ?_
  refine jq (ι:=Int×mg×List (Int×Int)) (fun q=>[(0,.p 1),(5,.map (some 3)),(7,.i (-1)),(8,.i len),(9,.i q.1),(71,.p 4)])
   (fun q=>[.ro (ints l),.ro (dI s (rkV l 0 c) f g),.rw (mG fun k=>if k<12 then nw else (0,0)),nI q.2.1,.iter 3 (q.2.2.map kv)]) (fun q=>aei q.2.1 q.2.2) (fun q=>GIn f l.length len lm q.1 q.2.1 q.2.2/\s.short<=q.1) (len+1,lm,[]) oS
   (.same tE) ⟨GIn.start hI,by simp;omega⟩ ?_
  rintro ⟨u,d,seen⟩ ⟨hG,J⟩
  have hG:GIn f l.length len lm u d seen:=hG
  have m:∀ q ∈ d,plain q.2=true:=fun q hq=>hI.pl q (hG.sub.subset hq)
  have hlow:=hG.le
  simp only at J
  refine qj ?_
  refine st_next (i:=3) (l:=d) (seen:=seen) rfl rfl rfl rfl rfl hG.nd (fun o=>?_) (fun q hq I=>?_)
  ·have N:=fun h=>hG.found hI o h F z h1
   have O:=fun h=>hG.next hI h z
   repeat' (first|refine sCm ?_|(refine gU ?_;first|refine sK4 ?_|refine sK0 ?_)|refine aG ?_|refine DT rfl ?_|refine lg rfl oR ?_|(refine jm rfl ?_ ?_ <;> intro _))
   ·rename_i C
    refine ZT (dG (.tmp rfl .nil) (.plain rfl rfl) ⟨?_,rfl⟩)
    simp only [jH]
    congr 1
    exact EP.uniq oO (N C) (QU h2)
   ·rename_i C
    refine ⟨rfl,(u - 1,d),O C,by simp only;omega,.drop _ [_] (cC rfl) (hcl _ m) ⟨⟨rfl,rfl,rfl⟩,⟨rfl,rfl,rfl⟩,⟨rfl,rfl,rfl⟩,⟨rfl,rfl,rfl⟩,trivial⟩⟩
  ·refine qj ?_
   refine st (abU (i:=3) (l:=d) (seen:=seen) (k:=q.1) (v:=q.2) rfl rfl rfl hq) rfl rfl ?_
   repeat' (first|refine sCm ?_|(refine gU ?_;first|(refine cO ?_;first|refine st (aJ rfl oR) rfl rfl ?_|refine st (bG rfl oR) rfl rfl ?_)|refine sK0 ?_|(refine ae9 ?_;refine st (Fg rfl rfl) rfl rfl ?_)|refine TN ?_)|refine aG ?_|(refine jm rfl ?_ ?_ <;> intro _))
   ·rename_i e
    exact ⟨rfl,(u,d,seen++[q.1]),⟨hG.skip e,J⟩,U5 (List.Sublist.refl _) (List.mem_map.2 ⟨q,hq,rfl⟩) I,
     .drop _ [_] (cC rfl) (r _ _ m) ⟨⟨rfl,rfl,rfl⟩,⟨rfl,rfl,rfl⟩,⟨rfl,rfl,rfl⟩,⟨rfl,rfl,rfl⟩,⟨rfl,rfl,rfl⟩,⟨rfl,rfl,rfl⟩,trivial⟩⟩
   ·rename_i e
    have hk:q.1 ∈ jR d:=List.mem_map.2 ⟨q,hq,rfl⟩
    have hq1:s.short<=q.1.1:=by
     obtain ⟨j,hj,H,K⟩:=hI.sub q.1 ((hG.sub.map _).subset hk)
     rcases z j hj with h|h
     ·exact absurd (H ▸ h) K
     ·rw [H] at h;exact h.1
    refine stN (Bj (i:=3) (l:=d) (k:=q.1) rfl rfl rfl) rfl ?_
    refine qj ?_
    exact ⟨rfl,(min u q.1.1,ny d q.1,seen++[q.1]),⟨hG.take hI hk e,by simp only;omega⟩,U5 (xq _ _) hk I,
     .drop _ [_] (cC rfl) (r _ _ fun p hp=>m p ((xq _ _).subset hp)) ⟨⟨rfl,rfl,rfl⟩,⟨rfl,rfl,rfl⟩,⟨rfl,rfl,rfl⟩,⟨rfl,rfl,rfl⟩,⟨rfl,rfl,rfl⟩,⟨rfl,rfl,rfl⟩,trivial⟩⟩
 ·refine qj ?_
  refine ZT (dG (.tmp rfl .nil) (.plain rfl rfl) ⟨?_,rfl⟩)
  simp only [jH]
  congr 1
  exact EP.uniq oO (.inl ⟨rfl,fun x hx y=>hI.cov x oO y⟩) (QU h2)
end Go.Proofs.YtajpgeklmcjciaaGreat
namespace Go.AH
def U6 (cs:List Value) (k:Nat):Int:=match (cs[k]?).bind asInt with|some x=>x.2|none=>0
def agj (cs:List Value):Nat->Int×Int:=fun k=>bif Nat.blt k 12 then (U6 cs (6+2*k),U6 cs (7+2*k)) else nw
def Zp (s:St) (n:Nat) (f:Nat->Int×Int):Bool :=
 Nat.ble n 12 && decide (1<=s.short) && decide (s.short<=s.long) && decide (s.long<=100000) &&
  (List.range n).all (fun i=>decide (f i=nw) || (decide (s.short<=(f i).1) && decide ((f i).1<=(f i).2) && decide ((f i).2<=s.long))) &&
  (List.range 12).all (fun i=>Nat.blt i n || decide (f i=nw))
def ael (U:Heap) (cs:List Value) (t n c:Nat) (tcs:List Value) (s:St) (l:List Int):Res :=
 bT (Ah (dI s (.slice (some ⟨t,0,none⟩) l.length c) (agj cs) (fun k=>U6 cs (30+k))) cs && Ah (ints l) tcs && Nat.beq l.length n && Zp s l.length (agj cs) && U.all (fun o=>!aU o))
  (some (.int .i64 (agi (agj cs) l.length s.short s.long),U,U.length))
def Zq (U:Heap) (cs:List Value) (q:Nat×Nat×Nat×Nat):Res :=
 ((U[q.1]?).bind xM).bind fun tcs=>iP (tcs.map fun v=>match asInt v with|some x=>x.2|none=>0) (ael U cs q.1 q.2.2.1 q.2.2.2 tcs ⟨U6 cs 0,U6 cs 1,U6 cs 2,U6 cs 3,U6 cs 4⟩)
def aem (U:Heap):List Value->Res
 |[v]=>(qH v).bind fun p=>bT (Nat.beq p.2 0) (((U[p.1]?).bind xM).bind fun cs=>((cs[5]?).bind rC).bind (Zq U cs))
 |_=>none
theorem Ic {U:Heap} {b:Nat} {cs:List Value} (h:(U[b]?).bind xM=some cs):dD U b cs:=by
 obtain ⟨o,h3,h4⟩:=Option.bind_eq_some_iff.1 h
 unfold xM at h4
 split at h4
 ·cases h4;exact .inl h3
 ·cases h4;exact .inr (.inl h3)
 ·cases h4;exact .inr (.inr ⟨_,h3⟩)
 ·cases h4
end Go.AH
namespace Go.Proofs.YtajpgeklmcjciaaGreat
attribute [local irreducible] dA bJ bK jh fQ dK eH bY eu aW dR dW
theorem ai0 {U:Heap} {s:St} {l:List Int} {c:Nat} {f:Nat->Int×Int} {g:Nat->Int} {t r:Nat} (hn:l.length<=12) (h1:1<=s.short) (h2:s.short<=s.long) (h3:s.long<=100000)
  (hf:∀ i<l.length,f i=nw\/(s.short<=(f i).1/\(f i).1<=(f i).2/\(f i).2<=s.long)) (hf':∀ i,l.length<=i->f i=nw) (ht:dD U t (ints l)) (hr:dD U r (dI s (rkV l t c) f g))
  (hni:Ni U):Ev prog 247 [.p r] U (.i (agi f l.length s.short s.long)) U:=by
 exact Ev.arrsP [ints l,dI s (rkV l 0 c) f g] [(t,ints l),(r,dI s (rkV l t c) f g)] (aiZ s l c f g hn h1 h2 h3 hf hf')
  ⟨⟨ht,gy.plain (aZ l)⟩,⟨hr,wz (by simpa [bsR,rkV] using VQ.slice (q:=true) (n:=2) (V:=bsR [t,r]) 0 0 l.length c c (aD _) oO)⟩,trivial⟩
  ⟨by simpa [bsR] using VQ.ptr (q:=true) (n:=2) (V:=bsR [t,r]) 1 0 oO,trivial⟩ rfl hni
def orc:jw:=fun f args U=>bif Nat.beq f 247 then aem U args else none
theorem nU:iR prog orc:=by
 intro f args U r h
 unfold orc at h
 cases hf:Nat.beq f 247 with
 |false=>rw [hf] at h;cases h
 |true =>
  rw [hf] at h
  simp only [cond_true] at h
  have d:=aM hf
  subst d
  unfold aem at h
  split at h
  ·rename_i v
   simp only [aL,aO,Zq,gq,ael,aE] at h
   obtain ⟨p,g1,g2,cs,g3,q,⟨w,g4,g5⟩,tcs,g6,⟨⟨⟨⟨g7,g8⟩,g9⟩,c⟩,e⟩,g⟩:=h
   cases g
   have e2:=aM g2
   obtain ⟨p1,p2⟩:=p
   simp only at e2 g3
   subst e2
   rw [jJ g1]
   have ha:=Ic (Option.bind_eq_some_iff.2 g3)
   have hb:=Ic (Option.bind_eq_some_iff.2 g6)
   rw [<- pq g7] at ha
   rw [<- pq g8] at hb
   simp only [Zp,aE,decide_eq_true_eq,dT,List.mem_range,ee] at c
   obtain ⟨⟨⟨⟨⟨c1,c2⟩,c3⟩,c4⟩,c5⟩,c6⟩:=c
   refine ⟨ai0 (cC c1) c2 c3 c4 (fun i hi=>?_) (fun i hi=>?_) hb ha e,Keep.refl⟩
   ·rcases c5 i hi with h|⟨⟨h1,h2⟩,h3⟩
    ·exact .inl h
    ·exact .inr ⟨h1,h2,h3⟩
   ·by_cases a:i<12
    ·rcases c6 i a with h|h
     ·have:=Nat.blt_eq.mp h;omega
     ·exact h
    ·unfold agj
     rw [show Nat.blt i 12=false from by
      cases hb:Nat.blt i 12 with
      |false=>rfl
      |true=>exact absurd (Nat.blt_eq.mp hb) a]
     rfl
  ·cases h
def stn:Value:=.agg #[.int .i64 3000,.int .i64 1500,.int .i64 10,.int .i64 540000,.int .i64 720000]
def pul:List Value:=[.int .i64 200,.int .i64 250,.int .i64 260,.int .i64 300,.int .i64 390]
def pul2:List Value:=[.int .i64 200,.int .i64 250,.int .i64 260,.int .i64 300,.int .i64 400]
def s5:Value:=.slice (some ⟨0,0,none⟩) 5 5
def knA0:Known:=⟨151,[stn,s5,.int .i64 0],[pul],.tuple #[.agg #[.int .i64 2710,.int .i64 3000],.int .i64 0],[]⟩
theorem agk:jF prog knA0:=⟨lT (orc:=orc) tabOk nU mixed (n:=200) (lo:=1) oK,oK,oK⟩
def knA1:Known:=⟨151,[stn,s5,.int .i64 1],[pul],.tuple #[.agg #[.int .i64 2170,.int .i64 2870],.int .i64 0],[]⟩
theorem agl:jF prog knA1:=⟨lT (orc:=orc) tabOk nU mixed (n:=200) (lo:=1) oK,oK,oK⟩
def knA2:Known:=⟨151,[stn,s5,.int .i64 2],[pul],.tuple #[.agg #[.int .i64 2087,.int .i64 2759],.int .i64 0],[]⟩
theorem agm:jF prog knA2:=⟨lT (orc:=orc) tabOk nU mixed (n:=200) (lo:=1) oK,oK,oK⟩
def knA3:Known:=⟨151,[stn,s5,.int .i64 3],[pul],.tuple #[.agg #[.int .i64 1810,.int .i64 2390],.int .i64 0],[]⟩
theorem agn:jF prog knA3:=⟨lT (orc:=orc) tabOk nU mixed (n:=200) (lo:=1) oK,oK,oK⟩
def knA4:Known:=⟨151,[stn,s5,.int .i64 4],[pul],.tuple #[.agg #[.int .i64 1500,.int .i64 1836],.int .i64 0],[]⟩
theorem agp:jF prog knA4:=⟨lT (orc:=orc) tabOk nU mixed (n:=200) (lo:=1) oK,oK,oK⟩
def knG1:Known:=⟨152,[stn,s5],[pul],.tuple #[.int .i64 0,.int .i64 5],[]⟩
theorem agq:jF prog knG1:=⟨lT (orc:=orc) tabOk nU mixed (n:=200) (lo:=1) oK,oK,oK⟩
def knG2:Known:=⟨152,[stn,s5],[pul2],.tuple #[.int .i64 1809,.int .i64 0],[]⟩
theorem agr:jF prog knG2:=⟨lT (orc:=orc) tabOk nU mixed (n:=200) (lo:=1) oK,oK,oK⟩
def run4 (a b c d e f g h:Int):List Value:=[.int .i64 a,.int .i64 b,.int .i64 c,.int .i64 d,.int .i64 e,.int .i64 f,.int .i64 g,.int .i64 h]
def s4:Value:=.slice (some ⟨1,0,none⟩) 4 4
def knP:Known:=⟨14,[stn,s5],[pul],.tuple #[.slice (some ⟨1,0,none⟩) 4 4,.int .i64 0],[.rw [.int .i64 3000,.int .i64 0,.int .i64 2709,.int .i64 2,.int .i64 2086,.int .i64 3,.int .i64 1809,.int .i64 4]]⟩
theorem ai2:jF prog knP:=⟨lT (orc:=orc) tabOk nU mixed (n:=200) (lo:=1) oK,oK,oK⟩
def knX:Known:=⟨154,[stn,s5],[pul],.tuple #[.slice (some ⟨1,0,none⟩) 4 4,.int .i64 0],[.rw [.int .i64 3000,.int .i64 2709,.int .i64 2086,.int .i64 1809]]⟩
theorem ai3:jF prog knX:=⟨lT (orc:=orc) tabOk nU mixed (n:=200) (lo:=1) oK,oK,oK⟩
def knC1:Known:=⟨23,[stn,s5,s4],[pul,run4 3000 0 2800 1 2100 3 1836 4],.int .i64 19,[]⟩
theorem ags:jF prog knC1:=⟨lT (orc:=orc) tabOk nU mixed (n:=200) (lo:=2) oK,oK,oK⟩
def knC2:Known:=⟨23,[stn,s5,s4],[pul,run4 3000 0 2800 1 2169 3 1836 4],.int .i64 0,[]⟩
theorem agt:jF prog knC2:=⟨lT (orc:=orc) tabOk nU mixed (n:=200) (lo:=2) oK,oK,oK⟩
def knV:Known:=⟨15,[stn,s5,s4],[pul,run4 3000 0 2709 2 2086 3 1809 4],.tuple #[.agg #[.int .i64 540000,.int .i64 709410],.int .i64 0],[]⟩
theorem ai4:jF prog knV:=⟨lT (orc:=orc) tabOk nU mixed (n:=200) (lo:=2) oK,oK,oK⟩
def knQ:Known:=⟨155,[stn,s5,.slice (some ⟨1,0,none⟩) 3 3],[pul,[.int .i64 3000,.int .i64 2800,.int .i64 2000]],.int .i64 14,[]⟩
theorem ai5:jF prog knQ:=⟨lT (orc:=orc) tabOk nU mixed (n:=200) (lo:=2) oK,oK,oK⟩
def knF1:Known:=⟨156,[stn,s5,.int .i64 1],[pul],.tuple #[.int .i64 2710,.int .i64 0],[]⟩
theorem agu:jF prog knF1:=⟨lT (orc:=orc) tabOk nU mixed (n:=200) (lo:=1) oK,oK,oK⟩
def knF2:Known:=⟨156,[stn,s5,.int .i64 2],[pul],.tuple #[.int .i64 2087,.int .i64 0],[]⟩
theorem agv:jF prog knF2:=⟨lT (orc:=orc) tabOk nU mixed (n:=200) (lo:=1) oK,oK,oK⟩
def knF4:Known:=⟨156,[stn,s5,.int .i64 4],[pul],.tuple #[.int .i64 1500,.int .i64 0],[]⟩
theorem agw:jF prog knF4:=⟨lT (orc:=orc) tabOk nU mixed (n:=200) (lo:=1) oK,oK,oK⟩
def knK:Known:=⟨157,[stn,s5],[pul],.tuple #[.slice (some ⟨1,0,none⟩) 5 5,.int .i64 0],[.rw [.int .i64 2,.int .i64 1,.int .i64 1,.int .i64 2,.int .i64 2]]⟩
theorem ai6:jF prog knK:=⟨lT (orc:=orc) tabOk nU mixed (n:=200) (lo:=1) oK,oK,oK⟩
def ksW:List Known:=[knA0,knA1,knA2,knA3,knA4,knG1,knG2,knP,knX,knC1,knC2,knV,knQ,knF1,knF2,knF4,knK]
theorem ai7:∀ k ∈ ksW,jF prog k:=by intro k hk;simp only [ksW,List.mem_cons,List.not_mem_nil,or_false] at hk;rcases hk with rfl|rfl|rfl|rfl|rfl|rfl|rfl|rfl|rfl|rfl|rfl|rfl|rfl|rfl|rfl|rfl|rfl <;> first|exact agk|exact agl|exact agm|exact agn|exact agp|exact agq|exact agr|exact ai2|exact ai3|exact ags|exact agt|exact ai4|exact ai5|exact agu|exact agv|exact agw|exact ai6
def knW:Known:=⟨67,[],[],.bool true,[]⟩
theorem ai8:jF prog knW:=⟨lT (orc:=abG orc (Jp ksW)) tabOk (abH nU (Np ai7)) mixed (n:=200) (lo:=0) oK,oK,oK⟩
theorem LP {U:Heap} {s:St} {l:List Int} {x c:Nat} (hx:dD U x (ints l)) (hN:l.length<=1000000) (hr:-9223372036854775808<=s.short/\s.short<=9223372036854775807) (h:gX s l ≠ 0) (hni:Ni U) :
  Ev prog 69 [s.val,.s x l.length c] U (.tuple #[.pointer none,.i (gX s l)]) U :=
 Ev.arrs [ints l] [x] (aeg s l c hN hr h) ⟨hx,trivial⟩ ⟨bF _ rfl,by simpa [bsR] using VQ.slice (q:=true) (n:=1) (V:=bsR [x]) 0 0 l.length c c (aD _) oO,trivial⟩ (by simp [aZ]) rfl hni
theorem GK {U:Heap} {s:St} {l:List Int} {x c:Nat} (hx:dD U x (ints l)) (hr:-9223372036854775808<=s.short/\s.short<=9223372036854775807) (h:gX s l=0) (hni:Ni U) :
  Ev prog 69 [s.val,.s x l.length c] U (.tuple #[.p U.length,.i 0]) (U++[.rw (dI s (.s x l.length c) (dX s l) fun _=>0)]):=by
 refine Ev.arrsN [ints l] [x] (agh s l c hr h) ⟨hx,trivial⟩ ⟨bF _ rfl,by simpa [bsR] using VQ.slice (q:=true) (n:=1) (V:=bsR [x]) 0 0 l.length c c (aD _) oO,trivial⟩ (by simp [aZ]) rfl ?_ ?_ hni
 ·simp [ren,zM,yK,shf]
 ·simp only [cG,cY,CS,LM]
  simp [ren,shf,bsR]
theorem Ie {U:Heap} {s:St} {tv:Value} {f:Nat->Int×Int} {g:Nat->Int} {r i:Nat} (h:dD U r (dI s tv f g)) (hi:i<12):aK U r (6+i*2) 2=some [.i (f i).1,.i (f i).2]:=by
 have h2:=OJ (a:=.ro []) (s:=s) (tv:=tv) (f:=f) (g:=g) (r:=[]) hi
 unfold aK at h2 ⊢
 rcases h with h|h|⟨t,h⟩ <;> rw [h] <;> exact h2
theorem aa9 {s:St} {l:List Int}:∀ i<l.length,dX s l i=nw\/(s.short<=(dX s l i).1/\(dX s l i).1<=(dX s l i).2/\(dX s l i).2<=s.long):=by
 intro i hi
 unfold dX
 rw [if_pos hi]
 unfold LK
 split
 ·rename_i h
  right
  unfold span at h ⊢
  simp only at h ⊢
  omega
 ·exact .inl rfl
end Go.Proofs.YtajpgeklmcjciaaGreat
