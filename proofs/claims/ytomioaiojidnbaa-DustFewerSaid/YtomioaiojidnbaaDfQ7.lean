/- DustFewer's law; the reader of an uint16. -/
import Derived.Test.YtomioaiojidnbaaDfQ6
import Derived.Test.YtomioaiojidnbaaDfMM
import Derived.OpenShut
import Derived.Test.YtomioaiojidnbaaDfQ1
import Derived.Deep.Slices
namespace Go.AH.Dust
open Go Go.AH
theorem hc_k18M (S:Shp) {iy:Nat} (hiy:iy<18) (zl:List Int) {c9:List Value} (hcp:gy c9=true) (w0 w1 w2 less:Nat) (WL:List Int) (MO:List Int) (mA mB:Int) (BL:List Int) (rA rB:Int):eX 18 [.ro (ints S.d),.ro (pc S.f),.ro (ints S.s),.rw (shL 0 1 2 S),.rw [.int .u8 (w0:Int),.int .u8 (w1:Int),.int .u8 (w2:Int)],.rw [sl 0 S.d.length,sl 8 (exL S.f (w0 % S.f.length)).length,sl 2 S.s.length],.rw [sl 0 S.d.length,sl 1 S.f.length,sl iy zl.length],.rw [dL 11 1 S.d.length,sl 1 S.f.length,sl 2 S.s.length],.rw (pc (exL S.f (w0 % S.f.length))),.rw c9,.dead,.gr (ints (dZ S (w2 % S.d.length) (less:Int))) 2,.rw [sl 0 S.d.length,sl 8 (exL S.f (w0 % S.f.length)).length,sl 2 S.s.length,sl 0 S.d.length,sl 1 S.f.length,sl iy zl.length,dL 11 1 S.d.length,sl 1 S.f.length,sl 2 S.s.length],.rw (ints WL),.rw (ints MO),.rw [.int .i64 mA,.int .i64 mB],.rw (ints BL),.rw [.int .i64 rA,.int .i64 rB]]:=by
 have s0:=jq (n:=18) (i:=0) (l:=S.d.length) (c:=S.d.length) (by omega)
 have s1:=jq (n:=18) (i:=1) (l:=S.f.length) (c:=S.f.length) (by omega)
 have s2:=jq (n:=18) (i:=2) (l:=S.s.length) (c:=S.s.length) (by omega)
 have s8:=jq (n:=18) (i:=8) (l:=(exL S.f (w0 % S.f.length)).length) (c:=(exL S.f (w0 % S.f.length)).length) (by omega)
 have s9:=jq (n:=18) (i:=iy) (l:=zl.length) (c:=zl.length) (by omega)
 have s11:closed 18 (dL 11 1 S.d.length)=true:=jV rfl
 have t11:okV (dL 11 1 S.d.length)=true:=rC
 refine ⟨ay (aK _),ay (dJ _),ay (aK _),iq (by omega) (by omega) (by omega),ay rfl,⟨?_,?_⟩,⟨?_,?_⟩,⟨?_,?_⟩,ay (dJ _),ay hcp,trivial,ay (aK _),⟨?_,?_⟩,ay (aK _),ay (aK _),ay rfl,ay (aK _),ay rfl,trivial⟩
 all_goals first|simp only [dR,s0.1,s1.1,s2.1,s8.1,s9.1,s11,Bool.and_true]|simp only [okL,s0.2,s1.2,s2.2,s8.2,s9.2,t11,Bool.and_true]
end Go.AH.Dust
namespace Go.Proofs.Ytomioaiojidnbaa
open Go Go.AH
attribute [local irreducible] dO dI dM kK iM gK iC dV iJ dQ iK iE
set_option maxRecDepth 100000
set_option maxHeartbeats 1000000
open Go.AH.Dust
theorem dustFewerM (hwo:∀ σ:Heap,σ.all (fun o=>!dB o)=true→Ev Try.prog 14 [] σ (.bool true) σ) (S:Shp) (hS:S.fit) (h0:dG S=0) (w0 w1 w2 less p:Nat) (b0:w0≤255) (b1:w1≤255) (b2:w2≤255) (hl:less≤65535) (hp:p≤255) (lim:Int) (_hlim:-9223372036854775808≤lim∧lim≤9223372036854775807) :
  Ev Try.prog 9 [shV 0 1 2 S,.agg #[.int .u8 (w0:Int),.int .u8 (w1:Int),.int .u8 (w2:Int)],.int .u16 (less:Int),.int .u8 (p:Int),.int .i64 lim] S.hp (.bool true) S.hp:=by
 have hfi:=Gf (σ:=[.ro (ints S.d),.ro (pc S.f),.ro (ints S.s),.rw (shL 0 1 2 S),.rw [.int .u8 (w0:Int),.int .u8 (w1:Int),.int .u8 (w2:Int)]]) (S:=S) (x:=0) (y:=1) (z:=2) ⟨.inl rfl,.inl rfl,.inl rfl⟩ gW hS rfl
 rw [decide_eq_true h0] at hfi
 have hok:=fB h0
 have n1:=hok.n1
 have n10:=hok.n10
 have f60:=hok.f60
 have s10:=hok.s10
 have e1:((p:Nat):Int).tmod 24=((p % 24:Nat):Int):=rfl
 have hp1:0≤((p:Nat):Int).tmod 24∧((p:Nat):Int).tmod 24<24:=by rw [e1];omega
 obtain ⟨g,hgp⟩:∃ g:Nat,1+((p:Nat):Int).tmod 24=(g:Int):=⟨1+p % 24,by rw [e1];omega⟩
 have hg1:1≤g:=by omega
 have hg24:g≤24:=by omega
 refine aX 3 268 Try.func9 rfl rfl rfl rfl rfl ?_
 repeat' (first|(refine gU ?_;first|(refine aP ?_;refine st (au rfl) rfl rfl ?_)|(refine aI ?_;refine st (aA rfl) rfl rfl ?_)|(refine gFA ?_;refine st (aB rfl) rfl rfl ?_)|(refine aU ?_;first|refine st (ak rfl (by rfl)) rfl rfl ?_|refine st (aZ rfl (by rfl)) rfl rfl ?_)|(refine iw ?_;refine st (tZ rfl rfl (by omega) (by omega)) rfl rfl ?_)|(refine bG ?_;first|refine st (aG rfl rfl rfl) rfl rfl ?_|refine st (CV rfl rfl (by omega)) rfl rfl ?_)|(refine fK ?_;refine st (bK rfl) rfl rfl ?_)|(refine kX ?_;refine st (gX rfl) rfl rfl ?_)|(refine xU ?_;refine st (mX rfl (by omega) (by omega)) rfl rfl ?_)|(refine fC ?_;refine st (bC rfl rfl rfl (by exact hfi)) rfl rfl ?_)|(refine kD ?_;refine st (gI rfl) rfl rfl ?_))|(refine fU ?_;first|(refine iH ?_;refine frA (aZ rfl (by rfl)) rfl ?_)|(refine zW ?_;refine Chain.fr1A (bQ rfl) rfl rfl rfl ?_))|(refine fD ⟨by kernel_rfl,?_⟩)|refine aS ?_|refine aj ?_|refine Chain.W_regionC (id:=4) (by kernel_rfl) rfl ?_|refine ah ?_|refine Chain.wc_nil ?_|refine Chain.G5 3 [true,true,true] (shL 0 1 2 S) (by kernel_rfl) (by kernel_rfl) (by kernel_rfl) (by kernel_rfl) (iq (n:=5) (by omega) (by omega) (by omega)).1 (iq (n:=5) (by omega) (by omega) (by omega)).2 (aJ rfl rfl rfl rfl rfl) ?_|refine Chain.G5 4 [true,true,true] (shL 0 1 2 S) (by kernel_rfl) (by kernel_rfl) (by kernel_rfl) (by kernel_rfl) (iq (n:=5) (by omega) (by omega) (by omega)).1 (iq (n:=5) (by omega) (by omega) (by omega)).2 (aJ rfl rfl rfl rfl rfl) ?_|refine Chain.G5 5 [true,true,true] (shL 0 1 2 S) (by kernel_rfl) (by kernel_rfl) (by kernel_rfl) (by kernel_rfl) (iq (n:=5) (by omega) (by omega) (by omega)).1 (iq (n:=5) (by omega) (by omega) (by omega)).2 (aJ rfl rfl rfl rfl rfl) ?_|refine bg ?_|refine aW ?_|refine MS (t:=55) ?_|refine aN rfl ?_)
 have hk0:0<S.f.length→w0 % S.f.length<S.f.length:=fun h=>Nat.mod_lt _ h
 have hexF:(exL S.f (w0 % S.f.length)).length≤S.f.length:=Qu
 simp only [hgp]
 refine ⟨?_⟩
 refine P9 [(2,.int .u16 (less:Int)),(4,.int .i64 lim),(5,.pointer (some ⟨3,0,none⟩)),(6,.pointer (some ⟨4,0,none⟩)),(11,.int .i64 (g:Int)),(12,.pointer (some ⟨5,0,none⟩)),(13,.pointer (some ⟨6,0,none⟩)),(14,.pointer (some ⟨7,0,none⟩)),(55,.bool (decide ((S.f.length:Int) > 0)))] [.ro (ints S.d),.ro (pc S.f),.ro (ints S.s),.rw (shL 0 1 2 S),.rw [.int .u8 (w0:Int),.int .u8 (w1:Int),.int .u8 (w2:Int)],.rw (shL 0 1 2 S),.rw (shL 0 1 2 S),.rw (shL 0 1 2 S)] (by kernel_rfl) ⟨rfl,rfl,rfl,rfl,rfl,rfl,rfl,rfl,rfl,trivial⟩ ?_
 clear hgp hp1 e1 hfi
 refine NU rfl [(2,.int .u16 (less:Int)),(4,.int .i64 lim),(5,.pointer (some ⟨3,0,none⟩)),(6,.pointer (some ⟨4,0,none⟩)),(11,.int .i64 (g:Int)),(12,.pointer (some ⟨5,0,none⟩)),(13,.pointer (some ⟨6,0,none⟩)),(14,.pointer (some ⟨7,0,none⟩))] [.ro (ints S.d),.ro (pc S.f),.ro (ints S.s),.rw (shL 0 1 2 S),.rw [.int .u8 (w0:Int),.int .u8 (w1:Int),.int .u8 (w2:Int)],.rw [sl 0 S.d.length,sl 8 (exL S.f (w0 % S.f.length)).length,sl 2 S.s.length],.rw (shL 0 1 2 S),.rw (shL 0 1 2 S),.rw (pc (exL S.f (w0 % S.f.length)))] (by simp) (fun hx=>?_) (fun hx=>?_) ?_
 ·have hF:0<S.f.length:=by have:=of_decide_eq_true hx;omega
  replace hk0:=hk0 hF
  have hA:∀ σ':Heap,dh (.ro (ints S.d)::.ro (pc S.f)::σ') 1 0 (w0 % S.f.length*2)=some (pc (S.f.take (w0 % S.f.length))):=fun σ'=>by
   have:=NZ (σ:=.ro (ints S.d)::.ro (pc S.f)::σ') (x:=1) (f:=S.f) (.inl rfl) (a:=0) (n:=w0 % S.f.length) (by omega)
   rw [Nat.zero_mul,List.drop_zero] at this;exact this
  have hB:∀ σ':Heap,dh (.ro (ints S.d)::.ro (pc S.f)::σ') 1 (0+(w0 % S.f.length+1)*2) ((S.f.length - (w0 % S.f.length+1))*2)=some (pc (S.f.drop (w0 % S.f.length+1))):=fun σ'=>by
   have:=NZ (σ:=.ro (ints S.d)::.ro (pc S.f)::σ') (x:=1) (f:=S.f) (.inl rfl) (a:=w0 % S.f.length+1) (n:=S.f.length - (w0 % S.f.length+1)) (by omega)
   rw [List.take_of_length_le (by simp)] at this
   rw [Nat.zero_add];exact this
  have hone:=J8 (S.f.drop (w0 % S.f.length+1))
  have hlen:(pc (S.f.take (w0 % S.f.length))).length=w0 % S.f.length*2:=by rw [yD];simp;omega
  have hlE:(exL S.f (w0 % S.f.length)).length=S.f.length - 1:=CJ hk0
  have hcE:pc (exL S.f (w0 % S.f.length))=pc (S.f.take (w0 % S.f.length))++pc (S.f.drop (w0 % S.f.length+1)):=pc_append _ _
  have hF0:S.f.length ≠ 0:=by omega
  generalize hX:exL S.f (w0 % S.f.length)=X at *
  by_cases k0:w0 % S.f.length=0 <;> by_cases k1:S.f.length - (w0 % S.f.length+1)=0
  ·repeat' (first|(refine gU ?_;first|(refine aI ?_;refine st (aA rfl) rfl rfl ?_)|(refine gFA ?_;refine st (aB rfl) rfl rfl ?_)|(refine aU ?_;refine st (ak rfl (by rfl)) rfl rfl ?_)|(refine bG ?_;refine st (rG rfl rfl (by omega)) rfl rfl ?_)|(refine fK ?_;refine st (bK rfl) rfl rfl ?_)|(refine gIA ?_;refine st (bV rfl rfl (by omega) (by omega)) rfl rfl ?_)|(refine xU ?_;refine st (mX rfl (by omega) (by omega)) rfl rfl ?_))|refine aS ?_|refine kY (id:=7) ?_|refine aj ?_|refine ah ?_|refine bg ?_)
   refine ⟨?_⟩
   refine oU (id:=7) (by kernel_rfl) ?_
   refine aC 1 (hp:=aT rfl) rfl rfl ?_
   refine aC 3 rfl rfl ?_
   refine aC 6 (hp:=aT rfl) rfl rfl ?_
   refine aC 8 rfl rfl ?_
   refine aC 9 rfl rfl ?_
   refine qL 0 2 7 rfl rfl rfl ?_ ?_ ?_
   ·refine st dK rfl rfl ?_
    refine ah (?_)
    refine iO 2 7 rfl rfl ?_ ?_
    ·refine st (ak rfl rfl) rfl rfl ?_
     refine ah (?_)
     refine aC 4 rfl rfl ?_
     refine iO 5 7 rfl rfl ?_ ?_
     ·refine st (dP rfl rfl rfl k0) rfl rfl ?_
      refine ah (?_)
      refine aH 7 rfl ?_
      refine st (ak rfl rfl) rfl rfl ?_
      refine ah (?_)
      refine aC 10 rfl rfl ?_
      refine aH 11 rfl ?_
      refine st (dP rfl rfl rfl k1) rfl rfl ?_
      refine ah (?_)
      refine aC 12 (hp:=aT rfl) rfl rfl ?_
      refine aH 13 rfl ?_
      refine stN (aJ (size:=1) rfl rfl (by rfl) (by rfl) (by rfl)) rfl ?_
      refine ah (?_)
      refine dn ?_
      obtain rfl:X=[]:=List.eq_nil_of_length_eq_zero (by omega)
      exact ⟨rfl,rfl,bT.all _ 8 [8] (by simp) rfl rfl (nX rfl rfl (.emptySlice _ _ _ _) (.inl rfl)) (by (repeat' (first|exact trivial|refine ⟨bD rfl rfl,?_⟩|refine ⟨aV (m:=8) rfl (fun i hi=>aY hi) (by simp) (by rfl) rfl,?_⟩)))⟩
     ·refine st (ak rfl rfl) rfl rfl ?_
      refine ah (?_)
      refine aC 10 rfl rfl ?_
      refine aH 5 rfl ?_
      refine st (dP rfl rfl rfl k0) rfl rfl ?_
      refine ah (?_)
      refine aH 11 rfl ?_
      refine st (dP rfl rfl rfl k1) rfl rfl ?_
      refine ah (?_)
      refine aC 12 (hp:=aT rfl) rfl rfl ?_
      refine aH 13 rfl ?_
      refine stN (aJ (size:=1) rfl rfl (by rfl) (by rfl) (by rfl)) rfl ?_
      refine ah (?_)
      refine dn ?_
      obtain rfl:X=[]:=List.eq_nil_of_length_eq_zero (by omega)
      exact ⟨rfl,rfl,bT.all _ 8 [8] (by simp) rfl rfl (nX rfl rfl (.emptySlice _ _ _ _) (.inl rfl)) (by (repeat' (first|exact trivial|refine ⟨bD rfl rfl,?_⟩|refine ⟨aV (m:=8) rfl (fun i hi=>aY hi) (by simp) (by rfl) rfl,?_⟩)))⟩
    ·refine st (ak rfl rfl) rfl rfl ?_
     refine ah (?_)
     refine aC 10 rfl rfl ?_
     refine aH 2 rfl ?_
     refine st (ak rfl rfl) rfl rfl ?_
     refine ah (?_)
     refine aC 4 rfl rfl ?_
     refine aH 5 rfl ?_
     refine st (dP rfl rfl rfl k0) rfl rfl ?_
     refine ah (?_)
     refine aH 11 rfl ?_
     refine st (dP rfl rfl rfl k1) rfl rfl ?_
     refine ah (?_)
     refine aC 12 (hp:=aT rfl) rfl rfl ?_
     refine aH 13 rfl ?_
     refine stN (aJ (size:=1) rfl rfl (by rfl) (by rfl) (by rfl)) rfl ?_
     refine ah (?_)
     refine dn ?_
     obtain rfl:X=[]:=List.eq_nil_of_length_eq_zero (by omega)
     exact ⟨rfl,rfl,bT.all _ 8 [8] (by simp) rfl rfl (nX rfl rfl (.emptySlice _ _ _ _) (.inl rfl)) (by (repeat' (first|exact trivial|refine ⟨bD rfl rfl,?_⟩|refine ⟨aV (m:=8) rfl (fun i hi=>aY hi) (by simp) (by rfl) rfl,?_⟩)))⟩
   ·refine st (ak rfl rfl) rfl rfl ?_
    refine ah (?_)
    refine aC 4 rfl rfl ?_
    refine iO 0 7 rfl rfl ?_ ?_
    ·refine st dK rfl rfl ?_
     refine ah (?_)
     refine iO 5 7 rfl rfl ?_ ?_
     ·refine st (dP rfl rfl rfl k0) rfl rfl ?_
      refine ah (?_)
      refine aH 7 rfl ?_
      refine st (ak rfl rfl) rfl rfl ?_
      refine ah (?_)
      refine aC 10 rfl rfl ?_
      refine aH 11 rfl ?_
      refine st (dP rfl rfl rfl k1) rfl rfl ?_
      refine ah (?_)
      refine aC 12 (hp:=aT rfl) rfl rfl ?_
      refine aH 13 rfl ?_
      refine stN (aJ (size:=1) rfl rfl (by rfl) (by rfl) (by rfl)) rfl ?_
      refine ah (?_)
      refine dn ?_
      obtain rfl:X=[]:=List.eq_nil_of_length_eq_zero (by omega)
      exact ⟨rfl,rfl,bT.all _ 8 [8] (by simp) rfl rfl (nX rfl rfl (.emptySlice _ _ _ _) (.inl rfl)) (by (repeat' (first|exact trivial|refine ⟨bD rfl rfl,?_⟩|refine ⟨aV (m:=8) rfl (fun i hi=>aY hi) (by simp) (by rfl) rfl,?_⟩)))⟩
     ·refine st (ak rfl rfl) rfl rfl ?_
      refine ah (?_)
      refine aC 10 rfl rfl ?_
      refine aH 5 rfl ?_
      refine st (dP rfl rfl rfl k0) rfl rfl ?_
      refine ah (?_)
      refine aH 11 rfl ?_
      refine st (dP rfl rfl rfl k1) rfl rfl ?_
      refine ah (?_)
      refine aC 12 (hp:=aT rfl) rfl rfl ?_
      refine aH 13 rfl ?_
      refine stN (aJ (size:=1) rfl rfl (by rfl) (by rfl) (by rfl)) rfl ?_
      refine ah (?_)
      refine dn ?_
      obtain rfl:X=[]:=List.eq_nil_of_length_eq_zero (by omega)
      exact ⟨rfl,rfl,bT.all _ 8 [8] (by simp) rfl rfl (nX rfl rfl (.emptySlice _ _ _ _) (.inl rfl)) (by (repeat' (first|exact trivial|refine ⟨bD rfl rfl,?_⟩|refine ⟨aV (m:=8) rfl (fun i hi=>aY hi) (by simp) (by rfl) rfl,?_⟩)))⟩
    ·refine st (ak rfl rfl) rfl rfl ?_
     refine ah (?_)
     refine aC 10 rfl rfl ?_
     refine aH 0 rfl ?_
     refine st dK rfl rfl ?_
     refine ah (?_)
     refine aH 5 rfl ?_
     refine st (dP rfl rfl rfl k0) rfl rfl ?_
     refine ah (?_)
     refine aH 11 rfl ?_
     refine st (dP rfl rfl rfl k1) rfl rfl ?_
     refine ah (?_)
     refine aC 12 (hp:=aT rfl) rfl rfl ?_
     refine aH 13 rfl ?_
     refine stN (aJ (size:=1) rfl rfl (by rfl) (by rfl) (by rfl)) rfl ?_
     refine ah (?_)
     refine dn ?_
     obtain rfl:X=[]:=List.eq_nil_of_length_eq_zero (by omega)
     exact ⟨rfl,rfl,bT.all _ 8 [8] (by simp) rfl rfl (nX rfl rfl (.emptySlice _ _ _ _) (.inl rfl)) (by (repeat' (first|exact trivial|refine ⟨bD rfl rfl,?_⟩|refine ⟨aV (m:=8) rfl (fun i hi=>aY hi) (by simp) (by rfl) rfl,?_⟩)))⟩
   ·refine st (ak rfl rfl) rfl rfl ?_
    refine ah (?_)
    refine aC 10 rfl rfl ?_
    refine iO 0 2 rfl rfl ?_ ?_
    ·refine st dK rfl rfl ?_
     refine ah (?_)
     refine aH 2 rfl ?_
     refine st (ak rfl rfl) rfl rfl ?_
     refine ah (?_)
     refine aC 4 rfl rfl ?_
     refine aH 5 rfl ?_
     refine st (dP rfl rfl rfl k0) rfl rfl ?_
     refine ah (?_)
     refine aH 11 rfl ?_
     refine st (dP rfl rfl rfl k1) rfl rfl ?_
     refine ah (?_)
     refine aC 12 (hp:=aT rfl) rfl rfl ?_
     refine aH 13 rfl ?_
     refine stN (aJ (size:=1) rfl rfl (by rfl) (by rfl) (by rfl)) rfl ?_
     refine ah (?_)
     refine dn ?_
     obtain rfl:X=[]:=List.eq_nil_of_length_eq_zero (by omega)
     exact ⟨rfl,rfl,bT.all _ 8 [8] (by simp) rfl rfl (nX rfl rfl (.emptySlice _ _ _ _) (.inl rfl)) (by (repeat' (first|exact trivial|refine ⟨bD rfl rfl,?_⟩|refine ⟨aV (m:=8) rfl (fun i hi=>aY hi) (by simp) (by rfl) rfl,?_⟩)))⟩
    ·refine st (ak rfl rfl) rfl rfl ?_
     refine ah (?_)
     refine aC 4 rfl rfl ?_
     refine aH 0 rfl ?_
     refine st dK rfl rfl ?_
     refine ah (?_)
     refine aH 5 rfl ?_
     refine st (dP rfl rfl rfl k0) rfl rfl ?_
     refine ah (?_)
     refine aH 11 rfl ?_
     refine st (dP rfl rfl rfl k1) rfl rfl ?_
     refine ah (?_)
     refine aC 12 (hp:=aT rfl) rfl rfl ?_
     refine aH 13 rfl ?_
     refine stN (aJ (size:=1) rfl rfl (by rfl) (by rfl) (by rfl)) rfl ?_
     refine ah (?_)
     refine dn ?_
     obtain rfl:X=[]:=List.eq_nil_of_length_eq_zero (by omega)
     exact ⟨rfl,rfl,bT.all _ 8 [8] (by simp) rfl rfl (nX rfl rfl (.emptySlice _ _ _ _) (.inl rfl)) (by (repeat' (first|exact trivial|refine ⟨bD rfl rfl,?_⟩|refine ⟨aV (m:=8) rfl (fun i hi=>aY hi) (by simp) (by rfl) rfl,?_⟩)))⟩
  ·repeat' (first|(refine gU ?_;first|(refine aI ?_;refine st (aA rfl) rfl rfl ?_)|(refine gFA ?_;refine st (aB rfl) rfl rfl ?_)|(refine aU ?_;refine st (ak rfl (by rfl)) rfl rfl ?_)|(refine bG ?_;refine st (rG rfl rfl (by omega)) rfl rfl ?_)|(refine fK ?_;refine st (bK rfl) rfl rfl ?_)|(refine gIA ?_;refine st (bV rfl rfl (by omega) (by omega)) rfl rfl ?_)|(refine xU ?_;refine st (mX rfl (by omega) (by omega)) rfl rfl ?_))|refine aS ?_|refine kY (id:=7) ?_|refine aj ?_|refine ah ?_|refine bg ?_)
   refine ⟨?_⟩
   refine oU (id:=7) (by kernel_rfl) ?_
   refine aC 1 (hp:=aT rfl) rfl rfl ?_
   refine aC 3 rfl rfl ?_
   refine aC 6 (hp:=aT rfl) rfl rfl ?_
   refine aC 8 rfl rfl ?_
   refine aC 9 rfl rfl ?_
   refine qL 0 2 7 rfl rfl rfl ?_ ?_ ?_
   ·refine st dK rfl rfl ?_
    refine ah (?_)
    refine iO 2 7 rfl rfl ?_ ?_
    ·refine st (ak rfl rfl) rfl rfl ?_
     refine ah (?_)
     refine aC 4 rfl rfl ?_
     refine iO 5 7 rfl rfl ?_ ?_
     ·refine st (dP rfl rfl rfl k0) rfl rfl ?_
      refine ah (?_)
      refine aH 7 rfl ?_
      refine st (ak rfl rfl) rfl rfl ?_
      refine ah (?_)
      refine aC 10 rfl rfl ?_
      refine aH 11 rfl ?_
      refine st (bW (by rfl) rfl rfl (hB _) (by omega) (by omega) (by omega)) rfl rfl ?_
      refine ah (?_)
      refine aC 12 (hp:=aT rfl) rfl rfl ?_
      refine aH 13 rfl ?_
      refine stN (aJ (size:=1) rfl rfl (by (rw [aF];rfl)) (by (rw [aF];exact dU)) (by (rw [aF];rfl))) rfl ?_
      refine ah (?_)
      refine dn ?_
      have hc2:pc X=pc (S.f.drop (w0 % S.f.length+1)):=by rw [hcE,show S.f.take (w0 % S.f.length)=[] by rw [k0];rfl];rfl
      have hl2:X.length=S.f.length - (w0 % S.f.length+1):=by omega
      exact ⟨rfl,rfl,bT.all _ 8 [9] (by simp) rfl rfl (nX rfl rfl (by rw [hl2];exact dw (by simp) rfl) (dA (j:=9) rfl (.inr ⟨70,by rw [hc2];rfl⟩) (dJ _))) (by (repeat' (first|exact trivial|refine ⟨bD rfl rfl,?_⟩|refine ⟨aV (m:=8) rfl (fun i hi=>aY hi) (by simp) (by rfl) rfl,?_⟩)))⟩
     ·refine st (ak rfl rfl) rfl rfl ?_
      refine ah (?_)
      refine aC 10 rfl rfl ?_
      refine aH 5 rfl ?_
      refine st (dP rfl rfl rfl k0) rfl rfl ?_
      refine ah (?_)
      refine aH 11 rfl ?_
      refine st (bW (by rfl) rfl rfl (hB _) (by omega) (by omega) (by omega)) rfl rfl ?_
      refine ah (?_)
      refine aC 12 (hp:=aT rfl) rfl rfl ?_
      refine aH 13 rfl ?_
      refine stN (aJ (size:=1) rfl rfl (by (rw [aF];rfl)) (by (rw [aF];exact dU)) (by (rw [aF];rfl))) rfl ?_
      refine ah (?_)
      refine dn ?_
      have hc2:pc X=pc (S.f.drop (w0 % S.f.length+1)):=by rw [hcE,show S.f.take (w0 % S.f.length)=[] by rw [k0];rfl];rfl
      have hl2:X.length=S.f.length - (w0 % S.f.length+1):=by omega
      exact ⟨rfl,rfl,bT.all _ 8 [9] (by simp) rfl rfl (nX rfl rfl (by rw [hl2];exact dw (by simp) rfl) (dA (j:=9) rfl (.inr ⟨70,by rw [hc2];rfl⟩) (dJ _))) (by (repeat' (first|exact trivial|refine ⟨bD rfl rfl,?_⟩|refine ⟨aV (m:=8) rfl (fun i hi=>aY hi) (by simp) (by rfl) rfl,?_⟩)))⟩
    ·refine st (ak rfl rfl) rfl rfl ?_
     refine ah (?_)
     refine aC 10 rfl rfl ?_
     refine aH 2 rfl ?_
     refine st (ak rfl rfl) rfl rfl ?_
     refine ah (?_)
     refine aC 4 rfl rfl ?_
     refine aH 5 rfl ?_
     refine st (dP rfl rfl rfl k0) rfl rfl ?_
     refine ah (?_)
     refine aH 11 rfl ?_
     refine st (bW (by rfl) rfl rfl (hB _) (by omega) (by omega) (by omega)) rfl rfl ?_
     refine ah (?_)
     refine aC 12 (hp:=aT rfl) rfl rfl ?_
     refine aH 13 rfl ?_
     refine stN (aJ (size:=1) rfl rfl (by (rw [aF];rfl)) (by (rw [aF];exact dU)) (by (rw [aF];rfl))) rfl ?_
     refine ah (?_)
     refine dn ?_
     have hc2:pc X=pc (S.f.drop (w0 % S.f.length+1)):=by rw [hcE,show S.f.take (w0 % S.f.length)=[] by rw [k0];rfl];rfl
     have hl2:X.length=S.f.length - (w0 % S.f.length+1):=by omega
     exact ⟨rfl,rfl,bT.all _ 8 [9] (by simp) rfl rfl (nX rfl rfl (by rw [hl2];exact dw (by simp) rfl) (dA (j:=9) rfl (.inr ⟨70,by rw [hc2];rfl⟩) (dJ _))) (by (repeat' (first|exact trivial|refine ⟨bD rfl rfl,?_⟩|refine ⟨aV (m:=8) rfl (fun i hi=>aY hi) (by simp) (by rfl) rfl,?_⟩)))⟩
   ·refine st (ak rfl rfl) rfl rfl ?_
    refine ah (?_)
    refine aC 4 rfl rfl ?_
    refine iO 0 7 rfl rfl ?_ ?_
    ·refine st dK rfl rfl ?_
     refine ah (?_)
     refine iO 5 7 rfl rfl ?_ ?_
     ·refine st (dP rfl rfl rfl k0) rfl rfl ?_
      refine ah (?_)
      refine aH 7 rfl ?_
      refine st (ak rfl rfl) rfl rfl ?_
      refine ah (?_)
      refine aC 10 rfl rfl ?_
      refine aH 11 rfl ?_
      refine st (bW (by rfl) rfl rfl (hB _) (by omega) (by omega) (by omega)) rfl rfl ?_
      refine ah (?_)
      refine aC 12 (hp:=aT rfl) rfl rfl ?_
      refine aH 13 rfl ?_
      refine stN (aJ (size:=1) rfl rfl (by (rw [aF];rfl)) (by (rw [aF];exact dU)) (by (rw [aF];rfl))) rfl ?_
      refine ah (?_)
      refine dn ?_
      have hc2:pc X=pc (S.f.drop (w0 % S.f.length+1)):=by rw [hcE,show S.f.take (w0 % S.f.length)=[] by rw [k0];rfl];rfl
      have hl2:X.length=S.f.length - (w0 % S.f.length+1):=by omega
      exact ⟨rfl,rfl,bT.all _ 8 [9] (by simp) rfl rfl (nX rfl rfl (by rw [hl2];exact dw (by simp) rfl) (dA (j:=9) rfl (.inr ⟨70,by rw [hc2];rfl⟩) (dJ _))) (by (repeat' (first|exact trivial|refine ⟨bD rfl rfl,?_⟩|refine ⟨aV (m:=8) rfl (fun i hi=>aY hi) (by simp) (by rfl) rfl,?_⟩)))⟩
     ·refine st (ak rfl rfl) rfl rfl ?_
      refine ah (?_)
      refine aC 10 rfl rfl ?_
      refine aH 5 rfl ?_
      refine st (dP rfl rfl rfl k0) rfl rfl ?_
      refine ah (?_)
      refine aH 11 rfl ?_
      refine st (bW (by rfl) rfl rfl (hB _) (by omega) (by omega) (by omega)) rfl rfl ?_
      refine ah (?_)
      refine aC 12 (hp:=aT rfl) rfl rfl ?_
      refine aH 13 rfl ?_
      refine stN (aJ (size:=1) rfl rfl (by (rw [aF];rfl)) (by (rw [aF];exact dU)) (by (rw [aF];rfl))) rfl ?_
      refine ah (?_)
      refine dn ?_
      have hc2:pc X=pc (S.f.drop (w0 % S.f.length+1)):=by rw [hcE,show S.f.take (w0 % S.f.length)=[] by rw [k0];rfl];rfl
      have hl2:X.length=S.f.length - (w0 % S.f.length+1):=by omega
      exact ⟨rfl,rfl,bT.all _ 8 [9] (by simp) rfl rfl (nX rfl rfl (by rw [hl2];exact dw (by simp) rfl) (dA (j:=9) rfl (.inr ⟨70,by rw [hc2];rfl⟩) (dJ _))) (by (repeat' (first|exact trivial|refine ⟨bD rfl rfl,?_⟩|refine ⟨aV (m:=8) rfl (fun i hi=>aY hi) (by simp) (by rfl) rfl,?_⟩)))⟩
    ·refine st (ak rfl rfl) rfl rfl ?_
     refine ah (?_)
     refine aC 10 rfl rfl ?_
     refine aH 0 rfl ?_
     refine st dK rfl rfl ?_
     refine ah (?_)
     refine aH 5 rfl ?_
     refine st (dP rfl rfl rfl k0) rfl rfl ?_
     refine ah (?_)
     refine aH 11 rfl ?_
     refine st (bW (by rfl) rfl rfl (hB _) (by omega) (by omega) (by omega)) rfl rfl ?_
     refine ah (?_)
     refine aC 12 (hp:=aT rfl) rfl rfl ?_
     refine aH 13 rfl ?_
     refine stN (aJ (size:=1) rfl rfl (by (rw [aF];rfl)) (by (rw [aF];exact dU)) (by (rw [aF];rfl))) rfl ?_
     refine ah (?_)
     refine dn ?_
     have hc2:pc X=pc (S.f.drop (w0 % S.f.length+1)):=by rw [hcE,show S.f.take (w0 % S.f.length)=[] by rw [k0];rfl];rfl
     have hl2:X.length=S.f.length - (w0 % S.f.length+1):=by omega
     exact ⟨rfl,rfl,bT.all _ 8 [9] (by simp) rfl rfl (nX rfl rfl (by rw [hl2];exact dw (by simp) rfl) (dA (j:=9) rfl (.inr ⟨70,by rw [hc2];rfl⟩) (dJ _))) (by (repeat' (first|exact trivial|refine ⟨bD rfl rfl,?_⟩|refine ⟨aV (m:=8) rfl (fun i hi=>aY hi) (by simp) (by rfl) rfl,?_⟩)))⟩
   ·refine st (ak rfl rfl) rfl rfl ?_
    refine ah (?_)
    refine aC 10 rfl rfl ?_
    refine iO 0 2 rfl rfl ?_ ?_
    ·refine st dK rfl rfl ?_
     refine ah (?_)
     refine aH 2 rfl ?_
     refine st (ak rfl rfl) rfl rfl ?_
     refine ah (?_)
     refine aC 4 rfl rfl ?_
     refine aH 5 rfl ?_
     refine st (dP rfl rfl rfl k0) rfl rfl ?_
     refine ah (?_)
     refine aH 11 rfl ?_
     refine st (bW (by rfl) rfl rfl (hB _) (by omega) (by omega) (by omega)) rfl rfl ?_
     refine ah (?_)
     refine aC 12 (hp:=aT rfl) rfl rfl ?_
     refine aH 13 rfl ?_
     refine stN (aJ (size:=1) rfl rfl (by (rw [aF];rfl)) (by (rw [aF];exact dU)) (by (rw [aF];rfl))) rfl ?_
     refine ah (?_)
     refine dn ?_
     have hc2:pc X=pc (S.f.drop (w0 % S.f.length+1)):=by rw [hcE,show S.f.take (w0 % S.f.length)=[] by rw [k0];rfl];rfl
     have hl2:X.length=S.f.length - (w0 % S.f.length+1):=by omega
     exact ⟨rfl,rfl,bT.all _ 8 [9] (by simp) rfl rfl (nX rfl rfl (by rw [hl2];exact dw (by simp) rfl) (dA (j:=9) rfl (.inr ⟨70,by rw [hc2];rfl⟩) (dJ _))) (by (repeat' (first|exact trivial|refine ⟨bD rfl rfl,?_⟩|refine ⟨aV (m:=8) rfl (fun i hi=>aY hi) (by simp) (by rfl) rfl,?_⟩)))⟩
    ·refine st (ak rfl rfl) rfl rfl ?_
     refine ah (?_)
     refine aC 4 rfl rfl ?_
     refine aH 0 rfl ?_
     refine st dK rfl rfl ?_
     refine ah (?_)
     refine aH 5 rfl ?_
     refine st (dP rfl rfl rfl k0) rfl rfl ?_
     refine ah (?_)
     refine aH 11 rfl ?_
     refine st (bW (by rfl) rfl rfl (hB _) (by omega) (by omega) (by omega)) rfl rfl ?_
     refine ah (?_)
     refine aC 12 (hp:=aT rfl) rfl rfl ?_
     refine aH 13 rfl ?_
     refine stN (aJ (size:=1) rfl rfl (by (rw [aF];rfl)) (by (rw [aF];exact dU)) (by (rw [aF];rfl))) rfl ?_
     refine ah (?_)
     refine dn ?_
     have hc2:pc X=pc (S.f.drop (w0 % S.f.length+1)):=by rw [hcE,show S.f.take (w0 % S.f.length)=[] by rw [k0];rfl];rfl
     have hl2:X.length=S.f.length - (w0 % S.f.length+1):=by omega
     exact ⟨rfl,rfl,bT.all _ 8 [9] (by simp) rfl rfl (nX rfl rfl (by rw [hl2];exact dw (by simp) rfl) (dA (j:=9) rfl (.inr ⟨70,by rw [hc2];rfl⟩) (dJ _))) (by (repeat' (first|exact trivial|refine ⟨bD rfl rfl,?_⟩|refine ⟨aV (m:=8) rfl (fun i hi=>aY hi) (by simp) (by rfl) rfl,?_⟩)))⟩
  ·repeat' (first|(refine gU ?_;first|(refine aI ?_;refine st (aA rfl) rfl rfl ?_)|(refine gFA ?_;refine st (aB rfl) rfl rfl ?_)|(refine aU ?_;refine st (ak rfl (by rfl)) rfl rfl ?_)|(refine bG ?_;refine st (rG rfl rfl (by omega)) rfl rfl ?_)|(refine fK ?_;refine st (bK rfl) rfl rfl ?_)|(refine gIA ?_;refine st (bV rfl rfl (by omega) (by omega)) rfl rfl ?_)|(refine xU ?_;refine st (mX rfl (by omega) (by omega)) rfl rfl ?_))|refine aS ?_|refine kY (id:=7) ?_|refine aj ?_|refine ah ?_|refine bg ?_)
   refine ⟨?_⟩
   refine oU (id:=7) (by kernel_rfl) ?_
   refine aC 1 (hp:=aT rfl) rfl rfl ?_
   refine aC 3 rfl rfl ?_
   refine aC 6 (hp:=aT rfl) rfl rfl ?_
   refine aC 8 rfl rfl ?_
   refine aC 9 rfl rfl ?_
   refine qL 0 2 7 rfl rfl rfl ?_ ?_ ?_
   ·refine st dK rfl rfl ?_
    refine ah (?_)
    refine iO 2 7 rfl rfl ?_ ?_
    ·refine st (ak rfl rfl) rfl rfl ?_
     refine ah (?_)
     refine aC 4 rfl rfl ?_
     refine iO 5 7 rfl rfl ?_ ?_
     ·refine st (bW (by rfl) rfl rfl (hA _) (by omega) (by omega) (by omega)) rfl rfl ?_
      refine ah (?_)
      refine aH 7 rfl ?_
      refine st (ak rfl rfl) rfl rfl ?_
      refine ah (?_)
      refine aC 10 rfl rfl ?_
      refine aH 11 rfl ?_
      refine st (dP rfl (jE _ _ _) rfl k1) rfl rfl ?_
      refine ah (?_)
      refine aC 12 (hp:=aT rfl) rfl rfl ?_
      refine aH 13 rfl ?_
      refine stN (aJ (size:=1) rfl rfl (by (rw [aF];rfl)) (by (rw [aF];exact dU)) (by (rw [aF];rfl))) rfl ?_
      refine ah (?_)
      refine dn ?_
      have hc2:pc X=pc (S.f.take (w0 % S.f.length)):=by rw [hcE,List.drop_of_length_le (by omega)];simp [pc]
      have hl2:X.length=w0 % S.f.length:=by omega
      exact ⟨rfl,rfl,bT.all _ 8 [9] (by simp) rfl rfl (nX rfl rfl (by rw [hl2];exact dw (by simp) rfl) (dA (j:=9) rfl (.inr ⟨70,by rw [hc2];rfl⟩) (dJ _))) (by (repeat' (first|exact trivial|refine ⟨bD rfl rfl,?_⟩|refine ⟨aV (m:=8) rfl (fun i hi=>aY hi) (by simp) (by rfl) rfl,?_⟩)))⟩
     ·refine st (ak rfl rfl) rfl rfl ?_
      refine ah (?_)
      refine aC 10 rfl rfl ?_
      refine aH 5 rfl ?_
      refine st (bW (by rfl) rfl rfl (hA _) (by omega) (by omega) (by omega)) rfl rfl ?_
      refine ah (?_)
      refine aH 11 rfl ?_
      refine st (dP rfl (jE _ _ _) rfl k1) rfl rfl ?_
      refine ah (?_)
      refine aC 12 (hp:=aT rfl) rfl rfl ?_
      refine aH 13 rfl ?_
      refine stN (aJ (size:=1) rfl rfl (by (rw [aF];rfl)) (by (rw [aF];exact dU)) (by (rw [aF];rfl))) rfl ?_
      refine ah (?_)
      refine dn ?_
      have hc2:pc X=pc (S.f.take (w0 % S.f.length)):=by rw [hcE,List.drop_of_length_le (by omega)];simp [pc]
      have hl2:X.length=w0 % S.f.length:=by omega
      exact ⟨rfl,rfl,bT.all _ 8 [9] (by simp) rfl rfl (nX rfl rfl (by rw [hl2];exact dw (by simp) rfl) (dA (j:=9) rfl (.inr ⟨70,by rw [hc2];rfl⟩) (dJ _))) (by (repeat' (first|exact trivial|refine ⟨bD rfl rfl,?_⟩|refine ⟨aV (m:=8) rfl (fun i hi=>aY hi) (by simp) (by rfl) rfl,?_⟩)))⟩
    ·refine st (ak rfl rfl) rfl rfl ?_
     refine ah (?_)
     refine aC 10 rfl rfl ?_
     refine aH 2 rfl ?_
     refine st (ak rfl rfl) rfl rfl ?_
     refine ah (?_)
     refine aC 4 rfl rfl ?_
     refine aH 5 rfl ?_
     refine st (bW (by rfl) rfl rfl (hA _) (by omega) (by omega) (by omega)) rfl rfl ?_
     refine ah (?_)
     refine aH 11 rfl ?_
     refine st (dP rfl (jE _ _ _) rfl k1) rfl rfl ?_
     refine ah (?_)
     refine aC 12 (hp:=aT rfl) rfl rfl ?_
     refine aH 13 rfl ?_
     refine stN (aJ (size:=1) rfl rfl (by (rw [aF];rfl)) (by (rw [aF];exact dU)) (by (rw [aF];rfl))) rfl ?_
     refine ah (?_)
     refine dn ?_
     have hc2:pc X=pc (S.f.take (w0 % S.f.length)):=by rw [hcE,List.drop_of_length_le (by omega)];simp [pc]
     have hl2:X.length=w0 % S.f.length:=by omega
     exact ⟨rfl,rfl,bT.all _ 8 [9] (by simp) rfl rfl (nX rfl rfl (by rw [hl2];exact dw (by simp) rfl) (dA (j:=9) rfl (.inr ⟨70,by rw [hc2];rfl⟩) (dJ _))) (by (repeat' (first|exact trivial|refine ⟨bD rfl rfl,?_⟩|refine ⟨aV (m:=8) rfl (fun i hi=>aY hi) (by simp) (by rfl) rfl,?_⟩)))⟩
   ·refine st (ak rfl rfl) rfl rfl ?_
    refine ah (?_)
    refine aC 4 rfl rfl ?_
    refine iO 0 7 rfl rfl ?_ ?_
    ·refine st dK rfl rfl ?_
     refine ah (?_)
     refine iO 5 7 rfl rfl ?_ ?_
     ·refine st (bW (by rfl) rfl rfl (hA _) (by omega) (by omega) (by omega)) rfl rfl ?_
      refine ah (?_)
      refine aH 7 rfl ?_
      refine st (ak rfl rfl) rfl rfl ?_
      refine ah (?_)
      refine aC 10 rfl rfl ?_
      refine aH 11 rfl ?_
      refine st (dP rfl (jE _ _ _) rfl k1) rfl rfl ?_
      refine ah (?_)
      refine aC 12 (hp:=aT rfl) rfl rfl ?_
      refine aH 13 rfl ?_
      refine stN (aJ (size:=1) rfl rfl (by (rw [aF];rfl)) (by (rw [aF];exact dU)) (by (rw [aF];rfl))) rfl ?_
      refine ah (?_)
      refine dn ?_
      have hc2:pc X=pc (S.f.take (w0 % S.f.length)):=by rw [hcE,List.drop_of_length_le (by omega)];simp [pc]
      have hl2:X.length=w0 % S.f.length:=by omega
      exact ⟨rfl,rfl,bT.all _ 8 [9] (by simp) rfl rfl (nX rfl rfl (by rw [hl2];exact dw (by simp) rfl) (dA (j:=9) rfl (.inr ⟨70,by rw [hc2];rfl⟩) (dJ _))) (by (repeat' (first|exact trivial|refine ⟨bD rfl rfl,?_⟩|refine ⟨aV (m:=8) rfl (fun i hi=>aY hi) (by simp) (by rfl) rfl,?_⟩)))⟩
     ·refine st (ak rfl rfl) rfl rfl ?_
      refine ah (?_)
      refine aC 10 rfl rfl ?_
      refine aH 5 rfl ?_
      refine st (bW (by rfl) rfl rfl (hA _) (by omega) (by omega) (by omega)) rfl rfl ?_
      refine ah (?_)
      refine aH 11 rfl ?_
      refine st (dP rfl (jE _ _ _) rfl k1) rfl rfl ?_
      refine ah (?_)
      refine aC 12 (hp:=aT rfl) rfl rfl ?_
      refine aH 13 rfl ?_
      refine stN (aJ (size:=1) rfl rfl (by (rw [aF];rfl)) (by (rw [aF];exact dU)) (by (rw [aF];rfl))) rfl ?_
      refine ah (?_)
      refine dn ?_
      have hc2:pc X=pc (S.f.take (w0 % S.f.length)):=by rw [hcE,List.drop_of_length_le (by omega)];simp [pc]
      have hl2:X.length=w0 % S.f.length:=by omega
      exact ⟨rfl,rfl,bT.all _ 8 [9] (by simp) rfl rfl (nX rfl rfl (by rw [hl2];exact dw (by simp) rfl) (dA (j:=9) rfl (.inr ⟨70,by rw [hc2];rfl⟩) (dJ _))) (by (repeat' (first|exact trivial|refine ⟨bD rfl rfl,?_⟩|refine ⟨aV (m:=8) rfl (fun i hi=>aY hi) (by simp) (by rfl) rfl,?_⟩)))⟩
    ·refine st (ak rfl rfl) rfl rfl ?_
     refine ah (?_)
     refine aC 10 rfl rfl ?_
     refine aH 0 rfl ?_
     refine st dK rfl rfl ?_
     refine ah (?_)
     refine aH 5 rfl ?_
     refine st (bW (by rfl) rfl rfl (hA _) (by omega) (by omega) (by omega)) rfl rfl ?_
     refine ah (?_)
     refine aH 11 rfl ?_
     refine st (dP rfl (jE _ _ _) rfl k1) rfl rfl ?_
     refine ah (?_)
     refine aC 12 (hp:=aT rfl) rfl rfl ?_
     refine aH 13 rfl ?_
     refine stN (aJ (size:=1) rfl rfl (by (rw [aF];rfl)) (by (rw [aF];exact dU)) (by (rw [aF];rfl))) rfl ?_
     refine ah (?_)
     refine dn ?_
     have hc2:pc X=pc (S.f.take (w0 % S.f.length)):=by rw [hcE,List.drop_of_length_le (by omega)];simp [pc]
     have hl2:X.length=w0 % S.f.length:=by omega
     exact ⟨rfl,rfl,bT.all _ 8 [9] (by simp) rfl rfl (nX rfl rfl (by rw [hl2];exact dw (by simp) rfl) (dA (j:=9) rfl (.inr ⟨70,by rw [hc2];rfl⟩) (dJ _))) (by (repeat' (first|exact trivial|refine ⟨bD rfl rfl,?_⟩|refine ⟨aV (m:=8) rfl (fun i hi=>aY hi) (by simp) (by rfl) rfl,?_⟩)))⟩
   ·refine st (ak rfl rfl) rfl rfl ?_
    refine ah (?_)
    refine aC 10 rfl rfl ?_
    refine iO 0 2 rfl rfl ?_ ?_
    ·refine st dK rfl rfl ?_
     refine ah (?_)
     refine aH 2 rfl ?_
     refine st (ak rfl rfl) rfl rfl ?_
     refine ah (?_)
     refine aC 4 rfl rfl ?_
     refine aH 5 rfl ?_
     refine st (bW (by rfl) rfl rfl (hA _) (by omega) (by omega) (by omega)) rfl rfl ?_
     refine ah (?_)
     refine aH 11 rfl ?_
     refine st (dP rfl (jE _ _ _) rfl k1) rfl rfl ?_
     refine ah (?_)
     refine aC 12 (hp:=aT rfl) rfl rfl ?_
     refine aH 13 rfl ?_
     refine stN (aJ (size:=1) rfl rfl (by (rw [aF];rfl)) (by (rw [aF];exact dU)) (by (rw [aF];rfl))) rfl ?_
     refine ah (?_)
     refine dn ?_
     have hc2:pc X=pc (S.f.take (w0 % S.f.length)):=by rw [hcE,List.drop_of_length_le (by omega)];simp [pc]
     have hl2:X.length=w0 % S.f.length:=by omega
     exact ⟨rfl,rfl,bT.all _ 8 [9] (by simp) rfl rfl (nX rfl rfl (by rw [hl2];exact dw (by simp) rfl) (dA (j:=9) rfl (.inr ⟨70,by rw [hc2];rfl⟩) (dJ _))) (by (repeat' (first|exact trivial|refine ⟨bD rfl rfl,?_⟩|refine ⟨aV (m:=8) rfl (fun i hi=>aY hi) (by simp) (by rfl) rfl,?_⟩)))⟩
    ·refine st (ak rfl rfl) rfl rfl ?_
     refine ah (?_)
     refine aC 4 rfl rfl ?_
     refine aH 0 rfl ?_
     refine st dK rfl rfl ?_
     refine ah (?_)
     refine aH 5 rfl ?_
     refine st (bW (by rfl) rfl rfl (hA _) (by omega) (by omega) (by omega)) rfl rfl ?_
     refine ah (?_)
     refine aH 11 rfl ?_
     refine st (dP rfl (jE _ _ _) rfl k1) rfl rfl ?_
     refine ah (?_)
     refine aC 12 (hp:=aT rfl) rfl rfl ?_
     refine aH 13 rfl ?_
     refine stN (aJ (size:=1) rfl rfl (by (rw [aF];rfl)) (by (rw [aF];exact dU)) (by (rw [aF];rfl))) rfl ?_
     refine ah (?_)
     refine dn ?_
     have hc2:pc X=pc (S.f.take (w0 % S.f.length)):=by rw [hcE,List.drop_of_length_le (by omega)];simp [pc]
     have hl2:X.length=w0 % S.f.length:=by omega
     exact ⟨rfl,rfl,bT.all _ 8 [9] (by simp) rfl rfl (nX rfl rfl (by rw [hl2];exact dw (by simp) rfl) (dA (j:=9) rfl (.inr ⟨70,by rw [hc2];rfl⟩) (dJ _))) (by (repeat' (first|exact trivial|refine ⟨bD rfl rfl,?_⟩|refine ⟨aV (m:=8) rfl (fun i hi=>aY hi) (by simp) (by rfl) rfl,?_⟩)))⟩
  ·repeat' (first|(refine gU ?_;first|(refine aI ?_;refine st (aA rfl) rfl rfl ?_)|(refine gFA ?_;refine st (aB rfl) rfl rfl ?_)|(refine aU ?_;refine st (ak rfl (by rfl)) rfl rfl ?_)|(refine bG ?_;refine st (rG rfl rfl (by omega)) rfl rfl ?_)|(refine fK ?_;refine st (bK rfl) rfl rfl ?_)|(refine gIA ?_;refine st (bV rfl rfl (by omega) (by omega)) rfl rfl ?_)|(refine xU ?_;refine st (mX rfl (by omega) (by omega)) rfl rfl ?_))|refine aS ?_|refine kY (id:=7) ?_|refine aj ?_|refine ah ?_|refine bg ?_)
   refine ⟨?_⟩
   refine oU (id:=7) (by kernel_rfl) ?_
   refine aC 1 (hp:=aT rfl) rfl rfl ?_
   refine aC 3 rfl rfl ?_
   refine aC 6 (hp:=aT rfl) rfl rfl ?_
   refine aC 8 rfl rfl ?_
   refine aC 9 rfl rfl ?_
   refine qL 0 2 7 rfl rfl rfl ?_ ?_ ?_
   ·refine st dK rfl rfl ?_
    refine ah (?_)
    refine iO 2 7 rfl rfl ?_ ?_
    ·refine st (ak rfl rfl) rfl rfl ?_
     refine ah (?_)
     refine aC 4 rfl rfl ?_
     refine iO 5 7 rfl rfl ?_ ?_
     ·refine st (bW (by rfl) rfl rfl (hA _) (by omega) (by omega) (by omega)) rfl rfl ?_
      refine ah (?_)
      refine aH 7 rfl ?_
      refine st (ak rfl rfl) rfl rfl ?_
      refine ah (?_)
      refine aC 10 rfl rfl ?_
      refine aH 11 rfl ?_
      refine st (fZ (by rfl) (by rfl) rfl (by rfl) hlen rfl (hB _) (by omega) hone (by omega) (by omega)) rfl rfl ?_
      refine ah (?_)
      refine aC 12 (hp:=aT rfl) rfl rfl ?_
      refine aH 13 rfl ?_
      refine stN (aJ (size:=1) rfl rfl (by (rw [aF];rfl)) (by (rw [aF];exact dU)) (by (rw [aF];rfl))) rfl ?_
      refine ah (?_)
      refine dn ?_
      have hl2:X.length=w0 % S.f.length+(S.f.length - (w0 % S.f.length+1)):=by omega
      exact ⟨rfl,rfl,bT.all _ 8 [10] (by simp) rfl rfl (nX rfl rfl (by rw [hl2];exact dw (by simp) rfl) (dA (j:=10) rfl (.inr ⟨70,by rw [hcE];rfl⟩) (dJ _))) (by (repeat' (first|exact trivial|refine ⟨bD rfl rfl,?_⟩|refine ⟨aV (m:=8) rfl (fun i hi=>aY hi) (by simp) (by rfl) rfl,?_⟩)))⟩
     ·refine st (ak rfl rfl) rfl rfl ?_
      refine ah (?_)
      refine aC 10 rfl rfl ?_
      refine aH 5 rfl ?_
      refine st (bW (by rfl) rfl rfl (hA _) (by omega) (by omega) (by omega)) rfl rfl ?_
      refine ah (?_)
      refine aH 11 rfl ?_
      refine st (fZ (by rfl) (by rfl) rfl (by rfl) hlen rfl (hB _) (by omega) hone (by omega) (by omega)) rfl rfl ?_
      refine ah (?_)
      refine aC 12 (hp:=aT rfl) rfl rfl ?_
      refine aH 13 rfl ?_
      refine stN (aJ (size:=1) rfl rfl (by (rw [aF];rfl)) (by (rw [aF];exact dU)) (by (rw [aF];rfl))) rfl ?_
      refine ah (?_)
      refine dn ?_
      have hl2:X.length=w0 % S.f.length+(S.f.length - (w0 % S.f.length+1)):=by omega
      exact ⟨rfl,rfl,bT.all _ 8 [10] (by simp) rfl rfl (nX rfl rfl (by rw [hl2];exact dw (by simp) rfl) (dA (j:=10) rfl (.inr ⟨70,by rw [hcE];rfl⟩) (dJ _))) (by (repeat' (first|exact trivial|refine ⟨bD rfl rfl,?_⟩|refine ⟨aV (m:=8) rfl (fun i hi=>aY hi) (by simp) (by rfl) rfl,?_⟩)))⟩
    ·refine st (ak rfl rfl) rfl rfl ?_
     refine ah (?_)
     refine aC 10 rfl rfl ?_
     refine aH 2 rfl ?_
     refine st (ak rfl rfl) rfl rfl ?_
     refine ah (?_)
     refine aC 4 rfl rfl ?_
     refine aH 5 rfl ?_
     refine st (bW (by rfl) rfl rfl (hA _) (by omega) (by omega) (by omega)) rfl rfl ?_
     refine ah (?_)
     refine aH 11 rfl ?_
     refine st (fZ (by rfl) (by rfl) rfl (by rfl) hlen rfl (hB _) (by omega) hone (by omega) (by omega)) rfl rfl ?_
     refine ah (?_)
     refine aC 12 (hp:=aT rfl) rfl rfl ?_
     refine aH 13 rfl ?_
     refine stN (aJ (size:=1) rfl rfl (by (rw [aF];rfl)) (by (rw [aF];exact dU)) (by (rw [aF];rfl))) rfl ?_
     refine ah (?_)
     refine dn ?_
     have hl2:X.length=w0 % S.f.length+(S.f.length - (w0 % S.f.length+1)):=by omega
     exact ⟨rfl,rfl,bT.all _ 8 [10] (by simp) rfl rfl (nX rfl rfl (by rw [hl2];exact dw (by simp) rfl) (dA (j:=10) rfl (.inr ⟨70,by rw [hcE];rfl⟩) (dJ _))) (by (repeat' (first|exact trivial|refine ⟨bD rfl rfl,?_⟩|refine ⟨aV (m:=8) rfl (fun i hi=>aY hi) (by simp) (by rfl) rfl,?_⟩)))⟩
   ·refine st (ak rfl rfl) rfl rfl ?_
    refine ah (?_)
    refine aC 4 rfl rfl ?_
    refine iO 0 7 rfl rfl ?_ ?_
    ·refine st dK rfl rfl ?_
     refine ah (?_)
     refine iO 5 7 rfl rfl ?_ ?_
     ·refine st (bW (by rfl) rfl rfl (hA _) (by omega) (by omega) (by omega)) rfl rfl ?_
      refine ah (?_)
      refine aH 7 rfl ?_
      refine st (ak rfl rfl) rfl rfl ?_
      refine ah (?_)
      refine aC 10 rfl rfl ?_
      refine aH 11 rfl ?_
      refine st (fZ (by rfl) (by rfl) rfl (by rfl) hlen rfl (hB _) (by omega) hone (by omega) (by omega)) rfl rfl ?_
      refine ah (?_)
      refine aC 12 (hp:=aT rfl) rfl rfl ?_
      refine aH 13 rfl ?_
      refine stN (aJ (size:=1) rfl rfl (by (rw [aF];rfl)) (by (rw [aF];exact dU)) (by (rw [aF];rfl))) rfl ?_
      refine ah (?_)
      refine dn ?_
      have hl2:X.length=w0 % S.f.length+(S.f.length - (w0 % S.f.length+1)):=by omega
      exact ⟨rfl,rfl,bT.all _ 8 [10] (by simp) rfl rfl (nX rfl rfl (by rw [hl2];exact dw (by simp) rfl) (dA (j:=10) rfl (.inr ⟨70,by rw [hcE];rfl⟩) (dJ _))) (by (repeat' (first|exact trivial|refine ⟨bD rfl rfl,?_⟩|refine ⟨aV (m:=8) rfl (fun i hi=>aY hi) (by simp) (by rfl) rfl,?_⟩)))⟩
     ·refine st (ak rfl rfl) rfl rfl ?_
      refine ah (?_)
      refine aC 10 rfl rfl ?_
      refine aH 5 rfl ?_
      refine st (bW (by rfl) rfl rfl (hA _) (by omega) (by omega) (by omega)) rfl rfl ?_
      refine ah (?_)
      refine aH 11 rfl ?_
      refine st (fZ (by rfl) (by rfl) rfl (by rfl) hlen rfl (hB _) (by omega) hone (by omega) (by omega)) rfl rfl ?_
      refine ah (?_)
      refine aC 12 (hp:=aT rfl) rfl rfl ?_
      refine aH 13 rfl ?_
      refine stN (aJ (size:=1) rfl rfl (by (rw [aF];rfl)) (by (rw [aF];exact dU)) (by (rw [aF];rfl))) rfl ?_
      refine ah (?_)
      refine dn ?_
      have hl2:X.length=w0 % S.f.length+(S.f.length - (w0 % S.f.length+1)):=by omega
      exact ⟨rfl,rfl,bT.all _ 8 [10] (by simp) rfl rfl (nX rfl rfl (by rw [hl2];exact dw (by simp) rfl) (dA (j:=10) rfl (.inr ⟨70,by rw [hcE];rfl⟩) (dJ _))) (by (repeat' (first|exact trivial|refine ⟨bD rfl rfl,?_⟩|refine ⟨aV (m:=8) rfl (fun i hi=>aY hi) (by simp) (by rfl) rfl,?_⟩)))⟩
    ·refine st (ak rfl rfl) rfl rfl ?_
     refine ah (?_)
     refine aC 10 rfl rfl ?_
     refine aH 0 rfl ?_
     refine st dK rfl rfl ?_
     refine ah (?_)
     refine aH 5 rfl ?_
     refine st (bW (by rfl) rfl rfl (hA _) (by omega) (by omega) (by omega)) rfl rfl ?_
     refine ah (?_)
     refine aH 11 rfl ?_
     refine st (fZ (by rfl) (by rfl) rfl (by rfl) hlen rfl (hB _) (by omega) hone (by omega) (by omega)) rfl rfl ?_
     refine ah (?_)
     refine aC 12 (hp:=aT rfl) rfl rfl ?_
     refine aH 13 rfl ?_
     refine stN (aJ (size:=1) rfl rfl (by (rw [aF];rfl)) (by (rw [aF];exact dU)) (by (rw [aF];rfl))) rfl ?_
     refine ah (?_)
     refine dn ?_
     have hl2:X.length=w0 % S.f.length+(S.f.length - (w0 % S.f.length+1)):=by omega
     exact ⟨rfl,rfl,bT.all _ 8 [10] (by simp) rfl rfl (nX rfl rfl (by rw [hl2];exact dw (by simp) rfl) (dA (j:=10) rfl (.inr ⟨70,by rw [hcE];rfl⟩) (dJ _))) (by (repeat' (first|exact trivial|refine ⟨bD rfl rfl,?_⟩|refine ⟨aV (m:=8) rfl (fun i hi=>aY hi) (by simp) (by rfl) rfl,?_⟩)))⟩
   ·refine st (ak rfl rfl) rfl rfl ?_
    refine ah (?_)
    refine aC 10 rfl rfl ?_
    refine iO 0 2 rfl rfl ?_ ?_
    ·refine st dK rfl rfl ?_
     refine ah (?_)
     refine aH 2 rfl ?_
     refine st (ak rfl rfl) rfl rfl ?_
     refine ah (?_)
     refine aC 4 rfl rfl ?_
     refine aH 5 rfl ?_
     refine st (bW (by rfl) rfl rfl (hA _) (by omega) (by omega) (by omega)) rfl rfl ?_
     refine ah (?_)
     refine aH 11 rfl ?_
     refine st (fZ (by rfl) (by rfl) rfl (by rfl) hlen rfl (hB _) (by omega) hone (by omega) (by omega)) rfl rfl ?_
     refine ah (?_)
     refine aC 12 (hp:=aT rfl) rfl rfl ?_
     refine aH 13 rfl ?_
     refine stN (aJ (size:=1) rfl rfl (by (rw [aF];rfl)) (by (rw [aF];exact dU)) (by (rw [aF];rfl))) rfl ?_
     refine ah (?_)
     refine dn ?_
     have hl2:X.length=w0 % S.f.length+(S.f.length - (w0 % S.f.length+1)):=by omega
     exact ⟨rfl,rfl,bT.all _ 8 [10] (by simp) rfl rfl (nX rfl rfl (by rw [hl2];exact dw (by simp) rfl) (dA (j:=10) rfl (.inr ⟨70,by rw [hcE];rfl⟩) (dJ _))) (by (repeat' (first|exact trivial|refine ⟨bD rfl rfl,?_⟩|refine ⟨aV (m:=8) rfl (fun i hi=>aY hi) (by simp) (by rfl) rfl,?_⟩)))⟩
    ·refine st (ak rfl rfl) rfl rfl ?_
     refine ah (?_)
     refine aC 4 rfl rfl ?_
     refine aH 0 rfl ?_
     refine st dK rfl rfl ?_
     refine ah (?_)
     refine aH 5 rfl ?_
     refine st (bW (by rfl) rfl rfl (hA _) (by omega) (by omega) (by omega)) rfl rfl ?_
     refine ah (?_)
     refine aH 11 rfl ?_
     refine st (fZ (by rfl) (by rfl) rfl (by rfl) hlen rfl (hB _) (by omega) hone (by omega) (by omega)) rfl rfl ?_
     refine ah (?_)
     refine aC 12 (hp:=aT rfl) rfl rfl ?_
     refine aH 13 rfl ?_
     refine stN (aJ (size:=1) rfl rfl (by (rw [aF];rfl)) (by (rw [aF];exact dU)) (by (rw [aF];rfl))) rfl ?_
     refine ah (?_)
     refine dn ?_
     have hl2:X.length=w0 % S.f.length+(S.f.length - (w0 % S.f.length+1)):=by omega
     exact ⟨rfl,rfl,bT.all _ 8 [10] (by simp) rfl rfl (nX rfl rfl (by rw [hl2];exact dw (by simp) rfl) (dA (j:=10) rfl (.inr ⟨70,by rw [hcE];rfl⟩) (dJ _))) (by (repeat' (first|exact trivial|refine ⟨bD rfl rfl,?_⟩|refine ⟨aV (m:=8) rfl (fun i hi=>aY hi) (by simp) (by rfl) rfl,?_⟩)))⟩
 ·have hF:S.f.length=0:=by have:=of_decide_eq_false hx;omega
  have hX0:=NW (k:=w0 % S.f.length) hF
  generalize exL S.f (w0 % S.f.length)=X at *
  subst hX0
  repeat' (refine aW ?_)
  exact ⟨rfl,rfl,bT.all _ 8 [8] (by simp) rfl rfl ⟨eU (i:=0) (by omega) (by simp) rfl (ay (aK _)),eU (i:=1) (by omega) (by simp) rfl (ay (dJ _)),eU (i:=2) (by omega) (by simp) rfl (ay (aK _)),eU (i:=3) (by omega) (by simp) rfl (iq (by omega) (by omega) (by omega)),eU (i:=4) (by omega) (by simp) rfl (ay rfl),xR (p:=5) (aY (by omega)) rfl (gu (by simp) (aY (by omega)) (Nat.le_refl _)) (by rw [hF];exact .emptySlice _ _ _ _) (gu (by simp) (aY (by omega)) (Nat.le_refl _)),eU (i:=6) (by omega) (by simp) rfl (iq (by omega) (by omega) (by omega)),eU (i:=7) (by omega) (by simp) rfl (iq (by omega) (by omega) (by omega)),.inl rfl,trivial⟩ (by (repeat' (first|exact trivial|refine ⟨bD rfl rfl,?_⟩|refine ⟨aV (m:=8) rfl (fun i hi=>aY hi) (by simp) (by rfl) rfl,?_⟩)))⟩
 clear hk0
 have hk0:w1 % S.s.length<S.s.length:=Nat.mod_lt _ (by have:=hok.s0;omega)
 repeat' (first|(refine gU ?_;first|(refine gFA ?_;refine st (aB rfl) rfl rfl ?_)|(refine aU ?_;refine st (ak rfl (by rfl)) rfl rfl ?_)|(refine bG ?_;refine st (aG rfl rfl rfl) rfl rfl ?_)|(refine fK ?_;refine st (bK rfl) rfl rfl ?_))|refine aS ?_|refine aj ?_|refine ah ?_|refine bg ?_|refine MS (t:=79) ?_)
 refine ⟨?_⟩
 refine P9 [(2,.int .u16 (less:Int)),(4,.int .i64 lim),(5,.pointer (some ⟨3,0,none⟩)),(6,.pointer (some ⟨4,0,none⟩)),(11,.int .i64 (g:Int)),(12,.pointer (some ⟨5,0,none⟩)),(13,.pointer (some ⟨6,0,none⟩)),(14,.pointer (some ⟨7,0,none⟩)),(79,.bool (decide ((S.s.length:Int) > 1)))] [.ro (ints S.d),.ro (pc S.f),.ro (ints S.s),.rw (shL 0 1 2 S),.rw [.int .u8 (w0:Int),.int .u8 (w1:Int),.int .u8 (w2:Int)],.rw [sl 0 S.d.length,sl 8 (exL S.f (w0 % S.f.length)).length,sl 2 S.s.length],.rw (shL 0 1 2 S),.rw (shL 0 1 2 S),.rw (pc (exL S.f (w0 % S.f.length)))] (by kernel_rfl) ⟨rfl,rfl,rfl,rfl,rfl,rfl,rfl,rfl,rfl,trivial⟩ ?_
 obtain ⟨iy,zl,c9,hY⟩:∃ (iy:Nat) (zl:List Int) (c9:List Value),((S.s.length:Int) > 1∧iy=9∧zl=exL S.s (w1 % S.s.length)∧c9=ints zl)∨(¬ (S.s.length:Int) > 1∧iy=2∧zl=S.s∧c9=[]):=by
  by_cases hs1:(S.s.length:Int) > 1
  ·exact ⟨9,_,_,.inl ⟨hs1,rfl,rfl,rfl⟩⟩
  ·exact ⟨2,_,_,.inr ⟨hs1,rfl,rfl,rfl⟩⟩
 refine NU rfl [(2,.int .u16 (less:Int)),(4,.int .i64 lim),(5,.pointer (some ⟨3,0,none⟩)),(6,.pointer (some ⟨4,0,none⟩)),(11,.int .i64 (g:Int)),(12,.pointer (some ⟨5,0,none⟩)),(13,.pointer (some ⟨6,0,none⟩)),(14,.pointer (some ⟨7,0,none⟩))] [.ro (ints S.d),.ro (pc S.f),.ro (ints S.s),.rw (shL 0 1 2 S),.rw [.int .u8 (w0:Int),.int .u8 (w1:Int),.int .u8 (w2:Int)],.rw [sl 0 S.d.length,sl 8 (exL S.f (w0 % S.f.length)).length,sl 2 S.s.length],.rw [sl 0 S.d.length,sl 1 S.f.length,sl iy zl.length],.rw (shL 0 1 2 S),.rw (pc (exL S.f (w0 % S.f.length))),.rw c9] (by simp) (fun hx=>?_) (fun hx=>?_) ?_
 ·have hs1:(S.s.length:Int) > 1:=of_decide_eq_true hx
  obtain ⟨_,rfl,rfl,rfl⟩|⟨h,_⟩:=hY
  rotate_left
  ·exact absurd hs1 h
  have hA:∀ σ':Heap,dh (.ro (ints S.d)::.ro (pc S.f)::.ro (ints S.s)::σ') 2 0 (w1 % S.s.length*1)=some (ints (S.s.take (w1 % S.s.length))):=fun σ'=>by
   have:=AU (σ:=.ro (ints S.d)::.ro (pc S.f)::.ro (ints S.s)::σ') (x:=2) (l:=S.s) (.inl rfl) (a:=0) (n:=w1 % S.s.length) (by omega)
   rw [List.drop_zero] at this;rw [Nat.mul_one];exact this
  have hB:∀ σ':Heap,dh (.ro (ints S.d)::.ro (pc S.f)::.ro (ints S.s)::σ') 2 (0+(w1 % S.s.length+1)*1) ((S.s.length - (w1 % S.s.length+1))*1)=some (ints (S.s.drop (w1 % S.s.length+1))):=fun σ'=>by
   have:=AU (σ:=.ro (ints S.d)::.ro (pc S.f)::.ro (ints S.s)::σ') (x:=2) (l:=S.s) (.inl rfl) (a:=w1 % S.s.length+1) (n:=S.s.length - (w1 % S.s.length+1)) (by omega)
   rw [List.take_of_length_le (by simp)] at this
   rw [Nat.zero_add,Nat.mul_one,Nat.mul_one];exact this
  have hone:=DY (S.s.drop (w1 % S.s.length+1))
  have hlen:(ints (S.s.take (w1 % S.s.length))).length=w1 % S.s.length*1:=by simp [ints];omega
  have hlE:(exL S.s (w1 % S.s.length)).length=S.s.length - 1:=CJ hk0
  have hcE:ints (exL S.s (w1 % S.s.length))=ints (S.s.take (w1 % S.s.length))++ints (S.s.drop (w1 % S.s.length+1)):=by simp [ints,exL]
  have hF0:S.s.length ≠ 0:=by omega
  generalize exL S.f (w0 % S.f.length)=FX at *
  generalize hX:exL S.s (w1 % S.s.length)=X at *
  by_cases k0:w1 % S.s.length=0 <;> by_cases k1:S.s.length - (w1 % S.s.length+1)=0
  ·repeat' (first|(refine gU ?_;first|(refine aI ?_;refine st (aA rfl) rfl rfl ?_)|(refine gFA ?_;refine st (aB rfl) rfl rfl ?_)|(refine aU ?_;refine st (ak rfl (by rfl)) rfl rfl ?_)|(refine bG ?_;refine st (rG rfl rfl (by omega)) rfl rfl ?_)|(refine fK ?_;refine st (bK rfl) rfl rfl ?_)|(refine gIA ?_;refine st (gQ rfl rfl (by omega)) rfl rfl ?_)|(refine xU ?_;refine st (mX rfl (by omega) (by omega)) rfl rfl ?_))|refine aS ?_|refine kY (id:=10) ?_|refine aj ?_|refine ah ?_|refine bg ?_)
   refine ⟨?_⟩
   refine oU (id:=10) (by kernel_rfl) ?_
   refine aC 1 (hp:=aT rfl) rfl rfl ?_
   refine aC 3 rfl rfl ?_
   refine aC 6 (hp:=aT rfl) rfl rfl ?_
   refine aC 8 rfl rfl ?_
   refine aC 9 rfl rfl ?_
   refine qL 0 2 7 rfl rfl rfl ?_ ?_ ?_
   ·refine st dK rfl rfl ?_
    refine ah (?_)
    refine iO 2 7 rfl rfl ?_ ?_
    ·refine st (ak rfl rfl) rfl rfl ?_
     refine ah (?_)
     refine aC 4 rfl rfl ?_
     refine iO 5 7 rfl rfl ?_ ?_
     ·refine st (dP rfl rfl rfl k0) rfl rfl ?_
      refine ah (?_)
      refine aH 7 rfl ?_
      refine st (ak rfl rfl) rfl rfl ?_
      refine ah (?_)
      refine aC 10 rfl rfl ?_
      refine aH 11 rfl ?_
      refine st (dP rfl rfl rfl k1) rfl rfl ?_
      refine ah (?_)
      refine aC 12 (hp:=aT rfl) rfl rfl ?_
      refine aH 13 rfl ?_
      refine stN (aJ (size:=1) rfl rfl (by rfl) (by rfl) (by rfl)) rfl ?_
      refine ah (?_)
      refine dn ?_
      obtain rfl:X=[]:=List.eq_nil_of_length_eq_zero (by omega)
      exact ⟨rfl,rfl,bT.all _ 9 [9] (by simp) rfl rfl (nY rfl rfl (.emptySlice _ _ _ _) (.inl rfl)) (by (repeat' (first|exact trivial|refine ⟨bD rfl rfl,?_⟩|refine ⟨aV (m:=9) rfl (fun i hi=>aY hi) (by simp) (by rfl) rfl,?_⟩)))⟩
     ·refine st (ak rfl rfl) rfl rfl ?_
      refine ah (?_)
      refine aC 10 rfl rfl ?_
      refine aH 5 rfl ?_
      refine st (dP rfl rfl rfl k0) rfl rfl ?_
      refine ah (?_)
      refine aH 11 rfl ?_
      refine st (dP rfl rfl rfl k1) rfl rfl ?_
      refine ah (?_)
      refine aC 12 (hp:=aT rfl) rfl rfl ?_
      refine aH 13 rfl ?_
      refine stN (aJ (size:=1) rfl rfl (by rfl) (by rfl) (by rfl)) rfl ?_
      refine ah (?_)
      refine dn ?_
      obtain rfl:X=[]:=List.eq_nil_of_length_eq_zero (by omega)
      exact ⟨rfl,rfl,bT.all _ 9 [9] (by simp) rfl rfl (nY rfl rfl (.emptySlice _ _ _ _) (.inl rfl)) (by (repeat' (first|exact trivial|refine ⟨bD rfl rfl,?_⟩|refine ⟨aV (m:=9) rfl (fun i hi=>aY hi) (by simp) (by rfl) rfl,?_⟩)))⟩
    ·refine st (ak rfl rfl) rfl rfl ?_
     refine ah (?_)
     refine aC 10 rfl rfl ?_
     refine aH 2 rfl ?_
     refine st (ak rfl rfl) rfl rfl ?_
     refine ah (?_)
     refine aC 4 rfl rfl ?_
     refine aH 5 rfl ?_
     refine st (dP rfl rfl rfl k0) rfl rfl ?_
     refine ah (?_)
     refine aH 11 rfl ?_
     refine st (dP rfl rfl rfl k1) rfl rfl ?_
     refine ah (?_)
     refine aC 12 (hp:=aT rfl) rfl rfl ?_
     refine aH 13 rfl ?_
     refine stN (aJ (size:=1) rfl rfl (by rfl) (by rfl) (by rfl)) rfl ?_
     refine ah (?_)
     refine dn ?_
     obtain rfl:X=[]:=List.eq_nil_of_length_eq_zero (by omega)
     exact ⟨rfl,rfl,bT.all _ 9 [9] (by simp) rfl rfl (nY rfl rfl (.emptySlice _ _ _ _) (.inl rfl)) (by (repeat' (first|exact trivial|refine ⟨bD rfl rfl,?_⟩|refine ⟨aV (m:=9) rfl (fun i hi=>aY hi) (by simp) (by rfl) rfl,?_⟩)))⟩
   ·refine st (ak rfl rfl) rfl rfl ?_
    refine ah (?_)
    refine aC 4 rfl rfl ?_
    refine iO 0 7 rfl rfl ?_ ?_
    ·refine st dK rfl rfl ?_
     refine ah (?_)
     refine iO 5 7 rfl rfl ?_ ?_
     ·refine st (dP rfl rfl rfl k0) rfl rfl ?_
      refine ah (?_)
      refine aH 7 rfl ?_
      refine st (ak rfl rfl) rfl rfl ?_
      refine ah (?_)
      refine aC 10 rfl rfl ?_
      refine aH 11 rfl ?_
      refine st (dP rfl rfl rfl k1) rfl rfl ?_
      refine ah (?_)
      refine aC 12 (hp:=aT rfl) rfl rfl ?_
      refine aH 13 rfl ?_
      refine stN (aJ (size:=1) rfl rfl (by rfl) (by rfl) (by rfl)) rfl ?_
      refine ah (?_)
      refine dn ?_
      obtain rfl:X=[]:=List.eq_nil_of_length_eq_zero (by omega)
      exact ⟨rfl,rfl,bT.all _ 9 [9] (by simp) rfl rfl (nY rfl rfl (.emptySlice _ _ _ _) (.inl rfl)) (by (repeat' (first|exact trivial|refine ⟨bD rfl rfl,?_⟩|refine ⟨aV (m:=9) rfl (fun i hi=>aY hi) (by simp) (by rfl) rfl,?_⟩)))⟩
     ·refine st (ak rfl rfl) rfl rfl ?_
      refine ah (?_)
      refine aC 10 rfl rfl ?_
      refine aH 5 rfl ?_
      refine st (dP rfl rfl rfl k0) rfl rfl ?_
      refine ah (?_)
      refine aH 11 rfl ?_
      refine st (dP rfl rfl rfl k1) rfl rfl ?_
      refine ah (?_)
      refine aC 12 (hp:=aT rfl) rfl rfl ?_
      refine aH 13 rfl ?_
      refine stN (aJ (size:=1) rfl rfl (by rfl) (by rfl) (by rfl)) rfl ?_
      refine ah (?_)
      refine dn ?_
      obtain rfl:X=[]:=List.eq_nil_of_length_eq_zero (by omega)
      exact ⟨rfl,rfl,bT.all _ 9 [9] (by simp) rfl rfl (nY rfl rfl (.emptySlice _ _ _ _) (.inl rfl)) (by (repeat' (first|exact trivial|refine ⟨bD rfl rfl,?_⟩|refine ⟨aV (m:=9) rfl (fun i hi=>aY hi) (by simp) (by rfl) rfl,?_⟩)))⟩
    ·refine st (ak rfl rfl) rfl rfl ?_
     refine ah (?_)
     refine aC 10 rfl rfl ?_
     refine aH 0 rfl ?_
     refine st dK rfl rfl ?_
     refine ah (?_)
     refine aH 5 rfl ?_
     refine st (dP rfl rfl rfl k0) rfl rfl ?_
     refine ah (?_)
     refine aH 11 rfl ?_
     refine st (dP rfl rfl rfl k1) rfl rfl ?_
     refine ah (?_)
     refine aC 12 (hp:=aT rfl) rfl rfl ?_
     refine aH 13 rfl ?_
     refine stN (aJ (size:=1) rfl rfl (by rfl) (by rfl) (by rfl)) rfl ?_
     refine ah (?_)
     refine dn ?_
     obtain rfl:X=[]:=List.eq_nil_of_length_eq_zero (by omega)
     exact ⟨rfl,rfl,bT.all _ 9 [9] (by simp) rfl rfl (nY rfl rfl (.emptySlice _ _ _ _) (.inl rfl)) (by (repeat' (first|exact trivial|refine ⟨bD rfl rfl,?_⟩|refine ⟨aV (m:=9) rfl (fun i hi=>aY hi) (by simp) (by rfl) rfl,?_⟩)))⟩
   ·refine st (ak rfl rfl) rfl rfl ?_
    refine ah (?_)
    refine aC 10 rfl rfl ?_
    refine iO 0 2 rfl rfl ?_ ?_
    ·refine st dK rfl rfl ?_
     refine ah (?_)
     refine aH 2 rfl ?_
     refine st (ak rfl rfl) rfl rfl ?_
     refine ah (?_)
     refine aC 4 rfl rfl ?_
     refine aH 5 rfl ?_
     refine st (dP rfl rfl rfl k0) rfl rfl ?_
     refine ah (?_)
     refine aH 11 rfl ?_
     refine st (dP rfl rfl rfl k1) rfl rfl ?_
     refine ah (?_)
     refine aC 12 (hp:=aT rfl) rfl rfl ?_
     refine aH 13 rfl ?_
     refine stN (aJ (size:=1) rfl rfl (by rfl) (by rfl) (by rfl)) rfl ?_
     refine ah (?_)
     refine dn ?_
     obtain rfl:X=[]:=List.eq_nil_of_length_eq_zero (by omega)
     exact ⟨rfl,rfl,bT.all _ 9 [9] (by simp) rfl rfl (nY rfl rfl (.emptySlice _ _ _ _) (.inl rfl)) (by (repeat' (first|exact trivial|refine ⟨bD rfl rfl,?_⟩|refine ⟨aV (m:=9) rfl (fun i hi=>aY hi) (by simp) (by rfl) rfl,?_⟩)))⟩
    ·refine st (ak rfl rfl) rfl rfl ?_
     refine ah (?_)
     refine aC 4 rfl rfl ?_
     refine aH 0 rfl ?_
     refine st dK rfl rfl ?_
     refine ah (?_)
     refine aH 5 rfl ?_
     refine st (dP rfl rfl rfl k0) rfl rfl ?_
     refine ah (?_)
     refine aH 11 rfl ?_
     refine st (dP rfl rfl rfl k1) rfl rfl ?_
     refine ah (?_)
     refine aC 12 (hp:=aT rfl) rfl rfl ?_
     refine aH 13 rfl ?_
     refine stN (aJ (size:=1) rfl rfl (by rfl) (by rfl) (by rfl)) rfl ?_
     refine ah (?_)
     refine dn ?_
     obtain rfl:X=[]:=List.eq_nil_of_length_eq_zero (by omega)
     exact ⟨rfl,rfl,bT.all _ 9 [9] (by simp) rfl rfl (nY rfl rfl (.emptySlice _ _ _ _) (.inl rfl)) (by (repeat' (first|exact trivial|refine ⟨bD rfl rfl,?_⟩|refine ⟨aV (m:=9) rfl (fun i hi=>aY hi) (by simp) (by rfl) rfl,?_⟩)))⟩
  ·repeat' (first|(refine gU ?_;first|(refine aI ?_;refine st (aA rfl) rfl rfl ?_)|(refine gFA ?_;refine st (aB rfl) rfl rfl ?_)|(refine aU ?_;refine st (ak rfl (by rfl)) rfl rfl ?_)|(refine bG ?_;refine st (rG rfl rfl (by omega)) rfl rfl ?_)|(refine fK ?_;refine st (bK rfl) rfl rfl ?_)|(refine gIA ?_;refine st (bV rfl rfl (by omega) (by omega)) rfl rfl ?_)|(refine xU ?_;refine st (mX rfl (by omega) (by omega)) rfl rfl ?_))|refine aS ?_|refine kY (id:=10) ?_|refine aj ?_|refine ah ?_|refine bg ?_)
   refine ⟨?_⟩
   refine oU (id:=10) (by kernel_rfl) ?_
   refine aC 1 (hp:=aT rfl) rfl rfl ?_
   refine aC 3 rfl rfl ?_
   refine aC 6 (hp:=aT rfl) rfl rfl ?_
   refine aC 8 rfl rfl ?_
   refine aC 9 rfl rfl ?_
   refine qL 0 2 7 rfl rfl rfl ?_ ?_ ?_
   ·refine st dK rfl rfl ?_
    refine ah (?_)
    refine iO 2 7 rfl rfl ?_ ?_
    ·refine st (ak rfl rfl) rfl rfl ?_
     refine ah (?_)
     refine aC 4 rfl rfl ?_
     refine iO 5 7 rfl rfl ?_ ?_
     ·refine st (dP rfl rfl rfl k0) rfl rfl ?_
      refine ah (?_)
      refine aH 7 rfl ?_
      refine st (ak rfl rfl) rfl rfl ?_
      refine ah (?_)
      refine aC 10 rfl rfl ?_
      refine aH 11 rfl ?_
      refine st (bW (by rfl) rfl rfl (hB _) (by omega) (by omega) (by omega)) rfl rfl ?_
      refine ah (?_)
      refine aC 12 (hp:=aT rfl) rfl rfl ?_
      refine aH 13 rfl ?_
      refine stN (aJ (size:=1) rfl rfl (by (rw [aF];rfl)) (by (rw [aF];exact dU)) (by (rw [aF];rfl))) rfl ?_
      refine ah (?_)
      refine dn ?_
      have hc2:ints X=ints (S.s.drop (w1 % S.s.length+1)):=by rw [hcE,show S.s.take (w1 % S.s.length)=[] by rw [k0];rfl];rfl
      have hl2:X.length=S.s.length - (w1 % S.s.length+1):=by omega
      exact ⟨rfl,rfl,bT.all _ 9 [10] (by simp) rfl rfl (nY rfl rfl (by rw [hl2];exact dw (by simp) rfl) (dA (j:=10) rfl (.inr ⟨3,by rw [hc2];rfl⟩) (aK _))) (by (repeat' (first|exact trivial|refine ⟨bD rfl rfl,?_⟩|refine ⟨aV (m:=9) rfl (fun i hi=>aY hi) (by simp) (by rfl) rfl,?_⟩)))⟩
     ·refine st (ak rfl rfl) rfl rfl ?_
      refine ah (?_)
      refine aC 10 rfl rfl ?_
      refine aH 5 rfl ?_
      refine st (dP rfl rfl rfl k0) rfl rfl ?_
      refine ah (?_)
      refine aH 11 rfl ?_
      refine st (bW (by rfl) rfl rfl (hB _) (by omega) (by omega) (by omega)) rfl rfl ?_
      refine ah (?_)
      refine aC 12 (hp:=aT rfl) rfl rfl ?_
      refine aH 13 rfl ?_
      refine stN (aJ (size:=1) rfl rfl (by (rw [aF];rfl)) (by (rw [aF];exact dU)) (by (rw [aF];rfl))) rfl ?_
      refine ah (?_)
      refine dn ?_
      have hc2:ints X=ints (S.s.drop (w1 % S.s.length+1)):=by rw [hcE,show S.s.take (w1 % S.s.length)=[] by rw [k0];rfl];rfl
      have hl2:X.length=S.s.length - (w1 % S.s.length+1):=by omega
      exact ⟨rfl,rfl,bT.all _ 9 [10] (by simp) rfl rfl (nY rfl rfl (by rw [hl2];exact dw (by simp) rfl) (dA (j:=10) rfl (.inr ⟨3,by rw [hc2];rfl⟩) (aK _))) (by (repeat' (first|exact trivial|refine ⟨bD rfl rfl,?_⟩|refine ⟨aV (m:=9) rfl (fun i hi=>aY hi) (by simp) (by rfl) rfl,?_⟩)))⟩
    ·refine st (ak rfl rfl) rfl rfl ?_
     refine ah (?_)
     refine aC 10 rfl rfl ?_
     refine aH 2 rfl ?_
     refine st (ak rfl rfl) rfl rfl ?_
     refine ah (?_)
     refine aC 4 rfl rfl ?_
     refine aH 5 rfl ?_
     refine st (dP rfl rfl rfl k0) rfl rfl ?_
     refine ah (?_)
     refine aH 11 rfl ?_
     refine st (bW (by rfl) rfl rfl (hB _) (by omega) (by omega) (by omega)) rfl rfl ?_
     refine ah (?_)
     refine aC 12 (hp:=aT rfl) rfl rfl ?_
     refine aH 13 rfl ?_
     refine stN (aJ (size:=1) rfl rfl (by (rw [aF];rfl)) (by (rw [aF];exact dU)) (by (rw [aF];rfl))) rfl ?_
     refine ah (?_)
     refine dn ?_
     have hc2:ints X=ints (S.s.drop (w1 % S.s.length+1)):=by rw [hcE,show S.s.take (w1 % S.s.length)=[] by rw [k0];rfl];rfl
     have hl2:X.length=S.s.length - (w1 % S.s.length+1):=by omega
     exact ⟨rfl,rfl,bT.all _ 9 [10] (by simp) rfl rfl (nY rfl rfl (by rw [hl2];exact dw (by simp) rfl) (dA (j:=10) rfl (.inr ⟨3,by rw [hc2];rfl⟩) (aK _))) (by (repeat' (first|exact trivial|refine ⟨bD rfl rfl,?_⟩|refine ⟨aV (m:=9) rfl (fun i hi=>aY hi) (by simp) (by rfl) rfl,?_⟩)))⟩
   ·refine st (ak rfl rfl) rfl rfl ?_
    refine ah (?_)
    refine aC 4 rfl rfl ?_
    refine iO 0 7 rfl rfl ?_ ?_
    ·refine st dK rfl rfl ?_
     refine ah (?_)
     refine iO 5 7 rfl rfl ?_ ?_
     ·refine st (dP rfl rfl rfl k0) rfl rfl ?_
      refine ah (?_)
      refine aH 7 rfl ?_
      refine st (ak rfl rfl) rfl rfl ?_
      refine ah (?_)
      refine aC 10 rfl rfl ?_
      refine aH 11 rfl ?_
      refine st (bW (by rfl) rfl rfl (hB _) (by omega) (by omega) (by omega)) rfl rfl ?_
      refine ah (?_)
      refine aC 12 (hp:=aT rfl) rfl rfl ?_
      refine aH 13 rfl ?_
      refine stN (aJ (size:=1) rfl rfl (by (rw [aF];rfl)) (by (rw [aF];exact dU)) (by (rw [aF];rfl))) rfl ?_
      refine ah (?_)
      refine dn ?_
      have hc2:ints X=ints (S.s.drop (w1 % S.s.length+1)):=by rw [hcE,show S.s.take (w1 % S.s.length)=[] by rw [k0];rfl];rfl
      have hl2:X.length=S.s.length - (w1 % S.s.length+1):=by omega
      exact ⟨rfl,rfl,bT.all _ 9 [10] (by simp) rfl rfl (nY rfl rfl (by rw [hl2];exact dw (by simp) rfl) (dA (j:=10) rfl (.inr ⟨3,by rw [hc2];rfl⟩) (aK _))) (by (repeat' (first|exact trivial|refine ⟨bD rfl rfl,?_⟩|refine ⟨aV (m:=9) rfl (fun i hi=>aY hi) (by simp) (by rfl) rfl,?_⟩)))⟩
     ·refine st (ak rfl rfl) rfl rfl ?_
      refine ah (?_)
      refine aC 10 rfl rfl ?_
      refine aH 5 rfl ?_
      refine st (dP rfl rfl rfl k0) rfl rfl ?_
      refine ah (?_)
      refine aH 11 rfl ?_
      refine st (bW (by rfl) rfl rfl (hB _) (by omega) (by omega) (by omega)) rfl rfl ?_
      refine ah (?_)
      refine aC 12 (hp:=aT rfl) rfl rfl ?_
      refine aH 13 rfl ?_
      refine stN (aJ (size:=1) rfl rfl (by (rw [aF];rfl)) (by (rw [aF];exact dU)) (by (rw [aF];rfl))) rfl ?_
      refine ah (?_)
      refine dn ?_
      have hc2:ints X=ints (S.s.drop (w1 % S.s.length+1)):=by rw [hcE,show S.s.take (w1 % S.s.length)=[] by rw [k0];rfl];rfl
      have hl2:X.length=S.s.length - (w1 % S.s.length+1):=by omega
      exact ⟨rfl,rfl,bT.all _ 9 [10] (by simp) rfl rfl (nY rfl rfl (by rw [hl2];exact dw (by simp) rfl) (dA (j:=10) rfl (.inr ⟨3,by rw [hc2];rfl⟩) (aK _))) (by (repeat' (first|exact trivial|refine ⟨bD rfl rfl,?_⟩|refine ⟨aV (m:=9) rfl (fun i hi=>aY hi) (by simp) (by rfl) rfl,?_⟩)))⟩
    ·refine st (ak rfl rfl) rfl rfl ?_
     refine ah (?_)
     refine aC 10 rfl rfl ?_
     refine aH 0 rfl ?_
     refine st dK rfl rfl ?_
     refine ah (?_)
     refine aH 5 rfl ?_
     refine st (dP rfl rfl rfl k0) rfl rfl ?_
     refine ah (?_)
     refine aH 11 rfl ?_
     refine st (bW (by rfl) rfl rfl (hB _) (by omega) (by omega) (by omega)) rfl rfl ?_
     refine ah (?_)
     refine aC 12 (hp:=aT rfl) rfl rfl ?_
     refine aH 13 rfl ?_
     refine stN (aJ (size:=1) rfl rfl (by (rw [aF];rfl)) (by (rw [aF];exact dU)) (by (rw [aF];rfl))) rfl ?_
     refine ah (?_)
     refine dn ?_
     have hc2:ints X=ints (S.s.drop (w1 % S.s.length+1)):=by rw [hcE,show S.s.take (w1 % S.s.length)=[] by rw [k0];rfl];rfl
     have hl2:X.length=S.s.length - (w1 % S.s.length+1):=by omega
     exact ⟨rfl,rfl,bT.all _ 9 [10] (by simp) rfl rfl (nY rfl rfl (by rw [hl2];exact dw (by simp) rfl) (dA (j:=10) rfl (.inr ⟨3,by rw [hc2];rfl⟩) (aK _))) (by (repeat' (first|exact trivial|refine ⟨bD rfl rfl,?_⟩|refine ⟨aV (m:=9) rfl (fun i hi=>aY hi) (by simp) (by rfl) rfl,?_⟩)))⟩
   ·refine st (ak rfl rfl) rfl rfl ?_
    refine ah (?_)
    refine aC 10 rfl rfl ?_
    refine iO 0 2 rfl rfl ?_ ?_
    ·refine st dK rfl rfl ?_
     refine ah (?_)
     refine aH 2 rfl ?_
     refine st (ak rfl rfl) rfl rfl ?_
     refine ah (?_)
     refine aC 4 rfl rfl ?_
     refine aH 5 rfl ?_
     refine st (dP rfl rfl rfl k0) rfl rfl ?_
     refine ah (?_)
     refine aH 11 rfl ?_
     refine st (bW (by rfl) rfl rfl (hB _) (by omega) (by omega) (by omega)) rfl rfl ?_
     refine ah (?_)
     refine aC 12 (hp:=aT rfl) rfl rfl ?_
     refine aH 13 rfl ?_
     refine stN (aJ (size:=1) rfl rfl (by (rw [aF];rfl)) (by (rw [aF];exact dU)) (by (rw [aF];rfl))) rfl ?_
     refine ah (?_)
     refine dn ?_
     have hc2:ints X=ints (S.s.drop (w1 % S.s.length+1)):=by rw [hcE,show S.s.take (w1 % S.s.length)=[] by rw [k0];rfl];rfl
     have hl2:X.length=S.s.length - (w1 % S.s.length+1):=by omega
     exact ⟨rfl,rfl,bT.all _ 9 [10] (by simp) rfl rfl (nY rfl rfl (by rw [hl2];exact dw (by simp) rfl) (dA (j:=10) rfl (.inr ⟨3,by rw [hc2];rfl⟩) (aK _))) (by (repeat' (first|exact trivial|refine ⟨bD rfl rfl,?_⟩|refine ⟨aV (m:=9) rfl (fun i hi=>aY hi) (by simp) (by rfl) rfl,?_⟩)))⟩
    ·refine st (ak rfl rfl) rfl rfl ?_
     refine ah (?_)
     refine aC 4 rfl rfl ?_
     refine aH 0 rfl ?_
     refine st dK rfl rfl ?_
     refine ah (?_)
     refine aH 5 rfl ?_
     refine st (dP rfl rfl rfl k0) rfl rfl ?_
     refine ah (?_)
     refine aH 11 rfl ?_
     refine st (bW (by rfl) rfl rfl (hB _) (by omega) (by omega) (by omega)) rfl rfl ?_
     refine ah (?_)
     refine aC 12 (hp:=aT rfl) rfl rfl ?_
     refine aH 13 rfl ?_
     refine stN (aJ (size:=1) rfl rfl (by (rw [aF];rfl)) (by (rw [aF];exact dU)) (by (rw [aF];rfl))) rfl ?_
     refine ah (?_)
     refine dn ?_
     have hc2:ints X=ints (S.s.drop (w1 % S.s.length+1)):=by rw [hcE,show S.s.take (w1 % S.s.length)=[] by rw [k0];rfl];rfl
     have hl2:X.length=S.s.length - (w1 % S.s.length+1):=by omega
     exact ⟨rfl,rfl,bT.all _ 9 [10] (by simp) rfl rfl (nY rfl rfl (by rw [hl2];exact dw (by simp) rfl) (dA (j:=10) rfl (.inr ⟨3,by rw [hc2];rfl⟩) (aK _))) (by (repeat' (first|exact trivial|refine ⟨bD rfl rfl,?_⟩|refine ⟨aV (m:=9) rfl (fun i hi=>aY hi) (by simp) (by rfl) rfl,?_⟩)))⟩
  ·repeat' (first|(refine gU ?_;first|(refine aI ?_;refine st (aA rfl) rfl rfl ?_)|(refine gFA ?_;refine st (aB rfl) rfl rfl ?_)|(refine aU ?_;refine st (ak rfl (by rfl)) rfl rfl ?_)|(refine bG ?_;refine st (rG rfl rfl (by omega)) rfl rfl ?_)|(refine fK ?_;refine st (bK rfl) rfl rfl ?_)|(refine gIA ?_;refine st (bV rfl rfl (by omega) (by omega)) rfl rfl ?_)|(refine xU ?_;refine st (mX rfl (by omega) (by omega)) rfl rfl ?_))|refine aS ?_|refine kY (id:=10) ?_|refine aj ?_|refine ah ?_|refine bg ?_)
   refine ⟨?_⟩
   refine oU (id:=10) (by kernel_rfl) ?_
   refine aC 1 (hp:=aT rfl) rfl rfl ?_
   refine aC 3 rfl rfl ?_
   refine aC 6 (hp:=aT rfl) rfl rfl ?_
   refine aC 8 rfl rfl ?_
   refine aC 9 rfl rfl ?_
   refine qL 0 2 7 rfl rfl rfl ?_ ?_ ?_
   ·refine st dK rfl rfl ?_
    refine ah (?_)
    refine iO 2 7 rfl rfl ?_ ?_
    ·refine st (ak rfl rfl) rfl rfl ?_
     refine ah (?_)
     refine aC 4 rfl rfl ?_
     refine iO 5 7 rfl rfl ?_ ?_
     ·refine st (bW (by rfl) rfl rfl (hA _) (by omega) (by omega) (by omega)) rfl rfl ?_
      refine ah (?_)
      refine aH 7 rfl ?_
      refine st (ak rfl rfl) rfl rfl ?_
      refine ah (?_)
      refine aC 10 rfl rfl ?_
      refine aH 11 rfl ?_
      refine st (dP rfl (jE _ _ _) rfl k1) rfl rfl ?_
      refine ah (?_)
      refine aC 12 (hp:=aT rfl) rfl rfl ?_
      refine aH 13 rfl ?_
      refine stN (aJ (size:=1) rfl rfl (by (rw [aF];rfl)) (by (rw [aF];exact dU)) (by (rw [aF];rfl))) rfl ?_
      refine ah (?_)
      refine dn ?_
      have hc2:ints X=ints (S.s.take (w1 % S.s.length)):=by rw [hcE,List.drop_of_length_le (by omega)];simp [ints]
      have hl2:X.length=w1 % S.s.length:=by omega
      exact ⟨rfl,rfl,bT.all _ 9 [10] (by simp) rfl rfl (nY rfl rfl (by rw [hl2];exact dw (by simp) rfl) (dA (j:=10) rfl (.inr ⟨3,by rw [hc2];rfl⟩) (aK _))) (by (repeat' (first|exact trivial|refine ⟨bD rfl rfl,?_⟩|refine ⟨aV (m:=9) rfl (fun i hi=>aY hi) (by simp) (by rfl) rfl,?_⟩)))⟩
     ·refine st (ak rfl rfl) rfl rfl ?_
      refine ah (?_)
      refine aC 10 rfl rfl ?_
      refine aH 5 rfl ?_
      refine st (bW (by rfl) rfl rfl (hA _) (by omega) (by omega) (by omega)) rfl rfl ?_
      refine ah (?_)
      refine aH 11 rfl ?_
      refine st (dP rfl (jE _ _ _) rfl k1) rfl rfl ?_
      refine ah (?_)
      refine aC 12 (hp:=aT rfl) rfl rfl ?_
      refine aH 13 rfl ?_
      refine stN (aJ (size:=1) rfl rfl (by (rw [aF];rfl)) (by (rw [aF];exact dU)) (by (rw [aF];rfl))) rfl ?_
      refine ah (?_)
      refine dn ?_
      have hc2:ints X=ints (S.s.take (w1 % S.s.length)):=by rw [hcE,List.drop_of_length_le (by omega)];simp [ints]
      have hl2:X.length=w1 % S.s.length:=by omega
      exact ⟨rfl,rfl,bT.all _ 9 [10] (by simp) rfl rfl (nY rfl rfl (by rw [hl2];exact dw (by simp) rfl) (dA (j:=10) rfl (.inr ⟨3,by rw [hc2];rfl⟩) (aK _))) (by (repeat' (first|exact trivial|refine ⟨bD rfl rfl,?_⟩|refine ⟨aV (m:=9) rfl (fun i hi=>aY hi) (by simp) (by rfl) rfl,?_⟩)))⟩
    ·refine st (ak rfl rfl) rfl rfl ?_
     refine ah (?_)
     refine aC 10 rfl rfl ?_
     refine aH 2 rfl ?_
     refine st (ak rfl rfl) rfl rfl ?_
     refine ah (?_)
     refine aC 4 rfl rfl ?_
     refine aH 5 rfl ?_
     refine st (bW (by rfl) rfl rfl (hA _) (by omega) (by omega) (by omega)) rfl rfl ?_
     refine ah (?_)
     refine aH 11 rfl ?_
     refine st (dP rfl (jE _ _ _) rfl k1) rfl rfl ?_
     refine ah (?_)
     refine aC 12 (hp:=aT rfl) rfl rfl ?_
     refine aH 13 rfl ?_
     refine stN (aJ (size:=1) rfl rfl (by (rw [aF];rfl)) (by (rw [aF];exact dU)) (by (rw [aF];rfl))) rfl ?_
     refine ah (?_)
     refine dn ?_
     have hc2:ints X=ints (S.s.take (w1 % S.s.length)):=by rw [hcE,List.drop_of_length_le (by omega)];simp [ints]
     have hl2:X.length=w1 % S.s.length:=by omega
     exact ⟨rfl,rfl,bT.all _ 9 [10] (by simp) rfl rfl (nY rfl rfl (by rw [hl2];exact dw (by simp) rfl) (dA (j:=10) rfl (.inr ⟨3,by rw [hc2];rfl⟩) (aK _))) (by (repeat' (first|exact trivial|refine ⟨bD rfl rfl,?_⟩|refine ⟨aV (m:=9) rfl (fun i hi=>aY hi) (by simp) (by rfl) rfl,?_⟩)))⟩
   ·refine st (ak rfl rfl) rfl rfl ?_
    refine ah (?_)
    refine aC 4 rfl rfl ?_
    refine iO 0 7 rfl rfl ?_ ?_
    ·refine st dK rfl rfl ?_
     refine ah (?_)
     refine iO 5 7 rfl rfl ?_ ?_
     ·refine st (bW (by rfl) rfl rfl (hA _) (by omega) (by omega) (by omega)) rfl rfl ?_
      refine ah (?_)
      refine aH 7 rfl ?_
      refine st (ak rfl rfl) rfl rfl ?_
      refine ah (?_)
      refine aC 10 rfl rfl ?_
      refine aH 11 rfl ?_
      refine st (dP rfl (jE _ _ _) rfl k1) rfl rfl ?_
      refine ah (?_)
      refine aC 12 (hp:=aT rfl) rfl rfl ?_
      refine aH 13 rfl ?_
      refine stN (aJ (size:=1) rfl rfl (by (rw [aF];rfl)) (by (rw [aF];exact dU)) (by (rw [aF];rfl))) rfl ?_
      refine ah (?_)
      refine dn ?_
      have hc2:ints X=ints (S.s.take (w1 % S.s.length)):=by rw [hcE,List.drop_of_length_le (by omega)];simp [ints]
      have hl2:X.length=w1 % S.s.length:=by omega
      exact ⟨rfl,rfl,bT.all _ 9 [10] (by simp) rfl rfl (nY rfl rfl (by rw [hl2];exact dw (by simp) rfl) (dA (j:=10) rfl (.inr ⟨3,by rw [hc2];rfl⟩) (aK _))) (by (repeat' (first|exact trivial|refine ⟨bD rfl rfl,?_⟩|refine ⟨aV (m:=9) rfl (fun i hi=>aY hi) (by simp) (by rfl) rfl,?_⟩)))⟩
     ·refine st (ak rfl rfl) rfl rfl ?_
      refine ah (?_)
      refine aC 10 rfl rfl ?_
      refine aH 5 rfl ?_
      refine st (bW (by rfl) rfl rfl (hA _) (by omega) (by omega) (by omega)) rfl rfl ?_
      refine ah (?_)
      refine aH 11 rfl ?_
      refine st (dP rfl (jE _ _ _) rfl k1) rfl rfl ?_
      refine ah (?_)
      refine aC 12 (hp:=aT rfl) rfl rfl ?_
      refine aH 13 rfl ?_
      refine stN (aJ (size:=1) rfl rfl (by (rw [aF];rfl)) (by (rw [aF];exact dU)) (by (rw [aF];rfl))) rfl ?_
      refine ah (?_)
      refine dn ?_
      have hc2:ints X=ints (S.s.take (w1 % S.s.length)):=by rw [hcE,List.drop_of_length_le (by omega)];simp [ints]
      have hl2:X.length=w1 % S.s.length:=by omega
      exact ⟨rfl,rfl,bT.all _ 9 [10] (by simp) rfl rfl (nY rfl rfl (by rw [hl2];exact dw (by simp) rfl) (dA (j:=10) rfl (.inr ⟨3,by rw [hc2];rfl⟩) (aK _))) (by (repeat' (first|exact trivial|refine ⟨bD rfl rfl,?_⟩|refine ⟨aV (m:=9) rfl (fun i hi=>aY hi) (by simp) (by rfl) rfl,?_⟩)))⟩
    ·refine st (ak rfl rfl) rfl rfl ?_
     refine ah (?_)
     refine aC 10 rfl rfl ?_
     refine aH 0 rfl ?_
     refine st dK rfl rfl ?_
     refine ah (?_)
     refine aH 5 rfl ?_
     refine st (bW (by rfl) rfl rfl (hA _) (by omega) (by omega) (by omega)) rfl rfl ?_
     refine ah (?_)
     refine aH 11 rfl ?_
     refine st (dP rfl (jE _ _ _) rfl k1) rfl rfl ?_
     refine ah (?_)
     refine aC 12 (hp:=aT rfl) rfl rfl ?_
     refine aH 13 rfl ?_
     refine stN (aJ (size:=1) rfl rfl (by (rw [aF];rfl)) (by (rw [aF];exact dU)) (by (rw [aF];rfl))) rfl ?_
     refine ah (?_)
     refine dn ?_
     have hc2:ints X=ints (S.s.take (w1 % S.s.length)):=by rw [hcE,List.drop_of_length_le (by omega)];simp [ints]
     have hl2:X.length=w1 % S.s.length:=by omega
     exact ⟨rfl,rfl,bT.all _ 9 [10] (by simp) rfl rfl (nY rfl rfl (by rw [hl2];exact dw (by simp) rfl) (dA (j:=10) rfl (.inr ⟨3,by rw [hc2];rfl⟩) (aK _))) (by (repeat' (first|exact trivial|refine ⟨bD rfl rfl,?_⟩|refine ⟨aV (m:=9) rfl (fun i hi=>aY hi) (by simp) (by rfl) rfl,?_⟩)))⟩
   ·refine st (ak rfl rfl) rfl rfl ?_
    refine ah (?_)
    refine aC 10 rfl rfl ?_
    refine iO 0 2 rfl rfl ?_ ?_
    ·refine st dK rfl rfl ?_
     refine ah (?_)
     refine aH 2 rfl ?_
     refine st (ak rfl rfl) rfl rfl ?_
     refine ah (?_)
     refine aC 4 rfl rfl ?_
     refine aH 5 rfl ?_
     refine st (bW (by rfl) rfl rfl (hA _) (by omega) (by omega) (by omega)) rfl rfl ?_
     refine ah (?_)
     refine aH 11 rfl ?_
     refine st (dP rfl (jE _ _ _) rfl k1) rfl rfl ?_
     refine ah (?_)
     refine aC 12 (hp:=aT rfl) rfl rfl ?_
     refine aH 13 rfl ?_
     refine stN (aJ (size:=1) rfl rfl (by (rw [aF];rfl)) (by (rw [aF];exact dU)) (by (rw [aF];rfl))) rfl ?_
     refine ah (?_)
     refine dn ?_
     have hc2:ints X=ints (S.s.take (w1 % S.s.length)):=by rw [hcE,List.drop_of_length_le (by omega)];simp [ints]
     have hl2:X.length=w1 % S.s.length:=by omega
     exact ⟨rfl,rfl,bT.all _ 9 [10] (by simp) rfl rfl (nY rfl rfl (by rw [hl2];exact dw (by simp) rfl) (dA (j:=10) rfl (.inr ⟨3,by rw [hc2];rfl⟩) (aK _))) (by (repeat' (first|exact trivial|refine ⟨bD rfl rfl,?_⟩|refine ⟨aV (m:=9) rfl (fun i hi=>aY hi) (by simp) (by rfl) rfl,?_⟩)))⟩
    ·refine st (ak rfl rfl) rfl rfl ?_
     refine ah (?_)
     refine aC 4 rfl rfl ?_
     refine aH 0 rfl ?_
     refine st dK rfl rfl ?_
     refine ah (?_)
     refine aH 5 rfl ?_
     refine st (bW (by rfl) rfl rfl (hA _) (by omega) (by omega) (by omega)) rfl rfl ?_
     refine ah (?_)
     refine aH 11 rfl ?_
     refine st (dP rfl (jE _ _ _) rfl k1) rfl rfl ?_
     refine ah (?_)
     refine aC 12 (hp:=aT rfl) rfl rfl ?_
     refine aH 13 rfl ?_
     refine stN (aJ (size:=1) rfl rfl (by (rw [aF];rfl)) (by (rw [aF];exact dU)) (by (rw [aF];rfl))) rfl ?_
     refine ah (?_)
     refine dn ?_
     have hc2:ints X=ints (S.s.take (w1 % S.s.length)):=by rw [hcE,List.drop_of_length_le (by omega)];simp [ints]
     have hl2:X.length=w1 % S.s.length:=by omega
     exact ⟨rfl,rfl,bT.all _ 9 [10] (by simp) rfl rfl (nY rfl rfl (by rw [hl2];exact dw (by simp) rfl) (dA (j:=10) rfl (.inr ⟨3,by rw [hc2];rfl⟩) (aK _))) (by (repeat' (first|exact trivial|refine ⟨bD rfl rfl,?_⟩|refine ⟨aV (m:=9) rfl (fun i hi=>aY hi) (by simp) (by rfl) rfl,?_⟩)))⟩
  ·repeat' (first|(refine gU ?_;first|(refine aI ?_;refine st (aA rfl) rfl rfl ?_)|(refine gFA ?_;refine st (aB rfl) rfl rfl ?_)|(refine aU ?_;refine st (ak rfl (by rfl)) rfl rfl ?_)|(refine bG ?_;refine st (rG rfl rfl (by omega)) rfl rfl ?_)|(refine fK ?_;refine st (bK rfl) rfl rfl ?_)|(refine gIA ?_;refine st (bV rfl rfl (by omega) (by omega)) rfl rfl ?_)|(refine xU ?_;refine st (mX rfl (by omega) (by omega)) rfl rfl ?_))|refine aS ?_|refine kY (id:=10) ?_|refine aj ?_|refine ah ?_|refine bg ?_)
   refine ⟨?_⟩
   refine oU (id:=10) (by kernel_rfl) ?_
   refine aC 1 (hp:=aT rfl) rfl rfl ?_
   refine aC 3 rfl rfl ?_
   refine aC 6 (hp:=aT rfl) rfl rfl ?_
   refine aC 8 rfl rfl ?_
   refine aC 9 rfl rfl ?_
   refine qL 0 2 7 rfl rfl rfl ?_ ?_ ?_
   ·refine st dK rfl rfl ?_
    refine ah (?_)
    refine iO 2 7 rfl rfl ?_ ?_
    ·refine st (ak rfl rfl) rfl rfl ?_
     refine ah (?_)
     refine aC 4 rfl rfl ?_
     refine iO 5 7 rfl rfl ?_ ?_
     ·refine st (bW (by rfl) rfl rfl (hA _) (by omega) (by omega) (by omega)) rfl rfl ?_
      refine ah (?_)
      refine aH 7 rfl ?_
      refine st (ak rfl rfl) rfl rfl ?_
      refine ah (?_)
      refine aC 10 rfl rfl ?_
      refine aH 11 rfl ?_
      refine st (fZ (by rfl) (by rfl) rfl (by rfl) hlen rfl (hB _) (by omega) hone (by omega) (by omega)) rfl rfl ?_
      refine ah (?_)
      refine aC 12 (hp:=aT rfl) rfl rfl ?_
      refine aH 13 rfl ?_
      refine stN (aJ (size:=1) rfl rfl (by (rw [aF];rfl)) (by (rw [aF];exact dU)) (by (rw [aF];rfl))) rfl ?_
      refine ah (?_)
      refine dn ?_
      have hl2:X.length=w1 % S.s.length+(S.s.length - (w1 % S.s.length+1)):=by omega
      exact ⟨rfl,rfl,bT.all _ 9 [11] (by simp) rfl rfl (nY rfl rfl (by rw [hl2];exact dw (by simp) rfl) (dA (j:=11) rfl (.inr ⟨3,by rw [hcE];rfl⟩) (aK _))) (by (repeat' (first|exact trivial|refine ⟨bD rfl rfl,?_⟩|refine ⟨aV (m:=9) rfl (fun i hi=>aY hi) (by simp) (by rfl) rfl,?_⟩)))⟩
     ·refine st (ak rfl rfl) rfl rfl ?_
      refine ah (?_)
      refine aC 10 rfl rfl ?_
      refine aH 5 rfl ?_
      refine st (bW (by rfl) rfl rfl (hA _) (by omega) (by omega) (by omega)) rfl rfl ?_
      refine ah (?_)
      refine aH 11 rfl ?_
      refine st (fZ (by rfl) (by rfl) rfl (by rfl) hlen rfl (hB _) (by omega) hone (by omega) (by omega)) rfl rfl ?_
      refine ah (?_)
      refine aC 12 (hp:=aT rfl) rfl rfl ?_
      refine aH 13 rfl ?_
      refine stN (aJ (size:=1) rfl rfl (by (rw [aF];rfl)) (by (rw [aF];exact dU)) (by (rw [aF];rfl))) rfl ?_
      refine ah (?_)
      refine dn ?_
      have hl2:X.length=w1 % S.s.length+(S.s.length - (w1 % S.s.length+1)):=by omega
      exact ⟨rfl,rfl,bT.all _ 9 [11] (by simp) rfl rfl (nY rfl rfl (by rw [hl2];exact dw (by simp) rfl) (dA (j:=11) rfl (.inr ⟨3,by rw [hcE];rfl⟩) (aK _))) (by (repeat' (first|exact trivial|refine ⟨bD rfl rfl,?_⟩|refine ⟨aV (m:=9) rfl (fun i hi=>aY hi) (by simp) (by rfl) rfl,?_⟩)))⟩
    ·refine st (ak rfl rfl) rfl rfl ?_
     refine ah (?_)
     refine aC 10 rfl rfl ?_
     refine aH 2 rfl ?_
     refine st (ak rfl rfl) rfl rfl ?_
     refine ah (?_)
     refine aC 4 rfl rfl ?_
     refine aH 5 rfl ?_
     refine st (bW (by rfl) rfl rfl (hA _) (by omega) (by omega) (by omega)) rfl rfl ?_
     refine ah (?_)
     refine aH 11 rfl ?_
     refine st (fZ (by rfl) (by rfl) rfl (by rfl) hlen rfl (hB _) (by omega) hone (by omega) (by omega)) rfl rfl ?_
     refine ah (?_)
     refine aC 12 (hp:=aT rfl) rfl rfl ?_
     refine aH 13 rfl ?_
     refine stN (aJ (size:=1) rfl rfl (by (rw [aF];rfl)) (by (rw [aF];exact dU)) (by (rw [aF];rfl))) rfl ?_
     refine ah (?_)
     refine dn ?_
     have hl2:X.length=w1 % S.s.length+(S.s.length - (w1 % S.s.length+1)):=by omega
     exact ⟨rfl,rfl,bT.all _ 9 [11] (by simp) rfl rfl (nY rfl rfl (by rw [hl2];exact dw (by simp) rfl) (dA (j:=11) rfl (.inr ⟨3,by rw [hcE];rfl⟩) (aK _))) (by (repeat' (first|exact trivial|refine ⟨bD rfl rfl,?_⟩|refine ⟨aV (m:=9) rfl (fun i hi=>aY hi) (by simp) (by rfl) rfl,?_⟩)))⟩
   ·refine st (ak rfl rfl) rfl rfl ?_
    refine ah (?_)
    refine aC 4 rfl rfl ?_
    refine iO 0 7 rfl rfl ?_ ?_
    ·refine st dK rfl rfl ?_
     refine ah (?_)
     refine iO 5 7 rfl rfl ?_ ?_
     ·refine st (bW (by rfl) rfl rfl (hA _) (by omega) (by omega) (by omega)) rfl rfl ?_
      refine ah (?_)
      refine aH 7 rfl ?_
      refine st (ak rfl rfl) rfl rfl ?_
      refine ah (?_)
      refine aC 10 rfl rfl ?_
      refine aH 11 rfl ?_
      refine st (fZ (by rfl) (by rfl) rfl (by rfl) hlen rfl (hB _) (by omega) hone (by omega) (by omega)) rfl rfl ?_
      refine ah (?_)
      refine aC 12 (hp:=aT rfl) rfl rfl ?_
      refine aH 13 rfl ?_
      refine stN (aJ (size:=1) rfl rfl (by (rw [aF];rfl)) (by (rw [aF];exact dU)) (by (rw [aF];rfl))) rfl ?_
      refine ah (?_)
      refine dn ?_
      have hl2:X.length=w1 % S.s.length+(S.s.length - (w1 % S.s.length+1)):=by omega
      exact ⟨rfl,rfl,bT.all _ 9 [11] (by simp) rfl rfl (nY rfl rfl (by rw [hl2];exact dw (by simp) rfl) (dA (j:=11) rfl (.inr ⟨3,by rw [hcE];rfl⟩) (aK _))) (by (repeat' (first|exact trivial|refine ⟨bD rfl rfl,?_⟩|refine ⟨aV (m:=9) rfl (fun i hi=>aY hi) (by simp) (by rfl) rfl,?_⟩)))⟩
     ·refine st (ak rfl rfl) rfl rfl ?_
      refine ah (?_)
      refine aC 10 rfl rfl ?_
      refine aH 5 rfl ?_
      refine st (bW (by rfl) rfl rfl (hA _) (by omega) (by omega) (by omega)) rfl rfl ?_
      refine ah (?_)
      refine aH 11 rfl ?_
      refine st (fZ (by rfl) (by rfl) rfl (by rfl) hlen rfl (hB _) (by omega) hone (by omega) (by omega)) rfl rfl ?_
      refine ah (?_)
      refine aC 12 (hp:=aT rfl) rfl rfl ?_
      refine aH 13 rfl ?_
      refine stN (aJ (size:=1) rfl rfl (by (rw [aF];rfl)) (by (rw [aF];exact dU)) (by (rw [aF];rfl))) rfl ?_
      refine ah (?_)
      refine dn ?_
      have hl2:X.length=w1 % S.s.length+(S.s.length - (w1 % S.s.length+1)):=by omega
      exact ⟨rfl,rfl,bT.all _ 9 [11] (by simp) rfl rfl (nY rfl rfl (by rw [hl2];exact dw (by simp) rfl) (dA (j:=11) rfl (.inr ⟨3,by rw [hcE];rfl⟩) (aK _))) (by (repeat' (first|exact trivial|refine ⟨bD rfl rfl,?_⟩|refine ⟨aV (m:=9) rfl (fun i hi=>aY hi) (by simp) (by rfl) rfl,?_⟩)))⟩
    ·refine st (ak rfl rfl) rfl rfl ?_
     refine ah (?_)
     refine aC 10 rfl rfl ?_
     refine aH 0 rfl ?_
     refine st dK rfl rfl ?_
     refine ah (?_)
     refine aH 5 rfl ?_
     refine st (bW (by rfl) rfl rfl (hA _) (by omega) (by omega) (by omega)) rfl rfl ?_
     refine ah (?_)
     refine aH 11 rfl ?_
     refine st (fZ (by rfl) (by rfl) rfl (by rfl) hlen rfl (hB _) (by omega) hone (by omega) (by omega)) rfl rfl ?_
     refine ah (?_)
     refine aC 12 (hp:=aT rfl) rfl rfl ?_
     refine aH 13 rfl ?_
     refine stN (aJ (size:=1) rfl rfl (by (rw [aF];rfl)) (by (rw [aF];exact dU)) (by (rw [aF];rfl))) rfl ?_
     refine ah (?_)
     refine dn ?_
     have hl2:X.length=w1 % S.s.length+(S.s.length - (w1 % S.s.length+1)):=by omega
     exact ⟨rfl,rfl,bT.all _ 9 [11] (by simp) rfl rfl (nY rfl rfl (by rw [hl2];exact dw (by simp) rfl) (dA (j:=11) rfl (.inr ⟨3,by rw [hcE];rfl⟩) (aK _))) (by (repeat' (first|exact trivial|refine ⟨bD rfl rfl,?_⟩|refine ⟨aV (m:=9) rfl (fun i hi=>aY hi) (by simp) (by rfl) rfl,?_⟩)))⟩
   ·refine st (ak rfl rfl) rfl rfl ?_
    refine ah (?_)
    refine aC 10 rfl rfl ?_
    refine iO 0 2 rfl rfl ?_ ?_
    ·refine st dK rfl rfl ?_
     refine ah (?_)
     refine aH 2 rfl ?_
     refine st (ak rfl rfl) rfl rfl ?_
     refine ah (?_)
     refine aC 4 rfl rfl ?_
     refine aH 5 rfl ?_
     refine st (bW (by rfl) rfl rfl (hA _) (by omega) (by omega) (by omega)) rfl rfl ?_
     refine ah (?_)
     refine aH 11 rfl ?_
     refine st (fZ (by rfl) (by rfl) rfl (by rfl) hlen rfl (hB _) (by omega) hone (by omega) (by omega)) rfl rfl ?_
     refine ah (?_)
     refine aC 12 (hp:=aT rfl) rfl rfl ?_
     refine aH 13 rfl ?_
     refine stN (aJ (size:=1) rfl rfl (by (rw [aF];rfl)) (by (rw [aF];exact dU)) (by (rw [aF];rfl))) rfl ?_
     refine ah (?_)
     refine dn ?_
     have hl2:X.length=w1 % S.s.length+(S.s.length - (w1 % S.s.length+1)):=by omega
     exact ⟨rfl,rfl,bT.all _ 9 [11] (by simp) rfl rfl (nY rfl rfl (by rw [hl2];exact dw (by simp) rfl) (dA (j:=11) rfl (.inr ⟨3,by rw [hcE];rfl⟩) (aK _))) (by (repeat' (first|exact trivial|refine ⟨bD rfl rfl,?_⟩|refine ⟨aV (m:=9) rfl (fun i hi=>aY hi) (by simp) (by rfl) rfl,?_⟩)))⟩
    ·refine st (ak rfl rfl) rfl rfl ?_
     refine ah (?_)
     refine aC 4 rfl rfl ?_
     refine aH 0 rfl ?_
     refine st dK rfl rfl ?_
     refine ah (?_)
     refine aH 5 rfl ?_
     refine st (bW (by rfl) rfl rfl (hA _) (by omega) (by omega) (by omega)) rfl rfl ?_
     refine ah (?_)
     refine aH 11 rfl ?_
     refine st (fZ (by rfl) (by rfl) rfl (by rfl) hlen rfl (hB _) (by omega) hone (by omega) (by omega)) rfl rfl ?_
     refine ah (?_)
     refine aC 12 (hp:=aT rfl) rfl rfl ?_
     refine aH 13 rfl ?_
     refine stN (aJ (size:=1) rfl rfl (by (rw [aF];rfl)) (by (rw [aF];exact dU)) (by (rw [aF];rfl))) rfl ?_
     refine ah (?_)
     refine dn ?_
     have hl2:X.length=w1 % S.s.length+(S.s.length - (w1 % S.s.length+1)):=by omega
     exact ⟨rfl,rfl,bT.all _ 9 [11] (by simp) rfl rfl (nY rfl rfl (by rw [hl2];exact dw (by simp) rfl) (dA (j:=11) rfl (.inr ⟨3,by rw [hcE];rfl⟩) (aK _))) (by (repeat' (first|exact trivial|refine ⟨bD rfl rfl,?_⟩|refine ⟨aV (m:=9) rfl (fun i hi=>aY hi) (by simp) (by rfl) rfl,?_⟩)))⟩
 ·obtain ⟨h,_⟩|⟨_,rfl,rfl,rfl⟩:=hY
  ·exact absurd h (of_decide_eq_false hx)
  repeat' (refine aW ?_)
  exact ⟨rfl,rfl,bT.all _ 9 [9] (by simp) rfl rfl ⟨eU (i:=0) (by omega) (by simp) rfl (ay (aK _)),eU (i:=1) (by omega) (by simp) rfl (ay (dJ _)),eU (i:=2) (by omega) (by simp) rfl (ay (aK _)),eU (i:=3) (by omega) (by simp) rfl (iq (by omega) (by omega) (by omega)),eU (i:=4) (by omega) (by simp) rfl (ay rfl),xR (p:=5) (aY (by omega)) rfl (gu (by simp) (aY (by omega)) (Nat.le_refl _)) (gu (by simp) (aY (by omega)) (Nat.le_refl _)) (gu (by simp) (aY (by omega)) (Nat.le_refl _)),xR (p:=6) (aY (by omega)) rfl (gu (by simp) (aY (by omega)) (Nat.le_refl _)) (gu (by simp) (aY (by omega)) (Nat.le_refl _)) (gu (by simp) (aY (by omega)) (Nat.le_refl _)),eU (i:=7) (by omega) (by simp) rfl (iq (by omega) (by omega) (by omega)),eU (i:=8) (by omega) (by simp) rfl (ay (dJ _)),.inl rfl,trivial⟩ (by (repeat' (first|exact trivial|refine ⟨bD rfl rfl,?_⟩|refine ⟨aV (m:=9) rfl (fun i hi=>aY hi) (by simp) (by rfl) rfl,?_⟩)))⟩
 clear hexF
 have hiy:iy<18:=by rcases hY with ⟨_,rfl,_⟩|⟨_,rfl,_⟩ <;> omega
 have hcp:gy c9=true:=by rcases hY with ⟨_,_,_,rfl⟩|⟨_,_,_,rfl⟩ <;> first|exact aK _|rfl
 have hk2:w2 % S.d.length<S.d.length:=Nat.mod_lt _ (by omega)
 have hd0:S.d.length ≠ 0:=by omega
 repeat' (first|refine aS ?_|refine kY (id:=11) ?_)
 refine ⟨?_⟩
 refine aj (?_)
 have hA:∀ σ':Heap,dh (.ro (ints S.d)::σ') 0 0 (S.d.length*1)=some (ints S.d):=fun σ'=>by
  have:=AU (σ:=.ro (ints S.d)::σ') (x:=0) (l:=S.d) (.inl rfl) (a:=0) (n:=S.d.length) (by omega)
  rw [List.drop_zero,List.take_of_length_le (Nat.le_refl _)] at this;rw [Nat.mul_one];exact this
 refine st dK rfl rfl ?_
 refine st (aB rfl) rfl rfl ?_
 refine st (ak rfl rfl) rfl rfl ?_
 refine st (bW (by rfl) rfl rfl (hA _) (by omega) (by omega) (by omega)) rfl rfl ?_
 refine st (aB rfl) rfl rfl ?_
 refine stN (aJ (size:=1) rfl rfl (by rw [aF];rfl) (by rw [aF];exact dU) (by rw [aF];rfl)) rfl ?_
 refine ah (?_)
 clear hA
 have hdk:=hok.d _ hk2
 have hc3:cZ [.ro (ints S.d),.ro (pc S.f),.ro (ints S.s),.rw (shL 0 1 2 S),.rw [.int .u8 (w0:Int),.int .u8 (w1:Int),.int .u8 (w2:Int)],.rw [sl 0 S.d.length,sl 8 (exL S.f (w0 % S.f.length)).length,sl 2 S.s.length],.rw [sl 0 S.d.length,sl 1 S.f.length,sl iy zl.length],.rw [dL 11 1 S.d.length,sl 1 S.f.length,sl 2 S.s.length],.rw (pc (exL S.f (w0 % S.f.length))),.rw c9,.dead,.gr (ints S.d) 2] 11 ((((w2 % S.d.length:Nat)):Int).toNat*1)=some (.int .i64 (gi S.d (w2 % S.d.length))):=by rw [Int.toNat_natCast,Nat.mul_one];exact gV hk2
 have hput:putCells [.ro (ints S.d),.ro (pc S.f),.ro (ints S.s),.rw (shL 0 1 2 S),.rw [.int .u8 (w0:Int),.int .u8 (w1:Int),.int .u8 (w2:Int)],.rw [sl 0 S.d.length,sl 8 (exL S.f (w0 % S.f.length)).length,sl 2 S.s.length],.rw [sl 0 S.d.length,sl 1 S.f.length,sl iy zl.length],.rw [dL 11 1 S.d.length,sl 1 S.f.length,sl 2 S.s.length],.rw (pc (exL S.f (w0 % S.f.length))),.rw c9,.dead,.gr (ints S.d) 2] 11 ((((w2 % S.d.length:Nat)):Int).toNat*1) [.int .i64 (max 0 (gi S.d (w2 % S.d.length) - (less:Int)))]=some [.ro (ints S.d),.ro (pc S.f),.ro (ints S.s),.rw (shL 0 1 2 S),.rw [.int .u8 (w0:Int),.int .u8 (w1:Int),.int .u8 (w2:Int)],.rw [sl 0 S.d.length,sl 8 (exL S.f (w0 % S.f.length)).length,sl 2 S.s.length],.rw [sl 0 S.d.length,sl 1 S.f.length,sl iy zl.length],.rw [dL 11 1 S.d.length,sl 1 S.f.length,sl 2 S.s.length],.rw (pc (exL S.f (w0 % S.f.length))),.rw c9,.dead,.gr (ints (dZ S (w2 % S.d.length) (less:Int))) 2]:=by
  rw [Int.toNat_natCast,Nat.mul_one]
  have hsp:=Bg (a:=max 0 (gi S.d (w2 % S.d.length) - (less:Int))) hk2
  rw [Nat.zero_add,Nat.mul_one] at hsp
  exact putGr rfl (by simp [ints];omega) (by simp [ints];omega) hsp
 refine bg ?_
 refine P9 [(2,.int .u16 (less:Int)),(4,.int .i64 lim),(5,.pointer (some ⟨3,0,none⟩)),(6,.pointer (some ⟨4,0,none⟩)),(11,.int .i64 (g:Int)),(12,.pointer (some ⟨5,0,none⟩)),(13,.pointer (some ⟨6,0,none⟩)),(14,.pointer (some ⟨7,0,none⟩))] [.ro (ints S.d),.ro (pc S.f),.ro (ints S.s),.rw (shL 0 1 2 S),.rw [.int .u8 (w0:Int),.int .u8 (w1:Int),.int .u8 (w2:Int)],.rw [sl 0 S.d.length,sl 8 (exL S.f (w0 % S.f.length)).length,sl 2 S.s.length],.rw [sl 0 S.d.length,sl 1 S.f.length,sl iy zl.length],.rw [dL 11 1 S.d.length,sl 1 S.f.length,sl 2 S.s.length],.rw (pc (exL S.f (w0 % S.f.length))),.rw c9,.dead,.gr (ints S.d) 2] (by kernel_rfl) ⟨rfl,rfl,rfl,rfl,rfl,rfl,rfl,rfl,trivial⟩ ?_
 repeat' (first|(refine gU ?_;first|(refine aP ?_;refine st (au rfl) rfl rfl ?_)|(refine aI ?_;refine st (aA rfl) rfl rfl ?_)|(refine gFA ?_;refine st (aB rfl) rfl rfl ?_)|(refine aU ?_;first|refine st (ak rfl (by rfl)) rfl rfl ?_|refine st (aZ rfl (by rfl)) rfl rfl ?_)|(refine bG ?_;refine st (rG rfl rfl (by omega)) rfl rfl ?_)|(refine fK ?_;refine st (bK rfl) rfl rfl ?_)|(refine gIA ?_;refine st (bV rfl rfl (by omega) (by omega)) rfl rfl ?_)|(refine xU ?_;refine st (mX rfl (by omega) (by omega)) rfl rfl ?_)|(refine nI ?_;refine st (kM (by rfl) (by rfl) (by rfl) (by rfl) rfl (by rfl)) rfl rfl ?_)|(refine cO ?_;refine stN (aJ rfl rfl rfl rfl (by exact hput)) rfl ?_))|(refine fU ?_;first|refine frA (sQ rfl rfl (by omega) (by omega)) rfl ?_|(refine gZ ?_;refine frA (au rfl) rfl ?_)|(refine fFA ?_;refine frA (aB rfl) rfl ?_)|(refine iH ?_;refine frA (ak rfl (by first|rfl|exact hc3)) rfl ?_)|(refine fSub ?_;refine frA (kC rfl rfl (by omega) (by omega)) rfl ?_)|(refine Ol ?_;refine frA (zT rfl rfl) rfl ?_)|(refine fConv ?_;refine frA (mX rfl (by omega) (by omega)) rfl ?_))|(refine fD ⟨by kernel_rfl,?_⟩)|refine aS ?_|refine aj ?_|refine dH (by kernel_rfl) rfl ?_|refine ah ?_|refine bg ?_)
 have hW:=FM (σ:=[.ro (ints S.d),.ro (pc S.f),.ro (ints S.s),.rw (shL 0 1 2 S),.rw [.int .u8 (w0:Int),.int .u8 (w1:Int),.int .u8 (w2:Int)],.rw [sl 0 S.d.length,sl 8 (exL S.f (w0 % S.f.length)).length,sl 2 S.s.length],.rw [sl 0 S.d.length,sl 1 S.f.length,sl iy zl.length],.rw [dL 11 1 S.d.length,sl 1 S.f.length,sl 2 S.s.length],.rw (pc (exL S.f (w0 % S.f.length))),.rw c9,.dead,.gr (ints (dZ S (w2 % S.d.length) (less:Int))) 2,.rw [sl 0 S.d.length,sl 8 (exL S.f (w0 % S.f.length)).length,sl 2 S.s.length,sl 0 S.d.length,sl 1 S.f.length,sl iy zl.length,dL 11 1 S.d.length,sl 1 S.f.length,sl 2 S.s.length]]) (S:=S) (h:=(g:Int)) (x:=0) (y:=1) (z:=2) ⟨.inl rfl,.inl rfl,.inl rfl⟩ gW hS rfl
 have hM:=F7 (σ:=[.ro (ints S.d),.ro (pc S.f),.ro (ints S.s),.rw (shL 0 1 2 S),.rw [.int .u8 (w0:Int),.int .u8 (w1:Int),.int .u8 (w2:Int)],.rw [sl 0 S.d.length,sl 8 (exL S.f (w0 % S.f.length)).length,sl 2 S.s.length],.rw [sl 0 S.d.length,sl 1 S.f.length,sl iy zl.length],.rw [dL 11 1 S.d.length,sl 1 S.f.length,sl 2 S.s.length],.rw (pc (exL S.f (w0 % S.f.length))),.rw c9,.dead,.gr (ints (dZ S (w2 % S.d.length) (less:Int))) 2,.rw [sl 0 S.d.length,sl 8 (exL S.f (w0 % S.f.length)).length,sl 2 S.s.length,sl 0 S.d.length,sl 1 S.f.length,sl iy zl.length,dL 11 1 S.d.length,sl 1 S.f.length,sl 2 S.s.length],.rw (ints (jl S (g:Int)))]) (S:=S) (x:=0) (y:=1) (z:=2) ⟨.inl rfl,.inl rfl,.inl rfl⟩ gW hS rfl
 have hG:=BA (σ:=[.ro (ints S.d),.ro (pc S.f),.ro (ints S.s),.rw (shL 0 1 2 S),.rw [.int .u8 (w0:Int),.int .u8 (w1:Int),.int .u8 (w2:Int)],.rw [sl 0 S.d.length,sl 8 (exL S.f (w0 % S.f.length)).length,sl 2 S.s.length],.rw [sl 0 S.d.length,sl 1 S.f.length,sl iy zl.length],.rw [dL 11 1 S.d.length,sl 1 S.f.length,sl 2 S.s.length],.rw (pc (exL S.f (w0 % S.f.length))),.rw c9,.dead,.gr (ints (dZ S (w2 % S.d.length) (less:Int))) 2,.rw [sl 0 S.d.length,sl 8 (exL S.f (w0 % S.f.length)).length,sl 2 S.s.length,sl 0 S.d.length,sl 1 S.f.length,sl iy zl.length,dL 11 1 S.d.length,sl 1 S.f.length,sl 2 S.s.length],.rw (ints (jl S (g:Int))),.rw (ints (mnO S).1),.rw [.int .i64 (mnA S),.int .i64 (mnB S)]]) (S:=S) (h:=(g:Int)) (lim:=lim) (x:=0) (y:=1) (z:=2) ⟨.inl rfl,.inl rfl,.inl rfl⟩ gW hS rfl
 have hR:=BD (σ:=[.ro (ints S.d),.ro (pc S.f),.ro (ints S.s),.rw (shL 0 1 2 S),.rw [.int .u8 (w0:Int),.int .u8 (w1:Int),.int .u8 (w2:Int)],.rw [sl 0 S.d.length,sl 8 (exL S.f (w0 % S.f.length)).length,sl 2 S.s.length],.rw [sl 0 S.d.length,sl 1 S.f.length,sl iy zl.length],.rw [dL 11 1 S.d.length,sl 1 S.f.length,sl 2 S.s.length],.rw (pc (exL S.f (w0 % S.f.length))),.rw c9,.dead,.gr (ints (dZ S (w2 % S.d.length) (less:Int))) 2,.rw [sl 0 S.d.length,sl 8 (exL S.f (w0 % S.f.length)).length,sl 2 S.s.length,sl 0 S.d.length,sl 1 S.f.length,sl iy zl.length,dL 11 1 S.d.length,sl 1 S.f.length,sl 2 S.s.length],.rw (ints (jl S (g:Int))),.rw (ints (mnO S).1),.rw [.int .i64 (mnA S),.int .i64 (mnB S)],.rw (ints (jr S (g:Int) lim))]) (S:=S) (x:=0) (y:=1) (z:=2) ⟨.inl rfl,.inl rfl,.inl rfl⟩ gW hS h0 rfl
 have hcl:=AP h0 (show (1:Int)≤(g:Int) by omega) (by omega)
 rw [hcl] at hG
 have hBL:=NQ (S:=S) (h:=(g:Int)) (lim:=lim)
 have hsh:∀ i,i<3→∃ (X:Shp) (u v w:Value),(∀ τ:Heap,dh (cu.ro (ints S.d)::.ro (pc S.f)::.ro (ints S.s)::.rw (shL 0 1 2 S)::.rw [.int .u8 (w0:Int),.int .u8 (w1:Int),.int .u8 (w2:Int)]::.rw [sl 0 S.d.length,sl 8 (exL S.f (w0 % S.f.length)).length,sl 2 S.s.length]::.rw [sl 0 S.d.length,sl 1 S.f.length,sl iy zl.length]::.rw [dL 11 1 S.d.length,sl 1 S.f.length,sl 2 S.s.length]::.rw (pc (exL S.f (w0 % S.f.length)))::.rw c9::.dead::.gr (ints (dZ S (w2 % S.d.length) (less:Int))) 2::.rw [sl 0 S.d.length,sl 8 (exL S.f (w0 % S.f.length)).length,sl 2 S.s.length,sl 0 S.d.length,sl 1 S.f.length,sl iy zl.length,dL 11 1 S.d.length,sl 1 S.f.length,sl 2 S.s.length]::.rw (ints (jl S (g:Int)))::.rw (ints (mnO S).1)::.rw [.int .i64 (mnA S),.int .i64 (mnB S)]::.rw (ints (jr S (g:Int) lim))::.rw [.int .i64 (rmA S),.int .i64 (rmB S)]::τ) 12 (0+i*3) 3=some [u,v,w])∧Less X S (g:Int) lim ∧
   Ev Try.prog 24 [.agg #[u,v,w],.int .i64 (g:Int)] [.ro (ints S.d),.ro (pc S.f),.ro (ints S.s),.rw (shL 0 1 2 S),.rw [.int .u8 (w0:Int),.int .u8 (w1:Int),.int .u8 (w2:Int)],.rw [sl 0 S.d.length,sl 8 (exL S.f (w0 % S.f.length)).length,sl 2 S.s.length],.rw [sl 0 S.d.length,sl 1 S.f.length,sl iy zl.length],.rw [dL 11 1 S.d.length,sl 1 S.f.length,sl 2 S.s.length],.rw (pc (exL S.f (w0 % S.f.length))),.rw c9,.dead,.gr (ints (dZ S (w2 % S.d.length) (less:Int))) 2,.rw [sl 0 S.d.length,sl 8 (exL S.f (w0 % S.f.length)).length,sl 2 S.s.length,sl 0 S.d.length,sl 1 S.f.length,sl iy zl.length,dL 11 1 S.d.length,sl 1 S.f.length,sl 2 S.s.length],.rw (ints (jl S (g:Int))),.rw (ints (mnO S).1),.rw [.int .i64 (mnA S),.int .i64 (mnB S)],.rw (ints (jr S (g:Int) lim)),.rw [.int .i64 (rmA S),.int .i64 (rmB S)]] (.tuple #[.int .i64 (wU X (g:Int)),sl 18 (jl X (g:Int)).length,.int .i64 (nV X (g:Int))]) [.ro (ints S.d),.ro (pc S.f),.ro (ints S.s),.rw (shL 0 1 2 S),.rw [.int .u8 (w0:Int),.int .u8 (w1:Int),.int .u8 (w2:Int)],.rw [sl 0 S.d.length,sl 8 (exL S.f (w0 % S.f.length)).length,sl 2 S.s.length],.rw [sl 0 S.d.length,sl 1 S.f.length,sl iy zl.length],.rw [dL 11 1 S.d.length,sl 1 S.f.length,sl 2 S.s.length],.rw (pc (exL S.f (w0 % S.f.length))),.rw c9,.dead,.gr (ints (dZ S (w2 % S.d.length) (less:Int))) 2,.rw [sl 0 S.d.length,sl 8 (exL S.f (w0 % S.f.length)).length,sl 2 S.s.length,sl 0 S.d.length,sl 1 S.f.length,sl iy zl.length,dL 11 1 S.d.length,sl 1 S.f.length,sl 2 S.s.length],.rw (ints (jl S (g:Int))),.rw (ints (mnO S).1),.rw [.int .i64 (mnA S),.int .i64 (mnB S)],.rw (ints (jr S (g:Int) lim)),.rw [.int .i64 (rmA S),.int .i64 (rmB S)],.rw (ints (jl X (g:Int)))] ∧
   Ev Try.prog 35 [.agg #[u,v,w]] [.ro (ints S.d),.ro (pc S.f),.ro (ints S.s),.rw (shL 0 1 2 S),.rw [.int .u8 (w0:Int),.int .u8 (w1:Int),.int .u8 (w2:Int)],.rw [sl 0 S.d.length,sl 8 (exL S.f (w0 % S.f.length)).length,sl 2 S.s.length],.rw [sl 0 S.d.length,sl 1 S.f.length,sl iy zl.length],.rw [dL 11 1 S.d.length,sl 1 S.f.length,sl 2 S.s.length],.rw (pc (exL S.f (w0 % S.f.length))),.rw c9,.dead,.gr (ints (dZ S (w2 % S.d.length) (less:Int))) 2,.rw [sl 0 S.d.length,sl 8 (exL S.f (w0 % S.f.length)).length,sl 2 S.s.length,sl 0 S.d.length,sl 1 S.f.length,sl iy zl.length,dL 11 1 S.d.length,sl 1 S.f.length,sl 2 S.s.length],.rw (ints (jl S (g:Int))),.rw (ints (mnO S).1),.rw [.int .i64 (mnA S),.int .i64 (mnB S)],.rw (ints (jr S (g:Int) lim)),.rw [.int .i64 (rmA S),.int .i64 (rmB S)],.rw (ints (jl X (g:Int)))] (.tuple #[rtV (mnA X) (mnB X),.slice (some ⟨19,(mnO X).2,none⟩) (mnR X).length (mnR X).length,.int .i64 (mnE X)]) [.ro (ints S.d),.ro (pc S.f),.ro (ints S.s),.rw (shL 0 1 2 S),.rw [.int .u8 (w0:Int),.int .u8 (w1:Int),.int .u8 (w2:Int)],.rw [sl 0 S.d.length,sl 8 (exL S.f (w0 % S.f.length)).length,sl 2 S.s.length],.rw [sl 0 S.d.length,sl 1 S.f.length,sl iy zl.length],.rw [dL 11 1 S.d.length,sl 1 S.f.length,sl 2 S.s.length],.rw (pc (exL S.f (w0 % S.f.length))),.rw c9,.dead,.gr (ints (dZ S (w2 % S.d.length) (less:Int))) 2,.rw [sl 0 S.d.length,sl 8 (exL S.f (w0 % S.f.length)).length,sl 2 S.s.length,sl 0 S.d.length,sl 1 S.f.length,sl iy zl.length,dL 11 1 S.d.length,sl 1 S.f.length,sl 2 S.s.length],.rw (ints (jl S (g:Int))),.rw (ints (mnO S).1),.rw [.int .i64 (mnA S),.int .i64 (mnB S)],.rw (ints (jr S (g:Int) lim)),.rw [.int .i64 (rmA S),.int .i64 (rmB S)],.rw (ints (jl X (g:Int))),.rw (ints (mnO X).1)] ∧
   Ev Try.prog 31 [.agg #[u,v,w],.int .i64 (g:Int),.int .i64 lim] [.ro (ints S.d),.ro (pc S.f),.ro (ints S.s),.rw (shL 0 1 2 S),.rw [.int .u8 (w0:Int),.int .u8 (w1:Int),.int .u8 (w2:Int)],.rw [sl 0 S.d.length,sl 8 (exL S.f (w0 % S.f.length)).length,sl 2 S.s.length],.rw [sl 0 S.d.length,sl 1 S.f.length,sl iy zl.length],.rw [dL 11 1 S.d.length,sl 1 S.f.length,sl 2 S.s.length],.rw (pc (exL S.f (w0 % S.f.length))),.rw c9,.dead,.gr (ints (dZ S (w2 % S.d.length) (less:Int))) 2,.rw [sl 0 S.d.length,sl 8 (exL S.f (w0 % S.f.length)).length,sl 2 S.s.length,sl 0 S.d.length,sl 1 S.f.length,sl iy zl.length,dL 11 1 S.d.length,sl 1 S.f.length,sl 2 S.s.length],.rw (ints (jl S (g:Int))),.rw (ints (mnO S).1),.rw [.int .i64 (mnA S),.int .i64 (mnB S)],.rw (ints (jr S (g:Int) lim)),.rw [.int .i64 (rmA S),.int .i64 (rmB S)],.rw (ints (jl X (g:Int))),.rw (ints (mnO X).1),.rw [.int .i64 (mnA X),.int .i64 (mnB X)]] (.tuple #[sl 21 (jr X (g:Int) lim).length,.int .i64 0]) [.ro (ints S.d),.ro (pc S.f),.ro (ints S.s),.rw (shL 0 1 2 S),.rw [.int .u8 (w0:Int),.int .u8 (w1:Int),.int .u8 (w2:Int)],.rw [sl 0 S.d.length,sl 8 (exL S.f (w0 % S.f.length)).length,sl 2 S.s.length],.rw [sl 0 S.d.length,sl 1 S.f.length,sl iy zl.length],.rw [dL 11 1 S.d.length,sl 1 S.f.length,sl 2 S.s.length],.rw (pc (exL S.f (w0 % S.f.length))),.rw c9,.dead,.gr (ints (dZ S (w2 % S.d.length) (less:Int))) 2,.rw [sl 0 S.d.length,sl 8 (exL S.f (w0 % S.f.length)).length,sl 2 S.s.length,sl 0 S.d.length,sl 1 S.f.length,sl iy zl.length,dL 11 1 S.d.length,sl 1 S.f.length,sl 2 S.s.length],.rw (ints (jl S (g:Int))),.rw (ints (mnO S).1),.rw [.int .i64 (mnA S),.int .i64 (mnB S)],.rw (ints (jr S (g:Int) lim)),.rw [.int .i64 (rmA S),.int .i64 (rmB S)],.rw (ints (jl X (g:Int))),.rw (ints (mnO X).1),.rw [.int .i64 (mnA X),.int .i64 (mnB X)],.rw (ints (jr X (g:Int) lim))] ∧
   Ev Try.prog 36 [.agg #[u,v,w]] [.ro (ints S.d),.ro (pc S.f),.ro (ints S.s),.rw (shL 0 1 2 S),.rw [.int .u8 (w0:Int),.int .u8 (w1:Int),.int .u8 (w2:Int)],.rw [sl 0 S.d.length,sl 8 (exL S.f (w0 % S.f.length)).length,sl 2 S.s.length],.rw [sl 0 S.d.length,sl 1 S.f.length,sl iy zl.length],.rw [dL 11 1 S.d.length,sl 1 S.f.length,sl 2 S.s.length],.rw (pc (exL S.f (w0 % S.f.length))),.rw c9,.dead,.gr (ints (dZ S (w2 % S.d.length) (less:Int))) 2,.rw [sl 0 S.d.length,sl 8 (exL S.f (w0 % S.f.length)).length,sl 2 S.s.length,sl 0 S.d.length,sl 1 S.f.length,sl iy zl.length,dL 11 1 S.d.length,sl 1 S.f.length,sl 2 S.s.length],.rw (ints (jl S (g:Int))),.rw (ints (mnO S).1),.rw [.int .i64 (mnA S),.int .i64 (mnB S)],.rw (ints (jr S (g:Int) lim)),.rw [.int .i64 (rmA S),.int .i64 (rmB S)],.rw (ints (jl X (g:Int))),.rw (ints (mnO X).1),.rw [.int .i64 (mnA X),.int .i64 (mnB X)],.rw (ints (jr X (g:Int) lim))] (.tuple #[rtV (rmA X) (rmB X),.bool (decide (mnE X=0))]) [.ro (ints S.d),.ro (pc S.f),.ro (ints S.s),.rw (shL 0 1 2 S),.rw [.int .u8 (w0:Int),.int .u8 (w1:Int),.int .u8 (w2:Int)],.rw [sl 0 S.d.length,sl 8 (exL S.f (w0 % S.f.length)).length,sl 2 S.s.length],.rw [sl 0 S.d.length,sl 1 S.f.length,sl iy zl.length],.rw [dL 11 1 S.d.length,sl 1 S.f.length,sl 2 S.s.length],.rw (pc (exL S.f (w0 % S.f.length))),.rw c9,.dead,.gr (ints (dZ S (w2 % S.d.length) (less:Int))) 2,.rw [sl 0 S.d.length,sl 8 (exL S.f (w0 % S.f.length)).length,sl 2 S.s.length,sl 0 S.d.length,sl 1 S.f.length,sl iy zl.length,dL 11 1 S.d.length,sl 1 S.f.length,sl 2 S.s.length],.rw (ints (jl S (g:Int))),.rw (ints (mnO S).1),.rw [.int .i64 (mnA S),.int .i64 (mnB S)],.rw (ints (jr S (g:Int) lim)),.rw [.int .i64 (rmA S),.int .i64 (rmB S)],.rw (ints (jl X (g:Int))),.rw (ints (mnO X).1),.rw [.int .i64 (mnA X),.int .i64 (mnB X)],.rw (ints (jr X (g:Int) lim))]:=fun i hi=>by
  have key:∀ (X:Shp) (a b c:Nat) (u v w:Value),X.ok→Hom X S id→ShS a b c X (.agg #[u,v,w])→(∀ τ:Heap,SAt (cu.ro (ints S.d)::.ro (pc S.f)::.ro (ints S.s)::.rw (shL 0 1 2 S)::.rw [.int .u8 (w0:Int),.int .u8 (w1:Int),.int .u8 (w2:Int)]::.rw [sl 0 S.d.length,sl 8 (exL S.f (w0 % S.f.length)).length,sl 2 S.s.length]::.rw [sl 0 S.d.length,sl 1 S.f.length,sl iy zl.length]::.rw [dL 11 1 S.d.length,sl 1 S.f.length,sl 2 S.s.length]::.rw (pc (exL S.f (w0 % S.f.length)))::.rw c9::.dead::.gr (ints (dZ S (w2 % S.d.length) (less:Int))) 2::.rw [sl 0 S.d.length,sl 8 (exL S.f (w0 % S.f.length)).length,sl 2 S.s.length,sl 0 S.d.length,sl 1 S.f.length,sl iy zl.length,dL 11 1 S.d.length,sl 1 S.f.length,sl 2 S.s.length]::.rw (ints (jl S (g:Int)))::.rw (ints (mnO S).1)::.rw [.int .i64 (mnA S),.int .i64 (mnB S)]::.rw (ints (jr S (g:Int) lim))::.rw [.int .i64 (rmA S),.int .i64 (rmB S)]::τ) a b c X)→Less X S (g:Int) lim ∧
   Ev Try.prog 24 [.agg #[u,v,w],.int .i64 (g:Int)] [.ro (ints S.d),.ro (pc S.f),.ro (ints S.s),.rw (shL 0 1 2 S),.rw [.int .u8 (w0:Int),.int .u8 (w1:Int),.int .u8 (w2:Int)],.rw [sl 0 S.d.length,sl 8 (exL S.f (w0 % S.f.length)).length,sl 2 S.s.length],.rw [sl 0 S.d.length,sl 1 S.f.length,sl iy zl.length],.rw [dL 11 1 S.d.length,sl 1 S.f.length,sl 2 S.s.length],.rw (pc (exL S.f (w0 % S.f.length))),.rw c9,.dead,.gr (ints (dZ S (w2 % S.d.length) (less:Int))) 2,.rw [sl 0 S.d.length,sl 8 (exL S.f (w0 % S.f.length)).length,sl 2 S.s.length,sl 0 S.d.length,sl 1 S.f.length,sl iy zl.length,dL 11 1 S.d.length,sl 1 S.f.length,sl 2 S.s.length],.rw (ints (jl S (g:Int))),.rw (ints (mnO S).1),.rw [.int .i64 (mnA S),.int .i64 (mnB S)],.rw (ints (jr S (g:Int) lim)),.rw [.int .i64 (rmA S),.int .i64 (rmB S)]] (.tuple #[.int .i64 (wU X (g:Int)),sl 18 (jl X (g:Int)).length,.int .i64 (nV X (g:Int))]) [.ro (ints S.d),.ro (pc S.f),.ro (ints S.s),.rw (shL 0 1 2 S),.rw [.int .u8 (w0:Int),.int .u8 (w1:Int),.int .u8 (w2:Int)],.rw [sl 0 S.d.length,sl 8 (exL S.f (w0 % S.f.length)).length,sl 2 S.s.length],.rw [sl 0 S.d.length,sl 1 S.f.length,sl iy zl.length],.rw [dL 11 1 S.d.length,sl 1 S.f.length,sl 2 S.s.length],.rw (pc (exL S.f (w0 % S.f.length))),.rw c9,.dead,.gr (ints (dZ S (w2 % S.d.length) (less:Int))) 2,.rw [sl 0 S.d.length,sl 8 (exL S.f (w0 % S.f.length)).length,sl 2 S.s.length,sl 0 S.d.length,sl 1 S.f.length,sl iy zl.length,dL 11 1 S.d.length,sl 1 S.f.length,sl 2 S.s.length],.rw (ints (jl S (g:Int))),.rw (ints (mnO S).1),.rw [.int .i64 (mnA S),.int .i64 (mnB S)],.rw (ints (jr S (g:Int) lim)),.rw [.int .i64 (rmA S),.int .i64 (rmB S)],.rw (ints (jl X (g:Int)))] ∧
   Ev Try.prog 35 [.agg #[u,v,w]] [.ro (ints S.d),.ro (pc S.f),.ro (ints S.s),.rw (shL 0 1 2 S),.rw [.int .u8 (w0:Int),.int .u8 (w1:Int),.int .u8 (w2:Int)],.rw [sl 0 S.d.length,sl 8 (exL S.f (w0 % S.f.length)).length,sl 2 S.s.length],.rw [sl 0 S.d.length,sl 1 S.f.length,sl iy zl.length],.rw [dL 11 1 S.d.length,sl 1 S.f.length,sl 2 S.s.length],.rw (pc (exL S.f (w0 % S.f.length))),.rw c9,.dead,.gr (ints (dZ S (w2 % S.d.length) (less:Int))) 2,.rw [sl 0 S.d.length,sl 8 (exL S.f (w0 % S.f.length)).length,sl 2 S.s.length,sl 0 S.d.length,sl 1 S.f.length,sl iy zl.length,dL 11 1 S.d.length,sl 1 S.f.length,sl 2 S.s.length],.rw (ints (jl S (g:Int))),.rw (ints (mnO S).1),.rw [.int .i64 (mnA S),.int .i64 (mnB S)],.rw (ints (jr S (g:Int) lim)),.rw [.int .i64 (rmA S),.int .i64 (rmB S)],.rw (ints (jl X (g:Int)))] (.tuple #[rtV (mnA X) (mnB X),.slice (some ⟨19,(mnO X).2,none⟩) (mnR X).length (mnR X).length,.int .i64 (mnE X)]) [.ro (ints S.d),.ro (pc S.f),.ro (ints S.s),.rw (shL 0 1 2 S),.rw [.int .u8 (w0:Int),.int .u8 (w1:Int),.int .u8 (w2:Int)],.rw [sl 0 S.d.length,sl 8 (exL S.f (w0 % S.f.length)).length,sl 2 S.s.length],.rw [sl 0 S.d.length,sl 1 S.f.length,sl iy zl.length],.rw [dL 11 1 S.d.length,sl 1 S.f.length,sl 2 S.s.length],.rw (pc (exL S.f (w0 % S.f.length))),.rw c9,.dead,.gr (ints (dZ S (w2 % S.d.length) (less:Int))) 2,.rw [sl 0 S.d.length,sl 8 (exL S.f (w0 % S.f.length)).length,sl 2 S.s.length,sl 0 S.d.length,sl 1 S.f.length,sl iy zl.length,dL 11 1 S.d.length,sl 1 S.f.length,sl 2 S.s.length],.rw (ints (jl S (g:Int))),.rw (ints (mnO S).1),.rw [.int .i64 (mnA S),.int .i64 (mnB S)],.rw (ints (jr S (g:Int) lim)),.rw [.int .i64 (rmA S),.int .i64 (rmB S)],.rw (ints (jl X (g:Int))),.rw (ints (mnO X).1)] ∧
   Ev Try.prog 31 [.agg #[u,v,w],.int .i64 (g:Int),.int .i64 lim] [.ro (ints S.d),.ro (pc S.f),.ro (ints S.s),.rw (shL 0 1 2 S),.rw [.int .u8 (w0:Int),.int .u8 (w1:Int),.int .u8 (w2:Int)],.rw [sl 0 S.d.length,sl 8 (exL S.f (w0 % S.f.length)).length,sl 2 S.s.length],.rw [sl 0 S.d.length,sl 1 S.f.length,sl iy zl.length],.rw [dL 11 1 S.d.length,sl 1 S.f.length,sl 2 S.s.length],.rw (pc (exL S.f (w0 % S.f.length))),.rw c9,.dead,.gr (ints (dZ S (w2 % S.d.length) (less:Int))) 2,.rw [sl 0 S.d.length,sl 8 (exL S.f (w0 % S.f.length)).length,sl 2 S.s.length,sl 0 S.d.length,sl 1 S.f.length,sl iy zl.length,dL 11 1 S.d.length,sl 1 S.f.length,sl 2 S.s.length],.rw (ints (jl S (g:Int))),.rw (ints (mnO S).1),.rw [.int .i64 (mnA S),.int .i64 (mnB S)],.rw (ints (jr S (g:Int) lim)),.rw [.int .i64 (rmA S),.int .i64 (rmB S)],.rw (ints (jl X (g:Int))),.rw (ints (mnO X).1),.rw [.int .i64 (mnA X),.int .i64 (mnB X)]] (.tuple #[sl 21 (jr X (g:Int) lim).length,.int .i64 0]) [.ro (ints S.d),.ro (pc S.f),.ro (ints S.s),.rw (shL 0 1 2 S),.rw [.int .u8 (w0:Int),.int .u8 (w1:Int),.int .u8 (w2:Int)],.rw [sl 0 S.d.length,sl 8 (exL S.f (w0 % S.f.length)).length,sl 2 S.s.length],.rw [sl 0 S.d.length,sl 1 S.f.length,sl iy zl.length],.rw [dL 11 1 S.d.length,sl 1 S.f.length,sl 2 S.s.length],.rw (pc (exL S.f (w0 % S.f.length))),.rw c9,.dead,.gr (ints (dZ S (w2 % S.d.length) (less:Int))) 2,.rw [sl 0 S.d.length,sl 8 (exL S.f (w0 % S.f.length)).length,sl 2 S.s.length,sl 0 S.d.length,sl 1 S.f.length,sl iy zl.length,dL 11 1 S.d.length,sl 1 S.f.length,sl 2 S.s.length],.rw (ints (jl S (g:Int))),.rw (ints (mnO S).1),.rw [.int .i64 (mnA S),.int .i64 (mnB S)],.rw (ints (jr S (g:Int) lim)),.rw [.int .i64 (rmA S),.int .i64 (rmB S)],.rw (ints (jl X (g:Int))),.rw (ints (mnO X).1),.rw [.int .i64 (mnA X),.int .i64 (mnB X)],.rw (ints (jr X (g:Int) lim))] ∧
   Ev Try.prog 36 [.agg #[u,v,w]] [.ro (ints S.d),.ro (pc S.f),.ro (ints S.s),.rw (shL 0 1 2 S),.rw [.int .u8 (w0:Int),.int .u8 (w1:Int),.int .u8 (w2:Int)],.rw [sl 0 S.d.length,sl 8 (exL S.f (w0 % S.f.length)).length,sl 2 S.s.length],.rw [sl 0 S.d.length,sl 1 S.f.length,sl iy zl.length],.rw [dL 11 1 S.d.length,sl 1 S.f.length,sl 2 S.s.length],.rw (pc (exL S.f (w0 % S.f.length))),.rw c9,.dead,.gr (ints (dZ S (w2 % S.d.length) (less:Int))) 2,.rw [sl 0 S.d.length,sl 8 (exL S.f (w0 % S.f.length)).length,sl 2 S.s.length,sl 0 S.d.length,sl 1 S.f.length,sl iy zl.length,dL 11 1 S.d.length,sl 1 S.f.length,sl 2 S.s.length],.rw (ints (jl S (g:Int))),.rw (ints (mnO S).1),.rw [.int .i64 (mnA S),.int .i64 (mnB S)],.rw (ints (jr S (g:Int) lim)),.rw [.int .i64 (rmA S),.int .i64 (rmB S)],.rw (ints (jl X (g:Int))),.rw (ints (mnO X).1),.rw [.int .i64 (mnA X),.int .i64 (mnB X)],.rw (ints (jr X (g:Int) lim))] (.tuple #[rtV (rmA X) (rmB X),.bool (decide (mnE X=0))]) [.ro (ints S.d),.ro (pc S.f),.ro (ints S.s),.rw (shL 0 1 2 S),.rw [.int .u8 (w0:Int),.int .u8 (w1:Int),.int .u8 (w2:Int)],.rw [sl 0 S.d.length,sl 8 (exL S.f (w0 % S.f.length)).length,sl 2 S.s.length],.rw [sl 0 S.d.length,sl 1 S.f.length,sl iy zl.length],.rw [dL 11 1 S.d.length,sl 1 S.f.length,sl 2 S.s.length],.rw (pc (exL S.f (w0 % S.f.length))),.rw c9,.dead,.gr (ints (dZ S (w2 % S.d.length) (less:Int))) 2,.rw [sl 0 S.d.length,sl 8 (exL S.f (w0 % S.f.length)).length,sl 2 S.s.length,sl 0 S.d.length,sl 1 S.f.length,sl iy zl.length,dL 11 1 S.d.length,sl 1 S.f.length,sl 2 S.s.length],.rw (ints (jl S (g:Int))),.rw (ints (mnO S).1),.rw [.int .i64 (mnA S),.int .i64 (mnB S)],.rw (ints (jr S (g:Int) lim)),.rw [.int .i64 (rmA S),.int .i64 (rmB S)],.rw (ints (jl X (g:Int))),.rw (ints (mnO X).1),.rw [.int .i64 (mnA X),.int .i64 (mnB X)],.rw (ints (jr X (g:Int) lim))]:=fun X a b c u v w hX hh hv hs=>by
   have hgx:=BA (σ:=[.ro (ints S.d),.ro (pc S.f),.ro (ints S.s),.rw (shL 0 1 2 S),.rw [.int .u8 (w0:Int),.int .u8 (w1:Int),.int .u8 (w2:Int)],.rw [sl 0 S.d.length,sl 8 (exL S.f (w0 % S.f.length)).length,sl 2 S.s.length],.rw [sl 0 S.d.length,sl 1 S.f.length,sl iy zl.length],.rw [dL 11 1 S.d.length,sl 1 S.f.length,sl 2 S.s.length],.rw (pc (exL S.f (w0 % S.f.length))),.rw c9,.dead,.gr (ints (dZ S (w2 % S.d.length) (less:Int))) 2,.rw [sl 0 S.d.length,sl 8 (exL S.f (w0 % S.f.length)).length,sl 2 S.s.length,sl 0 S.d.length,sl 1 S.f.length,sl iy zl.length,dL 11 1 S.d.length,sl 1 S.f.length,sl 2 S.s.length],.rw (ints (jl S (g:Int))),.rw (ints (mnO S).1),.rw [.int .i64 (mnA S),.int .i64 (mnB S)],.rw (ints (jr S (g:Int) lim)),.rw [.int .i64 (rmA S),.int .i64 (rmB S)],.rw (ints (jl X (g:Int))),.rw (ints (mnO X).1),.rw [.int .i64 (mnA X),.int .i64 (mnB X)]]) (S:=X) (h:=(g:Int)) (lim:=lim) (hs _) hv hX.fit rfl
   rw [AP hX.zero (show (1:Int)≤(g:Int) by omega) (by omega)] at hgx
   exact ⟨hh.less hX.zero h0 (by omega) (by omega),FM (σ:=[.ro (ints S.d),.ro (pc S.f),.ro (ints S.s),.rw (shL 0 1 2 S),.rw [.int .u8 (w0:Int),.int .u8 (w1:Int),.int .u8 (w2:Int)],.rw [sl 0 S.d.length,sl 8 (exL S.f (w0 % S.f.length)).length,sl 2 S.s.length],.rw [sl 0 S.d.length,sl 1 S.f.length,sl iy zl.length],.rw [dL 11 1 S.d.length,sl 1 S.f.length,sl 2 S.s.length],.rw (pc (exL S.f (w0 % S.f.length))),.rw c9,.dead,.gr (ints (dZ S (w2 % S.d.length) (less:Int))) 2,.rw [sl 0 S.d.length,sl 8 (exL S.f (w0 % S.f.length)).length,sl 2 S.s.length,sl 0 S.d.length,sl 1 S.f.length,sl iy zl.length,dL 11 1 S.d.length,sl 1 S.f.length,sl 2 S.s.length],.rw (ints (jl S (g:Int))),.rw (ints (mnO S).1),.rw [.int .i64 (mnA S),.int .i64 (mnB S)],.rw (ints (jr S (g:Int) lim)),.rw [.int .i64 (rmA S),.int .i64 (rmB S)]]) (hs _) hv hX.fit rfl,F7 (σ:=[.ro (ints S.d),.ro (pc S.f),.ro (ints S.s),.rw (shL 0 1 2 S),.rw [.int .u8 (w0:Int),.int .u8 (w1:Int),.int .u8 (w2:Int)],.rw [sl 0 S.d.length,sl 8 (exL S.f (w0 % S.f.length)).length,sl 2 S.s.length],.rw [sl 0 S.d.length,sl 1 S.f.length,sl iy zl.length],.rw [dL 11 1 S.d.length,sl 1 S.f.length,sl 2 S.s.length],.rw (pc (exL S.f (w0 % S.f.length))),.rw c9,.dead,.gr (ints (dZ S (w2 % S.d.length) (less:Int))) 2,.rw [sl 0 S.d.length,sl 8 (exL S.f (w0 % S.f.length)).length,sl 2 S.s.length,sl 0 S.d.length,sl 1 S.f.length,sl iy zl.length,dL 11 1 S.d.length,sl 1 S.f.length,sl 2 S.s.length],.rw (ints (jl S (g:Int))),.rw (ints (mnO S).1),.rw [.int .i64 (mnA S),.int .i64 (mnB S)],.rw (ints (jr S (g:Int) lim)),.rw [.int .i64 (rmA S),.int .i64 (rmB S)],.rw (ints (jl X (g:Int)))]) (hs _) hv hX.fit rfl,hgx,BD (σ:=[.ro (ints S.d),.ro (pc S.f),.ro (ints S.s),.rw (shL 0 1 2 S),.rw [.int .u8 (w0:Int),.int .u8 (w1:Int),.int .u8 (w2:Int)],.rw [sl 0 S.d.length,sl 8 (exL S.f (w0 % S.f.length)).length,sl 2 S.s.length],.rw [sl 0 S.d.length,sl 1 S.f.length,sl iy zl.length],.rw [dL 11 1 S.d.length,sl 1 S.f.length,sl 2 S.s.length],.rw (pc (exL S.f (w0 % S.f.length))),.rw c9,.dead,.gr (ints (dZ S (w2 % S.d.length) (less:Int))) 2,.rw [sl 0 S.d.length,sl 8 (exL S.f (w0 % S.f.length)).length,sl 2 S.s.length,sl 0 S.d.length,sl 1 S.f.length,sl iy zl.length,dL 11 1 S.d.length,sl 1 S.f.length,sl 2 S.s.length],.rw (ints (jl S (g:Int))),.rw (ints (mnO S).1),.rw [.int .i64 (mnA S),.int .i64 (mnB S)],.rw (ints (jr S (g:Int) lim)),.rw [.int .i64 (rmA S),.int .i64 (rmB S)],.rw (ints (jl X (g:Int))),.rw (ints (mnO X).1),.rw [.int .i64 (mnA X),.int .i64 (mnB X)],.rw (ints (jr X (g:Int) lim))]) (hs _) hv hX.fit hX.zero rfl⟩
  rcases (show i=0∨i=1∨i=2 by omega) with rfl|rfl|rfl
  ·exact ⟨shX S (w0 % S.f.length),_,_,_,fun τ=>rfl,key _ 0 8 2 _ _ _ (shX_ok hok (by by_cases hF:S.f.length=0;exact .inr hF;exact .inl (Nat.mod_lt _ (by omega)))) shX_hom (DZ (gu (by omega) rfl (Nat.le_refl _)) (gu (by omega) rfl (Nat.le_refl _)) (gu (by omega) rfl (Nat.le_refl _))) fun τ=>⟨.inl rfl,.inr (.inl rfl),.inl rfl⟩⟩
  ·obtain ⟨hs1,rfl,rfl,rfl⟩|⟨_,rfl,rfl,rfl⟩:=hY
   ·exact ⟨shY S (w1 % S.s.length),_,_,_,fun τ=>rfl,key _ 0 1 9 _ _ _ (shY_ok hok hk0 (by omega)) shY_hom (DZ (gu (by omega) rfl (Nat.le_refl _)) (gu (by omega) rfl (Nat.le_refl _)) (gu (by omega) rfl (Nat.le_refl _))) fun τ=>⟨.inl rfl,.inl rfl,.inr (.inl rfl)⟩⟩
   ·exact ⟨S,_,_,_,fun τ=>rfl,key _ 0 1 2 _ _ _ hok ⟨fun h=>h,fun _=>Int.le_refl _,fun h=>h,fun h=>h⟩ (DZ (gu (by omega) rfl (Nat.le_refl _)) (gu (by omega) rfl (Nat.le_refl _)) (gu (by omega) rfl (Nat.le_refl _))) fun τ=>⟨.inl rfl,.inl rfl,.inl rfl⟩⟩
  ·exact ⟨shZ S (w2 % S.d.length) (less:Int),_,_,_,fun τ=>rfl,key _ 11 1 2 _ _ _ (shZ_ok hok hk2 (by omega)) (shZ_hom hok hk2 (by omega)) (DZ (by rw [show (shZ S (w2 % S.d.length) (less:Int)).d.length=S.d.length from Lr];exact dw (by omega) rfl) (gu (by omega) rfl (Nat.le_refl _)) (gu (by omega) rfl (Nat.le_refl _))) fun τ=>⟨.inr (.inr ⟨2,rfl⟩),.inl rfl,.inl rfl⟩⟩
 have hwe:=NY h0 (show (1:Int)≤(g:Int) by omega) (by omega)
 have hme:=Qx h0
 have hrA:mnE S=0→rmA S=mnA S∧rmB S=mnB S:=fun h=>⟨by unfold rmA;rw [if_pos h],by unfold rmB;rw [if_pos h]⟩
 have hrb:=Sm (S:=S)
 have hsh2:∀ i,i<3→∃ (u v w:Value) (wl:List Int) (wv2 we2:Int) (mo:List Int×Nat) (mr:List Int) (mA2 mB2 mE2:Int) (bl:List Int) (rA2 rB2:Int),(∀ τ:Heap,dh (cu.ro (ints S.d)::.ro (pc S.f)::.ro (ints S.s)::.rw (shL 0 1 2 S)::.rw [.int .u8 (w0:Int),.int .u8 (w1:Int),.int .u8 (w2:Int)]::.rw [sl 0 S.d.length,sl 8 (exL S.f (w0 % S.f.length)).length,sl 2 S.s.length]::.rw [sl 0 S.d.length,sl 1 S.f.length,sl iy zl.length]::.rw [dL 11 1 S.d.length,sl 1 S.f.length,sl 2 S.s.length]::.rw (pc (exL S.f (w0 % S.f.length)))::.rw c9::.dead::.gr (ints (dZ S (w2 % S.d.length) (less:Int))) 2::.rw [sl 0 S.d.length,sl 8 (exL S.f (w0 % S.f.length)).length,sl 2 S.s.length,sl 0 S.d.length,sl 1 S.f.length,sl iy zl.length,dL 11 1 S.d.length,sl 1 S.f.length,sl 2 S.s.length]::.rw (ints (jl S (g:Int)))::.rw (ints (mnO S).1)::.rw [.int .i64 (mnA S),.int .i64 (mnB S)]::.rw (ints (jr S (g:Int) lim))::.rw [.int .i64 (rmA S),.int .i64 (rmB S)]::τ) 12 (0+i*3) 3=some [u,v,w]) ∧
   (we2=0→nV S (g:Int)=0∧wv2≤wU S (g:Int))∧(we2=0∨we2=5)∧(mE2=0→mnE S=0∧¬ rmA S*rB2<rA2*rmB S)∧(mE2=0∨mE2=5)∧(∀ n,n ∈ bl→n ∈ jr S (g:Int) lim)∧bl.length≤200000∧(0≤rA2∧rA2≤10001∧0≤rB2∧rB2≤10) ∧
   Ev Try.prog 24 [.agg #[u,v,w],.int .i64 (g:Int)] [.ro (ints S.d),.ro (pc S.f),.ro (ints S.s),.rw (shL 0 1 2 S),.rw [.int .u8 (w0:Int),.int .u8 (w1:Int),.int .u8 (w2:Int)],.rw [sl 0 S.d.length,sl 8 (exL S.f (w0 % S.f.length)).length,sl 2 S.s.length],.rw [sl 0 S.d.length,sl 1 S.f.length,sl iy zl.length],.rw [dL 11 1 S.d.length,sl 1 S.f.length,sl 2 S.s.length],.rw (pc (exL S.f (w0 % S.f.length))),.rw c9,.dead,.gr (ints (dZ S (w2 % S.d.length) (less:Int))) 2,.rw [sl 0 S.d.length,sl 8 (exL S.f (w0 % S.f.length)).length,sl 2 S.s.length,sl 0 S.d.length,sl 1 S.f.length,sl iy zl.length,dL 11 1 S.d.length,sl 1 S.f.length,sl 2 S.s.length],.rw (ints (jl S (g:Int))),.rw (ints (mnO S).1),.rw [.int .i64 (mnA S),.int .i64 (mnB S)],.rw (ints (jr S (g:Int) lim)),.rw [.int .i64 (rmA S),.int .i64 (rmB S)]] (.tuple #[.int .i64 wv2,sl 18 wl.length,.int .i64 we2]) [.ro (ints S.d),.ro (pc S.f),.ro (ints S.s),.rw (shL 0 1 2 S),.rw [.int .u8 (w0:Int),.int .u8 (w1:Int),.int .u8 (w2:Int)],.rw [sl 0 S.d.length,sl 8 (exL S.f (w0 % S.f.length)).length,sl 2 S.s.length],.rw [sl 0 S.d.length,sl 1 S.f.length,sl iy zl.length],.rw [dL 11 1 S.d.length,sl 1 S.f.length,sl 2 S.s.length],.rw (pc (exL S.f (w0 % S.f.length))),.rw c9,.dead,.gr (ints (dZ S (w2 % S.d.length) (less:Int))) 2,.rw [sl 0 S.d.length,sl 8 (exL S.f (w0 % S.f.length)).length,sl 2 S.s.length,sl 0 S.d.length,sl 1 S.f.length,sl iy zl.length,dL 11 1 S.d.length,sl 1 S.f.length,sl 2 S.s.length],.rw (ints (jl S (g:Int))),.rw (ints (mnO S).1),.rw [.int .i64 (mnA S),.int .i64 (mnB S)],.rw (ints (jr S (g:Int) lim)),.rw [.int .i64 (rmA S),.int .i64 (rmB S)],.rw (ints wl)] ∧
   Ev Try.prog 35 [.agg #[u,v,w]] [.ro (ints S.d),.ro (pc S.f),.ro (ints S.s),.rw (shL 0 1 2 S),.rw [.int .u8 (w0:Int),.int .u8 (w1:Int),.int .u8 (w2:Int)],.rw [sl 0 S.d.length,sl 8 (exL S.f (w0 % S.f.length)).length,sl 2 S.s.length],.rw [sl 0 S.d.length,sl 1 S.f.length,sl iy zl.length],.rw [dL 11 1 S.d.length,sl 1 S.f.length,sl 2 S.s.length],.rw (pc (exL S.f (w0 % S.f.length))),.rw c9,.dead,.gr (ints (dZ S (w2 % S.d.length) (less:Int))) 2,.rw [sl 0 S.d.length,sl 8 (exL S.f (w0 % S.f.length)).length,sl 2 S.s.length,sl 0 S.d.length,sl 1 S.f.length,sl iy zl.length,dL 11 1 S.d.length,sl 1 S.f.length,sl 2 S.s.length],.rw (ints (jl S (g:Int))),.rw (ints (mnO S).1),.rw [.int .i64 (mnA S),.int .i64 (mnB S)],.rw (ints (jr S (g:Int) lim)),.rw [.int .i64 (rmA S),.int .i64 (rmB S)],.rw (ints wl)] (.tuple #[rtV mA2 mB2,.slice (some ⟨19,mo.2,none⟩) mr.length mr.length,.int .i64 mE2]) [.ro (ints S.d),.ro (pc S.f),.ro (ints S.s),.rw (shL 0 1 2 S),.rw [.int .u8 (w0:Int),.int .u8 (w1:Int),.int .u8 (w2:Int)],.rw [sl 0 S.d.length,sl 8 (exL S.f (w0 % S.f.length)).length,sl 2 S.s.length],.rw [sl 0 S.d.length,sl 1 S.f.length,sl iy zl.length],.rw [dL 11 1 S.d.length,sl 1 S.f.length,sl 2 S.s.length],.rw (pc (exL S.f (w0 % S.f.length))),.rw c9,.dead,.gr (ints (dZ S (w2 % S.d.length) (less:Int))) 2,.rw [sl 0 S.d.length,sl 8 (exL S.f (w0 % S.f.length)).length,sl 2 S.s.length,sl 0 S.d.length,sl 1 S.f.length,sl iy zl.length,dL 11 1 S.d.length,sl 1 S.f.length,sl 2 S.s.length],.rw (ints (jl S (g:Int))),.rw (ints (mnO S).1),.rw [.int .i64 (mnA S),.int .i64 (mnB S)],.rw (ints (jr S (g:Int) lim)),.rw [.int .i64 (rmA S),.int .i64 (rmB S)],.rw (ints wl),.rw (ints mo.1)] ∧
   Ev Try.prog 31 [.agg #[u,v,w],.int .i64 (g:Int),.int .i64 lim] [.ro (ints S.d),.ro (pc S.f),.ro (ints S.s),.rw (shL 0 1 2 S),.rw [.int .u8 (w0:Int),.int .u8 (w1:Int),.int .u8 (w2:Int)],.rw [sl 0 S.d.length,sl 8 (exL S.f (w0 % S.f.length)).length,sl 2 S.s.length],.rw [sl 0 S.d.length,sl 1 S.f.length,sl iy zl.length],.rw [dL 11 1 S.d.length,sl 1 S.f.length,sl 2 S.s.length],.rw (pc (exL S.f (w0 % S.f.length))),.rw c9,.dead,.gr (ints (dZ S (w2 % S.d.length) (less:Int))) 2,.rw [sl 0 S.d.length,sl 8 (exL S.f (w0 % S.f.length)).length,sl 2 S.s.length,sl 0 S.d.length,sl 1 S.f.length,sl iy zl.length,dL 11 1 S.d.length,sl 1 S.f.length,sl 2 S.s.length],.rw (ints (jl S (g:Int))),.rw (ints (mnO S).1),.rw [.int .i64 (mnA S),.int .i64 (mnB S)],.rw (ints (jr S (g:Int) lim)),.rw [.int .i64 (rmA S),.int .i64 (rmB S)],.rw (ints wl),.rw (ints mo.1),.rw [.int .i64 mA2,.int .i64 mB2]] (.tuple #[sl 21 bl.length,.int .i64 0]) [.ro (ints S.d),.ro (pc S.f),.ro (ints S.s),.rw (shL 0 1 2 S),.rw [.int .u8 (w0:Int),.int .u8 (w1:Int),.int .u8 (w2:Int)],.rw [sl 0 S.d.length,sl 8 (exL S.f (w0 % S.f.length)).length,sl 2 S.s.length],.rw [sl 0 S.d.length,sl 1 S.f.length,sl iy zl.length],.rw [dL 11 1 S.d.length,sl 1 S.f.length,sl 2 S.s.length],.rw (pc (exL S.f (w0 % S.f.length))),.rw c9,.dead,.gr (ints (dZ S (w2 % S.d.length) (less:Int))) 2,.rw [sl 0 S.d.length,sl 8 (exL S.f (w0 % S.f.length)).length,sl 2 S.s.length,sl 0 S.d.length,sl 1 S.f.length,sl iy zl.length,dL 11 1 S.d.length,sl 1 S.f.length,sl 2 S.s.length],.rw (ints (jl S (g:Int))),.rw (ints (mnO S).1),.rw [.int .i64 (mnA S),.int .i64 (mnB S)],.rw (ints (jr S (g:Int) lim)),.rw [.int .i64 (rmA S),.int .i64 (rmB S)],.rw (ints wl),.rw (ints mo.1),.rw [.int .i64 mA2,.int .i64 mB2],.rw (ints bl)] ∧
   Ev Try.prog 36 [.agg #[u,v,w]] [.ro (ints S.d),.ro (pc S.f),.ro (ints S.s),.rw (shL 0 1 2 S),.rw [.int .u8 (w0:Int),.int .u8 (w1:Int),.int .u8 (w2:Int)],.rw [sl 0 S.d.length,sl 8 (exL S.f (w0 % S.f.length)).length,sl 2 S.s.length],.rw [sl 0 S.d.length,sl 1 S.f.length,sl iy zl.length],.rw [dL 11 1 S.d.length,sl 1 S.f.length,sl 2 S.s.length],.rw (pc (exL S.f (w0 % S.f.length))),.rw c9,.dead,.gr (ints (dZ S (w2 % S.d.length) (less:Int))) 2,.rw [sl 0 S.d.length,sl 8 (exL S.f (w0 % S.f.length)).length,sl 2 S.s.length,sl 0 S.d.length,sl 1 S.f.length,sl iy zl.length,dL 11 1 S.d.length,sl 1 S.f.length,sl 2 S.s.length],.rw (ints (jl S (g:Int))),.rw (ints (mnO S).1),.rw [.int .i64 (mnA S),.int .i64 (mnB S)],.rw (ints (jr S (g:Int) lim)),.rw [.int .i64 (rmA S),.int .i64 (rmB S)],.rw (ints wl),.rw (ints mo.1),.rw [.int .i64 mA2,.int .i64 mB2],.rw (ints bl)] (.tuple #[rtV rA2 rB2,.bool (decide (mE2=0))]) [.ro (ints S.d),.ro (pc S.f),.ro (ints S.s),.rw (shL 0 1 2 S),.rw [.int .u8 (w0:Int),.int .u8 (w1:Int),.int .u8 (w2:Int)],.rw [sl 0 S.d.length,sl 8 (exL S.f (w0 % S.f.length)).length,sl 2 S.s.length],.rw [sl 0 S.d.length,sl 1 S.f.length,sl iy zl.length],.rw [dL 11 1 S.d.length,sl 1 S.f.length,sl 2 S.s.length],.rw (pc (exL S.f (w0 % S.f.length))),.rw c9,.dead,.gr (ints (dZ S (w2 % S.d.length) (less:Int))) 2,.rw [sl 0 S.d.length,sl 8 (exL S.f (w0 % S.f.length)).length,sl 2 S.s.length,sl 0 S.d.length,sl 1 S.f.length,sl iy zl.length,dL 11 1 S.d.length,sl 1 S.f.length,sl 2 S.s.length],.rw (ints (jl S (g:Int))),.rw (ints (mnO S).1),.rw [.int .i64 (mnA S),.int .i64 (mnB S)],.rw (ints (jr S (g:Int) lim)),.rw [.int .i64 (rmA S),.int .i64 (rmB S)],.rw (ints wl),.rw (ints mo.1),.rw [.int .i64 mA2,.int .i64 mB2],.rw (ints bl)]:=fun i hi=>by
  obtain ⟨X,u,v,w,c1,c2,c3,c4,c5,c6⟩:=hsh i hi
  exact ⟨u,v,w,_,_,_,_,_,_,_,_,_,_,_,c1,c2.w,c2.we,c2.m,c2.me,c2.b,NQ,Sm,c3,c4,c5,c6⟩
 clear hsh hcl hk0 hY
 generalize jl S (g:Int)=WL at *
 generalize wU S (g:Int)=wv at *
 generalize nV S (g:Int)=we at *
 generalize mnR S=MR at *
 generalize mnO S=MO at *
 generalize mnA S=mA at *
 generalize mnB S=mB at *
 generalize mnE S=mE at *
 generalize jr S (g:Int) lim=BL at *
 generalize rmA S=rA at *
 generalize rmB S=rB at *
 repeat' (first|(refine gU ?_;first|(refine aP ?_;refine st (au rfl) rfl rfl ?_)|(refine aI ?_;refine st (aA rfl) rfl rfl ?_)|(refine aU ?_;refine st (aZ rfl (by rfl)) rfl rfl ?_)|(refine kP ?_;refine st (jh rfl rfl) rfl rfl ?_)|(refine fC ?_;refine st (bC rfl rfl rfl (by first|exact hW|exact hM|exact hG|exact hR)) rfl rfl ?_)|(refine eP ?_;refine st (bQ rfl) rfl rfl ?_)|(refine cO ?_;refine stN (aJ rfl rfl rfl rfl (by rfl)) rfl ?_))|refine aS ?_|refine kY (id:=19) ?_|refine aj ?_|refine ah ?_|refine bg ?_)
 refine ⟨?_⟩
 refine Si [(4,.int .i64 lim),(11,.int .i64 (g:Int)),(18,sl 12 3),(19,.int .i64 wv),(21,.int .i64 we),(24,.int .i64 mE),(25,sl 16 BL.length),(27,.pointer (some ⟨17,0,none⟩))] [.ro (ints S.d),.ro (pc S.f),.ro (ints S.s),.rw (shL 0 1 2 S),.rw [.int .u8 (w0:Int),.int .u8 (w1:Int),.int .u8 (w2:Int)],.rw [sl 0 S.d.length,sl 8 (exL S.f (w0 % S.f.length)).length,sl 2 S.s.length],.rw [sl 0 S.d.length,sl 1 S.f.length,sl iy zl.length],.rw [dL 11 1 S.d.length,sl 1 S.f.length,sl 2 S.s.length],.rw (pc (exL S.f (w0 % S.f.length))),.rw c9,.dead,.gr (ints (dZ S (w2 % S.d.length) (less:Int))) 2,.rw [sl 0 S.d.length,sl 8 (exL S.f (w0 % S.f.length)).length,sl 2 S.s.length,sl 0 S.d.length,sl 1 S.f.length,sl iy zl.length,dL 11 1 S.d.length,sl 1 S.f.length,sl 2 S.s.length],.rw (ints WL),.rw (ints MO.1),.rw [.int .i64 mA,.int .i64 mB],.rw (ints BL),.rw [.int .i64 rA,.int .i64 rB]] (by simp) ?_ ?_
 ·have hg9:True:=trivial
  by_cases hw:we=0 <;> by_cases hm:mE=0
  all_goals try have hq:=hrA hm
  all_goals refine aj (?_)
  all_goals repeat' (first|(refine gU ?_;first|(refine aP ?_;refine st (au rfl) rfl rfl ?_)|(refine bG ?_;refine st (aG rfl rfl rfl) rfl rfl ?_)|(refine eY ?_;refine st (bY rfl rfl) rfl rfl ?_))|(refine gG ?_;first|(refine aP ?_;refine bP rfl (au rfl) rfl rfl ?_)|(refine aU ?_;refine bP rfl (aZ rfl (by rfl)) rfl rfl ?_)|(refine bG ?_;first|refine bP rfl (aG rfl rfl rfl) rfl rfl ?_|refine bP rfl (LJ rfl rfl) rfl rfl ?_)|(refine eY ?_;first|refine bP rfl (bH rfl rfl) rfl rfl ?_|refine bP rfl (bY rfl rfl) rfl rfl ?_)|refine nU rfl rfl ?_)|refine ah ?_|refine bg ?_|refine aW ?_|refine aN rfl ?_)
  all_goals exact ⟨rfl,rfl,.same ⟨rfl,rfl,rfl,rfl,rfl,rfl,rfl,rfl,trivial⟩⟩
 repeat' (first|(refine gU ?_;(refine aI ?_;refine st (aA rfl) rfl rfl ?_))|refine aS ?_|refine aj ?_|refine ah ?_|refine bg ?_|refine aO ?_)
 refine iD (ι:=Nat) (fun i=>[(4,.int .i64 lim),(11,.int .i64 (g:Int)),(18,sl 12 3),(19,.int .i64 wv),(21,.int .i64 we),(24,.int .i64 mE),(25,sl 16 BL.length),(27,.pointer (some ⟨17,0,none⟩)),(29,.int .i64 ((i:Nat):Int))]) (fun _=>[.ro (ints S.d),.ro (pc S.f),.ro (ints S.s),.rw (shL 0 1 2 S),.rw [.int .u8 (w0:Int),.int .u8 (w1:Int),.int .u8 (w2:Int)],.rw [sl 0 S.d.length,sl 8 (exL S.f (w0 % S.f.length)).length,sl 2 S.s.length],.rw [sl 0 S.d.length,sl 1 S.f.length,sl iy zl.length],.rw [dL 11 1 S.d.length,sl 1 S.f.length,sl 2 S.s.length],.rw (pc (exL S.f (w0 % S.f.length))),.rw c9,.dead,.gr (ints (dZ S (w2 % S.d.length) (less:Int))) 2,.rw [sl 0 S.d.length,sl 8 (exL S.f (w0 % S.f.length)).length,sl 2 S.s.length,sl 0 S.d.length,sl 1 S.f.length,sl iy zl.length,dL 11 1 S.d.length,sl 1 S.f.length,sl 2 S.s.length],.rw (ints WL),.rw (ints MO.1),.rw [.int .i64 mA,.int .i64 mB],.rw (ints BL),.rw [.int .i64 rA,.int .i64 rB]]) (fun i=>3 - i) (fun i=>i≤3) 0 (by simp) (.same ⟨rfl,rfl,rfl,rfl,rfl,rfl,rfl,rfl,rfl,trivial⟩) (by omega) ?_
 clear hW hM hG hR hrA hwe hme hdk
 intro i hi
 by_cases hi3:i<3
 ·obtain ⟨u,v,w,wl,wv2,we2,mo,mr,mA2,mB2,mE2,bl,rA2,rB2,hc1,f1,f2,f3,f4,f5,f6,f7,hW,hM,hG,hR⟩:=hsh2 i hi3
  clear hsh2
  have q1:=tY (a:=rA) (d:=rB2) (by omega) (by omega) f7.2.2.1 f7.2.2.2
  have q2:=tY (a:=rA2) (d:=rB) (by omega) (by omega) hrb.2.2.1 hrb.2.2.2
  have hle:=Ev.nil (σ:=[.ro (ints S.d),.ro (pc S.f),.ro (ints S.s),.rw (shL 0 1 2 S),.rw [.int .u8 (w0:Int),.int .u8 (w1:Int),.int .u8 (w2:Int)],.rw [sl 0 S.d.length,sl 8 (exL S.f (w0 % S.f.length)).length,sl 2 S.s.length],.rw [sl 0 S.d.length,sl 1 S.f.length,sl iy zl.length],.rw [dL 11 1 S.d.length,sl 1 S.f.length,sl 2 S.s.length],.rw (pc (exL S.f (w0 % S.f.length))),.rw c9,.dead,.gr (ints (dZ S (w2 % S.d.length) (less:Int))) 2,.rw [sl 0 S.d.length,sl 8 (exL S.f (w0 % S.f.length)).length,sl 2 S.s.length,sl 0 S.d.length,sl 1 S.f.length,sl iy zl.length,dL 11 1 S.d.length,sl 1 S.f.length,sl 2 S.s.length],.rw (ints WL),.rw (ints MO.1),.rw [.int .i64 mA,.int .i64 mB],.rw (ints BL),.rw [.int .i64 rA,.int .i64 rB],.rw (ints wl),.rw (ints mo.1),.rw [.int .i64 mA2,.int .i64 mB2],.rw (ints bl),.rw [.int .i64 rA2,.int .i64 rB2]]) (Ey rA rB rA2 rB2 (by omega) (by omega) (by omega) (by omega)) rfl rfl rfl
  clear q1 q2 f7
  repeat' (first|(refine gU ?_;first|(refine aP ?_;refine st (au rfl) rfl rfl ?_)|(refine aI ?_;refine st (aA rfl) rfl rfl ?_)|(refine aU ?_;refine st (aZ rfl (by exact hc1 _)) rfl rfl ?_)|(refine bG ?_;refine st (aG rfl rfl rfl) rfl rfl ?_)|(refine kP ?_;refine st (jh rfl rfl) rfl rfl ?_)|(refine gIA ?_;refine st (bZ rfl rfl (by omega)) rfl rfl ?_)|(refine fC ?_;refine st (bC rfl rfl rfl (by first|exact hW|exact hM|exact hG|exact hR)) rfl rfl ?_)|(refine eP ?_;refine st (bQ rfl) rfl rfl ?_)|(refine cO ?_;refine stN (aJ rfl rfl rfl rfl (by rfl)) rfl ?_))|refine aS ?_|refine kY (id:=28) ?_|refine aj ?_|refine ah ?_|refine bg ?_|refine aW ?_|refine aO ?_|refine aQ rfl ?_)
  refine ⟨?_⟩
  refine Si [(4,.int .i64 lim),(11,.int .i64 (g:Int)),(18,sl 12 3),(19,.int .i64 wv),(21,.int .i64 we),(24,.int .i64 mE),(25,sl 16 BL.length),(27,.pointer (some ⟨17,0,none⟩)),(29,.int .i64 ((i:Nat):Int)),(36,sl 21 bl.length)] [.ro (ints S.d),.ro (pc S.f),.ro (ints S.s),.rw (shL 0 1 2 S),.rw [.int .u8 (w0:Int),.int .u8 (w1:Int),.int .u8 (w2:Int)],.rw [sl 0 S.d.length,sl 8 (exL S.f (w0 % S.f.length)).length,sl 2 S.s.length],.rw [sl 0 S.d.length,sl 1 S.f.length,sl iy zl.length],.rw [dL 11 1 S.d.length,sl 1 S.f.length,sl 2 S.s.length],.rw (pc (exL S.f (w0 % S.f.length))),.rw c9,.dead,.gr (ints (dZ S (w2 % S.d.length) (less:Int))) 2,.rw [sl 0 S.d.length,sl 8 (exL S.f (w0 % S.f.length)).length,sl 2 S.s.length,sl 0 S.d.length,sl 1 S.f.length,sl iy zl.length,dL 11 1 S.d.length,sl 1 S.f.length,sl 2 S.s.length],.rw (ints WL),.rw (ints MO.1),.rw [.int .i64 mA,.int .i64 mB],.rw (ints BL),.rw [.int .i64 rA,.int .i64 rB],.rw (ints wl),.rw (ints mo.1),.rw [.int .i64 mA2,.int .i64 mB2],.rw (ints bl),.rw [.int .i64 rA2,.int .i64 rB2]] (by simp) ?_ ?_
  ·by_cases hw:we2=0 <;> by_cases hm:mE2=0
   all_goals try have g1:=f1 hw
   all_goals try have g3:=f3 hm
   all_goals try have g4:=g3.2
   all_goals clear f1 f3 hW hM hG hR
   all_goals refine aj (?_)
   all_goals repeat' (first|(refine gU ?_;first|(refine aP ?_;refine st (au rfl) rfl rfl ?_)|(refine bG ?_;refine st (aG rfl rfl rfl) rfl rfl ?_)|(refine eY ?_;first|refine st (bH rfl rfl) rfl rfl ?_|refine st (bY rfl rfl) rfl rfl ?_))|(refine gG ?_;first|(refine aP ?_;refine bP rfl (au rfl) rfl rfl ?_)|(refine aU ?_;refine bP rfl (aZ rfl (by rfl)) rfl rfl ?_)|(refine bG ?_;refine bP rfl (aG rfl rfl rfl) rfl rfl ?_)|(refine eY ?_;first|refine bP rfl (bH rfl rfl) rfl rfl ?_|refine bP rfl (bY rfl rfl) rfl rfl ?_)|(refine kX ?_;refine bP rfl (jf rfl) rfl rfl ?_)|(refine fC ?_;refine bP rfl (bC rfl rfl rfl (by exact hle)) rfl rfl ?_)|refine SA rfl rfl ?_|refine nU rfl rfl ?_)|refine ah ?_|refine bg ?_|refine aW ?_|refine aN rfl ?_)
   all_goals exact ⟨rfl,rfl,.same ⟨rfl,rfl,rfl,rfl,rfl,rfl,rfl,rfl,rfl,rfl,trivial⟩⟩
  clear f1 f2 f3 f4 hW hM hG hR hle
  repeat' (first|(refine gU ?_;(refine aI ?_;refine st (aA rfl) rfl rfl ?_))|refine aS ?_|refine aj ?_|refine ah ?_|refine bg ?_|refine aO ?_)
  refine iD (ι:=Nat) (fun k=>[(4,.int .i64 lim),(11,.int .i64 (g:Int)),(18,sl 12 3),(19,.int .i64 wv),(21,.int .i64 we),(24,.int .i64 mE),(25,sl 16 BL.length),(27,.pointer (some ⟨17,0,none⟩)),(29,.int .i64 ((i:Nat):Int)),(36,sl 21 bl.length),(40,.int .i64 (k:Int))]) (fun _=>[.ro (ints S.d),.ro (pc S.f),.ro (ints S.s),.rw (shL 0 1 2 S),.rw [.int .u8 (w0:Int),.int .u8 (w1:Int),.int .u8 (w2:Int)],.rw [sl 0 S.d.length,sl 8 (exL S.f (w0 % S.f.length)).length,sl 2 S.s.length],.rw [sl 0 S.d.length,sl 1 S.f.length,sl iy zl.length],.rw [dL 11 1 S.d.length,sl 1 S.f.length,sl 2 S.s.length],.rw (pc (exL S.f (w0 % S.f.length))),.rw c9,.dead,.gr (ints (dZ S (w2 % S.d.length) (less:Int))) 2,.rw [sl 0 S.d.length,sl 8 (exL S.f (w0 % S.f.length)).length,sl 2 S.s.length,sl 0 S.d.length,sl 1 S.f.length,sl iy zl.length,dL 11 1 S.d.length,sl 1 S.f.length,sl 2 S.s.length],.rw (ints WL),.rw (ints MO.1),.rw [.int .i64 mA,.int .i64 mB],.rw (ints BL),.rw [.int .i64 rA,.int .i64 rB],.rw (ints wl),.rw (ints mo.1),.rw [.int .i64 mA2,.int .i64 mB2],.rw (ints bl),.rw [.int .i64 rA2,.int .i64 rB2]]) (fun k=>bl.length - k) (fun k=>k≤bl.length) 0 (by simp) (.same ⟨rfl,rfl,rfl,rfl,rfl,rfl,rfl,rfl,rfl,rfl,rfl,trivial⟩) (Nat.zero_le _) ?_
  intro k hk
  by_cases hkl:k<bl.length
  ·have hc3:cZ [.ro (ints S.d),.ro (pc S.f),.ro (ints S.s),.rw (shL 0 1 2 S),.rw [.int .u8 (w0:Int),.int .u8 (w1:Int),.int .u8 (w2:Int)],.rw [sl 0 S.d.length,sl 8 (exL S.f (w0 % S.f.length)).length,sl 2 S.s.length],.rw [sl 0 S.d.length,sl 1 S.f.length,sl iy zl.length],.rw [dL 11 1 S.d.length,sl 1 S.f.length,sl 2 S.s.length],.rw (pc (exL S.f (w0 % S.f.length))),.rw c9,.dead,.gr (ints (dZ S (w2 % S.d.length) (less:Int))) 2,.rw [sl 0 S.d.length,sl 8 (exL S.f (w0 % S.f.length)).length,sl 2 S.s.length,sl 0 S.d.length,sl 1 S.f.length,sl iy zl.length,dL 11 1 S.d.length,sl 1 S.f.length,sl 2 S.s.length],.rw (ints WL),.rw (ints MO.1),.rw [.int .i64 mA,.int .i64 mB],.rw (ints BL),.rw [.int .i64 rA,.int .i64 rB],.rw (ints wl),.rw (ints mo.1),.rw [.int .i64 mA2,.int .i64 mB2],.rw (ints bl),.rw [.int .i64 rA2,.int .i64 rB2]] 21 k=some (.int .i64 (gi bl k)):=gV hkl
   have hc4:cZ [.ro (ints S.d),.ro (pc S.f),.ro (ints S.s),.rw (shL 0 1 2 S),.rw [.int .u8 (w0:Int),.int .u8 (w1:Int),.int .u8 (w2:Int)],.rw [sl 0 S.d.length,sl 8 (exL S.f (w0 % S.f.length)).length,sl 2 S.s.length],.rw [sl 0 S.d.length,sl 1 S.f.length,sl iy zl.length],.rw [dL 11 1 S.d.length,sl 1 S.f.length,sl 2 S.s.length],.rw (pc (exL S.f (w0 % S.f.length))),.rw c9,.dead,.gr (ints (dZ S (w2 % S.d.length) (less:Int))) 2,.rw [sl 0 S.d.length,sl 8 (exL S.f (w0 % S.f.length)).length,sl 2 S.s.length,sl 0 S.d.length,sl 1 S.f.length,sl iy zl.length,dL 11 1 S.d.length,sl 1 S.f.length,sl 2 S.s.length],.rw (ints WL),.rw (ints MO.1),.rw [.int .i64 mA,.int .i64 mB],.rw (ints BL),.rw [.int .i64 rA,.int .i64 rB],.rw (ints wl),.rw (ints mo.1),.rw [.int .i64 mA2,.int .i64 mB2],.rw (ints bl),.rw [.int .i64 rA2,.int .i64 rB2]] 21 (0+k*1)=some (.int .i64 (gi bl k)):=by rw [Nat.zero_add,Nat.mul_one];exact gV hkl
   have hj:=in41_ev (σ:=[.ro (ints S.d),.ro (pc S.f),.ro (ints S.s),.rw (shL 0 1 2 S),.rw [.int .u8 (w0:Int),.int .u8 (w1:Int),.int .u8 (w2:Int)],.rw [sl 0 S.d.length,sl 8 (exL S.f (w0 % S.f.length)).length,sl 2 S.s.length],.rw [sl 0 S.d.length,sl 1 S.f.length,sl iy zl.length],.rw [dL 11 1 S.d.length,sl 1 S.f.length,sl 2 S.s.length],.rw (pc (exL S.f (w0 % S.f.length))),.rw c9,.dead,.gr (ints (dZ S (w2 % S.d.length) (less:Int))) 2,.rw [sl 0 S.d.length,sl 8 (exL S.f (w0 % S.f.length)).length,sl 2 S.s.length,sl 0 S.d.length,sl 1 S.f.length,sl iy zl.length,dL 11 1 S.d.length,sl 1 S.f.length,sl 2 S.s.length],.rw (ints WL),.rw (ints MO.1),.rw [.int .i64 mA,.int .i64 mB],.rw (ints BL),.rw [.int .i64 rA,.int .i64 rB],.rw (ints wl),.rw (ints mo.1),.rw [.int .i64 mA2,.int .i64 mB2],.rw (ints bl),.rw [.int .i64 rA2,.int .i64 rB2]]) (l:=BL) (p:=gi bl k) (x:=16) (o:=0) (qp (.inr (.inl rfl))) MX (by omega) rfl
   rw [decide_eq_true (f5 _ (kQ.2 ⟨k,hkl,rfl⟩))] at hj
   clear f5
   generalize gi bl k=y at *
   repeat' (first|(refine gU ?_;first|(refine aP ?_;refine st (au rfl) rfl rfl ?_)|(refine aI ?_;refine st (aA rfl) rfl rfl ?_)|(refine aU ?_;refine st (ak rfl (by exact hc3)) rfl rfl ?_)|(refine iw ?_;refine st (dF rfl rfl (by omega)) rfl rfl ?_)|(refine bG ?_;refine st (aG rfl rfl rfl) rfl rfl ?_)|(refine fK ?_;refine st (bK rfl) rfl rfl ?_)|(refine kX ?_;refine st (gX rfl) rfl rfl ?_)|(refine gIA ?_;refine st (gJ rfl rfl (by omega)) rfl rfl ?_)|(refine fC ?_;refine st (bC rfl rfl rfl (by exact hj)) rfl rfl ?_))|refine aS ?_|refine aj ?_|refine ah ?_|refine bg ?_|refine fH ?_|refine aW ?_|refine aO ?_|refine aQ rfl ?_|refine aN rfl ?_)
   exact ⟨rfl,k+1,by omega,by omega,.same ⟨rfl,rfl,rfl,rfl,rfl,rfl,rfl,rfl,rfl,rfl,rfl,trivial⟩⟩
  ·obtain rfl:k=bl.length:=by omega
   repeat' (first|(refine gU ?_;first|(refine aP ?_;refine st (au rfl) rfl rfl ?_)|(refine aI ?_;refine st (aA rfl) rfl rfl ?_)|(refine iw ?_;refine st (dF rfl rfl (by omega)) rfl rfl ?_)|(refine bG ?_;refine st (aG rfl rfl rfl) rfl rfl ?_)|(refine fK ?_;refine st (bK rfl) rfl rfl ?_))|refine aS ?_|refine aj ?_|refine ah ?_|refine bg ?_|refine jd ?_|refine fH ?_|refine eG rfl ?_|refine dW ?_|refine aN rfl ?_)
   exact ⟨rfl,i+1,by omega,by omega,bT.drop [.ro (ints S.d),.ro (pc S.f),.ro (ints S.s),.rw (shL 0 1 2 S),.rw [.int .u8 (w0:Int),.int .u8 (w1:Int),.int .u8 (w2:Int)],.rw [sl 0 S.d.length,sl 8 (exL S.f (w0 % S.f.length)).length,sl 2 S.s.length],.rw [sl 0 S.d.length,sl 1 S.f.length,sl iy zl.length],.rw [dL 11 1 S.d.length,sl 1 S.f.length,sl 2 S.s.length],.rw (pc (exL S.f (w0 % S.f.length))),.rw c9,.dead,.gr (ints (dZ S (w2 % S.d.length) (less:Int))) 2,.rw [sl 0 S.d.length,sl 8 (exL S.f (w0 % S.f.length)).length,sl 2 S.s.length,sl 0 S.d.length,sl 1 S.f.length,sl iy zl.length,dL 11 1 S.d.length,sl 1 S.f.length,sl 2 S.s.length],.rw (ints WL),.rw (ints MO.1),.rw [.int .i64 mA,.int .i64 mB],.rw (ints BL),.rw [.int .i64 rA,.int .i64 rB]] [_,_,_,_,_] (by simp) (hc_k18M S hiy zl hcp w0 w1 w2 less WL MO.1 mA mB BL rA rB) (by (repeat' (first|exact trivial|exact ⟨rfl,rfl,rfl⟩|exact ⟨rfl,bM rfl,rfl⟩|refine ⟨?_,?_⟩)))⟩
 ·obtain rfl:i=3:=by omega
  repeat' (first|(refine gU ?_;first|(refine aP ?_;refine st (au rfl) rfl rfl ?_)|(refine aI ?_;refine st (aA rfl) rfl rfl ?_)|(refine bG ?_;refine st (aG rfl rfl rfl) rfl rfl ?_)|(refine fC ?_;refine st (bC rfl rfl rfl (by exact hwo _ rfl)) rfl rfl ?_))|refine aS ?_|refine aj ?_|refine ah ?_|refine bg ?_|refine jd ?_|refine eG rfl ?_|refine dW ?_|refine dX ?_|refine aN rfl ?_)
  exact iF (.tmp rfl .nil) (.plain rfl rfl) ⟨rfl,rfl⟩
end Go.Proofs.Ytomioaiojidnbaa
namespace Go.AH
open Go Go.RowKit Go.WideShapes Go.ChangeShapes
section
variable {H:Type} {enc:TypeId×Value→H} {P:Program} {W:World}
theorem wf64 {n:Int} (h:(Lit.int .i64 n).wf=true):-9223372036854775808≤n∧n≤9223372036854775807:=by
 simp only [Lit.wf,Bool.and_eq_true,decide_eq_true_eq] at h
 exact h
def cellsI (l:List Int):List Value:=l.map (.int .i64)
structure J9 (W:World) (v:Value) (n size:Nat) (cs:List Value) (pl:Pl):Prop where
 len:n≤9223372036854775807
 rel:∀ (m:Nat) (ρ:Rho) (i:Nat),i<m→ρ i=pl→gY m ρ (.slice (some ⟨i,0,none⟩) n n) v
 sz:cs.length=n*size
 cells:cs ≠ []→pl.b<W.heap.size∧∀ (k:Nat) (h:k<cs.length),W.cell? ⟨pl.b,pl.o+k,none⟩=some cs[k]
theorem cell_lt {w:World} {a:Addr} {v:Value} (h:w.cell? a=some v):a.block<w.heap.size∧a.spot=none:=by
 unfold World.cell? at h
 split at h
 ·rename_i hb
  refine ⟨(Array.getElem?_eq_some_iff.1 hb).1,?_⟩
  split at h
  ·cases h
  ·rename_i hs;simpa using hs
 ·cases h
theorem J9.hro {v:Value} {n size:Nat} {cs:List Value} {pl:Pl} (h:J9 W v n size cs pl) (hp:gy cs=true) (ρ:Rho) (i m:Nat) (hρ:ρ i=pl) (hne:cs ≠ []) :
  (ρ i).b<W.heap.size∧∀ (k:Nat) (hk:k<cs.length),∃ v',W.cell? ⟨(ρ i).b,(ρ i).o+k,none⟩=some v'∧gY m ρ cs[k] v':=by
 rw [hρ]
 obtain ⟨h1,h2⟩:=h.cells hne
 exact ⟨h1,fun k hk=>⟨_,h2 k hk,iG cs hp k hk⟩⟩
theorem read_int {b0:Nat} {t:TypeId} {v:Value} {d:DataW H} {p:List MemPlace} (ht:P.underlying t=some (.int .i64)) (hval:Value.okWide P W .any b0 t v)
  (h:DataW.Trod enc P W 0 (fun _=>true) true t v d p):∃ n:Int,v=.int .i64 n∧-9223372036854775808≤n∧n≤9223372036854775807:=by
 obtain ⟨n,rfl,_,_,wn⟩:=open_int ht hval h
 exact ⟨n,rfl,wf64 wn⟩
end
end Go.AH
namespace Go.AH
open Go Go.RowKit Go.WideShapes Go.ChangeShapes
section
variable {H:Type} {enc:TypeId×Value→H} {P:Program} {w:World} {base:Nat} {spare:Nat→Bool} {held:Bool}
theorem trodAll_mkn4 {t t' t'' t3:TypeId} {v v' v'' v3:Value} {d d' d'' d3:DataW H} {p p' p'' p3:List MemPlace} (h:DataW.Trod enc P w base spare held t v d p) (h':DataW.Trod enc P w base spare held t' v' d' p')
  (h'':DataW.Trod enc P w base spare held t'' v'' d'' p'') (h3:DataW.Trod enc P w base spare held t3 v3 d3 p3):DataW.TrodAll enc P w base spare held [t,t',t'',t3] [v,v',v'',v3] [d,d',d'',d3] (p++(p'++(p''++p3))):=⟨p,p'++(p''++p3),h,trodAll_mk3 h' h'' h3,rfl⟩
end
section
variable {H:Type} {enc:TypeId×Value→H} {P:Program} {W:World}
theorem read_u8 {b0:Nat} {t:TypeId} {v:Value} {d:DataW H} {p:List MemPlace} (ht:P.underlying t=some (.int .u8)) (hval:Value.okWide P W .any b0 t v)
  (h:DataW.Trod enc P W 0 (fun _=>true) true t v d p):∃ n:Int,v=.int .u8 n∧0≤n∧n≤255:=by
 obtain ⟨n,rfl,_,_,wn⟩:=open_int ht hval h
 simp only [Lit.wf,Bool.and_eq_true,decide_eq_true_eq] at wn
 exact ⟨n,rfl,wn⟩
end
end Go.AH
namespace Go.AH
open Go Go.RowKit Go.WideShapes Go.ChangeShapes
section
variable {H:Type} {enc:TypeId×Value→H} {P:Program} {w:World} {base:Nat} {spare:Nat→Bool} {held:Bool}
theorem trodAll_n5 {t0 t1 t2 t3 t4:TypeId} {args:Array Value} {ds:List (DataW H)} {ps:List MemPlace} (h:DataW.TrodAll enc P w base spare held [t0,t1,t2,t3,t4] args.toList ds ps) :
  ∃ v0 v1 v2 v3 v4 d0 d1 d2 d3 d4 p0 p1 p2 p3 p4,args=#[v0,v1,v2,v3,v4]∧ds=[d0,d1,d2,d3,d4]∧ps=p0++p1++p2++p3++p4∧DataW.Trod enc P w base spare held t0 v0 d0 p0∧DataW.Trod enc P w base spare held t1 v1 d1 p1∧DataW.Trod enc P w base spare held t2 v2 d2 p2 ∧
   DataW.Trod enc P w base spare held t3 v3 d3 p3∧DataW.Trod enc P w base spare held t4 v4 d4 p4:=by
 obtain ⟨v,vs,d,ds',p,q,hargs,rfl,rfl,hd,hrest⟩:=trodAll_cons h
 obtain ⟨v',vs',d',ds'',p',q',rfl,rfl,rfl,hd',hrest'⟩:=trodAll_cons hrest
 obtain ⟨v'',vs'',d'',ds''',p'',q'',rfl,rfl,rfl,hd'',hrest''⟩:=trodAll_cons hrest'
 obtain ⟨v3,vs3,d3,ds3,p3,q3,rfl,rfl,rfl,hd3,hrest3⟩:=trodAll_cons hrest''
 obtain ⟨v4,vs4,d4,ds4,p4,q4,rfl,rfl,rfl,hd4,hrest4⟩:=trodAll_cons hrest3
 obtain ⟨rfl,rfl,rfl⟩:=trodAll_nil hrest4
 exact ⟨v,v',v'',v3,v4,d,d',d'',d3,d4,p,p',p'',p3,p4,by cases args;simp_all,rfl,by simp,hd,hd',hd'',hd3,hd4⟩
theorem trodAll_mkn5 {t t' t'' t3 t4:TypeId} {v v' v'' v3 v4:Value} {d d' d'' d3 d4:DataW H} {p p' p'' p3 p4:List MemPlace} (h:DataW.Trod enc P w base spare held t v d p) (h':DataW.Trod enc P w base spare held t' v' d' p')
  (h'':DataW.Trod enc P w base spare held t'' v'' d'' p'') (h3:DataW.Trod enc P w base spare held t3 v3 d3 p3) (h4:DataW.Trod enc P w base spare held t4 v4 d4 p4):DataW.TrodAll enc P w base spare held [t,t',t'',t3,t4] [v,v',v'',v3,v4] [d,d',d'',d3,d4] (p++(p'++(p''++(p3++p4)))):=⟨p,p'++(p''++(p3++p4)),h,trodAll_mkn4 h' h'' h3 h4,rfl⟩
end
end Go.AH
namespace Go.AH
open Go Go.RowKit Go.WideShapes Go.ChangeShapes
section
variable {H:Type} {enc:TypeId×Value→H} {P:Program} {w:World} {base:Nat} {spare:Nat→Bool} {held:Bool}
end
section
variable {H:Type} {enc:TypeId×Value→H} {P:Program} {W:World}
theorem okWide_arr {n:Nat} {t e:TypeId} {b0:Nat} {v:Value} (ht:P.underlying t=some (.array n e)) (h:Value.okWide P W .any b0 t v):∃ cs,v=.agg cs∧cs.size=P.cellsOf t:=by
 simp only [Value.okWide,ht] at h
 obtain ⟨cs,h1,h2,_⟩:=h
 exact ⟨cs,h1,h2⟩
theorem read_arr3 {b0:Nat} {t e:TypeId} {v:Value} {d:DataW H} {p:List MemPlace} {k:IntKind} (ht:P.underlying t=some (.array 3 e)) (he:P.underlying e=some (.int k)) (hct:P.cellsOf t=3) (hce:P.cellsOf e=1) (hval:Value.okWide P W .any b0 t v)
  (h:DataW.Trod enc P W 0 (fun _=>true) true t v d p):∃ x y z:Int,v=.agg #[.int k x,.int k y,.int k z]∧Lit.wf (.int k x)=true∧Lit.wf (.int k y)=true∧Lit.wf (.int k z)=true:=by
 obtain ⟨cs,rfl,hsz⟩:=okWide_arr ht hval
 obtain ⟨l⟩:=cs
 have hsz2:l.length=3:=by rw [← hct,← hsz];rfl
 match l,hsz2 with
 |[c0,c1,c2],_ =>
  obtain ⟨fuel,hf⟩:=h
  obtain ⟨xs,n,_,_,_,hlen,hg⟩:=DataW.trod_array ht hf
  match xs,hlen with
  |[y0,y1,y2],_ =>
   have g0:=hg 0 (by omega)
   have g1:=hg 1 (by omega)
   have g2:=hg 2 (by omega)
   simp only [hce,Value.cells,List.getElem?_cons_zero,List.getElem?_cons_succ] at g0 g1 g2
   obtain ⟨n0,e0,_,w0⟩:=DataW.trod_int he g0
   obtain ⟨n1,e1,_,w1⟩:=DataW.trod_int he g1
   obtain ⟨n2,e2,_,w2⟩:=DataW.trod_int he g2
   cases e0;cases e1;cases e2
   exact ⟨n0,n1,n2,rfl,w0,w1,w2⟩
end
end Go.AH
namespace Go.Proofs.Ytomioaiojidnbaa
open Go Go.AH Go.RowKit Go.WideShapes Go.ChangeShapes Go.AH.Dust
theorem Ko {b o k:Nat}:(⟨b,o,none⟩:Addr).add k=⟨b,o+k,none⟩:=by
 unfold Addr.add
 split
 ·rename_i h;subst h;rfl
 ·rfl
theorem listP_of {Q:Nat→Int×Int→Prop} {n:Nat} (h:∀ i<n,∃ p,Q i p):∃ l:List (Int×Int),l.length=n∧∀ i<n,Q i (gf l i):=by
 induction n with
 |zero=>exact ⟨[],rfl,fun i hi=>by omega⟩
 |succ n ih =>
  obtain ⟨l,h1,h2⟩:=ih fun i hi=>h i (by omega)
  obtain ⟨p,hp⟩:=h n (by omega)
  refine ⟨l++[p],by simp [h1],fun i hi=>?_⟩
  by_cases hin:i<n
  ·have:gf (l++[p]) i=gf l i:=by simp only [gf,List.getD_eq_getElem?_getD];rw [List.getElem?_append_left (by omega)]
   rw [this];exact h2 i hin
  ·obtain rfl:i=n:=by omega
   have:gf (l++[p]) i=p:=by simp only [gf,List.getD_eq_getElem?_getD];rw [List.getElem?_append_right (by omega),h1,Nat.sub_self];rfl
   rw [this];exact hp
section
variable {H:Type} {enc:TypeId×Value→H} {P:Program} {W:World}
theorem EI {t e:TypeId} {v:Value} {fuel:Nat} {x:DataW H×List MemPlace} (ht:P.underlying t=some (.slice e)) (he:P.underlying e=some (.int .i64)) (hc:P.cellsOf e=1)
  (hf:DataW.trod enc P W 0 (fun _=>true) true fuel t [v]=some x):∃ (l:List Int) (pl:Pl),J9 W v l.length 1 (ints l) pl:=by
 rcases open_ints ht he hc hf with ⟨hcs,-⟩|⟨a,len,cap,zs,hcs,-,hl,hm,hz,-,hcell,hwf⟩
 ·cases hcs
  exact ⟨[],⟨0,0,0⟩,⟨by simp,fun m ρ i hi hρ=>.emptySlice _ _ _ _,rfl,fun h=>absurd rfl h⟩⟩
 ·cases hcs
  simp only [if_true] at hz
  have hlz:(zs.take len).length=len:=by rw [List.length_take];omega
  have hm':len≤9223372036854775807:=by unfold maxLen at hm;omega
  by_cases h0:len=0
  ·subst h0
   exact ⟨[],⟨0,0,0⟩,⟨by simp,fun m ρ i hi hρ=>.emptySlice _ _ _ _,rfl,fun h=>absurd rfl h⟩⟩
  ·have h1:=hcell 0 (by omega)
   have ha:a.add 0=a:=by simp [Addr.add]
   rw [ha] at h1
   obtain ⟨hb,hs⟩:=cell_lt h1
   obtain ⟨b,o,sp⟩:=a
   simp only at hb hs
   subst hs
   refine ⟨zs.take len,⟨b,o,0⟩,⟨by omega,fun m ρ i hi hρ=>?_,by simp [ints],fun _=>⟨hb,fun k hk=>?_⟩⟩⟩
   ·rw [hlz]
    have:=VQ.slice (q:=false) (n:=m) (ρ:=ρ) i 0 len len cap hl hi
    rw [hρ] at this
    simpa using this
   ·have hk':k<len:=by
     simp only [ints,List.length_map] at hk
     omega
    have h2:=hcell k (by omega)
    have hk2:zs.getD k 0=(zs.take len)[k]'(by omega):=by
     rw [List.getElem_take,List.getD_eq_getElem?_getD,List.getElem?_eq_getElem (by omega)];rfl
    rw [Ko,hk2] at h2
    simpa [ints] using h2
theorem readF_pairs {t e f:TypeId} {v:Value} {fuel:Nat} {x:DataW H×List MemPlace} (ht:P.underlying t=some (.slice e)) (he:P.underlying e=some (.array 2 f)) (hf0:P.underlying f=some (.int .i64)) (hce:P.cellsOf e=2) (hcf:P.cellsOf f=1)
  (hf:DataW.trod enc P W 0 (fun _=>true) true fuel t [v]=some x):∃ (l:List (Int×Int)) (pl:Pl),J9 W v l.length 2 (pc l) pl:=by
 have hempty:∀ (a0:Option Addr) (cap:Nat),∃ (l:List (Int×Int)) (pl:Pl),J9 W (.slice a0 0 cap) l.length 2 (pc l) pl:=fun a0 cap =>
  ⟨[],⟨0,0,0⟩,⟨by simp,fun m ρ i hi hρ=>.emptySlice _ _ _ _,rfl,fun h=>absurd rfl h⟩⟩
 rcases Deep.open_slice ht hf with ⟨hcs,-⟩|⟨a,len,cap,m,n,D,Pl,hcs,-,hl,hm,hmm,-,hi⟩
 ·cases hcs;exact hempty _ _
 ·cases hcs
  simp only [if_true] at hmm
  by_cases h0:len=0
  ·subst h0;exact hempty _ _
  ·have each:∀ i<len,∃ q:Int×Int,W.cell? (a.add (i*2))=some (.int .i64 q.1)∧W.cell? ((a.add (i*2)).add 1)=some (.int .i64 q.2):=fun i hil=>by
    obtain ⟨cs,hc,htr⟩:=hi i (by omega)
    rw [hce] at hc
    obtain ⟨_,hcl,hat⟩:=World.cells?_some hc
    match cs,hcl with
    |[c0,c1],_ =>
     obtain ⟨zs,m',_,_,_,hlen2,hg2⟩:=DataW.trod_array he htr
     match zs,hlen2 with
     |[z0,z1],_ =>
      have q0:=hg2 0 (by omega)
      have q1:=hg2 1 (by omega)
      simp only [hcf,List.getElem?_cons_zero,List.getElem?_cons_succ] at q0 q1
      obtain ⟨n0,e0,_,w0⟩:=DataW.trod_int hf0 q0
      obtain ⟨n1,e1,_,w1⟩:=DataW.trod_int hf0 q1
      cases e0;cases e1
      have g0:=hat 0 (by omega)
      have g1:=hat 1 (by omega)
      have ha:(a.add (i*2)).add 0=a.add (i*2):=by simp [Addr.add]
      rw [ha] at g0
      exact ⟨(n0,n1),by simpa using g0,by simpa using g1⟩
   obtain ⟨l,hll,hq⟩:=listP_of each
   have h1:=(hq 0 (by omega)).1
   have ha:a.add (0*2)=a:=by simp [Addr.add]
   rw [ha] at h1
   obtain ⟨hb,hs⟩:=cell_lt h1
   obtain ⟨b,o,sp⟩:=a
   simp only at hb hs
   subst hs
   have hm':len≤9223372036854775807:=by unfold maxLen at hm;omega
   have hlen:=yD l
   refine ⟨l,⟨b,o,0⟩,⟨by omega,fun m ρ i hi hρ=>?_,by omega,fun _=>⟨hb,fun k hk=>?_⟩⟩⟩
   ·rw [hll]
    have:=VQ.slice (q:=false) (n:=m) (ρ:=ρ) i 0 len len cap hl hi
    rw [hρ] at this
    simpa using this
   ·obtain ⟨g0,g1⟩:=hq (k / 2) (by omega)
    simp only [Ko] at g0 g1
    have h3:=List.getElem?_eq_getElem (l:=pc l) (i:=k) hk
    rcases (show k % 2=0∨k % 2=1 by omega) with h2|h2
    ·have hg:=Px (f:=l) (i:=k / 2) (by omega)
     rw [show k / 2*2=k by omega,h3] at hg
     rw [show o+k=o+k / 2*2 by omega,g0];exact hg.symm
    ·have hg:=Py (f:=l) (i:=k / 2) (by omega)
     rw [show k / 2*2+1=k by omega,h3] at hg
     rw [show o+k=o+k / 2*2+1 by omega,g1];exact hg.symm
end
structure ShArg (W:World) (v:Value) (S:Shp) (a b c:Pl):Prop where
 fit:S.fit
 rel:∀ (m:Nat) (ρ:Rho) (i j k:Nat),i<m→j<m→k<m→ρ i=a→ρ j=b→ρ k=c→gY m ρ (shV i j k S) v
 d:∀ (ρ:Rho) (i m:Nat),ρ i=a→ints S.d ≠ []→(ρ i).b<W.heap.size∧∀ (k:Nat) (hk:k<(ints S.d).length),∃ v',W.cell? ⟨(ρ i).b,(ρ i).o+k,none⟩=some v'∧gY m ρ (ints S.d)[k] v'
 f:∀ (ρ:Rho) (i m:Nat),ρ i=b→pc S.f ≠ []→(ρ i).b<W.heap.size∧∀ (k:Nat) (hk:k<(pc S.f).length),∃ v',W.cell? ⟨(ρ i).b,(ρ i).o+k,none⟩=some v'∧gY m ρ (pc S.f)[k] v'
 s:∀ (ρ:Rho) (i m:Nat),ρ i=c→ints S.s ≠ []→(ρ i).b<W.heap.size∧∀ (k:Nat) (hk:k<(ints S.s).length),∃ v',W.cell? ⟨(ρ i).b,(ρ i).o+k,none⟩=some v'∧gY m ρ (ints S.s)[k] v'
set_option maxRecDepth 100000 in
theorem read_shop {H:Type} {enc:TypeId×Value→H} {W:World} {b0:Nat} {v:Value} {d:DataW H} {p:List MemPlace} (hval:Value.okWide Try.prog W .any b0 26 v) (h:DataW.Trod enc Try.prog W 0 (fun _=>true) true 26 v d p) :
  ∃ (S:Shp) (a b c:Pl),ShArg W v S a b c:=by
 obtain ⟨cs,rfl,hsz⟩:=okWide_struct Try.underlying26 hval
 have k26:Try.prog.cellsOf 26=3:=by kernel_rfl
 have hsz3:cs.size=3:=hsz.trans k26
 obtain ⟨l⟩:=cs
 match l,hsz3 with
 |[c0,c1,c2],_ =>
  obtain ⟨fuel,hf⟩:=h
  obtain ⟨xs,n,_,_,_,hlen,hg⟩:=DataW.trod_struct Try.underlying26 hf
  match xs,hlen with
  |[y0,y1,y2],_ =>
   have k70:Try.prog.cellsOf 70=2:=by kernel_rfl
   have k3:Try.prog.cellsOf 3=1:=by kernel_rfl
   have k2:Try.prog.cellsOf 2=1:=by kernel_rfl
   have g0:=hg 0 _ rfl
   have g1:=hg 1 _ rfl
   have g2:=hg 2 _ rfl
   simp only [Value.cells,List.getElem?_cons_zero,List.getElem?_cons_succ] at g0 g1 g2
   obtain ⟨sd,a,hd⟩:=EI Try.underlying22 Try.underlying2 k2 g0
   obtain ⟨sf,b,hf'⟩:=readF_pairs Try.underlying23 Try.underlying70 Try.underlying3 k70 k3 g1
   obtain ⟨ss,c,hs⟩:=EI Try.underlying24 Try.underlying3 k3 g2
   refine ⟨⟨sd,sf,ss⟩,a,b,c,⟨hd.len,hf'.len,hs.len⟩,fun m ρ i j k hi hj hk h1 h2 h3=>?_,fun ρ i m hi hne=>hd.hro (aK sd) ρ i m hi hne,fun ρ i m hi hne=>hf'.hro (dJ sf) ρ i m hi hne,fun ρ i m hi hne=>hs.hro (aK ss) ρ i m hi hne⟩
   refine .agg _ _ rfl fun r hr _=>?_
   match r,hr with
   |0,_=>exact hd.rel m ρ i hi h1
   |1,_=>exact hf'.rel m ρ j hj h2
   |2,_=>exact hs.rel m ρ k hk h3
end Go.Proofs.Ytomioaiojidnbaa
namespace Go.AH
open Go Go.RowKit Go.WideShapes Go.ChangeShapes
variable {H:Type} {enc:TypeId×Value→H} {P:Program} {W:World}
theorem read_u16 {b0:Nat} {t:TypeId} {v:Value} {d:DataW H} {p:List MemPlace} (ht:P.underlying t=some (.int .u16)) (hval:Value.okWide P W .any b0 t v)
  (h:DataW.Trod enc P W 0 (fun _=>true) true t v d p):∃ n:Int,v=.int .u16 n∧0≤n∧n≤65535:=by
 obtain ⟨n,rfl,_,_,wn⟩:=open_int ht hval h
 simp only [Lit.wf,Bool.and_eq_true,decide_eq_true_eq] at wn
 exact ⟨n,rfl,wn⟩
end Go.AH
namespace Go.Proofs.Ytomioaiojidnbaa
open Go Go.AH
attribute [local irreducible] dO dI dM kK iM gK iC dV iJ dQ iK iE
set_option maxRecDepth 100000
set_option maxHeartbeats 1000000
open Go.AH.Dust
theorem dustFewerN (S:Shp) (hS:S.fit) (w0 w1 w2 less p:Nat) (b0:w0≤255) (b1:w1≤255) (b2:w2≤255) (hl:less≤65535) (hp:p≤255) (lim:Int) (hlim:-9223372036854775808≤lim∧lim≤9223372036854775807) :
  Ev Try.prog 9 [shV 0 1 2 S,.agg #[.int .u8 (w0:Int),.int .u8 (w1:Int),.int .u8 (w2:Int)],.int .u16 (less:Int),.int .u8 (p:Int),.int .i64 lim] S.hp (.bool true) S.hp:=by
 by_cases h0:dG S=0
 ·exact dustFewerM (fun _ h=>JY h) S hS h0 w0 w1 w2 less p b0 b1 b2 hl hp lim hlim
 ·have hfi:=Gf (σ:=[.ro (ints S.d),.ro (pc S.f),.ro (ints S.s),.rw (shL 0 1 2 S),.rw [.int .u8 (w0:Int),.int .u8 (w1:Int),.int .u8 (w2:Int)]]) (S:=S) (x:=0) (y:=1) (z:=2) ⟨.inl rfl,.inl rfl,.inl rfl⟩ gW hS rfl
  rw [decide_eq_false h0] at hfi
  refine aX 3 268 Try.func9 rfl rfl rfl rfl rfl ?_
  repeat' (first|(refine gU ?_;first|(refine aI ?_;refine st (aA rfl) rfl rfl ?_)|(refine aU ?_;refine st (aZ rfl (by rfl)) rfl rfl ?_)|(refine kX ?_;refine st (gX rfl) rfl rfl ?_)|(refine fC ?_;refine st (bC rfl rfl rfl (by first|exact hfi|exact JY rfl)) rfl rfl ?_)|(refine kD ?_;refine st (gI rfl) rfl rfl ?_))|refine aS ?_|refine aj ?_|refine ah ?_|refine bg ?_|refine kL ?_|refine dX ?_|refine aQ rfl ?_)
  all_goals exact iF (.tmp rfl .nil) (.plain rfl rfl) ⟨rfl,rfl⟩
theorem dustFewer_law (S:Shp) (hS:S.fit) (x y z n m lim:Int) (hx:0≤x∧x≤255) (hy:0≤y∧y≤255) (hz:0≤z∧z≤255) (hn:0≤n∧n≤65535) (hm:0≤m∧m≤255) (hlim:-9223372036854775808≤lim∧lim≤9223372036854775807) :
  Ev Try.prog 9 [shV 0 1 2 S,.agg #[.int .u8 x,.int .u8 y,.int .u8 z],.int .u16 n,.int .u8 m,.int .i64 lim] S.hp (.bool true) S.hp:=by
 obtain ⟨w0,rfl⟩:∃ a:Nat,x=(a:Int):=⟨x.toNat,by omega⟩
 obtain ⟨w1,rfl⟩:∃ a:Nat,y=(a:Int):=⟨y.toNat,by omega⟩
 obtain ⟨w2,rfl⟩:∃ a:Nat,z=(a:Int):=⟨z.toNat,by omega⟩
 obtain ⟨less,rfl⟩:∃ a:Nat,n=(a:Int):=⟨n.toNat,by omega⟩
 obtain ⟨p,rfl⟩:∃ a:Nat,m=(a:Int):=⟨m.toNat,by omega⟩
 exact dustFewerN S hS w0 w1 w2 less p (by omega) (by omega) (by omega) (by omega) (by omega) lim hlim
end Go.Proofs.Ytomioaiojidnbaa
