/- As the text before it. -/
import Derived.Test.YtajpgeklmcjciaaGreatPxQ6b
set_option maxRecDepth 100000
set_option maxHeartbeats 8000000
namespace Go.AH.Heat
open Go Go.AH
theorem adE {W:Wk} {kB cK:Nat→Nat→Nat} {ks:Nat→Nat} {σ:Heap} {b n i:Nat} (h:σ[b]?=some (.rw (wyC W kB cK ks n))) (hi:i<n):aJ σ b i 1=some [.s (kB i (ks i)) (W.nk i (ks i)) (cK i (ks i))] :=
 yL (by rw [aF h];exact Qw hi)
end Go.AH.Heat
namespace Go.Proofs.YtajpgeklmcjciaaGreat
open Go Go.AH
attribute [local irreducible] bZ bK bM jB gy dO fC bW eU aX dV eH
open Go.AH.Heat
theorem aaq {σ:Heap} {W:Wk} {bB bS cB cS:Nat} {wB cW:Nat→Nat} {kB cK:Nat→Nat→Nat} {bar rb c:Nat} {ks:Nat→Nat} (hv:uf W) (hA:wM σ W bB bS wB cW kB cK) (hK:∀ i<W.ns,∀ k<W.nw i,W.nk i k≤cK i k) (hbar:bar<W.nb) (hks:∀ i<W.ns,ks i<W.nw i) (hrb:∀ i<W.ns,aH σ rb i=some (.i (ks i:Nat))) (hbB:bB < σ.length) (hbS:bS < σ.length) (hrl:rb < σ.length) (hni:σ.all (fun o=>!aU o)=true) {n:Nat} (hn:W.ns=n+1) :
  Ev Tryz.prog 20 [.agg #[.s bB W.nb cB,.s bS W.ns cS],.agg #[.i (bar:Nat),.s rb W.ns c]] σ (.tuple #[.s σ.length (n+2) (n+2),.i 0]) (σ++[.rw (rgC (W.rg ks (W.bf bar)) (n+2))]):=by
 have hnb3:=hv.b2
 refine aI σ.length 25 Tryz.func20 rfl rfl rfl rfl rfl ?_
 have a0:(σ++[aB.rw [.s bB W.nb cB,.s bS W.ns cS]]++[aB.rw [.i (bar:Nat),.s rb W.ns c]])[σ.length]?=some (.rw [.s bB W.nb cB,.s bS W.ns cS]):=aA aO
 have a1:(σ++[aB.rw [.s bB W.nb cB,.s bS W.ns cS]]++[aB.rw [.i (bar:Nat),.s rb W.ns c]])[(σ++[aB.rw [.s bB W.nb cB,.s bS W.ns cS]]).length]?=some (.rw [.i (bar:Nat),.s rb W.ns c]):=aO
 have hniH:(σ++[aB.rw [.s bB W.nb cB,.s bS W.ns cS]]++[aB.rw [.i (bar:Nat),.s rb W.ns c]]).all (fun o=>!aU o)=true:=bF (bF hni rfl) rfl
 have hp:(σ++[aB.rw [.s bB W.nb cB,.s bS W.ns cS]]++[aB.rw [.i (bar:Nat),.s rb W.ns c]]).take σ.length=σ:=oS
 have hle:=take_len hp
 have a:∀ i<W.ns,aH (σ++[aB.rw [.s bB W.nb cB,.s bS W.ns cS]]++[aB.rw [.i (bar:Nat),.s rb W.ns c]]) rb i=some (.i (ks i:Nat)):=fun i hi=>by
  rw [cD,jP hrl];exact hrb i hi
 have hf1:=YD (σ:=σ++[aB.rw [.s bB W.nb cB,.s bS W.ns cS]]++[aB.rw [.i (bar:Nat),.s rb W.ns c]]) (cB:=cB) (cS:=cS) (c:=c) hv (hA.take hp) hK hbar hks a oO oO oO hniH
 have d:slN (σ++[aB.rw [.s bB W.nb cB,.s bS W.ns cS]]++[aB.rw [.i (bar:Nat),.s rb W.ns c]]).length W.ns=.s ((σ++[aB.rw [.slice (some ⟨bB,0,none⟩) W.nb cB,.slice (some ⟨bS,0,none⟩) W.ns cS]]++[aB.rw [.i (bar:Nat),.slice (some ⟨rb,0,none⟩) W.ns c]]).length) W.ns W.ns:=by rw [hn];rfl
 rw [d] at hf1
 have hd1:aJ (σ++[aB.rw [.s bB W.nb cB,.s bS W.ns cS]]++[aB.rw [.i (bar:Nat),.s rb W.ns c]]++[aB.rw (wyC W kB cK ks W.ns)]) bB (0+bar*2) 2=some [.i (W.bf bar).1,.i (W.bf bar).2]:=by rw [bA];exact (hA.take (aT hp)).bars bar hbar
 have hf2:=WX (σ:=σ++[aB.rw [.s bB W.nb cB,.s bS W.ns cS]]++[aB.rw [.i (bar:Nat),.s rb W.ns c]]++[aB.rw (wyC W kB cK ks W.ns)]) (wb:=(σ++[aB.rw [.s bB W.nb cB,.s bS W.ns cS]]++[aB.rw [.i (bar:Nat),.s rb W.ns c]]).length) (c:=W.ns) (r:=W.bf bar) hv (hA.take (aT hp)) hks (hv.b bar hbar) hn (fun i hi=>adE aO hi) (bF hniH rfl)
 rw [← hn] at hf2
 repeat' (first|refine sCm ?_|(refine gU ?_;first|(refine bV ?_;first|refine st (aK rfl (by first|exact aF (aA a0)|exact aF (aA a1))) rfl rfl ?_|refine st (bD rfl (by first|exact aV a0 rfl|exact aV a1 rfl|assumption)) rfl rfl ?_)|refine sK0 ?_|refine sK3 ?_|(refine dX ?_;refine st (bG rfl rfl rfl (by first|exact hf1|exact hf2)) rfl rfl ?_))|refine aG ?_|refine eu rfl ?_)
 have s0:fK σ.length [(σ++[aB.rw [.s bB W.nb cB,.s bS W.ns cS]]++[aB.rw [.i (bar:Nat),.s rb W.ns c]]++[aB.rw (wyC W kB cK ks W.ns)]).length] σ.length=⟨(σ++[aB.rw [.s bB W.nb cB,.s bS W.ns cS]]++[aB.rw [.i (bar:Nat),.s rb W.ns c]]++[aB.rw (wyC W kB cK ks W.ns)]).length,0,0⟩:=by simp [fK]
 exact dK (v2:=.tuple #[.s σ.length (n+2) (n+2),.i 0]) (.tmp rfl (.tmp rfl .nil)) (aX.src [.rw (rgC (W.rg ks (W.bf bar)) (n+2))] [(σ++[aB.rw [.s bB W.nb cB,.s bS W.ns cS]]++[aB.rw [.i (bar:Nat),.s rb W.ns c]]++[aB.rw (wyC W kB cK ks W.ns)]).length] (aT (aT hp)) rfl (by simp [dF]) ⟨oN s0 (.inl aO) (yD _ _),trivial⟩ (sJ (kX oS s0 (aD _)) (.i 0))) ⟨rfl,rfl⟩
end Go.Proofs.YtajpgeklmcjciaaGreat
namespace Go.AH.Heat
open Go Go.AH
def Wk.nowH (W:Wk) (ks:Nat→Nat) (hs:Nat→Int) (r:Int×Int):Nat→Int×Int
 |0=>r
 |i+1=>qp (W.nk i (ks i)) (W.kf i (ks i)) (hs i)
theorem afl {W:Wk} (hv:uf W) {ks:Nat→Nat} (hks:∀ i<W.ns,ks i<W.nw i) {hs:Nat→Int} {r:Int×Int} (hr:jM r):∀ i≤W.ns,jM (W.nowH ks hs r i)
 |0,_=>hr
 |i+1,h=>by
  have a:=hv.k i oO (ks i) (hks i oO)
  have l1:=AL (W.kf i (ks i)) (hs i) (W.nk i (ks i) - 1)
  have:=a.n1
  exact (a.k _ oO).2.2.1
end Go.AH.Heat
namespace Go.Proofs.YtajpgeklmcjciaaGreat
open Go Go.AH
attribute [local irreducible] bZ bK bM jB gy dO fC bW eU aX dV eH
open Go.AH.Heat
theorem Dn {A B:Prop} (k:B) (h:Hide B→A:=by intro h_k_;(repeat' (first|refine sCm ?_|(refine gU ?_;first|(refine bV ?_;first|refine st (aK rfl (by first|exact aF (aA a0)|exact aF (aA a1)|exact aF a9|assumption)) rfl rfl ?_|refine st (bD rfl (by first|exact aV a0 rfl|exact aV a1 rfl|assumption)) rfl rfl ?_)|refine sK0 ?_|refine LK ?_|(refine gIA ?_;first|refine st (nC rfl rfl (by omega)) rfl rfl ?_|refine st (iV rfl rfl (by omega)) rfl rfl ?_)|(refine dX ?_;refine st (bG rfl rfl rfl (by first|exact hf1|exact hf2|exact xq (l:=[hs i]) (.inr (.inl aO)) (by simp) (bF hniH rfl))) rfl rfl ?_)|refine Hw ?_|refine JV ?_)|refine dB (id:=7) ?_|refine dB (id:=12) ?_|refine aG ?_|refine dZ rfl ?_|refine eu rfl ?_));exact h_k_.h):A:=h ⟨k⟩
theorem Ic {σ:Heap} {W:Wk} {bB bS cB cS:Nat} {wB cW:Nat→Nat} {kB cK:Nat→Nat→Nat} {bar rb c:Nat} {ks:Nat→Nat} (hv:uf W) (hA:wM σ W bB bS wB cW kB cK) (hK:∀ i<W.ns,∀ k<W.nw i,W.nk i k≤cK i k) (hbar:bar<W.nb) (hks:∀ i<W.ns,ks i<W.nw i) (hrb:∀ i<W.ns,aH σ rb i=some (.i (ks i:Nat))) (hbB:bB < σ.length) (hbS:bS < σ.length) (hrl:rb < σ.length) (hni:σ.all (fun o=>!aU o)=true) {hb ch n:Nat} {hs:Nat→Int} (hn:W.ns=n+1) (hh:∀ i≤W.ns,aH σ hb i=some (.i (hs i))) (hhl:hb < σ.length) (hin:∀ i≤W.ns,(W.nowH ks hs (W.bf bar) i).1≤hs i∧hs i≤(W.nowH ks hs (W.bf bar) i).2) :
  Ev Tryz.prog 22 [.agg #[.s bB W.nb cB,.s bS W.ns cS],.agg #[.i (bar:Nat),.s rb W.ns c],.s hb (W.ns+1) ch] σ (.i 0) σ:=by
 have hnb3:=hv.b2
 have hns3:=hv.s
 refine aI σ.length 61 Tryz.func22 rfl rfl rfl rfl rfl ?_
 have a0:(σ++[aB.rw [.s bB W.nb cB,.s bS W.ns cS]]++[aB.rw [.i (bar:Nat),.s rb W.ns c]])[σ.length]?=some (.rw [.s bB W.nb cB,.s bS W.ns cS]):=aA aO
 have a1:(σ++[aB.rw [.s bB W.nb cB,.s bS W.ns cS]]++[aB.rw [.i (bar:Nat),.s rb W.ns c]])[(σ++[aB.rw [.s bB W.nb cB,.s bS W.ns cS]]).length]?=some (.rw [.i (bar:Nat),.s rb W.ns c]):=aO
 have hniH:(σ++[aB.rw [.s bB W.nb cB,.s bS W.ns cS]]++[aB.rw [.i (bar:Nat),.s rb W.ns c]]).all (fun o=>!aU o)=true:=bF (bF hni rfl) rfl
 have hp:(σ++[aB.rw [.s bB W.nb cB,.s bS W.ns cS]]++[aB.rw [.i (bar:Nat),.s rb W.ns c]]).take σ.length=σ:=oS
 have L:=take_len hp
 have g:∀ i<W.ns,aH (σ++[aB.rw [.s bB W.nb cB,.s bS W.ns cS]]++[aB.rw [.i (bar:Nat),.s rb W.ns c]]) rb i=some (.i (ks i:Nat)):=fun i hi=>by
  rw [cD,jP hrl];exact hrb i hi
 have hf1:=YD (σ:=σ++[aB.rw [.s bB W.nb cB,.s bS W.ns cS]]++[aB.rw [.i (bar:Nat),.s rb W.ns c]]) (cB:=cB) (cS:=cS) (c:=c) hv (hA.take hp) hK hbar hks g oO oO oO hniH
 have D:slN (σ++[aB.rw [.s bB W.nb cB,.s bS W.ns cS]]++[aB.rw [.i (bar:Nat),.s rb W.ns c]]).length W.ns=.s ((σ++[aB.rw [.slice (some ⟨bB,0,none⟩) W.nb cB,.slice (some ⟨bS,0,none⟩) W.ns cS]]++[aB.rw [.i (bar:Nat),.slice (some ⟨rb,0,none⟩) W.ns c]]).length) W.ns W.ns:=by rw [hn];rfl
 rw [D] at hf1
 have hd1:aJ (σ++[aB.rw [.s bB W.nb cB,.s bS W.ns cS]]++[aB.rw [.i (bar:Nat),.s rb W.ns c]]++[aB.rw (wyC W kB cK ks W.ns)]) bB (0+bar*2) 2=some [.i (W.bf bar).1,.i (W.bf bar).2]:=by rw [bA];exact (hA.take (aT hp)).bars bar hbar
 have hlen1:¬ (((W.ns+1:Nat):Int) ≠ ((W.ns:Nat):Int)+1):=oO
 refine Dn ?_
 obtain ⟨K,e⟩:∃ K,K=σ++[aB.rw [.s bB W.nb cB,.s bS W.ns cS]]++[aB.rw [.i (bar:Nat),.s rb W.ns c]]++[aB.rw (wyC W kB cK ks W.ns)]++[aB.rw [.i (W.bf bar).1,.i (W.bf bar).2]]:=⟨_,rfl⟩
 obtain ⟨wy,f⟩:∃ wy,wy=(σ++[aB.rw [.s bB W.nb cB,.s bS W.ns cS]]++[aB.rw [.i (bar:Nat),.s rb W.ns c]]).length:=⟨_,rfl⟩
 refine .mk (dH [(2,.s hb (W.ns+1) ch),(6,.i 0),(7,.s wy W.ns W.ns),(9,.p (wy+1))] K (by rw [e];rfl) ⟨rfl,rfl,by rw [f];rfl,by rw [f];simp [Env.get],trivial⟩ ?_)
 have hwl:wy=σ.length+2:=by rw [f];simp
 have F:K.take σ.length=σ:=by rw [e];exact aT (aT hp)
 have j:K.all (fun o=>!aU o)=true:=by rw [e];exact bF (bF hniH rfl) rfl
 have b7:K[wy]?=some (.rw (wyC W kB cK ks W.ns)):=by rw [e,f];exact aA aO
 have b9:K[wy+1]?=some (.rw [.i (W.bf bar).1,.i (W.bf bar).2]):=by rw [e,f];exact bJ oS
 clear hf1 a0 a1 hniH hp L g D hd1 e f
 apply aG
 refine Dn ?_
 refine dS (ι:=Nat) (fun i=>[(6,.i 0),(7,.s wy W.ns W.ns),(9,.p (wy+1)),(35,.s hb (W.ns+1) ch),(36,.i ((W.ns+1:Nat):Int)),(37,.i (i:Nat))])
  (fun i mk H=>i≤W.ns+1∧mk=[]∧H.take σ.length=σ∧H.all (fun o=>!aU o)=true∧H[wy]?=some (.rw (wyC W kB cK ks W.ns))∧∃ x y:Int,H[wy+1]?=some (.rw [.i x,.i y])∧(i≤W.ns→(x,y)=(W.nowH ks hs (W.bf bar) i))) (fun i=>W.ns+1 - i) 0 tE ⟨bN _,rfl,F,j,b7,_,_,b9,fun _=>rfl⟩ ?_
 clear F j b7 b9 K
 rintro i mk H ⟨hi,rfl,hp,hniH,b7,x,y,a9,t⟩
 by_cases hiN:i<W.ns+1
 ·have G:(i:Int)<((W.ns+1:Nat):Int):=oO
  have t:=t oO
  have m:=hin i oO
  rw [← t] at m
  have hd1:aH H hb i=some (.i (hs i)):=by
   have:=hh i oO
   unfold aH at this ⊢
   rw [iY hp hhl];exact this
  have I:¬ ¬ (∀ z ∈ [hs i],x≤z∧z≤y):=fun h=>h fun z hz=>by
   simp only [fc] at hz
   subst hz;exact m
  refine Dn ?_
  obtain ⟨H1,d⟩:∃ H1,H1=H++[aB.rw [.i (hs i)]]:=⟨_,rfl⟩
  refine .mk (dH [(6,.i 0),(7,.s wy W.ns W.ns),(9,.p (wy+1)),(10,.i (i:Nat)),(11,.i (hs i)),(35,.s hb (W.ns+1) ch),(36,.i ((W.ns+1:Nat):Int)),(37,.i (i:Nat))] H1 d.symm tE ?_)
  have hp1:H1.take σ.length=σ:=by rw [d];exact aT hp
  have q:H1.all (fun o=>!aU o)=true:=by rw [d];exact bF hniH rfl
  have c7:H1[wy]?=some (.rw (wyC W kB cK ks W.ns)):=by rw [d];exact aA b7
  have c9:H1[wy+1]?=some (.rw [.i x,.i y]):=by rw [d];exact aA a9
  clear d hd1 I a9 b7 hniH
  apply aG
  by_cases a:i<W.ns
  ·have u:(i:Int)<(W.ns:Nat):=oO
   have E:=hks i a
   have C:=hv.k i a _ E
   have hd1:=adE c7 a
   have J:0≤hs i:=by
    have:=afl hv hks (hs:=hs) (hv.b bar hbar) i oO
    rw [← t] at this
    have h1:0≤x:=this.1
    omega
   have hf2:=AO (σ:=H1) (c:=cK i (ks i)) (h:=hs i) C.n1 (by have:=C.n2;omega) (by rw [C.z];exact J) ((hA.take hp1).kinks i a (ks i) E)
   have r:∀ v w,putCells H1 (wy+1) 0 [v,w]=some (H1.set (wy+1) (.rw [v,w])):=fun v w=>fM c9 oS oS rfl
   refine Dn ?_
   refine stN (bU rfl rfl rfl rfl (by exact r _ _)) rfl ?_
   refine Dn ?_
   exact ⟨i+1,⟨oO,rfl,take_set hp1 oO,ku q rfl,aC c7 oO,_,_,aS c9,fun _=>rfl⟩,oO,tE⟩
  ·have u:¬ (i:Int)<(W.ns:Nat):=oO
   refine Dn ?_
   exact ⟨i+1,⟨oO,rfl,hp1,q,c7,x,y,c9,fun h=>oO⟩,oO,tE⟩
 ·obtain rfl:i=W.ns+1:=oO
  have G:¬ ((W.ns+1:Nat):Int)<((W.ns+1:Nat):Int):=oO
  refine Dn ?_
  exact dK (.tmp rfl .nil) (.plain hp rfl) ⟨rfl,rfl⟩
end Go.Proofs.YtajpgeklmcjciaaGreat
namespace Go.Proofs.YtajpgeklmcjciaaGreat
open Go Go.AH
def stn:Value:=.agg #[.int .i64 3000,.int .i64 1500,.int .i64 10,.int .i64 540000,.int .i64 720000]
def pul:List Value:=[.int .i64 200,.int .i64 250,.int .i64 260,.int .i64 300,.int .i64 390]
def pul2:List Value:=[.int .i64 200,.int .i64 250,.int .i64 260,.int .i64 300,.int .i64 400]
def s5:Value:=.slice (some ⟨0,0,none⟩) 5 5
def knA0:Known:=⟨151,[stn,s5,.int .i64 0],[pul],.tuple #[.agg #[.int .i64 2710,.int .i64 3000],.int .i64 0],[]⟩
theorem afm:jy Tryz.prog knA0:=⟨lU (orc:=orc) tabOk nY mixed (n:=200) (lo:=1) oK,oK,oK⟩
def knA1:Known:=⟨151,[stn,s5,.int .i64 1],[pul],.tuple #[.agg #[.int .i64 2170,.int .i64 2870],.int .i64 0],[]⟩
theorem afn:jy Tryz.prog knA1:=⟨lU (orc:=orc) tabOk nY mixed (n:=200) (lo:=1) oK,oK,oK⟩
def knA2:Known:=⟨151,[stn,s5,.int .i64 2],[pul],.tuple #[.agg #[.int .i64 2087,.int .i64 2759],.int .i64 0],[]⟩
theorem afo:jy Tryz.prog knA2:=⟨lU (orc:=orc) tabOk nY mixed (n:=200) (lo:=1) oK,oK,oK⟩
def knA3:Known:=⟨151,[stn,s5,.int .i64 3],[pul],.tuple #[.agg #[.int .i64 1810,.int .i64 2390],.int .i64 0],[]⟩
theorem afp:jy Tryz.prog knA3:=⟨lU (orc:=orc) tabOk nY mixed (n:=200) (lo:=1) oK,oK,oK⟩
def knA4:Known:=⟨151,[stn,s5,.int .i64 4],[pul],.tuple #[.agg #[.int .i64 1500,.int .i64 1836],.int .i64 0],[]⟩
theorem afq:jy Tryz.prog knA4:=⟨lU (orc:=orc) tabOk nY mixed (n:=200) (lo:=1) oK,oK,oK⟩
def knG1:Known:=⟨152,[stn,s5],[pul],.tuple #[.int .i64 0,.int .i64 5],[]⟩
theorem afr:jy Tryz.prog knG1:=⟨lU (orc:=orc) tabOk nY mixed (n:=200) (lo:=1) oK,oK,oK⟩
def knG2:Known:=⟨152,[stn,s5],[pul2],.tuple #[.int .i64 1809,.int .i64 0],[]⟩
theorem afs:jy Tryz.prog knG2:=⟨lU (orc:=orc) tabOk nY mixed (n:=200) (lo:=1) oK,oK,oK⟩
def run4 (a b c d e f g h:Int):List Value:=[.int .i64 a,.int .i64 b,.int .i64 c,.int .i64 d,.int .i64 e,.int .i64 f,.int .i64 g,.int .i64 h]
def s4:Value:=.slice (some ⟨1,0,none⟩) 4 4
def knP:Known:=⟨14,[stn,s5],[pul],.tuple #[.slice (some ⟨1,0,none⟩) 4 4,.int .i64 0],[.rw [.int .i64 3000,.int .i64 0,.int .i64 2709,.int .i64 2,.int .i64 2086,.int .i64 3,.int .i64 1809,.int .i64 4]]⟩
theorem ah1:jy Tryz.prog knP:=⟨lU (orc:=orc) tabOk nY mixed (n:=200) (lo:=1) oK,oK,oK⟩
def knX:Known:=⟨154,[stn,s5],[pul],.tuple #[.slice (some ⟨1,0,none⟩) 4 4,.int .i64 0],[.rw [.int .i64 3000,.int .i64 2709,.int .i64 2086,.int .i64 1809]]⟩
theorem ah2:jy Tryz.prog knX:=⟨lU (orc:=orc) tabOk nY mixed (n:=200) (lo:=1) oK,oK,oK⟩
def knC1:Known:=⟨23,[stn,s5,s4],[pul,run4 3000 0 2800 1 2100 3 1836 4],.int .i64 19,[]⟩
theorem afu:jy Tryz.prog knC1:=⟨lU (orc:=orc) tabOk nY mixed (n:=200) (lo:=2) oK,oK,oK⟩
def knC2:Known:=⟨23,[stn,s5,s4],[pul,run4 3000 0 2800 1 2169 3 1836 4],.int .i64 0,[]⟩
theorem afv:jy Tryz.prog knC2:=⟨lU (orc:=orc) tabOk nY mixed (n:=200) (lo:=2) oK,oK,oK⟩
def knV:Known:=⟨15,[stn,s5,s4],[pul,run4 3000 0 2709 2 2086 3 1809 4],.tuple #[.agg #[.int .i64 540000,.int .i64 709410],.int .i64 0],[]⟩
theorem ah3:jy Tryz.prog knV:=⟨lU (orc:=orc) tabOk nY mixed (n:=200) (lo:=2) oK,oK,oK⟩
def knQ:Known:=⟨155,[stn,s5,.slice (some ⟨1,0,none⟩) 3 3],[pul,[.int .i64 3000,.int .i64 2800,.int .i64 2000]],.int .i64 14,[]⟩
theorem ah4:jy Tryz.prog knQ:=⟨lU (orc:=orc) tabOk nY mixed (n:=200) (lo:=2) oK,oK,oK⟩
def knF1:Known:=⟨156,[stn,s5,.int .i64 1],[pul],.tuple #[.int .i64 2710,.int .i64 0],[]⟩
theorem afw:jy Tryz.prog knF1:=⟨lU (orc:=orc) tabOk nY mixed (n:=200) (lo:=1) oK,oK,oK⟩
def knF2:Known:=⟨156,[stn,s5,.int .i64 2],[pul],.tuple #[.int .i64 2087,.int .i64 0],[]⟩
theorem afx:jy Tryz.prog knF2:=⟨lU (orc:=orc) tabOk nY mixed (n:=200) (lo:=1) oK,oK,oK⟩
def knF4:Known:=⟨156,[stn,s5,.int .i64 4],[pul],.tuple #[.int .i64 1500,.int .i64 0],[]⟩
theorem afy:jy Tryz.prog knF4:=⟨lU (orc:=orc) tabOk nY mixed (n:=200) (lo:=1) oK,oK,oK⟩
def knK:Known:=⟨157,[stn,s5],[pul],.tuple #[.slice (some ⟨1,0,none⟩) 5 5,.int .i64 0],[.rw [.int .i64 2,.int .i64 1,.int .i64 1,.int .i64 2,.int .i64 2]]⟩
theorem ah5:jy Tryz.prog knK:=⟨lU (orc:=orc) tabOk nY mixed (n:=200) (lo:=1) oK,oK,oK⟩
def ksW:List Known:=[knA0,knA1,knA2,knA3,knA4,knG1,knG2,knP,knX,knC1,knC2,knV,knQ,knF1,knF2,knF4,knK]
theorem ah6:∀ k ∈ ksW,jy Tryz.prog k:=by intro k hk;simp only [ksW,List.mem_cons,List.not_mem_nil,or_false] at hk;rcases hk with rfl|rfl|rfl|rfl|rfl|rfl|rfl|rfl|rfl|rfl|rfl|rfl|rfl|rfl|rfl|rfl|rfl <;> first|exact afm|exact afn|exact afo|exact afp|exact afq|exact afr|exact afs|exact ah1|exact ah2|exact afu|exact afv|exact ah3|exact ah4|exact afw|exact afx|exact afy|exact ah5
def knW:Known:=⟨67,[],[],.bool true,[]⟩
theorem ah7:jy Tryz.prog knW:=⟨lU (orc:=aaJ orc (Jb ksW)) tabOk (aaK nY (MO ah6)) mixed (n:=200) (lo:=0) oK,oK,oK⟩
attribute [local irreducible] bZ bK bM jB gy dO fC bW eU aX dV eH
open Go.AH.Heat Go.AH.Warp
theorem pR {σ X:Heap} {i:Nat} {cs:List Value} (h:dN σ i cs):dN (σ++X) i cs:=by
 rcases h with h|h|⟨t,h⟩
 ·exact .inl (aA h)
 ·exact .inr (.inl (aA h))
 ·exact .inr (.inr ⟨t,aA h⟩)
theorem jI {σ H:Heap} {i:Nat} {cs:List Value} (hp:H.take σ.length=σ) (h:dN σ i cs):dN H i cs:=by
 have hi:=jF h
 unfold dN at h ⊢
 rw [iY hp hi];exact h
theorem aar {n:Nat} {π:Rho} {a b a' b':Value} (h1:jG n π a a') (h2:jG n π b b'):jG n π (.agg #[a,b]) (.agg #[a',b']):=by
 refine .agg _ _ rfl fun i h _=>?_
 simp at h
 rcases (by omega:i=0∨i=1) with rfl|rfl
 ·exact h1
 ·exact h2
theorem Dp {σ:Heap} (hni:σ.all (fun o=>!aU o)=true):Ev Tryz.prog 12 [] σ (.bool true) σ:=by
 have hf1:Ev Tryz.prog 65 [] σ (.bool true) σ:=Ev.nil aap.1 rfl rfl hni
 have hf2:Ev Tryz.prog 66 [] σ (.bool true) σ:=Ev.nil aam.1 rfl rfl hni
 have hf3:Ev Tryz.prog 67 [] σ (.bool true) σ:=Ev.nil ah7.1 rfl rfl hni
 refine aI σ.length 8 Tryz.func12 rfl rfl rfl rfl rfl ?_
 repeat' (first|refine sCm ?_|(refine gU ?_;first|(refine nN ?_;refine st (kR rfl oR rfl) rfl rfl ?_)|(refine dX ?_;refine st (bG rfl rfl rfl (by exact hf1)) rfl rfl ?_))|(refine gG ?_;(refine dX ?_;refine stG rfl oR (bG rfl rfl rfl (by first|exact hf2|exact hf3)) rfl rfl ?_))|refine aG ?_)
 exact dK (.tmp rfl .nil) .all ⟨rfl,rfl⟩
theorem agr {A B:Prop} (k:B) (h:Hide B→A:=by intro h_k_;(repeat' (first|refine sCm ?_|(refine gU ?_;first|refine sK4 ?_|(refine gV ?_;refine stN (bU rfl rfl rfl rfl (by exact vk rfl rfl)) rfl ?_))|refine aG ?_));exact h_k_.h):A:=h ⟨k⟩
theorem ah8 {σ:Heap} {lo hi:Int}:Ev Tryz.prog 131 [.i lo,.i hi] σ (.agg #[.i lo,.i hi]) σ:=by
 refine aI σ.length 8 Tryz.func131 rfl rfl rfl rfl rfl ?_
 refine agr ?_
 exact dK (.cellN inferInstance rfl (dU rfl) .nil) (aX.plain oS rfl) ⟨rfl,rfl⟩
theorem afz {σ:Heap} {k lo hi:Int}:Ev Tryz.prog 75 [.i k,.i lo,.i hi] σ (.agg #[.i k,.i lo,.i hi]) σ:=by
 refine aI σ.length 12 Tryz.func75 rfl rfl rfl rfl rfl ?_
 have hf1:=ah8 (σ:=σ++[aB.rw [.i 0,.i 0,.i 0]]) (lo:=lo) (hi:=hi)
 repeat' (first|refine sCm ?_|(refine gU ?_;first|refine sK4 ?_|(refine dX ?_;refine st (bG rfl rfl rfl (by exact hf1)) rfl rfl ?_)|(refine gV ?_;refine stN (bU rfl rfl rfl rfl (by exact vk rfl rfl)) rfl ?_))|refine aG ?_)
 exact dK (.cellN inferInstance rfl (dU rfl) .nil) (aX.plain oS rfl) ⟨rfl,rfl⟩
theorem aas {σ:Heap} {bar:Int} {b n c:Nat} (hb:b < σ.length):Ev Tryz.prog 19 [.i bar,.s b n c] σ (.agg #[.i bar,.s b n c]) σ:=by
 refine aI σ.length 8 Tryz.func19 rfl rfl rfl rfl rfl ?_
 refine agr ?_
 have h:=aX.src (σin:=σ) (σ:=σ++[aB.rw [.i bar,.s b n c]]) (v:=.agg #[.i bar,.s b n c]) (v2:=.agg #[.i bar,.s b n c]) [] [] oS rfl rfl trivial (aar (.i bar) (kX (by simp;omega) (fE hb) (aD _)))
 rw [bL] at h
 exact dK (.cellN inferInstance rfl (dU rfl) .nil) h ⟨rfl,rfl⟩
theorem ags {A B:Prop} (k:B) (h:Hide B→A:=by intro h_k_;(repeat' (first|refine sCm ?_|(refine gU ?_;first|refine sK0 ?_|(refine nN ?_;first|refine st (kR rfl (by exact eX (by assumption)) rfl) rfl rfl ?_|refine st (jA rfl (by exact cZ (by assumption)) rfl) rfl rfl ?_))|(refine gG ?_;first|(refine zx ?_;refine stG rfl (by exact eX (by assumption)) (eP rfl) rfl rfl ?_)|(refine bV ?_;refine stG rfl (by exact eX (by assumption)) (bD rfl (by exact dU rfl)) rfl rfl ?_)|(refine BK ?_;refine stG rfl (by exact eX (by assumption)) (jm rfl rfl rfl) rfl rfl ?_)|(refine dX ?_;refine stG rfl (by exact eX (by assumption)) (bG rfl rfl rfl (by exact hf1)) rfl rfl ?_)|refine stS rfl (by exact cZ (by assumption)) rfl ?_)|refine aG ?_));exact h_k_.h):A:=h ⟨k⟩
theorem Xc {σ:Heap} {s:St} {l:List Int} {x c:Nat} (hx:dN σ x (ints l)) (hni:σ.all (fun o=>!aU o)=true) :
  Ev Tryz.prog 11 [s.val,.s x l.length c] σ (.bool (decide (l.length≤20∧iD s l=0))) σ:=by
 have hniH:(σ++[aB.rw s.cells]).all (fun o=>!aU o)=true:=bF hni rfl
 have hxl:x < σ.length:=jF hx
 have a:dN (σ++[aB.rw s.cells]) x (ints l):=pR hx
 have hf1:=rZ (s:=s) (c:=c) a hniH
 refine aI σ.length 14 Tryz.func11 rfl rfl rfl rfl rfl ?_
 by_cases h1:(l.length:Int)≤20
 ·refine ags ?_
  refine dK (.tmp rfl .nil) (.plain oS rfl) ⟨?_,rfl⟩
  simp [jY];omega
 ·refine ags ?_
  refine dK (.tmp rfl .nil) (.plain oS rfl) ⟨?_,rfl⟩
  simp [jY];omega
theorem UD {A B:Prop} (k:B) (h:Hide B→A:=by intro h_k_;(repeat' (first|refine sCm ?_|(refine gU ?_;first|(refine bV ?_;first|refine st (aK rfl (by first|exact ig rfl|exact aF a0|exact hd1|exact hd2)) rfl rfl ?_|refine st (bD rfl (by exact aV a0 rfl)) rfl rfl ?_)|refine sK0 ?_|(refine nN ?_;refine st (jA rfl (by exact cZ (by assumption)) rfl) rfl rfl ?_)|refine sK1 ?_|(refine dX ?_;refine st (bG rfl rfl rfl (by exact hf1)) rfl rfl ?_))|(refine gG ?_;first|(refine gFA ?_;refine stG rfl (by exact cZ (by assumption)) (aZ rfl) rfl rfl ?_)|(refine bV ?_;refine stG rfl (by exact cZ (by assumption)) (aK rfl (by exact ig rfl)) rfl rfl ?_)|refine SL ?_|(refine ET ?_;refine stG rfl (by exact cZ (by assumption)) (lJ rfl) rfl rfl ?_))|refine aG ?_|refine sK2 ?_|refine sK6 ?_|fail));exact h_k_.h):A:=h ⟨k⟩
theorem Xd {σ:Heap} {W:Wk} {bB bS cB cS:Nat} {wB cW:Nat→Nat} {kB cK:Nat→Nat→Nat} (hv:uf W) (hA:wM σ W bB bS wB cW kB cK) (hni:σ.all (fun o=>!aU o)=true) :
  Ev Tryz.prog 18 [.agg #[.s bB W.nb cB,.s bS W.ns cS]] σ (.bool true) σ:=by
 refine aI σ.length 56 Tryz.func18 rfl rfl rfl rfl rfl ?_
 have h2:=hv.b2
 have h3:=hv.s
 have a0:(σ++[aB.rw [.s bB W.nb cB,.s bS W.ns cS]])[σ.length]?=some (.rw [.s bB W.nb cB,.s bS W.ns cS]):=aO
 have hp:(σ++[aB.rw [.s bB W.nb cB,.s bS W.ns cS]]).take σ.length=σ:=oS
 have a:(σ++[aB.rw [.s bB W.nb cB,.s bS W.ns cS]]).all (fun o=>!aU o)=true:=bF hni rfl
 have d:=hA.take hp
 have hn3:¬ (W.nb:Int) > 10:=oO
 have hn4:¬ (W.ns:Int) > 10:=oO
 refine UD ?_
 obtain ⟨K,hK⟩:∃ K,K=σ++[aB.rw [.s bB W.nb cB,.s bS W.ns cS]]:=⟨_,rfl⟩
 rw [← hK] at a0 hp a d
 refine dS (ι:=Nat) (fun k=>[(1,.p σ.length),(3,.i (k:Nat))]) (fun k mk H=>k≤W.ns∧mk=[]∧H=K) (fun k=>W.ns - k) 0 tE ⟨bN _,rfl,hK.symm⟩ ?_
 rintro i mk H ⟨hi,rfl,rfl⟩
 by_cases c:i<W.ns
 ·have f:(i:Int)<(W.ns:Nat):=oO
  have hd1:aH H bS (i+0)=some (.s (wB i) (W.nw i) (cW i)):=fQ (k:=0) (d.steps i c) oO
  have hw2:=hv.w2 i c
  have hw3:¬ ((W.nw i:Nat):Int) > 10:=oO
  refine UD ?_
  refine dS (ι:=Nat) (fun k=>[(1,.p σ.length),(3,.i (i:Nat)),(4,.i (k:Nat))]) (fun k mk K=>k≤W.nw i∧mk=[]∧K=H) (fun k=>W.nw i - k) 0 tE ⟨bN _,rfl,rfl⟩ ?_
  rintro k mk K ⟨hk,rfl,rfl⟩
  by_cases e:k<W.nw i
  ·have g:(k:Int)<(W.nw i:Nat):=oO
   have hd2:aH K (wB i) (k+0)=some (.s (kB i k) (W.nk i k) (cK i k)):=fQ (k:=0) (d.ways i c k e) oO
   have hk2:=(hv.k i c k e).n2
   have hk3:¬ ((W.nk i k:Nat):Int) > 20:=oO
   refine UD ?_
   exact ⟨k+1,⟨oO,rfl,rfl⟩,oO,tE⟩
  ·obtain rfl:k=W.nw i:=oO
   have g:¬ ((W.nw i:Nat):Int)<(W.nw i:Nat):=oO
   refine UD ?_
   exact ⟨i+1,⟨oO,rfl,rfl⟩,oO,tE⟩
 ·obtain rfl:i=W.ns:=oO
  have f:¬ ((W.ns:Nat):Int)<(W.ns:Nat):=oO
  have hf1:=Hl (cB:=cB) (cS:=cS) hv d a
  refine UD ?_
  exact dK (.tmp rfl .nil) (.plain hp rfl) ⟨rfl,rfl⟩
theorem QC {A B:Prop} (k:B) (h:Hide B→A:=by intro h_k_;(repeat' (first|refine sCm ?_|(refine gU ?_;first|(refine bV ?_;refine st (bD rfl (by rfl)) rfl rfl ?_)|refine sK0 ?_|refine PG ?_|(refine dX ?_;refine st (bG rfl rfl rfl (by exact rZ (by exact .inl rfl) rfl)) rfl rfl ?_))|(refine gG ?_;first|refine JR ?_|refine sK9 ?_|refine LQ ?_)|refine aG ?_|refine dZ rfl ?_|refine eu rfl ?_));exact h_k_.h):A:=h ⟨k⟩
theorem UE (s:St) (l:List Int) (c:Nat) (pl:List (Int×Int)) (c2:Nat) (h:iD s l ≠ 0) :
  Ev Tryz.prog 13 [s.val,.s 0 l.length c,.s 1 pl.length c2] [.ro (ints l),.ro (dI pl)] (.i (iD s l)) [.ro (ints l),.ro (dI pl)]:=by
 refine aI 2 122 Tryz.func13 rfl rfl rfl rfl rfl ?_
 refine QC ?_
 refine dK (.tmp rfl .nil) (.plain rfl rfl) ⟨rfl,rfl⟩
theorem QD (s:St) (l:List Int) (c:Nat) (pl:List (Int×Int)) (c2:Nat) (h:iD s l=0) (hp:pl.length<1∨pl.length > 20) :
  Ev Tryz.prog 13 [s.val,.s 0 l.length c,.s 1 pl.length c2] [.ro (ints l),.ro (dI pl)] (.i 6) [.ro (ints l),.ro (dI pl)]:=by
 refine aI 2 122 Tryz.func13 rfl rfl rfl rfl rfl ?_
 repeat' (first|refine sCm ?_|(refine gU ?_;first|(refine bV ?_;refine st (bD rfl oR) rfl rfl ?_)|refine sK0 ?_|(refine nN ?_;first|refine st (jr rfl rfl) rfl rfl ?_|refine st (jv rfl rfl) rfl rfl ?_)|(refine dX ?_;refine st (bG rfl rfl rfl (by exact rZ (by exact .inl rfl) rfl)) rfl rfl ?_))|(refine gG ?_;first|refine JR ?_|refine sK9 ?_|refine LQ ?_|refine SN rfl rfl ?_|((fail_if_success (refine SQ rfl ?_));(refine zS rfl ?_ ?_ <;> intro _)))|refine aG ?_|refine dZ rfl ?_|refine eu rfl ?_)
 all_goals refine dK (.tmp rfl .nil) (.plain rfl rfl) ⟨rfl,rfl⟩
theorem UF (s:St) (l:List Int) (c:Nat) (pl:List (Int×Int)) (c2:Nat) (h:iD s l=0) (hp1:1≤pl.length) (hp2:pl.length≤20) :
  Ev Tryz.prog 13 [s.val,.s 0 l.length c,.s 1 pl.length c2] [.ro (ints l),.ro (dI pl)] (.i (if someB pl.length (kU s l pl)=true then 3 else if someB pl.length (nI s l pl)=true then 19 else 0)) [.ro (ints l),.ro (dI pl)]:=by
 obtain ⟨h12,h1,hs,ht⟩:=mX h
 have r:=J4 ht
 have hs1:1≤s.short:=by unfold fB at hs;omega
 have q:s.short≤s.long:=by unfold fB at hs;omega
 have hs3:s.long≤100000:=by unfold fB at hs;omega
 refine aI 2 122 Tryz.func13 rfl rfl rfl rfl rfl ?_
 refine QC ?_
 refine iM (ι:=Nat) (fun i=>[(1,.s 0 l.length c),(2,.s 1 pl.length c2),(3,.p 2),(7,.i (i:Int))])
  (fun _=>[.ro (ints l),.ro (dI pl),.rw s.cells]) (fun i=>pl.length - i) (fun i=>i≤pl.length∧∀ j<i,¬ kU s l pl j) 0 oS (.same tE) ⟨oO,fun j hj=>oO⟩ ?_
 rintro i ⟨hi,d⟩
 have hc1:i<pl.length→aH [.ro (ints l),.ro (dI pl),.rw s.cells] 1 (0+i*2+0)=some (.i (gp pl i).1):=fun h=>by simpa [aH] using su h
 have hc2:i<pl.length→aH [.ro (ints l),.ro (dI pl),.rw s.cells] 1 (0+i*2+1)=some (.i (gp pl i).2):=fun h=>by simpa [aH] using Bv h
 have m:(0<i∧i<pl.length)→aH [.ro (ints l),.ro (dI pl),.rw s.cells] 1 (0+((i:Int) - 1).toNat*2+0)=some (.i (gp pl (i - 1)).1):=fun h=>by
  rw [show ((i:Int) - 1).toNat=i - 1 from by omega]
  simpa [aH] using su (pl:=pl) (i:=i - 1) oO
 repeat' (first|refine sCm ?_|(refine gU ?_;refine sK0 ?_)|(refine fU ?_;first|refine JQ ?_|(refine EW ?_;refine frA (jm rfl rfl rfl) rfl ?_)|(refine DK ?_;first|refine frA (jr rfl rfl) rfl ?_|refine frA (jv rfl rfl) rfl ?_))|(refine fG ?_;first|(refine qX ?_;refine pW rfl (eP rfl) rfl ?_)|(refine fFA ?_;refine pW rfl (aZ rfl) rfl ?_)|(refine gB ?_;refine pW rfl (aK rfl (by first|rfl|exact hc1 oO|exact hc2 oO|exact m oO)) rfl ?_)|(refine fSub ?_;refine pW rfl (yK rfl rfl oO oO) rfl ?_)|(refine EW ?_;refine pW rfl (jm rfl rfl rfl) rfl ?_)|(refine Ro ?_;refine pW rfl (lJ rfl) rfl ?_)|(refine DK ?_;first|refine pW rfl (jr rfl rfl) rfl ?_|refine pW rfl (jv rfl rfl) rfl ?_)|(refine fIA ?_;first|refine pW rfl (iV rfl rfl oO) rfl ?_|refine pW rfl (ny rfl rfl oO oO) rfl ?_)|refine frSU rfl rfl ?_|refine abY rfl rfl ?_|((fail_if_success (refine abZ rfl ?_));(refine aaQ rfl ?_ ?_ <;> intro _)))|(refine fP ⟨oK,?_⟩)|refine aG ?_|refine sK5 ?_|refine dZ rfl ?_|(refine iR rfl ?_ ?_ <;> intro _))
 any_goals (first|(refine dK (.tmp rfl .nil) (.plain rfl rfl) ⟨?_,rfl⟩;rw [if_pos (qm (i:=i) oO (by unfold kU;omega))];rfl)|exact ⟨rfl,i+1,⟨oO,wX d (by unfold kU;omega)⟩,oO,.same tE⟩|skip)
 have a:∀ j<pl.length,¬ kU s l pl j:=fun j hj=>d j oO
 clear hc1 hc2 m d
 rw [if_neg (by rw [mW a];simp)]
 refine iM (ι:=Nat) (fun i=>[(1,.s 0 l.length c),(2,.s 1 pl.length c2),(3,.p 2),(8,.i (i:Int))])
  (fun _=>[.ro (ints l),.ro (dI pl),.rw s.cells]) (fun i=>pl.length - i) (fun i=>i≤pl.length∧∀ j<i,¬ nI s l pl j) 0 oS (.same tE) ⟨oO,fun j hj=>oO⟩ ?_
 clear hi
 rintro i ⟨hi,d⟩
 have hb:∀ i<pl.length,-1000000≤(gp pl i).1∧(gp pl i).1≤1000000:=fun i hi=>by have:=nJ a i hi;omega
 by_cases g:i<pl.length
 ·have hr:=nJ a i g
  have he:=P6 q a g
  have hk:(gp pl i).2.toNat<l.length:=oO
  have hn:=r _ hk
  have o:s.short≤(gp pl i).1∧(gp pl i).1≤s.long:=oO
  have n:s.short≤wE s.short pl i∧wE s.short pl i≤s.long:=oO
  have hc1:aH [.ro (ints l),.ro (dI pl),.rw s.cells] 1 (0+i*2+0)=some (.i (gp pl i).1):=by simpa [aH] using su g
  have hc2:aH [.ro (ints l),.ro (dI pl),.rw s.cells] 1 (0+i*2+1)=some (.i (gp pl i).2):=by simpa [aH] using Bv g
  have m:aH [.ro (ints l),.ro (dI pl),.rw s.cells] 0 (0+(gp pl i).2.toNat*1)=some (.i (gi l (gp pl i).2.toNat)):=by simpa [aH] using gQ hk
  have e:=acn hs hk hn o
  have f:=acn hs hk hn n
  repeat' (first|refine sCm ?_|(refine gU ?_;first|(refine bV ?_;refine st (aK rfl oA) rfl rfl ?_)|refine sK0 ?_|(refine gIA ?_;first|refine st (iV rfl rfl oO) rfl rfl ?_|refine st (ny rfl rfl oO oO) rfl rfl ?_))|(refine fU ?_;first|refine JQ ?_|(refine fFA ?_;refine frA (aZ rfl) rfl ?_)|(refine gB ?_;first|refine frA (aK rfl oA) rfl ?_|refine frA (bD rfl oR) rfl ?_)|(refine DK ?_;first|refine frA (jr rfl rfl) rfl ?_|refine frA (jv rfl rfl) rfl ?_)|(refine ad7 ?_;refine frA (A8 rfl) rfl ?_)|(refine fIA ?_;refine frA (iV rfl rfl oO) rfl ?_)|(refine qF ?_;refine frA (bG rfl rfl rfl (by exact Ej oA oA oA rfl)) rfl ?_))|(refine fG ?_;first|(refine qX ?_;refine pW rfl (eP rfl) rfl ?_)|(refine gB ?_;refine pW rfl (bD rfl oR) rfl ?_)|(refine ad7 ?_;refine pW rfl (A8 rfl) rfl ?_)|(refine qF ?_;refine pW rfl (bG rfl rfl rfl (by first|exact Ej oA oA oA rfl|exact NI (by exact .inl rfl) oO oO oA rfl)) rfl ?_)|refine abY rfl rfl ?_|((fail_if_success (refine abZ rfl ?_));(refine aaQ rfl ?_ ?_ <;> intro _)))|(refine fP ⟨oK,?_⟩)|refine aG ?_|refine sK5 ?_|refine dZ rfl ?_|(refine iR rfl ?_ ?_ <;> intro _))
  ·rename_i hq
   refine dK (.tmp rfl .nil) (.plain rfl rfl) ⟨?_,rfl⟩
   rw [if_pos (qm g (fun h=>hq (e.1 h.1)))];rfl
  ·rename_i hq0 hq
   refine dK (.tmp rfl .nil) (.plain rfl rfl) ⟨?_,rfl⟩
   rw [if_pos (qm g (fun h=>hq (f.1 h.2)))];rfl
  ·rename_i hq0 hq
   exact ⟨rfl,i+1,⟨oO,wX d (fun h=>h ⟨e.2 (Classical.not_not.1 hq0),f.2 (Classical.not_not.1 hq)⟩)⟩,oO,.same tE⟩
 ·refine QC ?_
  refine dK (.tmp rfl .nil) (.plain rfl rfl) ⟨?_,rfl⟩
  rw [if_neg (by rw [mW fun j hj=>d j oO];simp)];rfl
theorem Xe (s:St) (l:List Int) (c:Nat) (pl:List (Int×Int)) (c2:Nat) :
  Ev Tryz.prog 13 [s.val,.s 0 l.length c,.s 1 pl.length c2] [.ro (ints l),.ro (dI pl)] (.i (sD s l pl)) [.ro (ints l),.ro (dI pl)]:=by
 unfold sD
 by_cases h:iD s l=0
 ·rw [if_neg oO]
  by_cases hp:pl.length<1∨pl.length > 20
  ·rw [if_pos hp];exact QD s l c pl c2 h hp
  ·rw [if_neg hp];exact UF s l c pl c2 h oO oO
 ·rw [if_pos h];exact UE s l c pl c2 h
theorem Lp {σ:Heap} {s:St} {l:List Int} {pl:List (Int×Int)} {x y c c2:Nat} (hx:dN σ x (ints l)) (hy:dN σ y (dI pl)) (hni:σ.all (fun o=>!aU o)=true) :
  Ev Tryz.prog 13 [s.val,.s x l.length c,.s y pl.length c2] σ (.i (sD s l pl)) σ :=
 Ev.arrs [ints l,dI pl] [x,y] (Xe s l c pl c2) ⟨hx,hy,trivial⟩
  ⟨aY _ rfl,by simpa [bsR] using VQ.slice (q:=true) (n:=2) (ρ:=bsR [x,y]) 0 0 l.length c c (aD _) oO,by simpa [bsR] using VQ.slice (q:=true) (n:=2) (ρ:=bsR [x,y]) 1 0 pl.length c2 c2 (aD _) oO,trivial⟩ (by simp [bC,gW]) rfl hni
theorem Lr (l:List Int):∀ k j,j<k→minN l k≤gi l j∧gi l j≤J8 l k
 |0,j,h=>by omega
 |k+1,j,h=>by
  simp only [minN,J8]
  by_cases hk:k=0
  ·subst hk
   obtain rfl:j=0:=oO
   simp
  ·by_cases hj:j=k
   ·subst hj
    simp only [hk,if_false]
    omega
   ·have:=Lr l k j oO
    simp only [hk,if_false]
    omega
theorem YM {a b:List Int} {i:Nat} (h:i<a.length):gi (a++b) i=gi a i:=by
 unfold gi;rw [cE,cE,bR h]
theorem UG {a b:List Int} {i:Nat}:gi (a++b) (a.length+i)=gi b i:=by
 unfold gi;rw [cE,cE,bE oO,Nat.add_sub_cancel_left]
theorem YN {s:St} {l:List Int} {pl:List (Int×Int)}:∀ {n j:Nat},j<n→gi (allL s l pl n) (j*2)=gi l (gp pl j).2.toNat*((gp pl j).1+s.off)∧gi (allL s l pl n) (j*2+1)=gi l (gp pl j).2.toNat*(wE s.short pl j - s.off)
 |0,j,h=>by omega
 |n+1,j,h=>by
  have hl:=tX s l pl n
  simp only [allL]
  by_cases hj:j<n
  ·rw [YM oO,YM oO]
   exact YN hj
  ·obtain rfl:j=n:=oO
   rw [show j*2=(allL s l pl j).length+0 by omega,show (allL s l pl j).length+0+1=(allL s l pl j).length+1 by omega,UG,UG]
   exact ⟨rfl,rfl⟩
def Gp (s:St) (l:List Int) (pl:List (Int×Int)):Int×Int:=(minN (allL s l pl pl.length) (pl.length*2),J8 (allL s l pl pl.length) (pl.length*2))
theorem afA {s:St} {l:List Int} {pl:List (Int×Int)} {j:Nat} (hj:j<pl.length) {x:Int} (ht:0≤gi l (gp pl j).2.toNat) (h1:wE s.short pl j - s.off≤x) (h2:x≤(gp pl j).1+s.off) :
  (Gp s l pl).1≤x*gi l (gp pl j).2.toNat∧x*gi l (gp pl j).2.toNat≤(Gp s l pl).2:=by
 obtain ⟨e1,e2⟩:=YN (s:=s) (l:=l) (pl:=pl) hj
 have h3:=(Lr (allL s l pl pl.length) (pl.length*2) (j*2+1) oO).1
 have h4:=(Lr (allL s l pl pl.length) (pl.length*2) (j*2) oO).2
 rw [e2,Int.mul_comm] at h3
 rw [e1,Int.mul_comm] at h4
 have h5:=Int.mul_le_mul_of_nonneg_right h1 ht
 have h6:=Int.mul_le_mul_of_nonneg_right h2 ht
 exact ⟨Int.le_trans h3 h5,Int.le_trans h6 h4⟩
theorem QE {σ:Heap} {s:St} {l:List Int} {pl:List (Int×Int)} {x y c c2:Nat} (hx:dN σ x (ints l)) (hy:dN σ y (dI pl)) (hr:-9223372036854775808≤s.short∧s.short≤9223372036854775807) (h:sD s l pl=0) (hni:σ.all (fun o=>!aU o)=true) :
  Ev Tryz.prog 15 [s.val,.s x l.length c,.s y pl.length c2] σ (.tuple #[agd (Gp s l pl),.i 0]) σ :=
 Ev.arrs [ints l,dI pl] [x,y] (Qa s l c pl c2 hr h) ⟨hx,hy,trivial⟩
  ⟨aY _ rfl,by simpa [bsR] using VQ.slice (q:=true) (n:=2) (ρ:=bsR [x,y]) 0 0 l.length c c (aD _) oO,by simpa [bsR] using VQ.slice (q:=true) (n:=2) (ρ:=bsR [x,y]) 1 0 pl.length c2 c2 (aD _) oO,trivial⟩ (by simp [bC,gW]) rfl hni
end Go.Proofs.YtajpgeklmcjciaaGreat
namespace Go.AH.Heat
open Go Go.AH
def iL (t:Int) (q:Nat):Int×Int×Int:=(84*(q:Int),min 1000 ((100*(84*(q:Int))*t).tdiv 1000000),min 1000 (((100*(84*((q+1:Nat):Int)) - 1)*t).tdiv 1000000))
def jQ (kf:Nat→Int×Int×Int):Nat→List Value
 |0=>[]
 |n+1=>jQ kf n++jh (kf n)
theorem sU (kf:Nat→Int×Int×Int):∀ n,(jQ kf n).length=n*3
 |0=>rfl
 |n+1=>by rw [jQ,aR,sU kf n];simp [jh];omega
theorem EG (kf:Nat→Int×Int×Int):∀ n,dL (jQ kf n)=true
 |0=>rfl
 |n+1=>by rw [jQ,nV,EG kf n];rfl
theorem Om {kf:Nat→Int×Int×Int}:∀ {n q:Nat},q<n→((jQ kf n).drop (q*3)).take 3=jh (kf q)
 |0,q,h=>by omega
 |n+1,q,h=>by
  have hl:=sU kf n
  rw [jQ]
  by_cases hq:q<n
  ·rw [fS oO,fp (by rw [e6];omega)]
   exact Om hq
  ·obtain rfl:q=n:=oO
   rw [List.drop_append,eL oO,hl,cY]
   simp [jh]
theorem QF {H:Heap} {b n q:Nat} {kf:Nat→Int×Int×Int} (h:H[b]?=some (.rw (jQ kf n))) (hq:q<n):aJ H b (q*3) 3=some (jh (kf q)):=by
 have hl:=sU kf n
 unfold aJ
 rw [h]
 have hb:Nat.ble (q*3+3) (jQ kf n).length=true:=by rw [hl,Nat.ble_eq];omega
 simp only [hb,cond_true,Om hq]
theorem UH {t:Int} (ht:1≤t∧t≤10000) (q:Nat):100*(84*(q:Int))*t=8400*((q:Int)*t)∧(100*(84*((q+1:Nat):Int)) - 1)*t=8400*((q:Int)*t)+8399*t∧0≤(q:Int)*t:=by
 refine ⟨by rw [show (100:Int)*(84*(q:Int))=8400*(q:Int) by omega,Int.mul_assoc],?_,er oO oO⟩
 rw [show (100*(84*((q+1:Nat):Int)) - 1)=8400*(q:Int)+8399 by omega,Int.add_mul,Int.mul_assoc]
theorem EH {t:Int} (ht:1≤t∧t≤10000) (q:Nat):iL t q=(84*(q:Int),min 1000 (8400*((q:Int)*t) / 1000000),min 1000 ((8400*((q:Int)*t)+8399*t) / 1000000)):=by
 obtain ⟨h1,h2,h3⟩:=UH ht q
 unfold iL
 rw [h1,h2,cJ oO,cJ oO]
theorem adF {t:Int} (ht:1≤t∧t≤10000):ZT 12 (iL t):=by
 refine ⟨oO,oO,by simp [iL],fun q hq=>?_,fun q hq=>?_⟩
 all_goals
  have h0:0≤(q:Int)*t:=er oO oO
  have h1:((q+1:Nat):Int)*t=(q:Int)*t+t:=by rw [Int.natCast_add,Int.add_mul];omega
  rw [EH ht,EH ht,h1]
  generalize (q:Int)*t=p at h0 ⊢
 ·simp only [jM];omega
 ·dsimp only;omega
end Go.AH.Heat
namespace Go.Proofs.YtajpgeklmcjciaaGreat
open Go Go.AH
attribute [local irreducible] bZ bK bM jB gy dO fC bW eU aX dV eH
open Go.AH.Heat Go.AH.Warp
theorem aat {n:Nat} {π:Rho} {a a':Value} (h1:jG n π a a'):jG n π (.agg #[a]) (.agg #[a']):=by
 refine .agg _ _ rfl fun i h _=>?_
 simp at h
 subst h
 exact h1
theorem UJ {A B:Prop} (k:B) (h:Hide B→A:=by intro h_k_;(repeat' (first|refine sCm ?_|(refine gU ?_;first|refine st (iQ (by rfl) (by rfl) rfl (by exact hgX _) (by exact hgl) rfl (by exact hcl2) (by omega) (by exact hone) (by omega) (by decide)) rfl rfl ?_|refine st (wG (by rfl) rfl rfl (by exact hcl2) (by omega) (by exact hone) (by omega) (by decide)) rfl rfl ?_|(refine bV ?_;refine st (bD rfl (by exact aV a3 rfl)) rfl rfl ?_)|(refine aaN ?_;refine st (zM rfl rfl (by omega) (by omega)) rfl rfl ?_)|refine sK0 ?_|(refine gV ?_;refine stN (bU rfl rfl rfl rfl (by first|exact hput _ _ _|exact hputr _)) rfl ?_))|(refine fU ?_;first|refine fFA ?_;refine frA (aZ rfl) rfl ?_ hcl3|refine gB ?_;refine frA (aK rfl (by exact hq1 _)) rfl ?_ hc1|refine qX ?_;refine frA (eP rfl) rfl ?_ rfl|refine qF ?_;refine frA (bG rfl rfl rfl (by exact hfa _)) rfl ?_ rfl|refine LM ?_|(refine fMul ?_;refine fr (zM rfl rfl (by omega) (by omega)) (by rfl) rfl ?_)|(refine EW ?_;refine fr (Ad rfl rfl (by omega) (by omega) (by omega)) (by rfl) rfl ?_)|refine VT ?_|refine VU ?_)|(refine fP ⟨by kernel_rfl,?_⟩)|refine dB (id:=6) ?_|refine aG ?_|refine sK2 ?_|refine nZ rfl (by rfl) ?_));exact h_k_.h):A:=h ⟨k⟩
theorem aau {σ:Heap} {t:Int} (ht:1≤t∧t≤10000):Ev Tryz.prog 17 [.i t] σ (.agg #[.s σ.length 12 12]) (σ++[.rw (jQ (iL t) 12)]):=by
 refine aI σ.length 37 Tryz.func17 rfl rfl rfl rfl rfl ?_
 refine UJ ?_
 refine dS (ι:=Nat×Nat) (fun k=>[(0,.i t),(2,.p σ.length),(3,.p (σ.length+1)),(4,.i (k.1:Nat))])
  (fun k mk H=>k.1≤12∧mk=[]∧H.take σ.length=σ∧H[σ.length]?=some (.rw [.slice none 0 0])∧((k.1=0∧H[σ.length+1]?=some (.rw [.slice none 0 0]))∨(0<k.1∧σ.length+2≤k.2∧H[σ.length+1]?=some (.rw [dW k.2 3 k.1])∧H[k.2]?=some (.gr (jQ (iL t) k.1) 148)))) (fun k=>12 - k.1) (0,0) ⟨rfl,rfl,(by (refine congrArg (fun n=>some (Value.p n)) ?_;simp;try omega)),rfl,trivial⟩ ⟨bN _,rfl,by simp,aA aO,.inl ⟨rfl,bJ oS⟩⟩ ?_
 rintro ⟨k,gb⟩ mk H ⟨hk,rfl,hp,h0,hb⟩
 dsimp only at hk hb ⊢
 have m:σ.length+2≤H.length:=by rcases hb with ⟨_,h⟩|⟨_,_,h,_⟩ <;> exact aQ h
 by_cases hkn:k<12
 ·have f:(k:Int)<12:=oO
  obtain ⟨m1,m2,m3⟩:=UH ht k
  have m4:(k:Int)*t≤12*10000:=fo oO ht.2 oO oO
  have d:(iL t k).1=84*(k:Int):=rfl
  have c:(iL t k).2.1=min 1000 ((100*(84*(k:Int))*t).tdiv 1000000):=rfl
  have e:(iL t k).2.2=min 1000 (((100*(84*((k+1:Nat):Int)) - 1)*t).tdiv 1000000):=rfl
  have q1:0≤(100*(84*(k:Int))*t).tdiv 1000000∧(100*(84*(k:Int))*t).tdiv 1000000≤1000000:=by rw [m1,cJ oO];omega
  have q2:0≤((100*(84*((k+1:Nat):Int)) - 1)*t).tdiv 1000000∧((100*(84*((k+1:Nat):Int)) - 1)*t).tdiv 1000000≤1000000:=by rw [m2,cJ oO];omega
  have m5:0≤100*(84*(k:Int))*t∧100*(84*(k:Int))*t≤2000000000:=oO
  have m6:0≤(100*(84*((k+1:Nat):Int)) - 1)*t∧(100*(84*((k+1:Nat):Int)) - 1)*t≤2000000000:=oO
  refine UJ ?_
  refine .mk (dH [(0,.i t),(2,.p σ.length),(3,.p (σ.length+1)),(4,.i (k:Nat)),(5,.i (84*(k:Int))),(6,.i (84*((k+1:Nat):Int)))] H rfl tE ?_)
  have hfa:=fun X=>afz (σ:=H++X) (k:=(iL t k).1) (lo:=(iL t k).2.1) (hi:=(iL t k).2.2)
  rw [d,c,e] at hfa
  have hcl3:∀ {o:Nat},closed H.length (.pointer (some ⟨σ.length+1,o,none⟩))=true:=fun {o}=>Nat.blt_eq.mpr m
  have j:jQ (iL t) (k+1)=jQ (iL t) k++[.i (84*(k:Int)),.i (min 1000 ((100*(84*(k:Int))*t).tdiv 1000000)),.i (min 1000 (((100*(84*((k+1:Nat):Int)) - 1)*t).tdiv 1000000))]:=rfl
  clear d c e
  clear m1 m2 m3 m4
  have hone:([.i (84*(k:Int)),.i (min 1000 ((100*(84*(k:Int))*t).tdiv 1000000)),.i (min 1000 (((100*(84*((k+1:Nat):Int)) - 1)*t).tdiv 1000000))]:List Value).all (·.oneCell')=true:=rfl
  have hcl2:aJ (H++[aB.rw [.i (84*(k:Int)),.i (min 1000 ((100*(84*(k:Int))*t).tdiv 1000000)),.i (min 1000 (((100*(84*((k+1:Nat):Int)) - 1)*t).tdiv 1000000))]]) (H++([]:Heap)).length 0 (1*3)=some [.i (84*(k:Int)),.i (min 1000 ((100*(84*(k:Int))*t).tdiv 1000000)),.i (min 1000 (((100*(84*((k+1:Nat):Int)) - 1)*t).tdiv 1000000))]:=by rw [bL];exact dU rfl
  rcases hb with ⟨rfl,a⟩|⟨hk0,g,a,hg⟩
  ·have hq1:∀ X,aH (H++X) (σ.length+1) (0+0)=some (.slice none 0 0):=fun X=>aF (aA a)
   have hc1:closed H.length (.slice none 0 0)=true:=rfl
   have hput:∀ (X:Heap) (A:aB) v,putCells (H++[A]++X) (σ.length+1) (0+0) [v]=some ((H++[A]++X).set (σ.length+1) (.rw [v])):=fun X A v=>fM (aA (aA a)) oS oS rfl
   refine fA oK rfl ?_
   refine UJ ?_
   refine ⟨(0+1,(H++[aB.rw [.i (84*((0:Nat):Int)),.i (min 1000 ((100*(84*((0:Nat):Int))*t).tdiv 1000000)),.i (min 1000 (((100*(84*((0+1:Nat):Int)) - 1)*t).tdiv 1000000))]]).length+1),⟨by dsimp only;omega,rfl,take_set (aT (aT hp)) oO,aC (aA (aA h0)) oO,.inr ⟨by dsimp only;omega,by simp;omega,aS (aA (aA a)),?_⟩⟩,by dsimp only;omega,tE⟩
   refine aC ?_ (by simp;omega)
   exact wJ
  ·have hq1:∀ X,aH (H++X) (σ.length+1) (0+0)=some (dW gb 3 k):=fun X=>aF (aA a)
   have hc1:closed H.length (dW gb 3 k)=true:=kJ (Nat.blt_eq.mpr (aQ hg))
   have hgX:∀ A:aB,(H++[A])[gb]?=some (.gr (jQ (iL t) k) 148):=fun A=>aA hg
   have hgl:(jQ (iL t) k).length=k*3:=sU _ _
   have hput:∀ (X:Heap) (A:aB) v,putCells ((H++[A]).set gb .dead++X) (σ.length+1) (0+0) [v]=some (((H++[A]).set gb .dead++X).set (σ.length+1) (.rw [v])):=fun X A v=>fM (aA (aC (aA a) oO)) oS oS rfl
   refine fA oK rfl ?_
   refine UJ ?_
   refine ⟨(k+1,(H++[aB.rw [.i (84*(k:Int)),.i (min 1000 ((100*(84*(k:Int))*t).tdiv 1000000)),.i (min 1000 (((100*(84*((k+1:Nat):Int)) - 1)*t).tdiv 1000000))]]).length),⟨by dsimp only;omega,rfl,take_set (aT (take_set (aT hp) oO)) oO,aC (aA (aC (aA h0) oO)) oO,.inr ⟨by dsimp only;omega,by simp;omega,aS (aA (aC (aA a) oO)),?_⟩⟩,by dsimp only;omega,tE⟩
   refine aC ?_ (by simp;omega)
   rw [j]
   exact bJ oS
 ·obtain rfl:k=12:=oO
  have f:¬ ((12:Nat):Int)<12:=oO
  rcases hb with ⟨h,_⟩|⟨_,g,a,hg⟩
  ·omega
  have a3:=a
  have hputr:∀ v,putCells H σ.length 0 [v]=some (H.set σ.length (.rw [v])):=fun v=>fM h0 oS oS rfl
  refine UJ ?_
  have s0:fK σ.length [gb] σ.length=⟨gb,0,0⟩:=by simp [fK]
  exact dK (v2:=.agg #[.s σ.length 12 12]) (.cellN inferInstance rfl (aV (aS h0) rfl) .nil) (aX.src [.rw (jQ (iL t) 12)] [gb] (take_set hp (aD _)) rfl (by simp [dF];omega) ⟨uJ s0 (.inr ⟨_,aC hg oO⟩) (EG _ _),trivial⟩ (aat (jV oS s0))) ⟨rfl,rfl⟩
end Go.Proofs.YtajpgeklmcjciaaGreat
namespace Go.AH.Heat
open Go Go.AH Go.Proofs.YtajpgeklmcjciaaGreat
def uh (l:List Int) (bar:Int×Int):Wk:={ nb:=1,bf:=fun _=>bar,ns:=1,nw:=fun _=>l.length,nk:=fun _ _=>12,kf:=fun _ k=>iL (gi l k) }
theorem Gq {l:List Int} {bar:Int×Int} (hl:0<l.length∧l.length≤5) (ht:∀ i<l.length,1≤gi l i∧gi l i≤10000) (hb:jM bar):uf (uh l bar) :=
 ⟨by show 0<1;omega,by show 1≤6;omega,fun _ _=>hb,by show 1≤6;omega,fun _ _=>hl.1,fun _ _=>hl.2,fun i _ k hk=>adF (ht k hk)⟩
theorem BJ {t h:Int} (h0:0≤h):∀ n:Nat,84*(nS (iL t) h n:Int)≤h∧nS (iL t) h n≤n∧(nS (iL t) h n<n→h<84*((nS (iL t) h n:Int)+1))
 |0=>⟨by simp [nS];exact h0,aD _,fun h=>absurd h (by simp [nS])⟩
 |n+1=>by
  obtain ⟨h1,h2,h3⟩:=BJ h0 (t:=t) n
  unfold nS
  have e:(iL t (n+1)).1=84*((n+1:Nat):Int):=rfl
  rw [e]
  by_cases h4:84*((n+1:Nat):Int)≤h
  ·rw [if_pos h4];exact ⟨h4,aD _,fun h=>oO⟩
  ·rw [if_neg h4]
   refine ⟨h1,oO,fun _=>?_⟩
   by_cases h5:nS (iL t) h n<n
   ·exact h3 h5
   ·omega
theorem EI {t x y:Int} (ht:1≤t∧t≤10000) (hx:0≤x) (hxy:x≤y) (hy:y≤100000) :
  (qp 12 (iL t) (min 1000 (x / 100))).1≤min 1000 (y*t / 1000000)∧min 1000 (x*t / 1000000)≤(qp 12 (iL t) (min 1000 (y / 100))).2:=by
 have hm:∀ {a b:Int},a≤b→a*t≤b*t:=fun h=>Int.mul_le_mul_of_nonneg_right h oO
 refine ⟨?_,?_⟩
 ·obtain ⟨h1,h2,h3⟩:=BJ (t:=t) (h:=min 1000 (x / 100)) oO 11
  unfold qp
  rw [show 12 - 1=11 from rfl]
  generalize nS (iL t) (min 1000 (x / 100)) 11=q at h1 h2 h3 ⊢
  rw [EH ht]
  dsimp only
  have h4:8400*(q:Int)≤y:=oO
  have h5:=hm h4
  rw [Int.mul_assoc] at h5
  omega
 ·obtain ⟨h1,h2,h3⟩:=BJ (t:=t) (h:=min 1000 (y / 100)) oO 11
  unfold qp
  rw [show 12 - 1=11 from rfl]
  generalize nS (iL t) (min 1000 (y / 100)) 11=q at h1 h2 h3 ⊢
  rw [EH ht]
  dsimp only
  have h4:x≤8400*(q:Int)+8399:=by
   by_cases hq:q<11
   ·have:=h3 hq;omega
   ·omega
  have h5:=hm h4
  rw [Int.add_mul,Int.mul_assoc] at h5
  omega
theorem Gs {lo hi:Int} {l:List Int} {i:Nat} (hl:l.length=1001) (h:jM (lo,hi)) (h1:gi l i=1):gi (tY lo hi l) i=1:=by
 rw [AA hl h];split
 ·rfl
 ·exact h1
theorem YO {now l:List Int} {fr to:Nat→Int×Int} (hl:l.length=1001) {q i:Nat}:∀ {n:Nat},(∀ j<n,jM (to j))→q<n→jK (fr q).1 (fr q).2 now=true→(to q).1≤(i:Int)→(i:Int)≤(to q).2→gi (spF now fr to n l) i=1
 |0,_,h,_,_,_=>by omega
 |n+1,h,hq,hm,h1,h2=>by
  have a:=xg (now:=now) (fr:=fr) hl (n:=n) fun j hj=>h j oO
  simp only [spF]
  by_cases c:q=n
  ·subst c
   rw [if_pos hm,AA a (h q oO),if_pos ⟨h1,h2⟩]
  ·have ih:=YO hl (fun j hj=>h j oO) (by omega:q<n) hm h1 h2
   split
   ·exact Gs a (h n oO) ih
   ·exact ih
theorem UK {now l:List Int} {fr to:Nat→Int×Int} (hl:l.length=1001) {i:Nat} (h1:gi l i=1):∀ {n:Nat},(∀ j<n,jM (to j))→gi (spF now fr to n l) i=1
 |0,_=>h1
 |n+1,h=>by
  have a:=xg (now:=now) (fr:=fr) hl (n:=n) fun j hj=>h j oO
  have ih:=UK (now:=now) (fr:=fr) hl h1 (n:=n) fun j hj=>h j oO
  simp only [spF]
  split
  ·exact Gs a (h n oO) ih
  ·exact ih
theorem YP {now l:List Int} {fr to:Nat→Nat→Int×Int} {nk:Nat→Nat} (hl:l.length=1001) {k q i:Nat}:∀ {n:Nat},(∀ k<n,∀ j<nk k,jM (to k j))→k<n→q<nk k→jK (fr k q).1 (fr k q).2 now=true→(to k q).1≤(i:Int)→(i:Int)≤(to k q).2→gi (wyF now fr to nk n l) i=1
 |0,_,h,_,_,_,_=>by omega
 |n+1,h,hk,hq,hm,h1,h2=>by
  have a:=y9 (now:=now) (fr:=fr) hl (n:=n) fun j hj=>h j oO
  simp only [wyF]
  by_cases c:k=n
  ·subst c
   exact YO a (h k oO) hq hm h1 h2
  ·exact UK a (YP hl (fun j hj=>h j oO) (by omega:k<n) hq hm h1 h2) (h n oO)
theorem Lu {lo hi:Int} {l:List Int} {i:Nat} (h0:0≤lo) (h1:lo≤(i:Int)) (h2:(i:Int)≤hi) (h:gi l i=1):jK lo hi l=true :=
 FP.2 ⟨i,oO,oO,h⟩
theorem adG:∀ {k i:Nat} {a b:List Int},i<k→i<a.length→i<b.length→gi (mG k a b) i=gi a i*gi b i
 |0,_,_,_,h,_,_=>by omega
 |k+1,i,[],b,_,h,_=>by simp at h
 |k+1,i,x::a,[],_,_,h=>by simp at h
 |k+1,0,x::a,y::b,_,_,_=>by simp [mG,gi]
 |k+1,i+1,x::a,y::b,h,h1,h2=>by
  have:=adG (k:=k) (i:=i) (a:=a) (b:=b) oO (oU h1) (oU h2)
  simpa [mG,gi] using this
theorem one_step {W:Wk} (hv:uf W) (hn:W.ns=1) {m:Int×Int} (hm:jM m) {b k q i j:Nat} (hb:b<W.nb) (hbi:(W.bf b).1≤(i:Int)∧(i:Int)≤(W.bf b).2) (hk:k<W.nw 0) (hq:q<W.nk 0 k)
  (ho:(W.own 0 k q).1≤(i:Int)∧(i:Int)≤(W.own 0 k q).2) (ha:(W.aft 0 k q).1≤(j:Int)∧(j:Int)≤(W.aft 0 k q).2) (hj:m.1≤(j:Int)∧(j:Int)≤m.2) :
  W.someB m ≠ []∧k ∈ W.Az m 0:=by
 have a:=hv.ok
 have d:=a.b b hb
 have hi:i<1001:=by have:=d.2.2;omega
 have s:gi (W.jS m 1) j=1:=by
  show gi (W.NU m (W.ns - 1)) j=1
  rw [hn]
  show gi (tY m.1 m.2 zro) j=1
  rw [AA jX hm,if_pos hj]
 have w:=xH a (i:=0) oO hk hq
 have o:=Aw a (i:=0) oO hk hq
 have g:jK (W.aft 0 k q).1 (W.aft 0 k q).2 (W.jS m 1)=true:=Lu o.1 ha.1 ha.2 s
 have c:gi (W.jS m 0) i=1:=by
  have e:=NV W m (k:=0) (i:=0) oO oO
  rw [← e]
  exact YP jX (fun k hk q hq=>xH a oO hk hq) hk hq g ho.1 ho.2
 have r:gi (W.front 0) i=1:=by
  show gi (rD W.bf W.nb zro) i=1
  have:∀ n,b<n→n≤W.nb→gi (rD W.bf n zro) i=1:=by
   intro n
   induction n with
   |zero=>intro h;omega
   |succ n ih =>
    intro h h2
    have hl:=tZ (bf:=W.bf) jX (k:=n) fun j hj=>a.b j oO
    simp only [rD]
    by_cases p:b=n
    ·subst p
     rw [AA hl (a.b b hb),if_pos hbi]
    ·exact Gs hl (a.b n oO) (ih oO oO)
  exact this W.nb hb (aD _)
 have hrl:(W.jS m 0).length=1001:=FU a hm _ oO
 have hfl:(W.front 0).length=1001:=kM a 0 oO
 have f:gi (W.bothR m 0) i=1:=by
  unfold Wk.bothR mulL
  rw [adG hi oO oO,r,c];rfl
 have v:W.noB m=false:=by
  unfold Wk.noB
  refine decide_eq_false fun h=>?_
  have:=h i (List.mem_range.2 hi)
  rw [f,acE] at this
  exact absurd this oD
 unfold Wk.someB Wk.Az
 rw [v]
 refine ⟨fun h=>?_,?_⟩
 ·have:b ∈ (List.range W.nb).filter fun b=>jK (W.bf b).1 (W.bf b).2 (W.jS m 0):=List.mem_filter.2 ⟨List.mem_range.2 hb,Lu d.1 hbi.1 hbi.2 c⟩
  simp only [Bool.false_eq_true,if_false] at h
  rw [h] at this
  simp at this
 ·simp only [Bool.false_eq_true,if_false]
  refine List.mem_filter.2 ⟨List.mem_range.2 hk,?_⟩
  unfold Wk.lead
  have t:jK (W.own 0 k q).1 (W.own 0 k q).2 (W.bothR m 0)=true:=Lu w.1 ho.1 ho.2 f
  have:∀ n,q<n→W.mJ m 0 k n=true:=by
   intro n
   induction n with
   |zero=>intro h;omega
   |succ n ih =>
    intro h
    simp only [Wk.mJ]
    by_cases u:q=n
    ·subst u;rw [t,g];simp
    ·rw [ih oO];simp
  exact this _ hq
end Go.AH.Heat
namespace Go.AH
open Go
section
variable {P:Program} {n0 N:Nat} {K:Env→List Nat→Heap→Prop} {e:Env} {mk:List Nat} {σ:Heap} {all:List Oper} {listed:List Bool} {fuel:Nat}
def YQ (all:List Oper) (listed:List Bool) (i j k:Nat):Bool:=match Region.ready .any all.toArray listed.toArray with|[a,b,c]=>Nat.beq a i && (Nat.beq b j && Nat.beq c k)|_=>false
theorem adH (i j k:Nat) {o o2 o3:Oper} (hi:all[i]?=some o) (hj:all[j]?=some o2) (hk3:all[k]?=some o3) (h:bZ P n0 N none all [o] (fun e' mk' σ'=>yj P n0 N all fuel (listed.set i true) K e' mk' σ') e mk σ)
  (h2:bZ P n0 N none all [o2] (fun e' mk' σ'=>yj P n0 N all fuel (listed.set j true) K e' mk' σ') e mk σ) (h3:bZ P n0 N none all [o3] (fun e' mk' σ'=>yj P n0 N all fuel (listed.set k true) K e' mk' σ') e mk σ) (hr:YQ all listed i j k=true:=by decide +kernel):yj P n0 N all (fuel+1) listed K e mk σ:=by
 intro G w0 ρ0 A w g
 have m:Region.ready .any all.toArray listed.toArray=[i,j,k]:=by
  unfold YQ at hr
  split at hr
  ·rename_i a b c hk
   rw [aE,aE] at hr
   rw [hk,aM hr.1,aM hr.2.1,aM hr.2.2]
  ·cases hr
 have go:∀ (q:Nat) (o:Oper),all[q]?=some o→bZ P n0 N none all [o] (fun e' mk' σ'=>yj P n0 N all fuel (listed.set q true) K e' mk' σ') e mk σ →
   wpOpIn Fence.wide 0 P all.toArray (fun ex A' w'=>ex=.normal∧∃ e' mk' σ',K e' mk' σ'∧Inv n0 N G w0 ρ0 e' mk' σ' A' w') q (wpAnyIn Fence.wide 0 P .any all.toArray (fun ex A' w'=>ex=.normal∧∃ e' mk' σ',K e' mk' σ'∧Inv n0 N G w0 ρ0 e' mk' σ' A' w') fuel (listed.toArray.setIfInBounds q true)) A w:=by
  intro q o hq h
  have:=h G w0 ρ0 A w g (fun ex A' w'=>match ex with|.normal=>wpAnyIn Fence.wide 0 P .any all.toArray (fun ex A' w'=>ex=.normal∧∃ e' mk' σ',K e' mk' σ'∧Inv n0 N G w0 ρ0 e' mk' σ' A' w') fuel (listed.toArray.setIfInBounds q true) A' w'|_=>False) (fun e' mk' σ' A' w' hk d=>by
   have:=hk G w0 ρ0 A' w' d
   simpa using this)
  unfold wpOpIn
  simp only [bO,hq]
  simp only [wpL] at this
  split
  ·rename_i hw
   rw [if_pos hw] at this
   exact oI (fun c a w hq=>hq.elim) (fun a w hq=>hq.elim) this
  ·rename_i hw
   rw [if_neg hw] at this
   exact ⟨fun f _=>kN ρ0 none _,this⟩
 refine wpAnyIn_all m oS fun q hq=>?_
 rcases List.mem_cons.1 hq with rfl|hq
 ·exact go q o hi h
 rcases List.mem_cons.1 hq with rfl|hq
 ·exact go q o2 hj h2
 ·rw [List.mem_singleton.1 hq] at *
  exact go k o3 hk3 h3
end
end Go.AH
namespace Go.AH.Heat
open Go Go.AH Go.Proofs.YtajpgeklmcjciaaGreat
theorem aav {l:List Int} {lo hi x:Int} {pu:Nat} (hl:0<l.length∧l.length≤5) (ht:∀ i<l.length,1≤gi l i∧gi l i≤10000) (hb:jM (lo,hi)) (hp:pu<l.length) (hx:0≤x∧x≤100000) (h1:lo≤min 1000 (x / 100)) (h2:min 1000 (x / 100)≤hi) :
  (uh l (lo,hi)).someB (min 1000 (x*gi l pu / 1000000),min 1000 (x*gi l pu / 1000000)) ≠ []∧pu ∈ (uh l (lo,hi)).Az (min 1000 (x*gi l pu / 1000000),min 1000 (x*gi l pu / 1000000)) 0:=by
 have hv:=Gq hl ht hb
 have h0:0≤x*gi l pu:=er hx.1 (by have:=ht pu hp;omega)
 obtain ⟨a1,a2⟩:=EI (ht pu hp) hx.1 (dE x) hx.2
 obtain ⟨k1,k2,k3⟩:=BJ (t:=gi l pu) (h:=min 1000 (x / 100)) oO 11
 unfold qp at a1 a2
 rw [show 12 - 1=11 from rfl] at a1 a2
 obtain ⟨q,hq⟩:∃ q,q=nS (iL (gi l pu)) (min 1000 (x / 100)) 11:=⟨_,rfl⟩
 rw [← hq] at a1 a2 k1 k2 k3
 obtain ⟨m0,d⟩:∃ m0,m0=min 1000 (x / 100):=⟨_,rfl⟩
 obtain ⟨m1,c⟩:∃ m1,m1=min 1000 (x*gi l pu / 1000000):=⟨_,rfl⟩
 rw [← d] at h1 h2 k1 k3
 rw [← c] at a1 a2 ⊢
 have hm0b:0≤m0∧m0≤1000:=oO
 have a:0≤m1∧m1≤1000:=oO
 refine one_step hv rfl (m:=(m1,m1)) (b:=0) (k:=pu) (q:=q) (i:=m0.toNat) (j:=m1.toNat) ⟨a.1,dE _,a.2⟩ (show 0<1 by omega) ?_ hp (show q<12 by omega) ?_ ?_ ?_
 ·show lo≤(m0.toNat:Int)∧(m0.toNat:Int)≤hi
  omega
 ·show (iL (gi l pu) q).1≤(m0.toNat:Int)∧(m0.toNat:Int)≤wL (iL (gi l pu)) 12 q
  have e:(iL (gi l pu) q).1=84*(q:Int):=rfl
  refine ⟨by rw [e];omega,?_⟩
  unfold wL
  by_cases hq2:q=11
  ·subst hq2;simp;omega
  ·have e2:(iL (gi l pu) (q+1)).1=84*((q+1:Nat):Int):=rfl
   have:=k3 oO
   split
   ·rw [e2];omega
   ·omega
 ·show (iL (gi l pu) q).2.1≤(m1.toNat:Int)∧(m1.toNat:Int)≤(iL (gi l pu) q).2.2
  rw [Int.toNat_of_nonneg a.1]
  exact ⟨a1,a2⟩
 ·show m1≤(m1.toNat:Int)∧(m1.toNat:Int)≤m1
  rw [Int.toNat_of_nonneg a.1]
  exact ⟨dE _,dE _⟩
end Go.AH.Heat
namespace Go.AH
open Go
def QG:Code→Nat→Bool
 |.region i _ _,k=>Nat.beq i k
 |.seq a _,k=>QG a k
 |.block _ c,k=>QG c k
 |.loop c,k=>QG c k
 |_,_=>false
def agt (k:Nat):Code→Code
 |.seq a b=>bif QG a k then .seq a b else agt k b
 |c=>c
def fbody (fn:Func):Code:=match fn.body with|some c=>c|none=>.skip
end Go.AH
namespace Go.Proofs.YtajpgeklmcjciaaGreat
open Go Go.AH
attribute [local irreducible] bZ bK bM jB gy dO fC bW eU aX dV eH
open Go.AH.Heat Go.AH.Warp
theorem IU {σ:Heap} {y i:Nat} {pl:List (Int×Int)} (h:dN σ y (dI pl)) (hi:i<pl.length):aH σ y (0+i*2+0)=some (.i (gp pl i).1):=by
 rw [bA,cV]
 have h1:=su hi
 rcases h with h|h|⟨t,h⟩ <;> simpa [aH,h] using h1
theorem IV {σ:Heap} {y i:Nat} {pl:List (Int×Int)} (h:dN σ y (dI pl)) (hi:i<pl.length):aH σ y (0+i*2+1)=some (.i (gp pl i).2):=by
 rw [bA]
 have h1:=Bv hi
 rcases h with h|h|⟨t,h⟩ <;> simpa [aH,h] using h1
theorem IW {σ K H:Heap} (h1:H.take K.length=K) (h2:K.take σ.length=σ):H.take σ.length=σ:=by
 have hl:=take_len h2
 have h3:(H.take K.length).take σ.length=K.take σ.length:=by rw [h1]
 rw [eJ,h2,fj hl] at h3
 exact h3
theorem LC {A B:Prop} (k:B) (h:Hide B→A:=by intro h_k_;(repeat' (first|refine sCm ?_|(refine gU ?_;first|(refine bV ?_;refine st (aK rfl (by assumption)) rfl rfl ?_)|refine sK0 ?_|(refine nN ?_;first|refine st (kR rfl (by first|rfl|exact eX (by assumption)) rfl) rfl rfl ?_|refine st (jA rfl (by rfl) rfl) rfl rfl ?_)|(refine gIA ?_;refine st (ny rfl rfl (by omega) (by omega)) rfl rfl ?_))|(refine gG ?_;first|(refine zx ?_;refine stG rfl (by first|rfl|exact eX (by assumption)) (eP rfl) rfl rfl ?_)|(refine gFA ?_;refine stG rfl (by first|rfl|exact eX (by assumption)) (aZ rfl) rfl rfl ?_)|(refine bV ?_;first|refine stG rfl (by first|rfl|exact eX (by assumption)) (aK rfl (by first|exact hd1|exact hd2)) rfl rfl ?_|refine stG rfl (by rfl) (bD rfl (by first|exact aV a6 rfl|exact aV a7 rfl)) rfl rfl ?_)|(refine BK ?_;refine stG rfl (by first|rfl|exact eX (by assumption)) (jm rfl rfl rfl) rfl rfl ?_)|(refine ET ?_;refine stG rfl (by rfl) (lJ rfl) rfl rfl ?_)|(refine gIA ?_;refine stG rfl (by first|rfl|exact eX (by assumption)) (ny rfl rfl (by omega) (by omega)) rfl rfl ?_)|(refine dX ?_;refine stG rfl (by first|rfl|exact eX (by assumption)) (bG rfl rfl rfl (by first|exact hf1|exact hf2)) rfl rfl ?_))|(refine fU ?_;first|refine qX ?_;refine frA (eP rfl) rfl ?_ hcls|refine fFA ?_;refine frA (aZ rfl) rfl ?_ hclp|refine fFA ?_;refine frA (aZ rfl) rfl ?_ hclg|refine fIA ?_;refine frA (iV rfl rfl (by omega)) rfl ?_ hclg|refine gB ?_;refine frA (aK rfl (by exact hqo _)) rfl ?_ rfl|refine gB ?_;refine frA (aK rfl (by exact hqf _)) rfl ?_ rfl|refine PD ?_|(refine Ip ?_;refine fr (kK rfl) (by rfl) rfl ?_)|refine Zw ?_|refine LM ?_|(refine fMul ?_;refine fr (zM rfl rfl (by omega) (by omega)) (by rfl) rfl ?_)|(refine EW ?_;refine fr (Ad rfl rfl (by omega) (by omega) (by omega)) (by rfl) rfl ?_)|(refine DK ?_;first|refine fr (kR rfl (by rfl) rfl) (by rfl) rfl ?_|refine fr (jA rfl (by rfl) rfl) (by rfl) rfl ?_)|refine VT ?_)|(refine fG ?_;first|refine frG (rfl) (by rfl) (eP rfl) (hcl1) rfl ?_|refine frG (rfl) (by rfl) (ny rfl rfl (by omega) (by omega)) (hcl2) rfl ?_|refine frG (rfl) (by rfl) (aK rfl (by exact hqz _)) (hcl3) rfl ?_|refine frG (rfl) (by rfl) (eP rfl) (rfl) rfl ?_|refine frG (rfl) (by rfl) (nC rfl rfl (by omega)) (hcl4) rfl ?_|refine frG (rfl) (by rfl) (aK rfl (by exact hqk _)) (rfl) rfl ?_|refine frG (rfl) (by rfl) (eP rfl) (hcls) rfl ?_|refine frG (rfl) (by rfl) (iV rfl rfl (by omega)) (hclg) rfl ?_|refine frG (rfl) (by rfl) (aZ rfl) (hclg) rfl ?_|refine frG (rfl) (by rfl) (aK rfl (by exact hqf _)) (rfl) rfl ?_|(refine EW ?_;refine frG rfl (by rfl) (jm rfl rfl rfl) (by rfl) rfl ?_)|refine frS rfl (by rfl) rfl ?_)|(refine fP ⟨by kernel_rfl,?_⟩)|refine dB (id:=37) ?_|refine dB (id:=38) ?_|refine dB (id:=39) ?_|refine aG ?_|refine sK2 ?_|refine sK6 ?_|fail));exact h_k_.h):A:=h ⟨k⟩
theorem aaw {σ H8:Heap} {s:St} {l:List Int} {p:List (Int×Int)} {py pc i pu gb bB bS wb hi5 rc rb gb2 yb:Nat} {kb:Nat→Nat} {en fm tr lo hb' m0 m1:Int} {wl0:List Nat}
  (hp:H8.take σ.length=σ) (hni8:H8.all (fun o=>!aU o)=true) (hs:H8[σ.length]?=some (.rw s.cells)) (hy8:dN H8 py (dI p)) (hip:i<p.length)
  (hA8:wM H8 (uh l (lo,hb')) bB bS (fun _=>gb) (fun _=>l.length) (fun _ k=>kb k) (fun _ _=>12)) (hw9:H8[wb]?=some (.rw [.s bB 1 1,.s bS 1 1]))
  (hh8:H8[hi5]?=some (.rw [.i m0,.i m1])) (hrb8:H8[rb]?=some (.rw [.i (pu:Nat)])) (hrc8:H8[rc]?=some (.rw [.i 0,.s rb 1 1]))
  (hgb8:H8[gb2]?=some (.rw (rgC ((uh l (lo,hb')).rg (fun _=>pu) ((uh l (lo,hb')).bf 0)) (0+2)))) (hz8:H8[yb]?=some (.rw [.s (yb+1) wl0.length wl0.length])) (hn8:H8[yb+1]?=some (.rw (gu wl0)))
  (hl:0<l.length∧l.length≤5) (hno:∀ i<l.length,1≤gi l i∧gi l i≤10000) (hpl:pu<l.length) (hrg:jM (lo,hb')) (hpu:(gp p i).2=(pu:Int)) (hfm:fm=(gp p i).1)
  (hlo:lo=(en - s.off).tdiv 100) (hhb:hb'=min 1000 ((fm+s.off).tdiv 100)) (hbd:1≤en - s.off∧en≤fm∧fm+s.off≤100000∧en - s.off≤tr∧tr≤fm+s.off∧0≤s.off)
  (em0:m0=min 1000 (tr / 100)) (em1:m1=min 1000 (tr*gi l pu / 1000000)) (hin8:pu ∈ wl0) (hwn:wl0.length≤1000) :
  bK Tryz.prog σ.length 312 none (agt 31 (fbody Tryz.f3)) (jB Tryz.prog σ [ResultVar.tmp 12] fun v' s=>v'=.bool true∧s=σ) [(13,.s py p.length pc),(6,.p σ.length),(18,.i (i:Nat)),(19,.i en),(24,.i (gi l pu)),(26,.p wb),(28,.s hi5 2 2),(29,.p rc),(30,.s gb2 2 2),(31,.i 0),(32,.s yb 1 1),(33,.i 0)] [] H8:=by
 have e:=hno pu hpl
 have C:uf (uh l (lo,hb')):=Gq hl hno hrg
 have q:bB<H8.length:=dJ (hA8.bars 0 (show 0<1 by omega))
 have r:bS<H8.length:=dJ (hA8.steps 0 (show 0<1 by omega))
 have hf1:Ev Tryz.prog 22 [.agg #[.s bB 1 1,.s bS 1 1],.agg #[.i 0,.s rb 1 1],.s hi5 2 2] H8 (.i 0) H8:=by
  refine Ic (bar:=0) (ks:=fun _=>pu) (cB:=1) (cS:=1) (n:=0) (hs:=fun i=>if i=0 then m0 else m1) C hA8 (fun _ _ _ _=>aD _) (show 0<1 by omega) (fun _ _=>hpl) (fun i hi=>?_) q r (aQ hrb8) hni8 rfl (fun i hi=>?_) (aQ hh8) (fun i hi=>?_)
  ·obtain rfl:i=0:=by have:i<1:=hi;omega
   exact aF hrb8
  ·have:i≤1:=hi
   rcases (by omega:i=0∨i=1) with rfl|rfl
   ·exact aF hh8
   ·exact aF hh8
  ·have:i≤1:=hi
   rcases (by omega:i=0∨i=1) with rfl|rfl
   ·show lo≤m0∧m0≤hb'
    rw [em0,hlo,hhb,cJ oO,cJ oO]
    omega
   ·have:=EI (x:=tr) (y:=tr) e oO (dE _) oO
    rw [← em0,← em1] at this
    exact this
 have a6:=hw9
 have a7:=hrc8
 conv=>arg 5;whnf
 refine LC ?_
 refine dS (ι:=Nat×Bool) (fun k=>[(13,.s py p.length pc),(6,.p σ.length),(18,.i (i:Nat)),(19,.i en),(24,.i (gi l pu)),(30,.s gb2 2 2),(32,.s yb 1 1),(34,.bool k.2),(35,.i (k.1:Nat))])
  (fun k mk H=>k.1≤wl0.length∧mk=[]∧H=H8∧(k.2=true↔∃ j<k.1,gn wl0 j=pu)) (fun k=>wl0.length - k.1) (0,false) tE ⟨bN _,rfl,rfl,by simp⟩ ?_
 clear a6 a7 hf1
 rintro ⟨k,fd⟩ mk H ⟨hk,rfl,rfl,m⟩
 dsimp only at hk m ⊢
 have hz0:aJ H yb 0 1=some [.s (yb+1) wl0.length wl0.length]:=aV hz8 rfl
 have hz1:aH H yb 0=some (.s (yb+1) wl0.length wl0.length):=aF hz8
 by_cases w:k<wl0.length
 ·have D:(k:Int)<(wl0.length:Nat):=oO
  have hd1:aH H (yb+1) k=some (.i (gn wl0 k:Nat)):=by rw [aF hn8];exact Ap w
  have hd2:aH H py (0+i*2+1)=some (.i (pu:Nat)):=by rw [← hpu];exact IV hy8 hip
  refine LC ?_
  have hcl1:∀ {o n c:Nat},closed H.length (.slice (some ⟨yb,o,none⟩) n c)=true:=fun {o n c}=>bP (Nat.blt_eq.mpr (aQ hz8))
  have hcl2:∀ {o:Nat},closed H.length (.pointer (some ⟨yb,o,none⟩))=true:=fun {o}=>Nat.blt_eq.mpr (aQ hz8)
  have hcl3:∀ {o n c:Nat},closed H.length (.slice (some ⟨yb+1,o,none⟩) n c)=true:=fun {o n c}=>bP (Nat.blt_eq.mpr (aQ hn8))
  have hcl4:∀ {o:Nat},closed H.length (.pointer (some ⟨yb+1,o,none⟩))=true:=fun {o}=>Nat.blt_eq.mpr (aQ hn8)
  have hcls:∀ {o n c:Nat},closed H.length (.slice (some ⟨py,o,none⟩) n c)=true:=fun {o n c}=>bP (Nat.blt_eq.mpr (jF hy8))
  have hclg:∀ {o:Nat},closed H.length (.pointer (some ⟨py,o,none⟩))=true:=fun {o}=>Nat.blt_eq.mpr (jF hy8)
  have hclp:∀ {o:Nat},closed H.length (.pointer (some ⟨σ.length,o,none⟩))=true:=fun {o}=>Nat.blt_eq.mpr (aQ hs)
  have hqz:∀ X,aH (H++X) yb (0+Int.toNat 0*1)=some (.s (yb+1) wl0.length wl0.length):=fun X=>aF (aA hz8)
  have hqk:∀ X,aH (H++X) (yb+1) k=some (.i (gn wl0 k:Nat)):=fun X=>by
   rw [aF (aA hn8)];exact Ap w
  have hqf:∀ X,aH (H++X) py (0+i*2+1)=some (.i (pu:Nat)):=fun X=>by rw [← hpu];exact IV (pR hy8) hip
  refine .mk (dH [(13,.s py p.length pc),(6,.p σ.length),(18,.i (i:Nat)),(19,.i en),(24,.i (gi l pu)),(30,.s gb2 2 2),(32,.s yb 1 1),(34,.bool fd),(35,.i (k:Nat))] H rfl tE ?_)
  cases fd
  ·refine fA oK rfl (?_)
   refine LC ?_
   refine ⟨(k+1,decide (((gn wl0 k:Nat):Int)=(pu:Nat))),⟨by dsimp only;omega,rfl,bL H,?_⟩,by dsimp only;omega,tE⟩
   dsimp only
   rw [decide_eq_true_iff]
   refine ⟨fun h=>⟨k,oO,oO⟩,fun ⟨j,hj,h⟩=>?_⟩
   by_cases E:j=k
   ·rw [← E];omega
   ·exact absurd (m.2 ⟨j,oO,h⟩) oS
  ·refine fA oK rfl (?_)
   refine LC ?_
   refine ⟨(k+1,true),⟨by dsimp only;omega,rfl,bL H,?_⟩,by dsimp only;omega,tE⟩
   obtain ⟨j,hj,h⟩:=m.1 rfl
   exact ⟨fun _=>⟨j,by dsimp only;omega,h⟩,fun _=>rfl⟩
 ·obtain rfl:k=wl0.length:=oO
  have D:¬ ((wl0.length:Nat):Int)<(wl0.length:Nat):=oO
  obtain rfl:fd=true:=by
   rw [m]
   obtain ⟨j,hj,h⟩:=ey hin8
   exact ⟨j,hj,by simp [gn,hj,h]⟩
  refine LC ?_
  have hcls:∀ {o n c:Nat},closed H.length (.slice (some ⟨py,o,none⟩) n c)=true:=fun {o n c}=>bP (Nat.blt_eq.mpr (jF hy8))
  have hclg:∀ {o:Nat},closed H.length (.pointer (some ⟨py,o,none⟩))=true:=fun {o}=>Nat.blt_eq.mpr (jF hy8)
  have hclp:∀ {o:Nat},closed H.length (.pointer (some ⟨σ.length,o,none⟩))=true:=fun {o}=>Nat.blt_eq.mpr (aQ hs)
  have hqo:∀ X,aH (H++X) σ.length (0+2)=some (.i s.off):=fun X=>aF (aA hs)
  have hqf:∀ X,aH (H++X) py (0+i*2+0)=some (.i fm):=fun X=>by rw [hfm];exact IU (pR hy8) hip
  have k1:0≤(en - s.off)*gi l pu∧(en - s.off)*gi l pu≤100000*10000:=⟨er oO oO,fo oO e.2 oO oO⟩
  have k2:0≤(fm+s.off)*gi l pu∧(fm+s.off)*gi l pu≤100000*10000:=⟨er oO oO,fo oO e.2 oO oO⟩
  have k3:0≤((en - s.off)*gi l pu).tdiv 1000000∧((en - s.off)*gi l pu).tdiv 1000000≤1000:=by rw [cJ oO];omega
  have k4:0≤((fm+s.off)*gi l pu).tdiv 1000000∧((fm+s.off)*gi l pu).tdiv 1000000≤1000:=by rw [cJ oO];omega
  refine .mk (dH [(13,.s py p.length pc),(6,.p σ.length),(18,.i (i:Nat)),(19,.i en),(24,.i (gi l pu)),(30,.s gb2 2 2),(34,.bool true)] H rfl tE ?_)
  refine fA oK rfl (?_)
  refine LC ?_
  obtain ⟨g,d⟩:∃ g,g=min 1000 (((en - s.off)*gi l pu).tdiv 1000000):=⟨_,rfl⟩
  obtain ⟨f,a⟩:∃ f,f=min 1000 (((fm+s.off)*gi l pu).tdiv 1000000):=⟨_,rfl⟩
  obtain ⟨r1,t⟩:∃ r1,r1=((uh l (lo,hb')).rg (fun _=>pu) ((uh l (lo,hb')).bf 0) 1):=⟨_,rfl⟩
  refine .mk (dH [(30,.s gb2 2 2),(34,.bool true),(36,.i g),(37,.i f)] H (bL H) ⟨rfl,rfl,congrArg (fun x=>some (Value.i x)) d.symm,congrArg (fun x=>some (Value.i x)) a.symm,trivial⟩ ?_)
  have v:=(EI (x:=en - s.off) (y:=en - s.off) e oO oO oO).1
  have z:=(EI (x:=fm+s.off) (y:=fm+s.off) e oO oO oO).2
  have e0:min 1000 ((en - s.off) / 100)=lo:=by
   have:=hrg;simp only [jM] at this
   rw [hlo] at this ⊢;rw [cJ oO] at this ⊢;omega
  have e1:min 1000 ((fm+s.off) / 100)=hb':=by rw [hhb,cJ oO]
  rw [e0] at v
  rw [e1] at z
  have u:r1=((qp 12 (iL (gi l pu)) lo).1,(qp 12 (iL (gi l pu)) hb').2):=t
  have g1:r1.1≤g:=by
   rw [u,d,cJ oO];exact v
  have g2:r1.2≥f:=by
   rw [u,a,cJ oO];exact z
  have hd1:aH H gb2 2=some (.i r1.1):=by rw [aF hgb8,t];rfl
  have hd2:aH H gb2 3=some (.i r1.2):=by rw [aF hgb8,t];rfl
  have hf2:=Dp hni8
  apply aG
  refine LC ?_
  exact dK (.tmp rfl .nil) (.plain hp rfl) ⟨rfl,rfl⟩
end Go.Proofs.YtajpgeklmcjciaaGreat
