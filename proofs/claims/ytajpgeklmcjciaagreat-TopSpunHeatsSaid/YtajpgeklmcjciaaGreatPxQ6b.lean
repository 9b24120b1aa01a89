/- As the text before it. -/
import Derived.Test.YtajpgeklmcjciaaGreatPxQ6
set_option maxRecDepth 100000
set_option maxHeartbeats 8000000
namespace Go.AH.Heat
open Go Go.AH
def wyL (i:Nat):List Nat:=match i with|0=>[0,1]|_=>[0]
def adD (f:Nat) (args:List Value) (σ:Heap):Res:=match args with
 |[v]=>bif Nat.beq f 76 then (Lc σ v).bind fun _=>bQ (niB σ) (iJ (.int .i64 0) σ) else none
 |[v,u]=>bif Nat.beq f 134 then (Lc σ v).bind fun _=>bQ (isHm u && niB σ) (some (.tuple #[.slice (some ⟨σ.length,0,none⟩) 2 2,.int .i64 0],σ++[.rw [.int .i64 0,.int .i64 1]],σ.length))
  else bif Nat.beq f 21 then (Lc σ v).bind fun _=>bQ (isHm u && niB σ) (some (.tuple #[.slice (some ⟨σ.length,0,none⟩) 2 2,.int .i64 0],σ++[.rw [.slice (some ⟨σ.length+1,0,none⟩) 2 2,.slice (some ⟨σ.length+2,0,none⟩) 1 1],.rw [.int .i64 0,.int .i64 1],.rw [.int .i64 0]],σ.length))
  else none
 |_=>none
end Go.AH.Heat
namespace Go.Proofs.YtajpgeklmcjciaaGreat
open Go Go.AH Go.AH.Heat
def Xb:jk:=fun f args σ=>match adD f args σ with|some r=>some r|none=>adf f args σ
theorem aao:iK Tryz.prog Xb:=by
 intro f e σ r h
 unfold Xb at h
 split at h
 ·rename_i r' a
  cases h
  unfold adD at a
  split at a
  ·rename_i v
   cases hf:Nat.beq f 76 with
   |false=>rw [hf] at a;cases a
   |true =>
    rw [hf] at a
    have c:=aM hf
    subst c
    simp only [cond_true,aL,aN] at a
    obtain ⟨x,h1,h2,h3⟩:=a
    cases nP h3
    obtain ⟨h4,_,_,h7⟩:=AU h1
    obtain ⟨h8,h9⟩:=yC h7
    rw [h4]
    exact ⟨Hl qO h8 h2,Keep.refl⟩
  ·rename_i v u
   cases hf:Nat.beq f 134 with
   |true =>
    rw [hf] at a
    have c:=aM hf
    subst c
    simp only [cond_true,aL,aN,aE] at a
    obtain ⟨x,h1,⟨h2,d⟩,h3⟩:=a
    cases h3
    obtain ⟨h4,h5,h6,h7⟩:=AU h1
    obtain ⟨h8,h9⟩:=yC h7
    rw [h4,Ih h2]
    exact ⟨ae5 (m:=hm) qO h8 h9 oD h5 h6 d Di.symm,Keep.app⟩
   |false =>
    rw [hf] at a
    simp only [cond_false] at a
    clear hf
    cases hf:Nat.beq f 21 with
    |false=>rw [hf] at a;cases a
    |true =>
     rw [hf] at a
     have c:=aM hf
     subst c
     simp only [cond_true,aL,aN,aE] at a
     obtain ⟨x,h1,⟨h2,d⟩,h3⟩:=a
     cases h3
     obtain ⟨h4,h5,h6,h7⟩:=AU h1
     obtain ⟨h8,h9⟩:=yC h7
     rw [h4,Ih h2]
     exact ⟨Oa (m:=hm) qO h8 h9 oD h5 h6 d (by rw [Di];simp) (l:=wyL) (fun i hi=>by
      match i,hi with
      |0,_=>exact Us.symm
      |1,_=>exact Ut.symm),Keep.app⟩
  ·cases a
 ·exact aad f e σ r h
def ahZ:Known:=⟨65,[],[],.bool true,[]⟩
theorem aap:jy Tryz.prog ahZ:=⟨lU (orc:=Xb) tabOk aao mixed (n:=400) (lo:=0) oK,oK,oK⟩
end Go.Proofs.YtajpgeklmcjciaaGreat
