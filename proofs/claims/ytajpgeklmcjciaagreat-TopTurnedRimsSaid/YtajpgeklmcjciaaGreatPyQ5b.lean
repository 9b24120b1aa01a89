/- As the text before it. -/
import Derived.Test.YtajpgeklmcjciaaGreatPyQ5
set_option maxRecDepth 100000
set_option maxHeartbeats 8000000
open Go.Proofs.Tryz
open Go Go.AH
namespace Go.Proofs.YtajpgeklmcjciaaGreat
open Go Go.AH Go.AH.Heat Go.AH.Warp
attribute [local irreducible] dA bJ bK jh fQ dK eH bY eu aW dR dW
open Go.AH.Heat
def _root_.Go.AH.Heat.wyL (i:Nat):List Nat:=match i with|0=>[0,1]|_=>[0]
def _root_.Go.AH.Heat.aed (f:Nat) (args:List Value) (U:Heap):Res:=match args with
 |[v]=>bif Nat.beq f 76 then (Lp U v).bind fun _=>bT (niB U) (iQ (.int .i64 0) U) else none
 |[v,u]=>bif Nat.beq f 134 then (Lp U v).bind fun _=>bT (isHm u && niB U) (some (.tuple #[.slice (some ⟨U.length,0,none⟩) 2 2,.int .i64 0],U++[.rw [.int .i64 0,.int .i64 1]],U.length))
  else bif Nat.beq f 21 then (Lp U v).bind fun _=>bT (isHm u && niB U) (some (.tuple #[.slice (some ⟨U.length,0,none⟩) 2 2,.int .i64 0],U++[.rw [.slice (some ⟨U.length+1,0,none⟩) 2 2,.slice (some ⟨U.length+2,0,none⟩) 1 1],.rw [.int .i64 0,.int .i64 1],.rw [.int .i64 0]],U.length))
  else none
 |_=>none
open Go Go.AH Go.AH.Heat
def XD:jw:=fun f args U=>match aed f args U with|some r=>some r|none=>adP f args U
theorem aa5:iR prog XD:=by
 intro f d U r h
 unfold XD at h
 split at h
 ·rename_i r' a
  cases h
  unfold aed at a
  split at a
  ·rename_i v
   cases hf:Nat.beq f 76 with
   |false=>rw [hf] at a;cases a
   |true =>
    rw [hf] at a
    have c:=aM hf
    subst c
    simp only [cond_true,aL,aO] at a
    obtain ⟨x,h1,h2,h3⟩:=a
    cases nJ h3
    obtain ⟨h4,_,_,h7⟩:=AQ h1
    obtain ⟨h8,h9⟩:=yD h7
    rw [h4]
    exact ⟨UZ qN h8 h2,Keep.refl⟩
  ·rename_i v u
   cases hf:Nat.beq f 134 with
   |true =>
    rw [hf] at a
    have c:=aM hf
    subst c
    simp only [cond_true,aL,aO,aE] at a
    obtain ⟨x,h1,⟨h2,e⟩,h3⟩:=a
    cases h3
    obtain ⟨h4,h5,h6,h7⟩:=AQ h1
    obtain ⟨h8,h9⟩:=yD h7
    rw [h4,IK h2]
    exact ⟨afX (m:=hm) qN h8 h9 oD h5 h6 e Dt.symm,Keep.app⟩
   |false =>
    rw [hf] at a
    simp only [cond_false] at a
    clear hf
    cases hf:Nat.beq f 21 with
    |false=>rw [hf] at a;cases a
    |true =>
     rw [hf] at a
     have c:=aM hf
     subst c
     simp only [cond_true,aL,aO,aE] at a
     obtain ⟨x,h1,⟨h2,e⟩,h3⟩:=a
     cases h3
     obtain ⟨h4,h5,h6,h7⟩:=AQ h1
     obtain ⟨h8,h9⟩:=yD h7
     rw [h4,IK h2]
     exact ⟨aaF (m:=hm) qN h8 h9 oD h5 h6 e (by rw [Dt];simp) (l:=wyL) (fun i hi=>by
      match i,hi with
      |0,_=>exact UJ.symm
      |1,_=>exact UK.symm),Keep.app⟩
  ·cases a
 ·exact aaR f d U r h
def aiU:Known:=⟨65,[],[],.bool true,[]⟩
theorem aa6:jF prog aiU:=⟨lT (orc:=XD) tabOk aa5 mixed (n:=400) (lo:=0) oK,oK,oK⟩
end Go.Proofs.YtajpgeklmcjciaaGreat
