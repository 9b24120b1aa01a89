/- What CheckPoints of rim does. Conditions: stand in each theorem. -/
import Derived.Test.YtgfnogdecggkkaaKeMS
import Derived.Test.YtgfnogdecggkkaaKeMV
namespace Go.Proofs.Ytgfnogdecggkkaa
open Go Go.AH
attribute [local irreducible] WOps WCode WFree retQ thenQ blockQ OpOk ACall RetRef roundA roundB
set_option maxRecDepth 100000
set_option maxHeartbeats 1000000
def firstB (n : Nat) (p : Nat → Prop) [DecidablePred p] : Int := match (List.range n).find? (fun i => decide (p i)) with | some i => i | none => -1
def both (f : Nat → Int × Int) (p r : Int) (k : Nat) : Prop := ((f k).1 ≤ p ∧ p ≤ (f k).2) ∧ (f k).1 ≤ r ∧ r ≤ (f k).2
instance (f : Nat → Int × Int) (p r : Int) : DecidablePred (both f p r) := fun k => by unfold both; infer_instance
end Go.Proofs.Ytgfnogdecggkkaa
namespace Go.Proofs.Ytgfnogdecggkkaa
open Go Go.AH
attribute [local irreducible] WOps WCode WFree retQ thenQ blockQ OpOk ACall RetRef roundA roundB
set_option maxRecDepth 100000
set_option maxHeartbeats 1000000
def badPt (s : St) (q : List Int) (i : Nat) : Prop := gi q i > s.long ∨ gi q i < s.short ∨ (0 < i ∧ gi q i ≥ gi q (i - 1))
instance (s : St) (q : List Int) : DecidablePred (badPt s q) := fun i => by unfold badPt; infer_instance
def meets (s : St) (l q : List Int) (i : Nat) : Prop := 0 < i ∧ someB l.length (both (spanAt s l) (gi q (i - 1)) (gi q i)) = true
instance (s : St) (l q : List Int) : DecidablePred (meets s l q) := fun i => by unfold meets; infer_instance
def checkQ (s : St) (l q : List Int) : Int :=
  if checkS s l ≠ 0 then checkS s l else if q.length > 20 then 6 else if someB q.length (badPt s q) = true then 3 else if someB q.length (meets s l q) = true then 14 else 0
def lastQ (s : St) (q : List Int) : Nat → Int
  | 0 => s.long + 1
  | i + 1 => gi q i
end Go.Proofs.Ytgfnogdecggkkaa
namespace Go.Proofs.Ytgfnogdecggkkaa
open Go Go.AH
attribute [local irreducible] WOps WCode WFree retQ thenQ blockQ OpOk ACall RetRef roundA roundB
set_option maxRecDepth 100000
set_option maxHeartbeats 1000000
def ptsL (pl : List (Int × Int)) : Nat → List Int
  | 0 => []
  | i + 1 => ptsL pl i ++ [(gp pl i).1]
theorem ptsL_len (pl : List (Int × Int)) : ∀ i, (ptsL pl i).length = i
  | 0 => rfl
  | i + 1 => by simp only [ptsL, List.length_append, ptsL_len pl i, List.length_cons, List.length_nil]
theorem planE_zero {s : St} {l : List Int} (h : planE s l ≠ 0) : planR s l = [] := by
  unfold planE at h
  unfold planR planIf
  split
  · rfl
  · rename_i hc
    rw [if_neg hc] at h
    split
    · rename_i hp; rw [if_pos hp] at h; exact absurd rfl h
    · rfl
def padL (R : List (Int × Int)) (i : Nat) : List Int := ptsL R i ++ List.replicate (R.length - i) 0
theorem grd_len {F : Nat → Int × Int} {n : Nat} {to : Int} : ∀ (k : Nat) (x : Int), (grd F n to k x).1.length ≤ k
  | 0, x => by simp [grd]
  | k + 1, x => by
    simp only [grd]
    split
    · simp
    · have := grd_len (F := F) (n := n) (to := to) k ((F (bestF F x n).toNat).1 - 1)
      simp only [List.length_cons]; omega
theorem planR_len (s : St) (l : List Int) : (planR s l).length ≤ 200000 := by
  unfold planR
  split
  · simp
  · rename_i hc
    obtain ⟨_, _, hs, _⟩ := checkS_zero (by omega : checkS s l = 0)
    unfold planIf
    split
    · have := grd_len (F := sp s l) (n := l.length) (to := s.short) (s.long - s.short + 1).toNat s.long
      unfold planS
      unfold badStone at hs
      omega
    · simp
theorem planR_pos {s : St} {l : List Int} (h : planE s l = 0) : 1 ≤ (planR s l).length := by
  unfold planE at h
  unfold planR
  split at h
  · rename_i hc; exact absurd h hc
  · rename_i hc
    obtain ⟨_, _, hs, _⟩ := checkS_zero (by omega : checkS s l = 0)
    have hs2 : s.short ≤ s.long := by unfold badStone at hs; omega
    rw [if_neg hc]
    unfold planIf
    split at h
    · rename_i hp
      rw [if_pos hp]
      unfold planS at hp ⊢
      rw [show (s.long - s.short + 1).toNat = (s.long - s.short).toNat + 1 from by omega] at hp ⊢
      simp only [grd] at hp ⊢
      split
      · rename_i hq; rw [if_pos hq] at hp; simp only at hp; omega
      · simp
    · cases h
end Go.Proofs.Ytgfnogdecggkkaa
