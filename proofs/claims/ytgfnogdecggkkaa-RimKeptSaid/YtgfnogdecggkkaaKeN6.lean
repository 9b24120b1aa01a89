/- How far, plainly. Conditions: stand in each theorem. -/
import Derived.Test.YtgfnogdecggkkaaKeMV
namespace Go.Proofs.Ytgfnogdecggkkaa
open Go Go.AH
attribute [local irreducible] WOps WCode WFree retQ thenQ blockQ OpOk ACall RetRef roundA roundB
set_option maxRecDepth 100000
set_option maxHeartbeats 1000000
def farS (F : Nat → Int × Int) (n : Nat) (short : Int) : Nat → Int → Int
  | 0, x => x
  | m + 1, x => if x < short ∨ bestF F x n < 0 then x else farS F n short m ((F (bestF F x n).toNat).1 - 1)
def farP (s : St) (l : List Int) (r : Int) : Int × Int :=
  if checkS s l ≠ 0 then (0, checkS s l) else if r < 1 ∨ r > 20 then (0, 2) else if farS (sp s l) l.length s.short r.toNat s.long + 1 > s.long then (0, 19) else (farS (sp s l) l.length s.short r.toNat s.long + 1, 0)
def farV (s : St) (l : List Int) (r : Int) : Value := .tuple #[.int .i64 (farP s l r).1, .int .i64 (farP s l r).2]
end Go.Proofs.Ytgfnogdecggkkaa
