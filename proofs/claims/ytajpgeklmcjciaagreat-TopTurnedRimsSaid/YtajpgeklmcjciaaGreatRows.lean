/-
  No cell of these rows narrows 'for every input' (looked for: loops, veiled, ifaces, maps, wideKeys, modest, calm, conditions, laid).
  DERIVED. THE GIVEN ROWS OF THIS SEAT. 8 by the template 'for every input the law returns true; each argument reads behind the call as it read before'; 0 by the template 'total and deterministic' (their statements: YtajpgeklmcjciaaGreatTotals.lean).
  GIVEN WITH THE SEED: the statements are not yours to turn. If you find one false, say at which input.
  Laid BY PROGRAM, IN A SANDBOX (cutbox-rows.mjs): the forced cells as the released guide's own fill.sh prints them over the translation 8e0e1e568040c097… (all of the seat's roots in one cut). By AI agents, Wed Nov 11 2026. No macro, syntax, notation, axiom, sorry.
-/
import Derived.Test.YtajpgeklmcjciaaGreatChecked
import GoSem.Claim
import GoSem.ClaimJoined
import GoSem.ClaimMapViews
import Derived.JoinedTies
import Derived.KernelRfl
namespace Go.Proofs.YtajpgeklmcjciaaGreat
/- THE CELL 'sum', in the pinned program and in every row, IS THE sha256 OF THE DUMP (.gsa) THAT YtajpgeklmcjciaaGreatProg.lean LOADS. Nothing in Lean hashes anything: it is a label: what it is worth is what the hold of that sum in a sandbox is worth. -/
noncomputable def Tryz.pinned : Pinned := { name := "ytajpgeklmcjciaagreat", sum := "8e0e1e568040c0978f05c1c21003e4d0b005842ad83581e380a328eb0fa899c8", checked := Tryz.checked }
namespace Rows
def none {H : Type} : Left H := { results := [], args := [] }

/-- 'bolstertop.TopSpunHeats': WHATEVER THE INPUT: true; the input reads as it did. -/
def topSpunHeatsSpec : ChangeSpec := { name := "topSpunHeats", fn := fun _ => fun
  | [d1, d2, d3, d4, d5, d6] => { results := [.lit (.bool true)], args := [d1, d2, d3, d4, d5, d6] }
  | _ => none }
def topSpunHeatsRow : OpenClaim := { program := "ytajpgeklmcjciaagreat", sum := "8e0e1e568040c0978f05c1c21003e4d0b005842ad83581e380a328eb0fa899c8", func := "bolster/bolstertop.TopSpunHeats", spec := "topSpunHeats", unfollowed := true, recurses := true, plainKeys := false, apart := false }
def TopSpunHeatsSaid : Prop := topSpunHeatsRow.holds Tryz.pinned (OpenSpec.ofChange topSpunHeatsSpec)

/-- ITS FALSE NEIGHBOUR: 'it returns false'. Refute it at one input. -/
def topSpunHeatsWrong : ChangeSpec := { name := "topSpunHeats", fn := fun _ => fun
  | [d1, d2, d3, d4, d5, d6] => { results := [.lit (.bool false)], args := [d1, d2, d3, d4, d5, d6] }
  | _ => none }
def TopSpunHeatsWrongFalsely : Prop := topSpunHeatsRow.holds Tryz.pinned (OpenSpec.ofChange topSpunHeatsWrong)

/-- 'bolstertop.TopTurnedRims': WHATEVER THE INPUT: true; the input reads as it did. -/
def topTurnedRimsSpec : ChangeSpec := { name := "topTurnedRims", fn := fun _ => fun
  | [d1, d2, d3, d4, d5, d6] => { results := [.lit (.bool true)], args := [d1, d2, d3, d4, d5, d6] }
  | _ => none }
def topTurnedRimsRow : OpenClaim := { program := "ytajpgeklmcjciaagreat", sum := "8e0e1e568040c0978f05c1c21003e4d0b005842ad83581e380a328eb0fa899c8", func := "bolster/bolstertop.TopTurnedRims", spec := "topTurnedRims", unfollowed := true, recurses := true, plainKeys := false, apart := false }
def TopTurnedRimsSaid : Prop := topTurnedRimsRow.holds Tryz.pinned (OpenSpec.ofChange topTurnedRimsSpec)

/-- ITS FALSE NEIGHBOUR: 'it returns false'. Refute it at one input. -/
def topTurnedRimsWrong : ChangeSpec := { name := "topTurnedRims", fn := fun _ => fun
  | [d1, d2, d3, d4, d5, d6] => { results := [.lit (.bool false)], args := [d1, d2, d3, d4, d5, d6] }
  | _ => none }
def TopTurnedRimsWrongFalsely : Prop := topTurnedRimsRow.holds Tryz.pinned (OpenSpec.ofChange topTurnedRimsWrong)

/-- 'bolstertop.TopBentHeats': WHATEVER THE INPUT: true; the input reads as it did. -/
def topBentHeatsSpec : ChangeSpec := { name := "topBentHeats", fn := fun _ => fun
  | [d1, d2, d3, d4] => { results := [.lit (.bool true)], args := [d1, d2, d3, d4] }
  | _ => none }
def topBentHeatsRow : OpenClaim := { program := "ytajpgeklmcjciaagreat", sum := "8e0e1e568040c0978f05c1c21003e4d0b005842ad83581e380a328eb0fa899c8", func := "bolster/bolstertop.TopBentHeats", spec := "topBentHeats", unfollowed := true, recurses := true, plainKeys := false, apart := false }
def TopBentHeatsSaid : Prop := topBentHeatsRow.holds Tryz.pinned (OpenSpec.ofChange topBentHeatsSpec)

/-- ITS FALSE NEIGHBOUR: 'it returns false'. Refute it at one input. -/
def topBentHeatsWrong : ChangeSpec := { name := "topBentHeats", fn := fun _ => fun
  | [d1, d2, d3, d4] => { results := [.lit (.bool false)], args := [d1, d2, d3, d4] }
  | _ => none }
def TopBentHeatsWrongFalsely : Prop := topBentHeatsRow.holds Tryz.pinned (OpenSpec.ofChange topBentHeatsWrong)

/-- 'bolstertop.TopTemperedPasses': WHATEVER THE INPUT: true; the input reads as it did. -/
def topTemperedPassesSpec : ChangeSpec := { name := "topTemperedPasses", fn := fun _ => fun
  | [d1, d2, d3, d4] => { results := [.lit (.bool true)], args := [d1, d2, d3, d4] }
  | _ => none }
def topTemperedPassesRow : OpenClaim := { program := "ytajpgeklmcjciaagreat", sum := "8e0e1e568040c0978f05c1c21003e4d0b005842ad83581e380a328eb0fa899c8", func := "bolster/bolstertop.TopTemperedPasses", spec := "topTemperedPasses", unfollowed := true, recurses := true, plainKeys := false, apart := false }
def TopTemperedPassesSaid : Prop := topTemperedPassesRow.holds Tryz.pinned (OpenSpec.ofChange topTemperedPassesSpec)

/-- ITS FALSE NEIGHBOUR: 'it returns false'. Refute it at one input. -/
def topTemperedPassesWrong : ChangeSpec := { name := "topTemperedPasses", fn := fun _ => fun
  | [d1, d2, d3, d4] => { results := [.lit (.bool false)], args := [d1, d2, d3, d4] }
  | _ => none }
def TopTemperedPassesWrongFalsely : Prop := topTemperedPassesRow.holds Tryz.pinned (OpenSpec.ofChange topTemperedPassesWrong)

/-- 'bolstertop.TopSpunPasses': WHATEVER THE INPUT: true; the input reads as it did. -/
def topSpunPassesSpec : ChangeSpec := { name := "topSpunPasses", fn := fun _ => fun
  | [d1, d2, d3] => { results := [.lit (.bool true)], args := [d1, d2, d3] }
  | _ => none }
def topSpunPassesRow : OpenClaim := { program := "ytajpgeklmcjciaagreat", sum := "8e0e1e568040c0978f05c1c21003e4d0b005842ad83581e380a328eb0fa899c8", func := "bolster/bolstertop.TopSpunPasses", spec := "topSpunPasses", unfollowed := true, recurses := true, plainKeys := false, apart := false }
def TopSpunPassesSaid : Prop := topSpunPassesRow.holds Tryz.pinned (OpenSpec.ofChange topSpunPassesSpec)

/-- ITS FALSE NEIGHBOUR: 'it returns false'. Refute it at one input. -/
def topSpunPassesWrong : ChangeSpec := { name := "topSpunPasses", fn := fun _ => fun
  | [d1, d2, d3] => { results := [.lit (.bool false)], args := [d1, d2, d3] }
  | _ => none }
def TopSpunPassesWrongFalsely : Prop := topSpunPassesRow.holds Tryz.pinned (OpenSpec.ofChange topSpunPassesWrong)

/-- 'bolstertop.TopWarpedTruths': WHATEVER THE INPUT: true; the input reads as it did. -/
def topWarpedTruthsSpec : ChangeSpec := { name := "topWarpedTruths", fn := fun _ => fun
  | [d1, d2, d3] => { results := [.lit (.bool true)], args := [d1, d2, d3] }
  | _ => none }
def topWarpedTruthsRow : OpenClaim := { program := "ytajpgeklmcjciaagreat", sum := "8e0e1e568040c0978f05c1c21003e4d0b005842ad83581e380a328eb0fa899c8", func := "bolster/bolstertop.TopWarpedTruths", spec := "topWarpedTruths", unfollowed := true, recurses := true, plainKeys := false, apart := false }
def TopWarpedTruthsSaid : Prop := topWarpedTruthsRow.holds Tryz.pinned (OpenSpec.ofChange topWarpedTruthsSpec)

/-- ITS FALSE NEIGHBOUR: 'it returns false'. Refute it at one input. -/
def topWarpedTruthsWrong : ChangeSpec := { name := "topWarpedTruths", fn := fun _ => fun
  | [d1, d2, d3] => { results := [.lit (.bool false)], args := [d1, d2, d3] }
  | _ => none }
def TopWarpedTruthsWrongFalsely : Prop := topWarpedTruthsRow.holds Tryz.pinned (OpenSpec.ofChange topWarpedTruthsWrong)

/-- 'bolstertop.TopComparedBlades': WHATEVER THE INPUT: true; the input reads as it did. -/
def topComparedBladesSpec : ChangeSpec := { name := "topComparedBlades", fn := fun _ => fun
  | [d1, d2, d3, d4] => { results := [.lit (.bool true)], args := [d1, d2, d3, d4] }
  | _ => none }
def topComparedBladesRow : OpenClaim := { program := "ytajpgeklmcjciaagreat", sum := "8e0e1e568040c0978f05c1c21003e4d0b005842ad83581e380a328eb0fa899c8", func := "bolster/bolstertop.TopComparedBlades", spec := "topComparedBlades", unfollowed := true, recurses := true, plainKeys := false, apart := false }
def TopComparedBladesSaid : Prop := topComparedBladesRow.holds Tryz.pinned (OpenSpec.ofChange topComparedBladesSpec)

/-- ITS FALSE NEIGHBOUR: 'it returns false'. Refute it at one input. -/
def topComparedBladesWrong : ChangeSpec := { name := "topComparedBlades", fn := fun _ => fun
  | [d1, d2, d3, d4] => { results := [.lit (.bool false)], args := [d1, d2, d3, d4] }
  | _ => none }
def TopComparedBladesWrongFalsely : Prop := topComparedBladesRow.holds Tryz.pinned (OpenSpec.ofChange topComparedBladesWrong)

/-- 'bolstertop.TopPulleyTruths': WHATEVER THE INPUT: true; the input reads as it did. -/
def topPulleyTruthsSpec : ChangeSpec := { name := "topPulleyTruths", fn := fun _ => fun
  | [d1, d2, d3, d4] => { results := [.lit (.bool true)], args := [d1, d2, d3, d4] }
  | _ => none }
def topPulleyTruthsRow : OpenClaim := { program := "ytajpgeklmcjciaagreat", sum := "8e0e1e568040c0978f05c1c21003e4d0b005842ad83581e380a328eb0fa899c8", func := "bolster/bolstertop.TopPulleyTruths", spec := "topPulleyTruths", unfollowed := true, recurses := true, plainKeys := false, apart := false }
def TopPulleyTruthsSaid : Prop := topPulleyTruthsRow.holds Tryz.pinned (OpenSpec.ofChange topPulleyTruthsSpec)

/-- ITS FALSE NEIGHBOUR: 'it returns false'. Refute it at one input. -/
def topPulleyTruthsWrong : ChangeSpec := { name := "topPulleyTruths", fn := fun _ => fun
  | [d1, d2, d3, d4] => { results := [.lit (.bool false)], args := [d1, d2, d3, d4] }
  | _ => none }
def TopPulleyTruthsWrongFalsely : Prop := topPulleyTruthsRow.holds Tryz.pinned (OpenSpec.ofChange topPulleyTruthsWrong)

/- THE SECOND FORM. 'bulk': how many values and letters a reading holds, each counted each time it is reached (what is shared counts as often as it is met; a slice's spare places count too). A statement '..UptoSaid' is the law's where the arguments, and the package variables that the reading takes, are together of bulk at most 1048576: NARROWER than '..Said'. Prove '..Said' where nothing that the law and all that it calls make is longer than what came in: it says more and counts as full. Else prove '..UptoSaid'. A law counts once. -/
mutual
def uptoBulk {H : Type} : DataW H → Nat
  | .lit (.string bytes) => bytes.length + 1
  | .lit _ => 1
  | .nil => 1
  | .ptr d => uptoBulk d + 1
  | .slice elems spare => uptoBulkAll elems + uptoBulkAll spare + 1
  | .agg parts => uptoBulkAll parts + 1
  | .iface _ d => uptoBulk d + 1
  | .map entries => uptoBulkEntries entries + 1
  | .held _ => 1
def uptoBulkAll {H : Type} : List (DataW H) → Nat
  | [] => 0
  | d :: r => uptoBulk d + uptoBulkAll r
def uptoBulkEntries {H : Type} : List (Lit × DataW H) → Nat
  | [] => 0
  | x :: r => uptoBulkEntry x + uptoBulkEntries r
def uptoBulkEntry {H : Type} : Lit × DataW H → Nat
  | (.string bytes, d) => bytes.length + uptoBulk d + 1
  | (_, d) => uptoBulk d + 1
 end
def uptoSmall : (H : Type) → List (DataW H) → Bool := fun _ ds => decide (uptoBulkAll ds ≤ 1048576)
def OpenSpec.upto (s : _root_.Go.ChangeSpec) : _root_.Go.OpenSpec := { _root_.Go.OpenSpec.ofChange s with cond := some uptoSmall }

/-- 'bolstertop.TopSpunHeats', WHERE WHAT IT READS IS OF BULK AT MOST 1048576: true; the input reads as it did. -/
def topSpunHeatsUptoRow : OpenClaim := { program := "ytajpgeklmcjciaagreat", sum := "8e0e1e568040c0978f05c1c21003e4d0b005842ad83581e380a328eb0fa899c8", func := "bolster/bolstertop.TopSpunHeats", spec := "topSpunHeats", unfollowed := true, recurses := true, plainKeys := false, apart := false, narrowed := true }
def TopSpunHeatsUptoSaid : Prop := topSpunHeatsUptoRow.holds Tryz.pinned (OpenSpec.upto topSpunHeatsSpec)

/-- 'bolstertop.TopTurnedRims', WHERE WHAT IT READS IS OF BULK AT MOST 1048576: true; the input reads as it did. -/
def topTurnedRimsUptoRow : OpenClaim := { program := "ytajpgeklmcjciaagreat", sum := "8e0e1e568040c0978f05c1c21003e4d0b005842ad83581e380a328eb0fa899c8", func := "bolster/bolstertop.TopTurnedRims", spec := "topTurnedRims", unfollowed := true, recurses := true, plainKeys := false, apart := false, narrowed := true }
def TopTurnedRimsUptoSaid : Prop := topTurnedRimsUptoRow.holds Tryz.pinned (OpenSpec.upto topTurnedRimsSpec)

/-- 'bolstertop.TopBentHeats', WHERE WHAT IT READS IS OF BULK AT MOST 1048576: true; the input reads as it did. -/
def topBentHeatsUptoRow : OpenClaim := { program := "ytajpgeklmcjciaagreat", sum := "8e0e1e568040c0978f05c1c21003e4d0b005842ad83581e380a328eb0fa899c8", func := "bolster/bolstertop.TopBentHeats", spec := "topBentHeats", unfollowed := true, recurses := true, plainKeys := false, apart := false, narrowed := true }
def TopBentHeatsUptoSaid : Prop := topBentHeatsUptoRow.holds Tryz.pinned (OpenSpec.upto topBentHeatsSpec)

/-- 'bolstertop.TopTemperedPasses', WHERE WHAT IT READS IS OF BULK AT MOST 1048576: true; the input reads as it did. -/
def topTemperedPassesUptoRow : OpenClaim := { program := "ytajpgeklmcjciaagreat", sum := "8e0e1e568040c0978f05c1c21003e4d0b005842ad83581e380a328eb0fa899c8", func := "bolster/bolstertop.TopTemperedPasses", spec := "topTemperedPasses", unfollowed := true, recurses := true, plainKeys := false, apart := false, narrowed := true }
def TopTemperedPassesUptoSaid : Prop := topTemperedPassesUptoRow.holds Tryz.pinned (OpenSpec.upto topTemperedPassesSpec)

/-- 'bolstertop.TopSpunPasses', WHERE WHAT IT READS IS OF BULK AT MOST 1048576: true; the input reads as it did. -/
def topSpunPassesUptoRow : OpenClaim := { program := "ytajpgeklmcjciaagreat", sum := "8e0e1e568040c0978f05c1c21003e4d0b005842ad83581e380a328eb0fa899c8", func := "bolster/bolstertop.TopSpunPasses", spec := "topSpunPasses", unfollowed := true, recurses := true, plainKeys := false, apart := false, narrowed := true }
def TopSpunPassesUptoSaid : Prop := topSpunPassesUptoRow.holds Tryz.pinned (OpenSpec.upto topSpunPassesSpec)

/-- 'bolstertop.TopWarpedTruths', WHERE WHAT IT READS IS OF BULK AT MOST 1048576: true; the input reads as it did. -/
def topWarpedTruthsUptoRow : OpenClaim := { program := "ytajpgeklmcjciaagreat", sum := "8e0e1e568040c0978f05c1c21003e4d0b005842ad83581e380a328eb0fa899c8", func := "bolster/bolstertop.TopWarpedTruths", spec := "topWarpedTruths", unfollowed := true, recurses := true, plainKeys := false, apart := false, narrowed := true }
def TopWarpedTruthsUptoSaid : Prop := topWarpedTruthsUptoRow.holds Tryz.pinned (OpenSpec.upto topWarpedTruthsSpec)

/-- 'bolstertop.TopComparedBlades', WHERE WHAT IT READS IS OF BULK AT MOST 1048576: true; the input reads as it did. -/
def topComparedBladesUptoRow : OpenClaim := { program := "ytajpgeklmcjciaagreat", sum := "8e0e1e568040c0978f05c1c21003e4d0b005842ad83581e380a328eb0fa899c8", func := "bolster/bolstertop.TopComparedBlades", spec := "topComparedBlades", unfollowed := true, recurses := true, plainKeys := false, apart := false, narrowed := true }
def TopComparedBladesUptoSaid : Prop := topComparedBladesUptoRow.holds Tryz.pinned (OpenSpec.upto topComparedBladesSpec)

/-- 'bolstertop.TopPulleyTruths', WHERE WHAT IT READS IS OF BULK AT MOST 1048576: true; the input reads as it did. -/
def topPulleyTruthsUptoRow : OpenClaim := { program := "ytajpgeklmcjciaagreat", sum := "8e0e1e568040c0978f05c1c21003e4d0b005842ad83581e380a328eb0fa899c8", func := "bolster/bolstertop.TopPulleyTruths", spec := "topPulleyTruths", unfollowed := true, recurses := true, plainKeys := false, apart := false, narrowed := true }
def TopPulleyTruthsUptoSaid : Prop := topPulleyTruthsUptoRow.holds Tryz.pinned (OpenSpec.upto topPulleyTruthsSpec)

end Rows
end Go.Proofs.YtajpgeklmcjciaaGreat
