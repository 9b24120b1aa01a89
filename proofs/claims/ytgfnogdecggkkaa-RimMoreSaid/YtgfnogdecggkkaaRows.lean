/-
  No cell of these rows narrows 'for every input' (looked for: loops, veiled, ifaces, maps, wideKeys, modest, calm, conditions, laid).
  DERIVED. THE GIVEN ROWS OF THIS SEAT. 13 by the template 'for every input the law returns true; each argument reads behind the call as it read before'; 0 by the template 'total and deterministic' (their statements: YtgfnogdecggkkaaTotals.lean).
  GIVEN WITH THE SEED: the statements are not yours to turn. If you find one false, say at which input.
  Laid BY PROGRAM, IN A SANDBOX (cutbox-rows.mjs): the forced cells as the released guide's own fill.sh prints them over the translation 57ac810c09148466… (all of the seat's roots in one cut). By AI agents, Wed Nov 11 2026. No macro, syntax, notation, axiom, sorry.
-/
import Derived.Test.YtgfnogdecggkkaaChecked
import GoSem.Claim
import GoSem.ClaimJoined
import GoSem.ClaimMapViews
import Derived.JoinedTies
import Derived.KernelRfl
namespace Go.Proofs.Ytgfnogdecggkkaa
/- THE CELL 'sum', in the pinned program and in every row, IS THE sha256 OF THE DUMP (.gsa) THAT YtgfnogdecggkkaaProg.lean LOADS. Nothing in Lean hashes anything: it is a label: what it is worth is what the hold of that sum in a sandbox is worth. -/
noncomputable def Try.pinned : Pinned := { name := "ytgfnogdecggkkaa", sum := "57ac810c09148466fc72b77d7f18b6f127903672b5337b281e03d3f80f93b9d2", checked := Try.checked }
namespace Rows
def none {H : Type} : Left H := { results := [], args := [] }

/-- 'bolsterlaw03.RimStones': WHATEVER THE INPUT: true; the input reads as it did. -/
def rimStonesSpec : ChangeSpec := { name := "rimStones", fn := fun _ => fun
  | [d1, d2, d3] => { results := [.lit (.bool true)], args := [d1, d2, d3] }
  | _ => none }
def rimStonesRow : OpenClaim := { program := "ytgfnogdecggkkaa", sum := "57ac810c09148466fc72b77d7f18b6f127903672b5337b281e03d3f80f93b9d2", func := "bolster/bolsterlaw03.RimStones", spec := "rimStones", unfollowed := true, recurses := true, plainKeys := false, apart := false }
def RimStonesSaid : Prop := rimStonesRow.holds Try.pinned (OpenSpec.ofChange rimStonesSpec)

/-- ITS FALSE NEIGHBOUR: 'it returns false'. Refute it at one input. -/
def rimStonesWrong : ChangeSpec := { name := "rimStones", fn := fun _ => fun
  | [d1, d2, d3] => { results := [.lit (.bool false)], args := [d1, d2, d3] }
  | _ => none }
def RimStonesWrongFalsely : Prop := rimStonesRow.holds Try.pinned (OpenSpec.ofChange rimStonesWrong)

/-- 'bolsterlaw03.RimPlans': WHATEVER THE INPUT: true; the input reads as it did. -/
def rimPlansSpec : ChangeSpec := { name := "rimPlans", fn := fun _ => fun
  | [d1, d2, d3] => { results := [.lit (.bool true)], args := [d1, d2, d3] }
  | _ => none }
def rimPlansRow : OpenClaim := { program := "ytgfnogdecggkkaa", sum := "57ac810c09148466fc72b77d7f18b6f127903672b5337b281e03d3f80f93b9d2", func := "bolster/bolsterlaw03.RimPlans", spec := "rimPlans", unfollowed := true, recurses := true, plainKeys := false, apart := false }
def RimPlansSaid : Prop := rimPlansRow.holds Try.pinned (OpenSpec.ofChange rimPlansSpec)

/-- ITS FALSE NEIGHBOUR: 'it returns false'. Refute it at one input. -/
def rimPlansWrong : ChangeSpec := { name := "rimPlans", fn := fun _ => fun
  | [d1, d2, d3] => { results := [.lit (.bool false)], args := [d1, d2, d3] }
  | _ => none }
def RimPlansWrongFalsely : Prop := rimPlansRow.holds Try.pinned (OpenSpec.ofChange rimPlansWrong)

/-- 'bolsterlaw03.RimBests': WHATEVER THE INPUT: true; the input reads as it did. -/
def rimBestsSpec : ChangeSpec := { name := "rimBests", fn := fun _ => fun
  | [d1, d2, d3] => { results := [.lit (.bool true)], args := [d1, d2, d3] }
  | _ => none }
def rimBestsRow : OpenClaim := { program := "ytgfnogdecggkkaa", sum := "57ac810c09148466fc72b77d7f18b6f127903672b5337b281e03d3f80f93b9d2", func := "bolster/bolsterlaw03.RimBests", spec := "rimBests", unfollowed := true, recurses := true, plainKeys := false, apart := false }
def RimBestsSaid : Prop := rimBestsRow.holds Try.pinned (OpenSpec.ofChange rimBestsSpec)

/-- ITS FALSE NEIGHBOUR: 'it returns false'. Refute it at one input. -/
def rimBestsWrong : ChangeSpec := { name := "rimBests", fn := fun _ => fun
  | [d1, d2, d3] => { results := [.lit (.bool false)], args := [d1, d2, d3] }
  | _ => none }
def RimBestsWrongFalsely : Prop := rimBestsRow.holds Try.pinned (OpenSpec.ofChange rimBestsWrong)

/-- 'bolsterlaw03.RimFars': WHATEVER THE INPUT: true; the input reads as it did. -/
def rimFarsSpec : ChangeSpec := { name := "rimFars", fn := fun _ => fun
  | [d1, d2, d3] => { results := [.lit (.bool true)], args := [d1, d2, d3] }
  | _ => none }
def rimFarsRow : OpenClaim := { program := "ytgfnogdecggkkaa", sum := "57ac810c09148466fc72b77d7f18b6f127903672b5337b281e03d3f80f93b9d2", func := "bolster/bolsterlaw03.RimFars", spec := "rimFars", unfollowed := true, recurses := true, plainKeys := false, apart := false }
def RimFarsSaid : Prop := rimFarsRow.holds Try.pinned (OpenSpec.ofChange rimFarsSpec)

/-- ITS FALSE NEIGHBOUR: 'it returns false'. Refute it at one input. -/
def rimFarsWrong : ChangeSpec := { name := "rimFars", fn := fun _ => fun
  | [d1, d2, d3] => { results := [.lit (.bool false)], args := [d1, d2, d3] }
  | _ => none }
def RimFarsWrongFalsely : Prop := rimFarsRow.holds Try.pinned (OpenSpec.ofChange rimFarsWrong)

/-- 'bolsterlaw03.RimKinds': WHATEVER THE INPUT: true; the input reads as it did. -/
def rimKindsSpec : ChangeSpec := { name := "rimKinds", fn := fun _ => fun
  | [d1, d2] => { results := [.lit (.bool true)], args := [d1, d2] }
  | _ => none }
def rimKindsRow : OpenClaim := { program := "ytgfnogdecggkkaa", sum := "57ac810c09148466fc72b77d7f18b6f127903672b5337b281e03d3f80f93b9d2", func := "bolster/bolsterlaw03.RimKinds", spec := "rimKinds", unfollowed := true, recurses := true, plainKeys := false, apart := false }
def RimKindsSaid : Prop := rimKindsRow.holds Try.pinned (OpenSpec.ofChange rimKindsSpec)

/-- ITS FALSE NEIGHBOUR: 'it returns false'. Refute it at one input. -/
def rimKindsWrong : ChangeSpec := { name := "rimKinds", fn := fun _ => fun
  | [d1, d2] => { results := [.lit (.bool false)], args := [d1, d2] }
  | _ => none }
def RimKindsWrongFalsely : Prop := rimKindsRow.holds Try.pinned (OpenSpec.ofChange rimKindsWrong)

/-- 'bolsterlaw03.RimKept': WHATEVER THE INPUT: true; the input reads as it did. -/
def rimKeptSpec : ChangeSpec := { name := "rimKept", fn := fun _ => fun
  | [d1, d2, d3, d4, d5] => { results := [.lit (.bool true)], args := [d1, d2, d3, d4, d5] }
  | _ => none }
def rimKeptRow : OpenClaim := { program := "ytgfnogdecggkkaa", sum := "57ac810c09148466fc72b77d7f18b6f127903672b5337b281e03d3f80f93b9d2", func := "bolster/bolsterlaw03.RimKept", spec := "rimKept", unfollowed := true, recurses := true, plainKeys := false, apart := false }
def RimKeptSaid : Prop := rimKeptRow.holds Try.pinned (OpenSpec.ofChange rimKeptSpec)

/-- ITS FALSE NEIGHBOUR: 'it returns false'. Refute it at one input. -/
def rimKeptWrong : ChangeSpec := { name := "rimKept", fn := fun _ => fun
  | [d1, d2, d3, d4, d5] => { results := [.lit (.bool false)], args := [d1, d2, d3, d4, d5] }
  | _ => none }
def RimKeptWrongFalsely : Prop := rimKeptRow.holds Try.pinned (OpenSpec.ofChange rimKeptWrong)

/-- 'bolsterlaw03.RimProved': WHATEVER THE INPUT: true; the input reads as it did. -/
def rimProvedSpec : ChangeSpec := { name := "rimProved", fn := fun _ => fun
  | [d1, d2, d3, d4] => { results := [.lit (.bool true)], args := [d1, d2, d3, d4] }
  | _ => none }
def rimProvedRow : OpenClaim := { program := "ytgfnogdecggkkaa", sum := "57ac810c09148466fc72b77d7f18b6f127903672b5337b281e03d3f80f93b9d2", func := "bolster/bolsterlaw03.RimProved", spec := "rimProved", unfollowed := true, recurses := true, plainKeys := false, apart := false }
def RimProvedSaid : Prop := rimProvedRow.holds Try.pinned (OpenSpec.ofChange rimProvedSpec)

/-- ITS FALSE NEIGHBOUR: 'it returns false'. Refute it at one input. -/
def rimProvedWrong : ChangeSpec := { name := "rimProved", fn := fun _ => fun
  | [d1, d2, d3, d4] => { results := [.lit (.bool false)], args := [d1, d2, d3, d4] }
  | _ => none }
def RimProvedWrongFalsely : Prop := rimProvedRow.holds Try.pinned (OpenSpec.ofChange rimProvedWrong)

/-- 'bolsterlaw03.RimEither': WHATEVER THE INPUT: true; the input reads as it did. -/
def rimEitherSpec : ChangeSpec := { name := "rimEither", fn := fun _ => fun
  | [d1, d2, d3, d4] => { results := [.lit (.bool true)], args := [d1, d2, d3, d4] }
  | _ => none }
def rimEitherRow : OpenClaim := { program := "ytgfnogdecggkkaa", sum := "57ac810c09148466fc72b77d7f18b6f127903672b5337b281e03d3f80f93b9d2", func := "bolster/bolsterlaw03.RimEither", spec := "rimEither", unfollowed := true, recurses := true, plainKeys := false, apart := false }
def RimEitherSaid : Prop := rimEitherRow.holds Try.pinned (OpenSpec.ofChange rimEitherSpec)

/-- ITS FALSE NEIGHBOUR: 'it returns false'. Refute it at one input. -/
def rimEitherWrong : ChangeSpec := { name := "rimEither", fn := fun _ => fun
  | [d1, d2, d3, d4] => { results := [.lit (.bool false)], args := [d1, d2, d3, d4] }
  | _ => none }
def RimEitherWrongFalsely : Prop := rimEitherRow.holds Try.pinned (OpenSpec.ofChange rimEitherWrong)

/-- 'bolsterlaw03.RimMore': WHATEVER THE INPUT: true; the input reads as it did. -/
def rimMoreSpec : ChangeSpec := { name := "rimMore", fn := fun _ => fun
  | [d1, d2, d3, d4, d5, d6] => { results := [.lit (.bool true)], args := [d1, d2, d3, d4, d5, d6] }
  | _ => none }
def rimMoreRow : OpenClaim := { program := "ytgfnogdecggkkaa", sum := "57ac810c09148466fc72b77d7f18b6f127903672b5337b281e03d3f80f93b9d2", func := "bolster/bolsterlaw03.RimMore", spec := "rimMore", unfollowed := true, recurses := true, plainKeys := false, apart := false }
def RimMoreSaid : Prop := rimMoreRow.holds Try.pinned (OpenSpec.ofChange rimMoreSpec)

/-- ITS FALSE NEIGHBOUR: 'it returns false'. Refute it at one input. -/
def rimMoreWrong : ChangeSpec := { name := "rimMore", fn := fun _ => fun
  | [d1, d2, d3, d4, d5, d6] => { results := [.lit (.bool false)], args := [d1, d2, d3, d4, d5, d6] }
  | _ => none }
def RimMoreWrongFalsely : Prop := rimMoreRow.holds Try.pinned (OpenSpec.ofChange rimMoreWrong)

/-- 'bolsterlaw03.RimUsed': WHATEVER THE INPUT: true; the input reads as it did. -/
def rimUsedSpec : ChangeSpec := { name := "rimUsed", fn := fun _ => fun
  | [d1, d2, d3] => { results := [.lit (.bool true)], args := [d1, d2, d3] }
  | _ => none }
def rimUsedRow : OpenClaim := { program := "ytgfnogdecggkkaa", sum := "57ac810c09148466fc72b77d7f18b6f127903672b5337b281e03d3f80f93b9d2", func := "bolster/bolsterlaw03.RimUsed", spec := "rimUsed", unfollowed := true, recurses := true, plainKeys := false, apart := false }
def RimUsedSaid : Prop := rimUsedRow.holds Try.pinned (OpenSpec.ofChange rimUsedSpec)

/-- ITS FALSE NEIGHBOUR: 'it returns false'. Refute it at one input. -/
def rimUsedWrong : ChangeSpec := { name := "rimUsed", fn := fun _ => fun
  | [d1, d2, d3] => { results := [.lit (.bool false)], args := [d1, d2, d3] }
  | _ => none }
def RimUsedWrongFalsely : Prop := rimUsedRow.holds Try.pinned (OpenSpec.ofChange rimUsedWrong)

/-- 'bolsterlaw03.RimFarther': WHATEVER THE INPUT: true; the input reads as it did. -/
def rimFartherSpec : ChangeSpec := { name := "rimFarther", fn := fun _ => fun
  | [d1, d2, d3] => { results := [.lit (.bool true)], args := [d1, d2, d3] }
  | _ => none }
def rimFartherRow : OpenClaim := { program := "ytgfnogdecggkkaa", sum := "57ac810c09148466fc72b77d7f18b6f127903672b5337b281e03d3f80f93b9d2", func := "bolster/bolsterlaw03.RimFarther", spec := "rimFarther", unfollowed := true, recurses := true, plainKeys := false, apart := false }
def RimFartherSaid : Prop := rimFartherRow.holds Try.pinned (OpenSpec.ofChange rimFartherSpec)

/-- ITS FALSE NEIGHBOUR: 'it returns false'. Refute it at one input. -/
def rimFartherWrong : ChangeSpec := { name := "rimFarther", fn := fun _ => fun
  | [d1, d2, d3] => { results := [.lit (.bool false)], args := [d1, d2, d3] }
  | _ => none }
def RimFartherWrongFalsely : Prop := rimFartherRow.holds Try.pinned (OpenSpec.ofChange rimFartherWrong)

/-- 'bolsterlaw03.RimTimes': WHATEVER THE INPUT: true; the input reads as it did. -/
def rimTimesSpec : ChangeSpec := { name := "rimTimes", fn := fun _ => fun
  | [d1, d2, d3] => { results := [.lit (.bool true)], args := [d1, d2, d3] }
  | _ => none }
def rimTimesRow : OpenClaim := { program := "ytgfnogdecggkkaa", sum := "57ac810c09148466fc72b77d7f18b6f127903672b5337b281e03d3f80f93b9d2", func := "bolster/bolsterlaw03.RimTimes", spec := "rimTimes", unfollowed := true, recurses := true, plainKeys := false, apart := false }
def RimTimesSaid : Prop := rimTimesRow.holds Try.pinned (OpenSpec.ofChange rimTimesSpec)

/-- ITS FALSE NEIGHBOUR: 'it returns false'. Refute it at one input. -/
def rimTimesWrong : ChangeSpec := { name := "rimTimes", fn := fun _ => fun
  | [d1, d2, d3] => { results := [.lit (.bool false)], args := [d1, d2, d3] }
  | _ => none }
def RimTimesWrongFalsely : Prop := rimTimesRow.holds Try.pinned (OpenSpec.ofChange rimTimesWrong)

/-- 'bolsterlaw03.RimKnown': WHATEVER THE INPUT: true; the input reads as it did. -/
def rimKnownSpec : ChangeSpec := { name := "rimKnown", fn := fun _ => fun
  | [] => { results := [.lit (.bool true)], args := [] }
  | _ => none }
def rimKnownRow : OpenClaim := { program := "ytgfnogdecggkkaa", sum := "57ac810c09148466fc72b77d7f18b6f127903672b5337b281e03d3f80f93b9d2", func := "bolster/bolsterlaw03.RimKnown", spec := "rimKnown", unfollowed := true, recurses := true, plainKeys := false, apart := false }
def RimKnownSaid : Prop := rimKnownRow.holds Try.pinned (OpenSpec.ofChange rimKnownSpec)

/-- ITS FALSE NEIGHBOUR: 'it returns false'. Refute it at one input. -/
def rimKnownWrong : ChangeSpec := { name := "rimKnown", fn := fun _ => fun
  | [] => { results := [.lit (.bool false)], args := [] }
  | _ => none }
def RimKnownWrongFalsely : Prop := rimKnownRow.holds Try.pinned (OpenSpec.ofChange rimKnownWrong)

/- THE SECOND FORM. 'bulk': how many values and letters a reading holds, each counted each time it is reached (what is shared counts as often as it is met; a slice's spare places count too). A statement '..UptoSaid' is the law's where the arguments, and the package variables that the reading takes, are together of bulk at most 1048576: NARROWER than '..Said'. Prove '..Said' where nothing that the law and all that it calls make is longer than what came in: it says more and counts as full. Else prove '..UptoSaid'. A law counts once. -/
mutual
def uptoBulk {H : Type} : DataW H → Nat
  | .lit (.string bytes) => bytes.length + 1
  | .lit _ => 1
  | .nil => 1
  | .ptr d => uptoBulk d + 1
  | .slice elems spare => uptoBulkAll elems + uptoBulkAll spare + 1
  | .agg parts => uptoBulkAll parts + 1
  | .iface _ d => uptoBulk d + 1
  | .map entries => uptoBulkEntries entries + 1
  | .held _ => 1
def uptoBulkAll {H : Type} : List (DataW H) → Nat
  | [] => 0
  | d :: r => uptoBulk d + uptoBulkAll r
def uptoBulkEntries {H : Type} : List (Lit × DataW H) → Nat
  | [] => 0
  | x :: r => uptoBulkEntry x + uptoBulkEntries r
def uptoBulkEntry {H : Type} : Lit × DataW H → Nat
  | (.string bytes, d) => bytes.length + uptoBulk d + 1
  | (_, d) => uptoBulk d + 1
 end
def uptoSmall : (H : Type) → List (DataW H) → Bool := fun _ ds => decide (uptoBulkAll ds ≤ 1048576)
def OpenSpec.upto (s : _root_.Go.ChangeSpec) : _root_.Go.OpenSpec := { _root_.Go.OpenSpec.ofChange s with cond := some uptoSmall }

/-- 'bolsterlaw03.RimStones', WHERE WHAT IT READS IS OF BULK AT MOST 1048576: true; the input reads as it did. -/
def rimStonesUptoRow : OpenClaim := { program := "ytgfnogdecggkkaa", sum := "57ac810c09148466fc72b77d7f18b6f127903672b5337b281e03d3f80f93b9d2", func := "bolster/bolsterlaw03.RimStones", spec := "rimStones", unfollowed := true, recurses := true, plainKeys := false, apart := false, narrowed := true }
def RimStonesUptoSaid : Prop := rimStonesUptoRow.holds Try.pinned (OpenSpec.upto rimStonesSpec)

/-- 'bolsterlaw03.RimPlans', WHERE WHAT IT READS IS OF BULK AT MOST 1048576: true; the input reads as it did. -/
def rimPlansUptoRow : OpenClaim := { program := "ytgfnogdecggkkaa", sum := "57ac810c09148466fc72b77d7f18b6f127903672b5337b281e03d3f80f93b9d2", func := "bolster/bolsterlaw03.RimPlans", spec := "rimPlans", unfollowed := true, recurses := true, plainKeys := false, apart := false, narrowed := true }
def RimPlansUptoSaid : Prop := rimPlansUptoRow.holds Try.pinned (OpenSpec.upto rimPlansSpec)

/-- 'bolsterlaw03.RimBests', WHERE WHAT IT READS IS OF BULK AT MOST 1048576: true; the input reads as it did. -/
def rimBestsUptoRow : OpenClaim := { program := "ytgfnogdecggkkaa", sum := "57ac810c09148466fc72b77d7f18b6f127903672b5337b281e03d3f80f93b9d2", func := "bolster/bolsterlaw03.RimBests", spec := "rimBests", unfollowed := true, recurses := true, plainKeys := false, apart := false, narrowed := true }
def RimBestsUptoSaid : Prop := rimBestsUptoRow.holds Try.pinned (OpenSpec.upto rimBestsSpec)

/-- 'bolsterlaw03.RimFars', WHERE WHAT IT READS IS OF BULK AT MOST 1048576: true; the input reads as it did. -/
def rimFarsUptoRow : OpenClaim := { program := "ytgfnogdecggkkaa", sum := "57ac810c09148466fc72b77d7f18b6f127903672b5337b281e03d3f80f93b9d2", func := "bolster/bolsterlaw03.RimFars", spec := "rimFars", unfollowed := true, recurses := true, plainKeys := false, apart := false, narrowed := true }
def RimFarsUptoSaid : Prop := rimFarsUptoRow.holds Try.pinned (OpenSpec.upto rimFarsSpec)

/-- 'bolsterlaw03.RimKinds', WHERE WHAT IT READS IS OF BULK AT MOST 1048576: true; the input reads as it did. -/
def rimKindsUptoRow : OpenClaim := { program := "ytgfnogdecggkkaa", sum := "57ac810c09148466fc72b77d7f18b6f127903672b5337b281e03d3f80f93b9d2", func := "bolster/bolsterlaw03.RimKinds", spec := "rimKinds", unfollowed := true, recurses := true, plainKeys := false, apart := false, narrowed := true }
def RimKindsUptoSaid : Prop := rimKindsUptoRow.holds Try.pinned (OpenSpec.upto rimKindsSpec)

/-- 'bolsterlaw03.RimKept', WHERE WHAT IT READS IS OF BULK AT MOST 1048576: true; the input reads as it did. -/
def rimKeptUptoRow : OpenClaim := { program := "ytgfnogdecggkkaa", sum := "57ac810c09148466fc72b77d7f18b6f127903672b5337b281e03d3f80f93b9d2", func := "bolster/bolsterlaw03.RimKept", spec := "rimKept", unfollowed := true, recurses := true, plainKeys := false, apart := false, narrowed := true }
def RimKeptUptoSaid : Prop := rimKeptUptoRow.holds Try.pinned (OpenSpec.upto rimKeptSpec)

/-- 'bolsterlaw03.RimProved', WHERE WHAT IT READS IS OF BULK AT MOST 1048576: true; the input reads as it did. -/
def rimProvedUptoRow : OpenClaim := { program := "ytgfnogdecggkkaa", sum := "57ac810c09148466fc72b77d7f18b6f127903672b5337b281e03d3f80f93b9d2", func := "bolster/bolsterlaw03.RimProved", spec := "rimProved", unfollowed := true, recurses := true, plainKeys := false, apart := false, narrowed := true }
def RimProvedUptoSaid : Prop := rimProvedUptoRow.holds Try.pinned (OpenSpec.upto rimProvedSpec)

/-- 'bolsterlaw03.RimEither', WHERE WHAT IT READS IS OF BULK AT MOST 1048576: true; the input reads as it did. -/
def rimEitherUptoRow : OpenClaim := { program := "ytgfnogdecggkkaa", sum := "57ac810c09148466fc72b77d7f18b6f127903672b5337b281e03d3f80f93b9d2", func := "bolster/bolsterlaw03.RimEither", spec := "rimEither", unfollowed := true, recurses := true, plainKeys := false, apart := false, narrowed := true }
def RimEitherUptoSaid : Prop := rimEitherUptoRow.holds Try.pinned (OpenSpec.upto rimEitherSpec)

/-- 'bolsterlaw03.RimMore', WHERE WHAT IT READS IS OF BULK AT MOST 1048576: true; the input reads as it did. -/
def rimMoreUptoRow : OpenClaim := { program := "ytgfnogdecggkkaa", sum := "57ac810c09148466fc72b77d7f18b6f127903672b5337b281e03d3f80f93b9d2", func := "bolster/bolsterlaw03.RimMore", spec := "rimMore", unfollowed := true, recurses := true, plainKeys := false, apart := false, narrowed := true }
def RimMoreUptoSaid : Prop := rimMoreUptoRow.holds Try.pinned (OpenSpec.upto rimMoreSpec)

/-- 'bolsterlaw03.RimUsed', WHERE WHAT IT READS IS OF BULK AT MOST 1048576: true; the input reads as it did. -/
def rimUsedUptoRow : OpenClaim := { program := "ytgfnogdecggkkaa", sum := "57ac810c09148466fc72b77d7f18b6f127903672b5337b281e03d3f80f93b9d2", func := "bolster/bolsterlaw03.RimUsed", spec := "rimUsed", unfollowed := true, recurses := true, plainKeys := false, apart := false, narrowed := true }
def RimUsedUptoSaid : Prop := rimUsedUptoRow.holds Try.pinned (OpenSpec.upto rimUsedSpec)

/-- 'bolsterlaw03.RimFarther', WHERE WHAT IT READS IS OF BULK AT MOST 1048576: true; the input reads as it did. -/
def rimFartherUptoRow : OpenClaim := { program := "ytgfnogdecggkkaa", sum := "57ac810c09148466fc72b77d7f18b6f127903672b5337b281e03d3f80f93b9d2", func := "bolster/bolsterlaw03.RimFarther", spec := "rimFarther", unfollowed := true, recurses := true, plainKeys := false, apart := false, narrowed := true }
def RimFartherUptoSaid : Prop := rimFartherUptoRow.holds Try.pinned (OpenSpec.upto rimFartherSpec)

/-- 'bolsterlaw03.RimTimes', WHERE WHAT IT READS IS OF BULK AT MOST 1048576: true; the input reads as it did. -/
def rimTimesUptoRow : OpenClaim := { program := "ytgfnogdecggkkaa", sum := "57ac810c09148466fc72b77d7f18b6f127903672b5337b281e03d3f80f93b9d2", func := "bolster/bolsterlaw03.RimTimes", spec := "rimTimes", unfollowed := true, recurses := true, plainKeys := false, apart := false, narrowed := true }
def RimTimesUptoSaid : Prop := rimTimesUptoRow.holds Try.pinned (OpenSpec.upto rimTimesSpec)

/-- 'bolsterlaw03.RimKnown', WHERE WHAT IT READS IS OF BULK AT MOST 1048576: true; the input reads as it did. -/
def rimKnownUptoRow : OpenClaim := { program := "ytgfnogdecggkkaa", sum := "57ac810c09148466fc72b77d7f18b6f127903672b5337b281e03d3f80f93b9d2", func := "bolster/bolsterlaw03.RimKnown", spec := "rimKnown", unfollowed := true, recurses := true, plainKeys := false, apart := false, narrowed := true }
def RimKnownUptoSaid : Prop := rimKnownUptoRow.holds Try.pinned (OpenSpec.upto rimKnownSpec)

end Rows
end Go.Proofs.Ytgfnogdecggkkaa
