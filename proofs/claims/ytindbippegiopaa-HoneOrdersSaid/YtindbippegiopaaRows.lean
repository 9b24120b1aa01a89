/-
  No cell of these rows narrows 'for every input' (looked for: loops, veiled, ifaces, maps, wideKeys, modest, calm, conditions, laid).
  DERIVED. THE GIVEN ROWS OF THIS SEAT. 12 by the template 'for every input the law returns true; each argument reads behind the call as it read before'; 0 by the template 'total and deterministic' (their statements: YtindbippegiopaaTotals.lean).
  GIVEN WITH THE SEED: the statements are not yours to turn. If you find one false, say at which input.
  Laid BY PROGRAM, IN A SANDBOX (cutbox-rows.mjs): the forced cells as the released guide's own fill.sh prints them over the translation bc434ec033d342f0… (all of the seat's roots in one cut). By AI agents, Wed Nov 11 2026. No macro, syntax, notation, axiom, sorry.
-/
import Derived.Test.YtindbippegiopaaChecked
import GoSem.Claim
import GoSem.ClaimJoined
import GoSem.ClaimMapViews
import Derived.JoinedTies
import Derived.KernelRfl
namespace Go.Proofs.Ytindbippegiopaa
/- THE CELL 'sum', in the pinned program and in every row, IS THE sha256 OF THE DUMP (.gsa) THAT YtindbippegiopaaProg.lean LOADS. Nothing in Lean hashes anything: it is a label: what it is worth is what the hold of that sum in a sandbox is worth. -/
noncomputable def Try.pinned : Pinned := { name := "ytindbippegiopaa", sum := "bc434ec033d342f0eca6a83d4e9a92cf93307b5b8fc3e2ca56ddb25cf52ac312", checked := Try.checked }
namespace Rows
def none {H : Type} : Left H := { results := [], args := [] }

/-- 'bolsterlaw07.HoneBoxes': WHATEVER THE INPUT: true; the input reads as it did. -/
def honeBoxesSpec : ChangeSpec := { name := "honeBoxes", fn := fun _ => fun
  | [d1, d2, d3] => { results := [.lit (.bool true)], args := [d1, d2, d3] }
  | _ => none }
def honeBoxesRow : OpenClaim := { program := "ytindbippegiopaa", sum := "bc434ec033d342f0eca6a83d4e9a92cf93307b5b8fc3e2ca56ddb25cf52ac312", func := "bolster/bolsterlaw07.HoneBoxes", spec := "honeBoxes", unfollowed := true, recurses := true, plainKeys := false, apart := false }
def HoneBoxesSaid : Prop := honeBoxesRow.holds Try.pinned (OpenSpec.ofChange honeBoxesSpec)

/-- ITS FALSE NEIGHBOUR: 'it returns false'. Refute it at one input. -/
def honeBoxesWrong : ChangeSpec := { name := "honeBoxes", fn := fun _ => fun
  | [d1, d2, d3] => { results := [.lit (.bool false)], args := [d1, d2, d3] }
  | _ => none }
def HoneBoxesWrongFalsely : Prop := honeBoxesRow.holds Try.pinned (OpenSpec.ofChange honeBoxesWrong)

/-- 'bolsterlaw07.HoneBests': WHATEVER THE INPUT: true; the input reads as it did. -/
def honeBestsSpec : ChangeSpec := { name := "honeBests", fn := fun _ => fun
  | [d1, d2, d3] => { results := [.lit (.bool true)], args := [d1, d2, d3] }
  | _ => none }
def honeBestsRow : OpenClaim := { program := "ytindbippegiopaa", sum := "bc434ec033d342f0eca6a83d4e9a92cf93307b5b8fc3e2ca56ddb25cf52ac312", func := "bolster/bolsterlaw07.HoneBests", spec := "honeBests", unfollowed := true, recurses := true, plainKeys := false, apart := false }
def HoneBestsSaid : Prop := honeBestsRow.holds Try.pinned (OpenSpec.ofChange honeBestsSpec)

/-- ITS FALSE NEIGHBOUR: 'it returns false'. Refute it at one input. -/
def honeBestsWrong : ChangeSpec := { name := "honeBests", fn := fun _ => fun
  | [d1, d2, d3] => { results := [.lit (.bool false)], args := [d1, d2, d3] }
  | _ => none }
def HoneBestsWrongFalsely : Prop := honeBestsRow.holds Try.pinned (OpenSpec.ofChange honeBestsWrong)

/-- 'bolsterlaw07.HoneRows': WHATEVER THE INPUT: true; the input reads as it did. -/
def honeRowsSpec : ChangeSpec := { name := "honeRows", fn := fun _ => fun
  | [d1, d2, d3, d4] => { results := [.lit (.bool true)], args := [d1, d2, d3, d4] }
  | _ => none }
def honeRowsRow : OpenClaim := { program := "ytindbippegiopaa", sum := "bc434ec033d342f0eca6a83d4e9a92cf93307b5b8fc3e2ca56ddb25cf52ac312", func := "bolster/bolsterlaw07.HoneRows", spec := "honeRows", unfollowed := true, recurses := true, plainKeys := false, apart := false }
def HoneRowsSaid : Prop := honeRowsRow.holds Try.pinned (OpenSpec.ofChange honeRowsSpec)

/-- ITS FALSE NEIGHBOUR: 'it returns false'. Refute it at one input. -/
def honeRowsWrong : ChangeSpec := { name := "honeRows", fn := fun _ => fun
  | [d1, d2, d3, d4] => { results := [.lit (.bool false)], args := [d1, d2, d3, d4] }
  | _ => none }
def HoneRowsWrongFalsely : Prop := honeRowsRow.holds Try.pinned (OpenSpec.ofChange honeRowsWrong)

/-- 'bolsterlaw07.HoneFars': WHATEVER THE INPUT: true; the input reads as it did. -/
def honeFarsSpec : ChangeSpec := { name := "honeFars", fn := fun _ => fun
  | [d1, d2, d3, d4, d5] => { results := [.lit (.bool true)], args := [d1, d2, d3, d4, d5] }
  | _ => none }
def honeFarsRow : OpenClaim := { program := "ytindbippegiopaa", sum := "bc434ec033d342f0eca6a83d4e9a92cf93307b5b8fc3e2ca56ddb25cf52ac312", func := "bolster/bolsterlaw07.HoneFars", spec := "honeFars", unfollowed := true, recurses := true, plainKeys := false, apart := false }
def HoneFarsSaid : Prop := honeFarsRow.holds Try.pinned (OpenSpec.ofChange honeFarsSpec)

/-- ITS FALSE NEIGHBOUR: 'it returns false'. Refute it at one input. -/
def honeFarsWrong : ChangeSpec := { name := "honeFars", fn := fun _ => fun
  | [d1, d2, d3, d4, d5] => { results := [.lit (.bool false)], args := [d1, d2, d3, d4, d5] }
  | _ => none }
def HoneFarsWrongFalsely : Prop := honeFarsRow.holds Try.pinned (OpenSpec.ofChange honeFarsWrong)

/-- 'bolsterlaw07.HoneSpares': WHATEVER THE INPUT: true; the input reads as it did. -/
def honeSparesSpec : ChangeSpec := { name := "honeSpares", fn := fun _ => fun
  | [d1, d2, d3] => { results := [.lit (.bool true)], args := [d1, d2, d3] }
  | _ => none }
def honeSparesRow : OpenClaim := { program := "ytindbippegiopaa", sum := "bc434ec033d342f0eca6a83d4e9a92cf93307b5b8fc3e2ca56ddb25cf52ac312", func := "bolster/bolsterlaw07.HoneSpares", spec := "honeSpares", unfollowed := true, recurses := true, plainKeys := false, apart := false }
def HoneSparesSaid : Prop := honeSparesRow.holds Try.pinned (OpenSpec.ofChange honeSparesSpec)

/-- ITS FALSE NEIGHBOUR: 'it returns false'. Refute it at one input. -/
def honeSparesWrong : ChangeSpec := { name := "honeSpares", fn := fun _ => fun
  | [d1, d2, d3] => { results := [.lit (.bool false)], args := [d1, d2, d3] }
  | _ => none }
def HoneSparesWrongFalsely : Prop := honeSparesRow.holds Try.pinned (OpenSpec.ofChange honeSparesWrong)

/-- 'bolsterlaw07.HoneProved': WHATEVER THE INPUT: true; the input reads as it did. -/
def honeProvedSpec : ChangeSpec := { name := "honeProved", fn := fun _ => fun
  | [d1, d2, d3, d4, d5] => { results := [.lit (.bool true)], args := [d1, d2, d3, d4, d5] }
  | _ => none }
def honeProvedRow : OpenClaim := { program := "ytindbippegiopaa", sum := "bc434ec033d342f0eca6a83d4e9a92cf93307b5b8fc3e2ca56ddb25cf52ac312", func := "bolster/bolsterlaw07.HoneProved", spec := "honeProved", unfollowed := true, recurses := true, plainKeys := false, apart := false }
def HoneProvedSaid : Prop := honeProvedRow.holds Try.pinned (OpenSpec.ofChange honeProvedSpec)

/-- ITS FALSE NEIGHBOUR: 'it returns false'. Refute it at one input. -/
def honeProvedWrong : ChangeSpec := { name := "honeProved", fn := fun _ => fun
  | [d1, d2, d3, d4, d5] => { results := [.lit (.bool false)], args := [d1, d2, d3, d4, d5] }
  | _ => none }
def HoneProvedWrongFalsely : Prop := honeProvedRow.holds Try.pinned (OpenSpec.ofChange honeProvedWrong)

/-- 'bolsterlaw07.HoneEither': WHATEVER THE INPUT: true; the input reads as it did. -/
def honeEitherSpec : ChangeSpec := { name := "honeEither", fn := fun _ => fun
  | [d1, d2, d3, d4, d5] => { results := [.lit (.bool true)], args := [d1, d2, d3, d4, d5] }
  | _ => none }
def honeEitherRow : OpenClaim := { program := "ytindbippegiopaa", sum := "bc434ec033d342f0eca6a83d4e9a92cf93307b5b8fc3e2ca56ddb25cf52ac312", func := "bolster/bolsterlaw07.HoneEither", spec := "honeEither", unfollowed := true, recurses := true, plainKeys := false, apart := false }
def HoneEitherSaid : Prop := honeEitherRow.holds Try.pinned (OpenSpec.ofChange honeEitherSpec)

/-- ITS FALSE NEIGHBOUR: 'it returns false'. Refute it at one input. -/
def honeEitherWrong : ChangeSpec := { name := "honeEither", fn := fun _ => fun
  | [d1, d2, d3, d4, d5] => { results := [.lit (.bool false)], args := [d1, d2, d3, d4, d5] }
  | _ => none }
def HoneEitherWrongFalsely : Prop := honeEitherRow.holds Try.pinned (OpenSpec.ofChange honeEitherWrong)

/-- 'bolsterlaw07.HoneKeener': WHATEVER THE INPUT: true; the input reads as it did. -/
def honeKeenerSpec : ChangeSpec := { name := "honeKeener", fn := fun _ => fun
  | [d1, d2, d3, d4, d5, d6, d7] => { results := [.lit (.bool true)], args := [d1, d2, d3, d4, d5, d6, d7] }
  | _ => none }
def honeKeenerRow : OpenClaim := { program := "ytindbippegiopaa", sum := "bc434ec033d342f0eca6a83d4e9a92cf93307b5b8fc3e2ca56ddb25cf52ac312", func := "bolster/bolsterlaw07.HoneKeener", spec := "honeKeener", unfollowed := true, recurses := true, plainKeys := false, apart := false }
def HoneKeenerSaid : Prop := honeKeenerRow.holds Try.pinned (OpenSpec.ofChange honeKeenerSpec)

/-- ITS FALSE NEIGHBOUR: 'it returns false'. Refute it at one input. -/
def honeKeenerWrong : ChangeSpec := { name := "honeKeener", fn := fun _ => fun
  | [d1, d2, d3, d4, d5, d6, d7] => { results := [.lit (.bool false)], args := [d1, d2, d3, d4, d5, d6, d7] }
  | _ => none }
def HoneKeenerWrongFalsely : Prop := honeKeenerRow.holds Try.pinned (OpenSpec.ofChange honeKeenerWrong)

/-- 'bolsterlaw07.HoneParts': WHATEVER THE INPUT: true; the input reads as it did. -/
def honePartsSpec : ChangeSpec := { name := "honeParts", fn := fun _ => fun
  | [d1, d2, d3, d4] => { results := [.lit (.bool true)], args := [d1, d2, d3, d4] }
  | _ => none }
def honePartsRow : OpenClaim := { program := "ytindbippegiopaa", sum := "bc434ec033d342f0eca6a83d4e9a92cf93307b5b8fc3e2ca56ddb25cf52ac312", func := "bolster/bolsterlaw07.HoneParts", spec := "honeParts", unfollowed := true, recurses := true, plainKeys := false, apart := false }
def HonePartsSaid : Prop := honePartsRow.holds Try.pinned (OpenSpec.ofChange honePartsSpec)

/-- ITS FALSE NEIGHBOUR: 'it returns false'. Refute it at one input. -/
def honePartsWrong : ChangeSpec := { name := "honeParts", fn := fun _ => fun
  | [d1, d2, d3, d4] => { results := [.lit (.bool false)], args := [d1, d2, d3, d4] }
  | _ => none }
def HonePartsWrongFalsely : Prop := honePartsRow.holds Try.pinned (OpenSpec.ofChange honePartsWrong)

/-- 'bolsterlaw07.HoneSpared': WHATEVER THE INPUT: true; the input reads as it did. -/
def honeSparedSpec : ChangeSpec := { name := "honeSpared", fn := fun _ => fun
  | [d1, d2, d3] => { results := [.lit (.bool true)], args := [d1, d2, d3] }
  | _ => none }
def honeSparedRow : OpenClaim := { program := "ytindbippegiopaa", sum := "bc434ec033d342f0eca6a83d4e9a92cf93307b5b8fc3e2ca56ddb25cf52ac312", func := "bolster/bolsterlaw07.HoneSpared", spec := "honeSpared", unfollowed := true, recurses := true, plainKeys := false, apart := false }
def HoneSparedSaid : Prop := honeSparedRow.holds Try.pinned (OpenSpec.ofChange honeSparedSpec)

/-- ITS FALSE NEIGHBOUR: 'it returns false'. Refute it at one input. -/
def honeSparedWrong : ChangeSpec := { name := "honeSpared", fn := fun _ => fun
  | [d1, d2, d3] => { results := [.lit (.bool false)], args := [d1, d2, d3] }
  | _ => none }
def HoneSparedWrongFalsely : Prop := honeSparedRow.holds Try.pinned (OpenSpec.ofChange honeSparedWrong)

/-- 'bolsterlaw07.HoneOrders': WHATEVER THE INPUT: true; the input reads as it did. -/
def honeOrdersSpec : ChangeSpec := { name := "honeOrders", fn := fun _ => fun
  | [d1, d2, d3, d4] => { results := [.lit (.bool true)], args := [d1, d2, d3, d4] }
  | _ => none }
def honeOrdersRow : OpenClaim := { program := "ytindbippegiopaa", sum := "bc434ec033d342f0eca6a83d4e9a92cf93307b5b8fc3e2ca56ddb25cf52ac312", func := "bolster/bolsterlaw07.HoneOrders", spec := "honeOrders", unfollowed := true, recurses := true, plainKeys := false, apart := false }
def HoneOrdersSaid : Prop := honeOrdersRow.holds Try.pinned (OpenSpec.ofChange honeOrdersSpec)

/-- ITS FALSE NEIGHBOUR: 'it returns false'. Refute it at one input. -/
def honeOrdersWrong : ChangeSpec := { name := "honeOrders", fn := fun _ => fun
  | [d1, d2, d3, d4] => { results := [.lit (.bool false)], args := [d1, d2, d3, d4] }
  | _ => none }
def HoneOrdersWrongFalsely : Prop := honeOrdersRow.holds Try.pinned (OpenSpec.ofChange honeOrdersWrong)

/-- 'bolsterlaw07.HoneKnown': WHATEVER THE INPUT: true; the input reads as it did. -/
def honeKnownSpec : ChangeSpec := { name := "honeKnown", fn := fun _ => fun
  | [] => { results := [.lit (.bool true)], args := [] }
  | _ => none }
def honeKnownRow : OpenClaim := { program := "ytindbippegiopaa", sum := "bc434ec033d342f0eca6a83d4e9a92cf93307b5b8fc3e2ca56ddb25cf52ac312", func := "bolster/bolsterlaw07.HoneKnown", spec := "honeKnown", unfollowed := true, recurses := true, plainKeys := false, apart := false }
def HoneKnownSaid : Prop := honeKnownRow.holds Try.pinned (OpenSpec.ofChange honeKnownSpec)

/-- ITS FALSE NEIGHBOUR: 'it returns false'. Refute it at one input. -/
def honeKnownWrong : ChangeSpec := { name := "honeKnown", fn := fun _ => fun
  | [] => { results := [.lit (.bool false)], args := [] }
  | _ => none }
def HoneKnownWrongFalsely : Prop := honeKnownRow.holds Try.pinned (OpenSpec.ofChange honeKnownWrong)

/- THE SECOND FORM. 'bulk': how many values and letters a reading holds, each counted each time it is reached (what is shared counts as often as it is met; a slice's spare places count too). A statement '..UptoSaid' is the law's where the arguments, and the package variables that the reading takes, are together of bulk at most 1048576: NARROWER than '..Said'. Prove '..Said' where nothing that the law and all that it calls make is longer than what came in: it says more and counts as full. Else prove '..UptoSaid'. A law counts once. -/
mutual
def uptoBulk {H : Type} : DataW H → Nat
  | .lit (.string bytes) => bytes.length + 1
  | .lit _ => 1
  | .nil => 1
  | .ptr d => uptoBulk d + 1
  | .slice elems spare => uptoBulkAll elems + uptoBulkAll spare + 1
  | .agg parts => uptoBulkAll parts + 1
  | .iface _ d => uptoBulk d + 1
  | .map entries => uptoBulkEntries entries + 1
  | .held _ => 1
def uptoBulkAll {H : Type} : List (DataW H) → Nat
  | [] => 0
  | d :: r => uptoBulk d + uptoBulkAll r
def uptoBulkEntries {H : Type} : List (Lit × DataW H) → Nat
  | [] => 0
  | x :: r => uptoBulkEntry x + uptoBulkEntries r
def uptoBulkEntry {H : Type} : Lit × DataW H → Nat
  | (.string bytes, d) => bytes.length + uptoBulk d + 1
  | (_, d) => uptoBulk d + 1
 end
def uptoSmall : (H : Type) → List (DataW H) → Bool := fun _ ds => decide (uptoBulkAll ds ≤ 1048576)
def OpenSpec.upto (s : _root_.Go.ChangeSpec) : _root_.Go.OpenSpec := { _root_.Go.OpenSpec.ofChange s with cond := some uptoSmall }

/-- 'bolsterlaw07.HoneBoxes', WHERE WHAT IT READS IS OF BULK AT MOST 1048576: true; the input reads as it did. -/
def honeBoxesUptoRow : OpenClaim := { program := "ytindbippegiopaa", sum := "bc434ec033d342f0eca6a83d4e9a92cf93307b5b8fc3e2ca56ddb25cf52ac312", func := "bolster/bolsterlaw07.HoneBoxes", spec := "honeBoxes", unfollowed := true, recurses := true, plainKeys := false, apart := false, narrowed := true }
def HoneBoxesUptoSaid : Prop := honeBoxesUptoRow.holds Try.pinned (OpenSpec.upto honeBoxesSpec)

/-- 'bolsterlaw07.HoneBests', WHERE WHAT IT READS IS OF BULK AT MOST 1048576: true; the input reads as it did. -/
def honeBestsUptoRow : OpenClaim := { program := "ytindbippegiopaa", sum := "bc434ec033d342f0eca6a83d4e9a92cf93307b5b8fc3e2ca56ddb25cf52ac312", func := "bolster/bolsterlaw07.HoneBests", spec := "honeBests", unfollowed := true, recurses := true, plainKeys := false, apart := false, narrowed := true }
def HoneBestsUptoSaid : Prop := honeBestsUptoRow.holds Try.pinned (OpenSpec.upto honeBestsSpec)

/-- 'bolsterlaw07.HoneRows', WHERE WHAT IT READS IS OF BULK AT MOST 1048576: true; the input reads as it did. -/
def honeRowsUptoRow : OpenClaim := { program := "ytindbippegiopaa", sum := "bc434ec033d342f0eca6a83d4e9a92cf93307b5b8fc3e2ca56ddb25cf52ac312", func := "bolster/bolsterlaw07.HoneRows", spec := "honeRows", unfollowed := true, recurses := true, plainKeys := false, apart := false, narrowed := true }
def HoneRowsUptoSaid : Prop := honeRowsUptoRow.holds Try.pinned (OpenSpec.upto honeRowsSpec)

/-- 'bolsterlaw07.HoneFars', WHERE WHAT IT READS IS OF BULK AT MOST 1048576: true; the input reads as it did. -/
def honeFarsUptoRow : OpenClaim := { program := "ytindbippegiopaa", sum := "bc434ec033d342f0eca6a83d4e9a92cf93307b5b8fc3e2ca56ddb25cf52ac312", func := "bolster/bolsterlaw07.HoneFars", spec := "honeFars", unfollowed := true, recurses := true, plainKeys := false, apart := false, narrowed := true }
def HoneFarsUptoSaid : Prop := honeFarsUptoRow.holds Try.pinned (OpenSpec.upto honeFarsSpec)

/-- 'bolsterlaw07.HoneSpares', WHERE WHAT IT READS IS OF BULK AT MOST 1048576: true; the input reads as it did. -/
def honeSparesUptoRow : OpenClaim := { program := "ytindbippegiopaa", sum := "bc434ec033d342f0eca6a83d4e9a92cf93307b5b8fc3e2ca56ddb25cf52ac312", func := "bolster/bolsterlaw07.HoneSpares", spec := "honeSpares", unfollowed := true, recurses := true, plainKeys := false, apart := false, narrowed := true }
def HoneSparesUptoSaid : Prop := honeSparesUptoRow.holds Try.pinned (OpenSpec.upto honeSparesSpec)

/-- 'bolsterlaw07.HoneProved', WHERE WHAT IT READS IS OF BULK AT MOST 1048576: true; the input reads as it did. -/
def honeProvedUptoRow : OpenClaim := { program := "ytindbippegiopaa", sum := "bc434ec033d342f0eca6a83d4e9a92cf93307b5b8fc3e2ca56ddb25cf52ac312", func := "bolster/bolsterlaw07.HoneProved", spec := "honeProved", unfollowed := true, recurses := true, plainKeys := false, apart := false, narrowed := true }
def HoneProvedUptoSaid : Prop := honeProvedUptoRow.holds Try.pinned (OpenSpec.upto honeProvedSpec)

/-- 'bolsterlaw07.HoneEither', WHERE WHAT IT READS IS OF BULK AT MOST 1048576: true; the input reads as it did. -/
def honeEitherUptoRow : OpenClaim := { program := "ytindbippegiopaa", sum := "bc434ec033d342f0eca6a83d4e9a92cf93307b5b8fc3e2ca56ddb25cf52ac312", func := "bolster/bolsterlaw07.HoneEither", spec := "honeEither", unfollowed := true, recurses := true, plainKeys := false, apart := false, narrowed := true }
def HoneEitherUptoSaid : Prop := honeEitherUptoRow.holds Try.pinned (OpenSpec.upto honeEitherSpec)

/-- 'bolsterlaw07.HoneKeener', WHERE WHAT IT READS IS OF BULK AT MOST 1048576: true; the input reads as it did. -/
def honeKeenerUptoRow : OpenClaim := { program := "ytindbippegiopaa", sum := "bc434ec033d342f0eca6a83d4e9a92cf93307b5b8fc3e2ca56ddb25cf52ac312", func := "bolster/bolsterlaw07.HoneKeener", spec := "honeKeener", unfollowed := true, recurses := true, plainKeys := false, apart := false, narrowed := true }
def HoneKeenerUptoSaid : Prop := honeKeenerUptoRow.holds Try.pinned (OpenSpec.upto honeKeenerSpec)

/-- 'bolsterlaw07.HoneParts', WHERE WHAT IT READS IS OF BULK AT MOST 1048576: true; the input reads as it did. -/
def honePartsUptoRow : OpenClaim := { program := "ytindbippegiopaa", sum := "bc434ec033d342f0eca6a83d4e9a92cf93307b5b8fc3e2ca56ddb25cf52ac312", func := "bolster/bolsterlaw07.HoneParts", spec := "honeParts", unfollowed := true, recurses := true, plainKeys := false, apart := false, narrowed := true }
def HonePartsUptoSaid : Prop := honePartsUptoRow.holds Try.pinned (OpenSpec.upto honePartsSpec)

/-- 'bolsterlaw07.HoneSpared', WHERE WHAT IT READS IS OF BULK AT MOST 1048576: true; the input reads as it did. -/
def honeSparedUptoRow : OpenClaim := { program := "ytindbippegiopaa", sum := "bc434ec033d342f0eca6a83d4e9a92cf93307b5b8fc3e2ca56ddb25cf52ac312", func := "bolster/bolsterlaw07.HoneSpared", spec := "honeSpared", unfollowed := true, recurses := true, plainKeys := false, apart := false, narrowed := true }
def HoneSparedUptoSaid : Prop := honeSparedUptoRow.holds Try.pinned (OpenSpec.upto honeSparedSpec)

/-- 'bolsterlaw07.HoneOrders', WHERE WHAT IT READS IS OF BULK AT MOST 1048576: true; the input reads as it did. -/
def honeOrdersUptoRow : OpenClaim := { program := "ytindbippegiopaa", sum := "bc434ec033d342f0eca6a83d4e9a92cf93307b5b8fc3e2ca56ddb25cf52ac312", func := "bolster/bolsterlaw07.HoneOrders", spec := "honeOrders", unfollowed := true, recurses := true, plainKeys := false, apart := false, narrowed := true }
def HoneOrdersUptoSaid : Prop := honeOrdersUptoRow.holds Try.pinned (OpenSpec.upto honeOrdersSpec)

/-- 'bolsterlaw07.HoneKnown', WHERE WHAT IT READS IS OF BULK AT MOST 1048576: true; the input reads as it did. -/
def honeKnownUptoRow : OpenClaim := { program := "ytindbippegiopaa", sum := "bc434ec033d342f0eca6a83d4e9a92cf93307b5b8fc3e2ca56ddb25cf52ac312", func := "bolster/bolsterlaw07.HoneKnown", spec := "honeKnown", unfollowed := true, recurses := true, plainKeys := false, apart := false, narrowed := true }
def HoneKnownUptoSaid : Prop := honeKnownUptoRow.holds Try.pinned (OpenSpec.upto honeKnownSpec)

end Rows
end Go.Proofs.Ytindbippegiopaa
