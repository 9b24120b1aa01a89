/-
  No cell of these rows narrows 'for every input' (looked for: loops, veiled, ifaces, maps, wideKeys, modest, calm, conditions, laid).
  DERIVED. THE GIVEN ROWS OF THIS SEAT. 10 by the template 'for every input the law returns true; each argument reads behind the call as it read before'; 0 by the template 'total and deterministic' (their statements: YtomioaiojidnbaaTotals.lean).
  GIVEN WITH THE SEED: the statements are not yours to turn. If you find one false, say at which input.
  Laid BY PROGRAM, IN A SANDBOX (cutbox-rows.mjs): the forced cells as the released guide's own fill.sh prints them over the translation 56b14e62ff5ff0b4… (all of the seat's roots in one cut). By AI agents, Wed Nov 11 2026. No macro, syntax, notation, axiom, sorry.
-/
import Derived.Test.YtomioaiojidnbaaChecked
import GoSem.Claim
import GoSem.ClaimJoined
import GoSem.ClaimMapViews
import Derived.JoinedTies
import Derived.KernelRfl
namespace Go.Proofs.Ytomioaiojidnbaa
/- THE CELL 'sum', in the pinned program and in every row, IS THE sha256 OF THE DUMP (.gsa) THAT YtomioaiojidnbaaProg.lean LOADS. Nothing in Lean hashes anything: it is a label: what it is worth is what the hold of that sum in a sandbox is worth. -/
noncomputable def Try.pinned : Pinned := { name := "ytomioaiojidnbaa", sum := "56b14e62ff5ff0b4f11cc4d532347e690fd35193d64cebadfca727dfc618e7d3", checked := Try.checked }
namespace Rows
def none {H : Type} : Left H := { results := [], args := [] }

/-- 'bolsterlaw09.DustShops': WHATEVER THE INPUT: true; the input reads as it did. -/
def dustShopsSpec : ChangeSpec := { name := "dustShops", fn := fun _ => fun
  | [d1, d2] => { results := [.lit (.bool true)], args := [d1, d2] }
  | _ => none }
def dustShopsRow : OpenClaim := { program := "ytomioaiojidnbaa", sum := "56b14e62ff5ff0b4f11cc4d532347e690fd35193d64cebadfca727dfc618e7d3", func := "bolster/bolsterlaw09.DustShops", spec := "dustShops", unfollowed := true, recurses := true, plainKeys := false, apart := false }
def DustShopsSaid : Prop := dustShopsRow.holds Try.pinned (OpenSpec.ofChange dustShopsSpec)

/-- ITS FALSE NEIGHBOUR: 'it returns false'. Refute it at one input. -/
def dustShopsWrong : ChangeSpec := { name := "dustShops", fn := fun _ => fun
  | [d1, d2] => { results := [.lit (.bool false)], args := [d1, d2] }
  | _ => none }
def DustShopsWrongFalsely : Prop := dustShopsRow.holds Try.pinned (OpenSpec.ofChange dustShopsWrong)

/-- 'bolsterlaw09.DustWindows': WHATEVER THE INPUT: true; the input reads as it did. -/
def dustWindowsSpec : ChangeSpec := { name := "dustWindows", fn := fun _ => fun
  | [d1, d2] => { results := [.lit (.bool true)], args := [d1, d2] }
  | _ => none }
def dustWindowsRow : OpenClaim := { program := "ytomioaiojidnbaa", sum := "56b14e62ff5ff0b4f11cc4d532347e690fd35193d64cebadfca727dfc618e7d3", func := "bolster/bolsterlaw09.DustWindows", spec := "dustWindows", unfollowed := true, recurses := true, plainKeys := false, apart := false }
def DustWindowsSaid : Prop := dustWindowsRow.holds Try.pinned (OpenSpec.ofChange dustWindowsSpec)

/-- ITS FALSE NEIGHBOUR: 'it returns false'. Refute it at one input. -/
def dustWindowsWrong : ChangeSpec := { name := "dustWindows", fn := fun _ => fun
  | [d1, d2] => { results := [.lit (.bool false)], args := [d1, d2] }
  | _ => none }
def DustWindowsWrongFalsely : Prop := dustWindowsRow.holds Try.pinned (OpenSpec.ofChange dustWindowsWrong)

/-- 'bolsterlaw09.DustTops': WHATEVER THE INPUT: true; the input reads as it did. -/
def dustTopsSpec : ChangeSpec := { name := "dustTops", fn := fun _ => fun
  | [d1, d2, d3] => { results := [.lit (.bool true)], args := [d1, d2, d3] }
  | _ => none }
def dustTopsRow : OpenClaim := { program := "ytomioaiojidnbaa", sum := "56b14e62ff5ff0b4f11cc4d532347e690fd35193d64cebadfca727dfc618e7d3", func := "bolster/bolsterlaw09.DustTops", spec := "dustTops", unfollowed := true, recurses := true, plainKeys := false, apart := false }
def DustTopsSaid : Prop := dustTopsRow.holds Try.pinned (OpenSpec.ofChange dustTopsSpec)

/-- ITS FALSE NEIGHBOUR: 'it returns false'. Refute it at one input. -/
def dustTopsWrong : ChangeSpec := { name := "dustTops", fn := fun _ => fun
  | [d1, d2, d3] => { results := [.lit (.bool false)], args := [d1, d2, d3] }
  | _ => none }
def DustTopsWrongFalsely : Prop := dustTopsRow.holds Try.pinned (OpenSpec.ofChange dustTopsWrong)

/-- 'bolsterlaw09.DustLimits': WHATEVER THE INPUT: true; the input reads as it did. -/
def dustLimitsSpec : ChangeSpec := { name := "dustLimits", fn := fun _ => fun
  | [d1, d2, d3] => { results := [.lit (.bool true)], args := [d1, d2, d3] }
  | _ => none }
def dustLimitsRow : OpenClaim := { program := "ytomioaiojidnbaa", sum := "56b14e62ff5ff0b4f11cc4d532347e690fd35193d64cebadfca727dfc618e7d3", func := "bolster/bolsterlaw09.DustLimits", spec := "dustLimits", unfollowed := true, recurses := true, plainKeys := false, apart := false }
def DustLimitsSaid : Prop := dustLimitsRow.holds Try.pinned (OpenSpec.ofChange dustLimitsSpec)

/-- ITS FALSE NEIGHBOUR: 'it returns false'. Refute it at one input. -/
def dustLimitsWrong : ChangeSpec := { name := "dustLimits", fn := fun _ => fun
  | [d1, d2, d3] => { results := [.lit (.bool false)], args := [d1, d2, d3] }
  | _ => none }
def DustLimitsWrongFalsely : Prop := dustLimitsRow.holds Try.pinned (OpenSpec.ofChange dustLimitsWrong)

/-- 'bolsterlaw09.DustMeans': WHATEVER THE INPUT: true; the input reads as it did. -/
def dustMeansSpec : ChangeSpec := { name := "dustMeans", fn := fun _ => fun
  | [d] => { results := [.lit (.bool true)], args := [d] }
  | _ => none }
def dustMeansRow : OpenClaim := { program := "ytomioaiojidnbaa", sum := "56b14e62ff5ff0b4f11cc4d532347e690fd35193d64cebadfca727dfc618e7d3", func := "bolster/bolsterlaw09.DustMeans", spec := "dustMeans", unfollowed := true, recurses := true, plainKeys := false, apart := false }
def DustMeansSaid : Prop := dustMeansRow.holds Try.pinned (OpenSpec.ofChange dustMeansSpec)

/-- ITS FALSE NEIGHBOUR: 'it returns false'. Refute it at one input. -/
def dustMeansWrong : ChangeSpec := { name := "dustMeans", fn := fun _ => fun
  | [d] => { results := [.lit (.bool false)], args := [d] }
  | _ => none }
def DustMeansWrongFalsely : Prop := dustMeansRow.holds Try.pinned (OpenSpec.ofChange dustMeansWrong)

/-- 'bolsterlaw09.DustBreathed': WHATEVER THE INPUT: true; the input reads as it did. -/
def dustBreathedSpec : ChangeSpec := { name := "dustBreathed", fn := fun _ => fun
  | [d1, d2, d3, d4] => { results := [.lit (.bool true)], args := [d1, d2, d3, d4] }
  | _ => none }
def dustBreathedRow : OpenClaim := { program := "ytomioaiojidnbaa", sum := "56b14e62ff5ff0b4f11cc4d532347e690fd35193d64cebadfca727dfc618e7d3", func := "bolster/bolsterlaw09.DustBreathed", spec := "dustBreathed", unfollowed := true, recurses := true, plainKeys := false, apart := false }
def DustBreathedSaid : Prop := dustBreathedRow.holds Try.pinned (OpenSpec.ofChange dustBreathedSpec)

/-- ITS FALSE NEIGHBOUR: 'it returns false'. Refute it at one input. -/
def dustBreathedWrong : ChangeSpec := { name := "dustBreathed", fn := fun _ => fun
  | [d1, d2, d3, d4] => { results := [.lit (.bool false)], args := [d1, d2, d3, d4] }
  | _ => none }
def DustBreathedWrongFalsely : Prop := dustBreathedRow.holds Try.pinned (OpenSpec.ofChange dustBreathedWrong)

/-- 'bolsterlaw09.DustFewer': WHATEVER THE INPUT: true; the input reads as it did. -/
def dustFewerSpec : ChangeSpec := { name := "dustFewer", fn := fun _ => fun
  | [d1, d2, d3, d4, d5] => { results := [.lit (.bool true)], args := [d1, d2, d3, d4, d5] }
  | _ => none }
def dustFewerRow : OpenClaim := { program := "ytomioaiojidnbaa", sum := "56b14e62ff5ff0b4f11cc4d532347e690fd35193d64cebadfca727dfc618e7d3", func := "bolster/bolsterlaw09.DustFewer", spec := "dustFewer", unfollowed := true, recurses := true, plainKeys := false, apart := false }
def DustFewerSaid : Prop := dustFewerRow.holds Try.pinned (OpenSpec.ofChange dustFewerSpec)

/-- ITS FALSE NEIGHBOUR: 'it returns false'. Refute it at one input. -/
def dustFewerWrong : ChangeSpec := { name := "dustFewer", fn := fun _ => fun
  | [d1, d2, d3, d4, d5] => { results := [.lit (.bool false)], args := [d1, d2, d3, d4, d5] }
  | _ => none }
def DustFewerWrongFalsely : Prop := dustFewerRow.holds Try.pinned (OpenSpec.ofChange dustFewerWrong)

/-- 'bolsterlaw09.DustTogether': WHATEVER THE INPUT: true; the input reads as it did. -/
def dustTogetherSpec : ChangeSpec := { name := "dustTogether", fn := fun _ => fun
  | [d1, d2, d3, d4] => { results := [.lit (.bool true)], args := [d1, d2, d3, d4] }
  | _ => none }
def dustTogetherRow : OpenClaim := { program := "ytomioaiojidnbaa", sum := "56b14e62ff5ff0b4f11cc4d532347e690fd35193d64cebadfca727dfc618e7d3", func := "bolster/bolsterlaw09.DustTogether", spec := "dustTogether", unfollowed := true, recurses := true, plainKeys := false, apart := false }
def DustTogetherSaid : Prop := dustTogetherRow.holds Try.pinned (OpenSpec.ofChange dustTogetherSpec)

/-- ITS FALSE NEIGHBOUR: 'it returns false'. Refute it at one input. -/
def dustTogetherWrong : ChangeSpec := { name := "dustTogether", fn := fun _ => fun
  | [d1, d2, d3, d4] => { results := [.lit (.bool false)], args := [d1, d2, d3, d4] }
  | _ => none }
def DustTogetherWrongFalsely : Prop := dustTogetherRow.holds Try.pinned (OpenSpec.ofChange dustTogetherWrong)

/-- 'bolsterlaw09.DustNamed': WHATEVER THE INPUT: true; the input reads as it did. -/
def dustNamedSpec : ChangeSpec := { name := "dustNamed", fn := fun _ => fun
  | [d1, d2, d3] => { results := [.lit (.bool true)], args := [d1, d2, d3] }
  | _ => none }
def dustNamedRow : OpenClaim := { program := "ytomioaiojidnbaa", sum := "56b14e62ff5ff0b4f11cc4d532347e690fd35193d64cebadfca727dfc618e7d3", func := "bolster/bolsterlaw09.DustNamed", spec := "dustNamed", unfollowed := true, recurses := true, plainKeys := false, apart := false }
def DustNamedSaid : Prop := dustNamedRow.holds Try.pinned (OpenSpec.ofChange dustNamedSpec)

/-- ITS FALSE NEIGHBOUR: 'it returns false'. Refute it at one input. -/
def dustNamedWrong : ChangeSpec := { name := "dustNamed", fn := fun _ => fun
  | [d1, d2, d3] => { results := [.lit (.bool false)], args := [d1, d2, d3] }
  | _ => none }
def DustNamedWrongFalsely : Prop := dustNamedRow.holds Try.pinned (OpenSpec.ofChange dustNamedWrong)

/-- 'bolsterlaw09.DustKnown': WHATEVER THE INPUT: true; the input reads as it did. -/
def dustKnownSpec : ChangeSpec := { name := "dustKnown", fn := fun _ => fun
  | [] => { results := [.lit (.bool true)], args := [] }
  | _ => none }
def dustKnownRow : OpenClaim := { program := "ytomioaiojidnbaa", sum := "56b14e62ff5ff0b4f11cc4d532347e690fd35193d64cebadfca727dfc618e7d3", func := "bolster/bolsterlaw09.DustKnown", spec := "dustKnown", unfollowed := true, recurses := true, plainKeys := false, apart := false }
def DustKnownSaid : Prop := dustKnownRow.holds Try.pinned (OpenSpec.ofChange dustKnownSpec)

/-- ITS FALSE NEIGHBOUR: 'it returns false'. Refute it at one input. -/
def dustKnownWrong : ChangeSpec := { name := "dustKnown", fn := fun _ => fun
  | [] => { results := [.lit (.bool false)], args := [] }
  | _ => none }
def DustKnownWrongFalsely : Prop := dustKnownRow.holds Try.pinned (OpenSpec.ofChange dustKnownWrong)

/- THE SECOND FORM. 'bulk': how many values and letters a reading holds, each counted each time it is reached (what is shared counts as often as it is met; a slice's spare places count too). A statement '..UptoSaid' is the law's where the arguments, and the package variables that the reading takes, are together of bulk at most 1048576: NARROWER than '..Said'. Prove '..Said' where nothing that the law and all that it calls make is longer than what came in: it says more and counts as full. Else prove '..UptoSaid'. A law counts once. -/
mutual
def uptoBulk {H : Type} : DataW H → Nat
  | .lit (.string bytes) => bytes.length + 1
  | .lit _ => 1
  | .nil => 1
  | .ptr d => uptoBulk d + 1
  | .slice elems spare => uptoBulkAll elems + uptoBulkAll spare + 1
  | .agg parts => uptoBulkAll parts + 1
  | .iface _ d => uptoBulk d + 1
  | .map entries => uptoBulkEntries entries + 1
  | .held _ => 1
def uptoBulkAll {H : Type} : List (DataW H) → Nat
  | [] => 0
  | d :: r => uptoBulk d + uptoBulkAll r
def uptoBulkEntries {H : Type} : List (Lit × DataW H) → Nat
  | [] => 0
  | x :: r => uptoBulkEntry x + uptoBulkEntries r
def uptoBulkEntry {H : Type} : Lit × DataW H → Nat
  | (.string bytes, d) => bytes.length + uptoBulk d + 1
  | (_, d) => uptoBulk d + 1
 end
def uptoSmall : (H : Type) → List (DataW H) → Bool := fun _ ds => decide (uptoBulkAll ds ≤ 1048576)
def OpenSpec.upto (s : _root_.Go.ChangeSpec) : _root_.Go.OpenSpec := { _root_.Go.OpenSpec.ofChange s with cond := some uptoSmall }

/-- 'bolsterlaw09.DustShops', WHERE WHAT IT READS IS OF BULK AT MOST 1048576: true; the input reads as it did. -/
def dustShopsUptoRow : OpenClaim := { program := "ytomioaiojidnbaa", sum := "56b14e62ff5ff0b4f11cc4d532347e690fd35193d64cebadfca727dfc618e7d3", func := "bolster/bolsterlaw09.DustShops", spec := "dustShops", unfollowed := true, recurses := true, plainKeys := false, apart := false, narrowed := true }
def DustShopsUptoSaid : Prop := dustShopsUptoRow.holds Try.pinned (OpenSpec.upto dustShopsSpec)

/-- 'bolsterlaw09.DustWindows', WHERE WHAT IT READS IS OF BULK AT MOST 1048576: true; the input reads as it did. -/
def dustWindowsUptoRow : OpenClaim := { program := "ytomioaiojidnbaa", sum := "56b14e62ff5ff0b4f11cc4d532347e690fd35193d64cebadfca727dfc618e7d3", func := "bolster/bolsterlaw09.DustWindows", spec := "dustWindows", unfollowed := true, recurses := true, plainKeys := false, apart := false, narrowed := true }
def DustWindowsUptoSaid : Prop := dustWindowsUptoRow.holds Try.pinned (OpenSpec.upto dustWindowsSpec)

/-- 'bolsterlaw09.DustTops', WHERE WHAT IT READS IS OF BULK AT MOST 1048576: true; the input reads as it did. -/
def dustTopsUptoRow : OpenClaim := { program := "ytomioaiojidnbaa", sum := "56b14e62ff5ff0b4f11cc4d532347e690fd35193d64cebadfca727dfc618e7d3", func := "bolster/bolsterlaw09.DustTops", spec := "dustTops", unfollowed := true, recurses := true, plainKeys := false, apart := false, narrowed := true }
def DustTopsUptoSaid : Prop := dustTopsUptoRow.holds Try.pinned (OpenSpec.upto dustTopsSpec)

/-- 'bolsterlaw09.DustLimits', WHERE WHAT IT READS IS OF BULK AT MOST 1048576: true; the input reads as it did. -/
def dustLimitsUptoRow : OpenClaim := { program := "ytomioaiojidnbaa", sum := "56b14e62ff5ff0b4f11cc4d532347e690fd35193d64cebadfca727dfc618e7d3", func := "bolster/bolsterlaw09.DustLimits", spec := "dustLimits", unfollowed := true, recurses := true, plainKeys := false, apart := false, narrowed := true }
def DustLimitsUptoSaid : Prop := dustLimitsUptoRow.holds Try.pinned (OpenSpec.upto dustLimitsSpec)

/-- 'bolsterlaw09.DustMeans', WHERE WHAT IT READS IS OF BULK AT MOST 1048576: true; the input reads as it did. -/
def dustMeansUptoRow : OpenClaim := { program := "ytomioaiojidnbaa", sum := "56b14e62ff5ff0b4f11cc4d532347e690fd35193d64cebadfca727dfc618e7d3", func := "bolster/bolsterlaw09.DustMeans", spec := "dustMeans", unfollowed := true, recurses := true, plainKeys := false, apart := false, narrowed := true }
def DustMeansUptoSaid : Prop := dustMeansUptoRow.holds Try.pinned (OpenSpec.upto dustMeansSpec)

/-- 'bolsterlaw09.DustBreathed', WHERE WHAT IT READS IS OF BULK AT MOST 1048576: true; the input reads as it did. -/
def dustBreathedUptoRow : OpenClaim := { program := "ytomioaiojidnbaa", sum := "56b14e62ff5ff0b4f11cc4d532347e690fd35193d64cebadfca727dfc618e7d3", func := "bolster/bolsterlaw09.DustBreathed", spec := "dustBreathed", unfollowed := true, recurses := true, plainKeys := false, apart := false, narrowed := true }
def DustBreathedUptoSaid : Prop := dustBreathedUptoRow.holds Try.pinned (OpenSpec.upto dustBreathedSpec)

/-- 'bolsterlaw09.DustFewer', WHERE WHAT IT READS IS OF BULK AT MOST 1048576: true; the input reads as it did. -/
def dustFewerUptoRow : OpenClaim := { program := "ytomioaiojidnbaa", sum := "56b14e62ff5ff0b4f11cc4d532347e690fd35193d64cebadfca727dfc618e7d3", func := "bolster/bolsterlaw09.DustFewer", spec := "dustFewer", unfollowed := true, recurses := true, plainKeys := false, apart := false, narrowed := true }
def DustFewerUptoSaid : Prop := dustFewerUptoRow.holds Try.pinned (OpenSpec.upto dustFewerSpec)

/-- 'bolsterlaw09.DustTogether', WHERE WHAT IT READS IS OF BULK AT MOST 1048576: true; the input reads as it did. -/
def dustTogetherUptoRow : OpenClaim := { program := "ytomioaiojidnbaa", sum := "56b14e62ff5ff0b4f11cc4d532347e690fd35193d64cebadfca727dfc618e7d3", func := "bolster/bolsterlaw09.DustTogether", spec := "dustTogether", unfollowed := true, recurses := true, plainKeys := false, apart := false, narrowed := true }
def DustTogetherUptoSaid : Prop := dustTogetherUptoRow.holds Try.pinned (OpenSpec.upto dustTogetherSpec)

/-- 'bolsterlaw09.DustNamed', WHERE WHAT IT READS IS OF BULK AT MOST 1048576: true; the input reads as it did. -/
def dustNamedUptoRow : OpenClaim := { program := "ytomioaiojidnbaa", sum := "56b14e62ff5ff0b4f11cc4d532347e690fd35193d64cebadfca727dfc618e7d3", func := "bolster/bolsterlaw09.DustNamed", spec := "dustNamed", unfollowed := true, recurses := true, plainKeys := false, apart := false, narrowed := true }
def DustNamedUptoSaid : Prop := dustNamedUptoRow.holds Try.pinned (OpenSpec.upto dustNamedSpec)

/-- 'bolsterlaw09.DustKnown', WHERE WHAT IT READS IS OF BULK AT MOST 1048576: true; the input reads as it did. -/
def dustKnownUptoRow : OpenClaim := { program := "ytomioaiojidnbaa", sum := "56b14e62ff5ff0b4f11cc4d532347e690fd35193d64cebadfca727dfc618e7d3", func := "bolster/bolsterlaw09.DustKnown", spec := "dustKnown", unfollowed := true, recurses := true, plainKeys := false, apart := false, narrowed := true }
def DustKnownUptoSaid : Prop := dustKnownUptoRow.holds Try.pinned (OpenSpec.upto dustKnownSpec)

end Rows
end Go.Proofs.Ytomioaiojidnbaa
