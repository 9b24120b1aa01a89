/- bolsterlaw03.RimKnown returns true, in whatever memory, on every schedule; nothing that was there is written. Conditions: none (no input). -/
import Derived.Test.YtgfnogdecggkkaaML
import Derived.Test.YtgfnogdecggkkaaRows
import Derived.Test.YtgfnogdecggkkaaMM
namespace Go.Proofs.Ytgfnogdecggkkaa
open Go Go.AH
theorem ksR_ok : ∀ k ∈ knW :: ksW, KnownOk Try.prog k := by intro k hk; rcases List.mem_cons.1 hk with rfl | hk; exact knW_ok; exact ksW_ok k hk
def knR : Known := ⟨15, [], [], .bool true, []⟩
theorem knR_ok : KnownOk Try.prog knR := ⟨ev_run (orc := orcOr orc (knowns (knW :: ksW))) tabOk (orcOr_ok orc_ok (knowns_ok ksR_ok)) mixed (n := 200) (lo := 0) (by kernel_rfl), by kernel_rfl, by kernel_rfl⟩
end Go.Proofs.Ytgfnogdecggkkaa
namespace Go.Proofs.Ytgfnogdecggkkaa
open Go Go.AH Go.ChangeShapes Go.WideShapes Go.ChangeAt Go.RowKit
theorem rimKnown_own : ownKnob Try.prog.godebug = none := by kernel_rfl
set_option maxRecDepth 100000 in
theorem rimKnown_lifted (os : Os) (started : os.Started) (H : Type) (enc : TypeId × Value → H) :
    ReturnsInHanded {} Try.checked os 15 .any (Rows.rimKnownSpec.pre6 enc Try.prog Try.f15 Rows.rimKnownRow.domain false) (Rows.rimKnownSpec.post enc Try.prog Try.f15 false true false false) := by
  refine returnsInHanded_of_change (C := Try.checked) rimKnown_own started (by kernel_rfl) Try.func15
    (ChangeSpec.witness6 (enc := enc) (C := Try.checked) false ⟨#[], #[], []⟩ 8 (by kernel_rfl) (by kernel_rfl) (by kernel_rfl) (by kernel_rfl)) ?_
  intro W base args ds gs before hval0 hW hcnd _
  have hW' := hW
  obtain ⟨p, q, hA0, hV, rfl, hfz, hnd⟩ := hW
  have hA : DataW.TrodAll enc Try.prog W 0 (fun _ => true) true Try.f15.params.toList args.toList ds p := hA0
  rw [Try.params15] at hA
  obtain ⟨rfl, rfl, rfl⟩ := trodAll_none hA
  obtain ⟨rfl, rfl⟩ := trodVars_none hV
  clear hA0 hval0
  simp only [List.append_nil] at hW'
  refine (calls_law0 knR_ok.1 W).mono fun e W' ⟨he, hg⟩ => ?_
  subst he
  exact ⟨_, rfl, post_below (pa := []) (pv := []) hW' (fun _ _ _ => (trodAll_cons_mk (shut_bool Try.underlying4 _) trodAll_mk0)) (fun sp _ => rfl) (fun _ _ => rfl) rfl
    hg (ok_one (by kernel_rfl) rfl (okWide_bool_mk Try.underlying4 _))⟩
theorem rimKnown_holds : Rows.RimKnownSaid :=
  OpenClaim.holds_of_wide 15 Try.f15 rfl rfl rfl rfl rfl rfl rfl ⟨rfl, rfl, rfl, rfl, rfl⟩ rfl rfl rfl rfl rfl (by kernel_rfl) Try.func15 (by kernel_rfl)
    (of_decide_eq_true (by kernel_rfl)) (by unfold Func.isWrapper; first | (rw [if_pos (by decide +kernel)]; kernel_rfl) | (rw [if_neg (by decide +kernel)]; exact ⟨rfl, rfl⟩))
    (fun os started H enc _ => rimKnown_lifted os started H enc)
#print axioms rimKnown_holds
end Go.Proofs.Ytgfnogdecggkkaa
