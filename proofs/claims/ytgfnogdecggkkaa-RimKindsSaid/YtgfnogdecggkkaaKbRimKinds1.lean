/- bolsterlaw03.RimKinds returns true for every input, on every schedule; the input reads as it did.  Conditions: none. -/
import Derived.Test.YtgfnogdecggkkaaRows
import Derived.Test.YtgfnogdecggkkaaKbQ3
namespace Go.Proofs.Ytgfnogdecggkkaa
open Go Go.AH Go.ChangeShapes Go.WideShapes Go.ChangeAt Go.RowKit
theorem rim_own : ownKnob Try.prog.godebug = none := by kernel_rfl
theorem rim_laid : laidOutB Try.prog = true := by kernel_rfl
theorem readable25 : Try.prog.readableRec 25 = true := by kernel_rfl
theorem readable26 : Try.prog.readableRec 26 = true := by kernel_rfl
set_option maxRecDepth 100000 in
theorem rimKinds_lifted (os : Os) (started : os.Started) (H : Type) (enc : TypeId × Value → H) :
    ReturnsInHanded {} Try.checked os 7 .any (Rows.rimKindsSpec.pre6 enc Try.prog Try.f7 Rows.rimKindsRow.domain false) (Rows.rimKindsSpec.post enc Try.prog Try.f7 false true false false) := by
  refine returnsInHanded_of_change (C := Try.checked) rim_own started (by kernel_rfl) Try.func7
    (ChangeSpec.witness6 (enc := enc) (C := Try.checked) false ⟨#[], #[.agg #[.int .i64 0, .int .i64 0, .int .i64 0, .int .i64 0, .int .i64 0], .slice none 0 0], []⟩ 8 (by kernel_rfl) (by kernel_rfl) (by kernel_rfl) (by kernel_rfl)) ?_
  intro W base args ds gs before hval0 hW hcnd _
  have hval : ∀ (j : Nat) t v, Try.f7.params[j]? = some t → args[j]? = some v → Value.okWide Try.prog W .any base t v := hval0
  have hW' := hW
  obtain ⟨p, q, hA0, hV, rfl, hfz, hnd⟩ := hW
  have hA : DataW.TrodAll enc Try.prog W 0 (fun _ => true) true Try.f7.params.toList args.toList ds p := hA0
  rw [Try.params7] at hA hval
  obtain ⟨v0, v1, d0, d1, p0, p1, rfl, rfl, rfl, h0, h1⟩ := trodAll_two hA
  obtain ⟨rfl, rfl⟩ := trodVars_none hV
  clear hA0 hval0
  simp only [List.append_nil] at hW'
  have hlt : ∀ x ∈ p0 ++ p1, x.block < W.heap.size := fun x hx => hW'.lt x hx
  obtain ⟨s0, e0, hs0a, hs0b, hs0c, hs0d, hs0e⟩ := read_stone (hval 0 25 v0 rfl rfl) h0
  subst e0
  obtain ⟨l1, pl1, hl1, hb1⟩ := read_ints Try.underlying26 Try.underlying2 (by kernel_rfl) (hval 1 26 v1 rfl rfl) h1
  have hcall : ACall Try.prog 7 [s0.val, .slice (some ⟨0, 0, none⟩) l1.length l1.length] [.ro (ints l1)] fun v _ => v = .bool true := (rimKinds_law s0 l1 l1.length hs0b hl1.len (Nat.le_refl _)).mono fun v s' h => h.1
  refine (calls_law (ρ := (fun i => pl1)) (w := W) (ar := #[s0.val, v1]) hcall (fun i o ho => ?_) ⟨rfl, fun i hi hi' => ?_⟩).mono fun e W' ⟨he, hg⟩ => ?_
  · match i, ho with
    | 0, ho => cases ho; exact ⟨_, rfl, fun hne => hl1.hro (ints_plain l1) (fun i => pl1) 0 _ rfl hne⟩
  · match i, hi with
    | 0, _ => exact vrel_plain _ rfl
    | 1, _ => exact hl1.rel _ _ 0 (by simp) rfl
  subst he
  have stays : ∀ (t : TypeId) (hr : Try.prog.readableRec t = true) (ht : t < Try.prog.types.size) (v : Value) (d : DataW H) (q : List MemPlace) (h : DataW.Trod enc Try.prog W 0 (fun _ => true) true t v d q) (hq : ∀ x ∈ q, x ∈ p0 ++ p1)
      (sp : Nat → Bool) (hsp : ∀ x ∈ p0 ++ p1, sp x.block = true), DataW.Trod enc Try.prog W' 0 sp true t v d q := fun t hr ht v d q h hq sp hsp =>
    WideElems.Trod_stays rim_laid hr ht h (fun x hx => hg.same (hlt x (hq x hx))) fun x hx => hsp x (hq x hx)
  exact ⟨_, rfl, post_below (pa := (p0 ++ p1)) (pv := []) hW' (fun _ _ _ => (trodAll_cons_mk (shut_bool Try.underlying4 _) trodAll_mk0))
    (fun sp hsp => trodAll_mk2 (stays 25 readable25 (of_decide_eq_true (by kernel_rfl)) _ _ _ h0 (fun x hx => by simp [hx]) sp hsp)
      (stays 26 readable26 (of_decide_eq_true (by kernel_rfl)) _ _ _ h1 (fun x hx => by simp [hx]) sp hsp)) (fun _ _ => rfl) (by simp)
    hg (ok_one (by kernel_rfl) rfl (okWide_bool_mk Try.underlying4 _))⟩
theorem rimKinds_holds : Rows.RimKindsSaid :=
  OpenClaim.holds_of_wide 7 Try.f7 rfl rfl rfl rfl rfl rfl rfl ⟨rfl, rfl, rfl, rfl, rfl⟩ rfl rfl rfl rfl rfl (by kernel_rfl) Try.func7 (by kernel_rfl)
    (of_decide_eq_true (by kernel_rfl)) (by unfold Func.isWrapper; first | (rw [if_pos (by decide +kernel)]; kernel_rfl) | (rw [if_neg (by decide +kernel)]; exact ⟨rfl, rfl⟩))
    (fun os started H enc _ => rimKinds_lifted os started H enc)
#print axioms rimKinds_holds
end Go.Proofs.Ytgfnogdecggkkaa
