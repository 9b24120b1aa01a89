/- bolsterlaw03.RimMore returns true for every input, on every schedule; the input reads as it did.  Conditions: none. -/
import Derived.Test.YtgfnogdecggkkaaRows
import Derived.Test.YtgfnogdecggkkaaKcQ5
namespace Go.Proofs.Ytgfnogdecggkkaa
open Go Go.AH Go.ChangeShapes Go.WideShapes Go.ChangeAt Go.RowKit
theorem rim_own : ownKnob Try.prog.godebug = none := by kernel_rfl
theorem rim_laid : laidOutB Try.prog = true := by kernel_rfl
theorem readable2 : Try.prog.readableRec 2 = true := by kernel_rfl
theorem readable5 : Try.prog.readableRec 5 = true := by kernel_rfl
theorem readable25 : Try.prog.readableRec 25 = true := by kernel_rfl
theorem readable26 : Try.prog.readableRec 26 = true := by kernel_rfl
theorem readable62 : Try.prog.readableRec 62 = true := by kernel_rfl
theorem readable64 : Try.prog.readableRec 64 = true := by kernel_rfl
set_option maxRecDepth 100000 in
theorem rimMore_lifted (os : Os) (started : os.Started) (H : Type) (enc : TypeId × Value → H) :
    ReturnsInHanded {} Try.checked os 11 .any (Rows.rimMoreSpec.pre6 enc Try.prog Try.f11 Rows.rimMoreRow.domain false) (Rows.rimMoreSpec.post enc Try.prog Try.f11 false true false false) := by
  refine returnsInHanded_of_change (C := Try.checked) rim_own started (by kernel_rfl) Try.func11
    (ChangeSpec.witness6 (enc := enc) (C := Try.checked) false ⟨#[], #[.agg #[.int .i64 0, .int .i64 0, .int .i64 0, .int .i64 0, .int .i64 0], .slice none 0 0, .int .i64 0, .agg #[.int .u32 0, .int .u32 0], .agg #[.int .u16 0, .int .u16 0, .int .u16 0], .int .u8 0], []⟩ 8 (by kernel_rfl) (by kernel_rfl) (by kernel_rfl) (by kernel_rfl)) ?_
  intro W base args ds gs before hval0 hW hcnd _
  have hval : ∀ (j : Nat) t v, Try.f11.params[j]? = some t → args[j]? = some v → Value.okWide Try.prog W .any base t v := hval0
  have hW' := hW
  obtain ⟨p, q, hA0, hV, rfl, hfz, hnd⟩ := hW
  have hA : DataW.TrodAll enc Try.prog W 0 (fun _ => true) true Try.f11.params.toList args.toList ds p := hA0
  rw [Try.params11] at hA hval
  obtain ⟨v0, v1, v2, v3, v4, v5, d0, d1, d2, d3, d4, d5, p0, p1, p2, p3, p4, p5, rfl, rfl, rfl, h0, h1, h2, h3, h4, h5⟩ := trodAll_n6 hA
  obtain ⟨rfl, rfl⟩ := trodVars_none hV
  clear hA0 hval0
  simp only [List.append_nil] at hW'
  have hlt : ∀ x ∈ p0 ++ p1 ++ p2 ++ p3 ++ p4 ++ p5, x.block < W.heap.size := fun x hx => hW'.lt x hx
  obtain ⟨s0, e0, hs0a, hs0b, hs0c, hs0d, hs0e⟩ := read_stone (hval 0 25 v0 rfl rfl) h0
  subst e0
  obtain ⟨l1, pl1, hl1, hb1⟩ := read_ints Try.underlying26 Try.underlying2 (by kernel_rfl) (hval 1 26 v1 rfl rfl) h1
  obtain ⟨n2, e2, hn2⟩ := read_int Try.underlying2 (hval 2 2 v2 rfl rfl) h2
  subst e2
  obtain ⟨x3, y3, e3, wx3, wy3⟩ := read_arr2 Try.underlying62 Try.underlying54 (by kernel_rfl) (by kernel_rfl) (hval 3 62 v3 rfl rfl) h3
  simp only [Lit.wf, Bool.and_eq_true, decide_eq_true_eq] at wx3 wy3
  subst e3
  obtain ⟨x4, y4, z4, e4, wx4, wy4, wz4⟩ := read_arr3 Try.underlying64 Try.underlying63 (by kernel_rfl) (by kernel_rfl) (hval 4 64 v4 rfl rfl) h4
  simp only [Lit.wf, Bool.and_eq_true, decide_eq_true_eq] at wx4 wy4 wz4
  subst e4
  obtain ⟨n5, e5, hn5⟩ := read_u8 Try.underlying5 (hval 5 5 v5 rfl rfl) h5
  subst e5
  have hcall : ACall Try.prog 11 [s0.val, .slice (some ⟨0, 0, none⟩) l1.length l1.length, .int .i64 n2, .agg #[.int .u32 x3, .int .u32 y3], .agg #[.int .u16 x4, .int .u16 y4, .int .u16 z4], .int .u8 n5] [.ro (ints l1)] fun v _ => v = .bool true := (rimMore_law s0 l1 l1.length n2 x3 y3 x4 y4 z4 n5 hs0b hl1.len (Nat.le_refl _) wx3 wy3 wx4 wy4 wz4 hn5).mono fun v s' h => h.1
  refine (calls_law (ρ := (fun i => pl1)) (w := W) (ar := #[s0.val, v1, .int .i64 n2, .agg #[.int .u32 x3, .int .u32 y3], .agg #[.int .u16 x4, .int .u16 y4, .int .u16 z4], .int .u8 n5]) hcall (fun i o ho => ?_) ⟨rfl, fun i hi hi' => ?_⟩).mono fun e W' ⟨he, hg⟩ => ?_
  · match i, ho with
    | 0, ho => cases ho; exact ⟨_, rfl, fun hne => hl1.hro (ints_plain l1) (fun i => pl1) 0 _ rfl hne⟩
  · match i, hi with
    | 0, _ => exact vrel_plain _ rfl
    | 1, _ => exact hl1.rel _ _ 0 (by simp) rfl
    | 2, _ => exact vrel_plain _ rfl
    | 3, _ => exact vrel_plain _ rfl
    | 4, _ => exact vrel_plain _ rfl
    | 5, _ => exact vrel_plain _ rfl
  subst he
  have stays : ∀ (t : TypeId) (hr : Try.prog.readableRec t = true) (ht : t < Try.prog.types.size) (v : Value) (d : DataW H) (q : List MemPlace) (h : DataW.Trod enc Try.prog W 0 (fun _ => true) true t v d q) (hq : ∀ x ∈ q, x ∈ p0 ++ p1 ++ p2 ++ p3 ++ p4 ++ p5)
      (sp : Nat → Bool) (hsp : ∀ x ∈ p0 ++ p1 ++ p2 ++ p3 ++ p4 ++ p5, sp x.block = true), DataW.Trod enc Try.prog W' 0 sp true t v d q := fun t hr ht v d q h hq sp hsp =>
    WideElems.Trod_stays rim_laid hr ht h (fun x hx => hg.same (hlt x (hq x hx))) fun x hx => hsp x (hq x hx)
  exact ⟨_, rfl, post_below (pa := (p0 ++ (p1 ++ (p2 ++ (p3 ++ (p4 ++ p5)))))) (pv := []) hW' (fun _ _ _ => (trodAll_cons_mk (shut_bool Try.underlying4 _) trodAll_mk0))
    (fun sp hsp => trodAll_mkn6 (stays 25 readable25 (of_decide_eq_true (by kernel_rfl)) _ _ _ h0 (fun x hx => by simp [hx]) sp hsp)
      (stays 26 readable26 (of_decide_eq_true (by kernel_rfl)) _ _ _ h1 (fun x hx => by simp [hx]) sp hsp)
      (stays 2 readable2 (of_decide_eq_true (by kernel_rfl)) _ _ _ h2 (fun x hx => by simp [hx]) sp hsp)
      (stays 62 readable62 (of_decide_eq_true (by kernel_rfl)) _ _ _ h3 (fun x hx => by simp [hx]) sp hsp)
      (stays 64 readable64 (of_decide_eq_true (by kernel_rfl)) _ _ _ h4 (fun x hx => by simp [hx]) sp hsp)
      (stays 5 readable5 (of_decide_eq_true (by kernel_rfl)) _ _ _ h5 (fun x hx => by simp [hx]) sp hsp)) (fun _ _ => rfl) (by simp)
    hg (ok_one (by kernel_rfl) rfl (okWide_bool_mk Try.underlying4 _))⟩
theorem rimMore_holds : Rows.RimMoreSaid :=
  OpenClaim.holds_of_wide 11 Try.f11 rfl rfl rfl rfl rfl rfl rfl ⟨rfl, rfl, rfl, rfl, rfl⟩ rfl rfl rfl rfl rfl (by kernel_rfl) Try.func11 (by kernel_rfl)
    (of_decide_eq_true (by kernel_rfl)) (by unfold Func.isWrapper; first | (rw [if_pos (by decide +kernel)]; kernel_rfl) | (rw [if_neg (by decide +kernel)]; exact ⟨rfl, rfl⟩))
    (fun os started H enc _ => rimMore_lifted os started H enc)
#print axioms rimMore_holds
end Go.Proofs.Ytgfnogdecggkkaa
