/- bolsterlaw07.HoneOrders returns true for every input, on every schedule; the input reads as it did.  Conditions: none. -/
import Derived.Test.YtindbippegiopaaRows
import Derived.Test.YtindbippegiopaaPoQ6
namespace Go.Proofs.Ytindbippegiopaa
open Go Go.AH Go.ChangeShapes Go.WideShapes Go.ChangeAt Go.RowKit Go.AH.Hone
theorem rim_own : ownKnob Try.prog.godebug = none := by kernel_rfl
theorem rim_laid : laidOutB Try.prog = true := by kernel_rfl
theorem readable5 : Try.prog.readableRec 5 = true := by kernel_rfl
theorem readable22 : Try.prog.readableRec 22 = true := by kernel_rfl
theorem readable24 : Try.prog.readableRec 24 = true := by kernel_rfl
set_option maxRecDepth 100000 in
theorem honeOrders_lifted (os : Os) (started : os.Started) (H : Type) (enc : TypeId × Value → H) :
    ReturnsInHanded {} Try.checked os 13 .any (Rows.honeOrdersSpec.pre6 enc Try.prog Try.f13 Rows.honeOrdersRow.domain false) (Rows.honeOrdersSpec.post enc Try.prog Try.f13 false true false false) := by
  refine returnsInHanded_of_change (C := Try.checked) rim_own started (by kernel_rfl) Try.func13
    (ChangeSpec.witness6 (enc := enc) (C := Try.checked) false ⟨#[], #[.slice none 0 0, .agg #[.int .i64 0, .int .i64 0], .agg #[.int .i64 0, .int .i64 0], .int .u8 0], []⟩ 8 (by kernel_rfl) (by kernel_rfl) (by kernel_rfl) (by kernel_rfl)) ?_
  intro W base args ds gs before hval0 hW hcnd _
  have hval : ∀ (j : Nat) t v, Try.f13.params[j]? = some t → args[j]? = some v → Value.okWide Try.prog W .any base t v := hval0
  have hW' := hW
  obtain ⟨p, q, hA0, hV, rfl, hfz, hnd⟩ := hW
  have hA : DataW.TrodAll enc Try.prog W 0 (fun _ => true) true Try.f13.params.toList args.toList ds p := hA0
  rw [Try.params13] at hA hval
  obtain ⟨v0, v1, v2, v3, d0, d1, d2, d3, p0, p1, p2, p3, rfl, rfl, rfl, h0, h1, h2, h3⟩ := trodAll_n4 hA
  obtain ⟨rfl, rfl⟩ := trodVars_none hV
  clear hA0 hval0
  simp only [List.append_nil] at hW'
  have hlt : ∀ x ∈ p0 ++ p1 ++ p2 ++ p3, x.block < W.heap.size := fun x hx => hW'.lt x hx
  obtain ⟨l0, pl0, hl0, hb0⟩ := read_stones (hval 0 22 v0 rfl rfl) h0
  obtain ⟨s1, e1, hs1⟩ := read_edge (hval 1 24 v1 rfl rfl) h1
  subst e1
  obtain ⟨s2, e2, hs2⟩ := read_edge (hval 2 24 v2 rfl rfl) h2
  subst e2
  obtain ⟨n3, e3, hn3⟩ := read_u8 Try.underlying5 (hval 3 5 v3 rfl rfl) h3
  subst e3
  have hcall : ACall Try.prog 13 [.slice (some ⟨0, 0, none⟩) l0.length l0.length, s1.val, s2.val, .int .u8 n3] [.ro (stonesC l0)] fun v _ => v = .bool true := (honeOrders_lawI l0 s1 s2 n3 l0.length hl0.len hn3).mono fun v s' h => h.1
  refine (calls_law (ρ := (fun i => pl0)) (w := W) (ar := #[v0, s1.val, s2.val, .int .u8 n3]) hcall (fun i o ho => ?_) ⟨rfl, fun i hi hi' => ?_⟩).mono fun e W' ⟨he, hg⟩ => ?_
  · match i, ho with
    | 0, ho => cases ho; exact ⟨_, rfl, fun hne => hl0.hro (stonesC_plain l0) (fun i => pl0) 0 _ rfl hne⟩
  · match i, hi with
    | 0, _ => exact hl0.rel _ _ 0 (by simp) rfl
    | 1, _ => exact vrel_plain _ rfl
    | 2, _ => exact vrel_plain _ rfl
    | 3, _ => exact vrel_plain _ rfl
  subst he
  have stays : ∀ (t : TypeId) (hr : Try.prog.readableRec t = true) (ht : t < Try.prog.types.size) (v : Value) (d : DataW H) (q : List MemPlace) (h : DataW.Trod enc Try.prog W 0 (fun _ => true) true t v d q) (hq : ∀ x ∈ q, x ∈ p0 ++ p1 ++ p2 ++ p3)
      (sp : Nat → Bool) (hsp : ∀ x ∈ p0 ++ p1 ++ p2 ++ p3, sp x.block = true), DataW.Trod enc Try.prog W' 0 sp true t v d q := fun t hr ht v d q h hq sp hsp =>
    WideElems.Trod_stays rim_laid hr ht h (fun x hx => hg.same (hlt x (hq x hx))) fun x hx => hsp x (hq x hx)
  exact ⟨_, rfl, post_below (pa := (p0 ++ (p1 ++ (p2 ++ p3)))) (pv := []) hW' (fun _ _ _ => (trodAll_cons_mk (shut_bool Try.underlying4 _) trodAll_mk0))
    (fun sp hsp => trodAll_mkn4 (stays 22 readable22 (of_decide_eq_true (by kernel_rfl)) _ _ _ h0 (fun x hx => by simp [hx]) sp hsp)
      (stays 24 readable24 (of_decide_eq_true (by kernel_rfl)) _ _ _ h1 (fun x hx => by simp [hx]) sp hsp)
      (stays 24 readable24 (of_decide_eq_true (by kernel_rfl)) _ _ _ h2 (fun x hx => by simp [hx]) sp hsp)
      (stays 5 readable5 (of_decide_eq_true (by kernel_rfl)) _ _ _ h3 (fun x hx => by simp [hx]) sp hsp)) (fun _ _ => rfl) (by simp)
    hg (ok_one (by kernel_rfl) rfl (okWide_bool_mk Try.underlying4 _))⟩
theorem honeOrders_holds : Rows.HoneOrdersSaid :=
  OpenClaim.holds_of_wide 13 Try.f13 rfl rfl rfl rfl rfl rfl rfl ⟨rfl, rfl, rfl, rfl, rfl⟩ rfl rfl rfl rfl rfl (by kernel_rfl) Try.func13 (by kernel_rfl)
    (of_decide_eq_true (by kernel_rfl)) (by unfold Func.isWrapper; first | (rw [if_pos (by decide +kernel)]; kernel_rfl) | (rw [if_neg (by decide +kernel)]; exact ⟨rfl, rfl⟩))
    (fun os started H enc _ => honeOrders_lifted os started H enc)
#print axioms honeOrders_holds
end Go.Proofs.Ytindbippegiopaa
