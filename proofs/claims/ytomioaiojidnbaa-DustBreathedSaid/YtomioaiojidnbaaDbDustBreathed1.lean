/- bolsterlaw09.DustBreathed returns true for every input, on every schedule; the input reads as it did.  Conditions: none. -/
import Derived.Test.YtomioaiojidnbaaRows
import Derived.Test.YtomioaiojidnbaaDbQ5
namespace Go.Proofs.Ytomioaiojidnbaa
open Go Go.AH Go.ChangeShapes Go.WideShapes Go.ChangeAt Go.RowKit Go.AH.Dust
theorem rim_own : ownKnob Try.prog.godebug = none := by kernel_rfl
theorem rim_laid : laidOutB Try.prog = true := by kernel_rfl
theorem readable2 : Try.prog.readableRec 2 = true := by kernel_rfl
theorem readable5 : Try.prog.readableRec 5 = true := by kernel_rfl
theorem readable26 : Try.prog.readableRec 26 = true := by kernel_rfl
theorem readable58 : Try.prog.readableRec 58 = true := by kernel_rfl
set_option maxRecDepth 100000 in
theorem dustBreathed_lifted (os : Os) (started : os.Started) (H : Type) (enc : TypeId × Value → H) :
    ReturnsInHanded {} Try.checked os 8 .any (Rows.dustBreathedSpec.pre6 enc Try.prog Try.f8 Rows.dustBreathedRow.domain false) (Rows.dustBreathedSpec.post enc Try.prog Try.f8 false true false false) := by
  refine returnsInHanded_of_change (C := Try.checked) rim_own started (by kernel_rfl) Try.func8
    (ChangeSpec.witness6 (enc := enc) (C := Try.checked) false ⟨#[], #[.agg #[.slice none 0 0, .slice none 0 0, .slice none 0 0], .slice none 0 0, .int .u8 0, .int .i64 0], []⟩ 8 (by kernel_rfl) (by kernel_rfl) (by kernel_rfl) (by kernel_rfl)) ?_
  intro W base args ds gs before hval0 hW hcnd _
  have hval : ∀ (j : Nat) t v, Try.f8.params[j]? = some t → args[j]? = some v → Value.okWide Try.prog W .any base t v := hval0
  have hW' := hW
  obtain ⟨p, q, hA0, hV, rfl, hfz, hnd⟩ := hW
  have hA : DataW.TrodAll enc Try.prog W 0 (fun _ => true) true Try.f8.params.toList args.toList ds p := hA0
  rw [Try.params8] at hA hval
  obtain ⟨v0, v1, v2, v3, d0, d1, d2, d3, p0, p1, p2, p3, rfl, rfl, rfl, h0, h1, h2, h3⟩ := trodAll_n4 hA
  obtain ⟨rfl, rfl⟩ := trodVars_none hV
  clear hA0 hval0
  simp only [List.append_nil] at hW'
  have hlt : ∀ x ∈ p0 ++ p1 ++ p2 ++ p3, x.block < W.heap.size := fun x hx => hW'.lt x hx
  obtain ⟨s0, qa0, qb0, qc0, hl0⟩ := read_shop (hval 0 26 v0 rfl rfl) h0
  obtain ⟨l1, pl1, hl1, hb1⟩ := read_u8s Try.underlying58 Try.underlying5 (by kernel_rfl) (hval 1 58 v1 rfl rfl) h1
  obtain ⟨n2, e2, hn2⟩ := read_u8 Try.underlying5 (hval 2 5 v2 rfl rfl) h2
  subst e2
  obtain ⟨n3, e3, hn3⟩ := read_int Try.underlying2 (hval 3 2 v3 rfl rfl) h3
  subst e3
  have hcall : ACall Try.prog 8 [Dust.shV 0 1 2 s0, .slice (some ⟨3, 0, none⟩) l1.length l1.length, .int .u8 n2, .int .i64 n3] [.ro (ints s0.d), .ro (Dust.pc s0.f), .ro (ints s0.s), .ro (Dust.u8s l1)] fun v _ => v = .bool true := (dustBreathed_law s0 hl0.fit l1 hb1 hl1.len n2 hn2.1 hn2.2 n3).mono fun v s' h => h.1
  refine (calls_law (ρ := (fun i => if i = 0 then qa0 else if i = 1 then qb0 else if i = 2 then qc0 else pl1)) (w := W) (ar := #[v0, v1, .int .u8 n2, .int .i64 n3]) hcall (fun i o ho => ?_) ⟨rfl, fun i hi hi' => ?_⟩).mono fun e W' ⟨he, hg⟩ => ?_
  · match i, ho with
    | 0, ho => cases ho; exact ⟨_, rfl, fun hne => hl0.d (fun i => if i = 0 then qa0 else if i = 1 then qb0 else if i = 2 then qc0 else pl1) 0 _ rfl hne⟩
    | 1, ho => cases ho; exact ⟨_, rfl, fun hne => hl0.f (fun i => if i = 0 then qa0 else if i = 1 then qb0 else if i = 2 then qc0 else pl1) 1 _ rfl hne⟩
    | 2, ho => cases ho; exact ⟨_, rfl, fun hne => hl0.s (fun i => if i = 0 then qa0 else if i = 1 then qb0 else if i = 2 then qc0 else pl1) 2 _ rfl hne⟩
    | 3, ho => cases ho; exact ⟨_, rfl, fun hne => hl1.hro (Dust.u8s_plain l1) (fun i => if i = 0 then qa0 else if i = 1 then qb0 else if i = 2 then qc0 else pl1) 3 _ rfl hne⟩
  · match i, hi with
    | 0, _ => exact hl0.rel _ _ 0 1 2 (by simp) (by simp) (by simp) rfl rfl rfl
    | 1, _ => exact hl1.rel _ _ 3 (by simp) rfl
    | 2, _ => exact vrel_plain _ rfl
    | 3, _ => exact vrel_plain _ rfl
  subst he
  have stays : ∀ (t : TypeId) (hr : Try.prog.readableRec t = true) (ht : t < Try.prog.types.size) (v : Value) (d : DataW H) (q : List MemPlace) (h : DataW.Trod enc Try.prog W 0 (fun _ => true) true t v d q) (hq : ∀ x ∈ q, x ∈ p0 ++ p1 ++ p2 ++ p3)
      (sp : Nat → Bool) (hsp : ∀ x ∈ p0 ++ p1 ++ p2 ++ p3, sp x.block = true), DataW.Trod enc Try.prog W' 0 sp true t v d q := fun t hr ht v d q h hq sp hsp =>
    WideElems.Trod_stays rim_laid hr ht h (fun x hx => hg.same (hlt x (hq x hx))) fun x hx => hsp x (hq x hx)
  exact ⟨_, rfl, post_below (pa := (p0 ++ (p1 ++ (p2 ++ p3)))) (pv := []) hW' (fun _ _ _ => (trodAll_cons_mk (shut_bool Try.underlying4 _) trodAll_mk0))
    (fun sp hsp => trodAll_mkn4 (stays 26 readable26 (of_decide_eq_true (by kernel_rfl)) _ _ _ h0 (fun x hx => by simp [hx]) sp hsp)
      (stays 58 readable58 (of_decide_eq_true (by kernel_rfl)) _ _ _ h1 (fun x hx => by simp [hx]) sp hsp)
      (stays 5 readable5 (of_decide_eq_true (by kernel_rfl)) _ _ _ h2 (fun x hx => by simp [hx]) sp hsp)
      (stays 2 readable2 (of_decide_eq_true (by kernel_rfl)) _ _ _ h3 (fun x hx => by simp [hx]) sp hsp)) (fun _ _ => rfl) (by simp)
    hg (ok_one (by kernel_rfl) rfl (okWide_bool_mk Try.underlying4 _))⟩
theorem dustBreathed_holds : Rows.DustBreathedSaid :=
  OpenClaim.holds_of_wide 8 Try.f8 rfl rfl rfl rfl rfl rfl rfl ⟨rfl, rfl, rfl, rfl, rfl⟩ rfl rfl rfl rfl rfl (by kernel_rfl) Try.func8 (by kernel_rfl)
    (of_decide_eq_true (by kernel_rfl)) (by unfold Func.isWrapper; first | (rw [if_pos (by decide +kernel)]; kernel_rfl) | (rw [if_neg (by decide +kernel)]; exact ⟨rfl, rfl⟩))
    (fun os started H enc _ => dustBreathed_lifted os started H enc)
#print axioms dustBreathed_holds
end Go.Proofs.Ytomioaiojidnbaa
