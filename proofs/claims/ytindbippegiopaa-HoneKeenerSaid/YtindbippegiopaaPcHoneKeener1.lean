/- bolsterlaw07.HoneKeener returns true for every input, on every schedule; the input reads as it did.  Conditions: none. -/
import Derived.Test.YtindbippegiopaaRows
import Derived.Test.YtindbippegiopaaPcQ5
namespace Go.Proofs.Ytindbippegiopaa
open Go Go.AH Go.ChangeShapes Go.WideShapes Go.ChangeAt Go.RowKit Go.AH.Hone
theorem rim_own : ownKnob Try.prog.godebug = none := by kernel_rfl
theorem rim_laid : laidOutB Try.prog = true := by kernel_rfl
theorem readable22 : Try.prog.readableRec 22 = true := by kernel_rfl
theorem readable24 : Try.prog.readableRec 24 = true := by kernel_rfl
theorem readable25 : Try.prog.readableRec 25 = true := by kernel_rfl
theorem readable52 : Try.prog.readableRec 52 = true := by kernel_rfl
theorem readable54 : Try.prog.readableRec 54 = true := by kernel_rfl
set_option maxRecDepth 100000 in
theorem honeKeener_lifted (os : Os) (started : os.Started) (H : Type) (enc : TypeId × Value → H) :
    ReturnsInHanded {} Try.checked os 10 .any (Rows.honeKeenerSpec.pre6 enc Try.prog Try.f10 Rows.honeKeenerRow.domain false) (Rows.honeKeenerSpec.post enc Try.prog Try.f10 false true false false) := by
  refine returnsInHanded_of_change (C := Try.checked) rim_own started (by kernel_rfl) Try.func10
    (ChangeSpec.witness6 (enc := enc) (C := Try.checked) false ⟨#[], #[.slice none 0 0, .agg #[.int .i64 0, .int .i64 0], .agg #[.int .i64 0, .int .i64 0], .agg #[.int .u8 0, .int .u8 0], .agg #[.int .u8 0, .int .u8 0], .agg #[.int .i64 0, .int .i64 0, .int .i64 0], .slice none 0 0], []⟩ 8 (by kernel_rfl) (by kernel_rfl) (by kernel_rfl) (by kernel_rfl)) ?_
  intro W base args ds gs before hval0 hW hcnd _
  have hval : ∀ (j : Nat) t v, Try.f10.params[j]? = some t → args[j]? = some v → Value.okWide Try.prog W .any base t v := hval0
  have hW' := hW
  obtain ⟨p, q, hA0, hV, rfl, hfz, hnd⟩ := hW
  have hA : DataW.TrodAll enc Try.prog W 0 (fun _ => true) true Try.f10.params.toList args.toList ds p := hA0
  rw [Try.params10] at hA hval
  obtain ⟨v0, v1, v2, v3, v4, v5, v6, d0, d1, d2, d3, d4, d5, d6, p0, p1, p2, p3, p4, p5, p6, rfl, rfl, rfl, h0, h1, h2, h3, h4, h5, h6⟩ := trodAll_n7 hA
  obtain ⟨rfl, rfl⟩ := trodVars_none hV
  clear hA0 hval0
  simp only [List.append_nil] at hW'
  have hlt : ∀ x ∈ p0 ++ p1 ++ p2 ++ p3 ++ p4 ++ p5 ++ p6, x.block < W.heap.size := fun x hx => hW'.lt x hx
  obtain ⟨l0, pl0, hl0, hb0⟩ := read_stones (hval 0 22 v0 rfl rfl) h0
  obtain ⟨s1, e1, hs1⟩ := read_edge (hval 1 24 v1 rfl rfl) h1
  subst e1
  obtain ⟨s2, e2, hs2⟩ := read_edge (hval 2 24 v2 rfl rfl) h2
  subst e2
  obtain ⟨x3, y3, e3, wx3, wy3⟩ := read_arr2 Try.underlying52 Try.underlying5 (by kernel_rfl) (by kernel_rfl) (hval 3 52 v3 rfl rfl) h3
  simp only [Lit.wf, Bool.and_eq_true, decide_eq_true_eq] at wx3 wy3
  subst e3
  obtain ⟨x4, y4, e4, wx4, wy4⟩ := read_arr2 Try.underlying52 Try.underlying5 (by kernel_rfl) (by kernel_rfl) (hval 4 52 v4 rfl rfl) h4
  simp only [Lit.wf, Bool.and_eq_true, decide_eq_true_eq] at wx4 wy4
  subst e4
  obtain ⟨s5, e5, hs5⟩ := read_sn (hval 5 54 v5 rfl rfl) h5
  subst e5
  obtain ⟨l6, pl6, hl6, hb6⟩ := read_ints Try.underlying25 Try.underlying3 (by kernel_rfl) (hval 6 25 v6 rfl rfl) h6
  have hcall : ACall Try.prog 10 [.slice (some ⟨0, 0, none⟩) l0.length l0.length, s1.val, s2.val, .agg #[.int .u8 x3, .int .u8 y3], .agg #[.int .u8 x4, .int .u8 y4], s5.val, .slice (some ⟨1, 0, none⟩) l6.length l6.length] [.ro (stonesC l0), .ro (ints l6)] fun v _ => v = .bool true := (honeKeener_law l0 s1 s2 x3 y3 x4 y4 s5 l6 l0.length l6.length hl0.len hl6.len wx3 wy3 wx4 wy4).mono fun v s' h => h.1
  refine (calls_law (ρ := (fun i => if i = 0 then pl0 else pl6)) (w := W) (ar := #[v0, s1.val, s2.val, .agg #[.int .u8 x3, .int .u8 y3], .agg #[.int .u8 x4, .int .u8 y4], s5.val, v6]) hcall (fun i o ho => ?_) ⟨rfl, fun i hi hi' => ?_⟩).mono fun e W' ⟨he, hg⟩ => ?_
  · match i, ho with
    | 0, ho => cases ho; exact ⟨_, rfl, fun hne => hl0.hro (stonesC_plain l0) (fun i => if i = 0 then pl0 else pl6) 0 _ rfl hne⟩
    | 1, ho => cases ho; exact ⟨_, rfl, fun hne => hl6.hro (ints_plain l6) (fun i => if i = 0 then pl0 else pl6) 1 _ rfl hne⟩
  · match i, hi with
    | 0, _ => exact hl0.rel _ _ 0 (by simp) rfl
    | 1, _ => exact vrel_plain _ rfl
    | 2, _ => exact vrel_plain _ rfl
    | 3, _ => exact vrel_plain _ rfl
    | 4, _ => exact vrel_plain _ rfl
    | 5, _ => exact vrel_plain _ rfl
    | 6, _ => exact hl6.rel _ _ 1 (by simp) rfl
  subst he
  have stays : ∀ (t : TypeId) (hr : Try.prog.readableRec t = true) (ht : t < Try.prog.types.size) (v : Value) (d : DataW H) (q : List MemPlace) (h : DataW.Trod enc Try.prog W 0 (fun _ => true) true t v d q) (hq : ∀ x ∈ q, x ∈ p0 ++ p1 ++ p2 ++ p3 ++ p4 ++ p5 ++ p6)
      (sp : Nat → Bool) (hsp : ∀ x ∈ p0 ++ p1 ++ p2 ++ p3 ++ p4 ++ p5 ++ p6, sp x.block = true), DataW.Trod enc Try.prog W' 0 sp true t v d q := fun t hr ht v d q h hq sp hsp =>
    WideElems.Trod_stays rim_laid hr ht h (fun x hx => hg.same (hlt x (hq x hx))) fun x hx => hsp x (hq x hx)
  exact ⟨_, rfl, post_below (pa := (p0 ++ (p1 ++ (p2 ++ (p3 ++ (p4 ++ (p5 ++ p6))))))) (pv := []) hW' (fun _ _ _ => (trodAll_cons_mk (shut_bool Try.underlying4 _) trodAll_mk0))
    (fun sp hsp => trodAll_mkn7 (stays 22 readable22 (of_decide_eq_true (by kernel_rfl)) _ _ _ h0 (fun x hx => by simp [hx]) sp hsp)
      (stays 24 readable24 (of_decide_eq_true (by kernel_rfl)) _ _ _ h1 (fun x hx => by simp [hx]) sp hsp)
      (stays 24 readable24 (of_decide_eq_true (by kernel_rfl)) _ _ _ h2 (fun x hx => by simp [hx]) sp hsp)
      (stays 52 readable52 (of_decide_eq_true (by kernel_rfl)) _ _ _ h3 (fun x hx => by simp [hx]) sp hsp)
      (stays 52 readable52 (of_decide_eq_true (by kernel_rfl)) _ _ _ h4 (fun x hx => by simp [hx]) sp hsp)
      (stays 54 readable54 (of_decide_eq_true (by kernel_rfl)) _ _ _ h5 (fun x hx => by simp [hx]) sp hsp)
      (stays 25 readable25 (of_decide_eq_true (by kernel_rfl)) _ _ _ h6 (fun x hx => by simp [hx]) sp hsp)) (fun _ _ => rfl) (by simp)
    hg (ok_one (by kernel_rfl) rfl (okWide_bool_mk Try.underlying4 _))⟩
theorem honeKeener_holds : Rows.HoneKeenerSaid :=
  OpenClaim.holds_of_wide 10 Try.f10 rfl rfl rfl rfl rfl rfl rfl ⟨rfl, rfl, rfl, rfl, rfl⟩ rfl rfl rfl rfl rfl (by kernel_rfl) Try.func10 (by kernel_rfl)
    (of_decide_eq_true (by kernel_rfl)) (by unfold Func.isWrapper; first | (rw [if_pos (by decide +kernel)]; kernel_rfl) | (rw [if_neg (by decide +kernel)]; exact ⟨rfl, rfl⟩))
    (fun os started H enc _ => honeKeener_lifted os started H enc)
#print axioms honeKeener_holds
end Go.Proofs.Ytindbippegiopaa
