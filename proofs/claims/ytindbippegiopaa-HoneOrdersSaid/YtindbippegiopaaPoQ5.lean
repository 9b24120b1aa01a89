/- The own function of HoneRows. -/
import Derived.Test.YtindbippegiopaaPoQ4
import Derived.Test.YtindbippegiopaaPoQ1
import Derived.Test.YtindbippegiopaaPoQ3
namespace Go.Proofs.Ytindbippegiopaa
open Go Go.AH
attribute [local irreducible] WOps WCode WFree retQ thenQ blockQ scopeQ OpOk ACall RetRef roundA roundB
set_option maxRecDepth 100000
set_option maxHeartbeats 1000000
open Go.AH.Hone
theorem ask_goal {l : List Sn} {e goal : Ed} (ha : askE l e goal = 0) : askE l goal goal = 0 := by
  obtain ⟨g1, g2, g3⟩ := askE_zero ha
  unfold askE; rw [if_neg (by omega), if_neg (fun h => h.elim g3 g3)]
theorem ask_small {l : List Sn} {e goal : Ed} (ha : askE l e goal = 0) : 1 ≤ l.length ∧ l.length ≤ 6 := by
  obtain ⟨g1, _, _⟩ := askE_zero ha
  obtain ⟨h1, h2, _⟩ := boxE_zero g1
  exact ⟨h1, h2⟩
end Go.Proofs.Ytindbippegiopaa
namespace Go.AH
open Go
theorem ok_neqB0 {P : Program} {rd : Option Nat} {ty : TypeId} {e : Env} {σ : Heap} {x y : Operand} {t t' : TypeId} {a b : Bool} (ht : P.underlying t = some .bool) (hx : evalO e x = some (.bool a)) (hy : evalO e y = some (.bool b)) (hab : a = b) : OpOk P rd (.binOp .neq t x y t') ty e σ (.bool false) σ :=
  ok_plain (by simp) rfl fun o ho _ A hA w => by
    have h1 := hA x (by simp [Op.operands]) _ hx rfl
    have h2 := hA y (by simp [Op.operands]) _ hy rfl
    have h3 : (eqGuard .neq t x y (.bool a) (.bool b)).run P w = .ok () w := by unfold eqGuard; split <;> rfl
    have h5 : ∀ d, (Op.equalIn (d + 1) t (.bool a) (.bool b)).run P w = .ok (a == b) w := fun d => by simp [Op.equalIn, underlying, ht]
    have h4 : (Op.equal t (.bool a) (.bool b)).run P w = .ok (a == b) w := h5 9999
    subst hab
    simp [execOp, ho, h1, h2, h3, binOp, h4]
end Go.AH
namespace Go.AH.Hone
open Go Go.AH Go.Proofs.Ytindbippegiopaa
section
variable {l : List Sn} {goal e : Ed}
end
end Go.AH.Hone
namespace Go.Proofs.Ytindbippegiopaa
open Go Go.AH
attribute [local irreducible] WOps WCode WFree retQ thenQ blockQ scopeQ OpOk ACall RetRef roundA roundB
set_option maxRecDepth 100000
set_option maxHeartbeats 1000000
open Go.AH.Hone
end Go.Proofs.Ytindbippegiopaa
namespace Go.AH.Hone
open Go Go.AH Go.Proofs.Ytindbippegiopaa
section
variable {l : List Sn} {goal e : Ed}
theorem spareK_mem (l : List Sn) (e goal : Ed) (i : Nat) : ∀ n, (i : Int) ∈ spareK l e goal n ↔ i < n ∧ needsV (wout l i) goal e = needsV l goal e
  | 0 => by simp [spareK]
  | n + 1 => by
    have ih := spareK_mem l e goal i n
    simp only [spareK]
    by_cases h : needsV (wout l n) goal e = needsV l goal e
    · rw [if_pos h]
      simp only [List.mem_append, List.mem_singleton, ih]
      constructor
      · rintro (⟨h1, h2⟩ | h1)
        · exact ⟨by omega, h2⟩
        · obtain rfl : i = n := by omega
          exact ⟨by omega, h⟩
      · rintro ⟨h1, h2⟩
        by_cases hi : i = n
        · exact .inr (by omega)
        · exact .inl ⟨by omega, h2⟩
    · rw [if_neg h, ih]
      constructor
      · rintro ⟨h1, h2⟩; exact ⟨by omega, h2⟩
      · rintro ⟨h1, h2⟩
        refine ⟨?_, h2⟩
        apply Classical.byContradiction
        intro hi
        obtain rfl : i = n := by omega
        exact h h2
theorem gi_mem {Y : List Int} {i : Nat} (h : i < Y.length) : gi Y i ∈ Y := by simp [gi, h]
end
end Go.AH.Hone
namespace Go.Proofs.Ytindbippegiopaa
open Go Go.AH
attribute [local irreducible] WOps WCode WFree retQ thenQ blockQ scopeQ OpOk ACall RetRef roundA roundB
set_option maxRecDepth 100000
set_option maxHeartbeats 1000000
open Go.AH.Hone
theorem boxE_good {l : List Sn} (h1 : 1 ≤ l.length) (h6 : l.length ≤ 6) (hl : ∀ i < l.length, ¬ badSn (gs l i)) : boxE l = 0 := by
  unfold boxE; rw [if_neg (by omega), if_neg]; unfold badBox; rw [someB_false fun j hj => hl j (by omega)]; simp
theorem in_ok (q : List Int) (n : Int) (c : Nat) (hN : q.length ≤ 200000) : Ev Try.prog 46 [.slice (some ⟨0, 0, none⟩) q.length c, .int .i64 n] [.ro (ints q)] (.bool (decide (n ∈ q))) [.ro (ints q)] := by
  refine acall_intro 1 18 Try.func46 rfl rfl rfl rfl rfl ?_
  repeat' (first | (refine gU ?_; (refine gAssign ?_; refine st (ok_assign rfl) rfl rfl ?_)) | refine W_seq ?_ | refine W_region ?_ | refine st_nil ?_ | refine tq_n ?_ | refine W_block ?_)
  refine W_loopS (ι := Nat) (fun i => [(0, .slice (some ⟨0, 0, none⟩) q.length c), (1, .int .i64 n), (5, .int .i64 (i : Int))])
    (fun _ => [.ro (ints q)]) (fun i => q.length - i) (fun i => i ≤ q.length ∧ ∀ j < i, gi q j ≠ n) 0 (by simp) (.same ⟨rfl, rfl, rfl, trivial⟩) ⟨by omega, fun j hj => by omega⟩ ?_
  rintro i ⟨hi, hall⟩
  by_cases hil : i < q.length
  · have hc1 : cellGet [.ro (ints q)] 0 i = some (.int .i64 (gi q i)) := ints_get hil
    by_cases hq : gi q i = n
    · have hin : n ∈ q := by rw [← hq]; exact gi_mem hil
      repeat' (first | (refine gU ?_; first | (refine gMove ?_; refine st (ok_move rfl) rfl rfl ?_) | (refine gAssign ?_; refine st (ok_assign rfl) rfl rfl ?_) | (refine gLoad ?_; refine st (ok_load rfl (by exact hc1)) rfl rfl ?_) | (refine gBin ?_; refine st (ok_bin rfl rfl rfl) rfl rfl ?_) | (refine gLen ?_; refine st (ok_len rfl) rfl rfl ?_) | (refine gIA ?_; refine st (ok_idxN rfl rfl (by omega)) rfl rfl ?_)) | refine W_seq ?_ | refine W_region ?_ | refine st_nil ?_ | refine tq_n ?_ | refine tq_r ?_ | refine bq_r ?_ | refine W_skip ?_ | refine W_ret ?_ | refine W_block ?_ | refine W_condTA rfl ?_)
      refine ret0 (.tmp rfl .nil) (.plain rfl rfl) ⟨?_, rfl⟩
      rw [decide_eq_true hin]; rfl
    · repeat' (first | (refine gU ?_; first | (refine gMove ?_; refine st (ok_move rfl) rfl rfl ?_) | (refine gAssign ?_; refine st (ok_assign rfl) rfl rfl ?_) | (refine gLoad ?_; refine st (ok_load rfl (by exact hc1)) rfl rfl ?_) | (refine gAdd ?_; refine st (ok_inc rfl rfl (by omega)) rfl rfl ?_) | (refine gBin ?_; refine st (ok_bin rfl rfl rfl) rfl rfl ?_) | (refine gLen ?_; refine st (ok_len rfl) rfl rfl ?_) | (refine gIA ?_; refine st (ok_idxN rfl rfl (by omega)) rfl rfl ?_)) | refine W_seq ?_ | refine W_region ?_ | refine st_nil ?_ | refine tq_n ?_ | refine bq_n ?_ | refine W_skip ?_ | refine W_block ?_ | refine W_condTA rfl ?_ | refine W_condFA rfl ?_)
      exact ⟨rfl, i + 1, ⟨by omega, fun j hj => by
        by_cases hji : j = i
        · subst hji; exact hq
        · exact hall j (by omega)⟩, by omega, .same ⟨rfl, rfl, rfl, trivial⟩⟩
  · have hin : n ∉ q := fun h => by
      obtain ⟨j, hj, rfl⟩ := List.getElem_of_mem h
      exact hall j (by omega) (by simp [gi, hj])
    repeat' (first | (refine gU ?_; first | (refine gMove ?_; refine st (ok_move rfl) rfl rfl ?_) | (refine gAssign ?_; refine st (ok_assign rfl) rfl rfl ?_) | (refine gBin ?_; refine st (ok_bin rfl rfl rfl) rfl rfl ?_) | (refine gLen ?_; refine st (ok_len rfl) rfl rfl ?_)) | refine W_seq ?_ | refine W_region ?_ | refine st_nil ?_ | refine tq_n ?_ | refine tq_e ?_ | refine bq_hit rfl ?_ | refine W_exit ?_ | refine W_ret ?_ | refine W_condFA rfl ?_)
    refine ret0 (.tmp rfl .nil) (.plain rfl rfl) ⟨?_, rfl⟩
    rw [decide_eq_false hin]; rfl
theorem in_ev {σ : Heap} {q : List Int} {n : Int} {x c : Nat} (hx : arrAt σ x (ints q)) (hN : q.length ≤ 200000) (hni : σ.all (fun o => !isIter o) = true) :
    Ev Try.prog 46 [.slice (some ⟨x, 0, none⟩) q.length c, .int .i64 n] σ (.bool (decide (n ∈ q))) σ :=
  Ev.arrs [ints q] [x] (in_ok q n c hN) ⟨hx, trivial⟩ ⟨by simpa [bsR] using VQ.slice (q := true) (n := 1) (ρ := bsR [x]) 0 0 q.length c c (Nat.le_refl _) (by omega), vrel_plain _ rfl, trivial⟩ (by simp [ints_plain]) rfl hni
end Go.Proofs.Ytindbippegiopaa
namespace Go.AH
open Go
theorem sim_open {G : Nat → Prop} {w0 w : World} {ρ : Rho} {σ : Heap} (hs : Sim G w0 ρ σ w) {j k : Nat} {qs : List (List Value)} {sp : List (Nat × Value)} {q : List Value} (hj : σ[j]? = some (.deep qs sp)) (hk : qs[k]? = some q) (hp : plainL q = true) :
    ∃ ρ' : Rho, (∀ i < σ.length, ρ' i = ρ i) ∧ Sim G w0 ρ' (σ.set j (.deep qs ((k, .slice (some ⟨σ.length, 0, none⟩) q.length q.length) :: sp)) ++ [.ro q]) w := by
  obtain ⟨hkl, hkq⟩ := List.getElem?_eq_some_iff.1 hk
  have hold := hs.obj j _ hj
  obtain ⟨g1, g2⟩ := hold.1 (List.ne_nil_of_length_pos (by omega))
  obtain ⟨v', g3, a, cap, g4, g5, g6⟩ := g2 k hkl
  rw [hkq] at g4 g5 g6
  subst g4
  have hjl := idx_lt hj
  obtain ⟨pl, hpl, hro⟩ : ∃ pl : Pl, (q ≠ [] → a = some ⟨pl.b, pl.o, none⟩) ∧ (q ≠ [] → G pl.b ∧ ∀ (m : Nat) (h : m < q.length), w.cell? ⟨pl.b, pl.o + m, none⟩ = some q[m]) := by
    by_cases hq : q = []
    · exact ⟨⟨0, 0, 0⟩, fun h => absurd hq h, fun h => absurd hq h⟩
    · obtain ⟨b, o, h1, h2, h3⟩ := g6 hq
      exact ⟨⟨b, o, 0⟩, fun _ => h1, fun _ => ⟨h2, h3⟩⟩
  refine ⟨fun i => if i = σ.length then pl else ρ i, fun i hi => if_neg (by omega), hs.os, hs.tape, hs.output, hs.size, hs.fgn, fun i x hx => ?_, fun i i' oi oi' hi hi' hoi hoi' hii => ?_⟩
  · have hlt : ∀ m < σ.length, (fun i => if i = σ.length then pl else ρ i) m = ρ m := fun m hm => if_neg (by omega)
    simp only [List.length_append, List.length_set, List.length_cons, List.length_nil]
    rcases getElem?_snoc hx with hx | ⟨rfl, rfl⟩
    · have hil := idx_lt hx
      rw [List.length_set] at hil
      rw [if_neg (show ¬ i = σ.length by omega)]
      rcases getElem?_set' hx with ⟨rfl, rfl⟩ | ⟨_, hx⟩
      · refine ⟨fun hq => hold.1 hq, fun y hy => ?_⟩
        rcases List.mem_cons.1 hy with rfl | hy
        · refine ⟨g1, _, g3, ?_⟩
          by_cases hq : q = []
          · subst hq; exact .emptySlice _ _ _ _
          · rw [hpl hq]
            have := VQ.slice (q := false) (n := σ.length + (0 + 1)) (ρ := fun i => if i = σ.length then pl else ρ i) σ.length 0 q.length q.length cap g5 (by omega)
            simpa using this
        · obtain ⟨h1, v2, h2, h3⟩ := hold.2 y hy
          exact ⟨h1, v2, h2, h3.mono (by omega) hlt⟩
      · exact orel_mono (hs.obj i x hx) (by omega) hlt (fun _ h => h) (fun _ _ _ _ h => h) (fun _ _ _ h => h)
    · simp only [List.length_set, if_pos]
      intro hq
      obtain ⟨h1, h2⟩ := hro hq
      exact ⟨h1, fun m hm => ⟨_, h2 m hm, vrel_plainL q hp m hm⟩⟩
  · have hown : ∀ (m : Nat) (o : AObj), (σ.set j (.deep qs ((k, .slice (some ⟨σ.length, 0, none⟩) q.length q.length) :: sp)) ++ [.ro q])[m]? = some o → o.owned → σ[m]? = some o ∧ m < σ.length := by
      intro m o hm ho
      rcases getElem?_snoc hm with hm | ⟨_, rfl⟩
      · rcases getElem?_set' hm with ⟨_, rfl⟩ | ⟨_, hm⟩
        · exact ho.elim
        · exact ⟨hm, idx_lt hm⟩
      · exact ho.elim
    obtain ⟨h1, h2⟩ := hown i oi hi hoi
    obtain ⟨h3, h4⟩ := hown i' oi' hi' hoi'
    rw [if_neg (by omega), if_neg (by omega)] at hii
    exact hs.inj i i' oi oi' h1 h3 hoi hoi' hii
theorem osub_shut {σ : Heap} {n j : Nat} {π : Rho} {p : Pl} {o : AObj} {qs : List (List Value)} {sp : List (Nat × Value)} (hj : σ[j]? = some (.deep qs sp)) (h : OSub (σ.set j (.deep qs [])) n π p o) : OSub σ n π p o := by
  have g : ∀ (i : Nat) (x : AObj), (σ.set j (.deep qs []))[i]? = some x → (∀ q s, x ≠ .deep q s) → σ[i]? = some x := fun i x hx hne => by
    rcases getElem?_set' hx with ⟨_, rfl⟩ | ⟨_, hx⟩
    · exact absurd rfl (hne _ _)
    · exact hx
  have gd : ∀ (i : Nat) (q : List (List Value)) (s : List (Nat × Value)), (σ.set j (.deep qs []))[i]? = some (.deep q s) → ∃ s', σ[i]? = some (.deep q s') ∧ ∀ x ∈ s, x ∈ s' := fun i q s hx => by
    rcases getElem?_set' hx with ⟨rfl, he⟩ | ⟨_, hx⟩
    · cases he; exact ⟨sp, hj, fun x hx => by simp at hx⟩
    · exact ⟨s, hx, fun _ h => h⟩
  have n1 : ∀ {cs : List Value}, ∀ q s, AObj.ro cs ≠ .deep q s := fun q s h => by cases h
  cases o with
  | dead => trivial
  | ro cs => exact h.imp id fun ⟨c, h1, h2⟩ => ⟨c, g _ _ h1 (fun _ _ h => by cases h), h2⟩
  | rw cs => exact h.imp id fun ⟨h0, c, h1, h2⟩ => ⟨h0, c, h1.imp (fun h => g _ _ h (fun _ _ h => by cases h)) fun ⟨t, ht⟩ => ⟨t, g _ _ ht (fun _ _ h => by cases h)⟩, h2⟩
  | gr cs t => exact h.imp id fun ⟨h0, c, h1, h2⟩ => ⟨h0, c, g _ _ h1 (fun _ _ h => by cases h), h2⟩
  | dfr => exact g _ _ h (fun _ _ h => by cases h)
  | loop st pend N e params assign body => obtain ⟨e1, h1, h2⟩ := h; exact ⟨e1, g _ _ h1 (fun _ _ h => by cases h), h2⟩
  | map es => obtain ⟨es', h1, h2⟩ := h; exact ⟨es', g _ _ h1 (fun _ _ h => by cases h), h2⟩
  | iter m seen => exact ⟨h.1, g _ _ h.2.1 (fun _ _ h => by cases h), h.2.2⟩
  | deep q2 s2 =>
    obtain ⟨h0, h1, h2⟩ := h
    refine ⟨h0, h1.imp id fun ⟨s, h3⟩ => (gd _ _ _ h3).imp fun s' h4 => h4.1, fun x hx => ?_⟩
    obtain ⟨q3, s3, h3, v, h4, h5⟩ := h2 x hx
    obtain ⟨s', h6, h7⟩ := gd _ _ _ h3
    exact ⟨q3, s', h6, v, h7 _ h4, h5⟩
theorem href_shut {n0 j : Nat} {π : Rho} {σ σ2 : Heap} {qs : List (List Value)} {sp : List (Nat × Value)} (hj : σ[j]? = some (.deep qs sp)) (h : HRef n0 π (σ.set j (.deep qs [])) σ2) : HRef n0 π σ σ2 :=
  ⟨h.le, h.id, fun i o hi => osub_shut hj (h.obj i o hi), h.inj⟩
theorem StRef.dropD2 {n0 i j : Nat} {σ : Heap} {e e2 : Env} {qs qs2 : List (List Value)} {sp sp2 : List (Nat × Value)} (hi : σ[i]? = some (.deep qs sp)) (hj : (σ.set i (.deep qs []))[j]? = some (.deep qs2 sp2)) (σ0 : Heap) (hn0 : n0 ≤ σ0.length) (hσ : ((σ.set i (.deep qs [])).set j (.deep qs2 [])).take σ0.length = σ0) (hcl : HClosed σ0.length σ0) (he : EnvC σ0.length e e2) : StRef n0 σ σ0 e e2 := by
  have hr : ∀ e2 : Env, EnvC σ0.length e e2 → EnvRen (σ0.length + 0) (srcR σ0.length []) e e2 := by
    intro e2
    induction e2 with
    | nil => intro _; trivial
    | cons p r ih =>
      intro h
      exact ⟨er_closed h.1.1 (fun i hi => srcR_lt hi) (Nat.le_refl _) h.1.2.1 h.1.2.2, ih h.2⟩
  refine .inr fun _ => ⟨srcR σ0.length [], href_shut hi (href_shut hj ?_), by have := envRen_ref (hr e2 he); simpa using this⟩
  have := href_src (n0 := n0) (σ0 := σ0) (news := []) [] hn0 hσ hcl rfl rfl trivial
  simpa using this
section
variable {P : Program} {n0 N : Nat} {rd : Option Nat} {Q : Post} {e : Env} {mk : List Nat} {σ : Heap}
theorem W_open {c : Code} (j k : Nat) {qs : List (List Value)} {sp : List (Nat × Value)} {q : List Value} (hj : σ[j]? = some (.deep qs sp)) (hk : qs[k]? = some q) (hp : plainL q = true)
    (h : WCode P n0 N rd c Q e mk (σ.set j (.deep qs ((k, .slice (some ⟨σ.length, 0, none⟩) q.length q.length) :: sp)) ++ [.ro q])) : WCode P n0 N rd c Q e mk σ := by
  rintro G w0 ρ0 A w ⟨h0, ρ, hag, hs, her⟩
  obtain ⟨ρ', h1, h2⟩ := sim_open hs hj hk hp
  refine h G w0 ρ0 A w ⟨by simp; omega, ρ', fun i hi => (h1 i (by omega)).trans (hag i hi), h2, ?_⟩
  have := erel_mono (m := (σ.set j (.deep qs ((k, .slice (some ⟨σ.length, 0, none⟩) q.length q.length) :: sp)) ++ [AObj.ro q]).length) (ρ' := ρ') her (by simp) h1
  exact this
end
def ObjAt (σ : Heap) (p : Nat × Nat) : AObj → Prop
  | .ro cs => prtAt σ p cs ∧ plainL cs = true
  | .deep qs [] => p.1 < σ.length ∧ (qs = [] ∨ DeepIn σ ⟨p.1, p.2, 0⟩ qs)
  | _ => False
def ObjsAt (σ : Heap) : Heap → List (Nat × Nat) → Prop
  | [], [] => True
  | o :: os, b :: bs => ObjAt σ b o ∧ ObjsAt σ os bs
  | _, _ => False
theorem objsAt_get {σ : Heap} : ∀ {os : Heap} {bs : List (Nat × Nat)}, ObjsAt σ os bs → ∀ (k : Nat) (o : AObj), os[k]? = some o → ∃ b, bs[k]? = some b ∧ ObjAt σ b o
  | [], [], _, k, o, hk => by simp at hk
  | o0 :: os, b0 :: bs, h, k, o, hk => by
    cases k with
    | zero => simp at hk; subst hk; exact ⟨b0, rfl, h.1⟩
    | succ k => exact objsAt_get h.2 k o (by simpa using hk)
  | [], _ :: _, h, _, _, _ => h.elim
  | _ :: _, [], h, _, _, _ => h.elim
section
variable {P : Program} {σ : Heap} {f : FuncId}
theorem Ev.objsN {args1 args : List Value} {v1 v : Value} {news news' : Heap} (σ1 : Heap) (bs : List (Nat × Nat)) (h : Ev P f args1 σ1 v1 (σ1 ++ news)) (hb : ObjsAt σ σ1 bs) (ha : AS σ1.length (psR bs) args1 args)
    (hm : news.all isMem = true) (hv : ren (shf σ1.length σ.length (psR bs)) v1 = v) (hn : news.map (renO (shf σ1.length σ.length (psR bs))) = news') (hni : σ.all (fun o => !isIter o) = true) : Ev P f args σ v (σ ++ news') := by
  obtain ⟨h1, h2⟩ := as_get ha
  subst hv hn
  refine ACall.frame (π := psR bs) h (fun k o hk => ?_) (fun k hk => ?_) hni h1 (by simpa using h2) ?_
  · obtain ⟨b, g1, g2⟩ := objsAt_get hb k o hk
    unfold ObjAt at g2
    split at g2
    · rename_i cs
      refine .inl ⟨cs, rfl, .inr ⟨cs, ?_, fun j hj _ => vrel_plainL cs g2.2 j hj⟩⟩
      simp only [psR, g1]
      exact cellsAt_prt g2.1
    · rename_i qs
      refine .inr ⟨qs, rfl, ?_⟩
      simp only [psR, g1]
      exact g2.2
    · exact g2.elim
  · obtain ⟨b, g1, g2⟩ := objsAt_get hb k σ1[k] (by simp)
    simp only [psR, g1]
    unfold ObjAt at g2
    split at g2
    · obtain ⟨⟨all, g2, _⟩, _⟩ := g2
      rcases g2 with g2 | g2 | ⟨t, g2⟩ <;> exact idx_lt g2
    · exact g2.1
    · exact g2.elim
  · rintro v2 s1 ⟨rfl, rfl⟩
    exact ⟨news, rfl, hm, rfl, rfl⟩
theorem Ev.objs {args1 args : List Value} {v : Value} (σ1 : Heap) (bs : List (Nat × Nat)) (h : Ev P f args1 σ1 v σ1) (hb : ObjsAt σ σ1 bs) (ha : AS σ1.length (psR bs) args1 args) (hv : plain v = true) (hni : σ.all (fun o => !isIter o) = true) : Ev P f args σ v σ := by
  have := Ev.objsN (news := []) (news' := []) σ1 bs (by simpa using h) hb ha rfl (ren_plain v hv) rfl hni
  simpa using this
end
end Go.AH
namespace Go.AH.Hone
open Go Go.AH
def gq (qs : List (List Int)) (i : Nat) : List Int := qs.getD i []
def rowsQ (qs : List (List Int)) : List (List Value) := qs.map ints
theorem rowsQ_get {qs : List (List Int)} {i : Nat} (h : i < qs.length) : (rowsQ qs)[i]? = some (ints (gq qs i)) := by simp [rowsQ, gq, h]
theorem rowsQ_len (qs : List (List Int)) : (rowsQ qs).length = qs.length := by simp [rowsQ]
theorem hc_deep2 (Q R : List (List Value)) : HClosed 2 [.deep Q [], .deep R []] := ⟨fun x hx => by simp at hx, fun x hx => by simp at hx, trivial⟩
def longP (qs : List (List Int)) : Prop := (qs.length > 60 ∧ qs.length ≤ 800) ∨ qs.length > 810 ∨ ∃ i < qs.length, (gq qs i).length > 10
end Go.AH.Hone
namespace Go.Proofs.Ytindbippegiopaa
open Go Go.AH
attribute [local irreducible] WOps WCode WFree retQ thenQ blockQ scopeQ OpOk ACall RetRef roundA roundB
set_option maxRecDepth 100000
set_option maxHeartbeats 1000000
open Go.AH.Hone
theorem lists_ok (qs : List (List Int)) (c c2 : Nat) (hN : qs.length ≤ 200000) (hq : ∀ i < qs.length, (gq qs i).length ≤ 200000) : Ev Try.prog 27 [.slice (some ⟨0, 0, none⟩) qs.length c, .slice (some ⟨1, 0, none⟩) qs.length c2] [.deep (rowsQ qs) [], .deep (rowsQ qs) []] (.bool true) [.deep (rowsQ qs) [], .deep (rowsQ qs) []] := by
  refine acall_intro 2 27 Try.func27 rfl rfl rfl rfl rfl ?_
  repeat' (first | (refine gU ?_; first | (refine gMove ?_; refine st (ok_move rfl) rfl rfl ?_) | (refine gAssign ?_; refine st (ok_assign rfl) rfl rfl ?_) | (refine gBin ?_; refine st (ok_bin rfl rfl rfl) rfl rfl ?_) | (refine gLen ?_; refine st (ok_len rfl) rfl rfl ?_)) | refine W_seq ?_ | refine W_region ?_ | refine st_nil ?_ | refine tq_n ?_ | refine W_skip ?_ | refine W_block ?_ | refine W_condFA rfl ?_)
  refine W_loopS (ι := Nat) (fun i => [(0, .slice (some ⟨0, 0, none⟩) qs.length c), (1, .slice (some ⟨1, 0, none⟩) qs.length c2), (5, .int .i64 (i : Int))]) (fun _ => [.deep (rowsQ qs) [], .deep (rowsQ qs) []]) (fun i => qs.length - i) (fun i => i ≤ qs.length) 0 (by simp) (.same ⟨rfl, rfl, rfl, trivial⟩) (by omega) ?_
  rintro i hi
  by_cases hil : i < qs.length
  · refine W_open 0 i rfl (rowsQ_get hil) (ints_plain _) ?_
    refine W_open 1 i rfl (rowsQ_get hil) (ints_plain _) ?_
    rw [ints_length]
    have hql := hq i hil
    generalize gq qs i = q at *
    have hc1 : cellGet [.deep (rowsQ qs) [(i, .slice (some ⟨2, 0, none⟩) q.length q.length)], .deep (rowsQ qs) [(i, .slice (some ⟨3, 0, none⟩) q.length q.length)], .ro (ints q), .ro (ints q)] 0 i = some (.slice (some ⟨2, 0, none⟩) q.length q.length) := by simp [cellGet, spGet]
    have hc2 : cellGet [.deep (rowsQ qs) [(i, .slice (some ⟨2, 0, none⟩) q.length q.length)], .deep (rowsQ qs) [(i, .slice (some ⟨3, 0, none⟩) q.length q.length)], .ro (ints q), .ro (ints q)] 1 i = some (.slice (some ⟨3, 0, none⟩) q.length q.length) := by simp [cellGet, spGet]
    have hi := ints_ev (σ := [.deep (rowsQ qs) [(i, .slice (some ⟨2, 0, none⟩) q.length q.length)], .deep (rowsQ qs) [(i, .slice (some ⟨3, 0, none⟩) q.length q.length)], .ro (ints q), .ro (ints q)]) (q := q) (n := q.length) (x := 2) (y := 3) (c := q.length) (c2 := q.length) rfl (.inl rfl) (.inl rfl) hql rfl
    repeat' (first | (refine gU ?_; first | (refine gMove ?_; refine st (ok_move rfl) rfl rfl ?_) | (refine gAssign ?_; refine st (ok_assign rfl) rfl rfl ?_) | (refine gAdd ?_; refine st (ok_inc rfl rfl (by omega)) rfl rfl ?_) | (refine gBin ?_; refine st (ok_bin rfl rfl rfl) rfl rfl ?_) | (refine gLen ?_; refine st (ok_len rfl) rfl rfl ?_)) | (refine fU ?_; first | (refine fMove ?_; refine frA (ok_move rfl) rfl ?_) | (refine fLoad ?_; refine frA (ok_load rfl (by first | exact hc1 | exact hc2)) rfl ?_) | (refine fNot ?_; refine frA (ok_not' rfl) rfl ?_) | (refine fIA ?_; refine frA (ok_idxN rfl rfl (by omega)) rfl ?_) | (refine fCall ?_; refine frA (ok_call rfl rfl rfl (by exact hi)) rfl ?_)) | (refine fr_stop ⟨by kernel_rfl, ?_⟩) | refine W_seq ?_ | refine W_region ?_ | refine W_regionD (by kernel_rfl) rfl ?_ | refine st_nil ?_ | refine tq_n ?_ | refine bq_n ?_ | refine W_skip ?_ | refine W_block ?_ | refine W_condTA rfl ?_ | refine W_condFA rfl ?_)
    exact ⟨rfl, i + 1, by omega, by omega, .dropD2 (i := 0) (j := 1) rfl rfl [.deep (rowsQ qs) [], .deep (rowsQ qs) []] (by simp) rfl (hc_deep2 _ _) (by (repeat' (first | exact trivial | exact ⟨rfl, rfl, rfl⟩ | exact ⟨rfl, closed_slice rfl, rfl⟩ | refine ⟨?_, ?_⟩)))⟩
  · obtain rfl : i = qs.length := by omega
    repeat' (first | (refine gU ?_; first | (refine gMove ?_; refine st (ok_move rfl) rfl rfl ?_) | (refine gAssign ?_; refine st (ok_assign rfl) rfl rfl ?_) | (refine gBin ?_; refine st (ok_bin rfl rfl rfl) rfl rfl ?_) | (refine gLen ?_; refine st (ok_len rfl) rfl rfl ?_)) | refine W_seq ?_ | refine W_region ?_ | refine st_nil ?_ | refine tq_n ?_ | refine tq_e ?_ | refine bq_hit rfl ?_ | refine W_exit ?_ | refine W_ret ?_ | refine W_condFA rfl ?_)
    exact ret0 (.tmp rfl .nil) (.plain rfl rfl) ⟨rfl, rfl⟩
theorem lists_ev {σ : Heap} {qs : List (List Int)} {n x y c c2 : Nat} (hn : qs.length = n) (hx : ObjAt σ (x, 0) (.deep (rowsQ qs) [])) (hy : ObjAt σ (y, 0) (.deep (rowsQ qs) [])) (hN : n ≤ 200000) (hq : ∀ i < n, (gq qs i).length ≤ 200000) (hni : σ.all (fun o => !isIter o) = true) :
    Ev Try.prog 27 [.slice (some ⟨x, 0, none⟩) n c, .slice (some ⟨y, 0, none⟩) n c2] σ (.bool true) σ := by
  subst hn
  exact Ev.objs [.deep (rowsQ qs) [], .deep (rowsQ qs) []] [(x, 0), (y, 0)] (lists_ok qs c c2 hN hq) ⟨hx, hy, trivial⟩
    ⟨by simpa [psR] using VQ.slice (q := true) (n := 2) (ρ := psR [(x, 0), (y, 0)]) 0 0 qs.length c c (Nat.le_refl _) (by omega), by simpa [psR] using VQ.slice (q := true) (n := 2) (ρ := psR [(x, 0), (y, 0)]) 1 0 qs.length c2 c2 (Nat.le_refl _) (by omega), trivial⟩ rfl hni
end Go.Proofs.Ytindbippegiopaa
namespace Go.AH
open Go
end Go.AH
namespace Go.AH.Hone
open Go Go.AH
def badQ (l : List Sn) (e goal : Ed) (qs : List (List Int)) (n : Nat) : Prop := (n = 0 ∧ ¬ coversP goal (gi (gq qs 0))) ∨ (0 < n ∧ ¬ lvP l (gi (gq qs n)) (gi (gq qs (n - 1)))) ∨ inR (gi (gq qs n)) e
def rowsF (qs : List (List Int)) : Nat → List Value
  | 0 => []
  | i + 1 => rowsF qs i ++ ints (gq qs i)
end Go.AH.Hone
namespace Go.Proofs.Ytindbippegiopaa
open Go Go.AH
attribute [local irreducible] WOps WCode WFree retQ thenQ blockQ scopeQ OpOk ACall RetRef roundA roundB
set_option maxRecDepth 100000
set_option maxHeartbeats 1000000
open Go.AH.Hone
open Classical in
noncomputable def chkE (l : List Sn) (e goal : Ed) (qs : List (List Int)) : Int :=
  if askE l e goal ≠ 0 then askE l e goal else if qs.length > 800 then 6 else if ∃ i < qs.length, ¬ isRowP (gq qs i) then 3 else if ∃ n < qs.length, badQ l e goal qs n then 14 else 0
end Go.Proofs.Ytindbippegiopaa
namespace Go.Proofs.Ytindbippegiopaa
open Go Go.AH
attribute [local irreducible] WOps WCode WFree retQ thenQ blockQ scopeQ OpOk ACall RetRef roundA roundB
set_option maxRecDepth 100000
set_option maxHeartbeats 1000000
open Go.AH.Hone
end Go.Proofs.Ytindbippegiopaa
namespace Go.AH
open Go
def rowsO (R : Nat → List Int) : Nat → Heap
  | 0 => []
  | k + 1 => rowsO R k ++ [.rw (ints (R k))]
theorem rowsO_len (R : Nat → List Int) : ∀ k, (rowsO R k).length = k
  | 0 => rfl
  | k + 1 => by rw [rowsO, List.length_append, rowsO_len R k]; rfl
theorem rowsO_get {R : Nat → List Int} : ∀ {k j : Nat}, j < k → (rowsO R k)[j]? = some (.rw (ints (R j)))
  | 0, j, h => by omega
  | k + 1, j, h => by
    have hl := rowsO_len R k
    rw [rowsO]
    by_cases hj : j < k
    · rw [List.getElem?_append_left (by omega)]; exact rowsO_get hj
    · obtain rfl : j = k := by omega
      rw [List.getElem?_append_right (by omega), hl, Nat.sub_self]; rfl
theorem rowsO_none {R : Nat → List Int} {k j : Nat} (h : k ≤ j) : (rowsO R k)[j]? = none := List.getElem?_eq_none (by rw [rowsO_len]; exact h)
def slC (b w : Nat) : Nat → List Value
  | 0 => []
  | k + 1 => slC b w k ++ [.slice (some ⟨b + k, 0, none⟩) w w]
theorem slC_len (b w : Nat) : ∀ k, (slC b w k).length = k
  | 0 => rfl
  | k + 1 => by rw [slC, List.length_append, slC_len b w k]; rfl
theorem slC_get {b w : Nat} : ∀ {k j : Nat}, j < k → (slC b w k)[j]? = some (.slice (some ⟨b + j, 0, none⟩) w w)
  | 0, j, h => by omega
  | k + 1, j, h => by
    have hl := slC_len b w k
    rw [slC]
    by_cases hj : j < k
    · rw [List.getElem?_append_left (by omega)]; exact slC_get hj
    · obtain rfl : j = k := by omega
      rw [List.getElem?_append_right (by omega), hl, Nat.sub_self]; rfl
theorem slC_get' {b w k j : Nat} (h : j < (slC b w k).length) : (slC b w k)[j] = .slice (some ⟨b + j, 0, none⟩) w w := by
  have hl := slC_len b w k
  have := slC_get (b := b) (w := w) (k := k) (j := j) (by omega)
  rw [List.getElem?_eq_getElem h] at this
  exact Option.some.inj this
theorem get_last {σ : Heap} {o : AObj} : (σ ++ [o])[σ.length]? = some o := by simp
theorem put_last {σ : Heap} {cs vs : List Value} (h : vs.length ≤ cs.length) (h0 : 0 < cs.length) : putCells (σ ++ [.rw cs]) σ.length 0 vs = some (σ ++ [.rw (splice cs 0 vs)]) := by
  unfold putCells
  rw [get_last]
  simp only [Nat.zero_add]
  rw [show Nat.ble vs.length cs.length = true from Nat.ble_eq_true_of_le h, show Nat.blt 0 cs.length = true from Nat.blt_eq.mpr h0]
  simp
theorem cells_last {σ : Heap} {cs : List Value} {n : Nat} (h : cs.length = n) : cellsAt (σ ++ [.rw cs]) σ.length 0 n = some cs := by
  unfold cellsAt
  rw [get_last]
  simp only [Nat.zero_add, ← h, List.drop_zero, List.take_length, show Nat.ble cs.length cs.length = true from Nat.ble_eq_true_of_le (Nat.le_refl _), cond_true]
theorem arr_last {σ : Heap} {cs : List Value} : arrAt (σ ++ [.rw cs]) σ.length cs := .inr (.inl get_last)
def rowPi (m k g x : Nat) : Rho := fun i => if i < m then ⟨i, 0, 0⟩ else if i = m then ⟨g, 0, 0⟩ else if i = m + 1 + k then ⟨x, 0, 0⟩ else ⟨i, 0, 0⟩
theorem rowPi_lt {m k g x i : Nat} (h : i < m) : rowPi m k g x i = ⟨i, 0, 0⟩ := by simp [rowPi, h]
theorem rowPi_m {m k g x : Nat} : rowPi m k g x m = ⟨g, 0, 0⟩ := by simp [rowPi]
theorem rowPi_mid {m k g x j : Nat} (h : j < k) : rowPi m k g x (m + 1 + j) = ⟨m + 1 + j, 0, 0⟩ := by
  unfold rowPi; rw [if_neg (by omega), if_neg (by omega), if_neg (by omega)]
theorem rowPi_k {m k g x : Nat} : rowPi m k g x (m + 1 + k) = ⟨x, 0, 0⟩ := by
  unfold rowPi; rw [if_neg (by omega), if_neg (by omega), if_pos rfl]
theorem StRef.row {n0 m k g x w : Nat} {H K : Heap} {t : TypeId} {R : Nat → List Int} {e e2 : Env} (hm : K.length = m) (hn0 : n0 ≤ m) (hK : H.take m = K) (hcl : HClosed m K) (hg : H[g]? = some (.gr (slC (m + 1) w k ++ [.slice (some ⟨x, 0, none⟩) w w]) t)) (hrow : ∀ j < k, H[m + 1 + j]? = some (.rw (ints (R j))))
    (hx : H[x]? = some (.rw (ints (R k)))) (hxg : m + 1 + k ≤ x ∧ m + 1 + k ≤ g ∧ x ≠ g) (he : EnvRen (m + 1 + (k + 1)) (rowPi m k g x) e e2) : StRef n0 H (K ++ [.gr (slC (m + 1) w (k + 1)) t] ++ rowsO R (k + 1)) e e2 := by
  refine .inr fun _ => ⟨rowPi m k g x, ?_, ?_⟩
  · have hlen : (K ++ [AObj.gr (slC (m + 1) w (k + 1)) t] ++ rowsO R (k + 1)).length = m + 1 + (k + 1) := by simp [rowsO_len, hm]; omega
    have get : ∀ (i : Nat) (o : AObj), (K ++ [AObj.gr (slC (m + 1) w (k + 1)) t] ++ rowsO R (k + 1))[i]? = some o → (i < m ∧ K[i]? = some o) ∨ (i = m ∧ o = .gr (slC (m + 1) w (k + 1)) t) ∨ ∃ j, j < k + 1 ∧ i = m + 1 + j ∧ o = .rw (ints (R j)) := by
      intro i o hi
      by_cases h1 : i < m
      · rw [List.getElem?_append_left (by simp; omega), List.getElem?_append_left (by omega)] at hi; exact .inl ⟨h1, hi⟩
      · by_cases h2 : i = m
        · subst h2
          rw [List.getElem?_append_left (by simp; omega), List.getElem?_append_right (by omega), hm, Nat.sub_self] at hi
          simp only [List.getElem?_cons_zero, Option.some.injEq] at hi
          exact .inr (.inl ⟨rfl, hi.symm⟩)
        · rw [List.getElem?_append_right (by simp; omega)] at hi
          simp only [List.length_append, List.length_cons, List.length_nil, hm] at hi
          by_cases h3 : i - (m + (0 + 1)) < k + 1
          · rw [rowsO_get h3] at hi
            cases hi
            exact .inr (.inr ⟨i - (m + (0 + 1)), h3, by omega, rfl⟩)
          · rw [rowsO_none (by omega)] at hi; cases hi
    refine ⟨by rw [hlen]; omega, fun i hi => rowPi_lt (by omega), fun i o hi => ?_, fun i j oi oj hi hj _ _ hij => ?_⟩
    · rw [hlen]
      rcases get i o hi with ⟨h1, h2⟩ | ⟨rfl, rfl⟩ | ⟨j, h1, rfl, rfl⟩
      · exact osub_refl (fun i hi => rowPi_lt hi) (by omega) h1 (by
          have h3 := h2
          rw [← hK, List.getElem?_take, if_pos h1] at h3; exact h3) (hclosed_get hcl i o h2)
      · refine .inr ⟨by rw [rowPi_m], _, by rw [rowPi_m]; exact hg, by simp [slC], fun a ha ha' => ?_⟩
        rw [slC_get' ha]
        have hal : a < k + 1 := by rw [slC_len] at ha; exact ha
        have hsl := slC_len (i + 1) w k
        by_cases hak : a < k
        · rw [List.getElem_append_left (by omega), slC_get' (by omega)]
          have := VQ.slice (q := true) (n := i + 1 + (k + 1)) (ρ := rowPi i k g x) (i + 1 + a) 0 w w w (Nat.le_refl _) (by omega)
          rw [rowPi_mid hak] at this
          simpa using this
        · obtain rfl : a = k := by omega
          rw [List.getElem_append_right (by omega)]
          have := VQ.slice (q := true) (n := i + 1 + (a + 1)) (ρ := rowPi i a g x) (i + 1 + a) 0 w w w (Nat.le_refl _) (by omega)
          rw [rowPi_k] at this
          simpa [hsl] using this
      · by_cases hjk : j < k
        · rw [rowPi_mid hjk]
          exact .inr ⟨rfl, _, .inl (hrow j hjk), Nat.le_refl _, fun a ha _ => vrel_plainL _ (ints_plain (R j)) a ha⟩
        · obtain rfl : j = k := by omega
          rw [rowPi_k]
          exact .inr ⟨rfl, _, .inl hx, Nat.le_refl _, fun a ha _ => vrel_plainL _ (ints_plain (R j)) a ha⟩
    · have pl : ∀ (i : Nat) (o : AObj), (K ++ [AObj.gr (slC (m + 1) w (k + 1)) t] ++ rowsO R (k + 1))[i]? = some o → (i < m ∧ (rowPi m k g x i).b = i) ∨ (i = m ∧ (rowPi m k g x i).b = g) ∨ (m < i ∧ i < m + 1 + k ∧ (rowPi m k g x i).b = i) ∨ (i = m + 1 + k ∧ (rowPi m k g x i).b = x) := by
        intro i o hi
        rcases get i o hi with ⟨h1, _⟩ | ⟨rfl, _⟩ | ⟨j, h1, rfl, _⟩
        · exact .inl ⟨h1, by rw [rowPi_lt h1]⟩
        · exact .inr (.inl ⟨rfl, by rw [rowPi_m]⟩)
        · by_cases hjk : j < k
          · exact .inr (.inr (.inl ⟨by omega, by omega, by rw [rowPi_mid hjk]⟩))
          · obtain rfl : j = k := by omega
            exact .inr (.inr (.inr ⟨rfl, by rw [rowPi_k]⟩))
      have h1 := pl i oi hi
      have h2 := pl j oj hj
      omega
  · rw [show (K ++ [AObj.gr (slC (m + 1) w (k + 1)) t] ++ rowsO R (k + 1)).length = m + 1 + (k + 1) by simp [rowsO_len, hm]; omega]
    exact envRen_ref he
def retPi (a m : Nat) : Rho := fun i => if i < a then ⟨i, 0, 0⟩ else ⟨m + (i - a), 0, 0⟩
theorem RetRef.rows {m n w : Nat} {σin K : Heap} {t : TypeId} {R : Nat → List Int} {f : Value} (hm : K.length = m) (hin : K.take σin.length = σin) (hle : σin.length ≤ m) (hf : AH.plain f = true) :
    RetRef σin (K ++ [.gr (slC (m + 1) w n) t] ++ rowsO R n) (.tuple #[slvV m 1 n, f]) (.tuple #[.slice (some ⟨σin.length, 0, none⟩) n n, f]) (σin ++ ([.rw (slC (σin.length + 1) w n)] ++ rowsO R n)) := by
  refine .inr fun hcl => ⟨retPi σin.length m, ?_, ?_⟩
  · have hlt : ∀ i < σin.length, retPi σin.length m i = ⟨i, 0, 0⟩ := fun i hi => if_pos hi
    have hge : ∀ j, retPi σin.length m (σin.length + j) = ⟨m + j, 0, 0⟩ := fun j => by
      unfold retPi; rw [if_neg (by omega), show σin.length + j - σin.length = j by omega]
    have hlen : (σin ++ ([AObj.rw (slC (σin.length + 1) w n)] ++ rowsO R n)).length = σin.length + 1 + n := by simp [rowsO_len]; omega
    have get : ∀ (i : Nat) (o : AObj), (σin ++ ([AObj.rw (slC (σin.length + 1) w n)] ++ rowsO R n))[i]? = some o → (i < σin.length ∧ σin[i]? = some o) ∨ (i = σin.length + 0 ∧ o = .rw (slC (σin.length + 1) w n)) ∨ ∃ j, j < n ∧ i = σin.length + (1 + j) ∧ o = .rw (ints (R j)) := by
      intro i o hi
      by_cases h1 : i < σin.length
      · rw [List.getElem?_append_left h1] at hi; exact .inl ⟨h1, hi⟩
      · rw [List.getElem?_append_right (by omega)] at hi
        by_cases h2 : i = σin.length
        · subst h2
          rw [Nat.sub_self] at hi
          simp only [List.cons_append, List.nil_append, List.getElem?_cons_zero, Option.some.injEq] at hi
          exact .inr (.inl ⟨rfl, hi.symm⟩)
        · rw [List.getElem?_append_right (by simp; omega)] at hi
          simp only [List.length_cons, List.length_nil] at hi
          by_cases h3 : i - σin.length - (0 + 1) < n
          · rw [rowsO_get h3] at hi
            cases hi
            exact .inr (.inr ⟨i - σin.length - (0 + 1), h3, by omega, rfl⟩)
          · rw [rowsO_none (by omega)] at hi; cases hi
    have atK : ∀ i, i < m → (K ++ [AObj.gr (slC (m + 1) w n) t] ++ rowsO R n)[i]? = K[i]? := fun i hi => by
      rw [List.getElem?_append_left (by simp; omega), List.getElem?_append_left (by omega)]
    have atM : (K ++ [AObj.gr (slC (m + 1) w n) t] ++ rowsO R n)[m + 0]? = some (.gr (slC (m + 1) w n) t) := by
      rw [List.getElem?_append_left (by simp; omega), List.getElem?_append_right (by omega), hm]; simp
    have atR : ∀ j < n, (K ++ [AObj.gr (slC (m + 1) w n) t] ++ rowsO R n)[m + (1 + j)]? = some (.rw (ints (R j))) := fun j hj => by
      rw [List.getElem?_append_right (by simp; omega)]
      simp only [List.length_append, List.length_cons, List.length_nil, hm]
      rw [show m + (1 + j) - (m + (0 + 1)) = j by omega]
      exact rowsO_get hj
    refine ⟨by rw [hlen]; omega, hlt, fun i o hi => ?_, fun i j oi oj hi hj _ _ hij => ?_⟩
    · rw [hlen]
      rcases get i o hi with ⟨h1, h2⟩ | ⟨rfl, rfl⟩ | ⟨j, h1, rfl, rfl⟩
      · refine osub_refl hlt (by omega) h1 ?_ (hcl i o h2)
        rw [atK i (by omega)]
        have h3 := h2
        rw [← hin, List.getElem?_take, if_pos h1] at h3; exact h3
      · rw [hge]
        refine .inr ⟨rfl, _, .inr ⟨t, atM⟩, by simp [slC_len], fun a ha ha' => ?_⟩
        rw [slC_get' ha, slC_get' ha']
        have := VQ.slice (q := true) (n := σin.length + 1 + n) (ρ := retPi σin.length m) (σin.length + 1 + a) 0 w w w (Nat.le_refl _) (by rw [slC_len] at ha; omega)
        rw [show σin.length + 1 + a = σin.length + (1 + a) by omega, hge] at this
        simpa [Nat.add_assoc] using this
      · rw [hge]
        exact .inr ⟨rfl, _, .inl (atR j h1), Nat.le_refl _, fun a ha _ => vrel_plainL _ (ints_plain (R j)) a ha⟩
    · have pl : ∀ (i : Nat) (o : AObj), (σin ++ ([AObj.rw (slC (σin.length + 1) w n)] ++ rowsO R n))[i]? = some o → (i < σin.length ∧ (retPi σin.length m i).b = i) ∨ (σin.length ≤ i ∧ (retPi σin.length m i).b = m + (i - σin.length)) := by
        intro i o _
        by_cases h1 : i < σin.length
        · exact .inl ⟨h1, by rw [hlt i h1]⟩
        · refine .inr ⟨by omega, ?_⟩
          unfold retPi; rw [if_neg h1]
      have h1 := pl i oi hi
      have h2 := pl j oj hj
      omega
  · have hlen : (σin ++ ([AObj.rw (slC (σin.length + 1) w n)] ++ rowsO R n)).length = σin.length + 1 + n := by simp [rowsO_len]; omega
    rw [hlen]
    refine .tuple _ _ rfl fun i hi _ => ?_
    match i, hi with
    | 0, _ =>
      show VSub _ _ (.slice (some ⟨σin.length, 0, none⟩) n n) (slvV m 1 n)
      cases n with
      | zero => exact .emptySlice _ _ _ _
      | succ n =>
        have := VQ.sliceG (q := true) (n := σin.length + 1 + (n + 1)) (ρ := retPi σin.length m) σin.length 0 (n + 1) (n + 1) (n + 1) 1 (Nat.le_refl _) (by omega) rfl
        have e0 : retPi σin.length m σin.length = ⟨m, 0, 0⟩ := by unfold retPi; rw [if_neg (by omega), Nat.sub_self]; rfl
        rw [e0] at this
        simpa [slvV] using this
    | 1, _ => exact vrel_plain _ hf
end Go.AH
namespace Go.AH.Hone
open Go Go.AH
theorem put_row {σ : Heap} {cs : List Value} {f : Nat → Int} (h : cs.length = 7) : putCells (σ ++ [.rw cs]) σ.length 0 (rowC f) = some (σ ++ [.rw (rowC f)]) := by
  rw [put_last (by rw [h]; exact Nat.le_refl 7) (by omega)]
  simp [splice, rowC, h]
theorem len1 {σ : Heap} {o : AObj} : (σ ++ [o]).length = σ.length + 1 := by simp
theorem round_at {σ : Heap} {A B C o : AObj} {g i : Nat} (hi : i < σ.length) (hg : i ≠ g) : ((σ ++ [A] ++ [B] ++ [C]).set g .dead ++ [o])[i]? = σ[i]? := by
  rw [List.getElem?_append_left (by simp; omega), List.getElem?_set_ne (by omega), List.append_assoc, List.append_assoc, List.getElem?_append_left hi]
theorem round_new {σ : Heap} {A B C o : AObj} {g : Nat} (hg : g < σ.length) : ((σ ++ [A] ++ [B] ++ [C]).set g .dead ++ [o])[σ.length + 1]? = some B := by
  rw [List.getElem?_append_left (by simp), List.getElem?_set_ne (by omega), List.append_assoc, List.append_assoc, List.getElem?_append_right (by omega)]
  simp
theorem set_last {σ : Heap} {A o : AObj} {i n : Nat} (h : σ.length = n) : (σ.set i A ++ [o])[n]? = some o := by
  subst h
  have := get_last (σ := σ.set i A) (o := o)
  rwa [List.length_set] at this
theorem rowsO_ni (R : Nat → List Int) : ∀ k, (rowsO R k).all (fun o => !isIter o) = true
  | 0 => rfl
  | k + 1 => by rw [rowsO, List.all_append, rowsO_ni R k]; rfl
end Go.AH.Hone
namespace Go.Proofs.Ytindbippegiopaa
open Go Go.AH
attribute [local irreducible] WOps WCode WFree retQ thenQ blockQ scopeQ OpOk ACall RetRef roundA roundB
set_option maxRecDepth 100000
set_option maxHeartbeats 1000000
open Go.AH.Hone
theorem hc_rows (l : List Sn) (e goal : Ed) (c : Nat) : HClosed 5 [.ro (stonesC l), .rw e.cells, .rw goal.cells, .rw (benchC goal (.slice (some ⟨0, 0, none⟩) l.length c) (.slice (some ⟨4, 0, none⟩) (lastN l goal + 1) (lastN l goal + 1))), .rw (rowsC l goal (lastN l goal + 1))] := by
  have h := slice_closed (n := 5) (i := 0) (l := l.length) (c := c) (by omega)
  have h' := slice_closed (n := 5) (i := 4) (l := lastN l goal + 1) (c := lastN l goal + 1) (by omega)
  exact ⟨plainL_closed (stonesC_plain l), plainL_closed rfl, plainL_closed rfl, ⟨by simp [benchC, closedL, closed, h.1, h'.1], by simp [benchC, okL, okV, h.2, h'.2]⟩, plainL_closed (rowsC_plain _ _ _), trivial⟩
theorem rows_bad (l : List Sn) (e goal : Ed) (c : Nat) (hN : l.length ≤ 1000000) (h : bestE l e goal ≠ 0) :
    Ev Try.prog 25 [.slice (some ⟨0, 0, none⟩) l.length c, e.val, goal.val] [.ro (stonesC l)] (.tuple #[.slice (some ⟨1, 0, none⟩) 0 0, .int .i64 (bestE l e goal)]) [.ro (stonesC l), .rw []] := by
  unfold bestE at h ⊢
  by_cases ha : askE l e goal = 0
  · rw [if_neg (by omega)] at h ⊢
    have hn : needsV l goal e < 0 := by
      apply Classical.byContradiction; intro hn
      rw [if_neg hn] at h; exact h rfl
    rw [if_pos hn]
    obtain ⟨g1, g2, g3⟩ := askE_zero ha
    obtain ⟨_, _, hl⟩ := boxE_zero g1
    have hopen := open_evOk (σ := [.ro (stonesC l), .rw e.cells, .rw goal.cells]) (l := l) (e := e) (goal := goal) (x := 0) (c := c) (.inl rfl) ha hN rfl
    have hneeds := needs_ev (σ := [.ro (stonesC l), .rw e.cells, .rw goal.cells, .rw (benchC goal (.slice (some ⟨0, 0, none⟩) l.length c) (.slice (some ⟨4, 0, none⟩) (lastN l goal + 1) (lastN l goal + 1))), .rw (rowsC l goal (lastN l goal + 1))]) (l := l) (e := e) (goal := goal) (p := 3) (x := 0) (y := 4) (c := c) ⟨.inr (.inl rfl), .inl rfl, .inr (.inl rfl)⟩ g2 g3 hl rfl
    refine acall_intro 1 47 Try.func25 rfl rfl rfl rfl rfl ?_
    repeat' (first | (refine gU ?_; first | (refine gMove ?_; refine st (ok_move rfl) rfl rfl ?_) | (refine gAssign ?_; refine st (ok_assign rfl) rfl rfl ?_) | (refine gLoad ?_; refine st (ok_loadA rfl (by rfl)) rfl rfl ?_) | (refine gBin ?_; refine st (ok_bin rfl rfl rfl) rfl rfl ?_) | (refine gExtract ?_; refine st (ok_extract rfl rfl) rfl rfl ?_) | (refine gCall ?_; refine st (ok_call rfl rfl rfl (by first | exact hopen | exact hneeds)) rfl rfl ?_) | (refine gBox ?_; refine st (ok_box rfl) rfl rfl ?_)) | refine W_seq ?_ | refine W_region ?_ | refine st_nil ?_ | refine tq_n ?_ | refine tq_r ?_ | refine W_skip ?_ | refine W_ret ?_ | refine W_condTA rfl ?_ | refine W_condFA rfl ?_)
    exact ret0 (.tmp rfl (.tmp rfl .nil)) (retNil rfl rfl) ⟨rfl, rfl⟩
  · rw [if_pos ha]
    have hopen := open_evBad (σ := [.ro (stonesC l), .rw e.cells, .rw goal.cells]) (l := l) (e := e) (goal := goal) (x := 0) (c := c) (.inl rfl) ha hN rfl
    refine acall_intro 1 47 Try.func25 rfl rfl rfl rfl rfl ?_
    repeat' (first | (refine gU ?_; first | (refine gMove ?_; refine st (ok_move rfl) rfl rfl ?_) | (refine gAssign ?_; refine st (ok_assign rfl) rfl rfl ?_) | (refine gLoad ?_; refine st (ok_loadA rfl (by rfl)) rfl rfl ?_) | (refine gBin ?_; refine st (ok_bin rfl rfl rfl) rfl rfl ?_) | (refine gExtract ?_; refine st (ok_extract rfl rfl) rfl rfl ?_) | (refine gCall ?_; refine st (ok_call rfl rfl rfl (by exact hopen)) rfl rfl ?_) | (refine gBox ?_; refine st (ok_box rfl) rfl rfl ?_)) | refine W_seq ?_ | refine W_region ?_ | refine st_nil ?_ | refine tq_n ?_ | refine tq_r ?_ | refine W_ret ?_ | refine W_condTA rfl ?_)
    exact ret0 (.tmp rfl (.tmp rfl .nil)) (retNil rfl rfl) ⟨rfl, rfl⟩
theorem rows_run (l : List Sn) (e goal : Ed) (c n : Nat) (hL : l.length ≤ 1000000) (ha : askE l e goal = 0) (hN : needsV l goal e = (n : Int)) :
    Ev Try.prog 25 [.slice (some ⟨0, 0, none⟩) l.length c, e.val, goal.val] [.ro (stonesC l)] (.tuple #[.slice (some ⟨1, 0, none⟩) n n, .int .i64 0]) ([.ro (stonesC l)] ++ ([.rw (slC 2 7 n)] ++ rowsO (fun j => rowL (rowN l goal j)) n)) := by
  obtain ⟨g1, g2, g3⟩ := askE_zero ha
  obtain ⟨_, _, hl⟩ := boxE_zero g1
  have hN707 := needs_le (l := l) (goal := goal) (e := e) g3
  have hlast := (lastN_is (l := l) g3).2.1
  have hopen := open_evOk (σ := [.ro (stonesC l), .rw e.cells, .rw goal.cells]) (l := l) (e := e) (goal := goal) (x := 0) (c := c) (.inl rfl) ha hL rfl
  have hneeds := needs_ev (σ := [.ro (stonesC l), .rw e.cells, .rw goal.cells, .rw (benchC goal (.slice (some ⟨0, 0, none⟩) l.length c) (.slice (some ⟨4, 0, none⟩) (lastN l goal + 1) (lastN l goal + 1))), .rw (rowsC l goal (lastN l goal + 1))]) (l := l) (e := e) (goal := goal) (p := 3) (x := 0) (y := 4) (c := c) ⟨.inr (.inl rfl), .inl rfl, .inr (.inl rfl)⟩ g2 g3 hl rfl
  rw [hN] at hneeds
  have hnl : n ≤ lastN l goal + 1 := by
    have hr := needsK_is (l := l) (goal := goal) (e := e) (lastN l goal + 1)
    unfold needsV at hN
    rcases hr with ⟨h, _⟩ | ⟨m, hm, h, _⟩ <;> omega
  refine acall_intro 1 47 Try.func25 rfl rfl rfl rfl rfl ?_
  repeat' (first | (refine gU ?_; first | refine st (ok_sliceH rfl rfl hnl) rfl rfl ?_ | (refine gMove ?_; refine st (ok_move rfl) rfl rfl ?_) | (refine gAssign ?_; refine st (ok_assign rfl) rfl rfl ?_) | (refine gFA ?_; refine st (ok_fieldAddr rfl) rfl rfl ?_) | (refine gLoad ?_; first | refine st (ok_load rfl (by rfl)) rfl rfl ?_ | refine st (ok_loadA rfl (by rfl)) rfl rfl ?_) | (refine gBin ?_; refine st (ok_bin rfl rfl rfl) rfl rfl ?_) | (refine gLen ?_; refine st (ok_len rfl) rfl rfl ?_) | (refine gExtract ?_; refine st (ok_extract rfl rfl) rfl rfl ?_) | (refine gNil ?_; refine st (ok_nilP rfl) rfl rfl ?_) | (refine gCall ?_; refine st (ok_call rfl rfl rfl (by first | exact hopen | exact hneeds)) rfl rfl ?_) | (refine gBox ?_; refine st (ok_box rfl) rfl rfl ?_)) | refine W_seq ?_ | refine W_region ?_ | refine st_nil ?_ | refine tq_n ?_ | refine W_skip ?_ | refine W_block ?_ | refine W_condFA rfl ?_)
  refine W_loopS (ι := Nat) (fun k => [(11, slvV 5 1 k), (34, .slice (some ⟨4, 0, none⟩) n (lastN l goal + 1)), (35, .int .i64 (n : Int)), (36, .int .i64 (k : Int))]) (fun k => [.ro (stonesC l), .rw e.cells, .rw goal.cells, .rw (benchC goal (.slice (some ⟨0, 0, none⟩) l.length c) (.slice (some ⟨4, 0, none⟩) (lastN l goal + 1) (lastN l goal + 1))), .rw (rowsC l goal (lastN l goal + 1))] ++ [.gr (slC (5 + 1) 7 k) 25] ++ rowsO (fun j => rowL (rowN l goal j)) k) (fun k => n - k) (fun k => k ≤ n) 0 (by simp)
    (StRef.src [.ro (stonesC l), .rw e.cells, .rw goal.cells, .rw (benchC goal (.slice (some ⟨0, 0, none⟩) l.length c) (.slice (some ⟨4, 0, none⟩) (lastN l goal + 1) (lastN l goal + 1))), .rw (rowsC l goal (lastN l goal + 1))] [.gr [] 25] [5] (by simp) rfl (hc_rows l e goal c) rfl rfl ⟨osub_gr0, trivial⟩ (by exact ⟨er_nil rfl, er_closed (m := 5) rfl (fun i hi => srcR_lt hi) (by simp) (closed_slice rfl) rfl, er_plain rfl rfl, er_plain rfl rfl, trivial⟩)) (by omega) ?_
  clear hopen hneeds
  intro k hk
  by_cases hkn : k < n
  · have hkl : k < lastN l goal + 1 := by omega
    have hσ : ∃ σ : Heap, σ = [.ro (stonesC l), .rw e.cells, .rw goal.cells, .rw (benchC goal (.slice (some ⟨0, 0, none⟩) l.length c) (.slice (some ⟨4, 0, none⟩) (lastN l goal + 1) (lastN l goal + 1))), .rw (rowsC l goal (lastN l goal + 1))] ++ [.gr (slC (5 + 1) 7 k) 25] ++ rowsO (fun j => rowL (rowN l goal j)) k := ⟨_, rfl⟩
    obtain ⟨σ, hσ⟩ := hσ
    have hsl : σ.length = 6 + k := by rw [hσ]; simp [rowsO_len]; omega
    have hc1 : cellsAt σ 4 (0 + k * 7) 7 = some (rowC (rowN l goal k)) := row_cells (by rw [hσ]; exact .inr (.inl rfl)) hkl
    have hg5 : σ[5]? = some (.gr (slC (5 + 1) 7 k) 25) := by rw [hσ]; rfl
    have hni : σ.all (fun o => !isIter o) = true := by rw [hσ, List.all_append, rowsO_ni]; rfl
    have hlen : (slC (5 + 1) 7 k).length = k * 1 := by rw [slC_len]; omega
    have hclone := clone_ev (σ := σ ++ [.rw (rowC (rowN l goal k))]) (q := rowL (rowN l goal k)) (n := 7) (x := σ.length) (c := 7) rfl arr_last (by omega) (by omega) (by simp [hni]; rfl)
    have hgr : ∀ A B C : AObj, (σ ++ [A] ++ [B] ++ [C])[5]? = some (.gr (slC (5 + 1) 7 k) 25) := fun A B C => by
      rw [List.append_assoc, List.append_assoc, List.getElem?_append_left (by omega)]; exact hg5
    rw [← hσ]
    repeat' (first | (refine gU ?_; first | refine st (ok_appendV (t := 37) (by rfl) (by rfl) rfl (hgr _ _ _) hlen rfl (cells_last rfl) (by omega) rfl (by omega) (by omega)) rfl rfl ?_ | (refine gMove ?_; refine st (ok_move rfl) rfl rfl ?_) | (refine gAssign ?_; refine st (ok_assign rfl) rfl rfl ?_) | (refine gLoad ?_; refine st (ok_loadA rfl (by exact hc1)) rfl rfl ?_) | (refine gAdd ?_; refine st (ok_inc rfl rfl (by omega)) rfl rfl ?_) | (refine gBin ?_; refine st (ok_bin rfl rfl rfl) rfl rfl ?_) | (refine gIA ?_; refine st (ok_idxSN rfl rfl (by omega)) rfl rfl ?_) | (refine gSlice ?_; refine st (ok_sliceA rfl) rfl rfl ?_) | (refine gCall ?_; refine st (ok_call rfl rfl rfl (by exact hclone)) rfl rfl ?_) | (refine gAlloc ?_; refine st (ok_alloc rfl) rfl rfl ?_) | (refine gBuildS ?_; refine st (ok_buildS (by rfl) (by rfl) (by rfl) (by rfl) rfl (by rfl)) rfl rfl ?_) | (refine gStore ?_; refine stN (ok_store rfl rfl rfl rfl (by exact put_row rfl)) rfl ?_)) | refine W_seq ?_ | refine W_region ?_ | refine st_nil ?_ | refine tq_n ?_ | refine bq_n ?_ | refine W_skip ?_ | refine W_block ?_ | refine W_condTA rfl ?_)
    refine ⟨rfl, k + 1, by omega, by omega, ?_⟩
    simp only [len1]
    refine StRef.row (m := 5) (k := k) (g := σ.length + 1 + 1 + 1) (x := σ.length + 1) (w := 7) rfl (by omega) (by rw [hσ]; rfl) (hc_rows l e goal c) (set_last (by simp only [len1])) (fun j hj => ?_) (round_new (by omega)) ⟨by omega, by omega, by omega⟩
      (by exact ⟨er_slvV (i := 5) rfl (by omega) rowPi_m, er_closed (m := 5) rfl (fun i hi => rowPi_lt hi) (by omega) (closed_slice rfl) rfl, er_plain rfl rfl, er_plain rfl rfl, trivial⟩)
    rw [round_at (by omega) (by omega), hσ, List.getElem?_append_right (by simp)]
    simp only [List.length_append, List.length_cons, List.length_nil]
    rw [show 5 + 1 + j - (0 + 1 + 1 + 1 + 1 + 1 + (0 + 1)) = j by omega]
    exact rowsO_get hj
  · obtain rfl : k = n := by omega
    repeat' (first | (refine gU ?_; first | (refine gMove ?_; refine st (ok_move rfl) rfl rfl ?_) | (refine gAssign ?_; refine st (ok_assign rfl) rfl rfl ?_) | (refine gBin ?_; refine st (ok_bin rfl rfl rfl) rfl rfl ?_)) | refine W_seq ?_ | refine W_region ?_ | refine st_nil ?_ | refine tq_n ?_ | refine tq_e ?_ | refine bq_hit rfl ?_ | refine W_exit ?_ | refine W_ret ?_ | refine W_condFA rfl ?_)
    exact ret0 (.tmp rfl (.tmp rfl .nil)) (RetRef.rows (m := 5) rfl rfl (by simp) rfl) ⟨rfl, rfl⟩
end Go.Proofs.Ytindbippegiopaa
namespace Go.AH.Hone
open Go Go.AH
end Go.AH.Hone
namespace Go.Proofs.Ytindbippegiopaa
open Go Go.AH
attribute [local irreducible] WOps WCode WFree retQ thenQ blockQ scopeQ OpOk ACall RetRef roundA roundB
set_option maxRecDepth 100000
set_option maxHeartbeats 1000000
open Go.AH.Hone
end Go.Proofs.Ytindbippegiopaa
namespace Go.AH.Hone
open Go Go.AH
def rowsN (l : List Sn) (e goal : Ed) (f : Int) : Nat := if f = 0 then (needsV l goal e).toNat else 0
def rowsL (l : List Sn) (goal : Ed) (n : Nat) : List (List Int) := (List.range n).map fun j => rowL (rowN l goal j)
theorem rowsL_len (l : List Sn) (goal : Ed) (n : Nat) : (rowsL l goal n).length = n := by simp [rowsL]
theorem rowsL_gq {l : List Sn} {goal : Ed} {n j : Nat} (h : j < n) : gq (rowsL l goal n) j = rowL (rowN l goal j) := by simp [gq, rowsL, h]
theorem slC_ren {n1 m w : Nat} {π : Rho} : ∀ n, renL (shf n1 m π) (slC (n1 + 1) w n) = slC (m + 1) w n
  | 0 => rfl
  | n + 1 => by
    have h := slC_ren (n1 := n1) (m := m) (w := w) (π := π) n
    rw [renL_eq] at h ⊢
    rw [slC, List.map_append, h, slC]
    congr 1
    simp only [List.map_cons, List.map_nil, ren]
    rw [shf_ge (by omega)]
    simp only [List.cons.injEq, and_true, Value.slice.injEq, Option.some.injEq, Addr.mk.injEq]
    omega
theorem rowsO_ren (r : Rho) (R : Nat → List Int) : ∀ n, (rowsO R n).map (renO r) = rowsO R n
  | 0 => rfl
  | n + 1 => by
    rw [rowsO, List.map_append, rowsO_ren r R n]
    simp only [List.map_cons, List.map_nil, renO, renL_plain _ (ints_plain _)]
theorem rowsO_mem (R : Nat → List Int) : ∀ n, (rowsO R n).all isMem = true
  | 0 => rfl
  | n + 1 => by rw [rowsO, List.all_append, rowsO_mem R n]; rfl
theorem deep_own {σ : Heap} {m n : Nat} {l : List Sn} {goal : Ed} (h0 : σ[m]? = some (.rw (slC (m + 1) 7 n))) (hr : ∀ j < n, σ[m + 1 + j]? = some (.rw (ints (rowL (rowN l goal j))))) : ObjAt σ (m, 0) (.deep (rowsQ (rowsL l goal n)) []) := by
  refine ⟨idx_lt h0, .inr (.inr ⟨slC (m + 1) 7 n, ?_, fun k h h' => ?_⟩)⟩
  · have := cellsAt_arr (σ := σ) (b := m) (cs := slC (m + 1) 7 n) (.inr (.inl h0))
    rw [slC_len] at this
    rw [rowsQ_len, rowsL_len]; exact this
  · have hk : k < n := by rw [slC_len] at h'; exact h'
    have hq : (rowsQ (rowsL l goal n))[k] = ints (rowL (rowN l goal k)) := by
      have := rowsQ_get (qs := rowsL l goal n) (i := k) (by rw [rowsL_len]; exact hk)
      rw [List.getElem?_eq_getElem h, rowsL_gq hk] at this
      exact Option.some.inj this
    have hl : (ints (rowL (rowN l goal k))).length = 7 := by rw [ints_length]; rfl
    rw [hq]
    refine ⟨ints_plain _, m + 1 + k, 0, 7, by rw [slC_get' h', hl], by omega, .inr (cellsAt_arr (.inr (.inl (hr k hk))))⟩
end Go.AH.Hone
namespace Go.Proofs.Ytindbippegiopaa
open Go Go.AH
attribute [local irreducible] WOps WCode WFree retQ thenQ blockQ scopeQ OpOk ACall RetRef roundA roundB
set_option maxRecDepth 100000
set_option maxHeartbeats 1000000
open Go.AH.Hone
theorem rows_ok (l : List Sn) (e goal : Ed) (c : Nat) (hL : l.length ≤ 1000000) :
    Ev Try.prog 25 [.slice (some ⟨0, 0, none⟩) l.length c, e.val, goal.val] [.ro (stonesC l)] (.tuple #[.slice (some ⟨1, 0, none⟩) (rowsN l e goal (bestE l e goal)) (rowsN l e goal (bestE l e goal)), .int .i64 (bestE l e goal)]) ([.ro (stonesC l)] ++ ([.rw (slC 2 7 (rowsN l e goal (bestE l e goal)))] ++ rowsO (fun j => rowL (rowN l goal j)) (rowsN l e goal (bestE l e goal)))) := by
  by_cases h : bestE l e goal = 0
  · obtain ⟨ha, hn⟩ := bestE_zero h
    rw [h, show rowsN l e goal 0 = (needsV l goal e).toNat from if_pos rfl]
    exact rows_run l e goal c (needsV l goal e).toNat hL ha (by omega)
  · rw [show rowsN l e goal (bestE l e goal) = 0 from if_neg h]
    exact rows_bad l e goal c hL h
theorem rows_ev {σ : Heap} {l : List Sn} {e goal : Ed} {x c : Nat} (hx : arrAt σ x (stonesC l)) (hL : l.length ≤ 1000000) (hni : σ.all (fun o => !isIter o) = true) :
    Ev Try.prog 25 [.slice (some ⟨x, 0, none⟩) l.length c, e.val, goal.val] σ (.tuple #[.slice (some ⟨σ.length, 0, none⟩) (rowsN l e goal (bestE l e goal)) (rowsN l e goal (bestE l e goal)), .int .i64 (bestE l e goal)]) (σ ++ ([.rw (slC (σ.length + 1) 7 (rowsN l e goal (bestE l e goal)))] ++ rowsO (fun j => rowL (rowN l goal j)) (rowsN l e goal (bestE l e goal)))) := by
  refine Ev.arrsN [stonesC l] [x] (rows_ok l e goal c hL) ⟨hx, trivial⟩ ⟨by simpa [bsR] using VQ.slice (q := true) (n := 1) (ρ := bsR [x]) 0 0 l.length c c (Nat.le_refl _) (by omega), vrel_plain _ rfl, vrel_plain _ rfl, trivial⟩ (by simp [stonesC_plain]) (by rw [List.all_append, rowsO_mem]; rfl) ?_ ?_ hni
  · simp [ren, renA, renL, shf]
  · rw [List.map_append, rowsO_ren]
    simp only [List.map_cons, List.map_nil, renO, List.length_cons, List.length_nil]
    rw [slC_ren]
end Go.Proofs.Ytindbippegiopaa
namespace Go.AH.Hone
open Go Go.AH
theorem rows_own {σ τ : Heap} {l : List Sn} {goal : Ed} {n : Nat} : ObjAt (σ ++ ([.rw (slC (σ.length + 1) 7 n)] ++ rowsO (fun j => rowL (rowN l goal j)) n) ++ τ) (σ.length, 0) (.deep (rowsQ (rowsL l goal n)) []) := by
  have hl := rowsO_len (fun j => rowL (rowN l goal j)) n
  refine deep_own ?_ fun j hj => ?_
  · rw [List.append_assoc, List.getElem?_append_right (Nat.le_refl _), Nat.sub_self]; rfl
  · rw [List.append_assoc, List.getElem?_append_right (by omega), show σ.length + 1 + j - σ.length = j + 1 by omega, List.append_assoc, List.singleton_append, List.getElem?_cons_succ, List.getElem?_append_left (by omega)]
    exact rowsO_get hj
theorem all_ni {σ : Heap} {R : Nat → List Int} {m n : Nat} (h : σ.all (fun o => !isIter o) = true) : (σ ++ ([AObj.rw (slC m 7 n)] ++ rowsO R n)).all (fun o => !isIter o) = true := by
  rw [List.all_append, h, List.all_append, rowsO_ni]; rfl
end Go.AH.Hone
namespace Go.Proofs.Ytindbippegiopaa
open Go Go.AH
attribute [local irreducible] WOps WCode WFree retQ thenQ blockQ scopeQ OpOk ACall RetRef roundA roundB
set_option maxRecDepth 100000
set_option maxHeartbeats 1000000
open Go.AH.Hone
theorem rowsN_le {l : List Sn} {e goal : Ed} : rowsN l e goal (bestE l e goal) ≤ 707 := by
  unfold rowsN
  by_cases h : bestE l e goal = 0
  · rw [if_pos h]
    have := needs_le (l := l) (goal := goal) (e := e) (askE_zero (bestE_zero h).1).2.2
    omega
  · rw [if_neg h]; omega
end Go.Proofs.Ytindbippegiopaa
