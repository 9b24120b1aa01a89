/- Windows of hours that are put together, plainly. -/
import Derived.Test.YtomioaiojidnbaaDbQ3
import Derived.Test.YtomioaiojidnbaaDbMJ
namespace Go.AH.Dust
open Go Go.AH
theorem osubs_pre {σ : Heap} {n m : Nat} {l : List Nat} (hmn : m ≤ n) : ∀ (A : Heap) (k : Nat) (rest : Heap), k + A.length ≤ m → (∀ i o, A[i]? = some o → σ[k + i]? = some o) → HClosed m A → OSubs σ n (srcR m l) (k + A.length) rest → OSubs σ n (srcR m l) k (A ++ rest)
  | [], k, rest, _, _, _, hr => by simpa using hr
  | o :: A, k, rest, hk, hA, hc, hr => by
    simp only [List.length_cons] at hk hr
    refine ⟨osub_same (by omega) hmn (by simpa using hA 0 o rfl) hc.1, ?_⟩
    exact osubs_pre hmn A (k + 1) rest (by omega) (fun i o' h => by rw [show k + 1 + i = k + (i + 1) by omega]; exact hA (i + 1) o' (by simpa using h)) hc.2 (by rw [show k + 1 + A.length = k + (A.length + 1) by omega]; exact hr)
theorem hc_10 {n : Nat} (hn : 7 ≤ n) (S : Shp) (a b : Int) (l : Nat → Int) (dst : Int) {r : Heap} (hr : HClosed n r) : HClosed n ([.ro (flL 1 2 3 S (fun i => bI (rB S i))), .ro (ints S.d), .ro (pc S.f), .ro (ints S.s), .ro [.pointer (some ⟨0, 0, none⟩)], .ro [.int .i64 a, .int .i64 b], .ro (rx l), .rw [.func (.func 90) #[] #[.pointer (some ⟨4, 0, none⟩), .pointer (some ⟨5, 0, none⟩), .pointer (some ⟨6, 0, none⟩)]], .rw [.int .i64 dst], .rw [.bool false]] ++ r) := by
  have hp : ∀ i, i < 7 → Nat.blt i n = true := fun i hi => Nat.blt_eq.mpr (by omega)
  refine ⟨fl_closed (by omega), plainL_closed (ints_plain _), plainL_closed (pc_plain _), plainL_closed (ints_plain _), ⟨by simp [closedL, closed, hp], rfl⟩, plainL_closed rfl, plainL_closed (rx_plain _), ⟨?_, rfl⟩, plainL_closed rfl, plainL_closed rfl, hr⟩
  simp [closedL, closed, closedA, hp]
theorem hc_c11 (S : Shp) (a b : Int) (l : Nat → Int) (dst : Int) (sn : Nat → Bool) {n : Nat} (hn : 7 ≤ n) : HClosed n [.ro (flL 1 2 3 S (fun i => bI (rB S i))), .ro (ints S.d), .ro (pc S.f), .ro (ints S.s), .ro [.pointer (some ⟨0, 0, none⟩)], .ro [.int .i64 a, .int .i64 b], .ro (rx l), .rw [.func (.func 90) #[] #[.pointer (some ⟨4, 0, none⟩), .pointer (some ⟨5, 0, none⟩), .pointer (some ⟨6, 0, none⟩)]], .rw [.int .i64 dst], .rw [.bool false], .rw (rx (fun i => bI (sn i)))] :=
  hc_10 hn S a b l dst ⟨plainL_closed (rx_plain _), trivial⟩
theorem hc_c13 (S : Shp) (a b : Int) (l : Nat → Int) (dst : Int) (sn : Nat → Bool) (st : Option (List Int)) (q : List Int) : HClosed 13 [.ro (flL 1 2 3 S (fun i => bI (rB S i))), .ro (ints S.d), .ro (pc S.f), .ro (ints S.s), .ro [.pointer (some ⟨0, 0, none⟩)], .ro [.int .i64 a, .int .i64 b], .ro (rx l), .rw [.func (.func 90) #[] #[.pointer (some ⟨4, 0, none⟩), .pointer (some ⟨5, 0, none⟩), .pointer (some ⟨6, 0, none⟩)]], .rw [.int .i64 dst], .rw [.bool false], .rw (rx (fun i => bI (sn i))), .rw [qV 12 st q], qO st q] :=
  hc_10 (by omega) S a b l dst ⟨plainL_closed (rx_plain _), qc_closed (by omega), qo_closed, trivial⟩
theorem subsD {σ : Heap} {st : Option (List Int)} {q : List Int} {c j d : Nat} (hcell : σ[c]? = some (.rw [qV j st q])) (hg : st.isSome = true → σ[j]? = some (qO st q)) : OSubs σ 14 (srcR 11 [c, j, d]) 11 [.rw [qV 12 st q], qO st q] :=
  ⟨osub_qc (n := 14) (i := 11) (k := c) (π := srcR 11 [c, j, d]) (j := j) (p := 12) rfl hcell (by omega) rfl, osub_qo (n := 14) (k := 12) (j := j) rfl hg, trivial⟩
theorem qV_cells {i : Nat} {st : Option (List Int)} {q : List Int} : vcells (qV i st q) = [qV i st q] := by cases st <;> rfl
theorem qV_one {i : Nat} {st : Option (List Int)} {q : List Int} : [qV i st q].all (·.oneCell') = true := by cases st <;> rfl
theorem pre_of {A rest σ : Heap} (h : σ = A ++ rest) : ∀ i o, A[i]? = some o → σ[0 + i]? = some o := fun i o hi => by
  rw [h, Nat.zero_add, List.getElem?_append_left (idx_lt hi)]; exact hi
theorem hc_i19 (S : Shp) (a b : Int) (l : Nat → Int) (dst : Int) (sn : Nat → Bool) (st : Option (List Int)) (q : List Int) (x : Nat) (L : AObj) (hL : oclosed 19 L) : HClosed 19 [.ro (flL 1 2 3 S (fun i => bI (rB S i))), .ro (ints S.d), .ro (pc S.f), .ro (ints S.s), .ro [.pointer (some ⟨0, 0, none⟩)], .ro [.int .i64 a, .int .i64 b], .ro (rx l), .rw [.func (.func 90) #[] #[.pointer (some ⟨4, 0, none⟩), .pointer (some ⟨5, 0, none⟩), .pointer (some ⟨6, 0, none⟩)]], .rw [.int .i64 dst], .rw [.bool false], .rw (rx (fun i => bI (sn i))), .rw [qV 18 st q], .dead, .rw [.int .i64 (x : Int)], .rw [.pointer (some ⟨0, 0, none⟩)], .rw [.int .i64 (x : Int)], .dfr, L, qO st q] :=
  hc_10 (by omega) S a b l dst ⟨plainL_closed (rx_plain _), qc_closed (by omega), trivial, plainL_closed rfl, ⟨rfl, rfl⟩, plainL_closed rfl, trivial, hL, qo_closed, trivial⟩
theorem subsC {σ : Heap} {st : Option (List Int)} {q : List Int} {c j : Nat} (hcell : σ[c]? = some (.rw [qV j st q])) (hg : st.isSome = true → σ[j]? = some (qO st q)) : OSubs σ 13 (srcR 11 [c, j]) 11 [.rw [qV 12 st q], qO st q] :=
  ⟨osub_qc (n := 13) (i := 11) (k := c) (π := srcR 11 [c, j]) (j := j) (p := 12) rfl hcell (by omega) rfl, osub_qo (n := 13) (k := 12) (j := j) rfl hg, trivial⟩
theorem StRef.all1 {n0 : Nat} {σ : Heap} {e e2 : Env} (σ2 : Heap) (m j : Nat) (hm : n0 ≤ m) (hl : σ2.length = m + 1) (hj : σ2[j]? = some .dead) (ho : OSubs σ σ2.length (srcR m [j]) 0 σ2) (he : EnvRen σ2.length (srcR m [j]) e e2) : StRef n0 σ σ2 e e2 := by
  refine .inr fun _ => ⟨srcR m [j], ⟨by omega, fun i hi => srcR_lt (by omega), fun i o2 hi => ?_, fun i k oi ok hi hk g1 g2 hij => ?_⟩, envRen_ref he⟩
  · have := osubs_get ho i o2 hi
    rwa [Nat.zero_add] at this
  · have h1 := idx_lt hi
    have h2 := idx_lt hk
    have hs : srcR m [j] m = ⟨j, 0, 0⟩ := by simp [srcR]
    by_cases hli : i < m <;> by_cases hlk : k < m
    · rw [srcR_lt hli, srcR_lt hlk] at hij; exact hij
    · obtain rfl : k = m := by omega
      rw [srcR_lt hli, hs] at hij
      simp only at hij
      subst hij
      rw [hj] at hi
      obtain rfl := Option.some.inj hi
      exact g1.elim
    · obtain rfl : i = m := by omega
      rw [srcR_lt hlk, hs] at hij
      simp only at hij
      subst hij
      rw [hj] at hk
      obtain rfl := Option.some.inj hk
      exact g2.elim
    · omega
theorem subsI {σ : Heap} {S : Shp} {a b : Int} {l : Nat → Int} {dst : Int} {sn : Nat → Bool} {st : Option (List Int)} {q : List Int} {j : Nat} {x : Nat} {L : AObj}
    (hpre : ∀ i o, [.ro (flL 1 2 3 S (fun i => bI (rB S i))), .ro (ints S.d), .ro (pc S.f), .ro (ints S.s), .ro [.pointer (some ⟨0, 0, none⟩)], .ro [.int .i64 a, .int .i64 b], .ro (rx l), .rw [.func (.func 90) #[] #[.pointer (some ⟨4, 0, none⟩), .pointer (some ⟨5, 0, none⟩), .pointer (some ⟨6, 0, none⟩)]], .rw [.int .i64 dst], .rw [.bool false], .rw (rx (fun i => bI (sn i)))][i]? = some o → σ[0 + i]? = some o) (hcell : σ[11]? = some (.rw [qV j st q])) (h13 : σ[13]? = some (.rw [.int .i64 (x : Int)])) (h14 : σ[14]? = some (.rw [.pointer (some ⟨0, 0, none⟩)])) (h15 : σ[15]? = some (.rw [.int .i64 (x : Int)])) (h16 : σ[16]? = some .dfr) (h17 : σ[17]? = some L)
    (hg : st.isSome = true → σ[j]? = some (qO st q)) (hL : oclosed 18 L) : OSubs σ 19 (srcR 18 [j]) 0 [.ro (flL 1 2 3 S (fun i => bI (rB S i))), .ro (ints S.d), .ro (pc S.f), .ro (ints S.s), .ro [.pointer (some ⟨0, 0, none⟩)], .ro [.int .i64 a, .int .i64 b], .ro (rx l), .rw [.func (.func 90) #[] #[.pointer (some ⟨4, 0, none⟩), .pointer (some ⟨5, 0, none⟩), .pointer (some ⟨6, 0, none⟩)]], .rw [.int .i64 dst], .rw [.bool false], .rw (rx (fun i => bI (sn i))), .rw [qV 18 st q], .dead, .rw [.int .i64 (x : Int)], .rw [.pointer (some ⟨0, 0, none⟩)], .rw [.int .i64 (x : Int)], .dfr, L, qO st q] := by
  refine osubs_pre (m := 18) (by omega) [.ro (flL 1 2 3 S (fun i => bI (rB S i))), .ro (ints S.d), .ro (pc S.f), .ro (ints S.s), .ro [.pointer (some ⟨0, 0, none⟩)], .ro [.int .i64 a, .int .i64 b], .ro (rx l), .rw [.func (.func 90) #[] #[.pointer (some ⟨4, 0, none⟩), .pointer (some ⟨5, 0, none⟩), .pointer (some ⟨6, 0, none⟩)]], .rw [.int .i64 dst], .rw [.bool false], .rw (rx (fun i => bI (sn i)))] 0 _ (by simp) hpre (hc_c11 S a b l dst sn (by omega)) ?_
  show OSubs σ 19 (srcR 18 [j]) 11 _
  exact ⟨osub_qc (n := 19) (i := 11) (k := 11) (π := srcR 18 [j]) (j := j) (p := 18) rfl hcell (by omega) rfl, trivial, osub_same (n := 19) (m := 18) (i := 13) (by omega) (by omega) h13 (plainL_closed rfl), osub_same (n := 19) (m := 18) (i := 14) (by omega) (by omega) h14 ⟨rfl, rfl⟩, osub_same (n := 19) (m := 18) (i := 15) (by omega) (by omega) h15 (plainL_closed rfl), osub_same (n := 19) (m := 18) (i := 16) (by omega) (by omega) h16 trivial, osub_same (n := 19) (m := 18) (i := 17) (by omega) (by omega) h17 hL, osub_qo (n := 19) (k := 18) (j := j) rfl hg, trivial⟩
end Go.AH.Dust
namespace Go.Proofs.Ytomioaiojidnbaa
open Go Go.AH
attribute [local irreducible] WOps WCode WFree retQ thenQ blockQ scopeQ OpOk ACall RetRef roundA roundB
set_option maxRecDepth 100000
set_option maxHeartbeats 1000000
open Go.AH.Dust
theorem comes_ok (S : Shp) (hS : S.ok) (a b : Int) (l : Nat → Int) (hLv : Lev a b l) (src dst : Int) (hsrc : isW S src) :
    Ev Try.prog 91 [.pointer (some ⟨0, 0, none⟩), .func (.func 90) #[] #[.pointer (some ⟨4, 0, none⟩), .pointer (some ⟨5, 0, none⟩), .pointer (some ⟨6, 0, none⟩)], .int .i64 src, .int .i64 dst] [.ro (flL 1 2 3 S (fun i => bI (rB S i))), .ro (ints S.d), .ro (pc S.f), .ro (ints S.s), .ro [.pointer (some ⟨0, 0, none⟩)], .ro [.int .i64 a, .int .i64 b], .ro (rx l)] (.bool (comB S a b l src dst)) [.ro (flL 1 2 3 S (fun i => bI (rB S i))), .ro (ints S.d), .ro (pc S.f), .ro (ints S.s), .ro [.pointer (some ⟨0, 0, none⟩)], .ro [.int .i64 a, .int .i64 b], .ro (rx l)] := by
  have n10 := hS.n10
  have f60 := hS.f60
  refine acall_intro 7 45 Try.func91 rfl rfl rfl rfl rfl ?_
  repeat' (first | (refine gU ?_; first | (refine gBox ?_; refine st (ok_box rfl) rfl rfl ?_) | (refine gAlloc ?_; refine st (ok_alloc rfl) rfl rfl ?_)) | refine W_seq ?_ | refine W_stop (id := 2) ?_ | refine W_region ?_ | refine st_nil ?_ | refine tq_n ?_)
  refine ⟨?_⟩
  refine (W_region ?_)
  refine st (ok_move rfl) rfl rfl ?_
  refine st (ok_buildSG (by rfl) (by rfl) (by rfl) (by rfl) rfl (by rfl)) rfl rfl ?_
  repeat' (first | (refine gU ?_; first | (refine gAlloc ?_; refine st (ok_alloc rfl) rfl rfl ?_) | (refine gStore ?_; refine stN (ok_store rfl rfl rfl rfl (by rfl)) rfl ?_)) | refine W_seq ?_ | refine st_nil ?_ | refine tq_n ?_ | refine W_block ?_)
  refine Tail.W_loopD (ι := List Int × (Nat → Bool) × Option (List Int)) (fun s => [(0, .pointer (some ⟨0, 0, none⟩)), (5, .pointer (some ⟨7, 0, none⟩)), (7, .pointer (some ⟨8, 0, none⟩)), (8, .pointer (some ⟨9, 0, none⟩)), (9, .pointer (some ⟨10, 0, none⟩)), (10, .pointer (some ⟨11, 0, none⟩))])
    (fun s => [.ro (flL 1 2 3 S (fun i => bI (rB S i))), .ro (ints S.d), .ro (pc S.f), .ro (ints S.s), .ro [.pointer (some ⟨0, 0, none⟩)], .ro [.int .i64 a, .int .i64 b], .ro (rx l), .rw [.func (.func 90) #[] #[.pointer (some ⟨4, 0, none⟩), .pointer (some ⟨5, 0, none⟩), .pointer (some ⟨6, 0, none⟩)]], .rw [.int .i64 dst], .rw [.bool false], .rw (rx (fun i => bI (s.2.1 i))), .rw [qV 12 s.2.2 s.1], qO s.2.2 s.1]) (fun s => 2 * (10 - cntB s.2.1 10) + s.1.length) (fun s => Bfs S a b l src dst s.1 s.2.1 ∧ qok s.2.2 s.1) ([src], fun _ => false, some []) rfl (by (repeat' (first | exact Tail.tail_ret rfl | refine Tail.tail_then ?_ ?_ | refine Tail.tail_block ?_ | refine Tail.W_tail rfl ?_))) (fun _ => by simp) (fun s _ => hc_c13 S a b l dst s.2.1 s.2.2 s.1)
    (.of (StRef.src [.ro (flL 1 2 3 S (fun i => bI (rB S i))), .ro (ints S.d), .ro (pc S.f), .ro (ints S.s), .ro [.pointer (some ⟨0, 0, none⟩)], .ro [.int .i64 a, .int .i64 b], .ro (rx l), .rw [.func (.func 90) #[] #[.pointer (some ⟨4, 0, none⟩), .pointer (some ⟨5, 0, none⟩), .pointer (some ⟨6, 0, none⟩)]], .rw [.int .i64 dst], .rw [.bool false], .rw (rx (fun _ => 0))] [.rw [qV 12 (some []) [src]], .gr (ints ([] ++ [src])) 3] [12, 11] (by simp) rfl (hc_c11 S a b l dst (fun _ => false) (n := 11) (by omega)) rfl rfl (subsC (st := some []) (q := [src]) (c := 12) (j := 11) rfl (fun _ => rfl)) (by (repeat' (first | exact trivial | refine ⟨er_closed (m := 11) rfl (fun i hi => srcR_lt hi) (by simp) (by rfl) rfl, ?_⟩ | refine ⟨er_ptr rfl (by simp) rfl, ?_⟩)))) (by simp)) ⟨Bfs.start hsrc, show [] ++ [src] ≠ [] from by simp⟩ ?_
  rintro ⟨q, sn, sg⟩ ⟨hB, hqk⟩
  simp only at hB hqk ⊢
  cases q with
  | nil =>
    have hv : comB S a b l src dst = false := by
      unfold comB; exact @decide_eq_false _ (Classical.propDecidable _) (hB.stop hS)
    rw [hv]
    cases sg with
    | none =>
      repeat' (first | (refine gU ?_; first | (refine gLoad ?_; refine st (ok_load rfl (by rfl)) rfl rfl ?_) | (refine gBin ?_; refine st (ok_bin rfl rfl rfl) rfl rfl ?_) | (refine gLen ?_; refine st (ok_len rfl) rfl rfl ?_) | (refine gStore ?_; refine stN (ok_store rfl rfl rfl rfl (by rfl)) rfl ?_)) | refine W_seq ?_ | refine W_region ?_ | refine st_nil ?_ | refine tq_n ?_ | refine tq_e ?_ | refine bq_hit rfl ?_ | refine W_exit ?_ | refine W_ret ?_ | refine W_condFA rfl ?_)
      exact ret0 (.cell1 inferInstance rfl rfl .nil) (.plain rfl rfl) ⟨rfl, rfl⟩
    | some junk =>
      repeat' (first | (refine gU ?_; first | (refine gLoad ?_; refine st (ok_load rfl (by rfl)) rfl rfl ?_) | (refine gBin ?_; refine st (ok_bin rfl rfl rfl) rfl rfl ?_) | (refine gLen ?_; refine st (ok_len rfl) rfl rfl ?_) | (refine gStore ?_; refine stN (ok_store rfl rfl rfl rfl (by rfl)) rfl ?_)) | refine W_seq ?_ | refine W_region ?_ | refine st_nil ?_ | refine tq_n ?_ | refine tq_e ?_ | refine bq_hit rfl ?_ | refine W_exit ?_ | refine W_ret ?_ | refine W_condFA rfl ?_)
      exact ret0 (.cell1 inferInstance rfl rfl .nil) (.plain rfl rfl) ⟨rfl, rfl⟩
  | cons x0 q =>
    cases sg with
    | none => cases hqk
    | some junk =>
    have hm0 := hB.pop
    have hql := hB.len
    simp only [List.length_cons] at hql
    have hcle := cntB_le sn 10
    obtain ⟨x, rfl⟩ : ∃ x : Nat, x0 = (x : Int) := ⟨x0.toNat, by have := hm0.xk.1.1; omega⟩
    have hxd : x < S.d.length := by have := hm0.xk.1.2; omega
    clear hB
    have hpos : ((((x : Int) :: q).length : Nat) : Int) > 0 := by simp only [List.length_cons]; omega
    have hc3 : cellGet [.ro (flL 1 2 3 S (fun i => bI (rB S i))), .ro (ints S.d), .ro (pc S.f), .ro (ints S.s), .ro [.pointer (some ⟨0, 0, none⟩)], .ro [.int .i64 a, .int .i64 b], .ro (rx l), .rw [.func (.func 90) #[] #[.pointer (some ⟨4, 0, none⟩), .pointer (some ⟨5, 0, none⟩), .pointer (some ⟨6, 0, none⟩)]], .rw [.int .i64 dst], .rw [.bool false], .rw (rx (fun i => bI (sn i))), .rw [qV 12 (some junk) ((x : Int) :: q)], qO (some junk) ((x : Int) :: q)] 12 (junk.length + 0 * 1) = some (.int .i64 (x : Int)) := by
      show (ints (junk ++ (x : Int) :: q))[junk.length + 0 * 1]? = _
      rw [Nat.zero_mul, Nat.add_zero, ints_get (by simp)]; simp [gi]
    repeat' (first | (refine gU ?_; first | refine st (ok_idxQ (k := 0) rfl rfl (Nat.succ_pos _)) rfl rfl ?_ | (refine gLoad ?_; refine st (ok_load rfl (by first | rfl | exact hc3)) rfl rfl ?_) | (refine gBin ?_; refine st (ok_bin rfl rfl rfl) rfl rfl ?_) | (refine gLen ?_; refine st (ok_len rfl) rfl rfl ?_) | (refine gAlloc ?_; refine st (ok_alloc rfl) rfl rfl ?_) | (refine gStore ?_; refine stN (ok_store rfl rfl rfl rfl (by rfl)) rfl ?_)) | refine W_seq ?_ | refine W_stop (id := 5) ?_ | refine W_region ?_ | refine st_nil ?_ | refine tq_n ?_ | refine W_skip ?_ | refine W_block ?_ | refine W_condTA rfl ?_)
    refine ⟨?_⟩
    refine (W_region ?_)
    refine st (ok_load rfl rfl) rfl rfl ?_
    refine st_E (ok_sliceQ (l := 1) rfl rfl (by simp)) rfl rfl ?_
    rintro v σ' ⟨rfl, hv⟩
    obtain ⟨sg, hst1, hst2, hst3⟩ : ∃ sg, qok sg q ∧ v = qV 12 sg q ∧ (sg.isSome = true → AObj.gr (ints (junk ++ (x : Int) :: q)) 3 = qO sg q) := by
      rcases hv with hv | ⟨h1, hv⟩
      · refine ⟨some (junk ++ [(x : Int)]), by simp [qok], ?_, fun _ => by simp [qO]⟩
        rw [hv]; simp [qV]
      · have hq : q = [] := by simpa using h1.symm
        exact ⟨none, hq, hv, fun h => by cases h⟩
    subst hst2
    clear hv hc3
    refine stN (ok_store (size := 1) rfl rfl (by rw [qV_cells]; rfl) (by rw [qV_cells]; exact qV_one) (by rw [qV_cells]; rfl)) rfl ?_
    have hnx := next_ev (σ := [.ro (flL 1 2 3 S (fun i => bI (rB S i))), .ro (ints S.d), .ro (pc S.f), .ro (ints S.s), .ro [.pointer (some ⟨0, 0, none⟩)], .ro [.int .i64 a, .int .i64 b], .ro (rx l), .rw [.func (.func 90) #[] #[.pointer (some ⟨4, 0, none⟩), .pointer (some ⟨5, 0, none⟩), .pointer (some ⟨6, 0, none⟩)]], .rw [.int .i64 dst], .rw [.bool false], .rw (rx (fun i => bI (sn i))), .rw [qV 12 sg q], .gr (ints (junk ++ (x : Int) :: q)) 3, .rw [.int .i64 (x : Int)]]) (S := S) (r := fun i => bI (rB S i)) (n := (x : Int)) (p := 0) (x := 1) (y := 2) (z := 3) ⟨.inl rfl, .inl rfl, .inl rfl, .inl rfl⟩ rfl
    repeat' (first | (refine gU ?_; first | (refine gMove ?_; refine st (ok_move rfl) rfl rfl ?_) | (refine gLoad ?_; refine st (ok_load rfl (by rfl)) rfl rfl ?_) | (refine gCall ?_; refine st (ok_call rfl rfl rfl (by exact hnx)) rfl rfl ?_)) | refine W_seq ?_ | refine W_region ?_ | refine st_nil ?_ | refine tq_n ?_ | refine W_block ?_)
    refine W_st (by simp) (.same (e2 := [(0, .pointer (some ⟨0, 0, none⟩)), (5, .pointer (some ⟨7, 0, none⟩)), (7, .pointer (some ⟨8, 0, none⟩)), (8, .pointer (some ⟨9, 0, none⟩)), (9, .pointer (some ⟨10, 0, none⟩)), (10, .pointer (some ⟨11, 0, none⟩)), (11, .pointer (some ⟨13, 0, none⟩)), (25, .func (.func 87) #[] #[.pointer (some ⟨14, 0, none⟩), .pointer (some ⟨15, 0, none⟩)])]) ⟨rfl, rfl, rfl, rfl, rfl, rfl, rfl, rfl, trivial⟩) ?_
    refine W_rangeFuncL (p := []) (q := [.pointer (some ⟨14, 0, none⟩), .pointer (some ⟨15, 0, none⟩)]) rfl fun L hL => ?_
    have hLc : ∀ n, 18 ≤ n → oclosed n L := fun n hn => by
      rw [hL]
      have hp : ∀ i, i < 18 → Nat.blt i n = true := fun i hi => Nat.blt_eq.mpr (by omega)
      exact env_closed fun p hp => by
        simp only [List.mem_cons, List.not_mem_nil, or_false] at hp
        rcases hp with rfl | rfl | rfl | rfl | rfl | rfl | rfl | rfl <;> exact ⟨by simp [closed, closedA, closedL, hp], rfl⟩
    have hLi : isIter L = false := by rw [hL]; rfl
    refine acall_intro 18 28 Try.func87 rfl rfl rfl rfl rfl ?_
    repeat' (first | (refine gU ?_; first | (refine gMove ?_; refine st (ok_move rfl) rfl rfl ?_) | (refine gFA ?_; refine st (ok_fieldAddr rfl) rfl rfl ?_) | (refine gLoad ?_; refine st (ok_load rfl (by rfl)) rfl rfl ?_) | (refine gLen ?_; refine st (ok_len rfl) rfl rfl ?_) | (refine gNil ?_; refine st (ok_nilP rfl) rfl rfl ?_)) | refine W_seq ?_ | refine W_region ?_ | refine st_nil ?_ | refine tq_n ?_ | refine W_block ?_)
    refine W_loopS (ι := Nat × List Int × (Nat → Bool) × Option (List Int)) (fun s => [(0, .func (.yield 17) #[] #[]), (1, .pointer (some ⟨14, 0, none⟩)), (2, .pointer (some ⟨15, 0, none⟩)), (10, sl 2 S.f.length), (11, .int .i64 (S.f.length : Int)), (12, .int .i64 (s.1 : Int))])
      (fun s => [.ro (flL 1 2 3 S (fun i => bI (rB S i))), .ro (ints S.d), .ro (pc S.f), .ro (ints S.s), .ro [.pointer (some ⟨0, 0, none⟩)], .ro [.int .i64 a, .int .i64 b], .ro (rx l), .rw [.func (.func 90) #[] #[.pointer (some ⟨4, 0, none⟩), .pointer (some ⟨5, 0, none⟩), .pointer (some ⟨6, 0, none⟩)]], .rw [.int .i64 dst], .rw [.bool false], .rw (rx (fun i => bI (s.2.2.1 i))), .rw [qV 18 s.2.2.2 s.2.1], .dead, .rw [.int .i64 (x : Int)], .rw [.pointer (some ⟨0, 0, none⟩)], .rw [.int .i64 (x : Int)], .dfr, L, qO s.2.2.2 s.2.1]) (fun s => S.f.length - s.1) (fun s => s.1 ≤ S.f.length ∧ Mid S a b l src dst x (2 * (10 - cntB sn 10) + q.length) s.1 s.2.1 s.2.2.1 ∧ qok s.2.2.2 s.2.1) (0, q, sn, sg) (by simp)
      (StRef.all1 _ 18 12 (by simp) rfl rfl (subsI (j := 12) (pre_of rfl) rfl rfl rfl rfl rfl rfl (fun h => by rw [← hst3 h]; rfl) (hLc 18 (Nat.le_refl _))) (by (repeat' (first | exact trivial | refine ⟨er_plain rfl rfl, ?_⟩ | refine ⟨er_closed (m := 18) rfl (fun i hi => srcR_lt hi) (by simp) (by first | rfl | exact closed_slice rfl) rfl, ?_⟩)))) ⟨Nat.zero_le _, hm0, hst1⟩ ?_
    clear hnx hm0 hst1 hst3 hqk hpos
    rintro ⟨k, q, sn, sg⟩ ⟨hk, hm, hqk⟩
    simp only at hk hm hqk ⊢
    have hQi : isIter (qO sg q) = false := by cases sg <;> rfl
    by_cases hkl : k < S.f.length
    · have hd2 : ∀ σ' : Heap, cellsAt (.ro (flL 1 2 3 S (fun i => bI (rB S i))) :: .ro (ints S.d) :: .ro (pc S.f) :: σ') 2 (0 + k * 2) 2 = some [.int .i64 (gf S.f k).1, .int .i64 (gf S.f k).2] := fun σ' => pc_cells (.inl rfl) hkl
      obtain ⟨hw1, hw2, -⟩ := hS.f k hkl
      have hsk := hm.skip (k := k)
      have hseen := hm.seen (k := k)
      have hhit := hm.hit hkl
      have hpush := hm.push hS hkl
      have hql2 : q.length ≤ 10 := Nat.le_trans hm.len (cntB_le sn 10)
      clear hm
      generalize gf S.f k = p at *
      obtain ⟨z, y0⟩ := p
      simp only at hw1 hw2 hd2 hsk hseen hhit hpush
      obtain ⟨y, rfl⟩ : ∃ y : Nat, y0 = (y : Int) := ⟨y0.toNat, by have := hw2.1; omega⟩
      have hyd : y < S.d.length := by have := hw2.2; omega
      simp only [Int.toNat_natCast] at hsk hseen hhit hpush
      by_cases hz : z = (x : Int)
      · have hti : ∀ σ' : Heap, σ'.all (fun o => !isIter o) = true → Ev Try.prog 90 [.int .i64 (x : Int), .int .i64 (y : Int), .pointer (some ⟨4, 0, none⟩), .pointer (some ⟨5, 0, none⟩), .pointer (some ⟨6, 0, none⟩)] (AObj.ro (flL 1 2 3 S (fun i => bI (rB S i))) :: .ro (ints S.d) :: .ro (pc S.f) :: .ro (ints S.s) :: .ro [.pointer (some ⟨0, 0, none⟩)] :: .ro [.int .i64 a, .int .i64 b] :: .ro (rx l) :: σ') (.bool (tigB S a b l x y)) (AObj.ro (flL 1 2 3 S (fun i => bI (rB S i))) :: .ro (ints S.d) :: .ro (pc S.f) :: .ro (ints S.s) :: .ro [.pointer (some ⟨0, 0, none⟩)] :: .ro [.int .i64 a, .int .i64 b] :: .ro (rx l) :: σ') := fun σ' hs => tight_ev (p := 0) (x := 1) (y := 2) (z := 3) ⟨⟨.inl rfl, .inl rfl, .inl rfl, .inl rfl⟩, .inl rfl, .inl rfl, .inl rfl⟩ hS hLv hxd hyd hs
        generalize tigB S a b l x y = T at *
        cases T with
        | false =>
          have hm := hsk (fun h => by cases h.2)
          clear hsk hseen hhit hpush
          repeat' (first | (refine gU ?_; (refine gBin ?_; refine st (ok_bin rfl rfl rfl) rfl rfl ?_)) | refine W_seq ?_ | refine W_stop (id := 2) ?_ | refine W_region ?_ | refine st_nil ?_ | refine tq_n ?_ | refine W_skip ?_ | refine W_block ?_ | refine W_condTA rfl ?_)
          refine ⟨?_⟩
          refine (W_region ?_)
          repeat' (first | (refine gU ?_; first | (refine gMove ?_; refine st (ok_move rfl) rfl rfl ?_) | (refine gLoad ?_; first | refine st (ok_load rfl (by rfl)) rfl rfl ?_ | refine st (ok_loadA rfl (by exact hd2 _)) rfl rfl ?_) | (refine gBin ?_; refine st (ok_bin rfl rfl rfl) rfl rfl ?_) | (refine gIA ?_; first | refine st (ok_idxSN rfl rfl (by omega)) rfl rfl ?_ | refine st (ok_idxA rfl rfl (by omega) (by omega)) rfl rfl ?_) | (refine gAlloc ?_; refine st (ok_alloc rfl) rfl rfl ?_) | (refine gStore ?_; refine stN (ok_store rfl rfl rfl rfl (by rfl)) rfl ?_)) | (refine gG ?_; first | (refine gMove ?_; refine stGA rfl (ok_move rfl) rfl rfl ?_) | (refine gLoad ?_; refine stGA rfl (ok_load rfl (by rfl)) rfl rfl ?_) | (refine gIA ?_; refine stGA rfl (ok_idxA rfl rfl (by omega) (by omega)) rfl rfl ?_)) | refine W_seq ?_ | refine W_region ?_ | refine st_nil ?_ | refine tq_n ?_)
          refine st_yieldG (l := 17) rfl rfl (by rw [hL]; rfl) rfl rfl rfl (fun _ _ _ _ he => wanted_rel (b := true) (by rw [wantedA_some (b := decide (z = (x : Int))) rfl, decide_eq_true hz]; rfl) he) ?_
          repeat' (first | (refine gU ?_; (refine gAssign ?_; refine st (ok_assign rfl) rfl rfl ?_)) | refine W_region ?_ | refine st_nil ?_)
          refine roundA_n (by rw [hL]; rfl) ?_
          repeat' (first | (refine gU ?_; first | (refine gMove ?_; refine st (ok_move rfl) rfl rfl ?_) | (refine gLoad ?_; refine st (ok_load rfl (by rfl)) rfl rfl ?_) | (refine gNot ?_; refine st (ok_not' rfl) rfl rfl ?_) | (refine gCall ?_; refine st (ok_call rfl rfl rfl (by exact hti _ (by simp [isIter]; exact hQi))) rfl rfl ?_)) | refine W_seq ?_ | refine W_region ?_ | refine st_nil ?_ | refine tq_n ?_ | refine tq_e ?_ | refine bq_hit rfl ?_ | refine W_exit ?_ | refine W_block ?_ | refine W_condTA rfl ?_)
          refine roundB_n rfl rfl ?_
          repeat' (first | (refine gU ?_; first | (refine gMove ?_; refine st (ok_move rfl) rfl rfl ?_) | (refine gAdd ?_; refine st (ok_inc rfl rfl (by omega)) rfl rfl ?_) | (refine gPick ?_; refine st (ok_pickTA rfl rfl) rfl rfl ?_)) | (refine gG ?_; (refine gNot ?_; refine stGA rfl (ok_not' rfl) rfl rfl ?_)) | refine W_region ?_ | refine st_nil ?_ | refine tq_n ?_ | refine bq_n ?_ | refine W_skip ?_ | refine W_condFA rfl ?_)
          refine ⟨rfl, (k + 1, q, sn, sg), ⟨by simp only; omega, hm, hqk⟩, by simp only; omega, ?_⟩
          rw [hL]
          exact StRef.drop [.ro (flL 1 2 3 S (fun i => bI (rB S i))), .ro (ints S.d), .ro (pc S.f), .ro (ints S.s), .ro [.pointer (some ⟨0, 0, none⟩)], .ro [.int .i64 a, .int .i64 b], .ro (rx l), .rw [.func (.func 90) #[] #[.pointer (some ⟨4, 0, none⟩), .pointer (some ⟨5, 0, none⟩), .pointer (some ⟨6, 0, none⟩)]], .rw [.int .i64 dst], .rw [.bool false], .rw (rx (fun i => bI (sn i))), .rw [qV 18 sg q], .dead, .rw [.int .i64 (x : Int)], .rw [.pointer (some ⟨0, 0, none⟩)], .rw [.int .i64 (x : Int)], .dfr, _, qO sg q] [_] (by simp) (hc_i19 S a b l dst sn sg q x _ (by have := hLc 19 (by omega); rw [hL] at this; exact this)) (by (repeat' (first | exact trivial | exact ⟨rfl, rfl, rfl⟩ | exact ⟨rfl, closed_slice rfl, rfl⟩ | refine ⟨?_, ?_⟩)))
        | true =>
          clear hsk
          by_cases hyd2 : (y : Int) = dst
          · have hv : comB S a b l src dst = true := by
              unfold comB; rw [← hyd2]; exact @decide_eq_true _ (Classical.propDecidable _) (hhit hz rfl)
            clear hseen hhit hpush
            repeat' (first | (refine gU ?_; (refine gBin ?_; refine st (ok_bin rfl rfl rfl) rfl rfl ?_)) | refine W_seq ?_ | refine W_stop (id := 2) ?_ | refine W_region ?_ | refine st_nil ?_ | refine tq_n ?_ | refine W_skip ?_ | refine W_block ?_ | refine W_condTA rfl ?_)
            refine ⟨?_⟩
            refine (W_region ?_)
            repeat' (first | (refine gU ?_; first | (refine gMove ?_; refine st (ok_move rfl) rfl rfl ?_) | (refine gLoad ?_; first | refine st (ok_load rfl (by rfl)) rfl rfl ?_ | refine st (ok_loadA rfl (by exact hd2 _)) rfl rfl ?_) | (refine gBin ?_; refine st (ok_bin rfl rfl rfl) rfl rfl ?_) | (refine gIA ?_; first | refine st (ok_idxSN rfl rfl (by omega)) rfl rfl ?_ | refine st (ok_idxA rfl rfl (by omega) (by omega)) rfl rfl ?_) | (refine gAlloc ?_; refine st (ok_alloc rfl) rfl rfl ?_) | (refine gStore ?_; refine stN (ok_store rfl rfl rfl rfl (by rfl)) rfl ?_)) | (refine gG ?_; first | (refine gMove ?_; refine stGA rfl (ok_move rfl) rfl rfl ?_) | (refine gLoad ?_; refine stGA rfl (ok_load rfl (by rfl)) rfl rfl ?_) | (refine gIA ?_; refine stGA rfl (ok_idxA rfl rfl (by omega) (by omega)) rfl rfl ?_)) | refine W_seq ?_ | refine W_region ?_ | refine st_nil ?_ | refine tq_n ?_)
            refine st_yieldG (l := 17) rfl rfl (by rw [hL]; rfl) rfl rfl rfl (fun _ _ _ _ he => wanted_rel (b := true) (by rw [wantedA_some (b := decide (z = (x : Int))) rfl, decide_eq_true hz]; rfl) he) ?_
            repeat' (first | (refine gU ?_; (refine gAssign ?_; refine st (ok_assign rfl) rfl rfl ?_)) | refine W_region ?_ | refine st_nil ?_)
            refine roundA_n (by rw [hL]; rfl) ?_
            repeat' (first | (refine gU ?_; first | (refine gMove ?_; refine st (ok_move rfl) rfl rfl ?_) | (refine gLoad ?_; refine st (ok_load rfl (by rfl)) rfl rfl ?_) | (refine gBin ?_; refine st (ok_bin rfl rfl rfl) rfl rfl ?_) | (refine gNot ?_; refine st (ok_not' rfl) rfl rfl ?_) | (refine gCall ?_; refine st (ok_call rfl rfl rfl (by exact hti _ (by simp [isIter]; exact hQi))) rfl rfl ?_) | (refine gStore ?_; refine stN (ok_store rfl rfl rfl rfl (by rfl)) rfl ?_)) | refine W_seq ?_ | refine W_region ?_ | refine st_nil ?_ | refine tq_n ?_ | refine tq_r ?_ | refine bq_r ?_ | refine W_skip ?_ | refine W_ret ?_ | refine W_block ?_ | refine W_condTA rfl ?_ | refine W_condFA rfl ?_)
            refine roundB_r rfl rfl ?_
            repeat' (first | (refine gU ?_; (refine gPick ?_; refine st (ok_pickTA rfl rfl) rfl rfl ?_)) | (refine gG ?_; (refine gNot ?_; refine stGA rfl (ok_not' rfl) rfl rfl ?_)) | refine st_nil ?_ | refine tq_n ?_ | refine tq_r ?_ | refine bq_r ?_ | refine W_ret ?_ | refine W_condTA rfl ?_)
            refine ret0 .nil .all ⟨_, _, _, _, _, _, _, by rw [hL]; rfl, by simp, ?_⟩
            dsimp only
            repeat' (first | refine tq_r ?_ | refine bq_r ?_ | refine W_ret ?_)
            rw [hv]
            exact ret1 rfl (.cell1 inferInstance rfl rfl .nil) (.plain rfl rfl) ⟨rfl, rfl⟩
          · have hcs : ∀ σ' : Heap, cellGet (AObj.ro (flL 1 2 3 S (fun i => bI (rB S i))) :: .ro (ints S.d) :: .ro (pc S.f) :: .ro (ints S.s) :: .ro [.pointer (some ⟨0, 0, none⟩)] :: .ro [.int .i64 a, .int .i64 b] :: .ro (rx l) :: .rw [.func (.func 90) #[] #[.pointer (some ⟨4, 0, none⟩), .pointer (some ⟨5, 0, none⟩), .pointer (some ⟨6, 0, none⟩)]] :: .rw [.int .i64 dst] :: .rw [.bool false] :: .rw (rx (fun i => bI (sn i))) :: σ') 10 (0 + y * 1) = some (.int .i64 (bI (sn y))) := fun σ' => by
              rw [Nat.zero_add, Nat.mul_one]; exact rx_get (f := fun i => bI (sn i)) (by omega)
            cases hsy : sn y with
            | true =>
              have hm := hseen hyd2 hsy
              rw [hsy] at hcs
              clear hseen hhit hpush
              repeat' (first | (refine gU ?_; (refine gBin ?_; refine st (ok_bin rfl rfl rfl) rfl rfl ?_)) | refine W_seq ?_ | refine W_stop (id := 2) ?_ | refine W_region ?_ | refine st_nil ?_ | refine tq_n ?_ | refine W_skip ?_ | refine W_block ?_ | refine W_condTA rfl ?_)
              refine ⟨?_⟩
              refine (W_region ?_)
              repeat' (first | (refine gU ?_; first | (refine gMove ?_; refine st (ok_move rfl) rfl rfl ?_) | (refine gLoad ?_; first | refine st (ok_load rfl (by rfl)) rfl rfl ?_ | refine st (ok_loadA rfl (by exact hd2 _)) rfl rfl ?_) | (refine gBin ?_; refine st (ok_bin rfl rfl rfl) rfl rfl ?_) | (refine gIA ?_; first | refine st (ok_idxSN rfl rfl (by omega)) rfl rfl ?_ | refine st (ok_idxA rfl rfl (by omega) (by omega)) rfl rfl ?_) | (refine gAlloc ?_; refine st (ok_alloc rfl) rfl rfl ?_) | (refine gStore ?_; refine stN (ok_store rfl rfl rfl rfl (by rfl)) rfl ?_)) | (refine gG ?_; first | (refine gMove ?_; refine stGA rfl (ok_move rfl) rfl rfl ?_) | (refine gLoad ?_; refine stGA rfl (ok_load rfl (by rfl)) rfl rfl ?_) | (refine gIA ?_; refine stGA rfl (ok_idxA rfl rfl (by omega) (by omega)) rfl rfl ?_)) | refine W_seq ?_ | refine W_region ?_ | refine st_nil ?_ | refine tq_n ?_)
              refine st_yieldG (l := 17) rfl rfl (by rw [hL]; rfl) rfl rfl rfl (fun _ _ _ _ he => wanted_rel (b := true) (by rw [wantedA_some (b := decide (z = (x : Int))) rfl, decide_eq_true hz]; rfl) he) ?_
              repeat' (first | (refine gU ?_; (refine gAssign ?_; refine st (ok_assign rfl) rfl rfl ?_)) | refine W_region ?_ | refine st_nil ?_)
              refine roundA_n (by rw [hL]; rfl) ?_
              repeat' (first | (refine gU ?_; first | (refine gMove ?_; refine st (ok_move rfl) rfl rfl ?_) | (refine gLoad ?_; refine st (ok_load rfl (by first | rfl | exact hcs _)) rfl rfl ?_) | (refine gBin ?_; refine st (ok_bin rfl rfl rfl) rfl rfl ?_) | (refine gNot ?_; refine st (ok_not' rfl) rfl rfl ?_) | (refine gIA ?_; refine st (ok_idxAN rfl rfl (by omega)) rfl rfl ?_) | (refine gCall ?_; refine st (ok_call rfl rfl rfl (by exact hti _ (by simp [isIter]; exact hQi))) rfl rfl ?_)) | refine W_seq ?_ | refine W_region ?_ | refine st_nil ?_ | refine tq_n ?_ | refine bq_n ?_ | refine W_skip ?_ | refine W_block ?_ | refine W_condFA rfl ?_)
              refine roundB_n rfl rfl ?_
              repeat' (first | (refine gU ?_; first | (refine gMove ?_; refine st (ok_move rfl) rfl rfl ?_) | (refine gAdd ?_; refine st (ok_inc rfl rfl (by omega)) rfl rfl ?_) | (refine gPick ?_; refine st (ok_pickTA rfl rfl) rfl rfl ?_)) | (refine gG ?_; (refine gNot ?_; refine stGA rfl (ok_not' rfl) rfl rfl ?_)) | refine W_region ?_ | refine st_nil ?_ | refine tq_n ?_ | refine bq_n ?_ | refine W_skip ?_ | refine W_condFA rfl ?_)
              refine ⟨rfl, (k + 1, q, sn, sg), ⟨by simp only; omega, hm, hqk⟩, by simp only; omega, ?_⟩
              rw [hL]
              exact StRef.drop [.ro (flL 1 2 3 S (fun i => bI (rB S i))), .ro (ints S.d), .ro (pc S.f), .ro (ints S.s), .ro [.pointer (some ⟨0, 0, none⟩)], .ro [.int .i64 a, .int .i64 b], .ro (rx l), .rw [.func (.func 90) #[] #[.pointer (some ⟨4, 0, none⟩), .pointer (some ⟨5, 0, none⟩), .pointer (some ⟨6, 0, none⟩)]], .rw [.int .i64 dst], .rw [.bool false], .rw (rx (fun i => bI (sn i))), .rw [qV 18 sg q], .dead, .rw [.int .i64 (x : Int)], .rw [.pointer (some ⟨0, 0, none⟩)], .rw [.int .i64 (x : Int)], .dfr, _, qO sg q] [_] (by simp) (hc_i19 S a b l dst sn sg q x _ (by have := hLc 19 (by omega); rw [hL] at this; exact this)) (by (repeat' (first | exact trivial | exact ⟨rfl, rfl, rfl⟩ | exact ⟨rfl, closed_slice rfl, rfl⟩ | refine ⟨?_, ?_⟩)))
            | false =>
              have hm := hpush hz rfl hyd2 hsy
              rw [hsy] at hcs
              have hput : ∀ σ' : Heap, putCells (AObj.ro (flL 1 2 3 S (fun i => bI (rB S i))) :: .ro (ints S.d) :: .ro (pc S.f) :: .ro (ints S.s) :: .ro [.pointer (some ⟨0, 0, none⟩)] :: .ro [.int .i64 a, .int .i64 b] :: .ro (rx l) :: .rw [.func (.func 90) #[] #[.pointer (some ⟨4, 0, none⟩), .pointer (some ⟨5, 0, none⟩), .pointer (some ⟨6, 0, none⟩)]] :: .rw [.int .i64 dst] :: .rw [.bool false] :: .rw (rx (fun i => bI (sn i))) :: σ') 10 (0 + y * 1) [.int .i64 1] = some (AObj.ro (flL 1 2 3 S (fun i => bI (rB S i))) :: .ro (ints S.d) :: .ro (pc S.f) :: .ro (ints S.s) :: .ro [.pointer (some ⟨0, 0, none⟩)] :: .ro [.int .i64 a, .int .i64 b] :: .ro (rx l) :: .rw [.func (.func 90) #[] #[.pointer (some ⟨4, 0, none⟩), .pointer (some ⟨5, 0, none⟩), .pointer (some ⟨6, 0, none⟩)]] :: .rw [.int .i64 dst] :: .rw [.bool false] :: .rw (rx (fun i => bI (setB sn y true i))) :: σ') := fun σ' => by
                have := putRw (σ := AObj.ro (flL 1 2 3 S (fun i => bI (rB S i))) :: .ro (ints S.d) :: .ro (pc S.f) :: .ro (ints S.s) :: .ro [.pointer (some ⟨0, 0, none⟩)] :: .ro [.int .i64 a, .int .i64 b] :: .ro (rx l) :: .rw [.func (.func 90) #[] #[.pointer (some ⟨4, 0, none⟩), .pointer (some ⟨5, 0, none⟩), .pointer (some ⟨6, 0, none⟩)]] :: .rw [.int .i64 dst] :: .rw [.bool false] :: .rw (rx (fun i => bI (sn i))) :: σ') (b := 10) (o := 0 + y * 1) (vs := [.int .i64 1]) (cs' := rx (fun i => bI (setB sn y true i))) rfl (by simp [rx]; omega) (by simp [rx]) (by rw [Nat.zero_add, Nat.mul_one, ← setB_bI]; exact rx_set (by omega))
                exact this
              clear hseen hhit hpush
              repeat' (first | (refine gU ?_; (refine gBin ?_; refine st (ok_bin rfl rfl rfl) rfl rfl ?_)) | refine W_seq ?_ | refine W_stop (id := 2) ?_ | refine W_region ?_ | refine st_nil ?_ | refine tq_n ?_ | refine W_skip ?_ | refine W_block ?_ | refine W_condTA rfl ?_)
              refine ⟨?_⟩
              refine (W_region ?_)
              repeat' (first | (refine gU ?_; first | (refine gMove ?_; refine st (ok_move rfl) rfl rfl ?_) | (refine gLoad ?_; first | refine st (ok_load rfl (by rfl)) rfl rfl ?_ | refine st (ok_loadA rfl (by exact hd2 _)) rfl rfl ?_) | (refine gBin ?_; refine st (ok_bin rfl rfl rfl) rfl rfl ?_) | (refine gIA ?_; first | refine st (ok_idxSN rfl rfl (by omega)) rfl rfl ?_ | refine st (ok_idxA rfl rfl (by omega) (by omega)) rfl rfl ?_) | (refine gAlloc ?_; refine st (ok_alloc rfl) rfl rfl ?_) | (refine gStore ?_; refine stN (ok_store rfl rfl rfl rfl (by rfl)) rfl ?_)) | (refine gG ?_; first | (refine gMove ?_; refine stGA rfl (ok_move rfl) rfl rfl ?_) | (refine gLoad ?_; refine stGA rfl (ok_load rfl (by rfl)) rfl rfl ?_) | (refine gIA ?_; refine stGA rfl (ok_idxA rfl rfl (by omega) (by omega)) rfl rfl ?_)) | refine W_seq ?_ | refine W_region ?_ | refine st_nil ?_ | refine tq_n ?_)
              refine st_yieldG (l := 17) rfl rfl (by rw [hL]; rfl) rfl rfl rfl (fun _ _ _ _ he => wanted_rel (b := true) (by rw [wantedA_some (b := decide (z = (x : Int))) rfl, decide_eq_true hz]; rfl) he) ?_
              repeat' (first | (refine gU ?_; (refine gAssign ?_; refine st (ok_assign rfl) rfl rfl ?_)) | refine W_region ?_ | refine st_nil ?_)
              refine roundA_n (by rw [hL]; rfl) ?_
              repeat' (first | (refine gU ?_; first | (refine gMove ?_; refine st (ok_move rfl) rfl rfl ?_) | (refine gLoad ?_; refine st (ok_load rfl (by first | rfl | exact hcs _)) rfl rfl ?_) | (refine gBin ?_; refine st (ok_bin rfl rfl rfl) rfl rfl ?_) | (refine gNot ?_; refine st (ok_not' rfl) rfl rfl ?_) | (refine gIA ?_; refine st (ok_idxAN rfl rfl (by omega)) rfl rfl ?_) | (refine gCall ?_; refine st (ok_call rfl rfl rfl (by exact hti _ (by simp [isIter]; exact hQi))) rfl rfl ?_) | (refine gStore ?_; refine stN (ok_store rfl rfl rfl rfl (by exact hput _)) rfl ?_)) | refine W_seq ?_ | refine W_stop (id := 13) ?_ | refine W_region ?_ | refine st_nil ?_ | refine tq_n ?_ | refine W_skip ?_ | refine W_block ?_ | refine W_condTA rfl ?_ | refine W_condFA rfl ?_)
              refine ⟨?_⟩
              refine (W_region ?_)
              cases sg with
              | none =>
                obtain rfl : q = [] := hqk
                repeat' (first | (refine gU ?_; first | (refine gMove ?_; refine st (ok_move rfl) rfl rfl ?_) | (refine gLoad ?_; refine st (ok_load rfl (by rfl)) rfl rfl ?_) | (refine gBuildS ?_; refine st (ok_buildS (by rfl) (by rfl) (by rfl) (by rfl) rfl (by rfl)) rfl rfl ?_) | (refine gApp ?_; refine st (ok_appendE (by rfl) rfl rfl (by rfl) (by omega) (by omega) (by omega)) rfl rfl ?_) | (refine gStore ?_; refine stN (ok_store rfl rfl rfl rfl (by rfl)) rfl ?_)) | refine st_nil ?_ | refine bq_n ?_)
                refine roundB_n rfl rfl ?_
                repeat' (first | (refine gU ?_; first | (refine gMove ?_; refine st (ok_move rfl) rfl rfl ?_) | (refine gAdd ?_; refine st (ok_inc rfl rfl (by omega)) rfl rfl ?_) | (refine gPick ?_; refine st (ok_pickTA rfl rfl) rfl rfl ?_)) | (refine gG ?_; (refine gNot ?_; refine stGA rfl (ok_not' rfl) rfl rfl ?_)) | refine W_region ?_ | refine st_nil ?_ | refine tq_n ?_ | refine bq_n ?_ | refine W_skip ?_ | refine W_condFA rfl ?_)
                refine ⟨rfl, (k + 1, [(y : Int)], setB sn y true, some []), ⟨by simp only; omega, hm, by simp [qok]⟩, by simp only; omega, ?_⟩
                rw [hL]
                exact StRef.all _ 18 [21] (by simp) rfl rfl (subsI (j := 21) (pre_of rfl) rfl rfl rfl rfl rfl rfl (fun _ => rfl) (by have := hLc 18 (by omega); rw [hL] at this; exact this)) (by (repeat' (first | exact trivial | refine ⟨er_plain rfl rfl, ?_⟩ | refine ⟨er_closed (m := 18) rfl (fun i hi => srcR_lt hi) (by simp) (by first | rfl | exact closed_slice rfl) rfl, ?_⟩)))
              | some ju =>
                repeat' ((refine gU ?_; first | (refine gMove ?_; refine st (ok_move rfl) rfl rfl ?_) | (refine gLoad ?_; refine st (ok_load rfl (by rfl)) rfl rfl ?_) | (refine gBuildS ?_; refine st (ok_buildS (by rfl) (by rfl) (by rfl) (by rfl) rfl (by rfl)) rfl rfl ?_)))
                have hju : ju ++ q ≠ [] := hqk
                refine st_E (ok_appendQ (el := 3) (size := 1) (i := 18) (o := ju.length) (n := q.length) (cs := ints (ju ++ q)) (news := [.int .i64 (y : Int)]) (by rfl) rfl rfl rfl (by simp [ints]) (by simpa [ints] using hju) rfl rfl (by omega) rfl (by omega) (by decide)) rfl rfl ?_
                rintro v σ' ⟨o', cs', h1, h2, h3, hv, rfl⟩
                obtain ⟨sg2, hs1, rfl⟩ : ∃ sg2, v = qV 21 (some sg2) (q ++ [(y : Int)]) ∧ cs' = ints (sg2 ++ (q ++ [(y : Int)])) := by
                  rcases h3 with ⟨rfl, h3⟩ | ⟨rfl, h3⟩
                  · exact ⟨ju, hv.trans (show slq 21 ju.length 1 (q.length + 1) = _ from by simp [qV]), by rw [h3]; simp [ints]⟩
                  · exact ⟨[], hv.trans (show slq 21 0 1 (q.length + 1) = _ from by simp [qV]), by rw [h3]; simp [ints]⟩
                subst hs1
                clear hv h1 h2 h3
                repeat' (first | (refine gU ?_; (refine gStore ?_; refine stN (ok_store rfl rfl rfl rfl (by rfl)) rfl ?_)) | refine st_nil ?_ | refine bq_n ?_)
                refine roundB_n rfl rfl ?_
                repeat' (first | (refine gU ?_; first | (refine gMove ?_; refine st (ok_move rfl) rfl rfl ?_) | (refine gAdd ?_; refine st (ok_inc rfl rfl (by omega)) rfl rfl ?_) | (refine gPick ?_; refine st (ok_pickTA rfl rfl) rfl rfl ?_)) | (refine gG ?_; (refine gNot ?_; refine stGA rfl (ok_not' rfl) rfl rfl ?_)) | refine W_region ?_ | refine st_nil ?_ | refine tq_n ?_ | refine bq_n ?_ | refine W_skip ?_ | refine W_condFA rfl ?_)
                refine ⟨rfl, (k + 1, q ++ [(y : Int)], setB sn y true, some sg2), ⟨by simp only; omega, hm, by simp [qok]⟩, by simp only; omega, ?_⟩
                rw [hL]
                exact StRef.all _ 18 [21] (by simp) rfl rfl (subsI (j := 21) (pre_of rfl) rfl rfl rfl rfl rfl rfl (fun _ => rfl) (by have := hLc 18 (by omega); rw [hL] at this; exact this)) (by (repeat' (first | exact trivial | refine ⟨er_plain rfl rfl, ?_⟩ | refine ⟨er_closed (m := 18) rfl (fun i hi => srcR_lt hi) (by simp) (by first | rfl | exact closed_slice rfl) rfl, ?_⟩)))
      · have hm := hsk (fun h => hz h.1)
        clear hsk hseen hhit hpush
        repeat' (first | (refine gU ?_; (refine gBin ?_; refine st (ok_bin rfl rfl rfl) rfl rfl ?_)) | refine W_seq ?_ | refine W_stop (id := 2) ?_ | refine W_region ?_ | refine st_nil ?_ | refine tq_n ?_ | refine W_skip ?_ | refine W_block ?_ | refine W_condTA rfl ?_)
        refine ⟨?_⟩
        refine (W_region ?_)
        repeat' (first | (refine gU ?_; first | (refine gMove ?_; refine st (ok_move rfl) rfl rfl ?_) | (refine gLoad ?_; first | refine st (ok_load rfl (by rfl)) rfl rfl ?_ | refine st (ok_loadA rfl (by exact hd2 _)) rfl rfl ?_) | (refine gAdd ?_; refine st (ok_inc rfl rfl (by omega)) rfl rfl ?_) | (refine gBin ?_; refine st (ok_bin rfl rfl rfl) rfl rfl ?_) | (refine gPick ?_; refine st (ok_pickFA rfl rfl) rfl rfl ?_) | (refine gIA ?_; first | refine st (ok_idxSN rfl rfl (by omega)) rfl rfl ?_ | refine st (ok_idxA rfl rfl (by omega) (by omega)) rfl rfl ?_) | (refine gAlloc ?_; refine st (ok_alloc rfl) rfl rfl ?_) | (refine gStore ?_; refine stN (ok_store rfl rfl rfl rfl (by rfl)) rfl ?_)) | (refine gG ?_; refine stSA rfl rfl ?_) | refine W_seq ?_ | refine W_region ?_ | refine st_nil ?_ | refine tq_n ?_ | refine bq_n ?_ | refine W_skip ?_ | refine W_condFA rfl ?_)
        exact ⟨rfl, (k + 1, q, sn, sg), ⟨by simp only; omega, hm, hqk⟩, by simp only; omega, StRef.drop [.ro (flL 1 2 3 S (fun i => bI (rB S i))), .ro (ints S.d), .ro (pc S.f), .ro (ints S.s), .ro [.pointer (some ⟨0, 0, none⟩)], .ro [.int .i64 a, .int .i64 b], .ro (rx l), .rw [.func (.func 90) #[] #[.pointer (some ⟨4, 0, none⟩), .pointer (some ⟨5, 0, none⟩), .pointer (some ⟨6, 0, none⟩)]], .rw [.int .i64 dst], .rw [.bool false], .rw (rx (fun i => bI (sn i))), .rw [qV 18 sg q], .dead, .rw [.int .i64 (x : Int)], .rw [.pointer (some ⟨0, 0, none⟩)], .rw [.int .i64 (x : Int)], .dfr, L, qO sg q] [_] (by simp) (hc_i19 S a b l dst sn sg q x L (hLc 19 (by omega))) (by (repeat' (first | exact trivial | exact ⟨rfl, rfl, rfl⟩ | exact ⟨rfl, closed_slice rfl, rfl⟩ | refine ⟨?_, ?_⟩)))⟩
    · obtain rfl : k = S.f.length := by omega
      have hB := hm.fin
      have hcle := cntB_le sn 10
      have hmm := hm.m
      repeat' (first | (refine gU ?_; (refine gBin ?_; refine st (ok_bin rfl rfl rfl) rfl rfl ?_)) | refine W_seq ?_ | refine W_region ?_ | refine st_nil ?_ | refine tq_n ?_ | refine tq_e ?_ | refine bq_hit rfl ?_ | refine W_exit ?_ | refine W_condFA rfl ?_)
      refine retN .nil .all ⟨_, _, _, _, _, _, _, by rw [hL]; rfl, by simp, ?_⟩
      dsimp only
      repeat' (first | refine tq_n ?_ | refine bq_n ?_)
      exact ⟨(q, sn, sg), ⟨⟨hB, hqk⟩, by simp only [List.length_cons]; omega⟩, Tail.StRefD.src [.ro (flL 1 2 3 S (fun i => bI (rB S i))), .ro (ints S.d), .ro (pc S.f), .ro (ints S.s), .ro [.pointer (some ⟨0, 0, none⟩)], .ro [.int .i64 a, .int .i64 b], .ro (rx l), .rw [.func (.func 90) #[] #[.pointer (some ⟨4, 0, none⟩), .pointer (some ⟨5, 0, none⟩), .pointer (some ⟨6, 0, none⟩)]], .rw [.int .i64 dst], .rw [.bool false], .rw (rx (fun i => bI (sn i)))] [.rw [qV 12 sg q], qO sg q] [11, 18] 16 (by simp) rfl (hc_c11 S a b l dst sn (by simp)) rfl rfl rfl (subsD (c := 11) (j := 18) (d := 16) rfl (fun _ => rfl)) (by (repeat' (first | exact trivial | refine ⟨er_closed (m := 11) rfl (fun i hi => srcR_lt hi) (by simp) (by rfl) rfl, ?_⟩ | refine ⟨er_ptr rfl (by simp) rfl, ?_⟩)))⟩
end Go.Proofs.Ytomioaiojidnbaa
namespace Go.AH.Dust
open Go Go.AH
open Classical in
noncomputable def onC (S : Shp) (a b : Int) (l : Nat → Int) (way : List Int) (at_ on : Int) (p : Int × Int) : Bool :=
  decide (p.1 = at_) && (tigB S a b l at_.toNat p.2.toNat && ((decide (on < 0) || decide (p.2 ∈ way)) && comB S a b l p.2 p.2))
noncomputable def onS (S : Shp) (a b : Int) (l : Nat → Int) (way : List Int) (at_ : Int) : Nat → Int
  | 0 => -1
  | k + 1 => if onC S a b l way at_ (onS S a b l way at_ k) (gf S.f k) = true then (gf S.f k).2 else onS S a b l way at_ k
theorem onS_w {S : Shp} (hS : S.ok) {a b : Int} {l : Nat → Int} {way : List Int} {at_ : Int} : ∀ {k : Nat}, k ≤ S.f.length → onS S a b l way at_ k = -1 ∨ isW S (onS S a b l way at_ k)
  | 0, _ => .inl rfl
  | k + 1, h => by
    unfold onS
    split
    · exact .inr (hS.f k (by omega)).2.1
    · exact onS_w hS (by omega)
noncomputable def srchS (S : Shp) (a b : Int) (l : Nat → Int) (way : List Int) : Option (List Int × Nat) :=
  if _h : way.length ≤ S.d.length then
    if onS S a b l way (gi way (way.length - 1)) S.f.length < 0 then none
    else if 0 ≤ ixP (fun i => decide (gi way i = onS S a b l way (gi way (way.length - 1)) S.f.length)) way.length then
      some (way, (ixP (fun i => decide (gi way i = onS S a b l way (gi way (way.length - 1)) S.f.length)) way.length).toNat)
    else srchS S a b l (way ++ [onS S a b l way (gi way (way.length - 1)) S.f.length])
  else none
termination_by S.d.length + 1 - way.length
decreasing_by simp only [List.length_append, List.length_singleton]; omega
noncomputable def rndS (S : Shp) (a b : Int) (l : Nat → Int) (k : Nat) : Option (List Int × Nat) :=
  if _h : k < S.d.length then
    match srchS S a b l [(k : Int)] with
    | some o => some o
    | none => rndS S a b l (k + 1)
  else none
termination_by S.d.length - k
def rV (n : Nat) : Option (List Int × Nat) → Value
  | none => .slice none 0 0
  | some (w, i) => .slice (some ⟨n, i, none⟩) (w.length - i) (w.length - i)
def rO : Option (List Int × Nat) → Heap
  | none => []
  | some (w, _) => [.rw (ints w)]
theorem ixP_lt {q : Nat → Bool} {n : Nat} (h : 0 ≤ ixP q n) : ixP q n < n := by
  unfold ixP at *
  split at h
  · rename_i i hi
    have := List.mem_of_find?_eq_some hi
    rw [List.mem_range] at this
    omega
  · omega
theorem ps_slq {x k : Nat} (h : 0 < k) : PS x 0 k (slq x 0 1 k) := by
  have := ps_slv (x := x) (sz := 1) (k := k)
  cases k with
  | zero => omega
  | succ k => exact this
theorem hc_8 {n : Nat} (hn : 7 ≤ n) (S : Shp) (a b : Int) (l : Nat → Int) {r : Heap} (hr : HClosed n r) : HClosed n ([.ro (flL 1 2 3 S (fun i => bI (rB S i))), .ro (ints S.d), .ro (pc S.f), .ro (ints S.s), .rw [.pointer (some ⟨0, 0, none⟩)], .rw [.int .i64 a, .int .i64 b], .rw (rx l), .rw [.func (.func 90) #[] #[.pointer (some ⟨4, 0, none⟩), .pointer (some ⟨5, 0, none⟩), .pointer (some ⟨6, 0, none⟩)]]] ++ r) := by
  have hp : ∀ i, i < 7 → Nat.blt i n = true := fun i hi => Nat.blt_eq.mpr (by omega)
  refine ⟨fl_closed (by omega), plainL_closed (ints_plain _), plainL_closed (pc_plain _), plainL_closed (ints_plain _), ⟨by simp [closedL, closed, hp], rfl⟩, plainL_closed rfl, plainL_closed (rx_plain _), ⟨?_, rfl⟩, hr⟩
  simp [closedL, closed, closedA, hp]
theorem hc_c8 (S : Shp) (a b : Int) (l : Nat → Int) {n : Nat} (hn : 7 ≤ n) : HClosed n [.ro (flL 1 2 3 S (fun i => bI (rB S i))), .ro (ints S.d), .ro (pc S.f), .ro (ints S.s), .rw [.pointer (some ⟨0, 0, none⟩)], .rw [.int .i64 a, .int .i64 b], .rw (rx l), .rw [.func (.func 90) #[] #[.pointer (some ⟨4, 0, none⟩), .pointer (some ⟨5, 0, none⟩), .pointer (some ⟨6, 0, none⟩)]]] := by
  have := hc_8 hn S a b l (r := []) trivial
  simpa using this
theorem hc_c10 (S : Shp) (a b : Int) (l : Nat → Int) (way : List Int) : HClosed 10 [.ro (flL 1 2 3 S (fun i => bI (rB S i))), .ro (ints S.d), .ro (pc S.f), .ro (ints S.s), .rw [.pointer (some ⟨0, 0, none⟩)], .rw [.int .i64 a, .int .i64 b], .rw (rx l), .rw [.func (.func 90) #[] #[.pointer (some ⟨4, 0, none⟩), .pointer (some ⟨5, 0, none⟩), .pointer (some ⟨6, 0, none⟩)]], .gr (ints way) 3, .rw [qV 8 (some []) way]] :=
  hc_8 (by omega) S a b l ⟨plainL_closed (ints_plain _), qc_closed (by omega), trivial⟩
theorem hc_i16 (S : Shp) (a b : Int) (l : Nat → Int) (way : List Int) (x : Nat) (on : Int) (L : AObj) (hL : oclosed 16 L) : HClosed 16 [.ro (flL 1 2 3 S (fun i => bI (rB S i))), .ro (ints S.d), .ro (pc S.f), .ro (ints S.s), .rw [.pointer (some ⟨0, 0, none⟩)], .rw [.int .i64 a, .int .i64 b], .rw (rx l), .rw [.func (.func 90) #[] #[.pointer (some ⟨4, 0, none⟩), .pointer (some ⟨5, 0, none⟩), .pointer (some ⟨6, 0, none⟩)]], .gr (ints way) 3, .rw [qV 8 (some []) way], .rw [.int .i64 (x : Int)], .rw [.int .i64 on], .rw [.pointer (some ⟨0, 0, none⟩)], .rw [.int .i64 (x : Int)], .dfr, L] :=
  hc_8 (by omega) S a b l ⟨plainL_closed (ints_plain _), qc_closed (by omega), plainL_closed rfl, plainL_closed rfl, ⟨rfl, rfl⟩, plainL_closed rfl, trivial, hL, trivial⟩
theorem subs8 {σ : Heap} {q : List Int} {c j d : Nat} (hcell : σ[c]? = some (.rw [qV j (some []) q])) (hg : σ[j]? = some (.gr (ints q) 3)) : OSubs σ 11 (srcR 8 [j, c, d]) 8 [.gr (ints q) 3, .rw [qV 8 (some []) q]] := by
  refine ⟨osub_gr (j := j) rfl hg (ints_plain _), ?_, trivial⟩
  have h1 : srcR 8 [j, c, d] 9 = ⟨c, 0, 0⟩ := rfl
  refine .inr ⟨by rw [h1], [qV j (some []) q], .inl (by rw [h1]; exact hcell), Nat.le_refl _, fun a ha ha' => ?_⟩
  match a, ha with
  | 0, _ =>
    have := VQ.gsliceG (q := true) (n := 11) (ρ := srcR 8 [j, c, d]) 8 0 q.length q.length q.length 1 (Nat.le_refl _) (by omega) rfl
    simpa [qV, srcR] using this
end Go.AH.Dust
namespace Go.Proofs.Ytomioaiojidnbaa
open Go Go.AH
attribute [local irreducible] WOps WCode WFree retQ thenQ blockQ scopeQ OpOk ACall RetRef roundA roundB
set_option maxRecDepth 100000
set_option maxHeartbeats 1000000
open Go.AH.Dust
theorem comes_ev {σ : Heap} {S : Shp} {a b : Int} {l : Nat → Int} {src dst : Int} {p x y z u v w : Nat} (h : TAt σ p x y z u v w S a b l) (hS : S.ok) (hL : Lev a b l) (hsrc : isW S src) (hni : σ.all (fun o => !isIter o) = true) :
    Ev Try.prog 91 [.pointer (some ⟨p, 0, none⟩), .func (.func 90) #[] #[.pointer (some ⟨u, 0, none⟩), .pointer (some ⟨v, 0, none⟩), .pointer (some ⟨w, 0, none⟩)], .int .i64 src, .int .i64 dst] σ (.bool (comB S a b l src dst)) σ := by
  refine h.ev (comes_ok S hS a b l hL src dst hsrc) ⟨VQ.ptr (q := true) (n := 7) (ρ := bsR [p, x, y, z, u, v, w]) 0 0 (by omega), ?_, .int _ _, .int _ _, trivial⟩ rfl hni
  refine .func 90 _ _ _ _ rfl rfl (fun i h _ => absurd h (by simp)) fun i h h' => ?_
  match i, h with
  | 0, _ => exact VQ.ptr (q := true) (n := 7) (ρ := bsR [p, x, y, z, u, v, w]) 4 0 (by omega)
  | 1, _ => exact VQ.ptr (q := true) (n := 7) (ρ := bsR [p, x, y, z, u, v, w]) 5 0 (by omega)
  | 2, _ => exact VQ.ptr (q := true) (n := 7) (ρ := bsR [p, x, y, z, u, v, w]) 6 0 (by omega)
theorem round_ok (S : Shp) (hS : S.ok) (a b : Int) (l : Nat → Int) (hLv : Lev a b l) :
    Ev Try.prog 73 [.pointer (some ⟨0, 0, none⟩), .agg #[.int .i64 a, .int .i64 b], .agg (rx l).toArray] [.ro (flL 1 2 3 S (fun i => bI (rB S i))), .ro (ints S.d), .ro (pc S.f), .ro (ints S.s)] (rV 4 (rndS S a b l 0)) ([.ro (flL 1 2 3 S (fun i => bI (rB S i))), .ro (ints S.d), .ro (pc S.f), .ro (ints S.s)] ++ rO (rndS S a b l 0)) := by
  have n10 := hS.n10
  have f60 := hS.f60
  refine acall_intro 4 88 Try.func73 rfl rfl rfl rfl rfl ?_
  repeat' (first | (refine gU ?_; first | (refine gMove ?_; refine st (ok_move rfl) rfl rfl ?_) | (refine gAssign ?_; refine st (ok_assign rfl) rfl rfl ?_) | (refine gFA ?_; refine st (ok_fieldAddr rfl) rfl rfl ?_) | (refine gLoad ?_; refine st (ok_load rfl (by rfl)) rfl rfl ?_) | (refine gLen ?_; refine st (ok_len rfl) rfl rfl ?_) | (refine gNil ?_; refine st (ok_nilP rfl) rfl rfl ?_) | (refine gMkF ?_; refine st (ok_makeFunc rfl rfl) rfl rfl ?_) | (refine gBox ?_; refine st (ok_box rfl) rfl rfl ?_) | (refine gAlloc ?_; refine st (ok_alloc rfl) rfl rfl ?_) | (refine gStore ?_; refine stN (ok_store rfl rfl rfl rfl (by rfl)) rfl ?_)) | refine W_seq ?_ | refine W_region ?_ | refine st_nil ?_ | refine tq_n ?_ | refine W_block ?_ | refine W_scope ?_ | refine W_label ?_)
  refine Tail.W_loopD (ι := Nat) (fun s => [(3, .pointer (some ⟨4, 0, none⟩)), (7, .pointer (some ⟨7, 0, none⟩)), (8, .slice none 0 0), (21, .int .i64 (S.d.length : Int)), (22, .int .i64 (s : Int))])
    (fun _ => [.ro (flL 1 2 3 S (fun i => bI (rB S i))), .ro (ints S.d), .ro (pc S.f), .ro (ints S.s), .rw [.pointer (some ⟨0, 0, none⟩)], .rw [.int .i64 a, .int .i64 b], .rw (rx l), .rw [.func (.func 90) #[] #[.pointer (some ⟨4, 0, none⟩), .pointer (some ⟨5, 0, none⟩), .pointer (some ⟨6, 0, none⟩)]]]) (fun s => S.d.length - s) (fun s => s ≤ S.d.length ∧ rndS S a b l 0 = rndS S a b l s) 0 rfl (by (repeat' (first | exact Tail.tail_ret rfl | refine Tail.tail_then ?_ ?_ | refine Tail.tail_block ?_ | refine Tail.tail_scope ?_ | refine Tail.W_tail rfl ?_))) (fun _ => by simp) (fun _ _ => hc_c8 S a b l (by simp))
    (.of (.same ⟨rfl, rfl, rfl, rfl, rfl, trivial⟩) (by simp)) ⟨Nat.zero_le _, rfl⟩ ?_
  intro k ⟨hk, hr⟩
  by_cases hkd : k < S.d.length
  · have hrn : srchS S a b l [(k : Int)] = none → rndS S a b l 0 = rndS S a b l (k + 1) := fun h => by
      rw [hr, rndS, dif_pos hkd, h]
    have hry : ∀ o, srchS S a b l [(k : Int)] = some o → rndS S a b l 0 = some o := fun o h => by
      rw [hr, rndS, dif_pos hkd, h]
    clear hr
    repeat' (first | (refine gU ?_; first | (refine gMove ?_; refine st (ok_move rfl) rfl rfl ?_) | (refine gAssign ?_; refine st (ok_assign rfl) rfl rfl ?_) | (refine gBin ?_; refine st (ok_bin rfl rfl rfl) rfl rfl ?_)) | refine W_seq ?_ | refine W_stop (id := 6) ?_ | refine W_region ?_ | refine st_nil ?_ | refine tq_n ?_ | refine W_skip ?_ | refine W_block ?_ | refine W_condTA rfl ?_)
    refine ⟨?_⟩
    refine (W_region ?_)
    refine st (ok_move rfl) rfl rfl ?_
    refine st (ok_buildSG (by rfl) (by rfl) (by rfl) (by rfl) rfl (by rfl)) rfl rfl ?_
    repeat' (first | (refine gU ?_; first | (refine gAlloc ?_; refine st (ok_alloc rfl) rfl rfl ?_) | (refine gStore ?_; refine stN (ok_store rfl rfl rfl rfl (by rfl)) rfl ?_)) | refine st_nil ?_ | refine tq_n ?_ | refine W_block ?_)
    refine Tail.W_loopD (ι := List Int) (fun way => [(3, .pointer (some ⟨4, 0, none⟩)), (7, .pointer (some ⟨7, 0, none⟩)), (8, .slice none 0 0), (10, .pointer (some ⟨9, 0, none⟩)), (21, .int .i64 (S.d.length : Int)), (22, .int .i64 (k : Int))])
      (fun way => [.ro (flL 1 2 3 S (fun i => bI (rB S i))), .ro (ints S.d), .ro (pc S.f), .ro (ints S.s), .rw [.pointer (some ⟨0, 0, none⟩)], .rw [.int .i64 a, .int .i64 b], .rw (rx l), .rw [.func (.func 90) #[] #[.pointer (some ⟨4, 0, none⟩), .pointer (some ⟨5, 0, none⟩), .pointer (some ⟨6, 0, none⟩)]], .gr (ints way) 3, .rw [qV 8 (some []) way]]) (fun way => S.d.length + 1 - way.length) (fun way => way ≠ [] ∧ (∀ x ∈ way, isW S x) ∧ srchS S a b l [(k : Int)] = srchS S a b l way) [(k : Int)] rfl (by (repeat' (first | exact Tail.tail_ret rfl | exact Tail.tail_loopD | refine Tail.tail_then ?_ ?_ | refine Tail.tail_block ?_ | refine Tail.tail_scope ?_ | refine Tail.W_tail rfl ?_))) (fun _ => by simp) (fun way _ => hc_c10 S a b l way)
      (.of (.same ⟨rfl, rfl, rfl, rfl, rfl, rfl, trivial⟩) (by simp)) ⟨by simp, fun x hx => by rw [List.mem_singleton.1 hx]; exact ⟨by omega, by omega⟩, rfl⟩ ?_
    intro way ⟨hw0, hww, hsr⟩
    have hwp : 0 < way.length := List.length_pos_iff.2 hw0
    by_cases hwl : way.length ≤ S.d.length
    · obtain ⟨x, hx⟩ : ∃ x : Nat, gi way (way.length - 1) = (x : Int) := ⟨(gi way (way.length - 1)).toNat, by have := (hww _ (mem_gi.2 ⟨way.length - 1, by omega, rfl⟩)).1; omega⟩
      have hxd : x < S.d.length := by have := (hww _ (mem_gi.2 ⟨way.length - 1, by omega, rfl⟩)).2; omega
      have e1 : ((way.length : Nat) : Int) - 1 = ((way.length - 1 : Nat) : Int) := by omega
      have hc2 : ∀ σ' : Heap, cellGet (AObj.ro (flL 1 2 3 S (fun i => bI (rB S i))) :: .ro (ints S.d) :: .ro (pc S.f) :: .ro (ints S.s) :: .rw [.pointer (some ⟨0, 0, none⟩)] :: .rw [.int .i64 a, .int .i64 b] :: .rw (rx l) :: .rw [.func (.func 90) #[] #[.pointer (some ⟨4, 0, none⟩), .pointer (some ⟨5, 0, none⟩), .pointer (some ⟨6, 0, none⟩)]] :: .gr (ints way) 3 :: .rw [qV 8 (some []) way] :: σ') 8 (0 + (way.length - 1) * 1) = some (.int .i64 (x : Int)) := fun σ' => by
        show (ints way)[0 + (way.length - 1) * 1]? = _
        rw [Nat.mul_one, Nat.zero_add, ints_get (by omega), hx]
      have hnx := next_ev (σ := [.ro (flL 1 2 3 S (fun i => bI (rB S i))), .ro (ints S.d), .ro (pc S.f), .ro (ints S.s), .rw [.pointer (some ⟨0, 0, none⟩)], .rw [.int .i64 a, .int .i64 b], .rw (rx l), .rw [.func (.func 90) #[] #[.pointer (some ⟨4, 0, none⟩), .pointer (some ⟨5, 0, none⟩), .pointer (some ⟨6, 0, none⟩)]], .gr (ints way) 3, .rw [qV 8 (some []) way], .rw [.int .i64 (x : Int)], .rw [.int .i64 (-1)]]) (S := S) (r := fun i => bI (rB S i)) (n := (x : Int)) (p := 0) (x := 1) (y := 2) (z := 3) ⟨.inl rfl, .inl rfl, .inl rfl, .inl rfl⟩ rfl
      repeat' (first | (refine gU ?_; first | refine st (ok_idxQ (k := way.length - 1) rfl (congrArg (fun z => some (Value.int .i64 z)) e1) (by omega)) rfl rfl ?_ | (refine gLoad ?_; refine st (ok_load rfl (by first | rfl | exact hc2 _)) rfl rfl ?_) | (refine gSub ?_; refine st (ok_sub rfl rfl (by omega) (by omega)) rfl rfl ?_) | (refine gLen ?_; refine st (ok_len rfl) rfl rfl ?_) | (refine gCall ?_; refine st (ok_call rfl rfl rfl (by exact hnx)) rfl rfl ?_) | (refine gAlloc ?_; refine st (ok_alloc rfl) rfl rfl ?_) | (refine gStore ?_; refine stN (ok_store rfl rfl rfl rfl (by rfl)) rfl ?_)) | (refine fU ?_; first | (refine fMove ?_; refine frA (ok_move rfl) rfl ?_) | (refine fLoad ?_; refine frA (ok_load rfl (by rfl)) rfl ?_) | (refine fBin ?_; refine frA (ok_bin rfl rfl rfl) rfl ?_) | (refine fLen ?_; refine frA (ok_len rfl) rfl ?_) | (refine fPick ?_; refine frA (ok_pickTA rfl rfl) rfl ?_)) | (refine fG ?_; first | (refine fFA ?_; refine frGA rfl (ok_fieldAddr rfl) rfl ?_) | (refine fLoad ?_; refine frGA rfl (ok_load rfl (by rfl)) rfl ?_) | (refine fBin ?_; refine frGA rfl (ok_bin rfl rfl rfl) rfl ?_) | (refine fLen ?_; refine frGA rfl (ok_len rfl) rfl ?_) | (refine fNil ?_; refine frGA rfl (ok_nilP rfl) rfl ?_)) | (refine fr_stop ⟨by kernel_rfl, ?_⟩) | refine W_seq ?_ | refine W_region ?_ | refine W_regionD (by kernel_rfl) rfl ?_ | refine st_nil ?_ | refine tq_n ?_ | refine W_skip ?_ | refine W_block ?_ | refine W_condTA rfl ?_)
      refine W_st (by simp) (.same (e2 := [(3, .pointer (some ⟨4, 0, none⟩)), (7, .pointer (some ⟨7, 0, none⟩)), (8, .slice none 0 0), (10, .pointer (some ⟨9, 0, none⟩)), (11, .pointer (some ⟨10, 0, none⟩)), (12, .pointer (some ⟨11, 0, none⟩)), (21, .int .i64 (S.d.length : Int)), (22, .int .i64 (k : Int)), (49, .func (.func 87) #[] #[.pointer (some ⟨12, 0, none⟩), .pointer (some ⟨13, 0, none⟩)])]) ⟨rfl, rfl, rfl, rfl, rfl, rfl, rfl, rfl, rfl, trivial⟩) ?_
      refine W_rangeFuncL (p := []) (q := [.pointer (some ⟨12, 0, none⟩), .pointer (some ⟨13, 0, none⟩)]) rfl fun L hL => ?_
      have hLc : oclosed 16 L := by
        rw [hL]
        exact env_closed fun p hp => by
          simp only [List.mem_cons, List.not_mem_nil, or_false] at hp
          rcases hp with rfl | rfl | rfl | rfl | rfl | rfl | rfl | rfl | rfl <;> exact ⟨rfl, rfl⟩
      have hLi : isIter L = false := by rw [hL]; rfl
      refine acall_intro 16 28 Try.func87 rfl rfl rfl rfl rfl ?_
      repeat' (first | (refine gU ?_; first | (refine gMove ?_; refine st (ok_move rfl) rfl rfl ?_) | (refine gFA ?_; refine st (ok_fieldAddr rfl) rfl rfl ?_) | (refine gLoad ?_; refine st (ok_load rfl (by rfl)) rfl rfl ?_) | (refine gLen ?_; refine st (ok_len rfl) rfl rfl ?_) | (refine gNil ?_; refine st (ok_nilP rfl) rfl rfl ?_)) | refine W_seq ?_ | refine W_region ?_ | refine st_nil ?_ | refine tq_n ?_ | refine W_block ?_)
      refine W_loopS (ι := Nat) (fun s => [(0, .func (.yield 15) #[] #[]), (1, .pointer (some ⟨12, 0, none⟩)), (2, .pointer (some ⟨13, 0, none⟩)), (10, sl 2 S.f.length), (11, .int .i64 (S.f.length : Int)), (12, .int .i64 (s : Int))])
        (fun s => [.ro (flL 1 2 3 S (fun i => bI (rB S i))), .ro (ints S.d), .ro (pc S.f), .ro (ints S.s), .rw [.pointer (some ⟨0, 0, none⟩)], .rw [.int .i64 a, .int .i64 b], .rw (rx l), .rw [.func (.func 90) #[] #[.pointer (some ⟨4, 0, none⟩), .pointer (some ⟨5, 0, none⟩), .pointer (some ⟨6, 0, none⟩)]], .gr (ints way) 3, .rw [qV 8 (some []) way], .rw [.int .i64 (x : Int)], .rw [.int .i64 (onS S a b l way (x : Int) s)], .rw [.pointer (some ⟨0, 0, none⟩)], .rw [.int .i64 (x : Int)], .dfr, L]) (fun s => S.f.length - s) (fun s => s ≤ S.f.length) 0 (by simp) (.same ⟨rfl, rfl, rfl, rfl, rfl, rfl, trivial⟩) (Nat.zero_le _) ?_
      clear hnx
      intro k2 hk2
      by_cases hkl : k2 < S.f.length
      · have hd2 : ∀ σ' : Heap, cellsAt (.ro (flL 1 2 3 S (fun i => bI (rB S i))) :: .ro (ints S.d) :: .ro (pc S.f) :: σ') 2 (0 + k2 * 2) 2 = some [.int .i64 (gf S.f k2).1, .int .i64 (gf S.f k2).2] := fun σ' => pc_cells (.inl rfl) hkl
        obtain ⟨hw1, hw2, -⟩ := hS.f k2 hkl
        have hon := onS_w hS (a := a) (b := b) (l := l) (way := way) (at_ := (x : Int)) hk2
        have hos : onS S a b l way (x : Int) (k2 + 1) = if onC S a b l way (x : Int) (onS S a b l way (x : Int) k2) (gf S.f k2) = true then (gf S.f k2).2 else onS S a b l way (x : Int) k2 := rfl
        have hti : ∀ y : Nat, y < S.d.length → ∀ σ' : Heap, (AObj.ro (flL 1 2 3 S (fun i => bI (rB S i))) :: .ro (ints S.d) :: .ro (pc S.f) :: .ro (ints S.s) :: .rw [.pointer (some ⟨0, 0, none⟩)] :: .rw [.int .i64 a, .int .i64 b] :: .rw (rx l) :: .rw [.func (.func 90) #[] #[.pointer (some ⟨4, 0, none⟩), .pointer (some ⟨5, 0, none⟩), .pointer (some ⟨6, 0, none⟩)]] :: σ').all (fun o => !isIter o) = true → Ev Try.prog 90 [.int .i64 (x : Int), .int .i64 (y : Int), .pointer (some ⟨4, 0, none⟩), .pointer (some ⟨5, 0, none⟩), .pointer (some ⟨6, 0, none⟩)] (AObj.ro (flL 1 2 3 S (fun i => bI (rB S i))) :: .ro (ints S.d) :: .ro (pc S.f) :: .ro (ints S.s) :: .rw [.pointer (some ⟨0, 0, none⟩)] :: .rw [.int .i64 a, .int .i64 b] :: .rw (rx l) :: .rw [.func (.func 90) #[] #[.pointer (some ⟨4, 0, none⟩), .pointer (some ⟨5, 0, none⟩), .pointer (some ⟨6, 0, none⟩)]] :: σ') (.bool (tigB S a b l x y)) (AObj.ro (flL 1 2 3 S (fun i => bI (rB S i))) :: .ro (ints S.d) :: .ro (pc S.f) :: .ro (ints S.s) :: .rw [.pointer (some ⟨0, 0, none⟩)] :: .rw [.int .i64 a, .int .i64 b] :: .rw (rx l) :: .rw [.func (.func 90) #[] #[.pointer (some ⟨4, 0, none⟩), .pointer (some ⟨5, 0, none⟩), .pointer (some ⟨6, 0, none⟩)]] :: σ') := fun y hyd σ' hs => tight_ev (p := 0) (x := 1) (y := 2) (z := 3) ⟨⟨.inl rfl, .inl rfl, .inl rfl, .inl rfl⟩, .inr (.inl rfl), .inr (.inl rfl), .inr (.inl rfl)⟩ hS hLv hxd hyd hs
        have hco : ∀ y : Int, isW S y → ∀ σ' : Heap, (AObj.ro (flL 1 2 3 S (fun i => bI (rB S i))) :: .ro (ints S.d) :: .ro (pc S.f) :: .ro (ints S.s) :: .rw [.pointer (some ⟨0, 0, none⟩)] :: .rw [.int .i64 a, .int .i64 b] :: .rw (rx l) :: .rw [.func (.func 90) #[] #[.pointer (some ⟨4, 0, none⟩), .pointer (some ⟨5, 0, none⟩), .pointer (some ⟨6, 0, none⟩)]] :: σ').all (fun o => !isIter o) = true → Ev Try.prog 91 [.pointer (some ⟨0, 0, none⟩), .func (.func 90) #[] #[.pointer (some ⟨4, 0, none⟩), .pointer (some ⟨5, 0, none⟩), .pointer (some ⟨6, 0, none⟩)], .int .i64 y, .int .i64 y] (AObj.ro (flL 1 2 3 S (fun i => bI (rB S i))) :: .ro (ints S.d) :: .ro (pc S.f) :: .ro (ints S.s) :: .rw [.pointer (some ⟨0, 0, none⟩)] :: .rw [.int .i64 a, .int .i64 b] :: .rw (rx l) :: .rw [.func (.func 90) #[] #[.pointer (some ⟨4, 0, none⟩), .pointer (some ⟨5, 0, none⟩), .pointer (some ⟨6, 0, none⟩)]] :: σ') (.bool (comB S a b l y y)) (AObj.ro (flL 1 2 3 S (fun i => bI (rB S i))) :: .ro (ints S.d) :: .ro (pc S.f) :: .ro (ints S.s) :: .rw [.pointer (some ⟨0, 0, none⟩)] :: .rw [.int .i64 a, .int .i64 b] :: .rw (rx l) :: .rw [.func (.func 90) #[] #[.pointer (some ⟨4, 0, none⟩), .pointer (some ⟨5, 0, none⟩), .pointer (some ⟨6, 0, none⟩)]] :: σ') := fun y hyd σ' hs => comes_ev (p := 0) (x := 1) (y := 2) (z := 3) ⟨⟨.inl rfl, .inl rfl, .inl rfl, .inl rfl⟩, .inr (.inl rfl), .inr (.inl rfl), .inr (.inl rfl)⟩ hS hLv hyd hs
        have hwy : ∀ y : Int, ∀ σ' : Heap, (AObj.ro (flL 1 2 3 S (fun i => bI (rB S i))) :: .ro (ints S.d) :: .ro (pc S.f) :: .ro (ints S.s) :: .rw [.pointer (some ⟨0, 0, none⟩)] :: .rw [.int .i64 a, .int .i64 b] :: .rw (rx l) :: .rw [.func (.func 90) #[] #[.pointer (some ⟨4, 0, none⟩), .pointer (some ⟨5, 0, none⟩), .pointer (some ⟨6, 0, none⟩)]] :: .gr (ints way) 3 :: σ').all (fun o => !isIter o) = true → Ev Try.prog 54 [qV 8 (some []) way, .int .i64 y] (AObj.ro (flL 1 2 3 S (fun i => bI (rB S i))) :: .ro (ints S.d) :: .ro (pc S.f) :: .ro (ints S.s) :: .rw [.pointer (some ⟨0, 0, none⟩)] :: .rw [.int .i64 a, .int .i64 b] :: .rw (rx l) :: .rw [.func (.func 90) #[] #[.pointer (some ⟨4, 0, none⟩), .pointer (some ⟨5, 0, none⟩), .pointer (some ⟨6, 0, none⟩)]] :: .gr (ints way) 3 :: σ') (.bool (decide (y ∈ way))) (AObj.ro (flL 1 2 3 S (fun i => bI (rB S i))) :: .ro (ints S.d) :: .ro (pc S.f) :: .ro (ints S.s) :: .rw [.pointer (some ⟨0, 0, none⟩)] :: .rw [.int .i64 a, .int .i64 b] :: .rw (rx l) :: .rw [.func (.func 90) #[] #[.pointer (some ⟨4, 0, none⟩), .pointer (some ⟨5, 0, none⟩), .pointer (some ⟨6, 0, none⟩)]] :: .gr (ints way) 3 :: σ') := fun y σ' hs => has54P_ev (x := 8) (o := 0) (prtAt_arr (.inr (.inr ⟨_, rfl⟩))) (ps_slq hwp) (by omega) hs
        unfold onC at hos
        generalize hon2 : onS S a b l way (x : Int) (k2 + 1) = on2 at hos
        generalize onS S a b l way (x : Int) k2 = on at *
        generalize gf S.f k2 = p at *
        obtain ⟨z, y0⟩ := p
        simp only at hw1 hw2 hd2 hos
        obtain ⟨y, rfl⟩ : ∃ y : Nat, y0 = (y : Int) := ⟨y0.toNat, by have := hw2.1; omega⟩
        have hyd : y < S.d.length := by have := hw2.2; omega
        replace hti := hti y hyd
        replace hco := hco (y : Int) hw2
        replace hwy := hwy (y : Int)
        simp only [Int.toNat_natCast] at hos
        obtain ⟨T, hT⟩ : ∃ T, tigB S a b l x y = T := ⟨_, rfl⟩
        obtain ⟨C, hC⟩ : ∃ C, comB S a b l (y : Int) (y : Int) = C := ⟨_, rfl⟩
        simp only [hT, hC] at hos
        simp only [hT] at hti
        simp only [hC] at hco
        clear hT hC
        by_cases hz : z = (x : Int)
        · cases T with
          | false =>
            rw [show on2 = on from by rw [hos]; simp [hz]] at hon2
            clear hos
            repeat' (first | (refine gU ?_; first | (refine gMove ?_; refine st (ok_move rfl) rfl rfl ?_) | (refine gLoad ?_; first | refine st (ok_load rfl (by rfl)) rfl rfl ?_ | refine st (ok_loadA rfl (by exact hd2 _)) rfl rfl ?_) | (refine gBin ?_; refine st (ok_bin rfl rfl rfl) rfl rfl ?_) | (refine gIA ?_; first | refine st (ok_idxSN rfl rfl (by omega)) rfl rfl ?_ | refine st (ok_idxA rfl rfl (by omega) (by omega)) rfl rfl ?_) | (refine gAlloc ?_; refine st (ok_alloc rfl) rfl rfl ?_) | (refine gStore ?_; refine stN (ok_store rfl rfl rfl rfl (by rfl)) rfl ?_)) | (refine gG ?_; first | (refine gMove ?_; refine stGA rfl (ok_move rfl) rfl rfl ?_) | (refine gLoad ?_; refine stGA rfl (ok_load rfl (by rfl)) rfl rfl ?_) | (refine gIA ?_; refine stGA rfl (ok_idxA rfl rfl (by omega) (by omega)) rfl rfl ?_)) | refine W_seq ?_ | refine W_region ?_ | refine st_nil ?_ | refine tq_n ?_ | refine W_skip ?_ | refine W_block ?_ | refine W_condTA rfl ?_)
            refine st_yieldG (l := 15) rfl rfl (by rw [hL]; rfl) rfl rfl rfl (fun _ _ _ _ he => wanted_rel (b := true) (by rw [wantedA_some (b := decide (z = (x : Int))) rfl, decide_eq_true hz]; rfl) he) ?_
            repeat' (first | (refine gU ?_; (refine gAssign ?_; refine st (ok_assign rfl) rfl rfl ?_)) | refine W_region ?_ | refine st_nil ?_)
            refine roundA_n (by rw [hL]; rfl) ?_
            repeat' (first | (refine gU ?_; first | (refine gMove ?_; refine st (ok_move rfl) rfl rfl ?_) | (refine gLoad ?_; refine st (ok_load rfl (by rfl)) rfl rfl ?_) | (refine gPick ?_; refine st (ok_pickFA rfl rfl) rfl rfl ?_) | (refine gCall ?_; refine st (ok_call rfl rfl rfl (by exact hti _ (by simp [isIter]))) rfl rfl ?_)) | (refine gG ?_; first | refine stSU rfl rfl ?_ | refine stSA rfl rfl ?_) | refine W_seq ?_ | refine W_region ?_ | refine st_nil ?_ | refine tq_n ?_ | refine bq_n ?_ | refine W_skip ?_ | refine W_block ?_ | refine W_condFA rfl ?_)
            refine roundB_n rfl rfl ?_
            repeat' (first | (refine gU ?_; first | (refine gMove ?_; refine st (ok_move rfl) rfl rfl ?_) | (refine gAdd ?_; refine st (ok_inc rfl rfl (by omega)) rfl rfl ?_) | (refine gPick ?_; refine st (ok_pickTA rfl rfl) rfl rfl ?_)) | (refine gG ?_; (refine gNot ?_; refine stGA rfl (ok_not' rfl) rfl rfl ?_)) | refine W_region ?_ | refine st_nil ?_ | refine tq_n ?_ | refine bq_n ?_ | refine W_skip ?_ | refine W_condFA rfl ?_)
            refine ⟨rfl, k2 + 1, by omega, by omega, ?_⟩
            rw [hon2]
            rw [hL]
            exact StRef.drop [.ro (flL 1 2 3 S (fun i => bI (rB S i))), .ro (ints S.d), .ro (pc S.f), .ro (ints S.s), .rw [.pointer (some ⟨0, 0, none⟩)], .rw [.int .i64 a, .int .i64 b], .rw (rx l), .rw [.func (.func 90) #[] #[.pointer (some ⟨4, 0, none⟩), .pointer (some ⟨5, 0, none⟩), .pointer (some ⟨6, 0, none⟩)]], .gr (ints way) 3, .rw [qV 8 (some []) way], .rw [.int .i64 (x : Int)], .rw [.int .i64 on], .rw [.pointer (some ⟨0, 0, none⟩)], .rw [.int .i64 (x : Int)], .dfr, _] [_] (by simp) (hc_i16 S a b l way x on _ (by have := hLc; rw [hL] at this; exact this)) (by (repeat' (first | exact trivial | exact ⟨rfl, rfl, rfl⟩ | exact ⟨rfl, closed_slice rfl, rfl⟩ | refine ⟨?_, ?_⟩)))
          | true =>
            by_cases ho : on < 0
            · cases C with
              | false =>
                rw [show on2 = on from by rw [hos]; simp [hz]] at hon2
                clear hos
                repeat' (first | (refine gU ?_; first | (refine gMove ?_; refine st (ok_move rfl) rfl rfl ?_) | (refine gLoad ?_; first | refine st (ok_load rfl (by rfl)) rfl rfl ?_ | refine st (ok_loadA rfl (by exact hd2 _)) rfl rfl ?_) | (refine gBin ?_; refine st (ok_bin rfl rfl rfl) rfl rfl ?_) | (refine gIA ?_; first | refine st (ok_idxSN rfl rfl (by omega)) rfl rfl ?_ | refine st (ok_idxA rfl rfl (by omega) (by omega)) rfl rfl ?_) | (refine gAlloc ?_; refine st (ok_alloc rfl) rfl rfl ?_) | (refine gStore ?_; refine stN (ok_store rfl rfl rfl rfl (by rfl)) rfl ?_)) | (refine gG ?_; first | (refine gMove ?_; refine stGA rfl (ok_move rfl) rfl rfl ?_) | (refine gLoad ?_; refine stGA rfl (ok_load rfl (by rfl)) rfl rfl ?_) | (refine gIA ?_; refine stGA rfl (ok_idxA rfl rfl (by omega) (by omega)) rfl rfl ?_)) | refine W_seq ?_ | refine W_region ?_ | refine st_nil ?_ | refine tq_n ?_ | refine W_skip ?_ | refine W_block ?_ | refine W_condTA rfl ?_)
                refine st_yieldG (l := 15) rfl rfl (by rw [hL]; rfl) rfl rfl rfl (fun _ _ _ _ he => wanted_rel (b := true) (by rw [wantedA_some (b := decide (z = (x : Int))) rfl, decide_eq_true hz]; rfl) he) ?_
                repeat' (first | (refine gU ?_; (refine gAssign ?_; refine st (ok_assign rfl) rfl rfl ?_)) | refine W_region ?_ | refine st_nil ?_)
                refine roundA_n (by rw [hL]; rfl) ?_
                repeat' (first | (refine gU ?_; first | (refine gMove ?_; refine st (ok_move rfl) rfl rfl ?_) | (refine gLoad ?_; refine st (ok_load rfl (by rfl)) rfl rfl ?_) | (refine gPick ?_; refine st (ok_pickTA rfl rfl) rfl rfl ?_) | (refine gCall ?_; refine st (ok_call rfl rfl rfl (by exact hti _ (by simp [isIter]))) rfl rfl ?_)) | (refine gG ?_; first | (refine gMove ?_; refine stGA rfl (ok_move rfl) rfl rfl ?_) | (refine gLoad ?_; refine stGA rfl (ok_load rfl (by rfl)) rfl rfl ?_) | (refine gBin ?_; refine stGA rfl (ok_bin rfl rfl rfl) rfl rfl ?_) | (refine gPick ?_; refine stGA rfl (ok_pickTA rfl rfl) rfl rfl ?_) | (refine gCall ?_; refine stGA rfl (ok_call rfl rfl rfl (by exact hco _ (by simp [isIter]))) rfl rfl ?_) | refine stSA rfl rfl ?_) | refine W_seq ?_ | refine W_region ?_ | refine st_nil ?_ | refine tq_n ?_ | refine bq_n ?_ | refine W_skip ?_ | refine W_block ?_ | refine W_condFA rfl ?_)
                refine roundB_n rfl rfl ?_
                repeat' (first | (refine gU ?_; first | (refine gMove ?_; refine st (ok_move rfl) rfl rfl ?_) | (refine gAdd ?_; refine st (ok_inc rfl rfl (by omega)) rfl rfl ?_) | (refine gPick ?_; refine st (ok_pickTA rfl rfl) rfl rfl ?_)) | (refine gG ?_; (refine gNot ?_; refine stGA rfl (ok_not' rfl) rfl rfl ?_)) | refine W_region ?_ | refine st_nil ?_ | refine tq_n ?_ | refine bq_n ?_ | refine W_skip ?_ | refine W_condFA rfl ?_)
                refine ⟨rfl, k2 + 1, by omega, by omega, ?_⟩
                rw [hon2]
                rw [hL]
                exact StRef.drop [.ro (flL 1 2 3 S (fun i => bI (rB S i))), .ro (ints S.d), .ro (pc S.f), .ro (ints S.s), .rw [.pointer (some ⟨0, 0, none⟩)], .rw [.int .i64 a, .int .i64 b], .rw (rx l), .rw [.func (.func 90) #[] #[.pointer (some ⟨4, 0, none⟩), .pointer (some ⟨5, 0, none⟩), .pointer (some ⟨6, 0, none⟩)]], .gr (ints way) 3, .rw [qV 8 (some []) way], .rw [.int .i64 (x : Int)], .rw [.int .i64 on], .rw [.pointer (some ⟨0, 0, none⟩)], .rw [.int .i64 (x : Int)], .dfr, _] [_] (by simp) (hc_i16 S a b l way x on _ (by have := hLc; rw [hL] at this; exact this)) (by (repeat' (first | exact trivial | exact ⟨rfl, rfl, rfl⟩ | exact ⟨rfl, closed_slice rfl, rfl⟩ | refine ⟨?_, ?_⟩)))
              | true =>
                rw [show on2 = (y : Int) from by rw [hos]; simp [hz, ho]] at hon2
                clear hos
                repeat' (first | (refine gU ?_; first | (refine gMove ?_; refine st (ok_move rfl) rfl rfl ?_) | (refine gLoad ?_; first | refine st (ok_load rfl (by rfl)) rfl rfl ?_ | refine st (ok_loadA rfl (by exact hd2 _)) rfl rfl ?_) | (refine gBin ?_; refine st (ok_bin rfl rfl rfl) rfl rfl ?_) | (refine gIA ?_; first | refine st (ok_idxSN rfl rfl (by omega)) rfl rfl ?_ | refine st (ok_idxA rfl rfl (by omega) (by omega)) rfl rfl ?_) | (refine gAlloc ?_; refine st (ok_alloc rfl) rfl rfl ?_) | (refine gStore ?_; refine stN (ok_store rfl rfl rfl rfl (by rfl)) rfl ?_)) | (refine gG ?_; first | (refine gMove ?_; refine stGA rfl (ok_move rfl) rfl rfl ?_) | (refine gLoad ?_; refine stGA rfl (ok_load rfl (by rfl)) rfl rfl ?_) | (refine gIA ?_; refine stGA rfl (ok_idxA rfl rfl (by omega) (by omega)) rfl rfl ?_)) | refine W_seq ?_ | refine W_region ?_ | refine st_nil ?_ | refine tq_n ?_ | refine W_skip ?_ | refine W_block ?_ | refine W_condTA rfl ?_)
                refine st_yieldG (l := 15) rfl rfl (by rw [hL]; rfl) rfl rfl rfl (fun _ _ _ _ he => wanted_rel (b := true) (by rw [wantedA_some (b := decide (z = (x : Int))) rfl, decide_eq_true hz]; rfl) he) ?_
                repeat' (first | (refine gU ?_; (refine gAssign ?_; refine st (ok_assign rfl) rfl rfl ?_)) | refine W_region ?_ | refine st_nil ?_)
                refine roundA_n (by rw [hL]; rfl) ?_
                repeat' (first | (refine gU ?_; first | (refine gMove ?_; refine st (ok_move rfl) rfl rfl ?_) | (refine gLoad ?_; refine st (ok_load rfl (by rfl)) rfl rfl ?_) | (refine gPick ?_; refine st (ok_pickTA rfl rfl) rfl rfl ?_) | (refine gCall ?_; refine st (ok_call rfl rfl rfl (by exact hti _ (by simp [isIter]))) rfl rfl ?_) | (refine gStore ?_; refine stN (ok_store rfl rfl rfl rfl (by rfl)) rfl ?_)) | (refine gG ?_; first | (refine gMove ?_; refine stGA rfl (ok_move rfl) rfl rfl ?_) | (refine gLoad ?_; refine stGA rfl (ok_load rfl (by rfl)) rfl rfl ?_) | (refine gBin ?_; refine stGA rfl (ok_bin rfl rfl rfl) rfl rfl ?_) | (refine gPick ?_; refine stGA rfl (ok_pickTA rfl rfl) rfl rfl ?_) | (refine gCall ?_; refine stGA rfl (ok_call rfl rfl rfl (by exact hco _ (by simp [isIter]))) rfl rfl ?_) | refine stSA rfl rfl ?_) | refine W_seq ?_ | refine W_region ?_ | refine st_nil ?_ | refine tq_n ?_ | refine bq_n ?_ | refine W_block ?_ | refine W_condTA rfl ?_)
                refine roundB_n rfl rfl ?_
                repeat' (first | (refine gU ?_; first | (refine gMove ?_; refine st (ok_move rfl) rfl rfl ?_) | (refine gAdd ?_; refine st (ok_inc rfl rfl (by omega)) rfl rfl ?_) | (refine gPick ?_; refine st (ok_pickTA rfl rfl) rfl rfl ?_)) | (refine gG ?_; (refine gNot ?_; refine stGA rfl (ok_not' rfl) rfl rfl ?_)) | refine W_region ?_ | refine st_nil ?_ | refine tq_n ?_ | refine bq_n ?_ | refine W_skip ?_ | refine W_condFA rfl ?_)
                refine ⟨rfl, k2 + 1, by omega, by omega, ?_⟩
                rw [hon2]
                rw [hL]
                exact StRef.drop [.ro (flL 1 2 3 S (fun i => bI (rB S i))), .ro (ints S.d), .ro (pc S.f), .ro (ints S.s), .rw [.pointer (some ⟨0, 0, none⟩)], .rw [.int .i64 a, .int .i64 b], .rw (rx l), .rw [.func (.func 90) #[] #[.pointer (some ⟨4, 0, none⟩), .pointer (some ⟨5, 0, none⟩), .pointer (some ⟨6, 0, none⟩)]], .gr (ints way) 3, .rw [qV 8 (some []) way], .rw [.int .i64 (x : Int)], .rw [.int .i64 (y : Int)], .rw [.pointer (some ⟨0, 0, none⟩)], .rw [.int .i64 (x : Int)], .dfr, _] [_] (by simp) (hc_i16 S a b l way x (y : Int) _ (by have := hLc; rw [hL] at this; exact this)) (by (repeat' (first | exact trivial | exact ⟨rfl, rfl, rfl⟩ | exact ⟨rfl, closed_slice rfl, rfl⟩ | refine ⟨?_, ?_⟩)))
            · by_cases hm : (y : Int) ∈ way
              · simp only [hm, decide_true] at hwy
                cases C with
                | false =>
                  rw [show on2 = on from by rw [hos]; simp [hz]] at hon2
                  clear hos
                  repeat' (first | (refine gU ?_; first | (refine gMove ?_; refine st (ok_move rfl) rfl rfl ?_) | (refine gLoad ?_; first | refine st (ok_load rfl (by rfl)) rfl rfl ?_ | refine st (ok_loadA rfl (by exact hd2 _)) rfl rfl ?_) | (refine gBin ?_; refine st (ok_bin rfl rfl rfl) rfl rfl ?_) | (refine gIA ?_; first | refine st (ok_idxSN rfl rfl (by omega)) rfl rfl ?_ | refine st (ok_idxA rfl rfl (by omega) (by omega)) rfl rfl ?_) | (refine gAlloc ?_; refine st (ok_alloc rfl) rfl rfl ?_) | (refine gStore ?_; refine stN (ok_store rfl rfl rfl rfl (by rfl)) rfl ?_)) | (refine gG ?_; first | (refine gMove ?_; refine stGA rfl (ok_move rfl) rfl rfl ?_) | (refine gLoad ?_; refine stGA rfl (ok_load rfl (by rfl)) rfl rfl ?_) | (refine gIA ?_; refine stGA rfl (ok_idxA rfl rfl (by omega) (by omega)) rfl rfl ?_)) | refine W_seq ?_ | refine W_region ?_ | refine st_nil ?_ | refine tq_n ?_ | refine W_skip ?_ | refine W_block ?_ | refine W_condTA rfl ?_)
                  refine st_yieldG (l := 15) rfl rfl (by rw [hL]; rfl) rfl rfl rfl (fun _ _ _ _ he => wanted_rel (b := true) (by rw [wantedA_some (b := decide (z = (x : Int))) rfl, decide_eq_true hz]; rfl) he) ?_
                  repeat' (first | (refine gU ?_; (refine gAssign ?_; refine st (ok_assign rfl) rfl rfl ?_)) | refine W_region ?_ | refine st_nil ?_)
                  refine roundA_n (by rw [hL]; rfl) ?_
                  repeat' (first | (refine gU ?_; first | (refine gMove ?_; refine st (ok_move rfl) rfl rfl ?_) | (refine gLoad ?_; refine st (ok_load rfl (by rfl)) rfl rfl ?_) | (refine gPick ?_; refine st (ok_pickTA rfl rfl) rfl rfl ?_) | (refine gCall ?_; refine st (ok_call rfl rfl rfl (by exact hti _ (by simp [isIter]))) rfl rfl ?_)) | (refine gG ?_; first | (refine gMove ?_; refine stGA rfl (ok_move rfl) rfl rfl ?_) | (refine gLoad ?_; refine stGA rfl (ok_load rfl (by rfl)) rfl rfl ?_) | (refine gBin ?_; refine stGA rfl (ok_bin rfl rfl rfl) rfl rfl ?_) | (refine gPick ?_; refine stGA rfl (ok_pickFA rfl rfl) rfl rfl ?_) | (refine gCall ?_; refine stGA rfl (ok_call rfl rfl rfl (by first | exact hwy _ (by simp [isIter]) | exact hco _ (by simp [isIter]))) rfl rfl ?_)) | refine W_seq ?_ | refine W_region ?_ | refine st_nil ?_ | refine tq_n ?_ | refine bq_n ?_ | refine W_skip ?_ | refine W_block ?_ | refine W_condFA rfl ?_)
                  refine roundB_n rfl rfl ?_
                  repeat' (first | (refine gU ?_; first | (refine gMove ?_; refine st (ok_move rfl) rfl rfl ?_) | (refine gAdd ?_; refine st (ok_inc rfl rfl (by omega)) rfl rfl ?_) | (refine gPick ?_; refine st (ok_pickTA rfl rfl) rfl rfl ?_)) | (refine gG ?_; (refine gNot ?_; refine stGA rfl (ok_not' rfl) rfl rfl ?_)) | refine W_region ?_ | refine st_nil ?_ | refine tq_n ?_ | refine bq_n ?_ | refine W_skip ?_ | refine W_condFA rfl ?_)
                  refine ⟨rfl, k2 + 1, by omega, by omega, ?_⟩
                  rw [hon2]
                  rw [hL]
                  exact StRef.drop [.ro (flL 1 2 3 S (fun i => bI (rB S i))), .ro (ints S.d), .ro (pc S.f), .ro (ints S.s), .rw [.pointer (some ⟨0, 0, none⟩)], .rw [.int .i64 a, .int .i64 b], .rw (rx l), .rw [.func (.func 90) #[] #[.pointer (some ⟨4, 0, none⟩), .pointer (some ⟨5, 0, none⟩), .pointer (some ⟨6, 0, none⟩)]], .gr (ints way) 3, .rw [qV 8 (some []) way], .rw [.int .i64 (x : Int)], .rw [.int .i64 on], .rw [.pointer (some ⟨0, 0, none⟩)], .rw [.int .i64 (x : Int)], .dfr, _] [_] (by simp) (hc_i16 S a b l way x on _ (by have := hLc; rw [hL] at this; exact this)) (by (repeat' (first | exact trivial | exact ⟨rfl, rfl, rfl⟩ | exact ⟨rfl, closed_slice rfl, rfl⟩ | refine ⟨?_, ?_⟩)))
                | true =>
                  rw [show on2 = (y : Int) from by rw [hos]; simp [hz, hm]] at hon2
                  clear hos
                  repeat' (first | (refine gU ?_; first | (refine gMove ?_; refine st (ok_move rfl) rfl rfl ?_) | (refine gLoad ?_; first | refine st (ok_load rfl (by rfl)) rfl rfl ?_ | refine st (ok_loadA rfl (by exact hd2 _)) rfl rfl ?_) | (refine gBin ?_; refine st (ok_bin rfl rfl rfl) rfl rfl ?_) | (refine gIA ?_; first | refine st (ok_idxSN rfl rfl (by omega)) rfl rfl ?_ | refine st (ok_idxA rfl rfl (by omega) (by omega)) rfl rfl ?_) | (refine gAlloc ?_; refine st (ok_alloc rfl) rfl rfl ?_) | (refine gStore ?_; refine stN (ok_store rfl rfl rfl rfl (by rfl)) rfl ?_)) | (refine gG ?_; first | (refine gMove ?_; refine stGA rfl (ok_move rfl) rfl rfl ?_) | (refine gLoad ?_; refine stGA rfl (ok_load rfl (by rfl)) rfl rfl ?_) | (refine gIA ?_; refine stGA rfl (ok_idxA rfl rfl (by omega) (by omega)) rfl rfl ?_)) | refine W_seq ?_ | refine W_region ?_ | refine st_nil ?_ | refine tq_n ?_ | refine W_skip ?_ | refine W_block ?_ | refine W_condTA rfl ?_)
                  refine st_yieldG (l := 15) rfl rfl (by rw [hL]; rfl) rfl rfl rfl (fun _ _ _ _ he => wanted_rel (b := true) (by rw [wantedA_some (b := decide (z = (x : Int))) rfl, decide_eq_true hz]; rfl) he) ?_
                  repeat' (first | (refine gU ?_; (refine gAssign ?_; refine st (ok_assign rfl) rfl rfl ?_)) | refine W_region ?_ | refine st_nil ?_)
                  refine roundA_n (by rw [hL]; rfl) ?_
                  repeat' (first | (refine gU ?_; first | (refine gMove ?_; refine st (ok_move rfl) rfl rfl ?_) | (refine gLoad ?_; refine st (ok_load rfl (by rfl)) rfl rfl ?_) | (refine gPick ?_; refine st (ok_pickTA rfl rfl) rfl rfl ?_) | (refine gCall ?_; refine st (ok_call rfl rfl rfl (by exact hti _ (by simp [isIter]))) rfl rfl ?_) | (refine gStore ?_; refine stN (ok_store rfl rfl rfl rfl (by rfl)) rfl ?_)) | (refine gG ?_; first | (refine gMove ?_; refine stGA rfl (ok_move rfl) rfl rfl ?_) | (refine gLoad ?_; refine stGA rfl (ok_load rfl (by rfl)) rfl rfl ?_) | (refine gBin ?_; refine stGA rfl (ok_bin rfl rfl rfl) rfl rfl ?_) | (refine gPick ?_; refine stGA rfl (ok_pickFA rfl rfl) rfl rfl ?_) | (refine gCall ?_; refine stGA rfl (ok_call rfl rfl rfl (by first | exact hwy _ (by simp [isIter]) | exact hco _ (by simp [isIter]))) rfl rfl ?_)) | refine W_seq ?_ | refine W_region ?_ | refine st_nil ?_ | refine tq_n ?_ | refine bq_n ?_ | refine W_block ?_ | refine W_condTA rfl ?_)
                  refine roundB_n rfl rfl ?_
                  repeat' (first | (refine gU ?_; first | (refine gMove ?_; refine st (ok_move rfl) rfl rfl ?_) | (refine gAdd ?_; refine st (ok_inc rfl rfl (by omega)) rfl rfl ?_) | (refine gPick ?_; refine st (ok_pickTA rfl rfl) rfl rfl ?_)) | (refine gG ?_; (refine gNot ?_; refine stGA rfl (ok_not' rfl) rfl rfl ?_)) | refine W_region ?_ | refine st_nil ?_ | refine tq_n ?_ | refine bq_n ?_ | refine W_skip ?_ | refine W_condFA rfl ?_)
                  refine ⟨rfl, k2 + 1, by omega, by omega, ?_⟩
                  rw [hon2]
                  rw [hL]
                  exact StRef.drop [.ro (flL 1 2 3 S (fun i => bI (rB S i))), .ro (ints S.d), .ro (pc S.f), .ro (ints S.s), .rw [.pointer (some ⟨0, 0, none⟩)], .rw [.int .i64 a, .int .i64 b], .rw (rx l), .rw [.func (.func 90) #[] #[.pointer (some ⟨4, 0, none⟩), .pointer (some ⟨5, 0, none⟩), .pointer (some ⟨6, 0, none⟩)]], .gr (ints way) 3, .rw [qV 8 (some []) way], .rw [.int .i64 (x : Int)], .rw [.int .i64 (y : Int)], .rw [.pointer (some ⟨0, 0, none⟩)], .rw [.int .i64 (x : Int)], .dfr, _] [_] (by simp) (hc_i16 S a b l way x (y : Int) _ (by have := hLc; rw [hL] at this; exact this)) (by (repeat' (first | exact trivial | exact ⟨rfl, rfl, rfl⟩ | exact ⟨rfl, closed_slice rfl, rfl⟩ | refine ⟨?_, ?_⟩)))
              · simp only [hm, decide_false] at hwy
                rw [show on2 = on from by rw [hos]; simp [hz, hm, ho]] at hon2
                clear hos
                repeat' (first | (refine gU ?_; first | (refine gMove ?_; refine st (ok_move rfl) rfl rfl ?_) | (refine gLoad ?_; first | refine st (ok_load rfl (by rfl)) rfl rfl ?_ | refine st (ok_loadA rfl (by exact hd2 _)) rfl rfl ?_) | (refine gBin ?_; refine st (ok_bin rfl rfl rfl) rfl rfl ?_) | (refine gIA ?_; first | refine st (ok_idxSN rfl rfl (by omega)) rfl rfl ?_ | refine st (ok_idxA rfl rfl (by omega) (by omega)) rfl rfl ?_) | (refine gAlloc ?_; refine st (ok_alloc rfl) rfl rfl ?_) | (refine gStore ?_; refine stN (ok_store rfl rfl rfl rfl (by rfl)) rfl ?_)) | (refine gG ?_; first | (refine gMove ?_; refine stGA rfl (ok_move rfl) rfl rfl ?_) | (refine gLoad ?_; refine stGA rfl (ok_load rfl (by rfl)) rfl rfl ?_) | (refine gIA ?_; refine stGA rfl (ok_idxA rfl rfl (by omega) (by omega)) rfl rfl ?_)) | refine W_seq ?_ | refine W_region ?_ | refine st_nil ?_ | refine tq_n ?_ | refine W_skip ?_ | refine W_block ?_ | refine W_condTA rfl ?_)
                refine st_yieldG (l := 15) rfl rfl (by rw [hL]; rfl) rfl rfl rfl (fun _ _ _ _ he => wanted_rel (b := true) (by rw [wantedA_some (b := decide (z = (x : Int))) rfl, decide_eq_true hz]; rfl) he) ?_
                repeat' (first | (refine gU ?_; (refine gAssign ?_; refine st (ok_assign rfl) rfl rfl ?_)) | refine W_region ?_ | refine st_nil ?_)
                refine roundA_n (by rw [hL]; rfl) ?_
                repeat' (first | (refine gU ?_; first | (refine gMove ?_; refine st (ok_move rfl) rfl rfl ?_) | (refine gLoad ?_; refine st (ok_load rfl (by rfl)) rfl rfl ?_) | (refine gPick ?_; first | refine st (ok_pickTA rfl rfl) rfl rfl ?_ | refine st (ok_pickFA rfl rfl) rfl rfl ?_) | (refine gCall ?_; refine st (ok_call rfl rfl rfl (by exact hti _ (by simp [isIter]))) rfl rfl ?_)) | (refine gG ?_; first | (refine gMove ?_; refine stGA rfl (ok_move rfl) rfl rfl ?_) | (refine gLoad ?_; refine stGA rfl (ok_load rfl (by rfl)) rfl rfl ?_) | (refine gBin ?_; refine stGA rfl (ok_bin rfl rfl rfl) rfl rfl ?_) | (refine gPick ?_; refine stGA rfl (ok_pickFA rfl rfl) rfl rfl ?_) | (refine gCall ?_; refine stGA rfl (ok_call rfl rfl rfl (by exact hwy _ (by simp [isIter]))) rfl rfl ?_) | refine stSA rfl rfl ?_) | refine W_seq ?_ | refine W_region ?_ | refine st_nil ?_ | refine tq_n ?_ | refine bq_n ?_ | refine W_skip ?_ | refine W_block ?_ | refine W_condFA rfl ?_)
                refine roundB_n rfl rfl ?_
                repeat' (first | (refine gU ?_; first | (refine gMove ?_; refine st (ok_move rfl) rfl rfl ?_) | (refine gAdd ?_; refine st (ok_inc rfl rfl (by omega)) rfl rfl ?_) | (refine gPick ?_; refine st (ok_pickTA rfl rfl) rfl rfl ?_)) | (refine gG ?_; (refine gNot ?_; refine stGA rfl (ok_not' rfl) rfl rfl ?_)) | refine W_region ?_ | refine st_nil ?_ | refine tq_n ?_ | refine bq_n ?_ | refine W_skip ?_ | refine W_condFA rfl ?_)
                refine ⟨rfl, k2 + 1, by omega, by omega, ?_⟩
                rw [hon2]
                rw [hL]
                exact StRef.drop [.ro (flL 1 2 3 S (fun i => bI (rB S i))), .ro (ints S.d), .ro (pc S.f), .ro (ints S.s), .rw [.pointer (some ⟨0, 0, none⟩)], .rw [.int .i64 a, .int .i64 b], .rw (rx l), .rw [.func (.func 90) #[] #[.pointer (some ⟨4, 0, none⟩), .pointer (some ⟨5, 0, none⟩), .pointer (some ⟨6, 0, none⟩)]], .gr (ints way) 3, .rw [qV 8 (some []) way], .rw [.int .i64 (x : Int)], .rw [.int .i64 on], .rw [.pointer (some ⟨0, 0, none⟩)], .rw [.int .i64 (x : Int)], .dfr, _] [_] (by simp) (hc_i16 S a b l way x on _ (by have := hLc; rw [hL] at this; exact this)) (by (repeat' (first | exact trivial | exact ⟨rfl, rfl, rfl⟩ | exact ⟨rfl, closed_slice rfl, rfl⟩ | refine ⟨?_, ?_⟩)))
        · rw [show on2 = on from by rw [hos]; simp [hz]] at hon2
          clear hos
          repeat' (first | (refine gU ?_; first | (refine gMove ?_; refine st (ok_move rfl) rfl rfl ?_) | (refine gLoad ?_; first | refine st (ok_load rfl (by rfl)) rfl rfl ?_ | refine st (ok_loadA rfl (by exact hd2 _)) rfl rfl ?_) | (refine gAdd ?_; refine st (ok_inc rfl rfl (by omega)) rfl rfl ?_) | (refine gBin ?_; refine st (ok_bin rfl rfl rfl) rfl rfl ?_) | (refine gPick ?_; refine st (ok_pickFA rfl rfl) rfl rfl ?_) | (refine gIA ?_; first | refine st (ok_idxSN rfl rfl (by omega)) rfl rfl ?_ | refine st (ok_idxA rfl rfl (by omega) (by omega)) rfl rfl ?_) | (refine gAlloc ?_; refine st (ok_alloc rfl) rfl rfl ?_) | (refine gStore ?_; refine stN (ok_store rfl rfl rfl rfl (by rfl)) rfl ?_)) | (refine gG ?_; refine stSA rfl rfl ?_) | refine W_seq ?_ | refine W_region ?_ | refine st_nil ?_ | refine tq_n ?_ | refine bq_n ?_ | refine W_skip ?_ | refine W_block ?_ | refine W_condTA rfl ?_ | refine W_condFA rfl ?_)
          refine ⟨rfl, k2 + 1, by omega, by omega, ?_⟩
          rw [hon2]
          exact StRef.drop [.ro (flL 1 2 3 S (fun i => bI (rB S i))), .ro (ints S.d), .ro (pc S.f), .ro (ints S.s), .rw [.pointer (some ⟨0, 0, none⟩)], .rw [.int .i64 a, .int .i64 b], .rw (rx l), .rw [.func (.func 90) #[] #[.pointer (some ⟨4, 0, none⟩), .pointer (some ⟨5, 0, none⟩), .pointer (some ⟨6, 0, none⟩)]], .gr (ints way) 3, .rw [qV 8 (some []) way], .rw [.int .i64 (x : Int)], .rw [.int .i64 on], .rw [.pointer (some ⟨0, 0, none⟩)], .rw [.int .i64 (x : Int)], .dfr, _] [_] (by simp) (hc_i16 S a b l way x on _ (by have := hLc; exact this)) (by (repeat' (first | exact trivial | exact ⟨rfl, rfl, rfl⟩ | exact ⟨rfl, closed_slice rfl, rfl⟩ | refine ⟨?_, ?_⟩)))
      · obtain rfl : k2 = S.f.length := by omega
        have hon := onS_w hS (a := a) (b := b) (l := l) (way := way) (at_ := (x : Int)) (Nat.le_refl S.f.length)
        have hse : srchS S a b l way = if onS S a b l way (x : Int) S.f.length < 0 then none
            else if 0 ≤ ixP (fun i => decide (gi way i = onS S a b l way (x : Int) S.f.length)) way.length then some (way, (ixP (fun i => decide (gi way i = onS S a b l way (x : Int) S.f.length)) way.length).toNat)
            else srchS S a b l (way ++ [onS S a b l way (x : Int) S.f.length]) := by
          rw [srchS, dif_pos hwl, hx]
        rw [hse] at hsr
        clear hse
        generalize onS S a b l way (x : Int) S.f.length = on at *
        by_cases ho : on < 0
        · have hn := hrn (by rw [hsr, if_pos ho])
          repeat' (first | (refine gU ?_; (refine gBin ?_; refine st (ok_bin rfl rfl rfl) rfl rfl ?_)) | refine W_seq ?_ | refine W_region ?_ | refine st_nil ?_ | refine tq_n ?_ | refine tq_e ?_ | refine bq_hit rfl ?_ | refine W_exit ?_ | refine W_condFA rfl ?_)
          refine retN .nil .all ⟨_, _, _, _, _, _, _, by rw [hL]; rfl, by simp, ?_⟩
          dsimp only
          repeat' (first | (refine gU ?_; first | (refine gMove ?_; refine st (ok_move rfl) rfl rfl ?_) | (refine gLoad ?_; refine st (ok_load rfl (by rfl)) rfl rfl ?_) | (refine gAdd ?_; refine st (ok_inc rfl rfl (by omega)) rfl rfl ?_) | (refine gBin ?_; refine st (ok_bin rfl rfl rfl) rfl rfl ?_)) | refine W_seq ?_ | refine W_region ?_ | refine st_nil ?_ | refine tq_n ?_ | refine tq_e ?_ | refine bq_n ?_ | refine bq_hit rfl ?_ | refine bq_miss rfl ?_ | refine W_exit ?_ | refine W_condTA rfl ?_)
          exact ⟨k + 1, ⟨⟨by omega, hn⟩, by omega⟩, Tail.StRefD.src [.ro (flL 1 2 3 S (fun i => bI (rB S i))), .ro (ints S.d), .ro (pc S.f), .ro (ints S.s), .rw [.pointer (some ⟨0, 0, none⟩)], .rw [.int .i64 a, .int .i64 b], .rw (rx l), .rw [.func (.func 90) #[] #[.pointer (some ⟨4, 0, none⟩), .pointer (some ⟨5, 0, none⟩), .pointer (some ⟨6, 0, none⟩)]]] [] [] 14 (by simp) rfl (hc_c8 S a b l (by simp)) rfl rfl rfl trivial (by (repeat' (first | exact trivial | refine ⟨er_plain rfl rfl, ?_⟩ | refine ⟨er_closed (m := 8) rfl (fun i hi => srcR_lt hi) (by simp) (by rfl) rfl, ?_⟩)))⟩
        · rw [if_neg ho] at hsr
          have hix : ∀ σ' : Heap, (AObj.ro (flL 1 2 3 S (fun i => bI (rB S i))) :: .ro (ints S.d) :: .ro (pc S.f) :: .ro (ints S.s) :: .rw [.pointer (some ⟨0, 0, none⟩)] :: .rw [.int .i64 a, .int .i64 b] :: .rw (rx l) :: .rw [.func (.func 90) #[] #[.pointer (some ⟨4, 0, none⟩), .pointer (some ⟨5, 0, none⟩), .pointer (some ⟨6, 0, none⟩)]] :: .gr (ints way) 3 :: σ').all (fun o => !isIter o) = true → Ev Try.prog 80 [qV 8 (some []) way, .int .i64 on] (AObj.ro (flL 1 2 3 S (fun i => bI (rB S i))) :: .ro (ints S.d) :: .ro (pc S.f) :: .ro (ints S.s) :: .rw [.pointer (some ⟨0, 0, none⟩)] :: .rw [.int .i64 a, .int .i64 b] :: .rw (rx l) :: .rw [.func (.func 90) #[] #[.pointer (some ⟨4, 0, none⟩), .pointer (some ⟨5, 0, none⟩), .pointer (some ⟨6, 0, none⟩)]] :: .gr (ints way) 3 :: σ') (.int .i64 (ixP (fun i => decide (gi way i = on)) way.length)) (AObj.ro (flL 1 2 3 S (fun i => bI (rB S i))) :: .ro (ints S.d) :: .ro (pc S.f) :: .ro (ints S.s) :: .rw [.pointer (some ⟨0, 0, none⟩)] :: .rw [.int .i64 a, .int .i64 b] :: .rw (rx l) :: .rw [.func (.func 90) #[] #[.pointer (some ⟨4, 0, none⟩), .pointer (some ⟨5, 0, none⟩), .pointer (some ⟨6, 0, none⟩)]] :: .gr (ints way) 3 :: σ') := fun σ' hs => index80P_ev (x := 8) (o := 0) (prtAt_arr (.inr (.inr ⟨_, rfl⟩))) (ps_slq hwp) (by omega) hs
          have hil := ixP_lt (q := fun i => decide (gi way i = on)) (n := way.length)
          generalize ixP (fun i => decide (gi way i = on)) way.length = ix at *
          by_cases hi : 0 ≤ ix
          · have hy := hry _ (by rw [hsr, if_pos hi])
            replace hil := hil hi
            rw [hy]
            obtain ⟨m, rfl⟩ : ∃ m : Nat, ix = (m : Int) := ⟨ix.toNat, by omega⟩
            simp only [Int.toNat_natCast]
            repeat' (first | (refine gU ?_; (refine gBin ?_; refine st (ok_bin rfl rfl rfl) rfl rfl ?_)) | refine W_seq ?_ | refine W_region ?_ | refine st_nil ?_ | refine tq_n ?_ | refine tq_e ?_ | refine bq_hit rfl ?_ | refine W_exit ?_ | refine W_condFA rfl ?_)
            refine retN .nil .all ⟨_, _, _, _, _, _, _, by rw [hL]; rfl, by simp, ?_⟩
            dsimp only
            repeat' (first | (refine gU ?_; first | (refine gMove ?_; refine st (ok_move rfl) rfl rfl ?_) | (refine gAssign ?_; refine st (ok_assign rfl) rfl rfl ?_) | (refine gLoad ?_; refine st (ok_load rfl (by rfl)) rfl rfl ?_) | (refine gBin ?_; refine st (ok_bin rfl rfl rfl) rfl rfl ?_) | (refine gCall ?_; refine st (ok_call rfl rfl rfl (by exact hix _ (by simp [isIter]))) rfl rfl ?_)) | refine W_seq ?_ | refine W_stop (id := 17) ?_ | refine W_region ?_ | refine st_nil ?_ | refine tq_n ?_ | refine bq_n ?_ | refine W_skip ?_ | refine W_condTA rfl ?_ | refine W_condFA rfl ?_)
            refine ⟨?_⟩
            refine (W_region ?_)
            refine st (ok_load rfl rfl) rfl rfl ?_
            refine st (ok_move rfl) rfl rfl ?_
            refine st_E (ok_sliceQ (i := 8) (o := 0) (n := way.length) (size := 1) (l := m) rfl rfl (by omega)) rfl rfl ?_
            rintro v σ' ⟨rfl, hv⟩
            obtain rfl : v = slq 8 (0 + m * 1) 1 (way.length - m) := by
              rcases hv with hv | ⟨h1, _⟩
              · exact hv
              · omega
            clear hv
            repeat' (first | (refine gU ?_; first | (refine gMove ?_; refine st (ok_move rfl) rfl rfl ?_) | (refine gAssign ?_; refine st (ok_assign rfl) rfl rfl ?_)) | refine W_seq ?_ | refine W_region ?_ | refine st_nil ?_ | refine tq_n ?_ | refine tq_e ?_ | refine bq_hit rfl ?_ | refine bq_miss rfl ?_ | refine W_exit ?_ | refine W_ret ?_ | refine sq_r ?_)
            refine ret1 (m := 14) rfl (.tmp rfl .nil) (RetRef.src [.rw (ints way)] [8] rfl rfl rfl ⟨osub_rwp (j := 8) rfl (.inr ⟨3, rfl⟩) (ints_plain _), trivial⟩ ?_) ⟨rfl, rfl⟩
            have := VQ.sliceG (q := true) (n := 5) (ρ := srcR 4 [8]) 4 m (way.length - m) (way.length - m) (way.length - m) 1 (Nat.le_refl _) (by omega) rfl
            show VSub 5 (srcR 4 [8]) _ _
            simpa [srcR, rV, retV] using this
          · rw [if_neg hi] at hsr
            repeat' (first | (refine gU ?_; (refine gBin ?_; refine st (ok_bin rfl rfl rfl) rfl rfl ?_)) | refine W_seq ?_ | refine W_region ?_ | refine st_nil ?_ | refine tq_n ?_ | refine tq_e ?_ | refine bq_hit rfl ?_ | refine W_exit ?_ | refine W_condFA rfl ?_)
            refine retN .nil .all ⟨_, _, _, _, _, _, _, by rw [hL]; rfl, by simp, ?_⟩
            dsimp only
            repeat' (first | (refine gU ?_; first | (refine gMove ?_; refine st (ok_move rfl) rfl rfl ?_) | (refine gAssign ?_; refine st (ok_assign rfl) rfl rfl ?_) | (refine gLoad ?_; refine st (ok_load rfl (by rfl)) rfl rfl ?_) | (refine gBin ?_; refine st (ok_bin rfl rfl rfl) rfl rfl ?_) | (refine gCall ?_; refine st (ok_call rfl rfl rfl (by exact hix _ (by simp [isIter]))) rfl rfl ?_)) | refine W_seq ?_ | refine W_stop (id := 18) ?_ | refine W_region ?_ | refine st_nil ?_ | refine tq_n ?_ | refine bq_n ?_ | refine W_skip ?_ | refine W_condFA rfl ?_)
            refine ⟨?_⟩
            refine (W_region ?_)
            repeat' ((refine gU ?_; first | (refine gLoad ?_; refine st (ok_load rfl (by rfl)) rfl rfl ?_) | (refine gBuildS ?_; refine st (ok_buildS (by rfl) (by rfl) (by rfl) (by rfl) rfl (by rfl)) rfl rfl ?_)))
            refine st_E (ok_appendQ (el := 3) (size := 1) (i := 8) (o := 0) (n := way.length) (cs := ints way) (news := [.int .i64 on]) (by rfl) rfl rfl rfl (by simp [ints]) (by simpa [ints] using hw0) rfl rfl (by omega) rfl (by omega) (by decide)) rfl rfl ?_
            rintro v σ' ⟨o', cs', h1, h2, h3, hv, rfl⟩
            obtain ⟨hs1, rfl⟩ : v = qV 17 (some []) (way ++ [on]) ∧ cs' = ints (way ++ [on]) := by
              have h4 : o' = 0 := by rcases h3 with ⟨h, _⟩ | ⟨h, _⟩ <;> exact h
              subst h4
              refine ⟨hv.trans (show slq 17 0 1 (way.length + 1) = _ from by simp [qV]), ?_⟩
              rcases h3 with ⟨_, h3⟩ | ⟨_, h3⟩ <;> rw [h3] <;> simp [ints]
            subst hs1
            clear hv h1 h2 h3
            repeat' (first | (refine gU ?_; (refine gStore ?_; refine stN (ok_store rfl rfl rfl rfl (by rfl)) rfl ?_)) | refine st_nil ?_ | refine tq_n ?_ | refine bq_n ?_)
            refine ⟨way ++ [on], ⟨⟨by simp, fun y hy => ?_, hsr⟩, by simp only [List.length_append, List.length_singleton]; omega⟩, Tail.StRefD.src [.ro (flL 1 2 3 S (fun i => bI (rB S i))), .ro (ints S.d), .ro (pc S.f), .ro (ints S.s), .rw [.pointer (some ⟨0, 0, none⟩)], .rw [.int .i64 a, .int .i64 b], .rw (rx l), .rw [.func (.func 90) #[] #[.pointer (some ⟨4, 0, none⟩), .pointer (some ⟨5, 0, none⟩), .pointer (some ⟨6, 0, none⟩)]]] [.gr (ints (way ++ [on])) 3, .rw [qV 8 (some []) (way ++ [on])]] [17, 9] 14 (by simp) rfl (hc_c8 S a b l (by simp)) rfl rfl rfl (subs8 (c := 9) (j := 17) (d := 14) rfl rfl) (by (repeat' (first | exact trivial | refine ⟨er_plain rfl rfl, ?_⟩ | refine ⟨er_closed (m := 8) rfl (fun i hi => srcR_lt hi) (by simp) (by rfl) rfl, ?_⟩ | refine ⟨er_ptr rfl (by simp) rfl, ?_⟩)))⟩
            rcases List.mem_append.1 hy with hy | hy
            · exact hww y hy
            · rw [List.mem_singleton.1 hy]
              rcases hon with hon | hon
              · omega
              · exact hon
    · have hn := hrn (by rw [hsr, srchS, dif_neg hwl])
      repeat' (first | (refine gU ?_; first | (refine gMove ?_; refine st (ok_move rfl) rfl rfl ?_) | (refine gAdd ?_; refine st (ok_inc rfl rfl (by omega)) rfl rfl ?_)) | (refine fU ?_; first | (refine fMove ?_; refine frA (ok_move rfl) rfl ?_) | (refine fLoad ?_; refine frA (ok_load rfl (by rfl)) rfl ?_) | (refine fBin ?_; refine frA (ok_bin rfl rfl rfl) rfl ?_) | (refine fLen ?_; refine frA (ok_len rfl) rfl ?_) | (refine fPick ?_; refine frA (ok_pickTA rfl rfl) rfl ?_)) | (refine fG ?_; first | (refine fFA ?_; refine frGA rfl (ok_fieldAddr rfl) rfl ?_) | (refine fLoad ?_; refine frGA rfl (ok_load rfl (by rfl)) rfl ?_) | (refine fBin ?_; refine frGA rfl (ok_bin rfl rfl rfl) rfl ?_) | (refine fLen ?_; refine frGA rfl (ok_len rfl) rfl ?_) | (refine fNil ?_; refine frGA rfl (ok_nilP rfl) rfl ?_)) | (refine fr_stop ⟨by kernel_rfl, ?_⟩) | refine W_seq ?_ | refine W_region ?_ | refine W_regionD (by kernel_rfl) rfl ?_ | refine st_nil ?_ | refine tq_n ?_ | refine tq_e ?_ | refine bq_n ?_ | refine bq_hit rfl ?_ | refine W_exit ?_ | refine W_condFA rfl ?_)
      exact ⟨k + 1, ⟨⟨by omega, hn⟩, by omega⟩, .of (StRef.drop [.ro (flL 1 2 3 S (fun i => bI (rB S i))), .ro (ints S.d), .ro (pc S.f), .ro (ints S.s), .rw [.pointer (some ⟨0, 0, none⟩)], .rw [.int .i64 a, .int .i64 b], .rw (rx l), .rw [.func (.func 90) #[] #[.pointer (some ⟨4, 0, none⟩), .pointer (some ⟨5, 0, none⟩), .pointer (some ⟨6, 0, none⟩)]]] [_, _] (by simp) (hc_c8 S a b l (by simp)) (by (repeat' (first | exact trivial | exact ⟨rfl, rfl, rfl⟩ | refine ⟨?_, ?_⟩)))) (by simp)⟩
  · obtain rfl : k = S.d.length := by omega
    have hr0 : rndS S a b l 0 = none := by rw [hr, rndS, dif_neg (by omega)]
    rw [hr0]
    repeat' (first | (refine gU ?_; first | (refine gMove ?_; refine st (ok_move rfl) rfl rfl ?_) | (refine gAssign ?_; refine st (ok_assign rfl) rfl rfl ?_) | (refine gBin ?_; refine st (ok_bin rfl rfl rfl) rfl rfl ?_)) | refine W_seq ?_ | refine W_region ?_ | refine st_nil ?_ | refine tq_n ?_ | refine tq_e ?_ | refine bq_hit rfl ?_ | refine W_exit ?_ | refine W_ret ?_ | refine sq_r ?_ | refine W_condFA rfl ?_)
    exact ret0 (.tmp rfl .nil) (.plain rfl rfl) ⟨rfl, rfl⟩
end Go.Proofs.Ytomioaiojidnbaa
namespace Go.AH.Dust
open Go Go.AH
theorem nok_sliceO {n b o l c : Nat} : Nok n b (.slice (some ⟨b, o, none⟩) l c) := fun k ρ ρ' v' hv hρ => by
  have hb := hρ b (.inr (Nat.le_refl _))
  cases hv with
  | emptySlice => exact .emptySlice _ _ _ _
  | slice _ _ _ _ c' hc hi => rw [← hb]; exact .slice _ _ _ _ _ hc hi
  | sliceG _ _ _ _ _ _ _ _ hq => simp at hq
theorem srch_push {S : Shp} {a b : Int} {l : Nat → Int} {way : List Int} {on : Int} (h : way.length ≤ S.d.length) (h1 : onS S a b l way (gi way (way.length - 1)) S.f.length = on) (h2 : ¬ on < 0) (h3 : ¬ 0 ≤ ixP (fun i => decide (gi way i = on)) way.length) :
    srchS S a b l way = srchS S a b l (way ++ [on]) := by rw [srchS, dif_pos h, h1, if_neg h2, if_neg h3]
theorem srch_stop {S : Shp} {a b : Int} {l : Nat → Int} {way : List Int} {on : Int} (h : way.length ≤ S.d.length) (h1 : onS S a b l way (gi way (way.length - 1)) S.f.length = on) (h2 : ¬ on < 0) (h3 : 0 ≤ ixP (fun i => decide (gi way i = on)) way.length) :
    srchS S a b l way = some (way, (ixP (fun i => decide (gi way i = on)) way.length).toNat) := by rw [srchS, dif_pos h, h1, if_neg h2, if_pos h3]
theorem rnd_some {S : Shp} {a b : Int} {l : Nat → Int} {k : Nat} {o : List Int × Nat} (h : k < S.d.length) (h1 : srchS S a b l [(k : Int)] = some o) : rndS S a b l k = some o := by rw [rndS, dif_pos h, h1]
theorem tig_of {S : Shp} {a b : Int} {l : Nat → Int} {n k : Nat} (h : rB S n = true) (h1 : worV S a b n = l n - l k) : tigB S a b l n k = true := by unfold tigB; rw [h, decide_eq_true h1]; rfl
theorem com_of {S : Shp} {a b : Int} {l : Nat → Int} {u v : Int} (h : Cms (edg S a b l) u v) : comB S a b l u v = true := by
  unfold comB; exact @decide_eq_true _ (Classical.propDecidable _) h
def lT (i : Nat) : Int := gi [50, 0, 10] i
theorem lT_lev : Lev 40 3 lT := ⟨by decide, by decide, by decide, by decide, fun i hi => by
  match i with
  | 0 => decide
  | 1 => decide
  | 2 => decide
  | i + 3 => simp [lT, gi]⟩
theorem e01 : edg shT 40 3 lT 0 1 := ⟨by decide, tig_of (shT_rch 0 (by decide)) (by decide)⟩
theorem e12 : edg shT 40 3 lT 1 2 := ⟨by decide, tig_of (shT_rch 1 (by decide)) (by decide)⟩
theorem e20 : edg shT 40 3 lT 2 0 := ⟨by decide, tig_of (shT_rch 2 (by decide)) (by decide)⟩
theorem c0 : comB shT 40 3 lT 0 0 = true := com_of (.more e01 (.more e12 (.one e20)))
theorem c1 : comB shT 40 3 lT 1 1 = true := com_of (.more e12 (.more e20 (.one e01)))
theorem c2 : comB shT 40 3 lT 2 2 = true := com_of (.more e20 (.more e01 (.one e12)))
theorem on_step {S : Shp} {a b : Int} {l : Nat → Int} {way : List Int} {at_ : Int} {k : Nat} {p : Int × Int} {on on2 : Int} (hp : gf S.f k = p) (h : onS S a b l way at_ k = on) (h2 : (if onC S a b l way at_ on p = true then p.2 else on) = on2) : onS S a b l way at_ (k + 1) = on2 := by
  subst hp; subst h; exact h2
theorem onT0 : onS shT 40 3 lT [0] 0 3 = 1 := by
  have t := e01.2
  have h1 : onS shT 40 3 lT [0] 0 1 = 1 := on_step (p := (0, 1)) rfl rfl (by simp only [onC]; rw [show tigB shT 40 3 lT (0 : Int).toNat (1 : Int).toNat = true from t, c1]; rfl)
  exact on_step (p := (2, 0)) rfl (on_step (p := (1, 2)) rfl h1 rfl) rfl
theorem onT1 : onS shT 40 3 lT [0, 1] 1 3 = 2 := by
  have t := e12.2
  have h1 : onS shT 40 3 lT [0, 1] 1 2 = 2 := on_step (p := (1, 2)) rfl (on_step (p := (0, 1)) rfl rfl rfl) (by simp only [onC]; rw [show tigB shT 40 3 lT (1 : Int).toNat (2 : Int).toNat = true from t, c2]; rfl)
  exact on_step (p := (2, 0)) rfl h1 rfl
theorem onT2 : onS shT 40 3 lT [0, 1, 2] 2 3 = 0 := by
  have t := e20.2
  exact on_step (p := (2, 0)) rfl (on_step (p := (1, 2)) rfl (on_step (p := (0, 1)) rfl rfl rfl) rfl) (by simp only [onC]; rw [show tigB shT 40 3 lT (2 : Int).toNat (0 : Int).toNat = true from t, c0]; rfl)
theorem rndT : rndS shT 40 3 lT 0 = some ([0, 1, 2], 0) := by
  refine rnd_some (by decide) ?_
  show srchS shT 40 3 lT [0] = _
  rw [srch_push (on := 1) (by decide) onT0 (by decide) (by decide +kernel)]
  show srchS shT 40 3 lT [0, 1] = _
  rw [srch_push (on := 2) (by decide) onT1 (by decide) (by decide +kernel)]
  show srchS shT 40 3 lT [0, 1, 2] = _
  rw [srch_stop (on := 0) (by decide) onT2 (by decide) (by decide +kernel)]
  rfl
def lS (_ : Nat) : Int := 0
theorem lS_lev : Lev 30 1 lS := ⟨by decide, by decide, by decide, by decide, fun i hi => by simp [lS]⟩
theorem e00 : edg shS 30 1 lS 0 0 := ⟨by decide, tig_of (shS_rch 0 (by decide)) (by decide)⟩
theorem d0 : comB shS 30 1 lS 0 0 = true := com_of (.one e00)
theorem onS0 : onS shS 30 1 lS [0] 0 5 = 0 := by
  have t := e00.2
  have h1 : onS shS 30 1 lS [0] 0 1 = 0 := on_step (p := (0, 0)) rfl rfl (by simp only [onC]; rw [show tigB shS 30 1 lS (0 : Int).toNat (0 : Int).toNat = true from t, d0]; rfl)
  have h2 : onS shS 30 1 lS [0] 0 2 = 0 := on_step (p := (0, 1)) rfl h1 (by simp [onC])
  exact on_step (p := (1, 1)) rfl (on_step (p := (2, 0)) rfl (on_step (p := (1, 2)) rfl h2 rfl) rfl) rfl
theorem rndS0 : rndS shS 30 1 lS 0 = some ([0], 0) := by
  refine rnd_some (by decide) ?_
  show srchS shS 30 1 lS [0] = _
  rw [srch_stop (on := 0) (by decide) onS0 (by decide) (by decide +kernel)]
  rfl
end Go.AH.Dust
namespace Go.Proofs.Ytomioaiojidnbaa
open Go Go.AH
attribute [local irreducible] WOps WCode WFree retQ thenQ blockQ scopeQ OpOk ACall RetRef roundA roundB
set_option maxRecDepth 100000
set_option maxHeartbeats 1000000
open Go.AH.Dust
theorem fl_all3 {S : Shp} {x y z : Nat} (h0 : shopE S = 0) (h3 : S.d.length = 3) (hr : ∀ i, i < S.d.length → rB S i = true) : flL x y z S (fun i => bI (rB S i)) = flL x y z S all3 := by
  show sl x _ :: sl y _ :: sl z _ :: rx _ = sl x _ :: sl y _ :: sl z _ :: rx _
  rw [rx_congr fun j _ => ?_]
  by_cases hj : j < 3
  · rw [hr j (by omega)]
    simp [all3, bI, Nat.blt_eq.mpr hj]
  · have : rB S j = false := by
      cases hb : rB S j with
      | false => rfl
      | true => have := rch_work (shopE_zero h0) (rB_iff.1 hb); omega
    rw [this]
    have hn : Nat.blt j 3 = false := by
      cases hb : Nat.blt j 3 with
      | false => rfl
      | true => exact absurd (Nat.blt_eq.mp hb) hj
    simp [all3, bI, hn]
theorem meanS_ok (S : Shp) (h0 : shopE S = 0) (a b : Int) (l : Nat → Int) (hL : Lev a b l) (w : List Int) (i : Nat)
    (hm : Ev Try.prog 72 [.pointer (some ⟨0, 0, none⟩)] [.ro (flL 1 2 3 S (fun i => bI (rB S i))), .ro (ints S.d), .ro (pc S.f), .ro (ints S.s)] (.tuple #[rtV a b, .bool true]) [.ro (flL 1 2 3 S (fun i => bI (rB S i))), .ro (ints S.d), .ro (pc S.f), .ro (ints S.s)])
    (hl : Ev Try.prog 74 [.pointer (some ⟨0, 0, none⟩), rtV a b] [.ro (flL 1 2 3 S (fun i => bI (rB S i))), .ro (ints S.d), .ro (pc S.f), .ro (ints S.s)] (.agg (rx l).toArray) [.ro (flL 1 2 3 S (fun i => bI (rB S i))), .ro (ints S.d), .ro (pc S.f), .ro (ints S.s)]) (hr : rndS S a b l 0 = some (w, i)) :
    Ev Try.prog 35 [shV 0 1 2 S] S.hp (.tuple #[rtV a b, .slice (some ⟨3, i, none⟩) (w.length - i) (w.length - i), .int .i64 0]) (S.hp ++ [.rw (ints w)]) := by
  have hfit := (shopE_zero h0).fit
  have hro := round_ok S (shopE_zero h0) a b l hL
  rw [hr] at hro
  have hop := open_evOk (σ := [.ro (ints S.d), .ro (pc S.f), .ro (ints S.s), .rw (shL 0 1 2 S), .rw [.int .i64 0, .int .i64 0]]) (x := 0) (y := 1) (z := 2) ⟨.inl rfl, .inl rfl, .inl rfl⟩ shS_self hfit h0 rfl
  refine acall_intro 3 33 Try.func35 rfl rfl rfl rfl rfl ?_
  have hfa : FAt [.ro (ints S.d), .ro (pc S.f), .ro (ints S.s), .rw (shL 0 1 2 S), .rw [.int .i64 0, .int .i64 0], .rw (flL 0 1 2 S (fun i => bI (rB S i)))] 5 0 1 2 S (fun i => bI (rB S i)) := ⟨.inr (.inl rfl), .inl rfl, .inl rfl, .inl rfl⟩
  have hfb : FAt [.ro (ints S.d), .ro (pc S.f), .ro (ints S.s), .rw (shL 0 1 2 S), .rw [.int .i64 0, .int .i64 0], .rw (flL 0 1 2 S (fun i => bI (rB S i))), .rw [.int .i64 a, .int .i64 b]] 5 0 1 2 S (fun i => bI (rB S i)) := ⟨.inr (.inl rfl), .inl rfl, .inl rfl, .inl rfl⟩
  have hme := hfa.ev (args := [.pointer (some ⟨5, 0, none⟩)]) hm ⟨VQ.ptr (q := true) (n := 4) (ρ := bsR [5, 0, 1, 2]) 0 0 (by omega), trivial⟩ rfl rfl
  have hle := hfb.ev (args := [.pointer (some ⟨5, 0, none⟩), rtV a b]) hl ⟨VQ.ptr (q := true) (n := 4) (ρ := bsR [5, 0, 1, 2]) 0 0 (by omega), vrel_plain _ rfl, trivial⟩ rfl rfl
  have hro2 := hfb.evN (args := [.pointer (some ⟨5, 0, none⟩), rtV a b, .agg (rx l).toArray]) (news := [.rw (ints w)]) (news' := [.rw (ints w)]) (v := .slice (some ⟨7, i, none⟩) (w.length - i) (w.length - i)) hro ⟨VQ.ptr (q := true) (n := 4) (ρ := bsR [5, 0, 1, 2]) 0 0 (by omega), vrel_plain _ rfl, vrel_plain _ rfl, trivial⟩ rfl (by simp [rV, ren, shf]) (by simp only [List.map_cons, List.map_nil, renO, renL_plain _ (ints_plain _)]) rfl
  clear hm hl hro
  repeat' (first | (refine gU ?_; first | (refine gMove ?_; refine st (ok_move rfl) rfl rfl ?_) | (refine gAssign ?_; refine st (ok_assign rfl) rfl rfl ?_) | (refine gLoad ?_; refine st (ok_loadA rfl (by rfl)) rfl rfl ?_) | (refine gBin ?_; refine st (ok_bin rfl rfl rfl) rfl rfl ?_) | (refine gNot ?_; refine st (ok_not' rfl) rfl rfl ?_) | (refine gExtract ?_; refine st (ok_extract rfl rfl) rfl rfl ?_) | (refine gCall ?_; refine st (ok_call rfl rfl rfl (by first | exact hop | exact hme)) rfl rfl ?_) | (refine gBox ?_; refine st (ok_box rfl) rfl rfl ?_) | (refine gAlloc ?_; refine st (ok_alloc rfl) rfl rfl ?_) | (refine gStore ?_; refine stN (ok_store rfl rfl rfl rfl (by rfl)) rfl ?_)) | (refine fU ?_; first | refine frA (ok_call rfl rfl rfl hle) rfl ?_ | refine frN (ok_call rfl rfl rfl hro2) nok_sliceO (plainL_closed (ints_plain _)).1 (plainL_closed (n := 0) (ints_plain _)).2 rfl ?_ | (refine fMove ?_; refine frA (ok_move rfl) rfl ?_) | (refine fLoad ?_; refine frA (ok_loadA rfl (by rfl)) rfl ?_)) | (refine fr_stop ⟨by kernel_rfl, ?_⟩) | refine W_seq ?_ | refine W_region ?_ | refine W_regionD (by kernel_rfl) rfl ?_ | refine st_nil ?_ | refine tq_n ?_ | refine W_skip ?_ | refine W_ret ?_ | refine W_condFA rfl ?_)
  refine ret0 (.cellN inferInstance rfl rfl (.tmp rfl (.tmp rfl .nil))) (RetRef.src [.rw (ints w)] [7] rfl rfl rfl ⟨osub_rwp (j := 7) rfl (.inl rfl) (ints_plain _), trivial⟩ ?_) ⟨rfl, rfl⟩
  refine .tuple _ _ rfl fun j hj _ => ?_
  match j, hj with
  | 0, _ => exact vrel_plain _ rfl
  | 1, _ =>
    have := VQ.slice (q := true) (n := 4) (ρ := srcR 3 [7]) 3 i (w.length - i) (w.length - i) (w.length - i) (Nat.le_refl _) (by omega)
    simpa [srcR] using this
  | 2, _ => exact vrel_plain _ rfl
def hpF (S : Shp) : Heap := [.ro (flL 1 2 3 S all3), .ro (ints S.d), .ro (pc S.f), .ro (ints S.s)]
theorem meanT72 : Ev Try.prog 72 [.pointer (some ⟨0, 0, none⟩)] (hpF shT) (.tuple #[rtV 40 3, .bool true]) (hpF shT) := ev_run (orc := knownsA ksD) tabOk (knownsA_ok ksD_ok) mixed (n := 500) (lo := 4) (by kernel_rfl)
theorem levT74 : Ev Try.prog 74 [.pointer (some ⟨0, 0, none⟩), rtV 40 3] (hpF shT) (.agg (rx lT).toArray) (hpF shT) := ev_run (orc := knownsA ksD) tabOk (knownsA_ok ksD_ok) mixed (n := 500) (lo := 4) (by kernel_rfl)
theorem meanS72 : Ev Try.prog 72 [.pointer (some ⟨0, 0, none⟩)] (hpF shS) (.tuple #[rtV 30 1, .bool true]) (hpF shS) := ev_run (orc := knownsA ksD) tabOk (knownsA_ok ksD_ok) mixed (n := 500) (lo := 4) (by kernel_rfl)
theorem levS74 : Ev Try.prog 74 [.pointer (some ⟨0, 0, none⟩), rtV 30 1] (hpF shS) (.agg (rx lS).toArray) (hpF shS) := ev_run (orc := knownsA ksD) tabOk (knownsA_ok ksD_ok) mixed (n := 500) (lo := 4) (by kernel_rfl)
def kMean (S : Shp) (a b : Int) (w : List Int) : Known := ⟨35, [shV 0 1 2 S], S.css, .tuple #[rtV a b, sl 3 w.length, .int .i64 0], [.rw (ints w)]⟩
theorem kMean_ok {S : Shp} (h0 : shopE S = 0) (h3 : S.d.length = 3) (hr : ∀ i, i < S.d.length → rB S i = true) {a b : Int} {l : Nat → Int} (hL : Lev a b l) {w : List Int}
    (hm : Ev Try.prog 72 [.pointer (some ⟨0, 0, none⟩)] (hpF S) (.tuple #[rtV a b, .bool true]) (hpF S))
    (hl : Ev Try.prog 74 [.pointer (some ⟨0, 0, none⟩), rtV a b] (hpF S) (.agg (rx l).toArray) (hpF S)) (hrn : rndS S a b l 0 = some (w, 0)) : KnownOk Try.prog (kMean S a b w) := by
  have e : hpF S = [.ro (flL 1 2 3 S (fun i => bI (rB S i))), .ro (ints S.d), .ro (pc S.f), .ro (ints S.s)] := by unfold hpF; rw [fl_all3 h0 h3 hr]
  rw [e] at hm hl
  exact ⟨meanS_ok S h0 a b l hL w 0 hm hl hrn, S.css_plain, rfl⟩
def ksM : List Known := kMean shT 40 3 [0, 1, 2] :: kMean shS 30 1 [0] :: ksD
theorem ksM_ok : ∀ k ∈ ksM, KnownOk Try.prog k := by
  intro k hk
  rcases List.mem_cons.1 hk with rfl | hk
  · exact kMean_ok shT_zero rfl shT_rch lT_lev meanT72 levT74 rndT
  · rcases List.mem_cons.1 hk with rfl | hk
    · exact kMean_ok shS_zero rfl shS_rch lS_lev meanS72 levS74 rndS0
    · exact ksD_ok k hk
end Go.Proofs.Ytomioaiojidnbaa
namespace Go.Proofs.Ytomioaiojidnbaa
open Go Go.AH
attribute [local irreducible] WOps WCode WFree retQ thenQ blockQ scopeQ OpOk ACall RetRef roundA roundB
set_option maxRecDepth 100000
set_option maxHeartbeats 1000000
open Go.AH.Dust
end Go.Proofs.Ytomioaiojidnbaa
namespace Go.Proofs.Ytomioaiojidnbaa
open Go Go.AH
open Go.AH.Dust
def kLevelsT : Known := ⟨48, [shV 0 1 2 shT], [ints shT.d, pc shT.f, ints shT.s], .tuple #[.slice (some ⟨3, 0, none⟩) 3 3, .int .i64 0], [.rw [.int .i64 50, .int .i64 0, .int .i64 10]]⟩
theorem kLevelsT_ok : KnownOk Try.prog kLevelsT := ⟨ev_run (orc := knownsA ksM) tabOk (knownsA_ok ksM_ok) mixed (n := 500) (lo := 3) (by kernel_rfl), by kernel_rfl, by kernel_rfl⟩
def kTopsT : Known := ⟨30, [shV 0 1 2 shT, .int .i64 4], [ints shT.d, pc shT.f, ints shT.s], .tuple #[.slice (some ⟨3, 0, none⟩) 4 4, .int .i64 0], [.rw [.slice (some ⟨4, 0, none⟩) 3 3, .slice (some ⟨5, 0, none⟩) 3 3, .slice (some ⟨6, 0, none⟩) 3 3, .slice (some ⟨7, 0, none⟩) 3 3], .rw [.int .i64 30, .int .i64 10, .int .i64 0], .rw [.int .i64 40, .int .i64 10, .int .i64 30], .rw [.int .i64 40, .int .i64 40, .int .i64 40], .rw [.int .i64 70, .int .i64 50, .int .i64 40]]⟩
theorem kTopsT_ok : KnownOk Try.prog kTopsT := ⟨ev_run (orc := knownsA ksM) tabOk (knownsA_ok ksM_ok) mixed (n := 500) (lo := 3) (by kernel_rfl), by kernel_rfl, by kernel_rfl⟩
def kSafeT : Known := ⟨33, [shV 0 1 2 shT, .int .i64 2, .int .i64 39], [ints shT.d, pc shT.f, ints shT.s], .int .i64 23, []⟩
theorem kSafeT_ok : KnownOk Try.prog kSafeT := ⟨ev_run (orc := knownsA ksM) tabOk (knownsA_ok ksM_ok) mixed (n := 500) (lo := 3) (by kernel_rfl), by kernel_rfl, by kernel_rfl⟩
def kBeginsT : Known := ⟨31, [shV 0 1 2 shT, .int .i64 2, .int .i64 30], [ints shT.d, pc shT.f, ints shT.s], .tuple #[.slice (some ⟨3, 0, none⟩) 1 1, .int .i64 0], [.rw [.int .i64 0]]⟩
theorem kBeginsT_ok : KnownOk Try.prog kBeginsT := ⟨ev_run (orc := knownsA ksM) tabOk (knownsA_ok ksM_ok) mixed (n := 500) (lo := 3) (by kernel_rfl), by kernel_rfl, by kernel_rfl⟩
def kChkA : Known := ⟨47, [shV 0 1 2 shT, rtV 40 3, sl 3 3], [ints shT.d, pc shT.f, ints shT.s, ints [50, 0, 10]], .int .i64 0, []⟩
theorem kChkA_ok : KnownOk Try.prog kChkA := ⟨ev_run (orc := knownsA ksM) tabOk (knownsA_ok ksM_ok) mixed (n := 500) (lo := 4) (by kernel_rfl), by kernel_rfl, by kernel_rfl⟩
def kChkB : Known := ⟨47, [shV 0 1 2 shT, rtV 13 1, sl 3 3], [ints shT.d, pc shT.f, ints shT.s, ints [17, 0, 3]], .int .i64 14, []⟩
theorem kChkB_ok : KnownOk Try.prog kChkB := ⟨ev_run (orc := knownsA ksM) tabOk (knownsA_ok ksM_ok) mixed (n := 500) (lo := 4) (by kernel_rfl), by kernel_rfl, by kernel_rfl⟩
def kChkC : Known := ⟨49, [shV 0 1 2 shT, rtV 40 3, sl 3 3], [ints shT.d, pc shT.f, ints shT.s, ints [50, 0, 10]], .int .i64 0, []⟩
theorem kChkC_ok : KnownOk Try.prog kChkC := ⟨ev_run (orc := knownsA ksM) tabOk (knownsA_ok ksM_ok) mixed (n := 500) (lo := 4) (by kernel_rfl), by kernel_rfl, by kernel_rfl⟩
def kRnd : Known := ⟨37, [shV 0 1 2 shT, sl 3 3], [ints shT.d, pc shT.f, ints shT.s, ints [0, 1, 2]], .bool true, []⟩
theorem kRnd_ok : KnownOk Try.prog kRnd := ⟨ev_run (orc := knownsA ksM) tabOk (knownsA_ok ksM_ok) mixed (n := 500) (lo := 4) (by kernel_rfl), by kernel_rfl, by kernel_rfl⟩
def kPlanA : Known := ⟨17, [shV 0 1 2 shS, sl 3 4], [ints shS.d, pc shS.f, ints shS.s, ints [2, 0, 0, 1]], .tuple #[.int .i64 70, .int .i64 0], []⟩
theorem kPlanA_ok : KnownOk Try.prog kPlanA := ⟨ev_run (orc := knownsA ksM) tabOk (knownsA_ok ksM_ok) mixed (n := 500) (lo := 4) (by kernel_rfl), by kernel_rfl, by kernel_rfl⟩
def kPlanB : Known := ⟨17, [shV 0 1 2 shS, sl 3 2], [ints shS.d, pc shS.f, ints shS.s, ints [0, 1]], .tuple #[.int .i64 0, .int .i64 16], []⟩
theorem kPlanB_ok : KnownOk Try.prog kPlanB := ⟨ev_run (orc := knownsA ksM) tabOk (knownsA_ok ksM_ok) mixed (n := 500) (lo := 4) (by kernel_rfl), by kernel_rfl, by kernel_rfl⟩
def kRunA : Known := ⟨19, [shV 0 1 2 shS, sl 3 2], [ints shS.d, pc shS.f, ints shS.s, ints [0, 1]], .tuple #[.int .i64 40, .int .i64 0], []⟩
theorem kRunA_ok : KnownOk Try.prog kRunA := ⟨ev_run (orc := knownsA ksM) tabOk (knownsA_ok ksM_ok) mixed (n := 500) (lo := 4) (by kernel_rfl), by kernel_rfl, by kernel_rfl⟩
def kRunB : Known := ⟨20, [shV 0 1 2 shT, sl 3 4], [ints shT.d, pc shT.f, ints shT.s, ints [0, 1, 2, 0]], .tuple #[.int .i64 70, .int .i64 0], []⟩
theorem kRunB_ok : KnownOk Try.prog kRunB := ⟨ev_run (orc := knownsA ksM) tabOk (knownsA_ok ksM_ok) mixed (n := 500) (lo := 4) (by kernel_rfl), by kernel_rfl, by kernel_rfl⟩
def kRchS : Known := ⟨15, [shV 0 1 2 shS], [ints shS.d, pc shS.f, ints shS.s], .tuple #[.slice (some ⟨3, 0, none⟩) 3 3, .int .i64 0], [.rw [.int .i64 0, .int .i64 1, .int .i64 2]]⟩
theorem kRchS_ok : KnownOk Try.prog kRchS := ⟨ev_run (orc := knownsA ksM) tabOk (knownsA_ok ksM_ok) mixed (n := 500) (lo := 3) (by kernel_rfl), by kernel_rfl, by kernel_rfl⟩
end Go.Proofs.Ytomioaiojidnbaa
namespace Go.Proofs.Ytomioaiojidnbaa
open Go Go.AH
def ksW : List Known := [kLevelsT, kTopsT, kSafeT, kBeginsT, kChkA, kChkB, kChkC, kRnd, kPlanA, kPlanB, kRunA, kRunB, kRchS] ++ ksM
theorem ksW_ok : ∀ k ∈ ksW, KnownOk Try.prog k := fun k hk => (List.mem_append.1 hk).elim (fun hk => by simp only [List.mem_cons, List.not_mem_nil, or_false] at hk; rcases hk with rfl | rfl | rfl | rfl | rfl | rfl | rfl | rfl | rfl | rfl | rfl | rfl | rfl <;> first | exact kLevelsT_ok | exact kTopsT_ok | exact kSafeT_ok | exact kBeginsT_ok | exact kChkA_ok | exact kChkB_ok | exact kChkC_ok | exact kRnd_ok | exact kPlanA_ok | exact kPlanB_ok | exact kRunA_ok | exact kRunB_ok | exact kRchS_ok) (ksM_ok k)
def knW : Known := ⟨14, [], [], .bool true, []⟩
theorem knW_ok : KnownOk Try.prog knW := ⟨ev_run (orc := knownsA ksW) tabOk (knownsA_ok ksW_ok) mixed (n := 500) (lo := 0) (by kernel_rfl), by kernel_rfl, by kernel_rfl⟩
end Go.Proofs.Ytomioaiojidnbaa
namespace Go.Proofs.Ytomioaiojidnbaa
open Go Go.AH Go.AH.Dust
theorem works_ev {σ : Heap} (hni : σ.all (fun o => !isIter o) = true) : Ev Try.prog 14 [] σ (.bool true) σ := Ev.nil knW_ok.1 rfl rfl hni
end Go.Proofs.Ytomioaiojidnbaa
namespace Go.AH.Dust
open Go Go.AH
def cl (n : Nat) (r : Nat → Int) : List Value := ints ((List.range n).map r)
end Go.AH.Dust
namespace Go.Proofs.Ytomioaiojidnbaa
open Go Go.AH
attribute [local irreducible] WOps WCode WFree retQ thenQ blockQ scopeQ OpOk ACall RetRef roundA roundB
set_option maxRecDepth 100000
set_option maxHeartbeats 1000000
open Go.AH.Dust
end Go.Proofs.Ytomioaiojidnbaa
namespace Go.AH.Dust
open Go Go.AH
noncomputable def refW (S : Shp) (H : Nat) : Int := if winT S H < 0 then -1 else most S H (winT S H).toNat
def mx (S : Shp) (H : Nat) (L : List Int) : Nat → Int
  | 0 => -1
  | i + 1 => max (mx S H L i) (most S H (gi L i).toNat)
theorem reachL_at {S : Shp} (h0 : shopE S = 0) {i : Nat} (hi : i < (reachL S).length) : ∃ n : Nat, gi (reachL S) i = n ∧ n < S.d.length ∧ rB S n = true := by
  have h1 : gi (reachL S) i ∈ reachL S := mem_gi.2 ⟨i, hi, rfl⟩
  unfold reachL at h1 ⊢
  rw [if_pos h0] at h1 ⊢
  obtain ⟨n, h2, h3, h4⟩ := mem_rL.1 h1
  exact ⟨n, h3, h2, h4⟩
theorem reachL_mem {S : Shp} (h0 : shopE S = 0) {n : Nat} (hn : n < S.d.length) (hr : rB S n = true) : ∃ i, i < (reachL S).length ∧ gi (reachL S) i = n := by
  have : (n : Int) ∈ reachL S := by
    unfold reachL; rw [if_pos h0]; exact mem_rL.2 ⟨n, hn, rfl, hr⟩
  exact mem_gi.1 this
theorem gi_succ {a : Int} {l : List Int} {i : Nat} : gi (a :: l) (i + 1) = gi l i := by simp [gi]
theorem sumK_cons {S : Shp} {a : Int} {l : List Int} : ∀ k, sumK S (a :: l) (k + 1) = gi S.d a.toNat + sumK S l k
  | 0 => by simp [sumK, gi]
  | k + 1 => by
    have ih := sumK_cons (S := S) (a := a) (l := l) k
    rw [sumK, ih, gi_succ]
    simp only [sumK]; omega
theorem path_ok {S : Shp} (hS : S.ok) : ∀ (h : Nat) (w : Int), isW S w → 0 ≤ most S h w.toNat → okW S (pathL S h w) ∧ chain S (pathL S h w) ∧ sumK S (pathL S h w) (h + 1) = most S h w.toNat
  | 0, w, hw, _ => by
    refine ⟨fun i hi => ?_, fun i hi h0 => ?_, ?_⟩
    · have : i = 0 := by simp [pathL] at hi; omega
      subst this; exact hw
    · simp [pathL] at hi; omega
    · simp [sumK, pathL, gi, most]
  | h + 1, w, hw, hm => by
    obtain ⟨_, j, hj, ⟨c1, c2, c3⟩, hb⟩ := goN_is hm
    have hw2 := (hS.f j hj).2.1
    rw [← hb] at hw2 c2 c3
    obtain ⟨i1, i2, i3⟩ := path_ok hS h (goN S h w.toNat) hw2 c2
    have hw0 := hw.1
    have hhd := pathL_head S h (goN S h w.toNat)
    have hpair : (w, goN S h w.toNat) ∈ S.f := mem_gf.2 ⟨j, hj, Prod.ext (by rw [c1]; simp only; omega) hb.symm⟩
    simp only [pathL]
    generalize pathL S h (goN S h w.toNat) = p at *
    refine ⟨fun i hi => ?_, fun i hi h0 => ?_, ?_⟩
    · cases i with
      | zero => exact hw
      | succ i => rw [gi_succ]; exact i1 i (by simpa using hi)
    · cases i with
      | zero => omega
      | succ i =>
        rw [gi_succ]
        cases i with
        | zero => rw [hhd]; exact hpair
        | succ i =>
          rw [show i + 1 + 1 - 1 = i + 1 by omega, gi_succ]
          have := i2 (i + 1) (by simpa using hi) (by omega)
          rwa [show i + 1 - 1 = i by omega] at this
    · rw [sumK_cons, i3, c3]
theorem win_run {S : Shp} {h : Int} (hE : winE S h = 0) : runE S (winL S h) = 0 ∧ runV S (winL S h) = winV S h ∧ ((winL S h).length : Int) = h ∧ winV S h = refW S (h.toNat - 1) ∧ clockE S h = 0 := by
  have hc : clockE S h = 0 := by
    refine Classical.byContradiction fun hn => ?_
    unfold winE at hE; rw [if_pos hn] at hE; exact hn hE
  obtain ⟨h0, h1, h2⟩ := clockE_zero hc
  have hS := shopE_zero h0
  have hT : ¬ winT S (h.toNat - 1) < 0 := fun hn => by
    unfold winE at hE; rw [if_neg (fun x => x hc), if_pos hn] at hE; omega
  rcases winT_is S (h.toNat - 1) with ⟨t1, _⟩ | ⟨t, t1, t2, t3, t4, t5⟩
  · omega
  · have hl : winL S h = pathL S (h.toNat - 1) t := by unfold winL; rw [if_pos hE, t1]
    have hv : winV S h = most S (h.toNat - 1) t := by unfold winV; rw [if_pos hE, t1]; simp
    have hlen := pathL_len S (h.toNat - 1) t
    obtain ⟨p1, p2, p3⟩ := path_ok hS (h.toNat - 1) t ⟨by omega, by omega⟩ (by simpa using t4)
    have hg : gRun S (gi (pathL S (h.toNat - 1) t) 0) = true := by rw [pathL_head]; unfold gRun; simpa using t3
    have hE2 : rowE S (gRun S) (pathL S (h.toNat - 1) t) = 0 := by
      unfold rowE
      rw [if_neg (by omega), if_neg (fun hn => hn p1), if_pos ⟨hg, p2⟩]
    refine ⟨by unfold runE; rw [if_pos h0, hl]; exact hE2, ?_, by rw [hl, hlen]; omega, by rw [hv]; unfold refW; rw [if_neg hT, t1]; simp, hc⟩
    unfold runV rowV
    rw [if_pos h0, hl, if_pos hE2, hv, hlen, p3]; simp
end Go.AH.Dust
namespace Go.Proofs.Ytomioaiojidnbaa
open Go Go.AH
attribute [local irreducible] WOps WCode WFree retQ thenQ blockQ scopeQ OpOk ACall RetRef roundA roundB
set_option maxRecDepth 100000
set_option maxHeartbeats 1000000
open Go.AH.Dust
end Go.Proofs.Ytomioaiojidnbaa
namespace Go.AH.Dust
open Go Go.AH
theorem refW_neg {S : Shp} {H : Nat} : refW S H < 0 ↔ winT S H < 0 := by
  unfold refW
  rcases winT_is S H with ⟨t1, _⟩ | ⟨t, t1, t2, t3, t4, t5⟩
  · rw [if_pos (by omega)]; omega
  · rw [if_neg (by omega), t1, Int.toNat_natCast]; omega
theorem winE_eq {S : Shp} {h : Int} : winE S h = if clockE S h ≠ 0 then clockE S h else if refW S (h.toNat - 1) < 0 then 5 else 0 := by
  unfold winE
  by_cases hc : clockE S h ≠ 0
  · rw [if_pos hc, if_pos hc]
  · rw [if_neg hc, if_neg hc]
    by_cases hw : winT S (h.toNat - 1) < 0
    · rw [if_pos hw, if_pos (refW_neg.2 hw)]
    · rw [if_neg hw, if_neg (fun x => hw (refW_neg.1 x))]
end Go.AH.Dust
namespace Go.Proofs.Ytomioaiojidnbaa
open Go Go.AH
attribute [local irreducible] WOps WCode WFree retQ thenQ blockQ scopeQ OpOk ACall RetRef roundA roundB
set_option maxRecDepth 100000
set_option maxHeartbeats 1000000
open Go.AH.Dust
end Go.Proofs.Ytomioaiojidnbaa
namespace Go.AH.Dust
open Go Go.AH
def overB (S : Shp) (H : Nat) (lim : Int) (w : Int) : Bool := decide (0 ≤ most S H w.toNat) && decide (most S H w.toNat > lim)
noncomputable def begK (S : Shp) (H : Nat) (lim : Int) (k : Nat) : List Int := (rL S (min k S.d.length)).filter (overB S H lim)
noncomputable def begL (S : Shp) (h lim : Int) : List Int := if clockE S h = 0 then (reachL S).filter (overB S (h.toNat - 1) lim) else []
theorem begK_step {S : Shp} {H : Nat} {lim : Int} {k : Nat} : begK S H lim (k + 1) = if k < S.d.length ∧ rB S k = true ∧ 0 ≤ rowM S H k ∧ rowM S H k > lim then begK S H lim k ++ [(k : Int)] else begK S H lim k := by
  unfold begK
  by_cases hk : k < S.d.length
  · rw [show min (k + 1) S.d.length = k + 1 by omega, show min k S.d.length = k by omega]
    have hr : rowM S H k = most S H k := by unfold rowM; rw [if_pos hk]
    rw [hr]
    simp only [rL]
    by_cases hb : rB S k = true
    · rw [if_pos hb, List.filter_append]
      by_cases ho : 0 ≤ most S H k ∧ most S H k > lim
      · rw [if_pos ⟨hk, hb, ho.1, ho.2⟩]
        have : overB S H lim (k : Int) = true := by simp [overB, ho.1, ho.2]
        rw [List.filter_cons_of_pos this, List.filter_nil]
      · rw [if_neg (fun h => ho ⟨h.2.2.1, h.2.2.2⟩)]
        have : ¬ overB S H lim (k : Int) = true := by
          simp only [overB, Int.toNat_natCast, Bool.and_eq_true, decide_eq_true_eq]; exact ho
        rw [List.filter_cons_of_neg this, List.filter_nil, List.append_nil]
    · rw [if_neg hb, if_neg (fun h => hb h.2.1)]
  · rw [show min (k + 1) S.d.length = S.d.length by omega, show min k S.d.length = S.d.length by omega, if_neg (fun h => hk h.1)]
theorem begK_all {S : Shp} {h lim : Int} (hc : clockE S h = 0) (h10 : S.d.length ≤ 10) : begK S (h.toNat - 1) lim 10 = begL S h lim := by
  unfold begK begL reachL
  rw [if_pos hc, if_pos (clockE_zero hc).1, show min 10 S.d.length = S.d.length by omega]
theorem begK_len {S : Shp} {H : Nat} {lim : Int} {k : Nat} : (begK S H lim k).length ≤ k := by
  unfold begK
  refine Nat.le_trans (List.length_filter_le _ _) (Nat.le_trans (rL_len S _) ?_)
  omega
theorem begL_le {S : Shp} {h lim : Int} : (begL S h lim).length ≤ 200000 := by
  unfold begL
  split
  · refine Nat.le_trans (List.length_filter_le _ _) ?_
    unfold reachL
    split
    · rename_i h0
      have := rL_len S S.d.length
      have := (shopE_zero h0).n10
      omega
    · simp
  · simp
theorem fl012_closed {n : Nat} {S : Shp} {g : Nat → Int} (hn : 3 ≤ n) : oclosed n (.rw (flL 0 1 2 S g)) := by
  obtain ⟨a, b⟩ := shL_closed (n := n) (x := 0) (y := 1) (z := 2) (S := S) (by omega) (by omega) (by omega)
  simp only [closedL, okL, Bool.and_eq_true] at a b
  exact ⟨by simp only [closedL, a, Bool.true_and]; exact (plainL_closed (rx_plain g)).1, by simp only [okL, b, Bool.true_and]; exact (plainL_closed (n := 0) (rx_plain g)).2⟩
theorem hc_b6 (S : Shp) (H : Nat) {n : Nat} (hn : 3 ≤ n) : HClosed n [.ro (ints S.d), .ro (pc S.f), .ro (ints S.s), .rw (shL 0 1 2 S), .rw (flL 0 1 2 S (fun i => bI (rB S i))), .rw (rowsC S (H + 1))] :=
  ⟨plainL_closed (ints_plain _), plainL_closed (pc_plain _), plainL_closed (ints_plain _), shL_closed (by omega) (by omega) (by omega), fl012_closed hn, plainL_closed (rowsC_plain S _), trivial⟩
end Go.AH.Dust
namespace Go.Proofs.Ytomioaiojidnbaa
open Go Go.AH
attribute [local irreducible] WOps WCode WFree retQ thenQ blockQ scopeQ OpOk ACall RetRef roundA roundB
set_option maxRecDepth 100000
set_option maxHeartbeats 1000000
open Go.AH.Dust
theorem begins31_ok (S : Shp) (hS : S.fit) (h lim : Int) :
    Ev Try.prog 31 [shV 0 1 2 S, .int .i64 h, .int .i64 lim] S.hp (.tuple #[sl 3 (begL S h lim).length, .int .i64 (clockE S h)]) (S.hp ++ [.rw (ints (begL S h lim))]) := by
  by_cases hc : clockE S h = 0
  · obtain ⟨h0, h1, h24⟩ := clockE_zero hc
    have hok := shopE_zero h0
    have n10 := hok.n10
    obtain ⟨H, rfl⟩ : ∃ H : Nat, h = ((H + 1 : Nat) : Int) := ⟨(h - 1).toNat, by omega⟩
    have hck := clock_evOk (σ := [.ro (ints S.d), .ro (pc S.f), .ro (ints S.s), .rw (shL 0 1 2 S)]) (S := S) (h := ((H + 1 : Nat) : Int)) (x := 0) (y := 1) (z := 2) ⟨.inl rfl, .inl rfl, .inl rfl⟩ shS_self hS hc rfl
    have hrows := rows_ev (σ := [.ro (ints S.d), .ro (pc S.f), .ro (ints S.s), .rw (shL 0 1 2 S), .rw (flL 0 1 2 S (fun i => bI (rB S i)))]) (S := S) (g := fun i => bI (rB S i)) (H := H + 1) (p := 4) (x := 0) (y := 1) (z := 2) ⟨.inr (.inl rfl), .inl rfl, .inl rfl, .inl rfl⟩ hok (by omega) rfl
    have eH1 : (((H + 1 : Nat) : Int) - 1).toNat = H := by omega
    have hd5 : cellsAt [.ro (ints S.d), .ro (pc S.f), .ro (ints S.s), .rw (shL 0 1 2 S), .rw (flL 0 1 2 S (fun i => bI (rB S i))), .rw (rowsC S (H + 1))] 5 (0 + (((H + 1 : Nat) : Int) - 1).toNat * 10) 10 = some (rx (rowM S H)) := by rw [eH1]; exact rowsC_cells (.inr (.inl rfl)) (by omega)
    have hbl := begK_all (S := S) (h := ((H + 1 : Nat) : Int)) (lim := lim) hc n10
    rw [show (((H + 1 : Nat) : Int)).toNat - 1 = H by omega] at hbl
    rw [← hbl, hc]
    refine acall_intro 3 63 Try.func31 rfl rfl rfl rfl rfl ?_
    repeat' (first | (refine gU ?_; first | (refine gMove ?_; refine st (ok_move rfl) rfl rfl ?_) | (refine gAssign ?_; refine st (ok_assign rfl) rfl rfl ?_) | (refine gLoad ?_; refine st (ok_loadA rfl (by first | rfl | assumption)) rfl rfl ?_) | (refine gSub ?_; refine st (ok_sub rfl rfl (by omega) (by omega)) rfl rfl ?_) | (refine gBin ?_; refine st (ok_bin rfl rfl rfl) rfl rfl ?_) | (refine gExtract ?_; refine st (ok_extract rfl rfl) rfl rfl ?_) | (refine gIA ?_; refine st (ok_idx rfl rfl (by omega) (by omega)) rfl rfl ?_) | (refine gCall ?_; refine st (ok_call rfl rfl rfl (by first | exact hck | exact hrows)) rfl rfl ?_) | (refine gBox ?_; refine st (ok_box rfl) rfl rfl ?_)) | refine W_seq ?_ | refine W_region ?_ | refine st_nil ?_ | refine tq_n ?_ | refine W_skip ?_ | refine W_block ?_ | refine W_condFA rfl ?_)
    refine W_loopS (ι := Nat) (fun k => [(2, .int .i64 lim), (3, .pointer (some ⟨3, 0, none⟩)), (8, .pointer (some ⟨4, 0, none⟩)), (10, slvV 6 1 (begK S H lim k).length), (28, .agg (rx (rowM S H)).toArray), (29, .int .i64 (k : Int))])
      (fun k => [.ro (ints S.d), .ro (pc S.f), .ro (ints S.s), .rw (shL 0 1 2 S), .rw (flL 0 1 2 S (fun i => bI (rB S i))), .rw (rowsC S (H + 1)), .gr (ints (begK S H lim k)) 3]) (fun k => 10 - k) (fun k => k ≤ 10) 0 (by simp) (StRef.src [.ro (ints S.d), .ro (pc S.f), .ro (ints S.s), .rw (shL 0 1 2 S), .rw (flL 0 1 2 S (fun i => bI (rB S i))), .rw (rowsC S (H + 1))] [.gr [] 3] [6] (by simp) rfl (hc_b6 S H (by simp)) rfl rfl ⟨osub_gr0, trivial⟩ (by (repeat' (first | exact trivial | refine ⟨er_plain rfl rfl, ?_⟩ | refine ⟨er_closed (m := 6) rfl (fun i hi => srcR_lt hi) (by simp) (by rfl) rfl, ?_⟩)))) (by omega) ?_
    intro k hk
    by_cases hk10 : k < 10
    · have hs := begK_step (S := S) (H := H) (lim := lim) (k := k)
      have hkl := begK_len (S := S) (H := H) (lim := lim) (k := k)
      have hil2 : (ints (begK S H lim k)).length = (begK S H lim k).length * 1 := by simp [ints]
      have hcx : (rx (rowM S H)).toArray.toList[((k : Nat) : Int).toNat * 1]? = some (.int .i64 (rowM S H k)) := by
        simpa using rx_get (f := rowM S H) hk10
      have hisr := isReached_ev (σ := [.ro (ints S.d), .ro (pc S.f), .ro (ints S.s), .rw (shL 0 1 2 S), .rw (flL 0 1 2 S (fun i => bI (rB S i))), .rw (rowsC S (H + 1)), .gr (ints (begK S H lim k)) 3]) (S := S) (q := rB S) (r := fun i => bI (rB S i)) (n := k) (p := 4) (x := 0) (y := 1) (z := 2) ⟨.inr (.inl rfl), .inl rfl, .inl rfl, .inl rfl⟩ rfl hk10 rfl
      generalize hKL : begK S H lim k = KL at *
      generalize rowM S H k = rk at *
      generalize rB S k = rb at *
      by_cases hkd : k < S.d.length
      · cases rb with
        | false =>
          rw [if_neg (fun h => by cases h.2.1)] at hs
          repeat' (first | (refine gU ?_; first | refine st (ok_index1 rfl rfl (by omega) (by omega) hcx) rfl rfl ?_ | (refine gMove ?_; refine st (ok_move rfl) rfl rfl ?_) | (refine gAssign ?_; refine st (ok_assign rfl) rfl rfl ?_) | (refine gFA ?_; refine st (ok_fieldAddr rfl) rfl rfl ?_) | (refine gLoad ?_; refine st (ok_load rfl (by rfl)) rfl rfl ?_) | (refine gAdd ?_; refine st (ok_inc rfl rfl (by omega)) rfl rfl ?_) | (refine gBin ?_; refine st (ok_bin rfl rfl rfl) rfl rfl ?_) | (refine gLen ?_; refine st (ok_len rfl) rfl rfl ?_) | (refine gPick ?_; first | refine st (ok_pickTA rfl rfl) rfl rfl ?_ | refine st (ok_pickFA rfl rfl) rfl rfl ?_)) | (refine gG ?_; first | (refine gMove ?_; refine stGA rfl (ok_move rfl) rfl rfl ?_) | (refine gCall ?_; refine stGA rfl (ok_call rfl rfl rfl (by exact hisr)) rfl rfl ?_) | refine stSA rfl rfl ?_) | refine W_seq ?_ | refine W_region ?_ | refine st_nil ?_ | refine tq_n ?_ | refine bq_n ?_ | refine W_skip ?_ | refine W_block ?_ | refine W_condTA rfl ?_ | refine W_condFA rfl ?_)
          refine ⟨rfl, k + 1, by omega, by omega, ?_⟩
          rw [hs]
          exact .same ⟨rfl, rfl, rfl, rfl, rfl, rfl, trivial⟩
        | true =>
          by_cases hr0 : rk ≥ 0
          · by_cases hrl : rk > lim
            · rw [if_pos ⟨hkd, rfl, hr0, hrl⟩] at hs
              have hlen : (begK S H lim (k + 1)).length = KL.length + 1 := by rw [hs]; simp
              have hcs : ints (begK S H lim (k + 1)) = ints KL ++ [.int .i64 (k : Int)] := by rw [hs, ints_app]
              repeat' (first | (refine gU ?_; first | refine st (ok_index1 rfl rfl (by omega) (by omega) hcx) rfl rfl ?_ | (refine gMove ?_; refine st (ok_move rfl) rfl rfl ?_) | (refine gAssign ?_; refine st (ok_assign rfl) rfl rfl ?_) | (refine gFA ?_; refine st (ok_fieldAddr rfl) rfl rfl ?_) | (refine gLoad ?_; refine st (ok_load rfl (by rfl)) rfl rfl ?_) | (refine gAdd ?_; refine st (ok_inc rfl rfl (by omega)) rfl rfl ?_) | (refine gBin ?_; refine st (ok_bin rfl rfl rfl) rfl rfl ?_) | (refine gLen ?_; first | refine st (ok_len rfl) rfl rfl ?_ | refine st (ok_lenV rfl) rfl rfl ?_) | (refine gPick ?_; refine st (ok_pickTA rfl rfl) rfl rfl ?_) | (refine gSlice ?_; refine st (ok_slice3V rfl rfl rfl) rfl rfl ?_) | (refine gBuildS ?_; refine st (ok_buildS (by rfl) (by rfl) (by rfl) (by rfl) rfl (by rfl)) rfl rfl ?_) | (refine gApp ?_; refine st (ok_appendV (by rfl) (by rfl) rfl (by rfl) (by exact hil2) rfl (by rfl) (by omega) (by rfl) (by omega) (by omega)) rfl rfl ?_)) | (refine gG ?_; first | (refine gMove ?_; refine stGA rfl (ok_move rfl) rfl rfl ?_) | (refine gBin ?_; refine stGA rfl (ok_bin rfl rfl rfl) rfl rfl ?_) | (refine gCall ?_; refine stGA rfl (ok_call rfl rfl rfl (by exact hisr)) rfl rfl ?_)) | refine W_seq ?_ | refine W_region ?_ | refine st_nil ?_ | refine tq_n ?_ | refine bq_n ?_ | refine W_skip ?_ | refine W_block ?_ | refine W_condTA rfl ?_)
              exact ⟨rfl, k + 1, by omega, by omega, StRef.src [.ro (ints S.d), .ro (pc S.f), .ro (ints S.s), .rw (shL 0 1 2 S), .rw (flL 0 1 2 S (fun i => bI (rB S i))), .rw (rowsC S (H + 1))] [.gr (ints (begK S H lim (k + 1))) 3] [8] (by simp) rfl (hc_b6 S H (by simp)) rfl rfl ⟨osub_gr rfl (by rw [hcs]; rfl) (ints_plain _), trivial⟩ (by (repeat' (first | exact trivial | refine ⟨er_plain rfl rfl, ?_⟩ | refine ⟨er_closed (m := 6) rfl (fun i hi => srcR_lt hi) (by simp) (by rfl) rfl, ?_⟩ | refine ⟨er_slvV (by rw [hlen]; rfl) (by simp) rfl, ?_⟩)))⟩
            · rw [if_neg (fun h => hrl h.2.2.2)] at hs
              repeat' (first | (refine gU ?_; first | refine st (ok_index1 rfl rfl (by omega) (by omega) hcx) rfl rfl ?_ | (refine gMove ?_; refine st (ok_move rfl) rfl rfl ?_) | (refine gAssign ?_; refine st (ok_assign rfl) rfl rfl ?_) | (refine gFA ?_; refine st (ok_fieldAddr rfl) rfl rfl ?_) | (refine gLoad ?_; refine st (ok_load rfl (by rfl)) rfl rfl ?_) | (refine gAdd ?_; refine st (ok_inc rfl rfl (by omega)) rfl rfl ?_) | (refine gBin ?_; refine st (ok_bin rfl rfl rfl) rfl rfl ?_) | (refine gLen ?_; refine st (ok_len rfl) rfl rfl ?_) | (refine gPick ?_; refine st (ok_pickTA rfl rfl) rfl rfl ?_)) | (refine gG ?_; first | (refine gMove ?_; refine stGA rfl (ok_move rfl) rfl rfl ?_) | (refine gBin ?_; refine stGA rfl (ok_bin rfl rfl rfl) rfl rfl ?_) | (refine gCall ?_; refine stGA rfl (ok_call rfl rfl rfl (by exact hisr)) rfl rfl ?_)) | refine W_seq ?_ | refine W_region ?_ | refine st_nil ?_ | refine tq_n ?_ | refine bq_n ?_ | refine W_skip ?_ | refine W_block ?_ | refine W_condTA rfl ?_ | refine W_condFA rfl ?_)
              refine ⟨rfl, k + 1, by omega, by omega, ?_⟩
              rw [hs]
              exact .same ⟨rfl, rfl, rfl, rfl, rfl, rfl, trivial⟩
          · rw [if_neg (fun h => hr0 h.2.2.1)] at hs
            repeat' (first | (refine gU ?_; first | refine st (ok_index1 rfl rfl (by omega) (by omega) hcx) rfl rfl ?_ | (refine gMove ?_; refine st (ok_move rfl) rfl rfl ?_) | (refine gAssign ?_; refine st (ok_assign rfl) rfl rfl ?_) | (refine gFA ?_; refine st (ok_fieldAddr rfl) rfl rfl ?_) | (refine gLoad ?_; refine st (ok_load rfl (by rfl)) rfl rfl ?_) | (refine gAdd ?_; refine st (ok_inc rfl rfl (by omega)) rfl rfl ?_) | (refine gBin ?_; refine st (ok_bin rfl rfl rfl) rfl rfl ?_) | (refine gLen ?_; refine st (ok_len rfl) rfl rfl ?_) | (refine gPick ?_; first | refine st (ok_pickTA rfl rfl) rfl rfl ?_ | refine st (ok_pickFA rfl rfl) rfl rfl ?_)) | (refine gG ?_; first | (refine gMove ?_; refine stGA rfl (ok_move rfl) rfl rfl ?_) | (refine gBin ?_; refine stGA rfl (ok_bin rfl rfl rfl) rfl rfl ?_) | (refine gCall ?_; refine stGA rfl (ok_call rfl rfl rfl (by exact hisr)) rfl rfl ?_) | refine stSA rfl rfl ?_) | refine W_seq ?_ | refine W_region ?_ | refine st_nil ?_ | refine tq_n ?_ | refine bq_n ?_ | refine W_skip ?_ | refine W_block ?_ | refine W_condTA rfl ?_ | refine W_condFA rfl ?_)
            refine ⟨rfl, k + 1, by omega, by omega, ?_⟩
            rw [hs]
            exact .same ⟨rfl, rfl, rfl, rfl, rfl, rfl, trivial⟩
      · rw [if_neg (fun h => hkd h.1)] at hs
        repeat' (first | (refine gU ?_; first | refine st (ok_index1 rfl rfl (by omega) (by omega) hcx) rfl rfl ?_ | (refine gMove ?_; refine st (ok_move rfl) rfl rfl ?_) | (refine gAssign ?_; refine st (ok_assign rfl) rfl rfl ?_) | (refine gFA ?_; refine st (ok_fieldAddr rfl) rfl rfl ?_) | (refine gLoad ?_; refine st (ok_load rfl (by rfl)) rfl rfl ?_) | (refine gAdd ?_; refine st (ok_inc rfl rfl (by omega)) rfl rfl ?_) | (refine gBin ?_; refine st (ok_bin rfl rfl rfl) rfl rfl ?_) | (refine gLen ?_; refine st (ok_len rfl) rfl rfl ?_) | (refine gPick ?_; refine st (ok_pickFA rfl rfl) rfl rfl ?_)) | (refine gG ?_; refine stSA rfl rfl ?_) | refine W_seq ?_ | refine W_region ?_ | refine st_nil ?_ | refine tq_n ?_ | refine bq_n ?_ | refine W_skip ?_ | refine W_block ?_ | refine W_condTA rfl ?_ | refine W_condFA rfl ?_)
        refine ⟨rfl, k + 1, by omega, by omega, ?_⟩
        rw [hs]
        exact .same ⟨rfl, rfl, rfl, rfl, rfl, rfl, trivial⟩
    · obtain rfl : k = 10 := by omega
      repeat' (first | (refine gU ?_; first | (refine gMove ?_; refine st (ok_move rfl) rfl rfl ?_) | (refine gAssign ?_; refine st (ok_assign rfl) rfl rfl ?_) | (refine gBin ?_; refine st (ok_bin rfl rfl rfl) rfl rfl ?_)) | refine W_seq ?_ | refine W_region ?_ | refine st_nil ?_ | refine tq_n ?_ | refine tq_e ?_ | refine bq_hit rfl ?_ | refine W_exit ?_ | refine W_ret ?_ | refine W_condFA rfl ?_)
      exact ret0 (.tmp rfl (.tmp rfl .nil)) (retSl (j := 6) rfl (ints_plain _) (.inr ⟨3, rfl⟩) rfl rfl) ⟨rfl, rfl⟩
  · have e : begL S h lim = [] := by unfold begL; rw [if_neg hc]
    rw [e]
    have hck := clock_evBad (σ := [.ro (ints S.d), .ro (pc S.f), .ro (ints S.s), .rw (shL 0 1 2 S)]) (S := S) (h := h) (x := 0) (y := 1) (z := 2) ⟨.inl rfl, .inl rfl, .inl rfl⟩ shS_self hS hc rfl
    refine acall_intro 3 63 Try.func31 rfl rfl rfl rfl rfl ?_
    repeat' (first | (refine gU ?_; first | (refine gMove ?_; refine st (ok_move rfl) rfl rfl ?_) | (refine gAssign ?_; refine st (ok_assign rfl) rfl rfl ?_) | (refine gLoad ?_; refine st (ok_loadA rfl (by rfl)) rfl rfl ?_) | (refine gBin ?_; refine st (ok_bin rfl rfl rfl) rfl rfl ?_) | (refine gExtract ?_; refine st (ok_extract rfl rfl) rfl rfl ?_) | (refine gCall ?_; refine st (ok_call rfl rfl rfl (by exact hck)) rfl rfl ?_) | (refine gBox ?_; refine st (ok_box rfl) rfl rfl ?_)) | refine W_seq ?_ | refine W_region ?_ | refine st_nil ?_ | refine tq_n ?_ | refine tq_r ?_ | refine W_ret ?_ | refine W_condTA rfl ?_)
    exact ret0 (.tmp rfl (.tmp rfl .nil)) (retNil rfl rfl) ⟨rfl, rfl⟩
end Go.Proofs.Ytomioaiojidnbaa
namespace Go.AH.Dust
open Go Go.AH
noncomputable def begF (S : Shp) (H : Nat) (lim : Int) (i : Nat) : List Int := ((reachL S).take i).filter (overB S H lim)
noncomputable def safeE (S : Shp) (h lim : Int) : Int := if clockE S h ≠ 0 then clockE S h else if (begL S h lim).length > 0 then 23 else 0
end Go.AH.Dust
namespace Go.Proofs.Ytomioaiojidnbaa
open Go Go.AH
attribute [local irreducible] WOps WCode WFree retQ thenQ blockQ scopeQ OpOk ACall RetRef roundA roundB
set_option maxRecDepth 100000
set_option maxHeartbeats 1000000
open Go.AH.Dust
theorem begins31_ev {σ : Heap} {S : Shp} {h lim : Int} {x y z : Nat} {v : Value} (hs : SAt σ x y z S) (hv : ShS x y z S v) (hS : S.fit) (hni : σ.all (fun o => !isIter o) = true) :
    Ev Try.prog 31 [v, .int .i64 h, .int .i64 lim] σ (.tuple #[sl σ.length (begL S h lim).length, .int .i64 (clockE S h)]) (σ ++ [.rw (ints (begL S h lim))]) := by
  refine Ev.arrsN S.css [x, y, z] (begins31_ok S hS h lim) hs.arrs ⟨hv, .int _ _, .int _ _, trivial⟩ S.css_plain rfl ?_ ?_ hni
  · simp [ren, renA, renL, shf]
  · simp only [List.map_cons, List.map_nil, renO, renL_plain _ (ints_plain _)]
theorem safe33_ok (S : Shp) (hS : S.fit) (h lim : Int) : Ev Try.prog 33 [shV 0 1 2 S, .int .i64 h, .int .i64 lim] S.hp (.int .i64 (safeE S h lim)) S.hp := by
  have hbe := begins31_ev (σ := [.ro (ints S.d), .ro (pc S.f), .ro (ints S.s), .rw (shL 0 1 2 S)]) (S := S) (h := h) (lim := lim) (x := 0) (y := 1) (z := 2) ⟨.inl rfl, .inl rfl, .inl rfl⟩ shS_self hS rfl
  unfold safeE
  generalize begL S h lim = L at *
  generalize clockE S h = E at *
  by_cases hE : E ≠ 0
  · rw [if_pos hE]
    refine acall_intro 3 24 Try.func33 rfl rfl rfl rfl rfl ?_
    repeat' (first | (refine gU ?_; first | (refine gMove ?_; refine st (ok_move rfl) rfl rfl ?_) | (refine gAssign ?_; refine st (ok_assign rfl) rfl rfl ?_) | (refine gLoad ?_; refine st (ok_loadA rfl (by rfl)) rfl rfl ?_) | (refine gBin ?_; refine st (ok_bin rfl rfl rfl) rfl rfl ?_) | (refine gExtract ?_; refine st (ok_extract rfl rfl) rfl rfl ?_) | (refine gCall ?_; refine st (ok_call rfl rfl rfl (by exact hbe)) rfl rfl ?_) | (refine gBox ?_; refine st (ok_box rfl) rfl rfl ?_)) | refine W_seq ?_ | refine W_region ?_ | refine st_nil ?_ | refine tq_n ?_ | refine tq_r ?_ | refine bq_r ?_ | refine W_ret ?_ | refine W_block ?_ | refine W_condTA rfl ?_)
    all_goals exact ret0 (.tmp rfl .nil) (.plain rfl rfl) ⟨rfl, rfl⟩
  · rw [if_neg hE]
    by_cases hL : (L.length : Int) > 0
    · rw [if_pos (by omega)]
      refine acall_intro 3 24 Try.func33 rfl rfl rfl rfl rfl ?_
      repeat' (first | (refine gU ?_; first | (refine gMove ?_; refine st (ok_move rfl) rfl rfl ?_) | (refine gAssign ?_; refine st (ok_assign rfl) rfl rfl ?_) | (refine gLoad ?_; refine st (ok_loadA rfl (by rfl)) rfl rfl ?_) | (refine gBin ?_; refine st (ok_bin rfl rfl rfl) rfl rfl ?_) | (refine gLen ?_; refine st (ok_len rfl) rfl rfl ?_) | (refine gExtract ?_; refine st (ok_extract rfl rfl) rfl rfl ?_) | (refine gCall ?_; refine st (ok_call rfl rfl rfl (by exact hbe)) rfl rfl ?_) | (refine gBox ?_; refine st (ok_box rfl) rfl rfl ?_)) | refine W_seq ?_ | refine W_region ?_ | refine st_nil ?_ | refine tq_n ?_ | refine tq_r ?_ | refine bq_r ?_ | refine W_ret ?_ | refine W_block ?_ | refine W_condTA rfl ?_ | refine W_condFA rfl ?_)
      all_goals exact ret0 (.tmp rfl .nil) (.plain rfl rfl) ⟨rfl, rfl⟩
    · rw [if_neg (by omega)]
      refine acall_intro 3 24 Try.func33 rfl rfl rfl rfl rfl ?_
      repeat' (first | (refine gU ?_; first | (refine gMove ?_; refine st (ok_move rfl) rfl rfl ?_) | (refine gAssign ?_; refine st (ok_assign rfl) rfl rfl ?_) | (refine gLoad ?_; refine st (ok_loadA rfl (by rfl)) rfl rfl ?_) | (refine gBin ?_; refine st (ok_bin rfl rfl rfl) rfl rfl ?_) | (refine gLen ?_; refine st (ok_len rfl) rfl rfl ?_) | (refine gExtract ?_; refine st (ok_extract rfl rfl) rfl rfl ?_) | (refine gCall ?_; refine st (ok_call rfl rfl rfl (by exact hbe)) rfl rfl ?_) | (refine gBox ?_; refine st (ok_box rfl) rfl rfl ?_)) | refine W_seq ?_ | refine W_region ?_ | refine st_nil ?_ | refine tq_n ?_ | refine bq_n ?_ | refine W_skip ?_ | refine W_ret ?_ | refine W_block ?_ | refine W_condFA rfl ?_)
      all_goals exact ret0 (.tmp rfl .nil) (.plain rfl rfl) ⟨rfl, rfl⟩
theorem safe33_ev {σ : Heap} {S : Shp} {h lim : Int} {x y z : Nat} {v : Value} (hs : SAt σ x y z S) (hv : ShS x y z S v) (hS : S.fit) (hni : σ.all (fun o => !isIter o) = true) :
    Ev Try.prog 33 [v, .int .i64 h, .int .i64 lim] σ (.int .i64 (safeE S h lim)) σ := Ev.arrs S.css [x, y, z] (safe33_ok S hS h lim) hs.arrs ⟨hv, .int _ _, .int _ _, trivial⟩ S.css_plain rfl hni
end Go.Proofs.Ytomioaiojidnbaa
namespace Go.Proofs.Ytomioaiojidnbaa
open Go Go.AH
attribute [local irreducible] WOps WCode WFree retQ thenQ blockQ scopeQ OpOk ACall RetRef roundA roundB
set_option maxRecDepth 100000
set_option maxHeartbeats 1000000
open Go.AH.Dust
end Go.Proofs.Ytomioaiojidnbaa
namespace Go.AH.Dust
open Go Go.AH
theorem mostF_ge {S : Shp} {m : Nat → Int} {i : Nat} : ∀ {k j : Nat}, j < k → (gf S.f j).1 = i → 0 ≤ m (gf S.f j).2.toNat → gi S.d i + m (gf S.f j).2.toNat ≤ mostF S m i k
  | k + 1, j, hj, h1, h2 => by
    simp only [mostF]
    by_cases hjk : j = k
    · subst hjk
      rw [if_pos ⟨h1, h2⟩]; omega
    · have ih := mostF_ge (S := S) (m := m) (i := i) (k := k) (j := j) (by omega) h1 h2
      split <;> omega
theorem refW_ge {S : Shp} {H i : Nat} (hi : i < S.d.length) (hr : rB S i = true) : most S H i ≤ refW S H ∨ most S H i < 0 := by
  unfold refW
  rcases winT_is S H with ⟨t1, t2⟩ | ⟨t, t1, t2, t3, t4, t5⟩
  · exact .inr (t2 i hi hr)
  · rw [if_neg (by omega), t1, Int.toNat_natCast]; exact .inl (t5 i hi hr)
theorem refW_at {S : Shp} {H : Nat} (h : 0 ≤ refW S H) : ∃ i, i < S.d.length ∧ rB S i = true ∧ most S H i = refW S H := by
  unfold refW at h ⊢
  rcases winT_is S H with ⟨t1, t2⟩ | ⟨t, t1, t2, t3, t4, t5⟩
  · rw [if_pos (by omega)] at h; omega
  · rw [if_neg (by omega), t1, Int.toNat_natCast]; exact ⟨t, t2, t3, rfl⟩
def endB (S : Shp) : Prop := ∀ i, i < S.d.length → rB S i = true → ∃ j, j < S.f.length ∧ (gf S.f j).1 = i
end Go.AH.Dust
